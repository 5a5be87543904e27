/-
 Texts of a proof, one behind the other (part 15).
-/
import Derived.Test.YtoahnbmedcjpeaaGreatDoorMn3
import Derived.Test.YtoahnbmedcjpeaaGreatDoorMn12
set_option linter.unusedSimpArgs false
set_option linter.unusedVariables false
namespace Go.Proofs.YtoahnbmedcjpeaaGreatDoor.Ab.SFil
set_option maxRecDepth 100000
open Go.RowKit Go.Lib Go.Proofs.YtoahnbmedcjpeaaGreatDoor.St
attribute [local irreducible] AWp AOps AQ AYield AEff ACall AWk AAny AAt AThen AIn APost NoPanic
abbrev cE : Nat := 82
abbrev cK : Nat := 2
set_option maxHeartbeats 8000000 in
theorem swr : SwrSt 82 2 297 := by
 have d_swr := Tryz.func297
 have n_swr := Tryz.ntmps297
 have r_swr := Tryz.results297
 exact zcL
set_option maxHeartbeats 8000000 in
theorem rot : RotSt 82 2 286 := by
 have d_rot := Tryz.func286
 have n_rot := Tryz.ntmps286
 have r_rot := Tryz.results286
 exact zcO
set_option maxHeartbeats 8000000 in
theorem ins : InsSt 82 2 266 := by
 have d_ins := Tryz.func266
 have n_ins := Tryz.ntmps266
 have r_ins := Tryz.results266
 exact zcP
set_option maxHeartbeats 16000000 in
theorem sym : SymSt 82 2 267 := by
 have d_sym := Tryz.func267
 have n_sym := Tryz.ntmps267
 have r_sym := Tryz.results267
 exact zcK
set_option maxHeartbeats 16000000 in
theorem stb : StbSt 82 2 231 := by
 have d_stb := Tryz.func231
 have n_stb := Tryz.ntmps231
 have r_stb := Tryz.results231
 exact zcM
set_option maxHeartbeats 8000000 in
theorem sst : SstSt 82 2 166 := by
 have d_sst := Tryz.func166
 have n_sst := Tryz.ntmps166
 have r_sst := Tryz.results166
 exact zcN
end Go.Proofs.YtoahnbmedcjpeaaGreatDoor.Ab.SFil

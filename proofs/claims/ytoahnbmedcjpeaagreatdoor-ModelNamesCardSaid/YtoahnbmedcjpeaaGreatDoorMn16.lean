/-
 Texts of a proof, one behind the other (part 17).
-/
import Derived.Test.YtoahnbmedcjpeaaGreatDoorMn3
import Derived.Test.YtoahnbmedcjpeaaGreatDoorMn12
set_option linter.unusedSimpArgs false
set_option linter.unusedVariables false
namespace Go.Proofs.YtoahnbmedcjpeaaGreatDoor.Ab.SCLst
set_option maxRecDepth 100000
open Go.RowKit Go.Lib Go.Proofs.YtoahnbmedcjpeaaGreatDoor.St
attribute [local irreducible] AWp AOps AQ AYield AEff ACall AWk AAny AAt AThen AIn APost NoPanic
abbrev cE : Nat := 88
abbrev cK : Nat := 2
set_option maxHeartbeats 8000000 in
theorem swr : SwrSt 88 2 299 := by
 have d_swr := Tryz.func299
 have n_swr := Tryz.ntmps299
 have r_swr := Tryz.results299
 exact zcL
set_option maxHeartbeats 8000000 in
theorem rot : RotSt 88 2 288 := by
 have d_rot := Tryz.func288
 have n_rot := Tryz.ntmps288
 have r_rot := Tryz.results288
 exact zcO
set_option maxHeartbeats 8000000 in
theorem ins : InsSt 88 2 270 := by
 have d_ins := Tryz.func270
 have n_ins := Tryz.ntmps270
 have r_ins := Tryz.results270
 exact zcP
set_option maxHeartbeats 16000000 in
theorem sym : SymSt 88 2 271 := by
 have d_sym := Tryz.func271
 have n_sym := Tryz.ntmps271
 have r_sym := Tryz.results271
 exact zcK
set_option maxHeartbeats 16000000 in
theorem stb : StbSt 88 2 233 := by
 have d_stb := Tryz.func233
 have n_stb := Tryz.ntmps233
 have r_stb := Tryz.results233
 exact zcM
set_option maxHeartbeats 8000000 in
theorem sst : SstSt 88 2 170 := by
 have d_sst := Tryz.func170
 have n_sst := Tryz.ntmps170
 have r_sst := Tryz.results170
 exact zcN
end Go.Proofs.YtoahnbmedcjpeaaGreatDoor.Ab.SCLst

/-
 Texts of a proof, one behind the other (part 18).
-/
import Derived.Test.YtoahnbmedcjpeaaGreatDoorMn3
import Derived.Test.YtoahnbmedcjpeaaGreatDoorMn12
set_option linter.unusedSimpArgs false
set_option linter.unusedVariables false
namespace Go.Proofs.YtoahnbmedcjpeaaGreatDoor.Ab.SPol
set_option maxRecDepth 100000
open Go.RowKit Go.Lib Go.Proofs.YtoahnbmedcjpeaaGreatDoor.St
attribute [local irreducible] AWp AOps AQ AYield AEff ACall AWk AAny AAt AThen AIn APost NoPanic
abbrev cE : Nat := 91
abbrev cK : Nat := 3
set_option maxHeartbeats 8000000 in
theorem swr : SwrSt 91 3 300 := by
 have d_swr := Tryz.func300
 have n_swr := Tryz.ntmps300
 have r_swr := Tryz.results300
 exact zcL
set_option maxHeartbeats 8000000 in
theorem rot : RotSt 91 3 289 := by
 have d_rot := Tryz.func289
 have n_rot := Tryz.ntmps289
 have r_rot := Tryz.results289
 exact zcO
set_option maxHeartbeats 8000000 in
theorem ins : InsSt 91 3 272 := by
 have d_ins := Tryz.func272
 have n_ins := Tryz.ntmps272
 have r_ins := Tryz.results272
 exact zcP
set_option maxHeartbeats 16000000 in
theorem sym : SymSt 91 3 273 := by
 have d_sym := Tryz.func273
 have n_sym := Tryz.ntmps273
 have r_sym := Tryz.results273
 exact zcK
set_option maxHeartbeats 16000000 in
theorem stb : StbSt 91 3 234 := by
 have d_stb := Tryz.func234
 have n_stb := Tryz.ntmps234
 have r_stb := Tryz.results234
 exact zcM
set_option maxHeartbeats 8000000 in
theorem sst : SstSt 91 3 172 := by
 have d_sst := Tryz.func172
 have n_sst := Tryz.ntmps172
 have r_sst := Tryz.results172
 exact zcN
end Go.Proofs.YtoahnbmedcjpeaaGreatDoor.Ab.SPol

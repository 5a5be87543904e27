/-
 Texts of a proof, one behind the other (part 16).
-/
import Derived.Test.YtoahnbmedcjpeaaGreatDoorMn3
import Derived.Test.YtoahnbmedcjpeaaGreatDoorMn12
set_option linter.unusedSimpArgs false
set_option linter.unusedVariables false
namespace Go.Proofs.YtoahnbmedcjpeaaGreatDoor.Ab.SPLst
set_option maxRecDepth 100000
open Go.RowKit Go.Lib Go.Proofs.YtoahnbmedcjpeaaGreatDoor.St
attribute [local irreducible] AWp AOps AQ AYield AEff ACall AWk AAny AAt AThen AIn APost NoPanic
abbrev cE : Nat := 85
abbrev cK : Nat := 2
set_option maxHeartbeats 8000000 in
theorem swr : SwrSt 85 2 298 := by
 have d_swr := Tryz.func298
 have n_swr := Tryz.ntmps298
 have r_swr := Tryz.results298
 exact zcL
set_option maxHeartbeats 8000000 in
theorem rot : RotSt 85 2 287 := by
 have d_rot := Tryz.func287
 have n_rot := Tryz.ntmps287
 have r_rot := Tryz.results287
 exact zcO
set_option maxHeartbeats 8000000 in
theorem ins : InsSt 85 2 268 := by
 have d_ins := Tryz.func268
 have n_ins := Tryz.ntmps268
 have r_ins := Tryz.results268
 exact zcP
set_option maxHeartbeats 16000000 in
theorem sym : SymSt 85 2 269 := by
 have d_sym := Tryz.func269
 have n_sym := Tryz.ntmps269
 have r_sym := Tryz.results269
 exact zcK
set_option maxHeartbeats 16000000 in
theorem stb : StbSt 85 2 232 := by
 have d_stb := Tryz.func232
 have n_stb := Tryz.ntmps232
 have r_stb := Tryz.results232
 exact zcM
set_option maxHeartbeats 8000000 in
theorem sst : SstSt 85 2 168 := by
 have d_sst := Tryz.func168
 have n_sst := Tryz.ntmps168
 have r_sst := Tryz.results168
 exact zcN
end Go.Proofs.YtoahnbmedcjpeaaGreatDoor.Ab.SPLst

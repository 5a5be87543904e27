/-
 Texts of a proof, one behind the other (part 14).
-/
import Derived.Test.YtoahnbmedcjpeaaGreatDoorMn3
import Derived.Test.YtoahnbmedcjpeaaGreatDoorMn12
set_option linter.unusedSimpArgs false
set_option linter.unusedVariables false
namespace Go.Proofs.YtoahnbmedcjpeaaGreatDoor.Ab.SIfx
set_option maxRecDepth 100000
open Go.RowKit Go.Lib Go.Proofs.YtoahnbmedcjpeaaGreatDoor.St
attribute [local irreducible] AWp AOps AQ AYield AEff ACall AWk AAny AAt AThen AIn APost NoPanic
abbrev cE : Nat := 38
abbrev cK : Nat := 11
set_option maxHeartbeats 8000000 in
theorem swr : SwrSt 38 11 296 := by
 have d_swr := Tryz.func296
 have n_swr := Tryz.ntmps296
 have r_swr := Tryz.results296
 exact zcL
set_option maxHeartbeats 8000000 in
theorem rot : RotSt 38 11 285 := by
 have d_rot := Tryz.func285
 have n_rot := Tryz.ntmps285
 have r_rot := Tryz.results285
 exact zcO
set_option maxHeartbeats 8000000 in
theorem ins : InsSt 38 11 264 := by
 have d_ins := Tryz.func264
 have n_ins := Tryz.ntmps264
 have r_ins := Tryz.results264
 exact zcP
set_option maxHeartbeats 16000000 in
theorem sym : SymSt 38 11 265 := by
 have d_sym := Tryz.func265
 have n_sym := Tryz.ntmps265
 have r_sym := Tryz.results265
 exact zcK
set_option maxHeartbeats 16000000 in
theorem stb : StbSt 38 11 230 := by
 have d_stb := Tryz.func230
 have n_stb := Tryz.ntmps230
 have r_stb := Tryz.results230
 exact zcM
set_option maxHeartbeats 8000000 in
theorem sst : SstSt 38 11 164 := by
 have d_sst := Tryz.func164
 have n_sst := Tryz.ntmps164
 have r_sst := Tryz.results164
 exact zcN
end Go.Proofs.YtoahnbmedcjpeaaGreatDoor.Ab.SIfx

/-
 Texts of a proof, one behind the other (part 19).
-/
import Derived.Test.YtoahnbmedcjpeaaGreatDoorMn3
import Derived.Test.YtoahnbmedcjpeaaGreatDoorMn12
set_option linter.unusedSimpArgs false
set_option linter.unusedVariables false
namespace Go.Proofs.YtoahnbmedcjpeaaGreatDoor.Ab.SSta
set_option maxRecDepth 100000
open Go.RowKit Go.Lib Go.Proofs.YtoahnbmedcjpeaaGreatDoor.St
attribute [local irreducible] AWp AOps AQ AYield AEff ACall AWk AAny AAt AThen AIn APost NoPanic
abbrev cE : Nat := 97
abbrev cK : Nat := 7
set_option maxHeartbeats 8000000 in
theorem swr : SwrSt 97 7 290 := by
 have d_swr := Tryz.func290
 have n_swr := Tryz.ntmps290
 have r_swr := Tryz.results290
 exact zcL
set_option maxHeartbeats 8000000 in
theorem rot : RotSt 97 7 274 := by
 have d_rot := Tryz.func274
 have n_rot := Tryz.ntmps274
 have r_rot := Tryz.results274
 exact zcO
set_option maxHeartbeats 8000000 in
theorem ins : InsSt 97 7 235 := by
 have d_ins := Tryz.func235
 have n_ins := Tryz.ntmps235
 have r_ins := Tryz.results235
 exact zcP
set_option maxHeartbeats 16000000 in
theorem sym : SymSt 97 7 236 := by
 have d_sym := Tryz.func236
 have n_sym := Tryz.ntmps236
 have r_sym := Tryz.results236
 exact zcK
set_option maxHeartbeats 16000000 in
theorem stb : StbSt 97 7 174 := by
 have d_stb := Tryz.func174
 have n_stb := Tryz.ntmps174
 have r_stb := Tryz.results174
 exact zcM
set_option maxHeartbeats 8000000 in
theorem sst : SstSt 97 7 86 := by
 have d_sst := Tryz.func86
 have n_sst := Tryz.ntmps86
 have r_sst := Tryz.results86
 exact zcN
end Go.Proofs.YtoahnbmedcjpeaaGreatDoor.Ab.SSta

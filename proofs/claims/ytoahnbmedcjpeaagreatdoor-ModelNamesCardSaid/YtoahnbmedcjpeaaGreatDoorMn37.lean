/-
 Texts of a proof, one behind the other (part 38).
-/
import Derived.Test.YtoahnbmedcjpeaaGreatDoorMn3
import Derived.Test.YtoahnbmedcjpeaaGreatDoorMn12
import Derived.Test.YtoahnbmedcjpeaaGreatDoorMn30
import Derived.Test.YtoahnbmedcjpeaaGreatDoorMn32
set_option maxRecDepth 100000
set_option linter.unusedSimpArgs false
set_option linter.unusedVariables false
namespace Go.Proofs.YtoahnbmedcjpeaaGreatDoor.Ab.SDvc
open Go.RowKit Go.Lib Go.Proofs.YtoahnbmedcjpeaaGreatDoor.St
attribute [local irreducible] AWp AOps AQ AYield AEff ACall AWk AAny AAt AThen AIn APost NoPanic
abbrev cE : Nat := 33
abbrev cK : Nat := 12
set_option maxHeartbeats 8000000 in
theorem swr : SwrSt 33 12 295 := by
 have d_swr := Tryz.func295
 have n_swr := Tryz.ntmps295
 have r_swr := Tryz.results295
 exact zcL
set_option maxHeartbeats 8000000 in
theorem rot : RotSt 33 12 283 := by
 have d_rot := Tryz.func283
 have n_rot := Tryz.ntmps283
 have r_rot := Tryz.results283
 exact zcO
set_option maxHeartbeats 8000000 in
theorem ins : InsSt 33 12 255 := by
 have d_ins := Tryz.func255
 have n_ins := Tryz.ntmps255
 have r_ins := Tryz.results255
 exact zcP
set_option maxHeartbeats 16000000 in
theorem sym : SymSt 33 12 256 := by
 have d_sym := Tryz.func256
 have n_sym := Tryz.ntmps256
 have r_sym := Tryz.results256
 exact zcK
set_option maxHeartbeats 16000000 in
theorem stb : StbSt 33 12 213 := by
 have d_stb := Tryz.func213
 have n_stb := Tryz.ntmps213
 have r_stb := Tryz.results213
 exact zcM
set_option maxHeartbeats 8000000 in
theorem sst : SstSt 33 12 144 := by
 have d_sst := Tryz.func144
 have n_sst := Tryz.ntmps144
 have r_sst := Tryz.results144
 exact zcN
end Go.Proofs.YtoahnbmedcjpeaaGreatDoor.Ab.SDvc

namespace Go.Proofs.YtoahnbmedcjpeaaGreatDoor.Ab
open Go.RowKit Go.Lib
attribute [local irreducible] AWp AOps AQ AYield AEff ACall AWk AAny AAt AThen AIn APost NoPanic
theorem zkw (x : Dvc) : ACall Tryz.prog 32 [aggD (dvcD x)] [] (Just (strA x.nm)) := by
 refine zc za Tryz.func32 rfl Tryz.ntmps32 (congrArg Array.toList Tryz.results32) (by kernel_rfl) rfl ?_
 repeat (first | refine q_Y ?_ | ((first | apply q_K rfl | apply q_X rfl); (exact q_H)) | refine q_U ?_)
 exact zo rfl ⟨rfl, rfl⟩
set_option maxHeartbeats 4000000 in
theorem zgi (x y : Dvc) : ACall Tryz.prog 145 ([gA dvcD x, gA dvcD y] ++ [.iptr [.sc (.func (.func 32) #[] #[])] 0]) [] (Just (intA (compareBytes x.nm y.nm))) := by
 refine zc za Tryz.func145 rfl Tryz.ntmps145 (congrArg Array.toList Tryz.results145) (by kernel_rfl) rfl ?_
 repeat (first | refine q_Y ?_ | ((first | apply q_K rfl | apply q_X rfl); (exact q_H)) | refine q_U ?_ | (refine zaj rfl rfl rfl rfl rfl rfl (zkw _) rfl (fun _ _ _ => zB _ _ _ _ _ rfl rfl) ?_))
 refine Q_c rfl rfl rfl rfl rfl (zaR x.nm y.nm) rfl (fun _ _ _ => zB _ _ _ _ _ rfl rfl) ?_
 repeat (first | refine q_Y ?_ | ((first | apply q_K rfl | apply q_X rfl); (exact q_H)) | refine q_U ?_)
 exact zo rfl ⟨rfl, rfl⟩
set_option maxHeartbeats 4000000 in
theorem zhy (l : List Dvc) (hN : l.length ≤ 100000000000) : ACall Tryz.prog 31 [.row 1000, .fn 32 []] [(1000, gR 33 12 dvcD l)] (fun c h => c = .tup [] ∧ h = [(1000, gR 33 12 dvcD (srtN (fun x : Dvc => x.nm) l))]) := by
 have hs := SDvc.sst (enc := dvcD) (fun _ => rfl) (fc := 145) (caps := [.iptr [.sc (.func (.func 32) #[] #[])] 0]) ⟨rfl, rfl⟩ (weakN fun x : Dvc => x.nm) (fun x y => rfl) (fun x y => zgi x y) l hN
 refine zc za Tryz.func31 rfl Tryz.ntmps31 (congrArg Array.toList Tryz.results31) (by kernel_rfl) rfl ?_
 refine zf (z8 (t := 1) rfl (zad 32)) ?_
 refine zn ?_
 refine ze ?_
 refine q_d ?_
 refine zi ?_
 refine q_j ?_
 refine zf (zr (id := 3) (ds := [.sc (.func (.func 32) #[] #[])]) rfl rfl) ?_
 repeat ((fail_if_success refine zu ?_); first | refine q_Y ?_ | ((first | apply q_K rfl | apply q_X rfl); (first | exact q_D | exact zeJ za rfl rfl rfl rfl rfl | exact zdT rfl rfl rfl | exact zfG za rfl rfl rfl rfl rfl | exact q_11 | exact q_12 | exact q_20 | exact q_25 | exact q_26 | exact q_23)) | refine q_T ?_ | ((first | apply q_K rfl | apply q_X rfl); exact zK rfl rfl))
 refine O_cU 1000 hs rfl rfl rfl rfl rfl rfl rfl rfl ?_
 repeat ((fail_if_success refine zu ?_); first | refine q_Y ?_ | ((first | apply q_K rfl | apply q_X rfl); (first | exact q_D | exact zeJ za rfl rfl rfl rfl rfl | exact zdT rfl rfl rfl | exact zfG za rfl rfl rfl rfl rfl | exact q_11 | exact q_12 | exact q_20 | exact q_25 | exact q_26 | exact q_23)) | refine q_T ?_)
 exact zal AWk.refl rfl (h2 := [(1000, gR 33 12 dvcD (srtN (fun x : Dvc => x.nm) l))]) ⟨rfl, trivial⟩ ⟨rfl, rfl⟩
end Go.Proofs.YtoahnbmedcjpeaaGreatDoor.Ab

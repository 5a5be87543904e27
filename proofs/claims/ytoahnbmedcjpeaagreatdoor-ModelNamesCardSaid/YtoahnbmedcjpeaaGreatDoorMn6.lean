/-
 Texts of a proof, one behind the other (part 7).
-/
import Derived.Test.YtoahnbmedcjpeaaGreatDoorMn3
import Derived.Test.YtoahnbmedcjpeaaGreatDoorMn5
set_option linter.unusedSimpArgs false
set_option linter.unusedVariables false
namespace Go.Proofs.YtoahnbmedcjpeaaGreatDoor.Ab
set_option maxRecDepth 100000
open Go.RowKit Go.Lib
attribute [local irreducible] AWp AOps AQ AYield AEff ACall AWk AAny AAt AThen AIn APost NoPanic
set_option maxHeartbeats 4000000 in
theorem zf9 (id : Nat) (hid : Nat.blt id 1000 = true) (f : FuncId) (l : List Fil) (hf : ∀ x ∈ l, ACall Tryz.prog f [gA filD x] [] (Just (gA filD x))) (hb : l.length * 40 ≤ 140737488351232) : ACall Tryz.prog 92 [.d (.sl (l.flatMap filD) l.length), .fn f []] [] (fun c h => c = .row id ∧ h = [(id, gR 82 2 filD l)]) := by
 refine ACall.reid (p := 5) hid ?_
 refine zc za Tryz.func92 rfl Tryz.ntmps92 (congrArg Array.toList Tryz.results92) (by kernel_rfl) rfl ?_
 refine zn ?_
 (first | refine ze ?_ | refine zg rfl mixed (by kernel_rfl) ?_)
 repeat' (first | ((first | apply q_K rfl | apply q_X rfl); (first | exact q_H | fail)) | refine q_d ?_ | refine q_a ?_ | refine q_b ?_ | refine q_e ?_ | refine q_f ?_ | refine q_g ?_ | ((fail_if_success (refine O_wt rfl ?_)); refine O_gs rfl rfl (fun _ => ?_) (fun _ => ?_)) | ((fail_if_success (refine Q_wt rfl ?_)); refine Q_gs rfl rfl (fun _ => ?_) (fun _ => ?_)) | refine zi ?_ | refine zk ?_ | refine q_j ?_ | fail)
 refine zn ?_
 (first | refine ze ?_ | refine zg rfl mixed (by kernel_rfl) ?_)
 repeat' (first | ((first | apply q_K rfl | apply q_X rfl); (first | exact q_H | fail)) | refine q_d ?_ | refine q_a ?_ | refine q_b ?_ | refine q_e ?_ | refine q_f ?_ | refine q_g ?_ | ((fail_if_success (refine O_wt rfl ?_)); refine O_gs rfl rfl (fun _ => ?_) (fun _ => ?_)) | ((fail_if_success (refine Q_wt rfl ?_)); refine Q_gs rfl rfl (fun _ => ?_) (fun _ => ?_)) | refine zi ?_ | refine zk ?_ | refine q_j ?_ | fail)
 refine zf (z6 82 2 (t := 5) (id := 5) rfl rfl) ?_
 repeat (first | refine q_Z ?_ | ((first | apply q_K rfl | apply q_X rfl); (exact q_H)) | refine q_U ?_)
 refine zw (fun k : Nat => [(1, .fn f []), (5, .row 5), (8, .d (.sl (l.flatMap filD) l.length)), (9, intA (l.length : Int)), (10, intA (k : Int))]) (fun k => [(5, .row 82 2 k ((l.take k).flatMap filD))]) (fun k => k ≤ l.length) (fun k => l.length - k) 0 (Nat.zero_le _) (q_S) ?_
 intro k hkl
 try dsimp only
 by_cases hk : k < l.length
 ·have hq := hf _ (List.getElem_mem hk)
  have hw := zj zaE l k 2 hk (by decide)
  repeat (first | refine q_Z ?_ | ((first | apply q_K rfl | apply q_X rfl); (first | exact q_A | exact q_R (w := hw) | exact q_B)) | refine q_U ?_ | (first | refine O_cF rfl rfl rfl rfl rfl rfl hq (zbt _) ?_ | refine zO (rid := 5) za rfl rfl rfl rfl rfl rfl rfl rfl rfl rfl rfl rfl (Src.row rfl) rfl (by omega) ?_))
  exact ⟨k + 1, by omega, by omega, zq ⟨rfl, rfl, rfl, rfl, rfl, trivial⟩ ⟨zaH rfl (by rw [List.take_succ_eq_append_getElem hk, List.flatMap_append]; simp [filD]) rfl, trivial⟩⟩
 obtain rfl : k = l.length := by omega
 rw [List.take_length]
 repeat (first | refine q_Z ?_ | ((first | apply q_K rfl | apply q_X rfl); (exact q_H)) | refine q_U ?_)
 exact zt AWk.refl rfl (h2 := [(5, gR 82 2 filD l)]) ⟨rfl, trivial⟩ ⟨rfl, rfl⟩
set_option maxHeartbeats 4000000 in
theorem ze1 (id : Nat) (hid : Nat.blt id 1000 = true) (f : FuncId) (l : List PLst) (hf : ∀ x ∈ l, ACall Tryz.prog f [gA plstD x] [] (Just (gA plstD x))) (hb : l.length * 40 ≤ 140737488351232) : ACall Tryz.prog 95 [.d (.sl (l.flatMap plstD) l.length), .fn f []] [] (fun c h => c = .row id ∧ h = [(id, gR 85 2 plstD l)]) := by
 refine ACall.reid (p := 5) hid ?_
 refine zc za Tryz.func95 rfl Tryz.ntmps95 (congrArg Array.toList Tryz.results95) (by kernel_rfl) rfl ?_
 refine zn ?_
 (first | refine ze ?_ | refine zg rfl mixed (by kernel_rfl) ?_)
 repeat' (first | ((first | apply q_K rfl | apply q_X rfl); (first | exact q_H | fail)) | refine q_d ?_ | refine q_a ?_ | refine q_b ?_ | refine q_e ?_ | refine q_f ?_ | refine q_g ?_ | ((fail_if_success (refine O_wt rfl ?_)); refine O_gs rfl rfl (fun _ => ?_) (fun _ => ?_)) | ((fail_if_success (refine Q_wt rfl ?_)); refine Q_gs rfl rfl (fun _ => ?_) (fun _ => ?_)) | refine zi ?_ | refine zk ?_ | refine q_j ?_ | fail)
 refine zn ?_
 (first | refine ze ?_ | refine zg rfl mixed (by kernel_rfl) ?_)
 repeat' (first | ((first | apply q_K rfl | apply q_X rfl); (first | exact q_H | fail)) | refine q_d ?_ | refine q_a ?_ | refine q_b ?_ | refine q_e ?_ | refine q_f ?_ | refine q_g ?_ | ((fail_if_success (refine O_wt rfl ?_)); refine O_gs rfl rfl (fun _ => ?_) (fun _ => ?_)) | ((fail_if_success (refine Q_wt rfl ?_)); refine Q_gs rfl rfl (fun _ => ?_) (fun _ => ?_)) | refine zi ?_ | refine zk ?_ | refine q_j ?_ | fail)
 refine zf (z6 85 2 (t := 5) (id := 5) rfl rfl) ?_
 repeat (first | refine q_Z ?_ | ((first | apply q_K rfl | apply q_X rfl); (exact q_H)) | refine q_U ?_)
 refine zw (fun k : Nat => [(1, .fn f []), (5, .row 5), (8, .d (.sl (l.flatMap plstD) l.length)), (9, intA (l.length : Int)), (10, intA (k : Int))]) (fun k => [(5, .row 85 2 k ((l.take k).flatMap plstD))]) (fun k => k ≤ l.length) (fun k => l.length - k) 0 (Nat.zero_le _) (q_S) ?_
 intro k hkl
 try dsimp only
 by_cases hk : k < l.length
 ·have hq := hf _ (List.getElem_mem hk)
  have hw := zj zas l k 2 hk (by decide)
  repeat (first | refine q_Z ?_ | ((first | apply q_K rfl | apply q_X rfl); (first | exact q_A | exact q_R (w := hw) | exact q_B)) | refine q_U ?_ | (first | refine O_cF rfl rfl rfl rfl rfl rfl hq (zbt _) ?_ | refine zO (rid := 5) za rfl rfl rfl rfl rfl rfl rfl rfl rfl rfl rfl rfl (Src.row rfl) rfl (by omega) ?_))
  exact ⟨k + 1, by omega, by omega, zq ⟨rfl, rfl, rfl, rfl, rfl, trivial⟩ ⟨zaH rfl (by rw [List.take_succ_eq_append_getElem hk, List.flatMap_append]; simp [plstD]) rfl, trivial⟩⟩
 obtain rfl : k = l.length := by omega
 rw [List.take_length]
 repeat (first | refine q_Z ?_ | ((first | apply q_K rfl | apply q_X rfl); (exact q_H)) | refine q_U ?_)
 exact zt AWk.refl rfl (h2 := [(5, gR 85 2 plstD l)]) ⟨rfl, trivial⟩ ⟨rfl, rfl⟩
set_option maxHeartbeats 4000000 in
theorem ze2 (id : Nat) (hid : Nat.blt id 1000 = true) (f : FuncId) (l : List CLst) (hf : ∀ x ∈ l, ACall Tryz.prog f [gA clstD x] [] (Just (gA clstD x))) (hb : l.length * 40 ≤ 140737488351232) : ACall Tryz.prog 98 [.d (.sl (l.flatMap clstD) l.length), .fn f []] [] (fun c h => c = .row id ∧ h = [(id, gR 88 2 clstD l)]) := by
 refine ACall.reid (p := 5) hid ?_
 refine zc za Tryz.func98 rfl Tryz.ntmps98 (congrArg Array.toList Tryz.results98) (by kernel_rfl) rfl ?_
 refine zn ?_
 (first | refine ze ?_ | refine zg rfl mixed (by kernel_rfl) ?_)
 repeat' (first | ((first | apply q_K rfl | apply q_X rfl); (first | exact q_H | fail)) | refine q_d ?_ | refine q_a ?_ | refine q_b ?_ | refine q_e ?_ | refine q_f ?_ | refine q_g ?_ | ((fail_if_success (refine O_wt rfl ?_)); refine O_gs rfl rfl (fun _ => ?_) (fun _ => ?_)) | ((fail_if_success (refine Q_wt rfl ?_)); refine Q_gs rfl rfl (fun _ => ?_) (fun _ => ?_)) | refine zi ?_ | refine zk ?_ | refine q_j ?_ | fail)
 refine zn ?_
 (first | refine ze ?_ | refine zg rfl mixed (by kernel_rfl) ?_)
 repeat' (first | ((first | apply q_K rfl | apply q_X rfl); (first | exact q_H | fail)) | refine q_d ?_ | refine q_a ?_ | refine q_b ?_ | refine q_e ?_ | refine q_f ?_ | refine q_g ?_ | ((fail_if_success (refine O_wt rfl ?_)); refine O_gs rfl rfl (fun _ => ?_) (fun _ => ?_)) | ((fail_if_success (refine Q_wt rfl ?_)); refine Q_gs rfl rfl (fun _ => ?_) (fun _ => ?_)) | refine zi ?_ | refine zk ?_ | refine q_j ?_ | fail)
 refine zf (z6 88 2 (t := 5) (id := 5) rfl rfl) ?_
 repeat (first | refine q_Z ?_ | ((first | apply q_K rfl | apply q_X rfl); (exact q_H)) | refine q_U ?_)
 refine zw (fun k : Nat => [(1, .fn f []), (5, .row 5), (8, .d (.sl (l.flatMap clstD) l.length)), (9, intA (l.length : Int)), (10, intA (k : Int))]) (fun k => [(5, .row 88 2 k ((l.take k).flatMap clstD))]) (fun k => k ≤ l.length) (fun k => l.length - k) 0 (Nat.zero_le _) (q_S) ?_
 intro k hkl
 try dsimp only
 by_cases hk : k < l.length
 ·have hq := hf _ (List.getElem_mem hk)
  have hw := zj zav l k 2 hk (by decide)
  repeat (first | refine q_Z ?_ | ((first | apply q_K rfl | apply q_X rfl); (first | exact q_A | exact q_R (w := hw) | exact q_B)) | refine q_U ?_ | (first | refine O_cF rfl rfl rfl rfl rfl rfl hq (zbt _) ?_ | refine zO (rid := 5) za rfl rfl rfl rfl rfl rfl rfl rfl rfl rfl rfl rfl (Src.row rfl) rfl (by omega) ?_))
  exact ⟨k + 1, by omega, by omega, zq ⟨rfl, rfl, rfl, rfl, rfl, trivial⟩ ⟨zaH rfl (by rw [List.take_succ_eq_append_getElem hk, List.flatMap_append]; simp [clstD]) rfl, trivial⟩⟩
 obtain rfl : k = l.length := by omega
 rw [List.take_length]
 repeat (first | refine q_Z ?_ | ((first | apply q_K rfl | apply q_X rfl); (exact q_H)) | refine q_U ?_)
 exact zt AWk.refl rfl (h2 := [(5, gR 88 2 clstD l)]) ⟨rfl, trivial⟩ ⟨rfl, rfl⟩
set_option maxHeartbeats 4000000 in
theorem zf8 (id : Nat) (hid : Nat.blt id 1000 = true) (f : FuncId) (l : List Mem) (hf : ∀ x ∈ l, ACall Tryz.prog f [gA memD x] [] (Just (gA memD x))) (hb : l.length * 32 ≤ 140737488351232) : ACall Tryz.prog 100 [.d (.sl (l.flatMap memD) l.length), .fn f []] [] (fun c h => c = .row id ∧ h = [(id, gR 102 2 memD l)]) := by
 refine ACall.reid (p := 5) hid ?_
 refine zc za Tryz.func100 rfl Tryz.ntmps100 (congrArg Array.toList Tryz.results100) (by kernel_rfl) rfl ?_
 refine zn ?_
 (first | refine ze ?_ | refine zg rfl mixed (by kernel_rfl) ?_)
 repeat' (first | ((first | apply q_K rfl | apply q_X rfl); (first | exact q_H | fail)) | refine q_d ?_ | refine q_a ?_ | refine q_b ?_ | refine q_e ?_ | refine q_f ?_ | refine q_g ?_ | ((fail_if_success (refine O_wt rfl ?_)); refine O_gs rfl rfl (fun _ => ?_) (fun _ => ?_)) | ((fail_if_success (refine Q_wt rfl ?_)); refine Q_gs rfl rfl (fun _ => ?_) (fun _ => ?_)) | refine zi ?_ | refine zk ?_ | refine q_j ?_ | fail)
 refine zn ?_
 (first | refine ze ?_ | refine zg rfl mixed (by kernel_rfl) ?_)
 repeat' (first | ((first | apply q_K rfl | apply q_X rfl); (first | exact q_H | fail)) | refine q_d ?_ | refine q_a ?_ | refine q_b ?_ | refine q_e ?_ | refine q_f ?_ | refine q_g ?_ | ((fail_if_success (refine O_wt rfl ?_)); refine O_gs rfl rfl (fun _ => ?_) (fun _ => ?_)) | ((fail_if_success (refine Q_wt rfl ?_)); refine Q_gs rfl rfl (fun _ => ?_) (fun _ => ?_)) | refine zi ?_ | refine zk ?_ | refine q_j ?_ | fail)
 refine zf (z6 102 2 (t := 5) (id := 5) rfl rfl) ?_
 repeat (first | refine q_Z ?_ | ((first | apply q_K rfl | apply q_X rfl); (exact q_H)) | refine q_U ?_)
 refine zw (fun k : Nat => [(1, .fn f []), (5, .row 5), (8, .d (.sl (l.flatMap memD) l.length)), (9, intA (l.length : Int)), (10, intA (k : Int))]) (fun k => [(5, .row 102 2 k ((l.take k).flatMap memD))]) (fun k => k ≤ l.length) (fun k => l.length - k) 0 (Nat.zero_le _) (q_S) ?_
 intro k hkl
 try dsimp only
 by_cases hk : k < l.length
 ·have hq := hf _ (List.getElem_mem hk)
  have hw := zj zeg l k 2 hk (by decide)
  repeat (first | refine q_Z ?_ | ((first | apply q_K rfl | apply q_X rfl); (first | exact q_A | exact q_R (w := hw) | exact q_B)) | refine q_U ?_ | (first | refine O_cF rfl rfl rfl rfl rfl rfl hq (zbt _) ?_ | refine zO (rid := 5) za rfl rfl rfl rfl rfl rfl rfl rfl rfl rfl rfl rfl (Src.row rfl) rfl (by omega) ?_))
  exact ⟨k + 1, by omega, by omega, zq ⟨rfl, rfl, rfl, rfl, rfl, trivial⟩ ⟨zaH rfl (by rw [List.take_succ_eq_append_getElem hk, List.flatMap_append]; simp [memD]) rfl, trivial⟩⟩
 obtain rfl : k = l.length := by omega
 rw [List.take_length]
 repeat (first | refine q_Z ?_ | ((first | apply q_K rfl | apply q_X rfl); (exact q_H)) | refine q_U ?_)
 exact zt AWk.refl rfl (h2 := [(5, gR 102 2 memD l)]) ⟨rfl, trivial⟩ ⟨rfl, rfl⟩
set_option maxHeartbeats 4000000 in
theorem zf6 (id : Nat) (hid : Nat.blt id 1000 = true) (f : FuncId) (l : List Pol) (hf : ∀ x ∈ l, ACall Tryz.prog f [gA polD x] [] (Just (gA polD x))) (hb : l.length * 48 ≤ 140737488351232) : ACall Tryz.prog 103 [.d (.sl (l.flatMap polD) l.length), .fn f []] [] (fun c h => c = .row id ∧ h = [(id, gR 91 3 polD l)]) := by
 refine ACall.reid (p := 5) hid ?_
 refine zc za Tryz.func103 rfl Tryz.ntmps103 (congrArg Array.toList Tryz.results103) (by kernel_rfl) rfl ?_
 refine zn ?_
 (first | refine ze ?_ | refine zg rfl mixed (by kernel_rfl) ?_)
 repeat' (first | ((first | apply q_K rfl | apply q_X rfl); (first | exact q_H | fail)) | refine q_d ?_ | refine q_a ?_ | refine q_b ?_ | refine q_e ?_ | refine q_f ?_ | refine q_g ?_ | ((fail_if_success (refine O_wt rfl ?_)); refine O_gs rfl rfl (fun _ => ?_) (fun _ => ?_)) | ((fail_if_success (refine Q_wt rfl ?_)); refine Q_gs rfl rfl (fun _ => ?_) (fun _ => ?_)) | refine zi ?_ | refine zk ?_ | refine q_j ?_ | fail)
 refine zn ?_
 (first | refine ze ?_ | refine zg rfl mixed (by kernel_rfl) ?_)
 repeat' (first | ((first | apply q_K rfl | apply q_X rfl); (first | exact q_H | fail)) | refine q_d ?_ | refine q_a ?_ | refine q_b ?_ | refine q_e ?_ | refine q_f ?_ | refine q_g ?_ | ((fail_if_success (refine O_wt rfl ?_)); refine O_gs rfl rfl (fun _ => ?_) (fun _ => ?_)) | ((fail_if_success (refine Q_wt rfl ?_)); refine Q_gs rfl rfl (fun _ => ?_) (fun _ => ?_)) | refine zi ?_ | refine zk ?_ | refine q_j ?_ | fail)
 refine zf (z6 91 3 (t := 5) (id := 5) rfl rfl) ?_
 repeat (first | refine q_Z ?_ | ((first | apply q_K rfl | apply q_X rfl); (exact q_H)) | refine q_U ?_)
 refine zw (fun k : Nat => [(1, .fn f []), (5, .row 5), (8, .d (.sl (l.flatMap polD) l.length)), (9, intA (l.length : Int)), (10, intA (k : Int))]) (fun k => [(5, .row 91 3 k ((l.take k).flatMap polD))]) (fun k => k ≤ l.length) (fun k => l.length - k) 0 (Nat.zero_le _) (q_S) ?_
 intro k hkl
 try dsimp only
 by_cases hk : k < l.length
 ·have hq := hf _ (List.getElem_mem hk)
  have hw := zj zaS l k 3 hk (by decide)
  repeat (first | refine q_Z ?_ | ((first | apply q_K rfl | apply q_X rfl); (first | exact q_A | exact q_R (w := hw) | exact q_B)) | refine q_U ?_ | (first | refine O_cF rfl rfl rfl rfl rfl rfl hq (zbt _) ?_ | refine zO (rid := 5) za rfl rfl rfl rfl rfl rfl rfl rfl rfl rfl rfl rfl (Src.row rfl) rfl (by omega) ?_))
  exact ⟨k + 1, by omega, by omega, zq ⟨rfl, rfl, rfl, rfl, rfl, trivial⟩ ⟨zaH rfl (by rw [List.take_succ_eq_append_getElem hk, List.flatMap_append]; simp [polD]) rfl, trivial⟩⟩
 obtain rfl : k = l.length := by omega
 rw [List.take_length]
 repeat (first | refine q_Z ?_ | ((first | apply q_K rfl | apply q_X rfl); (exact q_H)) | refine q_U ?_)
 exact zt AWk.refl rfl (h2 := [(5, gR 91 3 polD l)]) ⟨rfl, trivial⟩ ⟨rfl, rfl⟩
set_option maxHeartbeats 4000000 in
theorem zga (id : Nat) (hid : Nat.blt id 1000 = true) (f : FuncId) (l : List Cls) (hf : ∀ x ∈ l, ACall Tryz.prog f [gA clsD x] [] (Just (gA clsD x))) (hb : l.length * 168 ≤ 140737488351232) : ACall Tryz.prog 105 [.d (.sl (l.flatMap clsD) l.length), .fn f []] [] (fun c h => c = .row id ∧ h = [(id, gR 104 15 clsD l)]) := by
 refine ACall.reid (p := 5) hid ?_
 refine zc za Tryz.func105 rfl Tryz.ntmps105 (congrArg Array.toList Tryz.results105) (by kernel_rfl) rfl ?_
 refine zn ?_
 (first | refine ze ?_ | refine zg rfl mixed (by kernel_rfl) ?_)
 repeat' (first | ((first | apply q_K rfl | apply q_X rfl); (first | exact q_H | fail)) | refine q_d ?_ | refine q_a ?_ | refine q_b ?_ | refine q_e ?_ | refine q_f ?_ | refine q_g ?_ | ((fail_if_success (refine O_wt rfl ?_)); refine O_gs rfl rfl (fun _ => ?_) (fun _ => ?_)) | ((fail_if_success (refine Q_wt rfl ?_)); refine Q_gs rfl rfl (fun _ => ?_) (fun _ => ?_)) | refine zi ?_ | refine zk ?_ | refine q_j ?_ | fail)
 refine zn ?_
 (first | refine ze ?_ | refine zg rfl mixed (by kernel_rfl) ?_)
 repeat' (first | ((first | apply q_K rfl | apply q_X rfl); (first | exact q_H | fail)) | refine q_d ?_ | refine q_a ?_ | refine q_b ?_ | refine q_e ?_ | refine q_f ?_ | refine q_g ?_ | ((fail_if_success (refine O_wt rfl ?_)); refine O_gs rfl rfl (fun _ => ?_) (fun _ => ?_)) | ((fail_if_success (refine Q_wt rfl ?_)); refine Q_gs rfl rfl (fun _ => ?_) (fun _ => ?_)) | refine zi ?_ | refine zk ?_ | refine q_j ?_ | fail)
 refine zf (z6 104 15 (t := 5) (id := 5) rfl rfl) ?_
 repeat (first | refine q_Z ?_ | ((first | apply q_K rfl | apply q_X rfl); (exact q_H)) | refine q_U ?_)
 refine zw (fun k : Nat => [(1, .fn f []), (5, .row 5), (8, .d (.sl (l.flatMap clsD) l.length)), (9, intA (l.length : Int)), (10, intA (k : Int))]) (fun k => [(5, .row 104 15 k ((l.take k).flatMap clsD))]) (fun k => k ≤ l.length) (fun k => l.length - k) 0 (Nat.zero_le _) (q_S) ?_
 intro k hkl
 try dsimp only
 by_cases hk : k < l.length
 ·have hq := hf _ (List.getElem_mem hk)
  have hw := zj zer l k 15 hk (by decide)
  repeat (first | refine q_Z ?_ | ((first | apply q_K rfl | apply q_X rfl); (first | exact q_A | exact q_R (w := hw) | exact q_B)) | refine q_U ?_ | (first | refine O_cF rfl rfl rfl rfl rfl rfl hq (zbt _) ?_ | refine zO (rid := 5) za rfl rfl rfl rfl rfl rfl rfl rfl rfl rfl rfl rfl (Src.row rfl) rfl (by omega) ?_))
  exact ⟨k + 1, by omega, by omega, zq ⟨rfl, rfl, rfl, rfl, rfl, trivial⟩ ⟨zaH rfl (by rw [List.take_succ_eq_append_getElem hk, List.flatMap_append]; simp [clsD]) rfl, trivial⟩⟩
 obtain rfl : k = l.length := by omega
 rw [List.take_length]
 repeat (first | refine q_Z ?_ | ((first | apply q_K rfl | apply q_X rfl); (exact q_H)) | refine q_U ?_)
 exact zt AWk.refl rfl (h2 := [(5, gR 104 15 clsD l)]) ⟨rfl, trivial⟩ ⟨rfl, rfl⟩
set_option maxHeartbeats 4000000 in
theorem zf7 (id : Nat) (hid : Nat.blt id 1000 = true) (f : FuncId) (l : List Osp) (hf : ∀ x ∈ l, ACall Tryz.prog f [gA ospD x] [] (Just (gA ospD x))) (hb : l.length * 48 ≤ 140737488351232) : ACall Tryz.prog 107 [.d (.sl (l.flatMap ospD) l.length), .fn f []] [] (fun c h => c = .row id ∧ h = [(id, gR 73 3 ospD l)]) := by
 refine ACall.reid (p := 5) hid ?_
 refine zc za Tryz.func107 rfl Tryz.ntmps107 (congrArg Array.toList Tryz.results107) (by kernel_rfl) rfl ?_
 refine zn ?_
 (first | refine ze ?_ | refine zg rfl mixed (by kernel_rfl) ?_)
 repeat' (first | ((first | apply q_K rfl | apply q_X rfl); (first | exact q_H | fail)) | refine q_d ?_ | refine q_a ?_ | refine q_b ?_ | refine q_e ?_ | refine q_f ?_ | refine q_g ?_ | ((fail_if_success (refine O_wt rfl ?_)); refine O_gs rfl rfl (fun _ => ?_) (fun _ => ?_)) | ((fail_if_success (refine Q_wt rfl ?_)); refine Q_gs rfl rfl (fun _ => ?_) (fun _ => ?_)) | refine zi ?_ | refine zk ?_ | refine q_j ?_ | fail)
 refine zn ?_
 (first | refine ze ?_ | refine zg rfl mixed (by kernel_rfl) ?_)
 repeat' (first | ((first | apply q_K rfl | apply q_X rfl); (first | exact q_H | fail)) | refine q_d ?_ | refine q_a ?_ | refine q_b ?_ | refine q_e ?_ | refine q_f ?_ | refine q_g ?_ | ((fail_if_success (refine O_wt rfl ?_)); refine O_gs rfl rfl (fun _ => ?_) (fun _ => ?_)) | ((fail_if_success (refine Q_wt rfl ?_)); refine Q_gs rfl rfl (fun _ => ?_) (fun _ => ?_)) | refine zi ?_ | refine zk ?_ | refine q_j ?_ | fail)
 refine zf (z6 73 3 (t := 5) (id := 5) rfl rfl) ?_
 repeat (first | refine q_Z ?_ | ((first | apply q_K rfl | apply q_X rfl); (exact q_H)) | refine q_U ?_)
 refine zw (fun k : Nat => [(1, .fn f []), (5, .row 5), (8, .d (.sl (l.flatMap ospD) l.length)), (9, intA (l.length : Int)), (10, intA (k : Int))]) (fun k => [(5, .row 73 3 k ((l.take k).flatMap ospD))]) (fun k => k ≤ l.length) (fun k => l.length - k) 0 (Nat.zero_le _) (q_S) ?_
 intro k hkl
 try dsimp only
 by_cases hk : k < l.length
 ·have hq := hf _ (List.getElem_mem hk)
  have hw := zj zbp l k 3 hk (by decide)
  repeat (first | refine q_Z ?_ | ((first | apply q_K rfl | apply q_X rfl); (first | exact q_A | exact q_R (w := hw) | exact q_B)) | refine q_U ?_ | (first | refine O_cF rfl rfl rfl rfl rfl rfl hq (zbt _) ?_ | refine zO (rid := 5) za rfl rfl rfl rfl rfl rfl rfl rfl rfl rfl rfl rfl (Src.row rfl) rfl (by omega) ?_))
  exact ⟨k + 1, by omega, by omega, zq ⟨rfl, rfl, rfl, rfl, rfl, trivial⟩ ⟨zaH rfl (by rw [List.take_succ_eq_append_getElem hk, List.flatMap_append]; simp [ospD]) rfl, trivial⟩⟩
 obtain rfl : k = l.length := by omega
 rw [List.take_length]
 repeat (first | refine q_Z ?_ | ((first | apply q_K rfl | apply q_X rfl); (exact q_H)) | refine q_U ?_)
 exact zt AWk.refl rfl (h2 := [(5, gR 73 3 ospD l)]) ⟨rfl, trivial⟩ ⟨rfl, rfl⟩
set_option maxHeartbeats 4000000 in
theorem zgb (id : Nat) (hid : Nat.blt id 1000 = true) (f : FuncId) (l : List Bgi) (hf : ∀ x ∈ l, ACall Tryz.prog f [gA bgiD x] [] (Just (gA bgiD x))) (hb : l.length * 96 ≤ 140737488351232) : ACall Tryz.prog 110 [.d (.sl (l.flatMap bgiD) l.length), .fn f []] [] (fun c h => c = .row id ∧ h = [(id, gR 77 6 bgiD l)]) := by
 refine ACall.reid (p := 5) hid ?_
 refine zc za Tryz.func110 rfl Tryz.ntmps110 (congrArg Array.toList Tryz.results110) (by kernel_rfl) rfl ?_
 refine zn ?_
 (first | refine ze ?_ | refine zg rfl mixed (by kernel_rfl) ?_)
 repeat' (first | ((first | apply q_K rfl | apply q_X rfl); (first | exact q_H | fail)) | refine q_d ?_ | refine q_a ?_ | refine q_b ?_ | refine q_e ?_ | refine q_f ?_ | refine q_g ?_ | ((fail_if_success (refine O_wt rfl ?_)); refine O_gs rfl rfl (fun _ => ?_) (fun _ => ?_)) | ((fail_if_success (refine Q_wt rfl ?_)); refine Q_gs rfl rfl (fun _ => ?_) (fun _ => ?_)) | refine zi ?_ | refine zk ?_ | refine q_j ?_ | fail)
 refine zn ?_
 (first | refine ze ?_ | refine zg rfl mixed (by kernel_rfl) ?_)
 repeat' (first | ((first | apply q_K rfl | apply q_X rfl); (first | exact q_H | fail)) | refine q_d ?_ | refine q_a ?_ | refine q_b ?_ | refine q_e ?_ | refine q_f ?_ | refine q_g ?_ | ((fail_if_success (refine O_wt rfl ?_)); refine O_gs rfl rfl (fun _ => ?_) (fun _ => ?_)) | ((fail_if_success (refine Q_wt rfl ?_)); refine Q_gs rfl rfl (fun _ => ?_) (fun _ => ?_)) | refine zi ?_ | refine zk ?_ | refine q_j ?_ | fail)
 refine zf (z6 77 6 (t := 5) (id := 5) rfl rfl) ?_
 repeat (first | refine q_Z ?_ | ((first | apply q_K rfl | apply q_X rfl); (exact q_H)) | refine q_U ?_)
 refine zw (fun k : Nat => [(1, .fn f []), (5, .row 5), (8, .d (.sl (l.flatMap bgiD) l.length)), (9, intA (l.length : Int)), (10, intA (k : Int))]) (fun k => [(5, .row 77 6 k ((l.take k).flatMap bgiD))]) (fun k => k ≤ l.length) (fun k => l.length - k) 0 (Nat.zero_le _) (q_S) ?_
 intro k hkl
 try dsimp only
 by_cases hk : k < l.length
 ·have hq := hf _ (List.getElem_mem hk)
  have hw := zj zbv l k 6 hk (by decide)
  repeat (first | refine q_Z ?_ | ((first | apply q_K rfl | apply q_X rfl); (first | exact q_A | exact q_R (w := hw) | exact q_B)) | refine q_U ?_ | (first | refine O_cF rfl rfl rfl rfl rfl rfl hq (zbt _) ?_ | refine zO (rid := 5) za rfl rfl rfl rfl rfl rfl rfl rfl rfl rfl rfl rfl (Src.row rfl) rfl (by omega) ?_))
  exact ⟨k + 1, by omega, by omega, zq ⟨rfl, rfl, rfl, rfl, rfl, trivial⟩ ⟨zaH rfl (by rw [List.take_succ_eq_append_getElem hk, List.flatMap_append]; simp [bgiD]) rfl, trivial⟩⟩
 obtain rfl : k = l.length := by omega
 rw [List.take_length]
 repeat (first | refine q_Z ?_ | ((first | apply q_K rfl | apply q_X rfl); (exact q_H)) | refine q_U ?_)
 exact zt AWk.refl rfl (h2 := [(5, gR 77 6 bgiD l)]) ⟨rfl, trivial⟩ ⟨rfl, rfl⟩
end Go.Proofs.YtoahnbmedcjpeaaGreatDoor.Ab

/-
 Texts of a proof, one behind the other (part 44).
-/
import Derived.Test.YtoahnbmedcjpeaaGreatDoorMo3
import Derived.Test.YtoahnbmedcjpeaaGreatDoorMo36
import Derived.Test.YtoahnbmedcjpeaaGreatDoorMo42
set_option linter.unusedSimpArgs false
set_option linter.unusedVariables false
namespace Go.Proofs.YtoahnbmedcjpeaaGreatDoor.Ab
set_option maxRecDepth 100000
open Go.RowKit Go.Lib
attribute [local irreducible] AWp AOps AQ AYield AEff ACall AWk AAny AAt AThen AIn APost NoPanic
theorem zi2 (L : List Dvc) (f : FuncId) (caps : List AVal) (p : Dvc → Bool) (hf : ∀ x ∈ L, ACall Tryz.prog f ([aggD (dvcD x)] ++ caps) [] (Just (boolA (p x)))) (hn : L.length ≤ 140737488355328) :
  ACall Tryz.prog 33 [.d (.sl (L.flatMap dvcD) L.length), .fn f caps] [] (Just (intA (idxOf p L))) := by
 refine zb za Tryz.func33 rfl Tryz.ntmps33 (congrArg Array.toList Tryz.results33) (by kernel_rfl) rfl ?_
 repeat (first | refine q_Z ?_ | ((first | apply q_K rfl | apply q_X rfl); (exact q_H)) | refine q_U ?_)
 refine zw (fun k : Nat => [(0, .d (.sl (L.flatMap dvcD) L.length)), (1, .fn f caps), (7, intA (L.length : Int)), (8, intA (k : Int))]) (fun _ => []) (fun k => k ≤ L.length ∧ ∀ j (hj : j < L.length), j < k → p L[j] = false) (fun k => L.length - k) 0 ⟨Nat.zero_le _, fun j _ h => absurd h (Nat.not_lt_zero j)⟩ (q_S) ?_
 rintro k ⟨hk, hall⟩
 try dsimp only
 by_cases hkL : k < L.length
 ·have hq := hf _ (List.getElem_mem hkL)
  have hw := zj zaL L k 12 hkL (by decide)
  cases hp : p L[k] with
  | true =>
   rw [hp] at hq
   repeat (first | refine q_Z ?_ | ((first | apply q_K rfl | apply q_X rfl); (first | exact q_A | exact q_R (w := hw) | exact q_B)) | refine q_U ?_ | (refine O_cF rfl rfl rfl rfl rfl rfl hq (fun _ => rfl) ?_))
   refine zA rfl ⟨?_, rfl⟩
   rw [zar p L k hkL (fun j hj => hall j (by omega) hj) hp]
  | false =>
   rw [hp] at hq
   repeat (first | refine q_Z ?_ | ((first | apply q_K rfl | apply q_X rfl); (first | exact q_A | exact q_R (w := hw) | exact q_B)) | refine q_U ?_ | (refine O_cF rfl rfl rfl rfl rfl rfl hq (fun _ => rfl) ?_))
   refine ⟨k + 1, ⟨by omega, fun j hj h => ?_⟩, by omega, q_S⟩
   by_cases hjk : j = k
   ·subst hjk; exact hp
   ·exact hall j hj (by omega)
 ·
  repeat (first | refine q_Z ?_ | ((first | apply q_K rfl | apply q_X rfl); (exact q_H)) | refine q_U ?_)
  refine zA rfl ⟨?_, rfl⟩
  rw [zai p L fun x hx => by
   obtain ⟨j, hj, rfl⟩ := List.mem_iff_getElem.1 hx
   exact hall j hj (by omega)]; rfl
theorem zmp (s : List UInt8) (x : Dvc) : ACall Tryz.prog 34 ([aggD (dvcD x)] ++ [.iptr [sD s] 0]) [] (Just (boolA (decide (x.nm = s)))) := by
 refine zb za Tryz.func34 rfl Tryz.ntmps34 (congrArg Array.toList Tryz.results34) (by kernel_rfl) rfl ?_
 repeat (first | refine q_Y ?_ | ((first | apply q_K rfl | apply q_X rfl); (first | exact q_H | (exact za9 rfl rfl rfl rfl))) | refine q_U ?_)
 exact zA rfl ⟨rfl, rfl⟩
theorem zmo (s : List UInt8) (x : Ifx) : ACall Tryz.prog 36 ([aggD (ifxD x)] ++ [.iptr [sD s] 0]) [] (Just (boolA (decide (x.nm = s)))) := by
 refine zb za Tryz.func36 rfl Tryz.ntmps36 (congrArg Array.toList Tryz.results36) (by kernel_rfl) rfl ?_
 repeat (first | refine q_Y ?_ | ((first | apply q_K rfl | apply q_X rfl); (first | exact q_H | (exact za9 rfl rfl rfl rfl))) | refine q_U ?_)
 exact zA rfl ⟨rfl, rfl⟩
set_option maxHeartbeats 8000000 in
theorem zlr (a : List Dvc) (ha : ∀ d ∈ a, d.ok) (hn : a.length ≤ 1000000) : ACall Tryz.prog 13 [dvsA a, dvsA a] [] (Just (boolA true)) := by
 refine zb za Tryz.func13 rfl Tryz.ntmps13 (congrArg Array.toList Tryz.results13) (by kernel_rfl) rfl ?_
 repeat (first | refine q_Z ?_ | ((first | apply q_K rfl | apply q_X rfl); (exact q_H)) | refine q_U ?_)
 refine zw (fun k : Nat => [(0, dvsA a), (1, dvsA a), (5, intA (k : Int))]) (fun _ => []) (fun k => k ≤ a.length) (fun k => a.length - k) 0 (Nat.zero_le _) (q_S) ?_
 intro k hk
 try dsimp only
 by_cases hkl : k < a.length
 ·have hw := zj zaL a k 12 hkl (by decide)
  have he := zi9 a[k] (ha _ (List.getElem_mem hkl))
  repeat (first | refine q_Y ?_ | ((first | apply q_K rfl | apply q_X rfl); (first | exact q_A | exact q_R (w := (by first | exact hw | rfl)) | exact q_B | (exact q_I k hkl))) | refine q_U ?_ | refine q_Q he ?_)
  exact ⟨k + 1, by omega, by omega, q_S⟩
 ·
  repeat (first | refine q_Z ?_ | ((first | apply q_K rfl | apply q_X rfl); (exact q_H)) | refine q_U ?_)
  exact zA rfl ⟨rfl, rfl⟩
set_option maxHeartbeats 8000000 in
theorem zmq (a : List Dvc) (s t : List UInt8) (i k : Nat) (hi : i < a.length) (hI : idxOf (fun d : Dvc => decide (d.nm = s)) a = (i : Int)) (hK : idxOf (fun x : Ifx => decide (x.nm = t)) a[i].ifs = (k : Int)) (hn : a.length ≤ 1000000) (hm : a[i].ifs.length ≤ 140737488355328) :
  ACall Tryz.prog 14 [dvsA a, strA s, strA t] [] (Just (.tup [.agg [intA (i : Int), intA (k : Int)], intA 0])) := by
 have h1 := zi2 a 34 [.iptr [sD s] 0] (fun d => decide (d.nm = s)) (fun x _ => zmp s x) (by omega)
 have h2 := zln a[i].ifs 36 [.iptr [sD t] 0] (fun x => decide (x.nm = t)) (fun x _ => zmo t x) hm
 rw [hI] at h1
 rw [hK] at h2
 have hw := zx zaL a i 3 1 hi (by decide)
 refine zb za Tryz.func14 rfl Tryz.ntmps14 (congrArg Array.toList Tryz.results14) (by kernel_rfl) rfl ?_
 refine zt ?_
 (first | refine zi ?_ | refine zl rfl mixed (by kernel_rfl) ?_)
 repeat' (first | ((first | apply q_K rfl | apply q_X rfl); (first | exact q_H | fail)) | refine q_d ?_ | refine q_a ?_ | refine q_b ?_ | refine q_e ?_ | refine q_f ?_ | refine q_g ?_ | ((fail_if_success (refine O_wt rfl ?_)); refine O_gs rfl rfl (fun _ => ?_) (fun _ => ?_)) | ((fail_if_success (refine Q_wt rfl ?_)); refine Q_gs rfl rfl (fun _ => ?_) (fun _ => ?_)) | refine zo ?_ | refine zq ?_ | refine q_j ?_ | fail)
 refine zd (zC (id := 4) (ds := [sD s]) rfl rfl) ?_
 refine zd (zC (id := 5) (ds := [sD t]) rfl rfl) ?_
 repeat (first | refine q_Y ?_ | ((first | apply q_K rfl | apply q_X rfl); (first | exact q_A | exact q_R (w := (by first | exact hw | rfl)) | exact q_B | (first | exact zah rfl rfl | exact q_I i hi))) | refine q_U ?_ | (first | refine q_O h1 ?_ | refine q_O h2 ?_))
 exact zA rfl ⟨rfl, rfl⟩
end Go.Proofs.YtoahnbmedcjpeaaGreatDoor.Ab

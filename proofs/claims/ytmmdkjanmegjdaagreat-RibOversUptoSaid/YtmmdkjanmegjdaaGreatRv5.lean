/-
 Texts of a proof, one behind the other (part 6).
-/
import Derived.Test.YtmmdkjanmegjdaaGreatRv4
set_option linter.unusedSimpArgs false
set_option linter.unusedVariables false
namespace Go.Proofs.YtmmdkjanmegjdaaGreat.Ab
set_option maxRecDepth 100000
open Go.RowKit Go.Lib
attribute [local irreducible] AWp AOps AQ AYield AEff ACall AWk AAny AAt AThen AIn APost NoPanic
theorem zjO (L : List PLst) (f : FuncId) (caps : List AVal) (p : PLst → Bool) (hf : ∀ x ∈ L, ACall Tryz.prog f ([aggD (plstD x)] ++ caps) [] (Just (boolA (p x)))) (hn : L.length ≤ 1000000000) :
  ACall Tryz.prog 90 [.d (.sl (L.flatMap plstD) L.length), .fn f caps] [] (Just (intA (idxOf p L))) := by
 refine zf za Tryz.func90 rfl Tryz.ntmps90 (congrArg Array.toList Tryz.results90) (by kernel_rfl) rfl ?_
 repeat (first | refine q_Z ?_ | ((first | apply q_K rfl | apply q_X rfl); (exact q_H)) | refine q_U ?_)
 refine zw (fun k : Nat => [(0, .d (.sl (L.flatMap plstD) L.length)), (1, .fn f caps), (7, intA (L.length : Int)), (8, intA (k : Int))]) (fun _ => []) (fun k => k ≤ L.length ∧ ∀ j (hj : j < L.length), j < k → p L[j] = false) (fun k => L.length - k) 0 ⟨Nat.zero_le _, fun j _ h => absurd h (Nat.not_lt_zero j)⟩ (q_S) ?_
 rintro k ⟨hk, hall⟩
 try dsimp only
 by_cases hkL : k < L.length
 ·have hq := hf _ (List.getElem_mem hkL)
  have hw := zn zbI L k 2 hkL (by decide)
  cases hp : p L[k] with
  | true =>
   rw [hp] at hq
   repeat (first | refine q_Z ?_ | ((first | apply q_K rfl | apply q_X rfl); (first | exact q_A | exact q_R (w := hw) | exact q_B)) | refine q_U ?_ | (refine O_cF rfl rfl rfl rfl rfl rfl hq (fun _ => rfl) ?_))
   refine zk rfl ⟨?_, rfl⟩
   rw [za4 p L k hkL (fun j hj => hall j (by omega) hj) hp]
  | false =>
   rw [hp] at hq
   repeat (first | refine q_Z ?_ | ((first | apply q_K rfl | apply q_X rfl); (first | exact q_A | exact q_R (w := hw) | exact q_B)) | refine q_U ?_ | (refine O_cF rfl rfl rfl rfl rfl rfl hq (fun _ => rfl) ?_))
   refine ⟨k + 1, ⟨by omega, fun j hj h => ?_⟩, by omega, q_S⟩
   by_cases hjk : j = k
   ·subst hjk; exact hp
   ·exact hall j hj (by omega)
 ·
  repeat (first | refine q_Z ?_ | ((first | apply q_K rfl | apply q_X rfl); (exact q_H)) | refine q_U ?_)
  refine zk rfl ⟨?_, rfl⟩
  rw [zav p L fun x hx => by
   obtain ⟨j, hj, rfl⟩ := List.mem_iff_getElem.1 hx
   exact hall j hj (by omega)]; rfl
theorem zjP (L : List CLst) (f : FuncId) (caps : List AVal) (p : CLst → Bool) (hf : ∀ x ∈ L, ACall Tryz.prog f ([aggD (clstD x)] ++ caps) [] (Just (boolA (p x)))) (hn : L.length ≤ 1000000000) :
  ACall Tryz.prog 94 [.d (.sl (L.flatMap clstD) L.length), .fn f caps] [] (Just (intA (idxOf p L))) := by
 refine zf za Tryz.func94 rfl Tryz.ntmps94 (congrArg Array.toList Tryz.results94) (by kernel_rfl) rfl ?_
 repeat (first | refine q_Z ?_ | ((first | apply q_K rfl | apply q_X rfl); (exact q_H)) | refine q_U ?_)
 refine zw (fun k : Nat => [(0, .d (.sl (L.flatMap clstD) L.length)), (1, .fn f caps), (7, intA (L.length : Int)), (8, intA (k : Int))]) (fun _ => []) (fun k => k ≤ L.length ∧ ∀ j (hj : j < L.length), j < k → p L[j] = false) (fun k => L.length - k) 0 ⟨Nat.zero_le _, fun j _ h => absurd h (Nat.not_lt_zero j)⟩ (q_S) ?_
 rintro k ⟨hk, hall⟩
 try dsimp only
 by_cases hkL : k < L.length
 ·have hq := hf _ (List.getElem_mem hkL)
  have hw := zn zbL L k 2 hkL (by decide)
  cases hp : p L[k] with
  | true =>
   rw [hp] at hq
   repeat (first | refine q_Z ?_ | ((first | apply q_K rfl | apply q_X rfl); (first | exact q_A | exact q_R (w := hw) | exact q_B)) | refine q_U ?_ | (refine O_cF rfl rfl rfl rfl rfl rfl hq (fun _ => rfl) ?_))
   refine zk rfl ⟨?_, rfl⟩
   rw [za4 p L k hkL (fun j hj => hall j (by omega) hj) hp]
  | false =>
   rw [hp] at hq
   repeat (first | refine q_Z ?_ | ((first | apply q_K rfl | apply q_X rfl); (first | exact q_A | exact q_R (w := hw) | exact q_B)) | refine q_U ?_ | (refine O_cF rfl rfl rfl rfl rfl rfl hq (fun _ => rfl) ?_))
   refine ⟨k + 1, ⟨by omega, fun j hj h => ?_⟩, by omega, q_S⟩
   by_cases hjk : j = k
   ·subst hjk; exact hp
   ·exact hall j hj (by omega)
 ·
  repeat (first | refine q_Z ?_ | ((first | apply q_K rfl | apply q_X rfl); (exact q_H)) | refine q_U ?_)
  refine zk rfl ⟨?_, rfl⟩
  rw [zav p L fun x hx => by
   obtain ⟨j, hj, rfl⟩ := List.mem_iff_getElem.1 hx
   exact hall j hj (by omega)]; rfl
theorem zlo (L : List Pol) (f : FuncId) (caps : List AVal) (p : Pol → Bool) (hf : ∀ x ∈ L, ACall Tryz.prog f ([aggD (polD x)] ++ caps) [] (Just (boolA (p x)))) (hn : L.length ≤ 1000000000) :
  ACall Tryz.prog 63 [.d (.sl (L.flatMap polD) L.length), .fn f caps] [] (Just (intA (idxOf p L))) := by
 refine zf za Tryz.func63 rfl Tryz.ntmps63 (congrArg Array.toList Tryz.results63) (by kernel_rfl) rfl ?_
 repeat (first | refine q_Z ?_ | ((first | apply q_K rfl | apply q_X rfl); (exact q_H)) | refine q_U ?_)
 refine zw (fun k : Nat => [(0, .d (.sl (L.flatMap polD) L.length)), (1, .fn f caps), (7, intA (L.length : Int)), (8, intA (k : Int))]) (fun _ => []) (fun k => k ≤ L.length ∧ ∀ j (hj : j < L.length), j < k → p L[j] = false) (fun k => L.length - k) 0 ⟨Nat.zero_le _, fun j _ h => absurd h (Nat.not_lt_zero j)⟩ (q_S) ?_
 rintro k ⟨hk, hall⟩
 try dsimp only
 by_cases hkL : k < L.length
 ·have hq := hf _ (List.getElem_mem hkL)
  have hw := zn zdp L k 3 hkL (by decide)
  cases hp : p L[k] with
  | true =>
   rw [hp] at hq
   repeat (first | refine q_Z ?_ | ((first | apply q_K rfl | apply q_X rfl); (first | exact q_A | exact q_R (w := hw) | exact q_B)) | refine q_U ?_ | (refine O_cF rfl rfl rfl rfl rfl rfl hq (fun _ => rfl) ?_))
   refine zk rfl ⟨?_, rfl⟩
   rw [za4 p L k hkL (fun j hj => hall j (by omega) hj) hp]
  | false =>
   rw [hp] at hq
   repeat (first | refine q_Z ?_ | ((first | apply q_K rfl | apply q_X rfl); (first | exact q_A | exact q_R (w := hw) | exact q_B)) | refine q_U ?_ | (refine O_cF rfl rfl rfl rfl rfl rfl hq (fun _ => rfl) ?_))
   refine ⟨k + 1, ⟨by omega, fun j hj h => ?_⟩, by omega, q_S⟩
   by_cases hjk : j = k
   ·subst hjk; exact hp
   ·exact hall j hj (by omega)
 ·
  repeat (first | refine q_Z ?_ | ((first | apply q_K rfl | apply q_X rfl); (exact q_H)) | refine q_U ?_)
  refine zk rfl ⟨?_, rfl⟩
  rw [zav p L fun x hx => by
   obtain ⟨j, hj, rfl⟩ := List.mem_iff_getElem.1 hx
   exact hall j hj (by omega)]; rfl
theorem zlq (L : List LEnt) (f : FuncId) (caps : List AVal) (p : LEnt → Bool) (hf : ∀ x ∈ L, ACall Tryz.prog f ([aggD (lentD x)] ++ caps) [] (Just (boolA (p x)))) (hn : L.length ≤ 1000000000) :
  ACall Tryz.prog 144 [.d (.sl (L.flatMap lentD) L.length), .fn f caps] [] (Just (intA (idxOf p L))) := by
 refine zf za Tryz.func144 rfl Tryz.ntmps144 (congrArg Array.toList Tryz.results144) (by kernel_rfl) rfl ?_
 repeat (first | refine q_Z ?_ | ((first | apply q_K rfl | apply q_X rfl); (exact q_H)) | refine q_U ?_)
 refine zw (fun k : Nat => [(0, .d (.sl (L.flatMap lentD) L.length)), (1, .fn f caps), (7, intA (L.length : Int)), (8, intA (k : Int))]) (fun _ => []) (fun k => k ≤ L.length ∧ ∀ j (hj : j < L.length), j < k → p L[j] = false) (fun k => L.length - k) 0 ⟨Nat.zero_le _, fun j _ h => absurd h (Nat.not_lt_zero j)⟩ (q_S) ?_
 rintro k ⟨hk, hall⟩
 try dsimp only
 by_cases hkL : k < L.length
 ·have hq := hf _ (List.getElem_mem hkL)
  have hw := zn zcU L k 5 hkL (by decide)
  cases hp : p L[k] with
  | true =>
   rw [hp] at hq
   repeat (first | refine q_Z ?_ | ((first | apply q_K rfl | apply q_X rfl); (first | exact q_A | exact q_R (w := hw) | exact q_B)) | refine q_U ?_ | (refine O_cF rfl rfl rfl rfl rfl rfl hq (fun _ => rfl) ?_))
   refine zk rfl ⟨?_, rfl⟩
   rw [za4 p L k hkL (fun j hj => hall j (by omega) hj) hp]
  | false =>
   rw [hp] at hq
   repeat (first | refine q_Z ?_ | ((first | apply q_K rfl | apply q_X rfl); (first | exact q_A | exact q_R (w := hw) | exact q_B)) | refine q_U ?_ | (refine O_cF rfl rfl rfl rfl rfl rfl hq (fun _ => rfl) ?_))
   refine ⟨k + 1, ⟨by omega, fun j hj h => ?_⟩, by omega, q_S⟩
   by_cases hjk : j = k
   ·subst hjk; exact hp
   ·exact hall j hj (by omega)
 ·
  repeat (first | refine q_Z ?_ | ((first | apply q_K rfl | apply q_X rfl); (exact q_H)) | refine q_U ?_)
  refine zk rfl ⟨?_, rfl⟩
  rw [zav p L fun x hx => by
   obtain ⟨j, hj, rfl⟩ := List.mem_iff_getElem.1 hx
   exact hall j hj (by omega)]; rfl
theorem zlp (L : List Mem) (f : FuncId) (caps : List AVal) (p : Mem → Bool) (hf : ∀ x ∈ L, ACall Tryz.prog f ([aggD (memD x)] ++ caps) [] (Just (boolA (p x)))) (hn : L.length ≤ 1000000000) :
  ACall Tryz.prog 146 [.d (.sl (L.flatMap memD) L.length), .fn f caps] [] (Just (intA (idxOf p L))) := by
 refine zf za Tryz.func146 rfl Tryz.ntmps146 (congrArg Array.toList Tryz.results146) (by kernel_rfl) rfl ?_
 repeat (first | refine q_Z ?_ | ((first | apply q_K rfl | apply q_X rfl); (exact q_H)) | refine q_U ?_)
 refine zw (fun k : Nat => [(0, .d (.sl (L.flatMap memD) L.length)), (1, .fn f caps), (7, intA (L.length : Int)), (8, intA (k : Int))]) (fun _ => []) (fun k => k ≤ L.length ∧ ∀ j (hj : j < L.length), j < k → p L[j] = false) (fun k => L.length - k) 0 ⟨Nat.zero_le _, fun j _ h => absurd h (Nat.not_lt_zero j)⟩ (q_S) ?_
 rintro k ⟨hk, hall⟩
 try dsimp only
 by_cases hkL : k < L.length
 ·have hq := hf _ (List.getElem_mem hkL)
  have hw := zn zdt L k 2 hkL (by decide)
  cases hp : p L[k] with
  | true =>
   rw [hp] at hq
   repeat (first | refine q_Z ?_ | ((first | apply q_K rfl | apply q_X rfl); (first | exact q_A | exact q_R (w := hw) | exact q_B)) | refine q_U ?_ | (refine O_cF rfl rfl rfl rfl rfl rfl hq (fun _ => rfl) ?_))
   refine zk rfl ⟨?_, rfl⟩
   rw [za4 p L k hkL (fun j hj => hall j (by omega) hj) hp]
  | false =>
   rw [hp] at hq
   repeat (first | refine q_Z ?_ | ((first | apply q_K rfl | apply q_X rfl); (first | exact q_A | exact q_R (w := hw) | exact q_B)) | refine q_U ?_ | (refine O_cF rfl rfl rfl rfl rfl rfl hq (fun _ => rfl) ?_))
   refine ⟨k + 1, ⟨by omega, fun j hj h => ?_⟩, by omega, q_S⟩
   by_cases hjk : j = k
   ·subst hjk; exact hp
   ·exact hall j hj (by omega)
 ·
  repeat (first | refine q_Z ?_ | ((first | apply q_K rfl | apply q_X rfl); (exact q_H)) | refine q_U ?_)
  refine zk rfl ⟨?_, rfl⟩
  rw [zav p L fun x hx => by
   obtain ⟨j, hj, rfl⟩ := List.mem_iff_getElem.1 hx
   exact hall j hj (by omega)]; rfl
theorem zoW (L : List Int) (f : FuncId) (caps : List AVal) (p : Int → Bool) (hf : ∀ x ∈ L, ACall Tryz.prog f ([u32A x] ++ caps) [] (Just (boolA (p x)))) (hn : L.length ≤ 1000000000) :
  ACall Tryz.prog 124 [.d (.sl (L.flatMap u1D) L.length), .fn f caps] [] (Just (intA (idxOf p L))) := by
 refine zf za Tryz.func124 rfl Tryz.ntmps124 (congrArg Array.toList Tryz.results124) (by kernel_rfl) rfl ?_
 repeat (first | refine q_Z ?_ | ((first | apply q_K rfl | apply q_X rfl); (exact q_H)) | refine q_U ?_)
 refine zw (fun k : Nat => [(0, .d (.sl (L.flatMap u1D) L.length)), (1, .fn f caps), (7, intA (L.length : Int)), (8, intA (k : Int))]) (fun _ => []) (fun k => k ≤ L.length ∧ ∀ j (hj : j < L.length), j < k → p L[j] = false) (fun k => L.length - k) 0 ⟨Nat.zero_le _, fun j _ h => absurd h (Nat.not_lt_zero j)⟩ (q_S) ?_
 rintro k ⟨hk, hall⟩
 try dsimp only
 by_cases hkL : k < L.length
 ·have hq := hf _ (List.getElem_mem hkL)
  have hw := zn zV L k 1 hkL (by decide)
  cases hp : p L[k] with
  | true =>
   rw [hp] at hq
   repeat (first | refine q_Z ?_ | ((first | apply q_K rfl | apply q_X rfl); (first | exact q_A | exact q_R (w := hw) | exact q_B)) | refine q_U ?_ | (refine O_cF rfl rfl rfl rfl rfl rfl hq (fun _ => rfl) ?_))
   refine zk rfl ⟨?_, rfl⟩
   rw [za4 p L k hkL (fun j hj => hall j (by omega) hj) hp]
  | false =>
   rw [hp] at hq
   repeat (first | refine q_Z ?_ | ((first | apply q_K rfl | apply q_X rfl); (first | exact q_A | exact q_R (w := hw) | exact q_B)) | refine q_U ?_ | (refine O_cF rfl rfl rfl rfl rfl rfl hq (fun _ => rfl) ?_))
   refine ⟨k + 1, ⟨by omega, fun j hj h => ?_⟩, by omega, q_S⟩
   by_cases hjk : j = k
   ·subst hjk; exact hp
   ·exact hall j hj (by omega)
 ·
  repeat (first | refine q_Z ?_ | ((first | apply q_K rfl | apply q_X rfl); (exact q_H)) | refine q_U ?_)
  refine zk rfl ⟨?_, rfl⟩
  rw [zav p L fun x hx => by
   obtain ⟨j, hj, rfl⟩ := List.mem_iff_getElem.1 hx
   exact hall j hj (by omega)]; rfl
end Go.Proofs.YtmmdkjanmegjdaaGreat.Ab

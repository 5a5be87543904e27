/-
 Texts of a proof, one behind the other (part 21).
-/
import Derived.Test.YtoahnbmedcjpeaaGreatDoorMn3
import Derived.Test.YtoahnbmedcjpeaaGreatDoorMn19
set_option linter.unusedSimpArgs false
set_option linter.unusedVariables false
namespace Go.Proofs.YtoahnbmedcjpeaaGreatDoor.Ab
set_option maxRecDepth 100000
open Go.RowKit Go.Lib
theorem zbJ {α : Type} (p : α → Bool) (L : List α) : decide (idxOf p L ≥ 0) = L.any p := by
 induction L with
 | nil => rfl
 | cons x r ih =>
  rw [List.any_cons, ← ih]
  have := zeo p r
  rw [show idxOf p (x :: r) = if p x = true then 0 else if idxOf p r = -1 then -1 else idxOf p r + 1 from rfl]
  by_cases hx : p x = true
  ·rw [if_pos hx, hx, Bool.true_or]; rfl
  ·rw [if_neg hx, show p x = false by simpa using hx, Bool.false_or]
   by_cases h1 : idxOf p r = -1
   ·rw [if_pos h1, h1]
   ·rw [if_neg h1, decide_eq_true (show idxOf p r + 1 ≥ (0 : Int) by omega), decide_eq_true (show idxOf p r ≥ (0 : Int) by omega)]
attribute [local irreducible] AWp AOps AQ AYield AEff ACall AWk AAny AAt AThen AIn APost NoPanic
theorem zkH (L : List Ifx) (f : FuncId) (caps : List AVal) (p : Ifx → Bool) (hf : ∀ x ∈ L, ACall Tryz.prog f ([aggD (ifxD x)] ++ caps) [] (Just (boolA (p x)))) (hn : L.length ≤ 140737488355328) :
  ACall Tryz.prog 35 [.d (.sl (L.flatMap ifxD) L.length), .fn f caps] [] (Just (intA (idxOf p L))) := by
 refine zc za Tryz.func35 rfl Tryz.ntmps35 (congrArg Array.toList Tryz.results35) (by kernel_rfl) rfl ?_
 repeat (first | refine q_Z ?_ | ((first | apply q_K rfl | apply q_X rfl); (exact q_H)) | refine q_U ?_)
 refine zw (fun k : Nat => [(0, .d (.sl (L.flatMap ifxD) L.length)), (1, .fn f caps), (7, intA (L.length : Int)), (8, intA (k : Int))]) (fun _ => []) (fun k => k ≤ L.length ∧ ∀ j (hj : j < L.length), j < k → p L[j] = false) (fun k => L.length - k) 0 ⟨Nat.zero_le _, fun j _ h => absurd h (Nat.not_lt_zero j)⟩ (q_S) ?_
 rintro k ⟨hk, hall⟩
 try dsimp only
 by_cases hkL : k < L.length
 ·have hq := hf _ (List.getElem_mem hkL)
  have hw := zj za4 L k 11 hkL (by decide)
  cases hp : p L[k] with
  | true =>
   rw [hp] at hq
   repeat (first | refine q_Z ?_ | ((first | apply q_K rfl | apply q_X rfl); (first | exact q_A | exact q_R (w := hw) | exact q_B)) | refine q_U ?_ | (refine O_cF rfl rfl rfl rfl rfl rfl hq (fun _ => rfl) ?_))
   refine zo rfl ⟨?_, rfl⟩
   rw [zY p L k hkL (fun j hj => hall j (by omega) hj) hp]
  | false =>
   rw [hp] at hq
   repeat (first | refine q_Z ?_ | ((first | apply q_K rfl | apply q_X rfl); (first | exact q_A | exact q_R (w := hw) | exact q_B)) | refine q_U ?_ | (refine O_cF rfl rfl rfl rfl rfl rfl hq (fun _ => rfl) ?_))
   refine ⟨k + 1, ⟨by omega, fun j hj h => ?_⟩, by omega, q_S⟩
   by_cases hjk : j = k
   ·subst hjk; exact hp
   ·exact hall j hj (by omega)
 ·
  repeat (first | refine q_Z ?_ | ((first | apply q_K rfl | apply q_X rfl); (exact q_H)) | refine q_U ?_)
  refine zo rfl ⟨?_, rfl⟩
  rw [zN p L fun x hx => by
   obtain ⟨j, hj, rfl⟩ := List.mem_iff_getElem.1 hx
   exact hall j hj (by omega)]; rfl
theorem ziD (L : List Ifx) (g : FuncId) (i : Nat) (hi : i < L.length) (nm : Ifx → List UInt8) (hg : ∀ x, ACall Tryz.prog g [aggD (ifxD x)] [] (Just (strA (nm x)))) (x : Ifx) :
  ACall Tryz.prog 240 ([aggD (ifxD x)] ++ [.iptr [.sc (.func (.func g) #[] #[])] 0, .iptr [.sl (L.flatMap ifxD) L.length] 0, .iptr [.sc (.int .i64 (i : Int))] 0]) [] (Just (boolA (decide (nm x = nm L[i])))) := by
 have h1 := hg x
 have h2 := hg L[i]
 have hw := zj za4 L i 11 hi (by decide)
 refine zc za Tryz.func240 rfl Tryz.ntmps240 (congrArg Array.toList Tryz.results240) (by kernel_rfl) rfl ?_
 repeat (first | refine q_Y ?_ | ((first | apply q_K rfl | apply q_X rfl); (first | exact q_A | exact q_R (w := (by first | exact hw | rfl)) | exact q_B | (exact zaY rfl rfl rfl rfl))) | refine q_U ?_ | (first | refine zaj rfl rfl rfl rfl rfl rfl h1 rfl (fun _ _ _ => zB _ _ _ _ _ rfl rfl) ?_ | refine zaj rfl rfl rfl rfl rfl rfl h2 rfl (fun _ _ _ => zB _ _ _ _ _ rfl rfl) ?_))
 exact zo rfl ⟨rfl, rfl⟩
theorem zjX (L : List Ifx) (g : FuncId) (i : Nat) (hi : i < L.length) (nm : Ifx → List UInt8) (hg : ∀ x, ACall Tryz.prog g [aggD (ifxD x)] [] (Just (strA (nm x)))) (hn : L.length ≤ 140737488355328) :
  ACall Tryz.prog 188 [.d (.sl (L.flatMap ifxD) L.length), .d (.sc (.int .i64 (i : Int))), .fn g []] [] (Just (boolA (fstB nm L i))) := by
 have hq := zkH L 240 [.iptr [.sc (.func (.func g) #[] #[])] 0, .iptr [.sl (L.flatMap ifxD) L.length] 0, .iptr [.sc (.int .i64 (i : Int))] 0] (fun x => decide (nm x = nm L[i])) (fun x _ => ziD L g i hi nm hg x) hn
 unfold fstB
 rw [List.getElem?_eq_getElem hi]
 obtain ⟨b, hb⟩ : ∃ b, idxOf (fun x => decide (nm x = nm L[i])) L = b := ⟨_, rfl⟩
 dsimp only
 rw [hb] at hq ⊢
 refine zc za Tryz.func188 rfl Tryz.ntmps188 (congrArg Array.toList Tryz.results188) (by kernel_rfl) rfl ?_
 refine zf (z8 (t := 2) rfl (zad g)) ?_
 refine zn ?_
 refine ze ?_
 iterate 3 refine q_d ?_
 apply O_y rfl rfl rfl
 exact q_2
 refine zi ?_
 refine q_j ?_
 refine zf (zr (id := 3) (ds := [.sl (L.flatMap ifxD) L.length]) rfl rfl) ?_
 refine zf (zr (id := 4) (ds := [.sc (.int .i64 (i : Int))]) rfl rfl) ?_
 refine zf (zr (id := 5) (ds := [.sc (.func (.func g) #[] #[])]) rfl rfl) ?_
 repeat (first | refine q_Y ?_ | ((first | apply q_K rfl | apply q_X rfl); (first | exact q_H | (exact zK rfl rfl))) | refine q_U ?_ | (refine q_Q hq ?_))
 refine zo rfl ⟨?_, rfl⟩
 rfl
theorem zkI (L : List Fil) (f : FuncId) (caps : List AVal) (p : Fil → Bool) (hf : ∀ x ∈ L, ACall Tryz.prog f ([aggD (filD x)] ++ caps) [] (Just (boolA (p x)))) (hn : L.length ≤ 140737488355328) :
  ACall Tryz.prog 189 [.d (.sl (L.flatMap filD) L.length), .fn f caps] [] (Just (intA (idxOf p L))) := by
 refine zc za Tryz.func189 rfl Tryz.ntmps189 (congrArg Array.toList Tryz.results189) (by kernel_rfl) rfl ?_
 repeat (first | refine q_Z ?_ | ((first | apply q_K rfl | apply q_X rfl); (exact q_H)) | refine q_U ?_)
 refine zw (fun k : Nat => [(0, .d (.sl (L.flatMap filD) L.length)), (1, .fn f caps), (7, intA (L.length : Int)), (8, intA (k : Int))]) (fun _ => []) (fun k => k ≤ L.length ∧ ∀ j (hj : j < L.length), j < k → p L[j] = false) (fun k => L.length - k) 0 ⟨Nat.zero_le _, fun j _ h => absurd h (Nat.not_lt_zero j)⟩ (q_S) ?_
 rintro k ⟨hk, hall⟩
 try dsimp only
 by_cases hkL : k < L.length
 ·have hq := hf _ (List.getElem_mem hkL)
  have hw := zj zaE L k 2 hkL (by decide)
  cases hp : p L[k] with
  | true =>
   rw [hp] at hq
   repeat (first | refine q_Z ?_ | ((first | apply q_K rfl | apply q_X rfl); (first | exact q_A | exact q_R (w := hw) | exact q_B)) | refine q_U ?_ | (refine O_cF rfl rfl rfl rfl rfl rfl hq (fun _ => rfl) ?_))
   refine zo rfl ⟨?_, rfl⟩
   rw [zY p L k hkL (fun j hj => hall j (by omega) hj) hp]
  | false =>
   rw [hp] at hq
   repeat (first | refine q_Z ?_ | ((first | apply q_K rfl | apply q_X rfl); (first | exact q_A | exact q_R (w := hw) | exact q_B)) | refine q_U ?_ | (refine O_cF rfl rfl rfl rfl rfl rfl hq (fun _ => rfl) ?_))
   refine ⟨k + 1, ⟨by omega, fun j hj h => ?_⟩, by omega, q_S⟩
   by_cases hjk : j = k
   ·subst hjk; exact hp
   ·exact hall j hj (by omega)
 ·
  repeat (first | refine q_Z ?_ | ((first | apply q_K rfl | apply q_X rfl); (exact q_H)) | refine q_U ?_)
  refine zo rfl ⟨?_, rfl⟩
  rw [zN p L fun x hx => by
   obtain ⟨j, hj, rfl⟩ := List.mem_iff_getElem.1 hx
   exact hall j hj (by omega)]; rfl
theorem ziE (L : List Fil) (g : FuncId) (i : Nat) (hi : i < L.length) (nm : Fil → List UInt8) (hg : ∀ x, ACall Tryz.prog g [aggD (filD x)] [] (Just (strA (nm x)))) (x : Fil) :
  ACall Tryz.prog 190 ([aggD (filD x)] ++ [.iptr [.sc (.func (.func g) #[] #[])] 0, .iptr [.sl (L.flatMap filD) L.length] 0, .iptr [.sc (.int .i64 (i : Int))] 0]) [] (Just (boolA (decide (nm x = nm L[i])))) := by
 have h1 := hg x
 have h2 := hg L[i]
 have hw := zj zaE L i 2 hi (by decide)
 refine zc za Tryz.func190 rfl Tryz.ntmps190 (congrArg Array.toList Tryz.results190) (by kernel_rfl) rfl ?_
 repeat (first | refine q_Y ?_ | ((first | apply q_K rfl | apply q_X rfl); (first | exact q_A | exact q_R (w := (by first | exact hw | rfl)) | exact q_B | (exact zaY rfl rfl rfl rfl))) | refine q_U ?_ | (first | refine zaj rfl rfl rfl rfl rfl rfl h1 rfl (fun _ _ _ => zB _ _ _ _ _ rfl rfl) ?_ | refine zaj rfl rfl rfl rfl rfl rfl h2 rfl (fun _ _ _ => zB _ _ _ _ _ rfl rfl) ?_))
 exact zo rfl ⟨rfl, rfl⟩
theorem zjY (L : List Fil) (g : FuncId) (i : Nat) (hi : i < L.length) (nm : Fil → List UInt8) (hg : ∀ x, ACall Tryz.prog g [aggD (filD x)] [] (Just (strA (nm x)))) (hn : L.length ≤ 140737488355328) :
  ACall Tryz.prog 123 [.d (.sl (L.flatMap filD) L.length), .d (.sc (.int .i64 (i : Int))), .fn g []] [] (Just (boolA (fstB nm L i))) := by
 have hq := zkI L 190 [.iptr [.sc (.func (.func g) #[] #[])] 0, .iptr [.sl (L.flatMap filD) L.length] 0, .iptr [.sc (.int .i64 (i : Int))] 0] (fun x => decide (nm x = nm L[i])) (fun x _ => ziE L g i hi nm hg x) hn
 unfold fstB
 rw [List.getElem?_eq_getElem hi]
 obtain ⟨b, hb⟩ : ∃ b, idxOf (fun x => decide (nm x = nm L[i])) L = b := ⟨_, rfl⟩
 dsimp only
 rw [hb] at hq ⊢
 refine zc za Tryz.func123 rfl Tryz.ntmps123 (congrArg Array.toList Tryz.results123) (by kernel_rfl) rfl ?_
 refine zf (z8 (t := 2) rfl (zad g)) ?_
 refine zn ?_
 refine ze ?_
 iterate 3 refine q_d ?_
 apply O_y rfl rfl rfl
 exact q_2
 refine zi ?_
 refine q_j ?_
 refine zf (zr (id := 3) (ds := [.sl (L.flatMap filD) L.length]) rfl rfl) ?_
 refine zf (zr (id := 4) (ds := [.sc (.int .i64 (i : Int))]) rfl rfl) ?_
 refine zf (zr (id := 5) (ds := [.sc (.func (.func g) #[] #[])]) rfl rfl) ?_
 repeat (first | refine q_Y ?_ | ((first | apply q_K rfl | apply q_X rfl); (first | exact q_H | (exact zK rfl rfl))) | refine q_U ?_ | (refine q_Q hq ?_))
 refine zo rfl ⟨?_, rfl⟩
 rfl
theorem zkD (L : List PLst) (f : FuncId) (caps : List AVal) (p : PLst → Bool) (hf : ∀ x ∈ L, ACall Tryz.prog f ([aggD (plstD x)] ++ caps) [] (Just (boolA (p x)))) (hn : L.length ≤ 140737488355328) :
  ACall Tryz.prog 195 [.d (.sl (L.flatMap plstD) L.length), .fn f caps] [] (Just (intA (idxOf p L))) := by
 refine zc za Tryz.func195 rfl Tryz.ntmps195 (congrArg Array.toList Tryz.results195) (by kernel_rfl) rfl ?_
 repeat (first | refine q_Z ?_ | ((first | apply q_K rfl | apply q_X rfl); (exact q_H)) | refine q_U ?_)
 refine zw (fun k : Nat => [(0, .d (.sl (L.flatMap plstD) L.length)), (1, .fn f caps), (7, intA (L.length : Int)), (8, intA (k : Int))]) (fun _ => []) (fun k => k ≤ L.length ∧ ∀ j (hj : j < L.length), j < k → p L[j] = false) (fun k => L.length - k) 0 ⟨Nat.zero_le _, fun j _ h => absurd h (Nat.not_lt_zero j)⟩ (q_S) ?_
 rintro k ⟨hk, hall⟩
 try dsimp only
 by_cases hkL : k < L.length
 ·have hq := hf _ (List.getElem_mem hkL)
  have hw := zj zas L k 2 hkL (by decide)
  cases hp : p L[k] with
  | true =>
   rw [hp] at hq
   repeat (first | refine q_Z ?_ | ((first | apply q_K rfl | apply q_X rfl); (first | exact q_A | exact q_R (w := hw) | exact q_B)) | refine q_U ?_ | (refine O_cF rfl rfl rfl rfl rfl rfl hq (fun _ => rfl) ?_))
   refine zo rfl ⟨?_, rfl⟩
   rw [zY p L k hkL (fun j hj => hall j (by omega) hj) hp]
  | false =>
   rw [hp] at hq
   repeat (first | refine q_Z ?_ | ((first | apply q_K rfl | apply q_X rfl); (first | exact q_A | exact q_R (w := hw) | exact q_B)) | refine q_U ?_ | (refine O_cF rfl rfl rfl rfl rfl rfl hq (fun _ => rfl) ?_))
   refine ⟨k + 1, ⟨by omega, fun j hj h => ?_⟩, by omega, q_S⟩
   by_cases hjk : j = k
   ·subst hjk; exact hp
   ·exact hall j hj (by omega)
 ·
  repeat (first | refine q_Z ?_ | ((first | apply q_K rfl | apply q_X rfl); (exact q_H)) | refine q_U ?_)
  refine zo rfl ⟨?_, rfl⟩
  rw [zN p L fun x hx => by
   obtain ⟨j, hj, rfl⟩ := List.mem_iff_getElem.1 hx
   exact hall j hj (by omega)]; rfl
theorem ziB (L : List PLst) (g : FuncId) (i : Nat) (hi : i < L.length) (nm : PLst → List UInt8) (hg : ∀ x, ACall Tryz.prog g [aggD (plstD x)] [] (Just (strA (nm x)))) (x : PLst) :
  ACall Tryz.prog 196 ([aggD (plstD x)] ++ [.iptr [.sc (.func (.func g) #[] #[])] 0, .iptr [.sl (L.flatMap plstD) L.length] 0, .iptr [.sc (.int .i64 (i : Int))] 0]) [] (Just (boolA (decide (nm x = nm L[i])))) := by
 have h1 := hg x
 have h2 := hg L[i]
 have hw := zj zas L i 2 hi (by decide)
 refine zc za Tryz.func196 rfl Tryz.ntmps196 (congrArg Array.toList Tryz.results196) (by kernel_rfl) rfl ?_
 repeat (first | refine q_Y ?_ | ((first | apply q_K rfl | apply q_X rfl); (first | exact q_A | exact q_R (w := (by first | exact hw | rfl)) | exact q_B | (exact zaY rfl rfl rfl rfl))) | refine q_U ?_ | (first | refine zaj rfl rfl rfl rfl rfl rfl h1 rfl (fun _ _ _ => zB _ _ _ _ _ rfl rfl) ?_ | refine zaj rfl rfl rfl rfl rfl rfl h2 rfl (fun _ _ _ => zB _ _ _ _ _ rfl rfl) ?_))
 exact zo rfl ⟨rfl, rfl⟩
theorem zjV (L : List PLst) (g : FuncId) (i : Nat) (hi : i < L.length) (nm : PLst → List UInt8) (hg : ∀ x, ACall Tryz.prog g [aggD (plstD x)] [] (Just (strA (nm x)))) (hn : L.length ≤ 140737488355328) :
  ACall Tryz.prog 130 [.d (.sl (L.flatMap plstD) L.length), .d (.sc (.int .i64 (i : Int))), .fn g []] [] (Just (boolA (fstB nm L i))) := by
 have hq := zkD L 196 [.iptr [.sc (.func (.func g) #[] #[])] 0, .iptr [.sl (L.flatMap plstD) L.length] 0, .iptr [.sc (.int .i64 (i : Int))] 0] (fun x => decide (nm x = nm L[i])) (fun x _ => ziB L g i hi nm hg x) hn
 unfold fstB
 rw [List.getElem?_eq_getElem hi]
 obtain ⟨b, hb⟩ : ∃ b, idxOf (fun x => decide (nm x = nm L[i])) L = b := ⟨_, rfl⟩
 dsimp only
 rw [hb] at hq ⊢
 refine zc za Tryz.func130 rfl Tryz.ntmps130 (congrArg Array.toList Tryz.results130) (by kernel_rfl) rfl ?_
 refine zf (z8 (t := 2) rfl (zad g)) ?_
 refine zn ?_
 refine ze ?_
 iterate 3 refine q_d ?_
 apply O_y rfl rfl rfl
 exact q_2
 refine zi ?_
 refine q_j ?_
 refine zf (zr (id := 3) (ds := [.sl (L.flatMap plstD) L.length]) rfl rfl) ?_
 refine zf (zr (id := 4) (ds := [.sc (.int .i64 (i : Int))]) rfl rfl) ?_
 refine zf (zr (id := 5) (ds := [.sc (.func (.func g) #[] #[])]) rfl rfl) ?_
 repeat (first | refine q_Y ?_ | ((first | apply q_K rfl | apply q_X rfl); (first | exact q_H | (exact zK rfl rfl))) | refine q_U ?_ | (refine q_Q hq ?_))
 refine zo rfl ⟨?_, rfl⟩
 rfl
theorem zkK (L : List CLst) (f : FuncId) (caps : List AVal) (p : CLst → Bool) (hf : ∀ x ∈ L, ACall Tryz.prog f ([aggD (clstD x)] ++ caps) [] (Just (boolA (p x)))) (hn : L.length ≤ 140737488355328) :
  ACall Tryz.prog 199 [.d (.sl (L.flatMap clstD) L.length), .fn f caps] [] (Just (intA (idxOf p L))) := by
 refine zc za Tryz.func199 rfl Tryz.ntmps199 (congrArg Array.toList Tryz.results199) (by kernel_rfl) rfl ?_
 repeat (first | refine q_Z ?_ | ((first | apply q_K rfl | apply q_X rfl); (exact q_H)) | refine q_U ?_)
 refine zw (fun k : Nat => [(0, .d (.sl (L.flatMap clstD) L.length)), (1, .fn f caps), (7, intA (L.length : Int)), (8, intA (k : Int))]) (fun _ => []) (fun k => k ≤ L.length ∧ ∀ j (hj : j < L.length), j < k → p L[j] = false) (fun k => L.length - k) 0 ⟨Nat.zero_le _, fun j _ h => absurd h (Nat.not_lt_zero j)⟩ (q_S) ?_
 rintro k ⟨hk, hall⟩
 try dsimp only
 by_cases hkL : k < L.length
 ·have hq := hf _ (List.getElem_mem hkL)
  have hw := zj zav L k 2 hkL (by decide)
  cases hp : p L[k] with
  | true =>
   rw [hp] at hq
   repeat (first | refine q_Z ?_ | ((first | apply q_K rfl | apply q_X rfl); (first | exact q_A | exact q_R (w := hw) | exact q_B)) | refine q_U ?_ | (refine O_cF rfl rfl rfl rfl rfl rfl hq (fun _ => rfl) ?_))
   refine zo rfl ⟨?_, rfl⟩
   rw [zY p L k hkL (fun j hj => hall j (by omega) hj) hp]
  | false =>
   rw [hp] at hq
   repeat (first | refine q_Z ?_ | ((first | apply q_K rfl | apply q_X rfl); (first | exact q_A | exact q_R (w := hw) | exact q_B)) | refine q_U ?_ | (refine O_cF rfl rfl rfl rfl rfl rfl hq (fun _ => rfl) ?_))
   refine ⟨k + 1, ⟨by omega, fun j hj h => ?_⟩, by omega, q_S⟩
   by_cases hjk : j = k
   ·subst hjk; exact hp
   ·exact hall j hj (by omega)
 ·
  repeat (first | refine q_Z ?_ | ((first | apply q_K rfl | apply q_X rfl); (exact q_H)) | refine q_U ?_)
  refine zo rfl ⟨?_, rfl⟩
  rw [zN p L fun x hx => by
   obtain ⟨j, hj, rfl⟩ := List.mem_iff_getElem.1 hx
   exact hall j hj (by omega)]; rfl
theorem ziF (L : List CLst) (g : FuncId) (i : Nat) (hi : i < L.length) (nm : CLst → List UInt8) (hg : ∀ x, ACall Tryz.prog g [aggD (clstD x)] [] (Just (strA (nm x)))) (x : CLst) :
  ACall Tryz.prog 200 ([aggD (clstD x)] ++ [.iptr [.sc (.func (.func g) #[] #[])] 0, .iptr [.sl (L.flatMap clstD) L.length] 0, .iptr [.sc (.int .i64 (i : Int))] 0]) [] (Just (boolA (decide (nm x = nm L[i])))) := by
 have h1 := hg x
 have h2 := hg L[i]
 have hw := zj zav L i 2 hi (by decide)
 refine zc za Tryz.func200 rfl Tryz.ntmps200 (congrArg Array.toList Tryz.results200) (by kernel_rfl) rfl ?_
 repeat (first | refine q_Y ?_ | ((first | apply q_K rfl | apply q_X rfl); (first | exact q_A | exact q_R (w := (by first | exact hw | rfl)) | exact q_B | (exact zaY rfl rfl rfl rfl))) | refine q_U ?_ | (first | refine zaj rfl rfl rfl rfl rfl rfl h1 rfl (fun _ _ _ => zB _ _ _ _ _ rfl rfl) ?_ | refine zaj rfl rfl rfl rfl rfl rfl h2 rfl (fun _ _ _ => zB _ _ _ _ _ rfl rfl) ?_))
 exact zo rfl ⟨rfl, rfl⟩
theorem zjZ (L : List CLst) (g : FuncId) (i : Nat) (hi : i < L.length) (nm : CLst → List UInt8) (hg : ∀ x, ACall Tryz.prog g [aggD (clstD x)] [] (Just (strA (nm x)))) (hn : L.length ≤ 140737488355328) :
  ACall Tryz.prog 133 [.d (.sl (L.flatMap clstD) L.length), .d (.sc (.int .i64 (i : Int))), .fn g []] [] (Just (boolA (fstB nm L i))) := by
 have hq := zkK L 200 [.iptr [.sc (.func (.func g) #[] #[])] 0, .iptr [.sl (L.flatMap clstD) L.length] 0, .iptr [.sc (.int .i64 (i : Int))] 0] (fun x => decide (nm x = nm L[i])) (fun x _ => ziF L g i hi nm hg x) hn
 unfold fstB
 rw [List.getElem?_eq_getElem hi]
 obtain ⟨b, hb⟩ : ∃ b, idxOf (fun x => decide (nm x = nm L[i])) L = b := ⟨_, rfl⟩
 dsimp only
 rw [hb] at hq ⊢
 refine zc za Tryz.func133 rfl Tryz.ntmps133 (congrArg Array.toList Tryz.results133) (by kernel_rfl) rfl ?_
 refine zf (z8 (t := 2) rfl (zad g)) ?_
 refine zn ?_
 refine ze ?_
 iterate 3 refine q_d ?_
 apply O_y rfl rfl rfl
 exact q_2
 refine zi ?_
 refine q_j ?_
 refine zf (zr (id := 3) (ds := [.sl (L.flatMap clstD) L.length]) rfl rfl) ?_
 refine zf (zr (id := 4) (ds := [.sc (.int .i64 (i : Int))]) rfl rfl) ?_
 refine zf (zr (id := 5) (ds := [.sc (.func (.func g) #[] #[])]) rfl rfl) ?_
 repeat (first | refine q_Y ?_ | ((first | apply q_K rfl | apply q_X rfl); (first | exact q_H | (exact zK rfl rfl))) | refine q_U ?_ | (refine q_Q hq ?_))
 refine zo rfl ⟨?_, rfl⟩
 rfl
theorem zkE (L : List Pol) (f : FuncId) (caps : List AVal) (p : Pol → Bool) (hf : ∀ x ∈ L, ACall Tryz.prog f ([aggD (polD x)] ++ caps) [] (Just (boolA (p x)))) (hn : L.length ≤ 140737488355328) :
  ACall Tryz.prog 204 [.d (.sl (L.flatMap polD) L.length), .fn f caps] [] (Just (intA (idxOf p L))) := by
 refine zc za Tryz.func204 rfl Tryz.ntmps204 (congrArg Array.toList Tryz.results204) (by kernel_rfl) rfl ?_
 repeat (first | refine q_Z ?_ | ((first | apply q_K rfl | apply q_X rfl); (exact q_H)) | refine q_U ?_)
 refine zw (fun k : Nat => [(0, .d (.sl (L.flatMap polD) L.length)), (1, .fn f caps), (7, intA (L.length : Int)), (8, intA (k : Int))]) (fun _ => []) (fun k => k ≤ L.length ∧ ∀ j (hj : j < L.length), j < k → p L[j] = false) (fun k => L.length - k) 0 ⟨Nat.zero_le _, fun j _ h => absurd h (Nat.not_lt_zero j)⟩ (q_S) ?_
 rintro k ⟨hk, hall⟩
 try dsimp only
 by_cases hkL : k < L.length
 ·have hq := hf _ (List.getElem_mem hkL)
  have hw := zj zaS L k 3 hkL (by decide)
  cases hp : p L[k] with
  | true =>
   rw [hp] at hq
   repeat (first | refine q_Z ?_ | ((first | apply q_K rfl | apply q_X rfl); (first | exact q_A | exact q_R (w := hw) | exact q_B)) | refine q_U ?_ | (refine O_cF rfl rfl rfl rfl rfl rfl hq (fun _ => rfl) ?_))
   refine zo rfl ⟨?_, rfl⟩
   rw [zY p L k hkL (fun j hj => hall j (by omega) hj) hp]
  | false =>
   rw [hp] at hq
   repeat (first | refine q_Z ?_ | ((first | apply q_K rfl | apply q_X rfl); (first | exact q_A | exact q_R (w := hw) | exact q_B)) | refine q_U ?_ | (refine O_cF rfl rfl rfl rfl rfl rfl hq (fun _ => rfl) ?_))
   refine ⟨k + 1, ⟨by omega, fun j hj h => ?_⟩, by omega, q_S⟩
   by_cases hjk : j = k
   ·subst hjk; exact hp
   ·exact hall j hj (by omega)
 ·
  repeat (first | refine q_Z ?_ | ((first | apply q_K rfl | apply q_X rfl); (exact q_H)) | refine q_U ?_)
  refine zo rfl ⟨?_, rfl⟩
  rw [zN p L fun x hx => by
   obtain ⟨j, hj, rfl⟩ := List.mem_iff_getElem.1 hx
   exact hall j hj (by omega)]; rfl
theorem ziC (L : List Pol) (g : FuncId) (i : Nat) (hi : i < L.length) (nm : Pol → List UInt8) (hg : ∀ x, ACall Tryz.prog g [aggD (polD x)] [] (Just (strA (nm x)))) (x : Pol) :
  ACall Tryz.prog 205 ([aggD (polD x)] ++ [.iptr [.sc (.func (.func g) #[] #[])] 0, .iptr [.sl (L.flatMap polD) L.length] 0, .iptr [.sc (.int .i64 (i : Int))] 0]) [] (Just (boolA (decide (nm x = nm L[i])))) := by
 have h1 := hg x
 have h2 := hg L[i]
 have hw := zj zaS L i 3 hi (by decide)
 refine zc za Tryz.func205 rfl Tryz.ntmps205 (congrArg Array.toList Tryz.results205) (by kernel_rfl) rfl ?_
 repeat (first | refine q_Y ?_ | ((first | apply q_K rfl | apply q_X rfl); (first | exact q_A | exact q_R (w := (by first | exact hw | rfl)) | exact q_B | (exact zaY rfl rfl rfl rfl))) | refine q_U ?_ | (first | refine zaj rfl rfl rfl rfl rfl rfl h1 rfl (fun _ _ _ => zB _ _ _ _ _ rfl rfl) ?_ | refine zaj rfl rfl rfl rfl rfl rfl h2 rfl (fun _ _ _ => zB _ _ _ _ _ rfl rfl) ?_))
 exact zo rfl ⟨rfl, rfl⟩
theorem zjW (L : List Pol) (g : FuncId) (i : Nat) (hi : i < L.length) (nm : Pol → List UInt8) (hg : ∀ x, ACall Tryz.prog g [aggD (polD x)] [] (Just (strA (nm x)))) (hn : L.length ≤ 140737488355328) :
  ACall Tryz.prog 137 [.d (.sl (L.flatMap polD) L.length), .d (.sc (.int .i64 (i : Int))), .fn g []] [] (Just (boolA (fstB nm L i))) := by
 have hq := zkE L 205 [.iptr [.sc (.func (.func g) #[] #[])] 0, .iptr [.sl (L.flatMap polD) L.length] 0, .iptr [.sc (.int .i64 (i : Int))] 0] (fun x => decide (nm x = nm L[i])) (fun x _ => ziC L g i hi nm hg x) hn
 unfold fstB
 rw [List.getElem?_eq_getElem hi]
 obtain ⟨b, hb⟩ : ∃ b, idxOf (fun x => decide (nm x = nm L[i])) L = b := ⟨_, rfl⟩
 dsimp only
 rw [hb] at hq ⊢
 refine zc za Tryz.func137 rfl Tryz.ntmps137 (congrArg Array.toList Tryz.results137) (by kernel_rfl) rfl ?_
 refine zf (z8 (t := 2) rfl (zad g)) ?_
 refine zn ?_
 refine ze ?_
 iterate 3 refine q_d ?_
 apply O_y rfl rfl rfl
 exact q_2
 refine zi ?_
 refine q_j ?_
 refine zf (zr (id := 3) (ds := [.sl (L.flatMap polD) L.length]) rfl rfl) ?_
 refine zf (zr (id := 4) (ds := [.sc (.int .i64 (i : Int))]) rfl rfl) ?_
 refine zf (zr (id := 5) (ds := [.sc (.func (.func g) #[] #[])]) rfl rfl) ?_
 repeat (first | refine q_Y ?_ | ((first | apply q_K rfl | apply q_X rfl); (first | exact q_H | (exact zK rfl rfl))) | refine q_U ?_ | (refine q_Q hq ?_))
 refine zo rfl ⟨?_, rfl⟩
 rfl
theorem zkA (L : List Osp) (f : FuncId) (caps : List AVal) (p : Osp → Bool) (hf : ∀ x ∈ L, ACall Tryz.prog f ([aggD (ospD x)] ++ caps) [] (Just (boolA (p x)))) (hn : L.length ≤ 140737488355328) :
  ACall Tryz.prog 247 [.d (.sl (L.flatMap ospD) L.length), .fn f caps] [] (Just (intA (idxOf p L))) := by
 refine zc za Tryz.func247 rfl Tryz.ntmps247 (congrArg Array.toList Tryz.results247) (by kernel_rfl) rfl ?_
 repeat (first | refine q_Z ?_ | ((first | apply q_K rfl | apply q_X rfl); (exact q_H)) | refine q_U ?_)
 refine zw (fun k : Nat => [(0, .d (.sl (L.flatMap ospD) L.length)), (1, .fn f caps), (7, intA (L.length : Int)), (8, intA (k : Int))]) (fun _ => []) (fun k => k ≤ L.length ∧ ∀ j (hj : j < L.length), j < k → p L[j] = false) (fun k => L.length - k) 0 ⟨Nat.zero_le _, fun j _ h => absurd h (Nat.not_lt_zero j)⟩ (q_S) ?_
 rintro k ⟨hk, hall⟩
 try dsimp only
 by_cases hkL : k < L.length
 ·have hq := hf _ (List.getElem_mem hkL)
  have hw := zj zbp L k 3 hkL (by decide)
  cases hp : p L[k] with
  | true =>
   rw [hp] at hq
   repeat (first | refine q_Z ?_ | ((first | apply q_K rfl | apply q_X rfl); (first | exact q_A | exact q_R (w := hw) | exact q_B)) | refine q_U ?_ | (refine O_cF rfl rfl rfl rfl rfl rfl hq (fun _ => rfl) ?_))
   refine zo rfl ⟨?_, rfl⟩
   rw [zY p L k hkL (fun j hj => hall j (by omega) hj) hp]
  | false =>
   rw [hp] at hq
   repeat (first | refine q_Z ?_ | ((first | apply q_K rfl | apply q_X rfl); (first | exact q_A | exact q_R (w := hw) | exact q_B)) | refine q_U ?_ | (refine O_cF rfl rfl rfl rfl rfl rfl hq (fun _ => rfl) ?_))
   refine ⟨k + 1, ⟨by omega, fun j hj h => ?_⟩, by omega, q_S⟩
   by_cases hjk : j = k
   ·subst hjk; exact hp
   ·exact hall j hj (by omega)
 ·
  repeat (first | refine q_Z ?_ | ((first | apply q_K rfl | apply q_X rfl); (exact q_H)) | refine q_U ?_)
  refine zo rfl ⟨?_, rfl⟩
  rw [zN p L fun x hx => by
   obtain ⟨j, hj, rfl⟩ := List.mem_iff_getElem.1 hx
   exact hall j hj (by omega)]; rfl
theorem ziz (L : List Osp) (g : FuncId) (i : Nat) (hi : i < L.length) (nm : Osp → List UInt8) (hg : ∀ x, ACall Tryz.prog g [aggD (ospD x)] [] (Just (strA (nm x)))) (x : Osp) :
  ACall Tryz.prog 248 ([aggD (ospD x)] ++ [.iptr [.sc (.func (.func g) #[] #[])] 0, .iptr [.sl (L.flatMap ospD) L.length] 0, .iptr [.sc (.int .i64 (i : Int))] 0]) [] (Just (boolA (decide (nm x = nm L[i])))) := by
 have h1 := hg x
 have h2 := hg L[i]
 have hw := zj zbp L i 3 hi (by decide)
 refine zc za Tryz.func248 rfl Tryz.ntmps248 (congrArg Array.toList Tryz.results248) (by kernel_rfl) rfl ?_
 repeat (first | refine q_Y ?_ | ((first | apply q_K rfl | apply q_X rfl); (first | exact q_A | exact q_R (w := (by first | exact hw | rfl)) | exact q_B | (exact zaY rfl rfl rfl rfl))) | refine q_U ?_ | (first | refine zaj rfl rfl rfl rfl rfl rfl h1 rfl (fun _ _ _ => zB _ _ _ _ _ rfl rfl) ?_ | refine zaj rfl rfl rfl rfl rfl rfl h2 rfl (fun _ _ _ => zB _ _ _ _ _ rfl rfl) ?_))
 exact zo rfl ⟨rfl, rfl⟩
theorem zjT (L : List Osp) (g : FuncId) (i : Nat) (hi : i < L.length) (nm : Osp → List UInt8) (hg : ∀ x, ACall Tryz.prog g [aggD (ospD x)] [] (Just (strA (nm x)))) (hn : L.length ≤ 140737488355328) :
  ACall Tryz.prog 207 [.d (.sl (L.flatMap ospD) L.length), .d (.sc (.int .i64 (i : Int))), .fn g []] [] (Just (boolA (fstB nm L i))) := by
 have hq := zkA L 248 [.iptr [.sc (.func (.func g) #[] #[])] 0, .iptr [.sl (L.flatMap ospD) L.length] 0, .iptr [.sc (.int .i64 (i : Int))] 0] (fun x => decide (nm x = nm L[i])) (fun x _ => ziz L g i hi nm hg x) hn
 unfold fstB
 rw [List.getElem?_eq_getElem hi]
 obtain ⟨b, hb⟩ : ∃ b, idxOf (fun x => decide (nm x = nm L[i])) L = b := ⟨_, rfl⟩
 dsimp only
 rw [hb] at hq ⊢
 refine zc za Tryz.func207 rfl Tryz.ntmps207 (congrArg Array.toList Tryz.results207) (by kernel_rfl) rfl ?_
 refine zf (z8 (t := 2) rfl (zad g)) ?_
 refine zn ?_
 refine ze ?_
 iterate 3 refine q_d ?_
 apply O_y rfl rfl rfl
 exact q_2
 refine zi ?_
 refine q_j ?_
 refine zf (zr (id := 3) (ds := [.sl (L.flatMap ospD) L.length]) rfl rfl) ?_
 refine zf (zr (id := 4) (ds := [.sc (.int .i64 (i : Int))]) rfl rfl) ?_
 refine zf (zr (id := 5) (ds := [.sc (.func (.func g) #[] #[])]) rfl rfl) ?_
 repeat (first | refine q_Y ?_ | ((first | apply q_K rfl | apply q_X rfl); (first | exact q_H | (exact zK rfl rfl))) | refine q_U ?_ | (refine q_Q hq ?_))
 refine zo rfl ⟨?_, rfl⟩
 rfl
theorem zkL (L : List Bgi) (f : FuncId) (caps : List AVal) (p : Bgi → Bool) (hf : ∀ x ∈ L, ACall Tryz.prog f ([aggD (bgiD x)] ++ caps) [] (Just (boolA (p x)))) (hn : L.length ≤ 140737488355328) :
  ACall Tryz.prog 249 [.d (.sl (L.flatMap bgiD) L.length), .fn f caps] [] (Just (intA (idxOf p L))) := by
 refine zc za Tryz.func249 rfl Tryz.ntmps249 (congrArg Array.toList Tryz.results249) (by kernel_rfl) rfl ?_
 repeat (first | refine q_Z ?_ | ((first | apply q_K rfl | apply q_X rfl); (exact q_H)) | refine q_U ?_)
 refine zw (fun k : Nat => [(0, .d (.sl (L.flatMap bgiD) L.length)), (1, .fn f caps), (7, intA (L.length : Int)), (8, intA (k : Int))]) (fun _ => []) (fun k => k ≤ L.length ∧ ∀ j (hj : j < L.length), j < k → p L[j] = false) (fun k => L.length - k) 0 ⟨Nat.zero_le _, fun j _ h => absurd h (Nat.not_lt_zero j)⟩ (q_S) ?_
 rintro k ⟨hk, hall⟩
 try dsimp only
 by_cases hkL : k < L.length
 ·have hq := hf _ (List.getElem_mem hkL)
  have hw := zj zbv L k 6 hkL (by decide)
  cases hp : p L[k] with
  | true =>
   rw [hp] at hq
   repeat (first | refine q_Z ?_ | ((first | apply q_K rfl | apply q_X rfl); (first | exact q_A | exact q_R (w := hw) | exact q_B)) | refine q_U ?_ | (refine O_cF rfl rfl rfl rfl rfl rfl hq (fun _ => rfl) ?_))
   refine zo rfl ⟨?_, rfl⟩
   rw [zY p L k hkL (fun j hj => hall j (by omega) hj) hp]
  | false =>
   rw [hp] at hq
   repeat (first | refine q_Z ?_ | ((first | apply q_K rfl | apply q_X rfl); (first | exact q_A | exact q_R (w := hw) | exact q_B)) | refine q_U ?_ | (refine O_cF rfl rfl rfl rfl rfl rfl hq (fun _ => rfl) ?_))
   refine ⟨k + 1, ⟨by omega, fun j hj h => ?_⟩, by omega, q_S⟩
   by_cases hjk : j = k
   ·subst hjk; exact hp
   ·exact hall j hj (by omega)
 ·
  repeat (first | refine q_Z ?_ | ((first | apply q_K rfl | apply q_X rfl); (exact q_H)) | refine q_U ?_)
  refine zo rfl ⟨?_, rfl⟩
  rw [zN p L fun x hx => by
   obtain ⟨j, hj, rfl⟩ := List.mem_iff_getElem.1 hx
   exact hall j hj (by omega)]; rfl
theorem ziG (L : List Bgi) (g : FuncId) (i : Nat) (hi : i < L.length) (nm : Bgi → List UInt8) (hg : ∀ x, ACall Tryz.prog g [aggD (bgiD x)] [] (Just (strA (nm x)))) (x : Bgi) :
  ACall Tryz.prog 250 ([aggD (bgiD x)] ++ [.iptr [.sc (.func (.func g) #[] #[])] 0, .iptr [.sl (L.flatMap bgiD) L.length] 0, .iptr [.sc (.int .i64 (i : Int))] 0]) [] (Just (boolA (decide (nm x = nm L[i])))) := by
 have h1 := hg x
 have h2 := hg L[i]
 have hw := zj zbv L i 6 hi (by decide)
 refine zc za Tryz.func250 rfl Tryz.ntmps250 (congrArg Array.toList Tryz.results250) (by kernel_rfl) rfl ?_
 repeat (first | refine q_Y ?_ | ((first | apply q_K rfl | apply q_X rfl); (first | exact q_A | exact q_R (w := (by first | exact hw | rfl)) | exact q_B | (exact zaY rfl rfl rfl rfl))) | refine q_U ?_ | (first | refine zaj rfl rfl rfl rfl rfl rfl h1 rfl (fun _ _ _ => zB _ _ _ _ _ rfl rfl) ?_ | refine zaj rfl rfl rfl rfl rfl rfl h2 rfl (fun _ _ _ => zB _ _ _ _ _ rfl rfl) ?_))
 exact zo rfl ⟨rfl, rfl⟩
theorem zj0 (L : List Bgi) (g : FuncId) (i : Nat) (hi : i < L.length) (nm : Bgi → List UInt8) (hg : ∀ x, ACall Tryz.prog g [aggD (bgiD x)] [] (Just (strA (nm x)))) (hn : L.length ≤ 140737488355328) :
  ACall Tryz.prog 209 [.d (.sl (L.flatMap bgiD) L.length), .d (.sc (.int .i64 (i : Int))), .fn g []] [] (Just (boolA (fstB nm L i))) := by
 have hq := zkL L 250 [.iptr [.sc (.func (.func g) #[] #[])] 0, .iptr [.sl (L.flatMap bgiD) L.length] 0, .iptr [.sc (.int .i64 (i : Int))] 0] (fun x => decide (nm x = nm L[i])) (fun x _ => ziG L g i hi nm hg x) hn
 unfold fstB
 rw [List.getElem?_eq_getElem hi]
 obtain ⟨b, hb⟩ : ∃ b, idxOf (fun x => decide (nm x = nm L[i])) L = b := ⟨_, rfl⟩
 dsimp only
 rw [hb] at hq ⊢
 refine zc za Tryz.func209 rfl Tryz.ntmps209 (congrArg Array.toList Tryz.results209) (by kernel_rfl) rfl ?_
 refine zf (z8 (t := 2) rfl (zad g)) ?_
 refine zn ?_
 refine ze ?_
 iterate 3 refine q_d ?_
 apply O_y rfl rfl rfl
 exact q_2
 refine zi ?_
 refine q_j ?_
 refine zf (zr (id := 3) (ds := [.sl (L.flatMap bgiD) L.length]) rfl rfl) ?_
 refine zf (zr (id := 4) (ds := [.sc (.int .i64 (i : Int))]) rfl rfl) ?_
 refine zf (zr (id := 5) (ds := [.sc (.func (.func g) #[] #[])]) rfl rfl) ?_
 repeat (first | refine q_Y ?_ | ((first | apply q_K rfl | apply q_X rfl); (first | exact q_H | (exact zK rfl rfl))) | refine q_U ?_ | (refine q_Q hq ?_))
 refine zo rfl ⟨?_, rfl⟩
 rfl
theorem zkC (L : List Rul) (f : FuncId) (caps : List AVal) (p : Rul → Bool) (hf : ∀ x ∈ L, ACall Tryz.prog f ([aggD (rulD x)] ++ caps) [] (Just (boolA (p x)))) (hn : L.length ≤ 140737488355328) :
  ACall Tryz.prog 241 [.d (.sl (L.flatMap rulD) L.length), .fn f caps] [] (Just (intA (idxOf p L))) := by
 refine zc za Tryz.func241 rfl Tryz.ntmps241 (congrArg Array.toList Tryz.results241) (by kernel_rfl) rfl ?_
 repeat (first | refine q_Z ?_ | ((first | apply q_K rfl | apply q_X rfl); (exact q_H)) | refine q_U ?_)
 refine zw (fun k : Nat => [(0, .d (.sl (L.flatMap rulD) L.length)), (1, .fn f caps), (7, intA (L.length : Int)), (8, intA (k : Int))]) (fun _ => []) (fun k => k ≤ L.length ∧ ∀ j (hj : j < L.length), j < k → p L[j] = false) (fun k => L.length - k) 0 ⟨Nat.zero_le _, fun j _ h => absurd h (Nat.not_lt_zero j)⟩ (q_S) ?_
 rintro k ⟨hk, hall⟩
 try dsimp only
 by_cases hkL : k < L.length
 ·have hq := hf _ (List.getElem_mem hkL)
  have hw := zj zd9 L k 10 hkL (by decide)
  cases hp : p L[k] with
  | true =>
   rw [hp] at hq
   repeat (first | refine q_Z ?_ | ((first | apply q_K rfl | apply q_X rfl); (first | exact q_A | exact q_R (w := hw) | exact q_B)) | refine q_U ?_ | (refine O_cF rfl rfl rfl rfl rfl rfl hq (fun _ => rfl) ?_))
   refine zo rfl ⟨?_, rfl⟩
   rw [zY p L k hkL (fun j hj => hall j (by omega) hj) hp]
  | false =>
   rw [hp] at hq
   repeat (first | refine q_Z ?_ | ((first | apply q_K rfl | apply q_X rfl); (first | exact q_A | exact q_R (w := hw) | exact q_B)) | refine q_U ?_ | (refine O_cF rfl rfl rfl rfl rfl rfl hq (fun _ => rfl) ?_))
   refine ⟨k + 1, ⟨by omega, fun j hj h => ?_⟩, by omega, q_S⟩
   by_cases hjk : j = k
   ·subst hjk; exact hp
   ·exact hall j hj (by omega)
 ·
  repeat (first | refine q_Z ?_ | ((first | apply q_K rfl | apply q_X rfl); (exact q_H)) | refine q_U ?_)
  refine zo rfl ⟨?_, rfl⟩
  rw [zN p L fun x hx => by
   obtain ⟨j, hj, rfl⟩ := List.mem_iff_getElem.1 hx
   exact hall j hj (by omega)]; rfl
theorem zkP (L : List Rul) (f : FuncId) (p : Rul → Bool) (hf : ∀ x ∈ L, ACall Tryz.prog f ([aggD (rulD x)] ++ []) [] (Just (boolA (p x)))) (hn : L.length ≤ 140737488355328) :
  ACall Tryz.prog 191 [.d (.sl (L.flatMap rulD) L.length), .fn f []] [] (Just (boolA (L.any p))) := by
 have hi := zkC L f [] p hf hn
 rw [← zbJ]
 obtain ⟨i, hii⟩ : ∃ i, idxOf p L = i := ⟨_, rfl⟩
 rw [hii] at hi ⊢
 refine zc za Tryz.func191 rfl Tryz.ntmps191 (congrArg Array.toList Tryz.results191) (by kernel_rfl) rfl ?_
 repeat (first | refine q_Z ?_ | ((first | apply q_K rfl | apply q_X rfl); (exact q_H)) | refine q_U ?_ | refine q_O hi ?_)
 exact zo rfl ⟨rfl, rfl⟩
theorem zkJ (L : List LEnt) (f : FuncId) (caps : List AVal) (p : LEnt → Bool) (hf : ∀ x ∈ L, ACall Tryz.prog f ([aggD (lentD x)] ++ caps) [] (Just (boolA (p x)))) (hn : L.length ≤ 140737488355328) :
  ACall Tryz.prog 244 [.d (.sl (L.flatMap lentD) L.length), .fn f caps] [] (Just (intA (idxOf p L))) := by
 refine zc za Tryz.func244 rfl Tryz.ntmps244 (congrArg Array.toList Tryz.results244) (by kernel_rfl) rfl ?_
 repeat (first | refine q_Z ?_ | ((first | apply q_K rfl | apply q_X rfl); (exact q_H)) | refine q_U ?_)
 refine zw (fun k : Nat => [(0, .d (.sl (L.flatMap lentD) L.length)), (1, .fn f caps), (7, intA (L.length : Int)), (8, intA (k : Int))]) (fun _ => []) (fun k => k ≤ L.length ∧ ∀ j (hj : j < L.length), j < k → p L[j] = false) (fun k => L.length - k) 0 ⟨Nat.zero_le _, fun j _ h => absurd h (Nat.not_lt_zero j)⟩ (q_S) ?_
 rintro k ⟨hk, hall⟩
 try dsimp only
 by_cases hkL : k < L.length
 ·have hq := hf _ (List.getElem_mem hkL)
  have hw := zj zdr L k 5 hkL (by decide)
  cases hp : p L[k] with
  | true =>
   rw [hp] at hq
   repeat (first | refine q_Z ?_ | ((first | apply q_K rfl | apply q_X rfl); (first | exact q_A | exact q_R (w := hw) | exact q_B)) | refine q_U ?_ | (refine O_cF rfl rfl rfl rfl rfl rfl hq (fun _ => rfl) ?_))
   refine zo rfl ⟨?_, rfl⟩
   rw [zY p L k hkL (fun j hj => hall j (by omega) hj) hp]
  | false =>
   rw [hp] at hq
   repeat (first | refine q_Z ?_ | ((first | apply q_K rfl | apply q_X rfl); (first | exact q_A | exact q_R (w := hw) | exact q_B)) | refine q_U ?_ | (refine O_cF rfl rfl rfl rfl rfl rfl hq (fun _ => rfl) ?_))
   refine ⟨k + 1, ⟨by omega, fun j hj h => ?_⟩, by omega, q_S⟩
   by_cases hjk : j = k
   ·subst hjk; exact hp
   ·exact hall j hj (by omega)
 ·
  repeat (first | refine q_Z ?_ | ((first | apply q_K rfl | apply q_X rfl); (exact q_H)) | refine q_U ?_)
  refine zo rfl ⟨?_, rfl⟩
  rw [zN p L fun x hx => by
   obtain ⟨j, hj, rfl⟩ := List.mem_iff_getElem.1 hx
   exact hall j hj (by omega)]; rfl
theorem zkR (L : List LEnt) (f : FuncId) (p : LEnt → Bool) (hf : ∀ x ∈ L, ACall Tryz.prog f ([aggD (lentD x)] ++ []) [] (Just (boolA (p x)))) (hn : L.length ≤ 140737488355328) :
  ACall Tryz.prog 197 [.d (.sl (L.flatMap lentD) L.length), .fn f []] [] (Just (boolA (L.any p))) := by
 have hi := zkJ L f [] p hf hn
 rw [← zbJ]
 obtain ⟨i, hii⟩ : ∃ i, idxOf p L = i := ⟨_, rfl⟩
 rw [hii] at hi ⊢
 refine zc za Tryz.func197 rfl Tryz.ntmps197 (congrArg Array.toList Tryz.results197) (by kernel_rfl) rfl ?_
 repeat (first | refine q_Z ?_ | ((first | apply q_K rfl | apply q_X rfl); (exact q_H)) | refine q_U ?_ | refine q_O hi ?_)
 exact zo rfl ⟨rfl, rfl⟩
theorem zkG (L : List Mem) (f : FuncId) (caps : List AVal) (p : Mem → Bool) (hf : ∀ x ∈ L, ACall Tryz.prog f ([aggD (memD x)] ++ caps) [] (Just (boolA (p x)))) (hn : L.length ≤ 140737488355328) :
  ACall Tryz.prog 245 [.d (.sl (L.flatMap memD) L.length), .fn f caps] [] (Just (intA (idxOf p L))) := by
 refine zc za Tryz.func245 rfl Tryz.ntmps245 (congrArg Array.toList Tryz.results245) (by kernel_rfl) rfl ?_
 repeat (first | refine q_Z ?_ | ((first | apply q_K rfl | apply q_X rfl); (exact q_H)) | refine q_U ?_)
 refine zw (fun k : Nat => [(0, .d (.sl (L.flatMap memD) L.length)), (1, .fn f caps), (7, intA (L.length : Int)), (8, intA (k : Int))]) (fun _ => []) (fun k => k ≤ L.length ∧ ∀ j (hj : j < L.length), j < k → p L[j] = false) (fun k => L.length - k) 0 ⟨Nat.zero_le _, fun j _ h => absurd h (Nat.not_lt_zero j)⟩ (q_S) ?_
 rintro k ⟨hk, hall⟩
 try dsimp only
 by_cases hkL : k < L.length
 ·have hq := hf _ (List.getElem_mem hkL)
  have hw := zj zeg L k 2 hkL (by decide)
  cases hp : p L[k] with
  | true =>
   rw [hp] at hq
   repeat (first | refine q_Z ?_ | ((first | apply q_K rfl | apply q_X rfl); (first | exact q_A | exact q_R (w := hw) | exact q_B)) | refine q_U ?_ | (refine O_cF rfl rfl rfl rfl rfl rfl hq (fun _ => rfl) ?_))
   refine zo rfl ⟨?_, rfl⟩
   rw [zY p L k hkL (fun j hj => hall j (by omega) hj) hp]
  | false =>
   rw [hp] at hq
   repeat (first | refine q_Z ?_ | ((first | apply q_K rfl | apply q_X rfl); (first | exact q_A | exact q_R (w := hw) | exact q_B)) | refine q_U ?_ | (refine O_cF rfl rfl rfl rfl rfl rfl hq (fun _ => rfl) ?_))
   refine ⟨k + 1, ⟨by omega, fun j hj h => ?_⟩, by omega, q_S⟩
   by_cases hjk : j = k
   ·subst hjk; exact hp
   ·exact hall j hj (by omega)
 ·
  repeat (first | refine q_Z ?_ | ((first | apply q_K rfl | apply q_X rfl); (exact q_H)) | refine q_U ?_)
  refine zo rfl ⟨?_, rfl⟩
  rw [zN p L fun x hx => by
   obtain ⟨j, hj, rfl⟩ := List.mem_iff_getElem.1 hx
   exact hall j hj (by omega)]; rfl
theorem zkQ (L : List Mem) (f : FuncId) (p : Mem → Bool) (hf : ∀ x ∈ L, ACall Tryz.prog f ([aggD (memD x)] ++ []) [] (Just (boolA (p x)))) (hn : L.length ≤ 140737488355328) :
  ACall Tryz.prog 201 [.d (.sl (L.flatMap memD) L.length), .fn f []] [] (Just (boolA (L.any p))) := by
 have hi := zkG L f [] p hf hn
 rw [← zbJ]
 obtain ⟨i, hii⟩ : ∃ i, idxOf p L = i := ⟨_, rfl⟩
 rw [hii] at hi ⊢
 refine zc za Tryz.func201 rfl Tryz.ntmps201 (congrArg Array.toList Tryz.results201) (by kernel_rfl) rfl ?_
 repeat (first | refine q_Z ?_ | ((first | apply q_K rfl | apply q_X rfl); (exact q_H)) | refine q_U ?_ | refine q_O hi ?_)
 exact zo rfl ⟨rfl, rfl⟩
set_option maxHeartbeats 4000000 in
theorem zj8 (id : Nat) (L : List Fil) (g : FuncId) (nm : Fil → List UInt8) (hg : ∀ x, ACall Tryz.prog g [aggD (filD x)] [] (Just (strA (nm x)))) (hn : L.length ≤ 140737488355328) (hid : Nat.blt id 1000 = true) :
  ACall Tryz.prog 181 [.d (.sl (L.flatMap filD) L.length), .fn g []] [] (fun c h => c = .mp id ∧ h = [(id, cntB (L.map nm))]) := by
 refine ACall.reidM (p := 8) id (za6 _) ?_ hid
 refine zc za Tryz.func181 rfl Tryz.ntmps181 (congrArg Array.toList Tryz.results181) (by kernel_rfl) rfl ?_
 repeat (first | refine q_Y ?_ | ((first | apply q_K rfl | apply q_X rfl); (exact q_H)) | refine q_U ?_ | (refine zac 8 rfl rfl rfl rfl rfl ?_))
 refine zw (fun k : Nat => [(0, .d (.sl (L.flatMap filD) L.length)), (1, .fn g []), (5, .mp 8), (9, .d (.sl (L.flatMap filD) L.length)), (10, intA (L.length : Int)), (11, intA (k : Int))]) (fun k => [(8, cntB ((L.take k).map nm))]) (fun k => k ≤ L.length) (fun k => L.length - k) 0 (Nat.zero_le _) (q_S) ?_
 intro k hk
 try dsimp only
 by_cases hkL : k < L.length
 ·have hq := hg L[k]
  have hw := zj zaE L k 2 hkL (by decide)
  have hb : (aget (cntL ((L.take k).map nm)) (nm L[k])).getD 0 ≤ 140737488355328 := by
   rw [zaF]
   refine Nat.le_trans List.count_le_length ?_
   rw [List.length_map, List.length_take]; omega
  repeat (first | refine q_Y ?_ | ((first | apply q_K rfl | apply q_X rfl); (first | exact q_A | exact q_R (w := hw) | exact q_B | (first | exact zbg za rfl rfl rfl zC rfl rfl rfl rfl | exact zbg za rfl rfl rfl zC rfl (congrArg some (zV 7 _)) rfl rfl))) | refine q_U ?_ | (first | refine O_cF rfl rfl rfl rfl rfl rfl hq (fun _ => rfl) ?_ | refine zby za rfl rfl rfl rfl rfl rfl rfl rfl rfl ?_ | refine zby za rfl rfl rfl rfl rfl rfl (congrArg some (zV 7 _)) rfl rfl ?_))
  rw [zan nm L k hkL]
  exact ⟨k + 1, by omega, by omega, q_S⟩
 ·obtain rfl : k = L.length := by omega
  rw [List.take_length]
  repeat (first | refine q_Y ?_ | ((first | apply q_K rfl | apply q_X rfl); (exact q_H)) | refine q_U ?_)
  exact zt (h2 := [(8, cntB (L.map nm))]) AWk.refl rfl ⟨rfl, trivial⟩ ⟨rfl, rfl⟩
set_option maxHeartbeats 4000000 in
theorem zj6 (id : Nat) (L : List PLst) (g : FuncId) (nm : PLst → List UInt8) (hg : ∀ x, ACall Tryz.prog g [aggD (plstD x)] [] (Just (strA (nm x)))) (hn : L.length ≤ 140737488355328) (hid : Nat.blt id 1000 = true) :
  ACall Tryz.prog 182 [.d (.sl (L.flatMap plstD) L.length), .fn g []] [] (fun c h => c = .mp id ∧ h = [(id, cntB (L.map nm))]) := by
 refine ACall.reidM (p := 8) id (za6 _) ?_ hid
 refine zc za Tryz.func182 rfl Tryz.ntmps182 (congrArg Array.toList Tryz.results182) (by kernel_rfl) rfl ?_
 repeat (first | refine q_Y ?_ | ((first | apply q_K rfl | apply q_X rfl); (exact q_H)) | refine q_U ?_ | (refine zac 8 rfl rfl rfl rfl rfl ?_))
 refine zw (fun k : Nat => [(0, .d (.sl (L.flatMap plstD) L.length)), (1, .fn g []), (5, .mp 8), (9, .d (.sl (L.flatMap plstD) L.length)), (10, intA (L.length : Int)), (11, intA (k : Int))]) (fun k => [(8, cntB ((L.take k).map nm))]) (fun k => k ≤ L.length) (fun k => L.length - k) 0 (Nat.zero_le _) (q_S) ?_
 intro k hk
 try dsimp only
 by_cases hkL : k < L.length
 ·have hq := hg L[k]
  have hw := zj zas L k 2 hkL (by decide)
  have hb : (aget (cntL ((L.take k).map nm)) (nm L[k])).getD 0 ≤ 140737488355328 := by
   rw [zaF]
   refine Nat.le_trans List.count_le_length ?_
   rw [List.length_map, List.length_take]; omega
  repeat (first | refine q_Y ?_ | ((first | apply q_K rfl | apply q_X rfl); (first | exact q_A | exact q_R (w := hw) | exact q_B | (first | exact zbg za rfl rfl rfl zC rfl rfl rfl rfl | exact zbg za rfl rfl rfl zC rfl (congrArg some (zV 7 _)) rfl rfl))) | refine q_U ?_ | (first | refine O_cF rfl rfl rfl rfl rfl rfl hq (fun _ => rfl) ?_ | refine zby za rfl rfl rfl rfl rfl rfl rfl rfl rfl ?_ | refine zby za rfl rfl rfl rfl rfl rfl (congrArg some (zV 7 _)) rfl rfl ?_))
  rw [zan nm L k hkL]
  exact ⟨k + 1, by omega, by omega, q_S⟩
 ·obtain rfl : k = L.length := by omega
  rw [List.take_length]
  repeat (first | refine q_Y ?_ | ((first | apply q_K rfl | apply q_X rfl); (exact q_H)) | refine q_U ?_)
  exact zt (h2 := [(8, cntB (L.map nm))]) AWk.refl rfl ⟨rfl, trivial⟩ ⟨rfl, rfl⟩
set_option maxHeartbeats 4000000 in
theorem zj9 (id : Nat) (L : List CLst) (g : FuncId) (nm : CLst → List UInt8) (hg : ∀ x, ACall Tryz.prog g [aggD (clstD x)] [] (Just (strA (nm x)))) (hn : L.length ≤ 140737488355328) (hid : Nat.blt id 1000 = true) :
  ACall Tryz.prog 183 [.d (.sl (L.flatMap clstD) L.length), .fn g []] [] (fun c h => c = .mp id ∧ h = [(id, cntB (L.map nm))]) := by
 refine ACall.reidM (p := 8) id (za6 _) ?_ hid
 refine zc za Tryz.func183 rfl Tryz.ntmps183 (congrArg Array.toList Tryz.results183) (by kernel_rfl) rfl ?_
 repeat (first | refine q_Y ?_ | ((first | apply q_K rfl | apply q_X rfl); (exact q_H)) | refine q_U ?_ | (refine zac 8 rfl rfl rfl rfl rfl ?_))
 refine zw (fun k : Nat => [(0, .d (.sl (L.flatMap clstD) L.length)), (1, .fn g []), (5, .mp 8), (9, .d (.sl (L.flatMap clstD) L.length)), (10, intA (L.length : Int)), (11, intA (k : Int))]) (fun k => [(8, cntB ((L.take k).map nm))]) (fun k => k ≤ L.length) (fun k => L.length - k) 0 (Nat.zero_le _) (q_S) ?_
 intro k hk
 try dsimp only
 by_cases hkL : k < L.length
 ·have hq := hg L[k]
  have hw := zj zav L k 2 hkL (by decide)
  have hb : (aget (cntL ((L.take k).map nm)) (nm L[k])).getD 0 ≤ 140737488355328 := by
   rw [zaF]
   refine Nat.le_trans List.count_le_length ?_
   rw [List.length_map, List.length_take]; omega
  repeat (first | refine q_Y ?_ | ((first | apply q_K rfl | apply q_X rfl); (first | exact q_A | exact q_R (w := hw) | exact q_B | (first | exact zbg za rfl rfl rfl zC rfl rfl rfl rfl | exact zbg za rfl rfl rfl zC rfl (congrArg some (zV 7 _)) rfl rfl))) | refine q_U ?_ | (first | refine O_cF rfl rfl rfl rfl rfl rfl hq (fun _ => rfl) ?_ | refine zby za rfl rfl rfl rfl rfl rfl rfl rfl rfl ?_ | refine zby za rfl rfl rfl rfl rfl rfl (congrArg some (zV 7 _)) rfl rfl ?_))
  rw [zan nm L k hkL]
  exact ⟨k + 1, by omega, by omega, q_S⟩
 ·obtain rfl : k = L.length := by omega
  rw [List.take_length]
  repeat (first | refine q_Y ?_ | ((first | apply q_K rfl | apply q_X rfl); (exact q_H)) | refine q_U ?_)
  exact zt (h2 := [(8, cntB (L.map nm))]) AWk.refl rfl ⟨rfl, trivial⟩ ⟨rfl, rfl⟩
set_option maxHeartbeats 4000000 in
theorem zj7 (id : Nat) (L : List Pol) (g : FuncId) (nm : Pol → List UInt8) (hg : ∀ x, ACall Tryz.prog g [aggD (polD x)] [] (Just (strA (nm x)))) (hn : L.length ≤ 140737488355328) (hid : Nat.blt id 1000 = true) :
  ACall Tryz.prog 184 [.d (.sl (L.flatMap polD) L.length), .fn g []] [] (fun c h => c = .mp id ∧ h = [(id, cntB (L.map nm))]) := by
 refine ACall.reidM (p := 8) id (za6 _) ?_ hid
 refine zc za Tryz.func184 rfl Tryz.ntmps184 (congrArg Array.toList Tryz.results184) (by kernel_rfl) rfl ?_
 repeat (first | refine q_Y ?_ | ((first | apply q_K rfl | apply q_X rfl); (exact q_H)) | refine q_U ?_ | (refine zac 8 rfl rfl rfl rfl rfl ?_))
 refine zw (fun k : Nat => [(0, .d (.sl (L.flatMap polD) L.length)), (1, .fn g []), (5, .mp 8), (9, .d (.sl (L.flatMap polD) L.length)), (10, intA (L.length : Int)), (11, intA (k : Int))]) (fun k => [(8, cntB ((L.take k).map nm))]) (fun k => k ≤ L.length) (fun k => L.length - k) 0 (Nat.zero_le _) (q_S) ?_
 intro k hk
 try dsimp only
 by_cases hkL : k < L.length
 ·have hq := hg L[k]
  have hw := zj zaS L k 3 hkL (by decide)
  have hb : (aget (cntL ((L.take k).map nm)) (nm L[k])).getD 0 ≤ 140737488355328 := by
   rw [zaF]
   refine Nat.le_trans List.count_le_length ?_
   rw [List.length_map, List.length_take]; omega
  repeat (first | refine q_Y ?_ | ((first | apply q_K rfl | apply q_X rfl); (first | exact q_A | exact q_R (w := hw) | exact q_B | (first | exact zbg za rfl rfl rfl zC rfl rfl rfl rfl | exact zbg za rfl rfl rfl zC rfl (congrArg some (zV 7 _)) rfl rfl))) | refine q_U ?_ | (first | refine O_cF rfl rfl rfl rfl rfl rfl hq (fun _ => rfl) ?_ | refine zby za rfl rfl rfl rfl rfl rfl rfl rfl rfl ?_ | refine zby za rfl rfl rfl rfl rfl rfl (congrArg some (zV 7 _)) rfl rfl ?_))
  rw [zan nm L k hkL]
  exact ⟨k + 1, by omega, by omega, q_S⟩
 ·obtain rfl : k = L.length := by omega
  rw [List.take_length]
  repeat (first | refine q_Y ?_ | ((first | apply q_K rfl | apply q_X rfl); (exact q_H)) | refine q_U ?_)
  exact zt (h2 := [(8, cntB (L.map nm))]) AWk.refl rfl ⟨rfl, trivial⟩ ⟨rfl, rfl⟩
theorem zjf (x : Ifx) : ACall Tryz.prog 77 [aggD (ifxD x)] [] (Just (strA x.nm)) := by
 refine zc za Tryz.func77 rfl Tryz.ntmps77 (congrArg Array.toList Tryz.results77) (by kernel_rfl) rfl ?_
 repeat (first | refine q_Y ?_ | ((first | apply q_K rfl | apply q_X rfl); (exact q_H)) | refine q_U ?_)
 exact zo rfl ⟨rfl, rfl⟩
theorem zgP (x : Fil) : ACall Tryz.prog 79 [aggD (filD x)] [] (Just (strA x.nm)) := by
 refine zc za Tryz.func79 rfl Tryz.ntmps79 (congrArg Array.toList Tryz.results79) (by kernel_rfl) rfl ?_
 repeat (first | refine q_Y ?_ | ((first | apply q_K rfl | apply q_X rfl); (exact q_H)) | refine q_U ?_)
 exact zo rfl ⟨rfl, rfl⟩
theorem zgN (x : PLst) : ACall Tryz.prog 81 [aggD (plstD x)] [] (Just (strA x.nm)) := by
 refine zc za Tryz.func81 rfl Tryz.ntmps81 (congrArg Array.toList Tryz.results81) (by kernel_rfl) rfl ?_
 repeat (first | refine q_Y ?_ | ((first | apply q_K rfl | apply q_X rfl); (exact q_H)) | refine q_U ?_)
 exact zo rfl ⟨rfl, rfl⟩
theorem zgQ (x : CLst) : ACall Tryz.prog 83 [aggD (clstD x)] [] (Just (strA x.nm)) := by
 refine zc za Tryz.func83 rfl Tryz.ntmps83 (congrArg Array.toList Tryz.results83) (by kernel_rfl) rfl ?_
 repeat (first | refine q_Y ?_ | ((first | apply q_K rfl | apply q_X rfl); (exact q_H)) | refine q_U ?_)
 exact zo rfl ⟨rfl, rfl⟩
theorem zgO (x : Pol) : ACall Tryz.prog 85 [aggD (polD x)] [] (Just (strA x.nm)) := by
 refine zc za Tryz.func85 rfl Tryz.ntmps85 (congrArg Array.toList Tryz.results85) (by kernel_rfl) rfl ?_
 repeat (first | refine q_Y ?_ | ((first | apply q_K rfl | apply q_X rfl); (exact q_H)) | refine q_U ?_)
 exact zo rfl ⟨rfl, rfl⟩
theorem zkv (x : Osp) : ACall Tryz.prog 208 [aggD (ospD x)] [] (Just (strA x.vrf)) := by
 refine zc za Tryz.func208 rfl Tryz.ntmps208 (congrArg Array.toList Tryz.results208) (by kernel_rfl) rfl ?_
 repeat (first | refine q_Y ?_ | ((first | apply q_K rfl | apply q_X rfl); (exact q_H)) | refine q_U ?_)
 exact zo rfl ⟨rfl, rfl⟩
theorem zkx (x : Bgi) : ACall Tryz.prog 210 [aggD (bgiD x)] [] (Just (strA x.vrf)) := by
 refine zc za Tryz.func210 rfl Tryz.ntmps210 (congrArg Array.toList Tryz.results210) (by kernel_rfl) rfl ?_
 repeat (first | refine q_Y ?_ | ((first | apply q_K rfl | apply q_X rfl); (exact q_H)) | refine q_U ?_)
 exact zo rfl ⟨rfl, rfl⟩
theorem zje (x : List UInt8) : ACall Tryz.prog 119 [strA x] [] (Just (strA x)) := by
 refine zc za Tryz.func119 rfl Tryz.ntmps119 (congrArg Array.toList Tryz.results119) (by kernel_rfl) rfl ?_
 repeat (first | refine q_Y ?_ | ((first | apply q_K rfl | apply q_X rfl); (exact q_H)) | refine q_U ?_)
 exact zo rfl ⟨rfl, rfl⟩
end Go.Proofs.YtoahnbmedcjpeaaGreatDoor.Ab

/-
 Texts of a proof, one behind the other (part 8).
-/
import Derived.Test.YtmmdkjanmegjdaaGreatRv4
import Derived.Test.YtmmdkjanmegjdaaGreatRv6
set_option linter.unusedSimpArgs false
set_option linter.unusedVariables false
namespace Go.Proofs.YtmmdkjanmegjdaaGreat.Ab
set_option maxRecDepth 100000
open Go.RowKit Go.Lib
attribute [local irreducible] AWp AOps AQ AYield AEff ACall AWk AAny AAt AThen AIn APost NoPanic
theorem znb (L : List Int) (v : Int) (hn : L.length ≤ 1000000000) : ACall Tryz.prog 147 [usA L, u32A v] [] (Just (intA (idxOf (fun x => v == x) L))) := by
 refine zf za Tryz.func147 rfl Tryz.ntmps147 (congrArg Array.toList Tryz.results147) (by kernel_rfl) rfl ?_
 repeat (first | refine q_Z ?_ | ((first | apply q_K rfl | apply q_X rfl); (exact q_H)) | refine q_U ?_)
 refine zw (fun k : Nat => [(0, usA L), (1, u32A v), (7, intA (L.length : Int)), (8, intA (k : Int))]) (fun _ => []) (fun k => k ≤ L.length ∧ ∀ j (hj : j < L.length), j < k → (v == L[j]) = false) (fun k => L.length - k) 0 ⟨Nat.zero_le _, fun j _ h => absurd h (Nat.not_lt_zero j)⟩ (q_S) ?_
 rintro k ⟨hk, hall⟩
 try dsimp only
 by_cases hkL : k < L.length
 ·have hw := zn zV L k 1 hkL (by decide)
  by_cases hp : v = L[k]
  ·
   repeat (first | refine q_Z ?_ | ((first | apply q_K rfl | apply q_X rfl); (first | exact q_A | exact q_R (w := hw) | exact q_B)) | refine q_U ?_)
   refine zk rfl ⟨?_, rfl⟩
   rw [za4 _ L k hkL (fun j hj => hall j (by omega) hj) (by simpa using hp)]
  ·
   repeat (first | refine q_Z ?_ | ((first | apply q_K rfl | apply q_X rfl); (first | exact q_A | exact q_R (w := hw) | exact q_B)) | refine q_U ?_)
   refine ⟨k + 1, ⟨by omega, fun j hj h => ?_⟩, by omega, q_S⟩
   by_cases hjk : j = k
   ·subst hjk; simpa using hp
   ·exact hall j hj (by omega)
 ·
  repeat (first | refine q_Z ?_ | ((first | apply q_K rfl | apply q_X rfl); (exact q_H)) | refine q_U ?_)
  refine zk rfl ⟨?_, rfl⟩
  rw [zav _ L fun x hx => by
   obtain ⟨j, hj, rfl⟩ := List.mem_iff_getElem.1 hx
   exact hall j hj (by omega)]; rfl
theorem zfF {α : Type} (p : α → Bool) (L : List α) : decide (0 ≤ idxOf p L) = L.any p := by
 induction L with
 | nil => rfl
 | cons x r ih =>
  rw [List.any_cons, ← ih]
  have := zg7 p r
  rw [show idxOf p (x :: r) = if p x = true then 0 else if idxOf p r = -1 then -1 else idxOf p r + 1 from rfl]
  by_cases hx : p x = true
  ·rw [if_pos hx, hx, Bool.true_or]; rfl
  ·rw [if_neg hx, show p x = false by simpa using hx, Bool.false_or]
   by_cases h1 : idxOf p r = -1
   ·rw [if_pos h1, h1]
   ·rw [if_neg h1, decide_eq_true (show (0 : Int) ≤ idxOf p r + 1 by omega), decide_eq_true (show (0 : Int) ≤ idxOf p r by omega)]
theorem zie (L : List Int) (v : Int) (hn : L.length ≤ 1000000000) : ACall Tryz.prog 139 [usA L, u32A v] [] (Just (boolA (L.any fun x => v == x))) := by
 have hi := znb L v hn
 rw [← zfF]
 obtain ⟨i, hii⟩ : ∃ i, idxOf (fun x => v == x) L = i := ⟨_, rfl⟩
 rw [hii] at hi ⊢
 refine zf za Tryz.func139 rfl Tryz.ntmps139 (congrArg Array.toList Tryz.results139) (by kernel_rfl) rfl ?_
 by_cases h0 : 0 ≤ i
 ·rw [decide_eq_true h0]
  repeat (first | refine q_Z ?_ | ((first | apply q_K rfl | apply q_X rfl); (exact q_H)) | refine q_U ?_ | refine q_O hi ?_)
  exact zk rfl ⟨rfl, rfl⟩
 ·rw [decide_eq_false h0]
  repeat (first | refine q_Z ?_ | ((first | apply q_K rfl | apply q_X rfl); (exact q_H)) | refine q_U ?_ | refine q_O hi ?_)
  exact zk rfl ⟨rfl, rfl⟩
theorem zem (L : List Int) (f : FuncId) (caps : List AVal) (p : Int → Bool) (hf : ∀ x ∈ L, ACall Tryz.prog f ([u32A x] ++ caps) [] (Just (boolA (p x)))) (hn : L.length ≤ 1000000000) :
  ACall Tryz.prog 100 [usA L, .fn f caps] [] (Just (boolA (L.any p))) := by
 have hi := zoW L f caps p hf hn
 rw [← zfF]
 obtain ⟨i, hii⟩ : ∃ i, idxOf p L = i := ⟨_, rfl⟩
 rw [hii] at hi ⊢
 refine zf za Tryz.func100 rfl Tryz.ntmps100 (congrArg Array.toList Tryz.results100) (by kernel_rfl) rfl ?_
 by_cases h0 : 0 ≤ i
 ·rw [decide_eq_true h0]
  repeat (first | refine q_Z ?_ | ((first | apply q_K rfl | apply q_X rfl); (exact q_H)) | refine q_U ?_ | refine q_O hi ?_)
  exact zk rfl ⟨rfl, rfl⟩
 ·rw [decide_eq_false h0]
  repeat (first | refine q_Z ?_ | ((first | apply q_K rfl | apply q_X rfl); (exact q_H)) | refine q_U ?_ | refine q_O hi ?_)
  exact zk rfl ⟨rfl, rfl⟩
theorem zh4 (c : Int) (com : List Int) (hn : com.length ≤ 1000000000) : ACall Tryz.prog 138 ([u32A c] ++ [.iptr [usD com] 0]) [] (Just (boolA (!com.any fun x => c == x))) := by
 have hc := zie com c hn
 refine zf za Tryz.func138 rfl Tryz.ntmps138 (congrArg Array.toList Tryz.results138) (by kernel_rfl) rfl ?_
 repeat (first | refine q_Z ?_ | ((first | apply q_K rfl | apply q_X rfl); (exact q_H)) | refine q_U ?_ | refine q_O hc ?_)
 exact zk rfl ⟨rfl, rfl⟩
theorem zlx (m : Mem) (com : List Int) : fitsM m com = !(m.all.any fun c => !com.any fun x => c == x) := by
 unfold fitsM
 rw [List.not_any_eq_all_not]
 congr 1
 funext c
 rw [Bool.not_not]
 congr 1
 funext x
 rw [Bool.eq_iff_iff]; simp only [beq_iff_eq]; exact eq_comm
theorem zjE (m : Mem) (com : List Int) (hn : com.length ≤ 1000000000) (hm : m.all.length ≤ 1000000000) : ACall Tryz.prog 137 ([aggD (memD m)] ++ [.iptr [usD com] 0]) [] (Just (boolA (fitsM m com))) := by
 have hc := zem m.all 138 [.iptr [usD com] 0] (fun c => !com.any fun x => c == x) (fun c _ => zh4 c com hn) hm
 rw [zlx]
 obtain ⟨ok, all⟩ := m
 dsimp only at hc ⊢
 obtain ⟨b, hb⟩ : ∃ b, (all.any fun c => !com.any fun x => c == x) = b := ⟨_, rfl⟩
 rw [hb] at hc ⊢
 refine zf za Tryz.func137 rfl Tryz.ntmps137 (congrArg Array.toList Tryz.results137) (by kernel_rfl) rfl ?_
 repeat (first | refine q_Z ?_ | ((first | apply q_K rfl | apply q_X rfl); (first | exact q_H | (exact zU rfl rfl))) | refine q_U ?_ | refine q_O hc ?_)
 exact zk rfl ⟨rfl, rfl⟩
theorem zlb (l : CLst) (com : List Int) (hl : ∀ m ∈ l.ms, m.all.length ≤ 1000000000) (hc : com.length ≤ 1000000000) (hn : l.ms.length ≤ 1000000000) :
  ACall Tryz.prog 123 [aggD (clstD l), usA com] [] (Just (.tup [intA (if idxOf (fun m => fitsM m com) l.ms < 0 then 0 else idxOf (fun m => fitsM m com) l.ms), boolA (decide (0 ≤ idxOf (fun m => fitsM m com) l.ms))])) := by
 have hf := zlB l.ms 137 [.iptr [usD com] 0] (fun m => fitsM m com) (fun m hm => zjE m com hc (hl m hm)) hn
 obtain ⟨nm, ms⟩ := l
 refine zf za Tryz.func123 rfl Tryz.ntmps123 (congrArg Array.toList Tryz.results123) (by kernel_rfl) rfl ?_
 refine z7 ?_
 refine zab ?_
 refine q_d ?_
 refine q_d ?_
 refine zB (zG (id := 3) (ds := [usD com]) rfl rfl) ?_
 repeat (first | refine q_Z ?_ | ((first | apply q_K rfl | apply q_X rfl); (first | exact q_H | (exact zU rfl rfl))) | refine q_U ?_ | refine q_O hf ?_)
 exact zk rfl ⟨rfl, rfl⟩
set_option maxHeartbeats 4000000 in
theorem zlY (l : CLst) (com : List Int) (hl : ∀ m ∈ l.ms, m.all.length ≤ 1000000000) (hc : com.length ≤ 1000000000) (hn : l.ms.length ≤ 1000000000) : ACall Tryz.prog 96 [aggD (clstD l), usA com] [] (Just (boolA (allowsL l com))) := by
 have he := zlb l com hl hc hn
 unfold allowsL
 have hfi := za8 (fun m => fitsM m com) l.ms
 obtain ⟨nm, ms⟩ := l
 dsimp only at he hfi ⊢
 rcases hfi with ⟨h1, h2⟩ | ⟨k, hk, h1, h2⟩
 ·rw [h1] at he
  rw [h2]
  have he : ACall Tryz.prog 123 [aggD (clstD ⟨nm, ms⟩), usA com] [] (Just (.tup [intA 0, boolA false])) := he
  refine zf za Tryz.func96 rfl Tryz.ntmps96 (congrArg Array.toList Tryz.results96) (by kernel_rfl) rfl ?_
  repeat (first | refine q_Z ?_ | ((first | apply q_K rfl | apply q_X rfl); (exact q_H)) | refine q_U ?_ | refine q_O he ?_)
  exact zk rfl ⟨rfl, rfl⟩
 ·rw [h1, if_neg (by omega), decide_eq_true (show (0 : Int) ≤ (k : Int) by omega)] at he
  rw [h2]
  have hw : win (ms.flatMap memD) (k * 2 + 0) 1 = [.sc (.bool ms[k].ok)] := zx zdt ms k 0 1 hk (by decide)
  refine zf za Tryz.func96 rfl Tryz.ntmps96 (congrArg Array.toList Tryz.results96) (by kernel_rfl) rfl ?_
  repeat (first | refine q_Z ?_ | ((first | apply q_K rfl | apply q_X rfl); (first | exact q_A | exact q_R (w := (by first | exact hw | rfl)) | exact q_B | (exact q_I k hk))) | refine q_U ?_ | refine q_O he ?_)
  exact zk rfl ⟨rfl, rfl⟩
end Go.Proofs.YtmmdkjanmegjdaaGreat.Ab

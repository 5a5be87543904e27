/-
 Texts of a proof, one behind the other (part 15).
-/
import Derived.Test.YtmmdkjanmegjdaaGreatRv4
import Derived.Test.YtmmdkjanmegjdaaGreatRv10
set_option linter.unusedSimpArgs false
set_option linter.unusedVariables false
namespace Go.Proofs.YtmmdkjanmegjdaaGreat.Ab
set_option maxRecDepth 100000
open Go.RowKit Go.Lib Go.Sort
attribute [local irreducible] AWp AOps AQ AYield AEff ACall AWk AAny AAt AThen AIn APost NoPanic
theorem zn7 {d : Array Int} {b i : Nat} (h : i < b) (hp : ltInt d[i]! d[i - 1]! = false) : scanSorted ltInt d b i = scanSorted ltInt d b (i + 1) := by rw [scanSorted, if_pos (by rw [hp, decide_eq_true h]; rfl)]
theorem zfZ {d : Array Int} {b i : Nat} (h : i < b → ltInt d[i]! d[i - 1]! = true) : scanSorted ltInt d b i = i := by
 rw [scanSorted, if_neg]
 by_cases hij : i < b
 ·rw [h hij]; simp
 ·rw [decide_eq_false hij]; simp
theorem zpv (d : Array Int) (b : Nat) : ∀ (n i : Nat), b - i = n → i ≤ b → i ≤ scanSorted ltInt d b i ∧ scanSorted ltInt d b i ≤ b := fun n => by
 induction n with
 | zero => intro i h1 h2; rw [zfZ (fun h => by omega)]; exact ⟨Nat.le_refl _, h2⟩
 | succ n ih =>
  intro i h1 h2
  by_cases hl : ltInt d[i]! d[i - 1]! = true
  ·rw [zfZ (fun _ => hl)]; exact ⟨Nat.le_refl _, h2⟩
  ·rw [zn7 (by omega) (Bool.eq_false_iff.2 hl)]
   have := ih (i + 1) (by omega) (by omega)
   omega
theorem zkB : ∀ (j : Nat) (d : Array Int), (shiftDown ltInt j d).size = d.size := fun j => by
  induction j with
  | zero => intro d; rfl
  | succ j ih => intro d; rw [shiftDown]; split; · rfl
                 · rw [ih, size_swp]
theorem zkx (b : Nat) : ∀ (n j : Nat) (d : Array Int), b - j = n → (shiftUp ltInt b j d).size = d.size := fun n => by
  induction n with
  | zero => intro j d h; rw [shiftUp, if_neg (by omega)]
  | succ n ih => intro j d h; rw [shiftUp, if_pos (by omega)]; split; · rfl
                 · rw [ih _ _ (by omega), size_swp]
theorem qqao0 {T : List Nat} {e : Env} {h : Heap} {o : Oper} {c : AVal} (hy : AYield Tryz.prog T e h o c := by first | exact q_D | exact q_19 | exact q_E) : AYield Tryz.prog T e h o c := hy
set_option maxHeartbeats 16000000 in
theorem zmT (d : Array Int) (a b : Nat) (hn : d.size ≤ 1000000000) (hb : b ≤ d.size) (hab : a < b) : ACall Tryz.prog 153 [.row 1000, natA a, natA b] [(1000, uR d)] (fun c h => c = boolA (partialInsertionSort ltInt d a b).2 ∧ h = [(1000, uR (partialInsertionSort ltInt d a b).1)]) := by
 refine zf za Tryz.func153 rfl Tryz.ntmps153 (congrArg Array.toList Tryz.results153) (by kernel_rfl) rfl ?_
 repeat ((fail_if_success refine zb ?_); first | refine q_Y ?_ | ((first | apply q_K rfl | apply q_X rfl); (exact qqao0)) | refine q_T ?_)
 refine zS ?_
 refine zw (fun x : Nat × Nat × Array Int => [(0, .row 1000), (1, natA a), (2, natA b), (6, boolA false), (7, natA x.2.1), (8, natA (5 - x.1))]) (fun x => [(1000, uR x.2.2)]) (fun x => partialIns ltInt a b x.1 x.2.1 x.2.2 = partialInsertionSort ltInt d a b ∧ x.2.2.size = d.size ∧ a + 1 ≤ x.2.1 ∧ x.2.1 ≤ b ∧ x.1 ≤ 5) (fun x => x.1) (5, a + 1, d) ⟨rfl, rfl, by (try dsimp only); omega, by (try dsimp only); omega, Nat.le_refl _⟩ (q_S) ?_
 ·rintro ⟨s, i, d1⟩ ⟨hr, hs, hai, hib, hs5⟩
  try dsimp only at hr hs hai hib hs5 ⊢
  cases s with
  | zero =>
   repeat ((fail_if_success refine zb ?_); first | refine q_Y ?_ | ((first | apply q_K rfl | apply q_X rfl); (exact qqao0)) | refine q_T ?_)
   exact zo AWk.refl rfl (h2 := [(1000, uR (partialInsertionSort ltInt d a b).1)]) ⟨by rw [← hr]; rfl, trivial⟩ ⟨by rw [← hr]; rfl, rfl⟩
  | succ s =>
   rw [partialIns] at hr
   have hsl := zpv d1 b _ i rfl hib
   repeat ((fail_if_success refine zb ?_); first | refine q_Y ?_ | ((first | apply q_K rfl | apply q_X rfl); (exact qqao0)) | refine q_T ?_)
   refine za7 (fun i' : Nat => [(0, .row 1000), (1, natA a), (2, natA b), (6, boolA false), (7, natA i'), (8, natA (5 - (s + 1)))]) (fun _ => [(1000, uR d1)]) (fun i' => scanSorted ltInt d1 b i' = scanSorted ltInt d1 b i ∧ a + 1 ≤ i' ∧ i' ≤ b) (fun i' => b - i') i [(0, .row 1000), (1, natA a), (2, natA b), (6, boolA false), (7, natA (scanSorted ltInt d1 b i)), (8, natA (5 - (s + 1)))] [(1000, uR d1)] ⟨rfl, hai, hib⟩ (q_S) ?_ ?_
   ·rintro i' ⟨hi, hai', hib'⟩
    try dsimp only
    by_cases hij : i' < b
    ·have hc := zaS d1[i']! d1[i' - 1]!
     cases hl : ltInt d1[i']! d1[i' - 1]!
     ·rw [hl] at hc
      have he := zn7 hij hl
      repeat ((fail_if_success refine zb ?_); first | refine q_Y ?_ | ((first | apply q_K rfl | apply q_X rfl); (first | exact q_D | exact zg za rfl rfl rfl rfl rfl rfl (zp (by omega)) rfl rfl | exact q_E)) | refine q_T ?_ | refine q_Q hc ?_)
      exact ⟨i' + 1, ⟨he.symm.trans hi, by (try dsimp only); omega, by (try dsimp only); omega⟩, by (try dsimp only); omega, q_S⟩
     ·rw [hl] at hc
      have he := zfZ (d := d1) (b := b) (i := i') (fun _ => hl)
      repeat ((fail_if_success refine zb ?_); first | refine q_Y ?_ | ((first | apply q_K rfl | apply q_X rfl); (first | exact q_D | exact zg za rfl rfl rfl rfl rfl rfl (zp (by omega)) rfl rfl | exact q_E)) | refine q_T ?_ | refine q_Q hc ?_)
      exact zm ⟨rfl, rfl, rfl, rfl, by rw [← hi, he]; rfl, rfl, trivial⟩ ⟨rfl, trivial⟩
    ·have he := zfZ (d := d1) (b := b) (i := i') (fun h => absurd h hij)
     repeat ((fail_if_success refine zb ?_); first | refine q_Y ?_ | ((first | apply q_K rfl | apply q_X rfl); (exact qqao0)) | refine q_T ?_)
     exact zm ⟨rfl, rfl, rfl, rfl, by rw [← hi, he]; rfl, rfl, trivial⟩ ⟨rfl, trivial⟩
   ·generalize hie : scanSorted ltInt d1 b i = i1 at hr hsl
    try dsimp only at hr
    by_cases hib1 : i1 = b
    ·rw [if_pos hib1] at hr
     repeat ((fail_if_success refine zb ?_); first | refine q_Y ?_ | ((first | apply q_K rfl | apply q_X rfl); (exact qqao0)) | refine q_T ?_)
     exact zo AWk.refl rfl (h2 := [(1000, uR (partialInsertionSort ltInt d a b).1)]) ⟨by rw [← hr]; rfl, trivial⟩ ⟨by rw [← hr]; rfl, rfl⟩
    ·rw [if_neg hib1] at hr
     by_cases h50 : b - a < 50
     ·rw [if_pos h50] at hr
      repeat ((fail_if_success refine zb ?_); first | refine q_Y ?_ | ((first | apply q_K rfl | apply q_X rfl); (exact qqao0)) | refine q_T ?_)
      exact zo AWk.refl rfl (h2 := [(1000, uR (partialInsertionSort ltInt d a b).1)]) ⟨by rw [← hr]; rfl, trivial⟩ ⟨by rw [← hr]; rfl, rfl⟩
     ·rw [if_neg h50] at hr
      have hA : i1 < d1.size := by omega
      have hB : i1 - 1 < d1.size := by omega
      repeat ((fail_if_success refine zb ?_); first | refine q_Y ?_ | ((first | apply q_K rfl | apply q_X rfl); (exact qqao0)) | refine q_T ?_)
      refine zA [1000] mixed ?_
      apply q_P 0 rfl (by kernel_rfl) rfl rfl rfl
      exact q_1
      apply q_P 1 rfl (by kernel_rfl) rfl rfl rfl
      exact q_1
      apply q_P 2 rfl (by kernel_rfl) rfl rfl rfl
      exact q_1
      apply q_P 3 rfl (by kernel_rfl) rfl rfl rfl
      exact q_1
      apply q_P 4 rfl (by kernel_rfl) rfl rfl rfl
      first | exact zb2 rfl rfl rfl | exact q_10
      apply q_P 5 rfl (by kernel_rfl) rfl rfl rfl
      exact q_1
      apply q_P 6 rfl (by kernel_rfl) rfl rfl rfl
      exact q_1
      apply q_P 7 rfl (by kernel_rfl) rfl rfl rfl
      first | exact zb2 rfl rfl rfl | exact q_10
      apply q_P 8 rfl (by kernel_rfl) rfl rfl rfl
      exact zi za rfl rfl rfl rfl rfl rfl rfl (by first | omega | (simp only [size_swp]; omega))
      apply q_P 10 rfl (by kernel_rfl) rfl rfl rfl
      exact q_1
      apply q_P 11 rfl (by kernel_rfl) rfl rfl rfl
      exact q_1
      apply q_P 12 rfl (by kernel_rfl) rfl rfl rfl
      exact zi za rfl rfl rfl rfl rfl rfl rfl (by first | omega | (simp only [size_swp]; omega))
      refine zaV (j := 9) (k := 13) (l2 := #[true, true, true, true, true, true, true, true, true, true, true, true, true, true, false, false, false, false]) (by kernel_rfl) (by kernel_rfl) (by kernel_rfl) (by kernel_rfl) (by kernel_rfl) rfl rfl rfl rfl rfl rfl rfl rfl rfl rfl rfl (zg (T := []) za rfl rfl rfl rfl rfl rfl (zp (by omega)) rfl rfl) (zg (T := []) za rfl rfl rfl rfl rfl rfl (zp (by omega)) rfl rfl) (zg (T := []) za rfl rfl rfl rfl rfl rfl (zp (by omega)) rfl rfl) (zg (T := []) za rfl rfl rfl rfl rfl rfl (zp (by omega)) rfl rfl) ?_
      apply q_P 14 rfl (by kernel_rfl) rfl rfl rfl
      exact zi za rfl rfl rfl rfl rfl rfl rfl (by first | omega | (simp only [size_swp]; omega))
      refine zd (j := 15) (by kernel_rfl) ?_
      refine zC za rfl rfl rfl rfl rfl rfl rfl rfl rfl rfl rfl rfl (by first | (simp only [zD]; omega) | (simp only [zag, zD, setW, List.length_append, List.length_take, List.length_drop, List.length_cons, List.length_nil]; omega)) (by omega) ?_
      apply q_P 16 rfl (by kernel_rfl) rfl rfl rfl
      exact zi za rfl rfl rfl rfl rfl rfl rfl (by first | omega | (simp only [size_swp]; omega))
      refine zd (j := 17) (by kernel_rfl) ?_
      refine zC za rfl rfl rfl rfl rfl rfl rfl rfl rfl rfl rfl rfl (by first | (simp only [zD]; omega) | (simp only [zag, zD, setW, List.length_append, List.length_take, List.length_drop, List.length_cons, List.length_nil]; omega)) (by omega) ?_
      refine zz (by kernel_rfl) ?_
      refine q_j ?_
      have hs2 := size_swp d1 i1 (i1 - 1)
      refine zaH [(0, .row 1000), (1, natA a), (2, natA b), (6, boolA false), (7, natA i1), (8, natA (5 - (s + 1)))] [(1000, uR (if i1 - a ≥ 2 then shiftDown ltInt (i1 - 1) (swp d1 i1 (i1 - 1)) else swp d1 i1 (i1 - 1)))] ?_ ?_
      ·refine zt (zm (e1 := [(0, .row 1000), (1, natA a), (2, natA b), (6, boolA false), (7, natA i1), (8, natA (5 - (s + 1)))]) (h1 := [(1000, uR (swp d1 i1 (i1 - 1)))]) ⟨rfl, rfl, rfl, rfl, rfl, rfl, trivial⟩ ⟨zaR hA hB rfl, trivial⟩) ?_
       generalize swp d1 i1 (i1 - 1) = d2 at hs2
       by_cases h2 : i1 - a ≥ 2
       ·rw [if_pos h2]
        repeat ((fail_if_success refine zb ?_); first | refine q_Y ?_ | ((first | apply q_K rfl | apply q_X rfl); (exact qqao0)) | refine q_T ?_)
        refine zw (fun x : Nat × Array Int => [(0, .row 1000), (1, natA a), (2, natA b), (6, boolA false), (7, natA i1), (8, natA (5 - (s + 1))), (9, natA x.1)]) (fun x => [(1000, uR x.2)]) (fun x => shiftDown ltInt x.1 x.2 = shiftDown ltInt (i1 - 1) d2 ∧ x.2.size = d.size ∧ x.1 ≤ i1) (fun x => x.1) (i1 - 1, d2) ⟨rfl, hs2.trans hs, by (try dsimp only); omega⟩ (q_S) ?_
        rintro ⟨j, d3⟩ ⟨hj, hs3, hji⟩
        try dsimp only at hj hs3 hji ⊢
        cases j with
        | zero =>
         repeat ((fail_if_success refine zb ?_); first | refine q_Y ?_ | ((first | apply q_K rfl | apply q_X rfl); (exact qqao0)) | refine q_T ?_)
         exact zm ⟨rfl, rfl, rfl, rfl, rfl, rfl, trivial⟩ ⟨by rw [← hj]; rfl, trivial⟩
        | succ j =>
         rw [shiftDown] at hj
         have hc := zaS d3[j + 1]! d3[j]!
         have hj1 : j + 1 < d3.size := by omega
         have hj2 : j < d3.size := by omega
         cases hl : ltInt d3[j + 1]! d3[j]!
         ·rw [hl] at hc hj
          repeat ((fail_if_success refine zb ?_); first | refine q_Y ?_ | ((first | apply q_K rfl | apply q_X rfl); (first | exact q_D | exact zg za rfl rfl rfl rfl rfl rfl (zp (by omega)) rfl rfl | exact q_E)) | refine q_T ?_ | refine q_Q hc ?_)
          exact zm ⟨rfl, rfl, rfl, rfl, rfl, rfl, trivial⟩ ⟨by rw [← hj]; rfl, trivial⟩
         ·rw [hl] at hc hj
          repeat ((fail_if_success refine zb ?_); first | refine q_Y ?_ | ((first | apply q_K rfl | apply q_X rfl); (first | exact q_D | exact zg za rfl rfl rfl rfl rfl rfl (zp (by omega)) rfl rfl | exact q_E)) | refine q_T ?_ | refine q_Q hc ?_)
          refine zA [1000] mixed ?_
          apply q_P 0 rfl (by kernel_rfl) rfl rfl rfl
          exact q_1
          apply q_P 1 rfl (by kernel_rfl) rfl rfl rfl
          exact q_1
          apply q_P 2 rfl (by kernel_rfl) rfl rfl rfl
          exact q_1
          apply q_P 3 rfl (by kernel_rfl) rfl rfl rfl
          exact q_1
          apply q_P 4 rfl (by kernel_rfl) rfl rfl rfl
          first | exact zb2 rfl rfl rfl | exact q_10
          apply q_P 5 rfl (by kernel_rfl) rfl rfl rfl
          exact q_1
          apply q_P 6 rfl (by kernel_rfl) rfl rfl rfl
          exact q_1
          apply q_P 7 rfl (by kernel_rfl) rfl rfl rfl
          first | exact zb2 rfl rfl rfl | exact q_10
          apply q_P 8 rfl (by kernel_rfl) rfl rfl rfl
          exact zi za rfl rfl rfl rfl rfl rfl rfl (by first | omega | (simp only [size_swp]; omega))
          apply q_P 10 rfl (by kernel_rfl) rfl rfl rfl
          exact q_1
          apply q_P 11 rfl (by kernel_rfl) rfl rfl rfl
          exact q_1
          apply q_P 12 rfl (by kernel_rfl) rfl rfl rfl
          exact zi za rfl rfl rfl rfl rfl rfl rfl (by first | omega | (simp only [size_swp]; omega))
          refine zaV (j := 9) (k := 13) (l2 := #[true, true, true, true, true, true, true, true, true, true, true, true, true, true, false, false, false, false]) (by kernel_rfl) (by kernel_rfl) (by kernel_rfl) (by kernel_rfl) (by kernel_rfl) rfl rfl rfl rfl rfl rfl rfl rfl rfl rfl rfl (zg (T := []) za rfl rfl rfl rfl rfl rfl (zp (by omega)) rfl rfl) (zg (T := []) za rfl rfl rfl rfl rfl rfl (zp (by omega)) rfl rfl) (zg (T := []) za rfl rfl rfl rfl rfl rfl (zp (by omega)) rfl rfl) (zg (T := []) za rfl rfl rfl rfl rfl rfl (zp (by omega)) rfl rfl) ?_
          apply q_P 14 rfl (by kernel_rfl) rfl rfl rfl
          exact zi za rfl rfl rfl rfl rfl rfl rfl (by first | omega | (simp only [size_swp]; omega))
          refine zd (j := 15) (by kernel_rfl) ?_
          refine zC za rfl rfl rfl rfl rfl rfl rfl rfl rfl rfl rfl rfl (by first | (simp only [zD]; omega) | (simp only [zag, zD, setW, List.length_append, List.length_take, List.length_drop, List.length_cons, List.length_nil]; omega)) (by omega) ?_
          apply q_P 16 rfl (by kernel_rfl) rfl rfl rfl
          exact zi za rfl rfl rfl rfl rfl rfl rfl (by first | omega | (simp only [size_swp]; omega))
          refine zd (j := 17) (by kernel_rfl) ?_
          refine zC za rfl rfl rfl rfl rfl rfl rfl rfl rfl rfl rfl rfl (by first | (simp only [zD]; omega) | (simp only [zag, zD, setW, List.length_append, List.length_take, List.length_drop, List.length_cons, List.length_nil]; omega)) (by omega) ?_
          refine zz (by kernel_rfl) ?_
          repeat ((fail_if_success refine zb ?_); first | refine q_Y ?_ | ((first | apply q_K rfl | apply q_X rfl); (exact qqao0)) | refine q_T ?_)
          exact ⟨(j, swp d3 (j + 1) j), ⟨hj, by (try dsimp only); rw [size_swp]; exact hs3, by (try dsimp only); omega⟩, by (try dsimp only); omega, zm ⟨rfl, rfl, rfl, rfl, rfl, rfl, rfl, trivial⟩ ⟨zaR hj1 hj2 rfl, trivial⟩⟩
       ·rw [if_neg h2]
        repeat ((fail_if_success refine zb ?_); first | refine q_Y ?_ | ((first | apply q_K rfl | apply q_X rfl); (exact qqao0)) | refine q_T ?_)
        exact q_S
      ·have hs4 : (if i1 - a ≥ 2 then shiftDown ltInt (i1 - 1) (swp d1 i1 (i1 - 1)) else swp d1 i1 (i1 - 1)).size = d.size := by
        split
        ·rw [zkB, hs2, hs]
        ·rw [hs2, hs]
       generalize (if i1 - a ≥ 2 then shiftDown ltInt (i1 - 1) (swp d1 i1 (i1 - 1)) else swp d1 i1 (i1 - 1)) = d2 at hr hs4
       have hs5' : (if b - i1 ≥ 2 then shiftUp ltInt b (i1 + 1) d2 else d2).size = d.size := by
        split
        ·rw [zkx b _ _ _ rfl, hs4]
        ·exact hs4
       by_cases h2 : b - i1 ≥ 2
       ·rw [if_pos h2] at hr hs5'
        repeat ((fail_if_success refine zb ?_); first | refine q_Y ?_ | ((first | apply q_K rfl | apply q_X rfl); (exact qqao0)) | refine q_T ?_)
        refine zw (fun x : Nat × Array Int => [(0, .row 1000), (1, natA a), (2, natA b), (6, boolA false), (7, natA i1), (8, natA (5 - (s + 1))), (10, natA x.1)]) (fun x => [(1000, uR x.2)]) (fun x => shiftUp ltInt b x.1 x.2 = shiftUp ltInt b (i1 + 1) d2 ∧ x.2.size = d.size ∧ i1 + 1 ≤ x.1 ∧ x.1 ≤ b) (fun x => b - x.1) (i1 + 1, d2) ⟨rfl, hs4, by (try dsimp only); omega, by (try dsimp only); omega⟩ (q_S) ?_
        rintro ⟨j, d3⟩ ⟨hj, hs3, hji, hjb⟩
        try dsimp only at hj hs3 hji hjb ⊢
        rw [shiftUp] at hj
        by_cases hjb2 : j < b
        ·rw [if_pos hjb2] at hj
         have hc := zaS d3[j]! d3[j - 1]!
         have hj1 : j < d3.size := by omega
         have hj2 : j - 1 < d3.size := by omega
         cases hl : ltInt d3[j]! d3[j - 1]!
         ·rw [hl] at hc hj
          repeat ((fail_if_success refine zb ?_); first | refine q_Y ?_ | ((first | apply q_K rfl | apply q_X rfl); (first | exact q_D | exact zg za rfl rfl rfl rfl rfl rfl (zp (by omega)) rfl rfl | exact q_E)) | refine q_T ?_ | refine q_Q hc ?_)
          exact ⟨(s, i1, d3), ⟨by rw [← hj] at hr; exact hr, hs3, by (try dsimp only); omega, by (try dsimp only); omega, by (try dsimp only); omega⟩, by (try dsimp only); omega, zm ⟨rfl, rfl, rfl, rfl, rfl, intE (by omega), trivial⟩ ⟨rfl, trivial⟩⟩
         ·rw [hl] at hc hj
          repeat ((fail_if_success refine zb ?_); first | refine q_Y ?_ | ((first | apply q_K rfl | apply q_X rfl); (first | exact q_D | exact zg za rfl rfl rfl rfl rfl rfl (zp (by omega)) rfl rfl | exact q_E)) | refine q_T ?_ | refine q_Q hc ?_)
          refine zA [1000] mixed ?_
          apply q_P 0 rfl (by kernel_rfl) rfl rfl rfl
          exact q_1
          apply q_P 1 rfl (by kernel_rfl) rfl rfl rfl
          exact q_1
          apply q_P 2 rfl (by kernel_rfl) rfl rfl rfl
          exact q_1
          apply q_P 3 rfl (by kernel_rfl) rfl rfl rfl
          exact q_1
          apply q_P 4 rfl (by kernel_rfl) rfl rfl rfl
          first | exact zb2 rfl rfl rfl | exact q_10
          apply q_P 5 rfl (by kernel_rfl) rfl rfl rfl
          exact q_1
          apply q_P 6 rfl (by kernel_rfl) rfl rfl rfl
          exact q_1
          apply q_P 7 rfl (by kernel_rfl) rfl rfl rfl
          first | exact zb2 rfl rfl rfl | exact q_10
          apply q_P 8 rfl (by kernel_rfl) rfl rfl rfl
          exact zi za rfl rfl rfl rfl rfl rfl rfl (by first | omega | (simp only [size_swp]; omega))
          apply q_P 10 rfl (by kernel_rfl) rfl rfl rfl
          exact q_1
          apply q_P 11 rfl (by kernel_rfl) rfl rfl rfl
          exact q_1
          apply q_P 12 rfl (by kernel_rfl) rfl rfl rfl
          exact zi za rfl rfl rfl rfl rfl rfl rfl (by first | omega | (simp only [size_swp]; omega))
          refine zaV (j := 9) (k := 13) (l2 := #[true, true, true, true, true, true, true, true, true, true, true, true, true, true, false, false, false, false]) (by kernel_rfl) (by kernel_rfl) (by kernel_rfl) (by kernel_rfl) (by kernel_rfl) rfl rfl rfl rfl rfl rfl rfl rfl rfl rfl rfl (zg (T := []) za rfl rfl rfl rfl rfl rfl (zp (by omega)) rfl rfl) (zg (T := []) za rfl rfl rfl rfl rfl rfl (zp (by omega)) rfl rfl) (zg (T := []) za rfl rfl rfl rfl rfl rfl (zp (by omega)) rfl rfl) (zg (T := []) za rfl rfl rfl rfl rfl rfl (zp (by omega)) rfl rfl) ?_
          apply q_P 14 rfl (by kernel_rfl) rfl rfl rfl
          exact zi za rfl rfl rfl rfl rfl rfl rfl (by first | omega | (simp only [size_swp]; omega))
          refine zd (j := 15) (by kernel_rfl) ?_
          refine zC za rfl rfl rfl rfl rfl rfl rfl rfl rfl rfl rfl rfl (by first | (simp only [zD]; omega) | (simp only [zag, zD, setW, List.length_append, List.length_take, List.length_drop, List.length_cons, List.length_nil]; omega)) (by omega) ?_
          apply q_P 16 rfl (by kernel_rfl) rfl rfl rfl
          exact zi za rfl rfl rfl rfl rfl rfl rfl (by first | omega | (simp only [size_swp]; omega))
          refine zd (j := 17) (by kernel_rfl) ?_
          refine zC za rfl rfl rfl rfl rfl rfl rfl rfl rfl rfl rfl rfl (by first | (simp only [zD]; omega) | (simp only [zag, zD, setW, List.length_append, List.length_take, List.length_drop, List.length_cons, List.length_nil]; omega)) (by omega) ?_
          refine zz (by kernel_rfl) ?_
          repeat ((fail_if_success refine zb ?_); first | refine q_Y ?_ | ((first | apply q_K rfl | apply q_X rfl); (exact qqao0)) | refine q_T ?_)
          exact ⟨(j + 1, swp d3 j (j - 1)), ⟨hj, by (try dsimp only); rw [size_swp]; exact hs3, by (try dsimp only); omega, by (try dsimp only); omega⟩, by (try dsimp only); omega, zm ⟨rfl, rfl, rfl, rfl, rfl, rfl, rfl, trivial⟩ ⟨zaR hj1 hj2 rfl, trivial⟩⟩
        ·rw [if_neg hjb2] at hj
         repeat ((fail_if_success refine zb ?_); first | refine q_Y ?_ | ((first | apply q_K rfl | apply q_X rfl); (exact qqao0)) | refine q_T ?_)
         exact ⟨(s, i1, d3), ⟨by rw [← hj] at hr; exact hr, hs3, by (try dsimp only); omega, by (try dsimp only); omega, by (try dsimp only); omega⟩, by (try dsimp only); omega, zm ⟨rfl, rfl, rfl, rfl, rfl, intE (by omega), trivial⟩ ⟨rfl, trivial⟩⟩
       ·rw [if_neg h2] at hr hs5'
        repeat ((fail_if_success refine zb ?_); first | refine q_Y ?_ | ((first | apply q_K rfl | apply q_X rfl); (exact qqao0)) | refine q_T ?_)
        exact ⟨(s, i1, d2), ⟨hr, hs4, by (try dsimp only); omega, by (try dsimp only); omega, by (try dsimp only); omega⟩, by (try dsimp only); omega, zm ⟨rfl, rfl, rfl, rfl, rfl, intE (by omega), trivial⟩ ⟨rfl, trivial⟩⟩
end Go.Proofs.YtmmdkjanmegjdaaGreat.Ab

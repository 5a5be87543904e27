/-
 Texts of a proof, one behind the other (part 12).
-/
import Derived.Test.YtmmdkjanmegjdaaGreatRv4
import Derived.Test.YtmmdkjanmegjdaaGreatRv10
set_option linter.unusedSimpArgs false
set_option linter.unusedVariables false
namespace Go.Proofs.YtmmdkjanmegjdaaGreat.Ab
set_option maxRecDepth 100000
open Go.RowKit Go.Lib Go.Sort
attribute [local irreducible] AWp AOps AQ AYield AEff ACall AWk AAny AAt AThen AIn APost NoPanic
set_option maxHeartbeats 8000000 in
theorem zoU (d : Array Int) (a b : Nat) (hn : d.size ≤ 1000000000) (hb : b ≤ d.size) (ha : a ≤ b) : ACall Tryz.prog 148 [.row 1000, natA a, natA b] [(1000, uR d)] (fun c h => c = .tup [] ∧ h = [(1000, uR (insertionSort ltInt d a b))]) := by
 refine zf za Tryz.func148 rfl Tryz.ntmps148 (congrArg Array.toList Tryz.results148) (by kernel_rfl) rfl ?_
 repeat ((fail_if_success refine zb ?_); first | refine q_Y ?_ | ((first | apply q_K rfl | apply q_X rfl); (first | exact q_D | exact q_19 | exact q_E)) | refine q_T ?_)
 refine zw (fun x : Nat × Array Int => [(0, .row 1000), (1, natA a), (2, natA b), (6, natA x.1)]) (fun x => [(1000, uR x.2)]) (fun x => insOuter ltInt a b x.1 x.2 = insertionSort ltInt d a b ∧ x.2.size = d.size ∧ a + 1 ≤ x.1 ∧ x.1 ≤ b + 1) (fun x => b + 1 - x.1) (a + 1, d) ⟨rfl, rfl, by omega, by omega⟩ (q_S) ?_
 rintro ⟨i, d1⟩ ⟨hi, hs, hai, hib⟩
 try dsimp only at hi hs hai hib ⊢
 by_cases hlt : i < b
 ·rw [insOuter, if_pos hlt] at hi
  repeat ((fail_if_success refine zb ?_); first | refine q_Y ?_ | ((first | apply q_K rfl | apply q_X rfl); (first | exact q_D | exact q_19 | exact q_E)) | refine q_T ?_)
  refine zw (fun x : Nat × Array Int => [(0, .row 1000), (1, natA a), (2, natA b), (6, natA i), (7, natA x.1)]) (fun x => [(1000, uR x.2)]) (fun x => insInner ltInt a x.1 x.2 = insInner ltInt a i d1 ∧ x.2.size = d.size ∧ x.1 ≤ i) (fun x => x.1) (i, d1) ⟨rfl, hs, by omega⟩ (q_S) ?_
  rintro ⟨j, d2⟩ ⟨hj, hs2, hji⟩
  try dsimp only at hj hs2 hji ⊢
  by_cases hja : a < j
  ·obtain ⟨j, rfl⟩ : ∃ k, j = k + 1 := ⟨j - 1, by omega⟩
   have hj1 : j + 1 < d2.size := by omega
   have hj2 : j < d2.size := by omega
   have hc := zaS d2[j + 1]! d2[j]!
   cases hl : ltInt d2[j + 1]! d2[j]!
   ·rw [hl] at hc
    have he : insInner ltInt a (j + 1) d2 = d2 := by rw [insInner, hl, Bool.and_false, if_neg (by decide)]
    repeat ((fail_if_success refine zb ?_); first | refine q_Y ?_ | ((first | apply q_K rfl | apply q_X rfl); (first | exact q_D | exact zg za rfl rfl rfl rfl rfl rfl (zp (by omega)) rfl rfl | exact q_E)) | refine q_T ?_ | refine q_Q hc ?_)
    refine ⟨(i + 1, insInner ltInt a i d1), ⟨hi, ?_, by (try dsimp only); omega, by (try dsimp only); omega⟩, by (try dsimp only); omega, zm ⟨rfl, rfl, rfl, rfl, trivial⟩ ⟨by rw [← hj, he]; rfl, trivial⟩⟩
    rw [← hj, he]; exact hs2
   ·rw [hl] at hc
    have he : insInner ltInt a (j + 1) d2 = insInner ltInt a j (swp d2 (j + 1) j) := by rw [insInner, hl, Bool.and_true, if_pos (decide_eq_true hja)]
    repeat ((fail_if_success refine zb ?_); first | refine q_Y ?_ | ((first | apply q_K rfl | apply q_X rfl); (first | exact q_D | exact zg za rfl rfl rfl rfl rfl rfl (zp (by omega)) rfl rfl | exact q_E)) | refine q_T ?_ | refine q_Q hc ?_)
    refine zA [1000] mixed ?_
    apply q_P 0 rfl (by kernel_rfl) rfl rfl rfl
    exact q_1
    apply q_P 1 rfl (by kernel_rfl) rfl rfl rfl
    exact q_1
    apply q_P 2 rfl (by kernel_rfl) rfl rfl rfl
    exact q_1
    apply q_P 3 rfl (by kernel_rfl) rfl rfl rfl
    exact q_1
    apply q_P 4 rfl (by kernel_rfl) rfl rfl rfl
    first | exact zb2 rfl rfl rfl | exact q_10
    apply q_P 5 rfl (by kernel_rfl) rfl rfl rfl
    exact q_1
    apply q_P 6 rfl (by kernel_rfl) rfl rfl rfl
    exact q_1
    apply q_P 7 rfl (by kernel_rfl) rfl rfl rfl
    first | exact zb2 rfl rfl rfl | exact q_10
    apply q_P 8 rfl (by kernel_rfl) rfl rfl rfl
    exact zi za rfl rfl rfl rfl rfl rfl rfl (by first | omega | (simp only [size_swp]; omega))
    apply q_P 10 rfl (by kernel_rfl) rfl rfl rfl
    exact q_1
    apply q_P 11 rfl (by kernel_rfl) rfl rfl rfl
    exact q_1
    apply q_P 12 rfl (by kernel_rfl) rfl rfl rfl
    exact zi za rfl rfl rfl rfl rfl rfl rfl (by first | omega | (simp only [size_swp]; omega))
    refine zaV (j := 9) (k := 13) (l2 := #[true, true, true, true, true, true, true, true, true, true, true, true, true, true, false, false, false, false]) (by kernel_rfl) (by kernel_rfl) (by kernel_rfl) (by kernel_rfl) (by kernel_rfl) rfl rfl rfl rfl rfl rfl rfl rfl rfl rfl rfl (zg (T := []) za rfl rfl rfl rfl rfl rfl (zp (by omega)) rfl rfl) (zg (T := []) za rfl rfl rfl rfl rfl rfl (zp (by omega)) rfl rfl) (zg (T := []) za rfl rfl rfl rfl rfl rfl (zp (by omega)) rfl rfl) (zg (T := []) za rfl rfl rfl rfl rfl rfl (zp (by omega)) rfl rfl) ?_
    apply q_P 14 rfl (by kernel_rfl) rfl rfl rfl
    exact zi za rfl rfl rfl rfl rfl rfl rfl (by first | omega | (simp only [size_swp]; omega))
    refine zd (j := 15) (by kernel_rfl) ?_
    refine zC za rfl rfl rfl rfl rfl rfl rfl rfl rfl rfl rfl rfl (by first | (simp only [zD]; omega) | (simp only [zag, zD, setW, List.length_append, List.length_take, List.length_drop, List.length_cons, List.length_nil]; omega)) (by omega) ?_
    apply q_P 16 rfl (by kernel_rfl) rfl rfl rfl
    exact zi za rfl rfl rfl rfl rfl rfl rfl (by first | omega | (simp only [size_swp]; omega))
    refine zd (j := 17) (by kernel_rfl) ?_
    refine zC za rfl rfl rfl rfl rfl rfl rfl rfl rfl rfl rfl rfl (by first | (simp only [zD]; omega) | (simp only [zag, zD, setW, List.length_append, List.length_take, List.length_drop, List.length_cons, List.length_nil]; omega)) (by omega) ?_
    refine zz (by kernel_rfl) ?_
    repeat ((fail_if_success refine zb ?_); first | refine q_Y ?_ | ((first | apply q_K rfl | apply q_X rfl); (first | exact q_D | exact q_19 | exact q_E)) | refine q_T ?_)
    exact ⟨(j, swp d2 (j + 1) j), ⟨by rw [← hj, he], by (try dsimp only); rw [size_swp]; exact hs2, by (try dsimp only); omega⟩, by (try dsimp only); omega, zm ⟨rfl, rfl, rfl, rfl, rfl, trivial⟩ ⟨zaR hj1 hj2 rfl, trivial⟩⟩
  ·have he : insInner ltInt a j d2 = d2 := by
    cases j with
    | zero => rfl
    | succ j => rw [insInner, decide_eq_false hja, Bool.false_and, if_neg (by decide)]
   repeat ((fail_if_success refine zb ?_); first | refine q_Y ?_ | ((first | apply q_K rfl | apply q_X rfl); (first | exact q_D | exact q_19 | exact q_E)) | refine q_T ?_)
   refine ⟨(i + 1, insInner ltInt a i d1), ⟨hi, ?_, by (try dsimp only); omega, by (try dsimp only); omega⟩, by (try dsimp only); omega, zm ⟨rfl, rfl, rfl, rfl, trivial⟩ ⟨by rw [← hj, he]; rfl, trivial⟩⟩
   rw [← hj, he]; exact hs2
 ·rw [insOuter, if_neg hlt] at hi
  repeat ((fail_if_success refine zb ?_); first | refine q_Y ?_ | ((first | apply q_K rfl | apply q_X rfl); (first | exact q_D | exact q_19 | exact q_E)) | refine q_T ?_)
  exact zdd AWk.refl rfl (h2 := [(1000, uR (insertionSort ltInt d a b))]) ⟨by rw [← hi]; rfl, trivial⟩ ⟨rfl, rfl⟩
set_option maxHeartbeats 8000000 in
theorem zop (d : Array Int) (a b : Nat) (hn : d.size ≤ 1000000000) (hb : b ≤ d.size) (ha : a < b) : ACall Tryz.prog 152 [.row 1000, natA a, natA b] [(1000, uR d)] (fun c h => c = .tup [] ∧ h = [(1000, uR (reverseRange d a b))]) := by
 refine zf za Tryz.func152 rfl Tryz.ntmps152 (congrArg Array.toList Tryz.results152) (by kernel_rfl) rfl ?_
 repeat ((fail_if_success refine zb ?_); first | refine q_Y ?_ | ((first | apply q_K rfl | apply q_X rfl); (first | exact q_D | exact q_19 | exact q_E)) | refine q_T ?_)
 refine zw (fun x : Nat × Nat × Array Int => [(0, .row 1000), (6, natA x.1), (7, natA x.2.1)]) (fun x => [(1000, uR x.2.2)]) (fun x => reverseLoop x.1 x.2.1 x.2.2 = reverseRange d a b ∧ x.2.2.size = d.size ∧ x.2.1 < b) (fun x => x.2.1 - x.1) (a, b - 1, d) ⟨rfl, rfl, by (try dsimp only); omega⟩ (q_S) ?_
 rintro ⟨i, j, d1⟩ ⟨hi, hs, hjb⟩
 try dsimp only at hi hs hjb ⊢
 by_cases hlt : i < j
 ·rw [reverseLoop, if_pos hlt] at hi
  have hi1 : i < d1.size := by omega
  have hj1 : j < d1.size := by omega
  repeat ((fail_if_success refine zb ?_); first | refine q_Y ?_ | ((first | apply q_K rfl | apply q_X rfl); (first | exact q_D | exact q_19 | exact q_E)) | refine q_T ?_)
  refine zA [1000] mixed ?_
  apply q_P 0 rfl (by kernel_rfl) rfl rfl rfl
  exact q_1
  apply q_P 1 rfl (by kernel_rfl) rfl rfl rfl
  exact q_1
  apply q_P 2 rfl (by kernel_rfl) rfl rfl rfl
  exact q_1
  apply q_P 3 rfl (by kernel_rfl) rfl rfl rfl
  exact q_1
  apply q_P 4 rfl (by kernel_rfl) rfl rfl rfl
  exact q_1
  apply q_P 5 rfl (by kernel_rfl) rfl rfl rfl
  exact q_1
  apply q_P 6 rfl (by kernel_rfl) rfl rfl rfl
  exact zi za rfl rfl rfl rfl rfl rfl rfl (by first | omega | (simp only [size_swp]; omega))
  apply q_P 8 rfl (by kernel_rfl) rfl rfl rfl
  exact q_1
  apply q_P 9 rfl (by kernel_rfl) rfl rfl rfl
  exact q_1
  apply q_P 10 rfl (by kernel_rfl) rfl rfl rfl
  exact zi za rfl rfl rfl rfl rfl rfl rfl (by first | omega | (simp only [size_swp]; omega))
  refine zaV (j := 7) (k := 11) (l2 := #[true, true, true, true, true, true, true, true, true, true, true, true, false, false, false, false]) (by kernel_rfl) (by kernel_rfl) (by kernel_rfl) (by kernel_rfl) (by kernel_rfl) rfl rfl rfl rfl rfl rfl rfl rfl rfl rfl rfl (zg (T := []) za rfl rfl rfl rfl rfl rfl (zp (by omega)) rfl rfl) (zg (T := []) za rfl rfl rfl rfl rfl rfl (zp (by omega)) rfl rfl) (zg (T := []) za rfl rfl rfl rfl rfl rfl (zp (by omega)) rfl rfl) (zg (T := []) za rfl rfl rfl rfl rfl rfl (zp (by omega)) rfl rfl) ?_
  apply q_P 12 rfl (by kernel_rfl) rfl rfl rfl
  exact zi za rfl rfl rfl rfl rfl rfl rfl (by first | omega | (simp only [size_swp]; omega))
  refine zd (j := 13) (by kernel_rfl) ?_
  refine zC za rfl rfl rfl rfl rfl rfl rfl rfl rfl rfl rfl rfl (by first | (simp only [zD]; omega) | (simp only [zag, zD, setW, List.length_append, List.length_take, List.length_drop, List.length_cons, List.length_nil]; omega)) (by omega) ?_
  apply q_P 14 rfl (by kernel_rfl) rfl rfl rfl
  exact zi za rfl rfl rfl rfl rfl rfl rfl (by first | omega | (simp only [size_swp]; omega))
  refine zd (j := 15) (by kernel_rfl) ?_
  refine zC za rfl rfl rfl rfl rfl rfl rfl rfl rfl rfl rfl rfl (by first | (simp only [zD]; omega) | (simp only [zag, zD, setW, List.length_append, List.length_take, List.length_drop, List.length_cons, List.length_nil]; omega)) (by omega) ?_
  refine zz (by kernel_rfl) ?_
  repeat ((fail_if_success refine zb ?_); first | refine q_Y ?_ | ((first | apply q_K rfl | apply q_X rfl); (first | exact q_D | exact q_19 | exact q_E)) | refine q_T ?_)
  exact ⟨(i + 1, j - 1, swp d1 i j), ⟨hi, by (try dsimp only); rw [size_swp]; exact hs, by (try dsimp only); omega⟩, by (try dsimp only); omega, zm ⟨rfl, rfl, rfl, trivial⟩ ⟨zaR hi1 hj1 rfl, trivial⟩⟩
 ·rw [reverseLoop, if_neg hlt] at hi
  repeat ((fail_if_success refine zb ?_); first | refine q_Y ?_ | ((first | apply q_K rfl | apply q_X rfl); (first | exact q_D | exact q_19 | exact q_E)) | refine q_T ?_)
  exact zdd AWk.refl rfl (h2 := [(1000, uR (reverseRange d a b))]) ⟨by rw [← hi]; rfl, trivial⟩ ⟨rfl, rfl⟩
end Go.Proofs.YtmmdkjanmegjdaaGreat.Ab

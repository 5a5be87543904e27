/-
 Texts of a proof, one behind the other (part 14).
-/
import Derived.Test.YtmmdkjanmegjdaaGreatRv4
import Derived.Test.YtmmdkjanmegjdaaGreatRv10
set_option maxRecDepth 100000
set_option linter.unusedSimpArgs false
set_option linter.unusedVariables false
namespace Go.Proofs.YtmmdkjanmegjdaaGreat.Ab
open Go.RowKit Go.Lib Go.Sort
attribute [local irreducible] AWp AOps AQ AYield AEff ACall AWk AAny AAt AThen AIn APost NoPanic
theorem zkt {p : Int → Bool} {d : Array Int} {j i : Nat} (h : i ≤ j) (hp : p d[i]! = true) : scanUp p d j i = scanUp p d j (i + 1) := by rw [scanUp, if_pos (by rw [hp, decide_eq_true h]; rfl)]
theorem zdN {p : Int → Bool} {d : Array Int} {j i : Nat} (h : i ≤ j → p d[i]! = false) : scanUp p d j i = i := by
 rw [scanUp, if_neg]
 by_cases hij : i ≤ j
 ·rw [h hij, Bool.and_false]; decide
 ·rw [decide_eq_false hij]; simp
theorem zkF {p : Int → Bool} {d : Array Int} {j i : Nat} (h : i ≤ j + 1) (hp : p d[j + 1]! = true) : scanDown p d i (j + 1) = scanDown p d i j := by rw [scanDown, if_pos (by rw [hp, decide_eq_true h]; rfl)]
theorem zcP {p : Int → Bool} {d : Array Int} {j i : Nat} (h : i ≤ j → p d[j]! = false) : scanDown p d i j = j := by
 cases j with
 | zero => rfl
 | succ j =>
  rw [scanDown, if_neg]
  by_cases hij : i ≤ j + 1
  ·rw [h hij, Bool.and_false]; decide
  ·rw [decide_eq_false hij]; simp
theorem qqan0 {T : List Nat} {e : Env} {h : Heap} {o : Oper} {c : AVal} (hy : AYield Tryz.prog T e h o c := by first | exact q_D | exact q_19 | exact q_E) : AYield Tryz.prog T e h o c := hy
set_option maxHeartbeats 16000000 in
theorem zmW (d : Array Int) (a b pivot : Nat) (hn : d.size ≤ 1000000000) (hb : b ≤ d.size) (hap : a ≤ pivot) (hpb : pivot < b) : ACall Tryz.prog 156 [.row 1000, natA a, natA b, natA pivot] [(1000, uR d)] (fun c h => c = .tup [natA (partition ltInt d a b pivot).1, boolA (partition ltInt d a b pivot).2.1] ∧ h = [(1000, uR (partition ltInt d a b pivot).2.2)]) := by
 have h1 : a < d.size := by omega
 have h2 : pivot < d.size := by omega
 have hpart : ∀ d1, swp d a pivot = d1 → partition ltInt d a b pivot = (if scanUp (fun x => ltInt x d1[a]!) d1 (b - 1) (a + 1) > scanDown (fun x => !ltInt x d1[a]!) d1 (scanUp (fun x => ltInt x d1[a]!) d1 (b - 1) (a + 1)) (b - 1) then (scanDown (fun x => !ltInt x d1[a]!) d1 (scanUp (fun x => ltInt x d1[a]!) d1 (b - 1) (a + 1)) (b - 1), true, swp d1 (scanDown (fun x => !ltInt x d1[a]!) d1 (scanUp (fun x => ltInt x d1[a]!) d1 (b - 1) (a + 1)) (b - 1)) a) else
  let r := partLoop ltInt a (scanUp (fun x => ltInt x d1[a]!) d1 (b - 1) (a + 1) + 1) (scanDown (fun x => !ltInt x d1[a]!) d1 (scanUp (fun x => ltInt x d1[a]!) d1 (b - 1) (a + 1)) (b - 1) - 1) (swp d1 (scanUp (fun x => ltInt x d1[a]!) d1 (b - 1) (a + 1)) (scanDown (fun x => !ltInt x d1[a]!) d1 (scanUp (fun x => ltInt x d1[a]!) d1 (b - 1) (a + 1)) (b - 1)))
  (r.1, false, swp r.2 r.1 a)) := fun d1 h => by subst h; rfl
 refine zf za Tryz.func156 rfl Tryz.ntmps156 (congrArg Array.toList Tryz.results156) (by kernel_rfl) rfl ?_
 repeat ((fail_if_success refine zb ?_); first | refine q_Y ?_ | ((first | apply q_K rfl | apply q_X rfl); (exact qqan0)) | refine q_T ?_)
 refine zA [1000] mixed ?_
 apply q_P 0 rfl (by kernel_rfl) rfl rfl rfl
 exact q_1
 apply q_P 1 rfl (by kernel_rfl) rfl rfl rfl
 exact q_1
 apply q_P 2 rfl (by kernel_rfl) rfl rfl rfl
 exact q_1
 apply q_P 3 rfl (by kernel_rfl) rfl rfl rfl
 exact q_1
 apply q_P 4 rfl (by kernel_rfl) rfl rfl rfl
 exact q_1
 apply q_P 5 rfl (by kernel_rfl) rfl rfl rfl
 exact q_1
 apply q_P 6 rfl (by kernel_rfl) rfl rfl rfl
 exact zi za rfl rfl rfl rfl rfl rfl rfl (by first | omega | (simp only [size_swp]; omega))
 apply q_P 8 rfl (by kernel_rfl) rfl rfl rfl
 exact q_1
 apply q_P 9 rfl (by kernel_rfl) rfl rfl rfl
 exact q_1
 apply q_P 10 rfl (by kernel_rfl) rfl rfl rfl
 exact zi za rfl rfl rfl rfl rfl rfl rfl (by first | omega | (simp only [size_swp]; omega))
 refine zaV (j := 7) (k := 11) (l2 := #[true, true, true, true, true, true, true, true, true, true, true, true, false, false, false, false]) (by kernel_rfl) (by kernel_rfl) (by kernel_rfl) (by kernel_rfl) (by kernel_rfl) rfl rfl rfl rfl rfl rfl rfl rfl rfl rfl rfl (zg (T := []) za rfl rfl rfl rfl rfl rfl (zp (by omega)) rfl rfl) (zg (T := []) za rfl rfl rfl rfl rfl rfl (zp (by omega)) rfl rfl) (zg (T := []) za rfl rfl rfl rfl rfl rfl (zp (by omega)) rfl rfl) (zg (T := []) za rfl rfl rfl rfl rfl rfl (zp (by omega)) rfl rfl) ?_
 apply q_P 12 rfl (by kernel_rfl) rfl rfl rfl
 exact zi za rfl rfl rfl rfl rfl rfl rfl (by first | omega | (simp only [size_swp]; omega))
 refine zd (j := 13) (by kernel_rfl) ?_
 refine zC za rfl rfl rfl rfl rfl rfl rfl rfl rfl rfl rfl rfl (by first | (simp only [zD]; omega) | (simp only [zag, zD, setW, List.length_append, List.length_take, List.length_drop, List.length_cons, List.length_nil]; omega)) (by omega) ?_
 apply q_P 14 rfl (by kernel_rfl) rfl rfl rfl
 exact zi za rfl rfl rfl rfl rfl rfl rfl (by first | omega | (simp only [size_swp]; omega))
 refine zd (j := 15) (by kernel_rfl) ?_
 refine zC za rfl rfl rfl rfl rfl rfl rfl rfl rfl rfl rfl rfl (by first | (simp only [zD]; omega) | (simp only [zag, zD, setW, List.length_append, List.length_take, List.length_drop, List.length_cons, List.length_nil]; omega)) (by omega) ?_
 refine zz (by kernel_rfl) ?_
 refine q_j ?_
 refine zt (zm (e1 := [(0, .row 1000), (1, natA a), (2, natA b)]) (h1 := [(1000, uR (swp d a pivot))]) ⟨rfl, rfl, rfl, trivial⟩ ⟨zaR h1 h2 rfl, trivial⟩) ?_
 have hs1 := size_swp d a pivot
 generalize hd1 : swp d a pivot = d1
 rw [hd1] at hs1
 have hpart := hpart d1 hd1
 obtain ⟨p, hp⟩ : ∃ p : Int → Bool, (fun x => ltInt x d1[a]!) = p := ⟨_, rfl⟩
 obtain ⟨q, hq⟩ : ∃ q : Int → Bool, (fun x => !ltInt x d1[a]!) = q := ⟨_, rfl⟩
 have hpx : ∀ x, p x = ltInt x d1[a]! := fun x => by rw [← hp]
 have hqx : ∀ x, q x = !ltInt x d1[a]! := fun x => by rw [← hq]
 rw [hp, hq] at hpart
 repeat ((fail_if_success refine zb ?_); first | refine q_Y ?_ | ((first | apply q_K rfl | apply q_X rfl); (exact qqan0)) | refine q_T ?_)
 refine za7 (fun i : Nat => [(0, .row 1000), (1, natA a), (10, natA i), (11, natA (b - 1))]) (fun _ => [(1000, uR d1)]) (fun i => scanUp p d1 (b - 1) i = scanUp p d1 (b - 1) (a + 1) ∧ a + 1 ≤ i ∧ i ≤ b) (fun i => b - i) (a + 1) [(0, .row 1000), (1, natA a), (10, natA (scanUp p d1 (b - 1) (a + 1))), (11, natA (b - 1))] [(1000, uR d1)] ⟨rfl, by (try dsimp only); omega, by (try dsimp only); omega⟩ (q_S) ?_ ?_
 ·rintro i ⟨hi, hai, hib⟩
  try dsimp only
  by_cases hij : i ≤ b - 1
  ·have hc := zaS d1[i]! d1[a]!
   cases hl : ltInt d1[i]! d1[a]!
   ·rw [hl] at hc
    have he := zdN (p := p) (d := d1) (i := i) (j := b - 1) (fun _ => by rw [hpx, hl])
    repeat ((fail_if_success refine zb ?_); first | refine q_Y ?_ | ((first | apply q_K rfl | apply q_X rfl); (first | exact q_D | exact zg za rfl rfl rfl rfl rfl rfl (zp (by omega)) rfl rfl | exact q_E)) | refine q_T ?_ | refine q_Q hc ?_)
    exact zm ⟨rfl, rfl, by rw [← hi, he]; rfl, rfl, trivial⟩ ⟨rfl, trivial⟩
   ·rw [hl] at hc
    have he := zkt (p := p) (d := d1) hij (by rw [hpx, hl])
    repeat ((fail_if_success refine zb ?_); first | refine q_Y ?_ | ((first | apply q_K rfl | apply q_X rfl); (first | exact q_D | exact zg za rfl rfl rfl rfl rfl rfl (zp (by omega)) rfl rfl | exact q_E)) | refine q_T ?_ | refine q_Q hc ?_)
    exact ⟨i + 1, ⟨he.symm.trans hi, by (try dsimp only); omega, by (try dsimp only); omega⟩, by (try dsimp only); omega, q_S⟩
  ·have he := zdN (p := p) (d := d1) (i := i) (j := b - 1) (fun h => absurd h hij)
   repeat ((fail_if_success refine zb ?_); first | refine q_Y ?_ | ((first | apply q_K rfl | apply q_X rfl); (exact qqan0)) | refine q_T ?_)
   exact zm ⟨rfl, rfl, by rw [← hi, he]; rfl, rfl, trivial⟩ ⟨rfl, trivial⟩
 ·have hI := scanUp_ge p d1 (b - 1) (a + 1)
  generalize hIe : scanUp p d1 (b - 1) (a + 1) = I at hpart hI
  have hJ := scanDown_le q d1 I (b - 1)
  repeat ((fail_if_success refine zb ?_); first | refine q_Y ?_ | ((first | apply q_K rfl | apply q_X rfl); (exact qqan0)) | refine q_T ?_)
  refine za7 (fun j : Nat => [(0, .row 1000), (1, natA a), (10, natA I), (11, natA j)]) (fun _ => [(1000, uR d1)]) (fun j => scanDown q d1 I j = scanDown q d1 I (b - 1) ∧ j ≤ b - 1) (fun j => j) (b - 1) [(0, .row 1000), (1, natA a), (10, natA I), (11, natA (scanDown q d1 I (b - 1)))] [(1000, uR d1)] ⟨rfl, Nat.le_refl _⟩ (q_S) ?_ ?_
  ·rintro j ⟨hj, hjb⟩
   try dsimp only
   by_cases hij : I ≤ j
   ·obtain ⟨j, rfl⟩ : ∃ k, j = k + 1 := ⟨j - 1, by omega⟩
    have hc := zaS d1[j + 1]! d1[a]!
    cases hl : ltInt d1[j + 1]! d1[a]!
    ·rw [hl] at hc
     have he := zkF (p := q) (d := d1) hij (by rw [hqx, hl]; rfl)
     repeat ((fail_if_success refine zb ?_); first | refine q_Y ?_ | ((first | apply q_K rfl | apply q_X rfl); (first | exact q_D | exact zg za rfl rfl rfl rfl rfl rfl (zp (by omega)) rfl rfl | exact q_E)) | refine q_T ?_ | refine q_Q hc ?_)
     exact ⟨j, ⟨he.symm.trans hj, by (try dsimp only); omega⟩, by (try dsimp only); omega, q_S⟩
    ·rw [hl] at hc
     have he := zcP (p := q) (d := d1) (i := I) (j := j + 1) (fun _ => by rw [hqx, hl]; rfl)
     repeat ((fail_if_success refine zb ?_); first | refine q_Y ?_ | ((first | apply q_K rfl | apply q_X rfl); (first | exact q_D | exact zg za rfl rfl rfl rfl rfl rfl (zp (by omega)) rfl rfl | exact q_E)) | refine q_T ?_ | refine q_Q hc ?_)
     exact zm ⟨rfl, rfl, rfl, by rw [← hj, he]; rfl, trivial⟩ ⟨rfl, trivial⟩
   ·have he := zcP (p := q) (d := d1) (i := I) (j := j) (fun h => absurd h hij)
    repeat ((fail_if_success refine zb ?_); first | refine q_Y ?_ | ((first | apply q_K rfl | apply q_X rfl); (exact qqan0)) | refine q_T ?_)
    exact zm ⟨rfl, rfl, rfl, by rw [← hj, he]; rfl, trivial⟩ ⟨rfl, trivial⟩
  ·generalize hJe : scanDown q d1 I (b - 1) = J at hpart hJ
   have hJ1 : J < d1.size := by omega
   have ha1 : a < d1.size := by omega
   by_cases hIJ : I > J
   ·rw [if_pos hIJ] at hpart
    repeat ((fail_if_success refine zb ?_); first | refine q_Y ?_ | ((first | apply q_K rfl | apply q_X rfl); (exact qqan0)) | refine q_T ?_)
    refine zA [1000] mixed ?_
    apply q_P 0 rfl (by kernel_rfl) rfl rfl rfl
    exact q_1
    apply q_P 1 rfl (by kernel_rfl) rfl rfl rfl
    exact q_1
    apply q_P 2 rfl (by kernel_rfl) rfl rfl rfl
    exact q_1
    apply q_P 3 rfl (by kernel_rfl) rfl rfl rfl
    exact q_1
    apply q_P 4 rfl (by kernel_rfl) rfl rfl rfl
    exact q_1
    apply q_P 5 rfl (by kernel_rfl) rfl rfl rfl
    exact q_1
    apply q_P 6 rfl (by kernel_rfl) rfl rfl rfl
    exact zi za rfl rfl rfl rfl rfl rfl rfl (by first | omega | (simp only [size_swp]; omega))
    apply q_P 8 rfl (by kernel_rfl) rfl rfl rfl
    exact q_1
    apply q_P 9 rfl (by kernel_rfl) rfl rfl rfl
    exact q_1
    apply q_P 10 rfl (by kernel_rfl) rfl rfl rfl
    exact zi za rfl rfl rfl rfl rfl rfl rfl (by first | omega | (simp only [size_swp]; omega))
    refine zaV (j := 7) (k := 11) (l2 := #[true, true, true, true, true, true, true, true, true, true, true, true, false, false, false, false]) (by kernel_rfl) (by kernel_rfl) (by kernel_rfl) (by kernel_rfl) (by kernel_rfl) rfl rfl rfl rfl rfl rfl rfl rfl rfl rfl rfl (zg (T := []) za rfl rfl rfl rfl rfl rfl (zp (by omega)) rfl rfl) (zg (T := []) za rfl rfl rfl rfl rfl rfl (zp (by omega)) rfl rfl) (zg (T := []) za rfl rfl rfl rfl rfl rfl (zp (by omega)) rfl rfl) (zg (T := []) za rfl rfl rfl rfl rfl rfl (zp (by omega)) rfl rfl) ?_
    apply q_P 12 rfl (by kernel_rfl) rfl rfl rfl
    exact zi za rfl rfl rfl rfl rfl rfl rfl (by first | omega | (simp only [size_swp]; omega))
    refine zd (j := 13) (by kernel_rfl) ?_
    refine zC za rfl rfl rfl rfl rfl rfl rfl rfl rfl rfl rfl rfl (by first | (simp only [zD]; omega) | (simp only [zag, zD, setW, List.length_append, List.length_take, List.length_drop, List.length_cons, List.length_nil]; omega)) (by omega) ?_
    apply q_P 14 rfl (by kernel_rfl) rfl rfl rfl
    exact zi za rfl rfl rfl rfl rfl rfl rfl (by first | omega | (simp only [size_swp]; omega))
    refine zd (j := 15) (by kernel_rfl) ?_
    refine zC za rfl rfl rfl rfl rfl rfl rfl rfl rfl rfl rfl rfl (by first | (simp only [zD]; omega) | (simp only [zag, zD, setW, List.length_append, List.length_take, List.length_drop, List.length_cons, List.length_nil]; omega)) (by omega) ?_
    refine zz (by kernel_rfl) ?_
    repeat ((fail_if_success refine zb ?_); first | refine q_Y ?_ | ((first | apply q_K rfl | apply q_X rfl); (exact qqan0)) | refine q_T ?_)
    exact zo AWk.refl rfl (h2 := [(1000, uR (partition ltInt d a b pivot).2.2)]) ⟨by rw [hpart]; exact zaR hJ1 ha1 rfl, trivial⟩ ⟨by rw [hpart]; rfl, rfl⟩
   ·rw [if_neg hIJ] at hpart
    have hI1 : I < d1.size := by omega
    repeat ((fail_if_success refine zb ?_); first | refine q_Y ?_ | ((first | apply q_K rfl | apply q_X rfl); (exact qqan0)) | refine q_T ?_)
    refine zA [1000] mixed ?_
    apply q_P 0 rfl (by kernel_rfl) rfl rfl rfl
    exact q_1
    apply q_P 1 rfl (by kernel_rfl) rfl rfl rfl
    exact q_1
    apply q_P 2 rfl (by kernel_rfl) rfl rfl rfl
    exact q_1
    apply q_P 3 rfl (by kernel_rfl) rfl rfl rfl
    exact q_1
    apply q_P 4 rfl (by kernel_rfl) rfl rfl rfl
    exact q_1
    apply q_P 5 rfl (by kernel_rfl) rfl rfl rfl
    exact q_1
    apply q_P 6 rfl (by kernel_rfl) rfl rfl rfl
    exact zi za rfl rfl rfl rfl rfl rfl rfl (by first | omega | (simp only [size_swp]; omega))
    apply q_P 8 rfl (by kernel_rfl) rfl rfl rfl
    exact q_1
    apply q_P 9 rfl (by kernel_rfl) rfl rfl rfl
    exact q_1
    apply q_P 10 rfl (by kernel_rfl) rfl rfl rfl
    exact zi za rfl rfl rfl rfl rfl rfl rfl (by first | omega | (simp only [size_swp]; omega))
    refine zaV (j := 7) (k := 11) (l2 := #[true, true, true, true, true, true, true, true, true, true, true, true, false, false, false, false]) (by kernel_rfl) (by kernel_rfl) (by kernel_rfl) (by kernel_rfl) (by kernel_rfl) rfl rfl rfl rfl rfl rfl rfl rfl rfl rfl rfl (zg (T := []) za rfl rfl rfl rfl rfl rfl (zp (by omega)) rfl rfl) (zg (T := []) za rfl rfl rfl rfl rfl rfl (zp (by omega)) rfl rfl) (zg (T := []) za rfl rfl rfl rfl rfl rfl (zp (by omega)) rfl rfl) (zg (T := []) za rfl rfl rfl rfl rfl rfl (zp (by omega)) rfl rfl) ?_
    apply q_P 12 rfl (by kernel_rfl) rfl rfl rfl
    exact zi za rfl rfl rfl rfl rfl rfl rfl (by first | omega | (simp only [size_swp]; omega))
    refine zd (j := 13) (by kernel_rfl) ?_
    refine zC za rfl rfl rfl rfl rfl rfl rfl rfl rfl rfl rfl rfl (by first | (simp only [zD]; omega) | (simp only [zag, zD, setW, List.length_append, List.length_take, List.length_drop, List.length_cons, List.length_nil]; omega)) (by omega) ?_
    apply q_P 14 rfl (by kernel_rfl) rfl rfl rfl
    exact zi za rfl rfl rfl rfl rfl rfl rfl (by first | omega | (simp only [size_swp]; omega))
    refine zd (j := 15) (by kernel_rfl) ?_
    refine zC za rfl rfl rfl rfl rfl rfl rfl rfl rfl rfl rfl rfl (by first | (simp only [zD]; omega) | (simp only [zag, zD, setW, List.length_append, List.length_take, List.length_drop, List.length_cons, List.length_nil]; omega)) (by omega) ?_
    refine zz (by kernel_rfl) ?_
    repeat ((fail_if_success refine zb ?_); first | refine q_Y ?_ | ((first | apply q_K rfl | apply q_X rfl); (exact qqan0)) | refine q_T ?_)
    refine za7 (fun x : Nat × Nat × Array Int => [(0, .row 1000), (1, natA a), (10, natA x.1), (11, natA x.2.1)]) (fun x => [(1000, uR x.2.2)]) (fun x => partLoop ltInt a x.1 x.2.1 x.2.2 = partLoop ltInt a (I + 1) (J - 1) (swp d1 I J) ∧ x.2.2.size = d.size ∧ a < x.1 ∧ x.2.1 < b) (fun x => x.2.1 + 1 - x.1) (I + 1, J - 1, swp d1 I J) [(0, .row 1000), (1, natA a), (11, natA (partLoop ltInt a (I + 1) (J - 1) (swp d1 I J)).1)] [(1000, uR (partLoop ltInt a (I + 1) (J - 1) (swp d1 I J)).2)] ⟨rfl, by (try dsimp only); rw [size_swp]; exact hs1, by (try dsimp only); omega, by (try dsimp only); omega⟩ (zm ⟨rfl, rfl, rfl, rfl, trivial⟩ ⟨zaR hI1 hJ1 rfl, trivial⟩) ?_ ?_
    ·rintro ⟨i, j, d2⟩ ⟨hl2, hs2, hai, hjb⟩
     try dsimp only at hl2 hs2 hai hjb ⊢
     rw [partLoop_eq] at hl2
     clear hpart hp hq hpx hqx
     obtain ⟨p, hp⟩ : ∃ p : Int → Bool, (fun x => ltInt x d2[a]!) = p := ⟨_, rfl⟩
     obtain ⟨q, hq⟩ : ∃ q : Int → Bool, (fun x => !ltInt x d2[a]!) = q := ⟨_, rfl⟩
     have hpx : ∀ x, p x = ltInt x d2[a]! := fun x => by rw [← hp]
     have hqx : ∀ x, q x = !ltInt x d2[a]! := fun x => by rw [← hq]
     rw [hp, hq] at hl2
     repeat ((fail_if_success refine zb ?_); first | refine q_Y ?_ | ((first | apply q_K rfl | apply q_X rfl); (exact qqan0)) | refine q_T ?_)
     refine za7 (fun i' : Nat => [(0, .row 1000), (1, natA a), (10, natA i'), (11, natA j)]) (fun _ => [(1000, uR d2)]) (fun i' => scanUp p d2 j i' = scanUp p d2 j i ∧ i ≤ i') (fun i' => j + 1 - i') i [(0, .row 1000), (1, natA a), (10, natA (scanUp p d2 j i)), (11, natA j)] [(1000, uR d2)] ⟨rfl, Nat.le_refl _⟩ (q_S) ?_ ?_
     ·rintro i' ⟨hi, hai'⟩
      try dsimp only
      by_cases hij : i' ≤ j
      ·have hc := zaS d2[i']! d2[a]!
       cases hl : ltInt d2[i']! d2[a]!
       ·rw [hl] at hc
        have he := zdN (p := p) (d := d2) (i := i') (j := j) (fun _ => by rw [hpx, hl])
        repeat ((fail_if_success refine zb ?_); first | refine q_Y ?_ | ((first | apply q_K rfl | apply q_X rfl); (first | exact q_D | exact zg za rfl rfl rfl rfl rfl rfl (zp (by omega)) rfl rfl | exact q_E)) | refine q_T ?_ | refine q_Q hc ?_)
        exact zm ⟨rfl, rfl, by rw [← hi, he]; rfl, rfl, trivial⟩ ⟨rfl, trivial⟩
       ·rw [hl] at hc
        have he := zkt (p := p) (d := d2) hij (by rw [hpx, hl])
        repeat ((fail_if_success refine zb ?_); first | refine q_Y ?_ | ((first | apply q_K rfl | apply q_X rfl); (first | exact q_D | exact zg za rfl rfl rfl rfl rfl rfl (zp (by omega)) rfl rfl | exact q_E)) | refine q_T ?_ | refine q_Q hc ?_)
        exact ⟨i' + 1, ⟨he.symm.trans hi, by (try dsimp only); omega⟩, by (try dsimp only); omega, q_S⟩
      ·have he := zdN (p := p) (d := d2) (i := i') (j := j) (fun h => absurd h hij)
       repeat ((fail_if_success refine zb ?_); first | refine q_Y ?_ | ((first | apply q_K rfl | apply q_X rfl); (exact qqan0)) | refine q_T ?_)
       exact zm ⟨rfl, rfl, by rw [← hi, he]; rfl, rfl, trivial⟩ ⟨rfl, trivial⟩
     ·have hge := scanUp_ge p d2 j i
      generalize hi2e : scanUp p d2 j i = i2 at hl2 hge
      have hle := scanDown_le q d2 i2 j
      repeat ((fail_if_success refine zb ?_); first | refine q_Y ?_ | ((first | apply q_K rfl | apply q_X rfl); (exact qqan0)) | refine q_T ?_)
      refine za7 (fun j' : Nat => [(0, .row 1000), (1, natA a), (10, natA i2), (11, natA j')]) (fun _ => [(1000, uR d2)]) (fun j' => scanDown q d2 i2 j' = scanDown q d2 i2 j ∧ j' ≤ j) (fun j' => j') j [(0, .row 1000), (1, natA a), (10, natA i2), (11, natA (scanDown q d2 i2 j))] [(1000, uR d2)] ⟨rfl, Nat.le_refl _⟩ (q_S) ?_ ?_
      ·rintro j' ⟨hj, hjb'⟩
       try dsimp only
       by_cases hij : i2 ≤ j'
       ·obtain ⟨j', rfl⟩ : ∃ k, j' = k + 1 := ⟨j' - 1, by omega⟩
        have hc := zaS d2[j' + 1]! d2[a]!
        cases hl : ltInt d2[j' + 1]! d2[a]!
        ·rw [hl] at hc
         have he := zkF (p := q) (d := d2) hij (by rw [hqx, hl]; rfl)
         repeat ((fail_if_success refine zb ?_); first | refine q_Y ?_ | ((first | apply q_K rfl | apply q_X rfl); (first | exact q_D | exact zg za rfl rfl rfl rfl rfl rfl (zp (by omega)) rfl rfl | exact q_E)) | refine q_T ?_ | refine q_Q hc ?_)
         exact ⟨j', ⟨he.symm.trans hj, by (try dsimp only); omega⟩, by (try dsimp only); omega, q_S⟩
        ·rw [hl] at hc
         have he := zcP (p := q) (d := d2) (i := i2) (j := j' + 1) (fun _ => by rw [hqx, hl]; rfl)
         repeat ((fail_if_success refine zb ?_); first | refine q_Y ?_ | ((first | apply q_K rfl | apply q_X rfl); (first | exact q_D | exact zg za rfl rfl rfl rfl rfl rfl (zp (by omega)) rfl rfl | exact q_E)) | refine q_T ?_ | refine q_Q hc ?_)
         exact zm ⟨rfl, rfl, rfl, by rw [← hj, he]; rfl, trivial⟩ ⟨rfl, trivial⟩
       ·have he := zcP (p := q) (d := d2) (i := i2) (j := j') (fun h => absurd h hij)
        repeat ((fail_if_success refine zb ?_); first | refine q_Y ?_ | ((first | apply q_K rfl | apply q_X rfl); (exact qqan0)) | refine q_T ?_)
        exact zm ⟨rfl, rfl, rfl, by rw [← hj, he]; rfl, trivial⟩ ⟨rfl, trivial⟩
      ·generalize hj2e : scanDown q d2 i2 j = j2 at hl2 hle
       by_cases hgt : i2 > j2
       ·rw [if_pos hgt] at hl2
        repeat ((fail_if_success refine zb ?_); first | refine q_Y ?_ | ((first | apply q_K rfl | apply q_X rfl); (exact qqan0)) | refine q_T ?_)
        exact zm ⟨rfl, rfl, by rw [← hl2]; rfl, trivial⟩ ⟨by rw [← hl2]; rfl, trivial⟩
       ·rw [if_neg hgt] at hl2
        have hA : i2 < d2.size := by omega
        have hB : j2 < d2.size := by omega
        repeat ((fail_if_success refine zb ?_); first | refine q_Y ?_ | ((first | apply q_K rfl | apply q_X rfl); (exact qqan0)) | refine q_T ?_)
        refine zA [1000] mixed ?_
        apply q_P 0 rfl (by kernel_rfl) rfl rfl rfl
        exact q_1
        apply q_P 1 rfl (by kernel_rfl) rfl rfl rfl
        exact q_1
        apply q_P 2 rfl (by kernel_rfl) rfl rfl rfl
        exact q_1
        apply q_P 3 rfl (by kernel_rfl) rfl rfl rfl
        exact q_1
        apply q_P 4 rfl (by kernel_rfl) rfl rfl rfl
        exact q_1
        apply q_P 5 rfl (by kernel_rfl) rfl rfl rfl
        exact q_1
        apply q_P 6 rfl (by kernel_rfl) rfl rfl rfl
        exact zi za rfl rfl rfl rfl rfl rfl rfl (by first | omega | (simp only [size_swp]; omega))
        apply q_P 8 rfl (by kernel_rfl) rfl rfl rfl
        exact q_1
        apply q_P 9 rfl (by kernel_rfl) rfl rfl rfl
        exact q_1
        apply q_P 10 rfl (by kernel_rfl) rfl rfl rfl
        exact zi za rfl rfl rfl rfl rfl rfl rfl (by first | omega | (simp only [size_swp]; omega))
        refine zaV (j := 7) (k := 11) (l2 := #[true, true, true, true, true, true, true, true, true, true, true, true, false, false, false, false]) (by kernel_rfl) (by kernel_rfl) (by kernel_rfl) (by kernel_rfl) (by kernel_rfl) rfl rfl rfl rfl rfl rfl rfl rfl rfl rfl rfl (zg (T := []) za rfl rfl rfl rfl rfl rfl (zp (by omega)) rfl rfl) (zg (T := []) za rfl rfl rfl rfl rfl rfl (zp (by omega)) rfl rfl) (zg (T := []) za rfl rfl rfl rfl rfl rfl (zp (by omega)) rfl rfl) (zg (T := []) za rfl rfl rfl rfl rfl rfl (zp (by omega)) rfl rfl) ?_
        apply q_P 12 rfl (by kernel_rfl) rfl rfl rfl
        exact zi za rfl rfl rfl rfl rfl rfl rfl (by first | omega | (simp only [size_swp]; omega))
        refine zd (j := 13) (by kernel_rfl) ?_
        refine zC za rfl rfl rfl rfl rfl rfl rfl rfl rfl rfl rfl rfl (by first | (simp only [zD]; omega) | (simp only [zag, zD, setW, List.length_append, List.length_take, List.length_drop, List.length_cons, List.length_nil]; omega)) (by omega) ?_
        apply q_P 14 rfl (by kernel_rfl) rfl rfl rfl
        exact zi za rfl rfl rfl rfl rfl rfl rfl (by first | omega | (simp only [size_swp]; omega))
        refine zd (j := 15) (by kernel_rfl) ?_
        refine zC za rfl rfl rfl rfl rfl rfl rfl rfl rfl rfl rfl rfl (by first | (simp only [zD]; omega) | (simp only [zag, zD, setW, List.length_append, List.length_take, List.length_drop, List.length_cons, List.length_nil]; omega)) (by omega) ?_
        refine zz (by kernel_rfl) ?_
        repeat ((fail_if_success refine zb ?_); first | refine q_Y ?_ | ((first | apply q_K rfl | apply q_X rfl); (exact qqan0)) | refine q_T ?_)
        exact ⟨(i2 + 1, j2 - 1, swp d2 i2 j2), ⟨hl2, by (try dsimp only); rw [size_swp]; exact hs2, by (try dsimp only); omega, by (try dsimp only); omega⟩, by (try dsimp only); omega, zm ⟨rfl, rfl, rfl, rfl, trivial⟩ ⟨zaR hA hB rfl, trivial⟩⟩
    ·have hpl : (partLoop ltInt a (I + 1) (J - 1) (swp d1 I J)).1 < b ∧ (partLoop ltInt a (I + 1) (J - 1) (swp d1 I J)).2.size = d.size := by
      have key : ∀ (n i j : Nat) (d' : Array Int), j + 1 - i ≤ n → j < b → (partLoop ltInt a i j d').1 < b ∧ (partLoop ltInt a i j d').2.size = d'.size := fun n => by
       induction n with
       | zero =>
        intro i j d' h1 h2
        rw [partLoop_eq]
        have h3 := scanUp_ge (fun x => ltInt x d'[a]!) d' j i
        have h4 := scanDown_le (fun x => !ltInt x d'[a]!) d' (scanUp (fun x => ltInt x d'[a]!) d' j i) j
        rw [if_pos (by omega)]
        exact ⟨by (try dsimp only); omega, rfl⟩
       | succ n ih =>
        intro i j d' h1 h2
        rw [partLoop_eq]
        have h3 := scanUp_ge (fun x => ltInt x d'[a]!) d' j i
        have h4 := scanDown_le (fun x => !ltInt x d'[a]!) d' (scanUp (fun x => ltInt x d'[a]!) d' j i) j
        split
        ·exact ⟨by (try dsimp only); omega, rfl⟩
        ·have h5 := ih (scanUp (fun x => ltInt x d'[a]!) d' j i + 1) (scanDown (fun x => !ltInt x d'[a]!) d' (scanUp (fun x => ltInt x d'[a]!) d' j i) j - 1) (swp d' (scanUp (fun x => ltInt x d'[a]!) d' j i) (scanDown (fun x => !ltInt x d'[a]!) d' (scanUp (fun x => ltInt x d'[a]!) d' j i) j)) (by omega) (by omega)
         rw [size_swp] at h5
         exact h5
      have h3 := key _ (I + 1) (J - 1) (swp d1 I J) (Nat.le_refl _) (by omega)
      rw [size_swp] at h3
      exact ⟨h3.1, by rw [h3.2]; exact hs1⟩
     generalize hr : partLoop ltInt a (I + 1) (J - 1) (swp d1 I J) = r at hpart hpl
     obtain ⟨rj, rd⟩ := r
     try dsimp only at hpart hpl ⊢
     have hA : rj < rd.size := by omega
     have hB : a < rd.size := by omega
     repeat ((fail_if_success refine zb ?_); first | refine q_Y ?_ | ((first | apply q_K rfl | apply q_X rfl); (exact qqan0)) | refine q_T ?_)
     refine zA [1000] mixed ?_
     apply q_P 0 rfl (by kernel_rfl) rfl rfl rfl
     exact q_1
     apply q_P 1 rfl (by kernel_rfl) rfl rfl rfl
     exact q_1
     apply q_P 2 rfl (by kernel_rfl) rfl rfl rfl
     exact q_1
     apply q_P 3 rfl (by kernel_rfl) rfl rfl rfl
     exact q_1
     apply q_P 4 rfl (by kernel_rfl) rfl rfl rfl
     exact q_1
     apply q_P 5 rfl (by kernel_rfl) rfl rfl rfl
     exact q_1
     apply q_P 6 rfl (by kernel_rfl) rfl rfl rfl
     exact zi za rfl rfl rfl rfl rfl rfl rfl (by first | omega | (simp only [size_swp]; omega))
     apply q_P 8 rfl (by kernel_rfl) rfl rfl rfl
     exact q_1
     apply q_P 9 rfl (by kernel_rfl) rfl rfl rfl
     exact q_1
     apply q_P 10 rfl (by kernel_rfl) rfl rfl rfl
     exact zi za rfl rfl rfl rfl rfl rfl rfl (by first | omega | (simp only [size_swp]; omega))
     refine zaV (j := 7) (k := 11) (l2 := #[true, true, true, true, true, true, true, true, true, true, true, true, false, false, false, false]) (by kernel_rfl) (by kernel_rfl) (by kernel_rfl) (by kernel_rfl) (by kernel_rfl) rfl rfl rfl rfl rfl rfl rfl rfl rfl rfl rfl (zg (T := []) za rfl rfl rfl rfl rfl rfl (zp (by omega)) rfl rfl) (zg (T := []) za rfl rfl rfl rfl rfl rfl (zp (by omega)) rfl rfl) (zg (T := []) za rfl rfl rfl rfl rfl rfl (zp (by omega)) rfl rfl) (zg (T := []) za rfl rfl rfl rfl rfl rfl (zp (by omega)) rfl rfl) ?_
     apply q_P 12 rfl (by kernel_rfl) rfl rfl rfl
     exact zi za rfl rfl rfl rfl rfl rfl rfl (by first | omega | (simp only [size_swp]; omega))
     refine zd (j := 13) (by kernel_rfl) ?_
     refine zC za rfl rfl rfl rfl rfl rfl rfl rfl rfl rfl rfl rfl (by first | (simp only [zD]; omega) | (simp only [zag, zD, setW, List.length_append, List.length_take, List.length_drop, List.length_cons, List.length_nil]; omega)) (by omega) ?_
     apply q_P 14 rfl (by kernel_rfl) rfl rfl rfl
     exact zi za rfl rfl rfl rfl rfl rfl rfl (by first | omega | (simp only [size_swp]; omega))
     refine zd (j := 15) (by kernel_rfl) ?_
     refine zC za rfl rfl rfl rfl rfl rfl rfl rfl rfl rfl rfl rfl (by first | (simp only [zD]; omega) | (simp only [zag, zD, setW, List.length_append, List.length_take, List.length_drop, List.length_cons, List.length_nil]; omega)) (by omega) ?_
     refine zz (by kernel_rfl) ?_
     repeat ((fail_if_success refine zb ?_); first | refine q_Y ?_ | ((first | apply q_K rfl | apply q_X rfl); (exact qqan0)) | refine q_T ?_)
     exact zo AWk.refl rfl (h2 := [(1000, uR (partition ltInt d a b pivot).2.2)]) ⟨by rw [hpart]; exact zaR hA hB rfl, trivial⟩ ⟨by rw [hpart]; rfl, rfl⟩
end Go.Proofs.YtmmdkjanmegjdaaGreat.Ab

namespace Go.Proofs.YtmmdkjanmegjdaaGreat.Ab
open Go.RowKit Go.Lib Go.Sort
attribute [local irreducible] AWp AOps AQ AYield AEff ACall AWk AAny AAt AThen AIn APost NoPanic
set_option maxHeartbeats 16000000 in
theorem zjy (d : Array Int) (a b pivot : Nat) (hn : d.size ≤ 1000000000) (hb : b ≤ d.size) (hap : a ≤ pivot) (hpb : pivot < b) : ACall Tryz.prog 155 [.row 1000, natA a, natA b, natA pivot] [(1000, uR d)] (fun c h => c = natA (partitionEqual ltInt d a b pivot).1 ∧ h = [(1000, uR (partitionEqual ltInt d a b pivot).2)]) := by
 have h1 : a < d.size := by omega
 have h2 : pivot < d.size := by omega
 refine zf za Tryz.func155 rfl Tryz.ntmps155 (congrArg Array.toList Tryz.results155) (by kernel_rfl) rfl ?_
 repeat ((fail_if_success refine zb ?_); first | refine q_Y ?_ | ((first | apply q_K rfl | apply q_X rfl); (exact qqan0)) | refine q_T ?_)
 refine zA [1000] mixed ?_
 apply q_P 0 rfl (by kernel_rfl) rfl rfl rfl
 exact q_1
 apply q_P 1 rfl (by kernel_rfl) rfl rfl rfl
 exact q_1
 apply q_P 2 rfl (by kernel_rfl) rfl rfl rfl
 exact q_1
 apply q_P 3 rfl (by kernel_rfl) rfl rfl rfl
 exact q_1
 apply q_P 4 rfl (by kernel_rfl) rfl rfl rfl
 exact q_1
 apply q_P 5 rfl (by kernel_rfl) rfl rfl rfl
 exact q_1
 apply q_P 6 rfl (by kernel_rfl) rfl rfl rfl
 exact zi za rfl rfl rfl rfl rfl rfl rfl (by first | omega | (simp only [size_swp]; omega))
 apply q_P 8 rfl (by kernel_rfl) rfl rfl rfl
 exact q_1
 apply q_P 9 rfl (by kernel_rfl) rfl rfl rfl
 exact q_1
 apply q_P 10 rfl (by kernel_rfl) rfl rfl rfl
 exact zi za rfl rfl rfl rfl rfl rfl rfl (by first | omega | (simp only [size_swp]; omega))
 refine zaV (j := 7) (k := 11) (l2 := #[true, true, true, true, true, true, true, true, true, true, true, true, false, false, false, false]) (by kernel_rfl) (by kernel_rfl) (by kernel_rfl) (by kernel_rfl) (by kernel_rfl) rfl rfl rfl rfl rfl rfl rfl rfl rfl rfl rfl (zg (T := []) za rfl rfl rfl rfl rfl rfl (zp (by omega)) rfl rfl) (zg (T := []) za rfl rfl rfl rfl rfl rfl (zp (by omega)) rfl rfl) (zg (T := []) za rfl rfl rfl rfl rfl rfl (zp (by omega)) rfl rfl) (zg (T := []) za rfl rfl rfl rfl rfl rfl (zp (by omega)) rfl rfl) ?_
 apply q_P 12 rfl (by kernel_rfl) rfl rfl rfl
 exact zi za rfl rfl rfl rfl rfl rfl rfl (by first | omega | (simp only [size_swp]; omega))
 refine zd (j := 13) (by kernel_rfl) ?_
 refine zC za rfl rfl rfl rfl rfl rfl rfl rfl rfl rfl rfl rfl (by first | (simp only [zD]; omega) | (simp only [zag, zD, setW, List.length_append, List.length_take, List.length_drop, List.length_cons, List.length_nil]; omega)) (by omega) ?_
 apply q_P 14 rfl (by kernel_rfl) rfl rfl rfl
 exact zi za rfl rfl rfl rfl rfl rfl rfl (by first | omega | (simp only [size_swp]; omega))
 refine zd (j := 15) (by kernel_rfl) ?_
 refine zC za rfl rfl rfl rfl rfl rfl rfl rfl rfl rfl rfl rfl (by first | (simp only [zD]; omega) | (simp only [zag, zD, setW, List.length_append, List.length_take, List.length_drop, List.length_cons, List.length_nil]; omega)) (by omega) ?_
 refine zz (by kernel_rfl) ?_
 repeat ((fail_if_success refine zb ?_); first | refine q_Y ?_ | ((first | apply q_K rfl | apply q_X rfl); (exact qqan0)) | refine q_T ?_)
 refine za7 (fun x : Nat × Nat × Array Int => [(0, .row 1000), (1, natA a), (9, natA x.1), (10, natA x.2.1)]) (fun x => [(1000, uR x.2.2)]) (fun x => partEqLoop ltInt a x.1 x.2.1 x.2.2 = partitionEqual ltInt d a b pivot ∧ x.2.2.size = d.size ∧ a < x.1 ∧ x.2.1 < b) (fun x => x.2.1 + 1 - x.1) (a + 1, b - 1, swp d a pivot) [(0, .row 1000), (1, natA a), (9, natA (partitionEqual ltInt d a b pivot).1)] [(1000, uR (partitionEqual ltInt d a b pivot).2)] ⟨rfl, size_swp _ _ _, by (try dsimp only); omega, by (try dsimp only); omega⟩ (zm ⟨rfl, rfl, rfl, rfl, trivial⟩ ⟨zaR h1 h2 rfl, trivial⟩) ?_ ?_
 ·rintro ⟨i, j, d2⟩ ⟨hl2, hs2, hai, hjb⟩
  try dsimp only at hl2 hs2 hai hjb ⊢
  rw [partEqLoop_eq] at hl2
  obtain ⟨p, hp⟩ : ∃ p : Int → Bool, (fun x => !ltInt d2[a]! x) = p := ⟨_, rfl⟩
  obtain ⟨q, hq⟩ : ∃ q : Int → Bool, (fun x => ltInt d2[a]! x) = q := ⟨_, rfl⟩
  have hpx : ∀ x, p x = !ltInt d2[a]! x := fun x => by rw [← hp]
  have hqx : ∀ x, q x = ltInt d2[a]! x := fun x => by rw [← hq]
  rw [hp, hq] at hl2
  repeat ((fail_if_success refine zb ?_); first | refine q_Y ?_ | ((first | apply q_K rfl | apply q_X rfl); (exact qqan0)) | refine q_T ?_)
  refine za7 (fun i' : Nat => [(0, .row 1000), (1, natA a), (9, natA i'), (10, natA j)]) (fun _ => [(1000, uR d2)]) (fun i' => scanUp p d2 j i' = scanUp p d2 j i ∧ i ≤ i') (fun i' => j + 1 - i') i [(0, .row 1000), (1, natA a), (9, natA (scanUp p d2 j i)), (10, natA j)] [(1000, uR d2)] ⟨rfl, Nat.le_refl _⟩ (q_S) ?_ ?_
  ·rintro i' ⟨hi, hai'⟩
   try dsimp only
   by_cases hij : i' ≤ j
   ·have hc := zaS d2[a]! d2[i']!
    cases hl : ltInt d2[a]! d2[i']!
    ·rw [hl] at hc
     have he := zkt (p := p) (d := d2) hij (by rw [hpx, hl]; rfl)
     repeat ((fail_if_success refine zb ?_); first | refine q_Y ?_ | ((first | apply q_K rfl | apply q_X rfl); (first | exact q_D | exact zg za rfl rfl rfl rfl rfl rfl (zp (by omega)) rfl rfl | exact q_E)) | refine q_T ?_ | refine q_Q hc ?_)
     exact ⟨i' + 1, ⟨he.symm.trans hi, by (try dsimp only); omega⟩, by (try dsimp only); omega, q_S⟩
    ·rw [hl] at hc
     have he := zdN (p := p) (d := d2) (i := i') (j := j) (fun _ => by rw [hpx, hl]; rfl)
     repeat ((fail_if_success refine zb ?_); first | refine q_Y ?_ | ((first | apply q_K rfl | apply q_X rfl); (first | exact q_D | exact zg za rfl rfl rfl rfl rfl rfl (zp (by omega)) rfl rfl | exact q_E)) | refine q_T ?_ | refine q_Q hc ?_)
     exact zm ⟨rfl, rfl, by rw [← hi, he]; rfl, rfl, trivial⟩ ⟨rfl, trivial⟩
   ·have he := zdN (p := p) (d := d2) (i := i') (j := j) (fun h => absurd h hij)
    repeat ((fail_if_success refine zb ?_); first | refine q_Y ?_ | ((first | apply q_K rfl | apply q_X rfl); (exact qqan0)) | refine q_T ?_)
    exact zm ⟨rfl, rfl, by rw [← hi, he]; rfl, rfl, trivial⟩ ⟨rfl, trivial⟩
  ·have hge := scanUp_ge p d2 j i
   generalize hi2e : scanUp p d2 j i = i2 at hl2 hge
   have hle := scanDown_le q d2 i2 j
   repeat ((fail_if_success refine zb ?_); first | refine q_Y ?_ | ((first | apply q_K rfl | apply q_X rfl); (exact qqan0)) | refine q_T ?_)
   refine za7 (fun j' : Nat => [(0, .row 1000), (1, natA a), (9, natA i2), (10, natA j')]) (fun _ => [(1000, uR d2)]) (fun j' => scanDown q d2 i2 j' = scanDown q d2 i2 j ∧ j' ≤ j) (fun j' => j') j [(0, .row 1000), (1, natA a), (9, natA i2), (10, natA (scanDown q d2 i2 j))] [(1000, uR d2)] ⟨rfl, Nat.le_refl _⟩ (q_S) ?_ ?_
   ·rintro j' ⟨hj, hjb'⟩
    try dsimp only
    by_cases hij : i2 ≤ j'
    ·obtain ⟨j', rfl⟩ : ∃ k, j' = k + 1 := ⟨j' - 1, by omega⟩
     have hc := zaS d2[a]! d2[j' + 1]!
     cases hl : ltInt d2[a]! d2[j' + 1]!
     ·rw [hl] at hc
      have he := zcP (p := q) (d := d2) (i := i2) (j := j' + 1) (fun _ => by rw [hqx, hl])
      repeat ((fail_if_success refine zb ?_); first | refine q_Y ?_ | ((first | apply q_K rfl | apply q_X rfl); (first | exact q_D | exact zg za rfl rfl rfl rfl rfl rfl (zp (by omega)) rfl rfl | exact q_E)) | refine q_T ?_ | refine q_Q hc ?_)
      exact zm ⟨rfl, rfl, rfl, by rw [← hj, he]; rfl, trivial⟩ ⟨rfl, trivial⟩
     ·rw [hl] at hc
      have he := zkF (p := q) (d := d2) hij (by rw [hqx, hl])
      repeat ((fail_if_success refine zb ?_); first | refine q_Y ?_ | ((first | apply q_K rfl | apply q_X rfl); (first | exact q_D | exact zg za rfl rfl rfl rfl rfl rfl (zp (by omega)) rfl rfl | exact q_E)) | refine q_T ?_ | refine q_Q hc ?_)
      exact ⟨j', ⟨he.symm.trans hj, by (try dsimp only); omega⟩, by (try dsimp only); omega, q_S⟩
    ·have he := zcP (p := q) (d := d2) (i := i2) (j := j') (fun h => absurd h hij)
     repeat ((fail_if_success refine zb ?_); first | refine q_Y ?_ | ((first | apply q_K rfl | apply q_X rfl); (exact qqan0)) | refine q_T ?_)
     exact zm ⟨rfl, rfl, rfl, by rw [← hj, he]; rfl, trivial⟩ ⟨rfl, trivial⟩
   ·generalize hj2e : scanDown q d2 i2 j = j2 at hl2 hle
    by_cases hgt : i2 > j2
    ·rw [if_pos hgt] at hl2
     repeat ((fail_if_success refine zb ?_); first | refine q_Y ?_ | ((first | apply q_K rfl | apply q_X rfl); (exact qqan0)) | refine q_T ?_)
     exact zm ⟨rfl, rfl, by rw [← hl2]; rfl, trivial⟩ ⟨by rw [← hl2]; rfl, trivial⟩
    ·rw [if_neg hgt] at hl2
     have hA : i2 < d2.size := by omega
     have hB : j2 < d2.size := by omega
     repeat ((fail_if_success refine zb ?_); first | refine q_Y ?_ | ((first | apply q_K rfl | apply q_X rfl); (exact qqan0)) | refine q_T ?_)
     refine zA [1000] mixed ?_
     apply q_P 0 rfl (by kernel_rfl) rfl rfl rfl
     exact q_1
     apply q_P 1 rfl (by kernel_rfl) rfl rfl rfl
     exact q_1
     apply q_P 2 rfl (by kernel_rfl) rfl rfl rfl
     exact q_1
     apply q_P 3 rfl (by kernel_rfl) rfl rfl rfl
     exact q_1
     apply q_P 4 rfl (by kernel_rfl) rfl rfl rfl
     exact q_1
     apply q_P 5 rfl (by kernel_rfl) rfl rfl rfl
     exact q_1
     apply q_P 6 rfl (by kernel_rfl) rfl rfl rfl
     exact zi za rfl rfl rfl rfl rfl rfl rfl (by first | omega | (simp only [size_swp]; omega))
     apply q_P 8 rfl (by kernel_rfl) rfl rfl rfl
     exact q_1
     apply q_P 9 rfl (by kernel_rfl) rfl rfl rfl
     exact q_1
     apply q_P 10 rfl (by kernel_rfl) rfl rfl rfl
     exact zi za rfl rfl rfl rfl rfl rfl rfl (by first | omega | (simp only [size_swp]; omega))
     refine zaV (j := 7) (k := 11) (l2 := #[true, true, true, true, true, true, true, true, true, true, true, true, false, false, false, false]) (by kernel_rfl) (by kernel_rfl) (by kernel_rfl) (by kernel_rfl) (by kernel_rfl) rfl rfl rfl rfl rfl rfl rfl rfl rfl rfl rfl (zg (T := []) za rfl rfl rfl rfl rfl rfl (zp (by omega)) rfl rfl) (zg (T := []) za rfl rfl rfl rfl rfl rfl (zp (by omega)) rfl rfl) (zg (T := []) za rfl rfl rfl rfl rfl rfl (zp (by omega)) rfl rfl) (zg (T := []) za rfl rfl rfl rfl rfl rfl (zp (by omega)) rfl rfl) ?_
     apply q_P 12 rfl (by kernel_rfl) rfl rfl rfl
     exact zi za rfl rfl rfl rfl rfl rfl rfl (by first | omega | (simp only [size_swp]; omega))
     refine zd (j := 13) (by kernel_rfl) ?_
     refine zC za rfl rfl rfl rfl rfl rfl rfl rfl rfl rfl rfl rfl (by first | (simp only [zD]; omega) | (simp only [zag, zD, setW, List.length_append, List.length_take, List.length_drop, List.length_cons, List.length_nil]; omega)) (by omega) ?_
     apply q_P 14 rfl (by kernel_rfl) rfl rfl rfl
     exact zi za rfl rfl rfl rfl rfl rfl rfl (by first | omega | (simp only [size_swp]; omega))
     refine zd (j := 15) (by kernel_rfl) ?_
     refine zC za rfl rfl rfl rfl rfl rfl rfl rfl rfl rfl rfl rfl (by first | (simp only [zD]; omega) | (simp only [zag, zD, setW, List.length_append, List.length_take, List.length_drop, List.length_cons, List.length_nil]; omega)) (by omega) ?_
     refine zz (by kernel_rfl) ?_
     repeat ((fail_if_success refine zb ?_); first | refine q_Y ?_ | ((first | apply q_K rfl | apply q_X rfl); (exact qqan0)) | refine q_T ?_)
     exact ⟨(i2 + 1, j2 - 1, swp d2 i2 j2), ⟨hl2, by (try dsimp only); rw [size_swp]; exact hs2, by (try dsimp only); omega, by (try dsimp only); omega⟩, by (try dsimp only); omega, zm ⟨rfl, rfl, rfl, rfl, trivial⟩ ⟨zaR hA hB rfl, trivial⟩⟩
 ·
  repeat ((fail_if_success refine zb ?_); first | refine q_Y ?_ | ((first | apply q_K rfl | apply q_X rfl); (exact qqan0)) | refine q_T ?_)
  exact zo AWk.refl rfl (h2 := [(1000, uR (partitionEqual ltInt d a b pivot).2)]) ⟨rfl, trivial⟩ ⟨rfl, rfl⟩
end Go.Proofs.YtmmdkjanmegjdaaGreat.Ab

/-
 Texts of a proof, one behind the other (part 13).
-/
import Derived.Test.YtmmdkjanmegjdaaGreatRv4
import Derived.Test.YtmmdkjanmegjdaaGreatRv10
set_option maxRecDepth 100000
set_option linter.unusedSimpArgs false
set_option linter.unusedVariables false
namespace Go.Proofs.YtmmdkjanmegjdaaGreat.Ab
open Go.RowKit Go.Lib Go.Sort
attribute [local irreducible] AWp AOps AQ AYield AEff ACall AWk AAny AAt AThen AIn APost NoPanic
section
variable (hi first root : Nat) (d : Array Int)
theorem zhR (h : 2 * root + 1 ≥ hi) : siftDown ltInt hi first root d = d := by rw [siftDown, dif_pos h]
theorem sd_2 (h : ¬ 2 * root + 1 ≥ hi) (h2 : 2 * root + 1 + 1 < hi) (hl : ltInt d[first + (2 * root + 1)]! d[first + (2 * root + 1) + 1]! = true) :
  siftDown ltInt hi first root d = if ltInt d[first + root]! d[first + (2 * root + 2)]! then siftDown ltInt hi first (2 * root + 2) (swp d (first + root) (first + (2 * root + 2))) else d := by
 rw [siftDown, dif_neg h, if_pos (by rw [hl, decide_eq_true h2]; rfl)]
 cases ltInt d[first + root]! d[first + (2 * root + 2)]!
 ·rfl
 ·rw [if_neg (by decide), dif_pos h2]; rfl
theorem sd_1 (h : ¬ 2 * root + 1 ≥ hi) (hl : (decide (2 * root + 1 + 1 < hi) && ltInt d[first + (2 * root + 1)]! d[first + (2 * root + 1) + 1]!) = false) :
  siftDown ltInt hi first root d = if ltInt d[first + root]! d[first + (2 * root + 1)]! then siftDown ltInt hi first (2 * root + 1) (swp d (first + root) (first + (2 * root + 1))) else d := by
 rw [siftDown, dif_neg h, if_neg (by rw [hl]; decide)]
 cases ltInt d[first + root]! d[first + (2 * root + 1)]!
 ·rfl
 ·rfl
end
theorem qqam0 {T : List Nat} {e : Env} {h : Heap} {o : Oper} {c : AVal} (hy : AYield Tryz.prog T e h o c := by first | exact q_D | exact q_19 | exact q_E) : AYield Tryz.prog T e h o c := hy
set_option maxHeartbeats 16000000 in
theorem ziE (d : Array Int) (lo hi first : Nat) (hn : d.size ≤ 1000000000) (hb : first + hi ≤ d.size) (hlo : lo ≤ 1000000000) : ACall Tryz.prog 160 [.row 1000, natA lo, natA hi, natA first] [(1000, uR d)] (fun c h => c = .tup [] ∧ h = [(1000, uR (siftDown ltInt hi first lo d))]) := by
 refine zf za Tryz.func160 rfl Tryz.ntmps160 (congrArg Array.toList Tryz.results160) (by kernel_rfl) rfl ?_
 repeat ((fail_if_success refine zb ?_); first | refine q_Y ?_ | ((first | apply q_K rfl | apply q_X rfl); (exact qqam0)) | refine q_T ?_)
 refine zw (fun x : Nat × Array Int => [(0, .row 1000), (2, natA hi), (3, natA first), (8, natA x.1)]) (fun x => [(1000, uR x.2)]) (fun x => siftDown ltInt hi first x.1 x.2 = siftDown ltInt hi first lo d ∧ x.2.size = d.size ∧ x.1 ≤ 1000000000) (fun x => hi - x.1) (lo, d) ⟨rfl, rfl, hlo⟩ (q_S) ?_
 rintro ⟨root, d1⟩ ⟨hr, hs, hrl⟩
 try dsimp only at hr hs hrl ⊢
 by_cases hge : 2 * root + 1 ≥ hi
 ·have he := zhR hi first root d1 hge
  repeat ((fail_if_success refine zb ?_); first | refine q_Y ?_ | ((first | apply q_K rfl | apply q_X rfl); (exact qqam0)) | refine q_T ?_)
  exact zdd AWk.refl rfl (h2 := [(1000, uR (siftDown ltInt hi first lo d))]) ⟨by rw [← hr, he]; rfl, trivial⟩ ⟨rfl, rfl⟩
 ·by_cases h2 : 2 * root + 1 + 1 < hi
  ·have hc := zaS d1[first + (2 * root + 1)]! d1[first + (2 * root + 1) + 1]!
   cases hl : ltInt d1[first + (2 * root + 1)]! d1[first + (2 * root + 1) + 1]!
   ·rw [hl] at hc
    have he := sd_1 hi first root d1 hge (by rw [hl, Bool.and_false])
    have hc2 := zaS d1[first + root]! d1[first + (2 * root + 1)]!
    have hi1 : first + root < d1.size := by omega
    have hi2 : first + (2 * root + 1) < d1.size := by omega
    cases hl2 : ltInt d1[first + root]! d1[first + (2 * root + 1)]!
    ·rw [hl2] at hc2
     rw [hl2, if_neg (by decide)] at he
     repeat ((fail_if_success refine zb ?_); first | refine q_Y ?_ | ((first | apply q_K rfl | apply q_X rfl); (first | exact q_D | exact zg za rfl rfl rfl rfl rfl rfl (zp (by omega)) rfl rfl | exact q_E)) | refine q_T ?_ | first | refine q_Q hc ?_ | refine q_Q hc2 ?_)
     exact zo AWk.refl rfl (h2 := [(1000, uR (siftDown ltInt hi first lo d))]) ⟨by rw [← hr, he]; rfl, trivial⟩ ⟨rfl, rfl⟩
    ·rw [hl2] at hc2
     rw [hl2, if_pos rfl] at he
     repeat ((fail_if_success refine zb ?_); first | refine q_Y ?_ | ((first | apply q_K rfl | apply q_X rfl); (first | exact q_D | exact zg za rfl rfl rfl rfl rfl rfl (zp (by omega)) rfl rfl | exact q_E)) | refine q_T ?_ | first | refine q_Q hc ?_ | refine q_Q hc2 ?_)
     refine zA [1000] mixed ?_
     apply q_P 0 rfl (by kernel_rfl) rfl rfl rfl
     exact q_1
     apply q_P 1 rfl (by kernel_rfl) rfl rfl rfl
     exact q_1
     apply q_P 2 rfl (by kernel_rfl) rfl rfl rfl
     exact q_1
     apply q_P 3 rfl (by kernel_rfl) rfl rfl rfl
     first | exact zaD rfl rfl rfl | exact q_9
     apply q_P 4 rfl (by kernel_rfl) rfl rfl rfl
     exact q_1
     apply q_P 5 rfl (by kernel_rfl) rfl rfl rfl
     exact q_1
     apply q_P 6 rfl (by kernel_rfl) rfl rfl rfl
     exact q_1
     apply q_P 7 rfl (by kernel_rfl) rfl rfl rfl
     first | exact zaD rfl rfl rfl | exact q_9
     apply q_P 8 rfl (by kernel_rfl) rfl rfl rfl
     exact q_1
     apply q_P 9 rfl (by kernel_rfl) rfl rfl rfl
     exact q_1
     apply q_P 10 rfl (by kernel_rfl) rfl rfl rfl
     exact q_1
     apply q_P 11 rfl (by kernel_rfl) rfl rfl rfl
     first | exact zaD rfl rfl rfl | exact q_9
     apply q_P 12 rfl (by kernel_rfl) rfl rfl rfl
     exact zi za rfl rfl rfl rfl rfl rfl rfl (by first | omega | (simp only [size_swp]; omega))
     apply q_P 14 rfl (by kernel_rfl) rfl rfl rfl
     exact q_1
     apply q_P 15 rfl (by kernel_rfl) rfl rfl rfl
     exact q_1
     apply q_P 16 rfl (by kernel_rfl) rfl rfl rfl
     exact q_1
     apply q_P 17 rfl (by kernel_rfl) rfl rfl rfl
     first | exact zaD rfl rfl rfl | exact q_9
     apply q_P 18 rfl (by kernel_rfl) rfl rfl rfl
     exact zi za rfl rfl rfl rfl rfl rfl rfl (by first | omega | (simp only [size_swp]; omega))
     refine zaV (j := 13) (k := 19) (l2 := #[true, true, true, true, true, true, true, true, true, true, true, true, true, true, true, true, true, true, true, true, false, false, false, false]) (by kernel_rfl) (by kernel_rfl) (by kernel_rfl) (by kernel_rfl) (by kernel_rfl) rfl rfl rfl rfl rfl rfl rfl rfl rfl rfl rfl (zg (T := []) za rfl rfl rfl rfl rfl rfl (zp (by omega)) rfl rfl) (zg (T := []) za rfl rfl rfl rfl rfl rfl (zp (by omega)) rfl rfl) (zg (T := []) za rfl rfl rfl rfl rfl rfl (zp (by omega)) rfl rfl) (zg (T := []) za rfl rfl rfl rfl rfl rfl (zp (by omega)) rfl rfl) ?_
     apply q_P 20 rfl (by kernel_rfl) rfl rfl rfl
     exact zi za rfl rfl rfl rfl rfl rfl rfl (by first | omega | (simp only [size_swp]; omega))
     refine zd (j := 21) (by kernel_rfl) ?_
     refine zC za rfl rfl rfl rfl rfl rfl rfl rfl rfl rfl rfl rfl (by first | (simp only [zD]; omega) | (simp only [zag, zD, setW, List.length_append, List.length_take, List.length_drop, List.length_cons, List.length_nil]; omega)) (by omega) ?_
     apply q_P 22 rfl (by kernel_rfl) rfl rfl rfl
     exact zi za rfl rfl rfl rfl rfl rfl rfl (by first | omega | (simp only [size_swp]; omega))
     refine zd (j := 23) (by kernel_rfl) ?_
     refine zC za rfl rfl rfl rfl rfl rfl rfl rfl rfl rfl rfl rfl (by first | (simp only [zD]; omega) | (simp only [zag, zD, setW, List.length_append, List.length_take, List.length_drop, List.length_cons, List.length_nil]; omega)) (by omega) ?_
     refine zz (by kernel_rfl) ?_
     repeat ((fail_if_success refine zb ?_); first | refine q_Y ?_ | ((first | apply q_K rfl | apply q_X rfl); (exact qqam0)) | refine q_T ?_)
     exact ⟨((2 * root + 1), swp d1 (first + root) (first + (2 * root + 1))), ⟨he.symm.trans hr, by (try dsimp only); rw [size_swp]; exact hs, by (try dsimp only); omega⟩, by (try dsimp only); omega, zm ⟨rfl, rfl, rfl, rfl, trivial⟩ ⟨zaR hi1 hi2 rfl, trivial⟩⟩
   ·rw [hl] at hc
    have he := sd_2 hi first root d1 hge h2 hl
    have hc2 := zaS d1[first + root]! d1[first + (2 * root + 2)]!
    have hi1 : first + root < d1.size := by omega
    have hi2 : first + (2 * root + 2) < d1.size := by omega
    cases hl2 : ltInt d1[first + root]! d1[first + (2 * root + 2)]!
    ·rw [hl2] at hc2
     rw [hl2, if_neg (by decide)] at he
     repeat ((fail_if_success refine zb ?_); first | refine q_Y ?_ | ((first | apply q_K rfl | apply q_X rfl); (first | exact q_D | exact zg za rfl rfl rfl rfl rfl rfl (zp (by omega)) rfl rfl | exact q_E)) | refine q_T ?_ | first | refine q_Q hc ?_ | refine q_Q hc2 ?_)
     exact zo AWk.refl rfl (h2 := [(1000, uR (siftDown ltInt hi first lo d))]) ⟨by rw [← hr, he]; rfl, trivial⟩ ⟨rfl, rfl⟩
    ·rw [hl2] at hc2
     rw [hl2, if_pos rfl] at he
     repeat ((fail_if_success refine zb ?_); first | refine q_Y ?_ | ((first | apply q_K rfl | apply q_X rfl); (first | exact q_D | exact zg za rfl rfl rfl rfl rfl rfl (zp (by omega)) rfl rfl | exact q_E)) | refine q_T ?_ | first | refine q_Q hc ?_ | refine q_Q hc2 ?_)
     refine zA [1000] mixed ?_
     apply q_P 0 rfl (by kernel_rfl) rfl rfl rfl
     exact q_1
     apply q_P 1 rfl (by kernel_rfl) rfl rfl rfl
     exact q_1
     apply q_P 2 rfl (by kernel_rfl) rfl rfl rfl
     exact q_1
     apply q_P 3 rfl (by kernel_rfl) rfl rfl rfl
     first | exact zaD rfl rfl rfl | exact q_9
     apply q_P 4 rfl (by kernel_rfl) rfl rfl rfl
     exact q_1
     apply q_P 5 rfl (by kernel_rfl) rfl rfl rfl
     exact q_1
     apply q_P 6 rfl (by kernel_rfl) rfl rfl rfl
     exact q_1
     apply q_P 7 rfl (by kernel_rfl) rfl rfl rfl
     first | exact zaD rfl rfl rfl | exact q_9
     apply q_P 8 rfl (by kernel_rfl) rfl rfl rfl
     exact q_1
     apply q_P 9 rfl (by kernel_rfl) rfl rfl rfl
     exact q_1
     apply q_P 10 rfl (by kernel_rfl) rfl rfl rfl
     exact q_1
     apply q_P 11 rfl (by kernel_rfl) rfl rfl rfl
     first | exact zaD rfl rfl rfl | exact q_9
     apply q_P 12 rfl (by kernel_rfl) rfl rfl rfl
     exact zi za rfl rfl rfl rfl rfl rfl rfl (by first | omega | (simp only [size_swp]; omega))
     apply q_P 14 rfl (by kernel_rfl) rfl rfl rfl
     exact q_1
     apply q_P 15 rfl (by kernel_rfl) rfl rfl rfl
     exact q_1
     apply q_P 16 rfl (by kernel_rfl) rfl rfl rfl
     exact q_1
     apply q_P 17 rfl (by kernel_rfl) rfl rfl rfl
     first | exact zaD rfl rfl rfl | exact q_9
     apply q_P 18 rfl (by kernel_rfl) rfl rfl rfl
     exact zi za rfl rfl rfl rfl rfl rfl rfl (by first | omega | (simp only [size_swp]; omega))
     refine zaV (j := 13) (k := 19) (l2 := #[true, true, true, true, true, true, true, true, true, true, true, true, true, true, true, true, true, true, true, true, false, false, false, false]) (by kernel_rfl) (by kernel_rfl) (by kernel_rfl) (by kernel_rfl) (by kernel_rfl) rfl rfl rfl rfl rfl rfl rfl rfl rfl rfl rfl (zg (T := []) za rfl rfl rfl rfl rfl rfl (zp (by omega)) rfl rfl) (zg (T := []) za rfl rfl rfl rfl rfl rfl (zp (by omega)) rfl rfl) (zg (T := []) za rfl rfl rfl rfl rfl rfl (zp (by omega)) rfl rfl) (zg (T := []) za rfl rfl rfl rfl rfl rfl (zp (by omega)) rfl rfl) ?_
     apply q_P 20 rfl (by kernel_rfl) rfl rfl rfl
     exact zi za rfl rfl rfl rfl rfl rfl rfl (by first | omega | (simp only [size_swp]; omega))
     refine zd (j := 21) (by kernel_rfl) ?_
     refine zC za rfl rfl rfl rfl rfl rfl rfl rfl rfl rfl rfl rfl (by first | (simp only [zD]; omega) | (simp only [zag, zD, setW, List.length_append, List.length_take, List.length_drop, List.length_cons, List.length_nil]; omega)) (by omega) ?_
     apply q_P 22 rfl (by kernel_rfl) rfl rfl rfl
     exact zi za rfl rfl rfl rfl rfl rfl rfl (by first | omega | (simp only [size_swp]; omega))
     refine zd (j := 23) (by kernel_rfl) ?_
     refine zC za rfl rfl rfl rfl rfl rfl rfl rfl rfl rfl rfl rfl (by first | (simp only [zD]; omega) | (simp only [zag, zD, setW, List.length_append, List.length_take, List.length_drop, List.length_cons, List.length_nil]; omega)) (by omega) ?_
     refine zz (by kernel_rfl) ?_
     repeat ((fail_if_success refine zb ?_); first | refine q_Y ?_ | ((first | apply q_K rfl | apply q_X rfl); (exact qqam0)) | refine q_T ?_)
     exact ⟨((2 * root + 2), swp d1 (first + root) (first + (2 * root + 2))), ⟨he.symm.trans hr, by (try dsimp only); rw [size_swp]; exact hs, by (try dsimp only); omega⟩, by (try dsimp only); omega, zm ⟨rfl, rfl, rfl, rfl, trivial⟩ ⟨zaR hi1 hi2 rfl, trivial⟩⟩
  ·have hc := zaS 0 0
   have he := sd_1 hi first root d1 hge (by rw [decide_eq_false h2, Bool.false_and])
   have hc2 := zaS d1[first + root]! d1[first + (2 * root + 1)]!
   have hi1 : first + root < d1.size := by omega
   have hi2 : first + (2 * root + 1) < d1.size := by omega
   cases hl2 : ltInt d1[first + root]! d1[first + (2 * root + 1)]!
   ·rw [hl2] at hc2
    rw [hl2, if_neg (by decide)] at he
    repeat ((fail_if_success refine zb ?_); first | refine q_Y ?_ | ((first | apply q_K rfl | apply q_X rfl); (first | exact q_D | exact zg za rfl rfl rfl rfl rfl rfl (zp (by omega)) rfl rfl | exact q_E)) | refine q_T ?_ | first | refine q_Q hc ?_ | refine q_Q hc2 ?_)
    exact zo AWk.refl rfl (h2 := [(1000, uR (siftDown ltInt hi first lo d))]) ⟨by rw [← hr, he]; rfl, trivial⟩ ⟨rfl, rfl⟩
   ·rw [hl2] at hc2
    rw [hl2, if_pos rfl] at he
    repeat ((fail_if_success refine zb ?_); first | refine q_Y ?_ | ((first | apply q_K rfl | apply q_X rfl); (first | exact q_D | exact zg za rfl rfl rfl rfl rfl rfl (zp (by omega)) rfl rfl | exact q_E)) | refine q_T ?_ | first | refine q_Q hc ?_ | refine q_Q hc2 ?_)
    refine zA [1000] mixed ?_
    apply q_P 0 rfl (by kernel_rfl) rfl rfl rfl
    exact q_1
    apply q_P 1 rfl (by kernel_rfl) rfl rfl rfl
    exact q_1
    apply q_P 2 rfl (by kernel_rfl) rfl rfl rfl
    exact q_1
    apply q_P 3 rfl (by kernel_rfl) rfl rfl rfl
    first | exact zaD rfl rfl rfl | exact q_9
    apply q_P 4 rfl (by kernel_rfl) rfl rfl rfl
    exact q_1
    apply q_P 5 rfl (by kernel_rfl) rfl rfl rfl
    exact q_1
    apply q_P 6 rfl (by kernel_rfl) rfl rfl rfl
    exact q_1
    apply q_P 7 rfl (by kernel_rfl) rfl rfl rfl
    first | exact zaD rfl rfl rfl | exact q_9
    apply q_P 8 rfl (by kernel_rfl) rfl rfl rfl
    exact q_1
    apply q_P 9 rfl (by kernel_rfl) rfl rfl rfl
    exact q_1
    apply q_P 10 rfl (by kernel_rfl) rfl rfl rfl
    exact q_1
    apply q_P 11 rfl (by kernel_rfl) rfl rfl rfl
    first | exact zaD rfl rfl rfl | exact q_9
    apply q_P 12 rfl (by kernel_rfl) rfl rfl rfl
    exact zi za rfl rfl rfl rfl rfl rfl rfl (by first | omega | (simp only [size_swp]; omega))
    apply q_P 14 rfl (by kernel_rfl) rfl rfl rfl
    exact q_1
    apply q_P 15 rfl (by kernel_rfl) rfl rfl rfl
    exact q_1
    apply q_P 16 rfl (by kernel_rfl) rfl rfl rfl
    exact q_1
    apply q_P 17 rfl (by kernel_rfl) rfl rfl rfl
    first | exact zaD rfl rfl rfl | exact q_9
    apply q_P 18 rfl (by kernel_rfl) rfl rfl rfl
    exact zi za rfl rfl rfl rfl rfl rfl rfl (by first | omega | (simp only [size_swp]; omega))
    refine zaV (j := 13) (k := 19) (l2 := #[true, true, true, true, true, true, true, true, true, true, true, true, true, true, true, true, true, true, true, true, false, false, false, false]) (by kernel_rfl) (by kernel_rfl) (by kernel_rfl) (by kernel_rfl) (by kernel_rfl) rfl rfl rfl rfl rfl rfl rfl rfl rfl rfl rfl (zg (T := []) za rfl rfl rfl rfl rfl rfl (zp (by omega)) rfl rfl) (zg (T := []) za rfl rfl rfl rfl rfl rfl (zp (by omega)) rfl rfl) (zg (T := []) za rfl rfl rfl rfl rfl rfl (zp (by omega)) rfl rfl) (zg (T := []) za rfl rfl rfl rfl rfl rfl (zp (by omega)) rfl rfl) ?_
    apply q_P 20 rfl (by kernel_rfl) rfl rfl rfl
    exact zi za rfl rfl rfl rfl rfl rfl rfl (by first | omega | (simp only [size_swp]; omega))
    refine zd (j := 21) (by kernel_rfl) ?_
    refine zC za rfl rfl rfl rfl rfl rfl rfl rfl rfl rfl rfl rfl (by first | (simp only [zD]; omega) | (simp only [zag, zD, setW, List.length_append, List.length_take, List.length_drop, List.length_cons, List.length_nil]; omega)) (by omega) ?_
    apply q_P 22 rfl (by kernel_rfl) rfl rfl rfl
    exact zi za rfl rfl rfl rfl rfl rfl rfl (by first | omega | (simp only [size_swp]; omega))
    refine zd (j := 23) (by kernel_rfl) ?_
    refine zC za rfl rfl rfl rfl rfl rfl rfl rfl rfl rfl rfl rfl (by first | (simp only [zD]; omega) | (simp only [zag, zD, setW, List.length_append, List.length_take, List.length_drop, List.length_cons, List.length_nil]; omega)) (by omega) ?_
    refine zz (by kernel_rfl) ?_
    repeat ((fail_if_success refine zb ?_); first | refine q_Y ?_ | ((first | apply q_K rfl | apply q_X rfl); (exact qqam0)) | refine q_T ?_)
    exact ⟨((2 * root + 1), swp d1 (first + root) (first + (2 * root + 1))), ⟨he.symm.trans hr, by (try dsimp only); rw [size_swp]; exact hs, by (try dsimp only); omega⟩, by (try dsimp only); omega, zm ⟨rfl, rfl, rfl, rfl, trivial⟩ ⟨zaR hi1 hi2 rfl, trivial⟩⟩
end Go.Proofs.YtmmdkjanmegjdaaGreat.Ab

namespace Go.Proofs.YtmmdkjanmegjdaaGreat.Ab
open Go.RowKit Go.Lib Go.Sort
attribute [local irreducible] AWp AOps AQ AYield AEff ACall AWk AAny AAt AThen AIn APost NoPanic
theorem zmH (hi f : Nat) : ∀ (n r : Nat) (d : Array Int), hi - r ≤ n → (siftDown ltInt hi f r d).size = d.size := fun n => by
 induction n with
 | zero => intro r d h; rw [zhR _ _ _ _ (by omega)]
 | succ n ih =>
  intro r d h
  by_cases hg : 2 * r + 1 ≥ hi
  ·rw [zhR _ _ _ _ hg]
  ·cases hl : (decide (2 * r + 1 + 1 < hi) && ltInt d[f + (2 * r + 1)]! d[f + (2 * r + 1) + 1]!)
   ·rw [sd_1 _ _ _ _ hg hl]
    split
    ·rw [ih _ _ (by omega), size_swp]
    ·rfl
   ·rw [Bool.and_eq_true, decide_eq_true_eq] at hl
    rw [sd_2 _ _ _ _ hg hl.1 hl.2]
    split
    ·rw [ih _ _ (by omega), size_swp]
    ·rfl
set_option maxHeartbeats 16000000 in
theorem znd (d : Array Int) (a b : Nat) (hn : d.size ≤ 1000000000) (hb : b ≤ d.size) (ha : a < b) : ACall Tryz.prog 149 [.row 1000, natA a, natA b] [(1000, uR d)] (fun c h => c = .tup [] ∧ h = [(1000, uR (heapSort ltInt d a b))]) := by
 have hsz := fun (hi f r : Nat) (d : Array Int) => zmH hi f _ r d (Nat.le_refl _)
 refine zf za Tryz.func149 rfl Tryz.ntmps149 (congrArg Array.toList Tryz.results149) (by kernel_rfl) rfl ?_
 repeat ((fail_if_success refine zb ?_); first | refine q_Y ?_ | ((first | apply q_K rfl | apply q_X rfl); (exact qqam0)) | refine q_T ?_)
 refine za7 (fun x : Nat × Array Int => [(0, .row 1000), (6, natA a), (7, intA 0), (8, natA (b - a)), (9, intA ((x.1 : Int) - 1))]) (fun x => [(1000, uR x.2)]) (fun x => heapBuild ltInt (b - a) a x.1 x.2 = heapBuild ltInt (b - a) a ((b - a - 1) / 2 + 1) d ∧ x.2.size = d.size ∧ x.1 ≤ b - a) (fun x => x.1) ((b - a - 1) / 2 + 1, d) [(0, .row 1000), (6, natA a), (7, intA 0), (8, natA (b - a))] [(1000, uR (heapBuild ltInt (b - a) a ((b - a - 1) / 2 + 1) d))] ⟨rfl, rfl, by (try dsimp only); omega⟩ (zm ⟨rfl, rfl, rfl, rfl, intE (by omega), trivial⟩ ⟨rfl, trivial⟩) ?_ ?_
 ·rintro ⟨k, d1⟩ ⟨hk, hs, hkl⟩
  try dsimp only at hk hs hkl ⊢
  cases k with
  | zero =>
   repeat ((fail_if_success refine zb ?_); first | refine q_Y ?_ | ((first | apply q_K rfl | apply q_X rfl); (exact qqam0)) | refine q_T ?_)
   exact zm ⟨rfl, rfl, rfl, rfl, trivial⟩ ⟨by rw [← hk]; rfl, trivial⟩
  | succ k =>
   refine zt (zm (e1 := [(0, .row 1000), (6, natA a), (7, intA 0), (8, natA (b - a)), (9, natA k)]) (h1 := [(1000, uR d1)]) ⟨rfl, rfl, rfl, rfl, intE (by omega), trivial⟩ ⟨rfl, trivial⟩) ?_
   repeat ((fail_if_success refine zb ?_); first | refine q_Y ?_ | ((first | apply q_K rfl | apply q_X rfl); (exact qqam0)) | refine q_T ?_ | (refine O_cU 1000 (ziE d1 k (b - a) a (by omega) (by omega) (by omega)) rfl rfl rfl rfl rfl rfl rfl rfl ?_))
   exact ⟨(k, siftDown ltInt (b - a) a k d1), ⟨hk, by (try dsimp only); rw [hsz]; exact hs, by (try dsimp only); omega⟩, by (try dsimp only); omega, q_S⟩
 ·obtain ⟨d0, hd0⟩ : ∃ d0, heapBuild ltInt (b - a) a ((b - a - 1) / 2 + 1) d = d0 := ⟨_, rfl⟩
  have hsb : ∀ (k : Nat) (d : Array Int), (heapBuild ltInt (b - a) a k d).size = d.size := fun k => by
   induction k with
   | zero => intro d; rfl
   | succ k ih => intro d; rw [heapBuild, ih, hsz]
  have hs0 : d0.size = d.size := by rw [← hd0, hsb]
  have hres : heapSort ltInt d a b = heapPop ltInt a (b - a) d0 := by rw [← hd0]; rfl
  rw [hres, hd0]
  repeat ((fail_if_success refine zb ?_); first | refine q_Y ?_ | ((first | apply q_K rfl | apply q_X rfl); (exact qqam0)) | refine q_T ?_)
  refine zw (fun x : Nat × Array Int => [(0, .row 1000), (6, natA a), (7, intA 0), (10, intA ((x.1 : Int) - 1))]) (fun x => [(1000, uR x.2)]) (fun x => heapPop ltInt a x.1 x.2 = heapPop ltInt a (b - a) d0 ∧ x.2.size = d.size ∧ x.1 ≤ b - a) (fun x => x.1) (b - a, d0) ⟨rfl, hs0, Nat.le_refl _⟩ (zm ⟨rfl, rfl, rfl, intE (by omega), trivial⟩ ⟨rfl, trivial⟩) ?_
  rintro ⟨k, d1⟩ ⟨hk, hs, hkl⟩
  try dsimp only at hk hs hkl ⊢
  cases k with
  | zero =>
   repeat ((fail_if_success refine zb ?_); first | refine q_Y ?_ | ((first | apply q_K rfl | apply q_X rfl); (exact qqam0)) | refine q_T ?_)
   exact zdd AWk.refl rfl (h2 := [(1000, uR (heapPop ltInt a (b - a) d0))]) ⟨by rw [← hk]; rfl, trivial⟩ ⟨rfl, rfl⟩
  | succ k =>
   refine zt (zm (e1 := [(0, .row 1000), (6, natA a), (7, intA 0), (10, natA k)]) (h1 := [(1000, uR d1)]) ⟨rfl, rfl, rfl, intE (by omega), trivial⟩ ⟨rfl, trivial⟩) ?_
   have h1 : a < d1.size := by omega
   have h2 : a + k < d1.size := by omega
   repeat ((fail_if_success refine zb ?_); first | refine q_Y ?_ | ((first | apply q_K rfl | apply q_X rfl); (exact qqam0)) | refine q_T ?_)
   refine zA [1000] mixed ?_
   apply q_P 0 rfl (by kernel_rfl) rfl rfl rfl
   exact q_1
   apply q_P 1 rfl (by kernel_rfl) rfl rfl rfl
   exact q_1
   apply q_P 2 rfl (by kernel_rfl) rfl rfl rfl
   exact q_1
   apply q_P 3 rfl (by kernel_rfl) rfl rfl rfl
   exact q_1
   apply q_P 4 rfl (by kernel_rfl) rfl rfl rfl
   exact q_1
   apply q_P 5 rfl (by kernel_rfl) rfl rfl rfl
   first | exact zaD rfl rfl rfl | exact q_9
   apply q_P 6 rfl (by kernel_rfl) rfl rfl rfl
   exact q_1
   apply q_P 7 rfl (by kernel_rfl) rfl rfl rfl
   exact q_1
   apply q_P 8 rfl (by kernel_rfl) rfl rfl rfl
   exact q_1
   apply q_P 9 rfl (by kernel_rfl) rfl rfl rfl
   first | exact zaD rfl rfl rfl | exact q_9
   apply q_P 10 rfl (by kernel_rfl) rfl rfl rfl
   exact zi za rfl rfl rfl rfl rfl rfl rfl (by first | omega | (simp only [size_swp]; omega))
   apply q_P 12 rfl (by kernel_rfl) rfl rfl rfl
   exact q_1
   apply q_P 13 rfl (by kernel_rfl) rfl rfl rfl
   exact q_1
   apply q_P 14 rfl (by kernel_rfl) rfl rfl rfl
   exact zi za rfl rfl rfl rfl rfl rfl rfl (by first | omega | (simp only [size_swp]; omega))
   refine zaV (j := 11) (k := 15) (l2 := #[true, true, true, true, true, true, true, true, true, true, true, true, true, true, true, true, false, false, false, false]) (by kernel_rfl) (by kernel_rfl) (by kernel_rfl) (by kernel_rfl) (by kernel_rfl) rfl rfl rfl rfl rfl rfl rfl rfl rfl rfl rfl (zg (T := []) za rfl rfl rfl rfl rfl rfl (zp (by omega)) rfl rfl) (zg (T := []) za rfl rfl rfl rfl rfl rfl (zp (by omega)) rfl rfl) (zg (T := []) za rfl rfl rfl rfl rfl rfl (zp (by omega)) rfl rfl) (zg (T := []) za rfl rfl rfl rfl rfl rfl (zp (by omega)) rfl rfl) ?_
   apply q_P 16 rfl (by kernel_rfl) rfl rfl rfl
   exact zi za rfl rfl rfl rfl rfl rfl rfl (by first | omega | (simp only [size_swp]; omega))
   refine zd (j := 17) (by kernel_rfl) ?_
   refine zC za rfl rfl rfl rfl rfl rfl rfl rfl rfl rfl rfl rfl (by first | (simp only [zD]; omega) | (simp only [zag, zD, setW, List.length_append, List.length_take, List.length_drop, List.length_cons, List.length_nil]; omega)) (by omega) ?_
   apply q_P 18 rfl (by kernel_rfl) rfl rfl rfl
   exact zi za rfl rfl rfl rfl rfl rfl rfl (by first | omega | (simp only [size_swp]; omega))
   refine zd (j := 19) (by kernel_rfl) ?_
   refine zC za rfl rfl rfl rfl rfl rfl rfl rfl rfl rfl rfl rfl (by first | (simp only [zD]; omega) | (simp only [zag, zD, setW, List.length_append, List.length_take, List.length_drop, List.length_cons, List.length_nil]; omega)) (by omega) ?_
   refine zz (by kernel_rfl) ?_
   refine q_j ?_
   refine zt (zm (e1 := [(0, .row 1000), (6, natA a), (7, intA 0), (10, natA k)]) (h1 := [(1000, uR (swp d1 a (a + k)))]) ⟨rfl, rfl, rfl, rfl, trivial⟩ ⟨zaR h1 h2 rfl, trivial⟩) ?_
   repeat ((fail_if_success refine zb ?_); first | refine q_Y ?_ | ((first | apply q_K rfl | apply q_X rfl); (exact qqam0)) | refine q_T ?_ | (refine O_cU 1000 (ziE (swp d1 a (a + k)) 0 k a (by rw [size_swp]; omega) (by rw [size_swp]; omega) (by omega)) rfl rfl rfl rfl rfl rfl rfl rfl ?_))
   exact ⟨(k, siftDown ltInt k a 0 (swp d1 a (a + k))), ⟨hk, by (try dsimp only); rw [hsz, size_swp]; exact hs, by (try dsimp only); omega⟩, by (try dsimp only); omega, q_S⟩
end Go.Proofs.YtmmdkjanmegjdaaGreat.Ab

/-
 Texts of a proof, one behind the other (part 40).
-/
import Derived.Test.YtmmdkjanmegjdaaGreatRv2
import Derived.Test.YtmmdkjanmegjdaaGreatRv4
import Derived.Test.YtmmdkjanmegjdaaGreatRv9
import Derived.Test.YtmmdkjanmegjdaaGreatRv21
import Derived.Test.YtmmdkjanmegjdaaGreatRv38
set_option maxRecDepth 100000
set_option linter.unusedSimpArgs false
set_option linter.unusedVariables false
namespace Go.Proofs.YtmmdkjanmegjdaaGreat
open Go.RowKit Go.Lib
theorem zcY {α : Type} (p : α → Bool) (l : List α) (k : Nat) (h : k < l.length) : (l.drop k).find? p = if p l[k] = true then some l[k] else (l.drop (k + 1)).find? p := by
 rw [List.drop_eq_getElem_cons h, List.find?_cons]
 split <;> simp_all
namespace Ab
attribute [local irreducible] AWp AOps AQ AYield AEff ACall AWk AAny AAt AThen AIn APost NoPanic
set_option maxHeartbeats 32000000 in
theorem zjo (d : Dvc) (c : Cls) (s : Sbj) (hd : OkD d) (hs : OkS s) : ACall Tryz.prog 60 [dvcA d, aggD (clsD c), aggD (sbjD s)] [] (Just (boolA (fitsC d c s))) := by
 unfold fitsC
 obtain ⟨b1, hb1⟩ : ∃ b, fit1 d c s = b := ⟨_, rfl⟩
 obtain ⟨b2, hb2⟩ : ∃ b, fit2 d c s = b := ⟨_, rfl⟩
 obtain ⟨b5, hb5⟩ : ∃ b, fit5 c s = b := ⟨_, rfl⟩
 rw [hb1, hb2, hb5]
 unfold fit1 at hb1
 unfold fit2 at hb2
 have l1 := hd.p1
 have l2 := hd.c1
 have l3 := hs.path
 refine zf za Tryz.func60 rfl Tryz.ntmps60 (congrArg Array.toList Tryz.results60) (by kernel_rfl) rfl ?_
 refine z7 ?_
 refine zab ?_
 refine q_d ?_
 refine q_d ?_
 refine q_d ?_
 refine zB (zG (id := 3) (ds := dvcD d) rfl rfl) ?_
 refine zB (zG (id := 4) (ds := clsD c) rfl rfl) ?_
 refine zB (zG (id := 5) (ds := sbjD s) rfl rfl) ?_
 apply O_y rfl rfl rfl
 exact q_2
 refine zcv ?_
 refine q_j ?_
 cases b1 with
 | false =>
  simp only [Bool.false_and]
  have hp : c.pfx ≠ [] := fun h => by rw [decide_eq_true h] at hb1; simp at hb1
  rw [decide_eq_false hp, Bool.false_or] at hb1
  have hp0 : (!decide (c.pfx = [])) = true := by simp [hp]
  repeat ((fail_if_success refine zb ?_); first | refine q_Y ?_ | ((first | apply q_K rfl | apply q_X rfl); (first | exact q_F | (first | exact q_H | (exact R_sT rfl rfl rfl rfl hp0)))) | refine q_U ?_)
  try refine zS ?_
  refine zw (fun k : Nat => [(3, .iptr (dvcD d) 0), (4, .iptr (clsD c) 0), (5, .iptr (sbjD s) 0), (7, boolA false), (8, natA k)]) (fun _ => []) (fun k => k ≤ d.pls.length ∧ (d.pls.drop k).find? (fun l => decide (l.nm = c.pfx)) = d.pls.find? (fun l => decide (l.nm = c.pfx))) (fun k => d.pls.length - k) 0 ⟨Nat.zero_le _, rfl⟩ (q_S) ?_
  rintro k ⟨hk, ha⟩
  try dsimp only
  by_cases hkl : k < d.pls.length
  ·rw [zcY _ _ _ hkl] at ha
   have hm := hd.p2 _ (List.getElem_mem hkl)
   have hpc := zeL d.pls[k] s.p hm.2 hs.p hm.1
   have hw0 := zx zbI d.pls k 0 1 hkl (by decide)
   have hw := zn zbI d.pls k 2 hkl (by decide)
   by_cases hq : d.pls[k].nm = c.pfx
   ·rw [if_pos (decide_eq_true hq)] at ha
    rw [← ha] at hb1
    dsimp only at hb1
    rw [hb1] at hpc
    repeat ((fail_if_success refine zb ?_); first | refine q_Y ?_ | ((first | apply q_K rfl | apply q_X rfl); (first | exact q_F | (first | exact q_A | exact q_R (w := (by first | exact hw | exact hw0 | rfl)) | exact q_B | (first | exact R_sT rfl rfl rfl rfl (decide_eq_true hq) | exact q_I k hkl)))) | refine q_U ?_ | refine q_Q hpc ?_)
    exact zk rfl ⟨rfl, rfl⟩
   ·rw [if_neg (by simp [hq])] at ha
    repeat ((fail_if_success refine zb ?_); first | refine q_Y ?_ | ((first | apply q_K rfl | apply q_X rfl); (first | exact q_F | (first | exact q_A | exact q_R (w := (by first | exact hw | exact hw0 | rfl)) | exact q_B | (first | exact R_sF rfl rfl rfl rfl (decide_eq_false hq) | exact q_I k hkl)))) | refine q_U ?_)
    exact ⟨k + 1, ⟨hkl, ha⟩, by omega, q_S⟩
  ·
   repeat ((fail_if_success refine zb ?_); first | refine q_Y ?_ | ((first | apply q_K rfl | apply q_X rfl); (exact q_G)) | refine q_U ?_)
   exact zk rfl ⟨rfl, rfl⟩
 | true =>
 simp only [Bool.true_and]
 refine zaH [(3, .iptr (dvcD d) 0), (4, .iptr (clsD c) 0), (5, .iptr (sbjD s) 0)] [] ?_ ?_
 ·by_cases hp : c.pfx = []
  ·have hp0 : (!decide (c.pfx = [])) = false := by simp [hp]
   repeat ((fail_if_success refine zb ?_); first | refine q_Y ?_ | ((first | apply q_K rfl | apply q_X rfl); (first | exact q_F | (first | exact q_H | (exact R_sF rfl rfl rfl rfl hp0)))) | refine q_U ?_)
   exact q_S
  rw [decide_eq_false hp, Bool.false_or] at hb1
  have hp0 : (!decide (c.pfx = [])) = true := by simp [hp]
  repeat ((fail_if_success refine zb ?_); first | refine q_Y ?_ | ((first | apply q_K rfl | apply q_X rfl); (first | exact q_F | (first | exact q_H | (exact R_sT rfl rfl rfl rfl hp0)))) | refine q_U ?_)
  try refine zS ?_
  refine zw (fun k : Nat => [(3, .iptr (dvcD d) 0), (4, .iptr (clsD c) 0), (5, .iptr (sbjD s) 0), (7, boolA false), (8, natA k)]) (fun _ => []) (fun k => k ≤ d.pls.length ∧ (d.pls.drop k).find? (fun l => decide (l.nm = c.pfx)) = d.pls.find? (fun l => decide (l.nm = c.pfx))) (fun k => d.pls.length - k) 0 ⟨Nat.zero_le _, rfl⟩ (q_S) ?_
  rintro k ⟨hk, ha⟩
  try dsimp only
  by_cases hkl : k < d.pls.length
  ·rw [zcY _ _ _ hkl] at ha
   have hm := hd.p2 _ (List.getElem_mem hkl)
   have hpc := zeL d.pls[k] s.p hm.2 hs.p hm.1
   have hw0 := zx zbI d.pls k 0 1 hkl (by decide)
   have hw := zn zbI d.pls k 2 hkl (by decide)
   by_cases hq : d.pls[k].nm = c.pfx
   ·rw [if_pos (decide_eq_true hq)] at ha
    rw [← ha] at hb1
    dsimp only at hb1
    rw [hb1] at hpc
    repeat ((fail_if_success refine zb ?_); first | refine q_Y ?_ | ((first | apply q_K rfl | apply q_X rfl); (first | exact q_F | (first | exact q_A | exact q_R (w := (by first | exact hw | exact hw0 | rfl)) | exact q_B | (first | exact R_sT rfl rfl rfl rfl (decide_eq_true hq) | exact q_I k hkl)))) | refine q_U ?_ | refine q_Q hpc ?_)
    exact q_S
   ·rw [if_neg (by simp [hq])] at ha
    repeat ((fail_if_success refine zb ?_); first | refine q_Y ?_ | ((first | apply q_K rfl | apply q_X rfl); (first | exact q_F | (first | exact q_A | exact q_R (w := (by first | exact hw | exact hw0 | rfl)) | exact q_B | (first | exact R_sF rfl rfl rfl rfl (decide_eq_false hq) | exact q_I k hkl)))) | refine q_U ?_)
    exact ⟨k + 1, ⟨hkl, ha⟩, by omega, q_S⟩
  ·rw [List.drop_of_length_le (by omega)] at ha
   rw [← ha] at hb1
   cases hb1
 cases b2 with
 | false =>
  simp only [Bool.false_and]
  have hp : c.com ≠ [] := fun h => by rw [decide_eq_true h] at hb2; simp at hb2
  rw [decide_eq_false hp, Bool.false_or] at hb2
  have hp0 : (!decide (c.com = [])) = true := by simp [hp]
  repeat ((fail_if_success refine zb ?_); first | refine q_Y ?_ | ((first | apply q_K rfl | apply q_X rfl); (first | exact q_F | (first | exact q_H | (exact R_sT rfl rfl rfl rfl hp0)))) | refine q_U ?_)
  try refine zS ?_
  refine zw (fun k : Nat => [(3, .iptr (dvcD d) 0), (4, .iptr (clsD c) 0), (5, .iptr (sbjD s) 0), (9, boolA false), (10, natA k)]) (fun _ => []) (fun k => k ≤ d.cls.length ∧ (d.cls.drop k).find? (fun l => decide (l.nm = c.com)) = d.cls.find? (fun l => decide (l.nm = c.com))) (fun k => d.cls.length - k) 0 ⟨Nat.zero_le _, rfl⟩ (q_S) ?_
  rintro k ⟨hk, ha⟩
  try dsimp only
  by_cases hkl : k < d.cls.length
  ·rw [zcY _ _ _ hkl] at ha
   have hm := hd.c2 _ (List.getElem_mem hkl)
   have hpc := zfu d.cls[k] s.com hm.2 hs.com hm.1
   have hw0 := zx zbL d.cls k 0 1 hkl (by decide)
   have hw := zn zbL d.cls k 2 hkl (by decide)
   by_cases hq : d.cls[k].nm = c.com
   ·rw [if_pos (decide_eq_true hq)] at ha
    rw [← ha] at hb2
    dsimp only at hb2
    rw [hb2] at hpc
    repeat ((fail_if_success refine zb ?_); first | refine q_Y ?_ | ((first | apply q_K rfl | apply q_X rfl); (first | exact q_F | (first | exact q_A | exact q_R (w := (by first | exact hw | exact hw0 | rfl)) | exact q_B | (first | exact R_sT rfl rfl rfl rfl (decide_eq_true hq) | exact q_I k hkl)))) | refine q_U ?_ | refine q_Q hpc ?_)
    exact zk rfl ⟨rfl, rfl⟩
   ·rw [if_neg (by simp [hq])] at ha
    repeat ((fail_if_success refine zb ?_); first | refine q_Y ?_ | ((first | apply q_K rfl | apply q_X rfl); (first | exact q_F | (first | exact q_A | exact q_R (w := (by first | exact hw | exact hw0 | rfl)) | exact q_B | (first | exact R_sF rfl rfl rfl rfl (decide_eq_false hq) | exact q_I k hkl)))) | refine q_U ?_)
    exact ⟨k + 1, ⟨hkl, ha⟩, by omega, q_S⟩
  ·
   repeat ((fail_if_success refine zb ?_); first | refine q_Y ?_ | ((first | apply q_K rfl | apply q_X rfl); (exact q_G)) | refine q_U ?_)
   exact zk rfl ⟨rfl, rfl⟩
 | true =>
 simp only [Bool.true_and]
 refine zaH [(4, .iptr (clsD c) 0), (5, .iptr (sbjD s) 0)] [] ?_ ?_
 ·by_cases hp : c.com = []
  ·have hp0 : (!decide (c.com = [])) = false := by simp [hp]
   repeat ((fail_if_success refine zb ?_); first | refine q_Y ?_ | ((first | apply q_K rfl | apply q_X rfl); (first | exact q_F | (first | exact q_H | (exact R_sF rfl rfl rfl rfl hp0)))) | refine q_U ?_)
   exact q_S
  rw [decide_eq_false hp, Bool.false_or] at hb2
  have hp0 : (!decide (c.com = [])) = true := by simp [hp]
  repeat ((fail_if_success refine zb ?_); first | refine q_Y ?_ | ((first | apply q_K rfl | apply q_X rfl); (first | exact q_F | (first | exact q_H | (exact R_sT rfl rfl rfl rfl hp0)))) | refine q_U ?_)
  try refine zS ?_
  refine zw (fun k : Nat => [(3, .iptr (dvcD d) 0), (4, .iptr (clsD c) 0), (5, .iptr (sbjD s) 0), (9, boolA false), (10, natA k)]) (fun _ => []) (fun k => k ≤ d.cls.length ∧ (d.cls.drop k).find? (fun l => decide (l.nm = c.com)) = d.cls.find? (fun l => decide (l.nm = c.com))) (fun k => d.cls.length - k) 0 ⟨Nat.zero_le _, rfl⟩ (q_S) ?_
  rintro k ⟨hk, ha⟩
  try dsimp only
  by_cases hkl : k < d.cls.length
  ·rw [zcY _ _ _ hkl] at ha
   have hm := hd.c2 _ (List.getElem_mem hkl)
   have hpc := zfu d.cls[k] s.com hm.2 hs.com hm.1
   have hw0 := zx zbL d.cls k 0 1 hkl (by decide)
   have hw := zn zbL d.cls k 2 hkl (by decide)
   by_cases hq : d.cls[k].nm = c.com
   ·rw [if_pos (decide_eq_true hq)] at ha
    rw [← ha] at hb2
    dsimp only at hb2
    rw [hb2] at hpc
    repeat ((fail_if_success refine zb ?_); first | refine q_Y ?_ | ((first | apply q_K rfl | apply q_X rfl); (first | exact q_F | (first | exact q_A | exact q_R (w := (by first | exact hw | exact hw0 | rfl)) | exact q_B | (first | exact R_sT rfl rfl rfl rfl (decide_eq_true hq) | exact q_I k hkl)))) | refine q_U ?_ | refine q_Q hpc ?_)
    exact q_S
   ·rw [if_neg (by simp [hq])] at ha
    repeat ((fail_if_success refine zb ?_); first | refine q_Y ?_ | ((first | apply q_K rfl | apply q_X rfl); (first | exact q_F | (first | exact q_A | exact q_R (w := (by first | exact hw | exact hw0 | rfl)) | exact q_B | (first | exact R_sF rfl rfl rfl rfl (decide_eq_false hq) | exact q_I k hkl)))) | refine q_U ?_)
    exact ⟨k + 1, ⟨hkl, ha⟩, by omega, q_S⟩
  ·rw [List.drop_of_length_le (by omega)] at ha
   rw [← ha] at hb2
   cases hb2
 unfold fit3 fit4
 by_cases t1 : c.tag = -1 ∨ c.tag = s.tag
 ·have ht : (decide (c.tag = -1) || decide (c.tag = s.tag)) = true := by rcases t1 with h | h <;> simp [h]
  rw [ht, Bool.true_and]
  by_cases t2 : c.met = -1 ∨ c.met = s.met
  ·have ht2 : (decide (c.met = -1) || decide (c.met = s.met)) = true := by rcases t2 with h | h <;> simp [h]
   rw [ht2, Bool.true_and]
   refine zaH [(4, .iptr (clsD c) 0), (5, .iptr (sbjD s) 0)] [] ?_ ?_
   ·by_cases u1 : c.tag = -1
    ·by_cases u2 : c.met = -1
     ·
      repeat ((fail_if_success refine zb ?_); first | refine q_Y ?_ | ((first | apply q_K rfl | apply q_X rfl); (exact q_G)) | refine q_U ?_)
      exact q_S
     ·have u3 : c.met = s.met := t2.resolve_left u2
      repeat ((fail_if_success refine zb ?_); first | refine q_Y ?_ | ((first | apply q_K rfl | apply q_X rfl); (exact q_G)) | refine q_U ?_)
      exact q_S
    ·have u4 : c.tag = s.tag := t1.resolve_left u1
     by_cases u2 : c.met = -1
     ·
      repeat ((fail_if_success refine zb ?_); first | refine q_Y ?_ | ((first | apply q_K rfl | apply q_X rfl); (exact q_G)) | refine q_U ?_)
      exact q_S
     ·have u3 : c.met = s.met := t2.resolve_left u2
      repeat ((fail_if_success refine zb ?_); first | refine q_Y ?_ | ((first | apply q_K rfl | apply q_X rfl); (exact q_G)) | refine q_U ?_)
      exact q_S
   unfold fit5 at hb5
   by_cases v1 : c.thr = -1
   ·rw [decide_eq_true v1, Bool.true_or] at hb5
    subst hb5
    repeat ((fail_if_success refine zb ?_); first | refine q_Y ?_ | ((first | apply q_K rfl | apply q_X rfl); (exact q_G)) | refine q_U ?_)
    exact zk rfl ⟨rfl, rfl⟩
   rw [decide_eq_false v1, Bool.false_or] at hb5
   repeat ((fail_if_success refine zb ?_); first | refine q_Y ?_ | ((first | apply q_K rfl | apply q_X rfl); (exact q_G)) | refine q_U ?_)
   try refine zS ?_
   refine zw (fun k : Nat => [(4, .iptr (clsD c) 0), (5, .iptr (sbjD s) 0), (11, natA k)]) (fun _ => []) (fun k => k ≤ s.path.length ∧ ((s.path.take k).any fun n => decide (n = c.thr)) = false) (fun k => s.path.length - k) 0 ⟨Nat.zero_le _, rfl⟩ (q_S) ?_
   rintro k ⟨hk, ha⟩
   try dsimp only
   by_cases hkl : k < s.path.length
   ·have hw := zn zV s.path k 1 hkl (by decide)
    have ht := zhq (fun n => decide (n = c.thr)) s.path k hkl
    rw [ha, Bool.false_or] at ht
    have hpu := hs.pu _ (List.getElem_mem hkl)
    have hcv : IntKind.i64.wrap s.path[k] = s.path[k] := zaL ⟨by omega, by omega⟩
    by_cases he : s.path[k] = c.thr
    ·obtain rfl : true = b5 := by
      rw [← hb5]
      symm
      exact List.any_eq_true.2 ⟨s.path[k], List.getElem_mem hkl, by simp [he]⟩
     repeat ((fail_if_success refine zb ?_); first | refine q_Y ?_ | ((first | apply q_K rfl | apply q_X rfl); (first | exact q_F | (first | exact q_A | exact q_R (w := (by first | exact hw | rfl)) | exact q_B | (first | exact q_I k hkl | exact zcK za rfl rfl rfl rfl rfl hcv)))) | refine q_U ?_)
     exact zk rfl ⟨rfl, rfl⟩
    ·have ht : ((s.path.take (k + 1)).any fun n => decide (n = c.thr)) = false := by rw [ht]; simp [he]
     repeat ((fail_if_success refine zb ?_); first | refine q_Y ?_ | ((first | apply q_K rfl | apply q_X rfl); (first | exact q_F | (first | exact q_A | exact q_R (w := (by first | exact hw | rfl)) | exact q_B | (first | exact q_I k hkl | exact zcK za rfl rfl rfl rfl rfl hcv)))) | refine q_U ?_)
     exact ⟨k + 1, ⟨hkl, ht⟩, by omega, q_S⟩
   ·obtain rfl : k = s.path.length := by omega
    rw [List.take_length, hb5] at ha
    subst ha
    repeat ((fail_if_success refine zb ?_); first | refine q_Y ?_ | ((first | apply q_K rfl | apply q_X rfl); (exact q_G)) | refine q_U ?_)
    exact zk rfl ⟨rfl, rfl⟩
  ·have v1 : c.met ≠ -1 := fun h => t2 (.inl h)
   have v2 : c.met ≠ s.met := fun h => t2 (.inr h)
   rw [decide_eq_false v1, decide_eq_false v2, Bool.false_or, Bool.false_and]
   by_cases u1 : c.tag = -1
   ·
    repeat ((fail_if_success refine zb ?_); first | refine q_Y ?_ | ((first | apply q_K rfl | apply q_X rfl); (exact q_G)) | refine q_U ?_)
    exact zk rfl ⟨rfl, rfl⟩
   ·have u4 : c.tag = s.tag := t1.resolve_left u1
    repeat ((fail_if_success refine zb ?_); first | refine q_Y ?_ | ((first | apply q_K rfl | apply q_X rfl); (exact q_G)) | refine q_U ?_)
    exact zk rfl ⟨rfl, rfl⟩
 ·have v1 : c.tag ≠ -1 := fun h => t1 (.inl h)
  have v2 : c.tag ≠ s.tag := fun h => t1 (.inr h)
  rw [decide_eq_false v1, decide_eq_false v2, Bool.false_or, Bool.false_and, Bool.false_and]
  repeat ((fail_if_success refine zb ?_); first | refine q_Y ?_ | ((first | apply q_K rfl | apply q_X rfl); (exact q_G)) | refine q_U ?_)
  exact zk rfl ⟨rfl, rfl⟩
end Ab
end Go.Proofs.YtmmdkjanmegjdaaGreat

namespace Go.Proofs.YtmmdkjanmegjdaaGreat
open Go.RowKit Go.Lib
def StrictI (l : List Int) : Prop := l.Pairwise fun a b => a < b
def seekL (out : List Int) : List Int → Bool × Int → Bool × Int
 | [], x => x
 | c :: r, (f, m) => seekL out r (if (out.any fun d => d == c) = false ∧ (f = false ∨ c < m) then (true, c) else (f, m))
theorem zdQ (out : List Int) : ∀ (l : List Int) (f : Bool) (m : Int), (f = true → m ∉ out) →
    ((seekL out l (f, m)).1 = false → f = false ∧ ∀ x ∈ l, x ∈ out) ∧
    ((seekL out l (f, m)).1 = true → (seekL out l (f, m)).2 ∉ out ∧ ((f = true ∧ (seekL out l (f, m)).2 = m) ∨ (seekL out l (f, m)).2 ∈ l) ∧ (f = true → (seekL out l (f, m)).2 ≤ m) ∧ ∀ x ∈ l, x ∉ out → (seekL out l (f, m)).2 ≤ x)
  | [], f, m, hf => by simp [seekL]; intro h; subst h; exact ⟨hf rfl, rfl⟩
  | c :: r, f, m, hf => by
    have hc : (out.any fun d => d == c) = false ↔ c ∉ out := by
      rw [List.any_eq_false]
      constructor
      · intro h hm; exact absurd (beq_self_eq_true c) (h c hm)
      · intro h d hd he; have := eq_of_beq he; subst this; exact h hd
    rw [seekL]
    by_cases h : (out.any fun d => d == c) = false ∧ (f = false ∨ c < m)
    · rw [if_pos h]
      have hco := hc.1 h.1
      obtain ⟨a1, a2⟩ := zdQ out r true c fun _ => hco
      refine ⟨fun h1 => ?_, fun h1 => ?_⟩
      · have := (a1 h1).1; cases this
      · obtain ⟨b1, b2, b3, b4⟩ := a2 h1
        have b3 := b3 rfl
        refine ⟨b1, ?_, fun hft => ?_, fun x hx hxo => ?_⟩
        · rcases b2 with ⟨_, h2⟩ | h2
          · right; rw [h2]; simp
          · right; simp [h2]
        · rcases h.2 with h3 | h3
          · rw [h3] at hft; cases hft
          · omega
        · rcases List.mem_cons.1 hx with rfl | hx
          · exact b3
          · exact b4 x hx hxo
    · rw [if_neg h]
      obtain ⟨a1, a2⟩ := zdQ out r f m hf
      refine ⟨fun h1 => ?_, fun h1 => ?_⟩
      · obtain ⟨g1, g2⟩ := a1 h1
        refine ⟨g1, fun x hx => ?_⟩
        rcases List.mem_cons.1 hx with rfl | hx
        · exact Classical.byContradiction fun hn => h ⟨hc.2 hn, .inl g1⟩
        · exact g2 x hx
      · obtain ⟨b1, b2, b3, b4⟩ := a2 h1
        refine ⟨b1, ?_, b3, fun x hx hxo => ?_⟩
        · rcases b2 with h2 | h2
          · exact .inl h2
          · right; simp [h2]
        · rcases List.mem_cons.1 hx with rfl | hx
          · have h2 : ¬ (f = false ∨ x < m) := fun h3 => h ⟨hc.2 hxo, h3⟩
            have hft : f = true := by cases f; · exact absurd (.inl rfl) h2
                                      · rfl
            have := b3 hft
            have h4 : ¬ x < m := fun h3 => h2 (.inr h3)
            omega
          · exact b4 x hx hxo
theorem zfq (out : List Int) (c : Int) : ∀ (l : List Int) (x : Bool × Int), seekL out (l ++ [c]) x = (if (out.any fun d => d == c) = false ∧ ((seekL out l x).1 = false ∨ c < (seekL out l x).2) then (true, c) else seekL out l x)
 | [], (f, m) => rfl
 | a :: r, (f, m) => by rw [List.cons_append, seekL, seekL, zfq out c r]
theorem zdO {N : List Int} (h : StrictI N) {j : Nat} (hj : j < N.length) : N[j] ∉ N.take j ∧ ∀ x ∈ N, x ∉ N.take j → N[j] ≤ x := by
 have hp := List.pairwise_iff_getElem.1 h
 constructor
 ·intro hm
  obtain ⟨i, hi, he⟩ := List.getElem_of_mem hm
  rw [List.length_take] at hi
  rw [List.getElem_take] at he
  have := hp i j (by omega) hj (by omega)
  omega
 ·intro x hx hn
  obtain ⟨i, hi, rfl⟩ := List.getElem_of_mem hx
  rcases Nat.lt_or_ge i j with h2 | h2
  ·exact absurd (List.mem_iff_getElem.2 ⟨i, by rw [List.length_take]; omega, by rw [List.getElem_take]⟩) hn
  ·rcases Nat.eq_or_lt_of_le h2 with h3 | h3
   ·subst h3; exact Int.le_refl _
   ·exact Int.le_of_lt (hp j i hj hi h3)
theorem zh1 (l : List Int) : StrictI (nrm l) := (zas znf znx l).imp fun {a b} h => by unfold cI at h; omega
theorem zjk {N l : List Int} (hN : StrictI N) (hm : ∀ x, x ∈ N ↔ x ∈ l) (j : Nat) (hj : j ≤ N.length) :
  (j = N.length → (seekL (N.take j) l (false, 0)).1 = false) ∧ (∀ h : j < N.length, (seekL (N.take j) l (false, 0)) = (true, N[j])) := by
 obtain ⟨a1, a2⟩ := zdQ (N.take j) l false 0 (fun h => by cases h)
 constructor
 ·intro he
  cases hs : (seekL (N.take j) l (false, 0)).1
  ·rfl
  ·obtain ⟨b1, b2, _⟩ := a2 hs
   rcases b2 with ⟨h, _⟩ | h
   ·cases h
   ·rw [he, List.take_length] at b1 h
    exact absurd ((hm _).2 h) b1
 ·intro h
  obtain ⟨s1, s2⟩ := zdO hN h
  cases hs : (seekL (N.take j) l (false, 0)).1
  ·exact absurd ((a1 hs).2 _ ((hm _).1 (List.getElem_mem h))) s1
  ·obtain ⟨b1, b2, _, b4⟩ := a2 hs
   have h1 := b4 _ ((hm _).1 (List.getElem_mem h)) s1
   have h2 : N[j] ≤ (seekL (N.take j) l (false, 0)).2 := by
    rcases b2 with ⟨h, _⟩ | h2
    ·cases h
    ·exact s2 _ ((hm _).2 h2) b1
   exact Prod.ext hs (Int.le_antisymm h1 h2)
end Go.Proofs.YtmmdkjanmegjdaaGreat

namespace Go.Proofs.YtmmdkjanmegjdaaGreat.Ab
open Go.RowKit Go.Lib
attribute [local irreducible] AWp AOps AQ AYield AEff ACall AWk AAny AAt AThen AIn APost NoPanic
set_option maxHeartbeats 8000000 in
theorem zft (l : List Int) (hn : l.length ≤ 1000000000) : ACall Tryz.prog 88 [usA l] [] (Just (usA (nrm l))) := by
 have hN := zh1 l
 have hNm := zm3 l
 have hNl := zga l
 obtain ⟨N, hNe⟩ : ∃ N, nrm l = N := ⟨_, rfl⟩
 rw [hNe] at hN hNm hNl ⊢
 clear hNe
 refine zf za Tryz.func88 rfl Tryz.ntmps88 (congrArg Array.toList Tryz.results88) (by kernel_rfl) rfl ?_
 repeat ((fail_if_success refine zb ?_); first | refine q_Y ?_ | ((first | apply q_K rfl | apply q_X rfl); (exact q_G)) | refine q_U ?_)
 refine zt (zbn 44 1 (t := 3) (id := 3) rfl rfl) ?_
 refine zw (fun j : Nat => [(0, usA l), (3, .row 3)]) (fun j => [(3, uB (N.take j))]) (fun j => j ≤ N.length) (fun j => N.length - j) 0 (Nat.zero_le _) (q_S) ?_
 intro j hj
 try dsimp only
 obtain ⟨s1, s2⟩ := zjk hN hNm j hj
 have hol : (N.take j).length ≤ 1000000000 := by rw [List.length_take]; omega
 have hsn : ∀ h : j < N.length, N.take (j + 1) = N.take j ++ [N[j]] := fun h => List.take_succ_eq_append_getElem h
 obtain ⟨out, ho⟩ : ∃ out, N.take j = out := ⟨_, rfl⟩
 rw [ho] at s1 s2 hol hsn ⊢
 repeat ((fail_if_success refine zb ?_); first | refine q_Y ?_ | ((first | apply q_K rfl | apply q_X rfl); (exact q_G)) | refine q_U ?_)
 try refine zS ?_
 refine zw (fun x : Nat × Bool × Int => [(0, usA l), (3, .row 3), (4, boolA x.2.1), (5, u32A x.2.2), (6, natA x.1)]) (fun _ => [(3, uB out)]) (fun x => x.1 ≤ l.length ∧ x.2 = seekL out (l.take x.1) (false, 0)) (fun x => l.length - x.1) (0, false, 0) ⟨Nat.zero_le _, rfl⟩ (q_S) ?_
 rintro ⟨i, f, m⟩ ⟨hi, hx⟩
 try dsimp only at hi hx ⊢
 by_cases hil : i < l.length
 ·have hw := zn zV l i 1 hil (by decide)
  have hh := zkO out l[i] hol
  have hs := zfq out l[i] (l.take i) (false, 0)
  rw [← List.take_succ_eq_append_getElem hil, ← hx] at hs
  dsimp only at hs
  obtain ⟨r, hr⟩ : ∃ r, (out.any fun d => d == l[i]) = r := ⟨_, rfl⟩
  rw [hr] at hh hs
  have key : ∀ y : Bool × Int, y = (if r = false ∧ (f = false ∨ l[i] < m) then (true, l[i]) else (f, m)) → y = seekL out (l.take (i + 1)) (false, 0) := fun y h => by rw [hs, h]
  obtain ⟨c, hc⟩ : ∃ c, l[i] = c := ⟨_, rfl⟩
  rw [hc] at hw hh key
  clear hs hr hc
  cases r with
  | true =>
   repeat ((fail_if_success refine zb ?_); first | refine q_Y ?_ | ((first | apply q_K rfl | apply q_X rfl); (first | exact q_F | (first | exact q_A | exact q_R (w := hw) | exact q_B))) | refine q_U ?_ | (refine O_cL rfl rfl rfl rfl rfl hh rfl (fun _ _ _ => zaJ _ _ _ _ _ rfl rfl) ?_))
   exact ⟨(i + 1, f, m), ⟨hil, key (f, m) (by rw [if_neg (by simp)])⟩, by (try dsimp only); omega, q_S⟩
  | false =>
   cases f with
   | false =>
    repeat ((fail_if_success refine zb ?_); first | refine q_Y ?_ | ((first | apply q_K rfl | apply q_X rfl); (first | exact q_F | (first | exact q_A | exact q_R (w := hw) | exact q_B))) | refine q_U ?_ | (refine O_cL rfl rfl rfl rfl rfl hh rfl (fun _ _ _ => zaJ _ _ _ _ _ rfl rfl) ?_))
    exact ⟨(i + 1, true, c), ⟨hil, key (true, c) (by simp)⟩, by (try dsimp only); omega, q_S⟩
   | true =>
    by_cases hcm : c < m
    ·
     repeat ((fail_if_success refine zb ?_); first | refine q_Y ?_ | ((first | apply q_K rfl | apply q_X rfl); (first | exact q_F | (first | exact q_A | exact q_R (w := hw) | exact q_B))) | refine q_U ?_ | (refine O_cL rfl rfl rfl rfl rfl hh rfl (fun _ _ _ => zaJ _ _ _ _ _ rfl rfl) ?_))
     exact ⟨(i + 1, true, c), ⟨hil, key (true, c) (by simp [hcm])⟩, by (try dsimp only); omega, q_S⟩
    ·
     repeat ((fail_if_success refine zb ?_); first | refine q_Y ?_ | ((first | apply q_K rfl | apply q_X rfl); (first | exact q_F | (first | exact q_A | exact q_R (w := hw) | exact q_B))) | refine q_U ?_ | (refine O_cL rfl rfl rfl rfl rfl hh rfl (fun _ _ _ => zaJ _ _ _ _ _ rfl rfl) ?_))
     exact ⟨(i + 1, true, m), ⟨hil, key (true, m) (by simp [hcm])⟩, by (try dsimp only); omega, q_S⟩
 ·obtain rfl : i = l.length := by omega
  rw [List.take_length] at hx
  rcases Nat.lt_or_ge j N.length with h | h
  ·rw [s2 h] at hx
   cases hx
   have hfl : (out.flatMap u1D).length = out.length * 1 := zM zV _
   repeat ((fail_if_success refine zb ?_); first | refine q_Y ?_ | ((first | apply q_K rfl | apply q_X rfl); (exact q_G)) | refine q_U ?_ | (first | refine zaE za rfl rfl rfl rfl rfl rfl rfl rfl rfl rfl rfl (by first | exact Src.row rfl | exact Src.dat _ _ | exact Src.nil) rfl (by omega) ?_ | refine zaF za rfl rfl rfl rfl rfl rfl rfl rfl rfl rfl (by first | exact Src.row rfl | exact Src.dat _ _ | exact Src.nil) rfl (by omega) ?_))
   exact ⟨j + 1, h, by omega, zm ⟨rfl, rfl, trivial⟩ ⟨zah (by rw [hsn h, List.length_append]; rfl) (by rw [hsn h, List.flatMap_append]; rfl) rfl, trivial⟩⟩
  ·have he : j = N.length := by omega
   have h1 := s1 he
   rw [← hx] at h1
   obtain rfl : f = false := h1
   have ho : out = N := by rw [← ho, he, List.take_length]
   subst ho
   repeat ((fail_if_success refine zb ?_); first | refine q_Y ?_ | ((first | apply q_K rfl | apply q_X rfl); (exact q_G)) | refine q_U ?_)
   exact zo (zF (id := 3) rfl) rfl (h2 := []) trivial ⟨rfl, rfl⟩
set_option maxHeartbeats 4000000 in
theorem zmM (a b : List Int) (hn : a.length + b.length ≤ 1000000000) : ACall Tryz.prog 87 [usA a, usA b] [] (Just (usA (nrm (a ++ b)))) := by
 have hc := zft (a ++ b) (by rw [List.length_append]; omega)
 have f1 : (a.flatMap u1D).length = a.length * 1 := zM zV _
 have f2 : (b.flatMap u1D).length = b.length * 1 := zM zV _
 refine zf za Tryz.func87 rfl Tryz.ntmps87 (congrArg Array.toList Tryz.results87) (by kernel_rfl) rfl ?_
 refine z7 ?_
 refine zab ?_
 apply O_y rfl rfl rfl
 exact q_2
 refine zcv ?_
 refine q_j ?_
 refine z7 ?_
 refine zab ?_
 apply O_y rfl rfl rfl
 exact q_2
 refine zcv ?_
 refine q_j ?_
 refine zt (zbn 44 1 (t := 5) (id := 5) rfl rfl) ?_
 refine zaH [(0, usA a), (1, usA b), (5, .row 5)] [(5, uB a)] ?_ ?_
 ·
  repeat ((fail_if_success refine zb ?_); first | refine q_Y ?_ | ((first | apply q_K rfl | apply q_X rfl); (exact q_G)) | refine q_U ?_ | (first | refine zaE za rfl rfl rfl rfl rfl rfl rfl rfl rfl rfl rfl (by first | exact Src.row rfl | exact Src.dat _ _ | exact Src.nil) f1 (by omega) ?_ | refine zaF za rfl rfl rfl rfl rfl rfl rfl rfl rfl rfl (by first | exact Src.row rfl | exact Src.dat _ _ | exact Src.nil) f1 (by omega) ?_))
  exact zm ⟨rfl, rfl, rfl, trivial⟩ ⟨zah (by simp) (by simp) rfl, trivial⟩
 refine zaH [(0, usA a), (1, usA b), (5, .row 5)] [(5, uB (a ++ b))] ?_ ?_
 ·
  repeat ((fail_if_success refine zb ?_); first | refine q_Y ?_ | ((first | apply q_K rfl | apply q_X rfl); (exact q_G)) | refine q_U ?_ | (first | refine zaE za rfl rfl rfl rfl rfl rfl rfl rfl rfl rfl rfl (by first | exact Src.row rfl | exact Src.dat _ _ | exact Src.nil) f2 (by omega) ?_ | refine zaF za rfl rfl rfl rfl rfl rfl rfl rfl rfl rfl (by first | exact Src.row rfl | exact Src.dat _ _ | exact Src.nil) f2 (by omega) ?_))
  exact zm ⟨rfl, rfl, rfl, trivial⟩ ⟨zah (by simp) (by simp) rfl, trivial⟩
 refine zt (zF (id := 5) rfl) ?_
 repeat ((fail_if_success refine zb ?_); first | refine q_Y ?_ | ((first | apply q_K rfl | apply q_X rfl); (exact q_G)) | refine q_U ?_ | refine q_O hc ?_)
 exact zk rfl ⟨rfl, rfl⟩
end Go.Proofs.YtmmdkjanmegjdaaGreat.Ab

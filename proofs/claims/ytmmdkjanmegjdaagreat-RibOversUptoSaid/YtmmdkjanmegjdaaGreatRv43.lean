/-
 Texts of a proof, one behind the other (part 44).
-/
import Derived.Test.YtmmdkjanmegjdaaGreatRv4
import Derived.Test.YtmmdkjanmegjdaaGreatRv10
import Derived.Test.YtmmdkjanmegjdaaGreatRv29
import Derived.Test.YtmmdkjanmegjdaaGreatRv30
import Derived.Test.YtmmdkjanmegjdaaGreatRv32
set_option maxRecDepth 100000
set_option linter.unusedSimpArgs false
set_option linter.unusedVariables false
namespace Go.Proofs.YtmmdkjanmegjdaaGreat.Ab
open Go.RowKit Go.Lib
attribute [local irreducible] AWp AOps AQ AYield AEff ACall AWk AAny AAt AThen AIn APost NoPanic
set_option maxHeartbeats 8000000 in
theorem zkS (r : Rte) (fr : Int) (hf : 0 ≤ r.f ∧ r.f < 256) : ACall Tryz.prog 14 [rteA r, .d (.sc (.int .u8 fr))] [] (Just (boolA (comesB r.f fr))) := by
 obtain ⟨p, f, d, m, t, i, h, x⟩ := r
 dsimp only at hf ⊢
 unfold comesB
 refine zf za Tryz.func14 rfl Tryz.ntmps14 (congrArg Array.toList Tryz.results14) (by kernel_rfl) rfl ?_
 by_cases h1 : f = 1
 ·rw [if_pos h1]
  obtain ⟨v, hv⟩ : ∃ v, andC fr 1 = v := ⟨_, rfl⟩
  rw [hv]
  by_cases hz : v = 0
  ·rw [decide_eq_false (fun h => h hz)]
   repeat ((fail_if_success refine zb ?_); first | refine q_Y ?_ | ((first | apply q_K rfl | apply q_X rfl); (first | exact q_F | (first | exact q_H | (exact z6 rfl rfl rfl hv)))) | refine q_U ?_)
   exact zk rfl ⟨rfl, rfl⟩
  ·rw [decide_eq_true hz]
   repeat ((fail_if_success refine zb ?_); first | refine q_Y ?_ | ((first | apply q_K rfl | apply q_X rfl); (first | exact q_F | (first | exact q_H | (exact z6 rfl rfl rfl hv)))) | refine q_U ?_)
   exact zk rfl ⟨rfl, rfl⟩
 rw [if_neg h1]
 by_cases h2 : f = 2
 ·rw [if_pos h2]
  obtain ⟨v, hv⟩ : ∃ v, andC fr 2 = v := ⟨_, rfl⟩
  rw [hv]
  by_cases hz : v = 0
  ·rw [decide_eq_false (fun h => h hz)]
   repeat ((fail_if_success refine zb ?_); first | refine q_Y ?_ | ((first | apply q_K rfl | apply q_X rfl); (first | exact q_F | (first | exact q_H | (exact z6 rfl rfl rfl hv)))) | refine q_U ?_)
   exact zk rfl ⟨rfl, rfl⟩
  ·rw [decide_eq_true hz]
   repeat ((fail_if_success refine zb ?_); first | refine q_Y ?_ | ((first | apply q_K rfl | apply q_X rfl); (first | exact q_F | (first | exact q_H | (exact z6 rfl rfl rfl hv)))) | refine q_U ?_)
   exact zk rfl ⟨rfl, rfl⟩
 rw [if_neg h2]
 by_cases h3 : 3 ≤ f ∧ f ≤ 6
 ·rw [if_pos h3]
  obtain ⟨v, hv⟩ : ∃ v, andC fr 4 = v := ⟨_, rfl⟩
  rw [hv]
  have h5 : f = 3 ∨ f = 4 ∨ f = 5 ∨ f = 6 := by omega
  rcases h5 with h5 | h5 | h5 | h5
  ·
   by_cases hz : v = 0
   ·rw [decide_eq_false (fun h => h hz)]
    repeat ((fail_if_success refine zb ?_); first | refine q_Y ?_ | ((first | apply q_K rfl | apply q_X rfl); (first | exact q_F | (first | exact q_H | (exact z6 rfl rfl rfl hv)))) | refine q_U ?_)
    exact zk rfl ⟨rfl, rfl⟩
   ·rw [decide_eq_true hz]
    repeat ((fail_if_success refine zb ?_); first | refine q_Y ?_ | ((first | apply q_K rfl | apply q_X rfl); (first | exact q_F | (first | exact q_H | (exact z6 rfl rfl rfl hv)))) | refine q_U ?_)
    exact zk rfl ⟨rfl, rfl⟩
  ·
   by_cases hz : v = 0
   ·rw [decide_eq_false (fun h => h hz)]
    repeat ((fail_if_success refine zb ?_); first | refine q_Y ?_ | ((first | apply q_K rfl | apply q_X rfl); (first | exact q_F | (first | exact q_H | (exact z6 rfl rfl rfl hv)))) | refine q_U ?_)
    exact zk rfl ⟨rfl, rfl⟩
   ·rw [decide_eq_true hz]
    repeat ((fail_if_success refine zb ?_); first | refine q_Y ?_ | ((first | apply q_K rfl | apply q_X rfl); (first | exact q_F | (first | exact q_H | (exact z6 rfl rfl rfl hv)))) | refine q_U ?_)
    exact zk rfl ⟨rfl, rfl⟩
  ·
   by_cases hz : v = 0
   ·rw [decide_eq_false (fun h => h hz)]
    repeat ((fail_if_success refine zb ?_); first | refine q_Y ?_ | ((first | apply q_K rfl | apply q_X rfl); (first | exact q_F | (first | exact q_H | (exact z6 rfl rfl rfl hv)))) | refine q_U ?_)
    exact zk rfl ⟨rfl, rfl⟩
   ·rw [decide_eq_true hz]
    repeat ((fail_if_success refine zb ?_); first | refine q_Y ?_ | ((first | apply q_K rfl | apply q_X rfl); (first | exact q_F | (first | exact q_H | (exact z6 rfl rfl rfl hv)))) | refine q_U ?_)
    exact zk rfl ⟨rfl, rfl⟩
  ·
   by_cases hz : v = 0
   ·rw [decide_eq_false (fun h => h hz)]
    repeat ((fail_if_success refine zb ?_); first | refine q_Y ?_ | ((first | apply q_K rfl | apply q_X rfl); (first | exact q_F | (first | exact q_H | (exact z6 rfl rfl rfl hv)))) | refine q_U ?_)
    exact zk rfl ⟨rfl, rfl⟩
   ·rw [decide_eq_true hz]
    repeat ((fail_if_success refine zb ?_); first | refine q_Y ?_ | ((first | apply q_K rfl | apply q_X rfl); (first | exact q_F | (first | exact q_H | (exact z6 rfl rfl rfl hv)))) | refine q_U ?_)
    exact zk rfl ⟨rfl, rfl⟩
 rw [if_neg h3]
 by_cases h4 : f = 7 ∨ f = 8
 ·rw [if_pos h4]
  obtain ⟨v, hv⟩ : ∃ v, andC fr 8 = v := ⟨_, rfl⟩
  rw [hv]
  rcases h4 with h4 | h4
  ·
   by_cases hz : v = 0
   ·rw [decide_eq_false (fun h => h hz)]
    repeat ((fail_if_success refine zb ?_); first | refine q_Y ?_ | ((first | apply q_K rfl | apply q_X rfl); (first | exact q_F | (first | exact q_H | (exact z6 rfl rfl rfl hv)))) | refine q_U ?_)
    exact zk rfl ⟨rfl, rfl⟩
   ·rw [decide_eq_true hz]
    repeat ((fail_if_success refine zb ?_); first | refine q_Y ?_ | ((first | apply q_K rfl | apply q_X rfl); (first | exact q_F | (first | exact q_H | (exact z6 rfl rfl rfl hv)))) | refine q_U ?_)
    exact zk rfl ⟨rfl, rfl⟩
  ·
   by_cases hz : v = 0
   ·rw [decide_eq_false (fun h => h hz)]
    repeat ((fail_if_success refine zb ?_); first | refine q_Y ?_ | ((first | apply q_K rfl | apply q_X rfl); (first | exact q_F | (first | exact q_H | (exact z6 rfl rfl rfl hv)))) | refine q_U ?_)
    exact zk rfl ⟨rfl, rfl⟩
   ·rw [decide_eq_true hz]
    repeat ((fail_if_success refine zb ?_); first | refine q_Y ?_ | ((first | apply q_K rfl | apply q_X rfl); (first | exact q_F | (first | exact q_H | (exact z6 rfl rfl rfl hv)))) | refine q_U ?_)
    exact zk rfl ⟨rfl, rfl⟩
 ·rw [if_neg h4]
  by_cases h5 : 3 ≤ f
  ·
   repeat ((fail_if_success refine zb ?_); first | refine q_Y ?_ | ((first | apply q_K rfl | apply q_X rfl); (exact q_G)) | refine q_U ?_)
   exact zk rfl ⟨rfl, rfl⟩
  ·
   repeat ((fail_if_success refine zb ?_); first | refine q_Y ?_ | ((first | apply q_K rfl | apply q_X rfl); (exact q_G)) | refine q_U ?_)
   exact zk rfl ⟨rfl, rfl⟩
end Go.Proofs.YtmmdkjanmegjdaaGreat.Ab

namespace Go.Proofs.YtmmdkjanmegjdaaGreat.Ab
open Go.RowKit Go.Lib
attribute [local irreducible] AWp AOps AQ AYield AEff ACall AWk AAny AAt AThen AIn APost NoPanic
def oneI (a b : Bool) : Int := if a then -1 else if b then 1 else 0
theorem ziJ (a b : Bool) : ACall Tryz.prog 59 [boolA a, boolA b] [] (Just (intA (oneI a b))) := by
 refine zf za Tryz.func59 rfl Tryz.ntmps59 (congrArg Array.toList Tryz.results59) (by kernel_rfl) rfl ?_
 cases a
 ·cases b
  ·
   repeat (first | refine q_Y ?_ | ((first | apply q_K rfl | apply q_X rfl); (exact q_H)) | refine q_U ?_)
   exact zk rfl ⟨rfl, rfl⟩
  ·
   repeat (first | refine q_Y ?_ | ((first | apply q_K rfl | apply q_X rfl); (exact q_H)) | refine q_U ?_)
   exact zk rfl ⟨rfl, rfl⟩
 ·
  repeat (first | refine q_Y ?_ | ((first | apply q_K rfl | apply q_X rfl); (exact q_H)) | refine q_U ?_)
  exact zk rfl ⟨rfl, rfl⟩
theorem zm2 (x y : Int) : oneI (decide (x < y)) (decide (x > y)) = c2 x y := by
 unfold oneI c2
 by_cases h1 : x < y
 ·simp [h1]
 ·by_cases h2 : y < x
  ·simp [h1, h2]
  ·simp [h1, h2]
theorem zh0 (x y : List UInt8) : oneI (decide (compareBytes x y < 0)) (decide (0 < compareBytes x y)) = compareBytes x y := by
 rcases zhl x y with h | h | h <;> rw [h] <;> rfl
theorem zk5 (b : Bool) : oneI b false = cB false b := by cases b <;> rfl
theorem zk4 (b : Bool) : oneI false (!b) = cB true b := by cases b <;> rfl
theorem zda (x y : Int) : ACall Tryz.prog 59 [boolA (decide (x < y)), boolA (decide (x > y))] [] (Just (intA (c2 x y))) := by
 have := ziJ (decide (x < y)) (decide (x > y)); rw [zm2] at this; exact this
theorem zjC (x y : List UInt8) : ACall Tryz.prog 59 [boolA (decide (compareBytes x y < 0)), boolA (decide (0 < compareBytes x y))] [] (Just (intA (compareBytes x y))) := by
 have := ziJ (decide (compareBytes x y < 0)) (decide (0 < compareBytes x y)); rw [zh0] at this; exact this
theorem ziR (l : List Int) (hn : l.length ≤ 1000000) : ACall Tryz.prog 57 [intsA l] [] (Just (intA (firstI l))) := by
 refine zf za Tryz.func57 rfl Tryz.ntmps57 (congrArg Array.toList Tryz.results57) (by kernel_rfl) rfl ?_
 repeat (first | refine q_Y ?_ | ((first | apply q_K rfl | apply q_X rfl); (exact q_H)) | refine q_U ?_)
 refine zw (fun k : Nat => [(0, intsA l), (3, intA (k : Int))]) (fun _ => []) (fun k => k ≤ l.length ∧ firstI l = firstI (l.drop k)) (fun k => l.length - k) 0 ⟨by omega, rfl⟩ (q_S) ?_
 rintro k ⟨hk, he⟩
 dsimp only
 by_cases hlt : k < l.length
 ·by_cases h0 : l[k] = 0
  ·
   repeat (first | refine q_Y ?_ | ((first | apply q_K rfl | apply q_X rfl); (first | exact q_A | exact q_R (w := (by first | exact zn zaM l k _ hlt (by decide) | exact zx zaM l k _ _ hlt (by decide) | exact zaj zaM l k _ _ _ hlt (by decide) | rfl)) | exact q_B)) | refine q_U ?_)
   exact ⟨k + 1, ⟨by omega, by rw [he, zei hlt h0]⟩, by omega, q_S⟩
  ·
   repeat (first | refine q_Y ?_ | ((first | apply q_K rfl | apply q_X rfl); (first | exact q_A | exact q_R (w := (by first | exact zn zaM l k _ hlt (by decide) | exact zx zaM l k _ _ hlt (by decide) | exact zaj zaM l k _ _ _ hlt (by decide) | rfl)) | exact q_B)) | refine q_U ?_)
   exact zk rfl ⟨by rw [he, zfK hlt h0]; rfl, rfl⟩
 ·have : k = l.length := by omega
  subst this
  repeat (first | refine q_Y ?_ | ((first | apply q_K rfl | apply q_X rfl); (exact q_H)) | refine q_U ?_)
  exact zk rfl ⟨by rw [he, List.drop_length]; rfl, rfl⟩
theorem qqbr0 {T : List Nat} {e : Env} {h : Heap} {o : Oper} {c : AVal} (hy : AYield Tryz.prog T e h o c := by first | exact q_1 | exact q_2 | exact q_8 | exact q_7 | exact q_13 | exact zgj rfl rfl rfl rfl | exact q_20 | exact q_25 | exact q_26) : AYield Tryz.prog T e h o c := hy
set_option maxHeartbeats 8000000 in
theorem zgP (p q : Pfx) : ACall Tryz.prog 58 [pfxA p, pfxA q] [] (Just (intA (ordP p q))) := by
 have h1 := zda p.a q.a
 have h2 := zda p.b q.b
 have h3 := ziR [c2 p.a q.a, c2 p.b q.b] (by simp)
 rw [zeS] at h3
 refine zf za Tryz.func58 rfl Tryz.ntmps58 (congrArg Array.toList Tryz.results58) (by kernel_rfl) rfl ?_
 refine z7 ?_
 refine zab ?_
 repeat (first | refine q_Y ?_ | ((first | apply q_K rfl | apply q_X rfl); (exact q_H)) | refine q_U ?_)
 refine zA [] mixed ?_
 (apply q_P 0 rfl (by kernel_rfl) rfl rfl rfl; (exact qqbr0))
 (apply q_P 1 rfl (by kernel_rfl) rfl rfl rfl; (exact qqbr0))
 (apply q_P 2 rfl (by kernel_rfl) rfl rfl rfl; (exact qqbr0))
 (apply q_P 3 rfl (by kernel_rfl) rfl rfl rfl; (exact qqbr0))
 (apply q_P 4 rfl (by kernel_rfl) rfl rfl rfl; (exact qqbr0))
 (apply q_P 5 rfl (by kernel_rfl) rfl rfl rfl; (exact qqbr0))
 (apply q_P 6 rfl (by kernel_rfl) rfl rfl rfl; (exact qqbr0))
 (apply q_P 7 rfl (by kernel_rfl) rfl rfl rfl; (exact qqbr0))
 (apply q_P 8 rfl (by kernel_rfl) rfl rfl rfl; (exact qqbr0))
 (apply q_P 9 rfl (by kernel_rfl) rfl rfl rfl; (exact qqbr0))
 (apply q_P 11 rfl (by kernel_rfl) rfl rfl rfl; (exact qqbr0))
 (apply q_P 12 rfl (by kernel_rfl) rfl rfl rfl; (exact qqbr0))
 (apply q_P 13 rfl (by kernel_rfl) rfl rfl rfl; (exact qqbr0))
 (apply q_P 14 rfl (by kernel_rfl) rfl rfl rfl; (exact qqbr0))
 (apply q_P 15 rfl (by kernel_rfl) rfl rfl rfl; (exact qqbr0))
 (apply q_P 16 rfl (by kernel_rfl) rfl rfl rfl; (exact qqbr0))
 (apply q_P 17 rfl (by kernel_rfl) rfl rfl rfl; (exact qqbr0))
 (apply q_P 18 rfl (by kernel_rfl) rfl rfl rfl; (exact qqbr0))
 (apply q_P 19 rfl (by kernel_rfl) rfl rfl rfl; (exact qqbr0))
 (apply q_P 20 rfl (by kernel_rfl) rfl rfl rfl; (exact qqbr0))
 refine zd (j := 10) (by kernel_rfl) ?_
 refine zR rfl rfl rfl rfl rfl rfl h1 (fun _ => rfl) ?_
 refine zd (j := 21) (by kernel_rfl) ?_
 refine zR rfl rfl rfl rfl rfl rfl h2 (fun _ => rfl) ?_
 refine zd (j := 22) (by kernel_rfl) ?_
 refine zbE za rfl rfl rfl rfl rfl rfl rfl rfl rfl rfl rfl rfl ?_
 refine zd (j := 23) (by kernel_rfl) ?_
 refine T_cL rfl rfl rfl rfl rfl rfl h3 rfl (fun _ _ _ => zaJ _ _ _ _ _ rfl rfl) ?_
 (apply q_P 24 rfl (by kernel_rfl) rfl rfl rfl; (exact qqbr0))
 refine zz (by kernel_rfl) ?_
 repeat (first | refine q_Y ?_ | ((first | apply q_K rfl | apply q_X rfl); (exact q_H)) | refine q_U ?_)
 exact zk rfl ⟨rfl, rfl⟩
set_option maxHeartbeats 4000000 in
theorem zjq (l m : List Rte) (hn : l.length ≤ 1000000) : ACall Tryz.prog 8 [rtesA l, rtesA m] [] (Just (boolA (decide (l = m)))) := by
 refine zf za Tryz.func8 rfl Tryz.ntmps8 (congrArg Array.toList Tryz.results8) (by kernel_rfl) rfl ?_
 by_cases hl : l.length = m.length
 ·
  repeat (first | refine q_Y ?_ | ((first | apply q_K rfl | apply q_X rfl); (exact q_H)) | refine q_U ?_)
  refine zw (fun k : Nat => [(0, rtesA l), (1, rtesA m), (5, intA (k : Int))]) (fun _ => []) (fun k => k ≤ l.length ∧ l.take k = m.take k) (fun k => l.length - k) 0 ⟨Nat.zero_le _, rfl⟩ (q_S) ?_
  rintro k ⟨hk, he⟩
  dsimp only
  by_cases hlt : k < l.length
  ·have hlm : k < m.length := by omega
   have heq := rteEq l[k] m[k]
   have hw0 := zb0 l k hlt
   have hw1 := zb0 m k hlm
   by_cases hx : l[k] = m[k]
   ·rw [show (l[k] == m[k]) = true by simpa using hx] at heq
    repeat (first | refine q_Y ?_ | ((first | apply q_K rfl | apply q_X rfl); (first | exact q_A | exact q_R (w := hw0) | exact q_B | (first | exact q_R (w := hw1) | exact Y_eq za zap rfl rfl rfl rfl rfl rfl rfl rfl rfl (by kernel_rfl) heq rfl))) | refine q_U ?_)
    exact ⟨k + 1, ⟨by omega, by rw [List.take_succ_eq_append_getElem hlt, List.take_succ_eq_append_getElem hlm, he, hx]⟩, by omega, q_S⟩
   ·rw [show (l[k] == m[k]) = false by simpa using hx] at heq
    have hne : ¬ l = m := fun h => hx (by subst h; rfl)
    rw [show decide (l = m) = false by simpa using hne]
    repeat (first | refine q_Y ?_ | ((first | apply q_K rfl | apply q_X rfl); (first | exact q_A | exact q_R (w := hw0) | exact q_B | (first | exact q_R (w := hw1) | exact Y_eq za zap rfl rfl rfl rfl rfl rfl rfl rfl rfl (by kernel_rfl) heq rfl))) | refine q_U ?_)
    exact zk rfl ⟨rfl, rfl⟩
  ·have hkk : k = l.length := by omega
   subst hkk
   rw [List.take_length, hl, List.take_length] at he
   rw [show decide (l = m) = true by simpa using he]
   repeat (first | refine q_Y ?_ | ((first | apply q_K rfl | apply q_X rfl); (exact q_H)) | refine q_U ?_)
   exact zk rfl ⟨rfl, rfl⟩
 ·rw [show decide (l = m) = false by simpa using fun h => hl (by rw [h])]
  repeat (first | refine q_Y ?_ | ((first | apply q_K rfl | apply q_X rfl); (exact q_H)) | refine q_U ?_)
  exact zk rfl ⟨rfl, rfl⟩
end Go.Proofs.YtmmdkjanmegjdaaGreat.Ab

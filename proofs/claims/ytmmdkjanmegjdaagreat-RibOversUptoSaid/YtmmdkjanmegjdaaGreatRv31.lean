/-
 Texts of a proof, one behind the other (part 32).
-/
import Derived.Test.YtmmdkjanmegjdaaGreatRv4
import Derived.Test.YtmmdkjanmegjdaaGreatRv10
import Derived.Test.YtmmdkjanmegjdaaGreatRv19
import Derived.Test.YtmmdkjanmegjdaaGreatRv29
import Derived.Test.YtmmdkjanmegjdaaGreatRv30
set_option maxRecDepth 100000
set_option linter.unusedSimpArgs false
set_option linter.unusedVariables false
namespace Go.Proofs.YtmmdkjanmegjdaaGreat.Ab
open Go.RowKit Go.Lib
attribute [local irreducible] AWp AOps AQ AYield AEff ACall AWk AAny AAt AThen AIn APost NoPanic
set_option maxHeartbeats 8000000 in
theorem znr (r : Rte) (fr : Int) (hf : 0 ≤ r.f ∧ r.f < 256) : ACall Tryz.prog 19 [rteA r, .d (.sc (.int .u8 fr))] [] (Just (boolA (comesB r.f fr))) := by
 obtain ⟨p, f, d, m, t, i, h, x⟩ := r
 dsimp only at hf ⊢
 unfold comesB
 refine zf za Tryz.func19 rfl Tryz.ntmps19 (congrArg Array.toList Tryz.results19) (by kernel_rfl) rfl ?_
 by_cases h1 : f = 1
 ·rw [if_pos h1]
  obtain ⟨v, hv⟩ : ∃ v, andC fr 1 = v := ⟨_, rfl⟩
  rw [hv]
  by_cases hz : v = 0
  ·rw [decide_eq_false (fun h => h hz)]
   repeat ((fail_if_success refine zb ?_); first | refine q_Y ?_ | ((first | apply q_K rfl | apply q_X rfl); (first | exact q_F | (first | exact q_H | (exact z6 rfl rfl rfl hv)))) | refine q_U ?_)
   exact zk rfl ⟨rfl, rfl⟩
  ·rw [decide_eq_true hz]
   repeat ((fail_if_success refine zb ?_); first | refine q_Y ?_ | ((first | apply q_K rfl | apply q_X rfl); (first | exact q_F | (first | exact q_H | (exact z6 rfl rfl rfl hv)))) | refine q_U ?_)
   exact zk rfl ⟨rfl, rfl⟩
 rw [if_neg h1]
 by_cases h2 : f = 2
 ·rw [if_pos h2]
  obtain ⟨v, hv⟩ : ∃ v, andC fr 2 = v := ⟨_, rfl⟩
  rw [hv]
  by_cases hz : v = 0
  ·rw [decide_eq_false (fun h => h hz)]
   repeat ((fail_if_success refine zb ?_); first | refine q_Y ?_ | ((first | apply q_K rfl | apply q_X rfl); (first | exact q_F | (first | exact q_H | (exact z6 rfl rfl rfl hv)))) | refine q_U ?_)
   exact zk rfl ⟨rfl, rfl⟩
  ·rw [decide_eq_true hz]
   repeat ((fail_if_success refine zb ?_); first | refine q_Y ?_ | ((first | apply q_K rfl | apply q_X rfl); (first | exact q_F | (first | exact q_H | (exact z6 rfl rfl rfl hv)))) | refine q_U ?_)
   exact zk rfl ⟨rfl, rfl⟩
 rw [if_neg h2]
 by_cases h3 : 3 ≤ f ∧ f ≤ 6
 ·rw [if_pos h3]
  obtain ⟨v, hv⟩ : ∃ v, andC fr 4 = v := ⟨_, rfl⟩
  rw [hv]
  have h5 : f = 3 ∨ f = 4 ∨ f = 5 ∨ f = 6 := by omega
  rcases h5 with h5 | h5 | h5 | h5
  ·
   by_cases hz : v = 0
   ·rw [decide_eq_false (fun h => h hz)]
    repeat ((fail_if_success refine zb ?_); first | refine q_Y ?_ | ((first | apply q_K rfl | apply q_X rfl); (first | exact q_F | (first | exact q_H | (exact z6 rfl rfl rfl hv)))) | refine q_U ?_)
    exact zk rfl ⟨rfl, rfl⟩
   ·rw [decide_eq_true hz]
    repeat ((fail_if_success refine zb ?_); first | refine q_Y ?_ | ((first | apply q_K rfl | apply q_X rfl); (first | exact q_F | (first | exact q_H | (exact z6 rfl rfl rfl hv)))) | refine q_U ?_)
    exact zk rfl ⟨rfl, rfl⟩
  ·
   by_cases hz : v = 0
   ·rw [decide_eq_false (fun h => h hz)]
    repeat ((fail_if_success refine zb ?_); first | refine q_Y ?_ | ((first | apply q_K rfl | apply q_X rfl); (first | exact q_F | (first | exact q_H | (exact z6 rfl rfl rfl hv)))) | refine q_U ?_)
    exact zk rfl ⟨rfl, rfl⟩
   ·rw [decide_eq_true hz]
    repeat ((fail_if_success refine zb ?_); first | refine q_Y ?_ | ((first | apply q_K rfl | apply q_X rfl); (first | exact q_F | (first | exact q_H | (exact z6 rfl rfl rfl hv)))) | refine q_U ?_)
    exact zk rfl ⟨rfl, rfl⟩
  ·
   by_cases hz : v = 0
   ·rw [decide_eq_false (fun h => h hz)]
    repeat ((fail_if_success refine zb ?_); first | refine q_Y ?_ | ((first | apply q_K rfl | apply q_X rfl); (first | exact q_F | (first | exact q_H | (exact z6 rfl rfl rfl hv)))) | refine q_U ?_)
    exact zk rfl ⟨rfl, rfl⟩
   ·rw [decide_eq_true hz]
    repeat ((fail_if_success refine zb ?_); first | refine q_Y ?_ | ((first | apply q_K rfl | apply q_X rfl); (first | exact q_F | (first | exact q_H | (exact z6 rfl rfl rfl hv)))) | refine q_U ?_)
    exact zk rfl ⟨rfl, rfl⟩
  ·
   by_cases hz : v = 0
   ·rw [decide_eq_false (fun h => h hz)]
    repeat ((fail_if_success refine zb ?_); first | refine q_Y ?_ | ((first | apply q_K rfl | apply q_X rfl); (first | exact q_F | (first | exact q_H | (exact z6 rfl rfl rfl hv)))) | refine q_U ?_)
    exact zk rfl ⟨rfl, rfl⟩
   ·rw [decide_eq_true hz]
    repeat ((fail_if_success refine zb ?_); first | refine q_Y ?_ | ((first | apply q_K rfl | apply q_X rfl); (first | exact q_F | (first | exact q_H | (exact z6 rfl rfl rfl hv)))) | refine q_U ?_)
    exact zk rfl ⟨rfl, rfl⟩
 rw [if_neg h3]
 by_cases h4 : f = 7 ∨ f = 8
 ·rw [if_pos h4]
  obtain ⟨v, hv⟩ : ∃ v, andC fr 8 = v := ⟨_, rfl⟩
  rw [hv]
  rcases h4 with h4 | h4
  ·
   by_cases hz : v = 0
   ·rw [decide_eq_false (fun h => h hz)]
    repeat ((fail_if_success refine zb ?_); first | refine q_Y ?_ | ((first | apply q_K rfl | apply q_X rfl); (first | exact q_F | (first | exact q_H | (exact z6 rfl rfl rfl hv)))) | refine q_U ?_)
    exact zk rfl ⟨rfl, rfl⟩
   ·rw [decide_eq_true hz]
    repeat ((fail_if_success refine zb ?_); first | refine q_Y ?_ | ((first | apply q_K rfl | apply q_X rfl); (first | exact q_F | (first | exact q_H | (exact z6 rfl rfl rfl hv)))) | refine q_U ?_)
    exact zk rfl ⟨rfl, rfl⟩
  ·
   by_cases hz : v = 0
   ·rw [decide_eq_false (fun h => h hz)]
    repeat ((fail_if_success refine zb ?_); first | refine q_Y ?_ | ((first | apply q_K rfl | apply q_X rfl); (first | exact q_F | (first | exact q_H | (exact z6 rfl rfl rfl hv)))) | refine q_U ?_)
    exact zk rfl ⟨rfl, rfl⟩
   ·rw [decide_eq_true hz]
    repeat ((fail_if_success refine zb ?_); first | refine q_Y ?_ | ((first | apply q_K rfl | apply q_X rfl); (first | exact q_F | (first | exact q_H | (exact z6 rfl rfl rfl hv)))) | refine q_U ?_)
    exact zk rfl ⟨rfl, rfl⟩
 ·rw [if_neg h4]
  by_cases h5 : 3 ≤ f
  ·
   repeat ((fail_if_success refine zb ?_); first | refine q_Y ?_ | ((first | apply q_K rfl | apply q_X rfl); (exact q_G)) | refine q_U ?_)
   exact zk rfl ⟨rfl, rfl⟩
  ·
   repeat ((fail_if_success refine zb ?_); first | refine q_Y ?_ | ((first | apply q_K rfl | apply q_X rfl); (exact q_G)) | refine q_U ?_)
   exact zk rfl ⟨rfl, rfl⟩
end Go.Proofs.YtmmdkjanmegjdaaGreat.Ab

namespace Go.Proofs.YtmmdkjanmegjdaaGreat.Ab
open Go.RowKit Go.Lib
attribute [local irreducible] AWp AOps AQ AYield AEff ACall AWk AAny AAt AThen AIn APost NoPanic
def intD (n : Int) : List Dat := [.sc (.int .i64 n)]
theorem zaM (n : Int) : (intD n).length = 1 := rfl
def intsA (l : List Int) : AVal := .d (.sl (l.flatMap intD) l.length)
theorem zei {l : List Int} {k : Nat} (hk : k < l.length) (h0 : l[k] = 0) : firstI (l.drop k) = firstI (l.drop (k + 1)) := by
 rw [List.drop_eq_getElem_cons hk, h0]; rfl
theorem zfK {l : List Int} {k : Nat} (hk : k < l.length) (h0 : l[k] ≠ 0) : firstI (l.drop k) = l[k] := by
 rw [List.drop_eq_getElem_cons hk]
 show (if l[k] = 0 then _ else _) = _
 rw [if_neg h0]
theorem zk1 (l : List Int) (hn : l.length ≤ 1000000) : ACall Tryz.prog 48 [intsA l] [] (Just (intA (firstI l))) := by
 refine zf za Tryz.func48 rfl Tryz.ntmps48 (congrArg Array.toList Tryz.results48) (by kernel_rfl) rfl ?_
 repeat (first | refine q_Y ?_ | ((first | apply q_K rfl | apply q_X rfl); (exact q_H)) | refine q_U ?_)
 refine zw (fun k : Nat => [(2, intA 0), (3, intA 0), (6, intsA l), (7, intA (l.length : Int)), (8, intA (k : Int))]) (fun _ => []) (fun k => k ≤ l.length ∧ firstI l = firstI (l.drop k)) (fun k => l.length - k) 0 ⟨by omega, rfl⟩ (q_S) ?_
 rintro k ⟨hk, he⟩
 dsimp only
 by_cases hlt : k < l.length
 ·by_cases h0 : l[k] = 0
  ·
   repeat (first | refine q_Y ?_ | ((first | apply q_K rfl | apply q_X rfl); (first | exact q_A | exact q_R (w := (by first | exact zn zaM l k _ hlt (by decide) | exact zx zaM l k _ _ hlt (by decide) | exact zaj zaM l k _ _ _ hlt (by decide) | rfl)) | exact q_B)) | refine q_U ?_)
   exact ⟨k + 1, ⟨by omega, by rw [he, zei hlt h0]⟩, by omega, q_S⟩
  ·
   repeat (first | refine q_Y ?_ | ((first | apply q_K rfl | apply q_X rfl); (first | exact q_A | exact q_R (w := (by first | exact zn zaM l k _ hlt (by decide) | exact zx zaM l k _ _ hlt (by decide) | exact zaj zaM l k _ _ _ hlt (by decide) | rfl)) | exact q_B)) | refine q_U ?_)
   exact zk rfl ⟨by rw [he, zfK hlt h0]; rfl, rfl⟩
 ·have : k = l.length := by omega
  subst this
  repeat (first | refine q_Y ?_ | ((first | apply q_K rfl | apply q_X rfl); (exact q_H)) | refine q_U ?_)
  exact zk rfl ⟨by rw [he, List.drop_length]; rfl, rfl⟩
theorem qqbf0 {T : List Nat} {e : Env} {h : Heap} {o : Oper} {c : AVal} (hy : AYield Tryz.prog T e h o c := by first | exact q_5 | exact q_6 | exact q_7 | exact q_15 | exact q_16 | exact q_19) : AYield Tryz.prog T e h o c := hy
set_option maxHeartbeats 4000000 in
theorem zhj (p q : Pfx) : ACall Tryz.prog 68 [pfxA p, pfxA q] [] (Just (intA (ordP p q))) := by
 have h1 := zdF p.a q.a
 have h2 := zaG p.b q.b
 have h3 := zk1 [c2 p.a q.a, c2 p.b q.b] (by simp)
 rw [zeS] at h3
 refine zf za Tryz.func68 rfl Tryz.ntmps68 (congrArg Array.toList Tryz.results68) (by kernel_rfl) rfl ?_
 repeat (first | refine q_Y ?_ | ((first | apply q_K rfl | apply q_X rfl); (exact q_H)) | refine q_U ?_ | (first | refine q_O h1 ?_ | refine q_O h2 ?_ | refine q_Q h1 ?_ | refine q_Q h2 ?_))
 refine zA [] mixed ?_
 repeat (first | ((first | apply q_M 0 rfl rfl (by kernel_rfl) (by decide +kernel) (by decide +kernel) rfl rfl rfl | apply q_M 1 rfl rfl (by kernel_rfl) (by decide +kernel) (by decide +kernel) rfl rfl rfl | apply q_M 2 rfl rfl (by kernel_rfl) (by decide +kernel) (by decide +kernel) rfl rfl rfl | apply q_M 3 rfl rfl (by kernel_rfl) (by decide +kernel) (by decide +kernel) rfl rfl rfl | apply q_M 4 rfl rfl (by kernel_rfl) (by decide +kernel) (by decide +kernel) rfl rfl rfl | apply q_M 5 rfl rfl (by kernel_rfl) (by decide +kernel) (by decide +kernel) rfl rfl rfl | apply q_M 6 rfl rfl (by kernel_rfl) (by decide +kernel) (by decide +kernel) rfl rfl rfl | apply q_M 7 rfl rfl (by kernel_rfl) (by decide +kernel) (by decide +kernel) rfl rfl rfl | apply q_M 8 rfl rfl (by kernel_rfl) (by decide +kernel) (by decide +kernel) rfl rfl rfl | apply q_M 9 rfl rfl (by kernel_rfl) (by decide +kernel) (by decide +kernel) rfl rfl rfl | apply q_M 10 rfl rfl (by kernel_rfl) (by decide +kernel) (by decide +kernel) rfl rfl rfl | apply q_M 11 rfl rfl (by kernel_rfl) (by decide +kernel) (by decide +kernel) rfl rfl rfl | apply q_M 12 rfl rfl (by kernel_rfl) (by decide +kernel) (by decide +kernel) rfl rfl rfl ); (exact q_H)) | (apply q_L 0 rfl rfl (by kernel_rfl) (by decide +kernel) (by decide +kernel) rfl rfl rfl; (exact qqbf0)) | (apply q_L 1 rfl rfl (by kernel_rfl) (by decide +kernel) (by decide +kernel) rfl rfl rfl; (exact qqbf0)) | (apply q_L 2 rfl rfl (by kernel_rfl) (by decide +kernel) (by decide +kernel) rfl rfl rfl; (exact qqbf0)) | (apply q_L 3 rfl rfl (by kernel_rfl) (by decide +kernel) (by decide +kernel) rfl rfl rfl; (exact qqbf0)) | (apply q_L 4 rfl rfl (by kernel_rfl) (by decide +kernel) (by decide +kernel) rfl rfl rfl; (exact qqbf0)) | (apply q_L 5 rfl rfl (by kernel_rfl) (by decide +kernel) (by decide +kernel) rfl rfl rfl; (exact qqbf0)) | (apply q_L 6 rfl rfl (by kernel_rfl) (by decide +kernel) (by decide +kernel) rfl rfl rfl; (exact qqbf0)) | (apply q_L 7 rfl rfl (by kernel_rfl) (by decide +kernel) (by decide +kernel) rfl rfl rfl; (exact qqbf0)) | (apply q_L 8 rfl rfl (by kernel_rfl) (by decide +kernel) (by decide +kernel) rfl rfl rfl; (exact qqbf0)) | (apply q_L 9 rfl rfl (by kernel_rfl) (by decide +kernel) (by decide +kernel) rfl rfl rfl; (exact qqbf0)) | (apply q_L 10 rfl rfl (by kernel_rfl) (by decide +kernel) (by decide +kernel) rfl rfl rfl; (exact qqbf0)) | (apply q_L 11 rfl rfl (by kernel_rfl) (by decide +kernel) (by decide +kernel) rfl rfl rfl; (exact qqbf0)) | (apply q_L 12 rfl rfl (by kernel_rfl) (by decide +kernel) (by decide +kernel) rfl rfl rfl; (exact qqbf0)) | refine zd (j := 0) (by decide +kernel) ?_ | refine zd (j := 1) (by decide +kernel) ?_ | refine zd (j := 2) (by decide +kernel) ?_ | refine zd (j := 3) (by decide +kernel) ?_ | refine zd (j := 4) (by decide +kernel) ?_ | refine zd (j := 5) (by decide +kernel) ?_ | refine zd (j := 6) (by decide +kernel) ?_ | refine zd (j := 7) (by decide +kernel) ?_ | refine zd (j := 8) (by decide +kernel) ?_ | refine zd (j := 9) (by decide +kernel) ?_ | refine zd (j := 10) (by decide +kernel) ?_ | refine zd (j := 11) (by decide +kernel) ?_ | refine zd (j := 12) (by decide +kernel) ?_ | refine zW za rfl rfl rfl rfl rfl rfl rfl ?_ | refine zJ za rfl rfl rfl rfl rfl rfl rfl rfl rfl rfl rfl rfl rfl ?_ | refine zfP rfl rfl rfl rfl rfl rfl rfl rfl ?_ | (apply zP rfl rfl rfl rfl; (exact q_H)) | refine zz (by decide +kernel) ?_ | (first | refine zR rfl rfl rfl rfl rfl rfl h1 (fun _ => rfl) ?_ | refine zR rfl rfl rfl rfl rfl rfl h2 (fun _ => rfl) ?_ | refine zbE za rfl rfl rfl rfl rfl rfl rfl rfl rfl rfl rfl rfl ?_ | refine T_cL rfl rfl rfl rfl rfl rfl h3 rfl (fun _ _ _ => zaJ _ _ _ _ _ rfl rfl) ?_))
 repeat (first | refine q_Y ?_ | ((first | apply q_K rfl | apply q_X rfl); (exact q_H)) | refine q_U ?_)
 exact zk rfl ⟨rfl, rfl⟩
set_option maxHeartbeats 8000000 in
theorem zgM (x y : Rte) : ACall Tryz.prog 44 [rteA x, rteA y] [] (Just (intA (ordR x y))) := by
 have h1 := zhj x.p y.p
 have h2 := zif x.f y.f
 have h3 := zaG x.d y.d
 have h4 := zaG x.m y.m
 have h5 := zaG x.t y.t
 have h6 := zdF x.h y.h
 have h7 := zhi x.i y.i
 have h8 := zjY x.x y.x
 refine zf za Tryz.func44 rfl Tryz.ntmps44 (congrArg Array.toList Tryz.results44) (by kernel_rfl) rfl ?_
 have h9 := zk1 [ordP x.p y.p, c2 x.f y.f, c2 x.d y.d, c2 x.m y.m, c2 x.t y.t, c2 x.h y.h, compareBytes x.i y.i, cB x.x y.x] (by simp)
 rw [zeR] at h9
 refine z7 ?_
 refine zab ?_
 repeat (first | refine q_Y ?_ | ((first | apply q_K rfl | apply q_X rfl); (exact q_H)) | refine q_U ?_)
 refine zA [] mixed ?_
 (apply q_P 0 rfl (by kernel_rfl) rfl rfl rfl; (first | exact q_H | fail))
 (apply q_P 1 rfl (by kernel_rfl) rfl rfl rfl; (first | exact q_H | fail))
 (apply q_P 2 rfl (by kernel_rfl) rfl rfl rfl; (first | exact q_H | fail))
 (apply q_P 3 rfl (by kernel_rfl) rfl rfl rfl; (first | exact q_H | fail))
 (apply q_P 5 rfl (by kernel_rfl) rfl rfl rfl; (first | exact q_H | fail))
 (apply q_P 6 rfl (by kernel_rfl) rfl rfl rfl; (first | exact q_H | fail))
 (apply q_P 7 rfl (by kernel_rfl) rfl rfl rfl; (first | exact q_H | fail))
 (apply q_P 8 rfl (by kernel_rfl) rfl rfl rfl; (first | exact q_H | fail))
 (apply q_P 10 rfl (by kernel_rfl) rfl rfl rfl; (first | exact q_H | fail))
 (apply q_P 11 rfl (by kernel_rfl) rfl rfl rfl; (first | exact q_H | fail))
 (apply q_P 12 rfl (by kernel_rfl) rfl rfl rfl; (first | exact q_H | fail))
 (apply q_P 13 rfl (by kernel_rfl) rfl rfl rfl; (first | exact q_H | fail))
 (apply q_P 15 rfl (by kernel_rfl) rfl rfl rfl; (first | exact q_H | fail))
 (apply q_P 16 rfl (by kernel_rfl) rfl rfl rfl; (first | exact q_H | fail))
 (apply q_P 17 rfl (by kernel_rfl) rfl rfl rfl; (first | exact q_H | fail))
 (apply q_P 18 rfl (by kernel_rfl) rfl rfl rfl; (first | exact q_H | fail))
 (apply q_P 20 rfl (by kernel_rfl) rfl rfl rfl; (first | exact q_H | fail))
 (apply q_P 21 rfl (by kernel_rfl) rfl rfl rfl; (first | exact q_H | fail))
 (apply q_P 22 rfl (by kernel_rfl) rfl rfl rfl; (first | exact q_H | fail))
 (apply q_P 23 rfl (by kernel_rfl) rfl rfl rfl; (first | exact q_H | fail))
 (apply q_P 25 rfl (by kernel_rfl) rfl rfl rfl; (first | exact q_H | fail))
 (apply q_P 26 rfl (by kernel_rfl) rfl rfl rfl; (first | exact q_H | fail))
 (apply q_P 27 rfl (by kernel_rfl) rfl rfl rfl; (first | exact q_H | fail))
 (apply q_P 28 rfl (by kernel_rfl) rfl rfl rfl; (first | exact q_H | fail))
 (apply q_P 30 rfl (by kernel_rfl) rfl rfl rfl; (first | exact q_H | fail))
 (apply q_P 31 rfl (by kernel_rfl) rfl rfl rfl; (first | exact q_H | fail))
 (apply q_P 32 rfl (by kernel_rfl) rfl rfl rfl; (first | exact q_H | fail))
 (apply q_P 33 rfl (by kernel_rfl) rfl rfl rfl; (first | exact q_H | fail))
 (apply q_P 35 rfl (by kernel_rfl) rfl rfl rfl; (first | exact q_H | fail))
 (apply q_P 36 rfl (by kernel_rfl) rfl rfl rfl; (first | exact q_H | fail))
 (apply q_P 37 rfl (by kernel_rfl) rfl rfl rfl; (first | exact q_H | fail))
 (apply q_P 38 rfl (by kernel_rfl) rfl rfl rfl; (first | exact q_H | fail))
 refine zd (j := 4) (by kernel_rfl) ?_
 refine zR rfl rfl rfl rfl rfl rfl h1 (fun _ => rfl) ?_
 refine zd (j := 9) (by kernel_rfl) ?_
 refine zR rfl rfl rfl rfl rfl rfl h2 (fun _ => rfl) ?_
 refine zd (j := 14) (by kernel_rfl) ?_
 refine zR rfl rfl rfl rfl rfl rfl h3 (fun _ => rfl) ?_
 refine zd (j := 19) (by kernel_rfl) ?_
 refine zR rfl rfl rfl rfl rfl rfl h4 (fun _ => rfl) ?_
 refine zd (j := 24) (by kernel_rfl) ?_
 refine zR rfl rfl rfl rfl rfl rfl h5 (fun _ => rfl) ?_
 refine zd (j := 29) (by kernel_rfl) ?_
 refine zR rfl rfl rfl rfl rfl rfl h6 (fun _ => rfl) ?_
 refine zd (j := 34) (by kernel_rfl) ?_
 refine zR rfl rfl rfl rfl rfl rfl h7 (fun _ => rfl) ?_
 refine zd (j := 39) (by kernel_rfl) ?_
 refine zR rfl rfl rfl rfl rfl rfl h8 (fun _ => rfl) ?_
 refine zd (j := 40) (by kernel_rfl) ?_
 refine zbE za rfl rfl rfl rfl rfl rfl rfl rfl rfl rfl rfl rfl ?_
 refine zd (j := 41) (by kernel_rfl) ?_
 refine T_cL rfl rfl rfl rfl rfl rfl h9 rfl (fun _ _ _ => zaJ _ _ _ _ _ rfl rfl) ?_
 (apply q_P 42 rfl (by kernel_rfl) rfl rfl rfl; (first | exact q_H | fail))
 refine zz (by kernel_rfl) ?_
 repeat (first | refine q_Y ?_ | ((first | apply q_K rfl | apply q_X rfl); (exact q_H)) | refine q_U ?_)
 exact zk rfl ⟨rfl, rfl⟩
end Go.Proofs.YtmmdkjanmegjdaaGreat.Ab

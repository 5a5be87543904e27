/-
 Texts of a proof, one behind the other (part 47).
-/
import Derived.Test.YtmmdkjanmegjdaaGreatRv2
import Derived.Test.YtmmdkjanmegjdaaGreatRv4
import Derived.Test.YtmmdkjanmegjdaaGreatRv29
import Derived.Test.YtmmdkjanmegjdaaGreatRv34
import Derived.Test.YtmmdkjanmegjdaaGreatRv35
import Derived.Test.YtmmdkjanmegjdaaGreatRv42
import Derived.Test.YtmmdkjanmegjdaaGreatRv43
import Derived.Test.YtmmdkjanmegjdaaGreatRv45
set_option linter.unusedSimpArgs false
set_option linter.unusedVariables false
namespace Go.Proofs.YtmmdkjanmegjdaaGreat
namespace Ab
set_option maxRecDepth 100000
open Go.RowKit Go.Lib
abbrev rdsA (l : List Rds) : AVal := .d (.sl (l.flatMap rdsD) l.length)
def tkD2 (x : Tkn) : List Dat := iD (x.1 : Int) :: sbjD x.2
theorem zgC (x : Tkn) : (tkD2 x).length = 9 := rfl
abbrev tk2B (l : List Tkn) : ABlk := .row 53 9 l.length (l.flatMap tkD2)
abbrev tk2A (l : List Tkn) : AVal := .d (.sl (l.flatMap tkD2) l.length)
theorem zhf (d : Dvc) (ospf : Bool) (R : List Rte) (l : List Rds) : ∀ k, (docL d ospf R l k).length ≤ k
 | 0 => Nat.le_refl _
 | k + 1 => by
  have ih := zhf d ospf R l k
  rw [docL, List.length_append]
  have : (match R[k]? with | some r => if headR R k = true then (firstR d ospf R r.p l 0).toList else [] | none => []).length ≤ 1 := by
   split
   ·split
    ·cases firstR d ospf R _ l 0 <;> simp
    ·simp
   ·simp
  exact Nat.add_le_add ih this
theorem zdf {P : Program} {nt : Nat} {Q : Post} {e : Env} {h : Heap} {z : Bool} {c y : Code} (E1 : Env) (H1 : Heap) (h1 : AWp z P nt c (AThen (fun e' h' => AWk nt e' h' E1 H1) RF) e h) (h2 : AWp z P nt y Q E1 H1) : AWp z P nt c (AThen (AWp z P nt y Q) Q) e h :=
 h1.mono fun ex e h hq => by
  cases ex with
  | normal => exact zt hq h2
  | _ => exact False.elim hq
attribute [local irreducible] AWp AOps AQ AYield AEff ACall AWk AAny AAt AThen AIn APost NoPanic
theorem zoG (b : Bool) (x y : Int) : ACall Tryz.prog 15 [boolA b, .d (iD x), .d (iD y)] [] (Just (.d (iD (if b = true then x else y)))) := by
 cases b with
 | true =>
  refine zf za Tryz.func15 rfl Tryz.ntmps15 (congrArg Array.toList Tryz.results15) (by kernel_rfl) rfl ?_
  repeat (first | refine q_Y ?_ | ((first | apply q_K rfl | apply q_X rfl); (exact q_H)) | refine q_U ?_)
  exact zk rfl ⟨rfl, rfl⟩
 | false =>
  refine zf za Tryz.func15 rfl Tryz.ntmps15 (congrArg Array.toList Tryz.results15) (by kernel_rfl) rfl ?_
  repeat (first | refine q_Y ?_ | ((first | apply q_K rfl | apply q_X rfl); (exact q_H)) | refine q_U ?_)
  exact zk rfl ⟨rfl, rfl⟩
structure OkV (d : Dvc) (l : List Rds) (rs : List Rte) : Prop where
 pn : d.pols.length ≤ 1000000
 ln : l.length ≤ 1000000
 rn : rs.length ≤ 1000000
 ok : ∀ r ∈ rs, okR r
 ap : ∀ s : Sbj, s.p.ok → s.path = [] → s.com = [] → OkA d s
abbrev vE0 (d : Dvc) (l : List Rds) (R : List Rte) (ospf : Bool) (i : Nat) : Env := [(1, rdsA l), (2, rtesA R), (3, boolA ospf), (4, .iptr (dvcD d) 0), (8, .d (.sc (.slice none 0 0))), (9, .d (iD 0)), (10, natA i)]
abbrev vE1 (d : Dvc) (l : List Rds) (R : List Rte) (ospf : Bool) (k : Nat) : Env := [(1, rdsA l), (2, rtesA R), (3, boolA ospf), (4, .iptr (dvcD d) 0), (13, .row 13), (14, natA k)]
abbrev vE2 (d : Dvc) (l : List Rds) (R : List Rte) (ospf : Bool) (k i : Nat) : Env := [(1, rdsA l), (2, rtesA R), (3, boolA ospf), (4, .iptr (dvcD d) 0), (13, .row 13), (14, natA k), (15, .ptr 15 0), (16, natA i)]
def vAt : Option Nat → AVal
 | none => .d (iD (-1))
 | some m => natA m
abbrev vE3 (d : Dvc) (l : List Rds) (R : List Rte) (ospf : Bool) (k i : Nat) (a : AVal) (n : Nat) : Env := [(1, rdsA l), (2, rtesA R), (3, boolA ospf), (4, .iptr (dvcD d) 0), (13, .row 13), (14, natA k), (15, .ptr 15 0), (16, natA i), (17, a), (18, natA n)]
abbrev vE4 (d : Dvc) (l : List Rds) (R : List Rte) (ospf : Bool) (k i m : Nat) : Env := [(1, rdsA l), (2, rtesA R), (3, boolA ospf), (4, .iptr (dvcD d) 0), (13, .row 13), (14, natA k), (15, .ptr 15 0), (16, natA i), (17, natA m), (19, .ptr 19 0)]
abbrev pV (p : Pfx) : ABlk := .var [.d (uD p.a), .d (iD p.b)]
set_option maxHeartbeats 64000000 in
theorem zmL (d : Dvc) (l : List Rds) (rs : List Rte) (ospf : Bool) (hok : OkV d l rs) : ACall Tryz.prog 5 [dvcA d, rdsA l, rtesA rs, boolA ospf] [] (Just (.tup [tk2A (overR d l rs ospf).1, .d (iD (overR d l rs ospf).2)])) := by
 have hl := hok.ln
 have hrl := hok.rn
 refine zf za Tryz.func5 rfl Tryz.ntmps5 (congrArg Array.toList Tryz.results5) (by kernel_rfl) rfl ?_
 refine z7 ?_
 refine zab ?_
 refine q_d ?_
 refine zB (zG (id := 4) (ds := dvcD d) rfl rfl) ?_
 repeat ((fail_if_success refine zb ?_); first | refine q_Y ?_ | ((first | apply q_K rfl | apply q_X rfl); (exact q_G)) | refine q_U ?_)
 try refine zS ?_
 refine zw (fun k : Nat => vE0 d l rs ospf k) (fun _ => []) (fun k => k ≤ l.length ∧ errR d (l.take k) = false) (fun k => l.length - k) 0 ⟨Nat.zero_le _, rfl⟩ (q_S) ?_
 rintro k ⟨hk, he⟩
 try dsimp only
 by_cases hkl : k < l.length
 ·have hw := zn zcB l k 4 hkl (by decide)
  have hw3 := zx zcB l k 3 1 hkl (by decide)
  have hnx : errR d (l.take (k + 1)) = (errR d (l.take k) || decide ((applyP d l[k].pol zeroS).2.2 ≠ 0)) := by
   unfold errR
   rw [List.take_succ_eq_append_getElem hkl, List.any_append]; simp
  have hall : (applyP d l[k].pol zeroS).2.2 ≠ 0 → errR d l = true := fun h => by
   unfold errR
   exact List.any_eq_true.2 ⟨l[k], List.getElem_mem hkl, decide_eq_true h⟩
  rw [he, Bool.false_or] at hnx
  obtain ⟨x, hx⟩ : ∃ x, l[k] = x := ⟨_, rfl⟩
  rw [hx] at hw hw3 hnx hall
  clear hx
  have hna := zgN d x.pol hok.pn
  unfold rnamA at hna
  cases hf : d.pols.find? (fun p => decide (p.nm = x.pol)) with
  | some p =>
   rw [hf] at hna
   try dsimp only at hna
   have h0 : (applyP d x.pol zeroS).2.2 = 0 := by
    unfold applyP
    split
    ·rfl
    ·rw [hf]; dsimp only; split <;> rfl
   rw [decide_eq_false (by rw [h0]; simp)] at hnx
   repeat ((fail_if_success refine zb ?_); first | refine q_Y ?_ | ((first | apply q_K rfl | apply q_X rfl); (exact q_G)) | refine q_U ?_)
   refine zdf ((12, boolA true) :: vE0 d l rs ospf k) [] ?_ ?_
   ·refine zA [11] mixed ?_
    repeat' (first | ((first | apply q_P 0 rfl (by decide +kernel) rfl rfl rfl | apply q_P 1 rfl (by decide +kernel) rfl rfl rfl | apply q_P 2 rfl (by decide +kernel) rfl rfl rfl | apply q_P 3 rfl (by decide +kernel) rfl rfl rfl | apply q_P 4 rfl (by decide +kernel) rfl rfl rfl | apply q_P 5 rfl (by decide +kernel) rfl rfl rfl | apply q_P 7 rfl (by decide +kernel) rfl rfl rfl | apply q_P 8 rfl (by decide +kernel) rfl rfl rfl | apply q_P 9 rfl (by decide +kernel) rfl rfl rfl | apply q_P 12 rfl (by decide +kernel) rfl rfl rfl); (first | exact q_A | exact q_R (w := (by first | exact hw3 | exact hw | rfl)) | exact q_B | (exact q_I k hkl))) | refine zR rfl rfl rfl rfl rfl rfl hna (fun _ => rfl) ?_ | refine zW za rfl rfl rfl rfl rfl rfl rfl ?_ | refine zJ za rfl rfl rfl rfl rfl rfl rfl rfl rfl rfl rfl rfl rfl ?_ | refine zd (j := 6) (by decide +kernel) ?_ | refine zd (j := 10) (by decide +kernel) ?_ | refine zd (j := 11) (by decide +kernel) ?_ | refine zcf (j := 6) (k := 10) (by decide +kernel) ?_ ?_ | refine zz (by decide +kernel) ?_ | (refine q_j ?_; exact q_S))
   by_cases hn : x.pol = []
   ·have hn0 : (!decide (x.pol = [])) = false := by simp [hn]
    repeat ((fail_if_success refine zb ?_); first | refine q_Y ?_ | ((first | apply q_K rfl | apply q_X rfl); (first | exact q_F | (first | exact q_A | exact q_R (w := (by first | exact hw3 | exact hw | rfl)) | exact q_B | (first | exact R_sF rfl rfl rfl rfl hn0 | exact q_I k hkl)))) | refine q_U ?_)
    exact ⟨k + 1, ⟨hkl, hnx⟩, by omega, q_S⟩
   ·have hn0 : (!decide (x.pol = [])) = true := by simp [hn]
    repeat ((fail_if_success refine zb ?_); first | refine q_Y ?_ | ((first | apply q_K rfl | apply q_X rfl); (first | exact q_F | (first | exact q_A | exact q_R (w := (by first | exact hw3 | exact hw | rfl)) | exact q_B | (first | exact R_sT rfl rfl rfl rfl hn0 | exact q_I k hkl)))) | refine q_U ?_)
    exact ⟨k + 1, ⟨hkl, hnx⟩, by omega, q_S⟩
  | none =>
   rw [hf] at hna
   try dsimp only at hna
   repeat ((fail_if_success refine zb ?_); first | refine q_Y ?_ | ((first | apply q_K rfl | apply q_X rfl); (exact q_G)) | refine q_U ?_)
   refine zdf ((12, boolA false) :: vE0 d l rs ospf k) [] ?_ ?_
   ·refine zA [11] mixed ?_
    repeat' (first | ((first | apply q_P 0 rfl (by decide +kernel) rfl rfl rfl | apply q_P 1 rfl (by decide +kernel) rfl rfl rfl | apply q_P 2 rfl (by decide +kernel) rfl rfl rfl | apply q_P 3 rfl (by decide +kernel) rfl rfl rfl | apply q_P 4 rfl (by decide +kernel) rfl rfl rfl | apply q_P 5 rfl (by decide +kernel) rfl rfl rfl | apply q_P 7 rfl (by decide +kernel) rfl rfl rfl | apply q_P 8 rfl (by decide +kernel) rfl rfl rfl | apply q_P 9 rfl (by decide +kernel) rfl rfl rfl | apply q_P 12 rfl (by decide +kernel) rfl rfl rfl); (first | exact q_A | exact q_R (w := (by first | exact hw3 | exact hw | rfl)) | exact q_B | (exact q_I k hkl))) | refine zR rfl rfl rfl rfl rfl rfl hna (fun _ => rfl) ?_ | refine zW za rfl rfl rfl rfl rfl rfl rfl ?_ | refine zJ za rfl rfl rfl rfl rfl rfl rfl rfl rfl rfl rfl rfl rfl ?_ | refine zd (j := 6) (by decide +kernel) ?_ | refine zd (j := 10) (by decide +kernel) ?_ | refine zd (j := 11) (by decide +kernel) ?_ | refine zcf (j := 6) (k := 10) (by decide +kernel) ?_ ?_ | refine zz (by decide +kernel) ?_ | (refine q_j ?_; exact q_S))
   by_cases hn : x.pol = []
   ·have hn0 : (!decide (x.pol = [])) = false := by simp [hn]
    have h0 : (applyP d x.pol zeroS).2.2 = 0 := by unfold applyP; rw [if_pos hn]
    rw [decide_eq_false (by rw [h0]; simp)] at hnx
    repeat ((fail_if_success refine zb ?_); first | refine q_Y ?_ | ((first | apply q_K rfl | apply q_X rfl); (first | exact q_F | (first | exact q_A | exact q_R (w := (by first | exact hw3 | exact hw | rfl)) | exact q_B | (first | exact R_sF rfl rfl rfl rfl hn0 | exact q_I k hkl)))) | refine q_U ?_)
    exact ⟨k + 1, ⟨hkl, hnx⟩, by omega, q_S⟩
   ·have hn0 : (!decide (x.pol = [])) = true := by simp [hn]
    have h0 : (applyP d x.pol zeroS).2.2 ≠ 0 := by
     unfold applyP
     rw [if_neg hn, hf]
     show (120 : Int) ≠ 0
     decide
    have hov : overR d l rs ospf = ([], 120) := by unfold overR; rw [if_pos (hall h0)]
    rw [hov]
    repeat ((fail_if_success refine zb ?_); first | refine q_Y ?_ | ((first | apply q_K rfl | apply q_X rfl); (first | exact q_F | (first | exact q_A | exact q_R (w := (by first | exact hw3 | exact hw | rfl)) | exact q_B | (first | exact R_sT rfl rfl rfl rfl hn0 | exact q_I k hkl)))) | refine q_U ?_)
    exact zo (zfd (t := 8) rfl zdj) rfl (h2 := []) trivial ⟨rfl, rfl⟩
 obtain rfl : k = l.length := by omega
 rw [List.take_length] at he
 have hRr : Rising ordR (sortU ordR rs) := zas zbd zf8 rs
 have hov : overR d l rs ospf = (docL d ospf (sortU ordR rs) l (sortU ordR rs).length, 0) := by unfold overR; rw [if_neg (by rw [he]; simp), zlG d ospf _ l hRr]
 rw [hov]
 have hso := zjp rs hrl
 have hRm : ∀ r ∈ sortU ordR rs, okR r := fun r hr => hok.ok r ((zay _ _).1 hr)
 have hRl : (sortU ordR rs).length ≤ 1000000 := Nat.le_trans (zbi rs) hrl
 obtain ⟨R, hR⟩ : ∃ R, sortU ordR rs = R := ⟨_, rfl⟩
 rw [hR] at hso hRm hRl hRr ⊢
 clear hov hR
 repeat ((fail_if_success refine zb ?_); first | refine q_Y ?_ | ((first | apply q_K rfl | apply q_X rfl); (exact q_G)) | refine q_U ?_ | (refine zbh rfl rfl rfl rfl rfl hso rfl ?_))
 refine zt (zF (id := 3) rfl) ?_
 refine zt (q_S (e1 := [(1, rdsA l), (2, rtesA R), (3, boolA ospf), (4, .iptr (dvcD d) 0), (13, .d (.sc (.slice none 0 0))), (14, natA 0)]) (h1 := [])) ?_
 refine zt (zbn 53 9 (t := 13) (id := 13) rfl rfl) ?_
 try refine zS ?_
 refine zw (fun k : Nat => vE1 d l R ospf k) (fun k => [(13, tk2B (docL d ospf R l k))]) (fun k => k ≤ R.length) (fun k => R.length - k) 0 (Nat.zero_le _) (q_S) ?_
 clear he hk
 intro k hk
 try dsimp only
 have hdl := zhf d ospf R l k
 by_cases hkR : k < R.length
 rotate_left
 ·obtain rfl : k = R.length := by omega
  repeat ((fail_if_success refine zb ?_); first | refine q_Y ?_ | ((first | apply q_K rfl | apply q_X rfl); (exact q_G)) | refine q_U ?_)
  exact zo ((q_S (e1 := [(8, .row 13), (9, .d (iD 0))]) (h1 := [(13, tk2B (docL d ospf R l R.length))])).trans (zF (id := 13) rfl)) rfl (h2 := []) trivial ⟨rfl, rfl⟩
 have hwk : win (R.flatMap rteD) (k * 9 + 0) 2 = [uD (R[k]).p.a, iD (R[k]).p.b] := zx zr R k 0 2 hkR (by decide)
 have hstep : docL d ospf R l (k + 1) = docL d ospf R l k ++ (if headR R k = true then (firstR d ospf R R[k].p l 0).toList else []) := by rw [docL, List.getElem?_eq_getElem hkR]
 cases hhd : headR R k with
 | false =>
  rw [hhd, if_neg (by decide), List.append_nil] at hstep
  have hk0 : 0 < k := by
   cases k with
   | zero => cases hhd
   | succ n => omega
  have hk1 : k - 1 < R.length := by omega
  have hwj : win (R.flatMap rteD) ((k - 1) * 9 + 0) 2 = [uD (R[k - 1]).p.a, iD (R[k - 1]).p.b] := zx zr R (k - 1) 0 2 hk1 (by decide)
  have heq : (R[k].p == R[k - 1].p) = true := by
   obtain ⟨m, rfl⟩ : ∃ m, k = m + 1 := ⟨k - 1, by omega⟩
   unfold headR at hhd
   rw [List.getElem?_eq_getElem hkR, List.getElem?_eq_getElem hk1] at hhd
   simpa using hhd
  repeat ((fail_if_success refine zb ?_); first | refine q_Y ?_ | ((first | apply q_K rfl | apply q_X rfl); (first | exact q_F | (first | exact q_A | exact q_R (w := (by first | exact hwk | exact hwj)) | exact q_B | (first | exact q_I k hkR | exact zbF (j := k - 1) za rfl rfl rfl rfl rfl rfl hk1 | exact Y_eq za zap rfl rfl rfl rfl rfl rfl rfl rfl rfl (by kernel_rfl) ((pfxEq R[k].p R[k - 1].p).trans (congrArg some heq)) rfl)))) | refine q_U ?_)
  exact ⟨k + 1, hkR, by omega, by rw [hstep]; exact q_S⟩
 | true =>
  rw [hhd, if_pos rfl] at hstep
  obtain ⟨p, hp⟩ : ∃ p, R[k].p = p := ⟨_, rfl⟩
  obtain ⟨D, hD⟩ : ∃ D, docL d ospf R l k = D := ⟨_, rfl⟩
  have hpok : p.ok := by rw [← hp]; exact (hRm _ (List.getElem_mem hkR)).2
  rw [hp] at hwk hstep
  rw [hD] at hstep hdl ⊢
  refine z7 ?_
  refine zdf (vE1 d l R ospf k) [(13, tk2B D)] ?_ ?_
  ·
   repeat ((fail_if_success refine zb ?_); first | refine q_Y ?_ | ((first | apply q_K rfl | apply q_X rfl); (exact q_G)) | refine q_U ?_)
   exact q_S
  refine z7 ?_
  refine zS ?_
  refine z7 ?_
  refine zdf (vE1 d l R ospf k) [(13, tk2B D)] ?_ ?_
  ·by_cases hk0 : k = 0
   ·subst hk0
    repeat ((fail_if_success refine zb ?_); first | refine q_Y ?_ | ((first | apply q_K rfl | apply q_X rfl); (exact q_G)) | refine q_U ?_)
    exact q_S
   ·have hk1 : k - 1 < R.length := by omega
    have hwj : win (R.flatMap rteD) ((k - 1) * 9 + 0) 2 = [uD (R[k - 1]).p.a, iD (R[k - 1]).p.b] := zx zr R (k - 1) 0 2 hk1 (by decide)
    have heq : (p == R[k - 1].p) = false := by
     obtain ⟨m, rfl⟩ : ∃ m, k = m + 1 := ⟨k - 1, by omega⟩
     unfold headR at hhd
     rw [List.getElem?_eq_getElem hkR, List.getElem?_eq_getElem hk1] at hhd
     rw [← hp]
     simpa using hhd
    repeat ((fail_if_success refine zb ?_); first | refine q_Y ?_ | ((first | apply q_K rfl | apply q_X rfl); (first | exact q_F | (first | exact q_A | exact q_R (w := (by first | exact hwk | exact hwj)) | exact q_B | (first | exact q_I k hkR | exact zbF (j := k - 1) za rfl rfl rfl rfl rfl rfl hk1 | exact Y_eq za zap rfl rfl rfl rfl rfl rfl rfl rfl rfl (by kernel_rfl) ((pfxEq p R[k - 1].p).trans (congrArg some heq)) rfl)))) | refine q_U ?_)
    exact q_S
  repeat ((fail_if_success refine zb ?_); first | refine q_Y ?_ | ((first | apply q_K rfl | apply q_X rfl); (first | exact q_F | (first | exact q_A | exact q_R (w := hwk) | exact q_B | (exact q_I k hkR)))) | refine q_U ?_)
  try refine zS ?_
  refine zw (fun i : Nat => vE2 d l R ospf k i) (fun _ => [(15, pV p), (13, tk2B D)]) (fun i => i ≤ l.length ∧ firstR d ospf R p (l.drop i) i = firstR d ospf R p l 0) (fun i => l.length - i) 0 ⟨Nat.zero_le _, rfl⟩ (q_S) ?_
  rintro i ⟨hi, hF⟩
  try dsimp only
  by_cases hil : i < l.length
  rotate_left
  ·obtain rfl : i = l.length := by omega
   rw [List.drop_length, firstR] at hF
   rw [← hF, Option.toList_none, List.append_nil] at hstep
   repeat ((fail_if_success refine zb ?_); first | refine q_Y ?_ | ((first | apply q_K rfl | apply q_X rfl); (exact q_G)) | refine q_U ?_)
   exact ⟨k + 1, hkR, by omega, by rw [hstep]; exact q_S⟩
  rw [List.drop_eq_getElem_cons hil, firstR] at hF
  have hwi := fun o (h : o + 1 ≤ 4) => zx zcB l i o 1 hil h
  obtain ⟨x, hx⟩ : ∃ x, l[i] = x := ⟨_, rfl⟩
  rw [hx] at hF hwi
  clear hx
  have hwi0 := hwi 0 (by decide)
  have hwi1 := hwi 1 (by decide)
  have hwi3 := hwi 3 (by decide)
  repeat ((fail_if_success refine zb ?_); first | refine q_Y ?_ | ((first | apply q_K rfl | apply q_X rfl); (exact q_G)) | refine q_U ?_)
  try refine zS ?_
  refine zw (fun y : Nat × Option Nat => vE3 d l R ospf k i (vAt y.2) y.1) (fun _ => [(15, pV p), (13, tk2B D)]) (fun y => y.1 ≤ R.length ∧ match y.2 with | none => (R.drop y.1).find? (fun r => decide (r.p = p) && comesB r.f x.from_) = atR R p x.from_ | some m => ∃ h : m < R.length, atR R p x.from_ = some R[m]) (fun y => R.length - y.1) (0, none) ⟨Nat.zero_le _, rfl⟩ (q_S) ?_
  rintro ⟨n, a⟩ ⟨hn, hA⟩
  try dsimp only at hn hA ⊢
  cases a with
  | none =>
   try dsimp only at hA
   by_cases hnR : n < R.length
   ·rw [List.drop_eq_getElem_cons hnR, List.find?_cons] at hA
    have hwn : win (R.flatMap rteD) (n * 9 + 0) 2 = [uD (R[n]).p.a, iD (R[n]).p.b] := zx zr R n 0 2 hnR (by decide)
    have hw9 := zn zr R n 9 hnR (by decide)
    have hcom := zkS R[n] x.from_ (hRm _ (List.getElem_mem hnR)).1
    obtain ⟨cb, hcb⟩ : ∃ c, comesB R[n].f x.from_ = c := ⟨_, rfl⟩
    rw [hcb] at hcom hA
    cases heq : R[n].p == p with
    | false =>
     have hne : decide (R[n].p = p) = false := by simpa using heq
     rw [hne] at hA
     try dsimp only [Bool.false_and] at hA
     repeat ((fail_if_success refine zb ?_); first | refine q_Y ?_ | ((first | apply q_K rfl | apply q_X rfl); (first | exact q_F | (first | exact q_A | exact q_R (w := (by first | exact hwn | rfl)) | exact q_B | (first | exact q_I n hnR | exact Y_eq za zap rfl rfl rfl rfl rfl rfl rfl rfl rfl (by kernel_rfl) ((pfxEq R[n].p p).trans (congrArg some heq)) rfl)))) | refine q_U ?_)
     exact ⟨(n + 1, none), ⟨hnR, hA⟩, by (try dsimp only); omega, q_S⟩
    | true =>
     have hne : decide (R[n].p = p) = true := by simpa using heq
     rw [hne] at hA
     cases cb with
     | false =>
      try dsimp only [Bool.true_and] at hA
      repeat ((fail_if_success refine zb ?_); first | refine q_Y ?_ | ((first | apply q_K rfl | apply q_X rfl); (first | exact q_F | (first | exact q_A | exact q_R (w := (by first | exact hwn | exact hw9 | exact hwi0 | rfl)) | exact q_B | (first | exact q_I n hnR | exact q_I i hil | exact Y_eq za zap rfl rfl rfl rfl rfl rfl rfl rfl rfl (by kernel_rfl) ((pfxEq R[n].p p).trans (congrArg some heq)) rfl)))) | refine q_U ?_ | refine q_Q hcom ?_)
      exact ⟨(n + 1, none), ⟨hnR, hA⟩, by (try dsimp only); omega, q_S⟩
     | true =>
      try dsimp only [Bool.true_and] at hA
      repeat ((fail_if_success refine zb ?_); first | refine q_Y ?_ | ((first | apply q_K rfl | apply q_X rfl); (first | exact q_F | (first | exact q_A | exact q_R (w := (by first | exact hwn | exact hw9 | exact hwi0 | rfl)) | exact q_B | (first | exact q_I n hnR | exact q_I i hil | exact Y_eq za zap rfl rfl rfl rfl rfl rfl rfl rfl rfl (by kernel_rfl) ((pfxEq R[n].p p).trans (congrArg some heq)) rfl)))) | refine q_U ?_ | refine q_Q hcom ?_)
      exact ⟨(n + 1, some n), ⟨hnR, hnR, hA.symm⟩, by (try dsimp only); omega, q_S⟩
   ·rw [List.drop_of_length_le (by omega), List.find?_nil] at hA
    rw [← hA] at hF
    try dsimp only at hF
    repeat ((fail_if_success refine zb ?_); first | refine q_Y ?_ | ((first | apply q_K rfl | apply q_X rfl); (exact q_G)) | refine q_U ?_)
    exact ⟨i + 1, ⟨hil, hF⟩, by omega, q_S⟩
  | some m =>
   obtain ⟨hm, hA⟩ := hA
   have hfs := List.find?_some hA
   rw [Bool.and_eq_true, decide_eq_true_eq] at hfs
   rw [hA] at hF
   try dsimp only at hF
   have hwm := fun o j (h : o + j ≤ 9) => zx zr R m o j hm h
   obtain ⟨r, hr⟩ : ∃ r, R[m] = r := ⟨_, rfl⟩
   rw [hr] at hF hwm hfs
   have hwm3 := hwm 3 1 (by decide)
   have hwm4 := hwm 4 1 (by decide)
   have hwm5 := hwm 5 1 (by decide)
   obtain ⟨mm, hmm⟩ : ∃ m, (if x.met ≠ -1 then x.met else if ospf then 20 else r.m) = m := ⟨_, rfl⟩
   have hs : subjR x ospf r = ⟨p, mm, r.t, 100, [], [], 0⟩ := by unfold subjR; rw [hmm, hfs.1]
   have hap := hok.ap (subjR x ospf r) (by rw [hs]; exact hpok) rfl rfl
   rw [hs] at hap hF
   have ca := zkV d x.pol ⟨p, mm, r.t, 100, [], [], 0⟩ hap
   obtain ⟨⟨A, okk, er⟩, hAp⟩ : ∃ t, applyP d x.pol ⟨p, mm, r.t, 100, [], [], 0⟩ = t := ⟨_, rfl⟩
   rw [hAp] at ca hF
   try dsimp only at ca hF
   have hpk := zoG ospf 20 r.m
   by_cases hnR : n < R.length
   all_goals
    repeat ((fail_if_success refine zb ?_); first | refine q_Y ?_ | ((first | apply q_K rfl | apply q_X rfl); (exact q_G)) | refine q_U ?_)
    refine zdf (vE4 d l R ospf k i m) [(19, .var [.d (uD p.a), .d (iD p.b), .d (iD x.met), .d (iD r.t), .d (iD 100), .d (.sc (.slice none 0 0)), .d (.sc (.slice none 0 0)), .d (uD 0)]), (15, pV p), (13, tk2B D)] ?_ ?_
    ·refine zA [19] mixed ?_
     repeat' (first | ((first | apply q_P 0 rfl (by decide +kernel) rfl rfl rfl | apply q_P 1 rfl (by decide +kernel) rfl rfl rfl | apply q_P 2 rfl (by decide +kernel) rfl rfl rfl | apply q_P 3 rfl (by decide +kernel) rfl rfl rfl | apply q_P 4 rfl (by decide +kernel) rfl rfl rfl | apply q_P 5 rfl (by decide +kernel) rfl rfl rfl | apply q_P 6 rfl (by decide +kernel) rfl rfl rfl | apply q_P 7 rfl (by decide +kernel) rfl rfl rfl | apply q_P 8 rfl (by decide +kernel) rfl rfl rfl | apply q_P 9 rfl (by decide +kernel) rfl rfl rfl | apply q_P 10 rfl (by decide +kernel) rfl rfl rfl | apply q_P 11 rfl (by decide +kernel) rfl rfl rfl); (first | exact q_A | exact q_R (w := (by first | exact hwm5 | exact hwm4 | exact hwm3 | exact hwi1 | rfl)) | exact q_B | (first | exact q_I i hil | exact q_I m hm))) | refine zW za rfl rfl rfl rfl rfl rfl rfl ?_ | refine zJ za rfl rfl rfl rfl rfl rfl rfl rfl rfl rfl rfl rfl rfl ?_ | refine zd (j := 12) (by decide +kernel) ?_ | refine zd (j := 13) (by decide +kernel) ?_ | refine zz (by decide +kernel) ?_ | (refine q_j ?_; exact q_S))
    refine z7 ?_
    refine zdf (vE4 d l R ospf k i m) [(19, .var ((sbjD ⟨p, mm, r.t, 100, [], [], 0⟩).map .d)), (15, pV p), (13, tk2B D)] ?_ ?_
    ·by_cases hm1 : x.met = -1
     ·rw [if_neg (fun h => h hm1)] at hmm
      rw [hmm] at hpk
      repeat ((fail_if_success refine zb ?_); first | refine q_Y ?_ | ((first | apply q_K rfl | apply q_X rfl); (first | exact q_F | (first | exact q_A | exact q_R (w := (by first | exact hwm4 | rfl)) | exact q_B | (exact q_I m hm)))) | refine q_U ?_ | refine q_O hpk ?_)
      exact (zdI (b := 19) rfl).trans (q_S)
     ·rw [if_pos hm1] at hmm
      subst hmm
      repeat ((fail_if_success refine zb ?_); first | refine q_Y ?_ | ((first | apply q_K rfl | apply q_X rfl); (exact q_G)) | refine q_U ?_)
      exact (zdI (b := 19) rfl).trans (q_S)
    refine zt (zG (id := 19) (ds := sbjD ⟨p, mm, r.t, 100, [], [], 0⟩) rfl rfl) ?_
    repeat ((fail_if_success refine zb ?_); first | refine q_Y ?_ | ((first | apply q_K rfl | apply q_X rfl); (exact q_G)) | refine q_U ?_)
    refine zdf ((20, .ptr 20 0) :: (21, boolA okk) :: vE2 d l R ospf k i) [(20, .var ((sbjD A).map .d)), (15, pV p), (13, tk2B D)] ?_ ?_
    ·refine zA [20] mixed ?_
     repeat' (first | ((first | apply q_P 0 rfl (by decide +kernel) rfl rfl rfl | apply q_P 1 rfl (by decide +kernel) rfl rfl rfl | apply q_P 2 rfl (by decide +kernel) rfl rfl rfl | apply q_P 3 rfl (by decide +kernel) rfl rfl rfl | apply q_P 4 rfl (by decide +kernel) rfl rfl rfl | apply q_P 5 rfl (by decide +kernel) rfl rfl rfl | apply q_P 6 rfl (by decide +kernel) rfl rfl rfl | apply q_P 8 rfl (by decide +kernel) rfl rfl rfl | apply q_P 9 rfl (by decide +kernel) rfl rfl rfl | apply q_P 10 rfl (by decide +kernel) rfl rfl rfl | apply q_P 11 rfl (by decide +kernel) rfl rfl rfl | apply q_P 14 rfl (by decide +kernel) rfl rfl rfl | apply q_P 15 rfl (by decide +kernel) rfl rfl rfl); (first | exact q_A | exact q_R (w := (by first | exact hwi3 | rfl)) | exact q_B | (exact q_I i hil))) | refine zR rfl rfl rfl rfl rfl rfl ca (fun _ => rfl) ?_ | refine zW za rfl rfl rfl rfl rfl rfl rfl ?_ | refine zJ za rfl rfl rfl rfl rfl rfl rfl rfl rfl rfl rfl rfl rfl ?_ | refine zd (j := 7) (by decide +kernel) ?_ | refine zd (j := 12) (by decide +kernel) ?_ | refine zd (j := 13) (by decide +kernel) ?_ | refine zcf (j := 7) (k := 12) (by decide +kernel) ?_ ?_ | refine zz (by decide +kernel) ?_ | (refine q_j ?_; exact q_S))
    cases okk with
    | true =>
     rw [if_pos rfl] at hF
     repeat ((fail_if_success refine zb ?_); first | refine q_Y ?_ | ((first | apply q_K rfl | apply q_X rfl); (exact q_G)) | refine q_U ?_ | (first | refine zaE za rfl rfl rfl rfl rfl rfl rfl rfl rfl rfl rfl (by first | exact Src.row rfl | exact Src.dat _ _ | exact Src.nil) rfl (by omega) ?_ | refine zaF za rfl rfl rfl rfl rfl rfl rfl rfl rfl rfl (by first | exact Src.row rfl | exact Src.dat _ _ | exact Src.nil) rfl (by omega) ?_))
     exact ⟨k + 1, hkR, by omega, by rw [hstep, ← hF]; exact zm ⟨rfl, rfl, rfl, rfl, rfl, rfl, trivial⟩ ⟨zah (by simp) (by rw [Option.toList_some, List.flatMap_append]; rfl) rfl, trivial⟩⟩
    | false =>
     rw [if_neg (by decide)] at hF
     repeat ((fail_if_success refine zb ?_); first | refine q_Y ?_ | ((first | apply q_K rfl | apply q_X rfl); (exact q_G)) | refine q_U ?_)
     exact ⟨i + 1, ⟨hil, hF⟩, by omega, q_S⟩
end Ab
end Go.Proofs.YtmmdkjanmegjdaaGreat

/-
 Texts of a proof, one behind the other (part 47).
-/
import Derived.Test.YtoahnbmedcjpeaaGreatDoorMf3
import Derived.Test.YtoahnbmedcjpeaaGreatDoorMf40
import Derived.Test.YtoahnbmedcjpeaaGreatDoorMf43
import Derived.Test.YtoahnbmedcjpeaaGreatDoorMf44
import Derived.Test.YtoahnbmedcjpeaaGreatDoorMf45
set_option linter.unusedSimpArgs false
set_option linter.unusedVariables false
namespace Go.Proofs.YtoahnbmedcjpeaaGreatDoor.Ab
set_option maxRecDepth 100000
open Go.RowKit Go.Lib
attribute [local irreducible] AWp AOps AQ AYield AEff ACall AWk AAny AAt AThen AIn APost NoPanic
theorem ze7 (d : Dvc) (hd : d.ok) : ACall Tryz.prog 8 [dvcA d] [] (Just (.tup [strA (checkL d).1, intA (checkL d).2])) := zcj d (zej hd)
theorem qqbu0 {T : List Nat} {e : Env} {h : Heap} {o : Oper} {c : AVal} (hy : AYield Tryz.prog T e h o c := by first | exact q_25 | exact q_26) : AYield Tryz.prog T e h o c := hy
set_option maxHeartbeats 32000000 in
theorem zeO (a b c : Dvc) (ha : OkF a) (hb : OkF b) (hc : OkF c) : ACall Tryz.prog 7 [dvcA a, dvcA b, dvcA c] [] (Just (boolA true)) := by
 obtain ⟨l1, g1⟩ := zc3 a ha.ok
 obtain ⟨l2, g2⟩ := zc3 b hb.ok
 obtain ⟨l3, g3⟩ := zc3 c hc.ok
 have hw := zg0
 have hF := zgF ha
 have f1 := zdG a ha
 have f2 := zdG (formL a) hF
 rw [zdI] at f2
 have fe := zhZ (formL a) hF.ok
 obtain ⟨s1, k1, q1⟩ := zcZ a (formL a) ha hF
 obtain rfl : s1 = true := k1.2 (zdI a).symm
 obtain ⟨s2, k2, q2⟩ := zcZ a a ha ha
 obtain rfl : s2 = true := k2.2 rfl
 obtain ⟨s3, k3, q3⟩ := zcZ a b ha hb
 obtain ⟨s4, k4, q4⟩ := zcZ b a hb ha
 obtain rfl : s4 = s3 := by rw [Bool.eq_iff_iff, k3, k4]; exact eq_comm
 obtain ⟨s5, k5, q5⟩ := zcZ b c hb hc
 obtain ⟨s6, k6, q6⟩ := zcZ a c ha hc
 have htr : s4 = true → s5 = true → s6 = true := fun h1 h2 => k6.2 ((k3.1 h1).trans (k5.1 h2))
 have c1 := ze7 a ha.ok
 have c2 := ze7 (formL a) hF.ok
 have hck := zfH a
 obtain ⟨⟨m1, e1⟩, h1⟩ : ∃ x, checkL a = x := ⟨_, rfl⟩
 obtain ⟨⟨m2, e2⟩, h2⟩ : ∃ x, checkL (formL a) = x := ⟨_, rfl⟩
 rw [h1] at c1 hck
 rw [h2] at c2 hck
 dsimp only at c1 c2 hck
 have hres : ((e1 == 0) == (e2 == 0)) = true := by
  by_cases h : e1 = 0
  ·have := hck.2 h; subst h this; rfl
  ·have : ¬ e2 = 0 := fun h3 => h (hck.1 h3)
   have x1 : (e1 == 0) = false := by simpa using h
   have x2 : (e2 == 0) = false := by simpa using this
   rw [x1, x2]; rfl
 clear k1 k2 k3 k4 k5 k6 h1 h2 hck ha hb hc hF
 obtain ⟨f, hf⟩ : ∃ f, formL a = f := ⟨_, rfl⟩
 rw [hf] at f1 f2 fe q1 c2
 clear hf
 refine zb za Tryz.func7 rfl Tryz.ntmps7 (congrArg Array.toList Tryz.results7) (by kernel_rfl) rfl ?_
 refine zr ?_
 (first | refine zg ?_ | refine zf rfl mixed (by kernel_rfl) ?_)
 repeat' (first | ((first | apply q_K rfl | apply q_X rfl); (first | exact q_H | fail)) | refine q_d ?_ | refine q_a ?_ | refine q_b ?_ | refine q_e ?_ | refine q_f ?_ | refine q_g ?_ | ((fail_if_success (refine O_wt rfl ?_)); refine O_gs rfl rfl (fun _ => ?_) (fun _ => ?_)) | ((fail_if_success (refine Q_wt rfl ?_)); refine Q_gs rfl rfl (fun _ => ?_) (fun _ => ?_)) | refine zo ?_ | refine zq ?_ | refine q_j ?_ | fail)
 refine zl (zy (id := 3) (ds := dvcD a) rfl rfl) ?_
 refine zl (zy (id := 4) (ds := dvcD b) rfl rfl) ?_
 refine zl (zy (id := 5) (ds := dvcD c) rfl rfl) ?_
 refine zr ?_
 refine zL [(3, .iptr (dvcD a) 0), (4, .iptr (dvcD b) 0), (5, .iptr (dvcD c) 0), (25, boolA ((l1 || l2) || l3))] [] ?_ ?_
 ·
  (first | refine zg ?_ | refine zf rfl mixed (by kernel_rfl) ?_)
  repeat' (first | ((first | apply q_K rfl | apply q_X rfl); (first | exact q_H | fail)) | refine q_d ?_ | refine q_a ?_ | refine q_b ?_ | refine q_e ?_ | refine q_f ?_ | refine q_g ?_ | ((fail_if_success (refine O_wt rfl ?_)); refine O_gs rfl rfl (fun _ => ?_) (fun _ => ?_)) | ((fail_if_success (refine Q_wt rfl ?_)); refine Q_gs rfl rfl (fun _ => ?_) (fun _ => ?_)) | refine zo ?_ | refine zq ?_ | refine q_j ?_ | (first | refine q_O g1 ?_ | refine q_O g2 ?_ | refine q_O g3 ?_ | refine q_O hw ?_))
  all_goals exact zF ⟨rfl, rfl, rfl, congrArg (fun b => some (boolA b)) (by simp only [*, Bool.or_true, Bool.or_false, Bool.true_or, Bool.false_or, Bool.not_true]), trivial⟩ trivial
 generalize ((l1 || l2) || l3) = q
 cases q with
 | true =>
  repeat (first | refine q_Y ?_ | ((first | apply q_K rfl | apply q_X rfl); (exact q_H)) | refine q_U ?_ | refine q_O hw ?_)
  exact zn rfl ⟨rfl, rfl⟩
 | false =>
 refine A_cf rfl ?_
 refine zP ?_
 refine q_j ?_
 refine zr ?_
 (first | refine zg ?_ | refine zf rfl mixed (by kernel_rfl) ?_)
 repeat' (first | ((first | apply q_K rfl | apply q_X rfl); (first | exact q_H | fail)) | refine q_d ?_ | refine q_a ?_ | refine q_b ?_ | refine q_e ?_ | refine q_f ?_ | refine q_g ?_ | ((fail_if_success (refine O_wt rfl ?_)); refine O_gs rfl rfl (fun _ => ?_) (fun _ => ?_)) | ((fail_if_success (refine Q_wt rfl ?_)); refine Q_gs rfl rfl (fun _ => ?_) (fun _ => ?_)) | refine zo ?_ | refine zq ?_ | refine q_j ?_ | refine q_O f1 ?_)
 refine zl (zy (id := 7) (ds := dvcD f) rfl rfl) ?_
 refine zr ?_
 refine zL [(3, .iptr (dvcD a) 0), (4, .iptr (dvcD b) 0), (5, .iptr (dvcD c) 0), (7, .iptr (dvcD f) 0), (70, boolA false)] [] ?_ ?_
 ·refine zag [] mixed ?_
  cases s4 with
  | false =>
   apply zp (i := 0) rfl (by kernel_rfl) (by kernel_rfl) (by kernel_rfl) (by repeat (first | exact zj | exact zm | apply zi | apply zu)) rfl rfl rfl
   exact q_5
   apply zp (i := 2) rfl (by kernel_rfl) (by kernel_rfl) (by kernel_rfl) (by repeat (first | exact zj | exact zm | apply zi | apply zu)) rfl rfl rfl
   exact q_5
   refine zk (j := 1) (by kernel_rfl) ?_
   refine zX rfl rfl rfl rfl rfl rfl f2 (fun _ => rfl) ?_
   refine zk (j := 3) (by kernel_rfl) ?_
   refine zX rfl rfl rfl rfl rfl rfl fe (fun _ => rfl) ?_
   apply zp (i := 4) rfl (by kernel_rfl) (by kernel_rfl) (by kernel_rfl) (by repeat (first | exact zj | exact zm | apply zi | apply zu)) rfl rfl rfl
   exact q_20
   apply zp (i := 5) rfl (by kernel_rfl) (by kernel_rfl) (by kernel_rfl) (by repeat (first | exact zj | exact zm | apply zi | apply zu)) rfl rfl rfl
   exact q_1
   apply zp (i := 6) rfl (by kernel_rfl) (by kernel_rfl) (by kernel_rfl) (by repeat (first | exact zj | exact zm | apply zi | apply zu)) rfl rfl rfl
   exact q_5
   apply zp (i := 7) rfl (by kernel_rfl) (by kernel_rfl) (by kernel_rfl) (by repeat (first | exact zj | exact zm | apply zi | apply zu)) rfl rfl rfl
   exact q_5
   refine zk (j := 8) (by kernel_rfl) ?_
   refine zX rfl rfl rfl rfl rfl rfl q1 (fun _ => rfl) ?_
   apply zp (i := 9) rfl (by kernel_rfl) (by kernel_rfl) (by kernel_rfl) (by repeat (first | exact zj | exact zm | apply zi | apply zu)) rfl rfl rfl
   exact q_20
   apply zp (i := 10) rfl (by kernel_rfl) (by kernel_rfl) (by kernel_rfl) (by repeat (first | exact zj | exact zm | apply zi | apply zu)) rfl rfl rfl
   (exact qqbu0)
   apply zp (i := 11) rfl (by kernel_rfl) (by kernel_rfl) (by kernel_rfl) (by repeat (first | exact zj | exact zm | apply zi | apply zu)) rfl rfl rfl
   exact q_1
   apply zp (i := 12) rfl (by kernel_rfl) (by kernel_rfl) (by kernel_rfl) (by repeat (first | exact zj | exact zm | apply zi | apply zu)) rfl rfl rfl
   exact q_5
   apply zp (i := 13) rfl (by kernel_rfl) (by kernel_rfl) (by kernel_rfl) (by repeat (first | exact zj | exact zm | apply zi | apply zu)) rfl rfl rfl
   exact q_5
   refine zk (j := 14) (by kernel_rfl) ?_
   refine zX rfl rfl rfl rfl rfl rfl q2 (fun _ => rfl) ?_
   apply zp (i := 15) rfl (by kernel_rfl) (by kernel_rfl) (by kernel_rfl) (by repeat (first | exact zj | exact zm | apply zi | apply zu)) rfl rfl rfl
   exact q_20
   apply zp (i := 16) rfl (by kernel_rfl) (by kernel_rfl) (by kernel_rfl) (by repeat (first | exact zj | exact zm | apply zi | apply zu)) rfl rfl rfl
   (exact qqbu0)
   apply zp (i := 17) rfl (by kernel_rfl) (by kernel_rfl) (by kernel_rfl) (by repeat (first | exact zj | exact zm | apply zi | apply zu)) rfl rfl rfl
   exact q_1
   apply zp (i := 18) rfl (by kernel_rfl) (by kernel_rfl) (by kernel_rfl) (by repeat (first | exact zj | exact zm | apply zi | apply zu)) rfl rfl rfl
   exact q_5
   apply zp (i := 19) rfl (by kernel_rfl) (by kernel_rfl) (by kernel_rfl) (by repeat (first | exact zj | exact zm | apply zi | apply zu)) rfl rfl rfl
   exact q_5
   apply zp (i := 21) rfl (by kernel_rfl) (by kernel_rfl) (by kernel_rfl) (by repeat (first | exact zj | exact zm | apply zi | apply zu)) rfl rfl rfl
   exact q_5
   apply zp (i := 22) rfl (by kernel_rfl) (by kernel_rfl) (by kernel_rfl) (by repeat (first | exact zj | exact zm | apply zi | apply zu)) rfl rfl rfl
   exact q_5
   refine zk (j := 20) (by kernel_rfl) ?_
   refine zX rfl rfl rfl rfl rfl rfl q3 (fun _ => rfl) ?_
   refine zk (j := 23) (by kernel_rfl) ?_
   refine zX rfl rfl rfl rfl rfl rfl q4 (fun _ => rfl) ?_
   apply zp (i := 24) rfl (by kernel_rfl) (by kernel_rfl) (by kernel_rfl) (by repeat (first | exact zj | exact zm | apply zi | apply zu)) rfl rfl rfl
   exact zD za rfl rfl rfl rfl
   apply zp (i := 25) rfl (by kernel_rfl) (by kernel_rfl) (by kernel_rfl) (by repeat (first | exact zj | exact zm | apply zi | apply zu)) rfl rfl rfl
   (exact qqbu0)
   apply zp (i := 26) rfl (by kernel_rfl) (by kernel_rfl) (by kernel_rfl) (by repeat (first | exact zj | exact zm | apply zi | apply zu)) rfl rfl rfl
   exact q_1
   apply zp (i := 27) rfl (by kernel_rfl) (by kernel_rfl) (by kernel_rfl) (by repeat (first | exact zj | exact zm | apply zi | apply zu)) rfl rfl rfl
   exact q_5
   apply zp (i := 28) rfl (by kernel_rfl) (by kernel_rfl) (by kernel_rfl) (by repeat (first | exact zj | exact zm | apply zi | apply zu)) rfl rfl rfl
   exact q_5
   refine zk (j := 29) (by kernel_rfl) ?_
   refine zX rfl rfl rfl rfl rfl rfl q3 (fun _ => rfl) ?_
   apply zp (i := 30) rfl (by kernel_rfl) (by kernel_rfl) (by kernel_rfl) (by repeat (first | exact zj | exact zm | apply zi | apply zu)) rfl rfl rfl
   exact q_1
   apply zbt (i := 31) rfl (by kernel_rfl) (by kernel_rfl) (by kernel_rfl) (by repeat (first | exact zj | exact zm | apply zi | apply zu)) rfl rfl rfl
   apply zbt (i := 32) rfl (by kernel_rfl) (by kernel_rfl) (by kernel_rfl) (by repeat (first | exact zj | exact zm | apply zi | apply zu)) rfl rfl rfl
   apply zbt (i := 33) rfl (by kernel_rfl) (by kernel_rfl) (by kernel_rfl) (by repeat (first | exact zj | exact zm | apply zi | apply zu)) rfl rfl rfl
   apply zp (i := 34) rfl (by kernel_rfl) (by kernel_rfl) (by kernel_rfl) (by repeat (first | exact zj | exact zm | apply zi | apply zu)) rfl rfl rfl
   (exact qqbu0)
   apply zp (i := 35) rfl (by kernel_rfl) (by kernel_rfl) (by kernel_rfl) (by repeat (first | exact zj | exact zm | apply zi | apply zu)) rfl rfl rfl
   exact q_1
   apply zbt (i := 36) rfl (by kernel_rfl) (by kernel_rfl) (by kernel_rfl) (by repeat (first | exact zj | exact zm | apply zi | apply zu)) rfl rfl rfl
   apply zbt (i := 37) rfl (by kernel_rfl) (by kernel_rfl) (by kernel_rfl) (by repeat (first | exact zj | exact zm | apply zi | apply zu)) rfl rfl rfl
   apply zbt (i := 38) rfl (by kernel_rfl) (by kernel_rfl) (by kernel_rfl) (by repeat (first | exact zj | exact zm | apply zi | apply zu)) rfl rfl rfl
   apply zbt (i := 39) rfl (by kernel_rfl) (by kernel_rfl) (by kernel_rfl) (by repeat (first | exact zj | exact zm | apply zi | apply zu)) rfl rfl rfl
   apply zp (i := 40) rfl (by kernel_rfl) (by kernel_rfl) (by kernel_rfl) (by repeat (first | exact zj | exact zm | apply zi | apply zu)) rfl rfl rfl
   (exact qqbu0)
   apply zp (i := 41) rfl (by kernel_rfl) (by kernel_rfl) (by kernel_rfl) (by repeat (first | exact zj | exact zm | apply zi | apply zu)) rfl rfl rfl
   (exact qqbu0)
   refine zac (by kernel_rfl) ?_
   refine q_j ?_
   exact q_S
  | true =>
   cases s5 with
   | false =>
    apply zp (i := 0) rfl (by kernel_rfl) (by kernel_rfl) (by kernel_rfl) (by repeat (first | exact zj | exact zm | apply zi | apply zu)) rfl rfl rfl
    exact q_5
    apply zp (i := 2) rfl (by kernel_rfl) (by kernel_rfl) (by kernel_rfl) (by repeat (first | exact zj | exact zm | apply zi | apply zu)) rfl rfl rfl
    exact q_5
    refine zk (j := 1) (by kernel_rfl) ?_
    refine zX rfl rfl rfl rfl rfl rfl f2 (fun _ => rfl) ?_
    refine zk (j := 3) (by kernel_rfl) ?_
    refine zX rfl rfl rfl rfl rfl rfl fe (fun _ => rfl) ?_
    apply zp (i := 4) rfl (by kernel_rfl) (by kernel_rfl) (by kernel_rfl) (by repeat (first | exact zj | exact zm | apply zi | apply zu)) rfl rfl rfl
    exact q_20
    apply zp (i := 5) rfl (by kernel_rfl) (by kernel_rfl) (by kernel_rfl) (by repeat (first | exact zj | exact zm | apply zi | apply zu)) rfl rfl rfl
    exact q_1
    apply zp (i := 6) rfl (by kernel_rfl) (by kernel_rfl) (by kernel_rfl) (by repeat (first | exact zj | exact zm | apply zi | apply zu)) rfl rfl rfl
    exact q_5
    apply zp (i := 7) rfl (by kernel_rfl) (by kernel_rfl) (by kernel_rfl) (by repeat (first | exact zj | exact zm | apply zi | apply zu)) rfl rfl rfl
    exact q_5
    refine zk (j := 8) (by kernel_rfl) ?_
    refine zX rfl rfl rfl rfl rfl rfl q1 (fun _ => rfl) ?_
    apply zp (i := 9) rfl (by kernel_rfl) (by kernel_rfl) (by kernel_rfl) (by repeat (first | exact zj | exact zm | apply zi | apply zu)) rfl rfl rfl
    exact q_20
    apply zp (i := 10) rfl (by kernel_rfl) (by kernel_rfl) (by kernel_rfl) (by repeat (first | exact zj | exact zm | apply zi | apply zu)) rfl rfl rfl
    (exact qqbu0)
    apply zp (i := 11) rfl (by kernel_rfl) (by kernel_rfl) (by kernel_rfl) (by repeat (first | exact zj | exact zm | apply zi | apply zu)) rfl rfl rfl
    exact q_1
    apply zp (i := 12) rfl (by kernel_rfl) (by kernel_rfl) (by kernel_rfl) (by repeat (first | exact zj | exact zm | apply zi | apply zu)) rfl rfl rfl
    exact q_5
    apply zp (i := 13) rfl (by kernel_rfl) (by kernel_rfl) (by kernel_rfl) (by repeat (first | exact zj | exact zm | apply zi | apply zu)) rfl rfl rfl
    exact q_5
    refine zk (j := 14) (by kernel_rfl) ?_
    refine zX rfl rfl rfl rfl rfl rfl q2 (fun _ => rfl) ?_
    apply zp (i := 15) rfl (by kernel_rfl) (by kernel_rfl) (by kernel_rfl) (by repeat (first | exact zj | exact zm | apply zi | apply zu)) rfl rfl rfl
    exact q_20
    apply zp (i := 16) rfl (by kernel_rfl) (by kernel_rfl) (by kernel_rfl) (by repeat (first | exact zj | exact zm | apply zi | apply zu)) rfl rfl rfl
    (exact qqbu0)
    apply zp (i := 17) rfl (by kernel_rfl) (by kernel_rfl) (by kernel_rfl) (by repeat (first | exact zj | exact zm | apply zi | apply zu)) rfl rfl rfl
    exact q_1
    apply zp (i := 18) rfl (by kernel_rfl) (by kernel_rfl) (by kernel_rfl) (by repeat (first | exact zj | exact zm | apply zi | apply zu)) rfl rfl rfl
    exact q_5
    apply zp (i := 19) rfl (by kernel_rfl) (by kernel_rfl) (by kernel_rfl) (by repeat (first | exact zj | exact zm | apply zi | apply zu)) rfl rfl rfl
    exact q_5
    apply zp (i := 21) rfl (by kernel_rfl) (by kernel_rfl) (by kernel_rfl) (by repeat (first | exact zj | exact zm | apply zi | apply zu)) rfl rfl rfl
    exact q_5
    apply zp (i := 22) rfl (by kernel_rfl) (by kernel_rfl) (by kernel_rfl) (by repeat (first | exact zj | exact zm | apply zi | apply zu)) rfl rfl rfl
    exact q_5
    refine zk (j := 20) (by kernel_rfl) ?_
    refine zX rfl rfl rfl rfl rfl rfl q3 (fun _ => rfl) ?_
    refine zk (j := 23) (by kernel_rfl) ?_
    refine zX rfl rfl rfl rfl rfl rfl q4 (fun _ => rfl) ?_
    apply zp (i := 24) rfl (by kernel_rfl) (by kernel_rfl) (by kernel_rfl) (by repeat (first | exact zj | exact zm | apply zi | apply zu)) rfl rfl rfl
    exact zD za rfl rfl rfl rfl
    apply zp (i := 25) rfl (by kernel_rfl) (by kernel_rfl) (by kernel_rfl) (by repeat (first | exact zj | exact zm | apply zi | apply zu)) rfl rfl rfl
    (exact qqbu0)
    apply zp (i := 26) rfl (by kernel_rfl) (by kernel_rfl) (by kernel_rfl) (by repeat (first | exact zj | exact zm | apply zi | apply zu)) rfl rfl rfl
    exact q_1
    apply zp (i := 27) rfl (by kernel_rfl) (by kernel_rfl) (by kernel_rfl) (by repeat (first | exact zj | exact zm | apply zi | apply zu)) rfl rfl rfl
    exact q_5
    apply zp (i := 28) rfl (by kernel_rfl) (by kernel_rfl) (by kernel_rfl) (by repeat (first | exact zj | exact zm | apply zi | apply zu)) rfl rfl rfl
    exact q_5
    refine zk (j := 29) (by kernel_rfl) ?_
    refine zX rfl rfl rfl rfl rfl rfl q3 (fun _ => rfl) ?_
    apply zp (i := 30) rfl (by kernel_rfl) (by kernel_rfl) (by kernel_rfl) (by repeat (first | exact zj | exact zm | apply zi | apply zu)) rfl rfl rfl
    exact q_1
    apply zp (i := 31) rfl (by kernel_rfl) (by kernel_rfl) (by kernel_rfl) (by repeat (first | exact zj | exact zm | apply zi | apply zu)) rfl rfl rfl
    exact q_5
    apply zp (i := 32) rfl (by kernel_rfl) (by kernel_rfl) (by kernel_rfl) (by repeat (first | exact zj | exact zm | apply zi | apply zu)) rfl rfl rfl
    exact q_5
    refine zk (j := 33) (by kernel_rfl) ?_
    refine zX rfl rfl rfl rfl rfl rfl q5 (fun _ => rfl) ?_
    apply zp (i := 34) rfl (by kernel_rfl) (by kernel_rfl) (by kernel_rfl) (by repeat (first | exact zj | exact zm | apply zi | apply zu)) rfl rfl rfl
    (exact qqbu0)
    apply zp (i := 35) rfl (by kernel_rfl) (by kernel_rfl) (by kernel_rfl) (by repeat (first | exact zj | exact zm | apply zi | apply zu)) rfl rfl rfl
    exact q_1
    apply zbt (i := 36) rfl (by kernel_rfl) (by kernel_rfl) (by kernel_rfl) (by repeat (first | exact zj | exact zm | apply zi | apply zu)) rfl rfl rfl
    apply zbt (i := 37) rfl (by kernel_rfl) (by kernel_rfl) (by kernel_rfl) (by repeat (first | exact zj | exact zm | apply zi | apply zu)) rfl rfl rfl
    apply zbt (i := 38) rfl (by kernel_rfl) (by kernel_rfl) (by kernel_rfl) (by repeat (first | exact zj | exact zm | apply zi | apply zu)) rfl rfl rfl
    apply zbt (i := 39) rfl (by kernel_rfl) (by kernel_rfl) (by kernel_rfl) (by repeat (first | exact zj | exact zm | apply zi | apply zu)) rfl rfl rfl
    apply zp (i := 40) rfl (by kernel_rfl) (by kernel_rfl) (by kernel_rfl) (by repeat (first | exact zj | exact zm | apply zi | apply zu)) rfl rfl rfl
    (exact qqbu0)
    apply zp (i := 41) rfl (by kernel_rfl) (by kernel_rfl) (by kernel_rfl) (by repeat (first | exact zj | exact zm | apply zi | apply zu)) rfl rfl rfl
    (exact qqbu0)
    refine zac (by kernel_rfl) ?_
    refine q_j ?_
    exact q_S
   | true =>
    obtain rfl : s6 = true := htr rfl rfl
    apply zp (i := 0) rfl (by kernel_rfl) (by kernel_rfl) (by kernel_rfl) (by repeat (first | exact zj | exact zm | apply zi | apply zu)) rfl rfl rfl
    exact q_5
    apply zp (i := 2) rfl (by kernel_rfl) (by kernel_rfl) (by kernel_rfl) (by repeat (first | exact zj | exact zm | apply zi | apply zu)) rfl rfl rfl
    exact q_5
    refine zk (j := 1) (by kernel_rfl) ?_
    refine zX rfl rfl rfl rfl rfl rfl f2 (fun _ => rfl) ?_
    refine zk (j := 3) (by kernel_rfl) ?_
    refine zX rfl rfl rfl rfl rfl rfl fe (fun _ => rfl) ?_
    apply zp (i := 4) rfl (by kernel_rfl) (by kernel_rfl) (by kernel_rfl) (by repeat (first | exact zj | exact zm | apply zi | apply zu)) rfl rfl rfl
    exact q_20
    apply zp (i := 5) rfl (by kernel_rfl) (by kernel_rfl) (by kernel_rfl) (by repeat (first | exact zj | exact zm | apply zi | apply zu)) rfl rfl rfl
    exact q_1
    apply zp (i := 6) rfl (by kernel_rfl) (by kernel_rfl) (by kernel_rfl) (by repeat (first | exact zj | exact zm | apply zi | apply zu)) rfl rfl rfl
    exact q_5
    apply zp (i := 7) rfl (by kernel_rfl) (by kernel_rfl) (by kernel_rfl) (by repeat (first | exact zj | exact zm | apply zi | apply zu)) rfl rfl rfl
    exact q_5
    refine zk (j := 8) (by kernel_rfl) ?_
    refine zX rfl rfl rfl rfl rfl rfl q1 (fun _ => rfl) ?_
    apply zp (i := 9) rfl (by kernel_rfl) (by kernel_rfl) (by kernel_rfl) (by repeat (first | exact zj | exact zm | apply zi | apply zu)) rfl rfl rfl
    exact q_20
    apply zp (i := 10) rfl (by kernel_rfl) (by kernel_rfl) (by kernel_rfl) (by repeat (first | exact zj | exact zm | apply zi | apply zu)) rfl rfl rfl
    (exact qqbu0)
    apply zp (i := 11) rfl (by kernel_rfl) (by kernel_rfl) (by kernel_rfl) (by repeat (first | exact zj | exact zm | apply zi | apply zu)) rfl rfl rfl
    exact q_1
    apply zp (i := 12) rfl (by kernel_rfl) (by kernel_rfl) (by kernel_rfl) (by repeat (first | exact zj | exact zm | apply zi | apply zu)) rfl rfl rfl
    exact q_5
    apply zp (i := 13) rfl (by kernel_rfl) (by kernel_rfl) (by kernel_rfl) (by repeat (first | exact zj | exact zm | apply zi | apply zu)) rfl rfl rfl
    exact q_5
    refine zk (j := 14) (by kernel_rfl) ?_
    refine zX rfl rfl rfl rfl rfl rfl q2 (fun _ => rfl) ?_
    apply zp (i := 15) rfl (by kernel_rfl) (by kernel_rfl) (by kernel_rfl) (by repeat (first | exact zj | exact zm | apply zi | apply zu)) rfl rfl rfl
    exact q_20
    apply zp (i := 16) rfl (by kernel_rfl) (by kernel_rfl) (by kernel_rfl) (by repeat (first | exact zj | exact zm | apply zi | apply zu)) rfl rfl rfl
    (exact qqbu0)
    apply zp (i := 17) rfl (by kernel_rfl) (by kernel_rfl) (by kernel_rfl) (by repeat (first | exact zj | exact zm | apply zi | apply zu)) rfl rfl rfl
    exact q_1
    apply zp (i := 18) rfl (by kernel_rfl) (by kernel_rfl) (by kernel_rfl) (by repeat (first | exact zj | exact zm | apply zi | apply zu)) rfl rfl rfl
    exact q_5
    apply zp (i := 19) rfl (by kernel_rfl) (by kernel_rfl) (by kernel_rfl) (by repeat (first | exact zj | exact zm | apply zi | apply zu)) rfl rfl rfl
    exact q_5
    apply zp (i := 21) rfl (by kernel_rfl) (by kernel_rfl) (by kernel_rfl) (by repeat (first | exact zj | exact zm | apply zi | apply zu)) rfl rfl rfl
    exact q_5
    apply zp (i := 22) rfl (by kernel_rfl) (by kernel_rfl) (by kernel_rfl) (by repeat (first | exact zj | exact zm | apply zi | apply zu)) rfl rfl rfl
    exact q_5
    refine zk (j := 20) (by kernel_rfl) ?_
    refine zX rfl rfl rfl rfl rfl rfl q3 (fun _ => rfl) ?_
    refine zk (j := 23) (by kernel_rfl) ?_
    refine zX rfl rfl rfl rfl rfl rfl q4 (fun _ => rfl) ?_
    apply zp (i := 24) rfl (by kernel_rfl) (by kernel_rfl) (by kernel_rfl) (by repeat (first | exact zj | exact zm | apply zi | apply zu)) rfl rfl rfl
    exact zD za rfl rfl rfl rfl
    apply zp (i := 25) rfl (by kernel_rfl) (by kernel_rfl) (by kernel_rfl) (by repeat (first | exact zj | exact zm | apply zi | apply zu)) rfl rfl rfl
    (exact qqbu0)
    apply zp (i := 26) rfl (by kernel_rfl) (by kernel_rfl) (by kernel_rfl) (by repeat (first | exact zj | exact zm | apply zi | apply zu)) rfl rfl rfl
    exact q_1
    apply zp (i := 27) rfl (by kernel_rfl) (by kernel_rfl) (by kernel_rfl) (by repeat (first | exact zj | exact zm | apply zi | apply zu)) rfl rfl rfl
    exact q_5
    apply zp (i := 28) rfl (by kernel_rfl) (by kernel_rfl) (by kernel_rfl) (by repeat (first | exact zj | exact zm | apply zi | apply zu)) rfl rfl rfl
    exact q_5
    refine zk (j := 29) (by kernel_rfl) ?_
    refine zX rfl rfl rfl rfl rfl rfl q3 (fun _ => rfl) ?_
    apply zp (i := 30) rfl (by kernel_rfl) (by kernel_rfl) (by kernel_rfl) (by repeat (first | exact zj | exact zm | apply zi | apply zu)) rfl rfl rfl
    exact q_1
    apply zp (i := 31) rfl (by kernel_rfl) (by kernel_rfl) (by kernel_rfl) (by repeat (first | exact zj | exact zm | apply zi | apply zu)) rfl rfl rfl
    exact q_5
    apply zp (i := 32) rfl (by kernel_rfl) (by kernel_rfl) (by kernel_rfl) (by repeat (first | exact zj | exact zm | apply zi | apply zu)) rfl rfl rfl
    exact q_5
    refine zk (j := 33) (by kernel_rfl) ?_
    refine zX rfl rfl rfl rfl rfl rfl q5 (fun _ => rfl) ?_
    apply zp (i := 34) rfl (by kernel_rfl) (by kernel_rfl) (by kernel_rfl) (by repeat (first | exact zj | exact zm | apply zi | apply zu)) rfl rfl rfl
    (exact qqbu0)
    apply zp (i := 35) rfl (by kernel_rfl) (by kernel_rfl) (by kernel_rfl) (by repeat (first | exact zj | exact zm | apply zi | apply zu)) rfl rfl rfl
    exact q_1
    apply zp (i := 36) rfl (by kernel_rfl) (by kernel_rfl) (by kernel_rfl) (by repeat (first | exact zj | exact zm | apply zi | apply zu)) rfl rfl rfl
    exact q_5
    apply zp (i := 37) rfl (by kernel_rfl) (by kernel_rfl) (by kernel_rfl) (by repeat (first | exact zj | exact zm | apply zi | apply zu)) rfl rfl rfl
    exact q_5
    refine zk (j := 38) (by kernel_rfl) ?_
    refine zX rfl rfl rfl rfl rfl rfl q6 (fun _ => rfl) ?_
    apply zp (i := 39) rfl (by kernel_rfl) (by kernel_rfl) (by kernel_rfl) (by repeat (first | exact zj | exact zm | apply zi | apply zu)) rfl rfl rfl
    exact q_20
    apply zp (i := 40) rfl (by kernel_rfl) (by kernel_rfl) (by kernel_rfl) (by repeat (first | exact zj | exact zm | apply zi | apply zu)) rfl rfl rfl
    (exact qqbu0)
    apply zp (i := 41) rfl (by kernel_rfl) (by kernel_rfl) (by kernel_rfl) (by repeat (first | exact zj | exact zm | apply zi | apply zu)) rfl rfl rfl
    (exact qqbu0)
    refine zac (by kernel_rfl) ?_
    refine q_j ?_
    exact q_S
 repeat (first | refine q_Y ?_ | ((first | apply q_K rfl | apply q_X rfl); (first | exact q_H | (exact zc8 za rfl rfl rfl rfl rfl))) | refine q_U ?_ | (first | refine q_O c1 ?_ | refine q_O c2 ?_))
 exact zn rfl ⟨congrArg boolA hres, rfl⟩
end Go.Proofs.YtoahnbmedcjpeaaGreatDoor.Ab

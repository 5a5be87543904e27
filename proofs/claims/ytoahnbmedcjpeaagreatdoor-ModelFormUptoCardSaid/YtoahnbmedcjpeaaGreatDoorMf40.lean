/-
 Texts of a proof, one behind the other (part 41).
-/
import Derived.Test.YtoahnbmedcjpeaaGreatDoorMf3
import Derived.Test.YtoahnbmedcjpeaaGreatDoorMf34
import Derived.Test.YtoahnbmedcjpeaaGreatDoorMf39
set_option linter.unusedSimpArgs false
set_option linter.unusedVariables false
namespace Go.Proofs.YtoahnbmedcjpeaaGreatDoor.Ab
set_option maxRecDepth 100000
open Go.RowKit Go.Lib
attribute [local irreducible] AWp AOps AQ AYield AEff ACall AWk AAny AAt AThen AIn APost NoPanic
set_option maxHeartbeats 32000000 in
theorem zjl (A B : Dvc) (hA : A.ok) (hB : B.ok) (a b : Dvc) (fa : ACall Tryz.prog 25 [dvcA a] [] (Just (dvcA A))) (fb : ACall Tryz.prog 25 [dvcA b] [] (Just (dvcA B))) : ∃ r : Bool, (r = true ↔ A = B) ∧ ACall Tryz.prog 22 [dvcA a, dvcA b] [] (Just (boolA r)) := by
 have len : ∀ {n c : Nat}, 0 < c → n * c ≤ 140737488351232 → n ≤ 140737488355328 := fun {n c} h0 h => Nat.le_trans (Nat.le_mul_of_pos_right n h0) (Nat.le_trans h (by decide))
 obtain ⟨rv, kv, cv⟩ := zh0 A.vrfs B.vrfs (len (by decide) hA.b2) (len (by decide) hB.b2)
 obtain ⟨ri, ki, ci⟩ := zh6 A.ifs B.ifs (len (by decide) hA.b3) (len (by decide) hB.b3)
 obtain ⟨rw_, kw, cw⟩ := zh2 A.rws B.rws (len (by decide) hA.b5) (len (by decide) hB.b5)
 obtain ⟨rs, ks, cs⟩ := zh1 A.sts B.sts (len (by decide) hA.b6) (len (by decide) hB.b6)
 obtain ⟨r1, k1, c1⟩ := zib A.fils B.fils 50 (fun x hx y hy => zjh x y (len (by decide) (hA.fils x hx)) (len (by decide) (hB.fils y hy))) (len (by decide) hA.b4) (len (by decide) hB.b4)
 obtain ⟨r2, k2, c2⟩ := zgG A.pls B.pls 53 (fun x hx y hy => zhe x y (len (by decide) (hA.pls x hx).2) (len (by decide) (hB.pls y hy).2)) (len (by decide) hA.b7) (len (by decide) hB.b7)
 obtain ⟨r3, k3, c3⟩ := zgH A.cls B.cls 56 (fun x hx y hy => zhf x y (len (by decide) (hA.cls x hx).2) (len (by decide) (hB.cls y hy).2) (fun m hm => len (by decide) ((hA.cls x hx).1 m hm).2) (fun m hm => len (by decide) ((hB.cls y hy).1 m hm).2)) (len (by decide) hA.b8) (len (by decide) hB.b8)
 obtain ⟨r4, k4, c4⟩ := zh8 A.pols B.pols 61 (fun x hx y hy => zje x y (len (by decide) (hA.pols x hx).2) (len (by decide) (hB.pols y hy).2) (fun c hc => ⟨len (by decide) ((hA.pols x hx).1 c hc).b1, len (by decide) ((hA.pols x hx).1 c hc).b2⟩) (fun c hc => ⟨len (by decide) ((hB.pols y hy).1 c hc).b1, len (by decide) ((hB.pols y hy).1 c hc).b2⟩)) (len (by decide) hA.b9) (len (by decide) hB.b9)
 obtain ⟨r5, k5, c5⟩ := zh9 A.osp B.osp 65 (fun x hx y hy => zjf x y (len (by decide) (hA.osp x hx)) (len (by decide) (hB.osp y hy))) (len (by decide) hA.b10) (len (by decide) hB.b10)
 obtain ⟨r6, k6, c6⟩ := zid A.bgp B.bgp 68 (fun x hx y hy => zjj x y (len (by decide) (hA.bgp x hx).1) (len (by decide) (hB.bgp y hy).1) (len (by decide) (hA.bgp x hx).2.1) (len (by decide) (hB.bgp y hy).2.1) (len (by decide) (hA.bgp x hx).2.2) (len (by decide) (hB.bgp y hy).2.2)) (len (by decide) hA.b11) (len (by decide) hB.b11)
 clear hA hB len
 obtain ⟨anm, akd, avrfs, aifs, afils, arws, asts, apls, acls, apols, aosp, abgp⟩ := A
 obtain ⟨bnm, bkd, bvrfs, bifs, bfils, brws, bsts, bpls, bcls, bpols, bosp, bbgp⟩ := B
 dsimp only at kv ki kw ks k1 k2 k3 k4 k5 k6 cv ci cw cs c1 c2 c3 c4 c5 c6
 refine ⟨!((((((!decide (anm = bnm)) || (akd != bkd)) || !rv) || !ri) || !rw_) || !rs) && (((((r1 && r2) && r3) && r4) && r5) && r6), ?_, ?_⟩
 ·have e1 : (akd != bkd) = !decide (akd = bkd) := by rw [Bool.eq_iff_iff]; simp
  rw [e1]
  cases rv <;> cases ri <;> cases rw_ <;> cases rs <;> cases r1 <;> cases r2 <;> cases r3 <;> cases r4 <;> cases r5 <;> cases r6 <;> simp_all
 clear kv ki kw ks k1 k2 k3 k4 k5 k6
 refine zb za Tryz.func22 rfl Tryz.ntmps22 (congrArg Array.toList Tryz.results22) (by kernel_rfl) rfl ?_
 refine zr ?_
 (first | refine zg ?_ | refine zf rfl mixed (by kernel_rfl) ?_)
 repeat' (first | ((first | apply q_K rfl | apply q_X rfl); (first | exact q_H | fail)) | refine q_d ?_ | refine q_a ?_ | refine q_b ?_ | refine q_e ?_ | refine q_f ?_ | refine q_g ?_ | ((fail_if_success (refine O_wt rfl ?_)); refine O_gs rfl rfl (fun _ => ?_) (fun _ => ?_)) | ((fail_if_success (refine Q_wt rfl ?_)); refine Q_gs rfl rfl (fun _ => ?_) (fun _ => ?_)) | refine zo ?_ | refine zq ?_ | refine q_j ?_ | fail)
 refine zL [(2, .ptr 2 0), (3, .ptr 3 0)] [(2, .var ((dvcD ⟨anm, akd, avrfs, aifs, afils, arws, asts, apls, acls, apols, aosp, abgp⟩).map .d)), (3, .var ((dvcD ⟨bnm, bkd, bvrfs, bifs, bfils, brws, bsts, bpls, bcls, bpols, bosp, bbgp⟩).map .d))] ?_ ?_
 ·skip
  refine zag [2, 3] mixed ?_
  repeat' (first | (apply zw rfl rfl rfl rfl; exact q_7) | refine zX rfl rfl rfl rfl rfl rfl fa (fun _ => rfl) ?_ | refine zX rfl rfl rfl rfl rfl rfl fb (fun _ => rfl) ?_ | refine zM za rfl rfl rfl rfl rfl rfl rfl rfl rfl rfl rfl rfl rfl ?_ | refine zk (j := 0) (by decide +kernel) ?_ | refine zk (j := 1) (by decide +kernel) ?_ | refine zk (j := 2) (by decide +kernel) ?_ | refine zk (j := 3) (by decide +kernel) ?_ | refine zk (j := 4) (by decide +kernel) ?_ | refine zk (j := 5) (by decide +kernel) ?_ | refine zao (j := 0) (k := 2) (by decide +kernel) ?_ ?_ | refine zao (j := 1) (k := 2) (by decide +kernel) ?_ ?_ | refine zac (by decide +kernel) ?_ | (refine q_j ?_; exact q_S))
 refine zr ?_
 refine zL [(2, .ptr 2 0), (3, .ptr 3 0), (52, boolA ((((((!decide (anm = bnm)) || (akd != bkd)) || !rv) || !ri) || !rw_) || !rs))] [(2, .var ((dvcD ⟨anm, akd, avrfs, aifs, afils, arws, asts, apls, acls, apols, aosp, abgp⟩).map .d)), (3, .var ((dvcD ⟨bnm, bkd, bvrfs, bifs, bfils, brws, bsts, bpls, bcls, bpols, bosp, bbgp⟩).map .d))] ?_ ?_
 ·
  (first | refine zg ?_ | refine zf rfl mixed (by kernel_rfl) ?_)
  repeat' (first | ((first | apply q_K rfl | apply q_X rfl); (first | exact q_H | (first | exact zaH rfl rfl rfl rfl))) | refine q_d ?_ | refine q_a ?_ | refine q_b ?_ | refine q_e ?_ | refine q_f ?_ | refine q_g ?_ | ((fail_if_success (refine O_wt rfl ?_)); refine O_gs rfl rfl (fun _ => ?_) (fun _ => ?_)) | ((fail_if_success (refine Q_wt rfl ?_)); refine Q_gs rfl rfl (fun _ => ?_) (fun _ => ?_)) | refine zo ?_ | refine zq ?_ | refine q_j ?_ | (first | refine q_O cv ?_ | refine q_O ci ?_ | refine q_O cw ?_ | refine q_O cs ?_))
  all_goals exact zF ⟨rfl, rfl, congrArg (fun b => some (boolA b)) (by simp only [*, Bool.or_true, Bool.or_false, Bool.true_or, Bool.false_or, Bool.and_true, Bool.and_false, Bool.true_and, Bool.false_and, Bool.not_true, Bool.not_false]), trivial⟩ ⟨rfl, rfl, trivial⟩
 generalize ((((((!decide (anm = bnm)) || (akd != bkd)) || !rv) || !ri) || !rw_) || !rs) = q1
 cases q1 with
 | true =>
  repeat (first | refine q_Y ?_ | ((first | apply q_K rfl | apply q_X rfl); (exact q_H)) | refine q_U ?_)
  exact zn rfl ⟨rfl, rfl⟩
 | false =>
  refine A_cf rfl ?_
  refine zP ?_
  refine q_j ?_
  refine zr ?_
  (first | refine zg ?_ | refine zf rfl mixed (by kernel_rfl) ?_)
  repeat' (first | ((first | apply q_K rfl | apply q_X rfl); (first | exact q_H | fail)) | refine q_d ?_ | refine q_a ?_ | refine q_b ?_ | refine q_e ?_ | refine q_f ?_ | refine q_g ?_ | ((fail_if_success (refine O_wt rfl ?_)); refine O_gs rfl rfl (fun _ => ?_) (fun _ => ?_)) | ((fail_if_success (refine Q_wt rfl ?_)); refine Q_gs rfl rfl (fun _ => ?_) (fun _ => ?_)) | refine zo ?_ | refine zq ?_ | refine q_j ?_ | (first | refine q_O c1 ?_ | refine q_O c2 ?_ | refine q_O c3 ?_ | refine q_O c4 ?_ | refine q_O c5 ?_ | refine q_O c6 ?_))
  all_goals (refine zY ?_)
  all_goals (exact zn rfl ⟨congrArg boolA (by simp only [*, Bool.or_true, Bool.or_false, Bool.true_or, Bool.false_or, Bool.and_true, Bool.and_false, Bool.true_and, Bool.false_and, Bool.not_true, Bool.not_false]), rfl⟩)
theorem zcZ (a b : Dvc) (ha : OkF a) (hb : OkF b) : ∃ r : Bool, (r = true ↔ formL a = formL b) ∧ ACall Tryz.prog 22 [dvcA a, dvcA b] [] (Just (boolA r)) := zjl (formL a) (formL b) (zdH ha.ok) (zdH hb.ok) a b (zdG a ha) (zdG b hb)
end Go.Proofs.YtoahnbmedcjpeaaGreatDoor.Ab

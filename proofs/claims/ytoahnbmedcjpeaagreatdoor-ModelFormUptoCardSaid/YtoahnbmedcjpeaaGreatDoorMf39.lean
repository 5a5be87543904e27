/-
 Texts of a proof, one behind the other (part 40).
-/
import Derived.Test.YtoahnbmedcjpeaaGreatDoorMf3
import Derived.Test.YtoahnbmedcjpeaaGreatDoorMf38
set_option linter.unusedSimpArgs false
set_option linter.unusedVariables false
namespace Go.Proofs.YtoahnbmedcjpeaaGreatDoor.Ab
set_option maxRecDepth 100000
open Go.RowKit Go.Lib
attribute [local irreducible] AWp AOps AQ AYield AEff ACall AWk AAny AAt AThen AIn APost NoPanic
theorem qqbn0 {T : List Nat} {e : Env} {h : Heap} {o : Oper} {c : AVal} (hy : AYield Tryz.prog T e h o c := by first | exact zaH rfl rfl rfl rfl | exact zc8 za rfl rfl rfl rfl rfl) : AYield Tryz.prog T e h o c := hy
set_option maxHeartbeats 16000000 in
theorem zjh (x y : Fil) (hx : x.rs.length ≤ 140737488355328) (hy : y.rs.length ≤ 140737488355328) : ∃ r : Bool, (r = true ↔ x = y) ∧ ACall Tryz.prog 50 [gA filD x, gA filD y] [] (Just (boolA r)) := by
 obtain ⟨r0, k0, c0⟩ := zh3 x.rs y.rs hx hy
 obtain ⟨a0, a1⟩ := x
 obtain ⟨b0, b1⟩ := y
 dsimp only at k0 c0
 refine ⟨decide (a0 = b0) && r0, ?_, ?_⟩
 ·simp [k0, and_assoc]
 ·refine zb za Tryz.func50 rfl Tryz.ntmps50 (congrArg Array.toList Tryz.results50) (by kernel_rfl) rfl ?_
  refine zr ?_
  (first | refine zg ?_ | refine zf rfl mixed (by kernel_rfl) ?_)
  repeat' (first | ((first | apply q_K rfl | apply q_X rfl); (first | exact q_H | fail)) | refine q_d ?_ | refine q_a ?_ | refine q_b ?_ | refine q_e ?_ | refine q_f ?_ | refine q_g ?_ | ((fail_if_success (refine O_wt rfl ?_)); refine O_gs rfl rfl (fun _ => ?_) (fun _ => ?_)) | ((fail_if_success (refine Q_wt rfl ?_)); refine Q_gs rfl rfl (fun _ => ?_) (fun _ => ?_)) | refine zo ?_ | refine zq ?_ | refine q_j ?_ | fail)
  refine zr ?_
  (first | refine zg ?_ | refine zf rfl mixed (by kernel_rfl) ?_)
  repeat' (first | ((first | apply q_K rfl | apply q_X rfl); (first | exact q_H | (exact qqbn0))) | refine q_d ?_ | refine q_a ?_ | refine q_b ?_ | refine q_e ?_ | refine q_f ?_ | refine q_g ?_ | ((fail_if_success (refine O_wt rfl ?_)); refine O_gs rfl rfl (fun _ => ?_) (fun _ => ?_)) | ((fail_if_success (refine Q_wt rfl ?_)); refine Q_gs rfl rfl (fun _ => ?_) (fun _ => ?_)) | refine zo ?_ | refine zq ?_ | refine q_j ?_ | (first | refine q_O c0 ?_ | refine q_Q c0 ?_))
  all_goals (refine zY ?_)
  all_goals (exact zn rfl ⟨congrArg boolA (by simp only [*, Bool.true_and, Bool.false_and, Bool.and_true, Bool.and_false]), rfl⟩)
set_option maxHeartbeats 16000000 in
theorem zhe (x y : PLst) (hx : x.es.length ≤ 140737488355328) (hy : y.es.length ≤ 140737488355328) : ∃ r : Bool, (r = true ↔ x = y) ∧ ACall Tryz.prog 53 [gA plstD x, gA plstD y] [] (Just (boolA r)) := by
 obtain ⟨r0, k0, c0⟩ := zh7 x.es y.es hx hy
 obtain ⟨a0, a1⟩ := x
 obtain ⟨b0, b1⟩ := y
 dsimp only at k0 c0
 refine ⟨decide (a0 = b0) && r0, ?_, ?_⟩
 ·simp [k0, and_assoc]
 ·refine zb za Tryz.func53 rfl Tryz.ntmps53 (congrArg Array.toList Tryz.results53) (by kernel_rfl) rfl ?_
  refine zr ?_
  (first | refine zg ?_ | refine zf rfl mixed (by kernel_rfl) ?_)
  repeat' (first | ((first | apply q_K rfl | apply q_X rfl); (first | exact q_H | fail)) | refine q_d ?_ | refine q_a ?_ | refine q_b ?_ | refine q_e ?_ | refine q_f ?_ | refine q_g ?_ | ((fail_if_success (refine O_wt rfl ?_)); refine O_gs rfl rfl (fun _ => ?_) (fun _ => ?_)) | ((fail_if_success (refine Q_wt rfl ?_)); refine Q_gs rfl rfl (fun _ => ?_) (fun _ => ?_)) | refine zo ?_ | refine zq ?_ | refine q_j ?_ | fail)
  refine zr ?_
  (first | refine zg ?_ | refine zf rfl mixed (by kernel_rfl) ?_)
  repeat' (first | ((first | apply q_K rfl | apply q_X rfl); (first | exact q_H | (exact qqbn0))) | refine q_d ?_ | refine q_a ?_ | refine q_b ?_ | refine q_e ?_ | refine q_f ?_ | refine q_g ?_ | ((fail_if_success (refine O_wt rfl ?_)); refine O_gs rfl rfl (fun _ => ?_) (fun _ => ?_)) | ((fail_if_success (refine Q_wt rfl ?_)); refine Q_gs rfl rfl (fun _ => ?_) (fun _ => ?_)) | refine zo ?_ | refine zq ?_ | refine q_j ?_ | (first | refine q_O c0 ?_ | refine q_Q c0 ?_))
  all_goals (refine zY ?_)
  all_goals (exact zn rfl ⟨congrArg boolA (by simp only [*, Bool.true_and, Bool.false_and, Bool.and_true, Bool.and_false]), rfl⟩)
set_option maxHeartbeats 16000000 in
theorem zjg (x y : Mem) (hx : x.all.length ≤ 140737488355328) (hy : y.all.length ≤ 140737488355328) : ∃ r : Bool, (r = true ↔ x = y) ∧ ACall Tryz.prog 58 [gA memD x, gA memD y] [] (Just (boolA r)) := by
 obtain ⟨r0, k0, c0⟩ := zdJ x.all y.all hx hy
 obtain ⟨a0, a1⟩ := x
 obtain ⟨b0, b1⟩ := y
 dsimp only at k0 c0
 refine ⟨(a0 == b0) && r0, ?_, ?_⟩
 ·simp [k0, and_assoc]
 ·refine zb za Tryz.func58 rfl Tryz.ntmps58 (congrArg Array.toList Tryz.results58) (by kernel_rfl) rfl ?_
  refine zr ?_
  (first | refine zg ?_ | refine zf rfl mixed (by kernel_rfl) ?_)
  repeat' (first | ((first | apply q_K rfl | apply q_X rfl); (first | exact q_H | fail)) | refine q_d ?_ | refine q_a ?_ | refine q_b ?_ | refine q_e ?_ | refine q_f ?_ | refine q_g ?_ | ((fail_if_success (refine O_wt rfl ?_)); refine O_gs rfl rfl (fun _ => ?_) (fun _ => ?_)) | ((fail_if_success (refine Q_wt rfl ?_)); refine Q_gs rfl rfl (fun _ => ?_) (fun _ => ?_)) | refine zo ?_ | refine zq ?_ | refine q_j ?_ | fail)
  refine zr ?_
  (first | refine zg ?_ | refine zf rfl mixed (by kernel_rfl) ?_)
  repeat' (first | ((first | apply q_K rfl | apply q_X rfl); (first | exact q_H | (exact qqbn0))) | refine q_d ?_ | refine q_a ?_ | refine q_b ?_ | refine q_e ?_ | refine q_f ?_ | refine q_g ?_ | ((fail_if_success (refine O_wt rfl ?_)); refine O_gs rfl rfl (fun _ => ?_) (fun _ => ?_)) | ((fail_if_success (refine Q_wt rfl ?_)); refine Q_gs rfl rfl (fun _ => ?_) (fun _ => ?_)) | refine zo ?_ | refine zq ?_ | refine q_j ?_ | (first | refine q_O c0 ?_ | refine q_Q c0 ?_))
  all_goals (refine zY ?_)
  all_goals (exact zn rfl ⟨congrArg boolA (by simp only [*, Bool.true_and, Bool.false_and, Bool.and_true, Bool.and_false]), rfl⟩)
set_option maxHeartbeats 16000000 in
theorem zhf (x y : CLst) (hx : x.ms.length ≤ 140737488355328) (hy : y.ms.length ≤ 140737488355328) (gx : ∀ m ∈ x.ms, m.all.length ≤ 140737488355328) (gy : ∀ m ∈ y.ms, m.all.length ≤ 140737488355328) : ∃ r : Bool, (r = true ↔ x = y) ∧ ACall Tryz.prog 56 [gA clstD x, gA clstD y] [] (Just (boolA r)) := by
 obtain ⟨r0, k0, c0⟩ := zia x.ms y.ms 58 (fun m hm n hn => zjg m n (gx m hm) (gy n hn)) hx hy
 obtain ⟨a0, a1⟩ := x
 obtain ⟨b0, b1⟩ := y
 dsimp only at k0 c0
 refine ⟨decide (a0 = b0) && r0, ?_, ?_⟩
 ·simp [k0, and_assoc]
 ·refine zb za Tryz.func56 rfl Tryz.ntmps56 (congrArg Array.toList Tryz.results56) (by kernel_rfl) rfl ?_
  refine zr ?_
  (first | refine zg ?_ | refine zf rfl mixed (by kernel_rfl) ?_)
  repeat' (first | ((first | apply q_K rfl | apply q_X rfl); (first | exact q_H | fail)) | refine q_d ?_ | refine q_a ?_ | refine q_b ?_ | refine q_e ?_ | refine q_f ?_ | refine q_g ?_ | ((fail_if_success (refine O_wt rfl ?_)); refine O_gs rfl rfl (fun _ => ?_) (fun _ => ?_)) | ((fail_if_success (refine Q_wt rfl ?_)); refine Q_gs rfl rfl (fun _ => ?_) (fun _ => ?_)) | refine zo ?_ | refine zq ?_ | refine q_j ?_ | fail)
  refine zr ?_
  (first | refine zg ?_ | refine zf rfl mixed (by kernel_rfl) ?_)
  repeat' (first | ((first | apply q_K rfl | apply q_X rfl); (first | exact q_H | (exact qqbn0))) | refine q_d ?_ | refine q_a ?_ | refine q_b ?_ | refine q_e ?_ | refine q_f ?_ | refine q_g ?_ | ((fail_if_success (refine O_wt rfl ?_)); refine O_gs rfl rfl (fun _ => ?_) (fun _ => ?_)) | ((fail_if_success (refine Q_wt rfl ?_)); refine Q_gs rfl rfl (fun _ => ?_) (fun _ => ?_)) | refine zo ?_ | refine zq ?_ | refine q_j ?_ | (first | refine q_O c0 ?_ | refine q_Q c0 ?_))
  all_goals (refine zY ?_)
  all_goals (exact zn rfl ⟨congrArg boolA (by simp only [*, Bool.true_and, Bool.false_and, Bool.and_true, Bool.and_false]), rfl⟩)
set_option maxHeartbeats 16000000 in
theorem zje (x y : Pol) (hx : x.cs.length ≤ 140737488355328) (hy : y.cs.length ≤ 140737488355328) (gx : ∀ c ∈ x.cs, c.sCom.length ≤ 140737488355328 ∧ c.pre.length ≤ 140737488355328) (gy : ∀ c ∈ y.cs, c.sCom.length ≤ 140737488355328 ∧ c.pre.length ≤ 140737488355328) : ∃ r : Bool, (r = true ↔ x = y) ∧ ACall Tryz.prog 61 [gA polD x, gA polD y] [] (Just (boolA r)) := by
 obtain ⟨r0, k0, c0⟩ := zic x.cs y.cs 63 (fun m hm n hn => zji m n (gx m hm).1 (gy n hn).1 (gx m hm).2 (gy n hn).2) hx hy
 obtain ⟨a0, a1, a2⟩ := x
 obtain ⟨b0, b1, b2⟩ := y
 dsimp only at k0 c0
 refine ⟨(decide (a0 = b0) && (a2 == b2)) && r0, ?_, ?_⟩
 ·simp [k0, and_assoc]
  exact fun _ => and_comm
 ·refine zb za Tryz.func61 rfl Tryz.ntmps61 (congrArg Array.toList Tryz.results61) (by kernel_rfl) rfl ?_
  refine zr ?_
  (first | refine zg ?_ | refine zf rfl mixed (by kernel_rfl) ?_)
  repeat' (first | ((first | apply q_K rfl | apply q_X rfl); (first | exact q_H | fail)) | refine q_d ?_ | refine q_a ?_ | refine q_b ?_ | refine q_e ?_ | refine q_f ?_ | refine q_g ?_ | ((fail_if_success (refine O_wt rfl ?_)); refine O_gs rfl rfl (fun _ => ?_) (fun _ => ?_)) | ((fail_if_success (refine Q_wt rfl ?_)); refine Q_gs rfl rfl (fun _ => ?_) (fun _ => ?_)) | refine zo ?_ | refine zq ?_ | refine q_j ?_ | fail)
  refine zr ?_
  (first | refine zg ?_ | refine zf rfl mixed (by kernel_rfl) ?_)
  repeat' (first | ((first | apply q_K rfl | apply q_X rfl); (first | exact q_H | (exact qqbn0))) | refine q_d ?_ | refine q_a ?_ | refine q_b ?_ | refine q_e ?_ | refine q_f ?_ | refine q_g ?_ | ((fail_if_success (refine O_wt rfl ?_)); refine O_gs rfl rfl (fun _ => ?_) (fun _ => ?_)) | ((fail_if_success (refine Q_wt rfl ?_)); refine Q_gs rfl rfl (fun _ => ?_) (fun _ => ?_)) | refine zo ?_ | refine zq ?_ | refine q_j ?_ | (first | refine q_O c0 ?_ | refine q_Q c0 ?_))
  all_goals (refine zY ?_)
  all_goals (exact zn rfl ⟨congrArg boolA (by simp only [*, Bool.true_and, Bool.false_and, Bool.and_true, Bool.and_false]), rfl⟩)
set_option maxHeartbeats 16000000 in
theorem zjf (x y : Osp) (hx : x.fr.length ≤ 140737488355328) (hy : y.fr.length ≤ 140737488355328) : ∃ r : Bool, (r = true ↔ x = y) ∧ ACall Tryz.prog 65 [gA ospD x, gA ospD y] [] (Just (boolA r)) := by
 obtain ⟨r0, k0, c0⟩ := ze2 x.fr y.fr hx hy
 obtain ⟨a0, a1, a2⟩ := x
 obtain ⟨b0, b1, b2⟩ := y
 dsimp only at k0 c0
 refine ⟨((decide (a0 = b0) && (a1 == b1)) && r0), ?_, ?_⟩
 ·simp [k0, and_assoc]
 ·refine zb za Tryz.func65 rfl Tryz.ntmps65 (congrArg Array.toList Tryz.results65) (by kernel_rfl) rfl ?_
  refine zr ?_
  (first | refine zg ?_ | refine zf rfl mixed (by kernel_rfl) ?_)
  repeat' (first | ((first | apply q_K rfl | apply q_X rfl); (first | exact q_H | fail)) | refine q_d ?_ | refine q_a ?_ | refine q_b ?_ | refine q_e ?_ | refine q_f ?_ | refine q_g ?_ | ((fail_if_success (refine O_wt rfl ?_)); refine O_gs rfl rfl (fun _ => ?_) (fun _ => ?_)) | ((fail_if_success (refine Q_wt rfl ?_)); refine Q_gs rfl rfl (fun _ => ?_) (fun _ => ?_)) | refine zo ?_ | refine zq ?_ | refine q_j ?_ | fail)
  refine zr ?_
  (first | refine zg ?_ | refine zf rfl mixed (by kernel_rfl) ?_)
  repeat' (first | ((first | apply q_K rfl | apply q_X rfl); (first | exact q_H | (exact qqbn0))) | refine q_d ?_ | refine q_a ?_ | refine q_b ?_ | refine q_e ?_ | refine q_f ?_ | refine q_g ?_ | ((fail_if_success (refine O_wt rfl ?_)); refine O_gs rfl rfl (fun _ => ?_) (fun _ => ?_)) | ((fail_if_success (refine Q_wt rfl ?_)); refine Q_gs rfl rfl (fun _ => ?_) (fun _ => ?_)) | refine zo ?_ | refine zq ?_ | refine q_j ?_ | (first | refine q_O c0 ?_ | refine q_Q c0 ?_))
  all_goals (refine zY ?_)
  all_goals (exact zn rfl ⟨congrArg boolA (by simp only [*, Bool.true_and, Bool.false_and, Bool.and_true, Bool.and_false]), rfl⟩)
set_option maxHeartbeats 16000000 in
theorem zjj (x y : Bgi) (hx1 : x.nets.length ≤ 140737488355328) (hy1 : y.nets.length ≤ 140737488355328) (hx2 : x.ps.length ≤ 140737488355328) (hy2 : y.ps.length ≤ 140737488355328) (hx3 : x.fr.length ≤ 140737488355328) (hy3 : y.fr.length ≤ 140737488355328) : ∃ r : Bool, (r = true ↔ x = y) ∧ ACall Tryz.prog 68 [gA bgiD x, gA bgiD y] [] (Just (boolA r)) := by
 obtain ⟨r0, k0, c0⟩ := zh4 x.nets y.nets hx1 hy1
 obtain ⟨r1, k1, c1⟩ := zh5 x.ps y.ps hx2 hy2
 obtain ⟨r2, k2, c2⟩ := ze2 x.fr y.fr hx3 hy3
 obtain ⟨a0, a1, a2, a3, a4, a5⟩ := x
 obtain ⟨b0, b1, b2, b3, b4, b5⟩ := y
 dsimp only at k0 c0 k1 c1 k2 c2
 refine ⟨(((((decide (a0 = b0) && (a1 == b1)) && (a2 == b2)) && r0) && r1) && r2), ?_, ?_⟩
 ·simp [k0, k1, k2, and_assoc]
 ·refine zb za Tryz.func68 rfl Tryz.ntmps68 (congrArg Array.toList Tryz.results68) (by kernel_rfl) rfl ?_
  refine zr ?_
  (first | refine zg ?_ | refine zf rfl mixed (by kernel_rfl) ?_)
  repeat' (first | ((first | apply q_K rfl | apply q_X rfl); (first | exact q_H | fail)) | refine q_d ?_ | refine q_a ?_ | refine q_b ?_ | refine q_e ?_ | refine q_f ?_ | refine q_g ?_ | ((fail_if_success (refine O_wt rfl ?_)); refine O_gs rfl rfl (fun _ => ?_) (fun _ => ?_)) | ((fail_if_success (refine Q_wt rfl ?_)); refine Q_gs rfl rfl (fun _ => ?_) (fun _ => ?_)) | refine zo ?_ | refine zq ?_ | refine q_j ?_ | fail)
  refine zr ?_
  (first | refine zg ?_ | refine zf rfl mixed (by kernel_rfl) ?_)
  repeat' (first | ((first | apply q_K rfl | apply q_X rfl); (first | exact q_H | (exact qqbn0))) | refine q_d ?_ | refine q_a ?_ | refine q_b ?_ | refine q_e ?_ | refine q_f ?_ | refine q_g ?_ | ((fail_if_success (refine O_wt rfl ?_)); refine O_gs rfl rfl (fun _ => ?_) (fun _ => ?_)) | ((fail_if_success (refine Q_wt rfl ?_)); refine Q_gs rfl rfl (fun _ => ?_) (fun _ => ?_)) | refine zo ?_ | refine zq ?_ | refine q_j ?_ | (first | refine q_O c0 ?_ | refine q_Q c0 ?_ | refine q_O c1 ?_ | refine q_Q c1 ?_ | refine q_O c2 ?_ | refine q_Q c2 ?_))
  all_goals (refine zY ?_)
  all_goals (exact zn rfl ⟨congrArg boolA (by simp only [*, Bool.true_and, Bool.false_and, Bool.and_true, Bool.and_false]), rfl⟩)
end Go.Proofs.YtoahnbmedcjpeaaGreatDoor.Ab

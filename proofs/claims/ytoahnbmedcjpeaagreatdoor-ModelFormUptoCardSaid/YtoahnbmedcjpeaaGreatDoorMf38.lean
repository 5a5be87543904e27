/-
 Texts of a proof, one behind the other (part 39).
-/
import Derived.Test.YtoahnbmedcjpeaaGreatDoorMf3
import Derived.Test.YtoahnbmedcjpeaaGreatDoorMf37
set_option linter.unusedSimpArgs false
set_option linter.unusedVariables false
namespace Go.Proofs.YtoahnbmedcjpeaaGreatDoor.Ab
set_option maxRecDepth 100000
open Go.RowKit Go.Lib
attribute [local irreducible] AWp AOps AQ AYield AEff ACall AWk AAny AAt AThen AIn APost NoPanic
set_option maxHeartbeats 16000000 in
theorem zji (x y : Cls) (hx1 : x.sCom.length ≤ 140737488355328) (hy1 : y.sCom.length ≤ 140737488355328) (hx2 : x.pre.length ≤ 140737488355328) (hy2 : y.pre.length ≤ 140737488355328) : ∃ r : Bool, (r = true ↔ x = y) ∧ ACall Tryz.prog 63 [gA clsD x, gA clsD y] [] (Just (boolA r)) := by
 obtain ⟨r0, k0, c0⟩ := zdJ x.sCom y.sCom hx1 hy1
 obtain ⟨r1, k1, c1⟩ := zdJ x.pre y.pre hx2 hy2
 obtain ⟨a0, a1, a2, a3, a4, a5, a6, a7, a8, a9, a10, a11, a12, a13, a14⟩ := x
 obtain ⟨b0, b1, b2, b3, b4, b5, b6, b7, b8, b9, b10, b11, b12, b13, b14⟩ := y
 dsimp only at k0 c0 k1 c1
 refine ⟨(((((((((((((((a0 == b0) && (a1 == b1)) && decide (a2 = b2)) && decide (a3 = b3)) && (a4 == b4)) && (a5 == b5)) && (a6 == b6)) && (a7 == b7)) && (a8 == b8)) && (a9 == b9)) && r0) && (a11 == b11)) && r1) && (a13 == b13)) && (a14 == b14)), ?_, ?_⟩
 ·simp [k0, k1, and_assoc]
 ·refine zb za Tryz.func63 rfl Tryz.ntmps63 (congrArg Array.toList Tryz.results63) (by kernel_rfl) rfl ?_
  refine zr ?_
  (first | refine zg ?_ | refine zf rfl mixed (by kernel_rfl) ?_)
  repeat' (first | ((first | apply q_K rfl | apply q_X rfl); (first | exact q_H | fail)) | refine q_d ?_ | refine q_a ?_ | refine q_b ?_ | refine q_e ?_ | refine q_f ?_ | refine q_g ?_ | ((fail_if_success (refine O_wt rfl ?_)); refine O_gs rfl rfl (fun _ => ?_) (fun _ => ?_)) | ((fail_if_success (refine Q_wt rfl ?_)); refine Q_gs rfl rfl (fun _ => ?_) (fun _ => ?_)) | refine zo ?_ | refine zq ?_ | refine q_j ?_ | fail)
  refine zr ?_
  (first | refine zg ?_ | refine zf rfl mixed (by kernel_rfl) ?_)
  repeat' (first | ((first | apply q_K rfl | apply q_X rfl); (first | exact q_H | (first | exact zaH rfl rfl rfl rfl | exact zc8 za rfl rfl rfl rfl rfl))) | refine q_d ?_ | refine q_a ?_ | refine q_b ?_ | refine q_e ?_ | refine q_f ?_ | refine q_g ?_ | ((fail_if_success (refine O_wt rfl ?_)); refine O_gs rfl rfl (fun _ => ?_) (fun _ => ?_)) | ((fail_if_success (refine Q_wt rfl ?_)); refine Q_gs rfl rfl (fun _ => ?_) (fun _ => ?_)) | refine zo ?_ | refine zq ?_ | refine q_j ?_ | (first | refine q_O c0 ?_ | refine q_Q c0 ?_ | refine q_O c1 ?_ | refine q_Q c1 ?_))
  all_goals (refine zY ?_)
  all_goals (exact zn rfl ⟨congrArg boolA (by simp only [*, Bool.true_and, Bool.false_and, Bool.and_true, Bool.and_false]), rfl⟩)
end Go.Proofs.YtoahnbmedcjpeaaGreatDoor.Ab

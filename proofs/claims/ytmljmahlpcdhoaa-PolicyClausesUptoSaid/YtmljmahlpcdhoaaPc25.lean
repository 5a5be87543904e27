/-
  Texts of a proof, one behind the other (part 26).
-/
import Derived.Test.YtmljmahlpcdhoaaPc2
import Derived.Test.YtmljmahlpcdhoaaPc22
import Derived.Test.YtmljmahlpcdhoaaPc24
set_option linter.unusedVariables false
set_option linter.unusedSimpArgs false
namespace Go.Proofs.Ytmljmahlpcdhoaa.Ab
set_option linter.unusedVariables false
set_option maxRecDepth 100000
open Go.RowKit Go.Lib
set_option linter.unusedSimpArgs false
attribute [local irreducible] AWp AOps AQ AYield AEff ACall AWk AAny AAt AThen AIn APost NoPanic
set_option maxHeartbeats 4000000 in
theorem rtwin_A (s : Sbj) (h1 : s.path.length ≤ 1000000000) (h2 : s.com.length ≤ 1000000000) : ACall Try.prog 11 [aggD (sbjD s)] [] (Just (aggD (sbjD s))) := by
  have f1 : (s.path.flatMap u1D).length = s.path.length * 1 := flat_len u1D_len _
  have f2 : (s.com.flatMap u1D).length = s.com.length * 1 := flat_len u1D_len _
  refine ACall_of tabOk Try.func11 rfl Try.ntmps11 (congrArg Array.toList Try.results11) (by kernel_rfl) rfl ?_
  refine A_seq ?_
  refine R_list ?_
  refine q_d ?_
  refine q_a ?_
  refine O_nil ?_
  refine q_j ?_
  refine A_cut [(1, .ptr 1 0), (2, .ptr 2 0)] [(1, .var (sbjV s (.row 3) (.d (usD s.com)))), (2, .var sbjZ), (3, uB s.path)] ?_ ?_
  ·
    repeat ((fail_if_success (refine stopL ?_)); first | refine A_seq ?_ | refine A_block ?_ | refine R_list ?_ | refine R_quiet rfl mixed (by kernel_rfl) ?_ | ((first | apply O_y rfl rfl rfl | apply Q_y rfl rfl rfl); (first | exact R_addN rfl rfl rfl | exact R_subN rfl rfl rfl | (first | exact q_A | exact q_5 | exact q_B | fail))) | refine O_nil ?_ | refine Q_nil ?_ | refine q_j ?_ | refine q_k ?_ | refine q_d ?_ | refine q_a ?_ | refine q_b ?_ | refine q_c ?_ | refine A_ct rfl ?_ | refine A_cf rfl ?_ | refine A_skip ?_ | refine A_exit ?_ | refine A_ret ?_ | refine q_l ?_ | refine q_m ?_ | refine q_n ?_ | refine q_h ?_ | refine q_o ?_ | refine q_e ?_ | refine q_f ?_ | refine q_g ?_ | first | refine O_slice0 tabOk rfl rfl rfl rfl rfl rfl rfl ?_ | (first | refine O_appR tabOk rfl rfl rfl rfl rfl rfl rfl rfl rfl rfl rfl (by first | exact Src.row rfl | exact Src.dat _ _ | exact Src.nil) f1 (by omega) ?_ | refine O_appN tabOk rfl rfl rfl rfl rfl rfl rfl rfl rfl rfl (by first | exact Src.row rfl | exact Src.dat _ _ | exact Src.nil) f1 (by omega) ?_))
    exact Wk_sel ⟨rfl, rfl, trivial⟩ ⟨rfl, rfl, row_eq (by simp) (by simp) rfl, trivial⟩
  refine A_weaken (Wk_freeze (id := 3) rfl) ?_
  refine A_cut [(1, .ptr 1 0), (2, .ptr 2 0)] [(1, .var (sbjV s (.d (usD s.path)) (.row 8))), (2, .var sbjZ), (8, uB s.com)] ?_ ?_
  ·
    repeat ((fail_if_success (refine stopL ?_)); first | refine A_seq ?_ | refine A_block ?_ | refine R_list ?_ | refine R_quiet rfl mixed (by kernel_rfl) ?_ | ((first | apply O_y rfl rfl rfl | apply Q_y rfl rfl rfl); (first | exact R_addN rfl rfl rfl | exact R_subN rfl rfl rfl | (first | exact q_A | exact q_5 | exact q_B | fail))) | refine O_nil ?_ | refine Q_nil ?_ | refine q_j ?_ | refine q_k ?_ | refine q_d ?_ | refine q_a ?_ | refine q_b ?_ | refine q_c ?_ | refine A_ct rfl ?_ | refine A_cf rfl ?_ | refine A_skip ?_ | refine A_exit ?_ | refine A_ret ?_ | refine q_l ?_ | refine q_m ?_ | refine q_n ?_ | refine q_h ?_ | refine q_o ?_ | refine q_e ?_ | refine q_f ?_ | refine q_g ?_ | first | refine O_slice0 tabOk rfl rfl rfl rfl rfl rfl rfl ?_ | (first | refine O_appR tabOk rfl rfl rfl rfl rfl rfl rfl rfl rfl rfl rfl (by first | exact Src.row rfl | exact Src.dat _ _ | exact Src.nil) f2 (by omega) ?_ | refine O_appN tabOk rfl rfl rfl rfl rfl rfl rfl rfl rfl rfl (by first | exact Src.row rfl | exact Src.dat _ _ | exact Src.nil) f2 (by omega) ?_))
    exact Wk_sel ⟨rfl, rfl, trivial⟩ ⟨rfl, rfl, row_eq (by simp) (by simp) rfl, trivial⟩
  refine A_weaken (Wk_freeze (id := 8) rfl) ?_
  repeat ((fail_if_success (refine stopL ?_)); first | refine A_seq ?_ | refine A_block ?_ | refine R_list ?_ | refine R_quiet rfl mixed (by kernel_rfl) ?_ | ((first | apply O_y rfl rfl rfl | apply Q_y rfl rfl rfl); (first | exact R_addN rfl rfl rfl | exact R_subN rfl rfl rfl | (first | exact q_A | exact q_5 | exact q_B | fail))) | refine O_nil ?_ | refine Q_nil ?_ | refine q_j ?_ | refine q_k ?_ | refine q_d ?_ | refine q_a ?_ | refine q_b ?_ | refine q_c ?_ | refine A_ct rfl ?_ | refine A_cf rfl ?_ | refine A_skip ?_ | refine A_exit ?_ | refine A_ret ?_ | refine q_l ?_ | refine q_m ?_ | refine q_n ?_ | refine q_h ?_ | refine q_o ?_ | refine q_e ?_ | refine q_f ?_ | refine q_g ?_ | fail)
  exact X_retW AWk.refl rfl (h2 := []) trivial ⟨rfl, rfl⟩
set_option maxHeartbeats 16000000 in
theorem rset_A (c : Cls) (s : Sbj) (h1 : s.path.length + c.pre.length ≤ 1000000000) (h2 : s.com.length + c.sCom.length ≤ 1000000000) :
    ACall Try.prog 13 [aggD (clsD c), aggD (sbjD s)] [] (Just (aggD (sbjD (setC c s)))) := by
  have ho := rtwin_A s (by omega) (by omega)
  have hj := rjoin_A s.com c.sCom h2
  have hn := rnormal_A c.sCom (by omega)
  obtain ⟨m1, e1⟩ : ∃ m, (if c.sMet = -1 then s.met else c.sMet) = m := ⟨_, rfl⟩
  obtain ⟨m2, e2⟩ : ∃ m, (if c.sPref = -1 then s.pref else c.sPref) = m := ⟨_, rfl⟩
  obtain ⟨m3, e3⟩ : ∃ m, (if c.sTag = -1 then s.tag else c.sTag) = m := ⟨_, rfl⟩
  obtain ⟨m4, e4⟩ : ∃ m, (if c.sHop = 0 then s.hop else c.sHop) = m := ⟨_, rfl⟩
  obtain ⟨m5, e5⟩ : ∃ m, (if c.sCom.length = 0 then s.com else if c.add then nrm (s.com ++ c.sCom) else nrm c.sCom) = m := ⟨_, rfl⟩
  have hset : setC c s = ⟨s.p, m1, m3, m2, c.pre ++ s.path, m5, m4⟩ := by unfold setC; rw [e1, e2, e3, e4, e5]
  rw [hset]
  refine ACall_of tabOk Try.func13 rfl Try.ntmps13 (congrArg Array.toList Try.results13) (by kernel_rfl) rfl ?_
  refine A_seq ?_
  refine R_list ?_
  refine q_d ?_
  refine q_d ?_
  refine q_a ?_
  refine O_nil ?_
  refine q_j ?_
  refine A_cut [(2, .ptr 2 0), (3, .ptr 3 0), (4, .ptr 4 0)] [(2, .var ((clsD c).map .d)), (3, .var (sbjV s (.d (usD s.path)) (.d (usD s.com)))), (4, .var sbjZ)] ?_ ?_
  ·
    repeat ((fail_if_success (refine stopL ?_)); (fail_if_success (refine stopC ?_)); first | refine A_seq ?_ | refine A_block ?_ | refine R_list ?_ | refine R_quiet rfl mixed (by kernel_rfl) ?_ | ((first | apply O_y rfl rfl rfl | apply Q_y rfl rfl rfl); (first | exact R_addN rfl rfl rfl | exact R_subN rfl rfl rfl | (first | exact q_A | exact q_5 | exact q_B | fail))) | refine O_nil ?_ | refine Q_nil ?_ | refine q_j ?_ | refine q_k ?_ | refine q_d ?_ | refine q_a ?_ | refine q_b ?_ | refine q_c ?_ | refine A_ct rfl ?_ | refine A_cf rfl ?_ | refine A_skip ?_ | refine A_exit ?_ | refine A_ret ?_ | refine q_l ?_ | refine q_m ?_ | refine q_n ?_ | refine q_h ?_ | refine q_o ?_ | refine q_e ?_ | refine q_f ?_ | refine q_g ?_ | refine O_c rfl rfl rfl rfl rfl ho (fun _ => rfl) ?_)
    exact Wk_sel ⟨rfl, rfl, rfl, trivial⟩ ⟨rfl, rfl, rfl, trivial⟩
  refine A_cut [(2, .ptr 2 0), (3, .ptr 3 0), (4, .ptr 4 0)] [(2, .var ((clsD c).map .d)), (3, .var (sbjV { s with met := m1 } (.d (usD s.path)) (.d (usD s.com)))), (4, .var sbjZ)] ?_ ?_
  · by_cases hc : c.sMet = -1
    · rw [if_pos hc] at e1
      subst e1
      repeat ((fail_if_success (refine stopL ?_)); (fail_if_success (refine stopC ?_)); first | refine A_seq ?_ | refine A_block ?_ | refine R_list ?_ | refine R_quiet rfl mixed (by kernel_rfl) ?_ | ((first | apply O_y rfl rfl rfl | apply Q_y rfl rfl rfl); (first | exact R_addN rfl rfl rfl | exact R_subN rfl rfl rfl | (first | exact q_A | exact q_5 | exact q_B | fail))) | refine O_nil ?_ | refine Q_nil ?_ | refine q_j ?_ | refine q_k ?_ | refine q_d ?_ | refine q_a ?_ | refine q_b ?_ | refine q_c ?_ | refine A_ct rfl ?_ | refine A_cf rfl ?_ | refine A_skip ?_ | refine A_exit ?_ | refine A_ret ?_ | refine q_l ?_ | refine q_m ?_ | refine q_n ?_ | refine q_h ?_ | refine q_o ?_ | refine q_e ?_ | refine q_f ?_ | refine q_g ?_ | fail)
      exact Wk_sel ⟨rfl, rfl, rfl, trivial⟩ ⟨rfl, rfl, rfl, trivial⟩
    · rw [if_neg hc] at e1
      subst e1
      repeat ((fail_if_success (refine stopL ?_)); (fail_if_success (refine stopC ?_)); first | refine A_seq ?_ | refine A_block ?_ | refine R_list ?_ | refine R_quiet rfl mixed (by kernel_rfl) ?_ | ((first | apply O_y rfl rfl rfl | apply Q_y rfl rfl rfl); (first | exact R_addN rfl rfl rfl | exact R_subN rfl rfl rfl | (first | exact q_A | exact q_5 | exact q_B | fail))) | refine O_nil ?_ | refine Q_nil ?_ | refine q_j ?_ | refine q_k ?_ | refine q_d ?_ | refine q_a ?_ | refine q_b ?_ | refine q_c ?_ | refine A_ct rfl ?_ | refine A_cf rfl ?_ | refine A_skip ?_ | refine A_exit ?_ | refine A_ret ?_ | refine q_l ?_ | refine q_m ?_ | refine q_n ?_ | refine q_h ?_ | refine q_o ?_ | refine q_e ?_ | refine q_f ?_ | refine q_g ?_ | fail)
      exact Wk_sel ⟨rfl, rfl, rfl, trivial⟩ ⟨rfl, rfl, rfl, trivial⟩
  refine A_cut [(2, .ptr 2 0), (3, .ptr 3 0), (4, .ptr 4 0)] [(2, .var ((clsD c).map .d)), (3, .var (sbjV { s with met := m1, pref := m2 } (.d (usD s.path)) (.d (usD s.com)))), (4, .var sbjZ)] ?_ ?_
  · by_cases hc : c.sPref = -1
    · rw [if_pos hc] at e2
      subst e2
      repeat ((fail_if_success (refine stopL ?_)); (fail_if_success (refine stopC ?_)); first | refine A_seq ?_ | refine A_block ?_ | refine R_list ?_ | refine R_quiet rfl mixed (by kernel_rfl) ?_ | ((first | apply O_y rfl rfl rfl | apply Q_y rfl rfl rfl); (first | exact R_addN rfl rfl rfl | exact R_subN rfl rfl rfl | (first | exact q_A | exact q_5 | exact q_B | fail))) | refine O_nil ?_ | refine Q_nil ?_ | refine q_j ?_ | refine q_k ?_ | refine q_d ?_ | refine q_a ?_ | refine q_b ?_ | refine q_c ?_ | refine A_ct rfl ?_ | refine A_cf rfl ?_ | refine A_skip ?_ | refine A_exit ?_ | refine A_ret ?_ | refine q_l ?_ | refine q_m ?_ | refine q_n ?_ | refine q_h ?_ | refine q_o ?_ | refine q_e ?_ | refine q_f ?_ | refine q_g ?_ | fail)
      exact Wk_sel ⟨rfl, rfl, rfl, trivial⟩ ⟨rfl, rfl, rfl, trivial⟩
    · rw [if_neg hc] at e2
      subst e2
      repeat ((fail_if_success (refine stopL ?_)); (fail_if_success (refine stopC ?_)); first | refine A_seq ?_ | refine A_block ?_ | refine R_list ?_ | refine R_quiet rfl mixed (by kernel_rfl) ?_ | ((first | apply O_y rfl rfl rfl | apply Q_y rfl rfl rfl); (first | exact R_addN rfl rfl rfl | exact R_subN rfl rfl rfl | (first | exact q_A | exact q_5 | exact q_B | fail))) | refine O_nil ?_ | refine Q_nil ?_ | refine q_j ?_ | refine q_k ?_ | refine q_d ?_ | refine q_a ?_ | refine q_b ?_ | refine q_c ?_ | refine A_ct rfl ?_ | refine A_cf rfl ?_ | refine A_skip ?_ | refine A_exit ?_ | refine A_ret ?_ | refine q_l ?_ | refine q_m ?_ | refine q_n ?_ | refine q_h ?_ | refine q_o ?_ | refine q_e ?_ | refine q_f ?_ | refine q_g ?_ | fail)
      exact Wk_sel ⟨rfl, rfl, rfl, trivial⟩ ⟨rfl, rfl, rfl, trivial⟩
  refine A_cut [(2, .ptr 2 0), (3, .ptr 3 0), (4, .ptr 4 0)] [(2, .var ((clsD c).map .d)), (3, .var (sbjV { s with met := m1, pref := m2, tag := m3 } (.d (usD s.path)) (.d (usD s.com)))), (4, .var sbjZ)] ?_ ?_
  · by_cases hc : c.sTag = -1
    · rw [if_pos hc] at e3
      subst e3
      repeat ((fail_if_success (refine stopL ?_)); (fail_if_success (refine stopC ?_)); first | refine A_seq ?_ | refine A_block ?_ | refine R_list ?_ | refine R_quiet rfl mixed (by kernel_rfl) ?_ | ((first | apply O_y rfl rfl rfl | apply Q_y rfl rfl rfl); (first | exact R_addN rfl rfl rfl | exact R_subN rfl rfl rfl | (first | exact q_A | exact q_5 | exact q_B | fail))) | refine O_nil ?_ | refine Q_nil ?_ | refine q_j ?_ | refine q_k ?_ | refine q_d ?_ | refine q_a ?_ | refine q_b ?_ | refine q_c ?_ | refine A_ct rfl ?_ | refine A_cf rfl ?_ | refine A_skip ?_ | refine A_exit ?_ | refine A_ret ?_ | refine q_l ?_ | refine q_m ?_ | refine q_n ?_ | refine q_h ?_ | refine q_o ?_ | refine q_e ?_ | refine q_f ?_ | refine q_g ?_ | fail)
      exact Wk_sel ⟨rfl, rfl, rfl, trivial⟩ ⟨rfl, rfl, rfl, trivial⟩
    · rw [if_neg hc] at e3
      subst e3
      repeat ((fail_if_success (refine stopL ?_)); (fail_if_success (refine stopC ?_)); first | refine A_seq ?_ | refine A_block ?_ | refine R_list ?_ | refine R_quiet rfl mixed (by kernel_rfl) ?_ | ((first | apply O_y rfl rfl rfl | apply Q_y rfl rfl rfl); (first | exact R_addN rfl rfl rfl | exact R_subN rfl rfl rfl | (first | exact q_A | exact q_5 | exact q_B | fail))) | refine O_nil ?_ | refine Q_nil ?_ | refine q_j ?_ | refine q_k ?_ | refine q_d ?_ | refine q_a ?_ | refine q_b ?_ | refine q_c ?_ | refine A_ct rfl ?_ | refine A_cf rfl ?_ | refine A_skip ?_ | refine A_exit ?_ | refine A_ret ?_ | refine q_l ?_ | refine q_m ?_ | refine q_n ?_ | refine q_h ?_ | refine q_o ?_ | refine q_e ?_ | refine q_f ?_ | refine q_g ?_ | fail)
      exact Wk_sel ⟨rfl, rfl, rfl, trivial⟩ ⟨rfl, rfl, rfl, trivial⟩
  refine A_cut [(2, .ptr 2 0), (3, .ptr 3 0), (4, .ptr 4 0)] [(2, .var ((clsD c).map .d)), (3, .var (sbjV ⟨s.p, m1, m3, m2, [], [], m4⟩ (.d (usD s.path)) (.d (usD s.com)))), (4, .var sbjZ)] ?_ ?_
  · by_cases hc : c.sHop = 0
    · rw [if_pos hc] at e4
      subst e4
      repeat ((fail_if_success (refine stopL ?_)); (fail_if_success (refine stopC ?_)); first | refine A_seq ?_ | refine A_block ?_ | refine R_list ?_ | refine R_quiet rfl mixed (by kernel_rfl) ?_ | ((first | apply O_y rfl rfl rfl | apply Q_y rfl rfl rfl); (first | exact R_addN rfl rfl rfl | exact R_subN rfl rfl rfl | (first | exact q_A | exact q_5 | exact q_B | fail))) | refine O_nil ?_ | refine Q_nil ?_ | refine q_j ?_ | refine q_k ?_ | refine q_d ?_ | refine q_a ?_ | refine q_b ?_ | refine q_c ?_ | refine A_ct rfl ?_ | refine A_cf rfl ?_ | refine A_skip ?_ | refine A_exit ?_ | refine A_ret ?_ | refine q_l ?_ | refine q_m ?_ | refine q_n ?_ | refine q_h ?_ | refine q_o ?_ | refine q_e ?_ | refine q_f ?_ | refine q_g ?_ | fail)
      exact Wk_sel ⟨rfl, rfl, rfl, trivial⟩ ⟨rfl, rfl, rfl, trivial⟩
    · rw [if_neg hc] at e4
      subst e4
      repeat ((fail_if_success (refine stopL ?_)); (fail_if_success (refine stopC ?_)); first | refine A_seq ?_ | refine A_block ?_ | refine R_list ?_ | refine R_quiet rfl mixed (by kernel_rfl) ?_ | ((first | apply O_y rfl rfl rfl | apply Q_y rfl rfl rfl); (first | exact R_addN rfl rfl rfl | exact R_subN rfl rfl rfl | (first | exact q_A | exact q_5 | exact q_B | fail))) | refine O_nil ?_ | refine Q_nil ?_ | refine q_j ?_ | refine q_k ?_ | refine q_d ?_ | refine q_a ?_ | refine q_b ?_ | refine q_c ?_ | refine A_ct rfl ?_ | refine A_cf rfl ?_ | refine A_skip ?_ | refine A_exit ?_ | refine A_ret ?_ | refine q_l ?_ | refine q_m ?_ | refine q_n ?_ | refine q_h ?_ | refine q_o ?_ | refine q_e ?_ | refine q_f ?_ | refine q_g ?_ | fail)
      exact Wk_sel ⟨rfl, rfl, rfl, trivial⟩ ⟨rfl, rfl, rfl, trivial⟩
  refine A_cut [(2, .ptr 2 0), (3, .ptr 3 0), (4, .ptr 4 0)] [(2, .var ((clsD c).map .d)), (3, .var (sbjV ⟨s.p, m1, m3, m2, [], [], m4⟩ (.d (usD s.path)) (.d (usD m5)))), (4, .var sbjZ)] ?_ ?_
  · by_cases hc : c.sCom.length = 0
    · rw [if_pos hc] at e5
      subst e5
      repeat ((fail_if_success (refine stopL ?_)); (fail_if_success (refine stopC ?_)); first | refine A_seq ?_ | refine A_block ?_ | refine R_list ?_ | refine R_quiet rfl mixed (by kernel_rfl) ?_ | ((first | apply O_y rfl rfl rfl | apply Q_y rfl rfl rfl); (first | exact R_addN rfl rfl rfl | exact R_subN rfl rfl rfl | (first | exact q_A | exact q_5 | exact q_B | fail))) | refine O_nil ?_ | refine Q_nil ?_ | refine q_j ?_ | refine q_k ?_ | refine q_d ?_ | refine q_a ?_ | refine q_b ?_ | refine q_c ?_ | refine A_ct rfl ?_ | refine A_cf rfl ?_ | refine A_skip ?_ | refine A_exit ?_ | refine A_ret ?_ | refine q_l ?_ | refine q_m ?_ | refine q_n ?_ | refine q_h ?_ | refine q_o ?_ | refine q_e ?_ | refine q_f ?_ | refine q_g ?_ | fail)
      exact Wk_sel ⟨rfl, rfl, rfl, trivial⟩ ⟨rfl, rfl, rfl, trivial⟩
    · rw [if_neg hc] at e5
      cases had : c.add with
      | true =>
        rw [had, if_pos rfl] at e5
        rw [e5] at hj
        repeat ((fail_if_success (refine stopL ?_)); first | refine A_seq ?_ | refine A_block ?_ | refine R_list ?_ | refine R_quiet rfl mixed (by kernel_rfl) ?_ | ((first | apply O_y rfl rfl rfl | apply Q_y rfl rfl rfl); (first | exact R_addN rfl rfl rfl | exact R_subN rfl rfl rfl | (first | exact q_A | exact q_5 | exact q_B | fail))) | refine O_nil ?_ | refine Q_nil ?_ | refine q_j ?_ | refine q_k ?_ | refine q_d ?_ | refine q_a ?_ | refine q_b ?_ | refine q_c ?_ | refine A_ct rfl ?_ | refine A_cf rfl ?_ | refine A_skip ?_ | refine A_exit ?_ | refine A_ret ?_ | refine q_l ?_ | refine q_m ?_ | refine q_n ?_ | refine q_h ?_ | refine q_o ?_ | refine q_e ?_ | refine q_f ?_ | refine q_g ?_ | refine O_c rfl rfl rfl rfl rfl hj (fun _ => rfl) ?_)
        exact Wk_sel ⟨rfl, rfl, rfl, trivial⟩ ⟨rfl, rfl, rfl, trivial⟩
      | false =>
        rw [had, if_neg (by decide)] at e5
        rw [e5] at hn
        repeat ((fail_if_success (refine stopL ?_)); first | refine A_seq ?_ | refine A_block ?_ | refine R_list ?_ | refine R_quiet rfl mixed (by kernel_rfl) ?_ | ((first | apply O_y rfl rfl rfl | apply Q_y rfl rfl rfl); (first | exact R_addN rfl rfl rfl | exact R_subN rfl rfl rfl | (first | exact q_A | exact q_5 | exact q_B | fail))) | refine O_nil ?_ | refine Q_nil ?_ | refine q_j ?_ | refine q_k ?_ | refine q_d ?_ | refine q_a ?_ | refine q_b ?_ | refine q_c ?_ | refine A_ct rfl ?_ | refine A_cf rfl ?_ | refine A_skip ?_ | refine A_exit ?_ | refine A_ret ?_ | refine q_l ?_ | refine q_m ?_ | refine q_n ?_ | refine q_h ?_ | refine q_o ?_ | refine q_e ?_ | refine q_f ?_ | refine q_g ?_ | refine O_c rfl rfl rfl rfl rfl hn (fun _ => rfl) ?_)
        exact Wk_sel ⟨rfl, rfl, rfl, trivial⟩ ⟨rfl, rfl, rfl, trivial⟩
  have f1 : (c.pre.flatMap u1D).length = c.pre.length * 1 := flat_len u1D_len _
  have f2 : (s.path.flatMap u1D).length = s.path.length * 1 := flat_len u1D_len _
  refine A_cut [(2, .ptr 2 0), (3, .ptr 3 0), (4, .ptr 4 0)] [(2, .var ((clsD c).map .d)), (3, .var (sbjV ⟨s.p, m1, m3, m2, [], [], m4⟩ (.row 47) (.d (usD m5)))), (4, .var sbjZ), (47, uB (c.pre ++ s.path))] ?_ ?_
  · refine N_begin [3, 47] mixed ?_
    apply q_P 1 rfl (by kernel_rfl) rfl rfl rfl
    exact q_8
    apply q_P 2 rfl (by kernel_rfl) rfl rfl rfl
    exact q_7
    apply q_P 4 rfl (by kernel_rfl) rfl rfl rfl
    exact q_8
    refine N_two (j := 0) (k := 5) (by kernel_rfl) ?_ ?_
    · refine T_slice0 tabOk rfl rfl rfl rfl rfl rfl rfl rfl ?_
      refine N_two (j := 3) (k := 5) (by kernel_rfl) ?_ ?_
      · refine T_appR tabOk rfl rfl rfl rfl rfl rfl rfl rfl rfl rfl rfl rfl (Src.dat _ _) f1 (by omega) rfl ?_
        refine N_one (j := 5) (by kernel_rfl) ?_
        apply T_yield rfl rfl rfl rfl
        exact q_7
        refine N_one (j := 6) (by kernel_rfl) ?_
        refine T_appR tabOk rfl rfl rfl rfl rfl rfl rfl rfl rfl rfl rfl rfl (Src.dat _ _) f2 (by omega) rfl ?_
        apply q_P 7 rfl (by kernel_rfl) rfl rfl rfl
        exact q_8
        refine N_one (j := 8) (by kernel_rfl) ?_
        refine T_store tabOk rfl rfl rfl rfl rfl rfl rfl rfl rfl rfl rfl rfl rfl ?_
        refine N_done (by kernel_rfl) ?_
        refine q_j ?_
        exact Wk_sel ⟨rfl, rfl, rfl, trivial⟩ ⟨rfl, rfl, rfl, row_eq (by simp) (by simp) rfl, trivial⟩
      · apply T_yield rfl rfl rfl rfl
        exact q_7
        refine N_one (j := 3) (by kernel_rfl) ?_
        refine T_appR tabOk rfl rfl rfl rfl rfl rfl rfl rfl rfl rfl rfl rfl (Src.dat _ _) f1 (by omega) rfl ?_
        refine N_one (j := 6) (by kernel_rfl) ?_
        refine T_appR tabOk rfl rfl rfl rfl rfl rfl rfl rfl rfl rfl rfl rfl (Src.dat _ _) f2 (by omega) rfl ?_
        apply q_P 7 rfl (by kernel_rfl) rfl rfl rfl
        exact q_8
        refine N_one (j := 8) (by kernel_rfl) ?_
        refine T_store tabOk rfl rfl rfl rfl rfl rfl rfl rfl rfl rfl rfl rfl rfl ?_
        refine N_done (by kernel_rfl) ?_
        refine q_j ?_
        exact Wk_sel ⟨rfl, rfl, rfl, trivial⟩ ⟨rfl, rfl, rfl, row_eq (by simp) (by simp) rfl, trivial⟩
    · apply T_yield rfl rfl rfl rfl
      exact q_7
      refine N_one (j := 0) (by kernel_rfl) ?_
      refine T_slice0 tabOk rfl rfl rfl rfl rfl rfl rfl rfl ?_
      refine N_one (j := 3) (by kernel_rfl) ?_
      refine T_appR tabOk rfl rfl rfl rfl rfl rfl rfl rfl rfl rfl rfl rfl (Src.dat _ _) f1 (by omega) rfl ?_
      refine N_one (j := 6) (by kernel_rfl) ?_
      refine T_appR tabOk rfl rfl rfl rfl rfl rfl rfl rfl rfl rfl rfl rfl (Src.dat _ _) f2 (by omega) rfl ?_
      apply q_P 7 rfl (by kernel_rfl) rfl rfl rfl
      exact q_8
      refine N_one (j := 8) (by kernel_rfl) ?_
      refine T_store tabOk rfl rfl rfl rfl rfl rfl rfl rfl rfl rfl rfl rfl rfl ?_
      refine N_done (by kernel_rfl) ?_
      refine q_j ?_
      exact Wk_sel ⟨rfl, rfl, rfl, trivial⟩ ⟨rfl, rfl, rfl, row_eq (by simp) (by simp) rfl, trivial⟩
  refine A_weaken (Wk_freeze (id := 47) rfl) ?_
  repeat ((fail_if_success (refine stopL ?_)); first | refine A_seq ?_ | refine A_block ?_ | refine R_list ?_ | refine R_quiet rfl mixed (by kernel_rfl) ?_ | ((first | apply O_y rfl rfl rfl | apply Q_y rfl rfl rfl); (first | exact R_addN rfl rfl rfl | exact R_subN rfl rfl rfl | (first | exact q_A | exact q_5 | exact q_B | fail))) | refine O_nil ?_ | refine Q_nil ?_ | refine q_j ?_ | refine q_k ?_ | refine q_d ?_ | refine q_a ?_ | refine q_b ?_ | refine q_c ?_ | refine A_ct rfl ?_ | refine A_cf rfl ?_ | refine A_skip ?_ | refine A_exit ?_ | refine A_ret ?_ | refine q_l ?_ | refine q_m ?_ | refine q_n ?_ | refine q_h ?_ | refine q_o ?_ | refine q_e ?_ | refine q_f ?_ | refine q_g ?_ | fail)
  exact X_retW AWk.refl rfl (h2 := []) trivial ⟨rfl, rfl⟩
end Go.Proofs.Ytmljmahlpcdhoaa.Ab

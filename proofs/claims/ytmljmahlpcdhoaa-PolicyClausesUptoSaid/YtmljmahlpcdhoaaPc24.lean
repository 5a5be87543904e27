/-
  Texts of a proof, one behind the other (part 25).
-/
import Derived.Test.YtmljmahlpcdhoaaPc2
import Derived.Test.YtmljmahlpcdhoaaPc22
import Derived.Test.YtmljmahlpcdhoaaPc23
set_option linter.unusedVariables false
set_option linter.unusedSimpArgs false
namespace Go.Proofs.Ytmljmahlpcdhoaa
set_option linter.unusedVariables false
set_option maxRecDepth 100000
open Go.RowKit Go.Lib
def setC (c : Cls) (s : Sbj) : Sbj :=
  { p := s.p, met := if c.sMet = -1 then s.met else c.sMet, tag := if c.sTag = -1 then s.tag else c.sTag, pref := if c.sPref = -1 then s.pref else c.sPref, path := c.pre ++ s.path,
    com := if c.sCom.length = 0 then s.com else if c.add then nrm (s.com ++ c.sCom) else nrm c.sCom, hop := if c.sHop = 0 then s.hop else c.sHop }
namespace Ab
set_option linter.unusedSimpArgs false
attribute [local irreducible] AWp AOps AQ AYield AEff ACall AWk AAny AAt AThen AIn APost NoPanic
def sbjV (s : Sbj) (x y : AVal) : List AVal := [.d (uD s.p.a), .d (iD s.p.b), .d (iD s.met), .d (iD s.tag), .d (iD s.pref), x, y, .d (uD s.hop)]
def sbjZ : List AVal := [.d (uD 0), .d (iD 0), .d (iD 0), .d (iD 0), .d (iD 0), .d (.sc (.slice none 0 0)), .d (.sc (.slice none 0 0)), .d (uD 0)]
theorem has_sbj {s : Sbj} {a b : Nat} {l m : List Int} (j : Nat) (h : (AVal.agg (sbjV s (.row a) (.row b))).has j = true) : (look [(a, uB l), (b, uB m)] j).isSome = true := by
  simp only [AVal.has, hasL, sbjV, Bool.false_or, Bool.or_false, Bool.or_eq_true, beq_iff_eq] at h
  simp only [look]
  rcases h with h | h
  · subst h; rw [beq_yes]; rfl
  · subst h
    cases Nat.beq a b
    · rw [beq_yes]; rfl
    · rfl
theorem blk_sbj {a b : Nat} {l m : List Int} (id : Nat) (c : ABlk) (j : Nat) (h : look [(a, uB l), (b, uB m)] id = some c) (hh : blkHas j c = true) : (look [(a, uB l), (b, uB m)] j).isSome = true := by
  simp only [look] at h
  cases h1 : Nat.beq a id
  · rw [h1] at h
    cases h2 : Nat.beq b id
    · rw [h2] at h; cases h
    · rw [h2] at h; cases h; cases hh
  · rw [h1] at h; cases h; cases hh
set_option maxHeartbeats 4000000 in
theorem ownR_A (s : Sbj) (h1 : s.path.length ≤ 1000000000) (h2 : s.com.length ≤ 1000000000) : ACall Try.prog 24 [aggD (sbjD s)] [] (fun c h => c = .agg (sbjV s (.row 21) (.row 22)) ∧ h = [(21, uB s.path), (22, uB s.com)]) := by
  have a1 := ACall.reid (id := 21) rfl (cloneU_A s.path (by omega))
  have a2 := ACall.reid (id := 22) rfl (cloneU_A s.com (by omega))
  refine ACall_of tabOk Try.func24 rfl Try.ntmps24 (congrArg Array.toList Try.results24) (by kernel_rfl) rfl ?_
  refine A_seq ?_
  refine R_list ?_
  refine q_d ?_
  refine q_a ?_
  refine O_nil ?_
  refine q_j ?_
  refine A_cut [(1, .ptr 1 0), (2, .ptr 2 0)] [(1, .var (sbjV s (.row 21) (.row 22))), (2, .var sbjZ), (21, uB s.path), (22, uB s.com)] ?_ ?_
  · refine N_begin [1] mixed ?_
    apply N_take (i := 0) rfl (by kernel_rfl) (by kernel_rfl) (by kernel_rfl) (by repeat (first | exact np_rf | exact np_post | refine np_then ?_ | refine np_in ?_)) rfl rfl rfl
    exact q_8
    apply N_take (i := 3) rfl (by kernel_rfl) (by kernel_rfl) (by kernel_rfl) (by repeat (first | exact np_rf | exact np_post | refine np_then ?_ | refine np_in ?_)) rfl rfl rfl
    exact q_8
    refine N_two (j := 1) (k := 4) (by kernel_rfl) ?_ ?_
    · apply T_yield rfl rfl rfl rfl
      exact q_7
      refine N_two (j := 2) (k := 4) (by kernel_rfl) ?_ ?_
      · first | refine T_cRow rfl rfl rfl rfl rfl rfl a1 rfl ?_ | refine T_cRow rfl rfl rfl rfl rfl rfl a2 rfl ?_
        refine N_one (j := 4) (by kernel_rfl) ?_
        apply T_yield rfl rfl rfl rfl
        exact q_7
        apply N_take (i := 6) rfl (by kernel_rfl) (by kernel_rfl) (by kernel_rfl) (by repeat (first | exact np_rf | exact np_post | refine np_then ?_ | refine np_in ?_)) rfl rfl rfl
        exact q_8
        refine N_one (j := 5) (by kernel_rfl) ?_
        first | refine T_cRow rfl rfl rfl rfl rfl rfl a1 rfl ?_ | refine T_cRow rfl rfl rfl rfl rfl rfl a2 rfl ?_
        refine N_one (j := 7) (by kernel_rfl) ?_
        refine T_store tabOk rfl rfl rfl rfl rfl rfl rfl rfl rfl rfl rfl rfl rfl ?_
        apply N_take (i := 8) rfl (by kernel_rfl) (by kernel_rfl) (by kernel_rfl) (by repeat (first | exact np_rf | exact np_post | refine np_then ?_ | refine np_in ?_)) rfl rfl rfl
        exact q_8
        refine N_one (j := 9) (by kernel_rfl) ?_
        refine T_store tabOk rfl rfl rfl rfl rfl rfl rfl rfl rfl rfl rfl rfl rfl ?_
        refine N_done (by kernel_rfl) ?_
        refine q_j ?_
        exact Wk_sel ⟨rfl, rfl, trivial⟩ ⟨rfl, rfl, rfl, rfl, trivial⟩
      · apply T_yield rfl rfl rfl rfl
        exact q_7
        refine N_one (j := 2) (by kernel_rfl) ?_
        first | refine T_cRow rfl rfl rfl rfl rfl rfl a1 rfl ?_ | refine T_cRow rfl rfl rfl rfl rfl rfl a2 rfl ?_
        apply N_take (i := 6) rfl (by kernel_rfl) (by kernel_rfl) (by kernel_rfl) (by repeat (first | exact np_rf | exact np_post | refine np_then ?_ | refine np_in ?_)) rfl rfl rfl
        exact q_8
        refine N_one (j := 5) (by kernel_rfl) ?_
        first | refine T_cRow rfl rfl rfl rfl rfl rfl a1 rfl ?_ | refine T_cRow rfl rfl rfl rfl rfl rfl a2 rfl ?_
        refine N_one (j := 7) (by kernel_rfl) ?_
        refine T_store tabOk rfl rfl rfl rfl rfl rfl rfl rfl rfl rfl rfl rfl rfl ?_
        apply N_take (i := 8) rfl (by kernel_rfl) (by kernel_rfl) (by kernel_rfl) (by repeat (first | exact np_rf | exact np_post | refine np_then ?_ | refine np_in ?_)) rfl rfl rfl
        exact q_8
        refine N_one (j := 9) (by kernel_rfl) ?_
        refine T_store tabOk rfl rfl rfl rfl rfl rfl rfl rfl rfl rfl rfl rfl rfl ?_
        refine N_done (by kernel_rfl) ?_
        refine q_j ?_
        exact Wk_sel ⟨rfl, rfl, trivial⟩ ⟨rfl, rfl, rfl, rfl, trivial⟩
    · apply T_yield rfl rfl rfl rfl
      exact q_7
      refine N_one (j := 1) (by kernel_rfl) ?_
      apply T_yield rfl rfl rfl rfl
      exact q_7
      refine N_one (j := 2) (by kernel_rfl) ?_
      first | refine T_cRow rfl rfl rfl rfl rfl rfl a1 rfl ?_ | refine T_cRow rfl rfl rfl rfl rfl rfl a2 rfl ?_
      apply N_take (i := 6) rfl (by kernel_rfl) (by kernel_rfl) (by kernel_rfl) (by repeat (first | exact np_rf | exact np_post | refine np_then ?_ | refine np_in ?_)) rfl rfl rfl
      exact q_8
      refine N_one (j := 5) (by kernel_rfl) ?_
      first | refine T_cRow rfl rfl rfl rfl rfl rfl a1 rfl ?_ | refine T_cRow rfl rfl rfl rfl rfl rfl a2 rfl ?_
      refine N_one (j := 7) (by kernel_rfl) ?_
      refine T_store tabOk rfl rfl rfl rfl rfl rfl rfl rfl rfl rfl rfl rfl rfl ?_
      apply N_take (i := 8) rfl (by kernel_rfl) (by kernel_rfl) (by kernel_rfl) (by repeat (first | exact np_rf | exact np_post | refine np_then ?_ | refine np_in ?_)) rfl rfl rfl
      exact q_8
      refine N_one (j := 9) (by kernel_rfl) ?_
      refine T_store tabOk rfl rfl rfl rfl rfl rfl rfl rfl rfl rfl rfl rfl rfl ?_
      refine N_done (by kernel_rfl) ?_
      refine q_j ?_
      exact Wk_sel ⟨rfl, rfl, trivial⟩ ⟨rfl, rfl, rfl, rfl, trivial⟩
  ·
    repeat (first | refine A_seq ?_ | refine A_block ?_ | refine R_list ?_ | refine R_quiet rfl mixed (by kernel_rfl) ?_ | ((first | apply O_y rfl rfl rfl | apply Q_y rfl rfl rfl); (first | exact q_A | exact q_5 | exact q_B | fail)) | refine O_nil ?_ | refine Q_nil ?_ | refine q_j ?_ | refine q_k ?_ | refine q_d ?_ | refine q_a ?_ | refine q_b ?_ | refine q_c ?_ | refine A_ct rfl ?_ | refine A_cf rfl ?_ | refine A_skip ?_ | refine A_exit ?_ | refine A_ret ?_ | refine q_l ?_ | refine q_m ?_ | refine q_n ?_ | refine q_h ?_ | refine q_o ?_ | refine q_e ?_ | refine q_f ?_ | refine q_g ?_ | fail)
    exact X_retW AWk.refl rfl (h2 := [(21, uB s.path), (22, uB s.com)]) ⟨rfl, rfl, trivial⟩ ⟨rfl, rfl⟩
theorem own_A (s : Sbj) (h1 : s.path.length ≤ 1000000000) (h2 : s.com.length ≤ 1000000000) : ACall Try.prog 24 [aggD (sbjD s)] [] (Just (aggD (sbjD s))) :=
  ACall.wk (ownR_A s h1 h2) (((Wk_freeze (id := 21) rfl).trans (Wk_freeze (id := 22) rfl)).trans (Wk_sel ⟨rfl, trivial⟩ trivial))
theorem make_cells (a b : List Int) (z : Dat) : setW (setW (List.replicate (a.length + b.length) z) 0 (a.flatMap u1D)) (a.length * 1) (b.flatMap u1D) = (a ++ b).flatMap u1D := by
  have h1 := u1_len a
  have h2 := u1_len b
  have e1 : setW (List.replicate (a.length + b.length) z) 0 (a.flatMap u1D) = a.flatMap u1D ++ List.replicate b.length z := by
    unfold setW
    rw [List.take_zero, List.nil_append, Nat.zero_add, h1, List.drop_replicate]
    congr 2
    omega
  rw [e1]
  unfold setW
  rw [Nat.mul_one, ← h1, List.take_left, h2, List.drop_append, List.drop_of_length_le (by omega), List.drop_of_length_le (by rw [List.length_replicate]; omega), List.append_nil, List.append_nil, List.flatMap_append]
set_option maxHeartbeats 16000000 in
theorem setR_A (c : Cls) (s : Sbj) (h1 : s.path.length + c.pre.length ≤ 1000000000) (h2 : s.com.length + c.sCom.length ≤ 1000000000) :
    ACall Try.prog 14 [aggD (clsD c), aggD (sbjD s)] [] (fun x h => x = .agg (sbjV (setC c s) (.row 57) (.row 22)) ∧ h = [(57, uB (setC c s).path), (22, uB (setC c s).com)]) := by
  have ho := ownR_A s (by omega) (by omega)
  have hj := ACall.reid (id := 22) rfl (join_A s.com c.sCom h2)
  have hn := ACall.reid (id := 22) rfl (normal_A c.sCom (by omega))
  obtain ⟨m1, e1⟩ : ∃ m, (if c.sMet = -1 then s.met else c.sMet) = m := ⟨_, rfl⟩
  obtain ⟨m2, e2⟩ : ∃ m, (if c.sPref = -1 then s.pref else c.sPref) = m := ⟨_, rfl⟩
  obtain ⟨m3, e3⟩ : ∃ m, (if c.sTag = -1 then s.tag else c.sTag) = m := ⟨_, rfl⟩
  obtain ⟨m4, e4⟩ : ∃ m, (if c.sHop = 0 then s.hop else c.sHop) = m := ⟨_, rfl⟩
  obtain ⟨m5, e5⟩ : ∃ m, (if c.sCom.length = 0 then s.com else if c.add then nrm (s.com ++ c.sCom) else nrm c.sCom) = m := ⟨_, rfl⟩
  have hset : setC c s = ⟨s.p, m1, m3, m2, c.pre ++ s.path, m5, m4⟩ := by unfold setC; rw [e1, e2, e3, e4, e5]
  rw [hset]
  refine ACall_of tabOk Try.func14 rfl Try.ntmps14 (congrArg Array.toList Try.results14) (by kernel_rfl) rfl ?_
  refine A_seq ?_
  refine R_list ?_
  refine q_d ?_
  refine q_d ?_
  refine q_a ?_
  refine O_nil ?_
  refine q_j ?_
  repeat ((fail_if_success (refine stopL ?_)); (fail_if_success (refine stopC ?_)); first | refine A_seq ?_ | refine A_block ?_ | refine R_list ?_ | refine R_quiet rfl mixed (by kernel_rfl) ?_ | ((first | apply O_y rfl rfl rfl | apply Q_y rfl rfl rfl); (first | exact R_addN rfl rfl rfl | exact R_subN rfl rfl rfl | (first | exact q_A | exact q_5 | exact q_B | fail))) | refine O_nil ?_ | refine Q_nil ?_ | refine q_j ?_ | refine q_k ?_ | refine q_d ?_ | refine q_a ?_ | refine q_b ?_ | refine q_c ?_ | refine A_ct rfl ?_ | refine A_cf rfl ?_ | refine A_skip ?_ | refine A_exit ?_ | refine A_ret ?_ | refine q_l ?_ | refine q_m ?_ | refine q_n ?_ | refine q_h ?_ | refine q_o ?_ | refine q_e ?_ | refine q_f ?_ | refine q_g ?_ | (refine O_cN rfl rfl rfl rfl rfl ho rfl blk_sbj has_sbj ?_))
  refine A_weaken (Wk_freeze (id := 21) rfl) ?_
  refine A_cut [(2, .ptr 2 0), (3, .ptr 3 0), (4, .ptr 4 0)] [(2, .var ((clsD c).map .d)), (3, .var (sbjV { s with met := m1 } (.d (usD s.path)) (.row 22))), (4, .var sbjZ), (22, uB s.com)] ?_ ?_
  · by_cases hc : c.sMet = -1
    · rw [if_pos hc] at e1
      subst e1
      repeat ((fail_if_success (refine stopL ?_)); (fail_if_success (refine stopC ?_)); first | refine A_seq ?_ | refine A_block ?_ | refine R_list ?_ | refine R_quiet rfl mixed (by kernel_rfl) ?_ | ((first | apply O_y rfl rfl rfl | apply Q_y rfl rfl rfl); (first | exact R_addN rfl rfl rfl | exact R_subN rfl rfl rfl | (first | exact q_A | exact q_5 | exact q_B | fail))) | refine O_nil ?_ | refine Q_nil ?_ | refine q_j ?_ | refine q_k ?_ | refine q_d ?_ | refine q_a ?_ | refine q_b ?_ | refine q_c ?_ | refine A_ct rfl ?_ | refine A_cf rfl ?_ | refine A_skip ?_ | refine A_exit ?_ | refine A_ret ?_ | refine q_l ?_ | refine q_m ?_ | refine q_n ?_ | refine q_h ?_ | refine q_o ?_ | refine q_e ?_ | refine q_f ?_ | refine q_g ?_ | fail)
      exact Wk_sel ⟨rfl, rfl, rfl, trivial⟩ ⟨rfl, rfl, rfl, rfl, trivial⟩
    · rw [if_neg hc] at e1
      subst e1
      repeat ((fail_if_success (refine stopL ?_)); (fail_if_success (refine stopC ?_)); first | refine A_seq ?_ | refine A_block ?_ | refine R_list ?_ | refine R_quiet rfl mixed (by kernel_rfl) ?_ | ((first | apply O_y rfl rfl rfl | apply Q_y rfl rfl rfl); (first | exact R_addN rfl rfl rfl | exact R_subN rfl rfl rfl | (first | exact q_A | exact q_5 | exact q_B | fail))) | refine O_nil ?_ | refine Q_nil ?_ | refine q_j ?_ | refine q_k ?_ | refine q_d ?_ | refine q_a ?_ | refine q_b ?_ | refine q_c ?_ | refine A_ct rfl ?_ | refine A_cf rfl ?_ | refine A_skip ?_ | refine A_exit ?_ | refine A_ret ?_ | refine q_l ?_ | refine q_m ?_ | refine q_n ?_ | refine q_h ?_ | refine q_o ?_ | refine q_e ?_ | refine q_f ?_ | refine q_g ?_ | fail)
      exact Wk_sel ⟨rfl, rfl, rfl, trivial⟩ ⟨rfl, rfl, rfl, rfl, trivial⟩
  refine A_cut [(2, .ptr 2 0), (3, .ptr 3 0), (4, .ptr 4 0)] [(2, .var ((clsD c).map .d)), (3, .var (sbjV { s with met := m1, pref := m2 } (.d (usD s.path)) (.row 22))), (4, .var sbjZ), (22, uB s.com)] ?_ ?_
  · by_cases hc : c.sPref = -1
    · rw [if_pos hc] at e2
      subst e2
      repeat ((fail_if_success (refine stopL ?_)); (fail_if_success (refine stopC ?_)); first | refine A_seq ?_ | refine A_block ?_ | refine R_list ?_ | refine R_quiet rfl mixed (by kernel_rfl) ?_ | ((first | apply O_y rfl rfl rfl | apply Q_y rfl rfl rfl); (first | exact R_addN rfl rfl rfl | exact R_subN rfl rfl rfl | (first | exact q_A | exact q_5 | exact q_B | fail))) | refine O_nil ?_ | refine Q_nil ?_ | refine q_j ?_ | refine q_k ?_ | refine q_d ?_ | refine q_a ?_ | refine q_b ?_ | refine q_c ?_ | refine A_ct rfl ?_ | refine A_cf rfl ?_ | refine A_skip ?_ | refine A_exit ?_ | refine A_ret ?_ | refine q_l ?_ | refine q_m ?_ | refine q_n ?_ | refine q_h ?_ | refine q_o ?_ | refine q_e ?_ | refine q_f ?_ | refine q_g ?_ | fail)
      exact Wk_sel ⟨rfl, rfl, rfl, trivial⟩ ⟨rfl, rfl, rfl, rfl, trivial⟩
    · rw [if_neg hc] at e2
      subst e2
      repeat ((fail_if_success (refine stopL ?_)); (fail_if_success (refine stopC ?_)); first | refine A_seq ?_ | refine A_block ?_ | refine R_list ?_ | refine R_quiet rfl mixed (by kernel_rfl) ?_ | ((first | apply O_y rfl rfl rfl | apply Q_y rfl rfl rfl); (first | exact R_addN rfl rfl rfl | exact R_subN rfl rfl rfl | (first | exact q_A | exact q_5 | exact q_B | fail))) | refine O_nil ?_ | refine Q_nil ?_ | refine q_j ?_ | refine q_k ?_ | refine q_d ?_ | refine q_a ?_ | refine q_b ?_ | refine q_c ?_ | refine A_ct rfl ?_ | refine A_cf rfl ?_ | refine A_skip ?_ | refine A_exit ?_ | refine A_ret ?_ | refine q_l ?_ | refine q_m ?_ | refine q_n ?_ | refine q_h ?_ | refine q_o ?_ | refine q_e ?_ | refine q_f ?_ | refine q_g ?_ | fail)
      exact Wk_sel ⟨rfl, rfl, rfl, trivial⟩ ⟨rfl, rfl, rfl, rfl, trivial⟩
  refine A_cut [(2, .ptr 2 0), (3, .ptr 3 0), (4, .ptr 4 0)] [(2, .var ((clsD c).map .d)), (3, .var (sbjV { s with met := m1, pref := m2, tag := m3 } (.d (usD s.path)) (.row 22))), (4, .var sbjZ), (22, uB s.com)] ?_ ?_
  · by_cases hc : c.sTag = -1
    · rw [if_pos hc] at e3
      subst e3
      repeat ((fail_if_success (refine stopL ?_)); (fail_if_success (refine stopC ?_)); first | refine A_seq ?_ | refine A_block ?_ | refine R_list ?_ | refine R_quiet rfl mixed (by kernel_rfl) ?_ | ((first | apply O_y rfl rfl rfl | apply Q_y rfl rfl rfl); (first | exact R_addN rfl rfl rfl | exact R_subN rfl rfl rfl | (first | exact q_A | exact q_5 | exact q_B | fail))) | refine O_nil ?_ | refine Q_nil ?_ | refine q_j ?_ | refine q_k ?_ | refine q_d ?_ | refine q_a ?_ | refine q_b ?_ | refine q_c ?_ | refine A_ct rfl ?_ | refine A_cf rfl ?_ | refine A_skip ?_ | refine A_exit ?_ | refine A_ret ?_ | refine q_l ?_ | refine q_m ?_ | refine q_n ?_ | refine q_h ?_ | refine q_o ?_ | refine q_e ?_ | refine q_f ?_ | refine q_g ?_ | fail)
      exact Wk_sel ⟨rfl, rfl, rfl, trivial⟩ ⟨rfl, rfl, rfl, rfl, trivial⟩
    · rw [if_neg hc] at e3
      subst e3
      repeat ((fail_if_success (refine stopL ?_)); (fail_if_success (refine stopC ?_)); first | refine A_seq ?_ | refine A_block ?_ | refine R_list ?_ | refine R_quiet rfl mixed (by kernel_rfl) ?_ | ((first | apply O_y rfl rfl rfl | apply Q_y rfl rfl rfl); (first | exact R_addN rfl rfl rfl | exact R_subN rfl rfl rfl | (first | exact q_A | exact q_5 | exact q_B | fail))) | refine O_nil ?_ | refine Q_nil ?_ | refine q_j ?_ | refine q_k ?_ | refine q_d ?_ | refine q_a ?_ | refine q_b ?_ | refine q_c ?_ | refine A_ct rfl ?_ | refine A_cf rfl ?_ | refine A_skip ?_ | refine A_exit ?_ | refine A_ret ?_ | refine q_l ?_ | refine q_m ?_ | refine q_n ?_ | refine q_h ?_ | refine q_o ?_ | refine q_e ?_ | refine q_f ?_ | refine q_g ?_ | fail)
      exact Wk_sel ⟨rfl, rfl, rfl, trivial⟩ ⟨rfl, rfl, rfl, rfl, trivial⟩
  refine A_cut [(2, .ptr 2 0), (3, .ptr 3 0), (4, .ptr 4 0)] [(2, .var ((clsD c).map .d)), (3, .var (sbjV ⟨s.p, m1, m3, m2, [], [], m4⟩ (.d (usD s.path)) (.row 22))), (4, .var sbjZ), (22, uB s.com)] ?_ ?_
  · by_cases hc : c.sHop = 0
    · rw [if_pos hc] at e4
      subst e4
      repeat ((fail_if_success (refine stopL ?_)); (fail_if_success (refine stopC ?_)); first | refine A_seq ?_ | refine A_block ?_ | refine R_list ?_ | refine R_quiet rfl mixed (by kernel_rfl) ?_ | ((first | apply O_y rfl rfl rfl | apply Q_y rfl rfl rfl); (first | exact R_addN rfl rfl rfl | exact R_subN rfl rfl rfl | (first | exact q_A | exact q_5 | exact q_B | fail))) | refine O_nil ?_ | refine Q_nil ?_ | refine q_j ?_ | refine q_k ?_ | refine q_d ?_ | refine q_a ?_ | refine q_b ?_ | refine q_c ?_ | refine A_ct rfl ?_ | refine A_cf rfl ?_ | refine A_skip ?_ | refine A_exit ?_ | refine A_ret ?_ | refine q_l ?_ | refine q_m ?_ | refine q_n ?_ | refine q_h ?_ | refine q_o ?_ | refine q_e ?_ | refine q_f ?_ | refine q_g ?_ | fail)
      exact Wk_sel ⟨rfl, rfl, rfl, trivial⟩ ⟨rfl, rfl, rfl, rfl, trivial⟩
    · rw [if_neg hc] at e4
      subst e4
      repeat ((fail_if_success (refine stopL ?_)); (fail_if_success (refine stopC ?_)); first | refine A_seq ?_ | refine A_block ?_ | refine R_list ?_ | refine R_quiet rfl mixed (by kernel_rfl) ?_ | ((first | apply O_y rfl rfl rfl | apply Q_y rfl rfl rfl); (first | exact R_addN rfl rfl rfl | exact R_subN rfl rfl rfl | (first | exact q_A | exact q_5 | exact q_B | fail))) | refine O_nil ?_ | refine Q_nil ?_ | refine q_j ?_ | refine q_k ?_ | refine q_d ?_ | refine q_a ?_ | refine q_b ?_ | refine q_c ?_ | refine A_ct rfl ?_ | refine A_cf rfl ?_ | refine A_skip ?_ | refine A_exit ?_ | refine A_ret ?_ | refine q_l ?_ | refine q_m ?_ | refine q_n ?_ | refine q_h ?_ | refine q_o ?_ | refine q_e ?_ | refine q_f ?_ | refine q_g ?_ | fail)
      exact Wk_sel ⟨rfl, rfl, rfl, trivial⟩ ⟨rfl, rfl, rfl, rfl, trivial⟩
  refine A_cut [(2, .ptr 2 0), (3, .ptr 3 0), (4, .ptr 4 0)] [(2, .var ((clsD c).map .d)), (3, .var (sbjV ⟨s.p, m1, m3, m2, [], [], m4⟩ (.d (usD s.path)) (.row 22))), (4, .var sbjZ), (22, uB m5)] ?_ ?_
  · by_cases hc : c.sCom.length = 0
    · rw [if_pos hc] at e5
      subst e5
      repeat ((fail_if_success (refine stopL ?_)); (fail_if_success (refine stopC ?_)); first | refine A_seq ?_ | refine A_block ?_ | refine R_list ?_ | refine R_quiet rfl mixed (by kernel_rfl) ?_ | ((first | apply O_y rfl rfl rfl | apply Q_y rfl rfl rfl); (first | exact R_addN rfl rfl rfl | exact R_subN rfl rfl rfl | (first | exact q_A | exact q_5 | exact q_B | fail))) | refine O_nil ?_ | refine Q_nil ?_ | refine q_j ?_ | refine q_k ?_ | refine q_d ?_ | refine q_a ?_ | refine q_b ?_ | refine q_c ?_ | refine A_ct rfl ?_ | refine A_cf rfl ?_ | refine A_skip ?_ | refine A_exit ?_ | refine A_ret ?_ | refine q_l ?_ | refine q_m ?_ | refine q_n ?_ | refine q_h ?_ | refine q_o ?_ | refine q_e ?_ | refine q_f ?_ | refine q_g ?_ | fail)
      exact Wk_sel ⟨rfl, rfl, rfl, trivial⟩ ⟨rfl, rfl, rfl, rfl, trivial⟩
    · rw [if_neg hc] at e5
      cases had : c.add with
      | true =>
        rw [had, if_pos rfl] at e5
        rw [e5] at hj
        refine A_weaken (Wk_freeze (id := 22) rfl) ?_
        repeat ((fail_if_success (refine stopL ?_)); (fail_if_success (refine stopC ?_)); first | refine A_seq ?_ | refine A_block ?_ | refine R_list ?_ | refine R_quiet rfl mixed (by kernel_rfl) ?_ | ((first | apply O_y rfl rfl rfl | apply Q_y rfl rfl rfl); (first | exact R_addN rfl rfl rfl | exact R_subN rfl rfl rfl | (first | exact q_A | exact q_5 | exact q_B | (exact Y_assignB rfl had rfl)))) | refine O_nil ?_ | refine Q_nil ?_ | refine q_j ?_ | refine q_k ?_ | refine q_d ?_ | refine q_a ?_ | refine q_b ?_ | refine q_c ?_ | refine A_ct rfl ?_ | refine A_cf rfl ?_ | refine A_skip ?_ | refine A_exit ?_ | refine A_ret ?_ | refine q_l ?_ | refine q_m ?_ | refine q_n ?_ | refine q_h ?_ | refine q_o ?_ | refine q_e ?_ | refine q_f ?_ | refine q_g ?_ | (refine O_cRow rfl rfl rfl rfl rfl hj rfl ?_))
        exact Wk_sel ⟨rfl, rfl, rfl, trivial⟩ ⟨rfl, rfl, rfl, rfl, trivial⟩
      | false =>
        rw [had, if_neg (by decide)] at e5
        rw [e5] at hn
        refine A_weaken (Wk_freeze (id := 22) rfl) ?_
        repeat ((fail_if_success (refine stopL ?_)); (fail_if_success (refine stopC ?_)); first | refine A_seq ?_ | refine A_block ?_ | refine R_list ?_ | refine R_quiet rfl mixed (by kernel_rfl) ?_ | ((first | apply O_y rfl rfl rfl | apply Q_y rfl rfl rfl); (first | exact R_addN rfl rfl rfl | exact R_subN rfl rfl rfl | (first | exact q_A | exact q_5 | exact q_B | (exact Y_assignB rfl had rfl)))) | refine O_nil ?_ | refine Q_nil ?_ | refine q_j ?_ | refine q_k ?_ | refine q_d ?_ | refine q_a ?_ | refine q_b ?_ | refine q_c ?_ | refine A_ct rfl ?_ | refine A_cf rfl ?_ | refine A_skip ?_ | refine A_exit ?_ | refine A_ret ?_ | refine q_l ?_ | refine q_m ?_ | refine q_n ?_ | refine q_h ?_ | refine q_o ?_ | refine q_e ?_ | refine q_f ?_ | refine q_g ?_ | (refine O_cRow rfl rfl rfl rfl rfl hn rfl ?_))
        exact Wk_sel ⟨rfl, rfl, rfl, trivial⟩ ⟨rfl, rfl, rfl, rfl, trivial⟩
  have f1 : (c.pre.flatMap u1D).length = c.pre.length * 1 := flat_len u1D_len _
  have f2 : (s.path.flatMap u1D).length = s.path.length * 1 := flat_len u1D_len _
  repeat ((fail_if_success (refine stopL ?_)); (fail_if_success (refine stopC ?_)); first | refine A_seq ?_ | refine A_block ?_ | refine R_list ?_ | refine R_quiet rfl mixed (by kernel_rfl) ?_ | ((first | apply O_y rfl rfl rfl | apply Q_y rfl rfl rfl); (first | exact R_addN rfl rfl rfl | exact R_subN rfl rfl rfl | (first | exact q_A | exact q_5 | exact q_B | fail))) | refine O_nil ?_ | refine Q_nil ?_ | refine q_j ?_ | refine q_k ?_ | refine q_d ?_ | refine q_a ?_ | refine q_b ?_ | refine q_c ?_ | refine A_ct rfl ?_ | refine A_cf rfl ?_ | refine A_skip ?_ | refine A_exit ?_ | refine A_ret ?_ | refine q_l ?_ | refine q_m ?_ | refine q_n ?_ | refine q_h ?_ | refine q_o ?_ | refine q_e ?_ | refine q_f ?_ | refine q_g ?_ | first | (refine O_makeSlice1 tabOk rfl rfl rfl rfl rfl rfl rfl rfl rfl (by omega) ?_) | (refine O_copyD tabOk rfl rfl rfl rfl rfl rfl rfl rfl CDst.row rfl (by omega) f1 (by omega) ?_))
  refine N_begin [57] mixed ?_
  (apply q_P 0 rfl (by kernel_rfl) rfl rfl rfl; (first | exact q_A | exact q_5 | exact q_B | fail))
  (apply q_P 1 rfl (by kernel_rfl) rfl rfl rfl; (first | exact q_A | exact q_5 | exact q_B | fail))
  (apply q_P 2 rfl (by kernel_rfl) rfl rfl rfl; (first | exact q_A | exact q_5 | exact q_B | fail))
  (apply q_P 3 rfl (by kernel_rfl) rfl rfl rfl; (first | exact q_A | exact q_5 | exact q_B | fail))
  (apply q_P 4 rfl (by kernel_rfl) rfl rfl rfl; (first | exact q_A | exact q_5 | exact q_B | (exact R_rowFrom tabOk rfl rfl rfl rfl rfl rfl rfl (show c.pre.length ≤ c.pre.length + s.path.length by omega))))
  (apply q_P 5 rfl (by kernel_rfl) rfl rfl rfl; (first | exact q_A | exact q_5 | exact q_B | fail))
  (apply q_P 6 rfl (by kernel_rfl) rfl rfl rfl; (first | exact q_A | exact q_5 | exact q_B | fail))
  refine N_one (j := 7) (by kernel_rfl) ?_
  refine T_copyD tabOk rfl rfl rfl rfl rfl rfl rfl rfl rfl (CDst.srow _ _) rfl rfl (by omega) f2 (by omega) ?_
  refine N_done (by kernel_rfl) ?_
  repeat ((fail_if_success (refine stopL ?_)); (fail_if_success (refine stopC ?_)); first | refine A_seq ?_ | refine A_block ?_ | refine R_list ?_ | refine R_quiet rfl mixed (by kernel_rfl) ?_ | ((first | apply O_y rfl rfl rfl | apply Q_y rfl rfl rfl); (first | exact R_addN rfl rfl rfl | exact R_subN rfl rfl rfl | (first | exact q_A | exact q_5 | exact q_B | fail))) | refine O_nil ?_ | refine Q_nil ?_ | refine q_j ?_ | refine q_k ?_ | refine q_d ?_ | refine q_a ?_ | refine q_b ?_ | refine q_c ?_ | refine A_ct rfl ?_ | refine A_cf rfl ?_ | refine A_skip ?_ | refine A_exit ?_ | refine A_ret ?_ | refine q_l ?_ | refine q_m ?_ | refine q_n ?_ | refine q_h ?_ | refine q_o ?_ | refine q_e ?_ | refine q_f ?_ | refine q_g ?_ | fail)
  exact X_retW AWk.refl rfl (h2 := [(57, uB (c.pre ++ s.path)), (22, uB m5)]) ⟨row_eq (by rw [List.length_append]) (make_cells c.pre s.path _) rfl, rfl, trivial⟩ ⟨rfl, rfl⟩
theorem set_A (c : Cls) (s : Sbj) (h1 : s.path.length + c.pre.length ≤ 1000000000) (h2 : s.com.length + c.sCom.length ≤ 1000000000) : ACall Try.prog 14 [aggD (clsD c), aggD (sbjD s)] [] (Just (aggD (sbjD (setC c s)))) :=
  ACall.wk (setR_A c s h1 h2) (((Wk_freeze (id := 57) rfl).trans (Wk_freeze (id := 22) rfl)).trans (Wk_sel ⟨rfl, trivial⟩ trivial))
end Ab
end Go.Proofs.Ytmljmahlpcdhoaa

/-
  Texts of a proof, one behind the other (part 28).
-/
import Derived.Test.YtmljmahlpcdhoaaPc1
import Derived.Test.YtmljmahlpcdhoaaPc2
import Derived.Test.YtmljmahlpcdhoaaPc21
import Derived.Test.YtmljmahlpcdhoaaPc26
set_option linter.unusedVariables false
set_option linter.unusedSimpArgs false
namespace Go.Proofs.Ytmljmahlpcdhoaa
set_option linter.unusedVariables false
open Go.RowKit Go.Lib
theorem find_step {α : Type} (p : α → Bool) (l : List α) (k : Nat) (h : k < l.length) : (l.drop k).find? p = if p l[k] = true then some l[k] else (l.drop (k + 1)).find? p := by
  rw [List.drop_eq_getElem_cons h, List.find?_cons]
  split <;> simp_all
namespace Ab
set_option maxRecDepth 100000
set_option linter.unusedSimpArgs false
attribute [local irreducible] AWp AOps AQ AYield AEff ACall AWk AAny AAt AThen AIn APost NoPanic
set_option maxHeartbeats 32000000 in
theorem rfits16_A (d : Dvc) (c : Cls) (s : Sbj) (hd : OkD d) (hs : OkS s) : ACall Try.prog 16 [dvcA d, aggD (clsD c), aggD (sbjD s)] [] (Just (boolA (fitsC d c s))) := by
  unfold fitsC
  obtain ⟨b1, hb1⟩ : ∃ b, fit1 d c s = b := ⟨_, rfl⟩
  obtain ⟨b2, hb2⟩ : ∃ b, fit2 d c s = b := ⟨_, rfl⟩
  obtain ⟨b5, hb5⟩ : ∃ b, fit5 c s = b := ⟨_, rfl⟩
  rw [hb1, hb2, hb5]
  unfold fit1 at hb1
  unfold fit2 at hb2
  have l1 := hd.p1
  have l2 := hd.c1
  have l3 := hs.path
  refine ACall_of tabOk Try.func16 rfl Try.ntmps16 (congrArg Array.toList Try.results16) (by kernel_rfl) rfl ?_
  refine A_seq ?_
  refine R_list ?_
  refine q_d ?_
  refine q_d ?_
  refine q_d ?_
  refine O_weaken (Wk_freezeV (id := 3) (ds := dvcD d) rfl rfl) ?_
  refine O_weaken (Wk_freezeV (id := 4) (ds := clsD c) rfl rfl) ?_
  refine O_weaken (Wk_freezeV (id := 5) (ds := sbjD s) rfl rfl) ?_
  apply O_y rfl rfl rfl
  exact q_2
  refine O_nil ?_
  refine q_j ?_
  cases b1 with
  | false =>
    simp only [Bool.false_and]
    have hp : c.pfx ≠ [] := fun h => by rw [decide_eq_true h] at hb1; simp at hb1
    rw [decide_eq_false hp, Bool.false_or] at hb1
    have hp0 : (!decide (c.pfx = [])) = true := by simp [hp]
    repeat ((fail_if_success (refine stopL ?_)); first | refine A_seq ?_ | refine A_block ?_ | refine R_list ?_ | refine R_quiet rfl mixed (by kernel_rfl) ?_ | ((first | apply O_y rfl rfl rfl | apply Q_y rfl rfl rfl); (first | exact R_addN rfl rfl rfl | exact R_subN rfl rfl rfl | (first | exact q_A | exact q_5 | exact q_B | (exact R_sT rfl rfl rfl rfl hp0)))) | refine O_nil ?_ | refine Q_nil ?_ | refine q_j ?_ | refine q_k ?_ | refine q_d ?_ | refine q_a ?_ | refine q_b ?_ | refine q_c ?_ | refine A_ct rfl ?_ | refine A_cf rfl ?_ | refine A_skip ?_ | refine A_exit ?_ | refine A_ret ?_ | refine q_l ?_ | refine q_m ?_ | refine q_n ?_ | refine q_h ?_ | refine q_o ?_ | refine q_e ?_ | refine q_f ?_ | refine q_g ?_ | fail)
    try refine A_block ?_
    refine A_loop (fun k : Nat => [(3, .iptr (dvcD d) 0), (4, .iptr (clsD c) 0), (5, .iptr (sbjD s) 0), (7, boolA false), (8, natA k)]) (fun _ => []) (fun k => k ≤ d.pls.length ∧ (d.pls.drop k).find? (fun l => decide (l.nm = c.pfx)) = d.pls.find? (fun l => decide (l.nm = c.pfx))) (fun k => d.pls.length - k) 0 ⟨Nat.zero_le _, rfl⟩ (Wk_sel ⟨rfl, rfl, rfl, rfl, rfl, trivial⟩ trivial) ?_
    rintro k ⟨hk, ha⟩
    try dsimp only
    by_cases hkl : k < d.pls.length
    · rw [find_step _ _ _ hkl] at ha
      have hm := hd.p2 _ (List.getElem_mem hkl)
      have hpc := rpermits_A d.pls[k] s.p hm.2 hs.p hm.1
      have hw0 := win_flat plstD_len d.pls k 0 1 hkl (by decide)
      have hw := win_flat0 plstD_len d.pls k 2 hkl (by decide)
      by_cases hq : d.pls[k].nm = c.pfx
      · rw [if_pos (decide_eq_true hq)] at ha
        rw [← ha] at hb1
        dsimp only at hb1
        rw [hb1] at hpc
        repeat ((fail_if_success (refine stopL ?_)); first | refine A_seq ?_ | refine A_block ?_ | refine R_list ?_ | refine R_quiet rfl mixed (by kernel_rfl) ?_ | ((first | apply O_y rfl rfl rfl | apply Q_y rfl rfl rfl); (first | exact R_addN rfl rfl rfl | exact R_subN rfl rfl rfl | (first | exact q_A | exact R_loadi tabOk rfl rfl rfl rfl (by first | exact hw | exact hw0 | rfl) rfl rfl | exact q_B | (first | exact R_sT rfl rfl rfl rfl (decide_eq_true hq) | exact R_index (j := k) tabOk rfl rfl rfl rfl rfl rfl hkl)))) | refine O_nil ?_ | refine Q_nil ?_ | refine q_j ?_ | refine q_k ?_ | refine q_d ?_ | refine q_a ?_ | refine q_b ?_ | refine q_c ?_ | refine A_ct rfl ?_ | refine A_cf rfl ?_ | refine A_skip ?_ | refine A_exit ?_ | refine A_ret ?_ | refine q_l ?_ | refine q_m ?_ | refine q_n ?_ | refine q_h ?_ | refine q_o ?_ | refine q_e ?_ | refine q_f ?_ | refine q_g ?_ | refine Q_c rfl rfl rfl rfl rfl hpc rfl (fun _ _ _ => val_mk _ _ _ _ _ rfl rfl) ?_)
        exact X_ret rfl ⟨rfl, rfl⟩
      · rw [if_neg (by simp [hq])] at ha
        repeat ((fail_if_success (refine stopL ?_)); first | refine A_seq ?_ | refine A_block ?_ | refine R_list ?_ | refine R_quiet rfl mixed (by kernel_rfl) ?_ | ((first | apply O_y rfl rfl rfl | apply Q_y rfl rfl rfl); (first | exact R_addN rfl rfl rfl | exact R_subN rfl rfl rfl | (first | exact q_A | exact R_loadi tabOk rfl rfl rfl rfl (by first | exact hw | exact hw0 | rfl) rfl rfl | exact q_B | (first | exact R_sF rfl rfl rfl rfl (decide_eq_false hq) | exact R_index (j := k) tabOk rfl rfl rfl rfl rfl rfl hkl)))) | refine O_nil ?_ | refine Q_nil ?_ | refine q_j ?_ | refine q_k ?_ | refine q_d ?_ | refine q_a ?_ | refine q_b ?_ | refine q_c ?_ | refine A_ct rfl ?_ | refine A_cf rfl ?_ | refine A_skip ?_ | refine A_exit ?_ | refine A_ret ?_ | refine q_l ?_ | refine q_m ?_ | refine q_n ?_ | refine q_h ?_ | refine q_o ?_ | refine q_e ?_ | refine q_f ?_ | refine q_g ?_ | fail)
        exact ⟨k + 1, ⟨hkl, ha⟩, by omega, Wk_sel ⟨rfl, rfl, rfl, rfl, rfl, trivial⟩ trivial⟩
    ·
      repeat ((fail_if_success (refine stopL ?_)); first | refine A_seq ?_ | refine A_block ?_ | refine R_list ?_ | refine R_quiet rfl mixed (by kernel_rfl) ?_ | ((first | apply O_y rfl rfl rfl | apply Q_y rfl rfl rfl); (first | exact R_addN rfl rfl rfl | exact R_subN rfl rfl rfl | (first | exact q_A | exact q_5 | exact q_B | fail))) | refine O_nil ?_ | refine Q_nil ?_ | refine q_j ?_ | refine q_k ?_ | refine q_d ?_ | refine q_a ?_ | refine q_b ?_ | refine q_c ?_ | refine A_ct rfl ?_ | refine A_cf rfl ?_ | refine A_skip ?_ | refine A_exit ?_ | refine A_ret ?_ | refine q_l ?_ | refine q_m ?_ | refine q_n ?_ | refine q_h ?_ | refine q_o ?_ | refine q_e ?_ | refine q_f ?_ | refine q_g ?_ | fail)
      exact X_ret rfl ⟨rfl, rfl⟩
  | true =>
  simp only [Bool.true_and]
  refine A_cut [(3, .iptr (dvcD d) 0), (4, .iptr (clsD c) 0), (5, .iptr (sbjD s) 0)] [] ?_ ?_
  · by_cases hp : c.pfx = []
    · have hp0 : (!decide (c.pfx = [])) = false := by simp [hp]
      repeat ((fail_if_success (refine stopL ?_)); first | refine A_seq ?_ | refine A_block ?_ | refine R_list ?_ | refine R_quiet rfl mixed (by kernel_rfl) ?_ | ((first | apply O_y rfl rfl rfl | apply Q_y rfl rfl rfl); (first | exact R_addN rfl rfl rfl | exact R_subN rfl rfl rfl | (first | exact q_A | exact q_5 | exact q_B | (exact R_sF rfl rfl rfl rfl hp0)))) | refine O_nil ?_ | refine Q_nil ?_ | refine q_j ?_ | refine q_k ?_ | refine q_d ?_ | refine q_a ?_ | refine q_b ?_ | refine q_c ?_ | refine A_ct rfl ?_ | refine A_cf rfl ?_ | refine A_skip ?_ | refine A_exit ?_ | refine A_ret ?_ | refine q_l ?_ | refine q_m ?_ | refine q_n ?_ | refine q_h ?_ | refine q_o ?_ | refine q_e ?_ | refine q_f ?_ | refine q_g ?_ | fail)
      exact Wk_sel ⟨rfl, rfl, rfl, trivial⟩ trivial
    rw [decide_eq_false hp, Bool.false_or] at hb1
    have hp0 : (!decide (c.pfx = [])) = true := by simp [hp]
    repeat ((fail_if_success (refine stopL ?_)); first | refine A_seq ?_ | refine A_block ?_ | refine R_list ?_ | refine R_quiet rfl mixed (by kernel_rfl) ?_ | ((first | apply O_y rfl rfl rfl | apply Q_y rfl rfl rfl); (first | exact R_addN rfl rfl rfl | exact R_subN rfl rfl rfl | (first | exact q_A | exact q_5 | exact q_B | (exact R_sT rfl rfl rfl rfl hp0)))) | refine O_nil ?_ | refine Q_nil ?_ | refine q_j ?_ | refine q_k ?_ | refine q_d ?_ | refine q_a ?_ | refine q_b ?_ | refine q_c ?_ | refine A_ct rfl ?_ | refine A_cf rfl ?_ | refine A_skip ?_ | refine A_exit ?_ | refine A_ret ?_ | refine q_l ?_ | refine q_m ?_ | refine q_n ?_ | refine q_h ?_ | refine q_o ?_ | refine q_e ?_ | refine q_f ?_ | refine q_g ?_ | fail)
    try refine A_block ?_
    refine A_loop (fun k : Nat => [(3, .iptr (dvcD d) 0), (4, .iptr (clsD c) 0), (5, .iptr (sbjD s) 0), (7, boolA false), (8, natA k)]) (fun _ => []) (fun k => k ≤ d.pls.length ∧ (d.pls.drop k).find? (fun l => decide (l.nm = c.pfx)) = d.pls.find? (fun l => decide (l.nm = c.pfx))) (fun k => d.pls.length - k) 0 ⟨Nat.zero_le _, rfl⟩ (Wk_sel ⟨rfl, rfl, rfl, rfl, rfl, trivial⟩ trivial) ?_
    rintro k ⟨hk, ha⟩
    try dsimp only
    by_cases hkl : k < d.pls.length
    · rw [find_step _ _ _ hkl] at ha
      have hm := hd.p2 _ (List.getElem_mem hkl)
      have hpc := rpermits_A d.pls[k] s.p hm.2 hs.p hm.1
      have hw0 := win_flat plstD_len d.pls k 0 1 hkl (by decide)
      have hw := win_flat0 plstD_len d.pls k 2 hkl (by decide)
      by_cases hq : d.pls[k].nm = c.pfx
      · rw [if_pos (decide_eq_true hq)] at ha
        rw [← ha] at hb1
        dsimp only at hb1
        rw [hb1] at hpc
        repeat ((fail_if_success (refine stopL ?_)); first | refine A_seq ?_ | refine A_block ?_ | refine R_list ?_ | refine R_quiet rfl mixed (by kernel_rfl) ?_ | ((first | apply O_y rfl rfl rfl | apply Q_y rfl rfl rfl); (first | exact R_addN rfl rfl rfl | exact R_subN rfl rfl rfl | (first | exact q_A | exact R_loadi tabOk rfl rfl rfl rfl (by first | exact hw | exact hw0 | rfl) rfl rfl | exact q_B | (first | exact R_sT rfl rfl rfl rfl (decide_eq_true hq) | exact R_index (j := k) tabOk rfl rfl rfl rfl rfl rfl hkl)))) | refine O_nil ?_ | refine Q_nil ?_ | refine q_j ?_ | refine q_k ?_ | refine q_d ?_ | refine q_a ?_ | refine q_b ?_ | refine q_c ?_ | refine A_ct rfl ?_ | refine A_cf rfl ?_ | refine A_skip ?_ | refine A_exit ?_ | refine A_ret ?_ | refine q_l ?_ | refine q_m ?_ | refine q_n ?_ | refine q_h ?_ | refine q_o ?_ | refine q_e ?_ | refine q_f ?_ | refine q_g ?_ | refine Q_c rfl rfl rfl rfl rfl hpc rfl (fun _ _ _ => val_mk _ _ _ _ _ rfl rfl) ?_)
        exact Wk_sel ⟨rfl, rfl, rfl, trivial⟩ trivial
      · rw [if_neg (by simp [hq])] at ha
        repeat ((fail_if_success (refine stopL ?_)); first | refine A_seq ?_ | refine A_block ?_ | refine R_list ?_ | refine R_quiet rfl mixed (by kernel_rfl) ?_ | ((first | apply O_y rfl rfl rfl | apply Q_y rfl rfl rfl); (first | exact R_addN rfl rfl rfl | exact R_subN rfl rfl rfl | (first | exact q_A | exact R_loadi tabOk rfl rfl rfl rfl (by first | exact hw | exact hw0 | rfl) rfl rfl | exact q_B | (first | exact R_sF rfl rfl rfl rfl (decide_eq_false hq) | exact R_index (j := k) tabOk rfl rfl rfl rfl rfl rfl hkl)))) | refine O_nil ?_ | refine Q_nil ?_ | refine q_j ?_ | refine q_k ?_ | refine q_d ?_ | refine q_a ?_ | refine q_b ?_ | refine q_c ?_ | refine A_ct rfl ?_ | refine A_cf rfl ?_ | refine A_skip ?_ | refine A_exit ?_ | refine A_ret ?_ | refine q_l ?_ | refine q_m ?_ | refine q_n ?_ | refine q_h ?_ | refine q_o ?_ | refine q_e ?_ | refine q_f ?_ | refine q_g ?_ | fail)
        exact ⟨k + 1, ⟨hkl, ha⟩, by omega, Wk_sel ⟨rfl, rfl, rfl, rfl, rfl, trivial⟩ trivial⟩
    · rw [List.drop_of_length_le (by omega)] at ha
      rw [← ha] at hb1
      cases hb1
  cases b2 with
  | false =>
    simp only [Bool.false_and]
    have hp : c.com ≠ [] := fun h => by rw [decide_eq_true h] at hb2; simp at hb2
    rw [decide_eq_false hp, Bool.false_or] at hb2
    have hp0 : (!decide (c.com = [])) = true := by simp [hp]
    repeat ((fail_if_success (refine stopL ?_)); first | refine A_seq ?_ | refine A_block ?_ | refine R_list ?_ | refine R_quiet rfl mixed (by kernel_rfl) ?_ | ((first | apply O_y rfl rfl rfl | apply Q_y rfl rfl rfl); (first | exact R_addN rfl rfl rfl | exact R_subN rfl rfl rfl | (first | exact q_A | exact q_5 | exact q_B | (exact R_sT rfl rfl rfl rfl hp0)))) | refine O_nil ?_ | refine Q_nil ?_ | refine q_j ?_ | refine q_k ?_ | refine q_d ?_ | refine q_a ?_ | refine q_b ?_ | refine q_c ?_ | refine A_ct rfl ?_ | refine A_cf rfl ?_ | refine A_skip ?_ | refine A_exit ?_ | refine A_ret ?_ | refine q_l ?_ | refine q_m ?_ | refine q_n ?_ | refine q_h ?_ | refine q_o ?_ | refine q_e ?_ | refine q_f ?_ | refine q_g ?_ | fail)
    try refine A_block ?_
    refine A_loop (fun k : Nat => [(3, .iptr (dvcD d) 0), (4, .iptr (clsD c) 0), (5, .iptr (sbjD s) 0), (9, boolA false), (10, natA k)]) (fun _ => []) (fun k => k ≤ d.cls.length ∧ (d.cls.drop k).find? (fun l => decide (l.nm = c.com)) = d.cls.find? (fun l => decide (l.nm = c.com))) (fun k => d.cls.length - k) 0 ⟨Nat.zero_le _, rfl⟩ (Wk_sel ⟨rfl, rfl, rfl, rfl, rfl, trivial⟩ trivial) ?_
    rintro k ⟨hk, ha⟩
    try dsimp only
    by_cases hkl : k < d.cls.length
    · rw [find_step _ _ _ hkl] at ha
      have hm := hd.c2 _ (List.getElem_mem hkl)
      have hpc := rallows_A d.cls[k] s.com hm.2 hs.com hm.1
      have hw0 := win_flat clstD_len d.cls k 0 1 hkl (by decide)
      have hw := win_flat0 clstD_len d.cls k 2 hkl (by decide)
      by_cases hq : d.cls[k].nm = c.com
      · rw [if_pos (decide_eq_true hq)] at ha
        rw [← ha] at hb2
        dsimp only at hb2
        rw [hb2] at hpc
        repeat ((fail_if_success (refine stopL ?_)); first | refine A_seq ?_ | refine A_block ?_ | refine R_list ?_ | refine R_quiet rfl mixed (by kernel_rfl) ?_ | ((first | apply O_y rfl rfl rfl | apply Q_y rfl rfl rfl); (first | exact R_addN rfl rfl rfl | exact R_subN rfl rfl rfl | (first | exact q_A | exact R_loadi tabOk rfl rfl rfl rfl (by first | exact hw | exact hw0 | rfl) rfl rfl | exact q_B | (first | exact R_sT rfl rfl rfl rfl (decide_eq_true hq) | exact R_index (j := k) tabOk rfl rfl rfl rfl rfl rfl hkl)))) | refine O_nil ?_ | refine Q_nil ?_ | refine q_j ?_ | refine q_k ?_ | refine q_d ?_ | refine q_a ?_ | refine q_b ?_ | refine q_c ?_ | refine A_ct rfl ?_ | refine A_cf rfl ?_ | refine A_skip ?_ | refine A_exit ?_ | refine A_ret ?_ | refine q_l ?_ | refine q_m ?_ | refine q_n ?_ | refine q_h ?_ | refine q_o ?_ | refine q_e ?_ | refine q_f ?_ | refine q_g ?_ | refine Q_c rfl rfl rfl rfl rfl hpc rfl (fun _ _ _ => val_mk _ _ _ _ _ rfl rfl) ?_)
        exact X_ret rfl ⟨rfl, rfl⟩
      · rw [if_neg (by simp [hq])] at ha
        repeat ((fail_if_success (refine stopL ?_)); first | refine A_seq ?_ | refine A_block ?_ | refine R_list ?_ | refine R_quiet rfl mixed (by kernel_rfl) ?_ | ((first | apply O_y rfl rfl rfl | apply Q_y rfl rfl rfl); (first | exact R_addN rfl rfl rfl | exact R_subN rfl rfl rfl | (first | exact q_A | exact R_loadi tabOk rfl rfl rfl rfl (by first | exact hw | exact hw0 | rfl) rfl rfl | exact q_B | (first | exact R_sF rfl rfl rfl rfl (decide_eq_false hq) | exact R_index (j := k) tabOk rfl rfl rfl rfl rfl rfl hkl)))) | refine O_nil ?_ | refine Q_nil ?_ | refine q_j ?_ | refine q_k ?_ | refine q_d ?_ | refine q_a ?_ | refine q_b ?_ | refine q_c ?_ | refine A_ct rfl ?_ | refine A_cf rfl ?_ | refine A_skip ?_ | refine A_exit ?_ | refine A_ret ?_ | refine q_l ?_ | refine q_m ?_ | refine q_n ?_ | refine q_h ?_ | refine q_o ?_ | refine q_e ?_ | refine q_f ?_ | refine q_g ?_ | fail)
        exact ⟨k + 1, ⟨hkl, ha⟩, by omega, Wk_sel ⟨rfl, rfl, rfl, rfl, rfl, trivial⟩ trivial⟩
    ·
      repeat ((fail_if_success (refine stopL ?_)); first | refine A_seq ?_ | refine A_block ?_ | refine R_list ?_ | refine R_quiet rfl mixed (by kernel_rfl) ?_ | ((first | apply O_y rfl rfl rfl | apply Q_y rfl rfl rfl); (first | exact R_addN rfl rfl rfl | exact R_subN rfl rfl rfl | (first | exact q_A | exact q_5 | exact q_B | fail))) | refine O_nil ?_ | refine Q_nil ?_ | refine q_j ?_ | refine q_k ?_ | refine q_d ?_ | refine q_a ?_ | refine q_b ?_ | refine q_c ?_ | refine A_ct rfl ?_ | refine A_cf rfl ?_ | refine A_skip ?_ | refine A_exit ?_ | refine A_ret ?_ | refine q_l ?_ | refine q_m ?_ | refine q_n ?_ | refine q_h ?_ | refine q_o ?_ | refine q_e ?_ | refine q_f ?_ | refine q_g ?_ | fail)
      exact X_ret rfl ⟨rfl, rfl⟩
  | true =>
  simp only [Bool.true_and]
  refine A_cut [(4, .iptr (clsD c) 0), (5, .iptr (sbjD s) 0)] [] ?_ ?_
  · by_cases hp : c.com = []
    · have hp0 : (!decide (c.com = [])) = false := by simp [hp]
      repeat ((fail_if_success (refine stopL ?_)); first | refine A_seq ?_ | refine A_block ?_ | refine R_list ?_ | refine R_quiet rfl mixed (by kernel_rfl) ?_ | ((first | apply O_y rfl rfl rfl | apply Q_y rfl rfl rfl); (first | exact R_addN rfl rfl rfl | exact R_subN rfl rfl rfl | (first | exact q_A | exact q_5 | exact q_B | (exact R_sF rfl rfl rfl rfl hp0)))) | refine O_nil ?_ | refine Q_nil ?_ | refine q_j ?_ | refine q_k ?_ | refine q_d ?_ | refine q_a ?_ | refine q_b ?_ | refine q_c ?_ | refine A_ct rfl ?_ | refine A_cf rfl ?_ | refine A_skip ?_ | refine A_exit ?_ | refine A_ret ?_ | refine q_l ?_ | refine q_m ?_ | refine q_n ?_ | refine q_h ?_ | refine q_o ?_ | refine q_e ?_ | refine q_f ?_ | refine q_g ?_ | fail)
      exact Wk_sel ⟨rfl, rfl, trivial⟩ trivial
    rw [decide_eq_false hp, Bool.false_or] at hb2
    have hp0 : (!decide (c.com = [])) = true := by simp [hp]
    repeat ((fail_if_success (refine stopL ?_)); first | refine A_seq ?_ | refine A_block ?_ | refine R_list ?_ | refine R_quiet rfl mixed (by kernel_rfl) ?_ | ((first | apply O_y rfl rfl rfl | apply Q_y rfl rfl rfl); (first | exact R_addN rfl rfl rfl | exact R_subN rfl rfl rfl | (first | exact q_A | exact q_5 | exact q_B | (exact R_sT rfl rfl rfl rfl hp0)))) | refine O_nil ?_ | refine Q_nil ?_ | refine q_j ?_ | refine q_k ?_ | refine q_d ?_ | refine q_a ?_ | refine q_b ?_ | refine q_c ?_ | refine A_ct rfl ?_ | refine A_cf rfl ?_ | refine A_skip ?_ | refine A_exit ?_ | refine A_ret ?_ | refine q_l ?_ | refine q_m ?_ | refine q_n ?_ | refine q_h ?_ | refine q_o ?_ | refine q_e ?_ | refine q_f ?_ | refine q_g ?_ | fail)
    try refine A_block ?_
    refine A_loop (fun k : Nat => [(3, .iptr (dvcD d) 0), (4, .iptr (clsD c) 0), (5, .iptr (sbjD s) 0), (9, boolA false), (10, natA k)]) (fun _ => []) (fun k => k ≤ d.cls.length ∧ (d.cls.drop k).find? (fun l => decide (l.nm = c.com)) = d.cls.find? (fun l => decide (l.nm = c.com))) (fun k => d.cls.length - k) 0 ⟨Nat.zero_le _, rfl⟩ (Wk_sel ⟨rfl, rfl, rfl, rfl, rfl, trivial⟩ trivial) ?_
    rintro k ⟨hk, ha⟩
    try dsimp only
    by_cases hkl : k < d.cls.length
    · rw [find_step _ _ _ hkl] at ha
      have hm := hd.c2 _ (List.getElem_mem hkl)
      have hpc := rallows_A d.cls[k] s.com hm.2 hs.com hm.1
      have hw0 := win_flat clstD_len d.cls k 0 1 hkl (by decide)
      have hw := win_flat0 clstD_len d.cls k 2 hkl (by decide)
      by_cases hq : d.cls[k].nm = c.com
      · rw [if_pos (decide_eq_true hq)] at ha
        rw [← ha] at hb2
        dsimp only at hb2
        rw [hb2] at hpc
        repeat ((fail_if_success (refine stopL ?_)); first | refine A_seq ?_ | refine A_block ?_ | refine R_list ?_ | refine R_quiet rfl mixed (by kernel_rfl) ?_ | ((first | apply O_y rfl rfl rfl | apply Q_y rfl rfl rfl); (first | exact R_addN rfl rfl rfl | exact R_subN rfl rfl rfl | (first | exact q_A | exact R_loadi tabOk rfl rfl rfl rfl (by first | exact hw | exact hw0 | rfl) rfl rfl | exact q_B | (first | exact R_sT rfl rfl rfl rfl (decide_eq_true hq) | exact R_index (j := k) tabOk rfl rfl rfl rfl rfl rfl hkl)))) | refine O_nil ?_ | refine Q_nil ?_ | refine q_j ?_ | refine q_k ?_ | refine q_d ?_ | refine q_a ?_ | refine q_b ?_ | refine q_c ?_ | refine A_ct rfl ?_ | refine A_cf rfl ?_ | refine A_skip ?_ | refine A_exit ?_ | refine A_ret ?_ | refine q_l ?_ | refine q_m ?_ | refine q_n ?_ | refine q_h ?_ | refine q_o ?_ | refine q_e ?_ | refine q_f ?_ | refine q_g ?_ | refine Q_c rfl rfl rfl rfl rfl hpc rfl (fun _ _ _ => val_mk _ _ _ _ _ rfl rfl) ?_)
        exact Wk_sel ⟨rfl, rfl, trivial⟩ trivial
      · rw [if_neg (by simp [hq])] at ha
        repeat ((fail_if_success (refine stopL ?_)); first | refine A_seq ?_ | refine A_block ?_ | refine R_list ?_ | refine R_quiet rfl mixed (by kernel_rfl) ?_ | ((first | apply O_y rfl rfl rfl | apply Q_y rfl rfl rfl); (first | exact R_addN rfl rfl rfl | exact R_subN rfl rfl rfl | (first | exact q_A | exact R_loadi tabOk rfl rfl rfl rfl (by first | exact hw | exact hw0 | rfl) rfl rfl | exact q_B | (first | exact R_sF rfl rfl rfl rfl (decide_eq_false hq) | exact R_index (j := k) tabOk rfl rfl rfl rfl rfl rfl hkl)))) | refine O_nil ?_ | refine Q_nil ?_ | refine q_j ?_ | refine q_k ?_ | refine q_d ?_ | refine q_a ?_ | refine q_b ?_ | refine q_c ?_ | refine A_ct rfl ?_ | refine A_cf rfl ?_ | refine A_skip ?_ | refine A_exit ?_ | refine A_ret ?_ | refine q_l ?_ | refine q_m ?_ | refine q_n ?_ | refine q_h ?_ | refine q_o ?_ | refine q_e ?_ | refine q_f ?_ | refine q_g ?_ | fail)
        exact ⟨k + 1, ⟨hkl, ha⟩, by omega, Wk_sel ⟨rfl, rfl, rfl, rfl, rfl, trivial⟩ trivial⟩
    · rw [List.drop_of_length_le (by omega)] at ha
      rw [← ha] at hb2
      cases hb2
  unfold fit3 fit4
  by_cases t1 : c.tag = -1 ∨ c.tag = s.tag
  · have ht : (decide (c.tag = -1) || decide (c.tag = s.tag)) = true := by rcases t1 with h | h <;> simp [h]
    rw [ht, Bool.true_and]
    by_cases t2 : c.met = -1 ∨ c.met = s.met
    · have ht2 : (decide (c.met = -1) || decide (c.met = s.met)) = true := by rcases t2 with h | h <;> simp [h]
      rw [ht2, Bool.true_and]
      refine A_cut [(4, .iptr (clsD c) 0), (5, .iptr (sbjD s) 0)] [] ?_ ?_
      · by_cases u1 : c.tag = -1
        · by_cases u2 : c.met = -1
          ·
            repeat ((fail_if_success (refine stopL ?_)); first | refine A_seq ?_ | refine A_block ?_ | refine R_list ?_ | refine R_quiet rfl mixed (by kernel_rfl) ?_ | ((first | apply O_y rfl rfl rfl | apply Q_y rfl rfl rfl); (first | exact R_addN rfl rfl rfl | exact R_subN rfl rfl rfl | (first | exact q_A | exact q_5 | exact q_B | fail))) | refine O_nil ?_ | refine Q_nil ?_ | refine q_j ?_ | refine q_k ?_ | refine q_d ?_ | refine q_a ?_ | refine q_b ?_ | refine q_c ?_ | refine A_ct rfl ?_ | refine A_cf rfl ?_ | refine A_skip ?_ | refine A_exit ?_ | refine A_ret ?_ | refine q_l ?_ | refine q_m ?_ | refine q_n ?_ | refine q_h ?_ | refine q_o ?_ | refine q_e ?_ | refine q_f ?_ | refine q_g ?_ | fail)
            exact Wk_sel ⟨rfl, rfl, trivial⟩ trivial
          · have u3 : c.met = s.met := t2.resolve_left u2
            repeat ((fail_if_success (refine stopL ?_)); first | refine A_seq ?_ | refine A_block ?_ | refine R_list ?_ | refine R_quiet rfl mixed (by kernel_rfl) ?_ | ((first | apply O_y rfl rfl rfl | apply Q_y rfl rfl rfl); (first | exact R_addN rfl rfl rfl | exact R_subN rfl rfl rfl | (first | exact q_A | exact q_5 | exact q_B | fail))) | refine O_nil ?_ | refine Q_nil ?_ | refine q_j ?_ | refine q_k ?_ | refine q_d ?_ | refine q_a ?_ | refine q_b ?_ | refine q_c ?_ | refine A_ct rfl ?_ | refine A_cf rfl ?_ | refine A_skip ?_ | refine A_exit ?_ | refine A_ret ?_ | refine q_l ?_ | refine q_m ?_ | refine q_n ?_ | refine q_h ?_ | refine q_o ?_ | refine q_e ?_ | refine q_f ?_ | refine q_g ?_ | fail)
            exact Wk_sel ⟨rfl, rfl, trivial⟩ trivial
        · have u4 : c.tag = s.tag := t1.resolve_left u1
          by_cases u2 : c.met = -1
          ·
            repeat ((fail_if_success (refine stopL ?_)); first | refine A_seq ?_ | refine A_block ?_ | refine R_list ?_ | refine R_quiet rfl mixed (by kernel_rfl) ?_ | ((first | apply O_y rfl rfl rfl | apply Q_y rfl rfl rfl); (first | exact R_addN rfl rfl rfl | exact R_subN rfl rfl rfl | (first | exact q_A | exact q_5 | exact q_B | fail))) | refine O_nil ?_ | refine Q_nil ?_ | refine q_j ?_ | refine q_k ?_ | refine q_d ?_ | refine q_a ?_ | refine q_b ?_ | refine q_c ?_ | refine A_ct rfl ?_ | refine A_cf rfl ?_ | refine A_skip ?_ | refine A_exit ?_ | refine A_ret ?_ | refine q_l ?_ | refine q_m ?_ | refine q_n ?_ | refine q_h ?_ | refine q_o ?_ | refine q_e ?_ | refine q_f ?_ | refine q_g ?_ | fail)
            exact Wk_sel ⟨rfl, rfl, trivial⟩ trivial
          · have u3 : c.met = s.met := t2.resolve_left u2
            repeat ((fail_if_success (refine stopL ?_)); first | refine A_seq ?_ | refine A_block ?_ | refine R_list ?_ | refine R_quiet rfl mixed (by kernel_rfl) ?_ | ((first | apply O_y rfl rfl rfl | apply Q_y rfl rfl rfl); (first | exact R_addN rfl rfl rfl | exact R_subN rfl rfl rfl | (first | exact q_A | exact q_5 | exact q_B | fail))) | refine O_nil ?_ | refine Q_nil ?_ | refine q_j ?_ | refine q_k ?_ | refine q_d ?_ | refine q_a ?_ | refine q_b ?_ | refine q_c ?_ | refine A_ct rfl ?_ | refine A_cf rfl ?_ | refine A_skip ?_ | refine A_exit ?_ | refine A_ret ?_ | refine q_l ?_ | refine q_m ?_ | refine q_n ?_ | refine q_h ?_ | refine q_o ?_ | refine q_e ?_ | refine q_f ?_ | refine q_g ?_ | fail)
            exact Wk_sel ⟨rfl, rfl, trivial⟩ trivial
      unfold fit5 at hb5
      by_cases v1 : c.thr = -1
      · rw [decide_eq_true v1, Bool.true_or] at hb5
        subst hb5
        repeat ((fail_if_success (refine stopL ?_)); first | refine A_seq ?_ | refine A_block ?_ | refine R_list ?_ | refine R_quiet rfl mixed (by kernel_rfl) ?_ | ((first | apply O_y rfl rfl rfl | apply Q_y rfl rfl rfl); (first | exact R_addN rfl rfl rfl | exact R_subN rfl rfl rfl | (first | exact q_A | exact q_5 | exact q_B | fail))) | refine O_nil ?_ | refine Q_nil ?_ | refine q_j ?_ | refine q_k ?_ | refine q_d ?_ | refine q_a ?_ | refine q_b ?_ | refine q_c ?_ | refine A_ct rfl ?_ | refine A_cf rfl ?_ | refine A_skip ?_ | refine A_exit ?_ | refine A_ret ?_ | refine q_l ?_ | refine q_m ?_ | refine q_n ?_ | refine q_h ?_ | refine q_o ?_ | refine q_e ?_ | refine q_f ?_ | refine q_g ?_ | fail)
        exact X_ret rfl ⟨rfl, rfl⟩
      rw [decide_eq_false v1, Bool.false_or] at hb5
      repeat ((fail_if_success (refine stopL ?_)); first | refine A_seq ?_ | refine A_block ?_ | refine R_list ?_ | refine R_quiet rfl mixed (by kernel_rfl) ?_ | ((first | apply O_y rfl rfl rfl | apply Q_y rfl rfl rfl); (first | exact R_addN rfl rfl rfl | exact R_subN rfl rfl rfl | (first | exact q_A | exact q_5 | exact q_B | fail))) | refine O_nil ?_ | refine Q_nil ?_ | refine q_j ?_ | refine q_k ?_ | refine q_d ?_ | refine q_a ?_ | refine q_b ?_ | refine q_c ?_ | refine A_ct rfl ?_ | refine A_cf rfl ?_ | refine A_skip ?_ | refine A_exit ?_ | refine A_ret ?_ | refine q_l ?_ | refine q_m ?_ | refine q_n ?_ | refine q_h ?_ | refine q_o ?_ | refine q_e ?_ | refine q_f ?_ | refine q_g ?_ | fail)
      try refine A_block ?_
      refine A_loop (fun k : Nat => [(4, .iptr (clsD c) 0), (5, .iptr (sbjD s) 0), (11, natA k)]) (fun _ => []) (fun k => k ≤ s.path.length ∧ ((s.path.take k).any fun n => decide (n = c.thr)) = false) (fun k => s.path.length - k) 0 ⟨Nat.zero_le _, rfl⟩ (Wk_sel ⟨rfl, rfl, rfl, trivial⟩ trivial) ?_
      rintro k ⟨hk, ha⟩
      try dsimp only
      by_cases hkl : k < s.path.length
      · have hw := win_flat0 u1D_len s.path k 1 hkl (by decide)
        have ht := any_take (fun n => decide (n = c.thr)) s.path k hkl
        rw [ha, Bool.false_or] at ht
        have hpu := hs.pu _ (List.getElem_mem hkl)
        have hcv : IntKind.i64.wrap s.path[k] = s.path[k] := wrap_i64 ⟨by omega, by omega⟩
        by_cases he : s.path[k] = c.thr
        · obtain rfl : true = b5 := by
            rw [← hb5]
            symm
            exact List.any_eq_true.2 ⟨s.path[k], List.getElem_mem hkl, by simp [he]⟩
          repeat ((fail_if_success (refine stopL ?_)); first | refine A_seq ?_ | refine A_block ?_ | refine R_list ?_ | refine R_quiet rfl mixed (by kernel_rfl) ?_ | ((first | apply O_y rfl rfl rfl | apply Q_y rfl rfl rfl); (first | exact R_addN rfl rfl rfl | exact R_subN rfl rfl rfl | (first | exact q_A | exact R_loadi tabOk rfl rfl rfl rfl (by first | exact hw | rfl) rfl rfl | exact q_B | (first | exact R_index (j := k) tabOk rfl rfl rfl rfl rfl rfl hkl | exact Y_conv tabOk rfl rfl rfl rfl rfl hcv)))) | refine O_nil ?_ | refine Q_nil ?_ | refine q_j ?_ | refine q_k ?_ | refine q_d ?_ | refine q_a ?_ | refine q_b ?_ | refine q_c ?_ | refine A_ct rfl ?_ | refine A_cf rfl ?_ | refine A_skip ?_ | refine A_exit ?_ | refine A_ret ?_ | refine q_l ?_ | refine q_m ?_ | refine q_n ?_ | refine q_h ?_ | refine q_o ?_ | refine q_e ?_ | refine q_f ?_ | refine q_g ?_ | fail)
          exact X_ret rfl ⟨rfl, rfl⟩
        · have ht : ((s.path.take (k + 1)).any fun n => decide (n = c.thr)) = false := by rw [ht]; simp [he]
          repeat ((fail_if_success (refine stopL ?_)); first | refine A_seq ?_ | refine A_block ?_ | refine R_list ?_ | refine R_quiet rfl mixed (by kernel_rfl) ?_ | ((first | apply O_y rfl rfl rfl | apply Q_y rfl rfl rfl); (first | exact R_addN rfl rfl rfl | exact R_subN rfl rfl rfl | (first | exact q_A | exact R_loadi tabOk rfl rfl rfl rfl (by first | exact hw | rfl) rfl rfl | exact q_B | (first | exact R_index (j := k) tabOk rfl rfl rfl rfl rfl rfl hkl | exact Y_conv tabOk rfl rfl rfl rfl rfl hcv)))) | refine O_nil ?_ | refine Q_nil ?_ | refine q_j ?_ | refine q_k ?_ | refine q_d ?_ | refine q_a ?_ | refine q_b ?_ | refine q_c ?_ | refine A_ct rfl ?_ | refine A_cf rfl ?_ | refine A_skip ?_ | refine A_exit ?_ | refine A_ret ?_ | refine q_l ?_ | refine q_m ?_ | refine q_n ?_ | refine q_h ?_ | refine q_o ?_ | refine q_e ?_ | refine q_f ?_ | refine q_g ?_ | fail)
          exact ⟨k + 1, ⟨hkl, ht⟩, by omega, Wk_sel ⟨rfl, rfl, rfl, trivial⟩ trivial⟩
      · obtain rfl : k = s.path.length := by omega
        rw [List.take_length, hb5] at ha
        subst ha
        repeat ((fail_if_success (refine stopL ?_)); first | refine A_seq ?_ | refine A_block ?_ | refine R_list ?_ | refine R_quiet rfl mixed (by kernel_rfl) ?_ | ((first | apply O_y rfl rfl rfl | apply Q_y rfl rfl rfl); (first | exact R_addN rfl rfl rfl | exact R_subN rfl rfl rfl | (first | exact q_A | exact q_5 | exact q_B | fail))) | refine O_nil ?_ | refine Q_nil ?_ | refine q_j ?_ | refine q_k ?_ | refine q_d ?_ | refine q_a ?_ | refine q_b ?_ | refine q_c ?_ | refine A_ct rfl ?_ | refine A_cf rfl ?_ | refine A_skip ?_ | refine A_exit ?_ | refine A_ret ?_ | refine q_l ?_ | refine q_m ?_ | refine q_n ?_ | refine q_h ?_ | refine q_o ?_ | refine q_e ?_ | refine q_f ?_ | refine q_g ?_ | fail)
        exact X_ret rfl ⟨rfl, rfl⟩
    · have v1 : c.met ≠ -1 := fun h => t2 (.inl h)
      have v2 : c.met ≠ s.met := fun h => t2 (.inr h)
      rw [decide_eq_false v1, decide_eq_false v2, Bool.false_or, Bool.false_and]
      by_cases u1 : c.tag = -1
      ·
        repeat ((fail_if_success (refine stopL ?_)); first | refine A_seq ?_ | refine A_block ?_ | refine R_list ?_ | refine R_quiet rfl mixed (by kernel_rfl) ?_ | ((first | apply O_y rfl rfl rfl | apply Q_y rfl rfl rfl); (first | exact R_addN rfl rfl rfl | exact R_subN rfl rfl rfl | (first | exact q_A | exact q_5 | exact q_B | fail))) | refine O_nil ?_ | refine Q_nil ?_ | refine q_j ?_ | refine q_k ?_ | refine q_d ?_ | refine q_a ?_ | refine q_b ?_ | refine q_c ?_ | refine A_ct rfl ?_ | refine A_cf rfl ?_ | refine A_skip ?_ | refine A_exit ?_ | refine A_ret ?_ | refine q_l ?_ | refine q_m ?_ | refine q_n ?_ | refine q_h ?_ | refine q_o ?_ | refine q_e ?_ | refine q_f ?_ | refine q_g ?_ | fail)
        exact X_ret rfl ⟨rfl, rfl⟩
      · have u4 : c.tag = s.tag := t1.resolve_left u1
        repeat ((fail_if_success (refine stopL ?_)); first | refine A_seq ?_ | refine A_block ?_ | refine R_list ?_ | refine R_quiet rfl mixed (by kernel_rfl) ?_ | ((first | apply O_y rfl rfl rfl | apply Q_y rfl rfl rfl); (first | exact R_addN rfl rfl rfl | exact R_subN rfl rfl rfl | (first | exact q_A | exact q_5 | exact q_B | fail))) | refine O_nil ?_ | refine Q_nil ?_ | refine q_j ?_ | refine q_k ?_ | refine q_d ?_ | refine q_a ?_ | refine q_b ?_ | refine q_c ?_ | refine A_ct rfl ?_ | refine A_cf rfl ?_ | refine A_skip ?_ | refine A_exit ?_ | refine A_ret ?_ | refine q_l ?_ | refine q_m ?_ | refine q_n ?_ | refine q_h ?_ | refine q_o ?_ | refine q_e ?_ | refine q_f ?_ | refine q_g ?_ | fail)
        exact X_ret rfl ⟨rfl, rfl⟩
  · have v1 : c.tag ≠ -1 := fun h => t1 (.inl h)
    have v2 : c.tag ≠ s.tag := fun h => t1 (.inr h)
    rw [decide_eq_false v1, decide_eq_false v2, Bool.false_or, Bool.false_and, Bool.false_and]
    repeat ((fail_if_success (refine stopL ?_)); first | refine A_seq ?_ | refine A_block ?_ | refine R_list ?_ | refine R_quiet rfl mixed (by kernel_rfl) ?_ | ((first | apply O_y rfl rfl rfl | apply Q_y rfl rfl rfl); (first | exact R_addN rfl rfl rfl | exact R_subN rfl rfl rfl | (first | exact q_A | exact q_5 | exact q_B | fail))) | refine O_nil ?_ | refine Q_nil ?_ | refine q_j ?_ | refine q_k ?_ | refine q_d ?_ | refine q_a ?_ | refine q_b ?_ | refine q_c ?_ | refine A_ct rfl ?_ | refine A_cf rfl ?_ | refine A_skip ?_ | refine A_exit ?_ | refine A_ret ?_ | refine q_l ?_ | refine q_m ?_ | refine q_n ?_ | refine q_h ?_ | refine q_o ?_ | refine q_e ?_ | refine q_f ?_ | refine q_g ?_ | fail)
    exact X_ret rfl ⟨rfl, rfl⟩
end Ab
end Go.Proofs.Ytmljmahlpcdhoaa

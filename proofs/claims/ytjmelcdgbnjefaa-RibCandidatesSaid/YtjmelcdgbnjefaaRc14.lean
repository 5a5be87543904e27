/-
  Texts of a proof, one behind the other (part 15).
-/
import Derived.Test.YtjmelcdgbnjefaaRc5
import Derived.Test.YtjmelcdgbnjefaaRc11
set_option linter.unusedVariables false
set_option linter.unusedSimpArgs false
namespace Go.Proofs.Ytjmelcdgbnjefaa.Ab
set_option linter.unusedVariables false
set_option maxRecDepth 100000
open Go.RowKit Go.Lib
set_option linter.unusedSimpArgs false
attribute [local irreducible] AWp AOps AQ AYield AEff ACall AWk AAny AAt AThen AIn APost NoPanic
def oneI (a b : Bool) : Int := if a then -1 else if b then 1 else 0
theorem one_A (a b : Bool) : ACall Try.prog 56 [boolA a, boolA b] [] (Just (intA (oneI a b))) := by
  refine ACall_of tabOk Try.func56 rfl Try.ntmps56 (congrArg Array.toList Try.results56) (by kernel_rfl) rfl ?_
  cases a
  · cases b
    ·
      repeat (first | refine A_seq ?_ | refine A_block ?_ | refine R_list ?_ | refine R_quiet rfl mixed (by kernel_rfl) ?_ | ((first | apply O_y rfl rfl rfl | apply Q_y rfl rfl rfl); (first | exact q_1 | exact q_2 | exact q_3 | exact q_4 | exact q_5 | exact q_6 | exact q_7 | exact q_8 | exact q_9 | exact q_10 | exact q_11 | exact q_12 | exact q_13 | exact q_14 | exact q_15 | exact q_16 | exact q_17 | exact q_18 | exact q_19 | exact q_20 | exact q_21 | exact q_22 | exact q_23 | exact q_24 | fail)) | refine O_nil ?_ | refine Q_nil ?_ | refine q_j ?_ | refine q_k ?_ | refine q_d ?_ | refine q_a ?_ | refine q_b ?_ | refine q_c ?_ | refine A_ct rfl ?_ | refine A_cf rfl ?_ | refine A_skip ?_ | refine A_exit ?_ | refine A_ret ?_ | refine q_l ?_ | refine q_m ?_ | refine q_n ?_ | refine q_h ?_ | refine q_o ?_ | refine q_e ?_ | refine q_f ?_ | refine q_g ?_ | fail)
      exact X_ret rfl ⟨rfl, rfl⟩
    ·
      repeat (first | refine A_seq ?_ | refine A_block ?_ | refine R_list ?_ | refine R_quiet rfl mixed (by kernel_rfl) ?_ | ((first | apply O_y rfl rfl rfl | apply Q_y rfl rfl rfl); (first | exact q_1 | exact q_2 | exact q_3 | exact q_4 | exact q_5 | exact q_6 | exact q_7 | exact q_8 | exact q_9 | exact q_10 | exact q_11 | exact q_12 | exact q_13 | exact q_14 | exact q_15 | exact q_16 | exact q_17 | exact q_18 | exact q_19 | exact q_20 | exact q_21 | exact q_22 | exact q_23 | exact q_24 | fail)) | refine O_nil ?_ | refine Q_nil ?_ | refine q_j ?_ | refine q_k ?_ | refine q_d ?_ | refine q_a ?_ | refine q_b ?_ | refine q_c ?_ | refine A_ct rfl ?_ | refine A_cf rfl ?_ | refine A_skip ?_ | refine A_exit ?_ | refine A_ret ?_ | refine q_l ?_ | refine q_m ?_ | refine q_n ?_ | refine q_h ?_ | refine q_o ?_ | refine q_e ?_ | refine q_f ?_ | refine q_g ?_ | fail)
      exact X_ret rfl ⟨rfl, rfl⟩
  ·
    repeat (first | refine A_seq ?_ | refine A_block ?_ | refine R_list ?_ | refine R_quiet rfl mixed (by kernel_rfl) ?_ | ((first | apply O_y rfl rfl rfl | apply Q_y rfl rfl rfl); (first | exact q_1 | exact q_2 | exact q_3 | exact q_4 | exact q_5 | exact q_6 | exact q_7 | exact q_8 | exact q_9 | exact q_10 | exact q_11 | exact q_12 | exact q_13 | exact q_14 | exact q_15 | exact q_16 | exact q_17 | exact q_18 | exact q_19 | exact q_20 | exact q_21 | exact q_22 | exact q_23 | exact q_24 | fail)) | refine O_nil ?_ | refine Q_nil ?_ | refine q_j ?_ | refine q_k ?_ | refine q_d ?_ | refine q_a ?_ | refine q_b ?_ | refine q_c ?_ | refine A_ct rfl ?_ | refine A_cf rfl ?_ | refine A_skip ?_ | refine A_exit ?_ | refine A_ret ?_ | refine q_l ?_ | refine q_m ?_ | refine q_n ?_ | refine q_h ?_ | refine q_o ?_ | refine q_e ?_ | refine q_f ?_ | refine q_g ?_ | fail)
    exact X_ret rfl ⟨rfl, rfl⟩
theorem oneI_c2 (x y : Int) : oneI (decide (x < y)) (decide (x > y)) = c2 x y := by
  unfold oneI c2
  by_cases h1 : x < y
  · simp [h1]
  · by_cases h2 : y < x
    · simp [h1, h2]
    · simp [h1, h2]
theorem oneI_bytes (x y : List UInt8) : oneI (decide (compareBytes x y < 0)) (decide (0 < compareBytes x y)) = compareBytes x y := by
  rcases bytes_c2 x y with h | h | h <;> rw [h] <;> rfl
theorem oneI_cB1 (b : Bool) : oneI b false = cB false b := by cases b <;> rfl
theorem oneI_cB2 (b : Bool) : oneI false (!b) = cB true b := by cases b <;> rfl
theorem one_c2 (x y : Int) : ACall Try.prog 56 [boolA (decide (x < y)), boolA (decide (x > y))] [] (Just (intA (c2 x y))) := by
  have := one_A (decide (x < y)) (decide (x > y)); rw [oneI_c2] at this; exact this
theorem one_bytes (x y : List UInt8) : ACall Try.prog 56 [boolA (decide (compareBytes x y < 0)), boolA (decide (0 < compareBytes x y))] [] (Just (intA (compareBytes x y))) := by
  have := one_A (decide (compareBytes x y < 0)) (decide (0 < compareBytes x y)); rw [oneI_bytes] at this; exact this
theorem first_A (l : List Int) (hn : l.length ≤ 1000000) : ACall Try.prog 54 [intsA l] [] (Just (intA (firstI l))) := by
  refine ACall_of tabOk Try.func54 rfl Try.ntmps54 (congrArg Array.toList Try.results54) (by kernel_rfl) rfl ?_
  repeat (first | refine A_seq ?_ | refine A_block ?_ | refine R_list ?_ | refine R_quiet rfl mixed (by kernel_rfl) ?_ | ((first | apply O_y rfl rfl rfl | apply Q_y rfl rfl rfl); (first | exact q_1 | exact q_2 | exact q_3 | exact q_4 | exact q_5 | exact q_6 | exact q_7 | exact q_8 | exact q_9 | exact q_10 | exact q_11 | exact q_12 | exact q_13 | exact q_14 | exact q_15 | exact q_16 | exact q_17 | exact q_18 | exact q_19 | exact q_20 | exact q_21 | exact q_22 | exact q_23 | exact q_24 | fail)) | refine O_nil ?_ | refine Q_nil ?_ | refine q_j ?_ | refine q_k ?_ | refine q_d ?_ | refine q_a ?_ | refine q_b ?_ | refine q_c ?_ | refine A_ct rfl ?_ | refine A_cf rfl ?_ | refine A_skip ?_ | refine A_exit ?_ | refine A_ret ?_ | refine q_l ?_ | refine q_m ?_ | refine q_n ?_ | refine q_h ?_ | refine q_o ?_ | refine q_e ?_ | refine q_f ?_ | refine q_g ?_ | fail)
  refine A_loop (fun k : Nat => [(0, intsA l), (3, intA (k : Int))]) (fun _ => []) (fun k => k ≤ l.length ∧ firstI l = firstI (l.drop k)) (fun k => l.length - k) 0 ⟨by omega, rfl⟩ (Wk_sel ⟨rfl, rfl, trivial⟩ trivial) ?_
  rintro k ⟨hk, he⟩
  dsimp only
  by_cases hlt : k < l.length
  · by_cases h0 : l[k] = 0
    ·
      repeat (first | refine A_seq ?_ | refine A_block ?_ | refine R_list ?_ | refine R_quiet rfl mixed (by kernel_rfl) ?_ | ((first | apply O_y rfl rfl rfl | apply Q_y rfl rfl rfl); (first | exact q_1 | exact q_2 | exact q_3 | exact q_4 | exact R_loadi tabOk rfl rfl rfl rfl (by first | exact win_flat0 intD_len l k _ hlt (by decide) | exact win_flat intD_len l k _ _ hlt (by decide) | exact win_flat2 intD_len l k _ _ _ hlt (by decide) | rfl) rfl rfl | exact q_6 | exact q_7 | exact q_8 | exact q_9 | exact q_10 | exact q_11 | exact q_12 | exact q_13 | exact q_14 | exact q_15 | exact q_16 | exact q_17 | exact q_18 | exact q_19 | exact q_20 | exact q_21 | exact q_22 | exact q_23 | exact q_24 | fail)) | refine O_nil ?_ | refine Q_nil ?_ | refine q_j ?_ | refine q_k ?_ | refine q_d ?_ | refine q_a ?_ | refine q_b ?_ | refine q_c ?_ | refine A_ct rfl ?_ | refine A_cf rfl ?_ | refine A_skip ?_ | refine A_exit ?_ | refine A_ret ?_ | refine q_l ?_ | refine q_m ?_ | refine q_n ?_ | refine q_h ?_ | refine q_o ?_ | refine q_e ?_ | refine q_f ?_ | refine q_g ?_ | fail)
      exact ⟨k + 1, ⟨by omega, by rw [he, firstI_drop hlt h0]⟩, by omega, Wk_sel ⟨rfl, rfl, trivial⟩ trivial⟩
    ·
      repeat (first | refine A_seq ?_ | refine A_block ?_ | refine R_list ?_ | refine R_quiet rfl mixed (by kernel_rfl) ?_ | ((first | apply O_y rfl rfl rfl | apply Q_y rfl rfl rfl); (first | exact q_1 | exact q_2 | exact q_3 | exact q_4 | exact R_loadi tabOk rfl rfl rfl rfl (by first | exact win_flat0 intD_len l k _ hlt (by decide) | exact win_flat intD_len l k _ _ hlt (by decide) | exact win_flat2 intD_len l k _ _ _ hlt (by decide) | rfl) rfl rfl | exact q_6 | exact q_7 | exact q_8 | exact q_9 | exact q_10 | exact q_11 | exact q_12 | exact q_13 | exact q_14 | exact q_15 | exact q_16 | exact q_17 | exact q_18 | exact q_19 | exact q_20 | exact q_21 | exact q_22 | exact q_23 | exact q_24 | fail)) | refine O_nil ?_ | refine Q_nil ?_ | refine q_j ?_ | refine q_k ?_ | refine q_d ?_ | refine q_a ?_ | refine q_b ?_ | refine q_c ?_ | refine A_ct rfl ?_ | refine A_cf rfl ?_ | refine A_skip ?_ | refine A_exit ?_ | refine A_ret ?_ | refine q_l ?_ | refine q_m ?_ | refine q_n ?_ | refine q_h ?_ | refine q_o ?_ | refine q_e ?_ | refine q_f ?_ | refine q_g ?_ | fail)
      exact X_ret rfl ⟨by rw [he, firstI_at hlt h0]; rfl, rfl⟩
  · have : k = l.length := by omega
    subst this
    repeat (first | refine A_seq ?_ | refine A_block ?_ | refine R_list ?_ | refine R_quiet rfl mixed (by kernel_rfl) ?_ | ((first | apply O_y rfl rfl rfl | apply Q_y rfl rfl rfl); (first | exact q_1 | exact q_2 | exact q_3 | exact q_4 | exact q_5 | exact q_6 | exact q_7 | exact q_8 | exact q_9 | exact q_10 | exact q_11 | exact q_12 | exact q_13 | exact q_14 | exact q_15 | exact q_16 | exact q_17 | exact q_18 | exact q_19 | exact q_20 | exact q_21 | exact q_22 | exact q_23 | exact q_24 | fail)) | refine O_nil ?_ | refine Q_nil ?_ | refine q_j ?_ | refine q_k ?_ | refine q_d ?_ | refine q_a ?_ | refine q_b ?_ | refine q_c ?_ | refine A_ct rfl ?_ | refine A_cf rfl ?_ | refine A_skip ?_ | refine A_exit ?_ | refine A_ret ?_ | refine q_l ?_ | refine q_m ?_ | refine q_n ?_ | refine q_h ?_ | refine q_o ?_ | refine q_e ?_ | refine q_f ?_ | refine q_g ?_ | fail)
    exact X_ret rfl ⟨by rw [he, List.drop_length]; rfl, rfl⟩
set_option maxHeartbeats 8000000 in
theorem refPrefix_A (p q : Pfx) : ACall Try.prog 55 [pfxA p, pfxA q] [] (Just (intA (ordP p q))) := by
  have h1 := one_c2 p.a q.a
  have h2 := one_c2 p.b q.b
  have h3 := first_A [c2 p.a q.a, c2 p.b q.b] (by simp)
  rw [ordP_first] at h3
  refine ACall_of tabOk Try.func55 rfl Try.ntmps55 (congrArg Array.toList Try.results55) (by kernel_rfl) rfl ?_
  refine A_seq ?_
  refine R_list ?_
  repeat (first | refine A_seq ?_ | refine A_block ?_ | refine R_list ?_ | refine R_quiet rfl mixed (by kernel_rfl) ?_ | ((first | apply O_y rfl rfl rfl | apply Q_y rfl rfl rfl); (first | exact q_1 | exact q_2 | exact q_3 | exact q_4 | exact q_5 | exact q_6 | exact q_7 | exact q_8 | exact q_9 | exact q_10 | exact q_11 | exact q_12 | exact q_13 | exact q_14 | exact q_15 | exact q_16 | exact q_17 | exact q_18 | exact q_19 | exact q_20 | exact q_21 | exact q_22 | exact q_23 | exact q_24 | fail)) | refine O_nil ?_ | refine Q_nil ?_ | refine q_j ?_ | refine q_k ?_ | refine q_d ?_ | refine q_a ?_ | refine q_b ?_ | refine q_c ?_ | refine A_ct rfl ?_ | refine A_cf rfl ?_ | refine A_skip ?_ | refine A_exit ?_ | refine A_ret ?_ | refine q_l ?_ | refine q_m ?_ | refine q_n ?_ | refine q_h ?_ | refine q_o ?_ | refine q_e ?_ | refine q_f ?_ | refine q_g ?_ | fail)
  refine N_begin [] mixed ?_
  (apply q_P 0 rfl (by kernel_rfl) rfl rfl rfl; (first | exact q_1 | exact q_2 | exact q_8 | exact q_7 | exact q_13 | exact Y_sbin rfl rfl rfl rfl | exact q_20 | exact q_25 | exact q_26))
  (apply q_P 1 rfl (by kernel_rfl) rfl rfl rfl; (first | exact q_1 | exact q_2 | exact q_8 | exact q_7 | exact q_13 | exact Y_sbin rfl rfl rfl rfl | exact q_20 | exact q_25 | exact q_26))
  (apply q_P 2 rfl (by kernel_rfl) rfl rfl rfl; (first | exact q_1 | exact q_2 | exact q_8 | exact q_7 | exact q_13 | exact Y_sbin rfl rfl rfl rfl | exact q_20 | exact q_25 | exact q_26))
  (apply q_P 3 rfl (by kernel_rfl) rfl rfl rfl; (first | exact q_1 | exact q_2 | exact q_8 | exact q_7 | exact q_13 | exact Y_sbin rfl rfl rfl rfl | exact q_20 | exact q_25 | exact q_26))
  (apply q_P 4 rfl (by kernel_rfl) rfl rfl rfl; (first | exact q_1 | exact q_2 | exact q_8 | exact q_7 | exact q_13 | exact Y_sbin rfl rfl rfl rfl | exact q_20 | exact q_25 | exact q_26))
  (apply q_P 5 rfl (by kernel_rfl) rfl rfl rfl; (first | exact q_1 | exact q_2 | exact q_8 | exact q_7 | exact q_13 | exact Y_sbin rfl rfl rfl rfl | exact q_20 | exact q_25 | exact q_26))
  (apply q_P 6 rfl (by kernel_rfl) rfl rfl rfl; (first | exact q_1 | exact q_2 | exact q_8 | exact q_7 | exact q_13 | exact Y_sbin rfl rfl rfl rfl | exact q_20 | exact q_25 | exact q_26))
  (apply q_P 7 rfl (by kernel_rfl) rfl rfl rfl; (first | exact q_1 | exact q_2 | exact q_8 | exact q_7 | exact q_13 | exact Y_sbin rfl rfl rfl rfl | exact q_20 | exact q_25 | exact q_26))
  (apply q_P 8 rfl (by kernel_rfl) rfl rfl rfl; (first | exact q_1 | exact q_2 | exact q_8 | exact q_7 | exact q_13 | exact Y_sbin rfl rfl rfl rfl | exact q_20 | exact q_25 | exact q_26))
  (apply q_P 9 rfl (by kernel_rfl) rfl rfl rfl; (first | exact q_1 | exact q_2 | exact q_8 | exact q_7 | exact q_13 | exact Y_sbin rfl rfl rfl rfl | exact q_20 | exact q_25 | exact q_26))
  (apply q_P 11 rfl (by kernel_rfl) rfl rfl rfl; (first | exact q_1 | exact q_2 | exact q_8 | exact q_7 | exact q_13 | exact Y_sbin rfl rfl rfl rfl | exact q_20 | exact q_25 | exact q_26))
  (apply q_P 12 rfl (by kernel_rfl) rfl rfl rfl; (first | exact q_1 | exact q_2 | exact q_8 | exact q_7 | exact q_13 | exact Y_sbin rfl rfl rfl rfl | exact q_20 | exact q_25 | exact q_26))
  (apply q_P 13 rfl (by kernel_rfl) rfl rfl rfl; (first | exact q_1 | exact q_2 | exact q_8 | exact q_7 | exact q_13 | exact Y_sbin rfl rfl rfl rfl | exact q_20 | exact q_25 | exact q_26))
  (apply q_P 14 rfl (by kernel_rfl) rfl rfl rfl; (first | exact q_1 | exact q_2 | exact q_8 | exact q_7 | exact q_13 | exact Y_sbin rfl rfl rfl rfl | exact q_20 | exact q_25 | exact q_26))
  (apply q_P 15 rfl (by kernel_rfl) rfl rfl rfl; (first | exact q_1 | exact q_2 | exact q_8 | exact q_7 | exact q_13 | exact Y_sbin rfl rfl rfl rfl | exact q_20 | exact q_25 | exact q_26))
  (apply q_P 16 rfl (by kernel_rfl) rfl rfl rfl; (first | exact q_1 | exact q_2 | exact q_8 | exact q_7 | exact q_13 | exact Y_sbin rfl rfl rfl rfl | exact q_20 | exact q_25 | exact q_26))
  (apply q_P 17 rfl (by kernel_rfl) rfl rfl rfl; (first | exact q_1 | exact q_2 | exact q_8 | exact q_7 | exact q_13 | exact Y_sbin rfl rfl rfl rfl | exact q_20 | exact q_25 | exact q_26))
  (apply q_P 18 rfl (by kernel_rfl) rfl rfl rfl; (first | exact q_1 | exact q_2 | exact q_8 | exact q_7 | exact q_13 | exact Y_sbin rfl rfl rfl rfl | exact q_20 | exact q_25 | exact q_26))
  (apply q_P 19 rfl (by kernel_rfl) rfl rfl rfl; (first | exact q_1 | exact q_2 | exact q_8 | exact q_7 | exact q_13 | exact Y_sbin rfl rfl rfl rfl | exact q_20 | exact q_25 | exact q_26))
  (apply q_P 20 rfl (by kernel_rfl) rfl rfl rfl; (first | exact q_1 | exact q_2 | exact q_8 | exact q_7 | exact q_13 | exact Y_sbin rfl rfl rfl rfl | exact q_20 | exact q_25 | exact q_26))
  refine N_one (j := 10) (by kernel_rfl) ?_
  refine T_call rfl rfl rfl rfl rfl rfl h1 (fun _ => rfl) ?_
  refine N_one (j := 21) (by kernel_rfl) ?_
  refine T_call rfl rfl rfl rfl rfl rfl h2 (fun _ => rfl) ?_
  refine N_one (j := 22) (by kernel_rfl) ?_
  refine T_slice tabOk rfl rfl rfl rfl rfl rfl rfl rfl rfl rfl rfl rfl ?_
  refine N_one (j := 23) (by kernel_rfl) ?_
  refine T_cL rfl rfl rfl rfl rfl rfl h3 rfl (fun _ _ _ => val_mk _ _ _ _ _ rfl rfl) ?_
  (apply q_P 24 rfl (by kernel_rfl) rfl rfl rfl; (first | exact q_1 | exact q_2 | exact q_8 | exact q_7 | exact q_13 | exact Y_sbin rfl rfl rfl rfl | exact q_20 | exact q_25 | exact q_26))
  refine N_done (by kernel_rfl) ?_
  repeat (first | refine A_seq ?_ | refine A_block ?_ | refine R_list ?_ | refine R_quiet rfl mixed (by kernel_rfl) ?_ | ((first | apply O_y rfl rfl rfl | apply Q_y rfl rfl rfl); (first | exact q_1 | exact q_2 | exact q_3 | exact q_4 | exact q_5 | exact q_6 | exact q_7 | exact q_8 | exact q_9 | exact q_10 | exact q_11 | exact q_12 | exact q_13 | exact q_14 | exact q_15 | exact q_16 | exact q_17 | exact q_18 | exact q_19 | exact q_20 | exact q_21 | exact q_22 | exact q_23 | exact q_24 | fail)) | refine O_nil ?_ | refine Q_nil ?_ | refine q_j ?_ | refine q_k ?_ | refine q_d ?_ | refine q_a ?_ | refine q_b ?_ | refine q_c ?_ | refine A_ct rfl ?_ | refine A_cf rfl ?_ | refine A_skip ?_ | refine A_exit ?_ | refine A_ret ?_ | refine q_l ?_ | refine q_m ?_ | refine q_n ?_ | refine q_h ?_ | refine q_o ?_ | refine q_e ?_ | refine q_f ?_ | refine q_g ?_ | fail)
  exact X_ret rfl ⟨rfl, rfl⟩
set_option maxHeartbeats 4000000 in
theorem refSame_A (l m : List Rte) (hn : l.length ≤ 1000000) : ACall Try.prog 15 [rtesA l, rtesA m] [] (Just (boolA (decide (l = m)))) := by
  refine ACall_of tabOk Try.func15 rfl Try.ntmps15 (congrArg Array.toList Try.results15) (by kernel_rfl) rfl ?_
  by_cases hl : l.length = m.length
  ·
    repeat (first | refine A_seq ?_ | refine A_block ?_ | refine R_list ?_ | refine R_quiet rfl mixed (by kernel_rfl) ?_ | ((first | apply O_y rfl rfl rfl | apply Q_y rfl rfl rfl); (first | exact q_1 | exact q_2 | exact q_3 | exact q_4 | exact q_5 | exact q_6 | exact q_7 | exact q_8 | exact q_9 | exact q_10 | exact q_11 | exact q_12 | exact q_13 | exact q_14 | exact q_15 | exact q_16 | exact q_17 | exact q_18 | exact q_19 | exact q_20 | exact q_21 | exact q_22 | exact q_23 | exact q_24 | fail)) | refine O_nil ?_ | refine Q_nil ?_ | refine q_j ?_ | refine q_k ?_ | refine q_d ?_ | refine q_a ?_ | refine q_b ?_ | refine q_c ?_ | refine A_ct rfl ?_ | refine A_cf rfl ?_ | refine A_skip ?_ | refine A_exit ?_ | refine A_ret ?_ | refine q_l ?_ | refine q_m ?_ | refine q_n ?_ | refine q_h ?_ | refine q_o ?_ | refine q_e ?_ | refine q_f ?_ | refine q_g ?_ | fail)
    refine A_loop (fun k : Nat => [(0, rtesA l), (1, rtesA m), (5, intA (k : Int))]) (fun _ => []) (fun k => k ≤ l.length ∧ l.take k = m.take k) (fun k => l.length - k) 0 ⟨Nat.zero_le _, rfl⟩ (Wk_sel ⟨rfl, rfl, rfl, trivial⟩ trivial) ?_
    rintro k ⟨hk, he⟩
    dsimp only
    by_cases hlt : k < l.length
    · have hlm : k < m.length := by omega
      have heq := rteEq l[k] m[k]
      have hw0 := win_at l k hlt
      have hw1 := win_at m k hlm
      by_cases hx : l[k] = m[k]
      · rw [show (l[k] == m[k]) = true by simpa using hx] at heq
        repeat (first | refine A_seq ?_ | refine A_block ?_ | refine R_list ?_ | refine R_quiet rfl mixed (by kernel_rfl) ?_ | ((first | apply O_y rfl rfl rfl | apply Q_y rfl rfl rfl); (first | exact q_1 | exact q_2 | exact q_3 | exact q_4 | exact R_loadi tabOk rfl rfl rfl rfl hw0 rfl rfl | exact q_6 | exact q_7 | exact q_8 | exact q_9 | exact q_10 | exact q_11 | exact q_12 | exact q_13 | exact q_14 | exact q_15 | exact q_16 | exact q_17 | exact q_18 | exact q_19 | exact q_20 | exact q_21 | exact q_22 | exact q_23 | exact q_24 | (first | exact R_loadi tabOk rfl rfl rfl rfl hw1 rfl rfl | exact Y_eq tabOk noStand rfl rfl rfl rfl rfl rfl rfl rfl rfl (by kernel_rfl) heq rfl))) | refine O_nil ?_ | refine Q_nil ?_ | refine q_j ?_ | refine q_k ?_ | refine q_d ?_ | refine q_a ?_ | refine q_b ?_ | refine q_c ?_ | refine A_ct rfl ?_ | refine A_cf rfl ?_ | refine A_skip ?_ | refine A_exit ?_ | refine A_ret ?_ | refine q_l ?_ | refine q_m ?_ | refine q_n ?_ | refine q_h ?_ | refine q_o ?_ | refine q_e ?_ | refine q_f ?_ | refine q_g ?_ | fail)
        exact ⟨k + 1, ⟨by omega, by rw [List.take_succ_eq_append_getElem hlt, List.take_succ_eq_append_getElem hlm, he, hx]⟩, by omega, Wk_sel ⟨rfl, rfl, rfl, trivial⟩ trivial⟩
      · rw [show (l[k] == m[k]) = false by simpa using hx] at heq
        have hne : ¬ l = m := fun h => hx (by subst h; rfl)
        rw [show decide (l = m) = false by simpa using hne]
        repeat (first | refine A_seq ?_ | refine A_block ?_ | refine R_list ?_ | refine R_quiet rfl mixed (by kernel_rfl) ?_ | ((first | apply O_y rfl rfl rfl | apply Q_y rfl rfl rfl); (first | exact q_1 | exact q_2 | exact q_3 | exact q_4 | exact R_loadi tabOk rfl rfl rfl rfl hw0 rfl rfl | exact q_6 | exact q_7 | exact q_8 | exact q_9 | exact q_10 | exact q_11 | exact q_12 | exact q_13 | exact q_14 | exact q_15 | exact q_16 | exact q_17 | exact q_18 | exact q_19 | exact q_20 | exact q_21 | exact q_22 | exact q_23 | exact q_24 | (first | exact R_loadi tabOk rfl rfl rfl rfl hw1 rfl rfl | exact Y_eq tabOk noStand rfl rfl rfl rfl rfl rfl rfl rfl rfl (by kernel_rfl) heq rfl))) | refine O_nil ?_ | refine Q_nil ?_ | refine q_j ?_ | refine q_k ?_ | refine q_d ?_ | refine q_a ?_ | refine q_b ?_ | refine q_c ?_ | refine A_ct rfl ?_ | refine A_cf rfl ?_ | refine A_skip ?_ | refine A_exit ?_ | refine A_ret ?_ | refine q_l ?_ | refine q_m ?_ | refine q_n ?_ | refine q_h ?_ | refine q_o ?_ | refine q_e ?_ | refine q_f ?_ | refine q_g ?_ | fail)
        exact X_ret rfl ⟨rfl, rfl⟩
    · have hkk : k = l.length := by omega
      subst hkk
      rw [List.take_length, hl, List.take_length] at he
      rw [show decide (l = m) = true by simpa using he]
      repeat (first | refine A_seq ?_ | refine A_block ?_ | refine R_list ?_ | refine R_quiet rfl mixed (by kernel_rfl) ?_ | ((first | apply O_y rfl rfl rfl | apply Q_y rfl rfl rfl); (first | exact q_1 | exact q_2 | exact q_3 | exact q_4 | exact q_5 | exact q_6 | exact q_7 | exact q_8 | exact q_9 | exact q_10 | exact q_11 | exact q_12 | exact q_13 | exact q_14 | exact q_15 | exact q_16 | exact q_17 | exact q_18 | exact q_19 | exact q_20 | exact q_21 | exact q_22 | exact q_23 | exact q_24 | fail)) | refine O_nil ?_ | refine Q_nil ?_ | refine q_j ?_ | refine q_k ?_ | refine q_d ?_ | refine q_a ?_ | refine q_b ?_ | refine q_c ?_ | refine A_ct rfl ?_ | refine A_cf rfl ?_ | refine A_skip ?_ | refine A_exit ?_ | refine A_ret ?_ | refine q_l ?_ | refine q_m ?_ | refine q_n ?_ | refine q_h ?_ | refine q_o ?_ | refine q_e ?_ | refine q_f ?_ | refine q_g ?_ | fail)
      exact X_ret rfl ⟨rfl, rfl⟩
  · rw [show decide (l = m) = false by simpa using fun h => hl (by rw [h])]
    repeat (first | refine A_seq ?_ | refine A_block ?_ | refine R_list ?_ | refine R_quiet rfl mixed (by kernel_rfl) ?_ | ((first | apply O_y rfl rfl rfl | apply Q_y rfl rfl rfl); (first | exact q_1 | exact q_2 | exact q_3 | exact q_4 | exact q_5 | exact q_6 | exact q_7 | exact q_8 | exact q_9 | exact q_10 | exact q_11 | exact q_12 | exact q_13 | exact q_14 | exact q_15 | exact q_16 | exact q_17 | exact q_18 | exact q_19 | exact q_20 | exact q_21 | exact q_22 | exact q_23 | exact q_24 | fail)) | refine O_nil ?_ | refine Q_nil ?_ | refine q_j ?_ | refine q_k ?_ | refine q_d ?_ | refine q_a ?_ | refine q_b ?_ | refine q_c ?_ | refine A_ct rfl ?_ | refine A_cf rfl ?_ | refine A_skip ?_ | refine A_exit ?_ | refine A_ret ?_ | refine q_l ?_ | refine q_m ?_ | refine q_n ?_ | refine q_h ?_ | refine q_o ?_ | refine q_e ?_ | refine q_f ?_ | refine q_g ?_ | fail)
    exact X_ret rfl ⟨rfl, rfl⟩
end Go.Proofs.Ytjmelcdgbnjefaa.Ab

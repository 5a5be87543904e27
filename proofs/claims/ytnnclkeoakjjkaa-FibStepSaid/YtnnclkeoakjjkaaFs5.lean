/-
  Texts of a proof, one behind the other (part 6).
-/
import Derived.Test.YtnnclkeoakjjkaaFs4
set_option linter.unusedVariables false
set_option linter.unusedSimpArgs false
namespace Go.Proofs.Ytnnclkeoakjjkaa.Ab
set_option linter.unusedVariables false
set_option maxRecDepth 100000
open Go.RowKit Go.Lib
theorem sortU_nil {α : Type} [DecidableEq α] {c : α → α → Int} : sortU c ([] : List α) = [] := List.eq_nil_of_length_eq_zero (Nat.le_zero.1 (sortU_len (c := c) []))
set_option linter.unusedSimpArgs false
attribute [local irreducible] AWp AOps AQ AYield AEff ACall AWk AAny AAt AThen AIn APost NoPanic
set_option maxHeartbeats 8000000 in
theorem refSort_A (l : List Rte) (hn : l.length ≤ 1000000) : ACall Try.prog 17 [rtesA l] [] (fun c h => c = .row 3 ∧ h = [(3, rteB (sortU ordR l))]) := by
  refine ACall_of tabOk Try.func17 rfl Try.ntmps17 (congrArg Array.toList Try.results17) (by kernel_rfl) rfl ?_
  repeat (first | refine A_seq ?_ | refine A_block ?_ | refine R_list ?_ | refine R_quiet rfl mixed (by kernel_rfl) ?_ | ((first | apply O_y rfl rfl rfl | apply Q_y rfl rfl rfl); (first | exact q_1 | exact q_2 | exact q_3 | exact q_4 | exact q_5 | exact q_6 | exact q_7 | exact q_8 | exact q_9 | exact q_10 | exact q_11 | exact q_12 | exact q_13 | exact q_14 | exact q_15 | exact q_16 | exact q_17 | exact q_18 | exact q_19 | exact q_20 | exact q_21 | exact q_22 | exact q_23 | exact q_24 | fail)) | refine O_nil ?_ | refine Q_nil ?_ | refine q_j ?_ | refine q_k ?_ | refine q_d ?_ | refine q_a ?_ | refine q_b ?_ | refine q_c ?_ | refine A_ct rfl ?_ | refine A_cf rfl ?_ | refine A_skip ?_ | refine A_exit ?_ | refine A_ret ?_ | refine q_l ?_ | refine q_m ?_ | refine q_n ?_ | refine q_h ?_ | refine q_o ?_ | refine q_e ?_ | refine q_f ?_ | refine q_g ?_ | fail)
  refine A_weaken (Wk_nil 28 9 (t := 3) (id := 3) rfl rfl) ?_
  refine A_loop (fun i : Nat => [(0, rtesA l), (3, .row 3), (4, intA (i : Int))]) (fun i => [(3, rteB (sortU ordR (l.take i)))]) (fun i => i ≤ l.length) (fun i => l.length - i) 0 (Nat.zero_le _) (Wk_sel ⟨rfl, rfl, rfl, trivial⟩ ⟨by rw [List.take_zero, sortU_nil]; rfl, trivial⟩) ?_
  intro i hi
  try dsimp only
  by_cases hil : i < l.length
  · obtain ⟨out, ho⟩ : ∃ out, sortU ordR (l.take i) = out := ⟨_, rfl⟩
    have hlo : out.length ≤ i := by rw [← ho]; exact Nat.le_trans (sortU_len _) (by rw [List.length_take]; omega)
    have hsn : sortU ordR (l.take (i + 1)) = sortU ordR (l.take i ++ [l[i]]) := by rw [List.take_succ_eq_append_getElem hil]
    rw [ho]
    have hw0 := win_at l i hil
    repeat (first | refine A_seq ?_ | refine A_block ?_ | refine R_list ?_ | refine R_quiet rfl mixed (by kernel_rfl) ?_ | ((first | apply O_y rfl rfl rfl | apply Q_y rfl rfl rfl); (first | exact q_1 | exact q_2 | exact q_3 | exact q_4 | exact q_5 | exact q_6 | exact q_7 | exact q_8 | exact q_9 | exact q_10 | exact q_11 | exact q_12 | exact q_13 | exact q_14 | exact q_15 | exact q_16 | exact q_17 | exact q_18 | exact q_19 | exact q_20 | exact q_21 | exact q_22 | exact q_23 | exact q_24 | fail)) | refine O_nil ?_ | refine Q_nil ?_ | refine q_j ?_ | refine q_k ?_ | refine q_d ?_ | refine q_a ?_ | refine q_b ?_ | refine q_c ?_ | refine A_ct rfl ?_ | refine A_cf rfl ?_ | refine A_skip ?_ | refine A_exit ?_ | refine A_ret ?_ | refine q_l ?_ | refine q_m ?_ | refine q_n ?_ | refine q_h ?_ | refine q_o ?_ | refine q_e ?_ | refine q_f ?_ | refine q_g ?_ | fail)
    refine A_loop (fun k : Nat => [(0, rtesA l), (3, .row 3), (4, intA (i : Int)), (5, intA (k : Int))]) (fun _ => [(3, rteB out)]) (fun k => k ≤ out.length ∧ ∀ (j : Nat) (hj : j < out.length), k ≤ j → ordR l[i] out[j] < 0) (fun k => k) out.length ⟨Nat.le_refl _, fun j h1 h2 => by omega⟩ (Wk_sel ⟨rfl, rfl, rfl, rfl, trivial⟩ ⟨rfl, trivial⟩) ?_
    rintro k ⟨hk, hb⟩
    try dsimp only
    have hmn : Nat.min (out.length + 1 - k) (out.length + 1 - (k + 1)) = out.length - k := by show min _ _ = _; omega
    by_cases hk0 : 0 < k
    · have hk1 : k - 1 < out.length := by omega
      have hk' : ((k : Int) - 1) = ((k - 1 : Nat) : Int) := by omega
      have hc := refCmpR_A l[i] out[k - 1]
      obtain ⟨c, hcc⟩ : ∃ c, ordR l[i] out[k - 1] = c := ⟨_, rfl⟩
      rw [hcc] at hc
      have hw1 := win_at out (k - 1) hk1
      by_cases hneg : c < 0
      ·
        repeat (first | refine A_seq ?_ | refine A_block ?_ | refine R_list ?_ | refine R_quiet rfl mixed (by kernel_rfl) ?_ | ((first | apply O_y rfl rfl rfl | apply Q_y rfl rfl rfl); (first | exact q_1 | exact q_2 | exact q_3 | exact q_4 | exact R_loadi tabOk rfl rfl rfl rfl hw0 rfl rfl | exact q_6 | exact q_7 | exact q_8 | exact q_9 | exact q_10 | exact q_11 | exact q_12 | exact q_13 | exact q_14 | exact q_15 | exact q_16 | exact q_17 | exact q_18 | exact q_19 | exact q_20 | exact q_21 | exact q_22 | exact q_23 | exact q_24 | (first | exact R_indexr tabOk rfl rfl rfl rfl rfl rfl rfl hk1 | exact R_indexr tabOk rfl rfl rfl rfl rfl rfl hk' hk1 | exact R_loade tabOk rfl rfl rfl rfl rfl rfl hw1 rfl rfl))) | refine O_nil ?_ | refine Q_nil ?_ | refine q_j ?_ | refine q_k ?_ | refine q_d ?_ | refine q_a ?_ | refine q_b ?_ | refine q_c ?_ | refine A_ct rfl ?_ | refine A_cf rfl ?_ | refine A_skip ?_ | refine A_exit ?_ | refine A_ret ?_ | refine q_l ?_ | refine q_m ?_ | refine q_n ?_ | refine q_h ?_ | refine q_o ?_ | refine q_e ?_ | refine q_f ?_ | refine q_g ?_ | (first | refine Q_c rfl rfl rfl rfl rfl hc rfl (fun _ _ _ => val_mk _ _ _ _ _ rfl rfl) ?_ | refine O_c rfl rfl rfl rfl rfl hc (fun _ => rfl) ?_))
        exact ⟨k - 1, ⟨by omega, fun j h1 h2 => by
          by_cases hj : j = k - 1
          · subst hj; rw [hcc]; exact hneg
          · exact hb j h1 (by omega)⟩, by omega, Wk_sel ⟨rfl, rfl, rfl, rfl, trivial⟩ ⟨rfl, trivial⟩⟩
      · by_cases hz : c = 0
        · have hold : sortU ordR (l.take (i + 1)) = out := by
            rw [hsn]
            refine insU_old good_ordR ordR_eq' ho ?_
            rw [ordR_eq' _ _ (hcc.trans hz)]
            exact List.getElem_mem hk1
          repeat (first | refine A_seq ?_ | refine A_block ?_ | refine R_list ?_ | refine R_quiet rfl mixed (by kernel_rfl) ?_ | ((first | apply O_y rfl rfl rfl | apply Q_y rfl rfl rfl); (first | exact q_1 | exact q_2 | exact q_3 | exact q_4 | exact R_loadi tabOk rfl rfl rfl rfl hw0 rfl rfl | exact q_6 | exact q_7 | exact q_8 | exact q_9 | exact q_10 | exact q_11 | exact q_12 | exact q_13 | exact q_14 | exact q_15 | exact q_16 | exact q_17 | exact q_18 | exact q_19 | exact q_20 | exact q_21 | exact q_22 | exact q_23 | exact q_24 | (first | exact R_indexr tabOk rfl rfl rfl rfl rfl rfl rfl hk1 | exact R_indexr tabOk rfl rfl rfl rfl rfl rfl hk' hk1 | exact R_loade tabOk rfl rfl rfl rfl rfl rfl hw1 rfl rfl))) | refine O_nil ?_ | refine Q_nil ?_ | refine q_j ?_ | refine q_k ?_ | refine q_d ?_ | refine q_a ?_ | refine q_b ?_ | refine q_c ?_ | refine A_ct rfl ?_ | refine A_cf rfl ?_ | refine A_skip ?_ | refine A_exit ?_ | refine A_ret ?_ | refine q_l ?_ | refine q_m ?_ | refine q_n ?_ | refine q_h ?_ | refine q_o ?_ | refine q_e ?_ | refine q_f ?_ | refine q_g ?_ | (first | refine Q_c rfl rfl rfl rfl rfl hc rfl (fun _ _ _ => val_mk _ _ _ _ _ rfl rfl) ?_ | refine O_c rfl rfl rfl rfl rfl hc (fun _ => rfl) ?_))
          exact ⟨i + 1, by omega, by omega, Wk_sel ⟨rfl, rfl, rfl, trivial⟩ ⟨by rw [hold]; rfl, trivial⟩⟩
        · have hnew : sortU ordR (l.take (i + 1)) = out.take k ++ l[i] :: out.drop k := by
            rw [hsn]
            refine insU_new good_ordR ordR_eq' ho hk hb fun j h1 h2 => ?_
            have : j = k - 1 := by omega
            subst this
            rw [hcc]; omega
          repeat (first | refine A_seq ?_ | refine A_block ?_ | refine R_list ?_ | refine R_quiet rfl mixed (by kernel_rfl) ?_ | ((first | apply O_y rfl rfl rfl | apply Q_y rfl rfl rfl); (first | exact q_1 | exact q_2 | exact q_3 | exact q_4 | exact R_loadi tabOk rfl rfl rfl rfl hw0 rfl rfl | exact q_6 | exact q_7 | exact q_8 | exact q_9 | exact q_10 | exact q_11 | exact q_12 | exact q_13 | exact q_14 | exact q_15 | exact q_16 | exact q_17 | exact q_18 | exact q_19 | exact q_20 | exact q_21 | exact q_22 | exact q_23 | exact q_24 | (first | exact R_indexr tabOk rfl rfl rfl rfl rfl rfl rfl hk1 | exact R_indexr tabOk rfl rfl rfl rfl rfl rfl hk' hk1 | exact R_loade tabOk rfl rfl rfl rfl rfl rfl hw1 rfl rfl))) | refine O_nil ?_ | refine Q_nil ?_ | refine q_j ?_ | refine q_k ?_ | refine q_d ?_ | refine q_a ?_ | refine q_b ?_ | refine q_c ?_ | refine A_ct rfl ?_ | refine A_cf rfl ?_ | refine A_skip ?_ | refine A_exit ?_ | refine A_ret ?_ | refine q_l ?_ | refine q_m ?_ | refine q_n ?_ | refine q_h ?_ | refine q_o ?_ | refine q_e ?_ | refine q_f ?_ | refine q_g ?_ | (first | refine Q_c rfl rfl rfl rfl rfl hc rfl (fun _ _ _ => val_mk _ _ _ _ _ rfl rfl) ?_ | refine O_c rfl rfl rfl rfl rfl hc (fun _ => rfl) ?_))
          repeat (first | refine A_seq ?_ | refine A_block ?_ | refine R_list ?_ | refine R_quiet rfl mixed (by kernel_rfl) ?_ | ((first | apply O_y rfl rfl rfl | apply Q_y rfl rfl rfl); (first | exact q_1 | exact q_2 | exact q_3 | exact q_4 | exact R_loadi tabOk rfl rfl rfl rfl hw0 rfl rfl | exact q_6 | exact q_7 | exact q_8 | exact q_9 | exact q_10 | exact q_11 | exact q_12 | exact q_13 | exact q_14 | exact q_15 | exact q_16 | exact q_17 | exact q_18 | exact q_19 | exact q_20 | exact q_21 | exact q_22 | exact q_23 | exact q_24 | fail)) | refine O_nil ?_ | refine Q_nil ?_ | refine q_j ?_ | refine q_k ?_ | refine q_d ?_ | refine q_a ?_ | refine q_b ?_ | refine q_c ?_ | refine A_ct rfl ?_ | refine A_cf rfl ?_ | refine A_skip ?_ | refine A_exit ?_ | refine A_ret ?_ | refine q_l ?_ | refine q_m ?_ | refine q_n ?_ | refine q_h ?_ | refine q_o ?_ | refine q_e ?_ | refine q_f ?_ | refine q_g ?_ | (first | refine O_appR tabOk rfl rfl rfl rfl rfl rfl rfl rfl rfl rfl rfl (by first | exact Src.row rfl | exact Src.dat _ _ | exact Src.nil) rfl (by omega) ?_ | refine O_appN tabOk rfl rfl rfl rfl rfl rfl rfl rfl rfl rfl (by first | exact Src.row rfl | exact Src.dat _ _ | exact Src.nil) rfl (by omega) ?_))
          refine N_begin [3] mixed ?_
          (apply q_P 0 rfl (by kernel_rfl) rfl rfl rfl; (first | exact q_1 | exact q_2 | exact q_3 | exact q_4 | exact q_5 | exact q_6 | exact q_7 | exact q_8 | exact q_9 | exact q_10 | exact q_11 | exact q_12 | exact q_13 | exact q_14 | exact q_15 | exact q_16 | exact q_17 | exact q_18 | exact q_19 | exact q_20 | exact q_21 | exact q_22 | exact q_23 | exact q_24 | fail))
          (apply q_P 1 rfl (by kernel_rfl) rfl rfl rfl; (first | exact q_1 | exact q_2 | exact q_3 | exact q_4 | exact q_5 | exact q_6 | exact q_7 | exact q_8 | exact q_9 | exact q_10 | exact q_11 | exact q_12 | exact q_13 | exact q_14 | exact q_15 | exact q_16 | exact q_17 | exact q_18 | exact q_19 | exact q_20 | exact q_21 | exact q_22 | exact q_23 | exact q_24 | fail))
          (apply q_P 2 rfl (by kernel_rfl) rfl rfl rfl; (first | exact q_1 | exact q_2 | exact q_3 | exact q_4 | exact q_5 | exact q_6 | exact q_7 | exact q_8 | exact q_9 | exact q_10 | exact q_11 | exact q_12 | exact q_13 | exact q_14 | exact q_15 | exact q_16 | exact q_17 | exact q_18 | exact q_19 | exact q_20 | exact q_21 | exact q_22 | exact q_23 | exact q_24 | fail))
          (apply q_P 3 rfl (by kernel_rfl) rfl rfl rfl; (first | exact q_1 | exact q_2 | exact q_3 | exact q_4 | exact q_5 | exact q_6 | exact q_7 | exact q_8 | exact q_9 | exact q_10 | exact q_11 | exact q_12 | exact q_13 | exact q_14 | exact q_15 | exact q_16 | exact q_17 | exact q_18 | exact q_19 | exact q_20 | exact q_21 | exact q_22 | exact q_23 | exact q_24 | (exact R_rowFrom tabOk rfl rfl rfl rfl rfl rfl rfl (show k + 1 ≤ out.length + 1 by omega))))
          (apply q_P 4 rfl (by kernel_rfl) rfl rfl rfl; (first | exact q_1 | exact q_2 | exact q_3 | exact q_4 | exact q_5 | exact q_6 | exact q_7 | exact q_8 | exact q_9 | exact q_10 | exact q_11 | exact q_12 | exact q_13 | exact q_14 | exact q_15 | exact q_16 | exact q_17 | exact q_18 | exact q_19 | exact q_20 | exact q_21 | exact q_22 | exact q_23 | exact q_24 | fail))
          (apply q_P 5 rfl (by kernel_rfl) rfl rfl rfl; (first | exact q_1 | exact q_2 | exact q_3 | exact q_4 | exact q_5 | exact q_6 | exact q_7 | exact q_8 | exact q_9 | exact q_10 | exact q_11 | exact q_12 | exact q_13 | exact q_14 | exact q_15 | exact q_16 | exact q_17 | exact q_18 | exact q_19 | exact q_20 | exact q_21 | exact q_22 | exact q_23 | exact q_24 | fail))
          (apply q_P 6 rfl (by kernel_rfl) rfl rfl rfl; (first | exact q_1 | exact q_2 | exact q_3 | exact q_4 | exact q_5 | exact q_6 | exact q_7 | exact q_8 | exact q_9 | exact q_10 | exact q_11 | exact q_12 | exact q_13 | exact q_14 | exact q_15 | exact q_16 | exact q_17 | exact q_18 | exact q_19 | exact q_20 | exact q_21 | exact q_22 | exact q_23 | exact q_24 | (exact R_rowFrom tabOk rfl rfl rfl rfl rfl rfl rfl (show k ≤ out.length + 1 by omega))))
          refine N_one (j := 7) (by kernel_rfl) ?_
          refine T_copyS tabOk rfl rfl rfl rfl rfl rfl rfl rfl rfl rfl rfl hmn (by omega) (by omega) ?_
          refine N_done (by kernel_rfl) ?_
          have hfi := flat_ins rteD_len out l[i] [.sc (.int .u32 0), .sc (.int .i64 0), .sc (.int .u8 0), .sc (.int .i64 0), .sc (.int .i64 0), .sc (.int .i64 0), .sc (.string ⟨#[]⟩), .sc (.int .u32 0), .sc (.bool false)] rfl k hk
          repeat (first | refine A_seq ?_ | refine A_block ?_ | refine R_list ?_ | refine R_quiet rfl mixed (by kernel_rfl) ?_ | ((first | apply O_y rfl rfl rfl | apply Q_y rfl rfl rfl); (first | exact q_1 | exact q_2 | exact q_3 | exact q_4 | exact R_loadi tabOk rfl rfl rfl rfl hw0 rfl rfl | exact q_6 | exact q_7 | exact q_8 | exact q_9 | exact q_10 | exact q_11 | exact q_12 | exact q_13 | exact q_14 | exact q_15 | exact q_16 | exact q_17 | exact q_18 | exact q_19 | exact q_20 | exact q_21 | exact q_22 | exact q_23 | exact q_24 | fail)) | refine O_nil ?_ | refine Q_nil ?_ | refine q_j ?_ | refine q_k ?_ | refine q_d ?_ | refine q_a ?_ | refine q_b ?_ | refine q_c ?_ | refine A_ct rfl ?_ | refine A_cf rfl ?_ | refine A_skip ?_ | refine A_exit ?_ | refine A_ret ?_ | refine q_l ?_ | refine q_m ?_ | refine q_n ?_ | refine q_h ?_ | refine q_o ?_ | refine q_e ?_ | refine q_f ?_ | refine q_g ?_ | (refine O_storee tabOk rfl rfl rfl rfl rfl rfl rfl rfl rfl rfl (by rw [hfi.1]; omega) (by omega) ?_))
          exact ⟨i + 1, by omega, by omega, Wk_sel ⟨rfl, rfl, rfl, trivial⟩ ⟨row_eq (by rw [hnew, List.length_append, List.length_cons, List.length_take, List.length_drop]; omega) (by rw [hnew]; exact hfi.2) rfl, trivial⟩⟩
    · have hk00 : k = 0 := by omega
      have hnew : sortU ordR (l.take (i + 1)) = out.take k ++ l[i] :: out.drop k := by
        rw [hsn]
        exact insU_new good_ordR ordR_eq' ho hk hb fun j h1 h2 => by omega
      repeat (first | refine A_seq ?_ | refine A_block ?_ | refine R_list ?_ | refine R_quiet rfl mixed (by kernel_rfl) ?_ | ((first | apply O_y rfl rfl rfl | apply Q_y rfl rfl rfl); (first | exact q_1 | exact q_2 | exact q_3 | exact q_4 | exact q_5 | exact q_6 | exact q_7 | exact q_8 | exact q_9 | exact q_10 | exact q_11 | exact q_12 | exact q_13 | exact q_14 | exact q_15 | exact q_16 | exact q_17 | exact q_18 | exact q_19 | exact q_20 | exact q_21 | exact q_22 | exact q_23 | exact q_24 | fail)) | refine O_nil ?_ | refine Q_nil ?_ | refine q_j ?_ | refine q_k ?_ | refine q_d ?_ | refine q_a ?_ | refine q_b ?_ | refine q_c ?_ | refine A_ct rfl ?_ | refine A_cf rfl ?_ | refine A_skip ?_ | refine A_exit ?_ | refine A_ret ?_ | refine q_l ?_ | refine q_m ?_ | refine q_n ?_ | refine q_h ?_ | refine q_o ?_ | refine q_e ?_ | refine q_f ?_ | refine q_g ?_ | fail)
      repeat (first | refine A_seq ?_ | refine A_block ?_ | refine R_list ?_ | refine R_quiet rfl mixed (by kernel_rfl) ?_ | ((first | apply O_y rfl rfl rfl | apply Q_y rfl rfl rfl); (first | exact q_1 | exact q_2 | exact q_3 | exact q_4 | exact R_loadi tabOk rfl rfl rfl rfl hw0 rfl rfl | exact q_6 | exact q_7 | exact q_8 | exact q_9 | exact q_10 | exact q_11 | exact q_12 | exact q_13 | exact q_14 | exact q_15 | exact q_16 | exact q_17 | exact q_18 | exact q_19 | exact q_20 | exact q_21 | exact q_22 | exact q_23 | exact q_24 | fail)) | refine O_nil ?_ | refine Q_nil ?_ | refine q_j ?_ | refine q_k ?_ | refine q_d ?_ | refine q_a ?_ | refine q_b ?_ | refine q_c ?_ | refine A_ct rfl ?_ | refine A_cf rfl ?_ | refine A_skip ?_ | refine A_exit ?_ | refine A_ret ?_ | refine q_l ?_ | refine q_m ?_ | refine q_n ?_ | refine q_h ?_ | refine q_o ?_ | refine q_e ?_ | refine q_f ?_ | refine q_g ?_ | (first | refine O_appR tabOk rfl rfl rfl rfl rfl rfl rfl rfl rfl rfl rfl (by first | exact Src.row rfl | exact Src.dat _ _ | exact Src.nil) rfl (by omega) ?_ | refine O_appN tabOk rfl rfl rfl rfl rfl rfl rfl rfl rfl rfl (by first | exact Src.row rfl | exact Src.dat _ _ | exact Src.nil) rfl (by omega) ?_))
      refine N_begin [3] mixed ?_
      (apply q_P 0 rfl (by kernel_rfl) rfl rfl rfl; (first | exact q_1 | exact q_2 | exact q_3 | exact q_4 | exact q_5 | exact q_6 | exact q_7 | exact q_8 | exact q_9 | exact q_10 | exact q_11 | exact q_12 | exact q_13 | exact q_14 | exact q_15 | exact q_16 | exact q_17 | exact q_18 | exact q_19 | exact q_20 | exact q_21 | exact q_22 | exact q_23 | exact q_24 | fail))
      (apply q_P 1 rfl (by kernel_rfl) rfl rfl rfl; (first | exact q_1 | exact q_2 | exact q_3 | exact q_4 | exact q_5 | exact q_6 | exact q_7 | exact q_8 | exact q_9 | exact q_10 | exact q_11 | exact q_12 | exact q_13 | exact q_14 | exact q_15 | exact q_16 | exact q_17 | exact q_18 | exact q_19 | exact q_20 | exact q_21 | exact q_22 | exact q_23 | exact q_24 | fail))
      (apply q_P 2 rfl (by kernel_rfl) rfl rfl rfl; (first | exact q_1 | exact q_2 | exact q_3 | exact q_4 | exact q_5 | exact q_6 | exact q_7 | exact q_8 | exact q_9 | exact q_10 | exact q_11 | exact q_12 | exact q_13 | exact q_14 | exact q_15 | exact q_16 | exact q_17 | exact q_18 | exact q_19 | exact q_20 | exact q_21 | exact q_22 | exact q_23 | exact q_24 | fail))
      (apply q_P 3 rfl (by kernel_rfl) rfl rfl rfl; (first | exact q_1 | exact q_2 | exact q_3 | exact q_4 | exact q_5 | exact q_6 | exact q_7 | exact q_8 | exact q_9 | exact q_10 | exact q_11 | exact q_12 | exact q_13 | exact q_14 | exact q_15 | exact q_16 | exact q_17 | exact q_18 | exact q_19 | exact q_20 | exact q_21 | exact q_22 | exact q_23 | exact q_24 | (exact R_rowFrom tabOk rfl rfl rfl rfl rfl rfl rfl (show k + 1 ≤ out.length + 1 by omega))))
      (apply q_P 4 rfl (by kernel_rfl) rfl rfl rfl; (first | exact q_1 | exact q_2 | exact q_3 | exact q_4 | exact q_5 | exact q_6 | exact q_7 | exact q_8 | exact q_9 | exact q_10 | exact q_11 | exact q_12 | exact q_13 | exact q_14 | exact q_15 | exact q_16 | exact q_17 | exact q_18 | exact q_19 | exact q_20 | exact q_21 | exact q_22 | exact q_23 | exact q_24 | fail))
      (apply q_P 5 rfl (by kernel_rfl) rfl rfl rfl; (first | exact q_1 | exact q_2 | exact q_3 | exact q_4 | exact q_5 | exact q_6 | exact q_7 | exact q_8 | exact q_9 | exact q_10 | exact q_11 | exact q_12 | exact q_13 | exact q_14 | exact q_15 | exact q_16 | exact q_17 | exact q_18 | exact q_19 | exact q_20 | exact q_21 | exact q_22 | exact q_23 | exact q_24 | fail))
      (apply q_P 6 rfl (by kernel_rfl) rfl rfl rfl; (first | exact q_1 | exact q_2 | exact q_3 | exact q_4 | exact q_5 | exact q_6 | exact q_7 | exact q_8 | exact q_9 | exact q_10 | exact q_11 | exact q_12 | exact q_13 | exact q_14 | exact q_15 | exact q_16 | exact q_17 | exact q_18 | exact q_19 | exact q_20 | exact q_21 | exact q_22 | exact q_23 | exact q_24 | (exact R_rowFrom tabOk rfl rfl rfl rfl rfl rfl rfl (show k ≤ out.length + 1 by omega))))
      refine N_one (j := 7) (by kernel_rfl) ?_
      refine T_copyS tabOk rfl rfl rfl rfl rfl rfl rfl rfl rfl rfl rfl hmn (by omega) (by omega) ?_
      refine N_done (by kernel_rfl) ?_
      have hfi := flat_ins rteD_len out l[i] [.sc (.int .u32 0), .sc (.int .i64 0), .sc (.int .u8 0), .sc (.int .i64 0), .sc (.int .i64 0), .sc (.int .i64 0), .sc (.string ⟨#[]⟩), .sc (.int .u32 0), .sc (.bool false)] rfl k hk
      repeat (first | refine A_seq ?_ | refine A_block ?_ | refine R_list ?_ | refine R_quiet rfl mixed (by kernel_rfl) ?_ | ((first | apply O_y rfl rfl rfl | apply Q_y rfl rfl rfl); (first | exact q_1 | exact q_2 | exact q_3 | exact q_4 | exact R_loadi tabOk rfl rfl rfl rfl hw0 rfl rfl | exact q_6 | exact q_7 | exact q_8 | exact q_9 | exact q_10 | exact q_11 | exact q_12 | exact q_13 | exact q_14 | exact q_15 | exact q_16 | exact q_17 | exact q_18 | exact q_19 | exact q_20 | exact q_21 | exact q_22 | exact q_23 | exact q_24 | fail)) | refine O_nil ?_ | refine Q_nil ?_ | refine q_j ?_ | refine q_k ?_ | refine q_d ?_ | refine q_a ?_ | refine q_b ?_ | refine q_c ?_ | refine A_ct rfl ?_ | refine A_cf rfl ?_ | refine A_skip ?_ | refine A_exit ?_ | refine A_ret ?_ | refine q_l ?_ | refine q_m ?_ | refine q_n ?_ | refine q_h ?_ | refine q_o ?_ | refine q_e ?_ | refine q_f ?_ | refine q_g ?_ | (refine O_storee tabOk rfl rfl rfl rfl rfl rfl rfl rfl rfl rfl (by rw [hfi.1]; omega) (by omega) ?_))
      exact ⟨i + 1, by omega, by omega, Wk_sel ⟨rfl, rfl, rfl, trivial⟩ ⟨row_eq (by rw [hnew, List.length_append, List.length_cons, List.length_take, List.length_drop]; omega) (by rw [hnew]; exact hfi.2) rfl, trivial⟩⟩
  · have : i = l.length := by omega
    subst this
    rw [List.take_length]
    repeat (first | refine A_seq ?_ | refine A_block ?_ | refine R_list ?_ | refine R_quiet rfl mixed (by kernel_rfl) ?_ | ((first | apply O_y rfl rfl rfl | apply Q_y rfl rfl rfl); (first | exact q_1 | exact q_2 | exact q_3 | exact q_4 | exact q_5 | exact q_6 | exact q_7 | exact q_8 | exact q_9 | exact q_10 | exact q_11 | exact q_12 | exact q_13 | exact q_14 | exact q_15 | exact q_16 | exact q_17 | exact q_18 | exact q_19 | exact q_20 | exact q_21 | exact q_22 | exact q_23 | exact q_24 | fail)) | refine O_nil ?_ | refine Q_nil ?_ | refine q_j ?_ | refine q_k ?_ | refine q_d ?_ | refine q_a ?_ | refine q_b ?_ | refine q_c ?_ | refine A_ct rfl ?_ | refine A_cf rfl ?_ | refine A_skip ?_ | refine A_exit ?_ | refine A_ret ?_ | refine q_l ?_ | refine q_m ?_ | refine q_n ?_ | refine q_h ?_ | refine q_o ?_ | refine q_e ?_ | refine q_f ?_ | refine q_g ?_ | fail)
    exact X_retW AWk.refl rfl (h2 := [(3, rteB (sortU ordR l))]) ⟨rfl, trivial⟩ ⟨rfl, rfl⟩
end Go.Proofs.Ytnnclkeoakjjkaa.Ab

namespace Go.Proofs.Ytnnclkeoakjjkaa.Ab
set_option linter.unusedVariables false
set_option maxRecDepth 100000
open Go.RowKit Go.Lib
section
variable {P : Program} {nt : Nat} {Q : Post} {e : Env} {h : Heap} {ops : Array Oper} {o : Oper} {rest : List Oper} {T : List Nat} {fuel i : Nat} {listed : Array Bool}
theorem T_cF {f : FuncId} {x : Operand} {caps : List AVal} {args : Array Operand} {ats : Array TypeId} {cs : List AVal} {d : Nat} {c : AVal} (hi : ops[i]? = some o) (hw : awant ops e o = some true) (hdst : o.dst = some d) (hd : Nat.blt d nt = true) (ho : o.op = .call { callee := .value x, args := args, argTypes := ats }) (hf : aev e x = some (.fn f caps)) (hx : aevs e args.toList = some cs)
    (H : ACall P f (cs ++ caps) [] (fun c' h' => c' = c ∧ h' = [])) (hc : ∀ j, c.has j = false) (HK : AAny P nt ops Q T fuel (listed.setIfInBounds i true) ((d, c) :: e) h) : AAt P nt ops Q T fuel listed i e h :=
  T_eff hi hw (E_callF (d := some d) ho hdst hf hx H hd hc) fun e' h' ⟨h1, h2⟩ => by subst h1 h2; exact HK
end
set_option linter.unusedSimpArgs false
attribute [local irreducible] AWp AOps AQ AYield AEff ACall AWk AAny AAt AThen AIn APost NoPanic
def minR : Rte → List Rte → Rte
  | c, [] => c
  | c, s :: t => minR (if s.m < c.m then s else c) t
theorem minR_mem : ∀ (c : Rte) (l : List Rte), minR c l = c ∨ minR c l ∈ l
  | c, [] => .inl rfl
  | c, s :: t => by
    unfold minR
    rcases minR_mem (if s.m < c.m then s else c) t with h | h
    · rw [h]
      split
      · exact .inr (List.mem_cons_self ..)
      · exact .inl rfl
    · exact .inr (List.mem_cons_of_mem _ h)
theorem minR_le : ∀ (c : Rte) (l : List Rte), (minR c l).m ≤ c.m ∧ ∀ s ∈ l, (minR c l).m ≤ s.m
  | c, [] => ⟨Int.le_refl _, fun s h => by cases h⟩
  | c, s :: t => by
    unfold minR
    have h := minR_le (if s.m < c.m then s else c) t
    refine ⟨?_, fun r hr => ?_⟩
    · have := h.1
      split at this <;> split <;> simp_all <;> omega
    · rcases List.mem_cons.1 hr with rfl | hr
      · have := h.1
        split at this <;> split <;> simp_all <;> omega
      · exact h.2 r hr
theorem minR_snoc : ∀ (c : Rte) (l : List Rte) (s : Rte), minR c (l ++ [s]) = if s.m < (minR c l).m then s else minR c l
  | c, [], s => rfl
  | c, a :: t, s => minR_snoc _ t s
def discI : List Rte → Int
  | [] => -1
  | r :: t => if r.x then 0 else (if discI t < 0 then -1 else discI t + 1)
end Go.Proofs.Ytnnclkeoakjjkaa.Ab

namespace Go.Proofs.Ytnnclkeoakjjkaa.Ab
set_option linter.unusedVariables false
set_option maxRecDepth 100000
open Go.RowKit Go.Lib
section
variable {P : Program} {nt : Nat} {Q : Post} {e : Env} {h : Heap} {ops : Array Oper} {o : Oper} {rest : List Oper} {T : List Nat}
theorem R_fieldv {t f off ft : Nat} {te te' : TE} {fs : List (Nat × TypeId)} {x : Operand} {cs : List AVal} {c : AVal} {tab : TTab} (TO : TabOk P tab) (ho : o.op = .field t x f) (ht : tlook tab t = some te) (hs : te.sh = .st fs) (hf : fs[f]? = some (off, ft)) (hft : tlook tab ft = some te') (h1 : te'.agg = false)
    (hx : aev e x = some (.agg cs)) (hc : cs[off]? = some c) : AYield P T e h o c := yield_of _ fun w F ι a E => by
  have hv := aev_rel E hx
  generalize hu : a.eval x = u at hv
  cases hv with
  | agg _ C hl hh =>
    obtain ⟨FF, hu2, hF⟩ := (TO t te ht).struct hs
    rw [← hF, List.getElem?_map] at hf
    have hlt : off < C.size := by rw [hl]; exact (List.getElem?_eq_some_iff.1 hc).1
    have hg : C[off]? = some C[off] := Array.getElem?_eq_getElem hlt
    cases hfi : FF[f]? with
    | none => simp [hfi] at hf
    | some fl =>
      simp [hfi] at hf
      obtain ⟨rfl, rfl⟩ := hf
      refine ⟨C[fl.offset], hh _ c _ hc hg, fun w' => ?_⟩
      simp [execOp, ho, hu, Instr.field, run_underlying hu2, hfi, asAgg, part, (TO _ te' hft).run_agg, h1, hg]
theorem O_cR {f : FuncId} {args : Array Operand} {ats : Array TypeId} {cs : List AVal} {d : Nat} {Rc : AVal → Prop} (hw : awant ops e o = some true) (hdst : o.dst = some d) (hd : Nat.blt d nt = true) (ho : o.op = .call { callee := .value (.func f), args := args, argTypes := ats }) (hx : aevs e args.toList = some cs)
    (H : ACall P f cs [] (fun c' h' => Rc c' ∧ h' = [])) (hc : ∀ c j, Rc c → c.has j = false) (HK : ∀ c, Rc c → AOps P nt ops Q rest ((d, c) :: e) h) : AOps P nt ops Q (o :: rest) e h :=
  O_eff (T := []) hw (E_callR (d := some d) ho hdst hx H hd hc) fun e' h' ⟨c, h1, h2, h3⟩ => by subst h2 h3; exact HK c h1
end
set_option linter.unusedSimpArgs false
attribute [local irreducible] AWp AOps AQ AYield AEff ACall AWk AAny AAt AThen AIn APost NoPanic
def ownB (r : Rte) : Bool := !decide (r.f = 7) && !decide (r.f = 8)
def usN (l : List Rte) (x : Int) : Int × Bool := match longL (l.filter ownB) x with
  | [] => (0, false)
  | r :: t => if (r :: t).any (·.x) then (0, false) else ((minR r t).m, true)
end Go.Proofs.Ytnnclkeoakjjkaa.Ab

namespace Go.Proofs.Ytnnclkeoakjjkaa.Ab
set_option linter.unusedVariables false
set_option maxRecDepth 100000
open Go.RowKit Go.Lib
section
variable {P : Program} {e : Env} {h : Heap} {o : Oper} {T : List Nat}
theorem R_max {x y : Operand} {ats : Array TypeId} {k : IntKind} {a b r : Int} (ho : o.op = .call { callee := .builtin .max, args := #[x, y], argTypes := ats }) (hx : aev e x = some (.d (.sc (.int k a)))) (hy : aev e y = some (.d (.sc (.int k b)))) (hr : (if a < b then b else a) = r) :
    AYield P T e h o (.d (.sc (.int k r))) := yield_of _ fun w F ι ac E => by
  refine ⟨.int k r, sc_rel rfl, fun w' => ?_⟩
  have h1 := (sc_of (aev_rel E hx)).1
  have h2 := (sc_of (aev_rel E hy)).1
  subst hr
  simp [execOp, ho, resolve, invoke, builtin, h1, h2, Builtin.max_, Builtin.max2]
end
def wonB (X : List Rte) (r : Rte) : Bool := X.all fun s => !(decide (s.p = r.p) && decide (rank s r < 0))
theorem wonB_take (X : List Rte) (r : Rte) (k : Nat) (h : k < X.length) : wonB (X.take (k + 1)) r = (wonB (X.take k) r && !(decide (X[k].p = r.p) && decide (rank X[k] r < 0))) := by
  unfold wonB
  rw [List.take_succ_eq_append_getElem h, List.all_append]
  simp
def mostI (X : List Rte) (x : Int) : Int := X.foldl (fun m r => if inB x r.p then (if m < r.p.b then r.p.b else m) else m) (-1)
theorem mostI_take (X : List Rte) (x : Int) (k : Nat) (h : k < X.length) : mostI (X.take (k + 1)) x = if inB x X[k].p then (if mostI (X.take k) x < X[k].p.b then X[k].p.b else mostI (X.take k) x) else mostI (X.take k) x := by
  unfold mostI
  rw [List.take_succ_eq_append_getElem h, List.foldl_append]
  rfl
theorem mostI_spec (X : List Rte) (x : Int) : -1 ≤ mostI X x ∧ (∀ r ∈ X, inB x r.p = true → r.p.b ≤ mostI X x) ∧ (mostI X x = -1 ∨ ∃ r ∈ X, inB x r.p = true ∧ r.p.b = mostI X x) := by
  have key : ∀ (X : List Rte) (m : Int), m ≤ X.foldl (fun m r => if inB x r.p then (if m < r.p.b then r.p.b else m) else m) m ∧ (∀ r ∈ X, inB x r.p = true → r.p.b ≤ X.foldl (fun m r => if inB x r.p then (if m < r.p.b then r.p.b else m) else m) m) ∧ (X.foldl (fun m r => if inB x r.p then (if m < r.p.b then r.p.b else m) else m) m = m ∨ ∃ r ∈ X, inB x r.p = true ∧ r.p.b = X.foldl (fun m r => if inB x r.p then (if m < r.p.b then r.p.b else m) else m) m) := by
    intro X
    induction X with
    | nil => exact fun m => ⟨Int.le_refl _, by simp, .inl rfl⟩
    | cons a t ih =>
      intro m
      rw [List.foldl_cons]
      obtain ⟨h1, h2, h3⟩ := ih (if inB x a.p then (if m < a.p.b then a.p.b else m) else m)
      generalize List.foldl (fun m r => if inB x r.p then (if m < r.p.b then r.p.b else m) else m) (if inB x a.p then (if m < a.p.b then a.p.b else m) else m) t = z at *
      refine ⟨?_, fun r hr hi => ?_, ?_⟩
      · split at h1
        · split at h1 <;> omega
        · exact h1
      · rcases List.mem_cons.1 hr with rfl | hr
        · rw [if_pos hi] at h1
          split at h1 <;> omega
        · exact h2 r hr hi
      · rcases h3 with h3 | ⟨r, h4, h5, h6⟩
        · by_cases hi : inB x a.p = true
          · rw [if_pos hi] at h3
            by_cases hl : m < a.p.b
            · rw [if_pos hl] at h3
              exact .inr ⟨a, List.mem_cons_self .., hi, h3.symm⟩
            · rw [if_neg hl] at h3; exact .inl h3
          · rw [if_neg hi] at h3; exact .inl h3
        · exact .inr ⟨r, List.mem_cons_of_mem _ h4, h5, h6⟩
  exact key X (-1)
def mostB (l : List Rte) (x : Int) (r : Rte) : Bool := inB x r.p && decide (r.p.b = mostI l x)
theorem most_top (l : List Rte) (x : Int) : l.filter (mostB l x) = l.filter (topB l x) := by
  obtain ⟨h0, h1, h2⟩ := mostI_spec l x
  refine List.filter_congr fun r hr => ?_
  rw [Bool.eq_iff_iff, topB_iff]
  unfold mostB
  rw [Bool.and_eq_true, decide_eq_true_eq]
  refine ⟨fun ⟨h3, h4⟩ => ⟨h3, fun s hs hi => by rw [h4]; exact h1 s hs hi⟩, fun ⟨h3, h4⟩ => ⟨h3, ?_⟩⟩
  have h5 := h1 r hr h3
  have h6 := (inB_good h3).1
  rcases h2 with h2 | ⟨s, hs, hi, hb⟩
  · omega
  · have := h4 s hs hi; omega
theorem chk_inB {x : Int} {p : Pfx} (h : chk p ≠ 0) : inB x p = false := by
  cases hi : inB x p with
  | false => rfl
  | true => exact absurd ((chk_eq p).2 (inB_good hi)) h
def costI (c : Int) (X : List Rte) : Int := X.foldl (fun c s => if s.m < c then s.m else c) c
theorem costI_take (c : Int) (X : List Rte) (k : Nat) (h : k < X.length) : costI c (X.take (k + 1)) = if X[k].m < costI c (X.take k) then X[k].m else costI c (X.take k) := by
  unfold costI
  rw [List.take_succ_eq_append_getElem h, List.foldl_append]
  rfl
theorem costI_min : ∀ (r : Rte) (t : List Rte), costI r.m t = (minR r t).m
  | r, [] => rfl
  | r, s :: t => by
    have ih := costI_min (if s.m < r.m then s else r) t
    unfold minR
    rw [← ih]
    unfold costI
    rw [List.foldl_cons]
    congr 1
    split <;> rfl
theorem costI_self (r : Rte) (t : List Rte) : costI r.m (r :: t) = (minR r t).m := by
  rw [← costI_min]
  unfold costI
  rw [List.foldl_cons, if_neg (Int.lt_irrefl _)]
theorem any_takeX (X : List Rte) (k : Nat) (h : k < X.length) : (X.take (k + 1)).any (·.x) = ((X.take k).any (·.x) || X[k].x) := by
  rw [List.take_succ_eq_append_getElem h, List.any_append]; simp
set_option linter.unusedSimpArgs false
attribute [local irreducible] AWp AOps AQ AYield AEff ACall AWk AAny AAt AThen AIn APost NoPanic
set_option maxHeartbeats 8000000 in
theorem refLongest_A (l : List Rte) (hok : ∀ r ∈ l, okR r) (hn : l.length ≤ 1000000) (x : Int) (x0 : 0 ≤ x) (x1 : x < 4294967296) : ACall Try.prog 7 [rtesA l, .d (.sc (.int .u32 x))] [] (fun c h => c = .row 3 ∧ h = [(3, rteB (longL l x))]) := by
  refine ACall_of tabOk Try.func7 rfl Try.ntmps7 (congrArg Array.toList Try.results7) (by kernel_rfl) rfl ?_
  repeat (first | refine A_seq ?_ | refine A_block ?_ | refine R_list ?_ | refine R_quiet rfl mixed (by kernel_rfl) ?_ | ((first | apply O_y rfl rfl rfl | apply Q_y rfl rfl rfl); (first | exact q_1 | exact q_2 | exact q_3 | exact q_4 | exact q_5 | exact q_6 | exact q_7 | exact q_8 | exact q_9 | exact q_10 | exact q_11 | exact q_12 | exact q_13 | exact q_14 | exact q_15 | exact q_16 | exact q_17 | exact q_18 | exact q_19 | exact q_20 | exact q_21 | exact q_22 | exact q_23 | exact q_24 | fail)) | refine O_nil ?_ | refine Q_nil ?_ | refine q_j ?_ | refine q_k ?_ | refine q_d ?_ | refine q_a ?_ | refine q_b ?_ | refine q_c ?_ | refine A_ct rfl ?_ | refine A_cf rfl ?_ | refine A_skip ?_ | refine A_exit ?_ | refine A_ret ?_ | refine q_l ?_ | refine q_m ?_ | refine q_n ?_ | refine q_h ?_ | refine q_o ?_ | refine q_e ?_ | refine q_f ?_ | refine q_g ?_ | fail)
  refine A_loop (fun i : Nat => [(0, rtesA l), (1, .d (.sc (.int .u32 x))), (5, intA (mostI (l.take i) x)), (6, intA (i : Int))]) (fun _ => []) (fun i => i ≤ l.length) (fun i => l.length - i) 0 (Nat.zero_le _) (Wk_sel ⟨rfl, rfl, rfl, rfl, trivial⟩ trivial) ?_
  intro i hi
  try dsimp only
  by_cases hil : i < l.length
  · have hokp := (hok _ (List.getElem_mem hil)).2
    have hck := refCheck_A l[i].p hokp
    have hin := refIn_A x l[i].p hokp x0 x1
    have hm := mostI_take l x i hil
    obtain ⟨mo, hmo⟩ : ∃ mo, mostI (l.take i) x = mo := ⟨_, rfl⟩
    rw [hmo] at hm ⊢
    by_cases hc : chk l[i].p = 0
    · rw [hc] at hck
      cases hx : inB x l[i].p with
      | false =>
        rw [hx] at hin
        rw [hx, if_neg (by simp)] at hm
        repeat (first | refine A_seq ?_ | refine A_block ?_ | refine R_list ?_ | refine R_quiet rfl mixed (by kernel_rfl) ?_ | ((first | apply O_y rfl rfl rfl | apply Q_y rfl rfl rfl); (first | exact q_1 | exact q_2 | exact q_3 | exact q_4 | exact R_loadi tabOk rfl rfl rfl rfl (by first | exact win_flat0 rteD_len l i _ hil (by decide) | exact win_flat rteD_len l i _ _ hil (by decide) | exact win_flat2 rteD_len l i _ _ _ hil (by decide) | rfl) rfl rfl | exact q_6 | exact q_7 | exact q_8 | exact q_9 | exact q_10 | exact q_11 | exact q_12 | exact q_13 | exact q_14 | exact q_15 | exact q_16 | exact q_17 | exact q_18 | exact q_19 | exact q_20 | exact q_21 | exact q_22 | exact q_23 | exact q_24 | fail)) | refine O_nil ?_ | refine Q_nil ?_ | refine q_j ?_ | refine q_k ?_ | refine q_d ?_ | refine q_a ?_ | refine q_b ?_ | refine q_c ?_ | refine A_ct rfl ?_ | refine A_cf rfl ?_ | refine A_skip ?_ | refine A_exit ?_ | refine A_ret ?_ | refine q_l ?_ | refine q_m ?_ | refine q_n ?_ | refine q_h ?_ | refine q_o ?_ | refine q_e ?_ | refine q_f ?_ | refine q_g ?_ | (first | refine O_c rfl rfl rfl rfl rfl hck (fun _ => rfl) ?_ | refine O_c rfl rfl rfl rfl rfl hin (fun _ => rfl) ?_))
        exact ⟨i + 1, by omega, by omega, Wk_sel ⟨rfl, rfl, by rw [hm]; rfl, rfl, trivial⟩ trivial⟩
      | true =>
        rw [hx] at hin
        rw [hx, if_pos rfl] at hm
        repeat (first | refine A_seq ?_ | refine A_block ?_ | refine R_list ?_ | refine R_quiet rfl mixed (by kernel_rfl) ?_ | ((first | apply O_y rfl rfl rfl | apply Q_y rfl rfl rfl); (first | exact q_1 | exact q_2 | exact q_3 | exact q_4 | exact R_loadi tabOk rfl rfl rfl rfl (by first | exact win_flat0 rteD_len l i _ hil (by decide) | exact win_flat rteD_len l i _ _ hil (by decide) | exact win_flat2 rteD_len l i _ _ _ hil (by decide) | rfl) rfl rfl | exact q_6 | exact q_7 | exact q_8 | exact q_9 | exact q_10 | exact q_11 | exact q_12 | exact q_13 | exact q_14 | exact q_15 | exact q_16 | exact q_17 | exact q_18 | exact q_19 | exact q_20 | exact q_21 | exact q_22 | exact q_23 | exact q_24 | (exact R_max rfl rfl rfl rfl))) | refine O_nil ?_ | refine Q_nil ?_ | refine q_j ?_ | refine q_k ?_ | refine q_d ?_ | refine q_a ?_ | refine q_b ?_ | refine q_c ?_ | refine A_ct rfl ?_ | refine A_cf rfl ?_ | refine A_skip ?_ | refine A_exit ?_ | refine A_ret ?_ | refine q_l ?_ | refine q_m ?_ | refine q_n ?_ | refine q_h ?_ | refine q_o ?_ | refine q_e ?_ | refine q_f ?_ | refine q_g ?_ | (first | refine O_c rfl rfl rfl rfl rfl hck (fun _ => rfl) ?_ | refine O_c rfl rfl rfl rfl rfl hin (fun _ => rfl) ?_))
        exact ⟨i + 1, by omega, by omega, Wk_sel ⟨rfl, rfl, by rw [hm]; rfl, rfl, trivial⟩ trivial⟩
    · rw [chk_inB hc, if_neg (by simp)] at hm
      obtain ⟨cc, hcc⟩ : ∃ cc, chk l[i].p = cc := ⟨_, rfl⟩
      rw [hcc] at hck hc
      repeat (first | refine A_seq ?_ | refine A_block ?_ | refine R_list ?_ | refine R_quiet rfl mixed (by kernel_rfl) ?_ | ((first | apply O_y rfl rfl rfl | apply Q_y rfl rfl rfl); (first | exact q_1 | exact q_2 | exact q_3 | exact q_4 | exact R_loadi tabOk rfl rfl rfl rfl (by first | exact win_flat0 rteD_len l i _ hil (by decide) | exact win_flat rteD_len l i _ _ hil (by decide) | exact win_flat2 rteD_len l i _ _ _ hil (by decide) | rfl) rfl rfl | exact q_6 | exact q_7 | exact q_8 | exact q_9 | exact q_10 | exact q_11 | exact q_12 | exact q_13 | exact q_14 | exact q_15 | exact q_16 | exact q_17 | exact q_18 | exact q_19 | exact q_20 | exact q_21 | exact q_22 | exact q_23 | exact q_24 | fail)) | refine O_nil ?_ | refine Q_nil ?_ | refine q_j ?_ | refine q_k ?_ | refine q_d ?_ | refine q_a ?_ | refine q_b ?_ | refine q_c ?_ | refine A_ct rfl ?_ | refine A_cf rfl ?_ | refine A_skip ?_ | refine A_exit ?_ | refine A_ret ?_ | refine q_l ?_ | refine q_m ?_ | refine q_n ?_ | refine q_h ?_ | refine q_o ?_ | refine q_e ?_ | refine q_f ?_ | refine q_g ?_ | (first | refine O_c rfl rfl rfl rfl rfl hck (fun _ => rfl) ?_ | refine O_c rfl rfl rfl rfl rfl hin (fun _ => rfl) ?_))
      exact ⟨i + 1, by omega, by omega, Wk_sel ⟨rfl, rfl, by rw [hm]; rfl, rfl, trivial⟩ trivial⟩
  · have : i = l.length := by omega
    subst this
    rw [List.take_length]
    repeat (first | refine A_seq ?_ | refine A_block ?_ | refine R_list ?_ | refine R_quiet rfl mixed (by kernel_rfl) ?_ | ((first | apply O_y rfl rfl rfl | apply Q_y rfl rfl rfl); (first | exact q_1 | exact q_2 | exact q_3 | exact q_4 | exact q_5 | exact q_6 | exact q_7 | exact q_8 | exact q_9 | exact q_10 | exact q_11 | exact q_12 | exact q_13 | exact q_14 | exact q_15 | exact q_16 | exact q_17 | exact q_18 | exact q_19 | exact q_20 | exact q_21 | exact q_22 | exact q_23 | exact q_24 | fail)) | refine O_nil ?_ | refine Q_nil ?_ | refine q_j ?_ | refine q_k ?_ | refine q_d ?_ | refine q_a ?_ | refine q_b ?_ | refine q_c ?_ | refine A_ct rfl ?_ | refine A_cf rfl ?_ | refine A_skip ?_ | refine A_exit ?_ | refine A_ret ?_ | refine q_l ?_ | refine q_m ?_ | refine q_n ?_ | refine q_h ?_ | refine q_o ?_ | refine q_e ?_ | refine q_f ?_ | refine q_g ?_ | fail)
    refine A_weaken (Wk_nil 28 9 (t := 7) (id := 7) rfl rfl) ?_
    refine A_loop (fun i : Nat => [(0, rtesA l), (1, .d (.sc (.int .u32 x))), (5, intA (mostI l x)), (7, .row 7), (8, intA (i : Int))]) (fun i => [(7, rteB ((l.take i).filter (mostB l x)))]) (fun i => i ≤ l.length) (fun i => l.length - i) 0 (Nat.zero_le _) (Wk_sel ⟨rfl, rfl, rfl, rfl, rfl, trivial⟩ ⟨rfl, trivial⟩) ?_
    intro i hi
    try dsimp only
    have hfl : ((l.take i).filter (mostB l x)).length ≤ l.length := Nat.le_trans (List.length_filter_le _ _) (by rw [List.length_take]; omega)
    by_cases hil : i < l.length
    · have hst := filter_takeR (mostB l x) l i hil
      obtain ⟨out, ho⟩ : ∃ out, (l.take i).filter (mostB l x) = out := ⟨_, rfl⟩
      rw [ho] at hst hfl ⊢
      have hokp := (hok _ (List.getElem_mem hil)).2
      have hck := refCheck_A l[i].p hokp
      have hin := refIn_A x l[i].p hokp x0 x1
      by_cases hc : chk l[i].p = 0
      · rw [hc] at hck
        cases hx : inB x l[i].p with
        | false =>
          rw [hx] at hin
          rw [show mostB l x l[i] = false by unfold mostB; rw [hx]; rfl] at hst
          repeat (first | refine A_seq ?_ | refine A_block ?_ | refine R_list ?_ | refine R_quiet rfl mixed (by kernel_rfl) ?_ | ((first | apply O_y rfl rfl rfl | apply Q_y rfl rfl rfl); (first | exact q_1 | exact q_2 | exact q_3 | exact q_4 | exact R_loadi tabOk rfl rfl rfl rfl (by first | exact win_flat0 rteD_len l i _ hil (by decide) | exact win_flat rteD_len l i _ _ hil (by decide) | exact win_flat2 rteD_len l i _ _ _ hil (by decide) | rfl) rfl rfl | exact q_6 | exact q_7 | exact q_8 | exact q_9 | exact q_10 | exact q_11 | exact q_12 | exact q_13 | exact q_14 | exact q_15 | exact q_16 | exact q_17 | exact q_18 | exact q_19 | exact q_20 | exact q_21 | exact q_22 | exact q_23 | exact q_24 | fail)) | refine O_nil ?_ | refine Q_nil ?_ | refine q_j ?_ | refine q_k ?_ | refine q_d ?_ | refine q_a ?_ | refine q_b ?_ | refine q_c ?_ | refine A_ct rfl ?_ | refine A_cf rfl ?_ | refine A_skip ?_ | refine A_exit ?_ | refine A_ret ?_ | refine q_l ?_ | refine q_m ?_ | refine q_n ?_ | refine q_h ?_ | refine q_o ?_ | refine q_e ?_ | refine q_f ?_ | refine q_g ?_ | (first | refine O_c rfl rfl rfl rfl rfl hck (fun _ => rfl) ?_ | refine O_c rfl rfl rfl rfl rfl hin (fun _ => rfl) ?_))
          exact ⟨i + 1, by omega, by omega, Wk_sel ⟨rfl, rfl, rfl, rfl, rfl, trivial⟩ ⟨row_eq (by rw [hst]; simp) (by rw [hst]; simp) rfl, trivial⟩⟩
        | true =>
          rw [hx] at hin
          by_cases hm : l[i].p.b = mostI l x
          · rw [show mostB l x l[i] = true by unfold mostB; rw [hx, decide_eq_true hm]; rfl, if_pos rfl] at hst
            repeat (first | refine A_seq ?_ | refine A_block ?_ | refine R_list ?_ | refine R_quiet rfl mixed (by kernel_rfl) ?_ | ((first | apply O_y rfl rfl rfl | apply Q_y rfl rfl rfl); (first | exact q_1 | exact q_2 | exact q_3 | exact q_4 | exact R_loadi tabOk rfl rfl rfl rfl (by first | exact win_flat0 rteD_len l i _ hil (by decide) | exact win_flat rteD_len l i _ _ hil (by decide) | exact win_flat2 rteD_len l i _ _ _ hil (by decide) | rfl) rfl rfl | exact q_6 | exact q_7 | exact q_8 | exact q_9 | exact q_10 | exact q_11 | exact q_12 | exact q_13 | exact q_14 | exact q_15 | exact q_16 | exact q_17 | exact q_18 | exact q_19 | exact q_20 | exact q_21 | exact q_22 | exact q_23 | exact q_24 | fail)) | refine O_nil ?_ | refine Q_nil ?_ | refine q_j ?_ | refine q_k ?_ | refine q_d ?_ | refine q_a ?_ | refine q_b ?_ | refine q_c ?_ | refine A_ct rfl ?_ | refine A_cf rfl ?_ | refine A_skip ?_ | refine A_exit ?_ | refine A_ret ?_ | refine q_l ?_ | refine q_m ?_ | refine q_n ?_ | refine q_h ?_ | refine q_o ?_ | refine q_e ?_ | refine q_f ?_ | refine q_g ?_ | (first | refine O_c rfl rfl rfl rfl rfl hck (fun _ => rfl) ?_ | refine O_c rfl rfl rfl rfl rfl hin (fun _ => rfl) ?_ | (first | refine O_appR tabOk rfl rfl rfl rfl rfl rfl rfl rfl rfl rfl rfl (by first | exact Src.row rfl | exact Src.dat _ _ | exact Src.nil) rfl (by omega) ?_ | refine O_appN tabOk rfl rfl rfl rfl rfl rfl rfl rfl rfl rfl (by first | exact Src.row rfl | exact Src.dat _ _ | exact Src.nil) rfl (by omega) ?_)))
            exact ⟨i + 1, by omega, by omega, Wk_sel ⟨rfl, rfl, rfl, rfl, rfl, trivial⟩ ⟨row_eq (by rw [hst]; simp) (by rw [hst]; simp [rteD]) rfl, trivial⟩⟩
          · rw [show mostB l x l[i] = false by unfold mostB; rw [decide_eq_false hm, Bool.and_false]] at hst
            repeat (first | refine A_seq ?_ | refine A_block ?_ | refine R_list ?_ | refine R_quiet rfl mixed (by kernel_rfl) ?_ | ((first | apply O_y rfl rfl rfl | apply Q_y rfl rfl rfl); (first | exact q_1 | exact q_2 | exact q_3 | exact q_4 | exact R_loadi tabOk rfl rfl rfl rfl (by first | exact win_flat0 rteD_len l i _ hil (by decide) | exact win_flat rteD_len l i _ _ hil (by decide) | exact win_flat2 rteD_len l i _ _ _ hil (by decide) | rfl) rfl rfl | exact q_6 | exact q_7 | exact q_8 | exact q_9 | exact q_10 | exact q_11 | exact q_12 | exact q_13 | exact q_14 | exact q_15 | exact q_16 | exact q_17 | exact q_18 | exact q_19 | exact q_20 | exact q_21 | exact q_22 | exact q_23 | exact q_24 | fail)) | refine O_nil ?_ | refine Q_nil ?_ | refine q_j ?_ | refine q_k ?_ | refine q_d ?_ | refine q_a ?_ | refine q_b ?_ | refine q_c ?_ | refine A_ct rfl ?_ | refine A_cf rfl ?_ | refine A_skip ?_ | refine A_exit ?_ | refine A_ret ?_ | refine q_l ?_ | refine q_m ?_ | refine q_n ?_ | refine q_h ?_ | refine q_o ?_ | refine q_e ?_ | refine q_f ?_ | refine q_g ?_ | (first | refine O_c rfl rfl rfl rfl rfl hck (fun _ => rfl) ?_ | refine O_c rfl rfl rfl rfl rfl hin (fun _ => rfl) ?_))
            exact ⟨i + 1, by omega, by omega, Wk_sel ⟨rfl, rfl, rfl, rfl, rfl, trivial⟩ ⟨row_eq (by rw [hst]; simp) (by rw [hst]; simp) rfl, trivial⟩⟩
      · rw [show mostB l x l[i] = false by unfold mostB; rw [chk_inB hc]; rfl] at hst
        obtain ⟨cc, hcc⟩ : ∃ cc, chk l[i].p = cc := ⟨_, rfl⟩
        rw [hcc] at hck hc
        repeat (first | refine A_seq ?_ | refine A_block ?_ | refine R_list ?_ | refine R_quiet rfl mixed (by kernel_rfl) ?_ | ((first | apply O_y rfl rfl rfl | apply Q_y rfl rfl rfl); (first | exact q_1 | exact q_2 | exact q_3 | exact q_4 | exact R_loadi tabOk rfl rfl rfl rfl (by first | exact win_flat0 rteD_len l i _ hil (by decide) | exact win_flat rteD_len l i _ _ hil (by decide) | exact win_flat2 rteD_len l i _ _ _ hil (by decide) | rfl) rfl rfl | exact q_6 | exact q_7 | exact q_8 | exact q_9 | exact q_10 | exact q_11 | exact q_12 | exact q_13 | exact q_14 | exact q_15 | exact q_16 | exact q_17 | exact q_18 | exact q_19 | exact q_20 | exact q_21 | exact q_22 | exact q_23 | exact q_24 | fail)) | refine O_nil ?_ | refine Q_nil ?_ | refine q_j ?_ | refine q_k ?_ | refine q_d ?_ | refine q_a ?_ | refine q_b ?_ | refine q_c ?_ | refine A_ct rfl ?_ | refine A_cf rfl ?_ | refine A_skip ?_ | refine A_exit ?_ | refine A_ret ?_ | refine q_l ?_ | refine q_m ?_ | refine q_n ?_ | refine q_h ?_ | refine q_o ?_ | refine q_e ?_ | refine q_f ?_ | refine q_g ?_ | (first | refine O_c rfl rfl rfl rfl rfl hck (fun _ => rfl) ?_ | refine O_c rfl rfl rfl rfl rfl hin (fun _ => rfl) ?_))
        exact ⟨i + 1, by omega, by omega, Wk_sel ⟨rfl, rfl, rfl, rfl, rfl, trivial⟩ ⟨row_eq (by rw [hst]; simp) (by rw [hst]; simp) rfl, trivial⟩⟩
    · have : i = l.length := by omega
      subst this
      rw [List.take_length, most_top]
      have hs := refSort_A (l.filter (topB l x)) (Nat.le_trans (List.length_filter_le _ _) hn)
      repeat (first | refine A_seq ?_ | refine A_block ?_ | refine R_list ?_ | refine R_quiet rfl mixed (by kernel_rfl) ?_ | ((first | apply O_y rfl rfl rfl | apply Q_y rfl rfl rfl); (first | exact q_1 | exact q_2 | exact q_3 | exact q_4 | exact q_5 | exact q_6 | exact q_7 | exact q_8 | exact q_9 | exact q_10 | exact q_11 | exact q_12 | exact q_13 | exact q_14 | exact q_15 | exact q_16 | exact q_17 | exact q_18 | exact q_19 | exact q_20 | exact q_21 | exact q_22 | exact q_23 | exact q_24 | fail)) | refine O_nil ?_ | refine Q_nil ?_ | refine q_j ?_ | refine q_k ?_ | refine q_d ?_ | refine q_a ?_ | refine q_b ?_ | refine q_c ?_ | refine A_ct rfl ?_ | refine A_cf rfl ?_ | refine A_skip ?_ | refine A_exit ?_ | refine A_ret ?_ | refine q_l ?_ | refine q_m ?_ | refine q_n ?_ | refine q_h ?_ | refine q_o ?_ | refine q_e ?_ | refine q_f ?_ | refine q_g ?_ | fail)
      refine O_weaken (Wk_freeze (id := 7) rfl) ?_
      refine O_cRow rfl rfl rfl rfl rfl hs rfl ?_
      repeat (first | refine A_seq ?_ | refine A_block ?_ | refine R_list ?_ | refine R_quiet rfl mixed (by kernel_rfl) ?_ | ((first | apply O_y rfl rfl rfl | apply Q_y rfl rfl rfl); (first | exact q_1 | exact q_2 | exact q_3 | exact q_4 | exact q_5 | exact q_6 | exact q_7 | exact q_8 | exact q_9 | exact q_10 | exact q_11 | exact q_12 | exact q_13 | exact q_14 | exact q_15 | exact q_16 | exact q_17 | exact q_18 | exact q_19 | exact q_20 | exact q_21 | exact q_22 | exact q_23 | exact q_24 | fail)) | refine O_nil ?_ | refine Q_nil ?_ | refine q_j ?_ | refine q_k ?_ | refine q_d ?_ | refine q_a ?_ | refine q_b ?_ | refine q_c ?_ | refine A_ct rfl ?_ | refine A_cf rfl ?_ | refine A_skip ?_ | refine A_exit ?_ | refine A_ret ?_ | refine q_l ?_ | refine q_m ?_ | refine q_n ?_ | refine q_h ?_ | refine q_o ?_ | refine q_e ?_ | refine q_f ?_ | refine q_g ?_ | fail)
      exact X_retW AWk.refl rfl (h2 := [(3, rteB (longL l x))]) ⟨rfl, trivial⟩ ⟨rfl, rfl⟩
end Go.Proofs.Ytnnclkeoakjjkaa.Ab

namespace Go.Proofs.Ytnnclkeoakjjkaa.Ab
set_option linter.unusedVariables false
set_option maxRecDepth 100000
open Go.RowKit Go.Lib
theorem Led.head {l : List Rte} {r s : Rte} (h : Led l r s) : s = r ∨ ∃ q ∈ longL l r.h, onB q = true ∧ Led l q s := by
  induction h with
  | refl => exact .inl rfl
  | step h hq ho ih =>
    rcases ih with e | ⟨q, h1, h2, h3⟩
    · rw [e] at hq; exact .inr ⟨_, hq, ho, .refl⟩
    · exact .inr ⟨q, h1, h2, h3.step hq ho⟩
theorem ledH_mem {l : List Rte} {r : Rte} {x : Hp} (hx : r.x = false) (hi : r.i = []) : x ∈ ledH l r ↔ IsHop l r x := by
  unfold ledH
  rw [hx, if_neg (by simp), if_neg (by simpa using hi), sortU_mem, ledSet_mem]
theorem ledH_x {l : List Rte} {r : Rte} (hx : r.x = true) : ledH l r = [] := by unfold ledH; rw [if_pos hx]
theorem ledH_i {l : List Rte} {r : Rte} (hx : r.x = false) (hi : r.i ≠ []) : ledH l r = [⟨r.i, r.h⟩] := by unfold ledH; rw [hx, if_neg (by simp), if_pos hi]
theorem ledH_rising {l : List Rte} {r : Rte} (hx : r.x = false) (hi : r.i = []) : Rising ordH (ledH l r) := by
  unfold ledH
  rw [hx, if_neg (by simp), if_neg (by simpa using hi)]
  exact sortU_rising good_ordH ordH_eq _
theorem flat_le {α β : Type} (f : α → List β) (c : Nat) : ∀ L : List α, (∀ s ∈ L, (f s).length ≤ c) → (L.flatMap f).length ≤ L.length * c
  | [], _ => by simp
  | a :: t, h => by
    have h1 := h a (List.mem_cons_self ..)
    have h2 := flat_le f c t fun s hs => h s (List.mem_cons_of_mem _ hs)
    rw [List.flatMap_cons, List.length_append, List.length_cons, Nat.succ_mul]
    omega
theorem longL_le (l : List Rte) (a : Int) : (longL l a).length ≤ l.length := Nat.le_trans (sortU_len _) (List.length_filter_le _ _)
theorem ledH_len (l : List Rte) (r : Rte) : (ledH l r).length ≤ (l.length + 1) * l.length + 1 := by
  unfold ledH
  split
  · simp
  · split
    · simp
    · refine Nat.le_trans (sortU_len _) (Nat.le_succ_of_le ?_)
      unfold ledSet
      have := flat_le (fun s => (longL l s.h).filterMap fun q => open Classical in if Led l r s ∧ outB q = true then some (hopOf s.h q) else none) l.length (r :: l) fun s _ => Nat.le_trans (List.length_filterMap_le _ _) (longL_le l s.h)
      rw [List.length_cons] at this
      exact this
noncomputable def stepH (l : List Rte) (a : Int) (q : Rte) : List Hp := if q.x then [] else if q.i ≠ [] then [hopOf a q] else ledH l q
theorem step_law {l : List Rte} {r : Rte} (hx : r.x = false) (hi : r.i = []) {x : Hp} : x ∈ ledH l r ↔ x ∈ (longL l r.h).flatMap (stepH l r.h) := by
  rw [ledH_mem hx hi, List.mem_flatMap]
  constructor
  · rintro ⟨s, q, h1, h2, h3, h4⟩
    rcases h1.head with e | ⟨p, g1, g2, g3⟩
    · subst e
      refine ⟨q, h2, ?_⟩
      unfold outB at h3
      simp at h3
      unfold stepH
      rw [h3.1, if_neg (by simp), if_pos h3.2, h4]
      simp
    · refine ⟨p, g1, ?_⟩
      have g4 := g2
      unfold onB at g4
      simp at g4
      unfold stepH
      rw [g4.1, if_neg (by simp), if_neg (by simpa using g4.2), ledH_mem g4.1 g4.2]
      exact ⟨s, q, g3, h2, h3, h4⟩
  · rintro ⟨q, h1, h2⟩
    unfold stepH at h2
    split at h2
    · cases h2
    · rename_i hqx
      have hqx : q.x = false := by simpa using hqx
      split at h2
      · rename_i hqi
        have h2 : x = hopOf r.h q := by simpa using h2
        exact ⟨r, q, .refl, h1, by unfold outB; rw [hqx, decide_eq_false hqi]; rfl, h2⟩
      · rename_i hqi
        have hqi : q.i = [] := by simpa using hqi
        rw [ledH_mem hqx hqi] at h2
        obtain ⟨s, p, g1, g2, g3, g4⟩ := h2
        exact ⟨s, p, (Led.refl.step h1 (by unfold onB; rw [hqx, decide_eq_true hqi]; rfl)).trans g1, g2, g3, g4⟩
theorem stepH_len (l : List Rte) (a : Int) (q : Rte) : (stepH l a q).length ≤ (l.length + 1) * l.length + 1 := by
  unfold stepH
  split
  · simp
  · split
    · simp
    · exact ledH_len l q
theorem take_flat {α β : Type} (f : α → List β) (l : List α) (k : Nat) (h : k < l.length) : (l.take (k + 1)).flatMap f = (l.take k).flatMap f ++ f l[k] := by
  rw [List.take_succ_eq_append_getElem h, List.flatMap_append]; simp
set_option linter.unusedSimpArgs false
attribute [local irreducible] AWp AOps AQ AYield AEff ACall AWk AAny AAt AThen AIn APost NoPanic
theorem among_A (L : List Hp) (x : Hp) (hn : L.length ≤ 1000000) : ACall Try.prog 8 [hopsA L, hopA x] [] (Just (boolA (decide (x ∈ L)))) := by
  refine ACall_of tabOk Try.func8 rfl Try.ntmps8 (congrArg Array.toList Try.results8) (by kernel_rfl) rfl ?_
  repeat (first | refine A_seq ?_ | refine A_block ?_ | refine R_list ?_ | refine R_quiet rfl mixed (by kernel_rfl) ?_ | ((first | apply O_y rfl rfl rfl | apply Q_y rfl rfl rfl); (first | exact q_1 | exact q_2 | exact q_3 | exact q_4 | exact q_5 | exact q_6 | exact q_7 | exact q_8 | exact q_9 | exact q_10 | exact q_11 | exact q_12 | exact q_13 | exact q_14 | exact q_15 | exact q_16 | exact q_17 | exact q_18 | exact q_19 | exact q_20 | exact q_21 | exact q_22 | exact q_23 | exact q_24 | fail)) | refine O_nil ?_ | refine Q_nil ?_ | refine q_j ?_ | refine q_k ?_ | refine q_d ?_ | refine q_a ?_ | refine q_b ?_ | refine q_c ?_ | refine A_ct rfl ?_ | refine A_cf rfl ?_ | refine A_skip ?_ | refine A_exit ?_ | refine A_ret ?_ | refine q_l ?_ | refine q_m ?_ | refine q_n ?_ | refine q_h ?_ | refine q_o ?_ | refine q_e ?_ | refine q_f ?_ | refine q_g ?_ | fail)
  refine A_loop (fun k : Nat => [(0, hopsA L), (3, .ptr 3 0), (5, intA (k : Int))]) (fun _ => [(3, .var ((hopD x).map AVal.d))]) (fun k => k ≤ L.length ∧ x ∉ L.take k) (fun k => L.length - k) 0 ⟨Nat.zero_le _, by simp⟩ (Wk_sel ⟨rfl, rfl, rfl, trivial⟩ ⟨rfl, trivial⟩) ?_
  rintro k ⟨hk, hm⟩
  dsimp only
  by_cases hkl : k < L.length
  · have heq := hopEq L[k] x
    by_cases he : L[k] = x
    · rw [show (L[k] == x) = true by simpa using he] at heq
      rw [show decide (x ∈ L) = true by rw [decide_eq_true_eq, ← he]; exact List.getElem_mem hkl]
      repeat (first | refine A_seq ?_ | refine A_block ?_ | refine R_list ?_ | refine R_quiet rfl mixed (by kernel_rfl) ?_ | ((first | apply O_y rfl rfl rfl | apply Q_y rfl rfl rfl); (first | exact q_1 | exact q_2 | exact q_3 | exact q_4 | exact R_loadi tabOk rfl rfl rfl rfl (by first | exact win_flat0 hopD_len L k _ hkl (by decide) | exact win_flat hopD_len L k _ _ hkl (by decide) | exact win_flat2 hopD_len L k _ _ _ hkl (by decide) | rfl) rfl rfl | exact q_6 | exact q_7 | exact q_8 | exact q_9 | exact q_10 | exact q_11 | exact q_12 | exact q_13 | exact q_14 | exact q_15 | exact q_16 | exact q_17 | exact q_18 | exact q_19 | exact q_20 | exact q_21 | exact q_22 | exact q_23 | exact q_24 | exact Y_eq tabOk noStand rfl rfl rfl rfl rfl rfl rfl rfl rfl (by kernel_rfl) heq rfl)) | refine O_nil ?_ | refine Q_nil ?_ | refine q_j ?_ | refine q_k ?_ | refine q_d ?_ | refine q_a ?_ | refine q_b ?_ | refine q_c ?_ | refine A_ct rfl ?_ | refine A_cf rfl ?_ | refine A_skip ?_ | refine A_exit ?_ | refine A_ret ?_ | refine q_l ?_ | refine q_m ?_ | refine q_n ?_ | refine q_h ?_ | refine q_o ?_ | refine q_e ?_ | refine q_f ?_ | refine q_g ?_ | fail)
      exact X_ret rfl ⟨rfl, rfl⟩
    · rw [show (L[k] == x) = false by simpa using he] at heq
      repeat (first | refine A_seq ?_ | refine A_block ?_ | refine R_list ?_ | refine R_quiet rfl mixed (by kernel_rfl) ?_ | ((first | apply O_y rfl rfl rfl | apply Q_y rfl rfl rfl); (first | exact q_1 | exact q_2 | exact q_3 | exact q_4 | exact R_loadi tabOk rfl rfl rfl rfl (by first | exact win_flat0 hopD_len L k _ hkl (by decide) | exact win_flat hopD_len L k _ _ hkl (by decide) | exact win_flat2 hopD_len L k _ _ _ hkl (by decide) | rfl) rfl rfl | exact q_6 | exact q_7 | exact q_8 | exact q_9 | exact q_10 | exact q_11 | exact q_12 | exact q_13 | exact q_14 | exact q_15 | exact q_16 | exact q_17 | exact q_18 | exact q_19 | exact q_20 | exact q_21 | exact q_22 | exact q_23 | exact q_24 | exact Y_eq tabOk noStand rfl rfl rfl rfl rfl rfl rfl rfl rfl (by kernel_rfl) heq rfl)) | refine O_nil ?_ | refine Q_nil ?_ | refine q_j ?_ | refine q_k ?_ | refine q_d ?_ | refine q_a ?_ | refine q_b ?_ | refine q_c ?_ | refine A_ct rfl ?_ | refine A_cf rfl ?_ | refine A_skip ?_ | refine A_exit ?_ | refine A_ret ?_ | refine q_l ?_ | refine q_m ?_ | refine q_n ?_ | refine q_h ?_ | refine q_o ?_ | refine q_e ?_ | refine q_f ?_ | refine q_g ?_ | fail)
      exact ⟨k + 1, ⟨by omega, by rw [List.take_succ_eq_append_getElem hkl, List.mem_append]; simp [hm, Ne.symm he]⟩, by omega, Wk_sel ⟨rfl, rfl, rfl, trivial⟩ ⟨rfl, trivial⟩⟩
  · have : k = L.length := by omega
    subst this
    rw [List.take_length] at hm
    rw [show decide (x ∈ L) = false by simpa using hm]
    repeat (first | refine A_seq ?_ | refine A_block ?_ | refine R_list ?_ | refine R_quiet rfl mixed (by kernel_rfl) ?_ | ((first | apply O_y rfl rfl rfl | apply Q_y rfl rfl rfl); (first | exact q_1 | exact q_2 | exact q_3 | exact q_4 | exact q_5 | exact q_6 | exact q_7 | exact q_8 | exact q_9 | exact q_10 | exact q_11 | exact q_12 | exact q_13 | exact q_14 | exact q_15 | exact q_16 | exact q_17 | exact q_18 | exact q_19 | exact q_20 | exact q_21 | exact q_22 | exact q_23 | exact q_24 | fail)) | refine O_nil ?_ | refine Q_nil ?_ | refine q_j ?_ | refine q_k ?_ | refine q_d ?_ | refine q_a ?_ | refine q_b ?_ | refine q_c ?_ | refine A_ct rfl ?_ | refine A_cf rfl ?_ | refine A_skip ?_ | refine A_exit ?_ | refine A_ret ?_ | refine q_l ?_ | refine q_m ?_ | refine q_n ?_ | refine q_h ?_ | refine q_o ?_ | refine q_e ?_ | refine q_f ?_ | refine q_g ?_ | fail)
    exact X_ret rfl ⟨rfl, rfl⟩
end Go.Proofs.Ytnnclkeoakjjkaa.Ab

/-
  Texts of a proof, one behind the other (part 3).
-/
import Derived.CallsIn
import Derived.Listen
import Derived.Lone
import Derived.Shelf.SlSortCmp.WholeK
import Derived.Sort.LotA
import Derived.Test.YtamnhhjcgloceaaGreatFl1
set_option linter.unusedVariables false
set_option linter.unusedSimpArgs false
namespace Go.Proofs.YtamnhhjcgloceaaGreat.Ab
set_option linter.unusedVariables false
set_option maxRecDepth 100000
open Go.RowKit Go.Lib
set_option linter.unusedSimpArgs false
attribute [local irreducible] AWp AOps AQ AYield AEff ACall AWk AAny AAt AThen AIn APost NoPanic
theorem nan_int (x : Int) : ACall Tryz.prog 81 [.d (.sc (.int .i64 x))] [] (Just (boolA false)) := by
  refine ACall_of tabOk Tryz.func81 rfl Tryz.ntmps81 (congrArg Array.toList Tryz.results81) (by kernel_rfl) rfl ?_
  repeat (first | refine A_seq ?_ | refine A_block ?_ | refine R_list ?_ | refine R_quiet rfl mixed (by kernel_rfl) ?_ | ((first | apply O_y rfl rfl rfl | apply Q_y rfl rfl rfl); (first | exact q_1 | exact q_2 | exact q_3 | exact q_4 | exact q_5 | exact q_6 | exact q_7 | exact q_8 | exact q_9 | exact q_10 | exact q_11 | exact q_12 | exact q_13 | exact q_14 | exact q_15 | exact q_16 | exact q_17 | exact q_18 | exact q_19 | exact q_20 | exact q_21 | exact q_22 | exact q_23 | exact q_24 | fail)) | refine O_nil ?_ | refine Q_nil ?_ | refine q_j ?_ | refine q_k ?_ | refine q_d ?_ | refine q_a ?_ | refine q_b ?_ | refine q_c ?_ | refine A_ct rfl ?_ | refine A_cf rfl ?_ | refine A_skip ?_ | refine A_exit ?_ | refine A_ret ?_ | refine q_l ?_ | refine q_m ?_ | refine q_n ?_ | refine q_h ?_ | refine q_o ?_ | refine q_e ?_ | refine q_f ?_ | refine q_g ?_ | fail)
  exact X_ret rfl ⟨rfl, rfl⟩
theorem compare_int (x y : Int) : ACall Tryz.prog 59 [.d (.sc (.int .i64 x)), .d (.sc (.int .i64 y))] [] (Just (intA (c2 x y))) := by
  have hx := nan_int x
  have hy := nan_int y
  refine ACall_of tabOk Tryz.func59 rfl Tryz.ntmps59 (congrArg Array.toList Tryz.results59) (by kernel_rfl) rfl ?_
  unfold c2
  by_cases h1 : x < y
  · rw [if_pos h1]
    repeat (first | refine A_seq ?_ | refine A_block ?_ | refine R_list ?_ | refine R_quiet rfl mixed (by kernel_rfl) ?_ | ((first | apply O_y rfl rfl rfl | apply Q_y rfl rfl rfl); (first | exact q_1 | exact q_2 | exact q_3 | exact q_4 | exact q_5 | exact q_6 | exact q_7 | exact q_8 | exact q_9 | exact q_10 | exact q_11 | exact q_12 | exact q_13 | exact q_14 | exact q_15 | exact q_16 | exact q_17 | exact q_18 | exact q_19 | exact q_20 | exact q_21 | exact q_22 | exact q_23 | exact q_24 | fail)) | refine O_nil ?_ | refine Q_nil ?_ | refine q_j ?_ | refine q_k ?_ | refine q_d ?_ | refine q_a ?_ | refine q_b ?_ | refine q_c ?_ | refine A_ct rfl ?_ | refine A_cf rfl ?_ | refine A_skip ?_ | refine A_exit ?_ | refine A_ret ?_ | refine q_l ?_ | refine q_m ?_ | refine q_n ?_ | refine q_h ?_ | refine q_o ?_ | refine q_e ?_ | refine q_f ?_ | refine q_g ?_ | (first | refine O_c rfl rfl rfl rfl rfl hx (fun _ => rfl) ?_ | refine O_c rfl rfl rfl rfl rfl hy (fun _ => rfl) ?_ | refine Q_c rfl rfl rfl rfl rfl hx rfl (fun _ _ _ => val_mk _ _ _ _ _ rfl rfl) ?_ | refine Q_c rfl rfl rfl rfl rfl hy rfl (fun _ _ _ => val_mk _ _ _ _ _ rfl rfl) ?_))
    exact X_ret rfl ⟨rfl, rfl⟩
  · rw [if_neg h1]
    by_cases h2 : y < x
    · rw [if_pos h2]
      repeat (first | refine A_seq ?_ | refine A_block ?_ | refine R_list ?_ | refine R_quiet rfl mixed (by kernel_rfl) ?_ | ((first | apply O_y rfl rfl rfl | apply Q_y rfl rfl rfl); (first | exact q_1 | exact q_2 | exact q_3 | exact q_4 | exact q_5 | exact q_6 | exact q_7 | exact q_8 | exact q_9 | exact q_10 | exact q_11 | exact q_12 | exact q_13 | exact q_14 | exact q_15 | exact q_16 | exact q_17 | exact q_18 | exact q_19 | exact q_20 | exact q_21 | exact q_22 | exact q_23 | exact q_24 | fail)) | refine O_nil ?_ | refine Q_nil ?_ | refine q_j ?_ | refine q_k ?_ | refine q_d ?_ | refine q_a ?_ | refine q_b ?_ | refine q_c ?_ | refine A_ct rfl ?_ | refine A_cf rfl ?_ | refine A_skip ?_ | refine A_exit ?_ | refine A_ret ?_ | refine q_l ?_ | refine q_m ?_ | refine q_n ?_ | refine q_h ?_ | refine q_o ?_ | refine q_e ?_ | refine q_f ?_ | refine q_g ?_ | (first | refine O_c rfl rfl rfl rfl rfl hx (fun _ => rfl) ?_ | refine O_c rfl rfl rfl rfl rfl hy (fun _ => rfl) ?_ | refine Q_c rfl rfl rfl rfl rfl hx rfl (fun _ _ _ => val_mk _ _ _ _ _ rfl rfl) ?_ | refine Q_c rfl rfl rfl rfl rfl hy rfl (fun _ _ _ => val_mk _ _ _ _ _ rfl rfl) ?_))
      exact X_ret rfl ⟨rfl, rfl⟩
    · rw [if_neg h2]
      repeat (first | refine A_seq ?_ | refine A_block ?_ | refine R_list ?_ | refine R_quiet rfl mixed (by kernel_rfl) ?_ | ((first | apply O_y rfl rfl rfl | apply Q_y rfl rfl rfl); (first | exact q_1 | exact q_2 | exact q_3 | exact q_4 | exact q_5 | exact q_6 | exact q_7 | exact q_8 | exact q_9 | exact q_10 | exact q_11 | exact q_12 | exact q_13 | exact q_14 | exact q_15 | exact q_16 | exact q_17 | exact q_18 | exact q_19 | exact q_20 | exact q_21 | exact q_22 | exact q_23 | exact q_24 | fail)) | refine O_nil ?_ | refine Q_nil ?_ | refine q_j ?_ | refine q_k ?_ | refine q_d ?_ | refine q_a ?_ | refine q_b ?_ | refine q_c ?_ | refine A_ct rfl ?_ | refine A_cf rfl ?_ | refine A_skip ?_ | refine A_exit ?_ | refine A_ret ?_ | refine q_l ?_ | refine q_m ?_ | refine q_n ?_ | refine q_h ?_ | refine q_o ?_ | refine q_e ?_ | refine q_f ?_ | refine q_g ?_ | (first | refine O_c rfl rfl rfl rfl rfl hx (fun _ => rfl) ?_ | refine O_c rfl rfl rfl rfl rfl hy (fun _ => rfl) ?_ | refine Q_c rfl rfl rfl rfl rfl hx rfl (fun _ _ _ => val_mk _ _ _ _ _ rfl rfl) ?_ | refine Q_c rfl rfl rfl rfl rfl hy rfl (fun _ _ _ => val_mk _ _ _ _ _ rfl rfl) ?_))
      exact X_ret rfl ⟨rfl, rfl⟩
theorem nan_u8 (x : Int) : ACall Tryz.prog 112 [.d (.sc (.int .u8 x))] [] (Just (boolA false)) := by
  refine ACall_of tabOk Tryz.func112 rfl Tryz.ntmps112 (congrArg Array.toList Tryz.results112) (by kernel_rfl) rfl ?_
  repeat (first | refine A_seq ?_ | refine A_block ?_ | refine R_list ?_ | refine R_quiet rfl mixed (by kernel_rfl) ?_ | ((first | apply O_y rfl rfl rfl | apply Q_y rfl rfl rfl); (first | exact q_1 | exact q_2 | exact q_3 | exact q_4 | exact q_5 | exact q_6 | exact q_7 | exact q_8 | exact q_9 | exact q_10 | exact q_11 | exact q_12 | exact q_13 | exact q_14 | exact q_15 | exact q_16 | exact q_17 | exact q_18 | exact q_19 | exact q_20 | exact q_21 | exact q_22 | exact q_23 | exact q_24 | fail)) | refine O_nil ?_ | refine Q_nil ?_ | refine q_j ?_ | refine q_k ?_ | refine q_d ?_ | refine q_a ?_ | refine q_b ?_ | refine q_c ?_ | refine A_ct rfl ?_ | refine A_cf rfl ?_ | refine A_skip ?_ | refine A_exit ?_ | refine A_ret ?_ | refine q_l ?_ | refine q_m ?_ | refine q_n ?_ | refine q_h ?_ | refine q_o ?_ | refine q_e ?_ | refine q_f ?_ | refine q_g ?_ | fail)
  exact X_ret rfl ⟨rfl, rfl⟩
theorem compare_u8 (x y : Int) : ACall Tryz.prog 87 [.d (.sc (.int .u8 x)), .d (.sc (.int .u8 y))] [] (Just (intA (c2 x y))) := by
  have hx := nan_u8 x
  have hy := nan_u8 y
  refine ACall_of tabOk Tryz.func87 rfl Tryz.ntmps87 (congrArg Array.toList Tryz.results87) (by kernel_rfl) rfl ?_
  unfold c2
  by_cases h1 : x < y
  · rw [if_pos h1]
    repeat (first | refine A_seq ?_ | refine A_block ?_ | refine R_list ?_ | refine R_quiet rfl mixed (by kernel_rfl) ?_ | ((first | apply O_y rfl rfl rfl | apply Q_y rfl rfl rfl); (first | exact q_1 | exact q_2 | exact q_3 | exact q_4 | exact q_5 | exact q_6 | exact q_7 | exact q_8 | exact q_9 | exact q_10 | exact q_11 | exact q_12 | exact q_13 | exact q_14 | exact q_15 | exact q_16 | exact q_17 | exact q_18 | exact q_19 | exact q_20 | exact q_21 | exact q_22 | exact q_23 | exact q_24 | fail)) | refine O_nil ?_ | refine Q_nil ?_ | refine q_j ?_ | refine q_k ?_ | refine q_d ?_ | refine q_a ?_ | refine q_b ?_ | refine q_c ?_ | refine A_ct rfl ?_ | refine A_cf rfl ?_ | refine A_skip ?_ | refine A_exit ?_ | refine A_ret ?_ | refine q_l ?_ | refine q_m ?_ | refine q_n ?_ | refine q_h ?_ | refine q_o ?_ | refine q_e ?_ | refine q_f ?_ | refine q_g ?_ | (first | refine O_c rfl rfl rfl rfl rfl hx (fun _ => rfl) ?_ | refine O_c rfl rfl rfl rfl rfl hy (fun _ => rfl) ?_ | refine Q_c rfl rfl rfl rfl rfl hx rfl (fun _ _ _ => val_mk _ _ _ _ _ rfl rfl) ?_ | refine Q_c rfl rfl rfl rfl rfl hy rfl (fun _ _ _ => val_mk _ _ _ _ _ rfl rfl) ?_))
    exact X_ret rfl ⟨rfl, rfl⟩
  · rw [if_neg h1]
    by_cases h2 : y < x
    · rw [if_pos h2]
      repeat (first | refine A_seq ?_ | refine A_block ?_ | refine R_list ?_ | refine R_quiet rfl mixed (by kernel_rfl) ?_ | ((first | apply O_y rfl rfl rfl | apply Q_y rfl rfl rfl); (first | exact q_1 | exact q_2 | exact q_3 | exact q_4 | exact q_5 | exact q_6 | exact q_7 | exact q_8 | exact q_9 | exact q_10 | exact q_11 | exact q_12 | exact q_13 | exact q_14 | exact q_15 | exact q_16 | exact q_17 | exact q_18 | exact q_19 | exact q_20 | exact q_21 | exact q_22 | exact q_23 | exact q_24 | fail)) | refine O_nil ?_ | refine Q_nil ?_ | refine q_j ?_ | refine q_k ?_ | refine q_d ?_ | refine q_a ?_ | refine q_b ?_ | refine q_c ?_ | refine A_ct rfl ?_ | refine A_cf rfl ?_ | refine A_skip ?_ | refine A_exit ?_ | refine A_ret ?_ | refine q_l ?_ | refine q_m ?_ | refine q_n ?_ | refine q_h ?_ | refine q_o ?_ | refine q_e ?_ | refine q_f ?_ | refine q_g ?_ | (first | refine O_c rfl rfl rfl rfl rfl hx (fun _ => rfl) ?_ | refine O_c rfl rfl rfl rfl rfl hy (fun _ => rfl) ?_ | refine Q_c rfl rfl rfl rfl rfl hx rfl (fun _ _ _ => val_mk _ _ _ _ _ rfl rfl) ?_ | refine Q_c rfl rfl rfl rfl rfl hy rfl (fun _ _ _ => val_mk _ _ _ _ _ rfl rfl) ?_))
      exact X_ret rfl ⟨rfl, rfl⟩
    · rw [if_neg h2]
      repeat (first | refine A_seq ?_ | refine A_block ?_ | refine R_list ?_ | refine R_quiet rfl mixed (by kernel_rfl) ?_ | ((first | apply O_y rfl rfl rfl | apply Q_y rfl rfl rfl); (first | exact q_1 | exact q_2 | exact q_3 | exact q_4 | exact q_5 | exact q_6 | exact q_7 | exact q_8 | exact q_9 | exact q_10 | exact q_11 | exact q_12 | exact q_13 | exact q_14 | exact q_15 | exact q_16 | exact q_17 | exact q_18 | exact q_19 | exact q_20 | exact q_21 | exact q_22 | exact q_23 | exact q_24 | fail)) | refine O_nil ?_ | refine Q_nil ?_ | refine q_j ?_ | refine q_k ?_ | refine q_d ?_ | refine q_a ?_ | refine q_b ?_ | refine q_c ?_ | refine A_ct rfl ?_ | refine A_cf rfl ?_ | refine A_skip ?_ | refine A_exit ?_ | refine A_ret ?_ | refine q_l ?_ | refine q_m ?_ | refine q_n ?_ | refine q_h ?_ | refine q_o ?_ | refine q_e ?_ | refine q_f ?_ | refine q_g ?_ | (first | refine O_c rfl rfl rfl rfl rfl hx (fun _ => rfl) ?_ | refine O_c rfl rfl rfl rfl rfl hy (fun _ => rfl) ?_ | refine Q_c rfl rfl rfl rfl rfl hx rfl (fun _ _ _ => val_mk _ _ _ _ _ rfl rfl) ?_ | refine Q_c rfl rfl rfl rfl rfl hy rfl (fun _ _ _ => val_mk _ _ _ _ _ rfl rfl) ?_))
      exact X_ret rfl ⟨rfl, rfl⟩
theorem nan_addr (x : Int) : ACall Tryz.prog 70 [.d (.sc (.int .u32 x))] [] (Just (boolA false)) := by
  refine ACall_of tabOk Tryz.func70 rfl Tryz.ntmps70 (congrArg Array.toList Tryz.results70) (by kernel_rfl) rfl ?_
  repeat (first | refine A_seq ?_ | refine A_block ?_ | refine R_list ?_ | refine R_quiet rfl mixed (by kernel_rfl) ?_ | ((first | apply O_y rfl rfl rfl | apply Q_y rfl rfl rfl); (first | exact q_1 | exact q_2 | exact q_3 | exact q_4 | exact q_5 | exact q_6 | exact q_7 | exact q_8 | exact q_9 | exact q_10 | exact q_11 | exact q_12 | exact q_13 | exact q_14 | exact q_15 | exact q_16 | exact q_17 | exact q_18 | exact q_19 | exact q_20 | exact q_21 | exact q_22 | exact q_23 | exact q_24 | fail)) | refine O_nil ?_ | refine Q_nil ?_ | refine q_j ?_ | refine q_k ?_ | refine q_d ?_ | refine q_a ?_ | refine q_b ?_ | refine q_c ?_ | refine A_ct rfl ?_ | refine A_cf rfl ?_ | refine A_skip ?_ | refine A_exit ?_ | refine A_ret ?_ | refine q_l ?_ | refine q_m ?_ | refine q_n ?_ | refine q_h ?_ | refine q_o ?_ | refine q_e ?_ | refine q_f ?_ | refine q_g ?_ | fail)
  exact X_ret rfl ⟨rfl, rfl⟩
theorem compare_addr (x y : Int) : ACall Tryz.prog 53 [.d (.sc (.int .u32 x)), .d (.sc (.int .u32 y))] [] (Just (intA (c2 x y))) := by
  have hx := nan_addr x
  have hy := nan_addr y
  refine ACall_of tabOk Tryz.func53 rfl Tryz.ntmps53 (congrArg Array.toList Tryz.results53) (by kernel_rfl) rfl ?_
  unfold c2
  by_cases h1 : x < y
  · rw [if_pos h1]
    repeat (first | refine A_seq ?_ | refine A_block ?_ | refine R_list ?_ | refine R_quiet rfl mixed (by kernel_rfl) ?_ | ((first | apply O_y rfl rfl rfl | apply Q_y rfl rfl rfl); (first | exact q_1 | exact q_2 | exact q_3 | exact q_4 | exact q_5 | exact q_6 | exact q_7 | exact q_8 | exact q_9 | exact q_10 | exact q_11 | exact q_12 | exact q_13 | exact q_14 | exact q_15 | exact q_16 | exact q_17 | exact q_18 | exact q_19 | exact q_20 | exact q_21 | exact q_22 | exact q_23 | exact q_24 | fail)) | refine O_nil ?_ | refine Q_nil ?_ | refine q_j ?_ | refine q_k ?_ | refine q_d ?_ | refine q_a ?_ | refine q_b ?_ | refine q_c ?_ | refine A_ct rfl ?_ | refine A_cf rfl ?_ | refine A_skip ?_ | refine A_exit ?_ | refine A_ret ?_ | refine q_l ?_ | refine q_m ?_ | refine q_n ?_ | refine q_h ?_ | refine q_o ?_ | refine q_e ?_ | refine q_f ?_ | refine q_g ?_ | (first | refine O_c rfl rfl rfl rfl rfl hx (fun _ => rfl) ?_ | refine O_c rfl rfl rfl rfl rfl hy (fun _ => rfl) ?_ | refine Q_c rfl rfl rfl rfl rfl hx rfl (fun _ _ _ => val_mk _ _ _ _ _ rfl rfl) ?_ | refine Q_c rfl rfl rfl rfl rfl hy rfl (fun _ _ _ => val_mk _ _ _ _ _ rfl rfl) ?_))
    exact X_ret rfl ⟨rfl, rfl⟩
  · rw [if_neg h1]
    by_cases h2 : y < x
    · rw [if_pos h2]
      repeat (first | refine A_seq ?_ | refine A_block ?_ | refine R_list ?_ | refine R_quiet rfl mixed (by kernel_rfl) ?_ | ((first | apply O_y rfl rfl rfl | apply Q_y rfl rfl rfl); (first | exact q_1 | exact q_2 | exact q_3 | exact q_4 | exact q_5 | exact q_6 | exact q_7 | exact q_8 | exact q_9 | exact q_10 | exact q_11 | exact q_12 | exact q_13 | exact q_14 | exact q_15 | exact q_16 | exact q_17 | exact q_18 | exact q_19 | exact q_20 | exact q_21 | exact q_22 | exact q_23 | exact q_24 | fail)) | refine O_nil ?_ | refine Q_nil ?_ | refine q_j ?_ | refine q_k ?_ | refine q_d ?_ | refine q_a ?_ | refine q_b ?_ | refine q_c ?_ | refine A_ct rfl ?_ | refine A_cf rfl ?_ | refine A_skip ?_ | refine A_exit ?_ | refine A_ret ?_ | refine q_l ?_ | refine q_m ?_ | refine q_n ?_ | refine q_h ?_ | refine q_o ?_ | refine q_e ?_ | refine q_f ?_ | refine q_g ?_ | (first | refine O_c rfl rfl rfl rfl rfl hx (fun _ => rfl) ?_ | refine O_c rfl rfl rfl rfl rfl hy (fun _ => rfl) ?_ | refine Q_c rfl rfl rfl rfl rfl hx rfl (fun _ _ _ => val_mk _ _ _ _ _ rfl rfl) ?_ | refine Q_c rfl rfl rfl rfl rfl hy rfl (fun _ _ _ => val_mk _ _ _ _ _ rfl rfl) ?_))
      exact X_ret rfl ⟨rfl, rfl⟩
    · rw [if_neg h2]
      repeat (first | refine A_seq ?_ | refine A_block ?_ | refine R_list ?_ | refine R_quiet rfl mixed (by kernel_rfl) ?_ | ((first | apply O_y rfl rfl rfl | apply Q_y rfl rfl rfl); (first | exact q_1 | exact q_2 | exact q_3 | exact q_4 | exact q_5 | exact q_6 | exact q_7 | exact q_8 | exact q_9 | exact q_10 | exact q_11 | exact q_12 | exact q_13 | exact q_14 | exact q_15 | exact q_16 | exact q_17 | exact q_18 | exact q_19 | exact q_20 | exact q_21 | exact q_22 | exact q_23 | exact q_24 | fail)) | refine O_nil ?_ | refine Q_nil ?_ | refine q_j ?_ | refine q_k ?_ | refine q_d ?_ | refine q_a ?_ | refine q_b ?_ | refine q_c ?_ | refine A_ct rfl ?_ | refine A_cf rfl ?_ | refine A_skip ?_ | refine A_exit ?_ | refine A_ret ?_ | refine q_l ?_ | refine q_m ?_ | refine q_n ?_ | refine q_h ?_ | refine q_o ?_ | refine q_e ?_ | refine q_f ?_ | refine q_g ?_ | (first | refine O_c rfl rfl rfl rfl rfl hx (fun _ => rfl) ?_ | refine O_c rfl rfl rfl rfl rfl hy (fun _ => rfl) ?_ | refine Q_c rfl rfl rfl rfl rfl hx rfl (fun _ _ _ => val_mk _ _ _ _ _ rfl rfl) ?_ | refine Q_c rfl rfl rfl rfl rfl hy rfl (fun _ _ _ => val_mk _ _ _ _ _ rfl rfl) ?_))
      exact X_ret rfl ⟨rfl, rfl⟩
theorem nan_str (x : List UInt8) : ACall Tryz.prog 113 [strA x] [] (Just (boolA false)) := by
  refine ACall_of tabOk Tryz.func113 rfl Tryz.ntmps113 (congrArg Array.toList Tryz.results113) (by kernel_rfl) rfl ?_
  repeat (first | refine A_seq ?_ | refine A_block ?_ | refine R_list ?_ | refine R_quiet rfl mixed (by kernel_rfl) ?_ | ((first | apply O_y rfl rfl rfl | apply Q_y rfl rfl rfl); (first | exact q_1 | exact q_2 | exact q_3 | exact q_4 | exact q_5 | exact q_6 | exact q_7 | exact q_8 | exact q_9 | exact q_10 | exact q_11 | exact q_12 | exact q_13 | exact q_14 | exact q_15 | exact q_16 | exact q_17 | exact q_18 | exact q_19 | exact q_20 | exact q_21 | exact q_22 | exact q_23 | exact q_24 | (first | exact R_sF rfl rfl rfl rfl (by first | (simp only [decide_eq_false_iff_not, Bool.not_eq_false', decide_eq_true_eq]; done) | (simp only [decide_eq_false_iff_not, Bool.not_eq_false', decide_eq_true_eq]; omega)) | exact R_sT rfl rfl rfl rfl (by first | (simp only [decide_eq_true_eq, Bool.not_eq_true', decide_eq_false_iff_not]; done) | (simp only [decide_eq_true_eq, Bool.not_eq_true', decide_eq_false_iff_not]; omega))))) | refine O_nil ?_ | refine Q_nil ?_ | refine q_j ?_ | refine q_k ?_ | refine q_d ?_ | refine q_a ?_ | refine q_b ?_ | refine q_c ?_ | refine A_ct rfl ?_ | refine A_cf rfl ?_ | refine A_skip ?_ | refine A_exit ?_ | refine A_ret ?_ | refine q_l ?_ | refine q_m ?_ | refine q_n ?_ | refine q_h ?_ | refine q_o ?_ | refine q_e ?_ | refine q_f ?_ | refine q_g ?_ | fail)
  exact X_ret rfl ⟨rfl, rfl⟩
theorem bytes_c2 (x y : List UInt8) : compareBytes x y = -1 ∨ compareBytes x y = 0 ∨ compareBytes x y = 1 := by
  induction x generalizing y with
  | nil => cases y <;> simp [compareBytes]
  | cons a x ih =>
    cases y with
    | nil => simp [compareBytes]
    | cons b y =>
      simp only [compareBytes]
      split
      · exact .inl rfl
      · split
        · exact .inr (.inr rfl)
        · exact ih y
theorem compare_str (x y : List UInt8) : ACall Tryz.prog 88 [strA x, strA y] [] (Just (intA (compareBytes x y))) := by
  have hx := nan_str x
  have hy := nan_str y
  refine ACall_of tabOk Tryz.func88 rfl Tryz.ntmps88 (congrArg Array.toList Tryz.results88) (by kernel_rfl) rfl ?_
  rcases bytes_c2 x y with h | h | h
  ·
    repeat (first | refine A_seq ?_ | refine A_block ?_ | refine R_list ?_ | refine R_quiet rfl mixed (by kernel_rfl) ?_ | ((first | apply O_y rfl rfl rfl | apply Q_y rfl rfl rfl); (first | exact q_1 | exact q_2 | exact q_3 | exact q_4 | exact q_5 | exact q_6 | exact q_7 | exact q_8 | exact q_9 | exact q_10 | exact q_11 | exact q_12 | exact q_13 | exact q_14 | exact q_15 | exact q_16 | exact q_17 | exact q_18 | exact q_19 | exact q_20 | exact q_21 | exact q_22 | exact q_23 | exact q_24 | (first | exact R_sF rfl rfl rfl rfl (by first | (simp only [decide_eq_false_iff_not, Bool.not_eq_false', decide_eq_true_eq]; done) | (simp only [decide_eq_false_iff_not, Bool.not_eq_false', decide_eq_true_eq]; omega)) | exact R_sT rfl rfl rfl rfl (by first | (simp only [decide_eq_true_eq, Bool.not_eq_true', decide_eq_false_iff_not]; done) | (simp only [decide_eq_true_eq, Bool.not_eq_true', decide_eq_false_iff_not]; omega))))) | refine O_nil ?_ | refine Q_nil ?_ | refine q_j ?_ | refine q_k ?_ | refine q_d ?_ | refine q_a ?_ | refine q_b ?_ | refine q_c ?_ | refine A_ct rfl ?_ | refine A_cf rfl ?_ | refine A_skip ?_ | refine A_exit ?_ | refine A_ret ?_ | refine q_l ?_ | refine q_m ?_ | refine q_n ?_ | refine q_h ?_ | refine q_o ?_ | refine q_e ?_ | refine q_f ?_ | refine q_g ?_ | (first | refine O_c rfl rfl rfl rfl rfl hx (fun _ => rfl) ?_ | refine O_c rfl rfl rfl rfl rfl hy (fun _ => rfl) ?_ | refine Q_c rfl rfl rfl rfl rfl hx rfl (fun _ _ _ => val_mk _ _ _ _ _ rfl rfl) ?_ | refine Q_c rfl rfl rfl rfl rfl hy rfl (fun _ _ _ => val_mk _ _ _ _ _ rfl rfl) ?_))
    exact X_ret rfl ⟨by rw [h]; rfl, rfl⟩
  ·
    repeat (first | refine A_seq ?_ | refine A_block ?_ | refine R_list ?_ | refine R_quiet rfl mixed (by kernel_rfl) ?_ | ((first | apply O_y rfl rfl rfl | apply Q_y rfl rfl rfl); (first | exact q_1 | exact q_2 | exact q_3 | exact q_4 | exact q_5 | exact q_6 | exact q_7 | exact q_8 | exact q_9 | exact q_10 | exact q_11 | exact q_12 | exact q_13 | exact q_14 | exact q_15 | exact q_16 | exact q_17 | exact q_18 | exact q_19 | exact q_20 | exact q_21 | exact q_22 | exact q_23 | exact q_24 | (first | exact R_sF rfl rfl rfl rfl (by first | (simp only [decide_eq_false_iff_not, Bool.not_eq_false', decide_eq_true_eq]; done) | (simp only [decide_eq_false_iff_not, Bool.not_eq_false', decide_eq_true_eq]; omega)) | exact R_sT rfl rfl rfl rfl (by first | (simp only [decide_eq_true_eq, Bool.not_eq_true', decide_eq_false_iff_not]; done) | (simp only [decide_eq_true_eq, Bool.not_eq_true', decide_eq_false_iff_not]; omega))))) | refine O_nil ?_ | refine Q_nil ?_ | refine q_j ?_ | refine q_k ?_ | refine q_d ?_ | refine q_a ?_ | refine q_b ?_ | refine q_c ?_ | refine A_ct rfl ?_ | refine A_cf rfl ?_ | refine A_skip ?_ | refine A_exit ?_ | refine A_ret ?_ | refine q_l ?_ | refine q_m ?_ | refine q_n ?_ | refine q_h ?_ | refine q_o ?_ | refine q_e ?_ | refine q_f ?_ | refine q_g ?_ | (first | refine O_c rfl rfl rfl rfl rfl hx (fun _ => rfl) ?_ | refine O_c rfl rfl rfl rfl rfl hy (fun _ => rfl) ?_ | refine Q_c rfl rfl rfl rfl rfl hx rfl (fun _ _ _ => val_mk _ _ _ _ _ rfl rfl) ?_ | refine Q_c rfl rfl rfl rfl rfl hy rfl (fun _ _ _ => val_mk _ _ _ _ _ rfl rfl) ?_))
    exact X_ret rfl ⟨by rw [h]; rfl, rfl⟩
  ·
    repeat (first | refine A_seq ?_ | refine A_block ?_ | refine R_list ?_ | refine R_quiet rfl mixed (by kernel_rfl) ?_ | ((first | apply O_y rfl rfl rfl | apply Q_y rfl rfl rfl); (first | exact q_1 | exact q_2 | exact q_3 | exact q_4 | exact q_5 | exact q_6 | exact q_7 | exact q_8 | exact q_9 | exact q_10 | exact q_11 | exact q_12 | exact q_13 | exact q_14 | exact q_15 | exact q_16 | exact q_17 | exact q_18 | exact q_19 | exact q_20 | exact q_21 | exact q_22 | exact q_23 | exact q_24 | (first | exact R_sF rfl rfl rfl rfl (by first | (simp only [decide_eq_false_iff_not, Bool.not_eq_false', decide_eq_true_eq]; done) | (simp only [decide_eq_false_iff_not, Bool.not_eq_false', decide_eq_true_eq]; omega)) | exact R_sT rfl rfl rfl rfl (by first | (simp only [decide_eq_true_eq, Bool.not_eq_true', decide_eq_false_iff_not]; done) | (simp only [decide_eq_true_eq, Bool.not_eq_true', decide_eq_false_iff_not]; omega))))) | refine O_nil ?_ | refine Q_nil ?_ | refine q_j ?_ | refine q_k ?_ | refine q_d ?_ | refine q_a ?_ | refine q_b ?_ | refine q_c ?_ | refine A_ct rfl ?_ | refine A_cf rfl ?_ | refine A_skip ?_ | refine A_exit ?_ | refine A_ret ?_ | refine q_l ?_ | refine q_m ?_ | refine q_n ?_ | refine q_h ?_ | refine q_o ?_ | refine q_e ?_ | refine q_f ?_ | refine q_g ?_ | (first | refine O_c rfl rfl rfl rfl rfl hx (fun _ => rfl) ?_ | refine O_c rfl rfl rfl rfl rfl hy (fun _ => rfl) ?_ | refine Q_c rfl rfl rfl rfl rfl hx rfl (fun _ _ _ => val_mk _ _ _ _ _ rfl rfl) ?_ | refine Q_c rfl rfl rfl rfl rfl hy rfl (fun _ _ _ => val_mk _ _ _ _ _ rfl rfl) ?_))
    exact X_ret rfl ⟨by rw [h]; rfl, rfl⟩
theorem cmpBool_A (x y : Bool) : ACall Tryz.prog 89 [boolA x, boolA y] [] (Just (intA (cB x y))) := by
  refine ACall_of tabOk Tryz.func89 rfl Tryz.ntmps89 (congrArg Array.toList Tryz.results89) (by kernel_rfl) rfl ?_
  cases x <;> cases y
  ·
    repeat (first | refine A_seq ?_ | refine A_block ?_ | refine R_list ?_ | refine R_quiet rfl mixed (by kernel_rfl) ?_ | ((first | apply O_y rfl rfl rfl | apply Q_y rfl rfl rfl); (first | exact q_1 | exact q_2 | exact q_3 | exact q_4 | exact q_5 | exact q_6 | exact q_7 | exact q_8 | exact q_9 | exact q_10 | exact q_11 | exact q_12 | exact q_13 | exact q_14 | exact q_15 | exact q_16 | exact q_17 | exact q_18 | exact q_19 | exact q_20 | exact q_21 | exact q_22 | exact q_23 | exact q_24 | exact Y_bbin tabOk rfl rfl rfl rfl rfl)) | refine O_nil ?_ | refine Q_nil ?_ | refine q_j ?_ | refine q_k ?_ | refine q_d ?_ | refine q_a ?_ | refine q_b ?_ | refine q_c ?_ | refine A_ct rfl ?_ | refine A_cf rfl ?_ | refine A_skip ?_ | refine A_exit ?_ | refine A_ret ?_ | refine q_l ?_ | refine q_m ?_ | refine q_n ?_ | refine q_h ?_ | refine q_o ?_ | refine q_e ?_ | refine q_f ?_ | refine q_g ?_ | fail)
    exact X_ret rfl ⟨rfl, rfl⟩
  ·
    repeat (first | refine A_seq ?_ | refine A_block ?_ | refine R_list ?_ | refine R_quiet rfl mixed (by kernel_rfl) ?_ | ((first | apply O_y rfl rfl rfl | apply Q_y rfl rfl rfl); (first | exact q_1 | exact q_2 | exact q_3 | exact q_4 | exact q_5 | exact q_6 | exact q_7 | exact q_8 | exact q_9 | exact q_10 | exact q_11 | exact q_12 | exact q_13 | exact q_14 | exact q_15 | exact q_16 | exact q_17 | exact q_18 | exact q_19 | exact q_20 | exact q_21 | exact q_22 | exact q_23 | exact q_24 | exact Y_bbin tabOk rfl rfl rfl rfl rfl)) | refine O_nil ?_ | refine Q_nil ?_ | refine q_j ?_ | refine q_k ?_ | refine q_d ?_ | refine q_a ?_ | refine q_b ?_ | refine q_c ?_ | refine A_ct rfl ?_ | refine A_cf rfl ?_ | refine A_skip ?_ | refine A_exit ?_ | refine A_ret ?_ | refine q_l ?_ | refine q_m ?_ | refine q_n ?_ | refine q_h ?_ | refine q_o ?_ | refine q_e ?_ | refine q_f ?_ | refine q_g ?_ | fail)
    exact X_ret rfl ⟨rfl, rfl⟩
  ·
    repeat (first | refine A_seq ?_ | refine A_block ?_ | refine R_list ?_ | refine R_quiet rfl mixed (by kernel_rfl) ?_ | ((first | apply O_y rfl rfl rfl | apply Q_y rfl rfl rfl); (first | exact q_1 | exact q_2 | exact q_3 | exact q_4 | exact q_5 | exact q_6 | exact q_7 | exact q_8 | exact q_9 | exact q_10 | exact q_11 | exact q_12 | exact q_13 | exact q_14 | exact q_15 | exact q_16 | exact q_17 | exact q_18 | exact q_19 | exact q_20 | exact q_21 | exact q_22 | exact q_23 | exact q_24 | exact Y_bbin tabOk rfl rfl rfl rfl rfl)) | refine O_nil ?_ | refine Q_nil ?_ | refine q_j ?_ | refine q_k ?_ | refine q_d ?_ | refine q_a ?_ | refine q_b ?_ | refine q_c ?_ | refine A_ct rfl ?_ | refine A_cf rfl ?_ | refine A_skip ?_ | refine A_exit ?_ | refine A_ret ?_ | refine q_l ?_ | refine q_m ?_ | refine q_n ?_ | refine q_h ?_ | refine q_o ?_ | refine q_e ?_ | refine q_f ?_ | refine q_g ?_ | fail)
    exact X_ret rfl ⟨rfl, rfl⟩
  ·
    repeat (first | refine A_seq ?_ | refine A_block ?_ | refine R_list ?_ | refine R_quiet rfl mixed (by kernel_rfl) ?_ | ((first | apply O_y rfl rfl rfl | apply Q_y rfl rfl rfl); (first | exact q_1 | exact q_2 | exact q_3 | exact q_4 | exact q_5 | exact q_6 | exact q_7 | exact q_8 | exact q_9 | exact q_10 | exact q_11 | exact q_12 | exact q_13 | exact q_14 | exact q_15 | exact q_16 | exact q_17 | exact q_18 | exact q_19 | exact q_20 | exact q_21 | exact q_22 | exact q_23 | exact q_24 | exact Y_bbin tabOk rfl rfl rfl rfl rfl)) | refine O_nil ?_ | refine Q_nil ?_ | refine q_j ?_ | refine q_k ?_ | refine q_d ?_ | refine q_a ?_ | refine q_b ?_ | refine q_c ?_ | refine A_ct rfl ?_ | refine A_cf rfl ?_ | refine A_skip ?_ | refine A_exit ?_ | refine A_ret ?_ | refine q_l ?_ | refine q_m ?_ | refine q_n ?_ | refine q_h ?_ | refine q_o ?_ | refine q_e ?_ | refine q_f ?_ | refine q_g ?_ | fail)
    exact X_ret rfl ⟨rfl, rfl⟩
end Go.Proofs.YtamnhhjcgloceaaGreat.Ab

namespace Go.Proofs.YtamnhhjcgloceaaGreat.Ab
set_option linter.unusedVariables false
open Go.RowKit
section
variable {P : Program} {nt : Nat} {Q : Post} {e : Env} {h : Heap} {ops : Array Oper} {o : Oper} {rest : List Oper} {T : List Nat} {tab : TTab} {fuel i : Nat} {listed : Array Bool}
theorem T_cL {f : FuncId} {args : Array Operand} {ats : Array TypeId} {cs : List AVal} {c : AVal} {v : Value} {d : Nat} (hi : ops[i]? = some o) (hw : awant ops e o = some true) (hdst : o.dst = some d) (hd : Nat.blt d nt = true) (ho : o.op = .call { callee := .value (.func f), args := args, argTypes := ats }) (hx : aevs e args.toList = some cs)
    (H : ACall P f (cs.map (lendV h)) [] (fun c' h' => c' = c ∧ h' = [])) (hc : valA c = some v) (hrel : ∀ w F ι, VRel w F ι c v) (HK : AAny P nt ops Q T fuel (listed.setIfInBounds i true) ((d, c) :: e) h) : AAt P nt ops Q T fuel listed i e h :=
  T_eff hi hw (E_callL ho hdst hx H hd hc hrel) fun e' h' ⟨h1, h2⟩ => by subst h1 h2; exact HK
theorem O_rowTo {t el el' k kk m rid d : Nat} {x y : Operand} {cs : List Dat} {n : Nat} {q : IntKind} {i : Int} (TO : TabOk P tab) (hw : awant ops e o = some true) (hdst : o.dst = some d) (hd : Nat.blt d nt = true) (ho : o.op = .slice t x none (some y) none) (hel : telem tab t = some el) (hsz : tsize tab el = some k)
    (hx : aev e x = some (.row rid)) (hb : look h rid = some (.row el' kk n cs)) (hy : aev e y = some (.d (.sc (.int q i)))) (hid : Nat.blt rid 1000 = true) (hi : i = (m : Int)) (hm : m ≤ n)
    (HK : AOps P nt ops Q rest ((d, .row rid) :: killE rid e) ((rid, .row el' kk m (cs.take (m * kk))) :: killH rid h)) : AOps P nt ops Q (o :: rest) e h := by
  obtain ⟨te, h1, h2⟩ := telem_spec hel
  obtain ⟨te', h3, rfl⟩ := tsize_spec hsz
  subst hi
  exact O_eff (T := [rid]) hw (E_rowTo TO ho hdst h1 h2 h3 hx hb hy hm hid hd (by simp)) fun e' h' ⟨h4, h5⟩ => by subst h4 h5; exact HK
end
end Go.Proofs.YtamnhhjcgloceaaGreat.Ab

namespace Go.Proofs.YtamnhhjcgloceaaGreat.Ab
set_option linter.unusedVariables false
set_option maxRecDepth 100000
open Go.RowKit Go.Lib
set_option linter.unusedSimpArgs false
attribute [local irreducible] AWp AOps AQ AYield AEff ACall AWk AAny AAt AThen AIn APost NoPanic
def intD (n : Int) : List Dat := [.sc (.int .i64 n)]
theorem intD_len (n : Int) : (intD n).length = 1 := rfl
def intsA (l : List Int) : AVal := .d (.sl (l.flatMap intD) l.length)
theorem firstI_drop {l : List Int} {k : Nat} (hk : k < l.length) (h0 : l[k] = 0) : firstI (l.drop k) = firstI (l.drop (k + 1)) := by
  rw [List.drop_eq_getElem_cons hk, h0]; rfl
theorem firstI_at {l : List Int} {k : Nat} (hk : k < l.length) (h0 : l[k] ≠ 0) : firstI (l.drop k) = l[k] := by
  rw [List.drop_eq_getElem_cons hk]
  show (if l[k] = 0 then _ else _) = _
  rw [if_neg h0]
theorem or_int (l : List Int) (hn : l.length ≤ 1000000) : ACall Tryz.prog 51 [intsA l] [] (Just (intA (firstI l))) := by
  refine ACall_of tabOk Tryz.func51 rfl Tryz.ntmps51 (congrArg Array.toList Tryz.results51) (by kernel_rfl) rfl ?_
  repeat (first | refine A_seq ?_ | refine A_block ?_ | refine R_list ?_ | refine R_quiet rfl mixed (by kernel_rfl) ?_ | ((first | apply O_y rfl rfl rfl | apply Q_y rfl rfl rfl); (first | exact q_1 | exact q_2 | exact q_3 | exact q_4 | exact q_5 | exact q_6 | exact q_7 | exact q_8 | exact q_9 | exact q_10 | exact q_11 | exact q_12 | exact q_13 | exact q_14 | exact q_15 | exact q_16 | exact q_17 | exact q_18 | exact q_19 | exact q_20 | exact q_21 | exact q_22 | exact q_23 | exact q_24 | fail)) | refine O_nil ?_ | refine Q_nil ?_ | refine q_j ?_ | refine q_k ?_ | refine q_d ?_ | refine q_a ?_ | refine q_b ?_ | refine q_c ?_ | refine A_ct rfl ?_ | refine A_cf rfl ?_ | refine A_skip ?_ | refine A_exit ?_ | refine A_ret ?_ | refine q_l ?_ | refine q_m ?_ | refine q_n ?_ | refine q_h ?_ | refine q_o ?_ | refine q_e ?_ | refine q_f ?_ | refine q_g ?_ | fail)
  refine A_loop (fun k : Nat => [(2, intA 0), (3, intA 0), (6, intsA l), (7, intA (l.length : Int)), (8, intA (k : Int))]) (fun _ => []) (fun k => k ≤ l.length ∧ firstI l = firstI (l.drop k)) (fun k => l.length - k) 0 ⟨by omega, rfl⟩ (Wk_sel ⟨rfl, rfl, rfl, rfl, rfl, trivial⟩ trivial) ?_
  rintro k ⟨hk, he⟩
  dsimp only
  by_cases hlt : k < l.length
  · by_cases h0 : l[k] = 0
    ·
      repeat (first | refine A_seq ?_ | refine A_block ?_ | refine R_list ?_ | refine R_quiet rfl mixed (by kernel_rfl) ?_ | ((first | apply O_y rfl rfl rfl | apply Q_y rfl rfl rfl); (first | exact q_1 | exact q_2 | exact q_3 | exact q_4 | exact R_loadi tabOk rfl rfl rfl rfl (by first | exact win_flat0 intD_len l k _ hlt (by decide) | exact win_flat intD_len l k _ _ hlt (by decide) | exact win_flat2 intD_len l k _ _ _ hlt (by decide) | rfl) rfl rfl | exact q_6 | exact q_7 | exact q_8 | exact q_9 | exact q_10 | exact q_11 | exact q_12 | exact q_13 | exact q_14 | exact q_15 | exact q_16 | exact q_17 | exact q_18 | exact q_19 | exact q_20 | exact q_21 | exact q_22 | exact q_23 | exact q_24 | fail)) | refine O_nil ?_ | refine Q_nil ?_ | refine q_j ?_ | refine q_k ?_ | refine q_d ?_ | refine q_a ?_ | refine q_b ?_ | refine q_c ?_ | refine A_ct rfl ?_ | refine A_cf rfl ?_ | refine A_skip ?_ | refine A_exit ?_ | refine A_ret ?_ | refine q_l ?_ | refine q_m ?_ | refine q_n ?_ | refine q_h ?_ | refine q_o ?_ | refine q_e ?_ | refine q_f ?_ | refine q_g ?_ | fail)
      exact ⟨k + 1, ⟨by omega, by rw [he, firstI_drop hlt h0]⟩, by omega, Wk_sel ⟨rfl, rfl, rfl, rfl, rfl, trivial⟩ trivial⟩
    ·
      repeat (first | refine A_seq ?_ | refine A_block ?_ | refine R_list ?_ | refine R_quiet rfl mixed (by kernel_rfl) ?_ | ((first | apply O_y rfl rfl rfl | apply Q_y rfl rfl rfl); (first | exact q_1 | exact q_2 | exact q_3 | exact q_4 | exact R_loadi tabOk rfl rfl rfl rfl (by first | exact win_flat0 intD_len l k _ hlt (by decide) | exact win_flat intD_len l k _ _ hlt (by decide) | exact win_flat2 intD_len l k _ _ _ hlt (by decide) | rfl) rfl rfl | exact q_6 | exact q_7 | exact q_8 | exact q_9 | exact q_10 | exact q_11 | exact q_12 | exact q_13 | exact q_14 | exact q_15 | exact q_16 | exact q_17 | exact q_18 | exact q_19 | exact q_20 | exact q_21 | exact q_22 | exact q_23 | exact q_24 | fail)) | refine O_nil ?_ | refine Q_nil ?_ | refine q_j ?_ | refine q_k ?_ | refine q_d ?_ | refine q_a ?_ | refine q_b ?_ | refine q_c ?_ | refine A_ct rfl ?_ | refine A_cf rfl ?_ | refine A_skip ?_ | refine A_exit ?_ | refine A_ret ?_ | refine q_l ?_ | refine q_m ?_ | refine q_n ?_ | refine q_h ?_ | refine q_o ?_ | refine q_e ?_ | refine q_f ?_ | refine q_g ?_ | fail)
      exact X_ret rfl ⟨by rw [he, firstI_at hlt h0]; rfl, rfl⟩
  · have : k = l.length := by omega
    subst this
    repeat (first | refine A_seq ?_ | refine A_block ?_ | refine R_list ?_ | refine R_quiet rfl mixed (by kernel_rfl) ?_ | ((first | apply O_y rfl rfl rfl | apply Q_y rfl rfl rfl); (first | exact q_1 | exact q_2 | exact q_3 | exact q_4 | exact q_5 | exact q_6 | exact q_7 | exact q_8 | exact q_9 | exact q_10 | exact q_11 | exact q_12 | exact q_13 | exact q_14 | exact q_15 | exact q_16 | exact q_17 | exact q_18 | exact q_19 | exact q_20 | exact q_21 | exact q_22 | exact q_23 | exact q_24 | fail)) | refine O_nil ?_ | refine Q_nil ?_ | refine q_j ?_ | refine q_k ?_ | refine q_d ?_ | refine q_a ?_ | refine q_b ?_ | refine q_c ?_ | refine A_ct rfl ?_ | refine A_cf rfl ?_ | refine A_skip ?_ | refine A_exit ?_ | refine A_ret ?_ | refine q_l ?_ | refine q_m ?_ | refine q_n ?_ | refine q_h ?_ | refine q_o ?_ | refine q_e ?_ | refine q_f ?_ | refine q_g ?_ | fail)
    exact X_ret rfl ⟨by rw [he, List.drop_length]; rfl, rfl⟩
set_option maxHeartbeats 4000000 in
theorem cmpPrefix_A (p q : Pfx) : ACall Tryz.prog 86 [pfxA p, pfxA q] [] (Just (intA (ordP p q))) := by
  have h1 := compare_addr p.a q.a
  have h2 := compare_int p.b q.b
  have h3 := or_int [c2 p.a q.a, c2 p.b q.b] (by simp)
  rw [ordP_first] at h3
  refine ACall_of tabOk Tryz.func86 rfl Tryz.ntmps86 (congrArg Array.toList Tryz.results86) (by kernel_rfl) rfl ?_
  repeat (first | refine A_seq ?_ | refine A_block ?_ | refine R_list ?_ | refine R_quiet rfl mixed (by kernel_rfl) ?_ | ((first | apply O_y rfl rfl rfl | apply Q_y rfl rfl rfl); (first | exact q_1 | exact q_2 | exact q_3 | exact q_4 | exact q_5 | exact q_6 | exact q_7 | exact q_8 | exact q_9 | exact q_10 | exact q_11 | exact q_12 | exact q_13 | exact q_14 | exact q_15 | exact q_16 | exact q_17 | exact q_18 | exact q_19 | exact q_20 | exact q_21 | exact q_22 | exact q_23 | exact q_24 | fail)) | refine O_nil ?_ | refine Q_nil ?_ | refine q_j ?_ | refine q_k ?_ | refine q_d ?_ | refine q_a ?_ | refine q_b ?_ | refine q_c ?_ | refine A_ct rfl ?_ | refine A_cf rfl ?_ | refine A_skip ?_ | refine A_exit ?_ | refine A_ret ?_ | refine q_l ?_ | refine q_m ?_ | refine q_n ?_ | refine q_h ?_ | refine q_o ?_ | refine q_e ?_ | refine q_f ?_ | refine q_g ?_ | (first | refine O_c rfl rfl rfl rfl rfl h1 (fun _ => rfl) ?_ | refine O_c rfl rfl rfl rfl rfl h2 (fun _ => rfl) ?_ | refine Q_c rfl rfl rfl rfl rfl h1 rfl (fun _ _ _ => val_mk _ _ _ _ _ rfl rfl) ?_ | refine Q_c rfl rfl rfl rfl rfl h2 rfl (fun _ _ _ => val_mk _ _ _ _ _ rfl rfl) ?_))
  refine N_begin [] mixed ?_
  repeat (first | ((first | apply q_M 0 rfl rfl (by kernel_rfl) (by decide +kernel) (by decide +kernel) rfl rfl rfl | apply q_M 1 rfl rfl (by kernel_rfl) (by decide +kernel) (by decide +kernel) rfl rfl rfl | apply q_M 2 rfl rfl (by kernel_rfl) (by decide +kernel) (by decide +kernel) rfl rfl rfl | apply q_M 3 rfl rfl (by kernel_rfl) (by decide +kernel) (by decide +kernel) rfl rfl rfl | apply q_M 4 rfl rfl (by kernel_rfl) (by decide +kernel) (by decide +kernel) rfl rfl rfl | apply q_M 5 rfl rfl (by kernel_rfl) (by decide +kernel) (by decide +kernel) rfl rfl rfl | apply q_M 6 rfl rfl (by kernel_rfl) (by decide +kernel) (by decide +kernel) rfl rfl rfl | apply q_M 7 rfl rfl (by kernel_rfl) (by decide +kernel) (by decide +kernel) rfl rfl rfl | apply q_M 8 rfl rfl (by kernel_rfl) (by decide +kernel) (by decide +kernel) rfl rfl rfl | apply q_M 9 rfl rfl (by kernel_rfl) (by decide +kernel) (by decide +kernel) rfl rfl rfl | apply q_M 10 rfl rfl (by kernel_rfl) (by decide +kernel) (by decide +kernel) rfl rfl rfl | apply q_M 11 rfl rfl (by kernel_rfl) (by decide +kernel) (by decide +kernel) rfl rfl rfl | apply q_M 12 rfl rfl (by kernel_rfl) (by decide +kernel) (by decide +kernel) rfl rfl rfl ); (first | exact q_1 | exact q_2 | exact q_3 | exact q_4 | exact q_5 | exact q_6 | exact q_7 | exact q_8 | exact q_9 | exact q_10 | exact q_11 | exact q_12 | exact q_13 | exact q_14 | exact q_15 | exact q_16 | exact q_17 | exact q_18 | exact q_19 | exact q_20 | exact q_21 | exact q_22 | exact q_23 | exact q_24 | fail)) | (apply q_L 0 rfl rfl (by kernel_rfl) (by decide +kernel) (by decide +kernel) rfl rfl rfl; (first | exact q_5 | exact q_6 | exact q_7 | exact q_15 | exact q_16 | exact q_19 | fail)) | (apply q_L 1 rfl rfl (by kernel_rfl) (by decide +kernel) (by decide +kernel) rfl rfl rfl; (first | exact q_5 | exact q_6 | exact q_7 | exact q_15 | exact q_16 | exact q_19 | fail)) | (apply q_L 2 rfl rfl (by kernel_rfl) (by decide +kernel) (by decide +kernel) rfl rfl rfl; (first | exact q_5 | exact q_6 | exact q_7 | exact q_15 | exact q_16 | exact q_19 | fail)) | (apply q_L 3 rfl rfl (by kernel_rfl) (by decide +kernel) (by decide +kernel) rfl rfl rfl; (first | exact q_5 | exact q_6 | exact q_7 | exact q_15 | exact q_16 | exact q_19 | fail)) | (apply q_L 4 rfl rfl (by kernel_rfl) (by decide +kernel) (by decide +kernel) rfl rfl rfl; (first | exact q_5 | exact q_6 | exact q_7 | exact q_15 | exact q_16 | exact q_19 | fail)) | (apply q_L 5 rfl rfl (by kernel_rfl) (by decide +kernel) (by decide +kernel) rfl rfl rfl; (first | exact q_5 | exact q_6 | exact q_7 | exact q_15 | exact q_16 | exact q_19 | fail)) | (apply q_L 6 rfl rfl (by kernel_rfl) (by decide +kernel) (by decide +kernel) rfl rfl rfl; (first | exact q_5 | exact q_6 | exact q_7 | exact q_15 | exact q_16 | exact q_19 | fail)) | (apply q_L 7 rfl rfl (by kernel_rfl) (by decide +kernel) (by decide +kernel) rfl rfl rfl; (first | exact q_5 | exact q_6 | exact q_7 | exact q_15 | exact q_16 | exact q_19 | fail)) | (apply q_L 8 rfl rfl (by kernel_rfl) (by decide +kernel) (by decide +kernel) rfl rfl rfl; (first | exact q_5 | exact q_6 | exact q_7 | exact q_15 | exact q_16 | exact q_19 | fail)) | (apply q_L 9 rfl rfl (by kernel_rfl) (by decide +kernel) (by decide +kernel) rfl rfl rfl; (first | exact q_5 | exact q_6 | exact q_7 | exact q_15 | exact q_16 | exact q_19 | fail)) | (apply q_L 10 rfl rfl (by kernel_rfl) (by decide +kernel) (by decide +kernel) rfl rfl rfl; (first | exact q_5 | exact q_6 | exact q_7 | exact q_15 | exact q_16 | exact q_19 | fail)) | (apply q_L 11 rfl rfl (by kernel_rfl) (by decide +kernel) (by decide +kernel) rfl rfl rfl; (first | exact q_5 | exact q_6 | exact q_7 | exact q_15 | exact q_16 | exact q_19 | fail)) | (apply q_L 12 rfl rfl (by kernel_rfl) (by decide +kernel) (by decide +kernel) rfl rfl rfl; (first | exact q_5 | exact q_6 | exact q_7 | exact q_15 | exact q_16 | exact q_19 | fail)) | refine N_one (j := 0) (by decide +kernel) ?_ | refine N_one (j := 1) (by decide +kernel) ?_ | refine N_one (j := 2) (by decide +kernel) ?_ | refine N_one (j := 3) (by decide +kernel) ?_ | refine N_one (j := 4) (by decide +kernel) ?_ | refine N_one (j := 5) (by decide +kernel) ?_ | refine N_one (j := 6) (by decide +kernel) ?_ | refine N_one (j := 7) (by decide +kernel) ?_ | refine N_one (j := 8) (by decide +kernel) ?_ | refine N_one (j := 9) (by decide +kernel) ?_ | refine N_one (j := 10) (by decide +kernel) ?_ | refine N_one (j := 11) (by decide +kernel) ?_ | refine N_one (j := 12) (by decide +kernel) ?_ | refine T_alloc tabOk rfl rfl rfl rfl rfl rfl rfl ?_ | refine T_store tabOk rfl rfl rfl rfl rfl rfl rfl rfl rfl rfl rfl rfl rfl ?_ | refine T_box rfl rfl rfl rfl rfl rfl rfl rfl ?_ | (apply T_yield rfl rfl rfl rfl; (first | exact q_1 | exact q_2 | exact q_3 | exact q_4 | exact q_5 | exact q_6 | exact q_7 | exact q_8 | exact q_9 | exact q_10 | exact q_11 | exact q_12 | exact q_13 | exact q_14 | exact q_15 | exact q_16 | exact q_17 | exact q_18 | exact q_19 | exact q_20 | exact q_21 | exact q_22 | exact q_23 | exact q_24 | fail)) | refine N_done (by decide +kernel) ?_ | (first | refine T_call rfl rfl rfl rfl rfl rfl h1 (fun _ => rfl) ?_ | refine T_call rfl rfl rfl rfl rfl rfl h2 (fun _ => rfl) ?_ | refine T_slice tabOk rfl rfl rfl rfl rfl rfl rfl rfl rfl rfl rfl rfl ?_ | refine T_cL rfl rfl rfl rfl rfl rfl h3 rfl (fun _ _ _ => val_mk _ _ _ _ _ rfl rfl) ?_))
  repeat (first | refine A_seq ?_ | refine A_block ?_ | refine R_list ?_ | refine R_quiet rfl mixed (by kernel_rfl) ?_ | ((first | apply O_y rfl rfl rfl | apply Q_y rfl rfl rfl); (first | exact q_1 | exact q_2 | exact q_3 | exact q_4 | exact q_5 | exact q_6 | exact q_7 | exact q_8 | exact q_9 | exact q_10 | exact q_11 | exact q_12 | exact q_13 | exact q_14 | exact q_15 | exact q_16 | exact q_17 | exact q_18 | exact q_19 | exact q_20 | exact q_21 | exact q_22 | exact q_23 | exact q_24 | fail)) | refine O_nil ?_ | refine Q_nil ?_ | refine q_j ?_ | refine q_k ?_ | refine q_d ?_ | refine q_a ?_ | refine q_b ?_ | refine q_c ?_ | refine A_ct rfl ?_ | refine A_cf rfl ?_ | refine A_skip ?_ | refine A_exit ?_ | refine A_ret ?_ | refine q_l ?_ | refine q_m ?_ | refine q_n ?_ | refine q_h ?_ | refine q_o ?_ | refine q_e ?_ | refine q_f ?_ | refine q_g ?_ | fail)
  exact X_ret rfl ⟨rfl, rfl⟩
set_option maxHeartbeats 8000000 in
theorem routesCmp_A (x y : Rte) : ACall Tryz.prog 66 [rteA x, rteA y] [] (Just (intA (ordR x y))) := by
  have h1 := cmpPrefix_A x.p y.p
  have h2 := compare_u8 x.f y.f
  have h3 := compare_int x.d y.d
  have h4 := compare_int x.m y.m
  have h5 := compare_int x.t y.t
  have h6 := compare_addr x.h y.h
  have h7 := compare_str x.i y.i
  have h8 := cmpBool_A x.x y.x
  refine ACall_of tabOk Tryz.func66 rfl Tryz.ntmps66 (congrArg Array.toList Tryz.results66) (by kernel_rfl) rfl ?_
  have h9 := or_int [ordP x.p y.p, c2 x.f y.f, c2 x.d y.d, c2 x.m y.m, c2 x.t y.t, c2 x.h y.h, compareBytes x.i y.i, cB x.x y.x] (by simp)
  rw [ordR_first] at h9
  refine A_seq ?_
  refine R_list ?_
  repeat (first | refine A_seq ?_ | refine A_block ?_ | refine R_list ?_ | refine R_quiet rfl mixed (by kernel_rfl) ?_ | ((first | apply O_y rfl rfl rfl | apply Q_y rfl rfl rfl); (first | exact q_1 | exact q_2 | exact q_3 | exact q_4 | exact q_5 | exact q_6 | exact q_7 | exact q_8 | exact q_9 | exact q_10 | exact q_11 | exact q_12 | exact q_13 | exact q_14 | exact q_15 | exact q_16 | exact q_17 | exact q_18 | exact q_19 | exact q_20 | exact q_21 | exact q_22 | exact q_23 | exact q_24 | fail)) | refine O_nil ?_ | refine Q_nil ?_ | refine q_j ?_ | refine q_k ?_ | refine q_d ?_ | refine q_a ?_ | refine q_b ?_ | refine q_c ?_ | refine A_ct rfl ?_ | refine A_cf rfl ?_ | refine A_skip ?_ | refine A_exit ?_ | refine A_ret ?_ | refine q_l ?_ | refine q_m ?_ | refine q_n ?_ | refine q_h ?_ | refine q_o ?_ | refine q_e ?_ | refine q_f ?_ | refine q_g ?_ | fail)
  refine N_begin [] mixed ?_
  (apply q_P 0 rfl (by kernel_rfl) rfl rfl rfl; (first | exact q_1 | exact q_2 | exact q_3 | exact q_4 | exact q_5 | exact q_6 | exact q_7 | exact q_8 | exact q_9 | exact q_10 | exact q_11 | exact q_12 | exact q_13 | exact q_14 | exact q_15 | exact q_16 | exact q_17 | exact q_18 | exact q_19 | exact q_20 | exact q_21 | exact q_22 | exact q_23 | exact q_24 | fail))
  (apply q_P 1 rfl (by kernel_rfl) rfl rfl rfl; (first | exact q_1 | exact q_2 | exact q_3 | exact q_4 | exact q_5 | exact q_6 | exact q_7 | exact q_8 | exact q_9 | exact q_10 | exact q_11 | exact q_12 | exact q_13 | exact q_14 | exact q_15 | exact q_16 | exact q_17 | exact q_18 | exact q_19 | exact q_20 | exact q_21 | exact q_22 | exact q_23 | exact q_24 | fail))
  (apply q_P 2 rfl (by kernel_rfl) rfl rfl rfl; (first | exact q_1 | exact q_2 | exact q_3 | exact q_4 | exact q_5 | exact q_6 | exact q_7 | exact q_8 | exact q_9 | exact q_10 | exact q_11 | exact q_12 | exact q_13 | exact q_14 | exact q_15 | exact q_16 | exact q_17 | exact q_18 | exact q_19 | exact q_20 | exact q_21 | exact q_22 | exact q_23 | exact q_24 | fail))
  (apply q_P 3 rfl (by kernel_rfl) rfl rfl rfl; (first | exact q_1 | exact q_2 | exact q_3 | exact q_4 | exact q_5 | exact q_6 | exact q_7 | exact q_8 | exact q_9 | exact q_10 | exact q_11 | exact q_12 | exact q_13 | exact q_14 | exact q_15 | exact q_16 | exact q_17 | exact q_18 | exact q_19 | exact q_20 | exact q_21 | exact q_22 | exact q_23 | exact q_24 | fail))
  (apply q_P 5 rfl (by kernel_rfl) rfl rfl rfl; (first | exact q_1 | exact q_2 | exact q_3 | exact q_4 | exact q_5 | exact q_6 | exact q_7 | exact q_8 | exact q_9 | exact q_10 | exact q_11 | exact q_12 | exact q_13 | exact q_14 | exact q_15 | exact q_16 | exact q_17 | exact q_18 | exact q_19 | exact q_20 | exact q_21 | exact q_22 | exact q_23 | exact q_24 | fail))
  (apply q_P 6 rfl (by kernel_rfl) rfl rfl rfl; (first | exact q_1 | exact q_2 | exact q_3 | exact q_4 | exact q_5 | exact q_6 | exact q_7 | exact q_8 | exact q_9 | exact q_10 | exact q_11 | exact q_12 | exact q_13 | exact q_14 | exact q_15 | exact q_16 | exact q_17 | exact q_18 | exact q_19 | exact q_20 | exact q_21 | exact q_22 | exact q_23 | exact q_24 | fail))
  (apply q_P 7 rfl (by kernel_rfl) rfl rfl rfl; (first | exact q_1 | exact q_2 | exact q_3 | exact q_4 | exact q_5 | exact q_6 | exact q_7 | exact q_8 | exact q_9 | exact q_10 | exact q_11 | exact q_12 | exact q_13 | exact q_14 | exact q_15 | exact q_16 | exact q_17 | exact q_18 | exact q_19 | exact q_20 | exact q_21 | exact q_22 | exact q_23 | exact q_24 | fail))
  (apply q_P 8 rfl (by kernel_rfl) rfl rfl rfl; (first | exact q_1 | exact q_2 | exact q_3 | exact q_4 | exact q_5 | exact q_6 | exact q_7 | exact q_8 | exact q_9 | exact q_10 | exact q_11 | exact q_12 | exact q_13 | exact q_14 | exact q_15 | exact q_16 | exact q_17 | exact q_18 | exact q_19 | exact q_20 | exact q_21 | exact q_22 | exact q_23 | exact q_24 | fail))
  (apply q_P 10 rfl (by kernel_rfl) rfl rfl rfl; (first | exact q_1 | exact q_2 | exact q_3 | exact q_4 | exact q_5 | exact q_6 | exact q_7 | exact q_8 | exact q_9 | exact q_10 | exact q_11 | exact q_12 | exact q_13 | exact q_14 | exact q_15 | exact q_16 | exact q_17 | exact q_18 | exact q_19 | exact q_20 | exact q_21 | exact q_22 | exact q_23 | exact q_24 | fail))
  (apply q_P 11 rfl (by kernel_rfl) rfl rfl rfl; (first | exact q_1 | exact q_2 | exact q_3 | exact q_4 | exact q_5 | exact q_6 | exact q_7 | exact q_8 | exact q_9 | exact q_10 | exact q_11 | exact q_12 | exact q_13 | exact q_14 | exact q_15 | exact q_16 | exact q_17 | exact q_18 | exact q_19 | exact q_20 | exact q_21 | exact q_22 | exact q_23 | exact q_24 | fail))
  (apply q_P 12 rfl (by kernel_rfl) rfl rfl rfl; (first | exact q_1 | exact q_2 | exact q_3 | exact q_4 | exact q_5 | exact q_6 | exact q_7 | exact q_8 | exact q_9 | exact q_10 | exact q_11 | exact q_12 | exact q_13 | exact q_14 | exact q_15 | exact q_16 | exact q_17 | exact q_18 | exact q_19 | exact q_20 | exact q_21 | exact q_22 | exact q_23 | exact q_24 | fail))
  (apply q_P 13 rfl (by kernel_rfl) rfl rfl rfl; (first | exact q_1 | exact q_2 | exact q_3 | exact q_4 | exact q_5 | exact q_6 | exact q_7 | exact q_8 | exact q_9 | exact q_10 | exact q_11 | exact q_12 | exact q_13 | exact q_14 | exact q_15 | exact q_16 | exact q_17 | exact q_18 | exact q_19 | exact q_20 | exact q_21 | exact q_22 | exact q_23 | exact q_24 | fail))
  (apply q_P 15 rfl (by kernel_rfl) rfl rfl rfl; (first | exact q_1 | exact q_2 | exact q_3 | exact q_4 | exact q_5 | exact q_6 | exact q_7 | exact q_8 | exact q_9 | exact q_10 | exact q_11 | exact q_12 | exact q_13 | exact q_14 | exact q_15 | exact q_16 | exact q_17 | exact q_18 | exact q_19 | exact q_20 | exact q_21 | exact q_22 | exact q_23 | exact q_24 | fail))
  (apply q_P 16 rfl (by kernel_rfl) rfl rfl rfl; (first | exact q_1 | exact q_2 | exact q_3 | exact q_4 | exact q_5 | exact q_6 | exact q_7 | exact q_8 | exact q_9 | exact q_10 | exact q_11 | exact q_12 | exact q_13 | exact q_14 | exact q_15 | exact q_16 | exact q_17 | exact q_18 | exact q_19 | exact q_20 | exact q_21 | exact q_22 | exact q_23 | exact q_24 | fail))
  (apply q_P 17 rfl (by kernel_rfl) rfl rfl rfl; (first | exact q_1 | exact q_2 | exact q_3 | exact q_4 | exact q_5 | exact q_6 | exact q_7 | exact q_8 | exact q_9 | exact q_10 | exact q_11 | exact q_12 | exact q_13 | exact q_14 | exact q_15 | exact q_16 | exact q_17 | exact q_18 | exact q_19 | exact q_20 | exact q_21 | exact q_22 | exact q_23 | exact q_24 | fail))
  (apply q_P 18 rfl (by kernel_rfl) rfl rfl rfl; (first | exact q_1 | exact q_2 | exact q_3 | exact q_4 | exact q_5 | exact q_6 | exact q_7 | exact q_8 | exact q_9 | exact q_10 | exact q_11 | exact q_12 | exact q_13 | exact q_14 | exact q_15 | exact q_16 | exact q_17 | exact q_18 | exact q_19 | exact q_20 | exact q_21 | exact q_22 | exact q_23 | exact q_24 | fail))
  (apply q_P 20 rfl (by kernel_rfl) rfl rfl rfl; (first | exact q_1 | exact q_2 | exact q_3 | exact q_4 | exact q_5 | exact q_6 | exact q_7 | exact q_8 | exact q_9 | exact q_10 | exact q_11 | exact q_12 | exact q_13 | exact q_14 | exact q_15 | exact q_16 | exact q_17 | exact q_18 | exact q_19 | exact q_20 | exact q_21 | exact q_22 | exact q_23 | exact q_24 | fail))
  (apply q_P 21 rfl (by kernel_rfl) rfl rfl rfl; (first | exact q_1 | exact q_2 | exact q_3 | exact q_4 | exact q_5 | exact q_6 | exact q_7 | exact q_8 | exact q_9 | exact q_10 | exact q_11 | exact q_12 | exact q_13 | exact q_14 | exact q_15 | exact q_16 | exact q_17 | exact q_18 | exact q_19 | exact q_20 | exact q_21 | exact q_22 | exact q_23 | exact q_24 | fail))
  (apply q_P 22 rfl (by kernel_rfl) rfl rfl rfl; (first | exact q_1 | exact q_2 | exact q_3 | exact q_4 | exact q_5 | exact q_6 | exact q_7 | exact q_8 | exact q_9 | exact q_10 | exact q_11 | exact q_12 | exact q_13 | exact q_14 | exact q_15 | exact q_16 | exact q_17 | exact q_18 | exact q_19 | exact q_20 | exact q_21 | exact q_22 | exact q_23 | exact q_24 | fail))
  (apply q_P 23 rfl (by kernel_rfl) rfl rfl rfl; (first | exact q_1 | exact q_2 | exact q_3 | exact q_4 | exact q_5 | exact q_6 | exact q_7 | exact q_8 | exact q_9 | exact q_10 | exact q_11 | exact q_12 | exact q_13 | exact q_14 | exact q_15 | exact q_16 | exact q_17 | exact q_18 | exact q_19 | exact q_20 | exact q_21 | exact q_22 | exact q_23 | exact q_24 | fail))
  (apply q_P 25 rfl (by kernel_rfl) rfl rfl rfl; (first | exact q_1 | exact q_2 | exact q_3 | exact q_4 | exact q_5 | exact q_6 | exact q_7 | exact q_8 | exact q_9 | exact q_10 | exact q_11 | exact q_12 | exact q_13 | exact q_14 | exact q_15 | exact q_16 | exact q_17 | exact q_18 | exact q_19 | exact q_20 | exact q_21 | exact q_22 | exact q_23 | exact q_24 | fail))
  (apply q_P 26 rfl (by kernel_rfl) rfl rfl rfl; (first | exact q_1 | exact q_2 | exact q_3 | exact q_4 | exact q_5 | exact q_6 | exact q_7 | exact q_8 | exact q_9 | exact q_10 | exact q_11 | exact q_12 | exact q_13 | exact q_14 | exact q_15 | exact q_16 | exact q_17 | exact q_18 | exact q_19 | exact q_20 | exact q_21 | exact q_22 | exact q_23 | exact q_24 | fail))
  (apply q_P 27 rfl (by kernel_rfl) rfl rfl rfl; (first | exact q_1 | exact q_2 | exact q_3 | exact q_4 | exact q_5 | exact q_6 | exact q_7 | exact q_8 | exact q_9 | exact q_10 | exact q_11 | exact q_12 | exact q_13 | exact q_14 | exact q_15 | exact q_16 | exact q_17 | exact q_18 | exact q_19 | exact q_20 | exact q_21 | exact q_22 | exact q_23 | exact q_24 | fail))
  (apply q_P 28 rfl (by kernel_rfl) rfl rfl rfl; (first | exact q_1 | exact q_2 | exact q_3 | exact q_4 | exact q_5 | exact q_6 | exact q_7 | exact q_8 | exact q_9 | exact q_10 | exact q_11 | exact q_12 | exact q_13 | exact q_14 | exact q_15 | exact q_16 | exact q_17 | exact q_18 | exact q_19 | exact q_20 | exact q_21 | exact q_22 | exact q_23 | exact q_24 | fail))
  (apply q_P 30 rfl (by kernel_rfl) rfl rfl rfl; (first | exact q_1 | exact q_2 | exact q_3 | exact q_4 | exact q_5 | exact q_6 | exact q_7 | exact q_8 | exact q_9 | exact q_10 | exact q_11 | exact q_12 | exact q_13 | exact q_14 | exact q_15 | exact q_16 | exact q_17 | exact q_18 | exact q_19 | exact q_20 | exact q_21 | exact q_22 | exact q_23 | exact q_24 | fail))
  (apply q_P 31 rfl (by kernel_rfl) rfl rfl rfl; (first | exact q_1 | exact q_2 | exact q_3 | exact q_4 | exact q_5 | exact q_6 | exact q_7 | exact q_8 | exact q_9 | exact q_10 | exact q_11 | exact q_12 | exact q_13 | exact q_14 | exact q_15 | exact q_16 | exact q_17 | exact q_18 | exact q_19 | exact q_20 | exact q_21 | exact q_22 | exact q_23 | exact q_24 | fail))
  (apply q_P 32 rfl (by kernel_rfl) rfl rfl rfl; (first | exact q_1 | exact q_2 | exact q_3 | exact q_4 | exact q_5 | exact q_6 | exact q_7 | exact q_8 | exact q_9 | exact q_10 | exact q_11 | exact q_12 | exact q_13 | exact q_14 | exact q_15 | exact q_16 | exact q_17 | exact q_18 | exact q_19 | exact q_20 | exact q_21 | exact q_22 | exact q_23 | exact q_24 | fail))
  (apply q_P 33 rfl (by kernel_rfl) rfl rfl rfl; (first | exact q_1 | exact q_2 | exact q_3 | exact q_4 | exact q_5 | exact q_6 | exact q_7 | exact q_8 | exact q_9 | exact q_10 | exact q_11 | exact q_12 | exact q_13 | exact q_14 | exact q_15 | exact q_16 | exact q_17 | exact q_18 | exact q_19 | exact q_20 | exact q_21 | exact q_22 | exact q_23 | exact q_24 | fail))
  (apply q_P 35 rfl (by kernel_rfl) rfl rfl rfl; (first | exact q_1 | exact q_2 | exact q_3 | exact q_4 | exact q_5 | exact q_6 | exact q_7 | exact q_8 | exact q_9 | exact q_10 | exact q_11 | exact q_12 | exact q_13 | exact q_14 | exact q_15 | exact q_16 | exact q_17 | exact q_18 | exact q_19 | exact q_20 | exact q_21 | exact q_22 | exact q_23 | exact q_24 | fail))
  (apply q_P 36 rfl (by kernel_rfl) rfl rfl rfl; (first | exact q_1 | exact q_2 | exact q_3 | exact q_4 | exact q_5 | exact q_6 | exact q_7 | exact q_8 | exact q_9 | exact q_10 | exact q_11 | exact q_12 | exact q_13 | exact q_14 | exact q_15 | exact q_16 | exact q_17 | exact q_18 | exact q_19 | exact q_20 | exact q_21 | exact q_22 | exact q_23 | exact q_24 | fail))
  (apply q_P 37 rfl (by kernel_rfl) rfl rfl rfl; (first | exact q_1 | exact q_2 | exact q_3 | exact q_4 | exact q_5 | exact q_6 | exact q_7 | exact q_8 | exact q_9 | exact q_10 | exact q_11 | exact q_12 | exact q_13 | exact q_14 | exact q_15 | exact q_16 | exact q_17 | exact q_18 | exact q_19 | exact q_20 | exact q_21 | exact q_22 | exact q_23 | exact q_24 | fail))
  (apply q_P 38 rfl (by kernel_rfl) rfl rfl rfl; (first | exact q_1 | exact q_2 | exact q_3 | exact q_4 | exact q_5 | exact q_6 | exact q_7 | exact q_8 | exact q_9 | exact q_10 | exact q_11 | exact q_12 | exact q_13 | exact q_14 | exact q_15 | exact q_16 | exact q_17 | exact q_18 | exact q_19 | exact q_20 | exact q_21 | exact q_22 | exact q_23 | exact q_24 | fail))
  refine N_one (j := 4) (by kernel_rfl) ?_
  refine T_call rfl rfl rfl rfl rfl rfl h1 (fun _ => rfl) ?_
  refine N_one (j := 9) (by kernel_rfl) ?_
  refine T_call rfl rfl rfl rfl rfl rfl h2 (fun _ => rfl) ?_
  refine N_one (j := 14) (by kernel_rfl) ?_
  refine T_call rfl rfl rfl rfl rfl rfl h3 (fun _ => rfl) ?_
  refine N_one (j := 19) (by kernel_rfl) ?_
  refine T_call rfl rfl rfl rfl rfl rfl h4 (fun _ => rfl) ?_
  refine N_one (j := 24) (by kernel_rfl) ?_
  refine T_call rfl rfl rfl rfl rfl rfl h5 (fun _ => rfl) ?_
  refine N_one (j := 29) (by kernel_rfl) ?_
  refine T_call rfl rfl rfl rfl rfl rfl h6 (fun _ => rfl) ?_
  refine N_one (j := 34) (by kernel_rfl) ?_
  refine T_call rfl rfl rfl rfl rfl rfl h7 (fun _ => rfl) ?_
  refine N_one (j := 39) (by kernel_rfl) ?_
  refine T_call rfl rfl rfl rfl rfl rfl h8 (fun _ => rfl) ?_
  refine N_one (j := 40) (by kernel_rfl) ?_
  refine T_slice tabOk rfl rfl rfl rfl rfl rfl rfl rfl rfl rfl rfl rfl ?_
  refine N_one (j := 41) (by kernel_rfl) ?_
  refine T_cL rfl rfl rfl rfl rfl rfl h9 rfl (fun _ _ _ => val_mk _ _ _ _ _ rfl rfl) ?_
  (apply q_P 42 rfl (by kernel_rfl) rfl rfl rfl; (first | exact q_1 | exact q_2 | exact q_3 | exact q_4 | exact q_5 | exact q_6 | exact q_7 | exact q_8 | exact q_9 | exact q_10 | exact q_11 | exact q_12 | exact q_13 | exact q_14 | exact q_15 | exact q_16 | exact q_17 | exact q_18 | exact q_19 | exact q_20 | exact q_21 | exact q_22 | exact q_23 | exact q_24 | fail))
  refine N_done (by kernel_rfl) ?_
  repeat (first | refine A_seq ?_ | refine A_block ?_ | refine R_list ?_ | refine R_quiet rfl mixed (by kernel_rfl) ?_ | ((first | apply O_y rfl rfl rfl | apply Q_y rfl rfl rfl); (first | exact q_1 | exact q_2 | exact q_3 | exact q_4 | exact q_5 | exact q_6 | exact q_7 | exact q_8 | exact q_9 | exact q_10 | exact q_11 | exact q_12 | exact q_13 | exact q_14 | exact q_15 | exact q_16 | exact q_17 | exact q_18 | exact q_19 | exact q_20 | exact q_21 | exact q_22 | exact q_23 | exact q_24 | fail)) | refine O_nil ?_ | refine Q_nil ?_ | refine q_j ?_ | refine q_k ?_ | refine q_d ?_ | refine q_a ?_ | refine q_b ?_ | refine q_c ?_ | refine A_ct rfl ?_ | refine A_cf rfl ?_ | refine A_skip ?_ | refine A_exit ?_ | refine A_ret ?_ | refine q_l ?_ | refine q_m ?_ | refine q_n ?_ | refine q_h ?_ | refine q_o ?_ | refine q_e ?_ | refine q_f ?_ | refine q_g ?_ | fail)
  exact X_ret rfl ⟨rfl, rfl⟩
end Go.Proofs.YtamnhhjcgloceaaGreat.Ab

namespace Go.Proofs.YtamnhhjcgloceaaGreat
set_option linter.unusedVariables false
set_option maxRecDepth 100000
open Go
def rworld {α : Type} : Result α → World
  | .ok _ w => w
  | .halt _ w => w
theorem ask_drawn {α : Type} (a : Ask α) (w : World) : w.drawn ≤ (w.ask a).2.drawn := by
  induction a generalizing w with
  | done a => exact Nat.le_refl _
  | ask what range k ih =>
    simp only [World.ask]
    split
    · exact ih _ _
    · refine Nat.le_trans ?_ (ih _ _)
      exact Nat.le_succ _
theorem sys_drawn (w : World) (c : Sys) : w.drawn ≤ (w.sys c).2.drawn := by
  have hk := ask_drawn (Kernel.perform c w.os) w
  unfold World.sys
  split
  · exact Nat.le_refl _
  · rename_i h
    rw [h] at hk
    exact hk
theorem viewStore_drawn {p : Program} {w : World} {at_ : Addr} {u : TypeId} {k : Addr} {v : Value} {b : Bool} {r : World × List Addr} (h : w.viewStore p at_ u k v b = .ok r) : r.1.drawn = w.drawn := by
  unfold World.viewStore at h
  simp only [bind, Except.bind, pure, Except.pure, throw, throwThe, MonadExceptOf.throw] at h
  repeat' first
    | (simp at h; done)
    | (simp only [Except.ok.injEq] at h; subst h; rfl)
    | split at h
theorem farStore_drawn {p : Program} {w : World} {a : Addr} {v : Value} {b : Bool} {r : World × List Addr} (h : w.farStore p a v b = .ok r) : r.1.drawn = w.drawn := by
  unfold World.farStore at h
  split at h
  · split at h
    · rename_i hv
      cases h
      exact viewStore_drawn hv
    · cases h
  · cases h
theorem run_drawn {α : Type} (p : Program) (e : Sem α) (w : World) : w.drawn ≤ (rworld (e.run p w)).drawn := by
  induction e generalizing w with
  | pure a => exact Nat.le_refl _
  | load m a k ih =>
    simp only [Sem.run]
    (repeat' split) <;> first | exact ih _ _ | exact Nat.le_refl _
  | store m a v k ih =>
    cases v <;> simp only [Sem.run] <;> (repeat' split) <;> first
      | exact Nat.le_refl _
      | (refine Nat.le_trans ?_ (ih _); exact Nat.le_refl _)
      | (refine Nat.le_trans ?_ (ih _); rename_i hf; exact Nat.le_of_eq (farStore_drawn hf).symm)
  | new o k ih => refine Nat.le_trans ?_ (ih _ _); exact Nat.le_refl _
  | shape r k ih => exact ih _ _
  | freeze a n k ih =>
    refine Nat.le_trans ?_ (ih _)
    unfold World.freeze
    split <;> exact Nat.le_refl _
  | frozen a k ih => exact ih _ _
  | getObj r k ih =>
    simp only [Sem.run]
    split <;> first | exact ih _ _ | exact Nat.le_refl _
  | setObj r o k ih =>
    simp only [Sem.run]
    split <;> first | exact Nat.le_refl _ | (refine Nat.le_trans ?_ (ih _); exact Nat.le_refl _)
  | choose q k ih =>
    simp only [Sem.run]
    split
    · exact ih _ _
    · refine Nat.le_trans ?_ (ih _ _)
      exact Nat.le_succ _
  | sys c k ih =>
    refine Nat.le_trans ?_ (ih _ _)
    exact sys_drawn _ _
  | program k ih => exact ih _ _
  | mark m k ih => exact ih _
  | halt h => exact Nat.le_refl _
section
variable {α : Type} {p : Program} {s : Sem α} {w w1 : World} {D : Nat} {a : α} {x : Halt} {e e1 : Array Event}
theorem le_ok (h : s.run p w = .ok a w1) (hD : D ≤ w.drawn) : D ≤ w1.drawn := by
  have := run_drawn p s w
  rw [h] at this
  exact Nat.le_trans hD this
theorem le_halt (h : s.run p w = .halt x w1) (hD : D ≤ w.drawn) : D ≤ w1.drawn := by
  have := run_drawn p s w
  rw [h] at this
  exact Nat.le_trans hD this
theorem le_okP (h : (s.run p w, e) = (.ok a w1, e1)) (hD : D ≤ w.drawn) : D ≤ w1.drawn := le_ok (Prod.mk.inj h).1 hD
theorem le_haltP (h : (s.run p w, e) = (.halt x w1, e1)) (hD : D ≤ w.drawn) : D ≤ w1.drawn := le_halt (Prod.mk.inj h).1 hD
end
def gdr (D : Nat) : GStep → Prop
  | .go _ w _ => D ≤ w.drawn
  | .comm _ _ _ _ w _ => D ≤ w.drawn
  | .spawn _ _ w _ => D ≤ w.drawn
  | .count _ w _ => D ≤ w.drawn
  | .timer _ _ w _ => D ≤ w.drawn
  | .alone _ _ w _ => D ≤ w.drawn
  | .newcoro _ _ _ w _ => D ≤ w.drawn
  | .coroswitch _ _ _ w _ => D ≤ w.drawn
  | .collect _ w _ => D ≤ w.drawn
  | .watch _ w _ => D ≤ w.drawn
  | .ended _ _ _ => True
theorem gdr_after (D : Nat) (es : Array Event) (s : GStep) : gdr D (GStep.after es s) = gdr D s := by cases s <;> rfl
theorem gdr_elim {α : Type} {D : Nat} {o : Option α} {a : GStep} {f : α → GStep} (ha : gdr D a) (hf : ∀ x, gdr D (f x)) : gdr D (o.elim a f) := by cases o; exact ha; exact hf _
section
variable {p : Program} {main b : Bool} {fr : Frame} {callers : List Frame} {dying : Option Dying} {w : World} {D : Nat}
theorem doReturn_dr {v : Value} (h : D ≤ w.drawn) : gdr D (doReturn p main fr callers dying v w) := by
  unfold doReturn
  repeat' first
    | trivial
    | rw [gdr_after]
    | exact h
    | exact le_ok (by assumption) h
    | exact le_halt (by assumption) h
    | exact le_okP (by assumption) h
    | exact le_haltP (by assumption) h
    | (simp only [gdr]; exact le_ok (by assumption) h)
    | (simp only [gdr]; exact le_halt (by assumption) h)
    | split
theorem dieOf_dr {l : List ByteArray} {m : String} {b : Bool} (h : D ≤ w.drawn) : gdr D (dieOf fr l m b w) := h
theorem endThrow_dr {m : String} (h : D ≤ w.drawn) : gdr D (endThrow fr m w) := h
theorem endWith_dr {n : Nat} {t : ByteArray} {o : Outcome} : gdr D (endWith w n t o) := by
  unfold endWith
  simp only []
  repeat' first
    | trivial
    | split
theorem endPrinting_dr {v : Value} (h : D ≤ w.drawn) : gdr D (endPrinting p fr v w) := by
  unfold endPrinting
  simp only []
  repeat' first
    | exact endThrow_dr h
    | trivial
    | split
theorem endFatal_dr {m : String} (h : D ≤ w.drawn) : gdr D (endFatal p fr callers dying m w) := by
  unfold endFatal
  simp only []
  split
  · exact dieOf_dr (le_ok (by assumption) h)
  · trivial
  · trivial
theorem writeOn_dr {d : Dying} {f : Fatal} (h : D ≤ w.drawn) : gdr D (writeOn p fr d f w) := by
  unfold writeOn
  simp only [Sem.runT_eq]
  split
  · trivial
  · split
    · exact le_okP (by assumption) h
    · exact le_haltP (by assumption) h
    · trivial
    · trivial
theorem die_dr {d : Dying} (h : D ≤ w.drawn) : gdr D (die p fr d w) := by
  unfold die
  simp only [Sem.runT_eq, gdr_after]
  repeat' first
    | trivial
    | rw [gdr_after]
    | exact h
    | exact le_ok (by assumption) h
    | exact le_halt (by assumption) h
    | exact le_okP (by assumption) h
    | exact le_haltP (by assumption) h
    | (simp only [gdr]; exact le_ok (by assumption) h)
    | (simp only [gdr]; exact le_halt (by assumption) h)
    | exact writeOn_dr h
    | exact endWith_dr
    | exact endPrinting_dr (le_halt (by assumption) h)
    | split
theorem callDeferred_dr {d : Deferred} (h : D ≤ w.drawn) : gdr D (callDeferred p fr callers dying d w) := by
  unfold callDeferred
  simp only [Sem.runT_eq, gdr_after]
  repeat' first
    | trivial
    | rw [gdr_after]
    | exact h
    | exact le_ok (by assumption) h
    | exact le_halt (by assumption) h
    | exact le_okP (by assumption) h
    | exact le_haltP (by assumption) h
    | (simp only [gdr]; exact le_ok (by assumption) h)
    | (simp only [gdr]; exact le_halt (by assumption) h)
    | exact endFatal_dr (le_halt (by assumption) h)
    | exact endThrow_dr (le_halt (by assumption) h)
    | split
theorem unwind_dr (h : D ≤ w.drawn) : gdr D (unwind p main fr callers dying w) := by
  unfold unwind
  simp only [Sem.runT_eq, gdr_after]
  repeat' first
    | trivial
    | rw [gdr_after]
    | exact h
    | exact le_ok (by assumption) h
    | exact le_halt (by assumption) h
    | exact le_okP (by assumption) h
    | exact le_haltP (by assumption) h
    | (simp only [gdr]; exact le_ok (by assumption) h)
    | (simp only [gdr]; exact le_halt (by assumption) h)
    | exact callDeferred_dr h
    | exact doReturn_dr h
    | exact doReturn_dr (le_ok (by assumption) h)
    | exact endPrinting_dr h
    | split
theorem early_dr {g : Nat} (h : D ≤ w.drawn) : gdr D (early p fr callers dying g w) := by
  unfold early
  simp only []
  repeat' first
    | trivial
    | rw [gdr_after]
    | exact h
    | exact le_ok (by assumption) h
    | exact le_halt (by assumption) h
    | exact le_okP (by assumption) h
    | exact le_haltP (by assumption) h
    | (simp only [gdr]; exact le_ok (by assumption) h)
    | (simp only [gdr]; exact le_halt (by assumption) h)
    | split
theorem apply_dr {s : Sem Next} (h : D ≤ w.drawn) : gdr D (stepG.apply p b fr callers dying s w) := by
  unfold stepG.apply
  have e : (if b = true then s.runT p w #[] else (s.run p w, #[])).1 = s.run p w := by split <;> simp
  generalize (if b = true then s.runT p w #[] else (s.run p w, #[])) = re at e ⊢
  obtain ⟨r, es⟩ := re
  dsimp only at e
  subst e
  simp only [gdr_after]
  repeat' first
    | trivial
    | rw [gdr_after]
    | exact h
    | exact le_ok (by assumption) h
    | exact le_halt (by assumption) h
    | exact le_okP (by assumption) h
    | exact le_haltP (by assumption) h
    | (simp only [gdr]; exact le_ok (by assumption) h)
    | (simp only [gdr]; exact le_halt (by assumption) h)
    | exact endFatal_dr (le_halt (by assumption) h)
    | exact endThrow_dr (le_halt (by assumption) h)
    | exact endThrow_dr (le_ok (by assumption) h)
    | exact early_dr (le_halt (by assumption) h)
    | split
theorem oper_dr (h : D ≤ w.drawn) : gdr D (stepG.oper p b fr callers dying w) := by
  unfold stepG.oper
  split
  · trivial
  · split <;> exact apply_dr h
theorem exec_dr (h : D ≤ w.drawn) : gdr D (stepG.exec p main b fr callers dying w) := by
  unfold stepG.exec
  simp only [Sem.runT_eq, gdr_after]
  repeat' first
    | trivial
    | rw [gdr_after]
    | exact h
    | exact le_ok (by assumption) h
    | exact le_halt (by assumption) h
    | exact le_okP (by assumption) h
    | exact le_haltP (by assumption) h
    | (simp only [gdr]; exact le_ok (by assumption) h)
    | (simp only [gdr]; exact le_halt (by assumption) h)
    | exact apply_dr h
    | exact apply_dr (le_ok (by assumption) h)
    | exact oper_dr h
    | exact doReturn_dr (le_ok (by assumption) h)
    | (refine gdr_elim ?_ fun x => ?_)
    | (simp only [Sem.runT_eq, gdr_after]; done)
    | split
end
section
variable {p : Program} {w : World} {m m' : Machine}
theorem stepG_dr {main b : Bool} {g : Goroutine} : gdr w.drawn (stepG p main g w b) := by
  obtain ⟨fr, callers, status, dying, offers⟩ := g
  simp only [stepG]
  have h : w.drawn ≤ w.drawn := Nat.le_refl _
  split
  · exact die_dr h
  · exact exec_dr h
  · exact unwind_dr h
theorem waitingAt_dr {rest : Rest} {cs : Array CommCase} {w1 : World} (h : waitingAt rest cs w = some w1) : w1.drawn = w.drawn := by
  unfold waitingAt at h
  repeat' first
    | (simp at h; done)
    | (simp only [Option.some.injEq] at h; subst h; rfl)
    | split at h
theorem communicate_dr {rest : Rest} {gs : Array Goroutine} {i : Nat} {g : Goroutine} {cases : Array CommCase} {blocking : Bool} {shape : CommShape} (h : (communicate p rest gs i g cases blocking shape w).1 = .next m') : w.drawn ≤ m'.world.drawn := by
  have hD : w.drawn ≤ w.drawn := Nat.le_refl _
  unfold communicate at h
  simp only [] at h
  repeat' first
    | (simp at h; done)
    | (simp only [Stepped.next.injEq] at h; subst h; dsimp only; first | exact hD | exact le_ok (by assumption) hD | exact le_halt (by assumption) hD | exact le_halt (by assumption) (le_ok (by assumption) hD) | exact le_ok (by assumption) (le_ok (by assumption) hD))
    | (simp only [Stepped.next.injEq] at h; subst h; dsimp only; rename_i hw; exact Nat.le_of_eq (waitingAt_dr hw).symm)
    | split at h
theorem look_dr {gs : Array Goroutine} {rest : Rest} (h : look p gs rest w = .next m') : w.drawn ≤ m'.world.drawn := by
  have hD : w.drawn ≤ w.drawn := Nat.le_refl _
  unfold look at h
  simp only [] at h
  repeat' first
    | (simp at h; done)
    | (simp only [Stepped.next.injEq] at h; subst h; dsimp only; first | exact hD | exact le_ok (by assumption) hD | exact le_halt (by assumption) hD | exact le_halt (by assumption) (le_ok (by assumption) hD) | exact le_ok (by assumption) (le_ok (by assumption) hD))
    | split at h
theorem opened_dr {var : Addr} {m1 : Machine} (h : timerOp.opened m var = some m1) : m1.world.drawn = m.world.drawn := by
  unfold timerOp.opened at h
  split at h
  · split at h
    · cases h; rfl
    · cases h
  · cases h; rfl
theorem timerOp_dr {op : TimerOp} {v : Value} (h : timerOp m op = .ok (v, m')) : m'.world.drawn = m.world.drawn := by
  unfold timerOp timerOp.named retime drain Machine.withTimers at h
  simp only [] at h
  repeat' first
    | (simp at h; done)
    | (simp only [Except.ok.injEq, Prod.mk.injEq] at h; obtain ⟨_, h⟩ := h; subst h; first | rfl | (dsimp only; exact opened_dr (by assumption)))
    | split at h
set_option maxHeartbeats 4000000 in
theorem runT_dr {i : Nat} {b : Bool} (h : (runT p m i b).1 = .next m') : m.world.drawn ≤ m'.world.drawn := by
  simp only [runT] at h
  revert h
  generalize m.gs.swapAt! _ _ = gg
  have hs : gdr m.world.drawn (stepG p (i == 0) gg.1 m.world b) := stepG_dr
  revert hs
  generalize stepG p (i == 0) gg.1 m.world b = s
  intro hs h
  cases s <;> simp only [] at h <;> simp only [gdr] at hs
  all_goals first
    | (simp at h; done)
    | (exact Nat.le_trans hs (communicate_dr h))
    | (exact Nat.le_trans hs (look_dr h))
    | (simp only [Stepped.next.injEq] at h; subst h; exact hs)
    | (repeat' first
        | (simp at h; done)
        | (simp only [Stepped.next.injEq] at h; subst h; exact hs)
        | (simp only [Stepped.next.injEq] at h; subst h; rename_i ht; have := timerOp_dr ht; dsimp only at this ⊢; omega)
        | (simp only [endThrow, dieOf, Stepped.next.injEq] at h; subst h; exact hs)
        | split at h)
theorem serve_dr {k : Nat} (h : serve p m k = .next m') : m.world.drawn ≤ m'.world.drawn := by
  unfold serve at h
  simp only [] at h
  repeat' first
    | (simp at h; done)
    | (simp only [Stepped.next.injEq] at h; subst h; exact Nat.le_refl _)
    | split at h
def mdr (D : Nat) : Move → Prop
  | .goroutine m _ => D ≤ m.world.drawn
  | .machine (.next m) _ => D ≤ m.world.drawn
  | .machine (.ended _ _) _ => True
theorem mdr_serve {D k : Nat} {ops : Array MemOp} (h : D ≤ m.world.drawn) : mdr D (.machine (serve p m k) ops) := by
  cases hs : serve p m k with
  | next m1 => exact Nat.le_trans h (serve_dr hs)
  | ended o w => trivial
theorem adv_dr {D t : Nat} (h : D ≤ m.world.drawn) : D ≤ (m.advanceTo t).world.drawn := h
set_option maxHeartbeats 4000000 in
theorem askOn_dr {D : Nat} (h : D ≤ m.world.drawn) : mdr D (askOn p m) := by
  unfold askOn
  simp only []
  repeat' first
    | trivial
    | rw [gdr_after]
    | exact h
    | exact le_ok (by assumption) h
    | exact le_halt (by assumption) h
    | exact le_okP (by assumption) h
    | exact le_haltP (by assumption) h
    | (simp only [gdr]; exact le_ok (by assumption) h)
    | (simp only [gdr]; exact le_halt (by assumption) h)
    | exact le_ok (by assumption) (le_ok (by assumption) h)
    | exact le_ok (by assumption) (le_ok (by assumption) (le_ok (by assumption) h))
    | exact mdr_serve (le_ok (by assumption) h)
    | (simp only [mdr, Machine.advanceTo]; first | trivial | exact le_ok (by assumption) h | exact le_ok (by assumption) (le_ok (by assumption) h) | exact le_ok (by assumption) (le_ok (by assumption) (le_ok (by assumption) h)) | exact le_ok (by assumption) (le_ok (by assumption) (le_ok (by assumption) (le_ok (by assumption) h))) | exact le_ok (by assumption) (adv_dr (le_ok (by assumption) (le_ok (by assumption) h))) | exact le_ok (by assumption) (le_ok (by assumption) (adv_dr (le_ok (by assumption) (le_ok (by assumption) h)))))
    | split
theorem ask_dr {D : Nat} (h : D ≤ m.world.drawn) : mdr D (ask p m) := by
  unfold ask
  split
  · split
    · trivial
    · rename_i hr
      generalize hl : look p m.gs m.rest _ = s
      cases s with
      | next m1 => exact askOn_dr (Nat.le_trans (le_ok hr h) (look_dr hl))
      | ended o w => trivial
    · rename_i hr
      exact askOn_dr (le_ok hr h)
  · exact askOn_dr h
theorem move_dr {D : Nat} (h : D ≤ m.world.drawn) : mdr D (move p m) := by
  unfold move
  repeat' first
    | trivial
    | exact h
    | exact ask_dr h
    | split
theorem step_dr (h : step p m = .next m') : m.world.drawn ≤ m'.world.drawn := by
  have hm : mdr m.world.drawn (move p m) := move_dr (Nat.le_refl _)
  unfold step stepT at h
  split at h
  · rename_i m1 i he
    rw [he] at hm
    exact Nat.le_trans hm (runT_dr h)
  · rename_i s ops he
    rw [he] at hm
    dsimp only at h
    subst h
    exact hm
theorem steps_dr (h : Steps p m m') : m.world.drawn ≤ m'.world.drawn := by
  have h1 := StepsIn.of_steps h
  clear h
  induction h1 with
  | refl => exact Nat.le_refl _
  | head _ hs _ ih => exact Nat.le_trans (step_dr hs) ih
theorem Calls.drawn {f : FuncId} {args : Array Value} {R : Ending → World → Prop} (h : Calls p f args w R) : Calls p f args w fun e w' => R e w' ∧ (e ≠ .outgrown → w.drawn ≤ w'.drawn) := fun cs => by
  obtain ⟨e, w', fr, hR, hc, h1, h2⟩ := h cs
  refine ⟨e, w', fr, ⟨hR, fun he => ?_⟩, hc, h1, h2⟩
  cases e with
  | outgrown => exact absurd rfl he
  | returned v => exact steps_dr hc
  | panicked c => exact steps_dr hc
end
end Go.Proofs.YtamnhhjcgloceaaGreat

namespace Go.Proofs.YtamnhhjcgloceaaGreat
set_option linter.unusedVariables false
set_option maxRecDepth 100000
open Go.RowKit Go.Sort Go.Shelf
section
variable {α : Type} [Inhabited α] (enc : α → List Value) (k : Nat)
theorem flat_get (hk : ∀ x, (enc x).length = k) (l : List α) (t : Nat) (h : t < l.length * k) : (l.flatMap enc)[t]? = some (enc l[t / k]!)[t % k]! := by
  have k0 : 0 < k := by rcases Nat.eq_zero_or_pos k with h0 | h0; · subst h0; simp at h
                        · exact h0
  induction l generalizing t with
  | nil => simp at h
  | cons x l ih =>
    rw [List.flatMap_cons]
    rcases Nat.lt_or_ge t k with h1 | h1
    · rw [List.getElem?_append_left (by rw [hk]; exact h1), Nat.div_eq_of_lt h1, Nat.mod_eq_of_lt h1]
      simp [hk, h1]
    · rw [List.getElem?_append_right (by rw [hk]; exact h1), hk]
      have e1 : t = (t - k) + k := by omega
      have e2 : t / k = (t - k) / k + 1 := by conv => lhs; rw [e1]; rw [Nat.add_div_right _ k0]
      have e3 : t % k = (t - k) % k := by conv => lhs; rw [e1]; rw [Nat.add_mod_right]
      rw [e2, e3, ih (t - k) (by simp [Nat.add_mul] at h; omega)]
      simp
theorem flat_len (hk : ∀ x, (enc x).length = k) (l : List α) : (l.flatMap enc).length = l.length * k := by
  induction l with
  | nil => exact (fun (_ : α) => by simp) (default : α)
  | cons x l ih => rw [List.flatMap_cons, List.length_append, ih, hk]; simp [Nat.add_mul]; omega
theorem flat_toList (hk : ∀ x, (enc x).length = k) (d : Array α) : (flatK enc k d).toList = d.toList.flatMap enc := by
  apply List.ext_getElem?
  intro t
  by_cases ht : t < d.size * k
  · rw [flat_get enc k hk d.toList t (by simpa using ht), Array.getElem?_toList]
    have h1 : t < (flatK enc k d).size := by simpa using ht
    rw [Array.getElem?_eq_getElem h1]
    have := get_flatK enc k d t ht
    rw [getElem!_pos _ t h1] at this
    rw [this]
    have e9 : d[t / k]! = d.toList[t / k]! := by rw [← Array.getElem!_toList]
    rw [e9]
  · rw [List.getElem?_eq_none (by simp; omega), List.getElem?_eq_none (by rw [flat_len enc k hk]; simp; omega)]
variable {w : World} {base g n cap : Nat} {e : TypeId} {os : Array Obj} {cur : Array Value}
theorem holds_of_owns (hk : ∀ x, (enc x).length = k) (l : List α) (hg : w.heap[g]? = some (.cells cur e (0, 0))) (ht : cur.toList.take (l.length * k) = l.flatMap enc) (hs : l.length * k ≤ cur.size) : HoldsK enc k w g 0 l.toArray := by
  intro j hj
  have hj' : j < l.length * k := by simpa using hj
  have e1 : (flatK enc k l.toArray)[j]! = (enc l[j / k]!)[j % k]! := by
    rw [get_flatK _ _ _ _ (by simpa using hj')]; simp
  have e2 := flat_get enc k hk l j hj'
  rw [← ht, List.getElem?_take_of_lt hj', Array.getElem?_toList] at e2
  rw [Nat.zero_add]
  refine ⟨?_, ?_⟩
  · rw [cell_of_row w g j cur e (0, 0) hg, e1, e2]; rfl
  · simp [World.frozen?, hg]
theorem heap_of_sort (d : Array α) {fr : Nat × Nat} (hb : w.heap[g]? = some (.cells cur e fr)) :
    (sortWorldK enc k w g 0 n d os).heap[g]? = some (.cells (putCells id 0 (flatK enc k d) cur) e fr) := by
  have hg : g < w.heap.size := (Array.getElem?_eq_some_iff.1 hb).1
  unfold sortWorldK putRowK
  rw [heap_grow_old _ _ (by simpa using hg)]
  simp [putRow, mapBlock, Sort.ahead, Array.getElem?_modify, hb, onCells]
theorem wrote_sort (d : Array α) {v : Value} (hv : Ab.blockOf v = some g) : Ab.Wrote w v (sortWorldK enc k w g 0 n d os) := by
  refine ⟨rfl, rfl, rfl, ?_, fun j hj hne => ?_⟩
  · unfold sortWorldK putRowK; simp
  · unfold sortWorldK putRowK
    rw [heap_grow_old _ _ (by simpa using hj)]
    have : g ≠ j := fun e => hne (by rw [hv, e])
    simp [putRow, mapBlock, Sort.ahead, Array.getElem?_modify, this]
theorem take_put (F : Array Value) (h : F.size ≤ cur.size) : (putCells id 0 F cur).toList.take F.size = F.toList := by
  apply List.ext_getElem?
  intro j
  by_cases hj : j < F.size
  · rw [List.getElem?_take_of_lt hj, Array.getElem?_toList]
    simp [putCells, hj, show j < cur.size by omega]
  · rw [List.getElem?_take_eq_none (by omega), List.getElem?_eq_none (by simp; omega)]
theorem owns_of_sort (hk : ∀ x, (enc x).length = k) (d : Array α) (hbase : base ≤ g) (hb : w.heap[g]? = some (.cells cur e (0, 0))) (h1 : d.size ≤ cap) (h2 : cap ≤ maxLen) (h3 : cur.size = cap * k) :
    (sortWorldK enc k w g 0 n d os).ownsRow base e k (.slice (some ⟨g, 0, none⟩) d.size cap) d.size (d.toList.flatMap enc) := by
  refine ⟨by rw [flat_len enc k hk]; simp, .inr ⟨g, cap, _, rfl, hbase, heap_of_sort enc k d hb, h1, h2, by simp [putCells, h3], ?_⟩⟩
  have := take_put (cur := cur) (flatK enc k d) (by rw [size_flatK, h3]; exact Nat.mul_le_mul_right k h1)
  rw [size_flatK] at this
  rw [this, flat_toList enc k hk]
end
theorem swo_of {α : Type} {cf : α → α → Int} (G : Good cf) : SWO (ltOf cf) := by
  refine ⟨fun x => ?_, fun x y z h1 h2 => ?_, fun x y z h1 h2 => ?_⟩
  · simp only [ltOf, decide_eq_false_iff_not]
    rw [G.refl]
    omega
  · simp only [ltOf, decide_eq_true_eq] at *
    exact G.lt_lt h1 h2
  · simp only [ltOf, decide_eq_false_iff_not] at *
    have e1 := G.anti x y
    have e2 := G.anti y z
    have e3 := G.anti x z
    have := G.trans z y x (by omega) (by omega)
    omega
theorem tot_of {α : Type} {cf : α → α → Int} (G : Good cf) (hz : ∀ x y, cf x y = 0 → x = y) (x y : α) (h1 : ltOf cf x y = false) (h2 : ltOf cf y x = false) : x = y := by
  simp only [ltOf, decide_eq_false_iff_not] at *
  have := G.anti x y
  exact hz x y (by omega)
theorem world_grown {w w' : World} (G : Ab.Grew w w') (hd : w.drawn ≤ w'.drawn) : ∃ n os, w' = grow (w.drewN n) os := by
  refine ⟨w'.drawn - w.drawn, w'.heap.extract w.heap.size w'.heap.size, ?_⟩
  have h1 := G.os
  have h2 := G.tape
  have h3 := G.output
  have h4 := G.size
  have h5 := G.mem
  obtain ⟨hp, tp, dr, os, ot⟩ := w
  obtain ⟨hp', tp', dr', os', ot'⟩ := w'
  dsimp only at h1 h2 h3 h4 h5 hd
  subst h1 h2 h3
  have e1 : hp' = hp ++ hp'.extract hp.size hp'.size := by
    apply Array.ext_getElem?
    intro i
    by_cases hi : i < hp.size
    · rw [Array.getElem?_append_left hi]
      exact h5 i hi
    · rw [Array.getElem?_append_right (by omega), Array.getElem?_extract]
      split
      · congr 1; omega
      · exact Array.getElem?_eq_none (by omega)
  show World.mk .. = World.mk ..
  dsimp only [World.drewN]
  have e2 : dr' = dr + (dr' - dr) := by omega
  rw [← e1, ← e2]
namespace Ab
section
variable {P : Program} {ρ : Ren} {α : Type} [Inhabited α]
theorem cmpLays_of {g : FuncId} {enc : α → List Value} {k : Nat} {cf : α → α → Int} {eA : α → AVal} (hvA : ∀ x, valA (eA x) = some (.agg (enc x).toArray)) (hoA : ∀ x, oneA (eA x) = true)
    (HC : ∀ x y, ACall P g [eA x, eA y] [] (Just (.d (.sc (.int .i64 (cf x y)))))) (blk off size : Nat) (w : World) : CmpLays P g #[] enc k cf blk off size w := by
  intro m os dk hs x y
  generalize sortWorldK enc k w blk off m dk os = W
  have H2 := (HC x y).2 (fun r => W.heap.size ≤ r) (fun _ => False) W (fun _ => none) (fun _ => none) (#[.agg (enc x).toArray, .agg (enc y).toArray] ++ #[]) W (HRel.none _ W (fun _ h => h.elim)) ⟨rfl, fun i c u h1 h2 => by
    match i, h1, h2 with
    | 0, h1, h2 => cases h1; cases h2; exact val_mk _ _ _ _ _ (hvA x) (hoA x)
    | 1, h1, h2 => cases h1; cases h2; exact val_mk _ _ _ _ _ (hvA y) (hoA y)⟩
  refine (Calls.drawn H2).mono ?_
  rintro e w' ⟨⟨u, c, h', ι', rfl, ⟨rfl, rfl⟩, hH, hv⟩, hd⟩
  obtain ⟨rfl, _⟩ := sc_of hv
  exact ⟨rfl, world_grown hH.grewC (hd (by simp))⟩
theorem vals_of {w : World} {Fr : Nat → Prop} : ∀ (vs xs : List Value), xs.length = vs.length → (∀ (i : Nat) (c : Dat) (u : Value), (vs.map Dat.sc)[i]? = some c → xs[i]? = some u → DRel w Fr c u) → xs = vs := fun vs xs h1 h2 => by
  apply List.ext_getElem?
  intro i
  by_cases hi : i < xs.length
  · have h3 := h2 i (.sc vs[i]) xs[i] (by rw [List.getElem?_map, List.getElem?_eq_getElem (by omega)]; rfl) (List.getElem?_eq_getElem hi)
    rw [List.getElem?_eq_getElem hi, List.getElem?_eq_getElem (by omega)]
    congr 1
    generalize xs[i] = u0 at h3 ⊢
    generalize (vs[i]'(by omega)) = v0 at h3 ⊢
    cases h3
    rfl
  · rw [List.getElem?_eq_none (by omega), List.getElem?_eq_none (by omega)]
theorem sortG (L : SlLaysF0.n6 P ρ) {f el : Nat} {k : Nat} (hf : ρ.f 6 = f) (hgo : isGo P f = true) (aE : ∀ w, (isAgg (ρ.t 24)).run P w = .ok true w) (zE : ∀ w, (Go.sizeOf (ρ.t 24)).run P w = .ok k w)
    {enc : α → List Value} (hk : ∀ x, (enc x).length = k) (h1 : ∀ x, ∀ v ∈ enc x, v.oneCell' = true) {eA : α → AVal} (hvA : ∀ x, valA (eA x) = some (.agg (enc x).toArray)) (hoA : ∀ x, oneA (eA x) = true)
    {eD : α → List Dat} (hD : ∀ x, eD x = (enc x).map Dat.sc) {cf : α → α → Int} (G : Good cf) (hz : ∀ x y, cf x y = 0 → x = y) {g : FuncId} (HC : ∀ x y, ACall P g [eA x, eA y] [] (Just (.d (.sc (.int .i64 (cf x y))))))
    (hnil : ∀ w, Calls P f #[.slice none 0 0, .func (.func g) #[] #[]] w fun e w' => e = .returned (.tuple #[]) ∧ w' = w) (l : List α) (hn : l.length ≤ 2147483648) :
    ACall P f [.row 1000, .fn g []] [(1000, .row el k l.length (l.flatMap eD))] (fun c h => c = .tup [] ∧ h = [(1000, .row el k l.length ((srt cf l).flatMap eD))]) := by
  refine ⟨hgo, fun Pm F w0 pin ι us w H HA => ?_⟩
  obtain ⟨v, hv, xs, hown, hxl, hxr⟩ := H.blk 1000 _ rfl
  have hmap : ∀ m : List α, m.flatMap eD = (m.flatMap enc).map Dat.sc := fun m => by
    rw [List.map_flatMap]
    congr 1
    exact funext hD
  rw [hmap] at hxl hxr
  have hxs := vals_of (l.flatMap enc) xs (by rw [hxl, List.length_map]) hxr
  subst hxs
  have hus : us = #[v, .func (.func g) #[] #[]] := by
    have hsz : us.size = 2 := HA.1
    obtain ⟨u0, u1, rfl⟩ : ∃ u0 u1, us = #[u0, u1] := ⟨us[0], us[1], by apply Array.ext <;> simp [hsz]; intro i h1 h2; match i with | 0 => rfl | 1 => rfl | i + 2 => omega⟩
    have h0 := HA.2 0 _ u0 rfl rfl
    have h1 := HA.2 1 _ u1 rfl rfl
    cases h0 with
    | row _ _ _ h3 =>
      cases h1 with
      | fn _ _ C hl _ =>
        have : C = #[] := Array.eq_empty_of_size_eq_zero hl
        rw [h3 v hv, this]
  subst hus
  have hlen : (srt cf l).length = l.length := srt_len l
  have key : Calls P f #[v, .func (.func g) #[] #[]] w fun e w' => e = .returned (.tuple #[]) ∧ w'.ownsRow 0 el k v l.length ((srt cf l).flatMap enc) ∧ Wrote w v w' := by
    obtain ⟨h0, ⟨rfl, h3⟩ | ⟨gb, cap, cur, rfl, hb, hg, hcap, hmax, hsz, ht⟩⟩ := hown
    · have : l = [] := List.eq_nil_of_length_eq_zero h3
      subst this
      refine (hnil w).mono ?_
      rintro e w' ⟨rfl, rfl⟩
      have e0 : srt cf [] = [] := List.eq_nil_of_length_eq_zero hlen
      rw [e0]
      exact ⟨rfl, World.ownsRow_nil _ _ _ _, rfl, rfl, rfl, Nat.le_refl _, fun _ _ _ => rfl⟩
    · have hH := holds_of_owns enc k hk l hg ht (by rw [hsz]; exact Nat.mul_le_mul_right k hcap)
      refine (hf ▸ AnyQ.slices_SortFunc L k aE zE enc hk h1 cf (swo_of G) g #[] gb 0 cap l.toArray w (fun args W => run_isGo (HC default default).1 args W) (cmpLays_of hvA hoA HC _ _ _ _) hH (Array.getElem?_eq_some_iff.1 hg).1 (by simp; omega)).mono ?_
      rintro e w' ⟨rfl, d', n, os, hp, hs, rfl⟩
      have e1 : d'.toList = srt cf l := sorted_unique_holds (swo_of G) (tot_of G hz) l.toArray d' hp hs
      have e2 : d'.size = l.length := by rw [hp.1]; simp
      refine ⟨rfl, ?_, wrote_sort enc k d' rfl⟩
      have := owns_of_sort (os := os) (n := n) enc k hk d' hb hg (by rw [e2]; exact hcap) hmax hsz
      rw [e2, e1] at this
      exact this
  refine key.mono ?_
  rintro x w' ⟨rfl, hown', hW⟩
  refine ⟨.tuple #[], .tup [], _, ι, rfl, ⟨rfl, rfl⟩, ?_, .tup _ _ rfl (by simp)⟩
  have HB := H.wrote hW hv (b' := .row el k l.length ((srt cf l).flatMap eD)) ⟨(srt cf l).flatMap enc, hown', by rw [hmap, List.length_map], fun i c u h1' h2 => ?_⟩
  · have := HB.only (h' := [(1000, .row el k l.length ((srt cf l).flatMap eD))]) fun id b hb => by
      by_cases hid : 1000 = id
      · subst hid; exact hb
      · rw [look_cons_ne _ _ hid] at hb; cases hb
    have e : Ab.only [(1000, ABlk.row el k l.length ((srt cf l).flatMap eD))] ι = ι := funext fun id => by
      unfold Ab.only
      split
      · rfl
      · rename_i hn2
        cases hi : ι id with
        | none => rfl
        | some v' =>
          obtain ⟨b, hb⟩ := H.dom id v' hi
          by_cases hid : 1000 = id
          · subst hid; exact absurd rfl hn2
          · rw [look_cons_ne _ _ hid] at hb; cases hb
    rw [e] at this
    exact this
  · rw [hmap, List.getElem?_map, h2] at h1'
    cases h1'
    obtain ⟨p, _, hp⟩ := List.mem_flatMap.1 (List.mem_of_getElem? h2)
    exact .sc u (h1 p u hp)
end
end Ab
end Go.Proofs.YtamnhhjcgloceaaGreat

namespace Go.Proofs.YtamnhhjcgloceaaGreat.Ab
set_option linter.unusedVariables false
open Go.RowKit Go.Builtin
theorem zeroCells_one {z : Array Value} (h : ∀ v ∈ z.toList, v.oneCell' = true) (n : Nat) : ∀ v ∈ (zeroCells z n).toList, v.oneCell' = true := by
  intro v hv
  unfold zeroCells at hv
  rw [Array.toList_map, List.mem_map] at hv
  obtain ⟨i, hi, rfl⟩ := hv
  have hi2 : i < n * z.size := by simpa using hi
  have hp : 0 < z.size := by rcases Nat.eq_zero_or_pos z.size with h0 | h0; · rw [h0] at hi2; omega
                             · exact h0
  rw [getElem!_pos z (i % z.size) (Nat.mod_lt _ hp)]
  exact h _ (by simp)
theorem zeroCells_len (z : Array Value) (n : Nat) : (zeroCells z n).toList.length = n * z.size := by simp [zeroCells]
theorem run_clearK {P : Program} (w : World) (t el ty : TypeId) (g o n cap : Nat) (cur : Array Value) (tt : TypeId) (z : Value) (hu : P.underlying t = some (.slice el)) (hz : (zeroValue el).run P w = .ok z w) (h1 : ∀ v ∈ z.cells.toList, v.oneCell' = true)
    (hg : w.heap[g]? = some (.cells cur tt (0, 0))) (hn : 0 < n) (hfit : o + n * z.cells.size ≤ cur.size) :
    (Builtin.clear_ #[t] ty #[.slice (some ⟨g, o, none⟩) n cap]).run P w = .ok (.tuple #[]) (w.setRow g (setW cur.toList o (zeroCells z.cells n).toList).toArray) := by
  obtain ⟨m, rfl⟩ : ∃ m, n = m + 1 := ⟨n - 1, by omega⟩
  have hst := run_storeCells_at P g o tt (zeroCells z.cells (m + 1)).toList 0 cur w hg (by rw [zeroCells_len]; simpa using hfit) (zeroCells_one h1 _)
  simp [Builtin.clear_, run_underlying hu, hz, hst, setW]
theorem run_clear0 {P : Program} (w : World) (t el ty : TypeId) (b : Option Addr) (cap : Nat) (hu : P.underlying t = some (.slice el)) :
    (Builtin.clear_ #[t] ty #[.slice b 0 cap]).run P w = .ok (.tuple #[]) w := by
  cases b <;> simp [Builtin.clear_, run_underlying hu]
section
variable {P : Program} {nt : Nat} {Q : Post} {e : Env} {h : Heap} {ops : Array Oper} {o : Oper} {rest : List Oper} {T : List Nat} {tab : TTab} {fuel i : Nat} {listed : Array Bool}
theorem E_clear {t el : TypeId} {te te' : TE} {d : Option Tmp} {x : Operand} {id off1 n1 n k : Nat} {cs : List Dat} (TO : TabOk P tab) (ho : o.op = .call { callee := .builtin .clear, args := #[x], argTypes := #[t] }) (hdst : o.dst = d)
    (ht : tlook tab t = some te) (hs : te.sh = .sl el) (hel : tlook tab el = some te') (hk : te'.size = k) (hz1 : te'.zero.all (·.oneCell') = true) (hz2 : te'.zero.length = te'.size) (hx : aev e x = some (.srow id off1 n1)) (hb : look h id = some (.row el k n cs))
    (h1 : off1 + n1 * k ≤ n * k) (hd : dstOk nt d = true) (hT : T.contains id = true) :
    AEff P nt T e h o (fun e' h' => ∃ zs : List Dat, zs.length = n1 * k ∧ e' = aput d (.tup []) e ∧ h' = (id, .row el k n (setW cs off1 zs)) :: h) := fun Pm F w0 pin ι a w R K Qx hK => by
  subst hk
  obtain ⟨v, hv, xs, hown, hxl, hxr⟩ := R.heap.blk _ _ hb
  have hu := (TO t te ht).slice hs
  obtain ⟨z, hz, hz3, _⟩ := (TO el te' hel).zero w
  have hzs : z.cells.size = te'.size := by rw [← Array.length_toList, hz3, hz2]
  have hzo : ∀ v ∈ z.cells.toList, v.oneCell' = true := by rw [hz3]; exact List.all_eq_true.1 hz1
  have hrx := aev_rel R.env hx
  have hcl : cs.length = n * te'.size := by rw [← hxl]; exact hown.1
  obtain ⟨ux, hux⟩ : ∃ ux, a.eval x = ux := ⟨_, rfl⟩
  rw [hux] at hrx
  cases hrx with
  | srow _ _ _ _ g1 g2 =>
    obtain ⟨b1, c1, rfl, _, k1⟩ := g2 v hv
    by_cases h0 : n1 = 0
    · subst h0
      have hrun : (execOp a.eval o).run P w = .ok (.value (.tuple #[])) w := by
        simp [execOp, ho, resolve, invoke, builtin, hux, run_clear0 w t el o.type b1 c1 hu]
      unfold Oper.wp
      rw [hrun, Oper.upon_value, hdst]
      refine hK ι _ _ _ _ ⟨[], by simp, rfl, rfl⟩ ?_ ⟨CT.refl T ι w, fun id _ v r hv hr _ => ⟨v, hv, hr⟩⟩ (put_defers _ _ _)
      refine ⟨?_, R.env.aput hd R.size (.tup _ _ rfl (by simp)), by rw [put_defers]; exact R.defers, by rw [put_size]; exact R.size⟩
      rw [setW_nil]
      refine R.heap.relook fun j => ?_
      by_cases hj2 : id = j
      · subst hj2; rw [look_cons_same, hb]
      · rw [look_cons_ne _ _ hj2]
    · obtain ⟨g, N, cap, hvv, rfl⟩ := k1 (by omega)
      rcases hown.2 with ⟨q1, _⟩ | ⟨g0, cap0, cur, q1, _, hg, q4, q5, q6, q7⟩
      · rw [hvv] at q1; cases q1
      rw [hvv] at q1; cases q1
      have hle : n * te'.size ≤ cur.size := by rw [q6]; exact Nat.mul_le_mul_right _ q4
      have hzl : (zeroCells z.cells n1).toList.length = n1 * te'.size := by rw [zeroCells_len, hzs]
      have hrun0 := run_clearK (P := P) w t el o.type g off1 n1 c1 cur el z hu hz hzo hg (by omega) (by rw [hzs]; omega)
      have hrun : (execOp a.eval o).run P w = .ok (.value (.tuple #[])) (w.setRow g (setW cur.toList off1 (zeroCells z.cells n1).toList).toArray) := by
        simp only [execOp, ho, resolve, invoke, builtin]
        simp [hux, hrun0]
      obtain ⟨hW, hnew⟩ := wrote_setRow (C' := (setW cur.toList off1 (zeroCells z.cells n1).toList).toArray) hg (v := v) (by rw [hvv]; rfl)
      have hown2 := own_set (off := off1) (news := (zeroCells z.cells n1).toList) hg hown.1 q4 q5 q6 q7 (by rw [hzl]; exact h1)
      unfold Oper.wp
      rw [hrun, Oper.upon_value, hdst]
      refine hK ι _ _ _ _ ⟨(zeroCells z.cells n1).toList.map Dat.sc, by rw [List.length_map, hzl], rfl, rfl⟩ ?_ ⟨⟨hW.os, hW.tape, hW.output, hW.size, fun r hr hne => hW.mem r hr fun he => hne id (List.contains_iff_mem.1 hT) v hv he⟩, fun id _ v r hv hr _ => ⟨v, hv, hr⟩⟩ (put_defers _ _ _)
      refine ⟨R.heap.wrote hW hv ⟨_, by rw [hvv]; exact hown2, by rw [setW_len _ _ _ (by rw [hzl, hown.1]; omega), setW_len _ _ _ (by rw [List.length_map, hzl]; omega), hxl], fun i c u h4 h5 => ?_⟩, (R.env.mono fun _ _ _ _ hv' => hv'.wrote hW hv).aput hd R.size (.tup _ _ rfl (by simp)), by rw [put_defers]; exact R.defers.ext (hW.ext hv), by rw [put_size]; exact R.size⟩
      rw [setW_get (by rw [List.length_map, hzl]; omega), List.length_map, hzl] at h4
      rw [setW_get (by rw [hzl, hown.1]; omega), hzl] at h5
      split at h4
      · rename_i hin
        rw [if_pos hin] at h5
        rw [List.getElem?_map, h5] at h4
        cases h4
        exact .sc u (zeroCells_one hzo _ u (List.mem_of_getElem? h5))
      · rename_i hin
        rw [if_neg hin] at h5
        exact (hxr _ _ _ h4 h5).ext (hW.ext hv).mem (hW.ext hv).free
theorem O_clear {t el k off1 n1 n id : Nat} {x : Operand} {cs : List Dat} (TO : TabOk P tab) (hw : awant ops e o = some true) (hdst : o.dst = none) (ho : o.op = .call { callee := .builtin .clear, args := #[x], argTypes := #[t] })
    (hel : telem tab t = some el) (hsz : tsize tab el = some k) (hok : (match tlook tab el with | some te => te.zero.all (·.oneCell') && Nat.beq te.zero.length te.size | none => false) = true) (hx : aev e x = some (.srow id off1 n1)) (hb : look h id = some (.row el k n cs)) (h1 : off1 + n1 * k ≤ n * k)
    (HK : ∀ zs : List Dat, zs.length = n1 * k → AOps P nt ops Q rest e ((id, .row el k n (setW cs off1 zs)) :: h)) : AOps P nt ops Q (o :: rest) e h := by
  obtain ⟨te, h3, h4⟩ := telem_spec hel
  obtain ⟨te', h5, rfl⟩ := tsize_spec hsz
  rw [h5] at hok
  simp only [Bool.and_eq_true] at hok
  exact O_eff (T := [id]) hw (E_clear TO ho hdst h3 h4 h5 rfl hok.1 (Nat.eq_of_beq_eq_true hok.2) hx hb h1 rfl (by simp)) fun e' h' ⟨zs, h6, h7, h8⟩ => by subst h7 h8; exact HK zs h6
end
end Go.Proofs.YtamnhhjcgloceaaGreat.Ab

namespace Go.Proofs.YtamnhhjcgloceaaGreat.Ab
set_option linter.unusedVariables false
open Go.RowKit
section
variable {P : Program} {nt : Nat} {Q : Post} {e : Env} {h : Heap} {ops : Array Oper} {o : Oper} {rest : List Oper} {T : List Nat} {tab : TTab} {fuel i : Nat} {listed : Array Bool}
theorem E_callM {f : FuncId} {args : Array Operand} {ats : Array TypeId} {cs0 cs : List AVal} {d : Option Tmp} {id j el k n el0 k0 n0 : Nat} {ds0 ds : List Dat} (ho : o.op = .call { callee := .value (.func f), args := args, argTypes := ats }) (hdst : o.dst = d) (hx : aevs e args.toList = some cs0)
    (hcs : cs.map (renV [(1000, id)]) = cs0) (hok : ∀ c ∈ cs, okV [(1000, id)] c = true) (hb : look h id = some (.row el0 k0 n0 ds0))
    (H : ACall P f cs [(1000, .row el0 k0 n0 ds0)] (fun c h' => c = .row j ∧ h' = [(j, .row el k n ds)])) (hid : Nat.blt id 1000 = true) (hd : dstOk nt d = true) (hT : T.contains id = true) :
    AEff P nt T e h o (fun e' h2 => e' = aput d (.row id) (killE id e) ∧ h2 = (id, .row el k n ds) :: killH id h) := fun Pm F w0 pin ι a w R K Qx hK => by
  have hid' : id < 1000 := by simp [Nat.blt] at hid; omega
  unfold Oper.wp
  rw [run_callA H.1 ho, Oper.upon_enter, hdst]
  have HR := R.heap
  obtain ⟨v0, hv0, hB0⟩ := HR.blk id _ hb
  let ι0 : Nat → Option Value := fun p => if p = 1000 then ι id else none
  have h0some : ∀ p v, ι0 p = some v → ∃ i, look [(1000, id)] p = some i ∧ ι i = some v := fun p v hv => by
    simp only [ι0] at hv
    split at hv
    · rename_i hp; subst hp; exact ⟨id, rfl, hv⟩
    · cases hv
  have hlk : ∀ p i, look [(1000, id)] p = some i → p = 1000 ∧ i = id := fun p i hp => by
    by_cases h1 : 1000 = p
    · subst h1; rw [look_cons_same] at hp; cases hp; exact ⟨rfl, rfl⟩
    · rw [look_cons_ne _ _ h1] at hp; cases hp
  let F' : Nat → Prop := fun r => F r ∨ ∃ i v, ι i = some v ∧ blockOf v = some r ∧ i ≠ id
  let Pm' : Nat → Prop := fun r => w.heap.size ≤ r ∨ blockOf v0 = some r
  have hFdown : ExtF w F ι w F' ι0 := ⟨fun _ _ _ => rfl, fun r _ hf => ⟨fun hc => hc.elim hf.1 fun ⟨i, v, h1, h2, _⟩ => hf.2 i v h1 h2, fun p v hv hb => by
    obtain ⟨i, _, h2⟩ := h0some p v hv
    exact hf.2 i v h2 hb⟩⟩
  have HC : HRel Pm' F' w ι0 ι0 [(1000, .row el0 k0 n0 ds0)] w := by
    refine ⟨fun p b hb2 => ?_, fun p v hv => ?_, fun p q v v' r hpq hv hv' hr => ?_, fun p v r hv hr => .inr ?_, rfl, rfl, rfl, Nat.le_refl _, fun _ _ _ => rfl, fun r hr => .inl hr, fun p v _ hv => hv, fun p v r hv hr hF' => ?_, fun r hr => ?_⟩
    · by_cases h1 : 1000 = p
      · subst h1
        rw [look_cons_same] at hb2
        cases hb2
        refine ⟨v0, by simp only [ι0, if_true]; exact hv0, ?_⟩
        obtain ⟨xs, hown, hxl, hxr⟩ := hB0
        exact ⟨xs, hown, hxl, fun i c u h3 h4 => (hxr i c u h3 h4).ext (fun _ _ _ => rfl) fun r hr hf => hFdown.free r hr hf⟩
      · rw [look_cons_ne _ _ h1] at hb2; cases hb2
    · simp only [ι0] at hv
      split at hv
      · rename_i hp; subst hp; exact ⟨_, look_cons_same _ _ _⟩
      · cases hv
    · simp only [ι0] at hv hv'
      split at hv <;> split at hv'
      · omega
      · cases hv'
      · cases hv
      · cases hv
    · simp only [ι0] at hv
      split at hv
      · rw [hv0] at hv; cases hv; exact hr
      · cases hv
    · obtain ⟨i, h1, h2⟩ := h0some p v hv
      obtain ⟨_, rfl⟩ := hlk p i h1
      rcases hF' with h3 | ⟨q, v', h3, h4, h5⟩
      · exact HR.nf _ v r h2 hr h3
      · exact HR.inj _ q v v' r (fun h => h5 h.symm) h2 h3 hr h4
    · rcases hr with h1 | ⟨q, v, h1, h2, _⟩
      · exact Nat.lt_of_lt_of_le (HR.forb r h1) HR.size
      · exact HR.lt h1 h2
  have HA : ArgsRel w F' ι0 cs (args.map a.eval) := by
    have := args_of R.env hx
    refine ⟨by rw [this.1, ← hcs, List.length_map], fun i c u h1 h2 => (this.2 i (renV [(1000, id)] c) u (by rw [← hcs, List.getElem?_map, h1]; rfl) h2).down (hok c (List.mem_of_getElem? h1)) hFdown h0some⟩
  refine (H.2 Pm' F' w ι0 ι0 _ w HC HA).mono ?_
  rintro x w' ⟨u, c, h', ι', rfl, ⟨rfl, rfl⟩, hH, hv⟩
  obtain ⟨v', hv', xs, hown, hxl, hxr⟩ := hH.blk j _ (look_cons_same _ _ _)
  have hu : u = v' := by
    cases hv with
    | row _ _ _ h3 => exact h3 v' hv'
  subst hu
  have hpm : ∀ r, blockOf u = some r → w.heap.size ≤ r ∨ ∃ v, ι id = some v ∧ blockOf v = some r := fun r hr => by
    rcases hH.pm j u r hv' hr with h1 | h1
    · exact .inl h1
    · exact .inr ⟨v0, hv0, h1⟩
  have hkeep : ∀ r, r < w.heap.size → blockOf v0 ≠ some r → w'.heap[r]? = w.heap[r]? := fun r hr hn => hH.keep r hr fun hp => by
    rcases hp with h1 | h1
    · omega
    · exact hn h1
  have TT : Touch w ι id u w' := ⟨hH.os, hH.tape, hH.output, hH.size, fun r hr hn => hkeep r hr (hn v0 hv0), hpm⟩
  refine hK _ _ _ _ _ ⟨rfl, rfl⟩ ⟨R.heap.touch TT (.inl hid') ⟨xs, hown, hxl, fun i c u2 h1 h2 => (hxr i c u2 h1 h2).ext (fun _ _ _ => rfl) fun r hr hf => ⟨fun h3 => hf.1 (.inl h3), fun q v h3 h4 => ?_⟩⟩, (R.env.killed TT.ext).aput hd R.size (.row id _ (own_one hown) fun v hv => by simp [upd] at hv; exact hv), by rw [put_defers]; exact R.defers.ext TT.ext, by rw [put_size]; exact R.size⟩ ?_ (put_defers _ _ _)
  · unfold upd at h3
    split at h3
    · cases h3; exact hf.2 j u hv' h4
    · rename_i hne; exact hf.1 (.inr ⟨q, v, h3, h4, hne⟩)
  · refine ⟨⟨hH.os, hH.tape, hH.output, hH.size, fun r hr hne => hkeep r hr (hne id (List.contains_iff_mem.1 hT) v0 hv0)⟩, fun q _ u2 r hq hr1 hlt => ?_⟩
    unfold upd at hq
    split at hq
    · rename_i hqi
      subst hqi
      cases hq
      rcases hpm r hr1 with h1 | ⟨v, h1, h2⟩
      · omega
      · exact ⟨v, h1, h2⟩
    · exact ⟨u2, hq, hr1⟩
theorem O_cM {f : FuncId} {args : Array Operand} {ats : Array TypeId} {cs0 cs : List AVal} {d id j el k n el0 k0 n0 : Nat} {ds0 ds : List Dat} (hw : awant ops e o = some true) (hdst : o.dst = some d) (hd : Nat.blt d nt = true) (ho : o.op = .call { callee := .value (.func f), args := args, argTypes := ats }) (hx : aevs e args.toList = some cs0)
    (H : ACall P f cs [(1000, .row el0 k0 n0 ds0)] (fun c h' => c = .row j ∧ h' = [(j, .row el k n ds)])) (hcs : cs.map (renV [(1000, id)]) = cs0) (hok : ∀ c ∈ cs, okV [(1000, id)] c = true) (hb : look h id = some (.row el0 k0 n0 ds0)) (hid : Nat.blt id 1000 = true)
    (HK : AOps P nt ops Q rest ((d, .row id) :: killE id e) ((id, .row el k n ds) :: killH id h)) : AOps P nt ops Q (o :: rest) e h :=
  O_eff (T := [id]) hw (E_callM (d := some d) ho hdst hx hcs hok hb H hid hd (by simp)) fun e' h' ⟨h1, h2⟩ => by subst h1 h2; exact HK
theorem Wk_rename {p id el k n t : Nat} {cs : List Dat} (hid : Nat.blt id 1000 = true) (ht : look e t = some (.row p)) :
    AWk nt e [(p, .row el k n cs)] [(t, .row id)] [(id, .row el k n cs)] := fun Pm F w0 pin ι a w R => by
  have hid' : id < 1000 := by simp [Nat.blt] at hid; omega
  have H := R.heap
  obtain ⟨v, hv, xs, hown, hxl, hxr⟩ := H.blk p _ (look_cons_same _ _ _)
  have hι : ∀ i u, (fun i => if i = id then ι p else none) i = some u → i = id ∧ ι p = some u := fun i u hu => by
    dsimp only at hu
    split at hu
    · rename_i h; exact ⟨h, hu⟩
    · cases hu
  have hex : Ext w F ι w (fun i => if i = id then ι p else none) := ⟨fun _ _ _ => rfl, fun r _ hf => ⟨hf.1, fun i u hu => hf.2 p u (hι i u hu).2⟩⟩
  refine ⟨fun i => if i = id then ι p else none, ⟨fun i b hb => ?_, fun i u hu => ?_, fun i j u u' r hij hi hj => ?_, fun i u r hu => H.pm p u r (hι i u hu).2, H.os, H.tape, H.output, H.size, H.keep, H.fresh, fun i u h1 hu => ?_, fun i u r hu => H.nf p u r (hι i u hu).2, H.forb⟩, fun s c hs => ?_, R.defers.ext hex, R.size⟩
  · by_cases h1 : id = i
    · subst h1
      rw [look_cons_same] at hb
      cases hb
      exact ⟨v, by simp only [if_true]; exact hv, xs, hown, hxl, fun i c u h3 h4 => (hxr i c u h3 h4).ext (fun _ _ _ => rfl) fun r hr hf => hex.free r hr hf⟩
    · rw [look_cons_ne _ _ h1] at hb; cases hb
  · obtain ⟨rfl, _⟩ := hι i u hu
    exact ⟨_, look_cons_same _ _ _⟩
  · exact absurd ((hι i u hi).1.trans (hι j u' hj).1.symm) hij
  · obtain ⟨rfl, _⟩ := hι i u hu
    omega
  · by_cases h1 : t = s
    · subst h1
      rw [look_cons_same] at hs
      cases hs
      obtain ⟨u, hu, hr⟩ := R.env t _ ht
      refine ⟨u, hu, ?_⟩
      cases hr with
      | row _ _ g1 g2 => exact .row id u g1 fun v2 hv2 => g2 v2 (hι id v2 hv2).2
    · rw [look_cons_ne _ _ h1] at hs; cases hs
theorem run_nilEq {P : Program} {t el : TypeId} (w : World) (hu : P.underlying t = some (.slice el)) (dp : Nat) (b : Option Addr) (n c : Nat) : (Op.equalIn (dp + 1) t (.slice b n c) (.slice none 0 0)).run P w = .ok b.isNone w := by
  unfold Op.equalIn
  cases b <;> simp [run_underlying hu]
theorem E_nilEq {t u el : TypeId} {te : TE} {x : Operand} {d : Option Tmp} {cs : List Dat} {n : Nat} (TO : TabOk P tab) (ho : o.op = .binOp .eql t x (.const (.slice none 0 0)) u) (hdst : o.dst = d) (ht : tlook tab t = some te) (hs : te.sh = .sl el) (hx : aev e x = some (.d (.sl cs n))) (hd : dstOk nt d = true) :
    AEff P nt T e h o (fun e' h' => ∃ b : Bool, (b = true → cs = [] ∧ n = 0) ∧ e' = aput d (.d (.sc (.bool b))) e ∧ h' = h) := fun Pm F w0 pin ι a w R K Qx hK => by
  have hu := (TO t te ht).slice hs
  have hv := aev_rel R.env hx
  have ev : a.eval (.const (.slice none 0 0)) = .slice none 0 0 := rfl
  have key : ∃ b : Bool, (b = true → cs = [] ∧ n = 0) ∧ (execOp a.eval o).run P w = .ok (.value (.bool b)) w := by
    generalize hau : a.eval x = ux at hv
    cases hv with
    | d _ _ hD =>
      cases hD with
      | nil => exact ⟨true, fun _ => ⟨rfl, rfl⟩, by simp only [execOp, ho, hau, ev, eqGuard, binOp, Op.equal]; rw [show Op.maxDepth = 9999 + 1 from rfl]; simp [run_nilEq w hu 9999]⟩
      | sl _ _ b o2 cap vs => exact ⟨false, fun h => (by cases h), by simp only [execOp, ho, hau, ev, eqGuard, binOp, Op.equal]; rw [show Op.maxDepth = 9999 + 1 from rfl]; simp [run_nilEq w hu 9999]⟩
  obtain ⟨b, hb, hrun⟩ := key
  unfold Oper.wp
  rw [hrun, Oper.upon_value, hdst]
  refine hK ι _ _ _ _ ⟨b, hb, rfl, rfl⟩ ⟨R.heap, R.env.aput hd R.size (sc_rel rfl), by rw [put_defers]; exact R.defers, by rw [put_size]; exact R.size⟩ ⟨CT.refl T ι w, fun id _ v r hv hr _ => ⟨v, hv, hr⟩⟩ (put_defers _ _ _)
theorem O_nilEq {t u el : TypeId} {x : Operand} {d : Nat} {cs : List Dat} {n : Nat} (TO : TabOk P tab) (hw : awant ops e o = some true) (hdst : o.dst = some d) (hd : Nat.blt d nt = true) (ho : o.op = .binOp .eql t x (.const (.slice none 0 0)) u) (hel : telem tab t = some el) (hx : aev e x = some (.d (.sl cs n)))
    (HK : ∀ b : Bool, (b = true → cs = [] ∧ n = 0) → AOps P nt ops Q rest ((d, .d (.sc (.bool b))) :: e) h) : AOps P nt ops Q (o :: rest) e h := by
  obtain ⟨te, h1, h2⟩ := telem_spec hel
  exact O_eff (T := []) hw (E_nilEq (d := some d) TO ho hdst h1 h2 hx hd) fun e' h' ⟨b, h3, h4, h5⟩ => by subst h4 h5; exact HK b h3
end
end Go.Proofs.YtamnhhjcgloceaaGreat.Ab

namespace Go.Proofs.YtamnhhjcgloceaaGreat
set_option linter.unusedVariables false
section
variable {α : Type} [DecidableEq α]
theorem dedA_snoc (y x : α) : ∀ m : List α, dedA (m ++ [y, x]) = if y = x then dedA (m ++ [y]) else dedA (m ++ [y]) ++ [x] := by
  intro m
  induction m with
  | nil => by_cases h : y = x <;> simp [dedA, h]
  | cons a m ih =>
    obtain ⟨b, r, h1⟩ : ∃ b r, m ++ [y] = b :: r := by cases m <;> simp
    have h2 : m ++ [y, x] = b :: (r ++ [x]) := by rw [show m ++ [y, x] = (m ++ [y]) ++ [x] by simp, h1]; rfl
    rw [List.cons_append, List.cons_append, h2, h1]
    rw [h2, h1] at ih
    simp only [dedA]
    rw [ih]
    by_cases hab : a = b <;> by_cases hyx : y = x <;> simp [hab, hyx]
theorem ded_take (l : List α) (k : Nat) (h1 : 1 ≤ k) (h : k < l.length) : dedA (l.take (k + 1)) = if l[k - 1] = l[k] then dedA (l.take k) else dedA (l.take k) ++ [l[k]] := by
  obtain ⟨j, rfl⟩ : ∃ j, k = j + 1 := ⟨k - 1, by omega⟩
  have e1 : l.take (j + 1 + 1) = l.take j ++ [l[j], l[j + 1]] := by
    rw [List.take_succ_eq_append_getElem h, List.take_succ_eq_append_getElem (show j < l.length by omega), List.append_assoc]
    rfl
  have e2 : l.take (j + 1) = l.take j ++ [l[j]] := List.take_succ_eq_append_getElem (show j < l.length by omega)
  rw [e1, dedA_snoc, e2]
  rfl
end
section
variable {α β : Type} {enc : α → List β} {sz : Nat}
theorem flat_take (hsz : ∀ x, (enc x).length = sz) : ∀ (l : List α) (k : Nat), (l.flatMap enc).take (k * sz) = (l.take k).flatMap enc
  | [], k => by simp
  | x :: l, 0 => by simp
  | x :: l, k + 1 => by
    rw [List.flatMap_cons, List.take_succ_cons, List.flatMap_cons, ← flat_take hsz l k, List.take_append, hsz]
    rw [List.take_of_length_le (by rw [hsz, Nat.add_mul]; omega)]
    congr 2
    rw [Nat.add_mul]; omega
theorem flat_drop (hsz : ∀ x, (enc x).length = sz) : ∀ (l : List α) (k : Nat), (l.flatMap enc).drop (k * sz) = (l.drop k).flatMap enc
  | [], k => by simp
  | x :: l, 0 => by simp
  | x :: l, k + 1 => by
    rw [List.flatMap_cons, List.drop_succ_cons, ← flat_drop hsz l k, List.drop_append, hsz]
    rw [List.drop_of_length_le (by rw [hsz, Nat.add_mul]; omega), List.nil_append]
    congr 1
    rw [Nat.add_mul]; omega
theorem flat_set (hsz : ∀ x, (enc x).length = sz) (l : List α) (k : Nat) (x : α) (hk : k < l.length) : Ab.setW (l.flatMap enc) (k * sz) (enc x) = (l.set k x).flatMap enc := by
  unfold Ab.setW
  rw [flat_take hsz, hsz]
  rw [show k * sz + sz = (k + 1) * sz by rw [Nat.add_mul]; omega, flat_drop hsz]
  rw [List.set_eq_take_append_cons_drop, if_pos hk]
  simp
end
instance : Inhabited Rte := ⟨⟨⟨0, 0⟩, 0, 0, 0, 0, [], 0, false⟩⟩
def rteV (r : Rte) : List Value := [.int .u32 r.p.a, .int .i64 r.p.b, .int .u8 r.f, .int .i64 r.d, .int .i64 r.m, .int .i64 r.t, .string ⟨⟨r.i⟩⟩, .int .u32 r.h, .bool r.x]
theorem ordR_eq' (x y : Rte) (h : ordR x y = 0) : x = y := (ordR_zero x y).1 h
section
open Go.RowKit Go.Sort Go.Lib
set_option maxRecDepth 100000
theorem insNilR (c : Value) (w : World) : Calls Tryz.prog 104 #[.slice none 0 0, .int .i64 0, .int .i64 0, c] w (RetS w (.tuple #[])) := by
  go_enter Tryz.func104, Tryz.ntmps104
  go_wp2_with fail
  refine wp_loop_rounds 1 ?_
  rw [rounds_succ]; go_wp2_with fail
  go_end0
  exact ⟨rfl, rfl⟩
theorem pdqNilR (c : Value) (w : World) (n : Int) : Calls Tryz.prog 85 #[.slice none 0 0, .int .i64 0, .int .i64 0, .int .i64 n, c] w (RetS w (.tuple #[])) := by
  go_enter Tryz.func85, Tryz.ntmps85
  go_wp2_with fail
  refine wp_loop_rounds 1 ?_
  rw [rounds_succ]; go_wp2_with fail
  refine (insNilR c _).mono ?_
  rintro e w' ⟨rfl, rfl⟩
  go_wp2_with fail
  go_end0
  exact ⟨rfl, rfl⟩
theorem sortNilR (c : Value) (w : World) : Calls Tryz.prog 65 #[.slice none 0 0, c] w (RetS w (.tuple #[])) := by
  have hl := fun W => Any.bits_Len (SlLaysF0.n15.bits (P := _) (ρ := _) { Tryz.sortRoute with }) (0 : Int) W (by omega) (by omega)
  go_enter Tryz.func65, Tryz.ntmps65
  go_wp2_with fail
  refine (hl _).mono ?_
  rintro e w' ⟨rfl, rfl⟩
  go_wp2_with fail
  refine (pdqNilR c _ _).mono ?_
  rintro e w' ⟨rfl, rfl⟩
  go_wp2_with fail
  go_end0
  exact ⟨rfl, rfl⟩
end
namespace Ab
set_option maxRecDepth 100000
open Go.RowKit Go.Lib
set_option linter.unusedSimpArgs false
attribute [local irreducible] AWp AOps AQ AYield AEff ACall AWk AAny AAt AThen AIn APost NoPanic
def rteB (l : List Rte) : ABlk := .row 29 9 l.length (l.flatMap rteD)
theorem rteEq (x y : Rte) : eqCells (rteV x) (rteV y) = some (x == y) := by
  obtain ⟨⟨a, b⟩, f, d, m, t, i, h, q⟩ := x
  obtain ⟨⟨a', b'⟩, f', d', m', t', i', h', q'⟩ := y
  simp only [rteV, eqCells, eqV, if_true, mk_toList, Bool.and_true, Option.some.injEq]
  rw [Bool.eq_iff_iff]
  simp only [Bool.and_eq_true, beq_iff_eq, Rte.mk.injEq, Pfx.mk.injEq, and_assoc]
theorem sortR_A (l : List Rte) (hn : l.length ≤ 2147483648) : ACall Tryz.prog 65 [.row 1000, .fn 66 []] [(1000, rteB l)] (fun c h => c = .tup [] ∧ h = [(1000, rteB (srt ordR l))]) := by
  have := sortG (α := Rte) Tryz.sortRoute (f := 65) (el := 29) (k := 9) rfl (by kernel_rfl) (fun W => Tryz.isAgg29 W) (fun W => Tryz.sizeOf29 W) (enc := rteV) (fun _ => rfl)
    (fun x v hv => by simp [rteV] at hv; rcases hv with rfl | rfl | rfl | rfl | rfl | rfl | rfl | rfl | rfl <;> rfl) (eA := rteA) (fun _ => rfl) (fun _ => rfl) (eD := rteD) (fun _ => rfl) good_ordR ordR_eq' (g := 66) routesCmp_A (fun w => (sortNilR _ w).mono fun e w' h => ⟨h.1, h.2.symm⟩) l hn
  unfold rteB
  rw [srt_len]
  exact this
theorem clone_A (l : List Rte) (hl : l.length ≤ 2147483648) : ACall Tryz.prog 64 [rtesA l] [] (fun c h => c = .row 5 ∧ h = [(5, rteB l)]) := by
  refine ACall_of tabOk Tryz.func64 rfl Tryz.ntmps64 (congrArg Array.toList Tryz.results64) (by kernel_rfl) rfl ?_
  have hfl : (l.flatMap rteD).length = l.length * 9 := flat_len rteD_len l
  repeat (first | refine A_seq ?_ | refine A_block ?_ | refine R_list ?_ | refine R_quiet rfl mixed (by kernel_rfl) ?_ | ((first | apply O_y rfl rfl rfl | apply Q_y rfl rfl rfl); (first | exact q_1 | exact q_2 | exact q_3 | exact q_4 | exact q_5 | exact q_6 | exact q_7 | exact q_8 | exact q_9 | exact q_10 | exact q_11 | exact q_12 | exact q_13 | exact q_14 | exact q_15 | exact q_16 | exact q_17 | exact q_18 | exact q_19 | exact q_20 | exact q_21 | exact q_22 | exact q_23 | exact q_24 | fail)) | refine O_nil ?_ | refine Q_nil ?_ | refine q_j ?_ | refine q_k ?_ | refine q_d ?_ | refine q_a ?_ | refine q_b ?_ | refine q_c ?_ | refine A_ct rfl ?_ | refine A_cf rfl ?_ | refine A_skip ?_ | refine A_exit ?_ | refine A_ret ?_ | refine q_l ?_ | refine q_m ?_ | refine q_n ?_ | refine q_h ?_ | refine q_o ?_ | refine q_e ?_ | refine q_f ?_ | refine q_g ?_ | (refine O_nilEq tabOk rfl rfl rfl rfl rfl rfl ?_; intro b hb))
  cases b with
  | true =>
    have : l = [] := List.eq_nil_of_length_eq_zero (hb rfl).2
    subst this
    repeat (first | refine A_seq ?_ | refine A_block ?_ | refine R_list ?_ | refine R_quiet rfl mixed (by kernel_rfl) ?_ | ((first | apply O_y rfl rfl rfl | apply Q_y rfl rfl rfl); (first | exact q_1 | exact q_2 | exact q_3 | exact q_4 | exact q_5 | exact q_6 | exact q_7 | exact q_8 | exact q_9 | exact q_10 | exact q_11 | exact q_12 | exact q_13 | exact q_14 | exact q_15 | exact q_16 | exact q_17 | exact q_18 | exact q_19 | exact q_20 | exact q_21 | exact q_22 | exact q_23 | exact q_24 | fail)) | refine O_nil ?_ | refine Q_nil ?_ | refine q_j ?_ | refine q_k ?_ | refine q_d ?_ | refine q_a ?_ | refine q_b ?_ | refine q_c ?_ | refine A_ct rfl ?_ | refine A_cf rfl ?_ | refine A_skip ?_ | refine A_exit ?_ | refine A_ret ?_ | refine q_l ?_ | refine q_m ?_ | refine q_n ?_ | refine q_h ?_ | refine q_o ?_ | refine q_e ?_ | refine q_f ?_ | refine q_g ?_ | fail)
    exact X_retW (Wk_nil 29 9 (t := 2) (id := 5) rfl rfl) rfl (h2 := [(5, rteB [])]) ⟨rfl, trivial⟩ ⟨rfl, rfl⟩
  | false =>
    repeat (first | refine A_seq ?_ | refine A_block ?_ | refine R_list ?_ | refine R_quiet rfl mixed (by kernel_rfl) ?_ | ((first | apply O_y rfl rfl rfl | apply Q_y rfl rfl rfl); (first | exact q_1 | exact q_2 | exact q_3 | exact q_4 | exact q_5 | exact q_6 | exact q_7 | exact q_8 | exact q_9 | exact q_10 | exact q_11 | exact q_12 | exact q_13 | exact q_14 | exact q_15 | exact q_16 | exact q_17 | exact q_18 | exact q_19 | exact q_20 | exact q_21 | exact q_22 | exact q_23 | exact q_24 | fail)) | refine O_nil ?_ | refine Q_nil ?_ | refine q_j ?_ | refine q_k ?_ | refine q_d ?_ | refine q_a ?_ | refine q_b ?_ | refine q_c ?_ | refine A_ct rfl ?_ | refine A_cf rfl ?_ | refine A_skip ?_ | refine A_exit ?_ | refine A_ret ?_ | refine q_l ?_ | refine q_m ?_ | refine q_n ?_ | refine q_h ?_ | refine q_o ?_ | refine q_e ?_ | refine q_f ?_ | refine q_g ?_ | (first | refine O_slice0 tabOk rfl rfl rfl rfl rfl rfl rfl ?_ | (first | refine O_appR tabOk rfl rfl rfl rfl rfl rfl rfl rfl rfl rfl rfl (by first | exact Src.row rfl | exact Src.dat _ _ | exact Src.nil) hfl (by omega) ?_ | refine O_appN tabOk rfl rfl rfl rfl rfl rfl rfl rfl rfl rfl (by first | exact Src.row rfl | exact Src.dat _ _ | exact Src.nil) hfl (by omega) ?_)))
    exact X_retW AWk.refl rfl (h2 := [(5, rteB l)]) ⟨by rw [Nat.zero_add]; rfl, trivial⟩ ⟨rfl, rfl⟩
structure Cpt (l m : List Rte) (k q : Nat) : Prop where
  len : m.length = l.length
  q1 : q ≤ l.length
  kq : k < q
  k0 : 0 < k
  front : m.take k = dedA (l.take q)
  back : ∀ i, q ≤ i + 1 → m[i]? = l[i]?
theorem cpt_next {l m : List Rte} {k q : Nat} (C : Cpt l m k q) (h : q < l.length) (he : l[q - 1]'(by omega) = l[q]) : Cpt l m k (q + 1) := by
  have := C.kq
  have := C.k0
  refine ⟨C.len, by omega, by omega, C.k0, ?_, fun i hi => C.back i (by omega)⟩
  rw [ded_take l q (by omega) h, if_pos he, C.front]
theorem cpt_put {l m : List Rte} {k q : Nat} (C : Cpt l m k q) (h : q < l.length) (he : l[q - 1]'(by omega) ≠ l[q]) : Cpt l (m.set k l[q]) (k + 1) (q + 1) := by
  have h1 := C.kq
  have h2 := C.k0
  have h3 := C.len
  refine ⟨by rw [List.length_set, h3], by omega, by omega, by omega, ?_, fun i hi => ?_⟩
  · rw [ded_take l q (by omega) h, if_neg he, ← C.front, List.take_succ_eq_append_getElem (by rw [List.length_set]; omega), List.getElem_set_self, List.take_set_of_le (Nat.le_refl _)]
  · rw [List.getElem?_set_ne (by omega)]
    exact C.back i (by omega)
theorem win_at (l : List Rte) (k : Nat) (h : k < l.length) : win (l.flatMap rteD) (k * 9) 9 = rteD l[k] := win_flat0 rteD_len l k 9 h (by decide)
theorem win_part (l : List Rte) (a b : Nat) (h : a + b < l.length) : win (l.flatMap rteD) (a * 9 + b * 9) 9 = rteD l[a + b] := by rw [← Nat.add_mul]; exact win_at l (a + b) h
set_option maxHeartbeats 8000000 in
theorem compact_A (l : List Rte) (hn : l.length ≤ 2147483648) : ACall Tryz.prog 67 [.row 1000] [(1000, rteB l)] (fun c h => c = .row 100 ∧ h = [(100, rteB (dedA l))]) := by
  refine ACall_of tabOk Tryz.func67 rfl Tryz.ntmps67 (congrArg Array.toList Tryz.results67) (by kernel_rfl) rfl ?_
  refine A_weaken (Wk_rename (id := 100) (t := 0) rfl rfl) ?_
  by_cases h2 : l.length < 2
  · have hd : dedA l = l := by match l, h2 with | [], _ => rfl | [x], _ => rfl
    rw [hd]
    repeat (first | refine A_seq ?_ | refine A_block ?_ | refine R_list ?_ | refine R_quiet rfl mixed (by kernel_rfl) ?_ | ((first | apply O_y rfl rfl rfl | apply Q_y rfl rfl rfl); (first | exact q_1 | exact q_2 | exact q_3 | exact q_4 | exact q_5 | exact q_6 | exact q_7 | exact q_8 | exact q_9 | exact q_10 | exact q_11 | exact q_12 | exact q_13 | exact q_14 | exact q_15 | exact q_16 | exact q_17 | exact q_18 | exact q_19 | exact q_20 | exact q_21 | exact q_22 | exact q_23 | exact q_24 | fail)) | refine O_nil ?_ | refine Q_nil ?_ | refine q_j ?_ | refine q_k ?_ | refine q_d ?_ | refine q_a ?_ | refine q_b ?_ | refine q_c ?_ | refine A_ct rfl ?_ | refine A_cf rfl ?_ | refine A_skip ?_ | refine A_exit ?_ | refine A_ret ?_ | refine q_l ?_ | refine q_m ?_ | refine q_n ?_ | refine q_h ?_ | refine q_o ?_ | refine q_e ?_ | refine q_f ?_ | refine q_g ?_ | fail)
    exact X_retW AWk.refl rfl (h2 := [(100, rteB l)]) ⟨rfl, trivial⟩ ⟨rfl, rfl⟩
  ·
    repeat (first | refine A_seq ?_ | refine A_block ?_ | refine R_list ?_ | refine R_quiet rfl mixed (by kernel_rfl) ?_ | ((first | apply O_y rfl rfl rfl | apply Q_y rfl rfl rfl); (first | exact q_1 | exact q_2 | exact q_3 | exact q_4 | exact q_5 | exact q_6 | exact q_7 | exact q_8 | exact q_9 | exact q_10 | exact q_11 | exact q_12 | exact q_13 | exact q_14 | exact q_15 | exact q_16 | exact q_17 | exact q_18 | exact q_19 | exact q_20 | exact q_21 | exact q_22 | exact q_23 | exact q_24 | fail)) | refine O_nil ?_ | refine Q_nil ?_ | refine q_j ?_ | refine q_k ?_ | refine q_d ?_ | refine q_a ?_ | refine q_b ?_ | refine q_c ?_ | refine A_ct rfl ?_ | refine A_cf rfl ?_ | refine A_skip ?_ | refine A_exit ?_ | refine A_ret ?_ | refine q_l ?_ | refine q_m ?_ | refine q_n ?_ | refine q_h ?_ | refine q_o ?_ | refine q_e ?_ | refine q_f ?_ | refine q_g ?_ | fail)
    refine A_loop (fun k : Nat => [(0, .row 100), (3, intA (k : Int))]) (fun _ => [(100, rteB l)]) (fun k => 1 ≤ k ∧ k ≤ l.length ∧ dedA (l.take k) = l.take k) (fun k => l.length - k) 1 ⟨by omega, by omega, ?_⟩ (Wk_sel ⟨rfl, rfl, trivial⟩ ⟨rfl, trivial⟩) ?_
    · match l with
      | [] => rfl
      | x :: r => rfl
    rintro k ⟨hk1, hk2, hd⟩
    dsimp only
    by_cases hlt : k < l.length
    · have hlt1 : k - 1 < l.length := by omega
      have hk' : ((k : Int) - 1) = ((k - 1 : Nat) : Int) := by omega
      have heq := rteEq l[k] l[k - 1]
      have hw0 := win_at l k hlt
      have hw1 := win_at l (k - 1) hlt1
      by_cases he : l[k] = l[k - 1]
      · rw [show (l[k] == l[k - 1]) = true by simpa using he] at heq
        repeat (first | refine A_seq ?_ | refine A_block ?_ | refine R_list ?_ | refine R_quiet rfl mixed (by kernel_rfl) ?_ | ((first | apply O_y rfl rfl rfl | apply Q_y rfl rfl rfl); (first | exact q_1 | exact q_2 | exact q_3 | exact q_4 | exact q_5 | exact q_6 | exact q_7 | exact q_8 | exact q_9 | exact q_10 | exact q_11 | exact q_12 | exact q_13 | exact q_14 | exact q_15 | exact q_16 | exact q_17 | exact q_18 | exact q_19 | exact q_20 | exact q_21 | exact q_22 | exact q_23 | exact q_24 | (first | exact R_indexr tabOk rfl rfl rfl rfl rfl rfl hk' hlt1 | exact R_loade tabOk rfl rfl rfl rfl rfl rfl hw0 rfl rfl | exact R_loade tabOk rfl rfl rfl rfl rfl rfl hw1 rfl rfl | exact Y_eq tabOk noStand rfl rfl rfl rfl rfl rfl rfl rfl rfl (by kernel_rfl) heq rfl | exact R_rowFrom tabOk rfl rfl rfl rfl rfl rfl rfl (Nat.le_of_lt hlt)))) | refine O_nil ?_ | refine Q_nil ?_ | refine q_j ?_ | refine q_k ?_ | refine q_d ?_ | refine q_a ?_ | refine q_b ?_ | refine q_c ?_ | refine A_ct rfl ?_ | refine A_cf rfl ?_ | refine A_skip ?_ | refine A_exit ?_ | refine A_ret ?_ | refine q_l ?_ | refine q_m ?_ | refine q_n ?_ | refine q_h ?_ | refine q_o ?_ | refine q_e ?_ | refine q_f ?_ | refine q_g ?_ | fail)
        refine A_loop (fun x : Nat × Nat × List Rte => [(0, .row 100), (3, intA (x.1 : Int)), (4, .srow 100 (k * 9) (l.length - k)), (5, intA (x.2.1 : Int))]) (fun x => [(100, rteB x.2.2)]) (fun x => 1 ≤ x.2.1 ∧ Cpt l x.2.2 x.1 (k + x.2.1)) (fun x => l.length - x.2.1) (k, 1, l) ⟨Nat.le_refl _, rfl, hlt, Nat.lt_succ_self k, hk1, ?_, fun _ _ => rfl⟩ (Wk_sel ⟨rfl, rfl, rfl, rfl, trivial⟩ ⟨rfl, trivial⟩) ?_
        · rw [ded_take l k hk1 hlt, if_pos he.symm, hd]
        rintro ⟨K, j, m⟩ ⟨hj, C⟩
        dsimp only at hj C ⊢
        have c1 := C.len
        have c2 := C.q1
        have c3 := C.kq
        have c4 := C.k0
        by_cases hq : k + j < l.length
        · have hjk : j < l.length - k := by omega
          have hjk1 : j - 1 < l.length - k := by omega
          have hj' : ((j : Int) - 1) = ((j - 1 : Nat) : Int) := by omega
          have e1 : m[k + j]'(by omega) = l[k + j] := by
            have := C.back (k + j) (by omega)
            rw [List.getElem?_eq_getElem (by omega), List.getElem?_eq_getElem hq] at this
            exact Option.some.inj this
          have e2 : m[k + (j - 1)]'(by omega) = l[k + j - 1] := by
            have := C.back (k + (j - 1)) (by omega)
            rw [List.getElem?_eq_getElem (by omega), List.getElem?_eq_getElem (show k + (j - 1) < l.length by omega)] at this
            rw [Option.some.inj this]
            congr 1
            omega
          have hw2 := win_part m k j (by omega)
          have hw3 := win_part m k (j - 1) (by omega)
          rw [e1] at hw2
          rw [e2] at hw3
          have heq2 := rteEq l[k + j] l[k + j - 1]
          by_cases hs : l[k + j - 1] = l[k + j]
          · rw [show (l[k + j] == l[k + j - 1]) = true by simpa using hs.symm] at heq2
            repeat (first | refine A_seq ?_ | refine A_block ?_ | refine R_list ?_ | refine R_quiet rfl mixed (by kernel_rfl) ?_ | ((first | apply O_y rfl rfl rfl | apply Q_y rfl rfl rfl); (first | exact q_1 | exact q_2 | exact q_3 | exact q_4 | exact q_5 | exact q_6 | exact q_7 | exact q_8 | exact q_9 | exact q_10 | exact q_11 | exact q_12 | exact q_13 | exact q_14 | exact q_15 | exact q_16 | exact q_17 | exact q_18 | exact q_19 | exact q_20 | exact q_21 | exact q_22 | exact q_23 | exact q_24 | (first | exact R_lens tabOk rfl rfl rfl rfl | exact R_indexs tabOk rfl rfl rfl rfl rfl rfl rfl hjk | exact R_indexs tabOk rfl rfl rfl rfl rfl rfl rfl hjk1 | exact R_indexs tabOk rfl rfl rfl rfl rfl rfl hj' hjk1 | exact R_loade tabOk rfl rfl rfl rfl rfl rfl hw2 rfl rfl | exact R_loade tabOk rfl rfl rfl rfl rfl rfl hw3 rfl rfl | exact Y_eq tabOk noStand rfl rfl rfl rfl rfl rfl rfl rfl rfl (by kernel_rfl) heq2 rfl))) | refine O_nil ?_ | refine Q_nil ?_ | refine q_j ?_ | refine q_k ?_ | refine q_d ?_ | refine q_a ?_ | refine q_b ?_ | refine q_c ?_ | refine A_ct rfl ?_ | refine A_cf rfl ?_ | refine A_skip ?_ | refine A_exit ?_ | refine A_ret ?_ | refine q_l ?_ | refine q_m ?_ | refine q_n ?_ | refine q_h ?_ | refine q_o ?_ | refine q_e ?_ | refine q_f ?_ | refine q_g ?_ | fail)
            exact ⟨(K, j + 1, m), ⟨by dsimp only; omega, by dsimp only; exact cpt_next C hq hs⟩, by dsimp only; omega, Wk_sel ⟨rfl, rfl, rfl, rfl, trivial⟩ ⟨rfl, trivial⟩⟩
          · rw [show (l[k + j] == l[k + j - 1]) = false by simpa using fun h => hs h.symm] at heq2
            have hKm : K < m.length := by omega
            have hfl : (m.flatMap rteD).length = m.length * 9 := flat_len rteD_len m
            repeat (first | refine A_seq ?_ | refine A_block ?_ | refine R_list ?_ | refine R_quiet rfl mixed (by kernel_rfl) ?_ | ((first | apply O_y rfl rfl rfl | apply Q_y rfl rfl rfl); (first | exact q_1 | exact q_2 | exact q_3 | exact q_4 | exact q_5 | exact q_6 | exact q_7 | exact q_8 | exact q_9 | exact q_10 | exact q_11 | exact q_12 | exact q_13 | exact q_14 | exact q_15 | exact q_16 | exact q_17 | exact q_18 | exact q_19 | exact q_20 | exact q_21 | exact q_22 | exact q_23 | exact q_24 | (first | exact R_lens tabOk rfl rfl rfl rfl | exact R_indexs tabOk rfl rfl rfl rfl rfl rfl rfl hjk | exact R_indexs tabOk rfl rfl rfl rfl rfl rfl rfl hjk1 | exact R_indexs tabOk rfl rfl rfl rfl rfl rfl hj' hjk1 | exact R_loade tabOk rfl rfl rfl rfl rfl rfl hw2 rfl rfl | exact R_loade tabOk rfl rfl rfl rfl rfl rfl hw3 rfl rfl | exact Y_eq tabOk noStand rfl rfl rfl rfl rfl rfl rfl rfl rfl (by kernel_rfl) heq2 rfl | exact R_indexr tabOk rfl rfl rfl rfl rfl rfl rfl hKm))) | refine O_nil ?_ | refine Q_nil ?_ | refine q_j ?_ | refine q_k ?_ | refine q_d ?_ | refine q_a ?_ | refine q_b ?_ | refine q_c ?_ | refine A_ct rfl ?_ | refine A_cf rfl ?_ | refine A_skip ?_ | refine A_exit ?_ | refine A_ret ?_ | refine q_l ?_ | refine q_m ?_ | refine q_n ?_ | refine q_h ?_ | refine q_o ?_ | refine q_e ?_ | refine q_f ?_ | refine q_g ?_ | (refine O_storee tabOk rfl rfl rfl rfl rfl rfl rfl rfl rfl rfl (by rw [hfl]; omega) (by omega) ?_))
            exact ⟨(K + 1, j + 1, m.set K l[k + j]), ⟨by dsimp only; omega, by dsimp only; exact cpt_put C hq hs⟩, by dsimp only; omega, Wk_sel ⟨rfl, rfl, rfl, rfl, trivial⟩ ⟨row_eq (by dsimp only; rw [List.length_set]) (flat_set rteD_len m K l[k + j] hKm) rfl, trivial⟩⟩
        · have hK : K ≤ m.length := by omega
          have hq2 : k + j = l.length := by omega
          have hfl : (m.flatMap rteD).length = m.length * 9 := flat_len rteD_len m
          have hjl : ¬ ((j : Int) < ((l.length - k : Nat) : Int)) := by omega
          repeat (first | refine A_seq ?_ | refine A_block ?_ | refine R_list ?_ | refine R_quiet rfl mixed (by kernel_rfl) ?_ | ((first | apply O_y rfl rfl rfl | apply Q_y rfl rfl rfl); (first | exact q_1 | exact q_2 | exact q_3 | exact q_4 | exact q_5 | exact q_6 | exact q_7 | exact q_8 | exact q_9 | exact q_10 | exact q_11 | exact q_12 | exact q_13 | exact q_14 | exact q_15 | exact q_16 | exact q_17 | exact q_18 | exact q_19 | exact q_20 | exact q_21 | exact q_22 | exact q_23 | exact q_24 | (first | exact R_lens tabOk rfl rfl rfl rfl | exact R_rowFrom tabOk rfl rfl rfl rfl rfl rfl rfl hK))) | refine O_nil ?_ | refine Q_nil ?_ | refine q_j ?_ | refine q_k ?_ | refine q_d ?_ | refine q_a ?_ | refine q_b ?_ | refine q_c ?_ | refine A_ct rfl ?_ | refine A_cf rfl ?_ | refine A_skip ?_ | refine A_exit ?_ | refine A_ret ?_ | refine q_l ?_ | refine q_m ?_ | refine q_n ?_ | refine q_h ?_ | refine q_o ?_ | refine q_e ?_ | refine q_f ?_ | refine q_g ?_ | fail)
          refine O_clear tabOk rfl rfl rfl rfl rfl rfl rfl rfl (by rw [Nat.sub_mul]; have := Nat.mul_le_mul_right 9 hK; omega) fun zs hzs => ?_
          repeat (first | refine A_seq ?_ | refine A_block ?_ | refine R_list ?_ | refine R_quiet rfl mixed (by kernel_rfl) ?_ | ((first | apply O_y rfl rfl rfl | apply Q_y rfl rfl rfl); (first | exact q_1 | exact q_2 | exact q_3 | exact q_4 | exact q_5 | exact q_6 | exact q_7 | exact q_8 | exact q_9 | exact q_10 | exact q_11 | exact q_12 | exact q_13 | exact q_14 | exact q_15 | exact q_16 | exact q_17 | exact q_18 | exact q_19 | exact q_20 | exact q_21 | exact q_22 | exact q_23 | exact q_24 | fail)) | refine O_nil ?_ | refine Q_nil ?_ | refine q_j ?_ | refine q_k ?_ | refine q_d ?_ | refine q_a ?_ | refine q_b ?_ | refine q_c ?_ | refine A_ct rfl ?_ | refine A_cf rfl ?_ | refine A_skip ?_ | refine A_exit ?_ | refine A_ret ?_ | refine q_l ?_ | refine q_m ?_ | refine q_n ?_ | refine q_h ?_ | refine q_o ?_ | refine q_e ?_ | refine q_f ?_ | refine q_g ?_ | (refine O_rowTo tabOk rfl rfl rfl rfl rfl rfl rfl rfl rfl rfl rfl hK ?_))
          have hfr : (setW (m.flatMap rteD) (K * 9) zs).take (K * 9) = (dedA l).flatMap rteD := by
            unfold setW
            rw [List.take_append_of_le_length (by rw [List.length_append, List.length_take, hfl]; have := Nat.mul_le_mul_right 9 hK; omega), List.take_append_of_le_length (by rw [List.length_take, hfl]; have := Nat.mul_le_mul_right 9 hK; omega), List.take_take, Nat.min_self, flat_take rteD_len, C.front, hq2, List.take_length]
          have hlK : K = (dedA l).length := by
            have := congrArg List.length C.front
            rw [hq2, List.take_length, List.length_take] at this
            omega
          exact X_retW AWk.refl rfl (h2 := [(100, rteB (dedA l))]) ⟨row_eq hlK hfr rfl, trivial⟩ ⟨rfl, rfl⟩
      · rw [show (l[k] == l[k - 1]) = false by simpa using he] at heq
        repeat (first | refine A_seq ?_ | refine A_block ?_ | refine R_list ?_ | refine R_quiet rfl mixed (by kernel_rfl) ?_ | ((first | apply O_y rfl rfl rfl | apply Q_y rfl rfl rfl); (first | exact q_1 | exact q_2 | exact q_3 | exact q_4 | exact q_5 | exact q_6 | exact q_7 | exact q_8 | exact q_9 | exact q_10 | exact q_11 | exact q_12 | exact q_13 | exact q_14 | exact q_15 | exact q_16 | exact q_17 | exact q_18 | exact q_19 | exact q_20 | exact q_21 | exact q_22 | exact q_23 | exact q_24 | (first | exact R_indexr tabOk rfl rfl rfl rfl rfl rfl hk' hlt1 | exact R_loade tabOk rfl rfl rfl rfl rfl rfl hw0 rfl rfl | exact R_loade tabOk rfl rfl rfl rfl rfl rfl hw1 rfl rfl | exact Y_eq tabOk noStand rfl rfl rfl rfl rfl rfl rfl rfl rfl (by kernel_rfl) heq rfl))) | refine O_nil ?_ | refine Q_nil ?_ | refine q_j ?_ | refine q_k ?_ | refine q_d ?_ | refine q_a ?_ | refine q_b ?_ | refine q_c ?_ | refine A_ct rfl ?_ | refine A_cf rfl ?_ | refine A_skip ?_ | refine A_exit ?_ | refine A_ret ?_ | refine q_l ?_ | refine q_m ?_ | refine q_n ?_ | refine q_h ?_ | refine q_o ?_ | refine q_e ?_ | refine q_f ?_ | refine q_g ?_ | fail)
        exact ⟨k + 1, ⟨by omega, by omega, by rw [ded_take l k hk1 hlt, if_neg fun h => he h.symm, hd, ← List.take_succ_eq_append_getElem hlt]⟩, by omega, Wk_sel ⟨rfl, rfl, trivial⟩ ⟨rfl, trivial⟩⟩
    · have : k = l.length := by omega
      subst this
      rw [List.take_length] at hd
      rw [hd]
      repeat (first | refine A_seq ?_ | refine A_block ?_ | refine R_list ?_ | refine R_quiet rfl mixed (by kernel_rfl) ?_ | ((first | apply O_y rfl rfl rfl | apply Q_y rfl rfl rfl); (first | exact q_1 | exact q_2 | exact q_3 | exact q_4 | exact q_5 | exact q_6 | exact q_7 | exact q_8 | exact q_9 | exact q_10 | exact q_11 | exact q_12 | exact q_13 | exact q_14 | exact q_15 | exact q_16 | exact q_17 | exact q_18 | exact q_19 | exact q_20 | exact q_21 | exact q_22 | exact q_23 | exact q_24 | fail)) | refine O_nil ?_ | refine Q_nil ?_ | refine q_j ?_ | refine q_k ?_ | refine q_d ?_ | refine q_a ?_ | refine q_b ?_ | refine q_c ?_ | refine A_ct rfl ?_ | refine A_cf rfl ?_ | refine A_skip ?_ | refine A_exit ?_ | refine A_ret ?_ | refine q_l ?_ | refine q_m ?_ | refine q_n ?_ | refine q_h ?_ | refine q_o ?_ | refine q_e ?_ | refine q_f ?_ | refine q_g ?_ | fail)
      exact X_retW AWk.refl rfl (h2 := [(100, rteB l)]) ⟨rfl, trivial⟩ ⟨rfl, rfl⟩
end Ab
end Go.Proofs.YtamnhhjcgloceaaGreat

namespace Go.Proofs.YtamnhhjcgloceaaGreat
set_option linter.unusedVariables false
def winB (l : List Rte) (r : Rte) : Bool := l.all fun s => !(decide (s.p = r.p) && decide (rank s r < 0))
def takeR (l : List Rte) : List Rte := sortU ordR (l.filter (winB l))
theorem least {α : Type} {c : α → α → Int} (G : Good c) : ∀ (l : List α), l ≠ [] → ∃ b ∈ l, ∀ s ∈ l, c b s ≤ 0
  | [], h => absurd rfl h
  | [x], _ => ⟨x, List.mem_cons_self .., fun s hs => by rcases List.mem_cons.1 hs with rfl | h; exact Int.le_of_eq (G.refl _); cases h⟩
  | x :: y :: r, _ => by
    obtain ⟨b, hb, hl⟩ := least G (y :: r) (by simp)
    rcases Int.lt_or_le 0 (c x b) with h | h
    · refine ⟨b, List.mem_cons_of_mem _ hb, fun s hs => ?_⟩
      rcases List.mem_cons.1 hs with rfl | hs
      · have := G.anti s b; omega
      · exact hl s hs
    · refine ⟨x, List.mem_cons_self .., fun s hs => ?_⟩
      rcases List.mem_cons.1 hs with rfl | hs
      · exact Int.le_of_eq (G.refl _)
      · exact G.trans _ _ _ h (hl s hs)
structure Kept (l : List Rte) (es : List (Pfx × Rte)) : Prop where
  mem : ∀ e ∈ es, e.2 ∈ l ∧ e.2.p = e.1
  all : ∀ r ∈ l, ∃ e ∈ es, e.1 = r.p ∧ rank e.2 r ≤ 0
end Go.Proofs.YtamnhhjcgloceaaGreat

namespace Go.Proofs.YtamnhhjcgloceaaGreat.Ab
set_option linter.unusedVariables false
open Go.RowKit
def fn0 (f : FuncId) : AVal := .d (.sc (.func (.func f) #[] #[]))
section
variable {P : Program} {nt : Nat} {Q : Post} {e : Env} {h : Heap} {ops : Array Oper} {o : Oper} {rest : List Oper} {T : List Nat} {tab : TTab} {fuel i : Nat} {listed : Array Bool}
end
end Go.Proofs.YtamnhhjcgloceaaGreat.Ab

namespace Go.Proofs.YtamnhhjcgloceaaGreat.Ab
set_option linter.unusedVariables false
set_option maxRecDepth 100000
open Go.RowKit Go.Lib
set_option linter.unusedSimpArgs false
attribute [local irreducible] AWp AOps AQ AYield AEff ACall AWk AAny AAt AThen AIn APost NoPanic
theorem look_one' {a b p i : Nat} (h : look [(a, b)] p = some i) : p = a ∧ i = b := by
  by_cases h1 : a = p
  · subst h1; rw [look_cons_same] at h; cases h; exact ⟨rfl, rfl⟩
  · rw [look_cons_ne _ _ h1] at h; cases h
theorem sort_R (l : List Rte) (hl : l.length ≤ 2147483648) : ACall Tryz.prog 48 [rtesA l] [] (fun c h => c = .row 5 ∧ h = [(5, rteB (sortU ordR l))]) := by
  have h1 := clone_A l hl
  have h2 := sortR_A l hl
  have h3 := compact_A (srt ordR l) (by rw [srt_len]; exact hl)
  refine ACall_of tabOk Tryz.func48 rfl Tryz.ntmps48 (congrArg Array.toList Tryz.results48) (by kernel_rfl) rfl ?_
  repeat (first | refine A_seq ?_ | refine A_block ?_ | refine R_list ?_ | refine R_quiet rfl mixed (by kernel_rfl) ?_ | ((first | apply O_y rfl rfl rfl | apply Q_y rfl rfl rfl); (first | exact q_1 | exact q_2 | exact q_3 | exact q_4 | exact q_5 | exact q_6 | exact q_7 | exact q_8 | exact q_9 | exact q_10 | exact q_11 | exact q_12 | exact q_13 | exact q_14 | exact q_15 | exact q_16 | exact q_17 | exact q_18 | exact q_19 | exact q_20 | exact q_21 | exact q_22 | exact q_23 | exact q_24 | fail)) | refine O_nil ?_ | refine Q_nil ?_ | refine q_j ?_ | refine q_k ?_ | refine q_d ?_ | refine q_a ?_ | refine q_b ?_ | refine q_c ?_ | refine A_ct rfl ?_ | refine A_cf rfl ?_ | refine A_skip ?_ | refine A_exit ?_ | refine A_ret ?_ | refine q_l ?_ | refine q_m ?_ | refine q_n ?_ | refine q_h ?_ | refine q_o ?_ | refine q_e ?_ | refine q_f ?_ | refine q_g ?_ | fail)
  refine O_cRow rfl rfl rfl rfl rfl h1 rfl ?_
  repeat (first | refine A_seq ?_ | refine A_block ?_ | refine R_list ?_ | refine R_quiet rfl mixed (by kernel_rfl) ?_ | ((first | apply O_y rfl rfl rfl | apply Q_y rfl rfl rfl); (first | exact q_1 | exact q_2 | exact q_3 | exact q_4 | exact q_5 | exact q_6 | exact q_7 | exact q_8 | exact q_9 | exact q_10 | exact q_11 | exact q_12 | exact q_13 | exact q_14 | exact q_15 | exact q_16 | exact q_17 | exact q_18 | exact q_19 | exact q_20 | exact q_21 | exact q_22 | exact q_23 | exact q_24 | fail)) | refine O_nil ?_ | refine Q_nil ?_ | refine q_j ?_ | refine q_k ?_ | refine q_d ?_ | refine q_a ?_ | refine q_b ?_ | refine q_c ?_ | refine A_ct rfl ?_ | refine A_cf rfl ?_ | refine A_skip ?_ | refine A_exit ?_ | refine A_ret ?_ | refine q_l ?_ | refine q_m ?_ | refine q_n ?_ | refine q_h ?_ | refine q_o ?_ | refine q_e ?_ | refine q_f ?_ | refine q_g ?_ | fail)
  refine O_cP [(1000, 5)] (fun p p' i h1 h2 => by rw [(look_one' h1).1, (look_one' h2).1]) (fun p i h1 => by rw [(look_one' h1).1]; exact ⟨Nat.le_refl _, rfl, rfl⟩) h2 (fun c hc => by simp at hc; rcases hc with rfl | rfl <;> rfl) ⟨⟨5, _, rfl, rfl, rfl, trivial⟩, trivial⟩ rfl rfl rfl rfl rfl rfl ?_
  repeat (first | refine A_seq ?_ | refine A_block ?_ | refine R_list ?_ | refine R_quiet rfl mixed (by kernel_rfl) ?_ | ((first | apply O_y rfl rfl rfl | apply Q_y rfl rfl rfl); (first | exact q_1 | exact q_2 | exact q_3 | exact q_4 | exact q_5 | exact q_6 | exact q_7 | exact q_8 | exact q_9 | exact q_10 | exact q_11 | exact q_12 | exact q_13 | exact q_14 | exact q_15 | exact q_16 | exact q_17 | exact q_18 | exact q_19 | exact q_20 | exact q_21 | exact q_22 | exact q_23 | exact q_24 | fail)) | refine O_nil ?_ | refine Q_nil ?_ | refine q_j ?_ | refine q_k ?_ | refine q_d ?_ | refine q_a ?_ | refine q_b ?_ | refine q_c ?_ | refine A_ct rfl ?_ | refine A_cf rfl ?_ | refine A_skip ?_ | refine A_exit ?_ | refine A_ret ?_ | refine q_l ?_ | refine q_m ?_ | refine q_n ?_ | refine q_h ?_ | refine q_o ?_ | refine q_e ?_ | refine q_f ?_ | refine q_g ?_ | fail)
  refine O_cM rfl rfl rfl rfl rfl h3 rfl (fun c hc => by simp at hc; subst hc; rfl) rfl rfl ?_
  repeat (first | refine A_seq ?_ | refine A_block ?_ | refine R_list ?_ | refine R_quiet rfl mixed (by kernel_rfl) ?_ | ((first | apply O_y rfl rfl rfl | apply Q_y rfl rfl rfl); (first | exact q_1 | exact q_2 | exact q_3 | exact q_4 | exact q_5 | exact q_6 | exact q_7 | exact q_8 | exact q_9 | exact q_10 | exact q_11 | exact q_12 | exact q_13 | exact q_14 | exact q_15 | exact q_16 | exact q_17 | exact q_18 | exact q_19 | exact q_20 | exact q_21 | exact q_22 | exact q_23 | exact q_24 | fail)) | refine O_nil ?_ | refine Q_nil ?_ | refine q_j ?_ | refine q_k ?_ | refine q_d ?_ | refine q_a ?_ | refine q_b ?_ | refine q_c ?_ | refine A_ct rfl ?_ | refine A_cf rfl ?_ | refine A_skip ?_ | refine A_exit ?_ | refine A_ret ?_ | refine q_l ?_ | refine q_m ?_ | refine q_n ?_ | refine q_h ?_ | refine q_o ?_ | refine q_e ?_ | refine q_f ?_ | refine q_g ?_ | fail)
  exact X_retW AWk.refl rfl (h2 := [(5, rteB (sortU ordR l))]) ⟨rfl, trivial⟩ ⟨rfl, rfl⟩
def rteB1 (r : Rte) : ABlk := .var ((rteD r).map AVal.d)
end Go.Proofs.YtamnhhjcgloceaaGreat.Ab

namespace Go.Proofs.YtamnhhjcgloceaaGreat.Ab
set_option linter.unusedVariables false
set_option maxRecDepth 100000
open Go.RowKit Go.Lib
set_option linter.unusedSimpArgs false
attribute [local irreducible] AWp AOps AQ AYield AEff ACall AWk AAny AAt AThen AIn APost NoPanic
def rte0 : Rte := ⟨⟨0, 0⟩, 0, 0, 0, 0, [], 0, false⟩
def bestB (l : List (Pfx × Rte)) : ABlk := .map (ents pfxA rteA l)
theorem take_snoc {α : Type} (l : List α) (k : Nat) (h : k < l.length) : l.take (k + 1) = l.take k ++ [l[k]] := List.take_succ_eq_append_getElem h
def okR (r : Rte) : Prop := (0 ≤ r.f ∧ r.f < 256) ∧ r.p.ok
end Go.Proofs.YtamnhhjcgloceaaGreat.Ab

namespace Go.Proofs.YtamnhhjcgloceaaGreat.Ab
set_option linter.unusedVariables false
open Go.RowKit
section
variable {P : Program} {nt : Nat} {Q : Post} {e : Env} {h : Heap} {ops : Array Oper} {o : Oper} {rest : List Oper} {T : List Nat} {tab : TTab} {fuel i : Nat} {listed : Array Bool}
theorem E_appendD {t el : TypeId} {te te' : TE} {d : Option Tmp} {x y : Operand} {n m : Nat} {cy : AVal} {cs ds : List Dat} (TO : TabOk P tab) (ho : o.op = .call { callee := .builtin .append, args := #[x, y], argTypes := #[t, t] }) (hdst : o.dst = d)
    (ht : tlook tab t = some te) (hs : te.sh = .sl el) (hel : tlook tab el = some te') (hk : Nat.blt 0 te'.size = true) (hk2 : Nat.beq te'.zero.length te'.size = true) (hb : Nat.ble te'.bytes 65536 = true)
    (hx : aev e x = some (.full cs n)) (hcs : cs.length = n * te'.size) (hy : aev e y = some cy) (S : Src h cy m ds) (hm : 0 < m) (hl : ds.length = m * te'.size) (hn : n + m ≤ 2147483648) (hd : dstOk nt d = true) :
    AEff P nt T e h o (fun e' h' => e' = aput d (.d (.sl (cs ++ ds) (n + m))) e ∧ h' = h) := fun Pm F w0 pin ι a w R K Qx hK => by
  have hk' : 0 < te'.size := by simp [Nat.blt] at hk; omega
  obtain ⟨news, hnl, hnr, hsrc⟩ := S.cells R.heap (aev_rel R.env hy)
  have hone : ∀ u ∈ news, u.oneCell' = true := fun u hu => by
    obtain ⟨i, hi⟩ := List.mem_iff_getElem?.1 hu
    have hlt : i < ds.length := by rw [← hnl]; exact (List.getElem?_eq_some_iff.1 hi).1
    exact (hnr i ds[i] u (List.getElem?_eq_getElem hlt) hi).one
  have hsrc' : ∃ b o' c', a.eval y = .slice (some ⟨b, o', none⟩) m c' ∧ ∀ (j : Nat) (x : Value), news[j]? = some x → w.cell? ⟨b, o' + j, none⟩ = some x := by
    rcases hsrc with ⟨_, h2, _⟩ | h1
    · omega
    · exact h1
  have hxv := aev_rel R.env hx
  obtain ⟨ux, hux⟩ : ∃ ux, a.eval x = ux := ⟨_, rfl⟩
  rw [hux] at hxv
  cases hxv with
  | full _ _ b hD =>
  obtain ⟨olds, hol, hor, hold⟩ : ∃ olds : List Value, olds.length = cs.length ∧ (∀ (i : Nat) (c : Dat) (u : Value), cs[i]? = some c → olds[i]? = some u → DRel w (FreeB F ι) c u) ∧ ((b = none ∧ n = 0) ∨ ∃ g o, b = some ⟨g, o, none⟩ ∧ ∀ (j : Nat) (x : Value), olds[j]? = some x → w.cell? ⟨g, o + j, none⟩ = some x) := by
    cases hD with
    | nil => exact ⟨[], rfl, by simp, .inl ⟨rfl, rfl⟩⟩
    | sl _ _ b o cap vs hn hl hf hc hr => exact ⟨vs, hl, hr, .inr ⟨b, o, rfl, hc⟩⟩
  obtain ⟨v', w', hr, hown', hg⟩ := run_appF (P := P) (ty := o.type) w (TO t te ht) hs (TO el te' hel) hk' (Nat.eq_of_beq_eq_true hk2) b n olds (by rw [hol, hcs]) hold (a.eval y) m news hm (by rw [hnl, hl]) hsrc' hone hn (Nat.le_of_ble_eq_true hb)
  have G : Grew w w' := ⟨hg.os, hg.tape, hg.output, hg.size, fun r hr1 => hg.block r hr1 (by simp)⟩
  have hrun : (execOp a.eval o).run P w = .ok (.value v') w' := by
    simp [execOp, ho, resolve, invoke, builtin, hux, hr]
  have hDR : DRel w' (FreeB F ι) (.sl (cs ++ ds) (n + m)) v' := by
    rcases hown'.2 with ⟨_, h0⟩ | ⟨g, cap, cur, rfl, hge, hg2, hnc, _⟩
    · omega
    · refine .sl _ _ g 0 cap (olds ++ news) hnc (by simp [hol, hnl]) (fun _ => ⟨fun hF => ?_, fun id v hv hb2 => ?_⟩) (fun i u hu => ?_) fun i c u h1 h2 => ?_
      · have := R.heap.forb g hF
        have := R.heap.size
        omega
      · have := R.heap.lt hv hb2
        omega
      · have := hown'.cells (g := g) rfl i u hu
        rwa [Addr.add_mid] at this
      · rw [List.getElem?_append] at h1 h2
        rw [hol] at h2
        split at h1
        · rename_i hlt; rw [if_pos hlt] at h2; exact (hor _ _ _ h1 h2).ext (fun r hr _ => G.mem r hr) fun _ _ hf => hf
        · rename_i hlt; rw [if_neg hlt] at h2; exact (hnr _ _ _ h1 h2).ext (fun r hr _ => G.mem r hr) fun _ _ hf => hf
  unfold Oper.wp
  rw [hrun, Oper.upon_value, hdst]
  exact hK ι _ _ _ w' ⟨rfl, rfl⟩ ((R.grew G).put hd (.d _ _ hDR)) ⟨G.ct T, fun id _ v r h1 h2 _ => ⟨v, h1, h2⟩⟩ (put_defers _ _ _)
theorem T_appD {t el k n m d : Nat} {x y : Operand} {cy : AVal} {cs ds : List Dat} (TO : TabOk P tab) (hi : ops[i]? = some o) (hw : awant ops e o = some true) (hdst : o.dst = some d) (hd : Nat.blt d nt = true) (ho : o.op = .call { callee := .builtin .append, args := #[x, y], argTypes := #[t, t] })
    (hel : telem tab t = some el) (hsz : tsize tab el = some k) (hok : (match tlook tab el with | some te => Nat.blt 0 te.size && Nat.beq te.zero.length te.size && Nat.ble te.bytes 65536 | none => false) = true)
    (hx : aev e x = some (.full cs n)) (hy : aev e y = some cy) (S : Src h cy m ds) (hcs : cs.length = n * k) (hm : 0 < m) (hl : ds.length = m * k) (hn : n + m ≤ 2147483648)
    (HK : AAny P nt ops Q T fuel (listed.setIfInBounds i true) ((d, .d (.sl (cs ++ ds) (n + m))) :: e) h) : AAt P nt ops Q T fuel listed i e h := by
  obtain ⟨te, h1, h2⟩ := telem_spec hel
  obtain ⟨te', h3, rfl⟩ := tsize_spec hsz
  rw [h3] at hok
  simp only [Bool.and_eq_true] at hok
  exact T_eff hi hw (E_appendD TO ho hdst h1 h2 h3 hok.1.1 hok.1.2 hok.2 hx hcs hy S hm hl hn hd) fun e' h' ⟨h4, h5⟩ => by subst h4 h5; exact HK
end
end Go.Proofs.YtamnhhjcgloceaaGreat.Ab

/-
  Texts of a proof, one behind the other (part 11).
-/
import Derived.Test.YtenolkolkpfjgaaGreatFt8
set_option linter.unusedVariables false
set_option linter.unusedSimpArgs false
namespace Go.Proofs.YtenolkolkpfjgaaGreat.Ab
set_option linter.unusedVariables false
set_option maxRecDepth 100000
open Go.RowKit Go.Lib
set_option linter.unusedSimpArgs false
attribute [local irreducible] AWp AOps AQ AYield AEff ACall AWk AAny AAt AThen AIn APost NoPanic
theorem nan_int (x : Int) : ACall Tryz.prog 76 [.d (.sc (.int .i64 x))] [] (Just (boolA false)) := by
  refine ACall_of tabOk Tryz.func76 rfl Tryz.ntmps76 (congrArg Array.toList Tryz.results76) (by kernel_rfl) rfl ?_
  repeat (first | refine q_Z ?_ | refine R_quiet rfl mixed (by kernel_rfl) ?_ | ((first | apply O_y rfl rfl rfl | apply Q_y rfl rfl rfl); (first | exact q_A | exact q_5 | exact q_B)) | refine q_d ?_ | refine q_a ?_ | refine q_b ?_ | refine q_c ?_ | refine A_ct rfl ?_ | refine A_cf rfl ?_ | refine q_W ?_)
  exact X_ret rfl ⟨rfl, rfl⟩
theorem compare_int (x y : Int) : ACall Tryz.prog 50 [.d (.sc (.int .i64 x)), .d (.sc (.int .i64 y))] [] (Just (intA (c2 x y))) := by
  have hx := nan_int x
  have hy := nan_int y
  refine ACall_of tabOk Tryz.func50 rfl Tryz.ntmps50 (congrArg Array.toList Tryz.results50) (by kernel_rfl) rfl ?_
  unfold c2
  by_cases h1 : x < y
  · rw [if_pos h1]
    repeat (first | refine q_Z ?_ | refine R_quiet rfl mixed (by kernel_rfl) ?_ | ((first | apply O_y rfl rfl rfl | apply Q_y rfl rfl rfl); (first | exact q_A | exact q_5 | exact q_B)) | refine q_d ?_ | refine q_a ?_ | refine q_b ?_ | refine q_c ?_ | refine A_ct rfl ?_ | refine A_cf rfl ?_ | refine q_W ?_ | (first | refine O_c rfl rfl rfl rfl rfl hx (fun _ => rfl) ?_ | refine O_c rfl rfl rfl rfl rfl hy (fun _ => rfl) ?_ | refine Q_c rfl rfl rfl rfl rfl hx rfl (fun _ _ _ => val_mk _ _ _ _ _ rfl rfl) ?_ | refine Q_c rfl rfl rfl rfl rfl hy rfl (fun _ _ _ => val_mk _ _ _ _ _ rfl rfl) ?_))
    exact X_ret rfl ⟨rfl, rfl⟩
  · rw [if_neg h1]
    by_cases h2 : y < x
    · rw [if_pos h2]
      repeat (first | refine q_Z ?_ | refine R_quiet rfl mixed (by kernel_rfl) ?_ | ((first | apply O_y rfl rfl rfl | apply Q_y rfl rfl rfl); (first | exact q_A | exact q_5 | exact q_B)) | refine q_d ?_ | refine q_a ?_ | refine q_b ?_ | refine q_c ?_ | refine A_ct rfl ?_ | refine A_cf rfl ?_ | refine q_W ?_ | (first | refine O_c rfl rfl rfl rfl rfl hx (fun _ => rfl) ?_ | refine O_c rfl rfl rfl rfl rfl hy (fun _ => rfl) ?_ | refine Q_c rfl rfl rfl rfl rfl hx rfl (fun _ _ _ => val_mk _ _ _ _ _ rfl rfl) ?_ | refine Q_c rfl rfl rfl rfl rfl hy rfl (fun _ _ _ => val_mk _ _ _ _ _ rfl rfl) ?_))
      exact X_ret rfl ⟨rfl, rfl⟩
    · rw [if_neg h2]
      repeat (first | refine q_Z ?_ | refine R_quiet rfl mixed (by kernel_rfl) ?_ | ((first | apply O_y rfl rfl rfl | apply Q_y rfl rfl rfl); (first | exact q_A | exact q_5 | exact q_B)) | refine q_d ?_ | refine q_a ?_ | refine q_b ?_ | refine q_c ?_ | refine A_ct rfl ?_ | refine A_cf rfl ?_ | refine q_W ?_ | (first | refine O_c rfl rfl rfl rfl rfl hx (fun _ => rfl) ?_ | refine O_c rfl rfl rfl rfl rfl hy (fun _ => rfl) ?_ | refine Q_c rfl rfl rfl rfl rfl hx rfl (fun _ _ _ => val_mk _ _ _ _ _ rfl rfl) ?_ | refine Q_c rfl rfl rfl rfl rfl hy rfl (fun _ _ _ => val_mk _ _ _ _ _ rfl rfl) ?_))
      exact X_ret rfl ⟨rfl, rfl⟩
theorem nan_u8 (x : Int) : ACall Tryz.prog 115 [.d (.sc (.int .u8 x))] [] (Just (boolA false)) := by
  refine ACall_of tabOk Tryz.func115 rfl Tryz.ntmps115 (congrArg Array.toList Tryz.results115) (by kernel_rfl) rfl ?_
  repeat (first | refine q_Z ?_ | refine R_quiet rfl mixed (by kernel_rfl) ?_ | ((first | apply O_y rfl rfl rfl | apply Q_y rfl rfl rfl); (first | exact q_A | exact q_5 | exact q_B)) | refine q_d ?_ | refine q_a ?_ | refine q_b ?_ | refine q_c ?_ | refine A_ct rfl ?_ | refine A_cf rfl ?_ | refine q_W ?_)
  exact X_ret rfl ⟨rfl, rfl⟩
theorem compare_u8 (x y : Int) : ACall Tryz.prog 100 [.d (.sc (.int .u8 x)), .d (.sc (.int .u8 y))] [] (Just (intA (c2 x y))) := by
  have hx := nan_u8 x
  have hy := nan_u8 y
  refine ACall_of tabOk Tryz.func100 rfl Tryz.ntmps100 (congrArg Array.toList Tryz.results100) (by kernel_rfl) rfl ?_
  unfold c2
  by_cases h1 : x < y
  · rw [if_pos h1]
    repeat (first | refine q_Z ?_ | refine R_quiet rfl mixed (by kernel_rfl) ?_ | ((first | apply O_y rfl rfl rfl | apply Q_y rfl rfl rfl); (first | exact q_A | exact q_5 | exact q_B)) | refine q_d ?_ | refine q_a ?_ | refine q_b ?_ | refine q_c ?_ | refine A_ct rfl ?_ | refine A_cf rfl ?_ | refine q_W ?_ | (first | refine O_c rfl rfl rfl rfl rfl hx (fun _ => rfl) ?_ | refine O_c rfl rfl rfl rfl rfl hy (fun _ => rfl) ?_ | refine Q_c rfl rfl rfl rfl rfl hx rfl (fun _ _ _ => val_mk _ _ _ _ _ rfl rfl) ?_ | refine Q_c rfl rfl rfl rfl rfl hy rfl (fun _ _ _ => val_mk _ _ _ _ _ rfl rfl) ?_))
    exact X_ret rfl ⟨rfl, rfl⟩
  · rw [if_neg h1]
    by_cases h2 : y < x
    · rw [if_pos h2]
      repeat (first | refine q_Z ?_ | refine R_quiet rfl mixed (by kernel_rfl) ?_ | ((first | apply O_y rfl rfl rfl | apply Q_y rfl rfl rfl); (first | exact q_A | exact q_5 | exact q_B)) | refine q_d ?_ | refine q_a ?_ | refine q_b ?_ | refine q_c ?_ | refine A_ct rfl ?_ | refine A_cf rfl ?_ | refine q_W ?_ | (first | refine O_c rfl rfl rfl rfl rfl hx (fun _ => rfl) ?_ | refine O_c rfl rfl rfl rfl rfl hy (fun _ => rfl) ?_ | refine Q_c rfl rfl rfl rfl rfl hx rfl (fun _ _ _ => val_mk _ _ _ _ _ rfl rfl) ?_ | refine Q_c rfl rfl rfl rfl rfl hy rfl (fun _ _ _ => val_mk _ _ _ _ _ rfl rfl) ?_))
      exact X_ret rfl ⟨rfl, rfl⟩
    · rw [if_neg h2]
      repeat (first | refine q_Z ?_ | refine R_quiet rfl mixed (by kernel_rfl) ?_ | ((first | apply O_y rfl rfl rfl | apply Q_y rfl rfl rfl); (first | exact q_A | exact q_5 | exact q_B)) | refine q_d ?_ | refine q_a ?_ | refine q_b ?_ | refine q_c ?_ | refine A_ct rfl ?_ | refine A_cf rfl ?_ | refine q_W ?_ | (first | refine O_c rfl rfl rfl rfl rfl hx (fun _ => rfl) ?_ | refine O_c rfl rfl rfl rfl rfl hy (fun _ => rfl) ?_ | refine Q_c rfl rfl rfl rfl rfl hx rfl (fun _ _ _ => val_mk _ _ _ _ _ rfl rfl) ?_ | refine Q_c rfl rfl rfl rfl rfl hy rfl (fun _ _ _ => val_mk _ _ _ _ _ rfl rfl) ?_))
      exact X_ret rfl ⟨rfl, rfl⟩
theorem nan_addr (x : Int) : ACall Tryz.prog 75 [.d (.sc (.int .u32 x))] [] (Just (boolA false)) := by
  refine ACall_of tabOk Tryz.func75 rfl Tryz.ntmps75 (congrArg Array.toList Tryz.results75) (by kernel_rfl) rfl ?_
  repeat (first | refine q_Z ?_ | refine R_quiet rfl mixed (by kernel_rfl) ?_ | ((first | apply O_y rfl rfl rfl | apply Q_y rfl rfl rfl); (first | exact q_A | exact q_5 | exact q_B)) | refine q_d ?_ | refine q_a ?_ | refine q_b ?_ | refine q_c ?_ | refine A_ct rfl ?_ | refine A_cf rfl ?_ | refine q_W ?_)
  exact X_ret rfl ⟨rfl, rfl⟩
theorem compare_addr (x y : Int) : ACall Tryz.prog 49 [.d (.sc (.int .u32 x)), .d (.sc (.int .u32 y))] [] (Just (intA (c2 x y))) := by
  have hx := nan_addr x
  have hy := nan_addr y
  refine ACall_of tabOk Tryz.func49 rfl Tryz.ntmps49 (congrArg Array.toList Tryz.results49) (by kernel_rfl) rfl ?_
  unfold c2
  by_cases h1 : x < y
  · rw [if_pos h1]
    repeat (first | refine q_Z ?_ | refine R_quiet rfl mixed (by kernel_rfl) ?_ | ((first | apply O_y rfl rfl rfl | apply Q_y rfl rfl rfl); (first | exact q_A | exact q_5 | exact q_B)) | refine q_d ?_ | refine q_a ?_ | refine q_b ?_ | refine q_c ?_ | refine A_ct rfl ?_ | refine A_cf rfl ?_ | refine q_W ?_ | (first | refine O_c rfl rfl rfl rfl rfl hx (fun _ => rfl) ?_ | refine O_c rfl rfl rfl rfl rfl hy (fun _ => rfl) ?_ | refine Q_c rfl rfl rfl rfl rfl hx rfl (fun _ _ _ => val_mk _ _ _ _ _ rfl rfl) ?_ | refine Q_c rfl rfl rfl rfl rfl hy rfl (fun _ _ _ => val_mk _ _ _ _ _ rfl rfl) ?_))
    exact X_ret rfl ⟨rfl, rfl⟩
  · rw [if_neg h1]
    by_cases h2 : y < x
    · rw [if_pos h2]
      repeat (first | refine q_Z ?_ | refine R_quiet rfl mixed (by kernel_rfl) ?_ | ((first | apply O_y rfl rfl rfl | apply Q_y rfl rfl rfl); (first | exact q_A | exact q_5 | exact q_B)) | refine q_d ?_ | refine q_a ?_ | refine q_b ?_ | refine q_c ?_ | refine A_ct rfl ?_ | refine A_cf rfl ?_ | refine q_W ?_ | (first | refine O_c rfl rfl rfl rfl rfl hx (fun _ => rfl) ?_ | refine O_c rfl rfl rfl rfl rfl hy (fun _ => rfl) ?_ | refine Q_c rfl rfl rfl rfl rfl hx rfl (fun _ _ _ => val_mk _ _ _ _ _ rfl rfl) ?_ | refine Q_c rfl rfl rfl rfl rfl hy rfl (fun _ _ _ => val_mk _ _ _ _ _ rfl rfl) ?_))
      exact X_ret rfl ⟨rfl, rfl⟩
    · rw [if_neg h2]
      repeat (first | refine q_Z ?_ | refine R_quiet rfl mixed (by kernel_rfl) ?_ | ((first | apply O_y rfl rfl rfl | apply Q_y rfl rfl rfl); (first | exact q_A | exact q_5 | exact q_B)) | refine q_d ?_ | refine q_a ?_ | refine q_b ?_ | refine q_c ?_ | refine A_ct rfl ?_ | refine A_cf rfl ?_ | refine q_W ?_ | (first | refine O_c rfl rfl rfl rfl rfl hx (fun _ => rfl) ?_ | refine O_c rfl rfl rfl rfl rfl hy (fun _ => rfl) ?_ | refine Q_c rfl rfl rfl rfl rfl hx rfl (fun _ _ _ => val_mk _ _ _ _ _ rfl rfl) ?_ | refine Q_c rfl rfl rfl rfl rfl hy rfl (fun _ _ _ => val_mk _ _ _ _ _ rfl rfl) ?_))
      exact X_ret rfl ⟨rfl, rfl⟩
theorem nan_str (x : List UInt8) : ACall Tryz.prog 116 [strA x] [] (Just (boolA false)) := by
  refine ACall_of tabOk Tryz.func116 rfl Tryz.ntmps116 (congrArg Array.toList Tryz.results116) (by kernel_rfl) rfl ?_
  repeat (first | refine q_Z ?_ | refine R_quiet rfl mixed (by kernel_rfl) ?_ | ((first | apply O_y rfl rfl rfl | apply Q_y rfl rfl rfl); (first | exact q_A | exact q_5 | exact q_B | (first | exact R_sF rfl rfl rfl rfl (by first | (simp only [decide_eq_false_iff_not, Bool.not_eq_false', decide_eq_true_eq]; done) | (simp only [decide_eq_false_iff_not, Bool.not_eq_false', decide_eq_true_eq]; omega)) | exact R_sT rfl rfl rfl rfl (by first | (simp only [decide_eq_true_eq, Bool.not_eq_true', decide_eq_false_iff_not]; done) | (simp only [decide_eq_true_eq, Bool.not_eq_true', decide_eq_false_iff_not]; omega))))) | refine q_d ?_ | refine q_a ?_ | refine q_b ?_ | refine q_c ?_ | refine A_ct rfl ?_ | refine A_cf rfl ?_ | refine q_W ?_)
  exact X_ret rfl ⟨rfl, rfl⟩
theorem bytes_c2 (x y : List UInt8) : compareBytes x y = -1 ∨ compareBytes x y = 0 ∨ compareBytes x y = 1 := by
  induction x generalizing y with
  | nil => cases y <;> simp [compareBytes]
  | cons a x ih =>
    cases y with
    | nil => simp [compareBytes]
    | cons b y =>
      simp only [compareBytes]
      split
      · exact .inl rfl
      · split
        · exact .inr (.inr rfl)
        · exact ih y
theorem compare_str (x y : List UInt8) : ACall Tryz.prog 101 [strA x, strA y] [] (Just (intA (compareBytes x y))) := by
  have hx := nan_str x
  have hy := nan_str y
  refine ACall_of tabOk Tryz.func101 rfl Tryz.ntmps101 (congrArg Array.toList Tryz.results101) (by kernel_rfl) rfl ?_
  rcases bytes_c2 x y with h | h | h
  ·
    repeat (first | refine q_Z ?_ | refine R_quiet rfl mixed (by kernel_rfl) ?_ | ((first | apply O_y rfl rfl rfl | apply Q_y rfl rfl rfl); (first | exact q_A | exact q_5 | exact q_B | (first | exact R_sF rfl rfl rfl rfl (by first | (simp only [decide_eq_false_iff_not, Bool.not_eq_false', decide_eq_true_eq]; done) | (simp only [decide_eq_false_iff_not, Bool.not_eq_false', decide_eq_true_eq]; omega)) | exact R_sT rfl rfl rfl rfl (by first | (simp only [decide_eq_true_eq, Bool.not_eq_true', decide_eq_false_iff_not]; done) | (simp only [decide_eq_true_eq, Bool.not_eq_true', decide_eq_false_iff_not]; omega))))) | refine q_d ?_ | refine q_a ?_ | refine q_b ?_ | refine q_c ?_ | refine A_ct rfl ?_ | refine A_cf rfl ?_ | refine q_W ?_ | (first | refine O_c rfl rfl rfl rfl rfl hx (fun _ => rfl) ?_ | refine O_c rfl rfl rfl rfl rfl hy (fun _ => rfl) ?_ | refine Q_c rfl rfl rfl rfl rfl hx rfl (fun _ _ _ => val_mk _ _ _ _ _ rfl rfl) ?_ | refine Q_c rfl rfl rfl rfl rfl hy rfl (fun _ _ _ => val_mk _ _ _ _ _ rfl rfl) ?_))
    exact X_ret rfl ⟨by rw [h]; rfl, rfl⟩
  ·
    repeat (first | refine q_Z ?_ | refine R_quiet rfl mixed (by kernel_rfl) ?_ | ((first | apply O_y rfl rfl rfl | apply Q_y rfl rfl rfl); (first | exact q_A | exact q_5 | exact q_B | (first | exact R_sF rfl rfl rfl rfl (by first | (simp only [decide_eq_false_iff_not, Bool.not_eq_false', decide_eq_true_eq]; done) | (simp only [decide_eq_false_iff_not, Bool.not_eq_false', decide_eq_true_eq]; omega)) | exact R_sT rfl rfl rfl rfl (by first | (simp only [decide_eq_true_eq, Bool.not_eq_true', decide_eq_false_iff_not]; done) | (simp only [decide_eq_true_eq, Bool.not_eq_true', decide_eq_false_iff_not]; omega))))) | refine q_d ?_ | refine q_a ?_ | refine q_b ?_ | refine q_c ?_ | refine A_ct rfl ?_ | refine A_cf rfl ?_ | refine q_W ?_ | (first | refine O_c rfl rfl rfl rfl rfl hx (fun _ => rfl) ?_ | refine O_c rfl rfl rfl rfl rfl hy (fun _ => rfl) ?_ | refine Q_c rfl rfl rfl rfl rfl hx rfl (fun _ _ _ => val_mk _ _ _ _ _ rfl rfl) ?_ | refine Q_c rfl rfl rfl rfl rfl hy rfl (fun _ _ _ => val_mk _ _ _ _ _ rfl rfl) ?_))
    exact X_ret rfl ⟨by rw [h]; rfl, rfl⟩
  ·
    repeat (first | refine q_Z ?_ | refine R_quiet rfl mixed (by kernel_rfl) ?_ | ((first | apply O_y rfl rfl rfl | apply Q_y rfl rfl rfl); (first | exact q_A | exact q_5 | exact q_B | (first | exact R_sF rfl rfl rfl rfl (by first | (simp only [decide_eq_false_iff_not, Bool.not_eq_false', decide_eq_true_eq]; done) | (simp only [decide_eq_false_iff_not, Bool.not_eq_false', decide_eq_true_eq]; omega)) | exact R_sT rfl rfl rfl rfl (by first | (simp only [decide_eq_true_eq, Bool.not_eq_true', decide_eq_false_iff_not]; done) | (simp only [decide_eq_true_eq, Bool.not_eq_true', decide_eq_false_iff_not]; omega))))) | refine q_d ?_ | refine q_a ?_ | refine q_b ?_ | refine q_c ?_ | refine A_ct rfl ?_ | refine A_cf rfl ?_ | refine q_W ?_ | (first | refine O_c rfl rfl rfl rfl rfl hx (fun _ => rfl) ?_ | refine O_c rfl rfl rfl rfl rfl hy (fun _ => rfl) ?_ | refine Q_c rfl rfl rfl rfl rfl hx rfl (fun _ _ _ => val_mk _ _ _ _ _ rfl rfl) ?_ | refine Q_c rfl rfl rfl rfl rfl hy rfl (fun _ _ _ => val_mk _ _ _ _ _ rfl rfl) ?_))
    exact X_ret rfl ⟨by rw [h]; rfl, rfl⟩
theorem cmpBool_A (x y : Bool) : ACall Tryz.prog 102 [boolA x, boolA y] [] (Just (intA (cB x y))) := by
  refine ACall_of tabOk Tryz.func102 rfl Tryz.ntmps102 (congrArg Array.toList Tryz.results102) (by kernel_rfl) rfl ?_
  cases x <;> cases y
  ·
    repeat (first | refine q_Z ?_ | refine R_quiet rfl mixed (by kernel_rfl) ?_ | ((first | apply O_y rfl rfl rfl | apply Q_y rfl rfl rfl); (first | exact q_A | exact q_5 | exact q_B | exact Y_bbin tabOk rfl rfl rfl rfl rfl)) | refine q_d ?_ | refine q_a ?_ | refine q_b ?_ | refine q_c ?_ | refine A_ct rfl ?_ | refine A_cf rfl ?_ | refine q_W ?_)
    exact X_ret rfl ⟨rfl, rfl⟩
  ·
    repeat (first | refine q_Z ?_ | refine R_quiet rfl mixed (by kernel_rfl) ?_ | ((first | apply O_y rfl rfl rfl | apply Q_y rfl rfl rfl); (first | exact q_A | exact q_5 | exact q_B | exact Y_bbin tabOk rfl rfl rfl rfl rfl)) | refine q_d ?_ | refine q_a ?_ | refine q_b ?_ | refine q_c ?_ | refine A_ct rfl ?_ | refine A_cf rfl ?_ | refine q_W ?_)
    exact X_ret rfl ⟨rfl, rfl⟩
  ·
    repeat (first | refine q_Z ?_ | refine R_quiet rfl mixed (by kernel_rfl) ?_ | ((first | apply O_y rfl rfl rfl | apply Q_y rfl rfl rfl); (first | exact q_A | exact q_5 | exact q_B | exact Y_bbin tabOk rfl rfl rfl rfl rfl)) | refine q_d ?_ | refine q_a ?_ | refine q_b ?_ | refine q_c ?_ | refine A_ct rfl ?_ | refine A_cf rfl ?_ | refine q_W ?_)
    exact X_ret rfl ⟨rfl, rfl⟩
  ·
    repeat (first | refine q_Z ?_ | refine R_quiet rfl mixed (by kernel_rfl) ?_ | ((first | apply O_y rfl rfl rfl | apply Q_y rfl rfl rfl); (first | exact q_A | exact q_5 | exact q_B | exact Y_bbin tabOk rfl rfl rfl rfl rfl)) | refine q_d ?_ | refine q_a ?_ | refine q_b ?_ | refine q_c ?_ | refine A_ct rfl ?_ | refine A_cf rfl ?_ | refine q_W ?_)
    exact X_ret rfl ⟨rfl, rfl⟩
end Go.Proofs.YtenolkolkpfjgaaGreat.Ab

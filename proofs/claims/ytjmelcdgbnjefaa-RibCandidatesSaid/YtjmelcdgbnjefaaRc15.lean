/-
  Texts of a proof, one behind the other (part 16).
-/
import Derived.Test.YtjmelcdgbnjefaaRc5
import Derived.Test.YtjmelcdgbnjefaaRc14
set_option linter.unusedVariables false
set_option linter.unusedSimpArgs false
namespace Go.Proofs.Ytjmelcdgbnjefaa.Ab
set_option linter.unusedVariables false
set_option maxRecDepth 100000
open Go.RowKit Go.Lib
set_option linter.unusedSimpArgs false
attribute [local irreducible] AWp AOps AQ AYield AEff ACall AWk AAny AAt AThen AIn APost NoPanic
set_option maxHeartbeats 16000000 in
theorem refCmpR_A (x y : Rte) : ACall Try.prog 45 [rteA x, rteA y] [] (Just (intA (ordR x y))) := by
  have h0 := refPrefix_A x.p y.p
  have h1 := one_c2 x.f y.f
  have h2 := one_c2 x.d y.d
  have h3 := one_c2 x.m y.m
  have h4 := one_c2 x.t y.t
  have h5 := one_c2 x.h y.h
  have h6 := one_bytes x.i y.i
  have h9 := first_A [ordP x.p y.p, c2 x.f y.f, c2 x.d y.d, c2 x.m y.m, c2 x.t y.t, c2 x.h y.h, compareBytes x.i y.i, cB x.x y.x] (by simp)
  rw [ordR_first] at h9
  obtain ⟨P, f, d, m, t, i, h, X⟩ := x
  dsimp only at *
  refine ACall_of tabOk Try.func45 rfl Try.ntmps45 (congrArg Array.toList Try.results45) (by kernel_rfl) rfl ?_
  refine A_seq ?_
  refine R_list ?_
  repeat (first | refine A_seq ?_ | refine A_block ?_ | refine R_list ?_ | refine R_quiet rfl mixed (by kernel_rfl) ?_ | ((first | apply O_y rfl rfl rfl | apply Q_y rfl rfl rfl); (first | exact q_1 | exact q_2 | exact q_3 | exact q_4 | exact q_5 | exact q_6 | exact q_7 | exact q_8 | exact q_9 | exact q_10 | exact q_11 | exact q_12 | exact q_13 | exact q_14 | exact q_15 | exact q_16 | exact q_17 | exact q_18 | exact q_19 | exact q_20 | exact q_21 | exact q_22 | exact q_23 | exact q_24 | fail)) | refine O_nil ?_ | refine Q_nil ?_ | refine q_j ?_ | refine q_k ?_ | refine q_d ?_ | refine q_a ?_ | refine q_b ?_ | refine q_c ?_ | refine A_ct rfl ?_ | refine A_cf rfl ?_ | refine A_skip ?_ | refine A_exit ?_ | refine A_ret ?_ | refine q_l ?_ | refine q_m ?_ | refine q_n ?_ | refine q_h ?_ | refine q_o ?_ | refine q_e ?_ | refine q_f ?_ | refine q_g ?_ | fail)
  cases X with
  | false =>
    have h7 := one_A y.x false
    rw [oneI_cB1] at h7
    refine N_begin [] mixed ?_
    (apply q_P 0 rfl (by kernel_rfl) rfl rfl rfl; (first | exact q_1 | exact q_2 | exact q_8 | exact q_7 | exact q_13 | exact Y_sbin rfl rfl rfl rfl | exact q_20 | exact q_25 | exact q_26))
    (apply q_P 1 rfl (by kernel_rfl) rfl rfl rfl; (first | exact q_1 | exact q_2 | exact q_8 | exact q_7 | exact q_13 | exact Y_sbin rfl rfl rfl rfl | exact q_20 | exact q_25 | exact q_26))
    (apply q_P 2 rfl (by kernel_rfl) rfl rfl rfl; (first | exact q_1 | exact q_2 | exact q_8 | exact q_7 | exact q_13 | exact Y_sbin rfl rfl rfl rfl | exact q_20 | exact q_25 | exact q_26))
    (apply q_P 3 rfl (by kernel_rfl) rfl rfl rfl; (first | exact q_1 | exact q_2 | exact q_8 | exact q_7 | exact q_13 | exact Y_sbin rfl rfl rfl rfl | exact q_20 | exact q_25 | exact q_26))
    (apply q_P 5 rfl (by kernel_rfl) rfl rfl rfl; (first | exact q_1 | exact q_2 | exact q_8 | exact q_7 | exact q_13 | exact Y_sbin rfl rfl rfl rfl | exact q_20 | exact q_25 | exact q_26))
    (apply q_P 6 rfl (by kernel_rfl) rfl rfl rfl; (first | exact q_1 | exact q_2 | exact q_8 | exact q_7 | exact q_13 | exact Y_sbin rfl rfl rfl rfl | exact q_20 | exact q_25 | exact q_26))
    (apply q_P 7 rfl (by kernel_rfl) rfl rfl rfl; (first | exact q_1 | exact q_2 | exact q_8 | exact q_7 | exact q_13 | exact Y_sbin rfl rfl rfl rfl | exact q_20 | exact q_25 | exact q_26))
    (apply q_P 8 rfl (by kernel_rfl) rfl rfl rfl; (first | exact q_1 | exact q_2 | exact q_8 | exact q_7 | exact q_13 | exact Y_sbin rfl rfl rfl rfl | exact q_20 | exact q_25 | exact q_26))
    (apply q_P 9 rfl (by kernel_rfl) rfl rfl rfl; (first | exact q_1 | exact q_2 | exact q_8 | exact q_7 | exact q_13 | exact Y_sbin rfl rfl rfl rfl | exact q_20 | exact q_25 | exact q_26))
    (apply q_P 10 rfl (by kernel_rfl) rfl rfl rfl; (first | exact q_1 | exact q_2 | exact q_8 | exact q_7 | exact q_13 | exact Y_sbin rfl rfl rfl rfl | exact q_20 | exact q_25 | exact q_26))
    (apply q_P 11 rfl (by kernel_rfl) rfl rfl rfl; (first | exact q_1 | exact q_2 | exact q_8 | exact q_7 | exact q_13 | exact Y_sbin rfl rfl rfl rfl | exact q_20 | exact q_25 | exact q_26))
    (apply q_P 12 rfl (by kernel_rfl) rfl rfl rfl; (first | exact q_1 | exact q_2 | exact q_8 | exact q_7 | exact q_13 | exact Y_sbin rfl rfl rfl rfl | exact q_20 | exact q_25 | exact q_26))
    (apply q_P 13 rfl (by kernel_rfl) rfl rfl rfl; (first | exact q_1 | exact q_2 | exact q_8 | exact q_7 | exact q_13 | exact Y_sbin rfl rfl rfl rfl | exact q_20 | exact q_25 | exact q_26))
    (apply q_P 14 rfl (by kernel_rfl) rfl rfl rfl; (first | exact q_1 | exact q_2 | exact q_8 | exact q_7 | exact q_13 | exact Y_sbin rfl rfl rfl rfl | exact q_20 | exact q_25 | exact q_26))
    (apply q_P 16 rfl (by kernel_rfl) rfl rfl rfl; (first | exact q_1 | exact q_2 | exact q_8 | exact q_7 | exact q_13 | exact Y_sbin rfl rfl rfl rfl | exact q_20 | exact q_25 | exact q_26))
    (apply q_P 17 rfl (by kernel_rfl) rfl rfl rfl; (first | exact q_1 | exact q_2 | exact q_8 | exact q_7 | exact q_13 | exact Y_sbin rfl rfl rfl rfl | exact q_20 | exact q_25 | exact q_26))
    (apply q_P 18 rfl (by kernel_rfl) rfl rfl rfl; (first | exact q_1 | exact q_2 | exact q_8 | exact q_7 | exact q_13 | exact Y_sbin rfl rfl rfl rfl | exact q_20 | exact q_25 | exact q_26))
    (apply q_P 19 rfl (by kernel_rfl) rfl rfl rfl; (first | exact q_1 | exact q_2 | exact q_8 | exact q_7 | exact q_13 | exact Y_sbin rfl rfl rfl rfl | exact q_20 | exact q_25 | exact q_26))
    (apply q_P 20 rfl (by kernel_rfl) rfl rfl rfl; (first | exact q_1 | exact q_2 | exact q_8 | exact q_7 | exact q_13 | exact Y_sbin rfl rfl rfl rfl | exact q_20 | exact q_25 | exact q_26))
    (apply q_P 21 rfl (by kernel_rfl) rfl rfl rfl; (first | exact q_1 | exact q_2 | exact q_8 | exact q_7 | exact q_13 | exact Y_sbin rfl rfl rfl rfl | exact q_20 | exact q_25 | exact q_26))
    (apply q_P 22 rfl (by kernel_rfl) rfl rfl rfl; (first | exact q_1 | exact q_2 | exact q_8 | exact q_7 | exact q_13 | exact Y_sbin rfl rfl rfl rfl | exact q_20 | exact q_25 | exact q_26))
    (apply q_P 23 rfl (by kernel_rfl) rfl rfl rfl; (first | exact q_1 | exact q_2 | exact q_8 | exact q_7 | exact q_13 | exact Y_sbin rfl rfl rfl rfl | exact q_20 | exact q_25 | exact q_26))
    (apply q_P 24 rfl (by kernel_rfl) rfl rfl rfl; (first | exact q_1 | exact q_2 | exact q_8 | exact q_7 | exact q_13 | exact Y_sbin rfl rfl rfl rfl | exact q_20 | exact q_25 | exact q_26))
    (apply q_P 25 rfl (by kernel_rfl) rfl rfl rfl; (first | exact q_1 | exact q_2 | exact q_8 | exact q_7 | exact q_13 | exact Y_sbin rfl rfl rfl rfl | exact q_20 | exact q_25 | exact q_26))
    (apply q_P 27 rfl (by kernel_rfl) rfl rfl rfl; (first | exact q_1 | exact q_2 | exact q_8 | exact q_7 | exact q_13 | exact Y_sbin rfl rfl rfl rfl | exact q_20 | exact q_25 | exact q_26))
    (apply q_P 28 rfl (by kernel_rfl) rfl rfl rfl; (first | exact q_1 | exact q_2 | exact q_8 | exact q_7 | exact q_13 | exact Y_sbin rfl rfl rfl rfl | exact q_20 | exact q_25 | exact q_26))
    (apply q_P 29 rfl (by kernel_rfl) rfl rfl rfl; (first | exact q_1 | exact q_2 | exact q_8 | exact q_7 | exact q_13 | exact Y_sbin rfl rfl rfl rfl | exact q_20 | exact q_25 | exact q_26))
    (apply q_P 30 rfl (by kernel_rfl) rfl rfl rfl; (first | exact q_1 | exact q_2 | exact q_8 | exact q_7 | exact q_13 | exact Y_sbin rfl rfl rfl rfl | exact q_20 | exact q_25 | exact q_26))
    (apply q_P 31 rfl (by kernel_rfl) rfl rfl rfl; (first | exact q_1 | exact q_2 | exact q_8 | exact q_7 | exact q_13 | exact Y_sbin rfl rfl rfl rfl | exact q_20 | exact q_25 | exact q_26))
    (apply q_P 32 rfl (by kernel_rfl) rfl rfl rfl; (first | exact q_1 | exact q_2 | exact q_8 | exact q_7 | exact q_13 | exact Y_sbin rfl rfl rfl rfl | exact q_20 | exact q_25 | exact q_26))
    (apply q_P 33 rfl (by kernel_rfl) rfl rfl rfl; (first | exact q_1 | exact q_2 | exact q_8 | exact q_7 | exact q_13 | exact Y_sbin rfl rfl rfl rfl | exact q_20 | exact q_25 | exact q_26))
    (apply q_P 34 rfl (by kernel_rfl) rfl rfl rfl; (first | exact q_1 | exact q_2 | exact q_8 | exact q_7 | exact q_13 | exact Y_sbin rfl rfl rfl rfl | exact q_20 | exact q_25 | exact q_26))
    (apply q_P 35 rfl (by kernel_rfl) rfl rfl rfl; (first | exact q_1 | exact q_2 | exact q_8 | exact q_7 | exact q_13 | exact Y_sbin rfl rfl rfl rfl | exact q_20 | exact q_25 | exact q_26))
    (apply q_P 36 rfl (by kernel_rfl) rfl rfl rfl; (first | exact q_1 | exact q_2 | exact q_8 | exact q_7 | exact q_13 | exact Y_sbin rfl rfl rfl rfl | exact q_20 | exact q_25 | exact q_26))
    (apply q_P 38 rfl (by kernel_rfl) rfl rfl rfl; (first | exact q_1 | exact q_2 | exact q_8 | exact q_7 | exact q_13 | exact Y_sbin rfl rfl rfl rfl | exact q_20 | exact q_25 | exact q_26))
    (apply q_P 39 rfl (by kernel_rfl) rfl rfl rfl; (first | exact q_1 | exact q_2 | exact q_8 | exact q_7 | exact q_13 | exact Y_sbin rfl rfl rfl rfl | exact q_20 | exact q_25 | exact q_26))
    (apply q_P 40 rfl (by kernel_rfl) rfl rfl rfl; (first | exact q_1 | exact q_2 | exact q_8 | exact q_7 | exact q_13 | exact Y_sbin rfl rfl rfl rfl | exact q_20 | exact q_25 | exact q_26))
    (apply q_P 41 rfl (by kernel_rfl) rfl rfl rfl; (first | exact q_1 | exact q_2 | exact q_8 | exact q_7 | exact q_13 | exact Y_sbin rfl rfl rfl rfl | exact q_20 | exact q_25 | exact q_26))
    (apply q_P 42 rfl (by kernel_rfl) rfl rfl rfl; (first | exact q_1 | exact q_2 | exact q_8 | exact q_7 | exact q_13 | exact Y_sbin rfl rfl rfl rfl | exact q_20 | exact q_25 | exact q_26))
    (apply q_P 43 rfl (by kernel_rfl) rfl rfl rfl; (first | exact q_1 | exact q_2 | exact q_8 | exact q_7 | exact q_13 | exact Y_sbin rfl rfl rfl rfl | exact q_20 | exact q_25 | exact q_26))
    (apply q_P 44 rfl (by kernel_rfl) rfl rfl rfl; (first | exact q_1 | exact q_2 | exact q_8 | exact q_7 | exact q_13 | exact Y_sbin rfl rfl rfl rfl | exact q_20 | exact q_25 | exact q_26))
    (apply q_P 45 rfl (by kernel_rfl) rfl rfl rfl; (first | exact q_1 | exact q_2 | exact q_8 | exact q_7 | exact q_13 | exact Y_sbin rfl rfl rfl rfl | exact q_20 | exact q_25 | exact q_26))
    (apply q_P 46 rfl (by kernel_rfl) rfl rfl rfl; (first | exact q_1 | exact q_2 | exact q_8 | exact q_7 | exact q_13 | exact Y_sbin rfl rfl rfl rfl | exact q_20 | exact q_25 | exact q_26))
    (apply q_P 47 rfl (by kernel_rfl) rfl rfl rfl; (first | exact q_1 | exact q_2 | exact q_8 | exact q_7 | exact q_13 | exact Y_sbin rfl rfl rfl rfl | exact q_20 | exact q_25 | exact q_26))
    (apply q_P 49 rfl (by kernel_rfl) rfl rfl rfl; (first | exact q_1 | exact q_2 | exact q_8 | exact q_7 | exact q_13 | exact Y_sbin rfl rfl rfl rfl | exact q_20 | exact q_25 | exact q_26))
    (apply q_P 50 rfl (by kernel_rfl) rfl rfl rfl; (first | exact q_1 | exact q_2 | exact q_8 | exact q_7 | exact q_13 | exact Y_sbin rfl rfl rfl rfl | exact q_20 | exact q_25 | exact q_26))
    (apply q_P 51 rfl (by kernel_rfl) rfl rfl rfl; (first | exact q_1 | exact q_2 | exact q_8 | exact q_7 | exact q_13 | exact Y_sbin rfl rfl rfl rfl | exact q_20 | exact q_25 | exact q_26))
    (apply q_P 52 rfl (by kernel_rfl) rfl rfl rfl; (first | exact q_1 | exact q_2 | exact q_8 | exact q_7 | exact q_13 | exact Y_sbin rfl rfl rfl rfl | exact q_20 | exact q_25 | exact q_26))
    (apply q_P 53 rfl (by kernel_rfl) rfl rfl rfl; (first | exact q_1 | exact q_2 | exact q_8 | exact q_7 | exact q_13 | exact Y_sbin rfl rfl rfl rfl | exact q_20 | exact q_25 | exact q_26))
    (apply q_P 54 rfl (by kernel_rfl) rfl rfl rfl; (first | exact q_1 | exact q_2 | exact q_8 | exact q_7 | exact q_13 | exact Y_sbin rfl rfl rfl rfl | exact q_20 | exact q_25 | exact q_26))
    (apply q_P 55 rfl (by kernel_rfl) rfl rfl rfl; (first | exact q_1 | exact q_2 | exact q_8 | exact q_7 | exact q_13 | exact Y_sbin rfl rfl rfl rfl | exact q_20 | exact q_25 | exact q_26))
    (apply q_P 56 rfl (by kernel_rfl) rfl rfl rfl; (first | exact q_1 | exact q_2 | exact q_8 | exact q_7 | exact q_13 | exact Y_sbin rfl rfl rfl rfl | exact q_20 | exact q_25 | exact q_26))
    (apply q_P 57 rfl (by kernel_rfl) rfl rfl rfl; (first | exact q_1 | exact q_2 | exact q_8 | exact q_7 | exact q_13 | exact Y_sbin rfl rfl rfl rfl | exact q_20 | exact q_25 | exact q_26))
    (apply q_P 58 rfl (by kernel_rfl) rfl rfl rfl; (first | exact q_1 | exact q_2 | exact q_8 | exact q_7 | exact q_13 | exact Y_sbin rfl rfl rfl rfl | exact q_20 | exact q_25 | exact q_26))
    (apply q_P 60 rfl (by kernel_rfl) rfl rfl rfl; (first | exact q_1 | exact q_2 | exact q_8 | exact q_7 | exact q_13 | exact Y_sbin rfl rfl rfl rfl | exact q_20 | exact q_25 | exact q_26))
    (apply q_P 61 rfl (by kernel_rfl) rfl rfl rfl; (first | exact q_1 | exact q_2 | exact q_8 | exact q_7 | exact q_13 | exact Y_sbin rfl rfl rfl rfl | exact q_20 | exact q_25 | exact q_26))
    (apply q_P 62 rfl (by kernel_rfl) rfl rfl rfl; (first | exact q_1 | exact q_2 | exact q_8 | exact q_7 | exact q_13 | exact Y_sbin rfl rfl rfl rfl | exact q_20 | exact q_25 | exact q_26))
    (apply q_P 63 rfl (by kernel_rfl) rfl rfl rfl; (first | exact q_1 | exact q_2 | exact q_8 | exact q_7 | exact q_13 | exact Y_sbin rfl rfl rfl rfl | exact q_20 | exact q_25 | exact q_26))
    (apply q_P 64 rfl (by kernel_rfl) rfl rfl rfl; (first | exact q_1 | exact q_2 | exact q_8 | exact q_7 | exact q_13 | exact Y_sbin rfl rfl rfl rfl | exact q_20 | exact q_25 | exact q_26))
    (apply q_P 65 rfl (by kernel_rfl) rfl rfl rfl; (first | exact q_1 | exact q_2 | exact q_8 | exact q_7 | exact q_13 | exact Y_sbin rfl rfl rfl rfl | exact q_20 | exact q_25 | exact q_26))
    (apply q_P 66 rfl (by kernel_rfl) rfl rfl rfl; (first | exact q_1 | exact q_2 | exact q_8 | exact q_7 | exact q_13 | exact Y_sbin rfl rfl rfl rfl | exact q_20 | exact q_25 | exact q_26))
    (apply q_P 67 rfl (by kernel_rfl) rfl rfl rfl; (first | exact q_1 | exact q_2 | exact q_8 | exact q_7 | exact q_13 | exact Y_sbin rfl rfl rfl rfl | exact q_20 | exact q_25 | exact q_26))
    (apply q_P 68 rfl (by kernel_rfl) rfl rfl rfl; (first | exact q_1 | exact q_2 | exact q_8 | exact q_7 | exact q_13 | exact Y_sbin rfl rfl rfl rfl | exact q_20 | exact q_25 | exact q_26))
    (apply q_P 69 rfl (by kernel_rfl) rfl rfl rfl; (first | exact q_1 | exact q_2 | exact q_8 | exact q_7 | exact q_13 | exact Y_sbin rfl rfl rfl rfl | exact q_20 | exact q_25 | exact q_26))
    (apply q_P 71 rfl (by kernel_rfl) rfl rfl rfl; (first | exact q_1 | exact q_2 | exact q_8 | exact q_7 | exact q_13 | exact Y_sbin rfl rfl rfl rfl | exact q_20 | exact q_25 | exact q_26))
    (apply q_P 72 rfl (by kernel_rfl) rfl rfl rfl; (first | exact q_1 | exact q_2 | exact q_8 | exact q_7 | exact q_13 | exact Y_sbin rfl rfl rfl rfl | exact q_20 | exact q_25 | exact q_26))
    (apply q_P 73 rfl (by kernel_rfl) rfl rfl rfl; (first | exact q_1 | exact q_2 | exact q_8 | exact q_7 | exact q_13 | exact Y_sbin rfl rfl rfl rfl | exact q_20 | exact q_25 | exact q_26))
    (apply q_P 78 rfl (by kernel_rfl) rfl rfl rfl; (first | exact q_1 | exact q_2 | exact q_8 | exact q_7 | exact q_13 | exact Y_sbin rfl rfl rfl rfl | exact q_20 | exact q_25 | exact q_26))
    (apply q_P 79 rfl (by kernel_rfl) rfl rfl rfl; (first | exact q_1 | exact q_2 | exact q_8 | exact q_7 | exact q_13 | exact Y_sbin rfl rfl rfl rfl | exact q_20 | exact q_25 | exact q_26))
    refine N_one (j := 4) (by kernel_rfl) ?_
    refine T_call rfl rfl rfl rfl rfl rfl h0 (fun _ => rfl) ?_
    refine N_one (j := 15) (by kernel_rfl) ?_
    refine T_call rfl rfl rfl rfl rfl rfl h1 (fun _ => rfl) ?_
    refine N_one (j := 26) (by kernel_rfl) ?_
    refine T_call rfl rfl rfl rfl rfl rfl h2 (fun _ => rfl) ?_
    refine N_one (j := 37) (by kernel_rfl) ?_
    refine T_call rfl rfl rfl rfl rfl rfl h3 (fun _ => rfl) ?_
    refine N_one (j := 48) (by kernel_rfl) ?_
    refine T_call rfl rfl rfl rfl rfl rfl h4 (fun _ => rfl) ?_
    refine N_one (j := 59) (by kernel_rfl) ?_
    refine T_call rfl rfl rfl rfl rfl rfl h5 (fun _ => rfl) ?_
    refine N_one (j := 70) (by kernel_rfl) ?_
    refine T_call rfl rfl rfl rfl rfl rfl h6 (fun _ => rfl) ?_
    (apply q_P 74 rfl (by kernel_rfl) rfl rfl rfl; (first | exact q_1 | exact q_2 | exact q_8 | exact q_7 | exact q_13 | exact Y_sbin rfl rfl rfl rfl | exact q_20 | exact q_25 | exact q_26))
    (apply q_P 75 rfl (by kernel_rfl) rfl rfl rfl; (first | exact q_1 | exact q_2 | exact q_8 | exact q_7 | exact q_13 | exact Y_sbin rfl rfl rfl rfl | exact q_20 | exact q_25 | exact q_26))
    (apply q_P 76 rfl (by kernel_rfl) rfl rfl rfl; (first | exact q_1 | exact q_2 | exact q_8 | exact q_7 | exact q_13 | exact Y_sbin rfl rfl rfl rfl | exact q_20 | exact q_25 | exact q_26))
    (apply q_P 77 rfl (by kernel_rfl) rfl rfl rfl; (first | exact q_1 | exact q_2 | exact q_8 | exact q_7 | exact q_13 | exact Y_sbin rfl rfl rfl rfl | exact q_20 | exact q_25 | exact q_26))
    (apply q_P 80 rfl (by kernel_rfl) rfl rfl rfl; (first | exact q_1 | exact q_2 | exact q_8 | exact q_7 | exact q_13 | exact Y_sbin rfl rfl rfl rfl | exact q_20 | exact q_25 | exact q_26))
    refine N_skip (i := 81) rfl (by kernel_rfl) (by kernel_rfl) (by kernel_rfl) (by repeat (first | exact np_post | refine np_then ?_ | refine np_in ?_)) rfl rfl rfl ?_
    refine N_skip (i := 82) rfl (by kernel_rfl) (by kernel_rfl) (by kernel_rfl) (by repeat (first | exact np_post | refine np_then ?_ | refine np_in ?_)) rfl rfl rfl ?_
    refine N_skip (i := 83) rfl (by kernel_rfl) (by kernel_rfl) (by kernel_rfl) (by repeat (first | exact np_post | refine np_then ?_ | refine np_in ?_)) rfl rfl rfl ?_
    (apply q_P 84 rfl (by kernel_rfl) rfl rfl rfl; (first | exact q_1 | exact q_2 | exact q_8 | exact q_7 | exact q_13 | exact Y_sbin rfl rfl rfl rfl | exact q_20 | exact q_25 | exact q_26))
    refine N_one (j := 85) (by kernel_rfl) ?_
    refine T_call rfl rfl rfl rfl rfl rfl h7 (fun _ => rfl) ?_
    refine N_one (j := 86) (by kernel_rfl) ?_
    refine T_slice tabOk rfl rfl rfl rfl rfl rfl rfl rfl rfl rfl rfl rfl ?_
    refine N_one (j := 87) (by kernel_rfl) ?_
    refine T_cL rfl rfl rfl rfl rfl rfl h9 rfl (fun _ _ _ => val_mk _ _ _ _ _ rfl rfl) ?_
    (apply q_P 88 rfl (by kernel_rfl) rfl rfl rfl; (first | exact q_1 | exact q_2 | exact q_8 | exact q_7 | exact q_13 | exact Y_sbin rfl rfl rfl rfl | exact q_20 | exact q_25 | exact q_26))
    refine N_done (by kernel_rfl) ?_
    repeat (first | refine A_seq ?_ | refine A_block ?_ | refine R_list ?_ | refine R_quiet rfl mixed (by kernel_rfl) ?_ | ((first | apply O_y rfl rfl rfl | apply Q_y rfl rfl rfl); (first | exact q_1 | exact q_2 | exact q_3 | exact q_4 | exact q_5 | exact q_6 | exact q_7 | exact q_8 | exact q_9 | exact q_10 | exact q_11 | exact q_12 | exact q_13 | exact q_14 | exact q_15 | exact q_16 | exact q_17 | exact q_18 | exact q_19 | exact q_20 | exact q_21 | exact q_22 | exact q_23 | exact q_24 | fail)) | refine O_nil ?_ | refine Q_nil ?_ | refine q_j ?_ | refine q_k ?_ | refine q_d ?_ | refine q_a ?_ | refine q_b ?_ | refine q_c ?_ | refine A_ct rfl ?_ | refine A_cf rfl ?_ | refine A_skip ?_ | refine A_exit ?_ | refine A_ret ?_ | refine q_l ?_ | refine q_m ?_ | refine q_n ?_ | refine q_h ?_ | refine q_o ?_ | refine q_e ?_ | refine q_f ?_ | refine q_g ?_ | fail)
    exact X_ret rfl ⟨rfl, rfl⟩
  | true =>
    have h7 := one_A false (!y.x)
    rw [oneI_cB2] at h7
    refine N_begin [] mixed ?_
    (apply q_P 0 rfl (by kernel_rfl) rfl rfl rfl; (first | exact q_1 | exact q_2 | exact q_8 | exact q_7 | exact q_13 | exact Y_sbin rfl rfl rfl rfl | exact q_20 | exact q_25 | exact q_26))
    (apply q_P 1 rfl (by kernel_rfl) rfl rfl rfl; (first | exact q_1 | exact q_2 | exact q_8 | exact q_7 | exact q_13 | exact Y_sbin rfl rfl rfl rfl | exact q_20 | exact q_25 | exact q_26))
    (apply q_P 2 rfl (by kernel_rfl) rfl rfl rfl; (first | exact q_1 | exact q_2 | exact q_8 | exact q_7 | exact q_13 | exact Y_sbin rfl rfl rfl rfl | exact q_20 | exact q_25 | exact q_26))
    (apply q_P 3 rfl (by kernel_rfl) rfl rfl rfl; (first | exact q_1 | exact q_2 | exact q_8 | exact q_7 | exact q_13 | exact Y_sbin rfl rfl rfl rfl | exact q_20 | exact q_25 | exact q_26))
    (apply q_P 5 rfl (by kernel_rfl) rfl rfl rfl; (first | exact q_1 | exact q_2 | exact q_8 | exact q_7 | exact q_13 | exact Y_sbin rfl rfl rfl rfl | exact q_20 | exact q_25 | exact q_26))
    (apply q_P 6 rfl (by kernel_rfl) rfl rfl rfl; (first | exact q_1 | exact q_2 | exact q_8 | exact q_7 | exact q_13 | exact Y_sbin rfl rfl rfl rfl | exact q_20 | exact q_25 | exact q_26))
    (apply q_P 7 rfl (by kernel_rfl) rfl rfl rfl; (first | exact q_1 | exact q_2 | exact q_8 | exact q_7 | exact q_13 | exact Y_sbin rfl rfl rfl rfl | exact q_20 | exact q_25 | exact q_26))
    (apply q_P 8 rfl (by kernel_rfl) rfl rfl rfl; (first | exact q_1 | exact q_2 | exact q_8 | exact q_7 | exact q_13 | exact Y_sbin rfl rfl rfl rfl | exact q_20 | exact q_25 | exact q_26))
    (apply q_P 9 rfl (by kernel_rfl) rfl rfl rfl; (first | exact q_1 | exact q_2 | exact q_8 | exact q_7 | exact q_13 | exact Y_sbin rfl rfl rfl rfl | exact q_20 | exact q_25 | exact q_26))
    (apply q_P 10 rfl (by kernel_rfl) rfl rfl rfl; (first | exact q_1 | exact q_2 | exact q_8 | exact q_7 | exact q_13 | exact Y_sbin rfl rfl rfl rfl | exact q_20 | exact q_25 | exact q_26))
    (apply q_P 11 rfl (by kernel_rfl) rfl rfl rfl; (first | exact q_1 | exact q_2 | exact q_8 | exact q_7 | exact q_13 | exact Y_sbin rfl rfl rfl rfl | exact q_20 | exact q_25 | exact q_26))
    (apply q_P 12 rfl (by kernel_rfl) rfl rfl rfl; (first | exact q_1 | exact q_2 | exact q_8 | exact q_7 | exact q_13 | exact Y_sbin rfl rfl rfl rfl | exact q_20 | exact q_25 | exact q_26))
    (apply q_P 13 rfl (by kernel_rfl) rfl rfl rfl; (first | exact q_1 | exact q_2 | exact q_8 | exact q_7 | exact q_13 | exact Y_sbin rfl rfl rfl rfl | exact q_20 | exact q_25 | exact q_26))
    (apply q_P 14 rfl (by kernel_rfl) rfl rfl rfl; (first | exact q_1 | exact q_2 | exact q_8 | exact q_7 | exact q_13 | exact Y_sbin rfl rfl rfl rfl | exact q_20 | exact q_25 | exact q_26))
    (apply q_P 16 rfl (by kernel_rfl) rfl rfl rfl; (first | exact q_1 | exact q_2 | exact q_8 | exact q_7 | exact q_13 | exact Y_sbin rfl rfl rfl rfl | exact q_20 | exact q_25 | exact q_26))
    (apply q_P 17 rfl (by kernel_rfl) rfl rfl rfl; (first | exact q_1 | exact q_2 | exact q_8 | exact q_7 | exact q_13 | exact Y_sbin rfl rfl rfl rfl | exact q_20 | exact q_25 | exact q_26))
    (apply q_P 18 rfl (by kernel_rfl) rfl rfl rfl; (first | exact q_1 | exact q_2 | exact q_8 | exact q_7 | exact q_13 | exact Y_sbin rfl rfl rfl rfl | exact q_20 | exact q_25 | exact q_26))
    (apply q_P 19 rfl (by kernel_rfl) rfl rfl rfl; (first | exact q_1 | exact q_2 | exact q_8 | exact q_7 | exact q_13 | exact Y_sbin rfl rfl rfl rfl | exact q_20 | exact q_25 | exact q_26))
    (apply q_P 20 rfl (by kernel_rfl) rfl rfl rfl; (first | exact q_1 | exact q_2 | exact q_8 | exact q_7 | exact q_13 | exact Y_sbin rfl rfl rfl rfl | exact q_20 | exact q_25 | exact q_26))
    (apply q_P 21 rfl (by kernel_rfl) rfl rfl rfl; (first | exact q_1 | exact q_2 | exact q_8 | exact q_7 | exact q_13 | exact Y_sbin rfl rfl rfl rfl | exact q_20 | exact q_25 | exact q_26))
    (apply q_P 22 rfl (by kernel_rfl) rfl rfl rfl; (first | exact q_1 | exact q_2 | exact q_8 | exact q_7 | exact q_13 | exact Y_sbin rfl rfl rfl rfl | exact q_20 | exact q_25 | exact q_26))
    (apply q_P 23 rfl (by kernel_rfl) rfl rfl rfl; (first | exact q_1 | exact q_2 | exact q_8 | exact q_7 | exact q_13 | exact Y_sbin rfl rfl rfl rfl | exact q_20 | exact q_25 | exact q_26))
    (apply q_P 24 rfl (by kernel_rfl) rfl rfl rfl; (first | exact q_1 | exact q_2 | exact q_8 | exact q_7 | exact q_13 | exact Y_sbin rfl rfl rfl rfl | exact q_20 | exact q_25 | exact q_26))
    (apply q_P 25 rfl (by kernel_rfl) rfl rfl rfl; (first | exact q_1 | exact q_2 | exact q_8 | exact q_7 | exact q_13 | exact Y_sbin rfl rfl rfl rfl | exact q_20 | exact q_25 | exact q_26))
    (apply q_P 27 rfl (by kernel_rfl) rfl rfl rfl; (first | exact q_1 | exact q_2 | exact q_8 | exact q_7 | exact q_13 | exact Y_sbin rfl rfl rfl rfl | exact q_20 | exact q_25 | exact q_26))
    (apply q_P 28 rfl (by kernel_rfl) rfl rfl rfl; (first | exact q_1 | exact q_2 | exact q_8 | exact q_7 | exact q_13 | exact Y_sbin rfl rfl rfl rfl | exact q_20 | exact q_25 | exact q_26))
    (apply q_P 29 rfl (by kernel_rfl) rfl rfl rfl; (first | exact q_1 | exact q_2 | exact q_8 | exact q_7 | exact q_13 | exact Y_sbin rfl rfl rfl rfl | exact q_20 | exact q_25 | exact q_26))
    (apply q_P 30 rfl (by kernel_rfl) rfl rfl rfl; (first | exact q_1 | exact q_2 | exact q_8 | exact q_7 | exact q_13 | exact Y_sbin rfl rfl rfl rfl | exact q_20 | exact q_25 | exact q_26))
    (apply q_P 31 rfl (by kernel_rfl) rfl rfl rfl; (first | exact q_1 | exact q_2 | exact q_8 | exact q_7 | exact q_13 | exact Y_sbin rfl rfl rfl rfl | exact q_20 | exact q_25 | exact q_26))
    (apply q_P 32 rfl (by kernel_rfl) rfl rfl rfl; (first | exact q_1 | exact q_2 | exact q_8 | exact q_7 | exact q_13 | exact Y_sbin rfl rfl rfl rfl | exact q_20 | exact q_25 | exact q_26))
    (apply q_P 33 rfl (by kernel_rfl) rfl rfl rfl; (first | exact q_1 | exact q_2 | exact q_8 | exact q_7 | exact q_13 | exact Y_sbin rfl rfl rfl rfl | exact q_20 | exact q_25 | exact q_26))
    (apply q_P 34 rfl (by kernel_rfl) rfl rfl rfl; (first | exact q_1 | exact q_2 | exact q_8 | exact q_7 | exact q_13 | exact Y_sbin rfl rfl rfl rfl | exact q_20 | exact q_25 | exact q_26))
    (apply q_P 35 rfl (by kernel_rfl) rfl rfl rfl; (first | exact q_1 | exact q_2 | exact q_8 | exact q_7 | exact q_13 | exact Y_sbin rfl rfl rfl rfl | exact q_20 | exact q_25 | exact q_26))
    (apply q_P 36 rfl (by kernel_rfl) rfl rfl rfl; (first | exact q_1 | exact q_2 | exact q_8 | exact q_7 | exact q_13 | exact Y_sbin rfl rfl rfl rfl | exact q_20 | exact q_25 | exact q_26))
    (apply q_P 38 rfl (by kernel_rfl) rfl rfl rfl; (first | exact q_1 | exact q_2 | exact q_8 | exact q_7 | exact q_13 | exact Y_sbin rfl rfl rfl rfl | exact q_20 | exact q_25 | exact q_26))
    (apply q_P 39 rfl (by kernel_rfl) rfl rfl rfl; (first | exact q_1 | exact q_2 | exact q_8 | exact q_7 | exact q_13 | exact Y_sbin rfl rfl rfl rfl | exact q_20 | exact q_25 | exact q_26))
    (apply q_P 40 rfl (by kernel_rfl) rfl rfl rfl; (first | exact q_1 | exact q_2 | exact q_8 | exact q_7 | exact q_13 | exact Y_sbin rfl rfl rfl rfl | exact q_20 | exact q_25 | exact q_26))
    (apply q_P 41 rfl (by kernel_rfl) rfl rfl rfl; (first | exact q_1 | exact q_2 | exact q_8 | exact q_7 | exact q_13 | exact Y_sbin rfl rfl rfl rfl | exact q_20 | exact q_25 | exact q_26))
    (apply q_P 42 rfl (by kernel_rfl) rfl rfl rfl; (first | exact q_1 | exact q_2 | exact q_8 | exact q_7 | exact q_13 | exact Y_sbin rfl rfl rfl rfl | exact q_20 | exact q_25 | exact q_26))
    (apply q_P 43 rfl (by kernel_rfl) rfl rfl rfl; (first | exact q_1 | exact q_2 | exact q_8 | exact q_7 | exact q_13 | exact Y_sbin rfl rfl rfl rfl | exact q_20 | exact q_25 | exact q_26))
    (apply q_P 44 rfl (by kernel_rfl) rfl rfl rfl; (first | exact q_1 | exact q_2 | exact q_8 | exact q_7 | exact q_13 | exact Y_sbin rfl rfl rfl rfl | exact q_20 | exact q_25 | exact q_26))
    (apply q_P 45 rfl (by kernel_rfl) rfl rfl rfl; (first | exact q_1 | exact q_2 | exact q_8 | exact q_7 | exact q_13 | exact Y_sbin rfl rfl rfl rfl | exact q_20 | exact q_25 | exact q_26))
    (apply q_P 46 rfl (by kernel_rfl) rfl rfl rfl; (first | exact q_1 | exact q_2 | exact q_8 | exact q_7 | exact q_13 | exact Y_sbin rfl rfl rfl rfl | exact q_20 | exact q_25 | exact q_26))
    (apply q_P 47 rfl (by kernel_rfl) rfl rfl rfl; (first | exact q_1 | exact q_2 | exact q_8 | exact q_7 | exact q_13 | exact Y_sbin rfl rfl rfl rfl | exact q_20 | exact q_25 | exact q_26))
    (apply q_P 49 rfl (by kernel_rfl) rfl rfl rfl; (first | exact q_1 | exact q_2 | exact q_8 | exact q_7 | exact q_13 | exact Y_sbin rfl rfl rfl rfl | exact q_20 | exact q_25 | exact q_26))
    (apply q_P 50 rfl (by kernel_rfl) rfl rfl rfl; (first | exact q_1 | exact q_2 | exact q_8 | exact q_7 | exact q_13 | exact Y_sbin rfl rfl rfl rfl | exact q_20 | exact q_25 | exact q_26))
    (apply q_P 51 rfl (by kernel_rfl) rfl rfl rfl; (first | exact q_1 | exact q_2 | exact q_8 | exact q_7 | exact q_13 | exact Y_sbin rfl rfl rfl rfl | exact q_20 | exact q_25 | exact q_26))
    (apply q_P 52 rfl (by kernel_rfl) rfl rfl rfl; (first | exact q_1 | exact q_2 | exact q_8 | exact q_7 | exact q_13 | exact Y_sbin rfl rfl rfl rfl | exact q_20 | exact q_25 | exact q_26))
    (apply q_P 53 rfl (by kernel_rfl) rfl rfl rfl; (first | exact q_1 | exact q_2 | exact q_8 | exact q_7 | exact q_13 | exact Y_sbin rfl rfl rfl rfl | exact q_20 | exact q_25 | exact q_26))
    (apply q_P 54 rfl (by kernel_rfl) rfl rfl rfl; (first | exact q_1 | exact q_2 | exact q_8 | exact q_7 | exact q_13 | exact Y_sbin rfl rfl rfl rfl | exact q_20 | exact q_25 | exact q_26))
    (apply q_P 55 rfl (by kernel_rfl) rfl rfl rfl; (first | exact q_1 | exact q_2 | exact q_8 | exact q_7 | exact q_13 | exact Y_sbin rfl rfl rfl rfl | exact q_20 | exact q_25 | exact q_26))
    (apply q_P 56 rfl (by kernel_rfl) rfl rfl rfl; (first | exact q_1 | exact q_2 | exact q_8 | exact q_7 | exact q_13 | exact Y_sbin rfl rfl rfl rfl | exact q_20 | exact q_25 | exact q_26))
    (apply q_P 57 rfl (by kernel_rfl) rfl rfl rfl; (first | exact q_1 | exact q_2 | exact q_8 | exact q_7 | exact q_13 | exact Y_sbin rfl rfl rfl rfl | exact q_20 | exact q_25 | exact q_26))
    (apply q_P 58 rfl (by kernel_rfl) rfl rfl rfl; (first | exact q_1 | exact q_2 | exact q_8 | exact q_7 | exact q_13 | exact Y_sbin rfl rfl rfl rfl | exact q_20 | exact q_25 | exact q_26))
    (apply q_P 60 rfl (by kernel_rfl) rfl rfl rfl; (first | exact q_1 | exact q_2 | exact q_8 | exact q_7 | exact q_13 | exact Y_sbin rfl rfl rfl rfl | exact q_20 | exact q_25 | exact q_26))
    (apply q_P 61 rfl (by kernel_rfl) rfl rfl rfl; (first | exact q_1 | exact q_2 | exact q_8 | exact q_7 | exact q_13 | exact Y_sbin rfl rfl rfl rfl | exact q_20 | exact q_25 | exact q_26))
    (apply q_P 62 rfl (by kernel_rfl) rfl rfl rfl; (first | exact q_1 | exact q_2 | exact q_8 | exact q_7 | exact q_13 | exact Y_sbin rfl rfl rfl rfl | exact q_20 | exact q_25 | exact q_26))
    (apply q_P 63 rfl (by kernel_rfl) rfl rfl rfl; (first | exact q_1 | exact q_2 | exact q_8 | exact q_7 | exact q_13 | exact Y_sbin rfl rfl rfl rfl | exact q_20 | exact q_25 | exact q_26))
    (apply q_P 64 rfl (by kernel_rfl) rfl rfl rfl; (first | exact q_1 | exact q_2 | exact q_8 | exact q_7 | exact q_13 | exact Y_sbin rfl rfl rfl rfl | exact q_20 | exact q_25 | exact q_26))
    (apply q_P 65 rfl (by kernel_rfl) rfl rfl rfl; (first | exact q_1 | exact q_2 | exact q_8 | exact q_7 | exact q_13 | exact Y_sbin rfl rfl rfl rfl | exact q_20 | exact q_25 | exact q_26))
    (apply q_P 66 rfl (by kernel_rfl) rfl rfl rfl; (first | exact q_1 | exact q_2 | exact q_8 | exact q_7 | exact q_13 | exact Y_sbin rfl rfl rfl rfl | exact q_20 | exact q_25 | exact q_26))
    (apply q_P 67 rfl (by kernel_rfl) rfl rfl rfl; (first | exact q_1 | exact q_2 | exact q_8 | exact q_7 | exact q_13 | exact Y_sbin rfl rfl rfl rfl | exact q_20 | exact q_25 | exact q_26))
    (apply q_P 68 rfl (by kernel_rfl) rfl rfl rfl; (first | exact q_1 | exact q_2 | exact q_8 | exact q_7 | exact q_13 | exact Y_sbin rfl rfl rfl rfl | exact q_20 | exact q_25 | exact q_26))
    (apply q_P 69 rfl (by kernel_rfl) rfl rfl rfl; (first | exact q_1 | exact q_2 | exact q_8 | exact q_7 | exact q_13 | exact Y_sbin rfl rfl rfl rfl | exact q_20 | exact q_25 | exact q_26))
    (apply q_P 71 rfl (by kernel_rfl) rfl rfl rfl; (first | exact q_1 | exact q_2 | exact q_8 | exact q_7 | exact q_13 | exact Y_sbin rfl rfl rfl rfl | exact q_20 | exact q_25 | exact q_26))
    (apply q_P 72 rfl (by kernel_rfl) rfl rfl rfl; (first | exact q_1 | exact q_2 | exact q_8 | exact q_7 | exact q_13 | exact Y_sbin rfl rfl rfl rfl | exact q_20 | exact q_25 | exact q_26))
    (apply q_P 73 rfl (by kernel_rfl) rfl rfl rfl; (first | exact q_1 | exact q_2 | exact q_8 | exact q_7 | exact q_13 | exact Y_sbin rfl rfl rfl rfl | exact q_20 | exact q_25 | exact q_26))
    (apply q_P 78 rfl (by kernel_rfl) rfl rfl rfl; (first | exact q_1 | exact q_2 | exact q_8 | exact q_7 | exact q_13 | exact Y_sbin rfl rfl rfl rfl | exact q_20 | exact q_25 | exact q_26))
    (apply q_P 79 rfl (by kernel_rfl) rfl rfl rfl; (first | exact q_1 | exact q_2 | exact q_8 | exact q_7 | exact q_13 | exact Y_sbin rfl rfl rfl rfl | exact q_20 | exact q_25 | exact q_26))
    refine N_one (j := 4) (by kernel_rfl) ?_
    refine T_call rfl rfl rfl rfl rfl rfl h0 (fun _ => rfl) ?_
    refine N_one (j := 15) (by kernel_rfl) ?_
    refine T_call rfl rfl rfl rfl rfl rfl h1 (fun _ => rfl) ?_
    refine N_one (j := 26) (by kernel_rfl) ?_
    refine T_call rfl rfl rfl rfl rfl rfl h2 (fun _ => rfl) ?_
    refine N_one (j := 37) (by kernel_rfl) ?_
    refine T_call rfl rfl rfl rfl rfl rfl h3 (fun _ => rfl) ?_
    refine N_one (j := 48) (by kernel_rfl) ?_
    refine T_call rfl rfl rfl rfl rfl rfl h4 (fun _ => rfl) ?_
    refine N_one (j := 59) (by kernel_rfl) ?_
    refine T_call rfl rfl rfl rfl rfl rfl h5 (fun _ => rfl) ?_
    refine N_one (j := 70) (by kernel_rfl) ?_
    refine T_call rfl rfl rfl rfl rfl rfl h6 (fun _ => rfl) ?_
    (apply q_P 74 rfl (by kernel_rfl) rfl rfl rfl; (first | exact q_1 | exact q_2 | exact q_8 | exact q_7 | exact q_13 | exact Y_sbin rfl rfl rfl rfl | exact q_20 | exact q_25 | exact q_26))
    refine N_skip (i := 75) rfl (by kernel_rfl) (by kernel_rfl) (by kernel_rfl) (by repeat (first | exact np_post | refine np_then ?_ | refine np_in ?_)) rfl rfl rfl ?_
    refine N_skip (i := 76) rfl (by kernel_rfl) (by kernel_rfl) (by kernel_rfl) (by repeat (first | exact np_post | refine np_then ?_ | refine np_in ?_)) rfl rfl rfl ?_
    (apply q_P 77 rfl (by kernel_rfl) rfl rfl rfl; (first | exact q_1 | exact q_2 | exact q_8 | exact q_7 | exact q_13 | exact Y_sbin rfl rfl rfl rfl | exact q_20 | exact q_25 | exact q_26))
    (apply q_P 80 rfl (by kernel_rfl) rfl rfl rfl; (first | exact q_1 | exact q_2 | exact q_8 | exact q_7 | exact q_13 | exact Y_sbin rfl rfl rfl rfl | exact q_20 | exact q_25 | exact q_26))
    (apply q_P 81 rfl (by kernel_rfl) rfl rfl rfl; (first | exact q_1 | exact q_2 | exact q_8 | exact q_7 | exact q_13 | exact Y_sbin rfl rfl rfl rfl | exact q_20 | exact q_25 | exact q_26))
    (apply q_P 82 rfl (by kernel_rfl) rfl rfl rfl; (first | exact q_1 | exact q_2 | exact q_8 | exact q_7 | exact q_13 | exact Y_sbin rfl rfl rfl rfl | exact q_20 | exact q_25 | exact q_26))
    (apply q_P 83 rfl (by kernel_rfl) rfl rfl rfl; (first | exact q_1 | exact q_2 | exact q_8 | exact q_7 | exact q_13 | exact Y_sbin rfl rfl rfl rfl | exact q_20 | exact q_25 | exact q_26))
    (apply q_P 84 rfl (by kernel_rfl) rfl rfl rfl; (first | exact q_1 | exact q_2 | exact q_8 | exact q_7 | exact q_13 | exact Y_sbin rfl rfl rfl rfl | exact q_20 | exact q_25 | exact q_26))
    refine N_one (j := 85) (by kernel_rfl) ?_
    refine T_call rfl rfl rfl rfl rfl rfl h7 (fun _ => rfl) ?_
    refine N_one (j := 86) (by kernel_rfl) ?_
    refine T_slice tabOk rfl rfl rfl rfl rfl rfl rfl rfl rfl rfl rfl rfl ?_
    refine N_one (j := 87) (by kernel_rfl) ?_
    refine T_cL rfl rfl rfl rfl rfl rfl h9 rfl (fun _ _ _ => val_mk _ _ _ _ _ rfl rfl) ?_
    (apply q_P 88 rfl (by kernel_rfl) rfl rfl rfl; (first | exact q_1 | exact q_2 | exact q_8 | exact q_7 | exact q_13 | exact Y_sbin rfl rfl rfl rfl | exact q_20 | exact q_25 | exact q_26))
    refine N_done (by kernel_rfl) ?_
    repeat (first | refine A_seq ?_ | refine A_block ?_ | refine R_list ?_ | refine R_quiet rfl mixed (by kernel_rfl) ?_ | ((first | apply O_y rfl rfl rfl | apply Q_y rfl rfl rfl); (first | exact q_1 | exact q_2 | exact q_3 | exact q_4 | exact q_5 | exact q_6 | exact q_7 | exact q_8 | exact q_9 | exact q_10 | exact q_11 | exact q_12 | exact q_13 | exact q_14 | exact q_15 | exact q_16 | exact q_17 | exact q_18 | exact q_19 | exact q_20 | exact q_21 | exact q_22 | exact q_23 | exact q_24 | fail)) | refine O_nil ?_ | refine Q_nil ?_ | refine q_j ?_ | refine q_k ?_ | refine q_d ?_ | refine q_a ?_ | refine q_b ?_ | refine q_c ?_ | refine A_ct rfl ?_ | refine A_cf rfl ?_ | refine A_skip ?_ | refine A_exit ?_ | refine A_ret ?_ | refine q_l ?_ | refine q_m ?_ | refine q_n ?_ | refine q_h ?_ | refine q_o ?_ | refine q_e ?_ | refine q_f ?_ | refine q_g ?_ | fail)
    exact X_ret rfl ⟨rfl, rfl⟩
end Go.Proofs.Ytjmelcdgbnjefaa.Ab

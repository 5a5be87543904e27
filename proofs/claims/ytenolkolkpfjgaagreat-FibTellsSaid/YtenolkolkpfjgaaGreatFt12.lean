/-
  Texts of a proof, one behind the other (part 13).
-/
import Derived.Test.YtenolkolkpfjgaaGreatFt8
import Derived.Test.YtenolkolkpfjgaaGreatFt10
import Derived.Test.YtenolkolkpfjgaaGreatFt11
set_option linter.unusedVariables false
set_option linter.unusedSimpArgs false
namespace Go.Proofs.YtenolkolkpfjgaaGreat.Ab
set_option linter.unusedVariables false
set_option maxRecDepth 100000
open Go.RowKit Go.Lib
set_option linter.unusedSimpArgs false
attribute [local irreducible] AWp AOps AQ AYield AEff ACall AWk AAny AAt AThen AIn APost NoPanic
def intD (n : Int) : List Dat := [.sc (.int .i64 n)]
theorem intD_len (n : Int) : (intD n).length = 1 := rfl
def intsA (l : List Int) : AVal := .d (.sl (l.flatMap intD) l.length)
theorem firstI_drop {l : List Int} {k : Nat} (hk : k < l.length) (h0 : l[k] = 0) : firstI (l.drop k) = firstI (l.drop (k + 1)) := by
  rw [List.drop_eq_getElem_cons hk, h0]; rfl
theorem firstI_at {l : List Int} {k : Nat} (hk : k < l.length) (h0 : l[k] ≠ 0) : firstI (l.drop k) = l[k] := by
  rw [List.drop_eq_getElem_cons hk]
  show (if l[k] = 0 then _ else _) = _
  rw [if_neg h0]
theorem or_int (l : List Int) (hn : l.length ≤ 1000000) : ACall Tryz.prog 48 [intsA l] [] (Just (intA (firstI l))) := by
  refine ACall_of tabOk Tryz.func48 rfl Tryz.ntmps48 (congrArg Array.toList Tryz.results48) (by kernel_rfl) rfl ?_
  repeat (first | refine q_Z ?_ | refine R_quiet rfl mixed (by kernel_rfl) ?_ | ((first | apply O_y rfl rfl rfl | apply Q_y rfl rfl rfl); (first | exact q_A | exact q_5 | exact q_B)) | refine q_d ?_ | refine q_a ?_ | refine q_b ?_ | refine q_c ?_ | refine A_ct rfl ?_ | refine A_cf rfl ?_ | refine q_W ?_)
  refine A_loop (fun k : Nat => [(2, intA 0), (3, intA 0), (6, intsA l), (7, intA (l.length : Int)), (8, intA (k : Int))]) (fun _ => []) (fun k => k ≤ l.length ∧ firstI l = firstI (l.drop k)) (fun k => l.length - k) 0 ⟨by omega, rfl⟩ (Wk_sel ⟨rfl, rfl, rfl, rfl, rfl, trivial⟩ trivial) ?_
  rintro k ⟨hk, he⟩
  dsimp only
  by_cases hlt : k < l.length
  · by_cases h0 : l[k] = 0
    ·
      repeat (first | refine q_Z ?_ | refine R_quiet rfl mixed (by kernel_rfl) ?_ | ((first | apply O_y rfl rfl rfl | apply Q_y rfl rfl rfl); (first | exact q_A | exact R_loadi tabOk rfl rfl rfl rfl (by first | exact win_flat0 intD_len l k _ hlt (by decide) | exact win_flat intD_len l k _ _ hlt (by decide) | exact win_flat2 intD_len l k _ _ _ hlt (by decide) | rfl) rfl rfl | exact q_B)) | refine q_d ?_ | refine q_a ?_ | refine q_b ?_ | refine q_c ?_ | refine A_ct rfl ?_ | refine A_cf rfl ?_ | refine q_W ?_)
      exact ⟨k + 1, ⟨by omega, by rw [he, firstI_drop hlt h0]⟩, by omega, Wk_sel ⟨rfl, rfl, rfl, rfl, rfl, trivial⟩ trivial⟩
    ·
      repeat (first | refine q_Z ?_ | refine R_quiet rfl mixed (by kernel_rfl) ?_ | ((first | apply O_y rfl rfl rfl | apply Q_y rfl rfl rfl); (first | exact q_A | exact R_loadi tabOk rfl rfl rfl rfl (by first | exact win_flat0 intD_len l k _ hlt (by decide) | exact win_flat intD_len l k _ _ hlt (by decide) | exact win_flat2 intD_len l k _ _ _ hlt (by decide) | rfl) rfl rfl | exact q_B)) | refine q_d ?_ | refine q_a ?_ | refine q_b ?_ | refine q_c ?_ | refine A_ct rfl ?_ | refine A_cf rfl ?_ | refine q_W ?_)
      exact X_ret rfl ⟨by rw [he, firstI_at hlt h0]; rfl, rfl⟩
  · have : k = l.length := by omega
    subst this
    repeat (first | refine q_Z ?_ | refine R_quiet rfl mixed (by kernel_rfl) ?_ | ((first | apply O_y rfl rfl rfl | apply Q_y rfl rfl rfl); (first | exact q_A | exact q_5 | exact q_B)) | refine q_d ?_ | refine q_a ?_ | refine q_b ?_ | refine q_c ?_ | refine A_ct rfl ?_ | refine A_cf rfl ?_ | refine q_W ?_)
    exact X_ret rfl ⟨by rw [he, List.drop_length]; rfl, rfl⟩
set_option maxHeartbeats 4000000 in
theorem cmpPrefix_A (p q : Pfx) : ACall Tryz.prog 99 [pfxA p, pfxA q] [] (Just (intA (ordP p q))) := by
  have h1 := compare_addr p.a q.a
  have h2 := compare_int p.b q.b
  have h3 := or_int [c2 p.a q.a, c2 p.b q.b] (by simp)
  rw [ordP_first] at h3
  refine ACall_of tabOk Tryz.func99 rfl Tryz.ntmps99 (congrArg Array.toList Tryz.results99) (by kernel_rfl) rfl ?_
  repeat (first | refine q_Z ?_ | refine R_quiet rfl mixed (by kernel_rfl) ?_ | ((first | apply O_y rfl rfl rfl | apply Q_y rfl rfl rfl); (first | exact q_A | exact q_5 | exact q_B)) | refine q_d ?_ | refine q_a ?_ | refine q_b ?_ | refine q_c ?_ | refine A_ct rfl ?_ | refine A_cf rfl ?_ | refine q_W ?_ | (first | refine O_c rfl rfl rfl rfl rfl h1 (fun _ => rfl) ?_ | refine O_c rfl rfl rfl rfl rfl h2 (fun _ => rfl) ?_ | refine Q_c rfl rfl rfl rfl rfl h1 rfl (fun _ _ _ => val_mk _ _ _ _ _ rfl rfl) ?_ | refine Q_c rfl rfl rfl rfl rfl h2 rfl (fun _ _ _ => val_mk _ _ _ _ _ rfl rfl) ?_))
  refine N_begin [] mixed ?_
  repeat (first | ((first | apply q_M 0 rfl rfl (by kernel_rfl) (by decide +kernel) (by decide +kernel) rfl rfl rfl | apply q_M 1 rfl rfl (by kernel_rfl) (by decide +kernel) (by decide +kernel) rfl rfl rfl | apply q_M 2 rfl rfl (by kernel_rfl) (by decide +kernel) (by decide +kernel) rfl rfl rfl | apply q_M 3 rfl rfl (by kernel_rfl) (by decide +kernel) (by decide +kernel) rfl rfl rfl | apply q_M 4 rfl rfl (by kernel_rfl) (by decide +kernel) (by decide +kernel) rfl rfl rfl | apply q_M 5 rfl rfl (by kernel_rfl) (by decide +kernel) (by decide +kernel) rfl rfl rfl | apply q_M 6 rfl rfl (by kernel_rfl) (by decide +kernel) (by decide +kernel) rfl rfl rfl | apply q_M 7 rfl rfl (by kernel_rfl) (by decide +kernel) (by decide +kernel) rfl rfl rfl | apply q_M 8 rfl rfl (by kernel_rfl) (by decide +kernel) (by decide +kernel) rfl rfl rfl | apply q_M 9 rfl rfl (by kernel_rfl) (by decide +kernel) (by decide +kernel) rfl rfl rfl | apply q_M 10 rfl rfl (by kernel_rfl) (by decide +kernel) (by decide +kernel) rfl rfl rfl | apply q_M 11 rfl rfl (by kernel_rfl) (by decide +kernel) (by decide +kernel) rfl rfl rfl | apply q_M 12 rfl rfl (by kernel_rfl) (by decide +kernel) (by decide +kernel) rfl rfl rfl ); (first | exact q_A | exact q_5 | exact q_B)) | (apply q_L 0 rfl rfl (by kernel_rfl) (by decide +kernel) (by decide +kernel) rfl rfl rfl; (first | exact q_5 | exact q_6 | exact q_7 | exact q_15 | exact q_16 | exact q_19)) | (apply q_L 1 rfl rfl (by kernel_rfl) (by decide +kernel) (by decide +kernel) rfl rfl rfl; (first | exact q_5 | exact q_6 | exact q_7 | exact q_15 | exact q_16 | exact q_19)) | (apply q_L 2 rfl rfl (by kernel_rfl) (by decide +kernel) (by decide +kernel) rfl rfl rfl; (first | exact q_5 | exact q_6 | exact q_7 | exact q_15 | exact q_16 | exact q_19)) | (apply q_L 3 rfl rfl (by kernel_rfl) (by decide +kernel) (by decide +kernel) rfl rfl rfl; (first | exact q_5 | exact q_6 | exact q_7 | exact q_15 | exact q_16 | exact q_19)) | (apply q_L 4 rfl rfl (by kernel_rfl) (by decide +kernel) (by decide +kernel) rfl rfl rfl; (first | exact q_5 | exact q_6 | exact q_7 | exact q_15 | exact q_16 | exact q_19)) | (apply q_L 5 rfl rfl (by kernel_rfl) (by decide +kernel) (by decide +kernel) rfl rfl rfl; (first | exact q_5 | exact q_6 | exact q_7 | exact q_15 | exact q_16 | exact q_19)) | (apply q_L 6 rfl rfl (by kernel_rfl) (by decide +kernel) (by decide +kernel) rfl rfl rfl; (first | exact q_5 | exact q_6 | exact q_7 | exact q_15 | exact q_16 | exact q_19)) | (apply q_L 7 rfl rfl (by kernel_rfl) (by decide +kernel) (by decide +kernel) rfl rfl rfl; (first | exact q_5 | exact q_6 | exact q_7 | exact q_15 | exact q_16 | exact q_19)) | (apply q_L 8 rfl rfl (by kernel_rfl) (by decide +kernel) (by decide +kernel) rfl rfl rfl; (first | exact q_5 | exact q_6 | exact q_7 | exact q_15 | exact q_16 | exact q_19)) | (apply q_L 9 rfl rfl (by kernel_rfl) (by decide +kernel) (by decide +kernel) rfl rfl rfl; (first | exact q_5 | exact q_6 | exact q_7 | exact q_15 | exact q_16 | exact q_19)) | (apply q_L 10 rfl rfl (by kernel_rfl) (by decide +kernel) (by decide +kernel) rfl rfl rfl; (first | exact q_5 | exact q_6 | exact q_7 | exact q_15 | exact q_16 | exact q_19)) | (apply q_L 11 rfl rfl (by kernel_rfl) (by decide +kernel) (by decide +kernel) rfl rfl rfl; (first | exact q_5 | exact q_6 | exact q_7 | exact q_15 | exact q_16 | exact q_19)) | (apply q_L 12 rfl rfl (by kernel_rfl) (by decide +kernel) (by decide +kernel) rfl rfl rfl; (first | exact q_5 | exact q_6 | exact q_7 | exact q_15 | exact q_16 | exact q_19)) | refine N_one (j := 0) (by decide +kernel) ?_ | refine N_one (j := 1) (by decide +kernel) ?_ | refine N_one (j := 2) (by decide +kernel) ?_ | refine N_one (j := 3) (by decide +kernel) ?_ | refine N_one (j := 4) (by decide +kernel) ?_ | refine N_one (j := 5) (by decide +kernel) ?_ | refine N_one (j := 6) (by decide +kernel) ?_ | refine N_one (j := 7) (by decide +kernel) ?_ | refine N_one (j := 8) (by decide +kernel) ?_ | refine N_one (j := 9) (by decide +kernel) ?_ | refine N_one (j := 10) (by decide +kernel) ?_ | refine N_one (j := 11) (by decide +kernel) ?_ | refine N_one (j := 12) (by decide +kernel) ?_ | refine T_alloc tabOk rfl rfl rfl rfl rfl rfl rfl ?_ | refine T_store tabOk rfl rfl rfl rfl rfl rfl rfl rfl rfl rfl rfl rfl rfl ?_ | refine T_box rfl rfl rfl rfl rfl rfl rfl rfl ?_ | (apply T_yield rfl rfl rfl rfl; (first | exact q_A | exact q_5 | exact q_B)) | refine N_done (by decide +kernel) ?_ | (first | refine T_call rfl rfl rfl rfl rfl rfl h1 (fun _ => rfl) ?_ | refine T_call rfl rfl rfl rfl rfl rfl h2 (fun _ => rfl) ?_ | refine T_slice tabOk rfl rfl rfl rfl rfl rfl rfl rfl rfl rfl rfl rfl ?_ | refine T_cL rfl rfl rfl rfl rfl rfl h3 rfl (fun _ _ _ => val_mk _ _ _ _ _ rfl rfl) ?_))
  repeat (first | refine q_Z ?_ | refine R_quiet rfl mixed (by kernel_rfl) ?_ | ((first | apply O_y rfl rfl rfl | apply Q_y rfl rfl rfl); (first | exact q_A | exact q_5 | exact q_B)) | refine q_d ?_ | refine q_a ?_ | refine q_b ?_ | refine q_c ?_ | refine A_ct rfl ?_ | refine A_cf rfl ?_ | refine q_W ?_)
  exact X_ret rfl ⟨rfl, rfl⟩
set_option maxHeartbeats 8000000 in
theorem routesCmp_A (x y : Rte) : ACall Tryz.prog 82 [rteA x, rteA y] [] (Just (intA (ordR x y))) := by
  have h1 := cmpPrefix_A x.p y.p
  have h2 := compare_u8 x.f y.f
  have h3 := compare_int x.d y.d
  have h4 := compare_int x.m y.m
  have h5 := compare_int x.t y.t
  have h6 := compare_addr x.h y.h
  have h7 := compare_str x.i y.i
  have h8 := cmpBool_A x.x y.x
  refine ACall_of tabOk Tryz.func82 rfl Tryz.ntmps82 (congrArg Array.toList Tryz.results82) (by kernel_rfl) rfl ?_
  have h9 := or_int [ordP x.p y.p, c2 x.f y.f, c2 x.d y.d, c2 x.m y.m, c2 x.t y.t, c2 x.h y.h, compareBytes x.i y.i, cB x.x y.x] (by simp)
  rw [ordR_first] at h9
  refine A_seq ?_
  refine R_list ?_
  repeat (first | refine q_Z ?_ | refine R_quiet rfl mixed (by kernel_rfl) ?_ | ((first | apply O_y rfl rfl rfl | apply Q_y rfl rfl rfl); (first | exact q_A | exact q_5 | exact q_B)) | refine q_d ?_ | refine q_a ?_ | refine q_b ?_ | refine q_c ?_ | refine A_ct rfl ?_ | refine A_cf rfl ?_ | refine q_W ?_)
  refine N_begin [] mixed ?_
  (apply q_P 0 rfl (by kernel_rfl) rfl rfl rfl; (first | exact q_A | exact q_5 | exact q_B | fail))
  (apply q_P 1 rfl (by kernel_rfl) rfl rfl rfl; (first | exact q_A | exact q_5 | exact q_B | fail))
  (apply q_P 2 rfl (by kernel_rfl) rfl rfl rfl; (first | exact q_A | exact q_5 | exact q_B | fail))
  (apply q_P 3 rfl (by kernel_rfl) rfl rfl rfl; (first | exact q_A | exact q_5 | exact q_B | fail))
  (apply q_P 5 rfl (by kernel_rfl) rfl rfl rfl; (first | exact q_A | exact q_5 | exact q_B | fail))
  (apply q_P 6 rfl (by kernel_rfl) rfl rfl rfl; (first | exact q_A | exact q_5 | exact q_B | fail))
  (apply q_P 7 rfl (by kernel_rfl) rfl rfl rfl; (first | exact q_A | exact q_5 | exact q_B | fail))
  (apply q_P 8 rfl (by kernel_rfl) rfl rfl rfl; (first | exact q_A | exact q_5 | exact q_B | fail))
  (apply q_P 10 rfl (by kernel_rfl) rfl rfl rfl; (first | exact q_A | exact q_5 | exact q_B | fail))
  (apply q_P 11 rfl (by kernel_rfl) rfl rfl rfl; (first | exact q_A | exact q_5 | exact q_B | fail))
  (apply q_P 12 rfl (by kernel_rfl) rfl rfl rfl; (first | exact q_A | exact q_5 | exact q_B | fail))
  (apply q_P 13 rfl (by kernel_rfl) rfl rfl rfl; (first | exact q_A | exact q_5 | exact q_B | fail))
  (apply q_P 15 rfl (by kernel_rfl) rfl rfl rfl; (first | exact q_A | exact q_5 | exact q_B | fail))
  (apply q_P 16 rfl (by kernel_rfl) rfl rfl rfl; (first | exact q_A | exact q_5 | exact q_B | fail))
  (apply q_P 17 rfl (by kernel_rfl) rfl rfl rfl; (first | exact q_A | exact q_5 | exact q_B | fail))
  (apply q_P 18 rfl (by kernel_rfl) rfl rfl rfl; (first | exact q_A | exact q_5 | exact q_B | fail))
  (apply q_P 20 rfl (by kernel_rfl) rfl rfl rfl; (first | exact q_A | exact q_5 | exact q_B | fail))
  (apply q_P 21 rfl (by kernel_rfl) rfl rfl rfl; (first | exact q_A | exact q_5 | exact q_B | fail))
  (apply q_P 22 rfl (by kernel_rfl) rfl rfl rfl; (first | exact q_A | exact q_5 | exact q_B | fail))
  (apply q_P 23 rfl (by kernel_rfl) rfl rfl rfl; (first | exact q_A | exact q_5 | exact q_B | fail))
  (apply q_P 25 rfl (by kernel_rfl) rfl rfl rfl; (first | exact q_A | exact q_5 | exact q_B | fail))
  (apply q_P 26 rfl (by kernel_rfl) rfl rfl rfl; (first | exact q_A | exact q_5 | exact q_B | fail))
  (apply q_P 27 rfl (by kernel_rfl) rfl rfl rfl; (first | exact q_A | exact q_5 | exact q_B | fail))
  (apply q_P 28 rfl (by kernel_rfl) rfl rfl rfl; (first | exact q_A | exact q_5 | exact q_B | fail))
  (apply q_P 30 rfl (by kernel_rfl) rfl rfl rfl; (first | exact q_A | exact q_5 | exact q_B | fail))
  (apply q_P 31 rfl (by kernel_rfl) rfl rfl rfl; (first | exact q_A | exact q_5 | exact q_B | fail))
  (apply q_P 32 rfl (by kernel_rfl) rfl rfl rfl; (first | exact q_A | exact q_5 | exact q_B | fail))
  (apply q_P 33 rfl (by kernel_rfl) rfl rfl rfl; (first | exact q_A | exact q_5 | exact q_B | fail))
  (apply q_P 35 rfl (by kernel_rfl) rfl rfl rfl; (first | exact q_A | exact q_5 | exact q_B | fail))
  (apply q_P 36 rfl (by kernel_rfl) rfl rfl rfl; (first | exact q_A | exact q_5 | exact q_B | fail))
  (apply q_P 37 rfl (by kernel_rfl) rfl rfl rfl; (first | exact q_A | exact q_5 | exact q_B | fail))
  (apply q_P 38 rfl (by kernel_rfl) rfl rfl rfl; (first | exact q_A | exact q_5 | exact q_B | fail))
  refine N_one (j := 4) (by kernel_rfl) ?_
  refine T_call rfl rfl rfl rfl rfl rfl h1 (fun _ => rfl) ?_
  refine N_one (j := 9) (by kernel_rfl) ?_
  refine T_call rfl rfl rfl rfl rfl rfl h2 (fun _ => rfl) ?_
  refine N_one (j := 14) (by kernel_rfl) ?_
  refine T_call rfl rfl rfl rfl rfl rfl h3 (fun _ => rfl) ?_
  refine N_one (j := 19) (by kernel_rfl) ?_
  refine T_call rfl rfl rfl rfl rfl rfl h4 (fun _ => rfl) ?_
  refine N_one (j := 24) (by kernel_rfl) ?_
  refine T_call rfl rfl rfl rfl rfl rfl h5 (fun _ => rfl) ?_
  refine N_one (j := 29) (by kernel_rfl) ?_
  refine T_call rfl rfl rfl rfl rfl rfl h6 (fun _ => rfl) ?_
  refine N_one (j := 34) (by kernel_rfl) ?_
  refine T_call rfl rfl rfl rfl rfl rfl h7 (fun _ => rfl) ?_
  refine N_one (j := 39) (by kernel_rfl) ?_
  refine T_call rfl rfl rfl rfl rfl rfl h8 (fun _ => rfl) ?_
  refine N_one (j := 40) (by kernel_rfl) ?_
  refine T_slice tabOk rfl rfl rfl rfl rfl rfl rfl rfl rfl rfl rfl rfl ?_
  refine N_one (j := 41) (by kernel_rfl) ?_
  refine T_cL rfl rfl rfl rfl rfl rfl h9 rfl (fun _ _ _ => val_mk _ _ _ _ _ rfl rfl) ?_
  (apply q_P 42 rfl (by kernel_rfl) rfl rfl rfl; (first | exact q_A | exact q_5 | exact q_B | fail))
  refine N_done (by kernel_rfl) ?_
  repeat (first | refine q_Z ?_ | refine R_quiet rfl mixed (by kernel_rfl) ?_ | ((first | apply O_y rfl rfl rfl | apply Q_y rfl rfl rfl); (first | exact q_A | exact q_5 | exact q_B)) | refine q_d ?_ | refine q_a ?_ | refine q_b ?_ | refine q_c ?_ | refine A_ct rfl ?_ | refine A_cf rfl ?_ | refine q_W ?_)
  exact X_ret rfl ⟨rfl, rfl⟩
end Go.Proofs.YtenolkolkpfjgaaGreat.Ab

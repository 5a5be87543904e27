/-
  Texts of a proof, one behind the other (part 10).
-/
import Derived.Test.YtmljmahlpcdhoaaPn1
import Derived.Test.YtmljmahlpcdhoaaPn4
import Derived.Test.YtmljmahlpcdhoaaPn8
set_option linter.unusedVariables false
set_option linter.unusedSimpArgs false
namespace Go.Proofs.Ytmljmahlpcdhoaa.Ab
set_option linter.unusedVariables false
set_option maxRecDepth 100000
open Go.RowKit Go.Lib
set_option linter.unusedSimpArgs false
attribute [local irreducible] AWp AOps AQ AYield AEff ACall AWk AAny AAt AThen AIn APost NoPanic
theorem fits51_A (n : Int) (c : Cls) (h0 : 0 ≤ n ∧ n < 4294967296) : ACall Try.prog 43 ([u32A n] ++ [.iptr (clsD c) 0]) [] (Just (boolA (decide (n = c.thr)))) := by
  have hw : IntKind.i64.wrap n = n := wrap_i64 ⟨by omega, by omega⟩
  refine ACall_of tabOk Try.func43 rfl Try.ntmps43 (congrArg Array.toList Try.results43) (by kernel_rfl) rfl ?_
  by_cases h : n = c.thr
  · rw [decide_eq_true h]
    repeat (first | refine A_seq ?_ | refine A_block ?_ | refine R_list ?_ | ((first | apply O_y rfl rfl rfl | apply Q_y rfl rfl rfl); (first | exact q_1 | exact q_2 | exact q_3 | exact q_4 | exact q_5 | exact q_6 | exact q_7 | exact q_8 | exact q_9 | exact q_10 | exact q_11 | exact q_12 | exact q_13 | exact q_14 | exact q_15 | exact q_16 | exact q_17 | exact q_18 | exact q_19 | exact q_20 | exact q_21 | exact q_22 | exact q_23 | exact q_24 | (exact Y_conv tabOk rfl rfl rfl rfl rfl hw))) | refine O_nil ?_ | refine Q_nil ?_ | refine q_j ?_ | refine q_k ?_ | refine q_d ?_ | refine q_a ?_ | refine q_b ?_ | refine q_c ?_ | refine A_ct rfl ?_ | refine A_cf rfl ?_ | refine A_skip ?_ | refine A_exit ?_ | refine A_ret ?_ | refine q_l ?_ | refine q_m ?_ | refine q_n ?_ | refine q_h ?_ | refine q_o ?_ | refine q_e ?_ | refine q_f ?_ | refine q_g ?_ | fail)
    exact X_ret rfl ⟨rfl, rfl⟩
  · rw [decide_eq_false h]
    repeat (first | refine A_seq ?_ | refine A_block ?_ | refine R_list ?_ | ((first | apply O_y rfl rfl rfl | apply Q_y rfl rfl rfl); (first | exact q_1 | exact q_2 | exact q_3 | exact q_4 | exact q_5 | exact q_6 | exact q_7 | exact q_8 | exact q_9 | exact q_10 | exact q_11 | exact q_12 | exact q_13 | exact q_14 | exact q_15 | exact q_16 | exact q_17 | exact q_18 | exact q_19 | exact q_20 | exact q_21 | exact q_22 | exact q_23 | exact q_24 | (exact Y_conv tabOk rfl rfl rfl rfl rfl hw))) | refine O_nil ?_ | refine Q_nil ?_ | refine q_j ?_ | refine q_k ?_ | refine q_d ?_ | refine q_a ?_ | refine q_b ?_ | refine q_c ?_ | refine A_ct rfl ?_ | refine A_cf rfl ?_ | refine A_skip ?_ | refine A_exit ?_ | refine A_ret ?_ | refine q_l ?_ | refine q_m ?_ | refine q_n ?_ | refine q_h ?_ | refine q_o ?_ | refine q_e ?_ | refine q_f ?_ | refine q_g ?_ | fail)
    exact X_ret rfl ⟨rfl, rfl⟩
theorem containsG_A (L : List Int) (f : FuncId) (caps : List AVal) (p : Int → Bool) (hf : ∀ x ∈ L, ACall Try.prog f ([u32A x] ++ caps) [] (Just (boolA (p x)))) (hn : L.length ≤ 1000000000) {b : Bool} (hb : L.any p = b) :
    ACall Try.prog 42 [usA L, .fn f caps] [] (Just (boolA b)) := by rw [← hb]; exact containsF_A L f caps p hf hn
theorem fits5_A (c : Cls) (s : Sbj) (hs : OkS s) : ACall Try.prog 41 [.iptr (clsD c) 0, .iptr (sbjD s) 0] [] (Just (boolA (fit5 c s))) := by
  unfold fit5
  obtain ⟨b, hb⟩ : ∃ b, (s.path.any fun n => decide (n = c.thr)) = b := ⟨_, rfl⟩
  have hc := containsG_A s.path 43 [.iptr (clsD c) 0] (fun n => decide (n = c.thr)) (fun n hn => fits51_A n c (hs.pu n hn)) hs.path hb
  rw [hb]
  refine ACall_of tabOk Try.func41 rfl Try.ntmps41 (congrArg Array.toList Try.results41) (by kernel_rfl) rfl ?_
  by_cases h1 : c.thr = -1
  · rw [decide_eq_true h1]
    repeat (first | refine A_seq ?_ | refine A_block ?_ | refine R_list ?_ | ((first | apply O_y rfl rfl rfl | apply Q_y rfl rfl rfl); (first | exact q_1 | exact q_2 | exact q_3 | exact q_4 | exact q_5 | exact q_6 | exact q_7 | exact q_8 | exact q_9 | exact q_10 | exact q_11 | exact q_12 | exact q_13 | exact q_14 | exact q_15 | exact q_16 | exact q_17 | exact q_18 | exact q_19 | exact q_20 | exact q_21 | exact q_22 | exact q_23 | exact q_24 | (exact Y_makeFunc rfl rfl))) | refine O_nil ?_ | refine Q_nil ?_ | refine q_j ?_ | refine q_k ?_ | refine q_d ?_ | refine q_a ?_ | refine q_b ?_ | refine q_c ?_ | refine A_ct rfl ?_ | refine A_cf rfl ?_ | refine A_skip ?_ | refine A_exit ?_ | refine A_ret ?_ | refine q_l ?_ | refine q_m ?_ | refine q_n ?_ | refine q_h ?_ | refine q_o ?_ | refine q_e ?_ | refine q_f ?_ | refine q_g ?_ | fail)
    exact X_ret rfl ⟨rfl, rfl⟩
  · rw [decide_eq_false h1, Bool.false_or]
    repeat (first | refine A_seq ?_ | refine A_block ?_ | refine R_list ?_ | ((first | apply O_y rfl rfl rfl | apply Q_y rfl rfl rfl); (first | exact q_1 | exact q_2 | exact q_3 | exact q_4 | exact q_5 | exact q_6 | exact q_7 | exact q_8 | exact q_9 | exact q_10 | exact q_11 | exact q_12 | exact q_13 | exact q_14 | exact q_15 | exact q_16 | exact q_17 | exact q_18 | exact q_19 | exact q_20 | exact q_21 | exact q_22 | exact q_23 | exact q_24 | (exact Y_makeFunc rfl rfl))) | refine O_nil ?_ | refine Q_nil ?_ | refine q_j ?_ | refine q_k ?_ | refine q_d ?_ | refine q_a ?_ | refine q_b ?_ | refine q_c ?_ | refine A_ct rfl ?_ | refine A_cf rfl ?_ | refine A_skip ?_ | refine A_exit ?_ | refine A_ret ?_ | refine q_l ?_ | refine q_m ?_ | refine q_n ?_ | refine q_h ?_ | refine q_o ?_ | refine q_e ?_ | refine q_f ?_ | refine q_g ?_ | refine O_c rfl rfl rfl rfl rfl hc (fun _ => rfl) ?_)
    exact X_ret rfl ⟨rfl, rfl⟩
set_option maxHeartbeats 8000000 in
theorem fits_A (d : Dvc) (c : Cls) (s : Sbj) (hd : OkD d) (hs : OkS s) : ACall Try.prog 15 [dvcA d, aggD (clsD c), aggD (sbjD s)] [] (Just (boolA (fitsC d c s))) := by
  have a1 : ACall Try.prog 31 ([] ++ [.iptr (dvcD d) 0, .iptr (clsD c) 0, .iptr (sbjD s) 0]) [] (Just (boolA (fit1 d c s))) := fits1_A d c s hd hs
  have a2 : ACall Try.prog 35 ([] ++ [.iptr (dvcD d) 0, .iptr (clsD c) 0, .iptr (sbjD s) 0]) [] (Just (boolA (fit2 d c s))) := fits2_A d c s hd hs
  have a3 : ACall Try.prog 39 ([] ++ [.iptr (clsD c) 0, .iptr (sbjD s) 0]) [] (Just (boolA (fit3 c s))) := fits3_A c s
  have a4 : ACall Try.prog 40 ([] ++ [.iptr (clsD c) 0, .iptr (sbjD s) 0]) [] (Just (boolA (fit4 c s))) := fits4_A c s
  have a5 : ACall Try.prog 41 ([] ++ [.iptr (clsD c) 0, .iptr (sbjD s) 0]) [] (Just (boolA (fit5 c s))) := fits5_A c s hs
  refine ACall_of tabOk Try.func15 rfl Try.ntmps15 (congrArg Array.toList Try.results15) (by kernel_rfl) rfl ?_
  refine A_seq ?_
  refine R_list ?_
  refine q_d ?_
  refine q_d ?_
  refine q_d ?_
  refine O_weaken (Wk_freezeV (id := 3) (ds := dvcD d) rfl rfl) ?_
  refine O_weaken (Wk_freezeV (id := 4) (ds := clsD c) rfl rfl) ?_
  refine O_weaken (Wk_freezeV (id := 5) (ds := sbjD s) rfl rfl) ?_
  repeat (first | refine A_seq ?_ | refine A_block ?_ | refine R_list ?_ | ((first | apply O_y rfl rfl rfl | apply Q_y rfl rfl rfl); (first | exact q_1 | exact q_2 | exact q_3 | exact q_4 | exact q_5 | exact q_6 | exact q_7 | exact q_8 | exact q_9 | exact q_10 | exact q_11 | exact q_12 | exact q_13 | exact q_14 | exact q_15 | exact q_16 | exact q_17 | exact q_18 | exact q_19 | exact q_20 | exact q_21 | exact q_22 | exact q_23 | exact q_24 | (first | exact Y_makeFunc rfl rfl | exact R_lenA tabOk rfl rfl rfl rfl))) | refine O_nil ?_ | refine Q_nil ?_ | refine q_j ?_ | refine q_k ?_ | refine q_d ?_ | refine q_a ?_ | refine q_b ?_ | refine q_c ?_ | refine A_ct rfl ?_ | refine A_cf rfl ?_ | refine A_skip ?_ | refine A_exit ?_ | refine A_ret ?_ | refine q_l ?_ | refine q_m ?_ | refine q_n ?_ | refine q_h ?_ | refine q_o ?_ | refine q_e ?_ | refine q_f ?_ | refine q_g ?_ | (refine O_sliceA tabOk rfl rfl rfl rfl rfl rfl rfl rfl rfl rfl ?_))
  refine A_loop (fun k : Nat => [(16, .row 15), (17, intA 5), (18, intA (k : Int))]) (fun _ => [(15, .rowA 35 1 5 [.fn 31 [.iptr (dvcD d) 0, .iptr (clsD c) 0, .iptr (sbjD s) 0], .fn 35 [.iptr (dvcD d) 0, .iptr (clsD c) 0, .iptr (sbjD s) 0], .fn 39 [.iptr (clsD c) 0, .iptr (sbjD s) 0], .fn 40 [.iptr (clsD c) 0, .iptr (sbjD s) 0], .fn 41 [.iptr (clsD c) 0, .iptr (sbjD s) 0]])])
    (fun k => k ≤ 5 ∧ (0 < k → fit1 d c s = true) ∧ (1 < k → fit2 d c s = true) ∧ (2 < k → fit3 c s = true) ∧ (3 < k → fit4 c s = true) ∧ (4 < k → fit5 c s = true)) (fun k => 5 - k) 0 ⟨by omega, by omega, by omega, by omega, by omega, by omega⟩ (Wk_sel ⟨rfl, rfl, rfl, trivial⟩ ⟨rfl, trivial⟩) ?_
  rintro k ⟨hk, h1, h2, h3, h4, h5⟩
  try dsimp only
  match k, hk, h1, h2, h3, h4, h5 with
  | 0, _, h1, h2, h3, h4, h5 =>
    cases hb0 : fit1 d c s
    · rw [hb0] at a1
      repeat (first | refine A_seq ?_ | refine A_block ?_ | refine R_list ?_ | ((first | apply O_y rfl rfl rfl | apply Q_y rfl rfl rfl); (first | exact q_1 | exact q_2 | exact q_3 | exact q_4 | exact q_5 | exact q_6 | exact q_7 | exact q_8 | exact q_9 | exact q_10 | exact q_11 | exact q_12 | exact q_13 | exact q_14 | exact q_15 | exact q_16 | exact q_17 | exact q_18 | exact q_19 | exact q_20 | exact q_21 | exact q_22 | exact q_23 | exact q_24 | (first | exact R_indexA (j := 0) (n := 5) tabOk rfl rfl rfl rfl rfl rfl rfl (by omega) | exact R_loadA tabOk rfl rfl rfl rfl rfl rfl rfl rfl rfl))) | refine O_nil ?_ | refine Q_nil ?_ | refine q_j ?_ | refine q_k ?_ | refine q_d ?_ | refine q_a ?_ | refine q_b ?_ | refine q_c ?_ | refine A_ct rfl ?_ | refine A_cf rfl ?_ | refine A_skip ?_ | refine A_exit ?_ | refine A_ret ?_ | refine q_l ?_ | refine q_m ?_ | refine q_n ?_ | refine q_h ?_ | refine q_o ?_ | refine q_e ?_ | refine q_f ?_ | refine q_g ?_ | (refine O_cF rfl rfl rfl rfl rfl rfl a1 (fun _ => rfl) ?_))
      exact X_ret rfl ⟨by unfold fitsC; rw [hb0]; simp; rfl, rfl⟩
    · rw [hb0] at a1
      repeat (first | refine A_seq ?_ | refine A_block ?_ | refine R_list ?_ | ((first | apply O_y rfl rfl rfl | apply Q_y rfl rfl rfl); (first | exact q_1 | exact q_2 | exact q_3 | exact q_4 | exact q_5 | exact q_6 | exact q_7 | exact q_8 | exact q_9 | exact q_10 | exact q_11 | exact q_12 | exact q_13 | exact q_14 | exact q_15 | exact q_16 | exact q_17 | exact q_18 | exact q_19 | exact q_20 | exact q_21 | exact q_22 | exact q_23 | exact q_24 | (first | exact R_indexA (j := 0) (n := 5) tabOk rfl rfl rfl rfl rfl rfl rfl (by omega) | exact R_loadA tabOk rfl rfl rfl rfl rfl rfl rfl rfl rfl))) | refine O_nil ?_ | refine Q_nil ?_ | refine q_j ?_ | refine q_k ?_ | refine q_d ?_ | refine q_a ?_ | refine q_b ?_ | refine q_c ?_ | refine A_ct rfl ?_ | refine A_cf rfl ?_ | refine A_skip ?_ | refine A_exit ?_ | refine A_ret ?_ | refine q_l ?_ | refine q_m ?_ | refine q_n ?_ | refine q_h ?_ | refine q_o ?_ | refine q_e ?_ | refine q_f ?_ | refine q_g ?_ | (refine O_cF rfl rfl rfl rfl rfl rfl a1 (fun _ => rfl) ?_))
      exact ⟨0 + 1, ⟨by omega, by first | exact fun _ => rfl | exact fun _ => h1 (by decide) | exact fun h => absurd h (by decide), by first | exact fun _ => rfl | exact fun _ => h2 (by decide) | exact fun h => absurd h (by decide), by first | exact fun _ => rfl | exact fun _ => h3 (by decide) | exact fun h => absurd h (by decide), by first | exact fun _ => rfl | exact fun _ => h4 (by decide) | exact fun h => absurd h (by decide), by first | exact fun _ => rfl | exact fun h => absurd h (by decide)⟩, by omega, Wk_sel ⟨rfl, rfl, rfl, trivial⟩ ⟨rfl, trivial⟩⟩
  | 1, _, h1, h2, h3, h4, h5 =>
    cases hb1 : fit2 d c s
    · rw [hb1] at a2
      repeat (first | refine A_seq ?_ | refine A_block ?_ | refine R_list ?_ | ((first | apply O_y rfl rfl rfl | apply Q_y rfl rfl rfl); (first | exact q_1 | exact q_2 | exact q_3 | exact q_4 | exact q_5 | exact q_6 | exact q_7 | exact q_8 | exact q_9 | exact q_10 | exact q_11 | exact q_12 | exact q_13 | exact q_14 | exact q_15 | exact q_16 | exact q_17 | exact q_18 | exact q_19 | exact q_20 | exact q_21 | exact q_22 | exact q_23 | exact q_24 | (first | exact R_indexA (j := 1) (n := 5) tabOk rfl rfl rfl rfl rfl rfl rfl (by omega) | exact R_loadA tabOk rfl rfl rfl rfl rfl rfl rfl rfl rfl))) | refine O_nil ?_ | refine Q_nil ?_ | refine q_j ?_ | refine q_k ?_ | refine q_d ?_ | refine q_a ?_ | refine q_b ?_ | refine q_c ?_ | refine A_ct rfl ?_ | refine A_cf rfl ?_ | refine A_skip ?_ | refine A_exit ?_ | refine A_ret ?_ | refine q_l ?_ | refine q_m ?_ | refine q_n ?_ | refine q_h ?_ | refine q_o ?_ | refine q_e ?_ | refine q_f ?_ | refine q_g ?_ | (refine O_cF rfl rfl rfl rfl rfl rfl a2 (fun _ => rfl) ?_))
      exact X_ret rfl ⟨by unfold fitsC; rw [hb1]; simp; rfl, rfl⟩
    · rw [hb1] at a2
      repeat (first | refine A_seq ?_ | refine A_block ?_ | refine R_list ?_ | ((first | apply O_y rfl rfl rfl | apply Q_y rfl rfl rfl); (first | exact q_1 | exact q_2 | exact q_3 | exact q_4 | exact q_5 | exact q_6 | exact q_7 | exact q_8 | exact q_9 | exact q_10 | exact q_11 | exact q_12 | exact q_13 | exact q_14 | exact q_15 | exact q_16 | exact q_17 | exact q_18 | exact q_19 | exact q_20 | exact q_21 | exact q_22 | exact q_23 | exact q_24 | (first | exact R_indexA (j := 1) (n := 5) tabOk rfl rfl rfl rfl rfl rfl rfl (by omega) | exact R_loadA tabOk rfl rfl rfl rfl rfl rfl rfl rfl rfl))) | refine O_nil ?_ | refine Q_nil ?_ | refine q_j ?_ | refine q_k ?_ | refine q_d ?_ | refine q_a ?_ | refine q_b ?_ | refine q_c ?_ | refine A_ct rfl ?_ | refine A_cf rfl ?_ | refine A_skip ?_ | refine A_exit ?_ | refine A_ret ?_ | refine q_l ?_ | refine q_m ?_ | refine q_n ?_ | refine q_h ?_ | refine q_o ?_ | refine q_e ?_ | refine q_f ?_ | refine q_g ?_ | (refine O_cF rfl rfl rfl rfl rfl rfl a2 (fun _ => rfl) ?_))
      exact ⟨1 + 1, ⟨by omega, by first | exact fun _ => rfl | exact fun _ => h1 (by decide) | exact fun h => absurd h (by decide), by first | exact fun _ => rfl | exact fun _ => h2 (by decide) | exact fun h => absurd h (by decide), by first | exact fun _ => rfl | exact fun _ => h3 (by decide) | exact fun h => absurd h (by decide), by first | exact fun _ => rfl | exact fun _ => h4 (by decide) | exact fun h => absurd h (by decide), by first | exact fun _ => rfl | exact fun h => absurd h (by decide)⟩, by omega, Wk_sel ⟨rfl, rfl, rfl, trivial⟩ ⟨rfl, trivial⟩⟩
  | 2, _, h1, h2, h3, h4, h5 =>
    cases hb2 : fit3 c s
    · rw [hb2] at a3
      repeat (first | refine A_seq ?_ | refine A_block ?_ | refine R_list ?_ | ((first | apply O_y rfl rfl rfl | apply Q_y rfl rfl rfl); (first | exact q_1 | exact q_2 | exact q_3 | exact q_4 | exact q_5 | exact q_6 | exact q_7 | exact q_8 | exact q_9 | exact q_10 | exact q_11 | exact q_12 | exact q_13 | exact q_14 | exact q_15 | exact q_16 | exact q_17 | exact q_18 | exact q_19 | exact q_20 | exact q_21 | exact q_22 | exact q_23 | exact q_24 | (first | exact R_indexA (j := 2) (n := 5) tabOk rfl rfl rfl rfl rfl rfl rfl (by omega) | exact R_loadA tabOk rfl rfl rfl rfl rfl rfl rfl rfl rfl))) | refine O_nil ?_ | refine Q_nil ?_ | refine q_j ?_ | refine q_k ?_ | refine q_d ?_ | refine q_a ?_ | refine q_b ?_ | refine q_c ?_ | refine A_ct rfl ?_ | refine A_cf rfl ?_ | refine A_skip ?_ | refine A_exit ?_ | refine A_ret ?_ | refine q_l ?_ | refine q_m ?_ | refine q_n ?_ | refine q_h ?_ | refine q_o ?_ | refine q_e ?_ | refine q_f ?_ | refine q_g ?_ | (refine O_cF rfl rfl rfl rfl rfl rfl a3 (fun _ => rfl) ?_))
      exact X_ret rfl ⟨by unfold fitsC; rw [hb2]; simp; rfl, rfl⟩
    · rw [hb2] at a3
      repeat (first | refine A_seq ?_ | refine A_block ?_ | refine R_list ?_ | ((first | apply O_y rfl rfl rfl | apply Q_y rfl rfl rfl); (first | exact q_1 | exact q_2 | exact q_3 | exact q_4 | exact q_5 | exact q_6 | exact q_7 | exact q_8 | exact q_9 | exact q_10 | exact q_11 | exact q_12 | exact q_13 | exact q_14 | exact q_15 | exact q_16 | exact q_17 | exact q_18 | exact q_19 | exact q_20 | exact q_21 | exact q_22 | exact q_23 | exact q_24 | (first | exact R_indexA (j := 2) (n := 5) tabOk rfl rfl rfl rfl rfl rfl rfl (by omega) | exact R_loadA tabOk rfl rfl rfl rfl rfl rfl rfl rfl rfl))) | refine O_nil ?_ | refine Q_nil ?_ | refine q_j ?_ | refine q_k ?_ | refine q_d ?_ | refine q_a ?_ | refine q_b ?_ | refine q_c ?_ | refine A_ct rfl ?_ | refine A_cf rfl ?_ | refine A_skip ?_ | refine A_exit ?_ | refine A_ret ?_ | refine q_l ?_ | refine q_m ?_ | refine q_n ?_ | refine q_h ?_ | refine q_o ?_ | refine q_e ?_ | refine q_f ?_ | refine q_g ?_ | (refine O_cF rfl rfl rfl rfl rfl rfl a3 (fun _ => rfl) ?_))
      exact ⟨2 + 1, ⟨by omega, by first | exact fun _ => rfl | exact fun _ => h1 (by decide) | exact fun h => absurd h (by decide), by first | exact fun _ => rfl | exact fun _ => h2 (by decide) | exact fun h => absurd h (by decide), by first | exact fun _ => rfl | exact fun _ => h3 (by decide) | exact fun h => absurd h (by decide), by first | exact fun _ => rfl | exact fun _ => h4 (by decide) | exact fun h => absurd h (by decide), by first | exact fun _ => rfl | exact fun h => absurd h (by decide)⟩, by omega, Wk_sel ⟨rfl, rfl, rfl, trivial⟩ ⟨rfl, trivial⟩⟩
  | 3, _, h1, h2, h3, h4, h5 =>
    cases hb3 : fit4 c s
    · rw [hb3] at a4
      repeat (first | refine A_seq ?_ | refine A_block ?_ | refine R_list ?_ | ((first | apply O_y rfl rfl rfl | apply Q_y rfl rfl rfl); (first | exact q_1 | exact q_2 | exact q_3 | exact q_4 | exact q_5 | exact q_6 | exact q_7 | exact q_8 | exact q_9 | exact q_10 | exact q_11 | exact q_12 | exact q_13 | exact q_14 | exact q_15 | exact q_16 | exact q_17 | exact q_18 | exact q_19 | exact q_20 | exact q_21 | exact q_22 | exact q_23 | exact q_24 | (first | exact R_indexA (j := 3) (n := 5) tabOk rfl rfl rfl rfl rfl rfl rfl (by omega) | exact R_loadA tabOk rfl rfl rfl rfl rfl rfl rfl rfl rfl))) | refine O_nil ?_ | refine Q_nil ?_ | refine q_j ?_ | refine q_k ?_ | refine q_d ?_ | refine q_a ?_ | refine q_b ?_ | refine q_c ?_ | refine A_ct rfl ?_ | refine A_cf rfl ?_ | refine A_skip ?_ | refine A_exit ?_ | refine A_ret ?_ | refine q_l ?_ | refine q_m ?_ | refine q_n ?_ | refine q_h ?_ | refine q_o ?_ | refine q_e ?_ | refine q_f ?_ | refine q_g ?_ | (refine O_cF rfl rfl rfl rfl rfl rfl a4 (fun _ => rfl) ?_))
      exact X_ret rfl ⟨by unfold fitsC; rw [hb3]; simp; rfl, rfl⟩
    · rw [hb3] at a4
      repeat (first | refine A_seq ?_ | refine A_block ?_ | refine R_list ?_ | ((first | apply O_y rfl rfl rfl | apply Q_y rfl rfl rfl); (first | exact q_1 | exact q_2 | exact q_3 | exact q_4 | exact q_5 | exact q_6 | exact q_7 | exact q_8 | exact q_9 | exact q_10 | exact q_11 | exact q_12 | exact q_13 | exact q_14 | exact q_15 | exact q_16 | exact q_17 | exact q_18 | exact q_19 | exact q_20 | exact q_21 | exact q_22 | exact q_23 | exact q_24 | (first | exact R_indexA (j := 3) (n := 5) tabOk rfl rfl rfl rfl rfl rfl rfl (by omega) | exact R_loadA tabOk rfl rfl rfl rfl rfl rfl rfl rfl rfl))) | refine O_nil ?_ | refine Q_nil ?_ | refine q_j ?_ | refine q_k ?_ | refine q_d ?_ | refine q_a ?_ | refine q_b ?_ | refine q_c ?_ | refine A_ct rfl ?_ | refine A_cf rfl ?_ | refine A_skip ?_ | refine A_exit ?_ | refine A_ret ?_ | refine q_l ?_ | refine q_m ?_ | refine q_n ?_ | refine q_h ?_ | refine q_o ?_ | refine q_e ?_ | refine q_f ?_ | refine q_g ?_ | (refine O_cF rfl rfl rfl rfl rfl rfl a4 (fun _ => rfl) ?_))
      exact ⟨3 + 1, ⟨by omega, by first | exact fun _ => rfl | exact fun _ => h1 (by decide) | exact fun h => absurd h (by decide), by first | exact fun _ => rfl | exact fun _ => h2 (by decide) | exact fun h => absurd h (by decide), by first | exact fun _ => rfl | exact fun _ => h3 (by decide) | exact fun h => absurd h (by decide), by first | exact fun _ => rfl | exact fun _ => h4 (by decide) | exact fun h => absurd h (by decide), by first | exact fun _ => rfl | exact fun h => absurd h (by decide)⟩, by omega, Wk_sel ⟨rfl, rfl, rfl, trivial⟩ ⟨rfl, trivial⟩⟩
  | 4, _, h1, h2, h3, h4, h5 =>
    cases hb4 : fit5 c s
    · rw [hb4] at a5
      repeat (first | refine A_seq ?_ | refine A_block ?_ | refine R_list ?_ | ((first | apply O_y rfl rfl rfl | apply Q_y rfl rfl rfl); (first | exact q_1 | exact q_2 | exact q_3 | exact q_4 | exact q_5 | exact q_6 | exact q_7 | exact q_8 | exact q_9 | exact q_10 | exact q_11 | exact q_12 | exact q_13 | exact q_14 | exact q_15 | exact q_16 | exact q_17 | exact q_18 | exact q_19 | exact q_20 | exact q_21 | exact q_22 | exact q_23 | exact q_24 | (first | exact R_indexA (j := 4) (n := 5) tabOk rfl rfl rfl rfl rfl rfl rfl (by omega) | exact R_loadA tabOk rfl rfl rfl rfl rfl rfl rfl rfl rfl))) | refine O_nil ?_ | refine Q_nil ?_ | refine q_j ?_ | refine q_k ?_ | refine q_d ?_ | refine q_a ?_ | refine q_b ?_ | refine q_c ?_ | refine A_ct rfl ?_ | refine A_cf rfl ?_ | refine A_skip ?_ | refine A_exit ?_ | refine A_ret ?_ | refine q_l ?_ | refine q_m ?_ | refine q_n ?_ | refine q_h ?_ | refine q_o ?_ | refine q_e ?_ | refine q_f ?_ | refine q_g ?_ | (refine O_cF rfl rfl rfl rfl rfl rfl a5 (fun _ => rfl) ?_))
      exact X_ret rfl ⟨by unfold fitsC; rw [hb4]; simp; rfl, rfl⟩
    · rw [hb4] at a5
      repeat (first | refine A_seq ?_ | refine A_block ?_ | refine R_list ?_ | ((first | apply O_y rfl rfl rfl | apply Q_y rfl rfl rfl); (first | exact q_1 | exact q_2 | exact q_3 | exact q_4 | exact q_5 | exact q_6 | exact q_7 | exact q_8 | exact q_9 | exact q_10 | exact q_11 | exact q_12 | exact q_13 | exact q_14 | exact q_15 | exact q_16 | exact q_17 | exact q_18 | exact q_19 | exact q_20 | exact q_21 | exact q_22 | exact q_23 | exact q_24 | (first | exact R_indexA (j := 4) (n := 5) tabOk rfl rfl rfl rfl rfl rfl rfl (by omega) | exact R_loadA tabOk rfl rfl rfl rfl rfl rfl rfl rfl rfl))) | refine O_nil ?_ | refine Q_nil ?_ | refine q_j ?_ | refine q_k ?_ | refine q_d ?_ | refine q_a ?_ | refine q_b ?_ | refine q_c ?_ | refine A_ct rfl ?_ | refine A_cf rfl ?_ | refine A_skip ?_ | refine A_exit ?_ | refine A_ret ?_ | refine q_l ?_ | refine q_m ?_ | refine q_n ?_ | refine q_h ?_ | refine q_o ?_ | refine q_e ?_ | refine q_f ?_ | refine q_g ?_ | (refine O_cF rfl rfl rfl rfl rfl rfl a5 (fun _ => rfl) ?_))
      exact ⟨4 + 1, ⟨by omega, by first | exact fun _ => rfl | exact fun _ => h1 (by decide) | exact fun h => absurd h (by decide), by first | exact fun _ => rfl | exact fun _ => h2 (by decide) | exact fun h => absurd h (by decide), by first | exact fun _ => rfl | exact fun _ => h3 (by decide) | exact fun h => absurd h (by decide), by first | exact fun _ => rfl | exact fun _ => h4 (by decide) | exact fun h => absurd h (by decide), by first | exact fun _ => rfl | exact fun h => absurd h (by decide)⟩, by omega, Wk_sel ⟨rfl, rfl, rfl, trivial⟩ ⟨rfl, trivial⟩⟩
  | 5, _, h1, h2, h3, h4, h5 =>
    repeat (first | refine A_seq ?_ | refine A_block ?_ | refine R_list ?_ | ((first | apply O_y rfl rfl rfl | apply Q_y rfl rfl rfl); (first | exact q_1 | exact q_2 | exact q_3 | exact q_4 | exact q_5 | exact q_6 | exact q_7 | exact q_8 | exact q_9 | exact q_10 | exact q_11 | exact q_12 | exact q_13 | exact q_14 | exact q_15 | exact q_16 | exact q_17 | exact q_18 | exact q_19 | exact q_20 | exact q_21 | exact q_22 | exact q_23 | exact q_24 | fail)) | refine O_nil ?_ | refine Q_nil ?_ | refine q_j ?_ | refine q_k ?_ | refine q_d ?_ | refine q_a ?_ | refine q_b ?_ | refine q_c ?_ | refine A_ct rfl ?_ | refine A_cf rfl ?_ | refine A_skip ?_ | refine A_exit ?_ | refine A_ret ?_ | refine q_l ?_ | refine q_m ?_ | refine q_n ?_ | refine q_h ?_ | refine q_o ?_ | refine q_e ?_ | refine q_f ?_ | refine q_g ?_ | fail)
    exact X_ret rfl ⟨by unfold fitsC; rw [h1 (by omega), h2 (by omega), h3 (by omega), h4 (by omega), h5 (by omega)]; rfl, rfl⟩
  | k + 6, hk, _, _, _, _, _ => exact absurd hk (by omega)
end Go.Proofs.Ytmljmahlpcdhoaa.Ab

namespace Go.Proofs.Ytmljmahlpcdhoaa.Ab
set_option linter.unusedVariables false
open Go.RowKit

open Classical in
noncomputable def invN (ν : List (Nat × Nat)) (i : Nat) : Option Nat := if h : ∃ p, look ν p = some i then some (Classical.choose h) else none
theorem invN_some {ν : List (Nat × Nat)} {i p : Nat} (h : invN ν i = some p) : look ν p = some i := by
  unfold invN at h
  split at h
  · rename_i h2
    cases h
    exact Classical.choose_spec h2
  · cases h
theorem invN_none {ν : List (Nat × Nat)} {i : Nat} (h : invN ν i = none) (p : Nat) : look ν p ≠ some i := fun hp => by
  unfold invN at h
  rw [dif_pos ⟨p, hp⟩] at h
  cases h
theorem invN_of {ν : List (Nat × Nat)} (hinj : ∀ p p' i, look ν p = some i → look ν p' = some i → p = p') {i p : Nat} (h : look ν p = some i) : invN ν i = some p := by
  cases h2 : invN ν i with
  | none => exact absurd h (invN_none h2 p)
  | some q => rw [hinj p q i h (invN_some h2)]
theorem look_mem2 {ν : List (Nat × Nat)} {p i : Nat} (h : look ν p = some i) : i ∈ ν.map (·.2) := by
  induction ν with
  | nil => cases h
  | cons q r ih =>
    obtain ⟨a, b⟩ := q
    by_cases ha : a = p
    · subst ha; rw [look_cons_same] at h; cases h; simp
    · rw [look_cons_ne _ _ ha] at h; have := ih h; simp at this ⊢; exact .inr this
theorem mem2_look {ν : List (Nat × Nat)} (hn : (ν.map (·.1)).Nodup) {i : Nat} (h : i ∈ ν.map (·.2)) : ∃ p, look ν p = some i := by
  induction ν with
  | nil => simp at h
  | cons q r ih =>
    obtain ⟨a, b⟩ := q
    rw [List.map_cons, List.nodup_cons] at hn
    rcases List.mem_cons.1 h with h1 | h1
    · exact ⟨a, by rw [h1]; exact look_cons_same _ _ _⟩
    · obtain ⟨p, hp⟩ := ih hn.2 h1
      refine ⟨p, ?_⟩
      rw [look_cons_ne _ _ ?_]
      · exact hp
      · rintro rfl
        refine hn.1 ?_
        have : ∀ (r : List (Nat × Nat)), look r a = some i → a ∈ r.map (·.1) := by
          intro r
          induction r with
          | nil => intro h; cases h
          | cons q r ih =>
            intro h
            by_cases hq : q.1 = a
            · rw [← hq]; simp
            · have e : look (q :: r) a = look r a := look_cons_ne _ _ hq
              rw [e] at h
              exact List.mem_cons_of_mem _ (ih h)
        exact this r hp
end Go.Proofs.Ytmljmahlpcdhoaa.Ab

namespace Go.Proofs.Ytmljmahlpcdhoaa.Ab
set_option linter.unusedVariables false
open Go.RowKit
section
variable {P : Program} {nt : Nat} {T : List Nat} {Q0 : Post} {ops : Array Oper} {rest : List Oper} {e : Env} {h : Heap} {o : Oper} {tab : TTab}
theorem E_callTV {f : FuncId} {args : Array Operand} {ats : Array TypeId} {cs0 cs1 caps cs : List AVal} {x : Operand} {h0 : Heap} {d : Option Tmp} {Q : AVal → Heap → Prop} (ρ ν : List (Nat × Nat)) (p0 i0 : Nat) (ho : o.op = .call { callee := .value x, args := args, argTypes := ats }) (hdst : o.dst = d) (hf : aev e x = some (.fn f caps)) (hx : aevs e args.toList = some cs1) (hcc : cs1 ++ caps = cs0)
    (hcs : cs.map (renV (ρ ++ [(p0, i0)])) = cs0) (hok : ∀ c ∈ cs, okV (ρ ++ [(p0, i0)]) c = true) (hl : Lent (ρ ++ [(p0, i0)]) h h0) (hdom : ∀ p i, look ρ p = some i → 1000 ≤ p ∧ (look h0 p).isSome = true) (hinj : ∀ p p' i, look ρ p = some i → look ρ p' = some i → p = p')
    (hρn : (ρ.map (·.1)).Nodup) (hp0 : p0 < 1000) (hp1 : (look h0 p0).isSome = true) (hi0 : ∃ q, look ν q = some i0)
    (H : ACall P f cs h0 Q) (hd : dstOk nt d = true)
    (hν : ∀ p i, look ν p = some i → p < 1000 ∧ i < 1000 ∧ ∀ q, look ρ q ≠ some i) (hνinj : ∀ p p' i, look ν p = some i → look ν p' = some i → p = p') (hνn : (ν.map (·.1)).Nodup)
    (hq : ∀ c h', Q c h' → ∀ p i, look ρ p = some i → (look h' p).isSome = true) :
    AEff P nt (ρ.map (·.2) ++ [i0]) e h o (fun e' h2 => ∃ c h', Q c h' ∧ e' = aput d (renV (ν ++ ρ) c) (killEs (ν.map (·.2)) e) ∧ h2 = renH (ν ++ ρ) h' ++ killHs (ν.map (·.2)) h) := fun Pm F w0 pin ι a w R K Qx hK => by
  have hfv := aev_rel R.env hf
  generalize hau : a.eval x = u at hfv
  cases hfv with
  | fn _ _ C hlC hhC =>
  unfold Oper.wp
  rw [run_callV H.1 ho hau, Oper.upon_enter, hdst]
  have HR := R.heap
  obtain ⟨q0, hq0⟩ := hi0
  have hs0 : ∀ p i, look (ρ ++ [(p0, i0)]) p = some i → look ρ p = some i ∨ (p = p0 ∧ i = i0) := fun p i hp => by
    rw [look_append] at hp
    cases h1 : look ρ p with
    | some j => rw [h1] at hp; cases hp; exact .inl rfl
    | none =>
      rw [h1] at hp
      have hp : look [(p0, i0)] p = some i := hp
      by_cases h2 : p0 = p
      · subst h2; rw [look_cons_same] at hp; cases hp; exact .inr ⟨rfl, rfl⟩
      · rw [look_cons_ne _ _ h2] at hp; cases hp
  have hs1 : ∀ p i, look ρ p = some i → look (ρ ++ [(p0, i0)]) p = some i := fun p i hp => by rw [look_append, hp]
  have hs2 : look (ρ ++ [(p0, i0)]) p0 = some i0 := by
    rw [look_append]
    cases h1 : look ρ p0 with
    | some j => have := (hdom p0 j h1).1; omega
    | none => exact look_cons_same _ _ _
  have hinj0 : ∀ p p' i, look (ρ ++ [(p0, i0)]) p = some i → look (ρ ++ [(p0, i0)]) p' = some i → p = p' := fun p p' i h1 h2 => by
    rcases hs0 p i h1 with h3 | ⟨h3, h5⟩ <;> rcases hs0 p' i h2 with h4 | ⟨h4, h6⟩
    · exact hinj p p' i h3 h4
    · subst h6; exact absurd h3 ((hν q0 i hq0).2.2 p)
    · subst h5; exact absurd h4 ((hν q0 i hq0).2.2 p')
    · rw [h3, h4]
  let ι0 : Nat → Option Value := fun p => match look (ρ ++ [(p0, i0)]) p with | some i => ι i | none => none
  have h0some : ∀ p v, ι0 p = some v → ∃ i, look (ρ ++ [(p0, i0)]) p = some i ∧ ι i = some v := fun p v hv => by
    simp only [ι0] at hv
    cases hp : look (ρ ++ [(p0, i0)]) p with
    | none => rw [hp] at hv; cases hv
    | some i => rw [hp] at hv; exact ⟨i, rfl, hv⟩
  have h0of0 : ∀ p i, look (ρ ++ [(p0, i0)]) p = some i → ι0 p = ι i := fun p i hp => by simp only [ι0, hp]
  have h0of : ∀ p i, look ρ p = some i → ι0 p = ι i := fun p i hp => h0of0 p i (hs1 p i hp)
  have hdom0 : ∀ p i, look (ρ ++ [(p0, i0)]) p = some i → (look h0 p).isSome = true := fun p i hp => by
    rcases hs0 p i hp with h1 | ⟨h1, _⟩
    · exact (hdom p i h1).2
    · rw [h1]; exact hp1
  let F' : Nat → Prop := fun r => F r ∨ ∃ id v, ι id = some v ∧ blockOf v = some r ∧ ∀ p, look (ρ ++ [(p0, i0)]) p ≠ some id
  let Pm' : Nat → Prop := fun r => w.heap.size ≤ r ∨ ∃ p v, ι0 p = some v ∧ blockOf v = some r
  have hFdown : ExtF w F ι w F' ι0 := ⟨fun _ _ _ => rfl, fun r _ hf => ⟨fun hc => hc.elim hf.1 fun ⟨id, v, h1, h2, _⟩ => hf.2 id v h1 h2, fun p v hv hb => by
    obtain ⟨i, _, h2⟩ := h0some p v hv
    exact hf.2 i v h2 hb⟩⟩
  have HC : HRel Pm' F' w ι0 ι0 h0 w := by
    refine ⟨fun p b hb => ?_, fun p v hv => ?_, fun p q v v' r hpq hv hv' hr => ?_, fun p v r hv hr => .inr ⟨p, v, hv, hr⟩, rfl, rfl, rfl, Nat.le_refl _, fun _ _ _ => rfl, fun r hr => .inl hr, fun p v _ hv => hv, fun p v r hv hr hF' => ?_, fun r hr => ?_⟩
    · obtain ⟨i, h1, h2, h3⟩ := hl.get hb
      obtain ⟨v, hv, hB⟩ := HR.blk i _ h2
      exact ⟨v, by rw [h0of0 p i h1]; exact hv, hB.down h3 hFdown h0some⟩
    · obtain ⟨i, h1, h2⟩ := h0some p v hv
      exact Option.isSome_iff_exists.1 (hdom0 p i h1)
    · obtain ⟨i, h1, h2⟩ := h0some p v hv
      obtain ⟨j, h3, h4⟩ := h0some q v' hv'
      exact HR.inj i j v v' r (by rintro rfl; exact hpq (hinj0 p q i h1 h3)) h2 h4 hr
    · obtain ⟨i, h1, h2⟩ := h0some p v hv
      rcases hF' with h3 | ⟨id, v', h3, h4, h5⟩
      · exact HR.nf i v r h2 hr h3
      · have : i ≠ id := by rintro rfl; exact h5 p h1
        exact HR.inj i id v v' r this h2 h3 hr h4
    · rcases hr with h1 | ⟨id, v, h1, h2, _⟩
      · exact Nat.lt_of_lt_of_le (HR.forb r h1) HR.size
      · exact HR.lt h1 h2
  have HA0 : ArgsRel w F ι cs0 (args.map a.eval ++ C) := by
    have hA := args_of R.env hx
    subst hcc
    refine ⟨by simp [hlC]; exact by simpa using hA.1, fun i c u h1 h2 => ?_⟩
    have hAl : (args.map a.eval).size = cs1.length := hA.1
    by_cases hi : i < cs1.length
    · rw [List.getElem?_append_left hi] at h1
      rw [Array.getElem?_append_left (by omega)] at h2
      exact hA.2 i c u h1 h2
    · rw [List.getElem?_append_right (by omega)] at h1
      rw [Array.getElem?_append_right (by omega), hAl] at h2
      exact hhC _ c u h1 h2
  have HA : ArgsRel w F' ι0 cs (args.map a.eval ++ C) := by
    refine ⟨by rw [HA0.1, ← hcs, List.length_map], fun i c u h1 h2 => (HA0.2 i (renV (ρ ++ [(p0, i0)]) c) u (by rw [← hcs, List.getElem?_map, h1]; rfl) h2).down (hok c (List.mem_of_getElem? h1)) hFdown h0some⟩
  refine (H.2 Pm' F' w ι0 ι0 _ w HC HA).mono ?_
  rintro x w' ⟨u, c, h', ι', rfl, hQ, hH, hv⟩
  have hsz := hH.size
  have hkeep : ∀ r, r < w.heap.size → (∀ p i v, look (ρ ++ [(p0, i0)]) p = some i → ι i = some v → blockOf v ≠ some r) → w'.heap[r]? = w.heap[r]? := fun r hr hn => hH.keep r hr fun hp => by
    rcases hp with h1 | ⟨p, v, h1, h2⟩
    · omega
    · obtain ⟨i, h3, h4⟩ := h0some p v h1
      exact hn p i v h3 h4 h2
  have hpin : ∀ p i, look ρ p = some i → ∀ v, ι i = some v → ι' p = some v := fun p i hp v hv => by
    obtain ⟨b, hb⟩ := Option.isSome_iff_exists.1 (hq c h' hQ p i hp)
    obtain ⟨v', hv', _⟩ := hH.blk p b hb
    have := hH.pinned p v' (hdom p i hp).1 hv'
    rw [h0of p i hp, hv] at this
    cases this
    exact hv'
  have hσ : ∀ p i, look (ν ++ ρ) p = some i → look ν p = some i ∨ look ρ p = some i := fun p i hp => by
    rw [look_append] at hp
    cases h1 : look ν p with
    | some j => rw [h1] at hp; cases hp; exact .inl rfl
    | none => rw [h1] at hp; exact .inr hp
  have hσν : ∀ p i, look ν p = some i → look (ν ++ ρ) p = some i := fun p i hp => by rw [look_append, hp]
  have hσinj : ∀ p p' i, look (ν ++ ρ) p = some i → look (ν ++ ρ) p' = some i → p = p' := fun p p' i h1 h2 => by
    rcases hσ p i h1 with h3 | h3 <;> rcases hσ p' i h2 with h4 | h4
    · exact hνinj p p' i h3 h4
    · exact absurd h4 ((hν p i h3).2.2 p')
    · exact absurd h3 ((hν p' i h4).2.2 p)
    · exact hinj p p' i h3 h4
  let ι2 : Nat → Option Value := fun id => match invN ν id with | some p => ι' p | none => ι id
  have i2 : ∀ id v, ι2 id = some v → (∃ p, look ν p = some id ∧ ι' p = some v) ∨ (∀ p, look ν p ≠ some id) ∧ ι id = some v := fun id v hv => by
    simp only [ι2] at hv
    cases hi : invN ν id with
    | some p => rw [hi] at hv; exact .inl ⟨p, invN_some hi, hv⟩
    | none => rw [hi] at hv; exact .inr ⟨invN_none hi, hv⟩
  have i2ν : ∀ p id, look ν p = some id → ι2 id = ι' p := fun p id hp => by simp only [ι2, invN_of hνinj hp]
  have i2o : ∀ id, (∀ p, look ν p ≠ some id) → ι2 id = ι id := fun id hn => by
    simp only [ι2]
    cases hi : invN ν id with
    | some p => exact absurd (invN_some hi) (hn p)
    | none => rfl
  have newlt : ∀ p id v r, look ν p = some id → ι' p = some v → blockOf v = some r → w.heap.size ≤ r ∨ ∃ v2, ι i0 = some v2 ∧ blockOf v2 = some r := fun p id v r hp hv hr => by
    rcases hH.pm p v r hv hr with h1 | ⟨q, v2, h1, h2⟩
    · exact .inl h1
    · obtain ⟨i, h30, h4⟩ := h0some q v2 h1
      rcases hs0 q i h30 with h3 | ⟨_, h3⟩
      rotate_left
      · subst h3; exact .inr ⟨v2, h4, h2⟩
      have h5 := hpin q i h3 v2 h4
      have h6 := (hν p id hp).1
      have h7 := (hdom q i h3).1
      exact absurd h2 (hH.inj p q v v2 r (by omega) hv h5 hr)
  have hFup : ExtF w' F' ι' w' F ι2 := ⟨fun _ _ _ => rfl, fun r _ hf => ⟨fun hc => hf.1 (.inl hc), fun id v hid hb => by
    rcases i2 id v hid with ⟨p, _, h2⟩ | ⟨h1, h2⟩
    · exact hf.2 p v h2 hb
    · by_cases hex : ∃ p, look ρ p = some id
      · obtain ⟨p, hp⟩ := hex
        exact hf.2 p v (hpin p id hp v h2) hb
      · exact hf.1 (.inr ⟨id, v, h2, hb, fun p hp => (hs0 p id hp).elim (fun h3 => hex ⟨p, h3⟩) fun h3 => h1 q0 (by rw [h3.2]; exact hq0)⟩)⟩⟩
  have hup : ∀ p i, look (ν ++ ρ) p = some i → ∀ v, ι2 i = some v → ι' p = some v := fun p i hp v hv => by
    rcases hσ p i hp with h1 | h1
    · rw [i2ν p i h1] at hv; exact hv
    · rcases i2 i v hv with ⟨q, h2, _⟩ | ⟨_, h2⟩
      · exact absurd h1 ((hν q i h2).2.2 p)
      · exact hpin p i h1 v h2
  have hext : Ext w F ι w' ι2 := ⟨fun r hr hf => hkeep r hr fun p i v hp hi hb => hf.2 i v hi hb, fun r hr hf => ⟨hf.1, fun id v hid hb => by
    rcases i2 id v hid with ⟨p, h1, h2⟩ | ⟨_, h2⟩
    · rcases newlt p id v r h1 h2 hb with h3 | ⟨v2, h3, h4⟩
      · omega
      · exact hf.2 i0 v2 h3 h4
    · exact hf.2 id v h2 hb⟩⟩
  have hold : ∀ id, (ν.map (·.2)).contains id = false → ∀ p, look ν p ≠ some id := fun id hc p hp => by
    have := List.contains_iff_mem.2 (look_mem2 hp)
    rw [hc] at this; cases this
  have vk : ∀ c0 u0, VRel w F ι c0 u0 → VRel w' F ι2 (killVs (ν.map (·.2)) c0) u0 := fun c0 u0 hv => by
    unfold killVs
    cases hh : hasAny (ν.map (·.2)) c0 with
    | true => exact .top _
    | false =>
      refine hv.ext hext fun id v hi hv2 => ?_
      rcases i2 id v hv2 with ⟨p, h1, h2⟩ | ⟨_, h2⟩
      · have := List.any_eq_false.1 hh id (look_mem2 h1)
        rw [hi] at this; exact absurd rfl this
      · exact h2
  have hheap : HRel Pm F w0 pin ι2 (renH (ν ++ ρ) h' ++ killHs (ν.map (·.2)) h) w' := by
    refine ⟨fun id b hb => ?_, fun id v hv => ?_, fun i j v v' r hij hi hj hr => ?_, fun i v r hi hr => ?_, hH.os.trans HR.os, hH.tape.trans HR.tape, hH.output.trans HR.output, Nat.le_trans HR.size hsz, fun r hr hn => ?_, HR.fresh, fun id v h1 hv => ?_, fun i v r hi hr => ?_, HR.forb⟩
    · rw [look_append] at hb
      cases hl2 : look (renH (ν ++ ρ) h') id with
      | some b' =>
        rw [hl2] at hb
        cases hb
        obtain ⟨p, b0, h1, h2, h3⟩ := (look_renH hσinj h' id).1 b hl2
        subst h3
        obtain ⟨v', hv', hB⟩ := hH.blk p b0 h2
        refine ⟨v', ?_, hB.up hFup hup⟩
        rcases hσ p id h1 with h3 | h3
        · rw [i2ν p id h3]; exact hv'
        · have h4 := hH.pinned p v' (hdom p id h3).1 hv'
          rw [h0of p id h3] at h4
          rw [i2o id fun q hq2 => (hν q id hq2).2.2 p h3]
          exact h4
      | none =>
        rw [hl2] at hb
        rw [look_killHs] at hb
        cases hc : (ν.map (·.2)).contains id with
        | true => rw [hc] at hb; simp at hb
        | false =>
          rw [hc] at hb
          simp only [Bool.false_eq_true, if_false] at hb
          cases hl3 : look h id with
          | none => simp [hl3] at hb
          | some b0 =>
            simp [hl3] at hb
            subst hb
            have hno : ∀ p, look (ρ ++ [(p0, i0)]) p ≠ some id := fun p hpp => by
              rcases hs0 p id hpp with hp | ⟨_, h3⟩
              rotate_left
              · subst h3; exact absurd hq0 (hold id hc q0)
              have h1 := (look_renH hσinj h' id).2 hl2 p (by
                rw [look_append]
                cases h2 : look ν p with
                | some j => have h3 := (hν p j h2).1; have h4 := (hdom p id hp).1; omega
                | none => exact hp)
              have h2 := hq c h' hQ p id hp
              rw [h1] at h2; cases h2
            obtain ⟨v, hv, hB⟩ := HR.blk id b0 hl3
            have hsame : ∀ r, blockOf v = some r → w'.heap[r]? = w.heap[r]? := fun r hr => hkeep r (HR.lt hv hr) fun p i v2 hp hi hb3 =>
              HR.inj i id v2 v r (by rintro rfl; exact hno p hp) hi hv hb3 hr
            refine ⟨v, by rw [i2o id (hold id hc)]; exact hv, ?_⟩
            cases b0 with
            | var cs =>
              obtain ⟨r, C, tt, rfl, h2, h3, h4⟩ := hB
              refine ⟨r, C, tt, rfl, (hsame r rfl).trans h2, by simpa using h3, fun i c u h5 h6 => ?_⟩
              rw [List.getElem?_map] at h5
              cases h7 : cs[i]? with
              | none => simp [h7] at h5
              | some c0 => simp [h7] at h5; subst h5; exact vk _ _ (h4 i c0 u h7 h6)
            | row el k n cs =>
              obtain ⟨xs, hown, h3, h4⟩ := hB
              refine ⟨xs, ⟨hown.1, ?_⟩, h3, fun i c u h5 h6 => (h4 i c u h5 h6).ext hext.mem hext.free⟩
              rcases hown.2 with h8 | ⟨g, cap, cur, rfl, hb, hg, rest⟩
              · exact .inl h8
              · exact .inr ⟨g, cap, cur, rfl, hb, (hsame g rfl).trans hg, rest⟩
            | rowA el k n cs =>
              obtain ⟨xs, hown, h3, h4⟩ := hB
              refine ⟨xs, ⟨hown.1, ?_⟩, by simpa using h3, fun i c u h5 h6 => ?_⟩
              · rcases hown.2 with h8 | ⟨g, cap, cur, rfl, hb, hg, rest⟩
                · exact .inl h8
                · exact .inr ⟨g, cap, cur, rfl, hb, (hsame g rfl).trans hg, rest⟩
              · rw [List.getElem?_map] at h5
                cases h7 : cs[i]? with
                | none => simp [h7] at h5
                | some c0 => simp [h7] at h5; subst h5; exact vk _ _ (h4 i c0 u h7 h6)
            | map es =>
              obtain ⟨r, E, clk, rfl, h2, h3, h4, h5⟩ := hB
              refine ⟨r, E, clk, rfl, (hsame r rfl).trans h2, by simpa using h3, fun i p m h6 h7 => ?_, h5⟩
              rw [List.getElem?_map] at h6
              cases h8 : es[i]? with
              | none => simp [h8] at h6
              | some p0 => simp [h8] at h6; subst h6; exact ⟨vk _ _ (h4 i p0 m h8 h7).1, vk _ _ (h4 i p0 m h8 h7).2⟩
            | mapx r0 bs0 clk0 es =>
              obtain ⟨E, rfl, h2, h3, h4, h5⟩ := hB
              refine ⟨E, rfl, (hsame _ rfl).trans h2, by simpa using h3, fun i p m h6 h7 => ?_, h5⟩
              rw [List.getElem?_map] at h6
              cases h8 : es[i]? with
              | none => simp [h8] at h6
              | some p0 => simp [h8] at h6; subst h6; exact ⟨vk _ _ (h4 i p0 m h8 h7).1, vk _ _ (h4 i p0 m h8 h7).2⟩
            | it o => obtain ⟨r, rfl, h2⟩ := hB; exact ⟨r, rfl, (hsame r rfl).trans h2⟩
    · rw [look_append]
      cases hl2 : look (renH (ν ++ ρ) h') id with
      | some b' => exact ⟨b', rfl⟩
      | none =>
        rcases i2 id v hv with ⟨p, h1, h2⟩ | ⟨h1, h2⟩
        · obtain ⟨b, hb⟩ := hH.dom p v h2
          have := (look_renH hσinj h' id).2 hl2 p (hσν p id h1)
          rw [hb] at this; cases this
        · obtain ⟨b, hb⟩ := HR.dom id v h2
          refine ⟨killBs (ν.map (·.2)) b, ?_⟩
          show look (killHs _ h) id = _
          rw [look_killHs, hb]
          cases hc : (ν.map (·.2)).contains id with
          | true =>
            obtain ⟨p, hp⟩ := mem2_look hνn (List.contains_iff_mem.1 hc)
            exact absurd hp (h1 p)
          | false => rfl
    · rcases i2 i v hi with ⟨p, h1, h2⟩ | ⟨h1, h2⟩ <;> rcases i2 j v' hj with ⟨q, h3, h4⟩ | ⟨h3, h4⟩
      · exact hH.inj p q v v' r (by rintro rfl; rw [h1] at h3; cases h3; exact hij rfl) h2 h4 hr
      · intro hr'
        have := HR.lt h4 hr'
        rcases newlt p i v r h1 h2 hr with h5 | ⟨v2, h5, h6⟩
        · omega
        · exact HR.inj i0 j v2 v' r (by rintro rfl; exact h3 q0 hq0) h5 h4 h6 hr'
      · intro hr'
        have := HR.lt h2 hr
        rcases newlt q j v' r h3 h4 hr' with h5 | ⟨v2, h5, h6⟩
        · omega
        · exact HR.inj i0 i v2 v r (by rintro rfl; exact h1 q0 hq0) h5 h2 h6 hr
      · exact HR.inj i j v v' r hij h2 h4 hr
    · rcases i2 i v hi with ⟨p, h1, h2⟩ | ⟨_, h2⟩
      · rcases newlt p i v r h1 h2 hr with h5 | ⟨v2, h5, h6⟩
        · exact HR.fresh r (Nat.le_trans HR.size h5)
        · exact HR.pm i0 v2 r h5 h6
      · exact HR.pm i v r h2 hr
    · rw [hkeep r (Nat.lt_of_lt_of_le hr HR.size) fun p i v hp hi hb => hn (HR.pm i v r hi hb)]
      exact HR.keep r hr hn
    · rcases i2 id v hv with ⟨p, h2, h3⟩ | ⟨_, h3⟩
      · have := (hν p id h2).2.1; omega
      · exact HR.pinned id v h1 h3
    · intro hF
      rcases i2 i v hi with ⟨p, h2, h3⟩ | ⟨_, h3⟩
      · rcases newlt p i v r h2 h3 hr with h5 | ⟨v2, h5, h6⟩
        · have := HR.forb r hF
          have := HR.size
          omega
        · exact HR.nf i0 v2 r h5 h6 hF
      · exact HR.nf i v r h3 hr hF
  refine hK ι2 _ _ _ w' ⟨c, h', hQ, rfl, rfl⟩ ⟨hheap, EnvRel.aput (fun t c0 ht => ?_) hd R.size (hv.up hFup hup), by rw [put_defers]; exact R.defers.ext hext, by rw [put_size]; exact R.size⟩ ⟨⟨hH.os, hH.tape, hH.output, hsz, fun r hr hne => hkeep r hr fun p i v hp hi hb => hne i ((hs0 p i hp).elim (fun h1 => List.mem_append_left _ (look_mem2 h1)) fun h1 => by rw [h1.2]; simp) v hi hb⟩, fun id hid v r h1 h2 h3 => ?_⟩ (put_defers _ _ _)
  · rw [look_killEs] at ht
    cases hl1 : look e t with
    | none => simp [hl1] at ht
    | some c1 =>
      simp [hl1] at ht
      subst ht
      obtain ⟨u0, hu0, hv0⟩ := R.env t c1 hl1
      exact ⟨u0, hu0, vk _ _ hv0⟩
  · rcases i2 id v h1 with ⟨p, h4, h5⟩ | ⟨_, h5⟩
    · rcases newlt p id v r h4 h5 h2 with h6 | ⟨v2, h6, h7⟩
      · omega
      · rcases List.mem_append.1 hid with h8 | h8
        · have : ∃ q, look ρ q = some id := by
            exact mem2_look hρn h8
          obtain ⟨q, hq⟩ := this
          exact absurd hq ((hν p id h4).2.2 q)
        · have : id = i0 := by simpa using h8
          subst this
          exact ⟨v2, h6, h7⟩
    · exact ⟨v, h5, h2⟩
theorem O_cTV {α : Type} {f : FuncId} {args : Array Operand} {ats : Array TypeId} {cs0 cs1 caps cs : List AVal} {x : Operand} {h0 : Heap} {C : α → AVal} {H1 : α → Heap} {Φ : α → Prop} {d : Nat} (ρ ν : List (Nat × Nat)) (p0 i0 : Nat) (hinj : ∀ p p' i, look ρ p = some i → look ρ p' = some i → p = p') (hdom : ∀ p i, look ρ p = some i → 1000 ≤ p ∧ (look h0 p).isSome = true ∧ ∀ x, (look (H1 x) p).isSome = true)
    (hν : ∀ p i, look ν p = some i → p < 1000 ∧ i < 1000 ∧ ∀ q, look ρ q ≠ some i) (hνinj : ∀ p p' i, look ν p = some i → look ν p' = some i → p = p') (hνn : (ν.map (·.1)).Nodup) (hρn : (ρ.map (·.1)).Nodup) (hp0 : p0 < 1000) (hp1 : (look h0 p0).isSome = true) (hi0 : ∃ q, look ν q = some i0)
    (H : ACall P f cs h0 (fun c' h' => ∃ x, Φ x ∧ c' = C x ∧ h' = H1 x)) (hok : cs.all (okV (ρ ++ [(p0, i0)])) = true) (hl : Lent (ρ ++ [(p0, i0)]) h h0) (hw : awant ops e o = some true) (hdst : o.dst = some d) (hd : Nat.blt d nt = true) (ho : o.op = .call { callee := .value x, args := args, argTypes := ats }) (hf : aev e x = some (.fn f caps)) (hx : aevs e args.toList = some cs1) (hcc : cs1 ++ caps = cs0)
    (hcs : cs.map (renV (ρ ++ [(p0, i0)])) = cs0) (HK : ∀ x, Φ x → AOps P nt ops Q0 rest ((d, renV (ν ++ ρ) (C x)) :: killEs (ν.map (·.2)) e) (renH (ν ++ ρ) (H1 x) ++ killHs (ν.map (·.2)) h)) : AOps P nt ops Q0 (o :: rest) e h :=
  O_eff (T := ρ.map (·.2) ++ [i0]) hw (E_callTV ρ ν p0 i0 ho hdst hf hx hcc hcs (fun c hc => List.all_eq_true.1 hok c hc) hl (fun p i hp => ⟨(hdom p i hp).1, (hdom p i hp).2.1⟩) hinj hρn hp0 hp1 hi0 H hd hν hνinj hνn (fun c' h' ⟨x, _, _, h4⟩ p i hp => by subst h4; exact (hdom p i hp).2.2 x)) fun e' h' ⟨c', h2, ⟨x, h9, h3, h4⟩, h5, h6⟩ => by subst h3 h4 h5 h6; exact HK x h9
end
end Go.Proofs.Ytmljmahlpcdhoaa.Ab

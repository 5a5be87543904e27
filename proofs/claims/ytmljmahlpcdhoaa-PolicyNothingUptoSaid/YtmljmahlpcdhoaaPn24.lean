/-
  Texts of a proof, one behind the other (part 25).
-/
import Derived.Test.YtmljmahlpcdhoaaPn4
import Derived.Test.YtmljmahlpcdhoaaPn9
import Derived.Test.YtmljmahlpcdhoaaPn23
set_option linter.unusedVariables false
set_option linter.unusedSimpArgs false
namespace Go.Proofs.Ytmljmahlpcdhoaa.Ab
set_option linter.unusedVariables false
set_option maxRecDepth 100000
open Go.RowKit Go.Lib
set_option linter.unusedSimpArgs false
attribute [local irreducible] AWp AOps AQ AYield AEff ACall AWk AAny AAt AThen AIn APost NoPanic
set_option maxHeartbeats 4000000 in
theorem run1_A (l : List (Nat × Sbj)) (i : Nat) (s : Sbj) (hl : l.length ≤ 1000000) (hs : OkS s) : ACall Try.prog 23 ([natA i, aggD (sbjD s)] ++ [.ptr 1000 0]) [(1000, .var [.row 950]), (950, markB l)] (fun c h => c = .tup [] ∧ h = [(1000, .var [.row 950]), (950, markB (l ++ [(i, s)]))]) := by
  have ho := own_A s hs.path hs.com
  refine ACall_of tabOk Try.func23 rfl Try.ntmps23 (congrArg Array.toList Try.results23) (by kernel_rfl) rfl ?_
  refine A_seq ?_
  refine R_list ?_
  refine q_d ?_
  refine O_nil ?_
  refine q_j ?_
  refine N_begin [950, 1000] mixed ?_
  apply q_P 1 rfl (by kernel_rfl) rfl rfl rfl
  exact q_1
  apply q_P 2 rfl (by kernel_rfl) rfl rfl rfl
  exact q_7
  refine N_two (j := 0) (k := 3) (by kernel_rfl) ?_ ?_
  · apply T_yield rfl rfl rfl rfl
    exact q_7
    refine N_one (j := 3) (by kernel_rfl) ?_
    refine T_call rfl rfl rfl rfl rfl rfl ho (fun _ => rfl) ?_
    apply q_P 4 rfl (by kernel_rfl) rfl rfl rfl
    exact q_24
    refine N_one (j := 5) (by kernel_rfl) ?_
    refine T_slice tabOk rfl rfl rfl rfl rfl rfl rfl rfl rfl rfl rfl rfl ?_
    refine N_one (j := 6) (by kernel_rfl) ?_
    refine T_appR tabOk rfl rfl rfl rfl rfl rfl rfl rfl rfl rfl rfl rfl (Src.row rfl) rfl (by omega) rfl ?_
    refine N_one (j := 7) (by kernel_rfl) ?_
    refine T_store tabOk rfl rfl rfl rfl rfl rfl rfl rfl rfl rfl rfl rfl rfl ?_
    refine N_done (by kernel_rfl) ?_
    exact X_endW AWk.refl rfl (h2 := [(1000, .var [.row 950]), (950, markB (l ++ [(i, s)]))]) ⟨rfl, row_eq (by simp) (by rw [List.flatMap_append]; rfl) rfl, trivial⟩ ⟨rfl, rfl⟩
  · refine T_call rfl rfl rfl rfl rfl rfl ho (fun _ => rfl) ?_
    apply q_P 4 rfl (by kernel_rfl) rfl rfl rfl
    exact q_24
    refine N_two (j := 0) (k := 5) (by kernel_rfl) ?_ ?_
    · apply T_yield rfl rfl rfl rfl
      exact q_7
      refine N_one (j := 5) (by kernel_rfl) ?_
      refine T_slice tabOk rfl rfl rfl rfl rfl rfl rfl rfl rfl rfl rfl rfl ?_
      refine N_one (j := 6) (by kernel_rfl) ?_
      refine T_appR tabOk rfl rfl rfl rfl rfl rfl rfl rfl rfl rfl rfl rfl (Src.row rfl) rfl (by omega) rfl ?_
      refine N_one (j := 7) (by kernel_rfl) ?_
      refine T_store tabOk rfl rfl rfl rfl rfl rfl rfl rfl rfl rfl rfl rfl rfl ?_
      refine N_done (by kernel_rfl) ?_
      exact X_endW AWk.refl rfl (h2 := [(1000, .var [.row 950]), (950, markB (l ++ [(i, s)]))]) ⟨rfl, row_eq (by simp) (by rw [List.flatMap_append]; rfl) rfl, trivial⟩ ⟨rfl, rfl⟩
    · refine T_slice tabOk rfl rfl rfl rfl rfl rfl rfl rfl rfl rfl rfl rfl ?_
      refine N_one (j := 0) (by kernel_rfl) ?_
      apply T_yield rfl rfl rfl rfl
      exact q_7
      refine N_one (j := 6) (by kernel_rfl) ?_
      refine T_appR tabOk rfl rfl rfl rfl rfl rfl rfl rfl rfl rfl rfl rfl (Src.row rfl) rfl (by omega) rfl ?_
      refine N_one (j := 7) (by kernel_rfl) ?_
      refine T_store tabOk rfl rfl rfl rfl rfl rfl rfl rfl rfl rfl rfl rfl rfl ?_
      refine N_done (by kernel_rfl) ?_
      exact X_endW AWk.refl rfl (h2 := [(1000, .var [.row 950]), (950, markB (l ++ [(i, s)]))]) ⟨rfl, row_eq (by simp) (by rw [List.flatMap_append]; rfl) rfl, trivial⟩ ⟨rfl, rfl⟩
set_option maxHeartbeats 64000000 in
theorem runA_A (d : Dvc) (p : Pol) (s0 : Sbj) (hd : OkD d) (hn : p.cs.length ≤ 1000000) (hs : OkR s0 p.cs) {ok : Bool} {b : Int} {ms : List (Nat × Sbj)} (hr : runP d p s0 = (ok, b, ms)) :
    ACall Try.prog 22 [dvcA d, aggD (polD p), aggD (sbjD s0), .fn 25 [.ptr 1000 0]] (([(1000, lastB s0 [])])) (fun c h => c = .tup [boolA ok, .d (.sc (.int .i64 b))] ∧ h = ([(1000, lastB s0 ms)])) := by
  obtain ⟨nm, cs, dft⟩ := p
  try dsimp only at hn hs hr
  unfold runP at hr
  try dsimp only at hr
  refine ACall_of tabOk Try.func22 rfl Try.ntmps22 (congrArg Array.toList Try.results22) (by kernel_rfl) rfl ?_
  refine A_seq ?_
  refine R_list ?_
  refine q_d ?_
  refine q_d ?_
  refine q_d ?_
  refine O_weaken (Wk_freezeV (id := 4) (ds := dvcD d) rfl rfl) ?_
  refine O_weaken (Wk_freezeV (id := 5) (ds := polD ⟨nm, cs, dft⟩) rfl rfl) ?_
  repeat ((fail_if_success (refine stopL ?_)); (fail_if_success (refine stopC ?_)); first
    | refine A_seq ?_
    | refine A_block ?_
    | refine R_list ?_
    | refine R_quiet rfl mixed (by kernel_rfl) ?_
    | ((first | apply O_y rfl rfl rfl | apply Q_y rfl rfl rfl); (first | exact R_addN rfl rfl rfl | exact R_subN rfl rfl rfl | (first | exact q_1 | exact q_2 | exact q_3 | exact q_4 | exact q_5 | exact q_6 | exact q_7 | exact q_8 | exact q_9 | exact q_10 | exact q_11 | exact q_12 | exact q_13 | exact q_14 | exact q_15 | exact q_16 | exact q_17 | exact q_18 | exact q_19 | exact q_20 | exact q_21 | exact q_22 | exact q_23 | exact q_24 | fail)))
    | refine O_nil ?_
    | refine Q_nil ?_
    | refine q_j ?_
    | refine q_k ?_
    | refine q_d ?_
    | refine q_a ?_
    | refine q_b ?_
    | refine q_c ?_
    | refine A_ct rfl ?_
    | refine A_cf rfl ?_
    | refine A_skip ?_
    | refine A_exit ?_
    | refine A_ret ?_
    | refine q_l ?_
    | refine q_m ?_
    | refine q_n ?_
    | refine q_h ?_
    | refine q_o ?_
    | refine q_e ?_
    | refine q_f ?_
    | refine q_g ?_
    | first | (refine A_label ?_) | (refine A_scope ng_post ?_))
  refine A_block ?_
  refine A_loop (fun x : Nat × Nat × Int × Sbj × List (Nat × Sbj) => [(3, .fn 25 [.ptr 1000 0]), (4, .iptr (dvcD d) 0), (5, .iptr (polD ⟨nm, cs, dft⟩) 0), (6, .ptr 6 0), (10, .d (.sc (.int .i64 x.2.2.1))), (11, natA x.2.1), (15, .d (.sl (cs.flatMap clsD) cs.length)), (16, natA cs.length), (17, natA x.1)])
    (fun x => (6, .var ((sbjD x.2.2.2.1).map .d)) :: ([(1000, lastB s0 x.2.2.2.2)]))
    (fun x => runL d cs dft (cs.drop x.1) x.1 x.2.1 x.2.2.1 x.2.2.2.1 x.2.2.2.2 = (ok, b, ms) ∧ x.1 ≤ cs.length ∧ x.2.1 ≤ cs.length ∧ OkR x.2.2.2.1 (cs.drop x.1) ∧ x.2.2.2.2.length ≤ x.1) (fun x => cs.length - x.1)
    (0, 0, -1, s0, []) ⟨hr, Nat.zero_le _, Nat.zero_le _, hs, Nat.le_refl _⟩ (Wk_sel ⟨rfl, rfl, rfl, rfl, rfl, rfl, rfl, rfl, rfl, trivial⟩ ⟨rfl, rfl, trivial⟩) ?_
  clear hr hs
  rintro ⟨i, fr, bb, s, m⟩ ⟨hr, hi, hfr, hok, hml⟩
  try dsimp only at hr hi hfr hok hml ⊢
  by_cases hil : i < cs.length
  · rw [List.drop_eq_getElem_cons hil] at hr hok
    have hw := win_flat0 clsD_len cs i 15 hil (by decide)
    obtain ⟨c, hc⟩ : ∃ c, cs[i] = c := ⟨_, rfl⟩
    rw [hc] at hr hok hw
    rw [runL] at hr
    have hwP := hok.wp
    have hwC := hok.wc
    rw [wP_cons] at hwP
    rw [wC_cons] at hwC
    by_cases hf : i < fr
    · rw [if_pos hf] at hr
      repeat ((fail_if_success (refine stopL ?_)); (fail_if_success (refine stopC ?_)); first
        | refine A_seq ?_
        | refine A_block ?_
        | refine R_list ?_
        | refine R_quiet rfl mixed (by kernel_rfl) ?_
        | ((first | apply O_y rfl rfl rfl | apply Q_y rfl rfl rfl); (first | exact R_addN rfl rfl rfl | exact R_subN rfl rfl rfl | (first | exact q_1 | exact q_2 | exact q_3 | exact q_4 | exact R_loadi tabOk rfl rfl rfl rfl hw rfl rfl | exact q_6 | exact q_7 | exact q_8 | exact q_9 | exact q_10 | exact q_11 | exact q_12 | exact q_13 | exact q_14 | exact q_15 | exact q_16 | exact q_17 | exact q_18 | exact q_19 | exact q_20 | exact q_21 | exact q_22 | exact q_23 | exact q_24 | fail)))
        | refine O_nil ?_
        | refine Q_nil ?_
        | refine q_j ?_
        | refine q_k ?_
        | refine q_d ?_
        | refine q_a ?_
        | refine q_b ?_
        | refine q_c ?_
        | refine A_ct rfl ?_
        | refine A_cf rfl ?_
        | refine A_skip ?_
        | refine A_exit ?_
        | refine A_ret ?_
        | refine q_l ?_
        | refine q_m ?_
        | refine q_n ?_
        | refine q_h ?_
        | refine q_o ?_
        | refine q_e ?_
        | refine q_f ?_
        | refine q_g ?_
        | fail)
      exact ⟨(i + 1, fr, bb, s, m), ⟨hr, hil, hfr, hok.skip, by (try dsimp only); omega⟩, by (try dsimp only); omega, Wk_sel ⟨rfl, rfl, rfl, rfl, rfl, rfl, rfl, rfl, rfl, trivial⟩ ⟨rfl, rfl, trivial⟩⟩
    rw [if_neg hf] at hr
    have hfit := fits_A d c s hd hok.s
    cases hb : fitsC d c s
    · rw [hb] at hfit hr
      rw [if_pos rfl] at hr
      repeat ((fail_if_success (refine stopL ?_)); (fail_if_success (refine stopC ?_)); first
        | refine A_seq ?_
        | refine A_block ?_
        | refine R_list ?_
        | refine R_quiet rfl mixed (by kernel_rfl) ?_
        | ((first | apply O_y rfl rfl rfl | apply Q_y rfl rfl rfl); (first | exact R_addN rfl rfl rfl | exact R_subN rfl rfl rfl | (first | exact q_1 | exact q_2 | exact q_3 | exact q_4 | exact R_loadi tabOk rfl rfl rfl rfl (by first | exact hw | rfl) rfl rfl | exact q_6 | exact q_7 | exact q_8 | exact q_9 | exact q_10 | exact q_11 | exact q_12 | exact q_13 | exact q_14 | exact q_15 | exact q_16 | exact q_17 | exact q_18 | exact q_19 | exact q_20 | exact q_21 | exact q_22 | exact q_23 | exact q_24 | fail)))
        | refine O_nil ?_
        | refine Q_nil ?_
        | refine q_j ?_
        | refine q_k ?_
        | refine q_d ?_
        | refine q_a ?_
        | refine q_b ?_
        | refine q_c ?_
        | refine A_ct rfl ?_
        | refine A_cf rfl ?_
        | refine A_skip ?_
        | refine A_exit ?_
        | refine A_ret ?_
        | refine q_l ?_
        | refine q_m ?_
        | refine q_n ?_
        | refine q_h ?_
        | refine q_o ?_
        | refine q_e ?_
        | refine q_f ?_
        | refine q_g ?_
        | refine O_c rfl rfl rfl rfl rfl hfit (fun _ => rfl) ?_)
      exact ⟨(i + 1, fr, bb, s, m), ⟨hr, hil, hfr, hok.skip, by (try dsimp only); omega⟩, by (try dsimp only); omega, Wk_sel ⟨rfl, rfl, rfl, rfl, rfl, rfl, rfl, rfl, rfl, trivial⟩ ⟨rfl, rfl, trivial⟩⟩
    rw [hb] at hfit hr
    rw [if_neg (by decide)] at hr
    by_cases h0 : c.act = 0
    · rw [if_pos h0] at hr
      have hcall := apply1_A s0 m i s
      repeat ((fail_if_success (refine stopL ?_)); (fail_if_success (refine stopC ?_)); first
        | refine A_seq ?_
        | refine A_block ?_
        | refine R_list ?_
        | refine R_quiet rfl mixed (by kernel_rfl) ?_
        | ((first | apply O_y rfl rfl rfl | apply Q_y rfl rfl rfl); (first | exact R_addN rfl rfl rfl | exact R_subN rfl rfl rfl | (first | exact q_1 | exact q_2 | exact q_3 | exact q_4 | exact R_loadi tabOk rfl rfl rfl rfl (by first | exact hw | rfl) rfl rfl | exact q_6 | exact q_7 | exact q_8 | exact q_9 | exact q_10 | exact q_11 | exact q_12 | exact q_13 | exact q_14 | exact q_15 | exact q_16 | exact q_17 | exact q_18 | exact q_19 | exact q_20 | exact q_21 | exact q_22 | exact q_23 | exact q_24 | fail)))
        | refine O_nil ?_
        | refine Q_nil ?_
        | refine q_j ?_
        | refine q_k ?_
        | refine q_d ?_
        | refine q_a ?_
        | refine q_b ?_
        | refine q_c ?_
        | refine A_ct rfl ?_
        | refine A_cf rfl ?_
        | refine A_skip ?_
        | refine A_exit ?_
        | refine A_ret ?_
        | refine q_l ?_
        | refine q_m ?_
        | refine q_n ?_
        | refine q_h ?_
        | refine q_o ?_
        | refine q_e ?_
        | refine q_f ?_
        | refine q_g ?_
        | first | refine O_c rfl rfl rfl rfl rfl hfit (fun _ => rfl) ?_ | (refine O_cPV [(1000, 1000)] (fun p p' i h1 h2 => by rw [(look_oneU h1).1, (look_oneU h2).1]) (fun p i h1 => by rw [(look_oneU h1).1]; exact ⟨Nat.le_refl _, rfl, rfl⟩) hcall (List.all_eq_true.1 (show List.all _ _ = true from rfl)) ⟨⟨1000, _, rfl, rfl, rfl, fun c hc => by obtain ⟨x, _, rfl⟩ := List.mem_map.1 hc; rfl⟩, trivial⟩ rfl rfl rfl rfl rfl rfl rfl rfl ?_))
      cases hr
      exact X_retW AWk.refl rfl (h2 := ([(1000, lastB s0 (m ++ [(i, s)]))])) ⟨rfl, trivial⟩ ⟨rfl, rfl⟩
    rw [if_neg h0] at hr
    have hset := set_A c s (by omega) (by omega)
    have hok2 := hok.set
    obtain ⟨t, ht⟩ : ∃ t, setC c s = t := ⟨_, rfl⟩
    rw [ht] at hset hok2 hr
    have hcall := apply1_A s0 m i t
    by_cases h1 : c.act = 1
    · rw [if_pos h1] at hr
      by_cases hj : c.jump = 0
      · rw [if_pos hj] at hr
        repeat (first | refine A_seq ?_ | refine A_block ?_ | refine R_list ?_ | refine R_quiet rfl mixed (by kernel_rfl) ?_ | ((first | apply O_y rfl rfl rfl | apply Q_y rfl rfl rfl); (first | exact q_1 | exact q_2 | exact q_3 | exact q_4 | exact R_loadi tabOk rfl rfl rfl rfl (by first | exact hw | rfl) rfl rfl | exact q_6 | exact q_7 | exact q_8 | exact q_9 | exact q_10 | exact q_11 | exact q_12 | exact q_13 | exact q_14 | exact q_15 | exact q_16 | exact q_17 | exact q_18 | exact q_19 | exact q_20 | exact q_21 | exact q_22 | exact q_23 | exact q_24 | fail)) | refine O_nil ?_ | refine Q_nil ?_ | refine q_j ?_ | refine q_k ?_ | refine q_d ?_ | refine q_a ?_ | refine q_b ?_ | refine q_c ?_ | refine A_ct rfl ?_ | refine A_cf rfl ?_ | refine A_skip ?_ | refine A_exit ?_ | refine A_ret ?_ | refine q_l ?_ | refine q_m ?_ | refine q_n ?_ | refine q_h ?_ | refine q_o ?_ | refine q_e ?_ | refine q_f ?_ | refine q_g ?_ | first | refine O_c rfl rfl rfl rfl rfl hfit (fun _ => rfl) ?_ | refine O_c rfl rfl rfl rfl rfl hset (fun _ => rfl) ?_ | (refine O_cPV [(1000, 1000)] (fun p p' i h1 h2 => by rw [(look_oneU h1).1, (look_oneU h2).1]) (fun p i h1 => by rw [(look_oneU h1).1]; exact ⟨Nat.le_refl _, rfl, rfl⟩) hcall (List.all_eq_true.1 (show List.all _ _ = true from rfl)) ⟨⟨1000, _, rfl, rfl, rfl, fun c hc => by obtain ⟨x, _, rfl⟩ := List.mem_map.1 hc; rfl⟩, trivial⟩ rfl rfl rfl rfl rfl rfl rfl rfl ?_))
        cases hr
        exact X_retW AWk.refl rfl (h2 := ([(1000, lastB s0 (m ++ [(i, t)]))])) ⟨rfl, trivial⟩ ⟨rfl, rfl⟩
      · rw [if_neg hj] at hr
        repeat (first | refine A_seq ?_ | refine A_block ?_ | refine R_list ?_ | refine R_quiet rfl mixed (by kernel_rfl) ?_ | ((first | apply O_y rfl rfl rfl | apply Q_y rfl rfl rfl); (first | exact q_1 | exact q_2 | exact q_3 | exact q_4 | exact R_loadi tabOk rfl rfl rfl rfl (by first | exact hw | rfl) rfl rfl | exact q_6 | exact q_7 | exact q_8 | exact q_9 | exact q_10 | exact q_11 | exact q_12 | exact q_13 | exact q_14 | exact q_15 | exact q_16 | exact q_17 | exact q_18 | exact q_19 | exact q_20 | exact q_21 | exact q_22 | exact q_23 | exact q_24 | fail)) | refine O_nil ?_ | refine Q_nil ?_ | refine q_j ?_ | refine q_k ?_ | refine q_d ?_ | refine q_a ?_ | refine q_b ?_ | refine q_c ?_ | refine A_ct rfl ?_ | refine A_cf rfl ?_ | refine A_skip ?_ | refine A_exit ?_ | refine A_ret ?_ | refine q_l ?_ | refine q_m ?_ | refine q_n ?_ | refine q_h ?_ | refine q_o ?_ | refine q_e ?_ | refine q_f ?_ | refine q_g ?_ | first | refine O_c rfl rfl rfl rfl rfl hfit (fun _ => rfl) ?_ | refine O_c rfl rfl rfl rfl rfl hset (fun _ => rfl) ?_ | (refine O_cPV [(1000, 1000)] (fun p p' i h1 h2 => by rw [(look_oneU h1).1, (look_oneU h2).1]) (fun p i h1 => by rw [(look_oneU h1).1]; exact ⟨Nat.le_refl _, rfl, rfl⟩) hcall (List.all_eq_true.1 (show List.all _ _ = true from rfl)) ⟨⟨1000, _, rfl, rfl, rfl, fun c hc => by obtain ⟨x, _, rfl⟩ := List.mem_map.1 hc; rfl⟩, trivial⟩ rfl rfl rfl rfl rfl rfl rfl rfl ?_))
        refine A_loop (fun k : Nat => [(3, .fn 25 [.ptr 1000 0]), (4, .iptr (dvcD d) 0), (5, .iptr (polD ⟨nm, cs, dft⟩) 0), (6, .ptr 6 0), (10, natA i), (11, natA k), (13, .ptr 13 0), (15, .d (.sl (cs.flatMap clsD) cs.length)), (16, natA cs.length), (17, natA i)])
          (fun _ => (13, .var ((clsD c).map .d)) :: (6, .var ((sbjD t).map .d)) :: ([(1000, lastB s0 (m ++ [(i, t)]))])) (fun k => skipJ cs c.jump k = skipJ cs c.jump (i + 1) ∧ k ≤ cs.length) (fun k => cs.length - k) (i + 1) ⟨rfl, hil⟩ (Wk_sel ⟨rfl, rfl, rfl, rfl, rfl, rfl, rfl, rfl, rfl, rfl, trivial⟩ ⟨rfl, rfl, rfl, trivial⟩) ?_
        rintro k ⟨hk, hkl⟩
        try dsimp only
        rw [skipJ] at hk
        by_cases hkc : k < cs.length
        · rw [dif_pos hkc] at hk
          have hw2 := win_flat clsD_len cs k 0 1 hkc (by decide)
          by_cases hsq : cs[k].seq < c.jump
          · rw [if_pos hsq] at hk
            repeat (first | refine A_seq ?_ | refine A_block ?_ | refine R_list ?_ | refine R_quiet rfl mixed (by kernel_rfl) ?_ | ((first | apply O_y rfl rfl rfl | apply Q_y rfl rfl rfl); (first | exact q_1 | exact q_2 | exact q_3 | exact q_4 | exact R_loadi tabOk rfl rfl rfl rfl (by first | exact hw2 | rfl) rfl rfl | exact q_6 | exact q_7 | exact q_8 | exact q_9 | exact q_10 | exact q_11 | exact q_12 | exact q_13 | exact q_14 | exact q_15 | exact q_16 | exact q_17 | exact q_18 | exact q_19 | exact q_20 | exact q_21 | exact q_22 | exact q_23 | exact q_24 | (exact R_index (j := k) tabOk rfl rfl rfl rfl rfl rfl hkc))) | refine O_nil ?_ | refine Q_nil ?_ | refine q_j ?_ | refine q_k ?_ | refine q_d ?_ | refine q_a ?_ | refine q_b ?_ | refine q_c ?_ | refine A_ct rfl ?_ | refine A_cf rfl ?_ | refine A_skip ?_ | refine A_exit ?_ | refine A_ret ?_ | refine q_l ?_ | refine q_m ?_ | refine q_n ?_ | refine q_h ?_ | refine q_o ?_ | refine q_e ?_ | refine q_f ?_ | refine q_g ?_ | fail)
            exact ⟨k + 1, ⟨hk, hkc⟩, by (try dsimp only); omega, Wk_sel ⟨rfl, rfl, rfl, rfl, rfl, rfl, rfl, rfl, rfl, rfl, trivial⟩ ⟨rfl, rfl, rfl, trivial⟩⟩
          · rw [if_neg hsq] at hk
            rw [← hk] at hr
            repeat (first | refine A_seq ?_ | refine A_block ?_ | refine R_list ?_ | refine R_quiet rfl mixed (by kernel_rfl) ?_ | ((first | apply O_y rfl rfl rfl | apply Q_y rfl rfl rfl); (first | exact q_1 | exact q_2 | exact q_3 | exact q_4 | exact R_loadi tabOk rfl rfl rfl rfl (by first | exact hw2 | rfl) rfl rfl | exact q_6 | exact q_7 | exact q_8 | exact q_9 | exact q_10 | exact q_11 | exact q_12 | exact q_13 | exact q_14 | exact q_15 | exact q_16 | exact q_17 | exact q_18 | exact q_19 | exact q_20 | exact q_21 | exact q_22 | exact q_23 | exact q_24 | (exact R_index (j := k) tabOk rfl rfl rfl rfl rfl rfl hkc))) | refine O_nil ?_ | refine Q_nil ?_ | refine q_j ?_ | refine q_k ?_ | refine q_d ?_ | refine q_a ?_ | refine q_b ?_ | refine q_c ?_ | refine A_ct rfl ?_ | refine A_cf rfl ?_ | refine A_skip ?_ | refine A_exit ?_ | refine A_ret ?_ | refine q_l ?_ | refine q_m ?_ | refine q_n ?_ | refine q_h ?_ | refine q_o ?_ | refine q_e ?_ | refine q_f ?_ | refine q_g ?_ | fail)
            exact ⟨(i + 1, k, (i : Int), t, m ++ [(i, t)]), ⟨hr, hil, hkl, hok2, by (try dsimp only); rw [List.length_append]; simp; omega⟩, by (try dsimp only); omega, Wk_sel ⟨rfl, rfl, rfl, rfl, rfl, rfl, rfl, rfl, rfl, trivial⟩ ⟨rfl, rfl, trivial⟩⟩
        · rw [dif_neg hkc] at hk
          rw [← hk] at hr
          repeat (first | refine A_seq ?_ | refine A_block ?_ | refine R_list ?_ | refine R_quiet rfl mixed (by kernel_rfl) ?_ | ((first | apply O_y rfl rfl rfl | apply Q_y rfl rfl rfl); (first | exact q_1 | exact q_2 | exact q_3 | exact q_4 | exact q_5 | exact q_6 | exact q_7 | exact q_8 | exact q_9 | exact q_10 | exact q_11 | exact q_12 | exact q_13 | exact q_14 | exact q_15 | exact q_16 | exact q_17 | exact q_18 | exact q_19 | exact q_20 | exact q_21 | exact q_22 | exact q_23 | exact q_24 | fail)) | refine O_nil ?_ | refine Q_nil ?_ | refine q_j ?_ | refine q_k ?_ | refine q_d ?_ | refine q_a ?_ | refine q_b ?_ | refine q_c ?_ | refine A_ct rfl ?_ | refine A_cf rfl ?_ | refine A_skip ?_ | refine A_exit ?_ | refine A_ret ?_ | refine q_l ?_ | refine q_m ?_ | refine q_n ?_ | refine q_h ?_ | refine q_o ?_ | refine q_e ?_ | refine q_f ?_ | refine q_g ?_ | fail)
          exact ⟨(i + 1, k, (i : Int), t, m ++ [(i, t)]), ⟨hr, hil, hkl, hok2, by (try dsimp only); rw [List.length_append]; simp; omega⟩, by (try dsimp only); omega, Wk_sel ⟨rfl, rfl, rfl, rfl, rfl, rfl, rfl, rfl, rfl, trivial⟩ ⟨rfl, rfl, trivial⟩⟩
    · rw [if_neg h1] at hr
      repeat (first | refine A_seq ?_ | refine A_block ?_ | refine R_list ?_ | refine R_quiet rfl mixed (by kernel_rfl) ?_ | ((first | apply O_y rfl rfl rfl | apply Q_y rfl rfl rfl); (first | exact q_1 | exact q_2 | exact q_3 | exact q_4 | exact R_loadi tabOk rfl rfl rfl rfl (by first | exact hw | rfl) rfl rfl | exact q_6 | exact q_7 | exact q_8 | exact q_9 | exact q_10 | exact q_11 | exact q_12 | exact q_13 | exact q_14 | exact q_15 | exact q_16 | exact q_17 | exact q_18 | exact q_19 | exact q_20 | exact q_21 | exact q_22 | exact q_23 | exact q_24 | fail)) | refine O_nil ?_ | refine Q_nil ?_ | refine q_j ?_ | refine q_k ?_ | refine q_d ?_ | refine q_a ?_ | refine q_b ?_ | refine q_c ?_ | refine A_ct rfl ?_ | refine A_cf rfl ?_ | refine A_skip ?_ | refine A_exit ?_ | refine A_ret ?_ | refine q_l ?_ | refine q_m ?_ | refine q_n ?_ | refine q_h ?_ | refine q_o ?_ | refine q_e ?_ | refine q_f ?_ | refine q_g ?_ | first | refine O_c rfl rfl rfl rfl rfl hfit (fun _ => rfl) ?_ | refine O_c rfl rfl rfl rfl rfl hset (fun _ => rfl) ?_ | (refine O_cPV [(1000, 1000)] (fun p p' i h1 h2 => by rw [(look_oneU h1).1, (look_oneU h2).1]) (fun p i h1 => by rw [(look_oneU h1).1]; exact ⟨Nat.le_refl _, rfl, rfl⟩) hcall (List.all_eq_true.1 (show List.all _ _ = true from rfl)) ⟨⟨1000, _, rfl, rfl, rfl, fun c hc => by obtain ⟨x, _, rfl⟩ := List.mem_map.1 hc; rfl⟩, trivial⟩ rfl rfl rfl rfl rfl rfl rfl rfl ?_))
      exact ⟨(i + 1, fr, bb, t, m ++ [(i, t)]), ⟨hr, hil, hfr, hok2, by (try dsimp only); rw [List.length_append]; simp; omega⟩, by (try dsimp only); omega, Wk_sel ⟨rfl, rfl, rfl, rfl, rfl, rfl, rfl, rfl, rfl, trivial⟩ ⟨rfl, rfl, trivial⟩⟩
  · rw [List.drop_of_length_le (by omega), runL] at hr
    by_cases hbb : 0 ≤ bb
    · rw [decide_eq_true hbb, Bool.true_or] at hr
      cases hr
      repeat ((fail_if_success (refine stopL ?_)); (fail_if_success (refine stopC ?_)); first
        | refine A_seq ?_
        | refine A_block ?_
        | refine R_list ?_
        | refine R_quiet rfl mixed (by kernel_rfl) ?_
        | ((first | apply O_y rfl rfl rfl | apply Q_y rfl rfl rfl); (first | exact R_addN rfl rfl rfl | exact R_subN rfl rfl rfl | (first | exact q_1 | exact q_2 | exact q_3 | exact q_4 | exact q_5 | exact q_6 | exact q_7 | exact q_8 | exact q_9 | exact q_10 | exact q_11 | exact q_12 | exact q_13 | exact q_14 | exact q_15 | exact q_16 | exact q_17 | exact q_18 | exact q_19 | exact q_20 | exact q_21 | exact q_22 | exact q_23 | exact q_24 | fail)))
        | refine O_nil ?_
        | refine Q_nil ?_
        | refine q_j ?_
        | refine q_k ?_
        | refine q_d ?_
        | refine q_a ?_
        | refine q_b ?_
        | refine q_c ?_
        | refine A_ct rfl ?_
        | refine A_cf rfl ?_
        | refine A_skip ?_
        | refine A_exit ?_
        | refine A_ret ?_
        | refine q_l ?_
        | refine q_m ?_
        | refine q_n ?_
        | refine q_h ?_
        | refine q_o ?_
        | refine q_e ?_
        | refine q_f ?_
        | refine q_g ?_
        | fail)
      exact X_retW AWk.refl rfl (h2 := ([(1000, lastB s0 ms)])) ⟨rfl, trivial⟩ ⟨rfl, rfl⟩
    · rw [decide_eq_false hbb, Bool.false_or] at hr
      cases hr
      repeat ((fail_if_success (refine stopL ?_)); (fail_if_success (refine stopC ?_)); first
        | refine A_seq ?_
        | refine A_block ?_
        | refine R_list ?_
        | refine R_quiet rfl mixed (by kernel_rfl) ?_
        | ((first | apply O_y rfl rfl rfl | apply Q_y rfl rfl rfl); (first | exact R_addN rfl rfl rfl | exact R_subN rfl rfl rfl | (first | exact q_1 | exact q_2 | exact q_3 | exact q_4 | exact q_5 | exact q_6 | exact q_7 | exact q_8 | exact q_9 | exact q_10 | exact q_11 | exact q_12 | exact q_13 | exact q_14 | exact q_15 | exact q_16 | exact q_17 | exact q_18 | exact q_19 | exact q_20 | exact q_21 | exact q_22 | exact q_23 | exact q_24 | fail)))
        | refine O_nil ?_
        | refine Q_nil ?_
        | refine q_j ?_
        | refine q_k ?_
        | refine q_d ?_
        | refine q_a ?_
        | refine q_b ?_
        | refine q_c ?_
        | refine A_ct rfl ?_
        | refine A_cf rfl ?_
        | refine A_skip ?_
        | refine A_exit ?_
        | refine A_ret ?_
        | refine q_l ?_
        | refine q_m ?_
        | refine q_n ?_
        | refine q_h ?_
        | refine q_o ?_
        | refine q_e ?_
        | refine q_f ?_
        | refine q_g ?_
        | fail)
      exact X_retW AWk.refl rfl (h2 := ([(1000, lastB s0 ms)])) ⟨rfl, trivial⟩ ⟨rfl, rfl⟩
set_option maxHeartbeats 64000000 in
theorem runR_A (d : Dvc) (p : Pol) (s0 : Sbj) (hd : OkD d) (hn : p.cs.length ≤ 1000000) (hs : OkR s0 p.cs) {ok : Bool} {b : Int} {ms : List (Nat × Sbj)} (hr : runP d p s0 = (ok, b, ms)) :
    ACall Try.prog 22 [dvcA d, aggD (polD p), aggD (sbjD s0), .fn 23 [.ptr 1000 0]] (([(1000, .var [.row 950]), (950, markB [])])) (fun c h => c = .tup [boolA ok, .d (.sc (.int .i64 b))] ∧ h = ([(1000, .var [.row 950]), (950, markB ms)])) := by
  obtain ⟨nm, cs, dft⟩ := p
  try dsimp only at hn hs hr
  unfold runP at hr
  try dsimp only at hr
  refine ACall_of tabOk Try.func22 rfl Try.ntmps22 (congrArg Array.toList Try.results22) (by kernel_rfl) rfl ?_
  refine A_seq ?_
  refine R_list ?_
  refine q_d ?_
  refine q_d ?_
  refine q_d ?_
  refine O_weaken (Wk_freezeV (id := 4) (ds := dvcD d) rfl rfl) ?_
  refine O_weaken (Wk_freezeV (id := 5) (ds := polD ⟨nm, cs, dft⟩) rfl rfl) ?_
  repeat ((fail_if_success (refine stopL ?_)); (fail_if_success (refine stopC ?_)); first
    | refine A_seq ?_
    | refine A_block ?_
    | refine R_list ?_
    | refine R_quiet rfl mixed (by kernel_rfl) ?_
    | ((first | apply O_y rfl rfl rfl | apply Q_y rfl rfl rfl); (first | exact R_addN rfl rfl rfl | exact R_subN rfl rfl rfl | (first | exact q_1 | exact q_2 | exact q_3 | exact q_4 | exact q_5 | exact q_6 | exact q_7 | exact q_8 | exact q_9 | exact q_10 | exact q_11 | exact q_12 | exact q_13 | exact q_14 | exact q_15 | exact q_16 | exact q_17 | exact q_18 | exact q_19 | exact q_20 | exact q_21 | exact q_22 | exact q_23 | exact q_24 | fail)))
    | refine O_nil ?_
    | refine Q_nil ?_
    | refine q_j ?_
    | refine q_k ?_
    | refine q_d ?_
    | refine q_a ?_
    | refine q_b ?_
    | refine q_c ?_
    | refine A_ct rfl ?_
    | refine A_cf rfl ?_
    | refine A_skip ?_
    | refine A_exit ?_
    | refine A_ret ?_
    | refine q_l ?_
    | refine q_m ?_
    | refine q_n ?_
    | refine q_h ?_
    | refine q_o ?_
    | refine q_e ?_
    | refine q_f ?_
    | refine q_g ?_
    | first | (refine A_label ?_) | (refine A_scope ng_post ?_))
  refine A_block ?_
  refine A_loop (fun x : Nat × Nat × Int × Sbj × List (Nat × Sbj) => [(3, .fn 23 [.ptr 1000 0]), (4, .iptr (dvcD d) 0), (5, .iptr (polD ⟨nm, cs, dft⟩) 0), (6, .ptr 6 0), (10, .d (.sc (.int .i64 x.2.2.1))), (11, natA x.2.1), (15, .d (.sl (cs.flatMap clsD) cs.length)), (16, natA cs.length), (17, natA x.1)])
    (fun x => (6, .var ((sbjD x.2.2.2.1).map .d)) :: ([(1000, .var [.row 950]), (950, markB x.2.2.2.2)]))
    (fun x => runL d cs dft (cs.drop x.1) x.1 x.2.1 x.2.2.1 x.2.2.2.1 x.2.2.2.2 = (ok, b, ms) ∧ x.1 ≤ cs.length ∧ x.2.1 ≤ cs.length ∧ OkR x.2.2.2.1 (cs.drop x.1) ∧ x.2.2.2.2.length ≤ x.1) (fun x => cs.length - x.1)
    (0, 0, -1, s0, []) ⟨hr, Nat.zero_le _, Nat.zero_le _, hs, Nat.le_refl _⟩ (Wk_sel ⟨rfl, rfl, rfl, rfl, rfl, rfl, rfl, rfl, rfl, trivial⟩ ⟨rfl, rfl, rfl, trivial⟩) ?_
  clear hr hs
  rintro ⟨i, fr, bb, s, m⟩ ⟨hr, hi, hfr, hok, hml⟩
  try dsimp only at hr hi hfr hok hml ⊢
  by_cases hil : i < cs.length
  · rw [List.drop_eq_getElem_cons hil] at hr hok
    have hw := win_flat0 clsD_len cs i 15 hil (by decide)
    obtain ⟨c, hc⟩ : ∃ c, cs[i] = c := ⟨_, rfl⟩
    rw [hc] at hr hok hw
    rw [runL] at hr
    have hwP := hok.wp
    have hwC := hok.wc
    rw [wP_cons] at hwP
    rw [wC_cons] at hwC
    by_cases hf : i < fr
    · rw [if_pos hf] at hr
      repeat ((fail_if_success (refine stopL ?_)); (fail_if_success (refine stopC ?_)); first
        | refine A_seq ?_
        | refine A_block ?_
        | refine R_list ?_
        | refine R_quiet rfl mixed (by kernel_rfl) ?_
        | ((first | apply O_y rfl rfl rfl | apply Q_y rfl rfl rfl); (first | exact R_addN rfl rfl rfl | exact R_subN rfl rfl rfl | (first | exact q_1 | exact q_2 | exact q_3 | exact q_4 | exact R_loadi tabOk rfl rfl rfl rfl hw rfl rfl | exact q_6 | exact q_7 | exact q_8 | exact q_9 | exact q_10 | exact q_11 | exact q_12 | exact q_13 | exact q_14 | exact q_15 | exact q_16 | exact q_17 | exact q_18 | exact q_19 | exact q_20 | exact q_21 | exact q_22 | exact q_23 | exact q_24 | fail)))
        | refine O_nil ?_
        | refine Q_nil ?_
        | refine q_j ?_
        | refine q_k ?_
        | refine q_d ?_
        | refine q_a ?_
        | refine q_b ?_
        | refine q_c ?_
        | refine A_ct rfl ?_
        | refine A_cf rfl ?_
        | refine A_skip ?_
        | refine A_exit ?_
        | refine A_ret ?_
        | refine q_l ?_
        | refine q_m ?_
        | refine q_n ?_
        | refine q_h ?_
        | refine q_o ?_
        | refine q_e ?_
        | refine q_f ?_
        | refine q_g ?_
        | fail)
      exact ⟨(i + 1, fr, bb, s, m), ⟨hr, hil, hfr, hok.skip, by (try dsimp only); omega⟩, by (try dsimp only); omega, Wk_sel ⟨rfl, rfl, rfl, rfl, rfl, rfl, rfl, rfl, rfl, trivial⟩ ⟨rfl, rfl, rfl, trivial⟩⟩
    rw [if_neg hf] at hr
    have hfit := fits_A d c s hd hok.s
    cases hb : fitsC d c s
    · rw [hb] at hfit hr
      rw [if_pos rfl] at hr
      repeat ((fail_if_success (refine stopL ?_)); (fail_if_success (refine stopC ?_)); first
        | refine A_seq ?_
        | refine A_block ?_
        | refine R_list ?_
        | refine R_quiet rfl mixed (by kernel_rfl) ?_
        | ((first | apply O_y rfl rfl rfl | apply Q_y rfl rfl rfl); (first | exact R_addN rfl rfl rfl | exact R_subN rfl rfl rfl | (first | exact q_1 | exact q_2 | exact q_3 | exact q_4 | exact R_loadi tabOk rfl rfl rfl rfl (by first | exact hw | rfl) rfl rfl | exact q_6 | exact q_7 | exact q_8 | exact q_9 | exact q_10 | exact q_11 | exact q_12 | exact q_13 | exact q_14 | exact q_15 | exact q_16 | exact q_17 | exact q_18 | exact q_19 | exact q_20 | exact q_21 | exact q_22 | exact q_23 | exact q_24 | fail)))
        | refine O_nil ?_
        | refine Q_nil ?_
        | refine q_j ?_
        | refine q_k ?_
        | refine q_d ?_
        | refine q_a ?_
        | refine q_b ?_
        | refine q_c ?_
        | refine A_ct rfl ?_
        | refine A_cf rfl ?_
        | refine A_skip ?_
        | refine A_exit ?_
        | refine A_ret ?_
        | refine q_l ?_
        | refine q_m ?_
        | refine q_n ?_
        | refine q_h ?_
        | refine q_o ?_
        | refine q_e ?_
        | refine q_f ?_
        | refine q_g ?_
        | refine O_c rfl rfl rfl rfl rfl hfit (fun _ => rfl) ?_)
      exact ⟨(i + 1, fr, bb, s, m), ⟨hr, hil, hfr, hok.skip, by (try dsimp only); omega⟩, by (try dsimp only); omega, Wk_sel ⟨rfl, rfl, rfl, rfl, rfl, rfl, rfl, rfl, rfl, trivial⟩ ⟨rfl, rfl, rfl, trivial⟩⟩
    rw [hb] at hfit hr
    rw [if_neg (by decide)] at hr
    by_cases h0 : c.act = 0
    · rw [if_pos h0] at hr
      have hcall := (run1_A m i s (by omega) hok.s).mono fun c h hq => (⟨(), trivial, hq⟩ : ∃ _ : Unit, True ∧ c = .tup [] ∧ h = _)
      repeat ((fail_if_success (refine stopL ?_)); (fail_if_success (refine stopC ?_)); first
        | refine A_seq ?_
        | refine A_block ?_
        | refine R_list ?_
        | refine R_quiet rfl mixed (by kernel_rfl) ?_
        | ((first | apply O_y rfl rfl rfl | apply Q_y rfl rfl rfl); (first | exact R_addN rfl rfl rfl | exact R_subN rfl rfl rfl | (first | exact q_1 | exact q_2 | exact q_3 | exact q_4 | exact R_loadi tabOk rfl rfl rfl rfl (by first | exact hw | rfl) rfl rfl | exact q_6 | exact q_7 | exact q_8 | exact q_9 | exact q_10 | exact q_11 | exact q_12 | exact q_13 | exact q_14 | exact q_15 | exact q_16 | exact q_17 | exact q_18 | exact q_19 | exact q_20 | exact q_21 | exact q_22 | exact q_23 | exact q_24 | fail)))
        | refine O_nil ?_
        | refine Q_nil ?_
        | refine q_j ?_
        | refine q_k ?_
        | refine q_d ?_
        | refine q_a ?_
        | refine q_b ?_
        | refine q_c ?_
        | refine A_ct rfl ?_
        | refine A_cf rfl ?_
        | refine A_skip ?_
        | refine A_exit ?_
        | refine A_ret ?_
        | refine q_l ?_
        | refine q_m ?_
        | refine q_n ?_
        | refine q_h ?_
        | refine q_o ?_
        | refine q_e ?_
        | refine q_f ?_
        | refine q_g ?_
        | first | refine O_c rfl rfl rfl rfl rfl hfit (fun _ => rfl) ?_ | (refine O_cTV (α := Unit) (C := fun _ => .tup []) (H1 := fun _ => _) (Φ := fun _ => True) [(1000, 1000)] [(950, 950)] 950 950 (fun p p' i h1 h2 => by rw [(look_oneU h1).1, (look_oneU h2).1]) (fun p i h1 => by rw [(look_oneU h1).1]; exact ⟨Nat.le_refl _, rfl, fun _ => rfl⟩) (fun p i h1 => ⟨by rw [(look_oneU h1).1]; omega, by rw [(look_oneU h1).2]; omega, fun q hq => by have := (look_oneU h1).2; have := (look_oneU hq).2; omega⟩) (fun p p' i h1 h2 => by rw [(look_oneU h1).1, (look_oneU h2).1]) (by decide) (by decide) (by omega) rfl ⟨950, rfl⟩ hcall rfl ⟨⟨1000, _, rfl, rfl, rfl, fun c hc => by simp at hc; subst hc; rfl⟩, ⟨950, _, rfl, rfl, rfl, trivial⟩, trivial⟩ rfl rfl rfl rfl rfl rfl rfl rfl (fun _ _ => ?_)))
      cases hr
      exact X_retW AWk.refl rfl (h2 := ([(1000, .var [.row 950]), (950, markB (m ++ [(i, s)]))])) ⟨rfl, rfl, trivial⟩ ⟨rfl, rfl⟩
    rw [if_neg h0] at hr
    have hset := set_A c s (by omega) (by omega)
    have hok2 := hok.set
    obtain ⟨t, ht⟩ : ∃ t, setC c s = t := ⟨_, rfl⟩
    rw [ht] at hset hok2 hr
    have hcall := (run1_A m i t (by omega) hok2.s).mono fun c h hq => (⟨(), trivial, hq⟩ : ∃ _ : Unit, True ∧ c = .tup [] ∧ h = _)
    by_cases h1 : c.act = 1
    · rw [if_pos h1] at hr
      by_cases hj : c.jump = 0
      · rw [if_pos hj] at hr
        repeat (first | refine A_seq ?_ | refine A_block ?_ | refine R_list ?_ | refine R_quiet rfl mixed (by kernel_rfl) ?_ | ((first | apply O_y rfl rfl rfl | apply Q_y rfl rfl rfl); (first | exact q_1 | exact q_2 | exact q_3 | exact q_4 | exact R_loadi tabOk rfl rfl rfl rfl (by first | exact hw | rfl) rfl rfl | exact q_6 | exact q_7 | exact q_8 | exact q_9 | exact q_10 | exact q_11 | exact q_12 | exact q_13 | exact q_14 | exact q_15 | exact q_16 | exact q_17 | exact q_18 | exact q_19 | exact q_20 | exact q_21 | exact q_22 | exact q_23 | exact q_24 | fail)) | refine O_nil ?_ | refine Q_nil ?_ | refine q_j ?_ | refine q_k ?_ | refine q_d ?_ | refine q_a ?_ | refine q_b ?_ | refine q_c ?_ | refine A_ct rfl ?_ | refine A_cf rfl ?_ | refine A_skip ?_ | refine A_exit ?_ | refine A_ret ?_ | refine q_l ?_ | refine q_m ?_ | refine q_n ?_ | refine q_h ?_ | refine q_o ?_ | refine q_e ?_ | refine q_f ?_ | refine q_g ?_ | first | refine O_c rfl rfl rfl rfl rfl hfit (fun _ => rfl) ?_ | refine O_c rfl rfl rfl rfl rfl hset (fun _ => rfl) ?_ | (refine O_cTV (α := Unit) (C := fun _ => .tup []) (H1 := fun _ => _) (Φ := fun _ => True) [(1000, 1000)] [(950, 950)] 950 950 (fun p p' i h1 h2 => by rw [(look_oneU h1).1, (look_oneU h2).1]) (fun p i h1 => by rw [(look_oneU h1).1]; exact ⟨Nat.le_refl _, rfl, fun _ => rfl⟩) (fun p i h1 => ⟨by rw [(look_oneU h1).1]; omega, by rw [(look_oneU h1).2]; omega, fun q hq => by have := (look_oneU h1).2; have := (look_oneU hq).2; omega⟩) (fun p p' i h1 h2 => by rw [(look_oneU h1).1, (look_oneU h2).1]) (by decide) (by decide) (by omega) rfl ⟨950, rfl⟩ hcall rfl ⟨⟨1000, _, rfl, rfl, rfl, fun c hc => by simp at hc; subst hc; rfl⟩, ⟨950, _, rfl, rfl, rfl, trivial⟩, trivial⟩ rfl rfl rfl rfl rfl rfl rfl rfl (fun _ _ => ?_)))
        cases hr
        exact X_retW AWk.refl rfl (h2 := ([(1000, .var [.row 950]), (950, markB (m ++ [(i, t)]))])) ⟨rfl, rfl, trivial⟩ ⟨rfl, rfl⟩
      · rw [if_neg hj] at hr
        repeat (first | refine A_seq ?_ | refine A_block ?_ | refine R_list ?_ | refine R_quiet rfl mixed (by kernel_rfl) ?_ | ((first | apply O_y rfl rfl rfl | apply Q_y rfl rfl rfl); (first | exact q_1 | exact q_2 | exact q_3 | exact q_4 | exact R_loadi tabOk rfl rfl rfl rfl (by first | exact hw | rfl) rfl rfl | exact q_6 | exact q_7 | exact q_8 | exact q_9 | exact q_10 | exact q_11 | exact q_12 | exact q_13 | exact q_14 | exact q_15 | exact q_16 | exact q_17 | exact q_18 | exact q_19 | exact q_20 | exact q_21 | exact q_22 | exact q_23 | exact q_24 | fail)) | refine O_nil ?_ | refine Q_nil ?_ | refine q_j ?_ | refine q_k ?_ | refine q_d ?_ | refine q_a ?_ | refine q_b ?_ | refine q_c ?_ | refine A_ct rfl ?_ | refine A_cf rfl ?_ | refine A_skip ?_ | refine A_exit ?_ | refine A_ret ?_ | refine q_l ?_ | refine q_m ?_ | refine q_n ?_ | refine q_h ?_ | refine q_o ?_ | refine q_e ?_ | refine q_f ?_ | refine q_g ?_ | first | refine O_c rfl rfl rfl rfl rfl hfit (fun _ => rfl) ?_ | refine O_c rfl rfl rfl rfl rfl hset (fun _ => rfl) ?_ | (refine O_cTV (α := Unit) (C := fun _ => .tup []) (H1 := fun _ => _) (Φ := fun _ => True) [(1000, 1000)] [(950, 950)] 950 950 (fun p p' i h1 h2 => by rw [(look_oneU h1).1, (look_oneU h2).1]) (fun p i h1 => by rw [(look_oneU h1).1]; exact ⟨Nat.le_refl _, rfl, fun _ => rfl⟩) (fun p i h1 => ⟨by rw [(look_oneU h1).1]; omega, by rw [(look_oneU h1).2]; omega, fun q hq => by have := (look_oneU h1).2; have := (look_oneU hq).2; omega⟩) (fun p p' i h1 h2 => by rw [(look_oneU h1).1, (look_oneU h2).1]) (by decide) (by decide) (by omega) rfl ⟨950, rfl⟩ hcall rfl ⟨⟨1000, _, rfl, rfl, rfl, fun c hc => by simp at hc; subst hc; rfl⟩, ⟨950, _, rfl, rfl, rfl, trivial⟩, trivial⟩ rfl rfl rfl rfl rfl rfl rfl rfl (fun _ _ => ?_)))
        refine A_loop (fun k : Nat => [(3, .fn 23 [.ptr 1000 0]), (4, .iptr (dvcD d) 0), (5, .iptr (polD ⟨nm, cs, dft⟩) 0), (6, .ptr 6 0), (10, natA i), (11, natA k), (13, .ptr 13 0), (15, .d (.sl (cs.flatMap clsD) cs.length)), (16, natA cs.length), (17, natA i)])
          (fun _ => (13, .var ((clsD c).map .d)) :: (6, .var ((sbjD t).map .d)) :: ([(1000, .var [.row 950]), (950, markB (m ++ [(i, t)]))])) (fun k => skipJ cs c.jump k = skipJ cs c.jump (i + 1) ∧ k ≤ cs.length) (fun k => cs.length - k) (i + 1) ⟨rfl, hil⟩ (Wk_sel ⟨rfl, rfl, rfl, rfl, rfl, rfl, rfl, rfl, rfl, rfl, trivial⟩ ⟨rfl, rfl, rfl, rfl, trivial⟩) ?_
        rintro k ⟨hk, hkl⟩
        try dsimp only
        rw [skipJ] at hk
        by_cases hkc : k < cs.length
        · rw [dif_pos hkc] at hk
          have hw2 := win_flat clsD_len cs k 0 1 hkc (by decide)
          by_cases hsq : cs[k].seq < c.jump
          · rw [if_pos hsq] at hk
            repeat (first | refine A_seq ?_ | refine A_block ?_ | refine R_list ?_ | refine R_quiet rfl mixed (by kernel_rfl) ?_ | ((first | apply O_y rfl rfl rfl | apply Q_y rfl rfl rfl); (first | exact q_1 | exact q_2 | exact q_3 | exact q_4 | exact R_loadi tabOk rfl rfl rfl rfl (by first | exact hw2 | rfl) rfl rfl | exact q_6 | exact q_7 | exact q_8 | exact q_9 | exact q_10 | exact q_11 | exact q_12 | exact q_13 | exact q_14 | exact q_15 | exact q_16 | exact q_17 | exact q_18 | exact q_19 | exact q_20 | exact q_21 | exact q_22 | exact q_23 | exact q_24 | (exact R_index (j := k) tabOk rfl rfl rfl rfl rfl rfl hkc))) | refine O_nil ?_ | refine Q_nil ?_ | refine q_j ?_ | refine q_k ?_ | refine q_d ?_ | refine q_a ?_ | refine q_b ?_ | refine q_c ?_ | refine A_ct rfl ?_ | refine A_cf rfl ?_ | refine A_skip ?_ | refine A_exit ?_ | refine A_ret ?_ | refine q_l ?_ | refine q_m ?_ | refine q_n ?_ | refine q_h ?_ | refine q_o ?_ | refine q_e ?_ | refine q_f ?_ | refine q_g ?_ | fail)
            exact ⟨k + 1, ⟨hk, hkc⟩, by (try dsimp only); omega, Wk_sel ⟨rfl, rfl, rfl, rfl, rfl, rfl, rfl, rfl, rfl, rfl, trivial⟩ ⟨rfl, rfl, rfl, rfl, trivial⟩⟩
          · rw [if_neg hsq] at hk
            rw [← hk] at hr
            repeat (first | refine A_seq ?_ | refine A_block ?_ | refine R_list ?_ | refine R_quiet rfl mixed (by kernel_rfl) ?_ | ((first | apply O_y rfl rfl rfl | apply Q_y rfl rfl rfl); (first | exact q_1 | exact q_2 | exact q_3 | exact q_4 | exact R_loadi tabOk rfl rfl rfl rfl (by first | exact hw2 | rfl) rfl rfl | exact q_6 | exact q_7 | exact q_8 | exact q_9 | exact q_10 | exact q_11 | exact q_12 | exact q_13 | exact q_14 | exact q_15 | exact q_16 | exact q_17 | exact q_18 | exact q_19 | exact q_20 | exact q_21 | exact q_22 | exact q_23 | exact q_24 | (exact R_index (j := k) tabOk rfl rfl rfl rfl rfl rfl hkc))) | refine O_nil ?_ | refine Q_nil ?_ | refine q_j ?_ | refine q_k ?_ | refine q_d ?_ | refine q_a ?_ | refine q_b ?_ | refine q_c ?_ | refine A_ct rfl ?_ | refine A_cf rfl ?_ | refine A_skip ?_ | refine A_exit ?_ | refine A_ret ?_ | refine q_l ?_ | refine q_m ?_ | refine q_n ?_ | refine q_h ?_ | refine q_o ?_ | refine q_e ?_ | refine q_f ?_ | refine q_g ?_ | fail)
            exact ⟨(i + 1, k, (i : Int), t, m ++ [(i, t)]), ⟨hr, hil, hkl, hok2, by (try dsimp only); rw [List.length_append]; simp; omega⟩, by (try dsimp only); omega, Wk_sel ⟨rfl, rfl, rfl, rfl, rfl, rfl, rfl, rfl, rfl, trivial⟩ ⟨rfl, rfl, rfl, trivial⟩⟩
        · rw [dif_neg hkc] at hk
          rw [← hk] at hr
          repeat (first | refine A_seq ?_ | refine A_block ?_ | refine R_list ?_ | refine R_quiet rfl mixed (by kernel_rfl) ?_ | ((first | apply O_y rfl rfl rfl | apply Q_y rfl rfl rfl); (first | exact q_1 | exact q_2 | exact q_3 | exact q_4 | exact q_5 | exact q_6 | exact q_7 | exact q_8 | exact q_9 | exact q_10 | exact q_11 | exact q_12 | exact q_13 | exact q_14 | exact q_15 | exact q_16 | exact q_17 | exact q_18 | exact q_19 | exact q_20 | exact q_21 | exact q_22 | exact q_23 | exact q_24 | fail)) | refine O_nil ?_ | refine Q_nil ?_ | refine q_j ?_ | refine q_k ?_ | refine q_d ?_ | refine q_a ?_ | refine q_b ?_ | refine q_c ?_ | refine A_ct rfl ?_ | refine A_cf rfl ?_ | refine A_skip ?_ | refine A_exit ?_ | refine A_ret ?_ | refine q_l ?_ | refine q_m ?_ | refine q_n ?_ | refine q_h ?_ | refine q_o ?_ | refine q_e ?_ | refine q_f ?_ | refine q_g ?_ | fail)
          exact ⟨(i + 1, k, (i : Int), t, m ++ [(i, t)]), ⟨hr, hil, hkl, hok2, by (try dsimp only); rw [List.length_append]; simp; omega⟩, by (try dsimp only); omega, Wk_sel ⟨rfl, rfl, rfl, rfl, rfl, rfl, rfl, rfl, rfl, trivial⟩ ⟨rfl, rfl, rfl, trivial⟩⟩
    · rw [if_neg h1] at hr
      repeat (first | refine A_seq ?_ | refine A_block ?_ | refine R_list ?_ | refine R_quiet rfl mixed (by kernel_rfl) ?_ | ((first | apply O_y rfl rfl rfl | apply Q_y rfl rfl rfl); (first | exact q_1 | exact q_2 | exact q_3 | exact q_4 | exact R_loadi tabOk rfl rfl rfl rfl (by first | exact hw | rfl) rfl rfl | exact q_6 | exact q_7 | exact q_8 | exact q_9 | exact q_10 | exact q_11 | exact q_12 | exact q_13 | exact q_14 | exact q_15 | exact q_16 | exact q_17 | exact q_18 | exact q_19 | exact q_20 | exact q_21 | exact q_22 | exact q_23 | exact q_24 | fail)) | refine O_nil ?_ | refine Q_nil ?_ | refine q_j ?_ | refine q_k ?_ | refine q_d ?_ | refine q_a ?_ | refine q_b ?_ | refine q_c ?_ | refine A_ct rfl ?_ | refine A_cf rfl ?_ | refine A_skip ?_ | refine A_exit ?_ | refine A_ret ?_ | refine q_l ?_ | refine q_m ?_ | refine q_n ?_ | refine q_h ?_ | refine q_o ?_ | refine q_e ?_ | refine q_f ?_ | refine q_g ?_ | first | refine O_c rfl rfl rfl rfl rfl hfit (fun _ => rfl) ?_ | refine O_c rfl rfl rfl rfl rfl hset (fun _ => rfl) ?_ | (refine O_cTV (α := Unit) (C := fun _ => .tup []) (H1 := fun _ => _) (Φ := fun _ => True) [(1000, 1000)] [(950, 950)] 950 950 (fun p p' i h1 h2 => by rw [(look_oneU h1).1, (look_oneU h2).1]) (fun p i h1 => by rw [(look_oneU h1).1]; exact ⟨Nat.le_refl _, rfl, fun _ => rfl⟩) (fun p i h1 => ⟨by rw [(look_oneU h1).1]; omega, by rw [(look_oneU h1).2]; omega, fun q hq => by have := (look_oneU h1).2; have := (look_oneU hq).2; omega⟩) (fun p p' i h1 h2 => by rw [(look_oneU h1).1, (look_oneU h2).1]) (by decide) (by decide) (by omega) rfl ⟨950, rfl⟩ hcall rfl ⟨⟨1000, _, rfl, rfl, rfl, fun c hc => by simp at hc; subst hc; rfl⟩, ⟨950, _, rfl, rfl, rfl, trivial⟩, trivial⟩ rfl rfl rfl rfl rfl rfl rfl rfl (fun _ _ => ?_)))
      exact ⟨(i + 1, fr, bb, t, m ++ [(i, t)]), ⟨hr, hil, hfr, hok2, by (try dsimp only); rw [List.length_append]; simp; omega⟩, by (try dsimp only); omega, Wk_sel ⟨rfl, rfl, rfl, rfl, rfl, rfl, rfl, rfl, rfl, trivial⟩ ⟨rfl, rfl, rfl, trivial⟩⟩
  · rw [List.drop_of_length_le (by omega), runL] at hr
    by_cases hbb : 0 ≤ bb
    · rw [decide_eq_true hbb, Bool.true_or] at hr
      cases hr
      repeat ((fail_if_success (refine stopL ?_)); (fail_if_success (refine stopC ?_)); first
        | refine A_seq ?_
        | refine A_block ?_
        | refine R_list ?_
        | refine R_quiet rfl mixed (by kernel_rfl) ?_
        | ((first | apply O_y rfl rfl rfl | apply Q_y rfl rfl rfl); (first | exact R_addN rfl rfl rfl | exact R_subN rfl rfl rfl | (first | exact q_1 | exact q_2 | exact q_3 | exact q_4 | exact q_5 | exact q_6 | exact q_7 | exact q_8 | exact q_9 | exact q_10 | exact q_11 | exact q_12 | exact q_13 | exact q_14 | exact q_15 | exact q_16 | exact q_17 | exact q_18 | exact q_19 | exact q_20 | exact q_21 | exact q_22 | exact q_23 | exact q_24 | fail)))
        | refine O_nil ?_
        | refine Q_nil ?_
        | refine q_j ?_
        | refine q_k ?_
        | refine q_d ?_
        | refine q_a ?_
        | refine q_b ?_
        | refine q_c ?_
        | refine A_ct rfl ?_
        | refine A_cf rfl ?_
        | refine A_skip ?_
        | refine A_exit ?_
        | refine A_ret ?_
        | refine q_l ?_
        | refine q_m ?_
        | refine q_n ?_
        | refine q_h ?_
        | refine q_o ?_
        | refine q_e ?_
        | refine q_f ?_
        | refine q_g ?_
        | fail)
      exact X_retW AWk.refl rfl (h2 := ([(1000, .var [.row 950]), (950, markB ms)])) ⟨rfl, rfl, trivial⟩ ⟨rfl, rfl⟩
    · rw [decide_eq_false hbb, Bool.false_or] at hr
      cases hr
      repeat ((fail_if_success (refine stopL ?_)); (fail_if_success (refine stopC ?_)); first
        | refine A_seq ?_
        | refine A_block ?_
        | refine R_list ?_
        | refine R_quiet rfl mixed (by kernel_rfl) ?_
        | ((first | apply O_y rfl rfl rfl | apply Q_y rfl rfl rfl); (first | exact R_addN rfl rfl rfl | exact R_subN rfl rfl rfl | (first | exact q_1 | exact q_2 | exact q_3 | exact q_4 | exact q_5 | exact q_6 | exact q_7 | exact q_8 | exact q_9 | exact q_10 | exact q_11 | exact q_12 | exact q_13 | exact q_14 | exact q_15 | exact q_16 | exact q_17 | exact q_18 | exact q_19 | exact q_20 | exact q_21 | exact q_22 | exact q_23 | exact q_24 | fail)))
        | refine O_nil ?_
        | refine Q_nil ?_
        | refine q_j ?_
        | refine q_k ?_
        | refine q_d ?_
        | refine q_a ?_
        | refine q_b ?_
        | refine q_c ?_
        | refine A_ct rfl ?_
        | refine A_cf rfl ?_
        | refine A_skip ?_
        | refine A_exit ?_
        | refine A_ret ?_
        | refine q_l ?_
        | refine q_m ?_
        | refine q_n ?_
        | refine q_h ?_
        | refine q_o ?_
        | refine q_e ?_
        | refine q_f ?_
        | refine q_g ?_
        | fail)
      exact X_retW AWk.refl rfl (h2 := ([(1000, .var [.row 950]), (950, markB ms)])) ⟨rfl, rfl, trivial⟩ ⟨rfl, rfl⟩
end Go.Proofs.Ytmljmahlpcdhoaa.Ab

namespace Go.Proofs.Ytmljmahlpcdhoaa
set_option linter.unusedVariables false
set_option maxRecDepth 100000
open Go.RowKit Go.Lib
def zeroS : Sbj := ⟨⟨0, 0⟩, 0, 0, 0, [], [], 0⟩
def applyP (d : Dvc) (nm : List UInt8) (s : Sbj) : Sbj × Bool × Int :=
  if nm = [] then (s, true, 0) else match d.pols.find? (fun p => decide (p.nm = nm)) with
    | none => (zeroS, false, 120)
    | some p => if (runP d p s).1 then (lastS s (runP d p s).2.2, true, 0) else (zeroS, false, 0)
def runV (d : Dvc) (nm : List UInt8) (s : Sbj) : List (Nat × Sbj) × Bool × Int :=
  if nm = [] then ([], true, 0) else match d.pols.find? (fun p => decide (p.nm = nm)) with
    | none => ([], false, 120)
    | some p => ((runP d p s).2.2, (runP d p s).1, 0)
structure OkA (d : Dvc) (s : Sbj) : Prop where
  od : OkD d
  n : d.pols.length ≤ 1000000
  os : OkS s
  op : ∀ p ∈ d.pols, p.cs.length ≤ 1000000 ∧ OkR s p.cs
theorem runL_ok (d : Dvc) (cs : List Cls) (dft : Bool) : ∀ (r : List Cls) (i fr : Nat) (b : Int) (s s0 : Sbj) (ms : List (Nat × Sbj)), OkR s r → OkS (lastS s0 ms) → OkS (lastS s0 (runL d cs dft r i fr b s ms).2.2) := fun r => by
  induction r with
  | nil => intro i fr b s s0 ms h h2; exact h2
  | cons c r ih =>
    intro i fr b s s0 ms h h2
    rw [runL]
    split
    · exact ih _ _ _ _ _ _ h.skip h2
    · split
      · exact ih _ _ _ _ _ _ h.skip h2
      · split
        · show OkS (lastS s0 (ms ++ [(i, s)])); rw [lastS_snoc]; exact h.s
        · split
          · split
            · show OkS (lastS s0 (ms ++ [(i, setC c s)])); rw [lastS_snoc]; exact h.set.s
            · exact ih _ _ _ _ _ _ h.set (by rw [lastS_snoc]; exact h.set.s)
          · exact ih _ _ _ _ _ _ h.set (by rw [lastS_snoc]; exact h.set.s)
end Go.Proofs.Ytmljmahlpcdhoaa

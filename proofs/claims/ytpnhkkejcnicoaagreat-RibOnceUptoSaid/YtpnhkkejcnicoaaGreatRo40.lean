/-
  Texts of a proof, one behind the other (part 41).
-/
import Derived.Test.YtpnhkkejcnicoaaGreatRo6
import Derived.Test.YtpnhkkejcnicoaaGreatRo11
import Derived.Test.YtpnhkkejcnicoaaGreatRo26
import Derived.Test.YtpnhkkejcnicoaaGreatRo39
set_option linter.unusedVariables false
set_option linter.unusedSimpArgs false
namespace Go.Proofs.YtpnhkkejcnicoaaGreat.Ab
set_option linter.unusedVariables false
set_option maxRecDepth 100000
open Go.RowKit Go.Lib
set_option linter.unusedSimpArgs false
attribute [local irreducible] AWp AOps AQ AYield AEff ACall AWk AAny AAt AThen AIn APost NoPanic
set_option maxHeartbeats 64000000 in
theorem runA_A (d : Dvc) (p : Pol) (s0 : Sbj) (hd : OkD d) (hn : p.cs.length ≤ 1000000) (hs : OkR s0 p.cs) {ok : Bool} {b : Int} {ms : List (Nat × Sbj)} (hr : runP d p s0 = (ok, b, ms)) :
    ACall Tryz.prog 32 [dvcA d, aggD (polD p), aggD (sbjD s0), .fn 33 [.ptr 1000 0]] (([(1000, lastB s0 [])])) (fun c h => c = .tup [boolA ok, .d (.sc (.int .i64 b))] ∧ h = ([(1000, lastB s0 ms)])) := by
  obtain ⟨nm, cs, dft⟩ := p
  try dsimp only at hn hs hr
  unfold runP at hr
  try dsimp only at hr
  refine ACall_of tabOk Tryz.func32 rfl Tryz.ntmps32 (congrArg Array.toList Tryz.results32) (by kernel_rfl) rfl ?_
  refine A_seq ?_
  refine R_list ?_
  refine q_d ?_
  refine q_d ?_
  refine q_d ?_
  refine O_weaken (Wk_freezeV (id := 4) (ds := dvcD d) rfl rfl) ?_
  refine O_weaken (Wk_freezeV (id := 5) (ds := polD ⟨nm, cs, dft⟩) rfl rfl) ?_
  repeat ((fail_if_success (refine stopL ?_)); (fail_if_success (refine stopC ?_)); first | refine q_Z ?_ | refine R_quiet rfl mixed (by kernel_rfl) ?_ | ((first | apply O_y rfl rfl rfl | apply Q_y rfl rfl rfl); (first | exact R_addN rfl rfl rfl | exact R_subN rfl rfl rfl | (first | exact q_A | exact q_5 | exact q_B))) | refine q_d ?_ | refine q_a ?_ | refine q_b ?_ | refine q_c ?_ | refine A_ct rfl ?_ | refine A_cf rfl ?_ | refine q_W ?_ | first | (refine A_label ?_) | (refine A_scope ng_post ?_))
  refine A_block ?_
  refine A_loop (fun x : Nat × Nat × Int × Sbj × List (Nat × Sbj) => [(3, .fn 33 [.ptr 1000 0]), (4, .iptr (dvcD d) 0), (5, .iptr (polD ⟨nm, cs, dft⟩) 0), (6, .ptr 6 0), (10, .d (.sc (.int .i64 x.2.2.1))), (11, natA x.2.1), (15, .d (.sl (cs.flatMap clsD) cs.length)), (16, natA cs.length), (17, natA x.1)])
    (fun x => (6, .var ((sbjD x.2.2.2.1).map .d)) :: ([(1000, lastB s0 x.2.2.2.2)]))
    (fun x => runL d cs dft (cs.drop x.1) x.1 x.2.1 x.2.2.1 x.2.2.2.1 x.2.2.2.2 = (ok, b, ms) ∧ x.1 ≤ cs.length ∧ x.2.1 ≤ cs.length ∧ OkR x.2.2.2.1 (cs.drop x.1) ∧ x.2.2.2.2.length ≤ x.1) (fun x => cs.length - x.1)
    (0, 0, -1, s0, []) ⟨hr, Nat.zero_le _, Nat.zero_le _, hs, Nat.le_refl _⟩ (Wk_sel ⟨rfl, rfl, rfl, rfl, rfl, rfl, rfl, rfl, rfl, trivial⟩ ⟨rfl, rfl, trivial⟩) ?_
  clear hr hs
  rintro ⟨i, fr, bb, s, m⟩ ⟨hr, hi, hfr, hok, hml⟩
  try dsimp only at hr hi hfr hok hml ⊢
  by_cases hil : i < cs.length
  · rw [List.drop_eq_getElem_cons hil] at hr hok
    have hw := win_flat0 clsD_len cs i 15 hil (by decide)
    obtain ⟨c, hc⟩ : ∃ c, cs[i] = c := ⟨_, rfl⟩
    rw [hc] at hr hok hw
    rw [runL] at hr
    have hwP := hok.wp
    have hwC := hok.wc
    rw [wP_cons] at hwP
    rw [wC_cons] at hwC
    by_cases hf : i < fr
    · rw [if_pos hf] at hr
      repeat ((fail_if_success (refine stopL ?_)); (fail_if_success (refine stopC ?_)); first | refine q_Z ?_ | refine R_quiet rfl mixed (by kernel_rfl) ?_ | ((first | apply O_y rfl rfl rfl | apply Q_y rfl rfl rfl); (first | exact R_addN rfl rfl rfl | exact R_subN rfl rfl rfl | (first | exact q_A | exact R_loadi tabOk rfl rfl rfl rfl hw rfl rfl | exact q_B))) | refine q_d ?_ | refine q_a ?_ | refine q_b ?_ | refine q_c ?_ | refine A_ct rfl ?_ | refine A_cf rfl ?_ | refine q_W ?_)
      exact ⟨(i + 1, fr, bb, s, m), ⟨hr, hil, hfr, hok.skip, by (try dsimp only); omega⟩, by (try dsimp only); omega, Wk_sel ⟨rfl, rfl, rfl, rfl, rfl, rfl, rfl, rfl, rfl, trivial⟩ ⟨rfl, rfl, trivial⟩⟩
    rw [if_neg hf] at hr
    have hfit := fits_A d c s hd hok.s
    cases hb : fitsC d c s
    · rw [hb] at hfit hr
      rw [if_pos rfl] at hr
      repeat ((fail_if_success (refine stopL ?_)); (fail_if_success (refine stopC ?_)); first | refine q_Z ?_ | refine R_quiet rfl mixed (by kernel_rfl) ?_ | ((first | apply O_y rfl rfl rfl | apply Q_y rfl rfl rfl); (first | exact R_addN rfl rfl rfl | exact R_subN rfl rfl rfl | (first | exact q_A | exact R_loadi tabOk rfl rfl rfl rfl (by first | exact hw | rfl) rfl rfl | exact q_B))) | refine q_d ?_ | refine q_a ?_ | refine q_b ?_ | refine q_c ?_ | refine A_ct rfl ?_ | refine A_cf rfl ?_ | refine q_W ?_ | refine O_c rfl rfl rfl rfl rfl hfit (fun _ => rfl) ?_)
      exact ⟨(i + 1, fr, bb, s, m), ⟨hr, hil, hfr, hok.skip, by (try dsimp only); omega⟩, by (try dsimp only); omega, Wk_sel ⟨rfl, rfl, rfl, rfl, rfl, rfl, rfl, rfl, rfl, trivial⟩ ⟨rfl, rfl, trivial⟩⟩
    rw [hb] at hfit hr
    rw [if_neg (by decide)] at hr
    by_cases h0 : c.act = 0
    · rw [if_pos h0] at hr
      have hcall := apply1_A s0 m i s
      repeat ((fail_if_success (refine stopL ?_)); (fail_if_success (refine stopC ?_)); first | refine q_Z ?_ | refine R_quiet rfl mixed (by kernel_rfl) ?_ | ((first | apply O_y rfl rfl rfl | apply Q_y rfl rfl rfl); (first | exact R_addN rfl rfl rfl | exact R_subN rfl rfl rfl | (first | exact q_A | exact R_loadi tabOk rfl rfl rfl rfl (by first | exact hw | rfl) rfl rfl | exact q_B))) | refine q_d ?_ | refine q_a ?_ | refine q_b ?_ | refine q_c ?_ | refine A_ct rfl ?_ | refine A_cf rfl ?_ | refine q_W ?_ | first | refine O_c rfl rfl rfl rfl rfl hfit (fun _ => rfl) ?_ | (refine O_cPV [(1000, 1000)] (fun p p' i h1 h2 => by rw [(look_oneU h1).1, (look_oneU h2).1]) (fun p i h1 => by rw [(look_oneU h1).1]; exact ⟨Nat.le_refl _, rfl, rfl⟩) hcall (List.all_eq_true.1 (show List.all _ _ = true from rfl)) ⟨⟨1000, _, rfl, rfl, rfl, fun c hc => by obtain ⟨x, _, rfl⟩ := List.mem_map.1 hc; rfl⟩, trivial⟩ rfl rfl rfl rfl rfl rfl rfl rfl ?_))
      cases hr
      exact X_retW AWk.refl rfl (h2 := ([(1000, lastB s0 (m ++ [(i, s)]))])) ⟨rfl, trivial⟩ ⟨rfl, rfl⟩
    rw [if_neg h0] at hr
    have hset := set_A c s (by omega) (by omega)
    have hok2 := hok.set
    obtain ⟨t, ht⟩ : ∃ t, setC c s = t := ⟨_, rfl⟩
    rw [ht] at hset hok2 hr
    have hcall := apply1_A s0 m i t
    by_cases h1 : c.act = 1
    · rw [if_pos h1] at hr
      by_cases hj : c.jump = 0
      · rw [if_pos hj] at hr
        repeat (first | refine q_Z ?_ | refine R_quiet rfl mixed (by kernel_rfl) ?_ | ((first | apply O_y rfl rfl rfl | apply Q_y rfl rfl rfl); (first | exact q_A | exact R_loadi tabOk rfl rfl rfl rfl (by first | exact hw | rfl) rfl rfl | exact q_B)) | refine q_d ?_ | refine q_a ?_ | refine q_b ?_ | refine q_c ?_ | refine A_ct rfl ?_ | refine A_cf rfl ?_ | refine q_W ?_ | first | refine O_c rfl rfl rfl rfl rfl hfit (fun _ => rfl) ?_ | refine O_c rfl rfl rfl rfl rfl hset (fun _ => rfl) ?_ | (refine O_cPV [(1000, 1000)] (fun p p' i h1 h2 => by rw [(look_oneU h1).1, (look_oneU h2).1]) (fun p i h1 => by rw [(look_oneU h1).1]; exact ⟨Nat.le_refl _, rfl, rfl⟩) hcall (List.all_eq_true.1 (show List.all _ _ = true from rfl)) ⟨⟨1000, _, rfl, rfl, rfl, fun c hc => by obtain ⟨x, _, rfl⟩ := List.mem_map.1 hc; rfl⟩, trivial⟩ rfl rfl rfl rfl rfl rfl rfl rfl ?_))
        cases hr
        exact X_retW AWk.refl rfl (h2 := ([(1000, lastB s0 (m ++ [(i, t)]))])) ⟨rfl, trivial⟩ ⟨rfl, rfl⟩
      · rw [if_neg hj] at hr
        repeat (first | refine q_Z ?_ | refine R_quiet rfl mixed (by kernel_rfl) ?_ | ((first | apply O_y rfl rfl rfl | apply Q_y rfl rfl rfl); (first | exact q_A | exact R_loadi tabOk rfl rfl rfl rfl (by first | exact hw | rfl) rfl rfl | exact q_B)) | refine q_d ?_ | refine q_a ?_ | refine q_b ?_ | refine q_c ?_ | refine A_ct rfl ?_ | refine A_cf rfl ?_ | refine q_W ?_ | first | refine O_c rfl rfl rfl rfl rfl hfit (fun _ => rfl) ?_ | refine O_c rfl rfl rfl rfl rfl hset (fun _ => rfl) ?_ | (refine O_cPV [(1000, 1000)] (fun p p' i h1 h2 => by rw [(look_oneU h1).1, (look_oneU h2).1]) (fun p i h1 => by rw [(look_oneU h1).1]; exact ⟨Nat.le_refl _, rfl, rfl⟩) hcall (List.all_eq_true.1 (show List.all _ _ = true from rfl)) ⟨⟨1000, _, rfl, rfl, rfl, fun c hc => by obtain ⟨x, _, rfl⟩ := List.mem_map.1 hc; rfl⟩, trivial⟩ rfl rfl rfl rfl rfl rfl rfl rfl ?_))
        refine A_loop (fun k : Nat => [(3, .fn 33 [.ptr 1000 0]), (4, .iptr (dvcD d) 0), (5, .iptr (polD ⟨nm, cs, dft⟩) 0), (6, .ptr 6 0), (10, natA i), (11, natA k), (13, .ptr 13 0), (15, .d (.sl (cs.flatMap clsD) cs.length)), (16, natA cs.length), (17, natA i)])
          (fun _ => (13, .var ((clsD c).map .d)) :: (6, .var ((sbjD t).map .d)) :: ([(1000, lastB s0 (m ++ [(i, t)]))])) (fun k => skipJ cs c.jump k = skipJ cs c.jump (i + 1) ∧ k ≤ cs.length) (fun k => cs.length - k) (i + 1) ⟨rfl, hil⟩ (Wk_sel ⟨rfl, rfl, rfl, rfl, rfl, rfl, rfl, rfl, rfl, rfl, trivial⟩ ⟨rfl, rfl, rfl, trivial⟩) ?_
        rintro k ⟨hk, hkl⟩
        try dsimp only
        rw [skipJ] at hk
        by_cases hkc : k < cs.length
        · rw [dif_pos hkc] at hk
          have hw2 := win_flat clsD_len cs k 0 1 hkc (by decide)
          by_cases hsq : cs[k].seq < c.jump
          · rw [if_pos hsq] at hk
            repeat (first | refine q_Z ?_ | refine R_quiet rfl mixed (by kernel_rfl) ?_ | ((first | apply O_y rfl rfl rfl | apply Q_y rfl rfl rfl); (first | exact q_A | exact R_loadi tabOk rfl rfl rfl rfl (by first | exact hw2 | rfl) rfl rfl | exact q_B | (exact R_index (j := k) tabOk rfl rfl rfl rfl rfl rfl hkc))) | refine q_d ?_ | refine q_a ?_ | refine q_b ?_ | refine q_c ?_ | refine A_ct rfl ?_ | refine A_cf rfl ?_ | refine q_W ?_)
            exact ⟨k + 1, ⟨hk, hkc⟩, by (try dsimp only); omega, Wk_sel ⟨rfl, rfl, rfl, rfl, rfl, rfl, rfl, rfl, rfl, rfl, trivial⟩ ⟨rfl, rfl, rfl, trivial⟩⟩
          · rw [if_neg hsq] at hk
            rw [← hk] at hr
            repeat (first | refine q_Z ?_ | refine R_quiet rfl mixed (by kernel_rfl) ?_ | ((first | apply O_y rfl rfl rfl | apply Q_y rfl rfl rfl); (first | exact q_A | exact R_loadi tabOk rfl rfl rfl rfl (by first | exact hw2 | rfl) rfl rfl | exact q_B | (exact R_index (j := k) tabOk rfl rfl rfl rfl rfl rfl hkc))) | refine q_d ?_ | refine q_a ?_ | refine q_b ?_ | refine q_c ?_ | refine A_ct rfl ?_ | refine A_cf rfl ?_ | refine q_W ?_)
            exact ⟨(i + 1, k, (i : Int), t, m ++ [(i, t)]), ⟨hr, hil, hkl, hok2, by (try dsimp only); rw [List.length_append]; simp; omega⟩, by (try dsimp only); omega, Wk_sel ⟨rfl, rfl, rfl, rfl, rfl, rfl, rfl, rfl, rfl, trivial⟩ ⟨rfl, rfl, trivial⟩⟩
        · rw [dif_neg hkc] at hk
          rw [← hk] at hr
          repeat (first | refine q_Z ?_ | refine R_quiet rfl mixed (by kernel_rfl) ?_ | ((first | apply O_y rfl rfl rfl | apply Q_y rfl rfl rfl); (first | exact q_A | exact q_5 | exact q_B)) | refine q_d ?_ | refine q_a ?_ | refine q_b ?_ | refine q_c ?_ | refine A_ct rfl ?_ | refine A_cf rfl ?_ | refine q_W ?_)
          exact ⟨(i + 1, k, (i : Int), t, m ++ [(i, t)]), ⟨hr, hil, hkl, hok2, by (try dsimp only); rw [List.length_append]; simp; omega⟩, by (try dsimp only); omega, Wk_sel ⟨rfl, rfl, rfl, rfl, rfl, rfl, rfl, rfl, rfl, trivial⟩ ⟨rfl, rfl, trivial⟩⟩
    · rw [if_neg h1] at hr
      repeat (first | refine q_Z ?_ | refine R_quiet rfl mixed (by kernel_rfl) ?_ | ((first | apply O_y rfl rfl rfl | apply Q_y rfl rfl rfl); (first | exact q_A | exact R_loadi tabOk rfl rfl rfl rfl (by first | exact hw | rfl) rfl rfl | exact q_B)) | refine q_d ?_ | refine q_a ?_ | refine q_b ?_ | refine q_c ?_ | refine A_ct rfl ?_ | refine A_cf rfl ?_ | refine q_W ?_ | first | refine O_c rfl rfl rfl rfl rfl hfit (fun _ => rfl) ?_ | refine O_c rfl rfl rfl rfl rfl hset (fun _ => rfl) ?_ | (refine O_cPV [(1000, 1000)] (fun p p' i h1 h2 => by rw [(look_oneU h1).1, (look_oneU h2).1]) (fun p i h1 => by rw [(look_oneU h1).1]; exact ⟨Nat.le_refl _, rfl, rfl⟩) hcall (List.all_eq_true.1 (show List.all _ _ = true from rfl)) ⟨⟨1000, _, rfl, rfl, rfl, fun c hc => by obtain ⟨x, _, rfl⟩ := List.mem_map.1 hc; rfl⟩, trivial⟩ rfl rfl rfl rfl rfl rfl rfl rfl ?_))
      exact ⟨(i + 1, fr, bb, t, m ++ [(i, t)]), ⟨hr, hil, hfr, hok2, by (try dsimp only); rw [List.length_append]; simp; omega⟩, by (try dsimp only); omega, Wk_sel ⟨rfl, rfl, rfl, rfl, rfl, rfl, rfl, rfl, rfl, trivial⟩ ⟨rfl, rfl, trivial⟩⟩
  · rw [List.drop_of_length_le (by omega), runL] at hr
    by_cases hbb : 0 ≤ bb
    · rw [decide_eq_true hbb, Bool.true_or] at hr
      cases hr
      repeat ((fail_if_success (refine stopL ?_)); (fail_if_success (refine stopC ?_)); first | refine q_Z ?_ | refine R_quiet rfl mixed (by kernel_rfl) ?_ | ((first | apply O_y rfl rfl rfl | apply Q_y rfl rfl rfl); (first | exact R_addN rfl rfl rfl | exact R_subN rfl rfl rfl | (first | exact q_A | exact q_5 | exact q_B))) | refine q_d ?_ | refine q_a ?_ | refine q_b ?_ | refine q_c ?_ | refine A_ct rfl ?_ | refine A_cf rfl ?_ | refine q_W ?_)
      exact X_retW AWk.refl rfl (h2 := ([(1000, lastB s0 ms)])) ⟨rfl, trivial⟩ ⟨rfl, rfl⟩
    · rw [decide_eq_false hbb, Bool.false_or] at hr
      cases hr
      repeat ((fail_if_success (refine stopL ?_)); (fail_if_success (refine stopC ?_)); first | refine q_Z ?_ | refine R_quiet rfl mixed (by kernel_rfl) ?_ | ((first | apply O_y rfl rfl rfl | apply Q_y rfl rfl rfl); (first | exact R_addN rfl rfl rfl | exact R_subN rfl rfl rfl | (first | exact q_A | exact q_5 | exact q_B))) | refine q_d ?_ | refine q_a ?_ | refine q_b ?_ | refine q_c ?_ | refine A_ct rfl ?_ | refine A_cf rfl ?_ | refine q_W ?_)
      exact X_retW AWk.refl rfl (h2 := ([(1000, lastB s0 ms)])) ⟨rfl, trivial⟩ ⟨rfl, rfl⟩
end Go.Proofs.YtpnhkkejcnicoaaGreat.Ab

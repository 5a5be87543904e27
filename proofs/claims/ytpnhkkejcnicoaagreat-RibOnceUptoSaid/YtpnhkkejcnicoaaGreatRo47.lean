/-
  Texts of a proof, one behind the other (part 48).
-/
import Derived.Test.YtpnhkkejcnicoaaGreatRo6
import Derived.Test.YtpnhkkejcnicoaaGreatRo9
import Derived.Test.YtpnhkkejcnicoaaGreatRo12
import Derived.Test.YtpnhkkejcnicoaaGreatRo46
set_option linter.unusedVariables false
set_option linter.unusedSimpArgs false
namespace Go.Proofs.YtpnhkkejcnicoaaGreat
set_option linter.unusedVariables false
open Go.RowKit Go.Lib
def sameS (s t : Sbj) : Bool := (s.p == t.p) && decide (s.met = t.met) && decide (s.tag = t.tag) && decide (s.pref = t.pref) && decide (s.hop = t.hop) && decide (s.path = t.path) && decide (s.com = t.com)
theorem sameS_iff (s t : Sbj) : sameS s t = true ↔ s = t := by
  obtain ⟨⟨a1, a2⟩, a3, a4, a5, a6, a7, a8⟩ := s
  obtain ⟨⟨b1, b2⟩, b3, b4, b5, b6, b7, b8⟩ := t
  simp [sameS]
  constructor
  · rintro ⟨⟨⟨⟨⟨⟨⟨rfl, rfl⟩, rfl⟩, rfl⟩, rfl⟩, rfl⟩, rfl⟩, rfl⟩; simp
  · rintro ⟨⟨rfl, rfl⟩, rfl, rfl, rfl, rfl, rfl, rfl⟩; simp
theorem take_eq_step {l m : List Int} {k : Nat} (h1 : k < l.length) (h2 : k < m.length) (h : l.take k = m.take k) (he : l[k] = m[k]) : l.take (k + 1) = m.take (k + 1) := by
  rw [List.take_succ_eq_append_getElem h1, List.take_succ_eq_append_getElem h2, h, he]
namespace Ab
set_option maxRecDepth 100000
set_option linter.unusedSimpArgs false
attribute [local irreducible] AWp AOps AQ AYield AEff ACall AWk AAny AAt AThen AIn APost NoPanic
set_option maxHeartbeats 4000000 in
theorem same09g_A (l m : List Int) (hn : l.length ≤ 1000000000) (hm : m.length ≤ 1000000000) : ACall Tryz.prog 18 [usA l, usA m] [] (Just (boolA (decide (l = m)))) := by
  refine ACall_of tabOk Tryz.func18 rfl Tryz.ntmps18 (congrArg Array.toList Tryz.results18) (by kernel_rfl) rfl ?_
  by_cases hlm : l.length = m.length
  ·
    repeat ((fail_if_success (refine stopL ?_)); first | refine q_Z ?_ | refine R_quiet rfl mixed (by kernel_rfl) ?_ | ((first | apply O_y rfl rfl rfl | apply Q_y rfl rfl rfl); (first | exact R_addN rfl rfl rfl | exact R_subN rfl rfl rfl | (first | exact q_A | exact q_5 | exact q_B))) | refine q_d ?_ | refine q_a ?_ | refine q_b ?_ | refine q_c ?_ | refine A_ct rfl ?_ | refine A_cf rfl ?_ | refine q_W ?_)
    try refine A_block ?_
    refine A_loop (fun k : Nat => [(0, usA l), (1, usA m), (5, natA k)]) (fun _ => []) (fun k => k ≤ l.length ∧ l.take k = m.take k) (fun k => l.length - k) 0 ⟨Nat.zero_le _, by simp⟩ (Wk_sel ⟨rfl, rfl, rfl, trivial⟩ trivial) ?_
    rintro k ⟨hk, ha⟩
    try dsimp only
    by_cases hkl : k < l.length
    · have hkm : k < m.length := by omega
      have hw1 := win_flat0 u1D_len l k 1 hkl (by decide)
      have hw2 := win_flat0 u1D_len m k 1 hkm (by decide)
      by_cases he : l[k] = m[k]
      ·
        repeat ((fail_if_success (refine stopL ?_)); first | refine q_Z ?_ | refine R_quiet rfl mixed (by kernel_rfl) ?_ | ((first | apply O_y rfl rfl rfl | apply Q_y rfl rfl rfl); (first | exact R_addN rfl rfl rfl | exact R_subN rfl rfl rfl | (first | exact q_A | exact R_loadi tabOk rfl rfl rfl rfl (by first | exact hw1 | exact hw2) rfl rfl | exact q_B))) | refine q_d ?_ | refine q_a ?_ | refine q_b ?_ | refine q_c ?_ | refine A_ct rfl ?_ | refine A_cf rfl ?_ | refine q_W ?_)
        exact ⟨k + 1, ⟨hkl, take_eq_step hkl hkm ha he⟩, by omega, Wk_sel ⟨rfl, rfl, rfl, trivial⟩ trivial⟩
      · have hd : decide (l = m) = false := decide_eq_false fun h => he (by subst h; rfl)
        rw [hd]
        repeat ((fail_if_success (refine stopL ?_)); first | refine q_Z ?_ | refine R_quiet rfl mixed (by kernel_rfl) ?_ | ((first | apply O_y rfl rfl rfl | apply Q_y rfl rfl rfl); (first | exact R_addN rfl rfl rfl | exact R_subN rfl rfl rfl | (first | exact q_A | exact R_loadi tabOk rfl rfl rfl rfl (by first | exact hw1 | exact hw2) rfl rfl | exact q_B))) | refine q_d ?_ | refine q_a ?_ | refine q_b ?_ | refine q_c ?_ | refine A_ct rfl ?_ | refine A_cf rfl ?_ | refine q_W ?_)
        exact X_ret rfl ⟨rfl, rfl⟩
    · have hd : decide (l = m) = true := by
        rw [List.take_of_length_le (by omega), List.take_of_length_le (by omega)] at ha
        exact decide_eq_true ha
      rw [hd]
      repeat ((fail_if_success (refine stopL ?_)); first | refine q_Z ?_ | refine R_quiet rfl mixed (by kernel_rfl) ?_ | ((first | apply O_y rfl rfl rfl | apply Q_y rfl rfl rfl); (first | exact R_addN rfl rfl rfl | exact R_subN rfl rfl rfl | (first | exact q_A | exact q_5 | exact q_B))) | refine q_d ?_ | refine q_a ?_ | refine q_b ?_ | refine q_c ?_ | refine A_ct rfl ?_ | refine A_cf rfl ?_ | refine q_W ?_)
      exact X_ret rfl ⟨rfl, rfl⟩
  · have hd : decide (l = m) = false := decide_eq_false fun h => hlm (by subst h; rfl)
    rw [hd]
    repeat ((fail_if_success (refine stopL ?_)); first | refine q_Z ?_ | refine R_quiet rfl mixed (by kernel_rfl) ?_ | ((first | apply O_y rfl rfl rfl | apply Q_y rfl rfl rfl); (first | exact R_addN rfl rfl rfl | exact R_subN rfl rfl rfl | (first | exact q_A | exact q_5 | exact q_B))) | refine q_d ?_ | refine q_a ?_ | refine q_b ?_ | refine q_c ?_ | refine A_ct rfl ?_ | refine A_cf rfl ?_ | refine q_W ?_)
    exact X_ret rfl ⟨rfl, rfl⟩
set_option maxHeartbeats 8000000 in
theorem rsame_A (s t : Sbj) (h1 : s.path.length ≤ 1000000000) (h2 : s.com.length ≤ 1000000000) (h3 : t.path.length ≤ 1000000000) (h4 : t.com.length ≤ 1000000000) : ACall Tryz.prog 8 [aggD (sbjD s), aggD (sbjD t)] [] (Just (boolA (sameS s t))) := by
  have c1 := same09g_A s.path t.path h1 h3
  have c2 := same09g_A s.com t.com h2 h4
  obtain ⟨b1, hb1⟩ : ∃ b, decide (s.path = t.path) = b := ⟨_, rfl⟩
  obtain ⟨b2, hb2⟩ : ∃ b, decide (s.com = t.com) = b := ⟨_, rfl⟩
  unfold sameS
  rw [hb1] at c1 ⊢
  rw [hb2] at c2 ⊢
  clear hb1 hb2 h1 h2 h3 h4
  obtain ⟨sp, sm, st, spr, spa, sco, sh⟩ := s
  obtain ⟨tp, tm, tt, tpr, tpa, tco, th⟩ := t
  dsimp only at c1 c2 ⊢
  refine ACall_of tabOk Tryz.func8 rfl Tryz.ntmps8 (congrArg Array.toList Tryz.results8) (by kernel_rfl) rfl ?_
  cases hp : sp == tp with
  | false =>
    repeat (first | refine q_Z ?_ | refine R_quiet rfl mixed (by kernel_rfl) ?_ | ((first | apply O_y rfl rfl rfl | apply Q_y rfl rfl rfl); (first | exact q_A | exact q_5 | exact q_B | (exact Y_eq tabOk noStand rfl rfl rfl rfl rfl rfl rfl rfl rfl (by kernel_rfl) ((pfxEq sp tp).trans (congrArg some hp)) rfl))) | refine q_d ?_ | refine q_a ?_ | refine q_b ?_ | refine q_c ?_ | refine A_ct rfl ?_ | refine A_cf rfl ?_ | refine q_W ?_)
    exact X_ret rfl ⟨rfl, rfl⟩
  | true =>
    by_cases e1 : sm = tm
    · by_cases e2 : st = tt
      · by_cases e3 : spr = tpr
        · by_cases e4 : sh = th
          · rw [decide_eq_true e1, decide_eq_true e2, decide_eq_true e3, decide_eq_true e4]
            cases b1 with
            | true =>
              repeat (first | refine q_Z ?_ | refine R_quiet rfl mixed (by kernel_rfl) ?_ | ((first | apply O_y rfl rfl rfl | apply Q_y rfl rfl rfl); (first | exact q_A | exact q_5 | exact q_B | (exact Y_eq tabOk noStand rfl rfl rfl rfl rfl rfl rfl rfl rfl (by kernel_rfl) ((pfxEq sp tp).trans (congrArg some hp)) rfl))) | refine q_d ?_ | refine q_a ?_ | refine q_b ?_ | refine q_c ?_ | refine A_ct rfl ?_ | refine A_cf rfl ?_ | refine q_W ?_ | first | refine O_c rfl rfl rfl rfl rfl c1 (fun _ => rfl) ?_ | refine O_c rfl rfl rfl rfl rfl c2 (fun _ => rfl) ?_)
              exact X_ret rfl ⟨rfl, rfl⟩
            | false =>
              repeat (first | refine q_Z ?_ | refine R_quiet rfl mixed (by kernel_rfl) ?_ | ((first | apply O_y rfl rfl rfl | apply Q_y rfl rfl rfl); (first | exact q_A | exact q_5 | exact q_B | (exact Y_eq tabOk noStand rfl rfl rfl rfl rfl rfl rfl rfl rfl (by kernel_rfl) ((pfxEq sp tp).trans (congrArg some hp)) rfl))) | refine q_d ?_ | refine q_a ?_ | refine q_b ?_ | refine q_c ?_ | refine A_ct rfl ?_ | refine A_cf rfl ?_ | refine q_W ?_ | refine O_c rfl rfl rfl rfl rfl c1 (fun _ => rfl) ?_)
              exact X_ret rfl ⟨rfl, rfl⟩
          · rw [decide_eq_true e1, decide_eq_true e2, decide_eq_true e3, decide_eq_false e4]
            repeat (first | refine q_Z ?_ | refine R_quiet rfl mixed (by kernel_rfl) ?_ | ((first | apply O_y rfl rfl rfl | apply Q_y rfl rfl rfl); (first | exact q_A | exact q_5 | exact q_B | (exact Y_eq tabOk noStand rfl rfl rfl rfl rfl rfl rfl rfl rfl (by kernel_rfl) ((pfxEq sp tp).trans (congrArg some hp)) rfl))) | refine q_d ?_ | refine q_a ?_ | refine q_b ?_ | refine q_c ?_ | refine A_ct rfl ?_ | refine A_cf rfl ?_ | refine q_W ?_)
            exact X_ret rfl ⟨rfl, rfl⟩
        · rw [decide_eq_true e1, decide_eq_true e2, decide_eq_false e3]
          repeat (first | refine q_Z ?_ | refine R_quiet rfl mixed (by kernel_rfl) ?_ | ((first | apply O_y rfl rfl rfl | apply Q_y rfl rfl rfl); (first | exact q_A | exact q_5 | exact q_B | (exact Y_eq tabOk noStand rfl rfl rfl rfl rfl rfl rfl rfl rfl (by kernel_rfl) ((pfxEq sp tp).trans (congrArg some hp)) rfl))) | refine q_d ?_ | refine q_a ?_ | refine q_b ?_ | refine q_c ?_ | refine A_ct rfl ?_ | refine A_cf rfl ?_ | refine q_W ?_)
          exact X_ret rfl ⟨rfl, rfl⟩
      · rw [decide_eq_true e1, decide_eq_false e2]
        repeat (first | refine q_Z ?_ | refine R_quiet rfl mixed (by kernel_rfl) ?_ | ((first | apply O_y rfl rfl rfl | apply Q_y rfl rfl rfl); (first | exact q_A | exact q_5 | exact q_B | (exact Y_eq tabOk noStand rfl rfl rfl rfl rfl rfl rfl rfl rfl (by kernel_rfl) ((pfxEq sp tp).trans (congrArg some hp)) rfl))) | refine q_d ?_ | refine q_a ?_ | refine q_b ?_ | refine q_c ?_ | refine A_ct rfl ?_ | refine A_cf rfl ?_ | refine q_W ?_)
        exact X_ret rfl ⟨rfl, rfl⟩
    · rw [decide_eq_false e1]
      repeat (first | refine q_Z ?_ | refine R_quiet rfl mixed (by kernel_rfl) ?_ | ((first | apply O_y rfl rfl rfl | apply Q_y rfl rfl rfl); (first | exact q_A | exact q_5 | exact q_B | (exact Y_eq tabOk noStand rfl rfl rfl rfl rfl rfl rfl rfl rfl (by kernel_rfl) ((pfxEq sp tp).trans (congrArg some hp)) rfl))) | refine q_d ?_ | refine q_a ?_ | refine q_b ?_ | refine q_c ?_ | refine A_ct rfl ?_ | refine A_cf rfl ?_ | refine q_W ?_)
      exact X_ret rfl ⟨rfl, rfl⟩
end Ab
end Go.Proofs.YtpnhkkejcnicoaaGreat

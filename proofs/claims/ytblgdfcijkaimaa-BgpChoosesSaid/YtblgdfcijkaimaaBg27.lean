/-
  Texts of a proof, one behind the other (part 28).
-/
import Derived.Test.YtblgdfcijkaimaaBg11
import Derived.Test.YtblgdfcijkaimaaBg22
set_option linter.unusedVariables false
set_option linter.unusedSimpArgs false
namespace Go.Proofs.Ytblgdfcijkaimaa.Ab
set_option linter.unusedVariables false
set_option maxRecDepth 100000
open Go.RowKit Go.Lib
set_option linter.unusedSimpArgs false
attribute [local irreducible] AWp AOps AQ AYield AEff ACall AWk AAny AAt AThen AIn APost NoPanic
set_option maxHeartbeats 32000000 in
theorem refBetter_A (a b : Adv) (x y : Int) : ACall Try.prog 8 [advA a, advA b, intA x, intA y] [] (Just (boolA (betR a b x y))) := by
  have i1 := refId_A a
  have i2 := refId_A b
  unfold betR
  obtain ⟨ia, hia⟩ : ∃ z, idn a = z := ⟨_, rfl⟩
  obtain ⟨ib, hib⟩ : ∃ z, idn b = z := ⟨_, rfl⟩
  rw [hia] at i1 ⊢
  rw [hib] at i2 ⊢
  clear hia hib
  obtain ⟨⟨pa, pb⟩, hop, pref, met, path, com, peer, pid, ext, orig, clus, ses⟩ := a
  obtain ⟨⟨pa', pb'⟩, hop', pref', met', path', com', peer', pid', ext', orig', clus', ses'⟩ := b
  dsimp only
  by_cases hs : ses = -1
  · subst hs
    rw [if_pos (.inl rfl)]
    by_cases hs' : ses' = -1
    · subst hs'
      refine ACall_of tabOk Try.func8 rfl Try.ntmps8 (congrArg Array.toList Try.results8) (by kernel_rfl) rfl ?_
      repeat (first | refine q_Z ?_ | refine R_quiet rfl mixed (by kernel_rfl) ?_ | ((first | apply O_y rfl rfl rfl | apply Q_y rfl rfl rfl); (first | exact q_A | exact q_5 | exact q_B | (first | exact q_25 | exact q_26 | exact q_20 | exact R_neBool tabOk rfl rfl rfl rfl | exact Y_bbin tabOk rfl rfl rfl rfl rfl))) | refine q_d ?_ | refine q_a ?_ | refine q_b ?_ | refine q_c ?_ | refine A_ct rfl ?_ | refine A_cf rfl ?_ | refine q_W ?_ | (first | refine Q_c rfl rfl rfl rfl rfl i1 rfl (fun _ _ _ => val_mk _ _ _ _ _ rfl rfl) ?_ | refine Q_c rfl rfl rfl rfl rfl i2 rfl (fun _ _ _ => val_mk _ _ _ _ _ rfl rfl) ?_))
      exact X_ret rfl ⟨rfl, rfl⟩
    · rw [decide_eq_true hs']
      refine ACall_of tabOk Try.func8 rfl Try.ntmps8 (congrArg Array.toList Try.results8) (by kernel_rfl) rfl ?_
      repeat (first | refine q_Z ?_ | refine R_quiet rfl mixed (by kernel_rfl) ?_ | ((first | apply O_y rfl rfl rfl | apply Q_y rfl rfl rfl); (first | exact q_A | exact q_5 | exact q_B | (first | exact q_25 | exact q_26 | exact q_20 | exact R_neBool tabOk rfl rfl rfl rfl | exact Y_bbin tabOk rfl rfl rfl rfl rfl))) | refine q_d ?_ | refine q_a ?_ | refine q_b ?_ | refine q_c ?_ | refine A_ct rfl ?_ | refine A_cf rfl ?_ | refine q_W ?_ | (first | refine Q_c rfl rfl rfl rfl rfl i1 rfl (fun _ _ _ => val_mk _ _ _ _ _ rfl rfl) ?_ | refine Q_c rfl rfl rfl rfl rfl i2 rfl (fun _ _ _ => val_mk _ _ _ _ _ rfl rfl) ?_))
      exact X_ret rfl ⟨rfl, rfl⟩
  by_cases hs' : ses' = -1
  · subst hs'
    rw [if_pos (.inr rfl), decide_eq_false hs]
    refine ACall_of tabOk Try.func8 rfl Try.ntmps8 (congrArg Array.toList Try.results8) (by kernel_rfl) rfl ?_
    repeat (first | refine q_Z ?_ | refine R_quiet rfl mixed (by kernel_rfl) ?_ | ((first | apply O_y rfl rfl rfl | apply Q_y rfl rfl rfl); (first | exact q_A | exact q_5 | exact q_B | (first | exact q_25 | exact q_26 | exact q_20 | exact R_neBool tabOk rfl rfl rfl rfl | exact Y_bbin tabOk rfl rfl rfl rfl rfl))) | refine q_d ?_ | refine q_a ?_ | refine q_b ?_ | refine q_c ?_ | refine A_ct rfl ?_ | refine A_cf rfl ?_ | refine q_W ?_ | (first | refine Q_c rfl rfl rfl rfl rfl i1 rfl (fun _ _ _ => val_mk _ _ _ _ _ rfl rfl) ?_ | refine Q_c rfl rfl rfl rfl rfl i2 rfl (fun _ _ _ => val_mk _ _ _ _ _ rfl rfl) ?_))
    exact X_ret rfl ⟨rfl, rfl⟩
  rw [if_neg (by omega)]
  by_cases h1 : pref = pref'
  rotate_left
  · rw [if_pos h1]
    refine ACall_of tabOk Try.func8 rfl Try.ntmps8 (congrArg Array.toList Try.results8) (by kernel_rfl) rfl ?_
    repeat (first | refine q_Z ?_ | refine R_quiet rfl mixed (by kernel_rfl) ?_ | ((first | apply O_y rfl rfl rfl | apply Q_y rfl rfl rfl); (first | exact q_A | exact q_5 | exact q_B | (first | exact q_25 | exact q_26 | exact q_20 | exact R_neBool tabOk rfl rfl rfl rfl | exact Y_bbin tabOk rfl rfl rfl rfl rfl))) | refine q_d ?_ | refine q_a ?_ | refine q_b ?_ | refine q_c ?_ | refine A_ct rfl ?_ | refine A_cf rfl ?_ | refine q_W ?_ | (first | refine Q_c rfl rfl rfl rfl rfl i1 rfl (fun _ _ _ => val_mk _ _ _ _ _ rfl rfl) ?_ | refine Q_c rfl rfl rfl rfl rfl i2 rfl (fun _ _ _ => val_mk _ _ _ _ _ rfl rfl) ?_))
    exact X_ret rfl ⟨rfl, rfl⟩
  rw [if_neg (by simpa using h1)]
  by_cases h2 : path.length = path'.length
  rotate_left
  · rw [if_pos h2, show decide (path.length < path'.length) = decide ((path.length : Int) < (path'.length : Int)) by simp]
    refine ACall_of tabOk Try.func8 rfl Try.ntmps8 (congrArg Array.toList Try.results8) (by kernel_rfl) rfl ?_
    repeat (first | refine q_Z ?_ | refine R_quiet rfl mixed (by kernel_rfl) ?_ | ((first | apply O_y rfl rfl rfl | apply Q_y rfl rfl rfl); (first | exact q_A | exact q_5 | exact q_B | (first | exact q_25 | exact q_26 | exact q_20 | exact R_neBool tabOk rfl rfl rfl rfl | exact Y_bbin tabOk rfl rfl rfl rfl rfl))) | refine q_d ?_ | refine q_a ?_ | refine q_b ?_ | refine q_c ?_ | refine A_ct rfl ?_ | refine A_cf rfl ?_ | refine q_W ?_ | (first | refine Q_c rfl rfl rfl rfl rfl i1 rfl (fun _ _ _ => val_mk _ _ _ _ _ rfl rfl) ?_ | refine Q_c rfl rfl rfl rfl rfl i2 rfl (fun _ _ _ => val_mk _ _ _ _ _ rfl rfl) ?_))
    exact X_ret rfl ⟨rfl, rfl⟩
  rw [if_neg (by simpa using h2)]
  by_cases h3 : met = met'
  rotate_left
  · rw [if_pos h3]
    refine ACall_of tabOk Try.func8 rfl Try.ntmps8 (congrArg Array.toList Try.results8) (by kernel_rfl) rfl ?_
    repeat (first | refine q_Z ?_ | refine R_quiet rfl mixed (by kernel_rfl) ?_ | ((first | apply O_y rfl rfl rfl | apply Q_y rfl rfl rfl); (first | exact q_A | exact q_5 | exact q_B | (first | exact q_25 | exact q_26 | exact q_20 | exact R_neBool tabOk rfl rfl rfl rfl | exact Y_bbin tabOk rfl rfl rfl rfl rfl))) | refine q_d ?_ | refine q_a ?_ | refine q_b ?_ | refine q_c ?_ | refine A_ct rfl ?_ | refine A_cf rfl ?_ | refine q_W ?_ | (first | refine Q_c rfl rfl rfl rfl rfl i1 rfl (fun _ _ _ => val_mk _ _ _ _ _ rfl rfl) ?_ | refine Q_c rfl rfl rfl rfl rfl i2 rfl (fun _ _ _ => val_mk _ _ _ _ _ rfl rfl) ?_))
    exact X_ret rfl ⟨rfl, rfl⟩
  rw [if_neg (by simpa using h3)]
  by_cases h4 : ext = ext'
  rotate_left
  · rw [if_pos h4]
    cases ext <;> cases ext' <;> first | (exact absurd rfl h4) | skip
    ·
      refine ACall_of tabOk Try.func8 rfl Try.ntmps8 (congrArg Array.toList Try.results8) (by kernel_rfl) rfl ?_
      repeat (first | refine q_Z ?_ | refine R_quiet rfl mixed (by kernel_rfl) ?_ | ((first | apply O_y rfl rfl rfl | apply Q_y rfl rfl rfl); (first | exact q_A | exact q_5 | exact q_B | (first | exact q_25 | exact q_26 | exact q_20 | exact R_neBool tabOk rfl rfl rfl rfl | exact Y_bbin tabOk rfl rfl rfl rfl rfl))) | refine q_d ?_ | refine q_a ?_ | refine q_b ?_ | refine q_c ?_ | refine A_ct rfl ?_ | refine A_cf rfl ?_ | refine q_W ?_ | (first | refine Q_c rfl rfl rfl rfl rfl i1 rfl (fun _ _ _ => val_mk _ _ _ _ _ rfl rfl) ?_ | refine Q_c rfl rfl rfl rfl rfl i2 rfl (fun _ _ _ => val_mk _ _ _ _ _ rfl rfl) ?_))
      exact X_ret rfl ⟨rfl, rfl⟩
    ·
      refine ACall_of tabOk Try.func8 rfl Try.ntmps8 (congrArg Array.toList Try.results8) (by kernel_rfl) rfl ?_
      repeat (first | refine q_Z ?_ | refine R_quiet rfl mixed (by kernel_rfl) ?_ | ((first | apply O_y rfl rfl rfl | apply Q_y rfl rfl rfl); (first | exact q_A | exact q_5 | exact q_B | (first | exact q_25 | exact q_26 | exact q_20 | exact R_neBool tabOk rfl rfl rfl rfl | exact Y_bbin tabOk rfl rfl rfl rfl rfl))) | refine q_d ?_ | refine q_a ?_ | refine q_b ?_ | refine q_c ?_ | refine A_ct rfl ?_ | refine A_cf rfl ?_ | refine q_W ?_ | (first | refine Q_c rfl rfl rfl rfl rfl i1 rfl (fun _ _ _ => val_mk _ _ _ _ _ rfl rfl) ?_ | refine Q_c rfl rfl rfl rfl rfl i2 rfl (fun _ _ _ => val_mk _ _ _ _ _ rfl rfl) ?_))
      exact X_ret rfl ⟨rfl, rfl⟩
  subst h4
  rw [if_neg (by simp)]
  by_cases h5 : x = y
  rotate_left
  · rw [if_pos h5]
    refine ACall_of tabOk Try.func8 rfl Try.ntmps8 (congrArg Array.toList Try.results8) (by kernel_rfl) rfl ?_
    repeat (first | refine q_Z ?_ | refine R_quiet rfl mixed (by kernel_rfl) ?_ | ((first | apply O_y rfl rfl rfl | apply Q_y rfl rfl rfl); (first | exact q_A | exact q_5 | exact q_B | (first | exact q_25 | exact q_26 | exact q_20 | exact R_neBool tabOk rfl rfl rfl rfl | exact Y_bbin tabOk rfl rfl rfl rfl rfl))) | refine q_d ?_ | refine q_a ?_ | refine q_b ?_ | refine q_c ?_ | refine A_ct rfl ?_ | refine A_cf rfl ?_ | refine q_W ?_ | (first | refine Q_c rfl rfl rfl rfl rfl i1 rfl (fun _ _ _ => val_mk _ _ _ _ _ rfl rfl) ?_ | refine Q_c rfl rfl rfl rfl rfl i2 rfl (fun _ _ _ => val_mk _ _ _ _ _ rfl rfl) ?_))
    exact X_ret rfl ⟨rfl, rfl⟩
  rw [if_neg (by simpa using h5)]
  by_cases h6 : ia = ib
  rotate_left
  · rw [if_pos h6]
    refine ACall_of tabOk Try.func8 rfl Try.ntmps8 (congrArg Array.toList Try.results8) (by kernel_rfl) rfl ?_
    repeat (first | refine q_Z ?_ | refine R_quiet rfl mixed (by kernel_rfl) ?_ | ((first | apply O_y rfl rfl rfl | apply Q_y rfl rfl rfl); (first | exact q_A | exact q_5 | exact q_B | (first | exact q_25 | exact q_26 | exact q_20 | exact R_neBool tabOk rfl rfl rfl rfl | exact Y_bbin tabOk rfl rfl rfl rfl rfl))) | refine q_d ?_ | refine q_a ?_ | refine q_b ?_ | refine q_c ?_ | refine A_ct rfl ?_ | refine A_cf rfl ?_ | refine q_W ?_ | (first | refine Q_c rfl rfl rfl rfl rfl i1 rfl (fun _ _ _ => val_mk _ _ _ _ _ rfl rfl) ?_ | refine Q_c rfl rfl rfl rfl rfl i2 rfl (fun _ _ _ => val_mk _ _ _ _ _ rfl rfl) ?_))
    exact X_ret rfl ⟨rfl, rfl⟩
  rw [if_neg (by simpa using h6)]
  by_cases h7 : clus.length = clus'.length
  rotate_left
  · rw [if_pos h7, show decide (clus.length < clus'.length) = decide ((clus.length : Int) < (clus'.length : Int)) by simp]
    refine ACall_of tabOk Try.func8 rfl Try.ntmps8 (congrArg Array.toList Try.results8) (by kernel_rfl) rfl ?_
    repeat (first | refine q_Z ?_ | refine R_quiet rfl mixed (by kernel_rfl) ?_ | ((first | apply O_y rfl rfl rfl | apply Q_y rfl rfl rfl); (first | exact q_A | exact q_5 | exact q_B | (first | exact q_25 | exact q_26 | exact q_20 | exact R_neBool tabOk rfl rfl rfl rfl | exact Y_bbin tabOk rfl rfl rfl rfl rfl))) | refine q_d ?_ | refine q_a ?_ | refine q_b ?_ | refine q_c ?_ | refine A_ct rfl ?_ | refine A_cf rfl ?_ | refine q_W ?_ | (first | refine Q_c rfl rfl rfl rfl rfl i1 rfl (fun _ _ _ => val_mk _ _ _ _ _ rfl rfl) ?_ | refine Q_c rfl rfl rfl rfl rfl i2 rfl (fun _ _ _ => val_mk _ _ _ _ _ rfl rfl) ?_))
    exact X_ret rfl ⟨rfl, rfl⟩
  rw [if_neg (by simpa using h7)]
  by_cases h8 : peer = peer'
  rotate_left
  · rw [if_pos h8]
    refine ACall_of tabOk Try.func8 rfl Try.ntmps8 (congrArg Array.toList Try.results8) (by kernel_rfl) rfl ?_
    repeat (first | refine q_Z ?_ | refine R_quiet rfl mixed (by kernel_rfl) ?_ | ((first | apply O_y rfl rfl rfl | apply Q_y rfl rfl rfl); (first | exact q_A | exact q_5 | exact q_B | (first | exact q_25 | exact q_26 | exact q_20 | exact R_neBool tabOk rfl rfl rfl rfl | exact Y_bbin tabOk rfl rfl rfl rfl rfl))) | refine q_d ?_ | refine q_a ?_ | refine q_b ?_ | refine q_c ?_ | refine A_ct rfl ?_ | refine A_cf rfl ?_ | refine q_W ?_ | (first | refine Q_c rfl rfl rfl rfl rfl i1 rfl (fun _ _ _ => val_mk _ _ _ _ _ rfl rfl) ?_ | refine Q_c rfl rfl rfl rfl rfl i2 rfl (fun _ _ _ => val_mk _ _ _ _ _ rfl rfl) ?_))
    exact X_ret rfl ⟨rfl, rfl⟩
  rw [if_neg (by simpa using h8)]
  refine ACall_of tabOk Try.func8 rfl Try.ntmps8 (congrArg Array.toList Try.results8) (by kernel_rfl) rfl ?_
  repeat (first | refine q_Z ?_ | refine R_quiet rfl mixed (by kernel_rfl) ?_ | ((first | apply O_y rfl rfl rfl | apply Q_y rfl rfl rfl); (first | exact q_A | exact q_5 | exact q_B | (first | exact q_25 | exact q_26 | exact q_20 | exact R_neBool tabOk rfl rfl rfl rfl | exact Y_bbin tabOk rfl rfl rfl rfl rfl))) | refine q_d ?_ | refine q_a ?_ | refine q_b ?_ | refine q_c ?_ | refine A_ct rfl ?_ | refine A_cf rfl ?_ | refine q_W ?_ | (first | refine Q_c rfl rfl rfl rfl rfl i1 rfl (fun _ _ _ => val_mk _ _ _ _ _ rfl rfl) ?_ | refine Q_c rfl rfl rfl rfl rfl i2 rfl (fun _ _ _ => val_mk _ _ _ _ _ rfl rfl) ?_))
  exact X_ret rfl ⟨rfl, rfl⟩
end Go.Proofs.Ytblgdfcijkaimaa.Ab

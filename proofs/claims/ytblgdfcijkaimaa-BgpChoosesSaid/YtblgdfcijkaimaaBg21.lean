/-
  Texts of a proof, one behind the other (part 22).
-/
import Derived.Test.YtblgdfcijkaimaaBg1
import Derived.Test.YtblgdfcijkaimaaBg7
import Derived.Test.YtblgdfcijkaimaaBg11
set_option linter.unusedVariables false
set_option linter.unusedSimpArgs false
namespace Go.Proofs.Ytblgdfcijkaimaa.Ab
set_option linter.unusedVariables false
set_option maxRecDepth 100000
open Go.RowKit Go.Lib
set_option linter.unusedSimpArgs false
attribute [local irreducible] AWp AOps AQ AYield AEff ACall AWk AAny AAt AThen AIn APost NoPanic
theorem bgps_A (r : Rte) : ACall Try.prog 14 [rteA r] [] (Just (boolA (bgpB r))) := by
  unfold bgpB
  by_cases h7 : r.f = 7
  · rw [decide_eq_true h7, Bool.true_or]
    refine ACall_of tabOk Try.func14 rfl Try.ntmps14 (congrArg Array.toList Try.results14) (by kernel_rfl) rfl ?_
    repeat (first | refine q_Z ?_ | refine R_quiet rfl mixed (by kernel_rfl) ?_ | ((first | apply O_y rfl rfl rfl | apply Q_y rfl rfl rfl); (first | exact q_A | exact q_5 | exact q_B | (exact q_25))) | refine q_d ?_ | refine q_a ?_ | refine q_b ?_ | refine q_c ?_ | refine A_ct rfl ?_ | refine A_cf rfl ?_ | refine q_W ?_)
    exact X_ret rfl ⟨rfl, rfl⟩
  · rw [decide_eq_false h7, Bool.false_or]
    by_cases h8 : r.f = 8
    · rw [decide_eq_true h8]
      refine ACall_of tabOk Try.func14 rfl Try.ntmps14 (congrArg Array.toList Try.results14) (by kernel_rfl) rfl ?_
      repeat (first | refine q_Z ?_ | refine R_quiet rfl mixed (by kernel_rfl) ?_ | ((first | apply O_y rfl rfl rfl | apply Q_y rfl rfl rfl); (first | exact q_A | exact q_5 | exact q_B | (exact q_26))) | refine q_d ?_ | refine q_a ?_ | refine q_b ?_ | refine q_c ?_ | refine A_ct rfl ?_ | refine A_cf rfl ?_ | refine q_W ?_)
      exact X_ret rfl ⟨rfl, rfl⟩
    · rw [decide_eq_false h8]
      refine ACall_of tabOk Try.func14 rfl Try.ntmps14 (congrArg Array.toList Try.results14) (by kernel_rfl) rfl ?_
      repeat (first | refine q_Z ?_ | refine R_quiet rfl mixed (by kernel_rfl) ?_ | ((first | apply O_y rfl rfl rfl | apply Q_y rfl rfl rfl); (first | exact q_A | exact q_5 | exact q_B | (exact q_26))) | refine q_d ?_ | refine q_a ?_ | refine q_b ?_ | refine q_c ?_ | refine A_ct rfl ?_ | refine A_cf rfl ?_ | refine q_W ?_)
      exact X_ret rfl ⟨rfl, rfl⟩
def useA (s : Int × Bool) : AVal := .tup [intA s.1, boolA s.2]
set_option maxHeartbeats 16000000 in
theorem bgpUse_A (a : Adv) (ha : a.ok) (l : List Rte) (hl : ∀ r ∈ l, r.p.ok) (hn : l.length ≤ 1000000) : ACall Try.prog 5 [advA a, rtesA l] [] (Just (useA (useP a l))) := by
  unfold useP
  by_cases hs : a.ses = -1
  · rw [if_pos hs]
    refine ACall_of tabOk Try.func5 rfl Try.ntmps5 (congrArg Array.toList Try.results5) (by kernel_rfl) rfl ?_
    repeat (first | refine q_Z ?_ | refine R_quiet rfl mixed (by kernel_rfl) ?_ | ((first | apply O_y rfl rfl rfl | apply Q_y rfl rfl rfl); (first | exact q_A | exact q_5 | exact q_B)) | refine q_d ?_ | refine q_a ?_ | refine q_b ?_ | refine q_c ?_ | refine A_ct rfl ?_ | refine A_cf rfl ?_ | refine q_W ?_)
    exact X_ret rfl ⟨rfl, rfl⟩
  rw [if_neg hs]
  have hh0 := ha.hop.1
  have hh1 := ha.hop.2
  refine ACall_of tabOk Try.func5 rfl Try.ntmps5 (congrArg Array.toList Try.results5) (by kernel_rfl) rfl ?_
  repeat (first | refine q_Z ?_ | refine R_quiet rfl mixed (by kernel_rfl) ?_ | ((first | apply O_y rfl rfl rfl | apply Q_y rfl rfl rfl); (first | exact q_A | exact q_5 | exact q_B)) | refine q_d ?_ | refine q_a ?_ | refine q_b ?_ | refine q_c ?_ | refine A_ct rfl ?_ | refine A_cf rfl ?_ | refine q_W ?_)
  refine A_loop (fun k : Nat => [(2, .ptr 2 0), (6, intA (useF a.hop (l.take k)).1), (7, intA (useF a.hop (l.take k)).2.1), (8, boolA (useF a.hop (l.take k)).2.2), (14, rtesA l), (15, intA (l.length : Int)), (16, intA (k : Int))]) (fun _ => [(2, .var ((advD a).map .d))]) (fun k => k ≤ l.length) (fun k => l.length - k) 0 (Nat.zero_le _) (Wk_sel ⟨rfl, rfl, rfl, rfl, rfl, rfl, rfl, trivial⟩ ⟨rfl, trivial⟩) ?_
  intro k hkl
  try dsimp only
  by_cases hk : k < l.length
  · have hst := useF_take a.hop l k hk
    have hin := in_A a.hop l[k].p (hl _ (List.getElem_mem hk)) hh0 hh1
    have hbg := bgps_A l[k]
    have hw := win_flat0 rteD_len l k 9 hk (by decide)
    obtain ⟨s, hs0⟩ : ∃ s, useF a.hop (l.take k) = s := ⟨_, rfl⟩
    rw [hs0] at hst ⊢
    obtain ⟨b, c, o⟩ := s
    clear hs0
    obtain ⟨r, hr⟩ : ∃ r, l[k] = r := ⟨_, rfl⟩
    rw [hr] at hst hin hbg hw
    clear hr
    dsimp only
    by_cases hb : bgpB r = true
    · rw [show useStep a.hop (b, c, o) r = (b, c, o) from if_pos (.inl (by unfold leadB; rw [hb]; rfl))] at hst
      rw [hb] at hbg
      repeat (first | refine q_Z ?_ | refine R_quiet rfl mixed (by kernel_rfl) ?_ | ((first | apply O_y rfl rfl rfl | apply Q_y rfl rfl rfl); (first | exact q_A | exact R_loadi tabOk rfl rfl rfl rfl hw rfl rfl | exact q_B | (first | exact q_25 | exact q_26 | exact R_min rfl rfl rfl rfl))) | refine q_d ?_ | refine q_a ?_ | refine q_b ?_ | refine q_c ?_ | refine A_ct rfl ?_ | refine A_cf rfl ?_ | refine q_W ?_ | (first | refine Q_c rfl rfl rfl rfl rfl hbg rfl (fun _ _ _ => val_mk _ _ _ _ _ rfl rfl) ?_ | refine O_c rfl rfl rfl rfl rfl hbg (fun _ => rfl) ?_))
      exact ⟨k + 1, by omega, by omega, by rw [hst]; exact Wk_sel ⟨rfl, rfl, rfl, rfl, rfl, rfl, rfl, trivial⟩ ⟨rfl, trivial⟩⟩
    have hb0 : bgpB r = false := by simpa using hb
    rw [hb0] at hbg
    by_cases hi : inB a.hop r.p = true
    rotate_left
    · have hi0 : inB a.hop r.p = false := by simpa using hi
      rw [show useStep a.hop (b, c, o) r = (b, c, o) from if_pos (.inl (by unfold leadB; rw [hi0, Bool.and_false]))] at hst
      rw [hi0] at hin
      repeat (first | refine q_Z ?_ | refine R_quiet rfl mixed (by kernel_rfl) ?_ | ((first | apply O_y rfl rfl rfl | apply Q_y rfl rfl rfl); (first | exact q_A | exact R_loadi tabOk rfl rfl rfl rfl hw rfl rfl | exact q_B | (first | exact q_25 | exact q_26 | exact R_min rfl rfl rfl rfl))) | refine q_d ?_ | refine q_a ?_ | refine q_b ?_ | refine q_c ?_ | refine A_ct rfl ?_ | refine A_cf rfl ?_ | refine q_W ?_ | (first | refine Q_c rfl rfl rfl rfl rfl hbg rfl (fun _ _ _ => val_mk _ _ _ _ _ rfl rfl) ?_ | refine O_c rfl rfl rfl rfl rfl hbg (fun _ => rfl) ?_ | refine Q_c rfl rfl rfl rfl rfl hin rfl (fun _ _ _ => val_mk _ _ _ _ _ rfl rfl) ?_ | refine O_c rfl rfl rfl rfl rfl hin (fun _ => rfl) ?_))
      exact ⟨k + 1, by omega, by omega, by rw [hst]; exact Wk_sel ⟨rfl, rfl, rfl, rfl, rfl, rfl, rfl, trivial⟩ ⟨rfl, trivial⟩⟩
    rw [hi] at hin
    have hle : leadB a.hop r = true := by unfold leadB; rw [hb0, hi]; rfl
    by_cases hlt : r.p.b < b
    · rw [show useStep a.hop (b, c, o) r = (b, c, o) from if_pos (.inr hlt)] at hst
      repeat (first | refine q_Z ?_ | refine R_quiet rfl mixed (by kernel_rfl) ?_ | ((first | apply O_y rfl rfl rfl | apply Q_y rfl rfl rfl); (first | exact q_A | exact R_loadi tabOk rfl rfl rfl rfl hw rfl rfl | exact q_B | (first | exact q_25 | exact q_26 | exact R_min rfl rfl rfl rfl))) | refine q_d ?_ | refine q_a ?_ | refine q_b ?_ | refine q_c ?_ | refine A_ct rfl ?_ | refine A_cf rfl ?_ | refine q_W ?_ | (first | refine Q_c rfl rfl rfl rfl rfl hbg rfl (fun _ _ _ => val_mk _ _ _ _ _ rfl rfl) ?_ | refine O_c rfl rfl rfl rfl rfl hbg (fun _ => rfl) ?_ | refine Q_c rfl rfl rfl rfl rfl hin rfl (fun _ _ _ => val_mk _ _ _ _ _ rfl rfl) ?_ | refine O_c rfl rfl rfl rfl rfl hin (fun _ => rfl) ?_))
      exact ⟨k + 1, by omega, by omega, by rw [hst]; exact Wk_sel ⟨rfl, rfl, rfl, rfl, rfl, rfl, rfl, trivial⟩ ⟨rfl, trivial⟩⟩
    have hno : ¬ (leadB a.hop r = false ∨ r.p.b < b) := by rintro (h1 | h1); rw [hle] at h1; cases h1; exact hlt h1
    by_cases hgt : b < r.p.b
    · rw [show useStep a.hop (b, c, o) r = (r.p.b, r.m, !r.x) by unfold useStep; rw [if_neg hno, if_pos hgt]; simp] at hst
      have e1 : (if r.m < r.m then r.m else r.m) = r.m := by split <;> rfl
      repeat (first | refine q_Z ?_ | refine R_quiet rfl mixed (by kernel_rfl) ?_ | ((first | apply O_y rfl rfl rfl | apply Q_y rfl rfl rfl); (first | exact q_A | exact R_loadi tabOk rfl rfl rfl rfl hw rfl rfl | exact q_B | (first | exact q_25 | exact q_26 | exact R_min rfl rfl rfl rfl))) | refine q_d ?_ | refine q_a ?_ | refine q_b ?_ | refine q_c ?_ | refine A_ct rfl ?_ | refine A_cf rfl ?_ | refine q_W ?_ | (first | refine Q_c rfl rfl rfl rfl rfl hbg rfl (fun _ _ _ => val_mk _ _ _ _ _ rfl rfl) ?_ | refine O_c rfl rfl rfl rfl rfl hbg (fun _ => rfl) ?_ | refine Q_c rfl rfl rfl rfl rfl hin rfl (fun _ _ _ => val_mk _ _ _ _ _ rfl rfl) ?_ | refine O_c rfl rfl rfl rfl rfl hin (fun _ => rfl) ?_))
      exact ⟨k + 1, by omega, by omega, by rw [hst]; exact Wk_sel ⟨rfl, rfl, (by show some (intA (if _ < _ then _ else _)) = _; rw [e1]), rfl, rfl, rfl, rfl, trivial⟩ ⟨rfl, trivial⟩⟩
    · rw [show useStep a.hop (b, c, o) r = (b, min c r.m, o && !r.x) by unfold useStep; rw [if_neg hno, if_neg hgt]] at hst
      have e1 : (if r.m < c then r.m else c) = min c r.m := by split <;> omega
      cases o with
      | true =>
        repeat (first | refine q_Z ?_ | refine R_quiet rfl mixed (by kernel_rfl) ?_ | ((first | apply O_y rfl rfl rfl | apply Q_y rfl rfl rfl); (first | exact q_A | exact R_loadi tabOk rfl rfl rfl rfl hw rfl rfl | exact q_B | (first | exact q_25 | exact q_26 | exact R_min rfl rfl rfl rfl))) | refine q_d ?_ | refine q_a ?_ | refine q_b ?_ | refine q_c ?_ | refine A_ct rfl ?_ | refine A_cf rfl ?_ | refine q_W ?_ | (first | refine Q_c rfl rfl rfl rfl rfl hbg rfl (fun _ _ _ => val_mk _ _ _ _ _ rfl rfl) ?_ | refine O_c rfl rfl rfl rfl rfl hbg (fun _ => rfl) ?_ | refine Q_c rfl rfl rfl rfl rfl hin rfl (fun _ _ _ => val_mk _ _ _ _ _ rfl rfl) ?_ | refine O_c rfl rfl rfl rfl rfl hin (fun _ => rfl) ?_))
        exact ⟨k + 1, by omega, by omega, by rw [hst]; exact Wk_sel ⟨rfl, rfl, (by show some (intA (if _ < _ then _ else _)) = _; rw [e1]), rfl, rfl, rfl, rfl, trivial⟩ ⟨rfl, trivial⟩⟩
      | false =>
        repeat (first | refine q_Z ?_ | refine R_quiet rfl mixed (by kernel_rfl) ?_ | ((first | apply O_y rfl rfl rfl | apply Q_y rfl rfl rfl); (first | exact q_A | exact R_loadi tabOk rfl rfl rfl rfl hw rfl rfl | exact q_B | (first | exact q_25 | exact q_26 | exact R_min rfl rfl rfl rfl))) | refine q_d ?_ | refine q_a ?_ | refine q_b ?_ | refine q_c ?_ | refine A_ct rfl ?_ | refine A_cf rfl ?_ | refine q_W ?_ | (first | refine Q_c rfl rfl rfl rfl rfl hbg rfl (fun _ _ _ => val_mk _ _ _ _ _ rfl rfl) ?_ | refine O_c rfl rfl rfl rfl rfl hbg (fun _ => rfl) ?_ | refine Q_c rfl rfl rfl rfl rfl hin rfl (fun _ _ _ => val_mk _ _ _ _ _ rfl rfl) ?_ | refine O_c rfl rfl rfl rfl rfl hin (fun _ => rfl) ?_))
        exact ⟨k + 1, by omega, by omega, by rw [hst]; exact Wk_sel ⟨rfl, rfl, (by show some (intA (if _ < _ then _ else _)) = _; rw [e1]), rfl, rfl, rfl, rfl, trivial⟩ ⟨rfl, trivial⟩⟩
  · obtain rfl : k = l.length := by omega
    rw [List.take_length]
    obtain ⟨s, hs0⟩ : ∃ s, useF a.hop l = s := ⟨_, rfl⟩
    rw [hs0]
    obtain ⟨b, c, o⟩ := s
    dsimp only
    cases o with
    | true =>
      repeat (first | refine q_Z ?_ | refine R_quiet rfl mixed (by kernel_rfl) ?_ | ((first | apply O_y rfl rfl rfl | apply Q_y rfl rfl rfl); (first | exact q_A | exact q_5 | exact q_B | (first | exact q_25 | exact q_26 | exact R_min rfl rfl rfl rfl))) | refine q_d ?_ | refine q_a ?_ | refine q_b ?_ | refine q_c ?_ | refine A_ct rfl ?_ | refine A_cf rfl ?_ | refine q_W ?_)
      exact X_ret rfl ⟨rfl, rfl⟩
    | false =>
      repeat (first | refine q_Z ?_ | refine R_quiet rfl mixed (by kernel_rfl) ?_ | ((first | apply O_y rfl rfl rfl | apply Q_y rfl rfl rfl); (first | exact q_A | exact q_5 | exact q_B | (first | exact q_25 | exact q_26 | exact R_min rfl rfl rfl rfl))) | refine q_d ?_ | refine q_a ?_ | refine q_b ?_ | refine q_c ?_ | refine A_ct rfl ?_ | refine A_cf rfl ?_ | refine q_W ?_)
      exact X_ret rfl ⟨rfl, rfl⟩
end Go.Proofs.Ytblgdfcijkaimaa.Ab

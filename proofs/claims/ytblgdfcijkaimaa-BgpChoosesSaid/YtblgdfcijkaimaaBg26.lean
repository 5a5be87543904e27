/-
  Texts of a proof, one behind the other (part 27).
-/
import Derived.Test.YtblgdfcijkaimaaBg11
import Derived.Test.YtblgdfcijkaimaaBg21
set_option linter.unusedVariables false
set_option linter.unusedSimpArgs false
namespace Go.Proofs.Ytblgdfcijkaimaa.Ab
set_option linter.unusedVariables false
set_option maxRecDepth 100000
open Go.RowKit Go.Lib
set_option linter.unusedSimpArgs false
attribute [local irreducible] AWp AOps AQ AYield AEff ACall AWk AAny AAt AThen AIn APost NoPanic
set_option maxHeartbeats 16000000 in
theorem refUse_A (a : Adv) (ha : a.ok) (l : List Rte) (hl : ∀ r ∈ l, r.p.ok) (hn : l.length ≤ 1000000) : ACall Try.prog 6 [advA a, rtesA l] [] (Just (useA (useR a l))) := by
  unfold useR
  by_cases hs : a.ses = -1
  · rw [if_pos hs]
    refine ACall_of tabOk Try.func6 rfl Try.ntmps6 (congrArg Array.toList Try.results6) (by kernel_rfl) rfl ?_
    repeat (first | refine q_Z ?_ | refine R_quiet rfl mixed (by kernel_rfl) ?_ | ((first | apply O_y rfl rfl rfl | apply Q_y rfl rfl rfl); (first | exact q_A | exact q_5 | exact q_B)) | refine q_d ?_ | refine q_a ?_ | refine q_b ?_ | refine q_c ?_ | refine A_ct rfl ?_ | refine A_cf rfl ?_ | refine q_W ?_)
    exact X_ret rfl ⟨rfl, rfl⟩
  rw [if_neg hs]
  have hh0 := ha.hop.1
  have hh1 := ha.hop.2
  refine ACall_of tabOk Try.func6 rfl Try.ntmps6 (congrArg Array.toList Try.results6) (by kernel_rfl) rfl ?_
  repeat (first | refine q_Z ?_ | refine R_quiet rfl mixed (by kernel_rfl) ?_ | ((first | apply O_y rfl rfl rfl | apply Q_y rfl rfl rfl); (first | exact q_A | exact q_5 | exact q_B)) | refine q_d ?_ | refine q_a ?_ | refine q_b ?_ | refine q_c ?_ | refine A_ct rfl ?_ | refine A_cf rfl ?_ | refine q_W ?_)
  refine A_loop (fun n : Nat => [(1, rtesA l), (2, .ptr 2 0), (6, intA ((n : Int) - 1))]) (fun _ => [(2, .var ((advD a).map .d))]) (fun n => n ≤ 33 ∧ useRN a.hop l 33 = useRN a.hop l n) (fun n => n) 33 ⟨Nat.le_refl _, rfl⟩ (Wk_sel ⟨rfl, rfl, rfl, trivial⟩ ⟨rfl, trivial⟩) ?_
  rintro n ⟨hn33, hRN⟩
  try dsimp only
  rw [hRN]
  cases n with
  | zero =>
    repeat (first | refine q_Z ?_ | refine R_quiet rfl mixed (by kernel_rfl) ?_ | ((first | apply O_y rfl rfl rfl | apply Q_y rfl rfl rfl); (first | exact q_A | exact q_5 | exact q_B | (first | exact q_25 | exact q_26 | exact R_min rfl rfl rfl rfl))) | refine q_d ?_ | refine q_a ?_ | refine q_b ?_ | refine q_c ?_ | refine A_ct rfl ?_ | refine A_cf rfl ?_ | refine q_W ?_)
    exact X_ret rfl ⟨rfl, rfl⟩
  | succ n =>
    rw [show (((n + 1 : Nat) : Int) - 1) = (n : Int) by omega]
    repeat (first | refine q_Z ?_ | refine R_quiet rfl mixed (by kernel_rfl) ?_ | ((first | apply O_y rfl rfl rfl | apply Q_y rfl rfl rfl); (first | exact q_A | exact q_5 | exact q_B | (first | exact q_25 | exact q_26 | exact R_min rfl rfl rfl rfl))) | refine q_d ?_ | refine q_a ?_ | refine q_b ?_ | refine q_c ?_ | refine A_ct rfl ?_ | refine A_cf rfl ?_ | refine q_W ?_)
    refine A_loop (fun k : Nat => [(1, rtesA l), (2, .ptr 2 0), (6, intA (n : Int)), (7, boolA (refF a.hop n (l.take k)).1), (8, boolA (refF a.hop n (l.take k)).2.1), (9, intA (refF a.hop n (l.take k)).2.2), (10, intA (k : Int))]) (fun _ => [(2, .var ((advD a).map .d))]) (fun k => k ≤ l.length) (fun k => l.length - k) 0 (Nat.zero_le _) (Wk_sel ⟨rfl, rfl, rfl, rfl, rfl, rfl, rfl, trivial⟩ ⟨rfl, trivial⟩) ?_
    intro k hkl
    try dsimp only
    by_cases hk : k < l.length
    · have hst := refF_take a.hop n l k hk
      have hin := refIn_A a.hop l[k].p (hl _ (List.getElem_mem hk)) hh0 hh1
      obtain ⟨s, hs0⟩ : ∃ s, refF a.hop n (l.take k) = s := ⟨_, rfl⟩
      rw [hs0] at hst ⊢
      obtain ⟨f, d, c⟩ := s
      clear hs0
      dsimp only
      by_cases hb : l[k].p.b = (n : Int)
      rotate_left
      · rw [show refStep a.hop n (f, d, c) l[k] = (f, d, c) from if_neg (by unfold hitB; rw [decide_eq_false hb]; simp)] at hst
        repeat (first | refine q_Z ?_ | refine R_quiet rfl mixed (by kernel_rfl) ?_ | ((first | apply O_y rfl rfl rfl | apply Q_y rfl rfl rfl); (first | exact q_A | exact R_loadi tabOk rfl rfl rfl rfl (by first | exact win_flat0 rteD_len l k _ hk (by decide) | exact win_flat rteD_len l k _ _ hk (by decide) | exact win_flat2 rteD_len l k _ _ _ hk (by decide) | rfl) rfl rfl | exact q_B | (first | exact q_25 | exact q_26 | exact R_min rfl rfl rfl rfl))) | refine q_d ?_ | refine q_a ?_ | refine q_b ?_ | refine q_c ?_ | refine A_ct rfl ?_ | refine A_cf rfl ?_ | refine q_W ?_ | (first | refine Q_c rfl rfl rfl rfl rfl hin rfl (fun _ _ _ => val_mk _ _ _ _ _ rfl rfl) ?_ | refine O_c rfl rfl rfl rfl rfl hin (fun _ => rfl) ?_))
        exact ⟨k + 1, by omega, by omega, by rw [hst]; exact Wk_sel ⟨rfl, rfl, rfl, rfl, rfl, rfl, rfl, trivial⟩ ⟨rfl, trivial⟩⟩
      by_cases h7 : l[k].f = 7
      · rw [show refStep a.hop n (f, d, c) l[k] = (f, d, c) from if_neg (by unfold hitB leadB bgpB; rw [decide_eq_true h7]; simp)] at hst
        repeat (first | refine q_Z ?_ | refine R_quiet rfl mixed (by kernel_rfl) ?_ | ((first | apply O_y rfl rfl rfl | apply Q_y rfl rfl rfl); (first | exact q_A | exact R_loadi tabOk rfl rfl rfl rfl (by first | exact win_flat0 rteD_len l k _ hk (by decide) | exact win_flat rteD_len l k _ _ hk (by decide) | exact win_flat2 rteD_len l k _ _ _ hk (by decide) | rfl) rfl rfl | exact q_B | (first | exact q_25 | exact q_26 | exact R_min rfl rfl rfl rfl))) | refine q_d ?_ | refine q_a ?_ | refine q_b ?_ | refine q_c ?_ | refine A_ct rfl ?_ | refine A_cf rfl ?_ | refine q_W ?_ | (first | refine Q_c rfl rfl rfl rfl rfl hin rfl (fun _ _ _ => val_mk _ _ _ _ _ rfl rfl) ?_ | refine O_c rfl rfl rfl rfl rfl hin (fun _ => rfl) ?_))
        exact ⟨k + 1, by omega, by omega, by rw [hst]; exact Wk_sel ⟨rfl, rfl, rfl, rfl, rfl, rfl, rfl, trivial⟩ ⟨rfl, trivial⟩⟩
      by_cases h8 : l[k].f = 8
      · rw [show refStep a.hop n (f, d, c) l[k] = (f, d, c) from if_neg (by unfold hitB leadB bgpB; rw [decide_eq_true h8]; simp)] at hst
        repeat (first | refine q_Z ?_ | refine R_quiet rfl mixed (by kernel_rfl) ?_ | ((first | apply O_y rfl rfl rfl | apply Q_y rfl rfl rfl); (first | exact q_A | exact R_loadi tabOk rfl rfl rfl rfl (by first | exact win_flat0 rteD_len l k _ hk (by decide) | exact win_flat rteD_len l k _ _ hk (by decide) | exact win_flat2 rteD_len l k _ _ _ hk (by decide) | rfl) rfl rfl | exact q_B | (first | exact q_25 | exact q_26 | exact R_min rfl rfl rfl rfl))) | refine q_d ?_ | refine q_a ?_ | refine q_b ?_ | refine q_c ?_ | refine A_ct rfl ?_ | refine A_cf rfl ?_ | refine q_W ?_ | (first | refine Q_c rfl rfl rfl rfl rfl hin rfl (fun _ _ _ => val_mk _ _ _ _ _ rfl rfl) ?_ | refine O_c rfl rfl rfl rfl rfl hin (fun _ => rfl) ?_))
        exact ⟨k + 1, by omega, by omega, by rw [hst]; exact Wk_sel ⟨rfl, rfl, rfl, rfl, rfl, rfl, rfl, trivial⟩ ⟨rfl, trivial⟩⟩
      by_cases hi : inB a.hop l[k].p = true
      rotate_left
      · have hi0 : inB a.hop l[k].p = false := by simpa using hi
        rw [show refStep a.hop n (f, d, c) l[k] = (f, d, c) from if_neg (by unfold hitB leadB; rw [hi0]; simp)] at hst
        rw [hi0] at hin
        repeat (first | refine q_Z ?_ | refine R_quiet rfl mixed (by kernel_rfl) ?_ | ((first | apply O_y rfl rfl rfl | apply Q_y rfl rfl rfl); (first | exact q_A | exact R_loadi tabOk rfl rfl rfl rfl (by first | exact win_flat0 rteD_len l k _ hk (by decide) | exact win_flat rteD_len l k _ _ hk (by decide) | exact win_flat2 rteD_len l k _ _ _ hk (by decide) | rfl) rfl rfl | exact q_B | (first | exact q_25 | exact q_26 | exact R_min rfl rfl rfl rfl))) | refine q_d ?_ | refine q_a ?_ | refine q_b ?_ | refine q_c ?_ | refine A_ct rfl ?_ | refine A_cf rfl ?_ | refine q_W ?_ | (first | refine Q_c rfl rfl rfl rfl rfl hin rfl (fun _ _ _ => val_mk _ _ _ _ _ rfl rfl) ?_ | refine O_c rfl rfl rfl rfl rfl hin (fun _ => rfl) ?_))
        exact ⟨k + 1, by omega, by omega, by rw [hst]; exact Wk_sel ⟨rfl, rfl, rfl, rfl, rfl, rfl, rfl, trivial⟩ ⟨rfl, trivial⟩⟩
      rw [hi] at hin
      have hh : hitB a.hop n l[k] = true := by unfold hitB leadB bgpB; rw [decide_eq_true hb, decide_eq_false h7, decide_eq_false h8, hi]; rfl
      rw [show refStep a.hop n (f, d, c) l[k] = (true, d || l[k].x, if f = false ∨ l[k].m < c then l[k].m else c) from if_pos hh] at hst
      cases f with
      | false =>
        rw [if_pos (.inl rfl)] at hst
        cases d with
        | false =>
          repeat (first | refine q_Z ?_ | refine R_quiet rfl mixed (by kernel_rfl) ?_ | ((first | apply O_y rfl rfl rfl | apply Q_y rfl rfl rfl); (first | exact q_A | exact R_loadi tabOk rfl rfl rfl rfl (by first | exact win_flat0 rteD_len l k _ hk (by decide) | exact win_flat rteD_len l k _ _ hk (by decide) | exact win_flat2 rteD_len l k _ _ _ hk (by decide) | rfl) rfl rfl | exact q_B | (first | exact q_25 | exact q_26 | exact R_min rfl rfl rfl rfl))) | refine q_d ?_ | refine q_a ?_ | refine q_b ?_ | refine q_c ?_ | refine A_ct rfl ?_ | refine A_cf rfl ?_ | refine q_W ?_ | (first | refine Q_c rfl rfl rfl rfl rfl hin rfl (fun _ _ _ => val_mk _ _ _ _ _ rfl rfl) ?_ | refine O_c rfl rfl rfl rfl rfl hin (fun _ => rfl) ?_))
          exact ⟨k + 1, by omega, by omega, by rw [hst]; exact Wk_sel ⟨rfl, rfl, rfl, rfl, rfl, rfl, rfl, trivial⟩ ⟨rfl, trivial⟩⟩
        | true =>
          repeat (first | refine q_Z ?_ | refine R_quiet rfl mixed (by kernel_rfl) ?_ | ((first | apply O_y rfl rfl rfl | apply Q_y rfl rfl rfl); (first | exact q_A | exact R_loadi tabOk rfl rfl rfl rfl (by first | exact win_flat0 rteD_len l k _ hk (by decide) | exact win_flat rteD_len l k _ _ hk (by decide) | exact win_flat2 rteD_len l k _ _ _ hk (by decide) | rfl) rfl rfl | exact q_B | (first | exact q_25 | exact q_26 | exact R_min rfl rfl rfl rfl))) | refine q_d ?_ | refine q_a ?_ | refine q_b ?_ | refine q_c ?_ | refine A_ct rfl ?_ | refine A_cf rfl ?_ | refine q_W ?_ | (first | refine Q_c rfl rfl rfl rfl rfl hin rfl (fun _ _ _ => val_mk _ _ _ _ _ rfl rfl) ?_ | refine O_c rfl rfl rfl rfl rfl hin (fun _ => rfl) ?_))
          exact ⟨k + 1, by omega, by omega, by rw [hst]; exact Wk_sel ⟨rfl, rfl, rfl, rfl, rfl, rfl, rfl, trivial⟩ ⟨rfl, trivial⟩⟩
      | true =>
        by_cases hc : l[k].m < c
        · rw [if_pos (.inr hc)] at hst
          cases d with
          | false =>
            repeat (first | refine q_Z ?_ | refine R_quiet rfl mixed (by kernel_rfl) ?_ | ((first | apply O_y rfl rfl rfl | apply Q_y rfl rfl rfl); (first | exact q_A | exact R_loadi tabOk rfl rfl rfl rfl (by first | exact win_flat0 rteD_len l k _ hk (by decide) | exact win_flat rteD_len l k _ _ hk (by decide) | exact win_flat2 rteD_len l k _ _ _ hk (by decide) | rfl) rfl rfl | exact q_B | (first | exact q_25 | exact q_26 | exact R_min rfl rfl rfl rfl))) | refine q_d ?_ | refine q_a ?_ | refine q_b ?_ | refine q_c ?_ | refine A_ct rfl ?_ | refine A_cf rfl ?_ | refine q_W ?_ | (first | refine Q_c rfl rfl rfl rfl rfl hin rfl (fun _ _ _ => val_mk _ _ _ _ _ rfl rfl) ?_ | refine O_c rfl rfl rfl rfl rfl hin (fun _ => rfl) ?_))
            exact ⟨k + 1, by omega, by omega, by rw [hst]; exact Wk_sel ⟨rfl, rfl, rfl, rfl, rfl, rfl, rfl, trivial⟩ ⟨rfl, trivial⟩⟩
          | true =>
            repeat (first | refine q_Z ?_ | refine R_quiet rfl mixed (by kernel_rfl) ?_ | ((first | apply O_y rfl rfl rfl | apply Q_y rfl rfl rfl); (first | exact q_A | exact R_loadi tabOk rfl rfl rfl rfl (by first | exact win_flat0 rteD_len l k _ hk (by decide) | exact win_flat rteD_len l k _ _ hk (by decide) | exact win_flat2 rteD_len l k _ _ _ hk (by decide) | rfl) rfl rfl | exact q_B | (first | exact q_25 | exact q_26 | exact R_min rfl rfl rfl rfl))) | refine q_d ?_ | refine q_a ?_ | refine q_b ?_ | refine q_c ?_ | refine A_ct rfl ?_ | refine A_cf rfl ?_ | refine q_W ?_ | (first | refine Q_c rfl rfl rfl rfl rfl hin rfl (fun _ _ _ => val_mk _ _ _ _ _ rfl rfl) ?_ | refine O_c rfl rfl rfl rfl rfl hin (fun _ => rfl) ?_))
            exact ⟨k + 1, by omega, by omega, by rw [hst]; exact Wk_sel ⟨rfl, rfl, rfl, rfl, rfl, rfl, rfl, trivial⟩ ⟨rfl, trivial⟩⟩
        · rw [if_neg (by rintro (h1 | h1); cases h1; exact hc h1)] at hst
          cases d with
          | false =>
            repeat (first | refine q_Z ?_ | refine R_quiet rfl mixed (by kernel_rfl) ?_ | ((first | apply O_y rfl rfl rfl | apply Q_y rfl rfl rfl); (first | exact q_A | exact R_loadi tabOk rfl rfl rfl rfl (by first | exact win_flat0 rteD_len l k _ hk (by decide) | exact win_flat rteD_len l k _ _ hk (by decide) | exact win_flat2 rteD_len l k _ _ _ hk (by decide) | rfl) rfl rfl | exact q_B | (first | exact q_25 | exact q_26 | exact R_min rfl rfl rfl rfl))) | refine q_d ?_ | refine q_a ?_ | refine q_b ?_ | refine q_c ?_ | refine A_ct rfl ?_ | refine A_cf rfl ?_ | refine q_W ?_ | (first | refine Q_c rfl rfl rfl rfl rfl hin rfl (fun _ _ _ => val_mk _ _ _ _ _ rfl rfl) ?_ | refine O_c rfl rfl rfl rfl rfl hin (fun _ => rfl) ?_))
            exact ⟨k + 1, by omega, by omega, by rw [hst]; exact Wk_sel ⟨rfl, rfl, rfl, rfl, rfl, rfl, rfl, trivial⟩ ⟨rfl, trivial⟩⟩
          | true =>
            repeat (first | refine q_Z ?_ | refine R_quiet rfl mixed (by kernel_rfl) ?_ | ((first | apply O_y rfl rfl rfl | apply Q_y rfl rfl rfl); (first | exact q_A | exact R_loadi tabOk rfl rfl rfl rfl (by first | exact win_flat0 rteD_len l k _ hk (by decide) | exact win_flat rteD_len l k _ _ hk (by decide) | exact win_flat2 rteD_len l k _ _ _ hk (by decide) | rfl) rfl rfl | exact q_B | (first | exact q_25 | exact q_26 | exact R_min rfl rfl rfl rfl))) | refine q_d ?_ | refine q_a ?_ | refine q_b ?_ | refine q_c ?_ | refine A_ct rfl ?_ | refine A_cf rfl ?_ | refine q_W ?_ | (first | refine Q_c rfl rfl rfl rfl rfl hin rfl (fun _ _ _ => val_mk _ _ _ _ _ rfl rfl) ?_ | refine O_c rfl rfl rfl rfl rfl hin (fun _ => rfl) ?_))
            exact ⟨k + 1, by omega, by omega, by rw [hst]; exact Wk_sel ⟨rfl, rfl, rfl, rfl, rfl, rfl, rfl, trivial⟩ ⟨rfl, trivial⟩⟩
    · obtain rfl : k = l.length := by omega
      rw [List.take_length]
      have e : useRN a.hop l (n + 1) = if (refF a.hop n l).1 = true ∧ (refF a.hop n l).2.1 = true then (0, false) else if (refF a.hop n l).1 = true then ((refF a.hop n l).2.2, true) else useRN a.hop l n := rfl
      obtain ⟨s, hs0⟩ : ∃ s, refF a.hop n l = s := ⟨_, rfl⟩
      rw [hs0] at e ⊢
      obtain ⟨f, d, c⟩ := s
      dsimp only at e ⊢
      cases f with
      | true =>
        cases d with
        | true =>
          rw [if_pos ⟨rfl, rfl⟩] at e
          rw [e]
          repeat (first | refine q_Z ?_ | refine R_quiet rfl mixed (by kernel_rfl) ?_ | ((first | apply O_y rfl rfl rfl | apply Q_y rfl rfl rfl); (first | exact q_A | exact q_5 | exact q_B | (first | exact q_25 | exact q_26 | exact R_min rfl rfl rfl rfl))) | refine q_d ?_ | refine q_a ?_ | refine q_b ?_ | refine q_c ?_ | refine A_ct rfl ?_ | refine A_cf rfl ?_ | refine q_W ?_)
          exact X_ret rfl ⟨rfl, rfl⟩
        | false =>
          rw [if_neg (by simp), if_pos rfl] at e
          rw [e]
          repeat (first | refine q_Z ?_ | refine R_quiet rfl mixed (by kernel_rfl) ?_ | ((first | apply O_y rfl rfl rfl | apply Q_y rfl rfl rfl); (first | exact q_A | exact q_5 | exact q_B | (first | exact q_25 | exact q_26 | exact R_min rfl rfl rfl rfl))) | refine q_d ?_ | refine q_a ?_ | refine q_b ?_ | refine q_c ?_ | refine A_ct rfl ?_ | refine A_cf rfl ?_ | refine q_W ?_)
          exact X_ret rfl ⟨rfl, rfl⟩
      | false =>
        rw [if_neg (by simp), if_neg (by simp)] at e
        repeat (first | refine q_Z ?_ | refine R_quiet rfl mixed (by kernel_rfl) ?_ | ((first | apply O_y rfl rfl rfl | apply Q_y rfl rfl rfl); (first | exact q_A | exact q_5 | exact q_B | (first | exact q_25 | exact q_26 | exact R_min rfl rfl rfl rfl))) | refine q_d ?_ | refine q_a ?_ | refine q_b ?_ | refine q_c ?_ | refine A_ct rfl ?_ | refine A_cf rfl ?_ | refine q_W ?_)
        exact ⟨n, ⟨by omega, e⟩, by omega, Wk_sel ⟨rfl, rfl, rfl, trivial⟩ ⟨rfl, trivial⟩⟩
end Go.Proofs.Ytblgdfcijkaimaa.Ab

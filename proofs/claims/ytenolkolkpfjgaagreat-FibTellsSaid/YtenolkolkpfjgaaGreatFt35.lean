/-
  Texts of a proof, one behind the other (part 36).
-/
import Derived.Test.YtenolkolkpfjgaaGreatFt8
import Derived.Test.YtenolkolkpfjgaaGreatFt19
import Derived.Test.YtenolkolkpfjgaaGreatFt23
import Derived.Test.YtenolkolkpfjgaaGreatFt34
set_option linter.unusedVariables false
set_option linter.unusedSimpArgs false
namespace Go.Proofs.YtenolkolkpfjgaaGreat.Ab
set_option linter.unusedVariables false
set_option maxRecDepth 100000
open Go.RowKit Go.Lib
set_option linter.unusedSimpArgs false
attribute [local irreducible] AWp AOps AQ AYield AEff ACall AWk AAny AAt AThen AIn APost NoPanic
def hop2B (l : List Hp) : ABlk := .row 77 2 l.length (l.flatMap hopD)
theorem refHas_A (L : List Rte) (x : Rte) (hn : L.length ≤ 1000000) : ACall Tryz.prog 44 [rtesA L, rteA x] [] (Just (boolA (decide (x ∈ L)))) := by
  refine ACall_of tabOk Tryz.func44 rfl Tryz.ntmps44 (congrArg Array.toList Tryz.results44) (by kernel_rfl) rfl ?_
  repeat (first | refine q_Z ?_ | refine R_quiet rfl mixed (by kernel_rfl) ?_ | ((first | apply O_y rfl rfl rfl | apply Q_y rfl rfl rfl); (first | exact q_A | exact q_5 | exact q_B)) | refine q_d ?_ | refine q_a ?_ | refine q_b ?_ | refine q_c ?_ | refine A_ct rfl ?_ | refine A_cf rfl ?_ | refine q_W ?_)
  refine A_loop (fun k : Nat => [(0, rtesA L), (3, .ptr 3 0), (5, intA (k : Int))]) (fun _ => [(3, rteB1 x)]) (fun k => k ≤ L.length ∧ x ∉ L.take k) (fun k => L.length - k) 0 ⟨Nat.zero_le _, by simp⟩ (Wk_sel ⟨rfl, rfl, rfl, trivial⟩ ⟨rfl, trivial⟩) ?_
  rintro k ⟨hk, hm⟩
  dsimp only
  by_cases hkl : k < L.length
  · have heq := rteEq L[k] x
    have hw0 := win_at L k hkl
    by_cases he : L[k] = x
    · rw [show (L[k] == x) = true by simpa using he] at heq
      rw [show decide (x ∈ L) = true by rw [decide_eq_true_eq, ← he]; exact List.getElem_mem hkl]
      repeat (first | refine q_Z ?_ | refine R_quiet rfl mixed (by kernel_rfl) ?_ | ((first | apply O_y rfl rfl rfl | apply Q_y rfl rfl rfl); (first | exact q_A | exact R_loadi tabOk rfl rfl rfl rfl hw0 rfl rfl | exact q_B | exact Y_eq tabOk noStand rfl rfl rfl rfl rfl rfl rfl rfl rfl (by kernel_rfl) heq rfl)) | refine q_d ?_ | refine q_a ?_ | refine q_b ?_ | refine q_c ?_ | refine A_ct rfl ?_ | refine A_cf rfl ?_ | refine q_W ?_)
      exact X_ret rfl ⟨rfl, rfl⟩
    · rw [show (L[k] == x) = false by simpa using he] at heq
      repeat (first | refine q_Z ?_ | refine R_quiet rfl mixed (by kernel_rfl) ?_ | ((first | apply O_y rfl rfl rfl | apply Q_y rfl rfl rfl); (first | exact q_A | exact R_loadi tabOk rfl rfl rfl rfl hw0 rfl rfl | exact q_B | exact Y_eq tabOk noStand rfl rfl rfl rfl rfl rfl rfl rfl rfl (by kernel_rfl) heq rfl)) | refine q_d ?_ | refine q_a ?_ | refine q_b ?_ | refine q_c ?_ | refine A_ct rfl ?_ | refine A_cf rfl ?_ | refine q_W ?_)
      exact ⟨k + 1, ⟨by omega, by rw [List.take_succ_eq_append_getElem hkl, List.mem_append]; simp [hm, Ne.symm he]⟩, by omega, Wk_sel ⟨rfl, rfl, rfl, trivial⟩ ⟨rfl, trivial⟩⟩
  · have : k = L.length := by omega
    subst this
    rw [List.take_length] at hm
    rw [show decide (x ∈ L) = false by simpa using hm]
    repeat (first | refine q_Z ?_ | refine R_quiet rfl mixed (by kernel_rfl) ?_ | ((first | apply O_y rfl rfl rfl | apply Q_y rfl rfl rfl); (first | exact q_A | exact q_5 | exact q_B)) | refine q_d ?_ | refine q_a ?_ | refine q_b ?_ | refine q_c ?_ | refine A_ct rfl ?_ | refine A_cf rfl ?_ | refine q_W ?_)
    exact X_ret rfl ⟨rfl, rfl⟩
theorem ordH_cases (x y : Hp) : (0 < compareBytes x.i y.i ∧ 0 < ordH x y) ∨ (¬ 0 < compareBytes x.i y.i ∧ x.i ≠ y.i ∧ ordH x y < 0) ∨ (¬ 0 < compareBytes x.i y.i ∧ x.i = y.i ∧ ordH x y = c2 x.h y.h) := by
  by_cases hc : compareBytes x.i y.i = 0
  · refine .inr (.inr ⟨by omega, bytes_zero.1 hc, ?_⟩)
    unfold ordH lexc
    rw [if_pos hc]
  · have he : ordH x y = compareBytes x.i y.i := by unfold ordH lexc; rw [if_neg hc]
    by_cases h0 : 0 < compareBytes x.i y.i
    · exact .inl ⟨h0, by omega⟩
    · exact .inr (.inl ⟨h0, fun h => hc (bytes_zero.2 h), by omega⟩)
set_option maxHeartbeats 8000000 in
theorem refPut_A (O : List Hp) (hr : Rising ordH O) (x : Hp) (hn : O.length ≤ 1000000) : ACall Tryz.prog 31 [.row 1000, hopA x] [(1000, hop2B O)] (fun c h => c = .row 100 ∧ h = [(100, hop2B (sortU ordH (O ++ [x])))]) := by
  refine ACall_of tabOk Tryz.func31 rfl Tryz.ntmps31 (congrArg Array.toList Tryz.results31) (by kernel_rfl) rfl ?_
  refine A_weaken (Wk_rename2 (id := 100) (t := 0) (s2 := 1) rfl rfl rfl fun _ => rfl) ?_
  repeat (first | refine q_Z ?_ | refine R_quiet rfl mixed (by kernel_rfl) ?_ | ((first | apply O_y rfl rfl rfl | apply Q_y rfl rfl rfl); (first | exact q_A | exact q_5 | exact q_B)) | refine q_d ?_ | refine q_a ?_ | refine q_b ?_ | refine q_c ?_ | refine A_ct rfl ?_ | refine A_cf rfl ?_ | refine q_W ?_)
  refine A_loop (fun k : Nat => [(0, .row 100), (3, .ptr 3 0), (5, intA (k : Int))]) (fun _ => [(100, hop2B O), (3, .var ((hopD x).map AVal.d))]) (fun k => k ≤ O.length ∧ ∀ (j : Nat) (hj : j < O.length), k ≤ j → ordH x O[j] < 0) (fun k => k) O.length ⟨Nat.le_refl _, fun j h1 h2 => by omega⟩ (Wk_sel ⟨rfl, rfl, rfl, trivial⟩ ⟨rfl, rfl, trivial⟩) ?_
  rintro k ⟨hk, hb⟩
  try dsimp only
  have hmn : Nat.min (O.length + 1 - k) (O.length + 1 - (k + 1)) = O.length - k := by show min _ _ = _; omega
  by_cases hk0 : 0 < k
  · have hk1 : k - 1 < O.length := by omega
    have hk' : ((k : Int) - 1) = ((k - 1 : Nat) : Int) := by omega
    have hw1 := winH_at O (k - 1) hk1
    have han := good_ordH.anti O[k - 1] x
    have hdown : 0 < ordH O[k - 1] x → ∀ (j : Nat) (hj : j < O.length), k - 1 ≤ j → ordH x O[j] < 0 := fun h j h1 h2 => by
      by_cases hj : j = k - 1
      · subst hj; omega
      · exact hb j h1 (by omega)
    rcases ordH_cases O[k - 1] x with ⟨h1, h2⟩ | ⟨h1, h2, h3⟩ | ⟨h1, h2, h3⟩
    ·
      repeat (first | refine q_Z ?_ | refine R_quiet rfl mixed (by kernel_rfl) ?_ | ((first | apply O_y rfl rfl rfl | apply Q_y rfl rfl rfl); (first | exact q_A | exact q_5 | exact q_B | (first | exact R_indexr tabOk rfl rfl rfl rfl rfl rfl rfl hk1 | exact R_indexr tabOk rfl rfl rfl rfl rfl rfl hk' hk1 | exact R_loade tabOk rfl rfl rfl rfl rfl rfl (by first | exact win_flat0 hopD_len O (k - 1) _ hk1 (by decide) | exact win_flat hopD_len O (k - 1) _ _ hk1 (by decide) | exact win_flat2 hopD_len O (k - 1) _ _ _ hk1 (by decide) | rfl) rfl rfl | exact R_sT rfl rfl rfl rfl (decide_eq_true h1)))) | refine q_d ?_ | refine q_a ?_ | refine q_b ?_ | refine q_c ?_ | refine A_ct rfl ?_ | refine A_cf rfl ?_ | refine q_W ?_)
      exact ⟨k - 1, ⟨by omega, hdown h2⟩, by omega, Wk_sel ⟨rfl, rfl, rfl, trivial⟩ ⟨rfl, rfl, trivial⟩⟩
    · have hgt : 0 < ordH x O[k - 1] := by omega
      repeat (first | refine q_Z ?_ | refine R_quiet rfl mixed (by kernel_rfl) ?_ | ((first | apply O_y rfl rfl rfl | apply Q_y rfl rfl rfl); (first | exact q_A | exact q_5 | exact q_B | (first | exact R_indexr tabOk rfl rfl rfl rfl rfl rfl rfl hk1 | exact R_indexr tabOk rfl rfl rfl rfl rfl rfl hk' hk1 | exact R_loade tabOk rfl rfl rfl rfl rfl rfl (by first | exact win_flat0 hopD_len O (k - 1) _ hk1 (by decide) | exact win_flat hopD_len O (k - 1) _ _ hk1 (by decide) | exact win_flat2 hopD_len O (k - 1) _ _ _ hk1 (by decide) | rfl) rfl rfl | exact R_sF rfl rfl rfl rfl (decide_eq_false h1) | exact R_sF rfl rfl rfl rfl (decide_eq_false h2)))) | refine q_d ?_ | refine q_a ?_ | refine q_b ?_ | refine q_c ?_ | refine A_ct rfl ?_ | refine A_cf rfl ?_ | refine q_W ?_)
      by_cases hz : ordH x O[k - 1] = 0
      · have hxe : x = O[k - 1] := ordH_eq _ _ hz
        have hold : sortU ordH (O ++ [x]) = O := by
          refine insU_old good_ordH ordH_eq (rising_sortU hr) ?_
          rw [hxe]
          exact List.getElem_mem hk1
        have heq := hopEq O[k - 1] x
        rw [show (O[k - 1] == x) = true by simpa using hxe.symm] at heq
        repeat (first | refine q_Z ?_ | refine R_quiet rfl mixed (by kernel_rfl) ?_ | ((first | apply O_y rfl rfl rfl | apply Q_y rfl rfl rfl); (first | exact q_A | exact q_5 | exact q_B | (first | exact R_indexr tabOk rfl rfl rfl rfl rfl rfl rfl hk1 | exact R_indexr tabOk rfl rfl rfl rfl rfl rfl hk' hk1 | exact R_loade tabOk rfl rfl rfl rfl rfl rfl (by first | exact win_flat0 hopD_len O (k - 1) _ hk1 (by decide) | exact win_flat hopD_len O (k - 1) _ _ hk1 (by decide) | exact win_flat2 hopD_len O (k - 1) _ _ _ hk1 (by decide) | rfl) rfl rfl | exact Y_eq tabOk noStand rfl rfl rfl rfl rfl rfl rfl rfl rfl (by kernel_rfl) heq rfl))) | refine q_d ?_ | refine q_a ?_ | refine q_b ?_ | refine q_c ?_ | refine A_ct rfl ?_ | refine A_cf rfl ?_ | refine q_W ?_)
        rw [hold]
        exact X_retW AWk.refl rfl (h2 := [(100, hop2B O)]) ⟨rfl, trivial⟩ ⟨rfl, rfl⟩
      · have heq := hopEq O[k - 1] x
        rw [show (O[k - 1] == x) = false by simpa using fun h => hz ((ordH_zero _ _).2 h.symm)] at heq
        have hnew : sortU ordH (O ++ [x]) = O.take k ++ x :: O.drop k := by
          refine insU_new good_ordH ordH_eq (rising_sortU hr) hk hb fun j h1 h2 => ?_
          have : j = k - 1 := by omega
          subst this
          have := good_ordH.anti O[k - 1] x
          omega
        repeat (first | refine q_Z ?_ | refine R_quiet rfl mixed (by kernel_rfl) ?_ | ((first | apply O_y rfl rfl rfl | apply Q_y rfl rfl rfl); (first | exact q_A | exact q_5 | exact q_B | (first | exact R_indexr tabOk rfl rfl rfl rfl rfl rfl rfl hk1 | exact R_indexr tabOk rfl rfl rfl rfl rfl rfl hk' hk1 | exact R_loade tabOk rfl rfl rfl rfl rfl rfl (by first | exact win_flat0 hopD_len O (k - 1) _ hk1 (by decide) | exact win_flat hopD_len O (k - 1) _ _ hk1 (by decide) | exact win_flat2 hopD_len O (k - 1) _ _ _ hk1 (by decide) | rfl) rfl rfl | exact Y_eq tabOk noStand rfl rfl rfl rfl rfl rfl rfl rfl rfl (by kernel_rfl) heq rfl))) | refine q_d ?_ | refine q_a ?_ | refine q_b ?_ | refine q_c ?_ | refine A_ct rfl ?_ | refine A_cf rfl ?_ | refine q_W ?_ | (first | refine O_appR tabOk rfl rfl rfl rfl rfl rfl rfl rfl rfl rfl rfl (by first | exact Src.row rfl | exact Src.dat _ _ | exact Src.nil) rfl (by omega) ?_ | refine O_appN tabOk rfl rfl rfl rfl rfl rfl rfl rfl rfl rfl (by first | exact Src.row rfl | exact Src.dat _ _ | exact Src.nil) rfl (by omega) ?_))
        refine N_begin [100] mixed ?_
        (apply q_P 0 rfl (by kernel_rfl) rfl rfl rfl; (first | exact q_A | exact q_5 | exact q_B | fail))
        (apply q_P 1 rfl (by kernel_rfl) rfl rfl rfl; (first | exact q_A | exact q_5 | exact q_B | fail))
        (apply q_P 2 rfl (by kernel_rfl) rfl rfl rfl; (first | exact q_A | exact q_5 | exact q_B | fail))
        (apply q_P 3 rfl (by kernel_rfl) rfl rfl rfl; (first | exact q_A | exact q_5 | exact q_B | (exact R_rowFrom tabOk rfl rfl rfl rfl rfl rfl rfl (show k + 1 ≤ O.length + 1 by omega))))
        (apply q_P 4 rfl (by kernel_rfl) rfl rfl rfl; (first | exact q_A | exact q_5 | exact q_B | fail))
        (apply q_P 5 rfl (by kernel_rfl) rfl rfl rfl; (first | exact q_A | exact q_5 | exact q_B | fail))
        (apply q_P 6 rfl (by kernel_rfl) rfl rfl rfl; (first | exact q_A | exact q_5 | exact q_B | (exact R_rowFrom tabOk rfl rfl rfl rfl rfl rfl rfl (show k ≤ O.length + 1 by omega))))
        refine N_one (j := 7) (by kernel_rfl) ?_
        refine T_copyS tabOk rfl rfl rfl rfl rfl rfl rfl rfl rfl rfl rfl hmn (by omega) (by omega) ?_
        refine N_done (by kernel_rfl) ?_
        have hfi := flat_ins hopD_len O x [.sc (.string ⟨#[]⟩), .sc (.int .u32 0)] rfl k hk
        repeat (first | refine q_Z ?_ | refine R_quiet rfl mixed (by kernel_rfl) ?_ | ((first | apply O_y rfl rfl rfl | apply Q_y rfl rfl rfl); (first | exact q_A | exact q_5 | exact q_B)) | refine q_d ?_ | refine q_a ?_ | refine q_b ?_ | refine q_c ?_ | refine A_ct rfl ?_ | refine A_cf rfl ?_ | refine q_W ?_ | (refine O_storee tabOk rfl rfl rfl rfl rfl rfl rfl rfl rfl rfl (by rw [hfi.1]; omega) (by omega) ?_))
        exact X_retW AWk.refl rfl (h2 := [(100, hop2B (sortU ordH (O ++ [x])))]) ⟨row_eq (by rw [hnew, List.length_append, List.length_cons, List.length_take, List.length_drop]; omega) (by rw [hnew]; exact hfi.2) rfl, trivial⟩ ⟨rfl, rfl⟩
    · by_cases hh : x.h < O[k - 1].h
      · have h4 : 0 < ordH O[k - 1] x := by
          rw [h3]
          exact c2_gt.2 hh
        repeat (first | refine q_Z ?_ | refine R_quiet rfl mixed (by kernel_rfl) ?_ | ((first | apply O_y rfl rfl rfl | apply Q_y rfl rfl rfl); (first | exact q_A | exact q_5 | exact q_B | (first | exact R_indexr tabOk rfl rfl rfl rfl rfl rfl rfl hk1 | exact R_indexr tabOk rfl rfl rfl rfl rfl rfl hk' hk1 | exact R_loade tabOk rfl rfl rfl rfl rfl rfl (by first | exact win_flat0 hopD_len O (k - 1) _ hk1 (by decide) | exact win_flat hopD_len O (k - 1) _ _ hk1 (by decide) | exact win_flat2 hopD_len O (k - 1) _ _ _ hk1 (by decide) | rfl) rfl rfl | exact R_sF rfl rfl rfl rfl (decide_eq_false h1) | exact R_sT rfl rfl rfl rfl (decide_eq_true h2)))) | refine q_d ?_ | refine q_a ?_ | refine q_b ?_ | refine q_c ?_ | refine A_ct rfl ?_ | refine A_cf rfl ?_ | refine q_W ?_)
        exact ⟨k - 1, ⟨by omega, hdown h4⟩, by omega, Wk_sel ⟨rfl, rfl, rfl, trivial⟩ ⟨rfl, rfl, trivial⟩⟩
      ·
        repeat (first | refine q_Z ?_ | refine R_quiet rfl mixed (by kernel_rfl) ?_ | ((first | apply O_y rfl rfl rfl | apply Q_y rfl rfl rfl); (first | exact q_A | exact q_5 | exact q_B | (first | exact R_indexr tabOk rfl rfl rfl rfl rfl rfl rfl hk1 | exact R_indexr tabOk rfl rfl rfl rfl rfl rfl hk' hk1 | exact R_loade tabOk rfl rfl rfl rfl rfl rfl (by first | exact win_flat0 hopD_len O (k - 1) _ hk1 (by decide) | exact win_flat hopD_len O (k - 1) _ _ hk1 (by decide) | exact win_flat2 hopD_len O (k - 1) _ _ _ hk1 (by decide) | rfl) rfl rfl | exact R_sF rfl rfl rfl rfl (decide_eq_false h1) | exact R_sT rfl rfl rfl rfl (decide_eq_true h2)))) | refine q_d ?_ | refine q_a ?_ | refine q_b ?_ | refine q_c ?_ | refine A_ct rfl ?_ | refine A_cf rfl ?_ | refine q_W ?_)
        have hge : 0 ≤ ordH x O[k - 1] := by
          rw [h3] at han
          have h5 : ¬ 0 < c2 O[k - 1].h x.h := fun h => hh (c2_gt.1 h)
          omega
        by_cases hz : ordH x O[k - 1] = 0
        · have hxe : x = O[k - 1] := ordH_eq _ _ hz
          have hold : sortU ordH (O ++ [x]) = O := by
            refine insU_old good_ordH ordH_eq (rising_sortU hr) ?_
            rw [hxe]
            exact List.getElem_mem hk1
          have heq := hopEq O[k - 1] x
          rw [show (O[k - 1] == x) = true by simpa using hxe.symm] at heq
          repeat (first | refine q_Z ?_ | refine R_quiet rfl mixed (by kernel_rfl) ?_ | ((first | apply O_y rfl rfl rfl | apply Q_y rfl rfl rfl); (first | exact q_A | exact q_5 | exact q_B | (first | exact R_indexr tabOk rfl rfl rfl rfl rfl rfl rfl hk1 | exact R_indexr tabOk rfl rfl rfl rfl rfl rfl hk' hk1 | exact R_loade tabOk rfl rfl rfl rfl rfl rfl (by first | exact win_flat0 hopD_len O (k - 1) _ hk1 (by decide) | exact win_flat hopD_len O (k - 1) _ _ hk1 (by decide) | exact win_flat2 hopD_len O (k - 1) _ _ _ hk1 (by decide) | rfl) rfl rfl | exact Y_eq tabOk noStand rfl rfl rfl rfl rfl rfl rfl rfl rfl (by kernel_rfl) heq rfl))) | refine q_d ?_ | refine q_a ?_ | refine q_b ?_ | refine q_c ?_ | refine A_ct rfl ?_ | refine A_cf rfl ?_ | refine q_W ?_)
          rw [hold]
          exact X_retW AWk.refl rfl (h2 := [(100, hop2B O)]) ⟨rfl, trivial⟩ ⟨rfl, rfl⟩
        · have heq := hopEq O[k - 1] x
          rw [show (O[k - 1] == x) = false by simpa using fun h => hz ((ordH_zero _ _).2 h.symm)] at heq
          have hnew : sortU ordH (O ++ [x]) = O.take k ++ x :: O.drop k := by
            refine insU_new good_ordH ordH_eq (rising_sortU hr) hk hb fun j h1 h2 => ?_
            have : j = k - 1 := by omega
            subst this
            have := good_ordH.anti O[k - 1] x
            omega
          repeat (first | refine q_Z ?_ | refine R_quiet rfl mixed (by kernel_rfl) ?_ | ((first | apply O_y rfl rfl rfl | apply Q_y rfl rfl rfl); (first | exact q_A | exact q_5 | exact q_B | (first | exact R_indexr tabOk rfl rfl rfl rfl rfl rfl rfl hk1 | exact R_indexr tabOk rfl rfl rfl rfl rfl rfl hk' hk1 | exact R_loade tabOk rfl rfl rfl rfl rfl rfl (by first | exact win_flat0 hopD_len O (k - 1) _ hk1 (by decide) | exact win_flat hopD_len O (k - 1) _ _ hk1 (by decide) | exact win_flat2 hopD_len O (k - 1) _ _ _ hk1 (by decide) | rfl) rfl rfl | exact Y_eq tabOk noStand rfl rfl rfl rfl rfl rfl rfl rfl rfl (by kernel_rfl) heq rfl))) | refine q_d ?_ | refine q_a ?_ | refine q_b ?_ | refine q_c ?_ | refine A_ct rfl ?_ | refine A_cf rfl ?_ | refine q_W ?_ | (first | refine O_appR tabOk rfl rfl rfl rfl rfl rfl rfl rfl rfl rfl rfl (by first | exact Src.row rfl | exact Src.dat _ _ | exact Src.nil) rfl (by omega) ?_ | refine O_appN tabOk rfl rfl rfl rfl rfl rfl rfl rfl rfl rfl (by first | exact Src.row rfl | exact Src.dat _ _ | exact Src.nil) rfl (by omega) ?_))
          refine N_begin [100] mixed ?_
          (apply q_P 0 rfl (by kernel_rfl) rfl rfl rfl; (first | exact q_A | exact q_5 | exact q_B | fail))
          (apply q_P 1 rfl (by kernel_rfl) rfl rfl rfl; (first | exact q_A | exact q_5 | exact q_B | fail))
          (apply q_P 2 rfl (by kernel_rfl) rfl rfl rfl; (first | exact q_A | exact q_5 | exact q_B | fail))
          (apply q_P 3 rfl (by kernel_rfl) rfl rfl rfl; (first | exact q_A | exact q_5 | exact q_B | (exact R_rowFrom tabOk rfl rfl rfl rfl rfl rfl rfl (show k + 1 ≤ O.length + 1 by omega))))
          (apply q_P 4 rfl (by kernel_rfl) rfl rfl rfl; (first | exact q_A | exact q_5 | exact q_B | fail))
          (apply q_P 5 rfl (by kernel_rfl) rfl rfl rfl; (first | exact q_A | exact q_5 | exact q_B | fail))
          (apply q_P 6 rfl (by kernel_rfl) rfl rfl rfl; (first | exact q_A | exact q_5 | exact q_B | (exact R_rowFrom tabOk rfl rfl rfl rfl rfl rfl rfl (show k ≤ O.length + 1 by omega))))
          refine N_one (j := 7) (by kernel_rfl) ?_
          refine T_copyS tabOk rfl rfl rfl rfl rfl rfl rfl rfl rfl rfl rfl hmn (by omega) (by omega) ?_
          refine N_done (by kernel_rfl) ?_
          have hfi := flat_ins hopD_len O x [.sc (.string ⟨#[]⟩), .sc (.int .u32 0)] rfl k hk
          repeat (first | refine q_Z ?_ | refine R_quiet rfl mixed (by kernel_rfl) ?_ | ((first | apply O_y rfl rfl rfl | apply Q_y rfl rfl rfl); (first | exact q_A | exact q_5 | exact q_B)) | refine q_d ?_ | refine q_a ?_ | refine q_b ?_ | refine q_c ?_ | refine A_ct rfl ?_ | refine A_cf rfl ?_ | refine q_W ?_ | (refine O_storee tabOk rfl rfl rfl rfl rfl rfl rfl rfl rfl rfl (by rw [hfi.1]; omega) (by omega) ?_))
          exact X_retW AWk.refl rfl (h2 := [(100, hop2B (sortU ordH (O ++ [x])))]) ⟨row_eq (by rw [hnew, List.length_append, List.length_cons, List.length_take, List.length_drop]; omega) (by rw [hnew]; exact hfi.2) rfl, trivial⟩ ⟨rfl, rfl⟩
  · have hk00 : k = 0 := by omega
    have hnew : sortU ordH (O ++ [x]) = O.take k ++ x :: O.drop k := insU_new good_ordH ordH_eq (rising_sortU hr) hk hb fun j h1 h2 => by omega
    repeat (first | refine q_Z ?_ | refine R_quiet rfl mixed (by kernel_rfl) ?_ | ((first | apply O_y rfl rfl rfl | apply Q_y rfl rfl rfl); (first | exact q_A | exact q_5 | exact q_B)) | refine q_d ?_ | refine q_a ?_ | refine q_b ?_ | refine q_c ?_ | refine A_ct rfl ?_ | refine A_cf rfl ?_ | refine q_W ?_ | (first | refine O_appR tabOk rfl rfl rfl rfl rfl rfl rfl rfl rfl rfl rfl (by first | exact Src.row rfl | exact Src.dat _ _ | exact Src.nil) rfl (by omega) ?_ | refine O_appN tabOk rfl rfl rfl rfl rfl rfl rfl rfl rfl rfl (by first | exact Src.row rfl | exact Src.dat _ _ | exact Src.nil) rfl (by omega) ?_))
    refine N_begin [100] mixed ?_
    (apply q_P 0 rfl (by kernel_rfl) rfl rfl rfl; (first | exact q_A | exact q_5 | exact q_B | fail))
    (apply q_P 1 rfl (by kernel_rfl) rfl rfl rfl; (first | exact q_A | exact q_5 | exact q_B | fail))
    (apply q_P 2 rfl (by kernel_rfl) rfl rfl rfl; (first | exact q_A | exact q_5 | exact q_B | fail))
    (apply q_P 3 rfl (by kernel_rfl) rfl rfl rfl; (first | exact q_A | exact q_5 | exact q_B | (exact R_rowFrom tabOk rfl rfl rfl rfl rfl rfl rfl (show k + 1 ≤ O.length + 1 by omega))))
    (apply q_P 4 rfl (by kernel_rfl) rfl rfl rfl; (first | exact q_A | exact q_5 | exact q_B | fail))
    (apply q_P 5 rfl (by kernel_rfl) rfl rfl rfl; (first | exact q_A | exact q_5 | exact q_B | fail))
    (apply q_P 6 rfl (by kernel_rfl) rfl rfl rfl; (first | exact q_A | exact q_5 | exact q_B | (exact R_rowFrom tabOk rfl rfl rfl rfl rfl rfl rfl (show k ≤ O.length + 1 by omega))))
    refine N_one (j := 7) (by kernel_rfl) ?_
    refine T_copyS tabOk rfl rfl rfl rfl rfl rfl rfl rfl rfl rfl rfl hmn (by omega) (by omega) ?_
    refine N_done (by kernel_rfl) ?_
    have hfi := flat_ins hopD_len O x [.sc (.string ⟨#[]⟩), .sc (.int .u32 0)] rfl k hk
    repeat (first | refine q_Z ?_ | refine R_quiet rfl mixed (by kernel_rfl) ?_ | ((first | apply O_y rfl rfl rfl | apply Q_y rfl rfl rfl); (first | exact q_A | exact q_5 | exact q_B)) | refine q_d ?_ | refine q_a ?_ | refine q_b ?_ | refine q_c ?_ | refine A_ct rfl ?_ | refine A_cf rfl ?_ | refine q_W ?_ | (refine O_storee tabOk rfl rfl rfl rfl rfl rfl rfl rfl rfl rfl (by rw [hfi.1]; omega) (by omega) ?_))
    exact X_retW AWk.refl rfl (h2 := [(100, hop2B (sortU ordH (O ++ [x])))]) ⟨row_eq (by rw [hnew, List.length_append, List.length_cons, List.length_take, List.length_drop]; omega) (by rw [hnew]; exact hfi.2) rfl, trivial⟩ ⟨rfl, rfl⟩
end Go.Proofs.YtenolkolkpfjgaaGreat.Ab

/-
  Texts of a proof, one behind the other (part 23).
-/
import Derived.Test.YtjmelcdgbnjefaaRc5
import Derived.Test.YtjmelcdgbnjefaaRc21
set_option linter.unusedVariables false
set_option linter.unusedSimpArgs false
namespace Go.Proofs.Ytjmelcdgbnjefaa.Ab
set_option linter.unusedVariables false
set_option maxRecDepth 100000
open Go.RowKit Go.Lib
set_option linter.unusedSimpArgs false
attribute [local irreducible] AWp AOps AQ AYield AEff ACall AWk AAny AAt AThen AIn APost NoPanic
set_option maxHeartbeats 8000000 in
theorem learnt_A (d : Dvc) (l : List Adv) (hkd : okC d.kd) (hn : l.length ≤ 200) : ACall Try.prog 14 [dvcA d, advsA l] [] (fun c h => c = .row 5 ∧ h = [(5, rteB (sortU ordR (leaR d.kd l)))]) := by
  have hsort := sort_R (leaR d.kd l) (by have := flat_le1 _ (lea1_le d.kd) l; unfold leaR; omega)
  have hd7 := ribDist_A d.kd 7 hkd
  have hd8 := ribDist_A d.kd 8 hkd
  obtain ⟨n7, hn7⟩ : ∃ n, (distR d.kd 7).1 = n := ⟨_, rfl⟩
  obtain ⟨b7, hb7⟩ : ∃ n, (distR d.kd 7).2 = n := ⟨_, rfl⟩
  obtain ⟨n8, hn8⟩ : ∃ n, (distR d.kd 8).1 = n := ⟨_, rfl⟩
  obtain ⟨b8, hb8⟩ : ∃ n, (distR d.kd 8).2 = n := ⟨_, rfl⟩
  rw [hn7, hb7] at hd7
  rw [hn8, hb8] at hd8
  refine ACall_of tabOk Try.func14 rfl Try.ntmps14 (congrArg Array.toList Try.results14) (by kernel_rfl) rfl ?_
  refine A_seq ?_
  refine R_list ?_
  refine q_d ?_
  refine O_weaken (Wk_freezeV (id := 2) (ds := dvcD d) rfl rfl) ?_
  repeat (first | refine A_seq ?_ | refine A_block ?_ | refine R_list ?_ | ((first | apply O_y rfl rfl rfl | apply Q_y rfl rfl rfl); (first | exact q_1 | exact q_2 | exact q_3 | exact q_4 | exact q_5 | exact q_6 | exact q_7 | exact q_8 | exact q_9 | exact q_10 | exact q_11 | exact q_12 | exact q_13 | exact q_14 | exact q_15 | exact q_16 | exact q_17 | exact q_18 | exact q_19 | exact q_20 | exact q_21 | exact q_22 | exact q_23 | exact q_24 | fail)) | refine O_nil ?_ | refine Q_nil ?_ | refine q_j ?_ | refine q_k ?_ | refine q_d ?_ | refine q_a ?_ | refine q_b ?_ | refine q_c ?_ | refine A_ct rfl ?_ | refine A_cf rfl ?_ | refine A_skip ?_ | refine A_exit ?_ | refine A_ret ?_ | refine q_l ?_ | refine q_m ?_ | refine q_n ?_ | refine q_h ?_ | refine q_o ?_ | refine q_e ?_ | refine q_f ?_ | refine q_g ?_ | fail)
  refine A_weaken (Wk_nil 58 9 (t := 5) (id := 40) rfl rfl) ?_
  refine A_loop (fun k : Nat => [(2, .iptr (dvcD d) 0), (5, .row 40), (11, advsA l), (12, intA (l.length : Int)), (13, intA (k : Int))]) (fun k => [(40, rteB (leaR d.kd (l.take k)))]) (fun k => k ≤ l.length) (fun k => l.length - k) 0 (Nat.zero_le _) (Wk_sel ⟨rfl, rfl, rfl, rfl, rfl, trivial⟩ ⟨rfl, trivial⟩) ?_
  intro k hkl
  try dsimp only
  by_cases hk : k < l.length
  · skip
    have hle : (leaR d.kd (l.take k)).length ≤ k := flat_tk_le _ (lea1_le d.kd) l k
    have hst : leaR d.kd (l.take (k + 1)) = leaR d.kd (l.take k) ++ lea1 d.kd l[k] := flat_tk _ _ _ hk
    obtain ⟨x, hx⟩ : ∃ x, l[k] = x := ⟨_, rfl⟩
    rw [hx] at hst
    obtain ⟨⟨pa, pb⟩, hop, pref, met, path, com, peer, pid, ext, orig, clus, ses⟩ := x
    unfold lea1 at hst
    dsimp only at hst
    have hw : win (l.flatMap advD) (k * 13) 13 = [uD pa, iD pb, uD hop, iD pref, iD met, .sl (path.flatMap u1D) path.length, .sl (com.flatMap u1D) com.length, uD peer, uD pid, bD ext, uD orig, .sl (clus.flatMap u1D) clus.length, iD ses] := (win_flat0 advD_len l k 13 hk (by decide)).trans (by rw [hx]; rfl)
    by_cases hs : ses < 0
    · rw [if_pos hs] at hst
      repeat (first | refine A_seq ?_ | refine A_block ?_ | refine R_list ?_ | ((first | apply O_y rfl rfl rfl | apply Q_y rfl rfl rfl); (first | exact q_1 | exact q_2 | exact q_3 | exact q_4 | exact R_loadi tabOk rfl rfl rfl rfl hw rfl rfl | exact q_6 | exact q_7 | exact q_8 | exact q_9 | exact q_10 | exact q_11 | exact q_12 | exact q_13 | exact q_14 | exact q_15 | exact q_16 | exact q_17 | exact q_18 | exact q_19 | exact q_20 | exact q_21 | exact q_22 | exact q_23 | exact q_24 | (exact R_index (j := k) tabOk rfl rfl rfl rfl rfl rfl hk))) | refine O_nil ?_ | refine Q_nil ?_ | refine q_j ?_ | refine q_k ?_ | refine q_d ?_ | refine q_a ?_ | refine q_b ?_ | refine q_c ?_ | refine A_ct rfl ?_ | refine A_cf rfl ?_ | refine A_skip ?_ | refine A_exit ?_ | refine A_ret ?_ | refine q_l ?_ | refine q_m ?_ | refine q_n ?_ | refine q_h ?_ | refine q_o ?_ | refine q_e ?_ | refine q_f ?_ | refine q_g ?_ | fail)
      refine ⟨k + 1, by omega, by omega, Wk_sel ⟨rfl, rfl, rfl, rfl, rfl, trivial⟩ ⟨?_, trivial⟩⟩
      first
        | exact row_eq (by rw [hst, List.length_append]; rfl) (by rw [hst, List.flatMap_append]; rfl) rfl
        | (rw [hst, List.append_nil]; rfl)
    rw [if_neg hs] at hst
    cases ext
    · replace hst : leaR d.kd (l.take (k + 1)) = leaR d.kd (l.take k) ++ [⟨⟨pa, pb⟩, 8, n8, met, 0, [], hop, false⟩] := by rw [hst, ← hn8]; rfl
      repeat (first | refine A_seq ?_ | refine A_block ?_ | refine R_list ?_ | refine A_ct rfl ?_ | refine A_skip ?_ | refine O_nil ?_ | refine q_j ?_ | refine q_k ?_ | (apply O_y rfl rfl rfl; (first | exact q_11 | exact R_index (j := k) tabOk rfl rfl rfl rfl rfl rfl hk | exact R_loadi tabOk rfl rfl rfl rfl hw rfl rfl)) | refine q_a ?_ | refine q_b ?_)
      refine O_weaken (Wk_sel (e1 := [(2, .iptr (dvcD d) 0), (5, .row 40), (11, advsA l), (12, intA (l.length : Int)), (13, intA (k : Int)), (7, .ptr 7 0)]) (h1 := [(40, rteB (leaR d.kd (l.take k))), (7, .var [.d (uD pa), .d (iD pb), .d (uD hop), .d (iD pref), .d (iD met), .d (.sl (path.flatMap u1D) path.length), .d (.sl (com.flatMap u1D) com.length), .d (uD peer), .d (uD pid), .d (bD false), .d (uD orig), .d (.sl (clus.flatMap u1D) clus.length), .d (iD ses)])]) ⟨rfl, rfl, rfl, rfl, rfl, rfl, trivial⟩ ⟨rfl, rfl, trivial⟩) ?_
      repeat (first | (apply O_y rfl rfl rfl; (first | exact q_1 | exact q_2 | exact q_14 | exact q_12 | exact q_8 | exact q_4 | exact q_5 | exact q_7)) | refine O_c rfl rfl rfl rfl rfl hd8 (fun _ => rfl) ?_ | refine O_nil ?_ | refine q_j ?_ | refine q_k ?_ | refine A_ct rfl ?_ | refine A_cf rfl ?_ | refine A_skip ?_ | refine A_seq ?_ | refine A_block ?_ | refine R_list ?_)
      apply O_y rfl rfl rfl
      exact R_build (xs := [.d (uD pa), .d (iD pb), .d (cD 8), .d (iD n8), .d (iD met), .d (iD 0), .d (sD []), .d (uD hop), .d (bD false)]) tabOk rfl rfl rfl rfl rfl (by kernel_rfl)
      refine q_c ?_
      refine O_appR tabOk rfl rfl rfl rfl rfl rfl rfl rfl rfl rfl rfl (Src.row rfl) rfl (by omega) ?_
      repeat (first | refine A_seq ?_ | refine A_block ?_ | refine R_list ?_ | ((first | apply O_y rfl rfl rfl | apply Q_y rfl rfl rfl); (first | exact q_1 | exact q_2 | exact q_3 | exact q_4 | exact q_5 | exact q_6 | exact q_7 | exact q_8 | exact q_9 | exact q_10 | exact q_11 | exact q_12 | exact q_13 | exact q_14 | exact q_15 | exact q_16 | exact q_17 | exact q_18 | exact q_19 | exact q_20 | exact q_21 | exact q_22 | exact q_23 | exact q_24 | fail)) | refine O_nil ?_ | refine Q_nil ?_ | refine q_j ?_ | refine q_k ?_ | refine q_d ?_ | refine q_a ?_ | refine q_b ?_ | refine q_c ?_ | refine A_ct rfl ?_ | refine A_cf rfl ?_ | refine A_skip ?_ | refine A_exit ?_ | refine A_ret ?_ | refine q_l ?_ | refine q_m ?_ | refine q_n ?_ | refine q_h ?_ | refine q_o ?_ | refine q_e ?_ | refine q_f ?_ | refine q_g ?_ | fail)
      refine ⟨k + 1, by omega, by omega, Wk_sel ⟨rfl, rfl, rfl, rfl, rfl, trivial⟩ ⟨?_, trivial⟩⟩
      first
        | exact row_eq (by rw [hst, List.length_append]; rfl) (by rw [hst, List.flatMap_append]; rfl) rfl
        | (rw [hst, List.append_nil]; rfl)
    · replace hst : leaR d.kd (l.take (k + 1)) = leaR d.kd (l.take k) ++ [⟨⟨pa, pb⟩, 7, n7, met, 0, [], hop, false⟩] := by rw [hst, ← hn7]; rfl
      repeat (first | refine A_seq ?_ | refine A_block ?_ | refine R_list ?_ | refine A_ct rfl ?_ | refine A_skip ?_ | refine O_nil ?_ | refine q_j ?_ | refine q_k ?_ | (apply O_y rfl rfl rfl; (first | exact q_11 | exact R_index (j := k) tabOk rfl rfl rfl rfl rfl rfl hk | exact R_loadi tabOk rfl rfl rfl rfl hw rfl rfl)) | refine q_a ?_ | refine q_b ?_)
      refine O_weaken (Wk_sel (e1 := [(2, .iptr (dvcD d) 0), (5, .row 40), (11, advsA l), (12, intA (l.length : Int)), (13, intA (k : Int)), (7, .ptr 7 0)]) (h1 := [(40, rteB (leaR d.kd (l.take k))), (7, .var [.d (uD pa), .d (iD pb), .d (uD hop), .d (iD pref), .d (iD met), .d (.sl (path.flatMap u1D) path.length), .d (.sl (com.flatMap u1D) com.length), .d (uD peer), .d (uD pid), .d (bD true), .d (uD orig), .d (.sl (clus.flatMap u1D) clus.length), .d (iD ses)])]) ⟨rfl, rfl, rfl, rfl, rfl, rfl, trivial⟩ ⟨rfl, rfl, trivial⟩) ?_
      repeat (first | (apply O_y rfl rfl rfl; (first | exact q_1 | exact q_2 | exact q_14 | exact q_12 | exact q_8 | exact q_4 | exact q_5 | exact q_7)) | refine O_c rfl rfl rfl rfl rfl hd7 (fun _ => rfl) ?_ | refine O_nil ?_ | refine q_j ?_ | refine q_k ?_ | refine A_ct rfl ?_ | refine A_cf rfl ?_ | refine A_skip ?_ | refine A_seq ?_ | refine A_block ?_ | refine R_list ?_)
      apply O_y rfl rfl rfl
      exact R_build (xs := [.d (uD pa), .d (iD pb), .d (cD 7), .d (iD n7), .d (iD met), .d (iD 0), .d (sD []), .d (uD hop), .d (bD false)]) tabOk rfl rfl rfl rfl rfl (by kernel_rfl)
      refine q_c ?_
      refine O_appR tabOk rfl rfl rfl rfl rfl rfl rfl rfl rfl rfl rfl (Src.row rfl) rfl (by omega) ?_
      repeat (first | refine A_seq ?_ | refine A_block ?_ | refine R_list ?_ | ((first | apply O_y rfl rfl rfl | apply Q_y rfl rfl rfl); (first | exact q_1 | exact q_2 | exact q_3 | exact q_4 | exact q_5 | exact q_6 | exact q_7 | exact q_8 | exact q_9 | exact q_10 | exact q_11 | exact q_12 | exact q_13 | exact q_14 | exact q_15 | exact q_16 | exact q_17 | exact q_18 | exact q_19 | exact q_20 | exact q_21 | exact q_22 | exact q_23 | exact q_24 | fail)) | refine O_nil ?_ | refine Q_nil ?_ | refine q_j ?_ | refine q_k ?_ | refine q_d ?_ | refine q_a ?_ | refine q_b ?_ | refine q_c ?_ | refine A_ct rfl ?_ | refine A_cf rfl ?_ | refine A_skip ?_ | refine A_exit ?_ | refine A_ret ?_ | refine q_l ?_ | refine q_m ?_ | refine q_n ?_ | refine q_h ?_ | refine q_o ?_ | refine q_e ?_ | refine q_f ?_ | refine q_g ?_ | fail)
      refine ⟨k + 1, by omega, by omega, Wk_sel ⟨rfl, rfl, rfl, rfl, rfl, trivial⟩ ⟨?_, trivial⟩⟩
      first
        | exact row_eq (by rw [hst, List.length_append]; rfl) (by rw [hst, List.flatMap_append]; rfl) rfl
        | (rw [hst, List.append_nil]; rfl)
  · obtain rfl : k = l.length := by omega
    rw [List.take_length]
    refine A_weaken (Wk_freeze (id := 40) rfl) ?_
    repeat (first | refine A_seq ?_ | refine A_block ?_ | refine R_list ?_ | ((first | apply O_y rfl rfl rfl | apply Q_y rfl rfl rfl); (first | exact q_1 | exact q_2 | exact q_3 | exact q_4 | exact q_5 | exact q_6 | exact q_7 | exact q_8 | exact q_9 | exact q_10 | exact q_11 | exact q_12 | exact q_13 | exact q_14 | exact q_15 | exact q_16 | exact q_17 | exact q_18 | exact q_19 | exact q_20 | exact q_21 | exact q_22 | exact q_23 | exact q_24 | fail)) | refine O_nil ?_ | refine Q_nil ?_ | refine q_j ?_ | refine q_k ?_ | refine q_d ?_ | refine q_a ?_ | refine q_b ?_ | refine q_c ?_ | refine A_ct rfl ?_ | refine A_cf rfl ?_ | refine A_skip ?_ | refine A_exit ?_ | refine A_ret ?_ | refine q_l ?_ | refine q_m ?_ | refine q_n ?_ | refine q_h ?_ | refine q_o ?_ | refine q_e ?_ | refine q_f ?_ | refine q_g ?_ | (refine O_cRow rfl rfl rfl rfl rfl hsort rfl ?_))
    exact X_retW AWk.refl rfl (h2 := [(5, rteB (sortU ordR (leaR d.kd l)))]) ⟨rfl, trivial⟩ ⟨rfl, rfl⟩
set_option maxHeartbeats 8000000 in
theorem refLearnt_A (d : Dvc) (l : List Adv) (hkd : okC d.kd) (hn : l.length ≤ 200) : ACall Try.prog 11 [dvcA d, advsA l] [] (fun c h => c = .row 3 ∧ h = [(3, rteB (sortU ordR (leaR d.kd l)))]) := by
  have hsort := refSort_A (leaR d.kd l) (by have := flat_le1 _ (lea1_le d.kd) l; unfold leaR; omega)
  have hd7 := refRibDist_A d.kd 7
  have hd8 := refRibDist_A d.kd 8
  obtain ⟨n7, hn7⟩ : ∃ n, (distR d.kd 7).1 = n := ⟨_, rfl⟩
  obtain ⟨b7, hb7⟩ : ∃ n, (distR d.kd 7).2 = n := ⟨_, rfl⟩
  obtain ⟨n8, hn8⟩ : ∃ n, (distR d.kd 8).1 = n := ⟨_, rfl⟩
  obtain ⟨b8, hb8⟩ : ∃ n, (distR d.kd 8).2 = n := ⟨_, rfl⟩
  rw [hn7, hb7] at hd7
  rw [hn8, hb8] at hd8
  refine ACall_of tabOk Try.func11 rfl Try.ntmps11 (congrArg Array.toList Try.results11) (by kernel_rfl) rfl ?_
  refine A_seq ?_
  refine R_list ?_
  refine q_d ?_
  refine O_weaken (Wk_freezeV (id := 2) (ds := dvcD d) rfl rfl) ?_
  repeat (first | refine A_seq ?_ | refine A_block ?_ | refine R_list ?_ | ((first | apply O_y rfl rfl rfl | apply Q_y rfl rfl rfl); (first | exact q_1 | exact q_2 | exact q_3 | exact q_4 | exact q_5 | exact q_6 | exact q_7 | exact q_8 | exact q_9 | exact q_10 | exact q_11 | exact q_12 | exact q_13 | exact q_14 | exact q_15 | exact q_16 | exact q_17 | exact q_18 | exact q_19 | exact q_20 | exact q_21 | exact q_22 | exact q_23 | exact q_24 | fail)) | refine O_nil ?_ | refine Q_nil ?_ | refine q_j ?_ | refine q_k ?_ | refine q_d ?_ | refine q_a ?_ | refine q_b ?_ | refine q_c ?_ | refine A_ct rfl ?_ | refine A_cf rfl ?_ | refine A_skip ?_ | refine A_exit ?_ | refine A_ret ?_ | refine q_l ?_ | refine q_m ?_ | refine q_n ?_ | refine q_h ?_ | refine q_o ?_ | refine q_e ?_ | refine q_f ?_ | refine q_g ?_ | fail)
  refine A_weaken (Wk_nil 58 9 (t := 5) (id := 54) rfl rfl) ?_
  refine A_loop (fun k : Nat => [(1, advsA l), (2, .iptr (dvcD d) 0), (5, .row 54), (6, intA (k : Int))]) (fun k => [(54, rteB (leaR d.kd (l.take k)))]) (fun k => k ≤ l.length) (fun k => l.length - k) 0 (Nat.zero_le _) (Wk_sel ⟨rfl, rfl, rfl, rfl, trivial⟩ ⟨rfl, trivial⟩) ?_
  intro k hkl
  try dsimp only
  by_cases hk : k < l.length
  · skip
    have hle : (leaR d.kd (l.take k)).length ≤ k := flat_tk_le _ (lea1_le d.kd) l k
    have hst : leaR d.kd (l.take (k + 1)) = leaR d.kd (l.take k) ++ lea1 d.kd l[k] := flat_tk _ _ _ hk
    obtain ⟨x, hx⟩ : ∃ x, l[k] = x := ⟨_, rfl⟩
    rw [hx] at hst
    obtain ⟨⟨pa, pb⟩, hop, pref, met, path, com, peer, pid, ext, orig, clus, ses⟩ := x
    unfold lea1 at hst
    dsimp only at hst
    have hw12 : win (l.flatMap advD) (k * 13 + 12) 1 = [iD ses] := (win_flat advD_len l k 12 1 hk (by decide)).trans (by rw [hx]; rfl)
    have hw9 : win (l.flatMap advD) (k * 13 + 9) 1 = [bD ext] := (win_flat advD_len l k 9 1 hk (by decide)).trans (by rw [hx]; rfl)
    have hw0 : win (l.flatMap advD) (k * 13 + 0) 2 = [uD pa, iD pb] := (win_flat advD_len l k 0 2 hk (by decide)).trans (by rw [hx]; rfl)
    have hw4 : win (l.flatMap advD) (k * 13 + 4) 1 = [iD met] := (win_flat advD_len l k 4 1 hk (by decide)).trans (by rw [hx]; rfl)
    have hw2 : win (l.flatMap advD) (k * 13 + 2) 1 = [uD hop] := (win_flat advD_len l k 2 1 hk (by decide)).trans (by rw [hx]; rfl)
    by_cases hs : ses < 0
    · rw [if_pos hs] at hst
      repeat (first | refine A_seq ?_ | refine A_block ?_ | refine R_list ?_ | ((first | apply O_y rfl rfl rfl | apply Q_y rfl rfl rfl); (first | exact q_1 | exact q_2 | exact q_3 | exact q_4 | exact R_loadi tabOk rfl rfl rfl rfl (by first | exact hw12 | exact hw9 | exact hw0 | exact hw4 | exact hw2 | rfl) rfl rfl | exact q_6 | exact q_7 | exact q_8 | exact q_9 | exact q_10 | exact q_11 | exact q_12 | exact q_13 | exact q_14 | exact q_15 | exact q_16 | exact q_17 | exact q_18 | exact q_19 | exact q_20 | exact q_21 | exact q_22 | exact q_23 | exact q_24 | (exact R_index (j := k) tabOk rfl rfl rfl rfl rfl rfl hk))) | refine O_nil ?_ | refine Q_nil ?_ | refine q_j ?_ | refine q_k ?_ | refine q_d ?_ | refine q_a ?_ | refine q_b ?_ | refine q_c ?_ | refine A_ct rfl ?_ | refine A_cf rfl ?_ | refine A_skip ?_ | refine A_exit ?_ | refine A_ret ?_ | refine q_l ?_ | refine q_m ?_ | refine q_n ?_ | refine q_h ?_ | refine q_o ?_ | refine q_e ?_ | refine q_f ?_ | refine q_g ?_ | fail)
      refine ⟨k + 1, by omega, by omega, Wk_sel ⟨rfl, rfl, rfl, rfl, trivial⟩ ⟨?_, trivial⟩⟩
      first
        | exact row_eq (by rw [hst, List.length_append]; rfl) (by rw [hst, List.flatMap_append]; rfl) rfl
        | (rw [hst, List.append_nil]; rfl)
    rw [if_neg hs] at hst
    cases ext
    · replace hst : leaR d.kd (l.take (k + 1)) = leaR d.kd (l.take k) ++ [⟨⟨pa, pb⟩, 8, n8, met, 0, [], hop, false⟩] := by rw [hst, ← hn8]; rfl
      repeat (first | refine A_seq ?_ | refine A_block ?_ | refine R_list ?_ | ((first | apply O_y rfl rfl rfl | apply Q_y rfl rfl rfl); (first | exact q_1 | exact q_2 | exact q_3 | exact q_4 | exact R_loadi tabOk rfl rfl rfl rfl (by first | exact hw12 | exact hw9 | exact hw0 | exact hw4 | exact hw2 | rfl) rfl rfl | exact q_6 | exact q_7 | exact q_8 | exact q_9 | exact q_10 | exact q_11 | exact q_12 | exact q_13 | exact q_14 | exact q_15 | exact q_16 | exact q_17 | exact q_18 | exact q_19 | exact q_20 | exact q_21 | exact q_22 | exact q_23 | exact q_24 | (exact R_index (j := k) tabOk rfl rfl rfl rfl rfl rfl hk))) | refine O_nil ?_ | refine Q_nil ?_ | refine q_j ?_ | refine q_k ?_ | refine q_d ?_ | refine q_a ?_ | refine q_b ?_ | refine q_c ?_ | refine A_ct rfl ?_ | refine A_cf rfl ?_ | refine A_skip ?_ | refine A_exit ?_ | refine A_ret ?_ | refine q_l ?_ | refine q_m ?_ | refine q_n ?_ | refine q_h ?_ | refine q_o ?_ | refine q_e ?_ | refine q_f ?_ | refine q_g ?_ | refine O_c rfl rfl rfl rfl rfl hd8 (fun _ => rfl) ?_)
      refine N_begin [54] mixed ?_
      apply q_P 0 rfl (by kernel_rfl) rfl rfl rfl
      exact q_1
      apply q_P 1 rfl (by kernel_rfl) rfl rfl rfl
      exact q_1
      apply q_P 2 rfl (by kernel_rfl) rfl rfl rfl
      exact q_1
      apply q_P 3 rfl (by kernel_rfl) rfl rfl rfl
      exact R_index (j := k) tabOk rfl rfl rfl rfl rfl rfl hk
      apply q_P 4 rfl (by kernel_rfl) rfl rfl rfl
      exact q_4
      apply q_P 5 rfl (by kernel_rfl) rfl rfl rfl
      exact R_loadi tabOk rfl rfl rfl rfl (by first | exact hw12 | exact hw9 | exact hw0 | exact hw4 | exact hw2 | rfl) rfl rfl
      apply q_P 6 rfl (by kernel_rfl) rfl rfl rfl
      exact q_1
      apply q_P 7 rfl (by kernel_rfl) rfl rfl rfl
      exact q_1
      apply q_P 8 rfl (by kernel_rfl) rfl rfl rfl
      exact q_1
      apply q_P 9 rfl (by kernel_rfl) rfl rfl rfl
      exact q_1
      apply q_P 10 rfl (by kernel_rfl) rfl rfl rfl
      exact R_index (j := k) tabOk rfl rfl rfl rfl rfl rfl hk
      apply q_P 11 rfl (by kernel_rfl) rfl rfl rfl
      exact q_4
      apply q_P 12 rfl (by kernel_rfl) rfl rfl rfl
      exact R_loadi tabOk rfl rfl rfl rfl (by first | exact hw12 | exact hw9 | exact hw0 | exact hw4 | exact hw2 | rfl) rfl rfl
      apply q_P 13 rfl (by kernel_rfl) rfl rfl rfl
      exact q_1
      apply q_P 14 rfl (by kernel_rfl) rfl rfl rfl
      exact q_1
      apply q_P 15 rfl (by kernel_rfl) rfl rfl rfl
      exact R_index (j := k) tabOk rfl rfl rfl rfl rfl rfl hk
      apply q_P 16 rfl (by kernel_rfl) rfl rfl rfl
      exact q_4
      apply q_P 17 rfl (by kernel_rfl) rfl rfl rfl
      exact R_loadi tabOk rfl rfl rfl rfl (by first | exact hw12 | exact hw9 | exact hw0 | exact hw4 | exact hw2 | rfl) rfl rfl
      apply q_P 18 rfl (by kernel_rfl) rfl rfl rfl
      exact R_build (xs := [.d (uD pa), .d (iD pb), .d (cD 8), .d (iD n8), .d (iD met), .d (iD 0), .d (sD []), .d (uD hop), .d (bD false)]) tabOk rfl rfl rfl rfl rfl (by kernel_rfl)
      refine N_one (j := 19) (by kernel_rfl) ?_
      refine T_slice tabOk rfl rfl rfl rfl rfl rfl rfl rfl rfl rfl rfl rfl ?_
      refine N_one (j := 20) (by kernel_rfl) ?_
      refine T_appR tabOk rfl rfl rfl rfl rfl rfl rfl rfl rfl rfl rfl rfl (Src.row rfl) rfl (by omega) rfl ?_
      apply q_P 21 rfl (by kernel_rfl) rfl rfl rfl
      exact q_2
      refine N_done (by kernel_rfl) ?_
      repeat (first | refine A_seq ?_ | refine A_block ?_ | refine R_list ?_ | ((first | apply O_y rfl rfl rfl | apply Q_y rfl rfl rfl); (first | exact q_1 | exact q_2 | exact q_3 | exact q_4 | exact q_5 | exact q_6 | exact q_7 | exact q_8 | exact q_9 | exact q_10 | exact q_11 | exact q_12 | exact q_13 | exact q_14 | exact q_15 | exact q_16 | exact q_17 | exact q_18 | exact q_19 | exact q_20 | exact q_21 | exact q_22 | exact q_23 | exact q_24 | fail)) | refine O_nil ?_ | refine Q_nil ?_ | refine q_j ?_ | refine q_k ?_ | refine q_d ?_ | refine q_a ?_ | refine q_b ?_ | refine q_c ?_ | refine A_ct rfl ?_ | refine A_cf rfl ?_ | refine A_skip ?_ | refine A_exit ?_ | refine A_ret ?_ | refine q_l ?_ | refine q_m ?_ | refine q_n ?_ | refine q_h ?_ | refine q_o ?_ | refine q_e ?_ | refine q_f ?_ | refine q_g ?_ | fail)
      refine ⟨k + 1, by omega, by omega, Wk_sel ⟨rfl, rfl, rfl, rfl, trivial⟩ ⟨?_, trivial⟩⟩
      first
        | exact row_eq (by rw [hst, List.length_append]; rfl) (by rw [hst, List.flatMap_append]; rfl) rfl
        | (rw [hst, List.append_nil]; rfl)
    · replace hst : leaR d.kd (l.take (k + 1)) = leaR d.kd (l.take k) ++ [⟨⟨pa, pb⟩, 7, n7, met, 0, [], hop, false⟩] := by rw [hst, ← hn7]; rfl
      repeat (first | refine A_seq ?_ | refine A_block ?_ | refine R_list ?_ | ((first | apply O_y rfl rfl rfl | apply Q_y rfl rfl rfl); (first | exact q_1 | exact q_2 | exact q_3 | exact q_4 | exact R_loadi tabOk rfl rfl rfl rfl (by first | exact hw12 | exact hw9 | exact hw0 | exact hw4 | exact hw2 | rfl) rfl rfl | exact q_6 | exact q_7 | exact q_8 | exact q_9 | exact q_10 | exact q_11 | exact q_12 | exact q_13 | exact q_14 | exact q_15 | exact q_16 | exact q_17 | exact q_18 | exact q_19 | exact q_20 | exact q_21 | exact q_22 | exact q_23 | exact q_24 | (exact R_index (j := k) tabOk rfl rfl rfl rfl rfl rfl hk))) | refine O_nil ?_ | refine Q_nil ?_ | refine q_j ?_ | refine q_k ?_ | refine q_d ?_ | refine q_a ?_ | refine q_b ?_ | refine q_c ?_ | refine A_ct rfl ?_ | refine A_cf rfl ?_ | refine A_skip ?_ | refine A_exit ?_ | refine A_ret ?_ | refine q_l ?_ | refine q_m ?_ | refine q_n ?_ | refine q_h ?_ | refine q_o ?_ | refine q_e ?_ | refine q_f ?_ | refine q_g ?_ | refine O_c rfl rfl rfl rfl rfl hd7 (fun _ => rfl) ?_)
      refine N_begin [54] mixed ?_
      apply q_P 0 rfl (by kernel_rfl) rfl rfl rfl
      exact q_1
      apply q_P 1 rfl (by kernel_rfl) rfl rfl rfl
      exact q_1
      apply q_P 2 rfl (by kernel_rfl) rfl rfl rfl
      exact q_1
      apply q_P 3 rfl (by kernel_rfl) rfl rfl rfl
      exact R_index (j := k) tabOk rfl rfl rfl rfl rfl rfl hk
      apply q_P 4 rfl (by kernel_rfl) rfl rfl rfl
      exact q_4
      apply q_P 5 rfl (by kernel_rfl) rfl rfl rfl
      exact R_loadi tabOk rfl rfl rfl rfl (by first | exact hw12 | exact hw9 | exact hw0 | exact hw4 | exact hw2 | rfl) rfl rfl
      apply q_P 6 rfl (by kernel_rfl) rfl rfl rfl
      exact q_1
      apply q_P 7 rfl (by kernel_rfl) rfl rfl rfl
      exact q_1
      apply q_P 8 rfl (by kernel_rfl) rfl rfl rfl
      exact q_1
      apply q_P 9 rfl (by kernel_rfl) rfl rfl rfl
      exact q_1
      apply q_P 10 rfl (by kernel_rfl) rfl rfl rfl
      exact R_index (j := k) tabOk rfl rfl rfl rfl rfl rfl hk
      apply q_P 11 rfl (by kernel_rfl) rfl rfl rfl
      exact q_4
      apply q_P 12 rfl (by kernel_rfl) rfl rfl rfl
      exact R_loadi tabOk rfl rfl rfl rfl (by first | exact hw12 | exact hw9 | exact hw0 | exact hw4 | exact hw2 | rfl) rfl rfl
      apply q_P 13 rfl (by kernel_rfl) rfl rfl rfl
      exact q_1
      apply q_P 14 rfl (by kernel_rfl) rfl rfl rfl
      exact q_1
      apply q_P 15 rfl (by kernel_rfl) rfl rfl rfl
      exact R_index (j := k) tabOk rfl rfl rfl rfl rfl rfl hk
      apply q_P 16 rfl (by kernel_rfl) rfl rfl rfl
      exact q_4
      apply q_P 17 rfl (by kernel_rfl) rfl rfl rfl
      exact R_loadi tabOk rfl rfl rfl rfl (by first | exact hw12 | exact hw9 | exact hw0 | exact hw4 | exact hw2 | rfl) rfl rfl
      apply q_P 18 rfl (by kernel_rfl) rfl rfl rfl
      exact R_build (xs := [.d (uD pa), .d (iD pb), .d (cD 7), .d (iD n7), .d (iD met), .d (iD 0), .d (sD []), .d (uD hop), .d (bD false)]) tabOk rfl rfl rfl rfl rfl (by kernel_rfl)
      refine N_one (j := 19) (by kernel_rfl) ?_
      refine T_slice tabOk rfl rfl rfl rfl rfl rfl rfl rfl rfl rfl rfl rfl ?_
      refine N_one (j := 20) (by kernel_rfl) ?_
      refine T_appR tabOk rfl rfl rfl rfl rfl rfl rfl rfl rfl rfl rfl rfl (Src.row rfl) rfl (by omega) rfl ?_
      apply q_P 21 rfl (by kernel_rfl) rfl rfl rfl
      exact q_2
      refine N_done (by kernel_rfl) ?_
      repeat (first | refine A_seq ?_ | refine A_block ?_ | refine R_list ?_ | ((first | apply O_y rfl rfl rfl | apply Q_y rfl rfl rfl); (first | exact q_1 | exact q_2 | exact q_3 | exact q_4 | exact q_5 | exact q_6 | exact q_7 | exact q_8 | exact q_9 | exact q_10 | exact q_11 | exact q_12 | exact q_13 | exact q_14 | exact q_15 | exact q_16 | exact q_17 | exact q_18 | exact q_19 | exact q_20 | exact q_21 | exact q_22 | exact q_23 | exact q_24 | fail)) | refine O_nil ?_ | refine Q_nil ?_ | refine q_j ?_ | refine q_k ?_ | refine q_d ?_ | refine q_a ?_ | refine q_b ?_ | refine q_c ?_ | refine A_ct rfl ?_ | refine A_cf rfl ?_ | refine A_skip ?_ | refine A_exit ?_ | refine A_ret ?_ | refine q_l ?_ | refine q_m ?_ | refine q_n ?_ | refine q_h ?_ | refine q_o ?_ | refine q_e ?_ | refine q_f ?_ | refine q_g ?_ | fail)
      refine ⟨k + 1, by omega, by omega, Wk_sel ⟨rfl, rfl, rfl, rfl, trivial⟩ ⟨?_, trivial⟩⟩
      first
        | exact row_eq (by rw [hst, List.length_append]; rfl) (by rw [hst, List.flatMap_append]; rfl) rfl
        | (rw [hst, List.append_nil]; rfl)
  · obtain rfl : k = l.length := by omega
    rw [List.take_length]
    refine A_weaken (Wk_freeze (id := 54) rfl) ?_
    repeat (first | refine A_seq ?_ | refine A_block ?_ | refine R_list ?_ | ((first | apply O_y rfl rfl rfl | apply Q_y rfl rfl rfl); (first | exact q_1 | exact q_2 | exact q_3 | exact q_4 | exact q_5 | exact q_6 | exact q_7 | exact q_8 | exact q_9 | exact q_10 | exact q_11 | exact q_12 | exact q_13 | exact q_14 | exact q_15 | exact q_16 | exact q_17 | exact q_18 | exact q_19 | exact q_20 | exact q_21 | exact q_22 | exact q_23 | exact q_24 | fail)) | refine O_nil ?_ | refine Q_nil ?_ | refine q_j ?_ | refine q_k ?_ | refine q_d ?_ | refine q_a ?_ | refine q_b ?_ | refine q_c ?_ | refine A_ct rfl ?_ | refine A_cf rfl ?_ | refine A_skip ?_ | refine A_exit ?_ | refine A_ret ?_ | refine q_l ?_ | refine q_m ?_ | refine q_n ?_ | refine q_h ?_ | refine q_o ?_ | refine q_e ?_ | refine q_f ?_ | refine q_g ?_ | (refine O_cRow rfl rfl rfl rfl rfl hsort rfl ?_))
    exact X_retW AWk.refl rfl (h2 := [(3, rteB (sortU ordR (leaR d.kd l)))]) ⟨rfl, trivial⟩ ⟨rfl, rfl⟩
end Go.Proofs.Ytjmelcdgbnjefaa.Ab

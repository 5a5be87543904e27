/-
  Texts of a proof, one behind the other (part 11).
-/
import Derived.Test.YtnnclkeoakjjkaaGreatFl9
set_option linter.unusedVariables false
set_option linter.unusedSimpArgs false
namespace Go.Proofs.YtnnclkeoakjjkaaGreat.Ab
set_option linter.unusedVariables false
set_option maxRecDepth 100000
open Go.RowKit Go.Lib
set_option linter.unusedSimpArgs false
attribute [local irreducible] AWp AOps AQ AYield AEff ACall AWk AAny AAt AThen AIn APost NoPanic
set_option maxHeartbeats 8000000 in
theorem hops_A (L M : List Hp) (hn : L.length ≤ 1000000) : ACall Tryz.prog 7 [hopsA L, hopsA M] [] (Just (boolA (decide (L = M)))) := by
  refine ACall_of tabOk Tryz.func7 rfl Tryz.ntmps7 (congrArg Array.toList Tryz.results7) (by kernel_rfl) rfl ?_
  by_cases hl : L.length = M.length
  ·
    repeat (first | refine A_seq ?_ | refine A_block ?_ | refine R_list ?_ | refine R_quiet rfl mixed (by kernel_rfl) ?_ | ((first | apply O_y rfl rfl rfl | apply Q_y rfl rfl rfl); (first | exact q_1 | exact q_2 | exact q_3 | exact q_4 | exact q_5 | exact q_6 | exact q_7 | exact q_8 | exact q_9 | exact q_10 | exact q_11 | exact q_12 | exact q_13 | exact q_14 | exact q_15 | exact q_16 | exact q_17 | exact q_18 | exact q_19 | exact q_20 | exact q_21 | exact q_22 | exact q_23 | exact q_24 | fail)) | refine O_nil ?_ | refine Q_nil ?_ | refine q_j ?_ | refine q_k ?_ | refine q_d ?_ | refine q_a ?_ | refine q_b ?_ | refine q_c ?_ | refine A_ct rfl ?_ | refine A_cf rfl ?_ | refine A_skip ?_ | refine A_exit ?_ | refine A_ret ?_ | refine q_l ?_ | refine q_m ?_ | refine q_n ?_ | refine q_h ?_ | refine q_o ?_ | refine q_e ?_ | refine q_f ?_ | refine q_g ?_ | fail)
    refine A_loop (fun k : Nat => [(0, hopsA L), (1, hopsA M), (5, intA (k : Int))]) (fun _ => []) (fun k => k ≤ L.length ∧ L.take k = M.take k) (fun k => L.length - k) 0 ⟨Nat.zero_le _, rfl⟩ (Wk_sel ⟨rfl, rfl, rfl, trivial⟩ trivial) ?_
    rintro k ⟨hk, he⟩
    dsimp only
    by_cases hlt : k < L.length
    · have hlm : k < M.length := by omega
      have hw0 := fun o h => win_flat hopD_len L k o 1 hlt h
      by_cases hi : L[k].i = M[k].i
      · by_cases hh : L[k].h = M[k].h
        · have hx : L[k] = M[k] := by
            obtain ⟨a, ha⟩ : ∃ a, L[k] = a := ⟨_, rfl⟩
            obtain ⟨b, hb⟩ : ∃ b, M[k] = b := ⟨_, rfl⟩
            rw [ha, hb] at hi hh ⊢
            obtain ⟨a1, a2⟩ := a
            obtain ⟨b1, b2⟩ := b
            simp only at hi hh
            rw [hi, hh]
          repeat (first | refine A_seq ?_ | refine A_block ?_ | refine R_list ?_ | refine R_quiet rfl mixed (by kernel_rfl) ?_ | ((first | apply O_y rfl rfl rfl | apply Q_y rfl rfl rfl); (first | exact q_1 | exact q_2 | exact q_3 | exact q_4 | exact R_loadi tabOk rfl rfl rfl rfl (by first | exact win_flat0 hopD_len L k _ hlt (by decide) | exact win_flat hopD_len L k _ _ hlt (by decide) | exact win_flat2 hopD_len L k _ _ _ hlt (by decide) | rfl) rfl rfl | exact q_6 | exact q_7 | exact q_8 | exact q_9 | exact q_10 | exact q_11 | exact q_12 | exact q_13 | exact q_14 | exact q_15 | exact q_16 | exact q_17 | exact q_18 | exact q_19 | exact q_20 | exact q_21 | exact q_22 | exact q_23 | exact q_24 | (first | exact R_loadi tabOk rfl rfl rfl rfl (by first | exact win_flat0 hopD_len M k _ hlm (by decide) | exact win_flat hopD_len M k _ _ hlm (by decide) | exact win_flat2 hopD_len M k _ _ _ hlm (by decide) | rfl) rfl rfl | exact R_sF rfl rfl rfl rfl (by simp [hi])))) | refine O_nil ?_ | refine Q_nil ?_ | refine q_j ?_ | refine q_k ?_ | refine q_d ?_ | refine q_a ?_ | refine q_b ?_ | refine q_c ?_ | refine A_ct rfl ?_ | refine A_cf rfl ?_ | refine A_skip ?_ | refine A_exit ?_ | refine A_ret ?_ | refine q_l ?_ | refine q_m ?_ | refine q_n ?_ | refine q_h ?_ | refine q_o ?_ | refine q_e ?_ | refine q_f ?_ | refine q_g ?_ | fail)
          exact ⟨k + 1, ⟨by omega, by rw [List.take_succ_eq_append_getElem hlt, List.take_succ_eq_append_getElem hlm, he, hx]⟩, by omega, Wk_sel ⟨rfl, rfl, rfl, trivial⟩ trivial⟩
        · have hne : ¬ L = M := fun h => hh (by subst h; rfl)
          rw [show decide (L = M) = false by simpa using hne]
          repeat (first | refine A_seq ?_ | refine A_block ?_ | refine R_list ?_ | refine R_quiet rfl mixed (by kernel_rfl) ?_ | ((first | apply O_y rfl rfl rfl | apply Q_y rfl rfl rfl); (first | exact q_1 | exact q_2 | exact q_3 | exact q_4 | exact R_loadi tabOk rfl rfl rfl rfl (by first | exact win_flat0 hopD_len L k _ hlt (by decide) | exact win_flat hopD_len L k _ _ hlt (by decide) | exact win_flat2 hopD_len L k _ _ _ hlt (by decide) | rfl) rfl rfl | exact q_6 | exact q_7 | exact q_8 | exact q_9 | exact q_10 | exact q_11 | exact q_12 | exact q_13 | exact q_14 | exact q_15 | exact q_16 | exact q_17 | exact q_18 | exact q_19 | exact q_20 | exact q_21 | exact q_22 | exact q_23 | exact q_24 | (first | exact R_loadi tabOk rfl rfl rfl rfl (by first | exact win_flat0 hopD_len M k _ hlm (by decide) | exact win_flat hopD_len M k _ _ hlm (by decide) | exact win_flat2 hopD_len M k _ _ _ hlm (by decide) | rfl) rfl rfl | exact R_sF rfl rfl rfl rfl (by simp [hi])))) | refine O_nil ?_ | refine Q_nil ?_ | refine q_j ?_ | refine q_k ?_ | refine q_d ?_ | refine q_a ?_ | refine q_b ?_ | refine q_c ?_ | refine A_ct rfl ?_ | refine A_cf rfl ?_ | refine A_skip ?_ | refine A_exit ?_ | refine A_ret ?_ | refine q_l ?_ | refine q_m ?_ | refine q_n ?_ | refine q_h ?_ | refine q_o ?_ | refine q_e ?_ | refine q_f ?_ | refine q_g ?_ | fail)
          exact X_ret rfl ⟨rfl, rfl⟩
      · have hne : ¬ L = M := fun h => hi (by subst h; rfl)
        rw [show decide (L = M) = false by simpa using hne]
        repeat (first | refine A_seq ?_ | refine A_block ?_ | refine R_list ?_ | refine R_quiet rfl mixed (by kernel_rfl) ?_ | ((first | apply O_y rfl rfl rfl | apply Q_y rfl rfl rfl); (first | exact q_1 | exact q_2 | exact q_3 | exact q_4 | exact R_loadi tabOk rfl rfl rfl rfl (by first | exact win_flat0 hopD_len L k _ hlt (by decide) | exact win_flat hopD_len L k _ _ hlt (by decide) | exact win_flat2 hopD_len L k _ _ _ hlt (by decide) | rfl) rfl rfl | exact q_6 | exact q_7 | exact q_8 | exact q_9 | exact q_10 | exact q_11 | exact q_12 | exact q_13 | exact q_14 | exact q_15 | exact q_16 | exact q_17 | exact q_18 | exact q_19 | exact q_20 | exact q_21 | exact q_22 | exact q_23 | exact q_24 | (first | exact R_loadi tabOk rfl rfl rfl rfl (by first | exact win_flat0 hopD_len M k _ hlm (by decide) | exact win_flat hopD_len M k _ _ hlm (by decide) | exact win_flat2 hopD_len M k _ _ _ hlm (by decide) | rfl) rfl rfl | exact R_sT rfl rfl rfl rfl (by simp [hi])))) | refine O_nil ?_ | refine Q_nil ?_ | refine q_j ?_ | refine q_k ?_ | refine q_d ?_ | refine q_a ?_ | refine q_b ?_ | refine q_c ?_ | refine A_ct rfl ?_ | refine A_cf rfl ?_ | refine A_skip ?_ | refine A_exit ?_ | refine A_ret ?_ | refine q_l ?_ | refine q_m ?_ | refine q_n ?_ | refine q_h ?_ | refine q_o ?_ | refine q_e ?_ | refine q_f ?_ | refine q_g ?_ | fail)
        exact X_ret rfl ⟨rfl, rfl⟩
    · have hkk : k = L.length := by omega
      subst hkk
      rw [List.take_length, hl, List.take_length] at he
      rw [show decide (L = M) = true by simpa using he]
      repeat (first | refine A_seq ?_ | refine A_block ?_ | refine R_list ?_ | refine R_quiet rfl mixed (by kernel_rfl) ?_ | ((first | apply O_y rfl rfl rfl | apply Q_y rfl rfl rfl); (first | exact q_1 | exact q_2 | exact q_3 | exact q_4 | exact q_5 | exact q_6 | exact q_7 | exact q_8 | exact q_9 | exact q_10 | exact q_11 | exact q_12 | exact q_13 | exact q_14 | exact q_15 | exact q_16 | exact q_17 | exact q_18 | exact q_19 | exact q_20 | exact q_21 | exact q_22 | exact q_23 | exact q_24 | fail)) | refine O_nil ?_ | refine Q_nil ?_ | refine q_j ?_ | refine q_k ?_ | refine q_d ?_ | refine q_a ?_ | refine q_b ?_ | refine q_c ?_ | refine A_ct rfl ?_ | refine A_cf rfl ?_ | refine A_skip ?_ | refine A_exit ?_ | refine A_ret ?_ | refine q_l ?_ | refine q_m ?_ | refine q_n ?_ | refine q_h ?_ | refine q_o ?_ | refine q_e ?_ | refine q_f ?_ | refine q_g ?_ | fail)
      exact X_ret rfl ⟨rfl, rfl⟩
  · rw [show decide (L = M) = false by simpa using fun h => hl (by rw [h])]
    repeat (first | refine A_seq ?_ | refine A_block ?_ | refine R_list ?_ | refine R_quiet rfl mixed (by kernel_rfl) ?_ | ((first | apply O_y rfl rfl rfl | apply Q_y rfl rfl rfl); (first | exact q_1 | exact q_2 | exact q_3 | exact q_4 | exact q_5 | exact q_6 | exact q_7 | exact q_8 | exact q_9 | exact q_10 | exact q_11 | exact q_12 | exact q_13 | exact q_14 | exact q_15 | exact q_16 | exact q_17 | exact q_18 | exact q_19 | exact q_20 | exact q_21 | exact q_22 | exact q_23 | exact q_24 | fail)) | refine O_nil ?_ | refine Q_nil ?_ | refine q_j ?_ | refine q_k ?_ | refine q_d ?_ | refine q_a ?_ | refine q_b ?_ | refine q_c ?_ | refine A_ct rfl ?_ | refine A_cf rfl ?_ | refine A_skip ?_ | refine A_exit ?_ | refine A_ret ?_ | refine q_l ?_ | refine q_m ?_ | refine q_n ?_ | refine q_h ?_ | refine q_o ?_ | refine q_e ?_ | refine q_f ?_ | refine q_g ?_ | fail)
    exact X_ret rfl ⟨rfl, rfl⟩
def leadR (l : List Rte) (r : Rte) : Nat → Rte
  | 0 => r
  | k + 1 => l[k]?.getD r
theorem leadR_mem (l : List Rte) (r : Rte) (k : Nat) : leadR l r k ∈ r :: l := by
  cases k with
  | zero => exact List.mem_cons_self ..
  | succ k =>
    show l[k]?.getD r ∈ r :: l
    by_cases h : k < l.length
    · rw [List.getElem?_eq_getElem h]; exact List.mem_cons_of_mem _ (List.getElem_mem h)
    · rw [List.getElem?_eq_none (by omega)]; exact List.mem_cons_self ..
set_option maxHeartbeats 16000000 in
theorem leads_A (hawake : ACall Tryz.prog 9 [] [] (Just (boolA true))) (l rest : List Rte) (r : Rte) (hok : ∀ s ∈ l, okR s) (hh : ∀ s ∈ r :: l, 0 ≤ s.h ∧ s.h < 4294967296) (hn : l.length ≤ 80) (hr : rest ≠ [] → l.length = 80) :
    ACall Tryz.prog 3 [.d (.sl (l.flatMap rteD ++ rest.flatMap rteD) (l.length + rest.length)), rteA r] [] (Just (boolA true)) := by
  have hhl : ∀ s ∈ l, 0 ≤ s.h ∧ s.h < 4294967296 := fun s hs => hh s (List.mem_cons_of_mem _ hs)
  have hsq : (l.length + 1) * l.length + 1 ≤ 6481 := by
    have : (l.length + 1) * l.length ≤ 81 * 80 := Nat.mul_le_mul (by omega) hn
    omega
  have hmin : (if (80 : Int) < ((l.length + rest.length : Nat) : Int) then (80 : Int) else ((l.length + rest.length : Nat) : Int)) = (l.length : Int) := by
    cases rest with
    | nil => simp; omega
    | cons b r => have := hr (by simp); simp; omega
  have hfl : (l.flatMap rteD).length = l.length * 9 := flat_len rteD_len _
  have hsame := refSame_A l l (by omega)
  rw [show decide (l = l) = true by simp] at hsame
  refine ACall_of tabOk Tryz.func3 rfl Tryz.ntmps3 (congrArg Array.toList Tryz.results3) (by kernel_rfl) rfl ?_
  repeat (first | refine A_seq ?_ | refine A_block ?_ | refine R_list ?_ | ((first | apply O_y rfl rfl rfl | apply Q_y rfl rfl rfl); (first | exact q_1 | exact q_2 | exact q_3 | exact q_4 | exact q_5 | exact q_6 | exact q_7 | exact q_8 | exact q_9 | exact q_10 | exact q_11 | exact q_12 | exact q_13 | exact q_14 | exact q_15 | exact q_16 | exact q_17 | exact q_18 | exact q_19 | exact q_20 | exact q_21 | exact q_22 | exact q_23 | exact q_24 | (first | exact R_min rfl rfl rfl hmin | exact R_sliceD tabOk rfl rfl rfl rfl rfl rfl (by omega)))) | refine O_nil ?_ | refine Q_nil ?_ | refine q_j ?_ | refine q_k ?_ | refine q_d ?_ | refine q_a ?_ | refine q_b ?_ | refine q_c ?_ | refine A_ct rfl ?_ | refine A_cf rfl ?_ | refine A_skip ?_ | refine A_exit ?_ | refine A_ret ?_ | refine q_l ?_ | refine q_m ?_ | refine q_n ?_ | refine q_h ?_ | refine q_o ?_ | refine q_e ?_ | refine q_f ?_ | refine q_g ?_ | fail)
  refine O_weaken (Wk_see (t := 0) rfl see_pfx) ?_
  refine O_weaken (Wk_sel (e1 := [(0, rtesA l), (3, .ptr 3 0)]) (h1 := [(3, rteB1 r)]) ⟨rfl, rfl, trivial⟩ ⟨rfl, trivial⟩) ?_
  have hall : (.d (.sl ([] ++ l.flatMap rteD) (0 + l.length)) : AVal) = rtesA l := by unfold rtesA; rw [List.nil_append, Nat.zero_add]
  refine O_slice0 tabOk rfl rfl rfl rfl rfl rfl rfl ?_
  repeat (first | refine A_seq ?_ | refine A_block ?_ | refine R_list ?_ | ((first | apply O_y rfl rfl rfl | apply Q_y rfl rfl rfl); (first | exact q_1 | exact q_2 | exact q_3 | exact q_4 | exact q_5 | exact q_6 | exact q_7 | exact q_8 | exact q_9 | exact q_10 | exact q_11 | exact q_12 | exact q_13 | exact q_14 | exact q_15 | exact q_16 | exact q_17 | exact q_18 | exact q_19 | exact q_20 | exact q_21 | exact q_22 | exact q_23 | exact q_24 | fail)) | refine O_nil ?_ | refine Q_nil ?_ | refine q_j ?_ | refine q_k ?_ | refine q_d ?_ | refine q_a ?_ | refine q_b ?_ | refine q_c ?_ | refine A_ct rfl ?_ | refine A_cf rfl ?_ | refine A_skip ?_ | refine A_exit ?_ | refine A_ret ?_ | refine q_l ?_ | refine q_m ?_ | refine q_n ?_ | refine q_h ?_ | refine q_o ?_ | refine q_e ?_ | refine q_f ?_ | refine q_g ?_ | (first | refine O_appR tabOk rfl rfl rfl rfl rfl rfl rfl rfl rfl rfl rfl (by first | exact Src.row rfl | exact Src.dat _ _ | exact Src.nil) hfl (by omega) ?_ | refine O_appN tabOk rfl rfl rfl rfl rfl rfl rfl rfl rfl rfl (by first | exact Src.row rfl | exact Src.dat _ _ | exact Src.nil) hfl (by omega) ?_))
  refine A_weaken (Wk_freeze (id := 18) rfl) ?_
  refine A_loop (fun k : Nat => [(0, rtesA l), (3, .ptr 3 0), (5, rtesA l), (6, intA ((k : Int) - 1))]) (fun _ => [(3, rteB1 r)]) (fun k => k ≤ l.length + 1 ∧ k ≤ 13) (fun k => 14 - k) 0 ⟨Nat.zero_le _, Nat.zero_le _⟩ (Wk_sel ⟨rfl, rfl, congrArg some hall, rfl, trivial⟩ ⟨rfl, trivial⟩) ?_
  rintro k ⟨hk, hk2⟩
  try dsimp only
  by_cases hkl : k ≤ l.length
  · by_cases hk12 : k ≤ 12
    · have hsm := leadR_mem l r k
      refine A_cut [(0, rtesA l), (3, .ptr 3 0), (5, rtesA l), (6, intA ((k : Int) - 1))] [(3, rteB1 r)] ?_ ?_
      ·
        repeat (first | refine A_seq ?_ | refine A_block ?_ | refine R_list ?_ | ((first | apply O_y rfl rfl rfl | apply Q_y rfl rfl rfl); (first | exact q_1 | exact q_2 | exact q_3 | exact q_4 | exact q_5 | exact q_6 | exact q_7 | exact q_8 | exact q_9 | exact q_10 | exact q_11 | exact q_12 | exact q_13 | exact q_14 | exact q_15 | exact q_16 | exact q_17 | exact q_18 | exact q_19 | exact q_20 | exact q_21 | exact q_22 | exact q_23 | exact q_24 | fail)) | refine O_nil ?_ | refine Q_nil ?_ | refine q_j ?_ | refine q_k ?_ | refine q_d ?_ | refine q_a ?_ | refine q_b ?_ | refine q_c ?_ | refine A_ct rfl ?_ | refine A_cf rfl ?_ | refine A_skip ?_ | refine A_exit ?_ | refine A_ret ?_ | refine q_l ?_ | refine q_m ?_ | refine q_n ?_ | refine q_h ?_ | refine q_o ?_ | refine q_e ?_ | refine q_f ?_ | refine q_g ?_ | fail)
        exact Wk_sel ⟨rfl, rfl, rfl, rfl, trivial⟩ ⟨rfl, trivial⟩
      refine A_seq ?_
      refine A_block ?_
      refine A_cut [(0, rtesA l), (3, .ptr 3 0), (5, rtesA l), (6, intA ((k : Int) - 1)), (7, .ptr 7 0)] [(3, rteB1 r), (7, rteB1 r)] ?_ ?_
      ·
        repeat (first | refine A_seq ?_ | refine A_block ?_ | refine R_list ?_ | ((first | apply O_y rfl rfl rfl | apply Q_y rfl rfl rfl); (first | exact q_1 | exact q_2 | exact q_3 | exact q_4 | exact q_5 | exact q_6 | exact q_7 | exact q_8 | exact q_9 | exact q_10 | exact q_11 | exact q_12 | exact q_13 | exact q_14 | exact q_15 | exact q_16 | exact q_17 | exact q_18 | exact q_19 | exact q_20 | exact q_21 | exact q_22 | exact q_23 | exact q_24 | fail)) | refine O_nil ?_ | refine Q_nil ?_ | refine q_j ?_ | refine q_k ?_ | refine q_d ?_ | refine q_a ?_ | refine q_b ?_ | refine q_c ?_ | refine A_ct rfl ?_ | refine A_cf rfl ?_ | refine A_skip ?_ | refine A_exit ?_ | refine A_ret ?_ | refine q_l ?_ | refine q_m ?_ | refine q_n ?_ | refine q_h ?_ | refine q_o ?_ | refine q_e ?_ | refine q_f ?_ | refine q_g ?_ | fail)
        exact Wk_sel ⟨rfl, rfl, rfl, rfl, rfl, trivial⟩ ⟨rfl, rfl, trivial⟩
      refine A_cut [(0, rtesA l), (3, .ptr 3 0), (5, rtesA l), (6, intA ((k : Int) - 1)), (7, .ptr 7 0)] [(3, rteB1 r), (7, rteB1 (leadR l r k))] ?_ ?_
      · cases k with
        | zero =>
          repeat (first | refine A_seq ?_ | refine A_block ?_ | refine R_list ?_ | ((first | apply O_y rfl rfl rfl | apply Q_y rfl rfl rfl); (first | exact q_1 | exact q_2 | exact q_3 | exact q_4 | exact q_5 | exact q_6 | exact q_7 | exact q_8 | exact q_9 | exact q_10 | exact q_11 | exact q_12 | exact q_13 | exact q_14 | exact q_15 | exact q_16 | exact q_17 | exact q_18 | exact q_19 | exact q_20 | exact q_21 | exact q_22 | exact q_23 | exact q_24 | fail)) | refine O_nil ?_ | refine Q_nil ?_ | refine q_j ?_ | refine q_k ?_ | refine q_d ?_ | refine q_a ?_ | refine q_b ?_ | refine q_c ?_ | refine A_ct rfl ?_ | refine A_cf rfl ?_ | refine A_skip ?_ | refine A_exit ?_ | refine A_ret ?_ | refine q_l ?_ | refine q_m ?_ | refine q_n ?_ | refine q_h ?_ | refine q_o ?_ | refine q_e ?_ | refine q_f ?_ | refine q_g ?_ | fail)
          exact Wk_sel ⟨rfl, rfl, rfl, rfl, rfl, trivial⟩ ⟨rfl, rfl, trivial⟩
        | succ j =>
          have hjl : j < l.length := by omega
          have hjj : (((j + 1 : Nat) : Int) - 1) = (j : Int) := by omega
          have hlr : leadR l r (j + 1) = l[j] := by
            show l[j]?.getD r = _
            rw [List.getElem?_eq_getElem hjl]; rfl
          rw [hlr]
          repeat (first | refine A_seq ?_ | refine A_block ?_ | refine R_list ?_ | ((first | apply O_y rfl rfl rfl | apply Q_y rfl rfl rfl); (first | exact q_1 | exact q_2 | exact q_3 | exact q_4 | exact R_loadi tabOk rfl rfl rfl rfl (by first | exact win_flat0 rteD_len l j _ hjl (by decide) | exact win_flat rteD_len l j _ _ hjl (by decide) | exact win_flat2 rteD_len l j _ _ _ hjl (by decide) | rfl) rfl rfl | exact q_6 | exact q_7 | exact q_8 | exact q_9 | exact q_10 | exact q_11 | exact q_12 | exact q_13 | exact q_14 | exact q_15 | exact q_16 | exact q_17 | exact q_18 | exact q_19 | exact q_20 | exact q_21 | exact q_22 | exact q_23 | exact q_24 | (exact R_index (j := j) tabOk rfl rfl rfl rfl rfl hjj hjl))) | refine O_nil ?_ | refine Q_nil ?_ | refine q_j ?_ | refine q_k ?_ | refine q_d ?_ | refine q_a ?_ | refine q_b ?_ | refine q_c ?_ | refine A_ct rfl ?_ | refine A_cf rfl ?_ | refine A_skip ?_ | refine A_exit ?_ | refine A_ret ?_ | refine q_l ?_ | refine q_m ?_ | refine q_n ?_ | refine q_h ?_ | refine q_o ?_ | refine q_e ?_ | refine q_f ?_ | refine q_g ?_ | fail)
          exact Wk_sel ⟨rfl, rfl, rfl, rfl, rfl, trivial⟩ ⟨rfl, rfl, trivial⟩
      obtain ⟨s, hs⟩ : ∃ s, leadR l r k = s := ⟨_, rfl⟩
      rw [hs] at hsm ⊢
      have hhs : ∀ x ∈ s :: l, 0 ≤ x.h ∧ x.h < 4294967296 := fun x hx => (List.mem_cons.1 hx).elim (fun h => by rw [h]; exact hh s hsm) (hhl x)
      have hw := (refLed_A l s hok hhs hn).reid (id := 8) rfl
      have hg := (led_A l s hok hhs (by omega)).reid (id := 9) rfl
      have ha := (led_A l s hok hhs (by omega)).reid (id := 10) rfl
      have hIl := ledH_len l s
      obtain ⟨IS, hIS⟩ : ∃ IS, ledH l s = IS := ⟨_, rfl⟩
      rw [hIS] at hw hg ha hIl
      have hho := hops_A IS IS (by omega)
      rw [show decide (IS = IS) = true by simp] at hho
      have hdl : (IS.flatMap hopD).length = IS.length * 2 := flat_len hopD_len _
      repeat (first | refine A_seq ?_ | refine A_block ?_ | refine R_list ?_ | ((first | apply O_y rfl rfl rfl | apply Q_y rfl rfl rfl); (first | exact q_1 | exact q_2 | exact q_3 | exact q_4 | exact q_5 | exact q_6 | exact q_7 | exact q_8 | exact q_9 | exact q_10 | exact q_11 | exact q_12 | exact q_13 | exact q_14 | exact q_15 | exact q_16 | exact q_17 | exact q_18 | exact q_19 | exact q_20 | exact q_21 | exact q_22 | exact q_23 | exact q_24 | fail)) | refine O_nil ?_ | refine Q_nil ?_ | refine q_j ?_ | refine q_k ?_ | refine q_d ?_ | refine q_a ?_ | refine q_b ?_ | refine q_c ?_ | refine A_ct rfl ?_ | refine A_cf rfl ?_ | refine A_skip ?_ | refine A_exit ?_ | refine A_ret ?_ | refine q_l ?_ | refine q_m ?_ | refine q_n ?_ | refine q_h ?_ | refine q_o ?_ | refine q_e ?_ | refine q_f ?_ | refine q_g ?_ | fail)
      refine O_cRow rfl rfl rfl rfl rfl hw rfl ?_
      refine O_weaken (Wk_freeze (id := 8) rfl) ?_
      repeat (first | refine A_seq ?_ | refine A_block ?_ | refine R_list ?_ | ((first | apply O_y rfl rfl rfl | apply Q_y rfl rfl rfl); (first | exact q_1 | exact q_2 | exact q_3 | exact q_4 | exact q_5 | exact q_6 | exact q_7 | exact q_8 | exact q_9 | exact q_10 | exact q_11 | exact q_12 | exact q_13 | exact q_14 | exact q_15 | exact q_16 | exact q_17 | exact q_18 | exact q_19 | exact q_20 | exact q_21 | exact q_22 | exact q_23 | exact q_24 | fail)) | refine O_nil ?_ | refine Q_nil ?_ | refine q_j ?_ | refine q_k ?_ | refine q_d ?_ | refine q_a ?_ | refine q_b ?_ | refine q_c ?_ | refine A_ct rfl ?_ | refine A_cf rfl ?_ | refine A_skip ?_ | refine A_exit ?_ | refine A_ret ?_ | refine q_l ?_ | refine q_m ?_ | refine q_n ?_ | refine q_h ?_ | refine q_o ?_ | refine q_e ?_ | refine q_f ?_ | refine q_g ?_ | fail)
      refine N_begin [] mixed ?_
      (apply q_P 0 rfl (by kernel_rfl) rfl rfl rfl; (first | exact q_1 | exact q_2 | exact q_3 | exact q_4 | exact q_5 | exact q_6 | exact q_7 | exact q_8 | exact q_9 | exact q_10 | exact q_11 | exact q_12 | exact q_13 | exact q_14 | exact q_15 | exact q_16 | exact q_17 | exact q_18 | exact q_19 | exact q_20 | exact q_21 | exact q_22 | exact q_23 | exact q_24 | fail))
      (apply q_P 1 rfl (by kernel_rfl) rfl rfl rfl; (first | exact q_1 | exact q_2 | exact q_3 | exact q_4 | exact q_5 | exact q_6 | exact q_7 | exact q_8 | exact q_9 | exact q_10 | exact q_11 | exact q_12 | exact q_13 | exact q_14 | exact q_15 | exact q_16 | exact q_17 | exact q_18 | exact q_19 | exact q_20 | exact q_21 | exact q_22 | exact q_23 | exact q_24 | fail))
      (apply q_P 3 rfl (by kernel_rfl) rfl rfl rfl; (first | exact q_1 | exact q_2 | exact q_3 | exact q_4 | exact q_5 | exact q_6 | exact q_7 | exact q_8 | exact q_9 | exact q_10 | exact q_11 | exact q_12 | exact q_13 | exact q_14 | exact q_15 | exact q_16 | exact q_17 | exact q_18 | exact q_19 | exact q_20 | exact q_21 | exact q_22 | exact q_23 | exact q_24 | fail))
      (apply q_P 4 rfl (by kernel_rfl) rfl rfl rfl; (first | exact q_1 | exact q_2 | exact q_3 | exact q_4 | exact q_5 | exact q_6 | exact q_7 | exact q_8 | exact q_9 | exact q_10 | exact q_11 | exact q_12 | exact q_13 | exact q_14 | exact q_15 | exact q_16 | exact q_17 | exact q_18 | exact q_19 | exact q_20 | exact q_21 | exact q_22 | exact q_23 | exact q_24 | fail))
      refine N_one (j := 2) (by kernel_rfl) ?_
      refine T_cRow rfl rfl rfl rfl rfl rfl hg rfl ?_
      refine N_one (j := 5) (by kernel_rfl) ?_
      refine T_cRow rfl rfl rfl rfl rfl rfl ha rfl ?_
      (apply q_P 6 rfl (by kernel_rfl) rfl rfl rfl; (first | exact q_1 | exact q_2 | exact q_3 | exact q_4 | exact q_5 | exact q_6 | exact q_7 | exact q_8 | exact q_9 | exact q_10 | exact q_11 | exact q_12 | exact q_13 | exact q_14 | exact q_15 | exact q_16 | exact q_17 | exact q_18 | exact q_19 | exact q_20 | exact q_21 | exact q_22 | exact q_23 | exact q_24 | fail))
      (apply q_P 7 rfl (by kernel_rfl) rfl rfl rfl; (first | exact q_1 | exact q_2 | exact q_3 | exact q_4 | exact q_5 | exact q_6 | exact q_7 | exact q_8 | exact q_9 | exact q_10 | exact q_11 | exact q_12 | exact q_13 | exact q_14 | exact q_15 | exact q_16 | exact q_17 | exact q_18 | exact q_19 | exact q_20 | exact q_21 | exact q_22 | exact q_23 | exact q_24 | fail))
      refine N_done (by kernel_rfl) ?_
      refine q_j ?_
      refine A_weaken (Wk_sel (e1 := [(0, rtesA l), (3, .ptr 3 0), (5, rtesA l), (6, intA ((k : Int) - 1)), (8, hopsA IS), (9, .row 9), (10, .row 10)]) (h1 := [(3, rteB1 r), (9, hopB IS), (10, hopB IS)]) ⟨rfl, rfl, rfl, rfl, rfl, rfl, rfl, trivial⟩ ⟨rfl, rfl, rfl, trivial⟩) ?_
      repeat (first | refine A_seq ?_ | refine A_block ?_ | refine R_list ?_ | ((first | apply O_y rfl rfl rfl | apply Q_y rfl rfl rfl); (first | exact q_1 | exact q_2 | exact q_3 | exact q_4 | exact q_5 | exact q_6 | exact q_7 | exact q_8 | exact q_9 | exact q_10 | exact q_11 | exact q_12 | exact q_13 | exact q_14 | exact q_15 | exact q_16 | exact q_17 | exact q_18 | exact q_19 | exact q_20 | exact q_21 | exact q_22 | exact q_23 | exact q_24 | fail)) | refine O_nil ?_ | refine Q_nil ?_ | refine q_j ?_ | refine q_k ?_ | refine q_d ?_ | refine q_a ?_ | refine q_b ?_ | refine q_c ?_ | refine A_ct rfl ?_ | refine A_cf rfl ?_ | refine A_skip ?_ | refine A_exit ?_ | refine A_ret ?_ | refine q_l ?_ | refine q_m ?_ | refine q_n ?_ | refine q_h ?_ | refine q_o ?_ | refine q_e ?_ | refine q_f ?_ | refine q_g ?_ | (refine O_cL rfl rfl rfl rfl rfl hho rfl (fun _ _ _ => val_mk _ _ _ _ _ rfl rfl) ?_))
      refine A_loop (fun x : Nat × List Dat => [(0, rtesA l), (3, .ptr 3 0), (5, rtesA l), (6, intA ((k : Int) - 1)), (8, hopsA IS), (9, .row 9), (10, .row 10), (11, intA (x.1 : Int))]) (fun x => [(3, rteB1 r), (9, .row 35 2 IS.length x.2), (10, hopB IS)]) (fun x => x.1 ≤ IS.length ∧ x.2.length = IS.length * 2) (fun x => IS.length - x.1) (0, IS.flatMap hopD) ⟨Nat.zero_le _, hdl⟩ (Wk_sel ⟨rfl, rfl, rfl, rfl, rfl, rfl, rfl, rfl, trivial⟩ ⟨rfl, rfl, rfl, trivial⟩) ?_
      rintro ⟨j, ds⟩ ⟨hj, hds⟩
      dsimp only at hj hds ⊢
      by_cases hjl : j < IS.length
      ·
        repeat (first | refine A_seq ?_ | refine A_block ?_ | refine R_list ?_ | ((first | apply O_y rfl rfl rfl | apply Q_y rfl rfl rfl); (first | exact q_1 | exact q_2 | exact q_3 | exact q_4 | exact q_5 | exact q_6 | exact q_7 | exact q_8 | exact q_9 | exact q_10 | exact q_11 | exact q_12 | exact q_13 | exact q_14 | exact q_15 | exact q_16 | exact q_17 | exact q_18 | exact q_19 | exact q_20 | exact q_21 | exact q_22 | exact q_23 | exact q_24 | fail)) | refine O_nil ?_ | refine Q_nil ?_ | refine q_j ?_ | refine q_k ?_ | refine q_d ?_ | refine q_a ?_ | refine q_b ?_ | refine q_c ?_ | refine A_ct rfl ?_ | refine A_cf rfl ?_ | refine A_skip ?_ | refine A_exit ?_ | refine A_ret ?_ | refine q_l ?_ | refine q_m ?_ | refine q_n ?_ | refine q_h ?_ | refine q_o ?_ | refine q_e ?_ | refine q_f ?_ | refine q_g ?_ | (refine O_storee tabOk rfl rfl rfl rfl rfl rfl rfl rfl rfl rfl (by omega) (by omega) ?_))
        exact ⟨(j + 1, _), ⟨by dsimp only; omega, by dsimp only; simp only [List.length_append, List.length_take, List.length_drop, List.length_cons, List.length_nil]; omega⟩, by dsimp only; omega, Wk_sel ⟨rfl, rfl, rfl, rfl, rfl, rfl, rfl, rfl, trivial⟩ ⟨rfl, rfl, rfl, trivial⟩⟩
      ·
        repeat (first | refine A_seq ?_ | refine A_block ?_ | refine R_list ?_ | ((first | apply O_y rfl rfl rfl | apply Q_y rfl rfl rfl); (first | exact q_1 | exact q_2 | exact q_3 | exact q_4 | exact q_5 | exact q_6 | exact q_7 | exact q_8 | exact q_9 | exact q_10 | exact q_11 | exact q_12 | exact q_13 | exact q_14 | exact q_15 | exact q_16 | exact q_17 | exact q_18 | exact q_19 | exact q_20 | exact q_21 | exact q_22 | exact q_23 | exact q_24 | fail)) | refine O_nil ?_ | refine Q_nil ?_ | refine q_j ?_ | refine q_k ?_ | refine q_d ?_ | refine q_a ?_ | refine q_b ?_ | refine q_c ?_ | refine A_ct rfl ?_ | refine A_cf rfl ?_ | refine A_skip ?_ | refine A_exit ?_ | refine A_ret ?_ | refine q_l ?_ | refine q_m ?_ | refine q_n ?_ | refine q_h ?_ | refine q_o ?_ | refine q_e ?_ | refine q_f ?_ | refine q_g ?_ | fail)
        refine A_loop (fun x : Nat × List Dat => [(0, rtesA l), (3, .ptr 3 0), (5, rtesA l), (6, intA ((k : Int) - 1)), (8, hopsA IS), (9, .row 9), (10, .row 10), (12, intA (x.1 : Int))]) (fun x => [(3, rteB1 r), (9, .row 35 2 (IS.length + x.1) x.2), (10, hopB IS)]) (fun x => x.1 ≤ 9) (fun x => 9 - x.1) (0, ds) (Nat.zero_le _) (Wk_sel ⟨rfl, rfl, rfl, rfl, rfl, rfl, rfl, rfl, trivial⟩ ⟨rfl, rfl, rfl, trivial⟩) ?_
        clear hds hj hjl
        rintro ⟨j, ds⟩ hj
        dsimp only at hj ⊢
        by_cases hjl : j < 9
        ·
          repeat (first | refine A_seq ?_ | refine A_block ?_ | refine R_list ?_ | ((first | apply O_y rfl rfl rfl | apply Q_y rfl rfl rfl); (first | exact q_1 | exact q_2 | exact q_3 | exact q_4 | exact q_5 | exact q_6 | exact q_7 | exact q_8 | exact q_9 | exact q_10 | exact q_11 | exact q_12 | exact q_13 | exact q_14 | exact q_15 | exact q_16 | exact q_17 | exact q_18 | exact q_19 | exact q_20 | exact q_21 | exact q_22 | exact q_23 | exact q_24 | fail)) | refine O_nil ?_ | refine Q_nil ?_ | refine q_j ?_ | refine q_k ?_ | refine q_d ?_ | refine q_a ?_ | refine q_b ?_ | refine q_c ?_ | refine A_ct rfl ?_ | refine A_cf rfl ?_ | refine A_skip ?_ | refine A_exit ?_ | refine A_ret ?_ | refine q_l ?_ | refine q_m ?_ | refine q_n ?_ | refine q_h ?_ | refine q_o ?_ | refine q_e ?_ | refine q_f ?_ | refine q_g ?_ | (first | refine O_appR tabOk rfl rfl rfl rfl rfl rfl rfl rfl rfl rfl rfl (by first | exact Src.row rfl | exact Src.dat _ _ | exact Src.nil) rfl (by omega) ?_ | refine O_appN tabOk rfl rfl rfl rfl rfl rfl rfl rfl rfl rfl (by first | exact Src.row rfl | exact Src.dat _ _ | exact Src.nil) rfl (by omega) ?_))
          exact ⟨(j + 1, _), by dsimp only; omega, by dsimp only; omega, Wk_sel ⟨rfl, rfl, rfl, rfl, rfl, rfl, rfl, rfl, trivial⟩ ⟨rfl, rfl, rfl, trivial⟩⟩
        · have : j = 9 := by omega
          subst this
          repeat (first | refine A_seq ?_ | refine A_block ?_ | refine R_list ?_ | ((first | apply O_y rfl rfl rfl | apply Q_y rfl rfl rfl); (first | exact q_1 | exact q_2 | exact q_3 | exact q_4 | exact q_5 | exact q_6 | exact q_7 | exact q_8 | exact q_9 | exact q_10 | exact q_11 | exact q_12 | exact q_13 | exact q_14 | exact q_15 | exact q_16 | exact q_17 | exact q_18 | exact q_19 | exact q_20 | exact q_21 | exact q_22 | exact q_23 | exact q_24 | fail)) | refine O_nil ?_ | refine Q_nil ?_ | refine q_j ?_ | refine q_k ?_ | refine q_d ?_ | refine q_a ?_ | refine q_b ?_ | refine q_c ?_ | refine A_ct rfl ?_ | refine A_cf rfl ?_ | refine A_skip ?_ | refine A_exit ?_ | refine A_ret ?_ | refine q_l ?_ | refine q_m ?_ | refine q_n ?_ | refine q_h ?_ | refine q_o ?_ | refine q_e ?_ | refine q_f ?_ | refine q_g ?_ | (refine O_cL rfl rfl rfl rfl rfl hho rfl (fun _ _ _ => val_mk _ _ _ _ _ rfl rfl) ?_))
          exact ⟨k + 1, ⟨by omega, by omega⟩, by omega, Wk_sel ⟨rfl, rfl, rfl, congrArg some (congrArg intA (show (k : Int) - 1 + 1 = ((k + 1 : Nat) : Int) - 1 by omega)), trivial⟩ ⟨rfl, trivial⟩⟩
    ·
      repeat (first | refine A_seq ?_ | refine A_block ?_ | refine R_list ?_ | ((first | apply O_y rfl rfl rfl | apply Q_y rfl rfl rfl); (first | exact q_1 | exact q_2 | exact q_3 | exact q_4 | exact q_5 | exact q_6 | exact q_7 | exact q_8 | exact q_9 | exact q_10 | exact q_11 | exact q_12 | exact q_13 | exact q_14 | exact q_15 | exact q_16 | exact q_17 | exact q_18 | exact q_19 | exact q_20 | exact q_21 | exact q_22 | exact q_23 | exact q_24 | fail)) | refine O_nil ?_ | refine Q_nil ?_ | refine q_j ?_ | refine q_k ?_ | refine q_d ?_ | refine q_a ?_ | refine q_b ?_ | refine q_c ?_ | refine A_ct rfl ?_ | refine A_cf rfl ?_ | refine A_skip ?_ | refine A_exit ?_ | refine A_ret ?_ | refine q_l ?_ | refine q_m ?_ | refine q_n ?_ | refine q_h ?_ | refine q_o ?_ | refine q_e ?_ | refine q_f ?_ | refine q_g ?_ | (first | refine O_c rfl rfl rfl rfl rfl hsame (fun _ => rfl) ?_ | refine O_c rfl rfl rfl rfl rfl hawake (fun _ => rfl) ?_))
      exact X_ret rfl ⟨rfl, rfl⟩
  ·
    repeat (first | refine A_seq ?_ | refine A_block ?_ | refine R_list ?_ | ((first | apply O_y rfl rfl rfl | apply Q_y rfl rfl rfl); (first | exact q_1 | exact q_2 | exact q_3 | exact q_4 | exact q_5 | exact q_6 | exact q_7 | exact q_8 | exact q_9 | exact q_10 | exact q_11 | exact q_12 | exact q_13 | exact q_14 | exact q_15 | exact q_16 | exact q_17 | exact q_18 | exact q_19 | exact q_20 | exact q_21 | exact q_22 | exact q_23 | exact q_24 | fail)) | refine O_nil ?_ | refine Q_nil ?_ | refine q_j ?_ | refine q_k ?_ | refine q_d ?_ | refine q_a ?_ | refine q_b ?_ | refine q_c ?_ | refine A_ct rfl ?_ | refine A_cf rfl ?_ | refine A_skip ?_ | refine A_exit ?_ | refine A_ret ?_ | refine q_l ?_ | refine q_m ?_ | refine q_n ?_ | refine q_h ?_ | refine q_o ?_ | refine q_e ?_ | refine q_f ?_ | refine q_g ?_ | (first | refine O_c rfl rfl rfl rfl rfl hsame (fun _ => rfl) ?_ | refine O_c rfl rfl rfl rfl rfl hawake (fun _ => rfl) ?_))
    exact X_ret rfl ⟨rfl, rfl⟩
end Go.Proofs.YtnnclkeoakjjkaaGreat.Ab

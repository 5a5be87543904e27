/-
  TrieCovered: the walk.
-/
import Derived.Test.YtplgpbadpdmeeaaTblAwake
import Derived.Test.YtplgpbadpdmeeaaTCov
import Derived.Test.YtplgpbadpdmeeaaCvdLaw
namespace Go.Proofs.Ytplgpbadpdmeeaa.Ab
set_option linter.unusedVariables false
set_option maxRecDepth 100000
open Go.RowKit
set_option linter.unusedSimpArgs false
attribute [local irreducible] AWp AOps AQ AYield AEff ACall AWk AAny AAt AThen AIn APost NoPanic

theorem any_succ {l : List Pfx} {i : Nat} (hi : i < l.length) (x : Int) : (l.take (i + 1)).any (inB x) = ((l.take i).any (inB x) || inB x l[i]) := by
  rw [List.take_succ_eq_append_getElem hi, List.any_append]
  simp
theorem cnt_succ {l : List Pfx} {i : Nat} (hi : i < l.length) (x : Int) : cnt x (l.take (i + 1)) = cnt x (l.take i) + if inB x l[i] then 1 else 0 := by
  unfold cnt
  rw [List.take_succ_eq_append_getElem hi, List.countP_append]
  simp [List.countP_cons]
theorem cnt_le (x : Int) (l : List Pfx) (i : Nat) : cnt x (l.take i) ≤ l.length := by
  unfold cnt
  have h1 := List.countP_le_length (p := inB x) (l := l.take i)
  have h2 : (l.take i).length ≤ l.length := by simp; omega
  omega


set_option maxHeartbeats 8000000 in
theorem covered_A (l2 rest : List Pfx) (x : Int) (x0 : 0 ≤ x) (x1 : x < 4294967296) (hl : ∀ p ∈ l2, p.ok) (hn : l2.length ≤ 100) (hr : rest ≠ [] → l2.length = 100) : ACall Try.prog 4 [.d (.sl (l2.flatMap pfxD ++ rest.flatMap pfxD) (l2.length + rest.length)), .d (.sc (.int .u32 x))] [] (Just (boolA true)) := by
  refine ACall_of tabOk Try.func4 rfl Try.ntmps4 (congrArg Array.toList Try.results4) (by kernel_rfl) rfl ?_
  have hmin : (if (100 : Int) < ((l2.length + rest.length : Nat) : Int) then (100 : Int) else ((l2.length + rest.length : Nat) : Int)) = (l2.length : Int) := by
    cases rest with
    | nil => simp; omega
    | cons a r => have := hr (by simp); simp; omega
  repeat (first
    | refine A_seq ?_
    | refine A_block ?_
    | refine R_list ?_
    | refine R_quiet rfl mixed (by kernel_rfl) ?_
    | (apply O_y rfl rfl rfl; (first | exact Y_move rfl rfl | exact Y_assign rfl rfl | exact R_index tabOk rfl rfl rfl rfl rfl rfl (by omega) | exact R_fieldi tabOk rfl rfl rfl | exact R_loadi tabOk rfl rfl rfl rfl rfl rfl rfl | exact R_len tabOk rfl rfl rfl | exact R_load tabOk rfl rfl rfl rfl rfl rfl rfl rfl rfl | exact R_field tabOk rfl rfl rfl rfl | exact Y_add rfl rfl rfl (by first | exact wrap_succ (by omega) | exact wrap_pred (by omega) (by omega) | exact wrap_i64 ⟨by omega, by omega⟩ | rfl) | exact Y_sub rfl rfl rfl (by first | exact wrap_succ (by omega) | exact wrap_pred (by omega) (by omega) | exact wrap_i64 ⟨by omega, by omega⟩ | rfl) | exact R_cmpT rfl rfl rfl rfl (by first | (simp only [decide_eq_true_eq, beq_iff_eq, bne_iff_ne, ne_eq]; done) | (simp only [decide_eq_true_eq, beq_iff_eq, bne_iff_ne, ne_eq]; omega)) | exact R_cmpF rfl rfl rfl rfl (by first | (simp only [decide_eq_false_iff_not, beq_eq_false_iff_ne, bne_eq_false_iff_eq, ne_eq]; done) | (simp only [decide_eq_false_iff_not, beq_eq_false_iff_ne, bne_eq_false_iff_eq, ne_eq]; omega)) | exact Y_ibin rfl rfl rfl rfl | exact Y_extract rfl rfl rfl | exact R_lenr tabOk rfl rfl rfl rfl | exact R_lenn tabOk rfl rfl rfl | exact R_indexr tabOk rfl rfl rfl rfl rfl rfl rfl (by omega) | exact R_fielde tabOk rfl rfl rfl rfl | exact R_loade tabOk rfl rfl rfl rfl rfl rfl rfl rfl rfl | exact Y_not rfl rfl | exact Y_pick_t rfl rfl (by first | rfl | assumption) rfl | exact Y_pick_f rfl rfl (by first | rfl | assumption) rfl | exact Y_pick_b rfl rfl rfl rfl | exact R_build tabOk rfl rfl rfl rfl rfl rfl | (first | exact R_min rfl rfl rfl hmin | exact R_sliceD tabOk rfl rfl rfl rfl rfl rfl (by omega))))
    | (apply Q_y rfl rfl rfl; (first | exact Y_move rfl rfl | exact Y_assign rfl rfl | exact R_index tabOk rfl rfl rfl rfl rfl rfl (by omega) | exact R_fieldi tabOk rfl rfl rfl | exact R_loadi tabOk rfl rfl rfl rfl rfl rfl rfl | exact R_len tabOk rfl rfl rfl | exact R_load tabOk rfl rfl rfl rfl rfl rfl rfl rfl rfl | exact R_field tabOk rfl rfl rfl rfl | exact Y_add rfl rfl rfl (by first | exact wrap_succ (by omega) | exact wrap_pred (by omega) (by omega) | exact wrap_i64 ⟨by omega, by omega⟩ | rfl) | exact Y_sub rfl rfl rfl (by first | exact wrap_succ (by omega) | exact wrap_pred (by omega) (by omega) | exact wrap_i64 ⟨by omega, by omega⟩ | rfl) | exact R_cmpT rfl rfl rfl rfl (by first | (simp only [decide_eq_true_eq, beq_iff_eq, bne_iff_ne, ne_eq]; done) | (simp only [decide_eq_true_eq, beq_iff_eq, bne_iff_ne, ne_eq]; omega)) | exact R_cmpF rfl rfl rfl rfl (by first | (simp only [decide_eq_false_iff_not, beq_eq_false_iff_ne, bne_eq_false_iff_eq, ne_eq]; done) | (simp only [decide_eq_false_iff_not, beq_eq_false_iff_ne, bne_eq_false_iff_eq, ne_eq]; omega)) | exact Y_ibin rfl rfl rfl rfl | exact Y_extract rfl rfl rfl | exact R_lenr tabOk rfl rfl rfl rfl | exact R_lenn tabOk rfl rfl rfl | exact R_indexr tabOk rfl rfl rfl rfl rfl rfl rfl (by omega) | exact R_fielde tabOk rfl rfl rfl rfl | exact R_loade tabOk rfl rfl rfl rfl rfl rfl rfl rfl rfl | exact Y_not rfl rfl | exact Y_pick_t rfl rfl (by first | rfl | assumption) rfl | exact Y_pick_f rfl rfl (by first | rfl | assumption) rfl | exact Y_pick_b rfl rfl rfl rfl | exact R_build tabOk rfl rfl rfl rfl rfl rfl | (first | exact R_min rfl rfl rfl hmin | exact R_sliceD tabOk rfl rfl rfl rfl rfl rfl (by omega))))
    | refine O_nil ?_
    | refine Q_nil ?_
    | refine X_then_normal ?_
    | refine X_in_normal ?_
    | refine O_box rfl rfl rfl rfl rfl rfl rfl ?_
    | refine O_alloc tabOk rfl rfl rfl rfl rfl rfl ?_
    | refine O_store tabOk rfl rfl rfl rfl rfl rfl rfl rfl rfl rfl rfl ?_
    | refine O_slice tabOk rfl rfl rfl rfl rfl rfl rfl rfl rfl rfl rfl ?_
    | refine A_condt rfl (by first | rfl | assumption | (first | (simp only [decide_eq_true_eq]; done) | (simp only [decide_eq_true_eq]; omega))) ?_
    | refine A_condf rfl (by first | rfl | assumption | (first | (simp only [decide_eq_false_iff_not]; done) | (simp only [decide_eq_false_iff_not]; omega))) ?_
    | refine A_skip ?_
    | refine A_exit ?_
    | refine A_ret ?_
    | refine X_then_exit ?_
    | refine X_then_ret ?_
    | refine X_in_same ?_
    | refine X_in_other rfl ?_
    | refine X_in_ret ?_
    | refine O_s rfl rfl rfl ?_
    | refine Q_s rfl rfl rfl ?_
    | refine O_sn rfl rfl ?_
    | refine O_c rfl rfl rfl rfl rfl awake_A (fun _ => rfl) ?_)
  refine O_weaken (Wk_see (t := 23) rfl see_pfx) ?_
  refine O_weaken (Wk_see (t := 0) rfl see_pfx) ?_
  refine O_cRow rfl rfl rfl rfl rfl (cover_A 24 (by omega) l2 hl (by omega)) rfl ?_
  have hcl : (coverT l2).length ≤ l2.length := coverT_len l2
  have hco : ∀ p ∈ coverT l2, p.ok := fun p hp => ((coverT_canon l2 hl).1.fine p hp).1
  have hcg : ∀ p ∈ coverT l2, good p := fun p hp => ((coverT_canon l2 hl).1.fine p hp).2
  refine O_weaken (Wk_freeze (id := 24) rfl) ?_
  repeat (first
    | refine A_seq ?_
    | refine A_block ?_
    | refine R_list ?_
    | refine R_quiet rfl mixed (by kernel_rfl) ?_
    | (apply O_y rfl rfl rfl; (first | exact Y_move rfl rfl | exact Y_assign rfl rfl | exact R_index tabOk rfl rfl rfl rfl rfl rfl (by omega) | exact R_fieldi tabOk rfl rfl rfl | exact R_loadi tabOk rfl rfl rfl rfl rfl rfl rfl | exact R_len tabOk rfl rfl rfl | exact R_load tabOk rfl rfl rfl rfl rfl rfl rfl rfl rfl | exact R_field tabOk rfl rfl rfl rfl | exact Y_add rfl rfl rfl (by first | exact wrap_succ (by omega) | exact wrap_pred (by omega) (by omega) | exact wrap_i64 ⟨by omega, by omega⟩ | rfl) | exact Y_sub rfl rfl rfl (by first | exact wrap_succ (by omega) | exact wrap_pred (by omega) (by omega) | exact wrap_i64 ⟨by omega, by omega⟩ | rfl) | exact R_cmpT rfl rfl rfl rfl (by first | (simp only [decide_eq_true_eq, beq_iff_eq, bne_iff_ne, ne_eq]; done) | (simp only [decide_eq_true_eq, beq_iff_eq, bne_iff_ne, ne_eq]; omega)) | exact R_cmpF rfl rfl rfl rfl (by first | (simp only [decide_eq_false_iff_not, beq_eq_false_iff_ne, bne_eq_false_iff_eq, ne_eq]; done) | (simp only [decide_eq_false_iff_not, beq_eq_false_iff_ne, bne_eq_false_iff_eq, ne_eq]; omega)) | exact Y_ibin rfl rfl rfl rfl | exact Y_extract rfl rfl rfl | exact R_lenr tabOk rfl rfl rfl rfl | exact R_lenn tabOk rfl rfl rfl | exact R_indexr tabOk rfl rfl rfl rfl rfl rfl rfl (by omega) | exact R_fielde tabOk rfl rfl rfl rfl | exact R_loade tabOk rfl rfl rfl rfl rfl rfl rfl rfl rfl | exact Y_not rfl rfl | exact Y_pick_t rfl rfl (by first | rfl | assumption) rfl | exact Y_pick_f rfl rfl (by first | rfl | assumption) rfl | exact Y_pick_b rfl rfl rfl rfl | exact R_build tabOk rfl rfl rfl rfl rfl rfl | fail))
    | (apply Q_y rfl rfl rfl; (first | exact Y_move rfl rfl | exact Y_assign rfl rfl | exact R_index tabOk rfl rfl rfl rfl rfl rfl (by omega) | exact R_fieldi tabOk rfl rfl rfl | exact R_loadi tabOk rfl rfl rfl rfl rfl rfl rfl | exact R_len tabOk rfl rfl rfl | exact R_load tabOk rfl rfl rfl rfl rfl rfl rfl rfl rfl | exact R_field tabOk rfl rfl rfl rfl | exact Y_add rfl rfl rfl (by first | exact wrap_succ (by omega) | exact wrap_pred (by omega) (by omega) | exact wrap_i64 ⟨by omega, by omega⟩ | rfl) | exact Y_sub rfl rfl rfl (by first | exact wrap_succ (by omega) | exact wrap_pred (by omega) (by omega) | exact wrap_i64 ⟨by omega, by omega⟩ | rfl) | exact R_cmpT rfl rfl rfl rfl (by first | (simp only [decide_eq_true_eq, beq_iff_eq, bne_iff_ne, ne_eq]; done) | (simp only [decide_eq_true_eq, beq_iff_eq, bne_iff_ne, ne_eq]; omega)) | exact R_cmpF rfl rfl rfl rfl (by first | (simp only [decide_eq_false_iff_not, beq_eq_false_iff_ne, bne_eq_false_iff_eq, ne_eq]; done) | (simp only [decide_eq_false_iff_not, beq_eq_false_iff_ne, bne_eq_false_iff_eq, ne_eq]; omega)) | exact Y_ibin rfl rfl rfl rfl | exact Y_extract rfl rfl rfl | exact R_lenr tabOk rfl rfl rfl rfl | exact R_lenn tabOk rfl rfl rfl | exact R_indexr tabOk rfl rfl rfl rfl rfl rfl rfl (by omega) | exact R_fielde tabOk rfl rfl rfl rfl | exact R_loade tabOk rfl rfl rfl rfl rfl rfl rfl rfl rfl | exact Y_not rfl rfl | exact Y_pick_t rfl rfl (by first | rfl | assumption) rfl | exact Y_pick_f rfl rfl (by first | rfl | assumption) rfl | exact Y_pick_b rfl rfl rfl rfl | exact R_build tabOk rfl rfl rfl rfl rfl rfl | fail))
    | refine O_nil ?_
    | refine Q_nil ?_
    | refine X_then_normal ?_
    | refine X_in_normal ?_
    | refine O_box rfl rfl rfl rfl rfl rfl rfl ?_
    | refine O_alloc tabOk rfl rfl rfl rfl rfl rfl ?_
    | refine O_store tabOk rfl rfl rfl rfl rfl rfl rfl rfl rfl rfl rfl ?_
    | refine O_slice tabOk rfl rfl rfl rfl rfl rfl rfl rfl rfl rfl rfl ?_
    | refine A_condt rfl (by first | rfl | assumption | (first | (simp only [decide_eq_true_eq]; done) | (simp only [decide_eq_true_eq]; omega))) ?_
    | refine A_condf rfl (by first | rfl | assumption | (first | (simp only [decide_eq_false_iff_not]; done) | (simp only [decide_eq_false_iff_not]; omega))) ?_
    | refine A_skip ?_
    | refine A_exit ?_
    | refine A_ret ?_
    | refine X_then_exit ?_
    | refine X_then_ret ?_
    | refine X_in_same ?_
    | refine X_in_other rfl ?_
    | refine X_in_ret ?_
    | refine O_s rfl rfl rfl ?_
    | refine Q_s rfl rfl rfl ?_
    | refine O_sn rfl rfl ?_
    | fail)
  refine A_loop (fun s : Nat × Int => [(0, pfxsA l2), (1, .d (.sc (.int .u32 x))), (5, pfxsA (coverT l2)), (6, .d (.sc (.int .u32 s.2))), (7, intA ((s.1 : Int) - 1))]) (fun _ => []) (fun s => s.1 ≤ l2.length + 1 ∧ 0 ≤ s.2 ∧ s.2 < 4294967296) (fun s => l2.length + 1 - s.1) (0, x) ⟨by omega, x0, x1⟩ (Wk_sel ⟨rfl, rfl, rfl, rfl, rfl, trivial⟩ trivial) ?_
  rintro ⟨k, y⟩ ⟨hk, y0, y1⟩
  dsimp only at hk y0 y1 ⊢
  by_cases hlt : k < l2.length + 1
  · cases k with
    | zero =>
      have e0 : (((0 : Nat) : Int) - 1) = -1 := by omega
      rw [e0]
      repeat (first
        | refine A_seq ?_
        | refine A_block ?_
        | refine R_list ?_
        | refine R_quiet rfl mixed (by kernel_rfl) ?_
        | (apply O_y rfl rfl rfl; (first | exact Y_move rfl rfl | exact Y_assign rfl rfl | exact R_index tabOk rfl rfl rfl rfl rfl rfl (by omega) | exact R_fieldi tabOk rfl rfl rfl | exact R_loadi tabOk rfl rfl rfl rfl rfl rfl rfl | exact R_len tabOk rfl rfl rfl | exact R_load tabOk rfl rfl rfl rfl rfl rfl rfl rfl rfl | exact R_field tabOk rfl rfl rfl rfl | exact Y_add rfl rfl rfl (by first | exact wrap_succ (by omega) | exact wrap_pred (by omega) (by omega) | exact wrap_i64 ⟨by omega, by omega⟩ | rfl) | exact Y_sub rfl rfl rfl (by first | exact wrap_succ (by omega) | exact wrap_pred (by omega) (by omega) | exact wrap_i64 ⟨by omega, by omega⟩ | rfl) | exact R_cmpT rfl rfl rfl rfl (by first | (simp only [decide_eq_true_eq, beq_iff_eq, bne_iff_ne, ne_eq]; done) | (simp only [decide_eq_true_eq, beq_iff_eq, bne_iff_ne, ne_eq]; omega)) | exact R_cmpF rfl rfl rfl rfl (by first | (simp only [decide_eq_false_iff_not, beq_eq_false_iff_ne, bne_eq_false_iff_eq, ne_eq]; done) | (simp only [decide_eq_false_iff_not, beq_eq_false_iff_ne, bne_eq_false_iff_eq, ne_eq]; omega)) | exact Y_ibin rfl rfl rfl rfl | exact Y_extract rfl rfl rfl | exact R_lenr tabOk rfl rfl rfl rfl | exact R_lenn tabOk rfl rfl rfl | exact R_indexr tabOk rfl rfl rfl rfl rfl rfl rfl (by omega) | exact R_fielde tabOk rfl rfl rfl rfl | exact R_loade tabOk rfl rfl rfl rfl rfl rfl rfl rfl rfl | exact Y_not rfl rfl | exact Y_pick_t rfl rfl (by first | rfl | assumption) rfl | exact Y_pick_f rfl rfl (by first | rfl | assumption) rfl | exact Y_pick_b rfl rfl rfl rfl | exact R_build tabOk rfl rfl rfl rfl rfl rfl | fail))
        | (apply Q_y rfl rfl rfl; (first | exact Y_move rfl rfl | exact Y_assign rfl rfl | exact R_index tabOk rfl rfl rfl rfl rfl rfl (by omega) | exact R_fieldi tabOk rfl rfl rfl | exact R_loadi tabOk rfl rfl rfl rfl rfl rfl rfl | exact R_len tabOk rfl rfl rfl | exact R_load tabOk rfl rfl rfl rfl rfl rfl rfl rfl rfl | exact R_field tabOk rfl rfl rfl rfl | exact Y_add rfl rfl rfl (by first | exact wrap_succ (by omega) | exact wrap_pred (by omega) (by omega) | exact wrap_i64 ⟨by omega, by omega⟩ | rfl) | exact Y_sub rfl rfl rfl (by first | exact wrap_succ (by omega) | exact wrap_pred (by omega) (by omega) | exact wrap_i64 ⟨by omega, by omega⟩ | rfl) | exact R_cmpT rfl rfl rfl rfl (by first | (simp only [decide_eq_true_eq, beq_iff_eq, bne_iff_ne, ne_eq]; done) | (simp only [decide_eq_true_eq, beq_iff_eq, bne_iff_ne, ne_eq]; omega)) | exact R_cmpF rfl rfl rfl rfl (by first | (simp only [decide_eq_false_iff_not, beq_eq_false_iff_ne, bne_eq_false_iff_eq, ne_eq]; done) | (simp only [decide_eq_false_iff_not, beq_eq_false_iff_ne, bne_eq_false_iff_eq, ne_eq]; omega)) | exact Y_ibin rfl rfl rfl rfl | exact Y_extract rfl rfl rfl | exact R_lenr tabOk rfl rfl rfl rfl | exact R_lenn tabOk rfl rfl rfl | exact R_indexr tabOk rfl rfl rfl rfl rfl rfl rfl (by omega) | exact R_fielde tabOk rfl rfl rfl rfl | exact R_loade tabOk rfl rfl rfl rfl rfl rfl rfl rfl rfl | exact Y_not rfl rfl | exact Y_pick_t rfl rfl (by first | rfl | assumption) rfl | exact Y_pick_f rfl rfl (by first | rfl | assumption) rfl | exact Y_pick_b rfl rfl rfl rfl | exact R_build tabOk rfl rfl rfl rfl rfl rfl | fail))
        | refine O_nil ?_
        | refine Q_nil ?_
        | refine X_then_normal ?_
        | refine X_in_normal ?_
        | refine O_box rfl rfl rfl rfl rfl rfl rfl ?_
        | refine O_alloc tabOk rfl rfl rfl rfl rfl rfl ?_
        | refine O_store tabOk rfl rfl rfl rfl rfl rfl rfl rfl rfl rfl rfl ?_
        | refine O_slice tabOk rfl rfl rfl rfl rfl rfl rfl rfl rfl rfl rfl ?_
        | refine A_condt rfl (by first | rfl | assumption | (first | (simp only [decide_eq_true_eq]; done) | (simp only [decide_eq_true_eq]; omega))) ?_
        | refine A_condf rfl (by first | rfl | assumption | (first | (simp only [decide_eq_false_iff_not]; done) | (simp only [decide_eq_false_iff_not]; omega))) ?_
        | refine A_skip ?_
        | refine A_exit ?_
        | refine A_ret ?_
        | refine X_then_exit ?_
        | refine X_then_ret ?_
        | refine X_in_same ?_
        | refine X_in_other rfl ?_
        | refine X_in_ret ?_
        | refine O_s rfl rfl rfl ?_
        | refine Q_s rfl rfl rfl ?_
        | refine O_sn rfl rfl ?_
        | fail)
      refine A_loop (fun s : Nat => [(0, pfxsA l2), (1, .d (.sc (.int .u32 x))), (5, pfxsA (coverT l2)), (6, .d (.sc (.int .u32 y))), (7, intA (-1)), (8, boolA ((l2.take s).any (inB y))), (9, intA 0), (10, intA (s : Int))]) (fun _ => []) (fun s => s ≤ l2.length) (fun s => l2.length - s) 0 (Nat.zero_le _) (Wk_sel ⟨rfl, rfl, rfl, rfl, rfl, rfl, rfl, rfl, trivial⟩ trivial) ?_
      intro i hi
      try dsimp only at hi ⊢
      by_cases hil : i < l2.length
      · have hany := any_succ hil y
        have hin := refIn_A y l2[i] (hl _ (List.getElem_mem hil)) y0 y1
        cases hb : (l2.take i).any (inB y) with
        | true =>
          rw [hb, Bool.true_or] at hany
          repeat (first
            | refine A_seq ?_
            | refine A_block ?_
            | refine R_list ?_
            | refine R_quiet rfl mixed (by kernel_rfl) ?_
            | (apply O_y rfl rfl rfl; (first | exact Y_move rfl rfl | exact Y_assign rfl rfl | exact R_index tabOk rfl rfl rfl rfl rfl rfl (by omega) | exact R_fieldi tabOk rfl rfl rfl | exact R_loadi tabOk rfl rfl rfl rfl (by first | exact win_flat0 pfxD_len l2 i _ hil (by decide) | exact win_flat pfxD_len l2 i _ _ hil (by decide) | exact win_flat2 pfxD_len l2 i _ _ _ hil (by decide) | rfl) rfl rfl | exact R_len tabOk rfl rfl rfl | exact R_load tabOk rfl rfl rfl rfl rfl rfl rfl rfl rfl | exact R_field tabOk rfl rfl rfl rfl | exact Y_add rfl rfl rfl (by first | exact wrap_succ (by omega) | exact wrap_pred (by omega) (by omega) | exact wrap_i64 ⟨by omega, by omega⟩ | rfl) | exact Y_sub rfl rfl rfl (by first | exact wrap_succ (by omega) | exact wrap_pred (by omega) (by omega) | exact wrap_i64 ⟨by omega, by omega⟩ | rfl) | exact R_cmpT rfl rfl rfl rfl (by first | (simp only [decide_eq_true_eq, beq_iff_eq, bne_iff_ne, ne_eq]; done) | (simp only [decide_eq_true_eq, beq_iff_eq, bne_iff_ne, ne_eq]; omega)) | exact R_cmpF rfl rfl rfl rfl (by first | (simp only [decide_eq_false_iff_not, beq_eq_false_iff_ne, bne_eq_false_iff_eq, ne_eq]; done) | (simp only [decide_eq_false_iff_not, beq_eq_false_iff_ne, bne_eq_false_iff_eq, ne_eq]; omega)) | exact Y_ibin rfl rfl rfl rfl | exact Y_extract rfl rfl rfl | exact R_lenr tabOk rfl rfl rfl rfl | exact R_lenn tabOk rfl rfl rfl | exact R_indexr tabOk rfl rfl rfl rfl rfl rfl rfl (by omega) | exact R_fielde tabOk rfl rfl rfl rfl | exact R_loade tabOk rfl rfl rfl rfl rfl rfl rfl rfl rfl | exact Y_not rfl rfl | exact Y_pick_t rfl rfl (by first | rfl | assumption) rfl | exact Y_pick_f rfl rfl (by first | rfl | assumption) rfl | exact Y_pick_b rfl rfl rfl rfl | exact R_build tabOk rfl rfl rfl rfl rfl rfl | fail))
            | (apply Q_y rfl rfl rfl; (first | exact Y_move rfl rfl | exact Y_assign rfl rfl | exact R_index tabOk rfl rfl rfl rfl rfl rfl (by omega) | exact R_fieldi tabOk rfl rfl rfl | exact R_loadi tabOk rfl rfl rfl rfl (by first | exact win_flat0 pfxD_len l2 i _ hil (by decide) | exact win_flat pfxD_len l2 i _ _ hil (by decide) | exact win_flat2 pfxD_len l2 i _ _ _ hil (by decide) | rfl) rfl rfl | exact R_len tabOk rfl rfl rfl | exact R_load tabOk rfl rfl rfl rfl rfl rfl rfl rfl rfl | exact R_field tabOk rfl rfl rfl rfl | exact Y_add rfl rfl rfl (by first | exact wrap_succ (by omega) | exact wrap_pred (by omega) (by omega) | exact wrap_i64 ⟨by omega, by omega⟩ | rfl) | exact Y_sub rfl rfl rfl (by first | exact wrap_succ (by omega) | exact wrap_pred (by omega) (by omega) | exact wrap_i64 ⟨by omega, by omega⟩ | rfl) | exact R_cmpT rfl rfl rfl rfl (by first | (simp only [decide_eq_true_eq, beq_iff_eq, bne_iff_ne, ne_eq]; done) | (simp only [decide_eq_true_eq, beq_iff_eq, bne_iff_ne, ne_eq]; omega)) | exact R_cmpF rfl rfl rfl rfl (by first | (simp only [decide_eq_false_iff_not, beq_eq_false_iff_ne, bne_eq_false_iff_eq, ne_eq]; done) | (simp only [decide_eq_false_iff_not, beq_eq_false_iff_ne, bne_eq_false_iff_eq, ne_eq]; omega)) | exact Y_ibin rfl rfl rfl rfl | exact Y_extract rfl rfl rfl | exact R_lenr tabOk rfl rfl rfl rfl | exact R_lenn tabOk rfl rfl rfl | exact R_indexr tabOk rfl rfl rfl rfl rfl rfl rfl (by omega) | exact R_fielde tabOk rfl rfl rfl rfl | exact R_loade tabOk rfl rfl rfl rfl rfl rfl rfl rfl rfl | exact Y_not rfl rfl | exact Y_pick_t rfl rfl (by first | rfl | assumption) rfl | exact Y_pick_f rfl rfl (by first | rfl | assumption) rfl | exact Y_pick_b rfl rfl rfl rfl | exact R_build tabOk rfl rfl rfl rfl rfl rfl | fail))
            | refine O_nil ?_
            | refine Q_nil ?_
            | refine X_then_normal ?_
            | refine X_in_normal ?_
            | refine O_box rfl rfl rfl rfl rfl rfl rfl ?_
            | refine O_alloc tabOk rfl rfl rfl rfl rfl rfl ?_
            | refine O_store tabOk rfl rfl rfl rfl rfl rfl rfl rfl rfl rfl rfl ?_
            | refine O_slice tabOk rfl rfl rfl rfl rfl rfl rfl rfl rfl rfl rfl ?_
            | refine A_condt rfl (by first | rfl | assumption | (first | (simp only [decide_eq_true_eq]; done) | (simp only [decide_eq_true_eq]; omega))) ?_
            | refine A_condf rfl (by first | rfl | assumption | (first | (simp only [decide_eq_false_iff_not]; done) | (simp only [decide_eq_false_iff_not]; omega))) ?_
            | refine A_skip ?_
            | refine A_exit ?_
            | refine A_ret ?_
            | refine X_then_exit ?_
            | refine X_then_ret ?_
            | refine X_in_same ?_
            | refine X_in_other rfl ?_
            | refine X_in_ret ?_
            | refine O_s rfl rfl rfl ?_
            | refine Q_s rfl rfl rfl ?_
            | refine O_sn rfl rfl ?_
            | (first | refine Q_c rfl rfl rfl rfl rfl hin rfl (fun _ _ _ => val_mk _ _ _ _ _ rfl rfl) ?_ | refine O_c rfl rfl rfl rfl rfl hin (fun _ => rfl) ?_))
          exact ⟨i + 1, by (try dsimp only); omega, by (try dsimp only); omega, Wk_sel ⟨rfl, rfl, rfl, rfl, rfl, by rw [hany]; rfl, rfl, rfl, trivial⟩ trivial⟩
        | false =>
          rw [hb, Bool.false_or] at hany
          repeat (first
            | refine A_seq ?_
            | refine A_block ?_
            | refine R_list ?_
            | refine R_quiet rfl mixed (by kernel_rfl) ?_
            | (apply O_y rfl rfl rfl; (first | exact Y_move rfl rfl | exact Y_assign rfl rfl | exact R_index tabOk rfl rfl rfl rfl rfl rfl (by omega) | exact R_fieldi tabOk rfl rfl rfl | exact R_loadi tabOk rfl rfl rfl rfl (by first | exact win_flat0 pfxD_len l2 i _ hil (by decide) | exact win_flat pfxD_len l2 i _ _ hil (by decide) | exact win_flat2 pfxD_len l2 i _ _ _ hil (by decide) | rfl) rfl rfl | exact R_len tabOk rfl rfl rfl | exact R_load tabOk rfl rfl rfl rfl rfl rfl rfl rfl rfl | exact R_field tabOk rfl rfl rfl rfl | exact Y_add rfl rfl rfl (by first | exact wrap_succ (by omega) | exact wrap_pred (by omega) (by omega) | exact wrap_i64 ⟨by omega, by omega⟩ | rfl) | exact Y_sub rfl rfl rfl (by first | exact wrap_succ (by omega) | exact wrap_pred (by omega) (by omega) | exact wrap_i64 ⟨by omega, by omega⟩ | rfl) | exact R_cmpT rfl rfl rfl rfl (by first | (simp only [decide_eq_true_eq, beq_iff_eq, bne_iff_ne, ne_eq]; done) | (simp only [decide_eq_true_eq, beq_iff_eq, bne_iff_ne, ne_eq]; omega)) | exact R_cmpF rfl rfl rfl rfl (by first | (simp only [decide_eq_false_iff_not, beq_eq_false_iff_ne, bne_eq_false_iff_eq, ne_eq]; done) | (simp only [decide_eq_false_iff_not, beq_eq_false_iff_ne, bne_eq_false_iff_eq, ne_eq]; omega)) | exact Y_ibin rfl rfl rfl rfl | exact Y_extract rfl rfl rfl | exact R_lenr tabOk rfl rfl rfl rfl | exact R_lenn tabOk rfl rfl rfl | exact R_indexr tabOk rfl rfl rfl rfl rfl rfl rfl (by omega) | exact R_fielde tabOk rfl rfl rfl rfl | exact R_loade tabOk rfl rfl rfl rfl rfl rfl rfl rfl rfl | exact Y_not rfl rfl | exact Y_pick_t rfl rfl (by first | rfl | assumption) rfl | exact Y_pick_f rfl rfl (by first | rfl | assumption) rfl | exact Y_pick_b rfl rfl rfl rfl | exact R_build tabOk rfl rfl rfl rfl rfl rfl | fail))
            | (apply Q_y rfl rfl rfl; (first | exact Y_move rfl rfl | exact Y_assign rfl rfl | exact R_index tabOk rfl rfl rfl rfl rfl rfl (by omega) | exact R_fieldi tabOk rfl rfl rfl | exact R_loadi tabOk rfl rfl rfl rfl (by first | exact win_flat0 pfxD_len l2 i _ hil (by decide) | exact win_flat pfxD_len l2 i _ _ hil (by decide) | exact win_flat2 pfxD_len l2 i _ _ _ hil (by decide) | rfl) rfl rfl | exact R_len tabOk rfl rfl rfl | exact R_load tabOk rfl rfl rfl rfl rfl rfl rfl rfl rfl | exact R_field tabOk rfl rfl rfl rfl | exact Y_add rfl rfl rfl (by first | exact wrap_succ (by omega) | exact wrap_pred (by omega) (by omega) | exact wrap_i64 ⟨by omega, by omega⟩ | rfl) | exact Y_sub rfl rfl rfl (by first | exact wrap_succ (by omega) | exact wrap_pred (by omega) (by omega) | exact wrap_i64 ⟨by omega, by omega⟩ | rfl) | exact R_cmpT rfl rfl rfl rfl (by first | (simp only [decide_eq_true_eq, beq_iff_eq, bne_iff_ne, ne_eq]; done) | (simp only [decide_eq_true_eq, beq_iff_eq, bne_iff_ne, ne_eq]; omega)) | exact R_cmpF rfl rfl rfl rfl (by first | (simp only [decide_eq_false_iff_not, beq_eq_false_iff_ne, bne_eq_false_iff_eq, ne_eq]; done) | (simp only [decide_eq_false_iff_not, beq_eq_false_iff_ne, bne_eq_false_iff_eq, ne_eq]; omega)) | exact Y_ibin rfl rfl rfl rfl | exact Y_extract rfl rfl rfl | exact R_lenr tabOk rfl rfl rfl rfl | exact R_lenn tabOk rfl rfl rfl | exact R_indexr tabOk rfl rfl rfl rfl rfl rfl rfl (by omega) | exact R_fielde tabOk rfl rfl rfl rfl | exact R_loade tabOk rfl rfl rfl rfl rfl rfl rfl rfl rfl | exact Y_not rfl rfl | exact Y_pick_t rfl rfl (by first | rfl | assumption) rfl | exact Y_pick_f rfl rfl (by first | rfl | assumption) rfl | exact Y_pick_b rfl rfl rfl rfl | exact R_build tabOk rfl rfl rfl rfl rfl rfl | fail))
            | refine O_nil ?_
            | refine Q_nil ?_
            | refine X_then_normal ?_
            | refine X_in_normal ?_
            | refine O_box rfl rfl rfl rfl rfl rfl rfl ?_
            | refine O_alloc tabOk rfl rfl rfl rfl rfl rfl ?_
            | refine O_store tabOk rfl rfl rfl rfl rfl rfl rfl rfl rfl rfl rfl ?_
            | refine O_slice tabOk rfl rfl rfl rfl rfl rfl rfl rfl rfl rfl rfl ?_
            | refine A_condt rfl (by first | rfl | assumption | (first | (simp only [decide_eq_true_eq]; done) | (simp only [decide_eq_true_eq]; omega))) ?_
            | refine A_condf rfl (by first | rfl | assumption | (first | (simp only [decide_eq_false_iff_not]; done) | (simp only [decide_eq_false_iff_not]; omega))) ?_
            | refine A_skip ?_
            | refine A_exit ?_
            | refine A_ret ?_
            | refine X_then_exit ?_
            | refine X_then_ret ?_
            | refine X_in_same ?_
            | refine X_in_other rfl ?_
            | refine X_in_ret ?_
            | refine O_s rfl rfl rfl ?_
            | refine Q_s rfl rfl rfl ?_
            | refine O_sn rfl rfl ?_
            | (first | refine Q_c rfl rfl rfl rfl rfl hin rfl (fun _ _ _ => val_mk _ _ _ _ _ rfl rfl) ?_ | refine O_c rfl rfl rfl rfl rfl hin (fun _ => rfl) ?_))
          exact ⟨i + 1, by (try dsimp only); omega, by (try dsimp only); omega, Wk_sel ⟨rfl, rfl, rfl, rfl, rfl, by rw [hany]; rfl, rfl, rfl, trivial⟩ trivial⟩
      · have hi2 : i = l2.length := by omega
        subst hi2
        rw [List.take_length]
        repeat (first
          | refine A_seq ?_
          | refine A_block ?_
          | refine R_list ?_
          | refine R_quiet rfl mixed (by kernel_rfl) ?_
          | (apply O_y rfl rfl rfl; (first | exact Y_move rfl rfl | exact Y_assign rfl rfl | exact R_index tabOk rfl rfl rfl rfl rfl rfl (by omega) | exact R_fieldi tabOk rfl rfl rfl | exact R_loadi tabOk rfl rfl rfl rfl rfl rfl rfl | exact R_len tabOk rfl rfl rfl | exact R_load tabOk rfl rfl rfl rfl rfl rfl rfl rfl rfl | exact R_field tabOk rfl rfl rfl rfl | exact Y_add rfl rfl rfl (by first | exact wrap_succ (by omega) | exact wrap_pred (by omega) (by omega) | exact wrap_i64 ⟨by omega, by omega⟩ | rfl) | exact Y_sub rfl rfl rfl (by first | exact wrap_succ (by omega) | exact wrap_pred (by omega) (by omega) | exact wrap_i64 ⟨by omega, by omega⟩ | rfl) | exact R_cmpT rfl rfl rfl rfl (by first | (simp only [decide_eq_true_eq, beq_iff_eq, bne_iff_ne, ne_eq]; done) | (simp only [decide_eq_true_eq, beq_iff_eq, bne_iff_ne, ne_eq]; omega)) | exact R_cmpF rfl rfl rfl rfl (by first | (simp only [decide_eq_false_iff_not, beq_eq_false_iff_ne, bne_eq_false_iff_eq, ne_eq]; done) | (simp only [decide_eq_false_iff_not, beq_eq_false_iff_ne, bne_eq_false_iff_eq, ne_eq]; omega)) | exact Y_ibin rfl rfl rfl rfl | exact Y_extract rfl rfl rfl | exact R_lenr tabOk rfl rfl rfl rfl | exact R_lenn tabOk rfl rfl rfl | exact R_indexr tabOk rfl rfl rfl rfl rfl rfl rfl (by omega) | exact R_fielde tabOk rfl rfl rfl rfl | exact R_loade tabOk rfl rfl rfl rfl rfl rfl rfl rfl rfl | exact Y_not rfl rfl | exact Y_pick_t rfl rfl (by first | rfl | assumption) rfl | exact Y_pick_f rfl rfl (by first | rfl | assumption) rfl | exact Y_pick_b rfl rfl rfl rfl | exact R_build tabOk rfl rfl rfl rfl rfl rfl | fail))
          | (apply Q_y rfl rfl rfl; (first | exact Y_move rfl rfl | exact Y_assign rfl rfl | exact R_index tabOk rfl rfl rfl rfl rfl rfl (by omega) | exact R_fieldi tabOk rfl rfl rfl | exact R_loadi tabOk rfl rfl rfl rfl rfl rfl rfl | exact R_len tabOk rfl rfl rfl | exact R_load tabOk rfl rfl rfl rfl rfl rfl rfl rfl rfl | exact R_field tabOk rfl rfl rfl rfl | exact Y_add rfl rfl rfl (by first | exact wrap_succ (by omega) | exact wrap_pred (by omega) (by omega) | exact wrap_i64 ⟨by omega, by omega⟩ | rfl) | exact Y_sub rfl rfl rfl (by first | exact wrap_succ (by omega) | exact wrap_pred (by omega) (by omega) | exact wrap_i64 ⟨by omega, by omega⟩ | rfl) | exact R_cmpT rfl rfl rfl rfl (by first | (simp only [decide_eq_true_eq, beq_iff_eq, bne_iff_ne, ne_eq]; done) | (simp only [decide_eq_true_eq, beq_iff_eq, bne_iff_ne, ne_eq]; omega)) | exact R_cmpF rfl rfl rfl rfl (by first | (simp only [decide_eq_false_iff_not, beq_eq_false_iff_ne, bne_eq_false_iff_eq, ne_eq]; done) | (simp only [decide_eq_false_iff_not, beq_eq_false_iff_ne, bne_eq_false_iff_eq, ne_eq]; omega)) | exact Y_ibin rfl rfl rfl rfl | exact Y_extract rfl rfl rfl | exact R_lenr tabOk rfl rfl rfl rfl | exact R_lenn tabOk rfl rfl rfl | exact R_indexr tabOk rfl rfl rfl rfl rfl rfl rfl (by omega) | exact R_fielde tabOk rfl rfl rfl rfl | exact R_loade tabOk rfl rfl rfl rfl rfl rfl rfl rfl rfl | exact Y_not rfl rfl | exact Y_pick_t rfl rfl (by first | rfl | assumption) rfl | exact Y_pick_f rfl rfl (by first | rfl | assumption) rfl | exact Y_pick_b rfl rfl rfl rfl | exact R_build tabOk rfl rfl rfl rfl rfl rfl | fail))
          | refine O_nil ?_
          | refine Q_nil ?_
          | refine X_then_normal ?_
          | refine X_in_normal ?_
          | refine O_box rfl rfl rfl rfl rfl rfl rfl ?_
          | refine O_alloc tabOk rfl rfl rfl rfl rfl rfl ?_
          | refine O_store tabOk rfl rfl rfl rfl rfl rfl rfl rfl rfl rfl rfl ?_
          | refine O_slice tabOk rfl rfl rfl rfl rfl rfl rfl rfl rfl rfl rfl ?_
          | refine A_condt rfl (by first | rfl | assumption | (first | (simp only [decide_eq_true_eq]; done) | (simp only [decide_eq_true_eq]; omega))) ?_
          | refine A_condf rfl (by first | rfl | assumption | (first | (simp only [decide_eq_false_iff_not]; done) | (simp only [decide_eq_false_iff_not]; omega))) ?_
          | refine A_skip ?_
          | refine A_exit ?_
          | refine A_ret ?_
          | refine X_then_exit ?_
          | refine X_then_ret ?_
          | refine X_in_same ?_
          | refine X_in_other rfl ?_
          | refine X_in_ret ?_
          | refine O_s rfl rfl rfl ?_
          | refine Q_s rfl rfl rfl ?_
          | refine O_sn rfl rfl ?_
          | fail)
        refine A_loop (fun s : Nat => [(0, pfxsA l2), (1, .d (.sc (.int .u32 x))), (5, pfxsA (coverT l2)), (6, .d (.sc (.int .u32 y))), (7, intA (-1)), (8, boolA (l2.any (inB y))), (9, intA (cnt y ((coverT l2).take s) : Int)), (11, intA (s : Int))]) (fun _ => []) (fun s => s ≤ (coverT l2).length) (fun s => (coverT l2).length - s) 0 (Nat.zero_le _) (Wk_sel ⟨rfl, rfl, rfl, rfl, rfl, rfl, rfl, rfl, trivial⟩ trivial) ?_
        intro j hj
        try dsimp only at hj ⊢
        by_cases hjl : j < (coverT l2).length
        · have hcs := cnt_succ hjl y
          have hcl2 := cnt_le y (coverT l2) j
          have hin := refIn_A y (coverT l2)[j] (hco _ (List.getElem_mem hjl)) y0 y1
          cases hb : inB y (coverT l2)[j] with
          | true =>
            rw [hb] at hin hcs
            rw [if_pos rfl] at hcs
            repeat (first
              | refine A_seq ?_
              | refine A_block ?_
              | refine R_list ?_
              | refine R_quiet rfl mixed (by kernel_rfl) ?_
              | (apply O_y rfl rfl rfl; (first | exact Y_move rfl rfl | exact Y_assign rfl rfl | exact R_index tabOk rfl rfl rfl rfl rfl rfl (by omega) | exact R_fieldi tabOk rfl rfl rfl | exact R_loadi tabOk rfl rfl rfl rfl (by first | exact win_flat0 pfxD_len (coverT l2) j _ hjl (by decide) | exact win_flat pfxD_len (coverT l2) j _ _ hjl (by decide) | exact win_flat2 pfxD_len (coverT l2) j _ _ _ hjl (by decide) | rfl) rfl rfl | exact R_len tabOk rfl rfl rfl | exact R_load tabOk rfl rfl rfl rfl rfl rfl rfl rfl rfl | exact R_field tabOk rfl rfl rfl rfl | exact Y_add rfl rfl rfl (by first | exact wrap_succ (by omega) | exact wrap_pred (by omega) (by omega) | exact wrap_i64 ⟨by omega, by omega⟩ | rfl) | exact Y_sub rfl rfl rfl (by first | exact wrap_succ (by omega) | exact wrap_pred (by omega) (by omega) | exact wrap_i64 ⟨by omega, by omega⟩ | rfl) | exact R_cmpT rfl rfl rfl rfl (by first | (simp only [decide_eq_true_eq, beq_iff_eq, bne_iff_ne, ne_eq]; done) | (simp only [decide_eq_true_eq, beq_iff_eq, bne_iff_ne, ne_eq]; omega)) | exact R_cmpF rfl rfl rfl rfl (by first | (simp only [decide_eq_false_iff_not, beq_eq_false_iff_ne, bne_eq_false_iff_eq, ne_eq]; done) | (simp only [decide_eq_false_iff_not, beq_eq_false_iff_ne, bne_eq_false_iff_eq, ne_eq]; omega)) | exact Y_ibin rfl rfl rfl rfl | exact Y_extract rfl rfl rfl | exact R_lenr tabOk rfl rfl rfl rfl | exact R_lenn tabOk rfl rfl rfl | exact R_indexr tabOk rfl rfl rfl rfl rfl rfl rfl (by omega) | exact R_fielde tabOk rfl rfl rfl rfl | exact R_loade tabOk rfl rfl rfl rfl rfl rfl rfl rfl rfl | exact Y_not rfl rfl | exact Y_pick_t rfl rfl (by first | rfl | assumption) rfl | exact Y_pick_f rfl rfl (by first | rfl | assumption) rfl | exact Y_pick_b rfl rfl rfl rfl | exact R_build tabOk rfl rfl rfl rfl rfl rfl | fail))
              | (apply Q_y rfl rfl rfl; (first | exact Y_move rfl rfl | exact Y_assign rfl rfl | exact R_index tabOk rfl rfl rfl rfl rfl rfl (by omega) | exact R_fieldi tabOk rfl rfl rfl | exact R_loadi tabOk rfl rfl rfl rfl (by first | exact win_flat0 pfxD_len (coverT l2) j _ hjl (by decide) | exact win_flat pfxD_len (coverT l2) j _ _ hjl (by decide) | exact win_flat2 pfxD_len (coverT l2) j _ _ _ hjl (by decide) | rfl) rfl rfl | exact R_len tabOk rfl rfl rfl | exact R_load tabOk rfl rfl rfl rfl rfl rfl rfl rfl rfl | exact R_field tabOk rfl rfl rfl rfl | exact Y_add rfl rfl rfl (by first | exact wrap_succ (by omega) | exact wrap_pred (by omega) (by omega) | exact wrap_i64 ⟨by omega, by omega⟩ | rfl) | exact Y_sub rfl rfl rfl (by first | exact wrap_succ (by omega) | exact wrap_pred (by omega) (by omega) | exact wrap_i64 ⟨by omega, by omega⟩ | rfl) | exact R_cmpT rfl rfl rfl rfl (by first | (simp only [decide_eq_true_eq, beq_iff_eq, bne_iff_ne, ne_eq]; done) | (simp only [decide_eq_true_eq, beq_iff_eq, bne_iff_ne, ne_eq]; omega)) | exact R_cmpF rfl rfl rfl rfl (by first | (simp only [decide_eq_false_iff_not, beq_eq_false_iff_ne, bne_eq_false_iff_eq, ne_eq]; done) | (simp only [decide_eq_false_iff_not, beq_eq_false_iff_ne, bne_eq_false_iff_eq, ne_eq]; omega)) | exact Y_ibin rfl rfl rfl rfl | exact Y_extract rfl rfl rfl | exact R_lenr tabOk rfl rfl rfl rfl | exact R_lenn tabOk rfl rfl rfl | exact R_indexr tabOk rfl rfl rfl rfl rfl rfl rfl (by omega) | exact R_fielde tabOk rfl rfl rfl rfl | exact R_loade tabOk rfl rfl rfl rfl rfl rfl rfl rfl rfl | exact Y_not rfl rfl | exact Y_pick_t rfl rfl (by first | rfl | assumption) rfl | exact Y_pick_f rfl rfl (by first | rfl | assumption) rfl | exact Y_pick_b rfl rfl rfl rfl | exact R_build tabOk rfl rfl rfl rfl rfl rfl | fail))
              | refine O_nil ?_
              | refine Q_nil ?_
              | refine X_then_normal ?_
              | refine X_in_normal ?_
              | refine O_box rfl rfl rfl rfl rfl rfl rfl ?_
              | refine O_alloc tabOk rfl rfl rfl rfl rfl rfl ?_
              | refine O_store tabOk rfl rfl rfl rfl rfl rfl rfl rfl rfl rfl rfl ?_
              | refine O_slice tabOk rfl rfl rfl rfl rfl rfl rfl rfl rfl rfl rfl ?_
              | refine A_condt rfl (by first | rfl | assumption | (first | (simp only [decide_eq_true_eq]; done) | (simp only [decide_eq_true_eq]; omega))) ?_
              | refine A_condf rfl (by first | rfl | assumption | (first | (simp only [decide_eq_false_iff_not]; done) | (simp only [decide_eq_false_iff_not]; omega))) ?_
              | refine A_skip ?_
              | refine A_exit ?_
              | refine A_ret ?_
              | refine X_then_exit ?_
              | refine X_then_ret ?_
              | refine X_in_same ?_
              | refine X_in_other rfl ?_
              | refine X_in_ret ?_
              | refine O_s rfl rfl rfl ?_
              | refine Q_s rfl rfl rfl ?_
              | refine O_sn rfl rfl ?_
              | (first | refine Q_c rfl rfl rfl rfl rfl hin rfl (fun _ _ _ => val_mk _ _ _ _ _ rfl rfl) ?_ | refine O_c rfl rfl rfl rfl rfl hin (fun _ => rfl) ?_))
            exact ⟨j + 1, by (try dsimp only); omega, by (try dsimp only); omega, Wk_sel ⟨rfl, rfl, rfl, rfl, rfl, rfl, by rw [hcs]; rfl, rfl, trivial⟩ trivial⟩
          | false =>
            rw [hb] at hin hcs
            rw [if_neg (by simp)] at hcs
            repeat (first
              | refine A_seq ?_
              | refine A_block ?_
              | refine R_list ?_
              | refine R_quiet rfl mixed (by kernel_rfl) ?_
              | (apply O_y rfl rfl rfl; (first | exact Y_move rfl rfl | exact Y_assign rfl rfl | exact R_index tabOk rfl rfl rfl rfl rfl rfl (by omega) | exact R_fieldi tabOk rfl rfl rfl | exact R_loadi tabOk rfl rfl rfl rfl (by first | exact win_flat0 pfxD_len (coverT l2) j _ hjl (by decide) | exact win_flat pfxD_len (coverT l2) j _ _ hjl (by decide) | exact win_flat2 pfxD_len (coverT l2) j _ _ _ hjl (by decide) | rfl) rfl rfl | exact R_len tabOk rfl rfl rfl | exact R_load tabOk rfl rfl rfl rfl rfl rfl rfl rfl rfl | exact R_field tabOk rfl rfl rfl rfl | exact Y_add rfl rfl rfl (by first | exact wrap_succ (by omega) | exact wrap_pred (by omega) (by omega) | exact wrap_i64 ⟨by omega, by omega⟩ | rfl) | exact Y_sub rfl rfl rfl (by first | exact wrap_succ (by omega) | exact wrap_pred (by omega) (by omega) | exact wrap_i64 ⟨by omega, by omega⟩ | rfl) | exact R_cmpT rfl rfl rfl rfl (by first | (simp only [decide_eq_true_eq, beq_iff_eq, bne_iff_ne, ne_eq]; done) | (simp only [decide_eq_true_eq, beq_iff_eq, bne_iff_ne, ne_eq]; omega)) | exact R_cmpF rfl rfl rfl rfl (by first | (simp only [decide_eq_false_iff_not, beq_eq_false_iff_ne, bne_eq_false_iff_eq, ne_eq]; done) | (simp only [decide_eq_false_iff_not, beq_eq_false_iff_ne, bne_eq_false_iff_eq, ne_eq]; omega)) | exact Y_ibin rfl rfl rfl rfl | exact Y_extract rfl rfl rfl | exact R_lenr tabOk rfl rfl rfl rfl | exact R_lenn tabOk rfl rfl rfl | exact R_indexr tabOk rfl rfl rfl rfl rfl rfl rfl (by omega) | exact R_fielde tabOk rfl rfl rfl rfl | exact R_loade tabOk rfl rfl rfl rfl rfl rfl rfl rfl rfl | exact Y_not rfl rfl | exact Y_pick_t rfl rfl (by first | rfl | assumption) rfl | exact Y_pick_f rfl rfl (by first | rfl | assumption) rfl | exact Y_pick_b rfl rfl rfl rfl | exact R_build tabOk rfl rfl rfl rfl rfl rfl | fail))
              | (apply Q_y rfl rfl rfl; (first | exact Y_move rfl rfl | exact Y_assign rfl rfl | exact R_index tabOk rfl rfl rfl rfl rfl rfl (by omega) | exact R_fieldi tabOk rfl rfl rfl | exact R_loadi tabOk rfl rfl rfl rfl (by first | exact win_flat0 pfxD_len (coverT l2) j _ hjl (by decide) | exact win_flat pfxD_len (coverT l2) j _ _ hjl (by decide) | exact win_flat2 pfxD_len (coverT l2) j _ _ _ hjl (by decide) | rfl) rfl rfl | exact R_len tabOk rfl rfl rfl | exact R_load tabOk rfl rfl rfl rfl rfl rfl rfl rfl rfl | exact R_field tabOk rfl rfl rfl rfl | exact Y_add rfl rfl rfl (by first | exact wrap_succ (by omega) | exact wrap_pred (by omega) (by omega) | exact wrap_i64 ⟨by omega, by omega⟩ | rfl) | exact Y_sub rfl rfl rfl (by first | exact wrap_succ (by omega) | exact wrap_pred (by omega) (by omega) | exact wrap_i64 ⟨by omega, by omega⟩ | rfl) | exact R_cmpT rfl rfl rfl rfl (by first | (simp only [decide_eq_true_eq, beq_iff_eq, bne_iff_ne, ne_eq]; done) | (simp only [decide_eq_true_eq, beq_iff_eq, bne_iff_ne, ne_eq]; omega)) | exact R_cmpF rfl rfl rfl rfl (by first | (simp only [decide_eq_false_iff_not, beq_eq_false_iff_ne, bne_eq_false_iff_eq, ne_eq]; done) | (simp only [decide_eq_false_iff_not, beq_eq_false_iff_ne, bne_eq_false_iff_eq, ne_eq]; omega)) | exact Y_ibin rfl rfl rfl rfl | exact Y_extract rfl rfl rfl | exact R_lenr tabOk rfl rfl rfl rfl | exact R_lenn tabOk rfl rfl rfl | exact R_indexr tabOk rfl rfl rfl rfl rfl rfl rfl (by omega) | exact R_fielde tabOk rfl rfl rfl rfl | exact R_loade tabOk rfl rfl rfl rfl rfl rfl rfl rfl rfl | exact Y_not rfl rfl | exact Y_pick_t rfl rfl (by first | rfl | assumption) rfl | exact Y_pick_f rfl rfl (by first | rfl | assumption) rfl | exact Y_pick_b rfl rfl rfl rfl | exact R_build tabOk rfl rfl rfl rfl rfl rfl | fail))
              | refine O_nil ?_
              | refine Q_nil ?_
              | refine X_then_normal ?_
              | refine X_in_normal ?_
              | refine O_box rfl rfl rfl rfl rfl rfl rfl ?_
              | refine O_alloc tabOk rfl rfl rfl rfl rfl rfl ?_
              | refine O_store tabOk rfl rfl rfl rfl rfl rfl rfl rfl rfl rfl rfl ?_
              | refine O_slice tabOk rfl rfl rfl rfl rfl rfl rfl rfl rfl rfl rfl ?_
              | refine A_condt rfl (by first | rfl | assumption | (first | (simp only [decide_eq_true_eq]; done) | (simp only [decide_eq_true_eq]; omega))) ?_
              | refine A_condf rfl (by first | rfl | assumption | (first | (simp only [decide_eq_false_iff_not]; done) | (simp only [decide_eq_false_iff_not]; omega))) ?_
              | refine A_skip ?_
              | refine A_exit ?_
              | refine A_ret ?_
              | refine X_then_exit ?_
              | refine X_then_ret ?_
              | refine X_in_same ?_
              | refine X_in_other rfl ?_
              | refine X_in_ret ?_
              | refine O_s rfl rfl rfl ?_
              | refine Q_s rfl rfl rfl ?_
              | refine O_sn rfl rfl ?_
              | (first | refine Q_c rfl rfl rfl rfl rfl hin rfl (fun _ _ _ => val_mk _ _ _ _ _ rfl rfl) ?_ | refine O_c rfl rfl rfl rfl rfl hin (fun _ => rfl) ?_))
            exact ⟨j + 1, by (try dsimp only); omega, by (try dsimp only); omega, Wk_sel ⟨rfl, rfl, rfl, rfl, rfl, rfl, by rw [hcs]; rfl, rfl, trivial⟩ trivial⟩
        · have hj2 : j = (coverT l2).length := by omega
          subst hj2
          have hcc := covered_count l2 hl y
          rw [List.take_length, hcc]
          cases hb : l2.any (inB y) with
          | true =>
            rw [if_pos rfl]
            repeat (first
              | refine A_seq ?_
              | refine A_block ?_
              | refine R_list ?_
              | refine R_quiet rfl mixed (by kernel_rfl) ?_
              | (apply O_y rfl rfl rfl; (first | exact Y_move rfl rfl | exact Y_assign rfl rfl | exact R_index tabOk rfl rfl rfl rfl rfl rfl (by omega) | exact R_fieldi tabOk rfl rfl rfl | exact R_loadi tabOk rfl rfl rfl rfl rfl rfl rfl | exact R_len tabOk rfl rfl rfl | exact R_load tabOk rfl rfl rfl rfl rfl rfl rfl rfl rfl | exact R_field tabOk rfl rfl rfl rfl | exact Y_add rfl rfl rfl (by first | exact wrap_succ (by omega) | exact wrap_pred (by omega) (by omega) | exact wrap_i64 ⟨by omega, by omega⟩ | rfl) | exact Y_sub rfl rfl rfl (by first | exact wrap_succ (by omega) | exact wrap_pred (by omega) (by omega) | exact wrap_i64 ⟨by omega, by omega⟩ | rfl) | exact R_cmpT rfl rfl rfl rfl (by first | (simp only [decide_eq_true_eq, beq_iff_eq, bne_iff_ne, ne_eq]; done) | (simp only [decide_eq_true_eq, beq_iff_eq, bne_iff_ne, ne_eq]; omega)) | exact R_cmpF rfl rfl rfl rfl (by first | (simp only [decide_eq_false_iff_not, beq_eq_false_iff_ne, bne_eq_false_iff_eq, ne_eq]; done) | (simp only [decide_eq_false_iff_not, beq_eq_false_iff_ne, bne_eq_false_iff_eq, ne_eq]; omega)) | exact Y_ibin rfl rfl rfl rfl | exact Y_extract rfl rfl rfl | exact R_lenr tabOk rfl rfl rfl rfl | exact R_lenn tabOk rfl rfl rfl | exact R_indexr tabOk rfl rfl rfl rfl rfl rfl rfl (by omega) | exact R_fielde tabOk rfl rfl rfl rfl | exact R_loade tabOk rfl rfl rfl rfl rfl rfl rfl rfl rfl | exact Y_not rfl rfl | exact Y_pick_t rfl rfl (by first | rfl | assumption) rfl | exact Y_pick_f rfl rfl (by first | rfl | assumption) rfl | exact Y_pick_b rfl rfl rfl rfl | exact R_build tabOk rfl rfl rfl rfl rfl rfl | fail))
              | (apply Q_y rfl rfl rfl; (first | exact Y_move rfl rfl | exact Y_assign rfl rfl | exact R_index tabOk rfl rfl rfl rfl rfl rfl (by omega) | exact R_fieldi tabOk rfl rfl rfl | exact R_loadi tabOk rfl rfl rfl rfl rfl rfl rfl | exact R_len tabOk rfl rfl rfl | exact R_load tabOk rfl rfl rfl rfl rfl rfl rfl rfl rfl | exact R_field tabOk rfl rfl rfl rfl | exact Y_add rfl rfl rfl (by first | exact wrap_succ (by omega) | exact wrap_pred (by omega) (by omega) | exact wrap_i64 ⟨by omega, by omega⟩ | rfl) | exact Y_sub rfl rfl rfl (by first | exact wrap_succ (by omega) | exact wrap_pred (by omega) (by omega) | exact wrap_i64 ⟨by omega, by omega⟩ | rfl) | exact R_cmpT rfl rfl rfl rfl (by first | (simp only [decide_eq_true_eq, beq_iff_eq, bne_iff_ne, ne_eq]; done) | (simp only [decide_eq_true_eq, beq_iff_eq, bne_iff_ne, ne_eq]; omega)) | exact R_cmpF rfl rfl rfl rfl (by first | (simp only [decide_eq_false_iff_not, beq_eq_false_iff_ne, bne_eq_false_iff_eq, ne_eq]; done) | (simp only [decide_eq_false_iff_not, beq_eq_false_iff_ne, bne_eq_false_iff_eq, ne_eq]; omega)) | exact Y_ibin rfl rfl rfl rfl | exact Y_extract rfl rfl rfl | exact R_lenr tabOk rfl rfl rfl rfl | exact R_lenn tabOk rfl rfl rfl | exact R_indexr tabOk rfl rfl rfl rfl rfl rfl rfl (by omega) | exact R_fielde tabOk rfl rfl rfl rfl | exact R_loade tabOk rfl rfl rfl rfl rfl rfl rfl rfl rfl | exact Y_not rfl rfl | exact Y_pick_t rfl rfl (by first | rfl | assumption) rfl | exact Y_pick_f rfl rfl (by first | rfl | assumption) rfl | exact Y_pick_b rfl rfl rfl rfl | exact R_build tabOk rfl rfl rfl rfl rfl rfl | fail))
              | refine O_nil ?_
              | refine Q_nil ?_
              | refine X_then_normal ?_
              | refine X_in_normal ?_
              | refine O_box rfl rfl rfl rfl rfl rfl rfl ?_
              | refine O_alloc tabOk rfl rfl rfl rfl rfl rfl ?_
              | refine O_store tabOk rfl rfl rfl rfl rfl rfl rfl rfl rfl rfl rfl ?_
              | refine O_slice tabOk rfl rfl rfl rfl rfl rfl rfl rfl rfl rfl rfl ?_
              | refine A_condt rfl (by first | rfl | assumption | (first | (simp only [decide_eq_true_eq]; done) | (simp only [decide_eq_true_eq]; omega))) ?_
              | refine A_condf rfl (by first | rfl | assumption | (first | (simp only [decide_eq_false_iff_not]; done) | (simp only [decide_eq_false_iff_not]; omega))) ?_
              | refine A_skip ?_
              | refine A_exit ?_
              | refine A_ret ?_
              | refine X_then_exit ?_
              | refine X_then_ret ?_
              | refine X_in_same ?_
              | refine X_in_other rfl ?_
              | refine X_in_ret ?_
              | refine O_s rfl rfl rfl ?_
              | refine Q_s rfl rfl rfl ?_
              | refine O_sn rfl rfl ?_
              | fail)
            exact ⟨(1, y), ⟨by omega, y0, y1⟩, by (try dsimp only); omega, Wk_sel ⟨rfl, rfl, rfl, rfl, rfl, trivial⟩ trivial⟩
          | false =>
            rw [if_neg (by simp)]
            repeat (first
              | refine A_seq ?_
              | refine A_block ?_
              | refine R_list ?_
              | refine R_quiet rfl mixed (by kernel_rfl) ?_
              | (apply O_y rfl rfl rfl; (first | exact Y_move rfl rfl | exact Y_assign rfl rfl | exact R_index tabOk rfl rfl rfl rfl rfl rfl (by omega) | exact R_fieldi tabOk rfl rfl rfl | exact R_loadi tabOk rfl rfl rfl rfl rfl rfl rfl | exact R_len tabOk rfl rfl rfl | exact R_load tabOk rfl rfl rfl rfl rfl rfl rfl rfl rfl | exact R_field tabOk rfl rfl rfl rfl | exact Y_add rfl rfl rfl (by first | exact wrap_succ (by omega) | exact wrap_pred (by omega) (by omega) | exact wrap_i64 ⟨by omega, by omega⟩ | rfl) | exact Y_sub rfl rfl rfl (by first | exact wrap_succ (by omega) | exact wrap_pred (by omega) (by omega) | exact wrap_i64 ⟨by omega, by omega⟩ | rfl) | exact R_cmpT rfl rfl rfl rfl (by first | (simp only [decide_eq_true_eq, beq_iff_eq, bne_iff_ne, ne_eq]; done) | (simp only [decide_eq_true_eq, beq_iff_eq, bne_iff_ne, ne_eq]; omega)) | exact R_cmpF rfl rfl rfl rfl (by first | (simp only [decide_eq_false_iff_not, beq_eq_false_iff_ne, bne_eq_false_iff_eq, ne_eq]; done) | (simp only [decide_eq_false_iff_not, beq_eq_false_iff_ne, bne_eq_false_iff_eq, ne_eq]; omega)) | exact Y_ibin rfl rfl rfl rfl | exact Y_extract rfl rfl rfl | exact R_lenr tabOk rfl rfl rfl rfl | exact R_lenn tabOk rfl rfl rfl | exact R_indexr tabOk rfl rfl rfl rfl rfl rfl rfl (by omega) | exact R_fielde tabOk rfl rfl rfl rfl | exact R_loade tabOk rfl rfl rfl rfl rfl rfl rfl rfl rfl | exact Y_not rfl rfl | exact Y_pick_t rfl rfl (by first | rfl | assumption) rfl | exact Y_pick_f rfl rfl (by first | rfl | assumption) rfl | exact Y_pick_b rfl rfl rfl rfl | exact R_build tabOk rfl rfl rfl rfl rfl rfl | fail))
              | (apply Q_y rfl rfl rfl; (first | exact Y_move rfl rfl | exact Y_assign rfl rfl | exact R_index tabOk rfl rfl rfl rfl rfl rfl (by omega) | exact R_fieldi tabOk rfl rfl rfl | exact R_loadi tabOk rfl rfl rfl rfl rfl rfl rfl | exact R_len tabOk rfl rfl rfl | exact R_load tabOk rfl rfl rfl rfl rfl rfl rfl rfl rfl | exact R_field tabOk rfl rfl rfl rfl | exact Y_add rfl rfl rfl (by first | exact wrap_succ (by omega) | exact wrap_pred (by omega) (by omega) | exact wrap_i64 ⟨by omega, by omega⟩ | rfl) | exact Y_sub rfl rfl rfl (by first | exact wrap_succ (by omega) | exact wrap_pred (by omega) (by omega) | exact wrap_i64 ⟨by omega, by omega⟩ | rfl) | exact R_cmpT rfl rfl rfl rfl (by first | (simp only [decide_eq_true_eq, beq_iff_eq, bne_iff_ne, ne_eq]; done) | (simp only [decide_eq_true_eq, beq_iff_eq, bne_iff_ne, ne_eq]; omega)) | exact R_cmpF rfl rfl rfl rfl (by first | (simp only [decide_eq_false_iff_not, beq_eq_false_iff_ne, bne_eq_false_iff_eq, ne_eq]; done) | (simp only [decide_eq_false_iff_not, beq_eq_false_iff_ne, bne_eq_false_iff_eq, ne_eq]; omega)) | exact Y_ibin rfl rfl rfl rfl | exact Y_extract rfl rfl rfl | exact R_lenr tabOk rfl rfl rfl rfl | exact R_lenn tabOk rfl rfl rfl | exact R_indexr tabOk rfl rfl rfl rfl rfl rfl rfl (by omega) | exact R_fielde tabOk rfl rfl rfl rfl | exact R_loade tabOk rfl rfl rfl rfl rfl rfl rfl rfl rfl | exact Y_not rfl rfl | exact Y_pick_t rfl rfl (by first | rfl | assumption) rfl | exact Y_pick_f rfl rfl (by first | rfl | assumption) rfl | exact Y_pick_b rfl rfl rfl rfl | exact R_build tabOk rfl rfl rfl rfl rfl rfl | fail))
              | refine O_nil ?_
              | refine Q_nil ?_
              | refine X_then_normal ?_
              | refine X_in_normal ?_
              | refine O_box rfl rfl rfl rfl rfl rfl rfl ?_
              | refine O_alloc tabOk rfl rfl rfl rfl rfl rfl ?_
              | refine O_store tabOk rfl rfl rfl rfl rfl rfl rfl rfl rfl rfl rfl ?_
              | refine O_slice tabOk rfl rfl rfl rfl rfl rfl rfl rfl rfl rfl rfl ?_
              | refine A_condt rfl (by first | rfl | assumption | (first | (simp only [decide_eq_true_eq]; done) | (simp only [decide_eq_true_eq]; omega))) ?_
              | refine A_condf rfl (by first | rfl | assumption | (first | (simp only [decide_eq_false_iff_not]; done) | (simp only [decide_eq_false_iff_not]; omega))) ?_
              | refine A_skip ?_
              | refine A_exit ?_
              | refine A_ret ?_
              | refine X_then_exit ?_
              | refine X_then_ret ?_
              | refine X_in_same ?_
              | refine X_in_other rfl ?_
              | refine X_in_ret ?_
              | refine O_s rfl rfl rfl ?_
              | refine Q_s rfl rfl rfl ?_
              | refine O_sn rfl rfl ?_
              | fail)
            exact ⟨(1, y), ⟨by omega, y0, y1⟩, by (try dsimp only); omega, Wk_sel ⟨rfl, rfl, rfl, rfl, rfl, trivial⟩ trivial⟩
    | succ m =>
      have hm : m < l2.length := by omega
      have e0 : (((m + 1 : Nat) : Int) - 1) = (m : Int) := by omega
      have hmo := hl _ (List.getElem_mem hm)
      have z0 : 0 ≤ l2[m].a := hmo.1
      have z1 : l2[m].a < 4294967296 := hmo.2.1
      rw [e0]
      repeat (first
        | refine A_seq ?_
        | refine A_block ?_
        | refine R_list ?_
        | refine R_quiet rfl mixed (by kernel_rfl) ?_
        | (apply O_y rfl rfl rfl; (first | exact Y_move rfl rfl | exact Y_assign rfl rfl | exact R_index tabOk rfl rfl rfl rfl rfl rfl (by omega) | exact R_fieldi tabOk rfl rfl rfl | exact R_loadi tabOk rfl rfl rfl rfl (by first | exact win_flat0 pfxD_len l2 m _ hm (by decide) | exact win_flat pfxD_len l2 m _ _ hm (by decide) | exact win_flat2 pfxD_len l2 m _ _ _ hm (by decide) | rfl) rfl rfl | exact R_len tabOk rfl rfl rfl | exact R_load tabOk rfl rfl rfl rfl rfl rfl rfl rfl rfl | exact R_field tabOk rfl rfl rfl rfl | exact Y_add rfl rfl rfl (by first | exact wrap_succ (by omega) | exact wrap_pred (by omega) (by omega) | exact wrap_i64 ⟨by omega, by omega⟩ | rfl) | exact Y_sub rfl rfl rfl (by first | exact wrap_succ (by omega) | exact wrap_pred (by omega) (by omega) | exact wrap_i64 ⟨by omega, by omega⟩ | rfl) | exact R_cmpT rfl rfl rfl rfl (by first | (simp only [decide_eq_true_eq, beq_iff_eq, bne_iff_ne, ne_eq]; done) | (simp only [decide_eq_true_eq, beq_iff_eq, bne_iff_ne, ne_eq]; omega)) | exact R_cmpF rfl rfl rfl rfl (by first | (simp only [decide_eq_false_iff_not, beq_eq_false_iff_ne, bne_eq_false_iff_eq, ne_eq]; done) | (simp only [decide_eq_false_iff_not, beq_eq_false_iff_ne, bne_eq_false_iff_eq, ne_eq]; omega)) | exact Y_ibin rfl rfl rfl rfl | exact Y_extract rfl rfl rfl | exact R_lenr tabOk rfl rfl rfl rfl | exact R_lenn tabOk rfl rfl rfl | exact R_indexr tabOk rfl rfl rfl rfl rfl rfl rfl (by omega) | exact R_fielde tabOk rfl rfl rfl rfl | exact R_loade tabOk rfl rfl rfl rfl rfl rfl rfl rfl rfl | exact Y_not rfl rfl | exact Y_pick_t rfl rfl (by first | rfl | assumption) rfl | exact Y_pick_f rfl rfl (by first | rfl | assumption) rfl | exact Y_pick_b rfl rfl rfl rfl | exact R_build tabOk rfl rfl rfl rfl rfl rfl | fail))
        | (apply Q_y rfl rfl rfl; (first | exact Y_move rfl rfl | exact Y_assign rfl rfl | exact R_index tabOk rfl rfl rfl rfl rfl rfl (by omega) | exact R_fieldi tabOk rfl rfl rfl | exact R_loadi tabOk rfl rfl rfl rfl (by first | exact win_flat0 pfxD_len l2 m _ hm (by decide) | exact win_flat pfxD_len l2 m _ _ hm (by decide) | exact win_flat2 pfxD_len l2 m _ _ _ hm (by decide) | rfl) rfl rfl | exact R_len tabOk rfl rfl rfl | exact R_load tabOk rfl rfl rfl rfl rfl rfl rfl rfl rfl | exact R_field tabOk rfl rfl rfl rfl | exact Y_add rfl rfl rfl (by first | exact wrap_succ (by omega) | exact wrap_pred (by omega) (by omega) | exact wrap_i64 ⟨by omega, by omega⟩ | rfl) | exact Y_sub rfl rfl rfl (by first | exact wrap_succ (by omega) | exact wrap_pred (by omega) (by omega) | exact wrap_i64 ⟨by omega, by omega⟩ | rfl) | exact R_cmpT rfl rfl rfl rfl (by first | (simp only [decide_eq_true_eq, beq_iff_eq, bne_iff_ne, ne_eq]; done) | (simp only [decide_eq_true_eq, beq_iff_eq, bne_iff_ne, ne_eq]; omega)) | exact R_cmpF rfl rfl rfl rfl (by first | (simp only [decide_eq_false_iff_not, beq_eq_false_iff_ne, bne_eq_false_iff_eq, ne_eq]; done) | (simp only [decide_eq_false_iff_not, beq_eq_false_iff_ne, bne_eq_false_iff_eq, ne_eq]; omega)) | exact Y_ibin rfl rfl rfl rfl | exact Y_extract rfl rfl rfl | exact R_lenr tabOk rfl rfl rfl rfl | exact R_lenn tabOk rfl rfl rfl | exact R_indexr tabOk rfl rfl rfl rfl rfl rfl rfl (by omega) | exact R_fielde tabOk rfl rfl rfl rfl | exact R_loade tabOk rfl rfl rfl rfl rfl rfl rfl rfl rfl | exact Y_not rfl rfl | exact Y_pick_t rfl rfl (by first | rfl | assumption) rfl | exact Y_pick_f rfl rfl (by first | rfl | assumption) rfl | exact Y_pick_b rfl rfl rfl rfl | exact R_build tabOk rfl rfl rfl rfl rfl rfl | fail))
        | refine O_nil ?_
        | refine Q_nil ?_
        | refine X_then_normal ?_
        | refine X_in_normal ?_
        | refine O_box rfl rfl rfl rfl rfl rfl rfl ?_
        | refine O_alloc tabOk rfl rfl rfl rfl rfl rfl ?_
        | refine O_store tabOk rfl rfl rfl rfl rfl rfl rfl rfl rfl rfl rfl ?_
        | refine O_slice tabOk rfl rfl rfl rfl rfl rfl rfl rfl rfl rfl rfl ?_
        | refine A_condt rfl (by first | rfl | assumption | (first | (simp only [decide_eq_true_eq]; done) | (simp only [decide_eq_true_eq]; omega))) ?_
        | refine A_condf rfl (by first | rfl | assumption | (first | (simp only [decide_eq_false_iff_not]; done) | (simp only [decide_eq_false_iff_not]; omega))) ?_
        | refine A_skip ?_
        | refine A_exit ?_
        | refine A_ret ?_
        | refine X_then_exit ?_
        | refine X_then_ret ?_
        | refine X_in_same ?_
        | refine X_in_other rfl ?_
        | refine X_in_ret ?_
        | refine O_s rfl rfl rfl ?_
        | refine Q_s rfl rfl rfl ?_
        | refine O_sn rfl rfl ?_
        | fail)
      refine A_loop (fun s : Nat => [(0, pfxsA l2), (1, .d (.sc (.int .u32 x))), (5, pfxsA (coverT l2)), (6, .d (.sc (.int .u32 l2[m].a))), (7, intA (m : Int)), (8, boolA ((l2.take s).any (inB l2[m].a))), (9, intA 0), (10, intA (s : Int))]) (fun _ => []) (fun s => s ≤ l2.length) (fun s => l2.length - s) 0 (Nat.zero_le _) (Wk_sel ⟨rfl, rfl, rfl, rfl, rfl, rfl, rfl, rfl, trivial⟩ trivial) ?_
      intro i hi
      try dsimp only at hi ⊢
      by_cases hil : i < l2.length
      · have hany := any_succ hil l2[m].a
        have hin := refIn_A l2[m].a l2[i] (hl _ (List.getElem_mem hil)) z0 z1
        cases hb : (l2.take i).any (inB l2[m].a) with
        | true =>
          rw [hb, Bool.true_or] at hany
          repeat (first
            | refine A_seq ?_
            | refine A_block ?_
            | refine R_list ?_
            | refine R_quiet rfl mixed (by kernel_rfl) ?_
            | (apply O_y rfl rfl rfl; (first | exact Y_move rfl rfl | exact Y_assign rfl rfl | exact R_index tabOk rfl rfl rfl rfl rfl rfl (by omega) | exact R_fieldi tabOk rfl rfl rfl | exact R_loadi tabOk rfl rfl rfl rfl (by first | exact win_flat0 pfxD_len l2 i _ hil (by decide) | exact win_flat pfxD_len l2 i _ _ hil (by decide) | exact win_flat2 pfxD_len l2 i _ _ _ hil (by decide) | rfl) rfl rfl | exact R_len tabOk rfl rfl rfl | exact R_load tabOk rfl rfl rfl rfl rfl rfl rfl rfl rfl | exact R_field tabOk rfl rfl rfl rfl | exact Y_add rfl rfl rfl (by first | exact wrap_succ (by omega) | exact wrap_pred (by omega) (by omega) | exact wrap_i64 ⟨by omega, by omega⟩ | rfl) | exact Y_sub rfl rfl rfl (by first | exact wrap_succ (by omega) | exact wrap_pred (by omega) (by omega) | exact wrap_i64 ⟨by omega, by omega⟩ | rfl) | exact R_cmpT rfl rfl rfl rfl (by first | (simp only [decide_eq_true_eq, beq_iff_eq, bne_iff_ne, ne_eq]; done) | (simp only [decide_eq_true_eq, beq_iff_eq, bne_iff_ne, ne_eq]; omega)) | exact R_cmpF rfl rfl rfl rfl (by first | (simp only [decide_eq_false_iff_not, beq_eq_false_iff_ne, bne_eq_false_iff_eq, ne_eq]; done) | (simp only [decide_eq_false_iff_not, beq_eq_false_iff_ne, bne_eq_false_iff_eq, ne_eq]; omega)) | exact Y_ibin rfl rfl rfl rfl | exact Y_extract rfl rfl rfl | exact R_lenr tabOk rfl rfl rfl rfl | exact R_lenn tabOk rfl rfl rfl | exact R_indexr tabOk rfl rfl rfl rfl rfl rfl rfl (by omega) | exact R_fielde tabOk rfl rfl rfl rfl | exact R_loade tabOk rfl rfl rfl rfl rfl rfl rfl rfl rfl | exact Y_not rfl rfl | exact Y_pick_t rfl rfl (by first | rfl | assumption) rfl | exact Y_pick_f rfl rfl (by first | rfl | assumption) rfl | exact Y_pick_b rfl rfl rfl rfl | exact R_build tabOk rfl rfl rfl rfl rfl rfl | fail))
            | (apply Q_y rfl rfl rfl; (first | exact Y_move rfl rfl | exact Y_assign rfl rfl | exact R_index tabOk rfl rfl rfl rfl rfl rfl (by omega) | exact R_fieldi tabOk rfl rfl rfl | exact R_loadi tabOk rfl rfl rfl rfl (by first | exact win_flat0 pfxD_len l2 i _ hil (by decide) | exact win_flat pfxD_len l2 i _ _ hil (by decide) | exact win_flat2 pfxD_len l2 i _ _ _ hil (by decide) | rfl) rfl rfl | exact R_len tabOk rfl rfl rfl | exact R_load tabOk rfl rfl rfl rfl rfl rfl rfl rfl rfl | exact R_field tabOk rfl rfl rfl rfl | exact Y_add rfl rfl rfl (by first | exact wrap_succ (by omega) | exact wrap_pred (by omega) (by omega) | exact wrap_i64 ⟨by omega, by omega⟩ | rfl) | exact Y_sub rfl rfl rfl (by first | exact wrap_succ (by omega) | exact wrap_pred (by omega) (by omega) | exact wrap_i64 ⟨by omega, by omega⟩ | rfl) | exact R_cmpT rfl rfl rfl rfl (by first | (simp only [decide_eq_true_eq, beq_iff_eq, bne_iff_ne, ne_eq]; done) | (simp only [decide_eq_true_eq, beq_iff_eq, bne_iff_ne, ne_eq]; omega)) | exact R_cmpF rfl rfl rfl rfl (by first | (simp only [decide_eq_false_iff_not, beq_eq_false_iff_ne, bne_eq_false_iff_eq, ne_eq]; done) | (simp only [decide_eq_false_iff_not, beq_eq_false_iff_ne, bne_eq_false_iff_eq, ne_eq]; omega)) | exact Y_ibin rfl rfl rfl rfl | exact Y_extract rfl rfl rfl | exact R_lenr tabOk rfl rfl rfl rfl | exact R_lenn tabOk rfl rfl rfl | exact R_indexr tabOk rfl rfl rfl rfl rfl rfl rfl (by omega) | exact R_fielde tabOk rfl rfl rfl rfl | exact R_loade tabOk rfl rfl rfl rfl rfl rfl rfl rfl rfl | exact Y_not rfl rfl | exact Y_pick_t rfl rfl (by first | rfl | assumption) rfl | exact Y_pick_f rfl rfl (by first | rfl | assumption) rfl | exact Y_pick_b rfl rfl rfl rfl | exact R_build tabOk rfl rfl rfl rfl rfl rfl | fail))
            | refine O_nil ?_
            | refine Q_nil ?_
            | refine X_then_normal ?_
            | refine X_in_normal ?_
            | refine O_box rfl rfl rfl rfl rfl rfl rfl ?_
            | refine O_alloc tabOk rfl rfl rfl rfl rfl rfl ?_
            | refine O_store tabOk rfl rfl rfl rfl rfl rfl rfl rfl rfl rfl rfl ?_
            | refine O_slice tabOk rfl rfl rfl rfl rfl rfl rfl rfl rfl rfl rfl ?_
            | refine A_condt rfl (by first | rfl | assumption | (first | (simp only [decide_eq_true_eq]; done) | (simp only [decide_eq_true_eq]; omega))) ?_
            | refine A_condf rfl (by first | rfl | assumption | (first | (simp only [decide_eq_false_iff_not]; done) | (simp only [decide_eq_false_iff_not]; omega))) ?_
            | refine A_skip ?_
            | refine A_exit ?_
            | refine A_ret ?_
            | refine X_then_exit ?_
            | refine X_then_ret ?_
            | refine X_in_same ?_
            | refine X_in_other rfl ?_
            | refine X_in_ret ?_
            | refine O_s rfl rfl rfl ?_
            | refine Q_s rfl rfl rfl ?_
            | refine O_sn rfl rfl ?_
            | (first | refine Q_c rfl rfl rfl rfl rfl hin rfl (fun _ _ _ => val_mk _ _ _ _ _ rfl rfl) ?_ | refine O_c rfl rfl rfl rfl rfl hin (fun _ => rfl) ?_))
          exact ⟨i + 1, by (try dsimp only); omega, by (try dsimp only); omega, Wk_sel ⟨rfl, rfl, rfl, rfl, rfl, by rw [hany]; rfl, rfl, rfl, trivial⟩ trivial⟩
        | false =>
          rw [hb, Bool.false_or] at hany
          repeat (first
            | refine A_seq ?_
            | refine A_block ?_
            | refine R_list ?_
            | refine R_quiet rfl mixed (by kernel_rfl) ?_
            | (apply O_y rfl rfl rfl; (first | exact Y_move rfl rfl | exact Y_assign rfl rfl | exact R_index tabOk rfl rfl rfl rfl rfl rfl (by omega) | exact R_fieldi tabOk rfl rfl rfl | exact R_loadi tabOk rfl rfl rfl rfl (by first | exact win_flat0 pfxD_len l2 i _ hil (by decide) | exact win_flat pfxD_len l2 i _ _ hil (by decide) | exact win_flat2 pfxD_len l2 i _ _ _ hil (by decide) | rfl) rfl rfl | exact R_len tabOk rfl rfl rfl | exact R_load tabOk rfl rfl rfl rfl rfl rfl rfl rfl rfl | exact R_field tabOk rfl rfl rfl rfl | exact Y_add rfl rfl rfl (by first | exact wrap_succ (by omega) | exact wrap_pred (by omega) (by omega) | exact wrap_i64 ⟨by omega, by omega⟩ | rfl) | exact Y_sub rfl rfl rfl (by first | exact wrap_succ (by omega) | exact wrap_pred (by omega) (by omega) | exact wrap_i64 ⟨by omega, by omega⟩ | rfl) | exact R_cmpT rfl rfl rfl rfl (by first | (simp only [decide_eq_true_eq, beq_iff_eq, bne_iff_ne, ne_eq]; done) | (simp only [decide_eq_true_eq, beq_iff_eq, bne_iff_ne, ne_eq]; omega)) | exact R_cmpF rfl rfl rfl rfl (by first | (simp only [decide_eq_false_iff_not, beq_eq_false_iff_ne, bne_eq_false_iff_eq, ne_eq]; done) | (simp only [decide_eq_false_iff_not, beq_eq_false_iff_ne, bne_eq_false_iff_eq, ne_eq]; omega)) | exact Y_ibin rfl rfl rfl rfl | exact Y_extract rfl rfl rfl | exact R_lenr tabOk rfl rfl rfl rfl | exact R_lenn tabOk rfl rfl rfl | exact R_indexr tabOk rfl rfl rfl rfl rfl rfl rfl (by omega) | exact R_fielde tabOk rfl rfl rfl rfl | exact R_loade tabOk rfl rfl rfl rfl rfl rfl rfl rfl rfl | exact Y_not rfl rfl | exact Y_pick_t rfl rfl (by first | rfl | assumption) rfl | exact Y_pick_f rfl rfl (by first | rfl | assumption) rfl | exact Y_pick_b rfl rfl rfl rfl | exact R_build tabOk rfl rfl rfl rfl rfl rfl | fail))
            | (apply Q_y rfl rfl rfl; (first | exact Y_move rfl rfl | exact Y_assign rfl rfl | exact R_index tabOk rfl rfl rfl rfl rfl rfl (by omega) | exact R_fieldi tabOk rfl rfl rfl | exact R_loadi tabOk rfl rfl rfl rfl (by first | exact win_flat0 pfxD_len l2 i _ hil (by decide) | exact win_flat pfxD_len l2 i _ _ hil (by decide) | exact win_flat2 pfxD_len l2 i _ _ _ hil (by decide) | rfl) rfl rfl | exact R_len tabOk rfl rfl rfl | exact R_load tabOk rfl rfl rfl rfl rfl rfl rfl rfl rfl | exact R_field tabOk rfl rfl rfl rfl | exact Y_add rfl rfl rfl (by first | exact wrap_succ (by omega) | exact wrap_pred (by omega) (by omega) | exact wrap_i64 ⟨by omega, by omega⟩ | rfl) | exact Y_sub rfl rfl rfl (by first | exact wrap_succ (by omega) | exact wrap_pred (by omega) (by omega) | exact wrap_i64 ⟨by omega, by omega⟩ | rfl) | exact R_cmpT rfl rfl rfl rfl (by first | (simp only [decide_eq_true_eq, beq_iff_eq, bne_iff_ne, ne_eq]; done) | (simp only [decide_eq_true_eq, beq_iff_eq, bne_iff_ne, ne_eq]; omega)) | exact R_cmpF rfl rfl rfl rfl (by first | (simp only [decide_eq_false_iff_not, beq_eq_false_iff_ne, bne_eq_false_iff_eq, ne_eq]; done) | (simp only [decide_eq_false_iff_not, beq_eq_false_iff_ne, bne_eq_false_iff_eq, ne_eq]; omega)) | exact Y_ibin rfl rfl rfl rfl | exact Y_extract rfl rfl rfl | exact R_lenr tabOk rfl rfl rfl rfl | exact R_lenn tabOk rfl rfl rfl | exact R_indexr tabOk rfl rfl rfl rfl rfl rfl rfl (by omega) | exact R_fielde tabOk rfl rfl rfl rfl | exact R_loade tabOk rfl rfl rfl rfl rfl rfl rfl rfl rfl | exact Y_not rfl rfl | exact Y_pick_t rfl rfl (by first | rfl | assumption) rfl | exact Y_pick_f rfl rfl (by first | rfl | assumption) rfl | exact Y_pick_b rfl rfl rfl rfl | exact R_build tabOk rfl rfl rfl rfl rfl rfl | fail))
            | refine O_nil ?_
            | refine Q_nil ?_
            | refine X_then_normal ?_
            | refine X_in_normal ?_
            | refine O_box rfl rfl rfl rfl rfl rfl rfl ?_
            | refine O_alloc tabOk rfl rfl rfl rfl rfl rfl ?_
            | refine O_store tabOk rfl rfl rfl rfl rfl rfl rfl rfl rfl rfl rfl ?_
            | refine O_slice tabOk rfl rfl rfl rfl rfl rfl rfl rfl rfl rfl rfl ?_
            | refine A_condt rfl (by first | rfl | assumption | (first | (simp only [decide_eq_true_eq]; done) | (simp only [decide_eq_true_eq]; omega))) ?_
            | refine A_condf rfl (by first | rfl | assumption | (first | (simp only [decide_eq_false_iff_not]; done) | (simp only [decide_eq_false_iff_not]; omega))) ?_
            | refine A_skip ?_
            | refine A_exit ?_
            | refine A_ret ?_
            | refine X_then_exit ?_
            | refine X_then_ret ?_
            | refine X_in_same ?_
            | refine X_in_other rfl ?_
            | refine X_in_ret ?_
            | refine O_s rfl rfl rfl ?_
            | refine Q_s rfl rfl rfl ?_
            | refine O_sn rfl rfl ?_
            | (first | refine Q_c rfl rfl rfl rfl rfl hin rfl (fun _ _ _ => val_mk _ _ _ _ _ rfl rfl) ?_ | refine O_c rfl rfl rfl rfl rfl hin (fun _ => rfl) ?_))
          exact ⟨i + 1, by (try dsimp only); omega, by (try dsimp only); omega, Wk_sel ⟨rfl, rfl, rfl, rfl, rfl, by rw [hany]; rfl, rfl, rfl, trivial⟩ trivial⟩
      · have hi2 : i = l2.length := by omega
        subst hi2
        rw [List.take_length]
        repeat (first
          | refine A_seq ?_
          | refine A_block ?_
          | refine R_list ?_
          | refine R_quiet rfl mixed (by kernel_rfl) ?_
          | (apply O_y rfl rfl rfl; (first | exact Y_move rfl rfl | exact Y_assign rfl rfl | exact R_index tabOk rfl rfl rfl rfl rfl rfl (by omega) | exact R_fieldi tabOk rfl rfl rfl | exact R_loadi tabOk rfl rfl rfl rfl rfl rfl rfl | exact R_len tabOk rfl rfl rfl | exact R_load tabOk rfl rfl rfl rfl rfl rfl rfl rfl rfl | exact R_field tabOk rfl rfl rfl rfl | exact Y_add rfl rfl rfl (by first | exact wrap_succ (by omega) | exact wrap_pred (by omega) (by omega) | exact wrap_i64 ⟨by omega, by omega⟩ | rfl) | exact Y_sub rfl rfl rfl (by first | exact wrap_succ (by omega) | exact wrap_pred (by omega) (by omega) | exact wrap_i64 ⟨by omega, by omega⟩ | rfl) | exact R_cmpT rfl rfl rfl rfl (by first | (simp only [decide_eq_true_eq, beq_iff_eq, bne_iff_ne, ne_eq]; done) | (simp only [decide_eq_true_eq, beq_iff_eq, bne_iff_ne, ne_eq]; omega)) | exact R_cmpF rfl rfl rfl rfl (by first | (simp only [decide_eq_false_iff_not, beq_eq_false_iff_ne, bne_eq_false_iff_eq, ne_eq]; done) | (simp only [decide_eq_false_iff_not, beq_eq_false_iff_ne, bne_eq_false_iff_eq, ne_eq]; omega)) | exact Y_ibin rfl rfl rfl rfl | exact Y_extract rfl rfl rfl | exact R_lenr tabOk rfl rfl rfl rfl | exact R_lenn tabOk rfl rfl rfl | exact R_indexr tabOk rfl rfl rfl rfl rfl rfl rfl (by omega) | exact R_fielde tabOk rfl rfl rfl rfl | exact R_loade tabOk rfl rfl rfl rfl rfl rfl rfl rfl rfl | exact Y_not rfl rfl | exact Y_pick_t rfl rfl (by first | rfl | assumption) rfl | exact Y_pick_f rfl rfl (by first | rfl | assumption) rfl | exact Y_pick_b rfl rfl rfl rfl | exact R_build tabOk rfl rfl rfl rfl rfl rfl | fail))
          | (apply Q_y rfl rfl rfl; (first | exact Y_move rfl rfl | exact Y_assign rfl rfl | exact R_index tabOk rfl rfl rfl rfl rfl rfl (by omega) | exact R_fieldi tabOk rfl rfl rfl | exact R_loadi tabOk rfl rfl rfl rfl rfl rfl rfl | exact R_len tabOk rfl rfl rfl | exact R_load tabOk rfl rfl rfl rfl rfl rfl rfl rfl rfl | exact R_field tabOk rfl rfl rfl rfl | exact Y_add rfl rfl rfl (by first | exact wrap_succ (by omega) | exact wrap_pred (by omega) (by omega) | exact wrap_i64 ⟨by omega, by omega⟩ | rfl) | exact Y_sub rfl rfl rfl (by first | exact wrap_succ (by omega) | exact wrap_pred (by omega) (by omega) | exact wrap_i64 ⟨by omega, by omega⟩ | rfl) | exact R_cmpT rfl rfl rfl rfl (by first | (simp only [decide_eq_true_eq, beq_iff_eq, bne_iff_ne, ne_eq]; done) | (simp only [decide_eq_true_eq, beq_iff_eq, bne_iff_ne, ne_eq]; omega)) | exact R_cmpF rfl rfl rfl rfl (by first | (simp only [decide_eq_false_iff_not, beq_eq_false_iff_ne, bne_eq_false_iff_eq, ne_eq]; done) | (simp only [decide_eq_false_iff_not, beq_eq_false_iff_ne, bne_eq_false_iff_eq, ne_eq]; omega)) | exact Y_ibin rfl rfl rfl rfl | exact Y_extract rfl rfl rfl | exact R_lenr tabOk rfl rfl rfl rfl | exact R_lenn tabOk rfl rfl rfl | exact R_indexr tabOk rfl rfl rfl rfl rfl rfl rfl (by omega) | exact R_fielde tabOk rfl rfl rfl rfl | exact R_loade tabOk rfl rfl rfl rfl rfl rfl rfl rfl rfl | exact Y_not rfl rfl | exact Y_pick_t rfl rfl (by first | rfl | assumption) rfl | exact Y_pick_f rfl rfl (by first | rfl | assumption) rfl | exact Y_pick_b rfl rfl rfl rfl | exact R_build tabOk rfl rfl rfl rfl rfl rfl | fail))
          | refine O_nil ?_
          | refine Q_nil ?_
          | refine X_then_normal ?_
          | refine X_in_normal ?_
          | refine O_box rfl rfl rfl rfl rfl rfl rfl ?_
          | refine O_alloc tabOk rfl rfl rfl rfl rfl rfl ?_
          | refine O_store tabOk rfl rfl rfl rfl rfl rfl rfl rfl rfl rfl rfl ?_
          | refine O_slice tabOk rfl rfl rfl rfl rfl rfl rfl rfl rfl rfl rfl ?_
          | refine A_condt rfl (by first | rfl | assumption | (first | (simp only [decide_eq_true_eq]; done) | (simp only [decide_eq_true_eq]; omega))) ?_
          | refine A_condf rfl (by first | rfl | assumption | (first | (simp only [decide_eq_false_iff_not]; done) | (simp only [decide_eq_false_iff_not]; omega))) ?_
          | refine A_skip ?_
          | refine A_exit ?_
          | refine A_ret ?_
          | refine X_then_exit ?_
          | refine X_then_ret ?_
          | refine X_in_same ?_
          | refine X_in_other rfl ?_
          | refine X_in_ret ?_
          | refine O_s rfl rfl rfl ?_
          | refine Q_s rfl rfl rfl ?_
          | refine O_sn rfl rfl ?_
          | fail)
        refine A_loop (fun s : Nat => [(0, pfxsA l2), (1, .d (.sc (.int .u32 x))), (5, pfxsA (coverT l2)), (6, .d (.sc (.int .u32 l2[m].a))), (7, intA (m : Int)), (8, boolA (l2.any (inB l2[m].a))), (9, intA (cnt l2[m].a ((coverT l2).take s) : Int)), (11, intA (s : Int))]) (fun _ => []) (fun s => s ≤ (coverT l2).length) (fun s => (coverT l2).length - s) 0 (Nat.zero_le _) (Wk_sel ⟨rfl, rfl, rfl, rfl, rfl, rfl, rfl, rfl, trivial⟩ trivial) ?_
        intro j hj
        try dsimp only at hj ⊢
        by_cases hjl : j < (coverT l2).length
        · have hcs := cnt_succ hjl l2[m].a
          have hcl2 := cnt_le l2[m].a (coverT l2) j
          have hin := refIn_A l2[m].a (coverT l2)[j] (hco _ (List.getElem_mem hjl)) z0 z1
          cases hb : inB l2[m].a (coverT l2)[j] with
          | true =>
            rw [hb] at hin hcs
            rw [if_pos rfl] at hcs
            repeat (first
              | refine A_seq ?_
              | refine A_block ?_
              | refine R_list ?_
              | refine R_quiet rfl mixed (by kernel_rfl) ?_
              | (apply O_y rfl rfl rfl; (first | exact Y_move rfl rfl | exact Y_assign rfl rfl | exact R_index tabOk rfl rfl rfl rfl rfl rfl (by omega) | exact R_fieldi tabOk rfl rfl rfl | exact R_loadi tabOk rfl rfl rfl rfl (by first | exact win_flat0 pfxD_len (coverT l2) j _ hjl (by decide) | exact win_flat pfxD_len (coverT l2) j _ _ hjl (by decide) | exact win_flat2 pfxD_len (coverT l2) j _ _ _ hjl (by decide) | rfl) rfl rfl | exact R_len tabOk rfl rfl rfl | exact R_load tabOk rfl rfl rfl rfl rfl rfl rfl rfl rfl | exact R_field tabOk rfl rfl rfl rfl | exact Y_add rfl rfl rfl (by first | exact wrap_succ (by omega) | exact wrap_pred (by omega) (by omega) | exact wrap_i64 ⟨by omega, by omega⟩ | rfl) | exact Y_sub rfl rfl rfl (by first | exact wrap_succ (by omega) | exact wrap_pred (by omega) (by omega) | exact wrap_i64 ⟨by omega, by omega⟩ | rfl) | exact R_cmpT rfl rfl rfl rfl (by first | (simp only [decide_eq_true_eq, beq_iff_eq, bne_iff_ne, ne_eq]; done) | (simp only [decide_eq_true_eq, beq_iff_eq, bne_iff_ne, ne_eq]; omega)) | exact R_cmpF rfl rfl rfl rfl (by first | (simp only [decide_eq_false_iff_not, beq_eq_false_iff_ne, bne_eq_false_iff_eq, ne_eq]; done) | (simp only [decide_eq_false_iff_not, beq_eq_false_iff_ne, bne_eq_false_iff_eq, ne_eq]; omega)) | exact Y_ibin rfl rfl rfl rfl | exact Y_extract rfl rfl rfl | exact R_lenr tabOk rfl rfl rfl rfl | exact R_lenn tabOk rfl rfl rfl | exact R_indexr tabOk rfl rfl rfl rfl rfl rfl rfl (by omega) | exact R_fielde tabOk rfl rfl rfl rfl | exact R_loade tabOk rfl rfl rfl rfl rfl rfl rfl rfl rfl | exact Y_not rfl rfl | exact Y_pick_t rfl rfl (by first | rfl | assumption) rfl | exact Y_pick_f rfl rfl (by first | rfl | assumption) rfl | exact Y_pick_b rfl rfl rfl rfl | exact R_build tabOk rfl rfl rfl rfl rfl rfl | fail))
              | (apply Q_y rfl rfl rfl; (first | exact Y_move rfl rfl | exact Y_assign rfl rfl | exact R_index tabOk rfl rfl rfl rfl rfl rfl (by omega) | exact R_fieldi tabOk rfl rfl rfl | exact R_loadi tabOk rfl rfl rfl rfl (by first | exact win_flat0 pfxD_len (coverT l2) j _ hjl (by decide) | exact win_flat pfxD_len (coverT l2) j _ _ hjl (by decide) | exact win_flat2 pfxD_len (coverT l2) j _ _ _ hjl (by decide) | rfl) rfl rfl | exact R_len tabOk rfl rfl rfl | exact R_load tabOk rfl rfl rfl rfl rfl rfl rfl rfl rfl | exact R_field tabOk rfl rfl rfl rfl | exact Y_add rfl rfl rfl (by first | exact wrap_succ (by omega) | exact wrap_pred (by omega) (by omega) | exact wrap_i64 ⟨by omega, by omega⟩ | rfl) | exact Y_sub rfl rfl rfl (by first | exact wrap_succ (by omega) | exact wrap_pred (by omega) (by omega) | exact wrap_i64 ⟨by omega, by omega⟩ | rfl) | exact R_cmpT rfl rfl rfl rfl (by first | (simp only [decide_eq_true_eq, beq_iff_eq, bne_iff_ne, ne_eq]; done) | (simp only [decide_eq_true_eq, beq_iff_eq, bne_iff_ne, ne_eq]; omega)) | exact R_cmpF rfl rfl rfl rfl (by first | (simp only [decide_eq_false_iff_not, beq_eq_false_iff_ne, bne_eq_false_iff_eq, ne_eq]; done) | (simp only [decide_eq_false_iff_not, beq_eq_false_iff_ne, bne_eq_false_iff_eq, ne_eq]; omega)) | exact Y_ibin rfl rfl rfl rfl | exact Y_extract rfl rfl rfl | exact R_lenr tabOk rfl rfl rfl rfl | exact R_lenn tabOk rfl rfl rfl | exact R_indexr tabOk rfl rfl rfl rfl rfl rfl rfl (by omega) | exact R_fielde tabOk rfl rfl rfl rfl | exact R_loade tabOk rfl rfl rfl rfl rfl rfl rfl rfl rfl | exact Y_not rfl rfl | exact Y_pick_t rfl rfl (by first | rfl | assumption) rfl | exact Y_pick_f rfl rfl (by first | rfl | assumption) rfl | exact Y_pick_b rfl rfl rfl rfl | exact R_build tabOk rfl rfl rfl rfl rfl rfl | fail))
              | refine O_nil ?_
              | refine Q_nil ?_
              | refine X_then_normal ?_
              | refine X_in_normal ?_
              | refine O_box rfl rfl rfl rfl rfl rfl rfl ?_
              | refine O_alloc tabOk rfl rfl rfl rfl rfl rfl ?_
              | refine O_store tabOk rfl rfl rfl rfl rfl rfl rfl rfl rfl rfl rfl ?_
              | refine O_slice tabOk rfl rfl rfl rfl rfl rfl rfl rfl rfl rfl rfl ?_
              | refine A_condt rfl (by first | rfl | assumption | (first | (simp only [decide_eq_true_eq]; done) | (simp only [decide_eq_true_eq]; omega))) ?_
              | refine A_condf rfl (by first | rfl | assumption | (first | (simp only [decide_eq_false_iff_not]; done) | (simp only [decide_eq_false_iff_not]; omega))) ?_
              | refine A_skip ?_
              | refine A_exit ?_
              | refine A_ret ?_
              | refine X_then_exit ?_
              | refine X_then_ret ?_
              | refine X_in_same ?_
              | refine X_in_other rfl ?_
              | refine X_in_ret ?_
              | refine O_s rfl rfl rfl ?_
              | refine Q_s rfl rfl rfl ?_
              | refine O_sn rfl rfl ?_
              | (first | refine Q_c rfl rfl rfl rfl rfl hin rfl (fun _ _ _ => val_mk _ _ _ _ _ rfl rfl) ?_ | refine O_c rfl rfl rfl rfl rfl hin (fun _ => rfl) ?_))
            exact ⟨j + 1, by (try dsimp only); omega, by (try dsimp only); omega, Wk_sel ⟨rfl, rfl, rfl, rfl, rfl, rfl, by rw [hcs]; rfl, rfl, trivial⟩ trivial⟩
          | false =>
            rw [hb] at hin hcs
            rw [if_neg (by simp)] at hcs
            repeat (first
              | refine A_seq ?_
              | refine A_block ?_
              | refine R_list ?_
              | refine R_quiet rfl mixed (by kernel_rfl) ?_
              | (apply O_y rfl rfl rfl; (first | exact Y_move rfl rfl | exact Y_assign rfl rfl | exact R_index tabOk rfl rfl rfl rfl rfl rfl (by omega) | exact R_fieldi tabOk rfl rfl rfl | exact R_loadi tabOk rfl rfl rfl rfl (by first | exact win_flat0 pfxD_len (coverT l2) j _ hjl (by decide) | exact win_flat pfxD_len (coverT l2) j _ _ hjl (by decide) | exact win_flat2 pfxD_len (coverT l2) j _ _ _ hjl (by decide) | rfl) rfl rfl | exact R_len tabOk rfl rfl rfl | exact R_load tabOk rfl rfl rfl rfl rfl rfl rfl rfl rfl | exact R_field tabOk rfl rfl rfl rfl | exact Y_add rfl rfl rfl (by first | exact wrap_succ (by omega) | exact wrap_pred (by omega) (by omega) | exact wrap_i64 ⟨by omega, by omega⟩ | rfl) | exact Y_sub rfl rfl rfl (by first | exact wrap_succ (by omega) | exact wrap_pred (by omega) (by omega) | exact wrap_i64 ⟨by omega, by omega⟩ | rfl) | exact R_cmpT rfl rfl rfl rfl (by first | (simp only [decide_eq_true_eq, beq_iff_eq, bne_iff_ne, ne_eq]; done) | (simp only [decide_eq_true_eq, beq_iff_eq, bne_iff_ne, ne_eq]; omega)) | exact R_cmpF rfl rfl rfl rfl (by first | (simp only [decide_eq_false_iff_not, beq_eq_false_iff_ne, bne_eq_false_iff_eq, ne_eq]; done) | (simp only [decide_eq_false_iff_not, beq_eq_false_iff_ne, bne_eq_false_iff_eq, ne_eq]; omega)) | exact Y_ibin rfl rfl rfl rfl | exact Y_extract rfl rfl rfl | exact R_lenr tabOk rfl rfl rfl rfl | exact R_lenn tabOk rfl rfl rfl | exact R_indexr tabOk rfl rfl rfl rfl rfl rfl rfl (by omega) | exact R_fielde tabOk rfl rfl rfl rfl | exact R_loade tabOk rfl rfl rfl rfl rfl rfl rfl rfl rfl | exact Y_not rfl rfl | exact Y_pick_t rfl rfl (by first | rfl | assumption) rfl | exact Y_pick_f rfl rfl (by first | rfl | assumption) rfl | exact Y_pick_b rfl rfl rfl rfl | exact R_build tabOk rfl rfl rfl rfl rfl rfl | fail))
              | (apply Q_y rfl rfl rfl; (first | exact Y_move rfl rfl | exact Y_assign rfl rfl | exact R_index tabOk rfl rfl rfl rfl rfl rfl (by omega) | exact R_fieldi tabOk rfl rfl rfl | exact R_loadi tabOk rfl rfl rfl rfl (by first | exact win_flat0 pfxD_len (coverT l2) j _ hjl (by decide) | exact win_flat pfxD_len (coverT l2) j _ _ hjl (by decide) | exact win_flat2 pfxD_len (coverT l2) j _ _ _ hjl (by decide) | rfl) rfl rfl | exact R_len tabOk rfl rfl rfl | exact R_load tabOk rfl rfl rfl rfl rfl rfl rfl rfl rfl | exact R_field tabOk rfl rfl rfl rfl | exact Y_add rfl rfl rfl (by first | exact wrap_succ (by omega) | exact wrap_pred (by omega) (by omega) | exact wrap_i64 ⟨by omega, by omega⟩ | rfl) | exact Y_sub rfl rfl rfl (by first | exact wrap_succ (by omega) | exact wrap_pred (by omega) (by omega) | exact wrap_i64 ⟨by omega, by omega⟩ | rfl) | exact R_cmpT rfl rfl rfl rfl (by first | (simp only [decide_eq_true_eq, beq_iff_eq, bne_iff_ne, ne_eq]; done) | (simp only [decide_eq_true_eq, beq_iff_eq, bne_iff_ne, ne_eq]; omega)) | exact R_cmpF rfl rfl rfl rfl (by first | (simp only [decide_eq_false_iff_not, beq_eq_false_iff_ne, bne_eq_false_iff_eq, ne_eq]; done) | (simp only [decide_eq_false_iff_not, beq_eq_false_iff_ne, bne_eq_false_iff_eq, ne_eq]; omega)) | exact Y_ibin rfl rfl rfl rfl | exact Y_extract rfl rfl rfl | exact R_lenr tabOk rfl rfl rfl rfl | exact R_lenn tabOk rfl rfl rfl | exact R_indexr tabOk rfl rfl rfl rfl rfl rfl rfl (by omega) | exact R_fielde tabOk rfl rfl rfl rfl | exact R_loade tabOk rfl rfl rfl rfl rfl rfl rfl rfl rfl | exact Y_not rfl rfl | exact Y_pick_t rfl rfl (by first | rfl | assumption) rfl | exact Y_pick_f rfl rfl (by first | rfl | assumption) rfl | exact Y_pick_b rfl rfl rfl rfl | exact R_build tabOk rfl rfl rfl rfl rfl rfl | fail))
              | refine O_nil ?_
              | refine Q_nil ?_
              | refine X_then_normal ?_
              | refine X_in_normal ?_
              | refine O_box rfl rfl rfl rfl rfl rfl rfl ?_
              | refine O_alloc tabOk rfl rfl rfl rfl rfl rfl ?_
              | refine O_store tabOk rfl rfl rfl rfl rfl rfl rfl rfl rfl rfl rfl ?_
              | refine O_slice tabOk rfl rfl rfl rfl rfl rfl rfl rfl rfl rfl rfl ?_
              | refine A_condt rfl (by first | rfl | assumption | (first | (simp only [decide_eq_true_eq]; done) | (simp only [decide_eq_true_eq]; omega))) ?_
              | refine A_condf rfl (by first | rfl | assumption | (first | (simp only [decide_eq_false_iff_not]; done) | (simp only [decide_eq_false_iff_not]; omega))) ?_
              | refine A_skip ?_
              | refine A_exit ?_
              | refine A_ret ?_
              | refine X_then_exit ?_
              | refine X_then_ret ?_
              | refine X_in_same ?_
              | refine X_in_other rfl ?_
              | refine X_in_ret ?_
              | refine O_s rfl rfl rfl ?_
              | refine Q_s rfl rfl rfl ?_
              | refine O_sn rfl rfl ?_
              | (first | refine Q_c rfl rfl rfl rfl rfl hin rfl (fun _ _ _ => val_mk _ _ _ _ _ rfl rfl) ?_ | refine O_c rfl rfl rfl rfl rfl hin (fun _ => rfl) ?_))
            exact ⟨j + 1, by (try dsimp only); omega, by (try dsimp only); omega, Wk_sel ⟨rfl, rfl, rfl, rfl, rfl, rfl, by rw [hcs]; rfl, rfl, trivial⟩ trivial⟩
        · have hj2 : j = (coverT l2).length := by omega
          subst hj2
          have hcc := covered_count l2 hl l2[m].a
          rw [List.take_length, hcc]
          cases hb : l2.any (inB l2[m].a) with
          | true =>
            rw [if_pos rfl]
            repeat (first
              | refine A_seq ?_
              | refine A_block ?_
              | refine R_list ?_
              | refine R_quiet rfl mixed (by kernel_rfl) ?_
              | (apply O_y rfl rfl rfl; (first | exact Y_move rfl rfl | exact Y_assign rfl rfl | exact R_index tabOk rfl rfl rfl rfl rfl rfl (by omega) | exact R_fieldi tabOk rfl rfl rfl | exact R_loadi tabOk rfl rfl rfl rfl rfl rfl rfl | exact R_len tabOk rfl rfl rfl | exact R_load tabOk rfl rfl rfl rfl rfl rfl rfl rfl rfl | exact R_field tabOk rfl rfl rfl rfl | exact Y_add rfl rfl rfl (by first | exact wrap_succ (by omega) | exact wrap_pred (by omega) (by omega) | exact wrap_i64 ⟨by omega, by omega⟩ | rfl) | exact Y_sub rfl rfl rfl (by first | exact wrap_succ (by omega) | exact wrap_pred (by omega) (by omega) | exact wrap_i64 ⟨by omega, by omega⟩ | rfl) | exact R_cmpT rfl rfl rfl rfl (by first | (simp only [decide_eq_true_eq, beq_iff_eq, bne_iff_ne, ne_eq]; done) | (simp only [decide_eq_true_eq, beq_iff_eq, bne_iff_ne, ne_eq]; omega)) | exact R_cmpF rfl rfl rfl rfl (by first | (simp only [decide_eq_false_iff_not, beq_eq_false_iff_ne, bne_eq_false_iff_eq, ne_eq]; done) | (simp only [decide_eq_false_iff_not, beq_eq_false_iff_ne, bne_eq_false_iff_eq, ne_eq]; omega)) | exact Y_ibin rfl rfl rfl rfl | exact Y_extract rfl rfl rfl | exact R_lenr tabOk rfl rfl rfl rfl | exact R_lenn tabOk rfl rfl rfl | exact R_indexr tabOk rfl rfl rfl rfl rfl rfl rfl (by omega) | exact R_fielde tabOk rfl rfl rfl rfl | exact R_loade tabOk rfl rfl rfl rfl rfl rfl rfl rfl rfl | exact Y_not rfl rfl | exact Y_pick_t rfl rfl (by first | rfl | assumption) rfl | exact Y_pick_f rfl rfl (by first | rfl | assumption) rfl | exact Y_pick_b rfl rfl rfl rfl | exact R_build tabOk rfl rfl rfl rfl rfl rfl | fail))
              | (apply Q_y rfl rfl rfl; (first | exact Y_move rfl rfl | exact Y_assign rfl rfl | exact R_index tabOk rfl rfl rfl rfl rfl rfl (by omega) | exact R_fieldi tabOk rfl rfl rfl | exact R_loadi tabOk rfl rfl rfl rfl rfl rfl rfl | exact R_len tabOk rfl rfl rfl | exact R_load tabOk rfl rfl rfl rfl rfl rfl rfl rfl rfl | exact R_field tabOk rfl rfl rfl rfl | exact Y_add rfl rfl rfl (by first | exact wrap_succ (by omega) | exact wrap_pred (by omega) (by omega) | exact wrap_i64 ⟨by omega, by omega⟩ | rfl) | exact Y_sub rfl rfl rfl (by first | exact wrap_succ (by omega) | exact wrap_pred (by omega) (by omega) | exact wrap_i64 ⟨by omega, by omega⟩ | rfl) | exact R_cmpT rfl rfl rfl rfl (by first | (simp only [decide_eq_true_eq, beq_iff_eq, bne_iff_ne, ne_eq]; done) | (simp only [decide_eq_true_eq, beq_iff_eq, bne_iff_ne, ne_eq]; omega)) | exact R_cmpF rfl rfl rfl rfl (by first | (simp only [decide_eq_false_iff_not, beq_eq_false_iff_ne, bne_eq_false_iff_eq, ne_eq]; done) | (simp only [decide_eq_false_iff_not, beq_eq_false_iff_ne, bne_eq_false_iff_eq, ne_eq]; omega)) | exact Y_ibin rfl rfl rfl rfl | exact Y_extract rfl rfl rfl | exact R_lenr tabOk rfl rfl rfl rfl | exact R_lenn tabOk rfl rfl rfl | exact R_indexr tabOk rfl rfl rfl rfl rfl rfl rfl (by omega) | exact R_fielde tabOk rfl rfl rfl rfl | exact R_loade tabOk rfl rfl rfl rfl rfl rfl rfl rfl rfl | exact Y_not rfl rfl | exact Y_pick_t rfl rfl (by first | rfl | assumption) rfl | exact Y_pick_f rfl rfl (by first | rfl | assumption) rfl | exact Y_pick_b rfl rfl rfl rfl | exact R_build tabOk rfl rfl rfl rfl rfl rfl | fail))
              | refine O_nil ?_
              | refine Q_nil ?_
              | refine X_then_normal ?_
              | refine X_in_normal ?_
              | refine O_box rfl rfl rfl rfl rfl rfl rfl ?_
              | refine O_alloc tabOk rfl rfl rfl rfl rfl rfl ?_
              | refine O_store tabOk rfl rfl rfl rfl rfl rfl rfl rfl rfl rfl rfl ?_
              | refine O_slice tabOk rfl rfl rfl rfl rfl rfl rfl rfl rfl rfl rfl ?_
              | refine A_condt rfl (by first | rfl | assumption | (first | (simp only [decide_eq_true_eq]; done) | (simp only [decide_eq_true_eq]; omega))) ?_
              | refine A_condf rfl (by first | rfl | assumption | (first | (simp only [decide_eq_false_iff_not]; done) | (simp only [decide_eq_false_iff_not]; omega))) ?_
              | refine A_skip ?_
              | refine A_exit ?_
              | refine A_ret ?_
              | refine X_then_exit ?_
              | refine X_then_ret ?_
              | refine X_in_same ?_
              | refine X_in_other rfl ?_
              | refine X_in_ret ?_
              | refine O_s rfl rfl rfl ?_
              | refine Q_s rfl rfl rfl ?_
              | refine O_sn rfl rfl ?_
              | fail)
            exact ⟨(m + 2, l2[m].a), ⟨by (try dsimp only); omega, z0, z1⟩, by (try dsimp only); omega, Wk_sel ⟨rfl, rfl, rfl, rfl, (by dsimp only; rw [show (((m + 2 : Nat) : Int) - 1) = (m : Int) + 1 by omega]; rfl), trivial⟩ trivial⟩
          | false =>
            rw [if_neg (by simp)]
            repeat (first
              | refine A_seq ?_
              | refine A_block ?_
              | refine R_list ?_
              | refine R_quiet rfl mixed (by kernel_rfl) ?_
              | (apply O_y rfl rfl rfl; (first | exact Y_move rfl rfl | exact Y_assign rfl rfl | exact R_index tabOk rfl rfl rfl rfl rfl rfl (by omega) | exact R_fieldi tabOk rfl rfl rfl | exact R_loadi tabOk rfl rfl rfl rfl rfl rfl rfl | exact R_len tabOk rfl rfl rfl | exact R_load tabOk rfl rfl rfl rfl rfl rfl rfl rfl rfl | exact R_field tabOk rfl rfl rfl rfl | exact Y_add rfl rfl rfl (by first | exact wrap_succ (by omega) | exact wrap_pred (by omega) (by omega) | exact wrap_i64 ⟨by omega, by omega⟩ | rfl) | exact Y_sub rfl rfl rfl (by first | exact wrap_succ (by omega) | exact wrap_pred (by omega) (by omega) | exact wrap_i64 ⟨by omega, by omega⟩ | rfl) | exact R_cmpT rfl rfl rfl rfl (by first | (simp only [decide_eq_true_eq, beq_iff_eq, bne_iff_ne, ne_eq]; done) | (simp only [decide_eq_true_eq, beq_iff_eq, bne_iff_ne, ne_eq]; omega)) | exact R_cmpF rfl rfl rfl rfl (by first | (simp only [decide_eq_false_iff_not, beq_eq_false_iff_ne, bne_eq_false_iff_eq, ne_eq]; done) | (simp only [decide_eq_false_iff_not, beq_eq_false_iff_ne, bne_eq_false_iff_eq, ne_eq]; omega)) | exact Y_ibin rfl rfl rfl rfl | exact Y_extract rfl rfl rfl | exact R_lenr tabOk rfl rfl rfl rfl | exact R_lenn tabOk rfl rfl rfl | exact R_indexr tabOk rfl rfl rfl rfl rfl rfl rfl (by omega) | exact R_fielde tabOk rfl rfl rfl rfl | exact R_loade tabOk rfl rfl rfl rfl rfl rfl rfl rfl rfl | exact Y_not rfl rfl | exact Y_pick_t rfl rfl (by first | rfl | assumption) rfl | exact Y_pick_f rfl rfl (by first | rfl | assumption) rfl | exact Y_pick_b rfl rfl rfl rfl | exact R_build tabOk rfl rfl rfl rfl rfl rfl | fail))
              | (apply Q_y rfl rfl rfl; (first | exact Y_move rfl rfl | exact Y_assign rfl rfl | exact R_index tabOk rfl rfl rfl rfl rfl rfl (by omega) | exact R_fieldi tabOk rfl rfl rfl | exact R_loadi tabOk rfl rfl rfl rfl rfl rfl rfl | exact R_len tabOk rfl rfl rfl | exact R_load tabOk rfl rfl rfl rfl rfl rfl rfl rfl rfl | exact R_field tabOk rfl rfl rfl rfl | exact Y_add rfl rfl rfl (by first | exact wrap_succ (by omega) | exact wrap_pred (by omega) (by omega) | exact wrap_i64 ⟨by omega, by omega⟩ | rfl) | exact Y_sub rfl rfl rfl (by first | exact wrap_succ (by omega) | exact wrap_pred (by omega) (by omega) | exact wrap_i64 ⟨by omega, by omega⟩ | rfl) | exact R_cmpT rfl rfl rfl rfl (by first | (simp only [decide_eq_true_eq, beq_iff_eq, bne_iff_ne, ne_eq]; done) | (simp only [decide_eq_true_eq, beq_iff_eq, bne_iff_ne, ne_eq]; omega)) | exact R_cmpF rfl rfl rfl rfl (by first | (simp only [decide_eq_false_iff_not, beq_eq_false_iff_ne, bne_eq_false_iff_eq, ne_eq]; done) | (simp only [decide_eq_false_iff_not, beq_eq_false_iff_ne, bne_eq_false_iff_eq, ne_eq]; omega)) | exact Y_ibin rfl rfl rfl rfl | exact Y_extract rfl rfl rfl | exact R_lenr tabOk rfl rfl rfl rfl | exact R_lenn tabOk rfl rfl rfl | exact R_indexr tabOk rfl rfl rfl rfl rfl rfl rfl (by omega) | exact R_fielde tabOk rfl rfl rfl rfl | exact R_loade tabOk rfl rfl rfl rfl rfl rfl rfl rfl rfl | exact Y_not rfl rfl | exact Y_pick_t rfl rfl (by first | rfl | assumption) rfl | exact Y_pick_f rfl rfl (by first | rfl | assumption) rfl | exact Y_pick_b rfl rfl rfl rfl | exact R_build tabOk rfl rfl rfl rfl rfl rfl | fail))
              | refine O_nil ?_
              | refine Q_nil ?_
              | refine X_then_normal ?_
              | refine X_in_normal ?_
              | refine O_box rfl rfl rfl rfl rfl rfl rfl ?_
              | refine O_alloc tabOk rfl rfl rfl rfl rfl rfl ?_
              | refine O_store tabOk rfl rfl rfl rfl rfl rfl rfl rfl rfl rfl rfl ?_
              | refine O_slice tabOk rfl rfl rfl rfl rfl rfl rfl rfl rfl rfl rfl ?_
              | refine A_condt rfl (by first | rfl | assumption | (first | (simp only [decide_eq_true_eq]; done) | (simp only [decide_eq_true_eq]; omega))) ?_
              | refine A_condf rfl (by first | rfl | assumption | (first | (simp only [decide_eq_false_iff_not]; done) | (simp only [decide_eq_false_iff_not]; omega))) ?_
              | refine A_skip ?_
              | refine A_exit ?_
              | refine A_ret ?_
              | refine X_then_exit ?_
              | refine X_then_ret ?_
              | refine X_in_same ?_
              | refine X_in_other rfl ?_
              | refine X_in_ret ?_
              | refine O_s rfl rfl rfl ?_
              | refine Q_s rfl rfl rfl ?_
              | refine O_sn rfl rfl ?_
              | fail)
            exact ⟨(m + 2, l2[m].a), ⟨by (try dsimp only); omega, z0, z1⟩, by (try dsimp only); omega, Wk_sel ⟨rfl, rfl, rfl, rfl, (by dsimp only; rw [show (((m + 2 : Nat) : Int) - 1) = (m : Int) + 1 by omega]; rfl), trivial⟩ trivial⟩
  · have hk2 : k = l2.length + 1 := by omega
    subst hk2
    have e0 : (((l2.length + 1 : Nat) : Int) - 1) = (l2.length : Int) := by omega
    rw [e0]
    repeat (first
      | refine A_seq ?_
      | refine A_block ?_
      | refine R_list ?_
      | refine R_quiet rfl mixed (by kernel_rfl) ?_
      | (apply O_y rfl rfl rfl; (first | exact Y_move rfl rfl | exact Y_assign rfl rfl | exact R_index tabOk rfl rfl rfl rfl rfl rfl (by omega) | exact R_fieldi tabOk rfl rfl rfl | exact R_loadi tabOk rfl rfl rfl rfl rfl rfl rfl | exact R_len tabOk rfl rfl rfl | exact R_load tabOk rfl rfl rfl rfl rfl rfl rfl rfl rfl | exact R_field tabOk rfl rfl rfl rfl | exact Y_add rfl rfl rfl (by first | exact wrap_succ (by omega) | exact wrap_pred (by omega) (by omega) | exact wrap_i64 ⟨by omega, by omega⟩ | rfl) | exact Y_sub rfl rfl rfl (by first | exact wrap_succ (by omega) | exact wrap_pred (by omega) (by omega) | exact wrap_i64 ⟨by omega, by omega⟩ | rfl) | exact R_cmpT rfl rfl rfl rfl (by first | (simp only [decide_eq_true_eq, beq_iff_eq, bne_iff_ne, ne_eq]; done) | (simp only [decide_eq_true_eq, beq_iff_eq, bne_iff_ne, ne_eq]; omega)) | exact R_cmpF rfl rfl rfl rfl (by first | (simp only [decide_eq_false_iff_not, beq_eq_false_iff_ne, bne_eq_false_iff_eq, ne_eq]; done) | (simp only [decide_eq_false_iff_not, beq_eq_false_iff_ne, bne_eq_false_iff_eq, ne_eq]; omega)) | exact Y_ibin rfl rfl rfl rfl | exact Y_extract rfl rfl rfl | exact R_lenr tabOk rfl rfl rfl rfl | exact R_lenn tabOk rfl rfl rfl | exact R_indexr tabOk rfl rfl rfl rfl rfl rfl rfl (by omega) | exact R_fielde tabOk rfl rfl rfl rfl | exact R_loade tabOk rfl rfl rfl rfl rfl rfl rfl rfl rfl | exact Y_not rfl rfl | exact Y_pick_t rfl rfl (by first | rfl | assumption) rfl | exact Y_pick_f rfl rfl (by first | rfl | assumption) rfl | exact Y_pick_b rfl rfl rfl rfl | exact R_build tabOk rfl rfl rfl rfl rfl rfl | fail))
      | (apply Q_y rfl rfl rfl; (first | exact Y_move rfl rfl | exact Y_assign rfl rfl | exact R_index tabOk rfl rfl rfl rfl rfl rfl (by omega) | exact R_fieldi tabOk rfl rfl rfl | exact R_loadi tabOk rfl rfl rfl rfl rfl rfl rfl | exact R_len tabOk rfl rfl rfl | exact R_load tabOk rfl rfl rfl rfl rfl rfl rfl rfl rfl | exact R_field tabOk rfl rfl rfl rfl | exact Y_add rfl rfl rfl (by first | exact wrap_succ (by omega) | exact wrap_pred (by omega) (by omega) | exact wrap_i64 ⟨by omega, by omega⟩ | rfl) | exact Y_sub rfl rfl rfl (by first | exact wrap_succ (by omega) | exact wrap_pred (by omega) (by omega) | exact wrap_i64 ⟨by omega, by omega⟩ | rfl) | exact R_cmpT rfl rfl rfl rfl (by first | (simp only [decide_eq_true_eq, beq_iff_eq, bne_iff_ne, ne_eq]; done) | (simp only [decide_eq_true_eq, beq_iff_eq, bne_iff_ne, ne_eq]; omega)) | exact R_cmpF rfl rfl rfl rfl (by first | (simp only [decide_eq_false_iff_not, beq_eq_false_iff_ne, bne_eq_false_iff_eq, ne_eq]; done) | (simp only [decide_eq_false_iff_not, beq_eq_false_iff_ne, bne_eq_false_iff_eq, ne_eq]; omega)) | exact Y_ibin rfl rfl rfl rfl | exact Y_extract rfl rfl rfl | exact R_lenr tabOk rfl rfl rfl rfl | exact R_lenn tabOk rfl rfl rfl | exact R_indexr tabOk rfl rfl rfl rfl rfl rfl rfl (by omega) | exact R_fielde tabOk rfl rfl rfl rfl | exact R_loade tabOk rfl rfl rfl rfl rfl rfl rfl rfl rfl | exact Y_not rfl rfl | exact Y_pick_t rfl rfl (by first | rfl | assumption) rfl | exact Y_pick_f rfl rfl (by first | rfl | assumption) rfl | exact Y_pick_b rfl rfl rfl rfl | exact R_build tabOk rfl rfl rfl rfl rfl rfl | fail))
      | refine O_nil ?_
      | refine Q_nil ?_
      | refine X_then_normal ?_
      | refine X_in_normal ?_
      | refine O_box rfl rfl rfl rfl rfl rfl rfl ?_
      | refine O_alloc tabOk rfl rfl rfl rfl rfl rfl ?_
      | refine O_store tabOk rfl rfl rfl rfl rfl rfl rfl rfl rfl rfl rfl ?_
      | refine O_slice tabOk rfl rfl rfl rfl rfl rfl rfl rfl rfl rfl rfl ?_
      | refine A_condt rfl (by first | rfl | assumption | (first | (simp only [decide_eq_true_eq]; done) | (simp only [decide_eq_true_eq]; omega))) ?_
      | refine A_condf rfl (by first | rfl | assumption | (first | (simp only [decide_eq_false_iff_not]; done) | (simp only [decide_eq_false_iff_not]; omega))) ?_
      | refine A_skip ?_
      | refine A_exit ?_
      | refine A_ret ?_
      | refine X_then_exit ?_
      | refine X_then_ret ?_
      | refine X_in_same ?_
      | refine X_in_other rfl ?_
      | refine X_in_ret ?_
      | refine O_s rfl rfl rfl ?_
      | refine Q_s rfl rfl rfl ?_
      | refine O_sn rfl rfl ?_
      | fail)
    refine A_loop (fun s : Nat => [(0, pfxsA l2), (1, .d (.sc (.int .u32 x))), (5, pfxsA (coverT l2)), (12, intA (s : Int))]) (fun _ => []) (fun s => s ≤ (coverT l2).length) (fun s => (coverT l2).length - s) 0 (Nat.zero_le _) (Wk_sel ⟨rfl, rfl, rfl, rfl, trivial⟩ trivial) ?_
    intro i hi
    try dsimp only at hi ⊢
    by_cases hil : i < (coverT l2).length
    ·
      repeat (first
        | refine A_seq ?_
        | refine A_block ?_
        | refine R_list ?_
        | refine R_quiet rfl mixed (by kernel_rfl) ?_
        | (apply O_y rfl rfl rfl; (first | exact Y_move rfl rfl | exact Y_assign rfl rfl | exact R_index tabOk rfl rfl rfl rfl rfl rfl (by omega) | exact R_fieldi tabOk rfl rfl rfl | exact R_loadi tabOk rfl rfl rfl rfl rfl rfl rfl | exact R_len tabOk rfl rfl rfl | exact R_load tabOk rfl rfl rfl rfl rfl rfl rfl rfl rfl | exact R_field tabOk rfl rfl rfl rfl | exact Y_add rfl rfl rfl (by first | exact wrap_succ (by omega) | exact wrap_pred (by omega) (by omega) | exact wrap_i64 ⟨by omega, by omega⟩ | rfl) | exact Y_sub rfl rfl rfl (by first | exact wrap_succ (by omega) | exact wrap_pred (by omega) (by omega) | exact wrap_i64 ⟨by omega, by omega⟩ | rfl) | exact R_cmpT rfl rfl rfl rfl (by first | (simp only [decide_eq_true_eq, beq_iff_eq, bne_iff_ne, ne_eq]; done) | (simp only [decide_eq_true_eq, beq_iff_eq, bne_iff_ne, ne_eq]; omega)) | exact R_cmpF rfl rfl rfl rfl (by first | (simp only [decide_eq_false_iff_not, beq_eq_false_iff_ne, bne_eq_false_iff_eq, ne_eq]; done) | (simp only [decide_eq_false_iff_not, beq_eq_false_iff_ne, bne_eq_false_iff_eq, ne_eq]; omega)) | exact Y_ibin rfl rfl rfl rfl | exact Y_extract rfl rfl rfl | exact R_lenr tabOk rfl rfl rfl rfl | exact R_lenn tabOk rfl rfl rfl | exact R_indexr tabOk rfl rfl rfl rfl rfl rfl rfl (by omega) | exact R_fielde tabOk rfl rfl rfl rfl | exact R_loade tabOk rfl rfl rfl rfl rfl rfl rfl rfl rfl | exact Y_not rfl rfl | exact Y_pick_t rfl rfl (by first | rfl | assumption) rfl | exact Y_pick_f rfl rfl (by first | rfl | assumption) rfl | exact Y_pick_b rfl rfl rfl rfl | exact R_build tabOk rfl rfl rfl rfl rfl rfl | fail))
        | (apply Q_y rfl rfl rfl; (first | exact Y_move rfl rfl | exact Y_assign rfl rfl | exact R_index tabOk rfl rfl rfl rfl rfl rfl (by omega) | exact R_fieldi tabOk rfl rfl rfl | exact R_loadi tabOk rfl rfl rfl rfl rfl rfl rfl | exact R_len tabOk rfl rfl rfl | exact R_load tabOk rfl rfl rfl rfl rfl rfl rfl rfl rfl | exact R_field tabOk rfl rfl rfl rfl | exact Y_add rfl rfl rfl (by first | exact wrap_succ (by omega) | exact wrap_pred (by omega) (by omega) | exact wrap_i64 ⟨by omega, by omega⟩ | rfl) | exact Y_sub rfl rfl rfl (by first | exact wrap_succ (by omega) | exact wrap_pred (by omega) (by omega) | exact wrap_i64 ⟨by omega, by omega⟩ | rfl) | exact R_cmpT rfl rfl rfl rfl (by first | (simp only [decide_eq_true_eq, beq_iff_eq, bne_iff_ne, ne_eq]; done) | (simp only [decide_eq_true_eq, beq_iff_eq, bne_iff_ne, ne_eq]; omega)) | exact R_cmpF rfl rfl rfl rfl (by first | (simp only [decide_eq_false_iff_not, beq_eq_false_iff_ne, bne_eq_false_iff_eq, ne_eq]; done) | (simp only [decide_eq_false_iff_not, beq_eq_false_iff_ne, bne_eq_false_iff_eq, ne_eq]; omega)) | exact Y_ibin rfl rfl rfl rfl | exact Y_extract rfl rfl rfl | exact R_lenr tabOk rfl rfl rfl rfl | exact R_lenn tabOk rfl rfl rfl | exact R_indexr tabOk rfl rfl rfl rfl rfl rfl rfl (by omega) | exact R_fielde tabOk rfl rfl rfl rfl | exact R_loade tabOk rfl rfl rfl rfl rfl rfl rfl rfl rfl | exact Y_not rfl rfl | exact Y_pick_t rfl rfl (by first | rfl | assumption) rfl | exact Y_pick_f rfl rfl (by first | rfl | assumption) rfl | exact Y_pick_b rfl rfl rfl rfl | exact R_build tabOk rfl rfl rfl rfl rfl rfl | fail))
        | refine O_nil ?_
        | refine Q_nil ?_
        | refine X_then_normal ?_
        | refine X_in_normal ?_
        | refine O_box rfl rfl rfl rfl rfl rfl rfl ?_
        | refine O_alloc tabOk rfl rfl rfl rfl rfl rfl ?_
        | refine O_store tabOk rfl rfl rfl rfl rfl rfl rfl rfl rfl rfl rfl ?_
        | refine O_slice tabOk rfl rfl rfl rfl rfl rfl rfl rfl rfl rfl rfl ?_
        | refine A_condt rfl (by first | rfl | assumption | (first | (simp only [decide_eq_true_eq]; done) | (simp only [decide_eq_true_eq]; omega))) ?_
        | refine A_condf rfl (by first | rfl | assumption | (first | (simp only [decide_eq_false_iff_not]; done) | (simp only [decide_eq_false_iff_not]; omega))) ?_
        | refine A_skip ?_
        | refine A_exit ?_
        | refine A_ret ?_
        | refine X_then_exit ?_
        | refine X_then_ret ?_
        | refine X_in_same ?_
        | refine X_in_other rfl ?_
        | refine X_in_ret ?_
        | refine O_s rfl rfl rfl ?_
        | refine Q_s rfl rfl rfl ?_
        | refine O_sn rfl rfl ?_
        | fail)
      refine A_loop (fun s : Nat => [(0, pfxsA l2), (1, .d (.sc (.int .u32 x))), (5, pfxsA (coverT l2)), (12, intA (i : Int)), (13, intA (s : Int))]) (fun _ => []) (fun s => i < s ∧ s ≤ (coverT l2).length) (fun s => (coverT l2).length - s) (i + 1) ⟨by omega, by omega⟩ (Wk_sel ⟨rfl, rfl, rfl, rfl, rfl, trivial⟩ trivial) ?_
      rintro k ⟨hk1, hk⟩
      try dsimp only at hk1 hk ⊢
      by_cases hkl : k < (coverT l2).length
      · obtain ⟨lw1, lw2, lw3, lw4⟩ := covered_pair l2 hl hk1 hkl
        have oi := hco _ (List.getElem_mem hil)
        have ok := hco _ (List.getElem_mem hkl)
        have hcom := refCommon_A (coverT l2)[i] (coverT l2)[k] oi ok (hcg _ (List.getElem_mem hil)) (hcg _ (List.getElem_mem hkl))
        have hcmp := refCmp_A (coverT l2)[i] (coverT l2)[k]
        have hw1 := refWithin_A (coverT l2)[i] (coverT l2)[k] oi ok
        have hw2 := refWithin_A (coverT l2)[k] (coverT l2)[i] ok oi
        rw [lw1] at hcmp
        rw [lw3] at hw1
        rw [lw4] at hw2
        have gb0 := (hcg _ (List.getElem_mem hil)).1
        have gb1 := (hcg _ (List.getElem_mem hil)).2.1
        repeat (first
          | refine A_seq ?_
          | refine A_block ?_
          | refine R_list ?_
          | refine R_quiet rfl mixed (by kernel_rfl) ?_
          | (apply O_y rfl rfl rfl; (first | exact Y_move rfl rfl | exact Y_assign rfl rfl | exact R_index tabOk rfl rfl rfl rfl rfl rfl (by omega) | exact R_fieldi tabOk rfl rfl rfl | exact R_loadi tabOk rfl rfl rfl rfl (by first | exact win_flat0 pfxD_len (coverT l2) i _ hil (by decide) | exact win_flat0 pfxD_len (coverT l2) k _ hkl (by decide) | exact win_flat pfxD_len (coverT l2) i _ _ hil (by decide) | exact win_flat pfxD_len (coverT l2) k _ _ hkl (by decide) | exact win_flat2 pfxD_len (coverT l2) i _ _ _ hil (by decide) | exact win_flat2 pfxD_len (coverT l2) k _ _ _ hkl (by decide) | rfl) rfl rfl | exact R_len tabOk rfl rfl rfl | exact R_load tabOk rfl rfl rfl rfl rfl rfl rfl rfl rfl | exact R_field tabOk rfl rfl rfl rfl | exact Y_add rfl rfl rfl (by first | exact wrap_succ (by omega) | exact wrap_pred (by omega) (by omega) | exact wrap_i64 ⟨by omega, by omega⟩ | rfl) | exact Y_sub rfl rfl rfl (by first | exact wrap_succ (by omega) | exact wrap_pred (by omega) (by omega) | exact wrap_i64 ⟨by omega, by omega⟩ | rfl) | exact R_cmpT rfl rfl rfl rfl (by first | (simp only [decide_eq_true_eq, beq_iff_eq, bne_iff_ne, ne_eq]; done) | (simp only [decide_eq_true_eq, beq_iff_eq, bne_iff_ne, ne_eq]; omega)) | exact R_cmpF rfl rfl rfl rfl (by first | (simp only [decide_eq_false_iff_not, beq_eq_false_iff_ne, bne_eq_false_iff_eq, ne_eq]; done) | (simp only [decide_eq_false_iff_not, beq_eq_false_iff_ne, bne_eq_false_iff_eq, ne_eq]; omega)) | exact Y_ibin rfl rfl rfl rfl | exact Y_extract rfl rfl rfl | exact R_lenr tabOk rfl rfl rfl rfl | exact R_lenn tabOk rfl rfl rfl | exact R_indexr tabOk rfl rfl rfl rfl rfl rfl rfl (by omega) | exact R_fielde tabOk rfl rfl rfl rfl | exact R_loade tabOk rfl rfl rfl rfl rfl rfl rfl rfl rfl | exact Y_not rfl rfl | exact Y_pick_t rfl rfl (by first | rfl | assumption) rfl | exact Y_pick_f rfl rfl (by first | rfl | assumption) rfl | exact Y_pick_b rfl rfl rfl rfl | exact R_build tabOk rfl rfl rfl rfl rfl rfl | fail))
          | (apply Q_y rfl rfl rfl; (first | exact Y_move rfl rfl | exact Y_assign rfl rfl | exact R_index tabOk rfl rfl rfl rfl rfl rfl (by omega) | exact R_fieldi tabOk rfl rfl rfl | exact R_loadi tabOk rfl rfl rfl rfl (by first | exact win_flat0 pfxD_len (coverT l2) i _ hil (by decide) | exact win_flat0 pfxD_len (coverT l2) k _ hkl (by decide) | exact win_flat pfxD_len (coverT l2) i _ _ hil (by decide) | exact win_flat pfxD_len (coverT l2) k _ _ hkl (by decide) | exact win_flat2 pfxD_len (coverT l2) i _ _ _ hil (by decide) | exact win_flat2 pfxD_len (coverT l2) k _ _ _ hkl (by decide) | rfl) rfl rfl | exact R_len tabOk rfl rfl rfl | exact R_load tabOk rfl rfl rfl rfl rfl rfl rfl rfl rfl | exact R_field tabOk rfl rfl rfl rfl | exact Y_add rfl rfl rfl (by first | exact wrap_succ (by omega) | exact wrap_pred (by omega) (by omega) | exact wrap_i64 ⟨by omega, by omega⟩ | rfl) | exact Y_sub rfl rfl rfl (by first | exact wrap_succ (by omega) | exact wrap_pred (by omega) (by omega) | exact wrap_i64 ⟨by omega, by omega⟩ | rfl) | exact R_cmpT rfl rfl rfl rfl (by first | (simp only [decide_eq_true_eq, beq_iff_eq, bne_iff_ne, ne_eq]; done) | (simp only [decide_eq_true_eq, beq_iff_eq, bne_iff_ne, ne_eq]; omega)) | exact R_cmpF rfl rfl rfl rfl (by first | (simp only [decide_eq_false_iff_not, beq_eq_false_iff_ne, bne_eq_false_iff_eq, ne_eq]; done) | (simp only [decide_eq_false_iff_not, beq_eq_false_iff_ne, bne_eq_false_iff_eq, ne_eq]; omega)) | exact Y_ibin rfl rfl rfl rfl | exact Y_extract rfl rfl rfl | exact R_lenr tabOk rfl rfl rfl rfl | exact R_lenn tabOk rfl rfl rfl | exact R_indexr tabOk rfl rfl rfl rfl rfl rfl rfl (by omega) | exact R_fielde tabOk rfl rfl rfl rfl | exact R_loade tabOk rfl rfl rfl rfl rfl rfl rfl rfl rfl | exact Y_not rfl rfl | exact Y_pick_t rfl rfl (by first | rfl | assumption) rfl | exact Y_pick_f rfl rfl (by first | rfl | assumption) rfl | exact Y_pick_b rfl rfl rfl rfl | exact R_build tabOk rfl rfl rfl rfl rfl rfl | fail))
          | refine O_nil ?_
          | refine Q_nil ?_
          | refine X_then_normal ?_
          | refine X_in_normal ?_
          | refine O_box rfl rfl rfl rfl rfl rfl rfl ?_
          | refine O_alloc tabOk rfl rfl rfl rfl rfl rfl ?_
          | refine O_store tabOk rfl rfl rfl rfl rfl rfl rfl rfl rfl rfl rfl ?_
          | refine O_slice tabOk rfl rfl rfl rfl rfl rfl rfl rfl rfl rfl rfl ?_
          | refine A_condt rfl (by first | rfl | assumption | (first | (simp only [decide_eq_true_eq]; done) | (simp only [decide_eq_true_eq]; omega))) ?_
          | refine A_condf rfl (by first | rfl | assumption | (first | (simp only [decide_eq_false_iff_not]; done) | (simp only [decide_eq_false_iff_not]; omega))) ?_
          | refine A_skip ?_
          | refine A_exit ?_
          | refine A_ret ?_
          | refine X_then_exit ?_
          | refine X_then_ret ?_
          | refine X_in_same ?_
          | refine X_in_other rfl ?_
          | refine X_in_ret ?_
          | refine O_s rfl rfl rfl ?_
          | refine Q_s rfl rfl rfl ?_
          | refine O_sn rfl rfl ?_
          | fail)
        refine N_begin [14] mixed ?_
        (apply N_take (i := 0) rfl (by kernel_rfl) (by kernel_rfl) (by kernel_rfl) (by repeat (first | exact np_post | refine np_then ?_ | refine np_in ?_)) rfl rfl rfl; (first | exact Y_move rfl rfl | exact Y_assign rfl rfl | exact R_index tabOk rfl rfl rfl rfl rfl rfl (by omega) | exact R_fieldi tabOk rfl rfl rfl | exact R_loadi tabOk rfl rfl rfl rfl (by first | exact win_flat0 pfxD_len (coverT l2) i _ hil (by decide) | exact win_flat0 pfxD_len (coverT l2) k _ hkl (by decide) | exact win_flat pfxD_len (coverT l2) i _ _ hil (by decide) | exact win_flat pfxD_len (coverT l2) k _ _ hkl (by decide) | exact win_flat2 pfxD_len (coverT l2) i _ _ _ hil (by decide) | exact win_flat2 pfxD_len (coverT l2) k _ _ _ hkl (by decide) | rfl) rfl rfl | exact R_len tabOk rfl rfl rfl | exact R_load tabOk rfl rfl rfl rfl rfl rfl rfl rfl rfl | exact R_field tabOk rfl rfl rfl rfl | exact Y_add rfl rfl rfl (by first | exact wrap_succ (by omega) | exact wrap_pred (by omega) (by omega) | exact wrap_i64 ⟨by omega, by omega⟩ | rfl) | exact Y_sub rfl rfl rfl (by first | exact wrap_succ (by omega) | exact wrap_pred (by omega) (by omega) | exact wrap_i64 ⟨by omega, by omega⟩ | rfl) | exact R_cmpT rfl rfl rfl rfl (by first | (simp only [decide_eq_true_eq, beq_iff_eq, bne_iff_ne, ne_eq]; done) | (simp only [decide_eq_true_eq, beq_iff_eq, bne_iff_ne, ne_eq]; omega)) | exact R_cmpF rfl rfl rfl rfl (by first | (simp only [decide_eq_false_iff_not, beq_eq_false_iff_ne, bne_eq_false_iff_eq, ne_eq]; done) | (simp only [decide_eq_false_iff_not, beq_eq_false_iff_ne, bne_eq_false_iff_eq, ne_eq]; omega)) | exact Y_ibin rfl rfl rfl rfl | exact Y_extract rfl rfl rfl | exact R_lenr tabOk rfl rfl rfl rfl | exact R_lenn tabOk rfl rfl rfl | exact R_indexr tabOk rfl rfl rfl rfl rfl rfl rfl (by omega) | exact R_fielde tabOk rfl rfl rfl rfl | exact R_loade tabOk rfl rfl rfl rfl rfl rfl rfl rfl rfl | exact Y_not rfl rfl | exact Y_pick_t rfl rfl (by first | rfl | assumption) rfl | exact Y_pick_f rfl rfl (by first | rfl | assumption) rfl | exact Y_pick_b rfl rfl rfl rfl | exact R_build tabOk rfl rfl rfl rfl rfl rfl | fail))
        (apply N_take (i := 1) rfl (by kernel_rfl) (by kernel_rfl) (by kernel_rfl) (by repeat (first | exact np_post | refine np_then ?_ | refine np_in ?_)) rfl rfl rfl; (first | exact Y_move rfl rfl | exact Y_assign rfl rfl | exact R_index tabOk rfl rfl rfl rfl rfl rfl (by omega) | exact R_fieldi tabOk rfl rfl rfl | exact R_loadi tabOk rfl rfl rfl rfl (by first | exact win_flat0 pfxD_len (coverT l2) i _ hil (by decide) | exact win_flat0 pfxD_len (coverT l2) k _ hkl (by decide) | exact win_flat pfxD_len (coverT l2) i _ _ hil (by decide) | exact win_flat pfxD_len (coverT l2) k _ _ hkl (by decide) | exact win_flat2 pfxD_len (coverT l2) i _ _ _ hil (by decide) | exact win_flat2 pfxD_len (coverT l2) k _ _ _ hkl (by decide) | rfl) rfl rfl | exact R_len tabOk rfl rfl rfl | exact R_load tabOk rfl rfl rfl rfl rfl rfl rfl rfl rfl | exact R_field tabOk rfl rfl rfl rfl | exact Y_add rfl rfl rfl (by first | exact wrap_succ (by omega) | exact wrap_pred (by omega) (by omega) | exact wrap_i64 ⟨by omega, by omega⟩ | rfl) | exact Y_sub rfl rfl rfl (by first | exact wrap_succ (by omega) | exact wrap_pred (by omega) (by omega) | exact wrap_i64 ⟨by omega, by omega⟩ | rfl) | exact R_cmpT rfl rfl rfl rfl (by first | (simp only [decide_eq_true_eq, beq_iff_eq, bne_iff_ne, ne_eq]; done) | (simp only [decide_eq_true_eq, beq_iff_eq, bne_iff_ne, ne_eq]; omega)) | exact R_cmpF rfl rfl rfl rfl (by first | (simp only [decide_eq_false_iff_not, beq_eq_false_iff_ne, bne_eq_false_iff_eq, ne_eq]; done) | (simp only [decide_eq_false_iff_not, beq_eq_false_iff_ne, bne_eq_false_iff_eq, ne_eq]; omega)) | exact Y_ibin rfl rfl rfl rfl | exact Y_extract rfl rfl rfl | exact R_lenr tabOk rfl rfl rfl rfl | exact R_lenn tabOk rfl rfl rfl | exact R_indexr tabOk rfl rfl rfl rfl rfl rfl rfl (by omega) | exact R_fielde tabOk rfl rfl rfl rfl | exact R_loade tabOk rfl rfl rfl rfl rfl rfl rfl rfl rfl | exact Y_not rfl rfl | exact Y_pick_t rfl rfl (by first | rfl | assumption) rfl | exact Y_pick_f rfl rfl (by first | rfl | assumption) rfl | exact Y_pick_b rfl rfl rfl rfl | exact R_build tabOk rfl rfl rfl rfl rfl rfl | fail))
        (apply N_take (i := 2) rfl (by kernel_rfl) (by kernel_rfl) (by kernel_rfl) (by repeat (first | exact np_post | refine np_then ?_ | refine np_in ?_)) rfl rfl rfl; (first | exact Y_move rfl rfl | exact Y_assign rfl rfl | exact R_index tabOk rfl rfl rfl rfl rfl rfl (by omega) | exact R_fieldi tabOk rfl rfl rfl | exact R_loadi tabOk rfl rfl rfl rfl (by first | exact win_flat0 pfxD_len (coverT l2) i _ hil (by decide) | exact win_flat0 pfxD_len (coverT l2) k _ hkl (by decide) | exact win_flat pfxD_len (coverT l2) i _ _ hil (by decide) | exact win_flat pfxD_len (coverT l2) k _ _ hkl (by decide) | exact win_flat2 pfxD_len (coverT l2) i _ _ _ hil (by decide) | exact win_flat2 pfxD_len (coverT l2) k _ _ _ hkl (by decide) | rfl) rfl rfl | exact R_len tabOk rfl rfl rfl | exact R_load tabOk rfl rfl rfl rfl rfl rfl rfl rfl rfl | exact R_field tabOk rfl rfl rfl rfl | exact Y_add rfl rfl rfl (by first | exact wrap_succ (by omega) | exact wrap_pred (by omega) (by omega) | exact wrap_i64 ⟨by omega, by omega⟩ | rfl) | exact Y_sub rfl rfl rfl (by first | exact wrap_succ (by omega) | exact wrap_pred (by omega) (by omega) | exact wrap_i64 ⟨by omega, by omega⟩ | rfl) | exact R_cmpT rfl rfl rfl rfl (by first | (simp only [decide_eq_true_eq, beq_iff_eq, bne_iff_ne, ne_eq]; done) | (simp only [decide_eq_true_eq, beq_iff_eq, bne_iff_ne, ne_eq]; omega)) | exact R_cmpF rfl rfl rfl rfl (by first | (simp only [decide_eq_false_iff_not, beq_eq_false_iff_ne, bne_eq_false_iff_eq, ne_eq]; done) | (simp only [decide_eq_false_iff_not, beq_eq_false_iff_ne, bne_eq_false_iff_eq, ne_eq]; omega)) | exact Y_ibin rfl rfl rfl rfl | exact Y_extract rfl rfl rfl | exact R_lenr tabOk rfl rfl rfl rfl | exact R_lenn tabOk rfl rfl rfl | exact R_indexr tabOk rfl rfl rfl rfl rfl rfl rfl (by omega) | exact R_fielde tabOk rfl rfl rfl rfl | exact R_loade tabOk rfl rfl rfl rfl rfl rfl rfl rfl rfl | exact Y_not rfl rfl | exact Y_pick_t rfl rfl (by first | rfl | assumption) rfl | exact Y_pick_f rfl rfl (by first | rfl | assumption) rfl | exact Y_pick_b rfl rfl rfl rfl | exact R_build tabOk rfl rfl rfl rfl rfl rfl | fail))
        (apply N_take (i := 3) rfl (by kernel_rfl) (by kernel_rfl) (by kernel_rfl) (by repeat (first | exact np_post | refine np_then ?_ | refine np_in ?_)) rfl rfl rfl; (first | exact Y_move rfl rfl | exact Y_assign rfl rfl | exact R_index tabOk rfl rfl rfl rfl rfl rfl (by omega) | exact R_fieldi tabOk rfl rfl rfl | exact R_loadi tabOk rfl rfl rfl rfl (by first | exact win_flat0 pfxD_len (coverT l2) i _ hil (by decide) | exact win_flat0 pfxD_len (coverT l2) k _ hkl (by decide) | exact win_flat pfxD_len (coverT l2) i _ _ hil (by decide) | exact win_flat pfxD_len (coverT l2) k _ _ hkl (by decide) | exact win_flat2 pfxD_len (coverT l2) i _ _ _ hil (by decide) | exact win_flat2 pfxD_len (coverT l2) k _ _ _ hkl (by decide) | rfl) rfl rfl | exact R_len tabOk rfl rfl rfl | exact R_load tabOk rfl rfl rfl rfl rfl rfl rfl rfl rfl | exact R_field tabOk rfl rfl rfl rfl | exact Y_add rfl rfl rfl (by first | exact wrap_succ (by omega) | exact wrap_pred (by omega) (by omega) | exact wrap_i64 ⟨by omega, by omega⟩ | rfl) | exact Y_sub rfl rfl rfl (by first | exact wrap_succ (by omega) | exact wrap_pred (by omega) (by omega) | exact wrap_i64 ⟨by omega, by omega⟩ | rfl) | exact R_cmpT rfl rfl rfl rfl (by first | (simp only [decide_eq_true_eq, beq_iff_eq, bne_iff_ne, ne_eq]; done) | (simp only [decide_eq_true_eq, beq_iff_eq, bne_iff_ne, ne_eq]; omega)) | exact R_cmpF rfl rfl rfl rfl (by first | (simp only [decide_eq_false_iff_not, beq_eq_false_iff_ne, bne_eq_false_iff_eq, ne_eq]; done) | (simp only [decide_eq_false_iff_not, beq_eq_false_iff_ne, bne_eq_false_iff_eq, ne_eq]; omega)) | exact Y_ibin rfl rfl rfl rfl | exact Y_extract rfl rfl rfl | exact R_lenr tabOk rfl rfl rfl rfl | exact R_lenn tabOk rfl rfl rfl | exact R_indexr tabOk rfl rfl rfl rfl rfl rfl rfl (by omega) | exact R_fielde tabOk rfl rfl rfl rfl | exact R_loade tabOk rfl rfl rfl rfl rfl rfl rfl rfl rfl | exact Y_not rfl rfl | exact Y_pick_t rfl rfl (by first | rfl | assumption) rfl | exact Y_pick_f rfl rfl (by first | rfl | assumption) rfl | exact Y_pick_b rfl rfl rfl rfl | exact R_build tabOk rfl rfl rfl rfl rfl rfl | fail))
        (apply N_take (i := 4) rfl (by kernel_rfl) (by kernel_rfl) (by kernel_rfl) (by repeat (first | exact np_post | refine np_then ?_ | refine np_in ?_)) rfl rfl rfl; (first | exact Y_move rfl rfl | exact Y_assign rfl rfl | exact R_index tabOk rfl rfl rfl rfl rfl rfl (by omega) | exact R_fieldi tabOk rfl rfl rfl | exact R_loadi tabOk rfl rfl rfl rfl (by first | exact win_flat0 pfxD_len (coverT l2) i _ hil (by decide) | exact win_flat0 pfxD_len (coverT l2) k _ hkl (by decide) | exact win_flat pfxD_len (coverT l2) i _ _ hil (by decide) | exact win_flat pfxD_len (coverT l2) k _ _ hkl (by decide) | exact win_flat2 pfxD_len (coverT l2) i _ _ _ hil (by decide) | exact win_flat2 pfxD_len (coverT l2) k _ _ _ hkl (by decide) | rfl) rfl rfl | exact R_len tabOk rfl rfl rfl | exact R_load tabOk rfl rfl rfl rfl rfl rfl rfl rfl rfl | exact R_field tabOk rfl rfl rfl rfl | exact Y_add rfl rfl rfl (by first | exact wrap_succ (by omega) | exact wrap_pred (by omega) (by omega) | exact wrap_i64 ⟨by omega, by omega⟩ | rfl) | exact Y_sub rfl rfl rfl (by first | exact wrap_succ (by omega) | exact wrap_pred (by omega) (by omega) | exact wrap_i64 ⟨by omega, by omega⟩ | rfl) | exact R_cmpT rfl rfl rfl rfl (by first | (simp only [decide_eq_true_eq, beq_iff_eq, bne_iff_ne, ne_eq]; done) | (simp only [decide_eq_true_eq, beq_iff_eq, bne_iff_ne, ne_eq]; omega)) | exact R_cmpF rfl rfl rfl rfl (by first | (simp only [decide_eq_false_iff_not, beq_eq_false_iff_ne, bne_eq_false_iff_eq, ne_eq]; done) | (simp only [decide_eq_false_iff_not, beq_eq_false_iff_ne, bne_eq_false_iff_eq, ne_eq]; omega)) | exact Y_ibin rfl rfl rfl rfl | exact Y_extract rfl rfl rfl | exact R_lenr tabOk rfl rfl rfl rfl | exact R_lenn tabOk rfl rfl rfl | exact R_indexr tabOk rfl rfl rfl rfl rfl rfl rfl (by omega) | exact R_fielde tabOk rfl rfl rfl rfl | exact R_loade tabOk rfl rfl rfl rfl rfl rfl rfl rfl rfl | exact Y_not rfl rfl | exact Y_pick_t rfl rfl (by first | rfl | assumption) rfl | exact Y_pick_f rfl rfl (by first | rfl | assumption) rfl | exact Y_pick_b rfl rfl rfl rfl | exact R_build tabOk rfl rfl rfl rfl rfl rfl | fail))
        (apply N_take (i := 5) rfl (by kernel_rfl) (by kernel_rfl) (by kernel_rfl) (by repeat (first | exact np_post | refine np_then ?_ | refine np_in ?_)) rfl rfl rfl; (first | exact Y_move rfl rfl | exact Y_assign rfl rfl | exact R_index tabOk rfl rfl rfl rfl rfl rfl (by omega) | exact R_fieldi tabOk rfl rfl rfl | exact R_loadi tabOk rfl rfl rfl rfl (by first | exact win_flat0 pfxD_len (coverT l2) i _ hil (by decide) | exact win_flat0 pfxD_len (coverT l2) k _ hkl (by decide) | exact win_flat pfxD_len (coverT l2) i _ _ hil (by decide) | exact win_flat pfxD_len (coverT l2) k _ _ hkl (by decide) | exact win_flat2 pfxD_len (coverT l2) i _ _ _ hil (by decide) | exact win_flat2 pfxD_len (coverT l2) k _ _ _ hkl (by decide) | rfl) rfl rfl | exact R_len tabOk rfl rfl rfl | exact R_load tabOk rfl rfl rfl rfl rfl rfl rfl rfl rfl | exact R_field tabOk rfl rfl rfl rfl | exact Y_add rfl rfl rfl (by first | exact wrap_succ (by omega) | exact wrap_pred (by omega) (by omega) | exact wrap_i64 ⟨by omega, by omega⟩ | rfl) | exact Y_sub rfl rfl rfl (by first | exact wrap_succ (by omega) | exact wrap_pred (by omega) (by omega) | exact wrap_i64 ⟨by omega, by omega⟩ | rfl) | exact R_cmpT rfl rfl rfl rfl (by first | (simp only [decide_eq_true_eq, beq_iff_eq, bne_iff_ne, ne_eq]; done) | (simp only [decide_eq_true_eq, beq_iff_eq, bne_iff_ne, ne_eq]; omega)) | exact R_cmpF rfl rfl rfl rfl (by first | (simp only [decide_eq_false_iff_not, beq_eq_false_iff_ne, bne_eq_false_iff_eq, ne_eq]; done) | (simp only [decide_eq_false_iff_not, beq_eq_false_iff_ne, bne_eq_false_iff_eq, ne_eq]; omega)) | exact Y_ibin rfl rfl rfl rfl | exact Y_extract rfl rfl rfl | exact R_lenr tabOk rfl rfl rfl rfl | exact R_lenn tabOk rfl rfl rfl | exact R_indexr tabOk rfl rfl rfl rfl rfl rfl rfl (by omega) | exact R_fielde tabOk rfl rfl rfl rfl | exact R_loade tabOk rfl rfl rfl rfl rfl rfl rfl rfl rfl | exact Y_not rfl rfl | exact Y_pick_t rfl rfl (by first | rfl | assumption) rfl | exact Y_pick_f rfl rfl (by first | rfl | assumption) rfl | exact Y_pick_b rfl rfl rfl rfl | exact R_build tabOk rfl rfl rfl rfl rfl rfl | fail))
        (apply N_take (i := 6) rfl (by kernel_rfl) (by kernel_rfl) (by kernel_rfl) (by repeat (first | exact np_post | refine np_then ?_ | refine np_in ?_)) rfl rfl rfl; (first | exact Y_move rfl rfl | exact Y_assign rfl rfl | exact R_index tabOk rfl rfl rfl rfl rfl rfl (by omega) | exact R_fieldi tabOk rfl rfl rfl | exact R_loadi tabOk rfl rfl rfl rfl (by first | exact win_flat0 pfxD_len (coverT l2) i _ hil (by decide) | exact win_flat0 pfxD_len (coverT l2) k _ hkl (by decide) | exact win_flat pfxD_len (coverT l2) i _ _ hil (by decide) | exact win_flat pfxD_len (coverT l2) k _ _ hkl (by decide) | exact win_flat2 pfxD_len (coverT l2) i _ _ _ hil (by decide) | exact win_flat2 pfxD_len (coverT l2) k _ _ _ hkl (by decide) | rfl) rfl rfl | exact R_len tabOk rfl rfl rfl | exact R_load tabOk rfl rfl rfl rfl rfl rfl rfl rfl rfl | exact R_field tabOk rfl rfl rfl rfl | exact Y_add rfl rfl rfl (by first | exact wrap_succ (by omega) | exact wrap_pred (by omega) (by omega) | exact wrap_i64 ⟨by omega, by omega⟩ | rfl) | exact Y_sub rfl rfl rfl (by first | exact wrap_succ (by omega) | exact wrap_pred (by omega) (by omega) | exact wrap_i64 ⟨by omega, by omega⟩ | rfl) | exact R_cmpT rfl rfl rfl rfl (by first | (simp only [decide_eq_true_eq, beq_iff_eq, bne_iff_ne, ne_eq]; done) | (simp only [decide_eq_true_eq, beq_iff_eq, bne_iff_ne, ne_eq]; omega)) | exact R_cmpF rfl rfl rfl rfl (by first | (simp only [decide_eq_false_iff_not, beq_eq_false_iff_ne, bne_eq_false_iff_eq, ne_eq]; done) | (simp only [decide_eq_false_iff_not, beq_eq_false_iff_ne, bne_eq_false_iff_eq, ne_eq]; omega)) | exact Y_ibin rfl rfl rfl rfl | exact Y_extract rfl rfl rfl | exact R_lenr tabOk rfl rfl rfl rfl | exact R_lenn tabOk rfl rfl rfl | exact R_indexr tabOk rfl rfl rfl rfl rfl rfl rfl (by omega) | exact R_fielde tabOk rfl rfl rfl rfl | exact R_loade tabOk rfl rfl rfl rfl rfl rfl rfl rfl rfl | exact Y_not rfl rfl | exact Y_pick_t rfl rfl (by first | rfl | assumption) rfl | exact Y_pick_f rfl rfl (by first | rfl | assumption) rfl | exact Y_pick_b rfl rfl rfl rfl | exact R_build tabOk rfl rfl rfl rfl rfl rfl | fail))
        (apply N_take (i := 7) rfl (by kernel_rfl) (by kernel_rfl) (by kernel_rfl) (by repeat (first | exact np_post | refine np_then ?_ | refine np_in ?_)) rfl rfl rfl; (first | exact Y_move rfl rfl | exact Y_assign rfl rfl | exact R_index tabOk rfl rfl rfl rfl rfl rfl (by omega) | exact R_fieldi tabOk rfl rfl rfl | exact R_loadi tabOk rfl rfl rfl rfl (by first | exact win_flat0 pfxD_len (coverT l2) i _ hil (by decide) | exact win_flat0 pfxD_len (coverT l2) k _ hkl (by decide) | exact win_flat pfxD_len (coverT l2) i _ _ hil (by decide) | exact win_flat pfxD_len (coverT l2) k _ _ hkl (by decide) | exact win_flat2 pfxD_len (coverT l2) i _ _ _ hil (by decide) | exact win_flat2 pfxD_len (coverT l2) k _ _ _ hkl (by decide) | rfl) rfl rfl | exact R_len tabOk rfl rfl rfl | exact R_load tabOk rfl rfl rfl rfl rfl rfl rfl rfl rfl | exact R_field tabOk rfl rfl rfl rfl | exact Y_add rfl rfl rfl (by first | exact wrap_succ (by omega) | exact wrap_pred (by omega) (by omega) | exact wrap_i64 ⟨by omega, by omega⟩ | rfl) | exact Y_sub rfl rfl rfl (by first | exact wrap_succ (by omega) | exact wrap_pred (by omega) (by omega) | exact wrap_i64 ⟨by omega, by omega⟩ | rfl) | exact R_cmpT rfl rfl rfl rfl (by first | (simp only [decide_eq_true_eq, beq_iff_eq, bne_iff_ne, ne_eq]; done) | (simp only [decide_eq_true_eq, beq_iff_eq, bne_iff_ne, ne_eq]; omega)) | exact R_cmpF rfl rfl rfl rfl (by first | (simp only [decide_eq_false_iff_not, beq_eq_false_iff_ne, bne_eq_false_iff_eq, ne_eq]; done) | (simp only [decide_eq_false_iff_not, beq_eq_false_iff_ne, bne_eq_false_iff_eq, ne_eq]; omega)) | exact Y_ibin rfl rfl rfl rfl | exact Y_extract rfl rfl rfl | exact R_lenr tabOk rfl rfl rfl rfl | exact R_lenn tabOk rfl rfl rfl | exact R_indexr tabOk rfl rfl rfl rfl rfl rfl rfl (by omega) | exact R_fielde tabOk rfl rfl rfl rfl | exact R_loade tabOk rfl rfl rfl rfl rfl rfl rfl rfl rfl | exact Y_not rfl rfl | exact Y_pick_t rfl rfl (by first | rfl | assumption) rfl | exact Y_pick_f rfl rfl (by first | rfl | assumption) rfl | exact Y_pick_b rfl rfl rfl rfl | exact R_build tabOk rfl rfl rfl rfl rfl rfl | fail))
        refine N_two (j := 8) (k := 12) (by kernel_rfl) ?_ ?_
        rotate_left
        · refine T_alloc tabOk rfl rfl rfl rfl rfl rfl rfl ?_
          refine N_one (j := 8) (by kernel_rfl) ?_
          refine T_call rfl rfl rfl rfl rfl rfl hcom (fun _ => rfl) ?_
          (apply N_take (i := 9) rfl (by kernel_rfl) (by kernel_rfl) (by kernel_rfl) (by repeat (first | exact np_post | refine np_then ?_ | refine np_in ?_)) rfl rfl rfl; (first | exact Y_move rfl rfl | exact Y_assign rfl rfl | exact R_index tabOk rfl rfl rfl rfl rfl rfl (by omega) | exact R_fieldi tabOk rfl rfl rfl | exact R_loadi tabOk rfl rfl rfl rfl (by first | exact win_flat0 pfxD_len (coverT l2) i _ hil (by decide) | exact win_flat0 pfxD_len (coverT l2) k _ hkl (by decide) | exact win_flat pfxD_len (coverT l2) i _ _ hil (by decide) | exact win_flat pfxD_len (coverT l2) k _ _ hkl (by decide) | exact win_flat2 pfxD_len (coverT l2) i _ _ _ hil (by decide) | exact win_flat2 pfxD_len (coverT l2) k _ _ _ hkl (by decide) | rfl) rfl rfl | exact R_len tabOk rfl rfl rfl | exact R_load tabOk rfl rfl rfl rfl rfl rfl rfl rfl rfl | exact R_field tabOk rfl rfl rfl rfl | exact Y_add rfl rfl rfl (by first | exact wrap_succ (by omega) | exact wrap_pred (by omega) (by omega) | exact wrap_i64 ⟨by omega, by omega⟩ | rfl) | exact Y_sub rfl rfl rfl (by first | exact wrap_succ (by omega) | exact wrap_pred (by omega) (by omega) | exact wrap_i64 ⟨by omega, by omega⟩ | rfl) | exact R_cmpT rfl rfl rfl rfl (by first | (simp only [decide_eq_true_eq, beq_iff_eq, bne_iff_ne, ne_eq]; done) | (simp only [decide_eq_true_eq, beq_iff_eq, bne_iff_ne, ne_eq]; omega)) | exact R_cmpF rfl rfl rfl rfl (by first | (simp only [decide_eq_false_iff_not, beq_eq_false_iff_ne, bne_eq_false_iff_eq, ne_eq]; done) | (simp only [decide_eq_false_iff_not, beq_eq_false_iff_ne, bne_eq_false_iff_eq, ne_eq]; omega)) | exact Y_ibin rfl rfl rfl rfl | exact Y_extract rfl rfl rfl | exact R_lenr tabOk rfl rfl rfl rfl | exact R_lenn tabOk rfl rfl rfl | exact R_indexr tabOk rfl rfl rfl rfl rfl rfl rfl (by omega) | exact R_fielde tabOk rfl rfl rfl rfl | exact R_loade tabOk rfl rfl rfl rfl rfl rfl rfl rfl rfl | exact Y_not rfl rfl | exact Y_pick_t rfl rfl (by first | rfl | assumption) rfl | exact Y_pick_f rfl rfl (by first | rfl | assumption) rfl | exact Y_pick_b rfl rfl rfl rfl | exact R_build tabOk rfl rfl rfl rfl rfl rfl | fail))
          (apply N_take (i := 10) rfl (by kernel_rfl) (by kernel_rfl) (by kernel_rfl) (by repeat (first | exact np_post | refine np_then ?_ | refine np_in ?_)) rfl rfl rfl; (first | exact Y_move rfl rfl | exact Y_assign rfl rfl | exact R_index tabOk rfl rfl rfl rfl rfl rfl (by omega) | exact R_fieldi tabOk rfl rfl rfl | exact R_loadi tabOk rfl rfl rfl rfl (by first | exact win_flat0 pfxD_len (coverT l2) i _ hil (by decide) | exact win_flat0 pfxD_len (coverT l2) k _ hkl (by decide) | exact win_flat pfxD_len (coverT l2) i _ _ hil (by decide) | exact win_flat pfxD_len (coverT l2) k _ _ hkl (by decide) | exact win_flat2 pfxD_len (coverT l2) i _ _ _ hil (by decide) | exact win_flat2 pfxD_len (coverT l2) k _ _ _ hkl (by decide) | rfl) rfl rfl | exact R_len tabOk rfl rfl rfl | exact R_load tabOk rfl rfl rfl rfl rfl rfl rfl rfl rfl | exact R_field tabOk rfl rfl rfl rfl | exact Y_add rfl rfl rfl (by first | exact wrap_succ (by omega) | exact wrap_pred (by omega) (by omega) | exact wrap_i64 ⟨by omega, by omega⟩ | rfl) | exact Y_sub rfl rfl rfl (by first | exact wrap_succ (by omega) | exact wrap_pred (by omega) (by omega) | exact wrap_i64 ⟨by omega, by omega⟩ | rfl) | exact R_cmpT rfl rfl rfl rfl (by first | (simp only [decide_eq_true_eq, beq_iff_eq, bne_iff_ne, ne_eq]; done) | (simp only [decide_eq_true_eq, beq_iff_eq, bne_iff_ne, ne_eq]; omega)) | exact R_cmpF rfl rfl rfl rfl (by first | (simp only [decide_eq_false_iff_not, beq_eq_false_iff_ne, bne_eq_false_iff_eq, ne_eq]; done) | (simp only [decide_eq_false_iff_not, beq_eq_false_iff_ne, bne_eq_false_iff_eq, ne_eq]; omega)) | exact Y_ibin rfl rfl rfl rfl | exact Y_extract rfl rfl rfl | exact R_lenr tabOk rfl rfl rfl rfl | exact R_lenn tabOk rfl rfl rfl | exact R_indexr tabOk rfl rfl rfl rfl rfl rfl rfl (by omega) | exact R_fielde tabOk rfl rfl rfl rfl | exact R_loade tabOk rfl rfl rfl rfl rfl rfl rfl rfl rfl | exact Y_not rfl rfl | exact Y_pick_t rfl rfl (by first | rfl | assumption) rfl | exact Y_pick_f rfl rfl (by first | rfl | assumption) rfl | exact Y_pick_b rfl rfl rfl rfl | exact R_build tabOk rfl rfl rfl rfl rfl rfl | fail))
          (apply N_take (i := 11) rfl (by kernel_rfl) (by kernel_rfl) (by kernel_rfl) (by repeat (first | exact np_post | refine np_then ?_ | refine np_in ?_)) rfl rfl rfl; (first | exact Y_move rfl rfl | exact Y_assign rfl rfl | exact R_index tabOk rfl rfl rfl rfl rfl rfl (by omega) | exact R_fieldi tabOk rfl rfl rfl | exact R_loadi tabOk rfl rfl rfl rfl (by first | exact win_flat0 pfxD_len (coverT l2) i _ hil (by decide) | exact win_flat0 pfxD_len (coverT l2) k _ hkl (by decide) | exact win_flat pfxD_len (coverT l2) i _ _ hil (by decide) | exact win_flat pfxD_len (coverT l2) k _ _ hkl (by decide) | exact win_flat2 pfxD_len (coverT l2) i _ _ _ hil (by decide) | exact win_flat2 pfxD_len (coverT l2) k _ _ _ hkl (by decide) | rfl) rfl rfl | exact R_len tabOk rfl rfl rfl | exact R_load tabOk rfl rfl rfl rfl rfl rfl rfl rfl rfl | exact R_field tabOk rfl rfl rfl rfl | exact Y_add rfl rfl rfl (by first | exact wrap_succ (by omega) | exact wrap_pred (by omega) (by omega) | exact wrap_i64 ⟨by omega, by omega⟩ | rfl) | exact Y_sub rfl rfl rfl (by first | exact wrap_succ (by omega) | exact wrap_pred (by omega) (by omega) | exact wrap_i64 ⟨by omega, by omega⟩ | rfl) | exact R_cmpT rfl rfl rfl rfl (by first | (simp only [decide_eq_true_eq, beq_iff_eq, bne_iff_ne, ne_eq]; done) | (simp only [decide_eq_true_eq, beq_iff_eq, bne_iff_ne, ne_eq]; omega)) | exact R_cmpF rfl rfl rfl rfl (by first | (simp only [decide_eq_false_iff_not, beq_eq_false_iff_ne, bne_eq_false_iff_eq, ne_eq]; done) | (simp only [decide_eq_false_iff_not, beq_eq_false_iff_ne, bne_eq_false_iff_eq, ne_eq]; omega)) | exact Y_ibin rfl rfl rfl rfl | exact Y_extract rfl rfl rfl | exact R_lenr tabOk rfl rfl rfl rfl | exact R_lenn tabOk rfl rfl rfl | exact R_indexr tabOk rfl rfl rfl rfl rfl rfl rfl (by omega) | exact R_fielde tabOk rfl rfl rfl rfl | exact R_loade tabOk rfl rfl rfl rfl rfl rfl rfl rfl rfl | exact Y_not rfl rfl | exact Y_pick_t rfl rfl (by first | rfl | assumption) rfl | exact Y_pick_f rfl rfl (by first | rfl | assumption) rfl | exact Y_pick_b rfl rfl rfl rfl | exact R_build tabOk rfl rfl rfl rfl rfl rfl | fail))
          refine N_one (j := 13) (by kernel_rfl) ?_
          refine T_store tabOk rfl rfl rfl rfl rfl rfl rfl rfl rfl rfl rfl rfl rfl ?_
          (apply N_take (i := 14) rfl (by kernel_rfl) (by kernel_rfl) (by kernel_rfl) (by repeat (first | exact np_post | refine np_then ?_ | refine np_in ?_)) rfl rfl rfl; (first | exact Y_move rfl rfl | exact Y_assign rfl rfl | exact R_index tabOk rfl rfl rfl rfl rfl rfl (by omega) | exact R_fieldi tabOk rfl rfl rfl | exact R_loadi tabOk rfl rfl rfl rfl (by first | exact win_flat0 pfxD_len (coverT l2) i _ hil (by decide) | exact win_flat0 pfxD_len (coverT l2) k _ hkl (by decide) | exact win_flat pfxD_len (coverT l2) i _ _ hil (by decide) | exact win_flat pfxD_len (coverT l2) k _ _ hkl (by decide) | exact win_flat2 pfxD_len (coverT l2) i _ _ _ hil (by decide) | exact win_flat2 pfxD_len (coverT l2) k _ _ _ hkl (by decide) | rfl) rfl rfl | exact R_len tabOk rfl rfl rfl | exact R_load tabOk rfl rfl rfl rfl rfl rfl rfl rfl rfl | exact R_field tabOk rfl rfl rfl rfl | exact Y_add rfl rfl rfl (by first | exact wrap_succ (by omega) | exact wrap_pred (by omega) (by omega) | exact wrap_i64 ⟨by omega, by omega⟩ | rfl) | exact Y_sub rfl rfl rfl (by first | exact wrap_succ (by omega) | exact wrap_pred (by omega) (by omega) | exact wrap_i64 ⟨by omega, by omega⟩ | rfl) | exact R_cmpT rfl rfl rfl rfl (by first | (simp only [decide_eq_true_eq, beq_iff_eq, bne_iff_ne, ne_eq]; done) | (simp only [decide_eq_true_eq, beq_iff_eq, bne_iff_ne, ne_eq]; omega)) | exact R_cmpF rfl rfl rfl rfl (by first | (simp only [decide_eq_false_iff_not, beq_eq_false_iff_ne, bne_eq_false_iff_eq, ne_eq]; done) | (simp only [decide_eq_false_iff_not, beq_eq_false_iff_ne, bne_eq_false_iff_eq, ne_eq]; omega)) | exact Y_ibin rfl rfl rfl rfl | exact Y_extract rfl rfl rfl | exact R_lenr tabOk rfl rfl rfl rfl | exact R_lenn tabOk rfl rfl rfl | exact R_indexr tabOk rfl rfl rfl rfl rfl rfl rfl (by omega) | exact R_fielde tabOk rfl rfl rfl rfl | exact R_loade tabOk rfl rfl rfl rfl rfl rfl rfl rfl rfl | exact Y_not rfl rfl | exact Y_pick_t rfl rfl (by first | rfl | assumption) rfl | exact Y_pick_f rfl rfl (by first | rfl | assumption) rfl | exact Y_pick_b rfl rfl rfl rfl | exact R_build tabOk rfl rfl rfl rfl rfl rfl | fail))
          refine N_done (by kernel_rfl) ?_
          by_cases hbb : (coverT l2)[i].b = (coverT l2)[k].b
          · have hnw : ¬ (commonP (coverT l2)[i] (coverT l2)[k]).b = (coverT l2)[i].b - 1 := fun h => lw2 ⟨hbb, h⟩
            repeat (first
              | refine A_seq ?_
              | refine A_block ?_
              | refine R_list ?_
              | refine R_quiet rfl mixed (by kernel_rfl) ?_
              | (apply O_y rfl rfl rfl; (first | exact Y_move rfl rfl | exact Y_assign rfl rfl | exact R_index tabOk rfl rfl rfl rfl rfl rfl (by omega) | exact R_fieldi tabOk rfl rfl rfl | exact R_loadi tabOk rfl rfl rfl rfl (by first | exact win_flat0 pfxD_len (coverT l2) i _ hil (by decide) | exact win_flat0 pfxD_len (coverT l2) k _ hkl (by decide) | exact win_flat pfxD_len (coverT l2) i _ _ hil (by decide) | exact win_flat pfxD_len (coverT l2) k _ _ hkl (by decide) | exact win_flat2 pfxD_len (coverT l2) i _ _ _ hil (by decide) | exact win_flat2 pfxD_len (coverT l2) k _ _ _ hkl (by decide) | rfl) rfl rfl | exact R_len tabOk rfl rfl rfl | exact R_load tabOk rfl rfl rfl rfl rfl rfl rfl rfl rfl | exact R_field tabOk rfl rfl rfl rfl | exact Y_add rfl rfl rfl (by first | exact wrap_succ (by omega) | exact wrap_pred (by omega) (by omega) | exact wrap_i64 ⟨by omega, by omega⟩ | rfl) | exact Y_sub rfl rfl rfl (by first | exact wrap_succ (by omega) | exact wrap_pred (by omega) (by omega) | exact wrap_i64 ⟨by omega, by omega⟩ | rfl) | exact R_cmpT rfl rfl rfl rfl (by first | (simp only [decide_eq_true_eq, beq_iff_eq, bne_iff_ne, ne_eq]; done) | (simp only [decide_eq_true_eq, beq_iff_eq, bne_iff_ne, ne_eq]; omega)) | exact R_cmpF rfl rfl rfl rfl (by first | (simp only [decide_eq_false_iff_not, beq_eq_false_iff_ne, bne_eq_false_iff_eq, ne_eq]; done) | (simp only [decide_eq_false_iff_not, beq_eq_false_iff_ne, bne_eq_false_iff_eq, ne_eq]; omega)) | exact Y_ibin rfl rfl rfl rfl | exact Y_extract rfl rfl rfl | exact R_lenr tabOk rfl rfl rfl rfl | exact R_lenn tabOk rfl rfl rfl | exact R_indexr tabOk rfl rfl rfl rfl rfl rfl rfl (by omega) | exact R_fielde tabOk rfl rfl rfl rfl | exact R_loade tabOk rfl rfl rfl rfl rfl rfl rfl rfl rfl | exact Y_not rfl rfl | exact Y_pick_t rfl rfl (by first | rfl | assumption) rfl | exact Y_pick_f rfl rfl (by first | rfl | assumption) rfl | exact Y_pick_b rfl rfl rfl rfl | exact R_build tabOk rfl rfl rfl rfl rfl rfl | fail))
              | (apply Q_y rfl rfl rfl; (first | exact Y_move rfl rfl | exact Y_assign rfl rfl | exact R_index tabOk rfl rfl rfl rfl rfl rfl (by omega) | exact R_fieldi tabOk rfl rfl rfl | exact R_loadi tabOk rfl rfl rfl rfl (by first | exact win_flat0 pfxD_len (coverT l2) i _ hil (by decide) | exact win_flat0 pfxD_len (coverT l2) k _ hkl (by decide) | exact win_flat pfxD_len (coverT l2) i _ _ hil (by decide) | exact win_flat pfxD_len (coverT l2) k _ _ hkl (by decide) | exact win_flat2 pfxD_len (coverT l2) i _ _ _ hil (by decide) | exact win_flat2 pfxD_len (coverT l2) k _ _ _ hkl (by decide) | rfl) rfl rfl | exact R_len tabOk rfl rfl rfl | exact R_load tabOk rfl rfl rfl rfl rfl rfl rfl rfl rfl | exact R_field tabOk rfl rfl rfl rfl | exact Y_add rfl rfl rfl (by first | exact wrap_succ (by omega) | exact wrap_pred (by omega) (by omega) | exact wrap_i64 ⟨by omega, by omega⟩ | rfl) | exact Y_sub rfl rfl rfl (by first | exact wrap_succ (by omega) | exact wrap_pred (by omega) (by omega) | exact wrap_i64 ⟨by omega, by omega⟩ | rfl) | exact R_cmpT rfl rfl rfl rfl (by first | (simp only [decide_eq_true_eq, beq_iff_eq, bne_iff_ne, ne_eq]; done) | (simp only [decide_eq_true_eq, beq_iff_eq, bne_iff_ne, ne_eq]; omega)) | exact R_cmpF rfl rfl rfl rfl (by first | (simp only [decide_eq_false_iff_not, beq_eq_false_iff_ne, bne_eq_false_iff_eq, ne_eq]; done) | (simp only [decide_eq_false_iff_not, beq_eq_false_iff_ne, bne_eq_false_iff_eq, ne_eq]; omega)) | exact Y_ibin rfl rfl rfl rfl | exact Y_extract rfl rfl rfl | exact R_lenr tabOk rfl rfl rfl rfl | exact R_lenn tabOk rfl rfl rfl | exact R_indexr tabOk rfl rfl rfl rfl rfl rfl rfl (by omega) | exact R_fielde tabOk rfl rfl rfl rfl | exact R_loade tabOk rfl rfl rfl rfl rfl rfl rfl rfl rfl | exact Y_not rfl rfl | exact Y_pick_t rfl rfl (by first | rfl | assumption) rfl | exact Y_pick_f rfl rfl (by first | rfl | assumption) rfl | exact Y_pick_b rfl rfl rfl rfl | exact R_build tabOk rfl rfl rfl rfl rfl rfl | fail))
              | refine O_nil ?_
              | refine Q_nil ?_
              | refine X_then_normal ?_
              | refine X_in_normal ?_
              | refine O_box rfl rfl rfl rfl rfl rfl rfl ?_
              | refine O_alloc tabOk rfl rfl rfl rfl rfl rfl ?_
              | refine O_store tabOk rfl rfl rfl rfl rfl rfl rfl rfl rfl rfl rfl ?_
              | refine O_slice tabOk rfl rfl rfl rfl rfl rfl rfl rfl rfl rfl rfl ?_
              | refine A_condt rfl (by first | rfl | assumption | (first | (simp only [decide_eq_true_eq]; done) | (simp only [decide_eq_true_eq]; omega))) ?_
              | refine A_condf rfl (by first | rfl | assumption | (first | (simp only [decide_eq_false_iff_not]; done) | (simp only [decide_eq_false_iff_not]; omega))) ?_
              | refine A_skip ?_
              | refine A_exit ?_
              | refine A_ret ?_
              | refine X_then_exit ?_
              | refine X_then_ret ?_
              | refine X_in_same ?_
              | refine X_in_other rfl ?_
              | refine X_in_ret ?_
              | refine O_s rfl rfl rfl ?_
              | refine Q_s rfl rfl rfl ?_
              | refine O_sn rfl rfl ?_
              | (first | (first | refine Q_c rfl rfl rfl rfl rfl hcmp rfl (fun _ _ _ => val_mk _ _ _ _ _ rfl rfl) ?_ | refine O_c rfl rfl rfl rfl rfl hcmp (fun _ => rfl) ?_) | ((first | refine Q_c rfl rfl rfl rfl rfl hw1 rfl (fun _ _ _ => val_mk _ _ _ _ _ rfl rfl) ?_ | refine O_c rfl rfl rfl rfl rfl hw1 (fun _ => rfl) ?_)) | ((first | refine Q_c rfl rfl rfl rfl rfl hw2 rfl (fun _ _ _ => val_mk _ _ _ _ _ rfl rfl) ?_ | refine O_c rfl rfl rfl rfl rfl hw2 (fun _ => rfl) ?_))))
            exact ⟨k + 1, ⟨by (try dsimp only); omega, by (try dsimp only); omega⟩, by (try dsimp only); omega, Wk_sel ⟨rfl, rfl, rfl, rfl, rfl, trivial⟩ trivial⟩
          ·
            repeat (first
              | refine A_seq ?_
              | refine A_block ?_
              | refine R_list ?_
              | refine R_quiet rfl mixed (by kernel_rfl) ?_
              | (apply O_y rfl rfl rfl; (first | exact Y_move rfl rfl | exact Y_assign rfl rfl | exact R_index tabOk rfl rfl rfl rfl rfl rfl (by omega) | exact R_fieldi tabOk rfl rfl rfl | exact R_loadi tabOk rfl rfl rfl rfl (by first | exact win_flat0 pfxD_len (coverT l2) i _ hil (by decide) | exact win_flat0 pfxD_len (coverT l2) k _ hkl (by decide) | exact win_flat pfxD_len (coverT l2) i _ _ hil (by decide) | exact win_flat pfxD_len (coverT l2) k _ _ hkl (by decide) | exact win_flat2 pfxD_len (coverT l2) i _ _ _ hil (by decide) | exact win_flat2 pfxD_len (coverT l2) k _ _ _ hkl (by decide) | rfl) rfl rfl | exact R_len tabOk rfl rfl rfl | exact R_load tabOk rfl rfl rfl rfl rfl rfl rfl rfl rfl | exact R_field tabOk rfl rfl rfl rfl | exact Y_add rfl rfl rfl (by first | exact wrap_succ (by omega) | exact wrap_pred (by omega) (by omega) | exact wrap_i64 ⟨by omega, by omega⟩ | rfl) | exact Y_sub rfl rfl rfl (by first | exact wrap_succ (by omega) | exact wrap_pred (by omega) (by omega) | exact wrap_i64 ⟨by omega, by omega⟩ | rfl) | exact R_cmpT rfl rfl rfl rfl (by first | (simp only [decide_eq_true_eq, beq_iff_eq, bne_iff_ne, ne_eq]; done) | (simp only [decide_eq_true_eq, beq_iff_eq, bne_iff_ne, ne_eq]; omega)) | exact R_cmpF rfl rfl rfl rfl (by first | (simp only [decide_eq_false_iff_not, beq_eq_false_iff_ne, bne_eq_false_iff_eq, ne_eq]; done) | (simp only [decide_eq_false_iff_not, beq_eq_false_iff_ne, bne_eq_false_iff_eq, ne_eq]; omega)) | exact Y_ibin rfl rfl rfl rfl | exact Y_extract rfl rfl rfl | exact R_lenr tabOk rfl rfl rfl rfl | exact R_lenn tabOk rfl rfl rfl | exact R_indexr tabOk rfl rfl rfl rfl rfl rfl rfl (by omega) | exact R_fielde tabOk rfl rfl rfl rfl | exact R_loade tabOk rfl rfl rfl rfl rfl rfl rfl rfl rfl | exact Y_not rfl rfl | exact Y_pick_t rfl rfl (by first | rfl | assumption) rfl | exact Y_pick_f rfl rfl (by first | rfl | assumption) rfl | exact Y_pick_b rfl rfl rfl rfl | exact R_build tabOk rfl rfl rfl rfl rfl rfl | fail))
              | (apply Q_y rfl rfl rfl; (first | exact Y_move rfl rfl | exact Y_assign rfl rfl | exact R_index tabOk rfl rfl rfl rfl rfl rfl (by omega) | exact R_fieldi tabOk rfl rfl rfl | exact R_loadi tabOk rfl rfl rfl rfl (by first | exact win_flat0 pfxD_len (coverT l2) i _ hil (by decide) | exact win_flat0 pfxD_len (coverT l2) k _ hkl (by decide) | exact win_flat pfxD_len (coverT l2) i _ _ hil (by decide) | exact win_flat pfxD_len (coverT l2) k _ _ hkl (by decide) | exact win_flat2 pfxD_len (coverT l2) i _ _ _ hil (by decide) | exact win_flat2 pfxD_len (coverT l2) k _ _ _ hkl (by decide) | rfl) rfl rfl | exact R_len tabOk rfl rfl rfl | exact R_load tabOk rfl rfl rfl rfl rfl rfl rfl rfl rfl | exact R_field tabOk rfl rfl rfl rfl | exact Y_add rfl rfl rfl (by first | exact wrap_succ (by omega) | exact wrap_pred (by omega) (by omega) | exact wrap_i64 ⟨by omega, by omega⟩ | rfl) | exact Y_sub rfl rfl rfl (by first | exact wrap_succ (by omega) | exact wrap_pred (by omega) (by omega) | exact wrap_i64 ⟨by omega, by omega⟩ | rfl) | exact R_cmpT rfl rfl rfl rfl (by first | (simp only [decide_eq_true_eq, beq_iff_eq, bne_iff_ne, ne_eq]; done) | (simp only [decide_eq_true_eq, beq_iff_eq, bne_iff_ne, ne_eq]; omega)) | exact R_cmpF rfl rfl rfl rfl (by first | (simp only [decide_eq_false_iff_not, beq_eq_false_iff_ne, bne_eq_false_iff_eq, ne_eq]; done) | (simp only [decide_eq_false_iff_not, beq_eq_false_iff_ne, bne_eq_false_iff_eq, ne_eq]; omega)) | exact Y_ibin rfl rfl rfl rfl | exact Y_extract rfl rfl rfl | exact R_lenr tabOk rfl rfl rfl rfl | exact R_lenn tabOk rfl rfl rfl | exact R_indexr tabOk rfl rfl rfl rfl rfl rfl rfl (by omega) | exact R_fielde tabOk rfl rfl rfl rfl | exact R_loade tabOk rfl rfl rfl rfl rfl rfl rfl rfl rfl | exact Y_not rfl rfl | exact Y_pick_t rfl rfl (by first | rfl | assumption) rfl | exact Y_pick_f rfl rfl (by first | rfl | assumption) rfl | exact Y_pick_b rfl rfl rfl rfl | exact R_build tabOk rfl rfl rfl rfl rfl rfl | fail))
              | refine O_nil ?_
              | refine Q_nil ?_
              | refine X_then_normal ?_
              | refine X_in_normal ?_
              | refine O_box rfl rfl rfl rfl rfl rfl rfl ?_
              | refine O_alloc tabOk rfl rfl rfl rfl rfl rfl ?_
              | refine O_store tabOk rfl rfl rfl rfl rfl rfl rfl rfl rfl rfl rfl ?_
              | refine O_slice tabOk rfl rfl rfl rfl rfl rfl rfl rfl rfl rfl rfl ?_
              | refine A_condt rfl (by first | rfl | assumption | (first | (simp only [decide_eq_true_eq]; done) | (simp only [decide_eq_true_eq]; omega))) ?_
              | refine A_condf rfl (by first | rfl | assumption | (first | (simp only [decide_eq_false_iff_not]; done) | (simp only [decide_eq_false_iff_not]; omega))) ?_
              | refine A_skip ?_
              | refine A_exit ?_
              | refine A_ret ?_
              | refine X_then_exit ?_
              | refine X_then_ret ?_
              | refine X_in_same ?_
              | refine X_in_other rfl ?_
              | refine X_in_ret ?_
              | refine O_s rfl rfl rfl ?_
              | refine Q_s rfl rfl rfl ?_
              | refine O_sn rfl rfl ?_
              | (first | (first | refine Q_c rfl rfl rfl rfl rfl hcmp rfl (fun _ _ _ => val_mk _ _ _ _ _ rfl rfl) ?_ | refine O_c rfl rfl rfl rfl rfl hcmp (fun _ => rfl) ?_) | ((first | refine Q_c rfl rfl rfl rfl rfl hw1 rfl (fun _ _ _ => val_mk _ _ _ _ _ rfl rfl) ?_ | refine O_c rfl rfl rfl rfl rfl hw1 (fun _ => rfl) ?_)) | ((first | refine Q_c rfl rfl rfl rfl rfl hw2 rfl (fun _ _ _ => val_mk _ _ _ _ _ rfl rfl) ?_ | refine O_c rfl rfl rfl rfl rfl hw2 (fun _ => rfl) ?_))))
            exact ⟨k + 1, ⟨by (try dsimp only); omega, by (try dsimp only); omega⟩, by (try dsimp only); omega, Wk_sel ⟨rfl, rfl, rfl, rfl, rfl, trivial⟩ trivial⟩
        · refine T_call rfl rfl rfl rfl rfl rfl hcom (fun _ => rfl) ?_
          (apply N_take (i := 9) rfl (by kernel_rfl) (by kernel_rfl) (by kernel_rfl) (by repeat (first | exact np_post | refine np_then ?_ | refine np_in ?_)) rfl rfl rfl; (first | exact Y_move rfl rfl | exact Y_assign rfl rfl | exact R_index tabOk rfl rfl rfl rfl rfl rfl (by omega) | exact R_fieldi tabOk rfl rfl rfl | exact R_loadi tabOk rfl rfl rfl rfl (by first | exact win_flat0 pfxD_len (coverT l2) i _ hil (by decide) | exact win_flat0 pfxD_len (coverT l2) k _ hkl (by decide) | exact win_flat pfxD_len (coverT l2) i _ _ hil (by decide) | exact win_flat pfxD_len (coverT l2) k _ _ hkl (by decide) | exact win_flat2 pfxD_len (coverT l2) i _ _ _ hil (by decide) | exact win_flat2 pfxD_len (coverT l2) k _ _ _ hkl (by decide) | rfl) rfl rfl | exact R_len tabOk rfl rfl rfl | exact R_load tabOk rfl rfl rfl rfl rfl rfl rfl rfl rfl | exact R_field tabOk rfl rfl rfl rfl | exact Y_add rfl rfl rfl (by first | exact wrap_succ (by omega) | exact wrap_pred (by omega) (by omega) | exact wrap_i64 ⟨by omega, by omega⟩ | rfl) | exact Y_sub rfl rfl rfl (by first | exact wrap_succ (by omega) | exact wrap_pred (by omega) (by omega) | exact wrap_i64 ⟨by omega, by omega⟩ | rfl) | exact R_cmpT rfl rfl rfl rfl (by first | (simp only [decide_eq_true_eq, beq_iff_eq, bne_iff_ne, ne_eq]; done) | (simp only [decide_eq_true_eq, beq_iff_eq, bne_iff_ne, ne_eq]; omega)) | exact R_cmpF rfl rfl rfl rfl (by first | (simp only [decide_eq_false_iff_not, beq_eq_false_iff_ne, bne_eq_false_iff_eq, ne_eq]; done) | (simp only [decide_eq_false_iff_not, beq_eq_false_iff_ne, bne_eq_false_iff_eq, ne_eq]; omega)) | exact Y_ibin rfl rfl rfl rfl | exact Y_extract rfl rfl rfl | exact R_lenr tabOk rfl rfl rfl rfl | exact R_lenn tabOk rfl rfl rfl | exact R_indexr tabOk rfl rfl rfl rfl rfl rfl rfl (by omega) | exact R_fielde tabOk rfl rfl rfl rfl | exact R_loade tabOk rfl rfl rfl rfl rfl rfl rfl rfl rfl | exact Y_not rfl rfl | exact Y_pick_t rfl rfl (by first | rfl | assumption) rfl | exact Y_pick_f rfl rfl (by first | rfl | assumption) rfl | exact Y_pick_b rfl rfl rfl rfl | exact R_build tabOk rfl rfl rfl rfl rfl rfl | fail))
          (apply N_take (i := 10) rfl (by kernel_rfl) (by kernel_rfl) (by kernel_rfl) (by repeat (first | exact np_post | refine np_then ?_ | refine np_in ?_)) rfl rfl rfl; (first | exact Y_move rfl rfl | exact Y_assign rfl rfl | exact R_index tabOk rfl rfl rfl rfl rfl rfl (by omega) | exact R_fieldi tabOk rfl rfl rfl | exact R_loadi tabOk rfl rfl rfl rfl (by first | exact win_flat0 pfxD_len (coverT l2) i _ hil (by decide) | exact win_flat0 pfxD_len (coverT l2) k _ hkl (by decide) | exact win_flat pfxD_len (coverT l2) i _ _ hil (by decide) | exact win_flat pfxD_len (coverT l2) k _ _ hkl (by decide) | exact win_flat2 pfxD_len (coverT l2) i _ _ _ hil (by decide) | exact win_flat2 pfxD_len (coverT l2) k _ _ _ hkl (by decide) | rfl) rfl rfl | exact R_len tabOk rfl rfl rfl | exact R_load tabOk rfl rfl rfl rfl rfl rfl rfl rfl rfl | exact R_field tabOk rfl rfl rfl rfl | exact Y_add rfl rfl rfl (by first | exact wrap_succ (by omega) | exact wrap_pred (by omega) (by omega) | exact wrap_i64 ⟨by omega, by omega⟩ | rfl) | exact Y_sub rfl rfl rfl (by first | exact wrap_succ (by omega) | exact wrap_pred (by omega) (by omega) | exact wrap_i64 ⟨by omega, by omega⟩ | rfl) | exact R_cmpT rfl rfl rfl rfl (by first | (simp only [decide_eq_true_eq, beq_iff_eq, bne_iff_ne, ne_eq]; done) | (simp only [decide_eq_true_eq, beq_iff_eq, bne_iff_ne, ne_eq]; omega)) | exact R_cmpF rfl rfl rfl rfl (by first | (simp only [decide_eq_false_iff_not, beq_eq_false_iff_ne, bne_eq_false_iff_eq, ne_eq]; done) | (simp only [decide_eq_false_iff_not, beq_eq_false_iff_ne, bne_eq_false_iff_eq, ne_eq]; omega)) | exact Y_ibin rfl rfl rfl rfl | exact Y_extract rfl rfl rfl | exact R_lenr tabOk rfl rfl rfl rfl | exact R_lenn tabOk rfl rfl rfl | exact R_indexr tabOk rfl rfl rfl rfl rfl rfl rfl (by omega) | exact R_fielde tabOk rfl rfl rfl rfl | exact R_loade tabOk rfl rfl rfl rfl rfl rfl rfl rfl rfl | exact Y_not rfl rfl | exact Y_pick_t rfl rfl (by first | rfl | assumption) rfl | exact Y_pick_f rfl rfl (by first | rfl | assumption) rfl | exact Y_pick_b rfl rfl rfl rfl | exact R_build tabOk rfl rfl rfl rfl rfl rfl | fail))
          (apply N_take (i := 11) rfl (by kernel_rfl) (by kernel_rfl) (by kernel_rfl) (by repeat (first | exact np_post | refine np_then ?_ | refine np_in ?_)) rfl rfl rfl; (first | exact Y_move rfl rfl | exact Y_assign rfl rfl | exact R_index tabOk rfl rfl rfl rfl rfl rfl (by omega) | exact R_fieldi tabOk rfl rfl rfl | exact R_loadi tabOk rfl rfl rfl rfl (by first | exact win_flat0 pfxD_len (coverT l2) i _ hil (by decide) | exact win_flat0 pfxD_len (coverT l2) k _ hkl (by decide) | exact win_flat pfxD_len (coverT l2) i _ _ hil (by decide) | exact win_flat pfxD_len (coverT l2) k _ _ hkl (by decide) | exact win_flat2 pfxD_len (coverT l2) i _ _ _ hil (by decide) | exact win_flat2 pfxD_len (coverT l2) k _ _ _ hkl (by decide) | rfl) rfl rfl | exact R_len tabOk rfl rfl rfl | exact R_load tabOk rfl rfl rfl rfl rfl rfl rfl rfl rfl | exact R_field tabOk rfl rfl rfl rfl | exact Y_add rfl rfl rfl (by first | exact wrap_succ (by omega) | exact wrap_pred (by omega) (by omega) | exact wrap_i64 ⟨by omega, by omega⟩ | rfl) | exact Y_sub rfl rfl rfl (by first | exact wrap_succ (by omega) | exact wrap_pred (by omega) (by omega) | exact wrap_i64 ⟨by omega, by omega⟩ | rfl) | exact R_cmpT rfl rfl rfl rfl (by first | (simp only [decide_eq_true_eq, beq_iff_eq, bne_iff_ne, ne_eq]; done) | (simp only [decide_eq_true_eq, beq_iff_eq, bne_iff_ne, ne_eq]; omega)) | exact R_cmpF rfl rfl rfl rfl (by first | (simp only [decide_eq_false_iff_not, beq_eq_false_iff_ne, bne_eq_false_iff_eq, ne_eq]; done) | (simp only [decide_eq_false_iff_not, beq_eq_false_iff_ne, bne_eq_false_iff_eq, ne_eq]; omega)) | exact Y_ibin rfl rfl rfl rfl | exact Y_extract rfl rfl rfl | exact R_lenr tabOk rfl rfl rfl rfl | exact R_lenn tabOk rfl rfl rfl | exact R_indexr tabOk rfl rfl rfl rfl rfl rfl rfl (by omega) | exact R_fielde tabOk rfl rfl rfl rfl | exact R_loade tabOk rfl rfl rfl rfl rfl rfl rfl rfl rfl | exact Y_not rfl rfl | exact Y_pick_t rfl rfl (by first | rfl | assumption) rfl | exact Y_pick_f rfl rfl (by first | rfl | assumption) rfl | exact Y_pick_b rfl rfl rfl rfl | exact R_build tabOk rfl rfl rfl rfl rfl rfl | fail))
          refine N_one (j := 12) (by kernel_rfl) ?_
          refine T_alloc tabOk rfl rfl rfl rfl rfl rfl rfl ?_
          refine N_one (j := 13) (by kernel_rfl) ?_
          refine T_store tabOk rfl rfl rfl rfl rfl rfl rfl rfl rfl rfl rfl rfl rfl ?_
          (apply N_take (i := 14) rfl (by kernel_rfl) (by kernel_rfl) (by kernel_rfl) (by repeat (first | exact np_post | refine np_then ?_ | refine np_in ?_)) rfl rfl rfl; (first | exact Y_move rfl rfl | exact Y_assign rfl rfl | exact R_index tabOk rfl rfl rfl rfl rfl rfl (by omega) | exact R_fieldi tabOk rfl rfl rfl | exact R_loadi tabOk rfl rfl rfl rfl (by first | exact win_flat0 pfxD_len (coverT l2) i _ hil (by decide) | exact win_flat0 pfxD_len (coverT l2) k _ hkl (by decide) | exact win_flat pfxD_len (coverT l2) i _ _ hil (by decide) | exact win_flat pfxD_len (coverT l2) k _ _ hkl (by decide) | exact win_flat2 pfxD_len (coverT l2) i _ _ _ hil (by decide) | exact win_flat2 pfxD_len (coverT l2) k _ _ _ hkl (by decide) | rfl) rfl rfl | exact R_len tabOk rfl rfl rfl | exact R_load tabOk rfl rfl rfl rfl rfl rfl rfl rfl rfl | exact R_field tabOk rfl rfl rfl rfl | exact Y_add rfl rfl rfl (by first | exact wrap_succ (by omega) | exact wrap_pred (by omega) (by omega) | exact wrap_i64 ⟨by omega, by omega⟩ | rfl) | exact Y_sub rfl rfl rfl (by first | exact wrap_succ (by omega) | exact wrap_pred (by omega) (by omega) | exact wrap_i64 ⟨by omega, by omega⟩ | rfl) | exact R_cmpT rfl rfl rfl rfl (by first | (simp only [decide_eq_true_eq, beq_iff_eq, bne_iff_ne, ne_eq]; done) | (simp only [decide_eq_true_eq, beq_iff_eq, bne_iff_ne, ne_eq]; omega)) | exact R_cmpF rfl rfl rfl rfl (by first | (simp only [decide_eq_false_iff_not, beq_eq_false_iff_ne, bne_eq_false_iff_eq, ne_eq]; done) | (simp only [decide_eq_false_iff_not, beq_eq_false_iff_ne, bne_eq_false_iff_eq, ne_eq]; omega)) | exact Y_ibin rfl rfl rfl rfl | exact Y_extract rfl rfl rfl | exact R_lenr tabOk rfl rfl rfl rfl | exact R_lenn tabOk rfl rfl rfl | exact R_indexr tabOk rfl rfl rfl rfl rfl rfl rfl (by omega) | exact R_fielde tabOk rfl rfl rfl rfl | exact R_loade tabOk rfl rfl rfl rfl rfl rfl rfl rfl rfl | exact Y_not rfl rfl | exact Y_pick_t rfl rfl (by first | rfl | assumption) rfl | exact Y_pick_f rfl rfl (by first | rfl | assumption) rfl | exact Y_pick_b rfl rfl rfl rfl | exact R_build tabOk rfl rfl rfl rfl rfl rfl | fail))
          refine N_done (by kernel_rfl) ?_
          by_cases hbb : (coverT l2)[i].b = (coverT l2)[k].b
          · have hnw : ¬ (commonP (coverT l2)[i] (coverT l2)[k]).b = (coverT l2)[i].b - 1 := fun h => lw2 ⟨hbb, h⟩
            repeat (first
              | refine A_seq ?_
              | refine A_block ?_
              | refine R_list ?_
              | refine R_quiet rfl mixed (by kernel_rfl) ?_
              | (apply O_y rfl rfl rfl; (first | exact Y_move rfl rfl | exact Y_assign rfl rfl | exact R_index tabOk rfl rfl rfl rfl rfl rfl (by omega) | exact R_fieldi tabOk rfl rfl rfl | exact R_loadi tabOk rfl rfl rfl rfl (by first | exact win_flat0 pfxD_len (coverT l2) i _ hil (by decide) | exact win_flat0 pfxD_len (coverT l2) k _ hkl (by decide) | exact win_flat pfxD_len (coverT l2) i _ _ hil (by decide) | exact win_flat pfxD_len (coverT l2) k _ _ hkl (by decide) | exact win_flat2 pfxD_len (coverT l2) i _ _ _ hil (by decide) | exact win_flat2 pfxD_len (coverT l2) k _ _ _ hkl (by decide) | rfl) rfl rfl | exact R_len tabOk rfl rfl rfl | exact R_load tabOk rfl rfl rfl rfl rfl rfl rfl rfl rfl | exact R_field tabOk rfl rfl rfl rfl | exact Y_add rfl rfl rfl (by first | exact wrap_succ (by omega) | exact wrap_pred (by omega) (by omega) | exact wrap_i64 ⟨by omega, by omega⟩ | rfl) | exact Y_sub rfl rfl rfl (by first | exact wrap_succ (by omega) | exact wrap_pred (by omega) (by omega) | exact wrap_i64 ⟨by omega, by omega⟩ | rfl) | exact R_cmpT rfl rfl rfl rfl (by first | (simp only [decide_eq_true_eq, beq_iff_eq, bne_iff_ne, ne_eq]; done) | (simp only [decide_eq_true_eq, beq_iff_eq, bne_iff_ne, ne_eq]; omega)) | exact R_cmpF rfl rfl rfl rfl (by first | (simp only [decide_eq_false_iff_not, beq_eq_false_iff_ne, bne_eq_false_iff_eq, ne_eq]; done) | (simp only [decide_eq_false_iff_not, beq_eq_false_iff_ne, bne_eq_false_iff_eq, ne_eq]; omega)) | exact Y_ibin rfl rfl rfl rfl | exact Y_extract rfl rfl rfl | exact R_lenr tabOk rfl rfl rfl rfl | exact R_lenn tabOk rfl rfl rfl | exact R_indexr tabOk rfl rfl rfl rfl rfl rfl rfl (by omega) | exact R_fielde tabOk rfl rfl rfl rfl | exact R_loade tabOk rfl rfl rfl rfl rfl rfl rfl rfl rfl | exact Y_not rfl rfl | exact Y_pick_t rfl rfl (by first | rfl | assumption) rfl | exact Y_pick_f rfl rfl (by first | rfl | assumption) rfl | exact Y_pick_b rfl rfl rfl rfl | exact R_build tabOk rfl rfl rfl rfl rfl rfl | fail))
              | (apply Q_y rfl rfl rfl; (first | exact Y_move rfl rfl | exact Y_assign rfl rfl | exact R_index tabOk rfl rfl rfl rfl rfl rfl (by omega) | exact R_fieldi tabOk rfl rfl rfl | exact R_loadi tabOk rfl rfl rfl rfl (by first | exact win_flat0 pfxD_len (coverT l2) i _ hil (by decide) | exact win_flat0 pfxD_len (coverT l2) k _ hkl (by decide) | exact win_flat pfxD_len (coverT l2) i _ _ hil (by decide) | exact win_flat pfxD_len (coverT l2) k _ _ hkl (by decide) | exact win_flat2 pfxD_len (coverT l2) i _ _ _ hil (by decide) | exact win_flat2 pfxD_len (coverT l2) k _ _ _ hkl (by decide) | rfl) rfl rfl | exact R_len tabOk rfl rfl rfl | exact R_load tabOk rfl rfl rfl rfl rfl rfl rfl rfl rfl | exact R_field tabOk rfl rfl rfl rfl | exact Y_add rfl rfl rfl (by first | exact wrap_succ (by omega) | exact wrap_pred (by omega) (by omega) | exact wrap_i64 ⟨by omega, by omega⟩ | rfl) | exact Y_sub rfl rfl rfl (by first | exact wrap_succ (by omega) | exact wrap_pred (by omega) (by omega) | exact wrap_i64 ⟨by omega, by omega⟩ | rfl) | exact R_cmpT rfl rfl rfl rfl (by first | (simp only [decide_eq_true_eq, beq_iff_eq, bne_iff_ne, ne_eq]; done) | (simp only [decide_eq_true_eq, beq_iff_eq, bne_iff_ne, ne_eq]; omega)) | exact R_cmpF rfl rfl rfl rfl (by first | (simp only [decide_eq_false_iff_not, beq_eq_false_iff_ne, bne_eq_false_iff_eq, ne_eq]; done) | (simp only [decide_eq_false_iff_not, beq_eq_false_iff_ne, bne_eq_false_iff_eq, ne_eq]; omega)) | exact Y_ibin rfl rfl rfl rfl | exact Y_extract rfl rfl rfl | exact R_lenr tabOk rfl rfl rfl rfl | exact R_lenn tabOk rfl rfl rfl | exact R_indexr tabOk rfl rfl rfl rfl rfl rfl rfl (by omega) | exact R_fielde tabOk rfl rfl rfl rfl | exact R_loade tabOk rfl rfl rfl rfl rfl rfl rfl rfl rfl | exact Y_not rfl rfl | exact Y_pick_t rfl rfl (by first | rfl | assumption) rfl | exact Y_pick_f rfl rfl (by first | rfl | assumption) rfl | exact Y_pick_b rfl rfl rfl rfl | exact R_build tabOk rfl rfl rfl rfl rfl rfl | fail))
              | refine O_nil ?_
              | refine Q_nil ?_
              | refine X_then_normal ?_
              | refine X_in_normal ?_
              | refine O_box rfl rfl rfl rfl rfl rfl rfl ?_
              | refine O_alloc tabOk rfl rfl rfl rfl rfl rfl ?_
              | refine O_store tabOk rfl rfl rfl rfl rfl rfl rfl rfl rfl rfl rfl ?_
              | refine O_slice tabOk rfl rfl rfl rfl rfl rfl rfl rfl rfl rfl rfl ?_
              | refine A_condt rfl (by first | rfl | assumption | (first | (simp only [decide_eq_true_eq]; done) | (simp only [decide_eq_true_eq]; omega))) ?_
              | refine A_condf rfl (by first | rfl | assumption | (first | (simp only [decide_eq_false_iff_not]; done) | (simp only [decide_eq_false_iff_not]; omega))) ?_
              | refine A_skip ?_
              | refine A_exit ?_
              | refine A_ret ?_
              | refine X_then_exit ?_
              | refine X_then_ret ?_
              | refine X_in_same ?_
              | refine X_in_other rfl ?_
              | refine X_in_ret ?_
              | refine O_s rfl rfl rfl ?_
              | refine Q_s rfl rfl rfl ?_
              | refine O_sn rfl rfl ?_
              | (first | (first | refine Q_c rfl rfl rfl rfl rfl hcmp rfl (fun _ _ _ => val_mk _ _ _ _ _ rfl rfl) ?_ | refine O_c rfl rfl rfl rfl rfl hcmp (fun _ => rfl) ?_) | ((first | refine Q_c rfl rfl rfl rfl rfl hw1 rfl (fun _ _ _ => val_mk _ _ _ _ _ rfl rfl) ?_ | refine O_c rfl rfl rfl rfl rfl hw1 (fun _ => rfl) ?_)) | ((first | refine Q_c rfl rfl rfl rfl rfl hw2 rfl (fun _ _ _ => val_mk _ _ _ _ _ rfl rfl) ?_ | refine O_c rfl rfl rfl rfl rfl hw2 (fun _ => rfl) ?_))))
            exact ⟨k + 1, ⟨by (try dsimp only); omega, by (try dsimp only); omega⟩, by (try dsimp only); omega, Wk_sel ⟨rfl, rfl, rfl, rfl, rfl, trivial⟩ trivial⟩
          ·
            repeat (first
              | refine A_seq ?_
              | refine A_block ?_
              | refine R_list ?_
              | refine R_quiet rfl mixed (by kernel_rfl) ?_
              | (apply O_y rfl rfl rfl; (first | exact Y_move rfl rfl | exact Y_assign rfl rfl | exact R_index tabOk rfl rfl rfl rfl rfl rfl (by omega) | exact R_fieldi tabOk rfl rfl rfl | exact R_loadi tabOk rfl rfl rfl rfl (by first | exact win_flat0 pfxD_len (coverT l2) i _ hil (by decide) | exact win_flat0 pfxD_len (coverT l2) k _ hkl (by decide) | exact win_flat pfxD_len (coverT l2) i _ _ hil (by decide) | exact win_flat pfxD_len (coverT l2) k _ _ hkl (by decide) | exact win_flat2 pfxD_len (coverT l2) i _ _ _ hil (by decide) | exact win_flat2 pfxD_len (coverT l2) k _ _ _ hkl (by decide) | rfl) rfl rfl | exact R_len tabOk rfl rfl rfl | exact R_load tabOk rfl rfl rfl rfl rfl rfl rfl rfl rfl | exact R_field tabOk rfl rfl rfl rfl | exact Y_add rfl rfl rfl (by first | exact wrap_succ (by omega) | exact wrap_pred (by omega) (by omega) | exact wrap_i64 ⟨by omega, by omega⟩ | rfl) | exact Y_sub rfl rfl rfl (by first | exact wrap_succ (by omega) | exact wrap_pred (by omega) (by omega) | exact wrap_i64 ⟨by omega, by omega⟩ | rfl) | exact R_cmpT rfl rfl rfl rfl (by first | (simp only [decide_eq_true_eq, beq_iff_eq, bne_iff_ne, ne_eq]; done) | (simp only [decide_eq_true_eq, beq_iff_eq, bne_iff_ne, ne_eq]; omega)) | exact R_cmpF rfl rfl rfl rfl (by first | (simp only [decide_eq_false_iff_not, beq_eq_false_iff_ne, bne_eq_false_iff_eq, ne_eq]; done) | (simp only [decide_eq_false_iff_not, beq_eq_false_iff_ne, bne_eq_false_iff_eq, ne_eq]; omega)) | exact Y_ibin rfl rfl rfl rfl | exact Y_extract rfl rfl rfl | exact R_lenr tabOk rfl rfl rfl rfl | exact R_lenn tabOk rfl rfl rfl | exact R_indexr tabOk rfl rfl rfl rfl rfl rfl rfl (by omega) | exact R_fielde tabOk rfl rfl rfl rfl | exact R_loade tabOk rfl rfl rfl rfl rfl rfl rfl rfl rfl | exact Y_not rfl rfl | exact Y_pick_t rfl rfl (by first | rfl | assumption) rfl | exact Y_pick_f rfl rfl (by first | rfl | assumption) rfl | exact Y_pick_b rfl rfl rfl rfl | exact R_build tabOk rfl rfl rfl rfl rfl rfl | fail))
              | (apply Q_y rfl rfl rfl; (first | exact Y_move rfl rfl | exact Y_assign rfl rfl | exact R_index tabOk rfl rfl rfl rfl rfl rfl (by omega) | exact R_fieldi tabOk rfl rfl rfl | exact R_loadi tabOk rfl rfl rfl rfl (by first | exact win_flat0 pfxD_len (coverT l2) i _ hil (by decide) | exact win_flat0 pfxD_len (coverT l2) k _ hkl (by decide) | exact win_flat pfxD_len (coverT l2) i _ _ hil (by decide) | exact win_flat pfxD_len (coverT l2) k _ _ hkl (by decide) | exact win_flat2 pfxD_len (coverT l2) i _ _ _ hil (by decide) | exact win_flat2 pfxD_len (coverT l2) k _ _ _ hkl (by decide) | rfl) rfl rfl | exact R_len tabOk rfl rfl rfl | exact R_load tabOk rfl rfl rfl rfl rfl rfl rfl rfl rfl | exact R_field tabOk rfl rfl rfl rfl | exact Y_add rfl rfl rfl (by first | exact wrap_succ (by omega) | exact wrap_pred (by omega) (by omega) | exact wrap_i64 ⟨by omega, by omega⟩ | rfl) | exact Y_sub rfl rfl rfl (by first | exact wrap_succ (by omega) | exact wrap_pred (by omega) (by omega) | exact wrap_i64 ⟨by omega, by omega⟩ | rfl) | exact R_cmpT rfl rfl rfl rfl (by first | (simp only [decide_eq_true_eq, beq_iff_eq, bne_iff_ne, ne_eq]; done) | (simp only [decide_eq_true_eq, beq_iff_eq, bne_iff_ne, ne_eq]; omega)) | exact R_cmpF rfl rfl rfl rfl (by first | (simp only [decide_eq_false_iff_not, beq_eq_false_iff_ne, bne_eq_false_iff_eq, ne_eq]; done) | (simp only [decide_eq_false_iff_not, beq_eq_false_iff_ne, bne_eq_false_iff_eq, ne_eq]; omega)) | exact Y_ibin rfl rfl rfl rfl | exact Y_extract rfl rfl rfl | exact R_lenr tabOk rfl rfl rfl rfl | exact R_lenn tabOk rfl rfl rfl | exact R_indexr tabOk rfl rfl rfl rfl rfl rfl rfl (by omega) | exact R_fielde tabOk rfl rfl rfl rfl | exact R_loade tabOk rfl rfl rfl rfl rfl rfl rfl rfl rfl | exact Y_not rfl rfl | exact Y_pick_t rfl rfl (by first | rfl | assumption) rfl | exact Y_pick_f rfl rfl (by first | rfl | assumption) rfl | exact Y_pick_b rfl rfl rfl rfl | exact R_build tabOk rfl rfl rfl rfl rfl rfl | fail))
              | refine O_nil ?_
              | refine Q_nil ?_
              | refine X_then_normal ?_
              | refine X_in_normal ?_
              | refine O_box rfl rfl rfl rfl rfl rfl rfl ?_
              | refine O_alloc tabOk rfl rfl rfl rfl rfl rfl ?_
              | refine O_store tabOk rfl rfl rfl rfl rfl rfl rfl rfl rfl rfl rfl ?_
              | refine O_slice tabOk rfl rfl rfl rfl rfl rfl rfl rfl rfl rfl rfl ?_
              | refine A_condt rfl (by first | rfl | assumption | (first | (simp only [decide_eq_true_eq]; done) | (simp only [decide_eq_true_eq]; omega))) ?_
              | refine A_condf rfl (by first | rfl | assumption | (first | (simp only [decide_eq_false_iff_not]; done) | (simp only [decide_eq_false_iff_not]; omega))) ?_
              | refine A_skip ?_
              | refine A_exit ?_
              | refine A_ret ?_
              | refine X_then_exit ?_
              | refine X_then_ret ?_
              | refine X_in_same ?_
              | refine X_in_other rfl ?_
              | refine X_in_ret ?_
              | refine O_s rfl rfl rfl ?_
              | refine Q_s rfl rfl rfl ?_
              | refine O_sn rfl rfl ?_
              | (first | (first | refine Q_c rfl rfl rfl rfl rfl hcmp rfl (fun _ _ _ => val_mk _ _ _ _ _ rfl rfl) ?_ | refine O_c rfl rfl rfl rfl rfl hcmp (fun _ => rfl) ?_) | ((first | refine Q_c rfl rfl rfl rfl rfl hw1 rfl (fun _ _ _ => val_mk _ _ _ _ _ rfl rfl) ?_ | refine O_c rfl rfl rfl rfl rfl hw1 (fun _ => rfl) ?_)) | ((first | refine Q_c rfl rfl rfl rfl rfl hw2 rfl (fun _ _ _ => val_mk _ _ _ _ _ rfl rfl) ?_ | refine O_c rfl rfl rfl rfl rfl hw2 (fun _ => rfl) ?_))))
            exact ⟨k + 1, ⟨by (try dsimp only); omega, by (try dsimp only); omega⟩, by (try dsimp only); omega, Wk_sel ⟨rfl, rfl, rfl, rfl, rfl, trivial⟩ trivial⟩
      · have hk2 : k = (coverT l2).length := by omega
        subst hk2
        repeat (first
          | refine A_seq ?_
          | refine A_block ?_
          | refine R_list ?_
          | refine R_quiet rfl mixed (by kernel_rfl) ?_
          | (apply O_y rfl rfl rfl; (first | exact Y_move rfl rfl | exact Y_assign rfl rfl | exact R_index tabOk rfl rfl rfl rfl rfl rfl (by omega) | exact R_fieldi tabOk rfl rfl rfl | exact R_loadi tabOk rfl rfl rfl rfl rfl rfl rfl | exact R_len tabOk rfl rfl rfl | exact R_load tabOk rfl rfl rfl rfl rfl rfl rfl rfl rfl | exact R_field tabOk rfl rfl rfl rfl | exact Y_add rfl rfl rfl (by first | exact wrap_succ (by omega) | exact wrap_pred (by omega) (by omega) | exact wrap_i64 ⟨by omega, by omega⟩ | rfl) | exact Y_sub rfl rfl rfl (by first | exact wrap_succ (by omega) | exact wrap_pred (by omega) (by omega) | exact wrap_i64 ⟨by omega, by omega⟩ | rfl) | exact R_cmpT rfl rfl rfl rfl (by first | (simp only [decide_eq_true_eq, beq_iff_eq, bne_iff_ne, ne_eq]; done) | (simp only [decide_eq_true_eq, beq_iff_eq, bne_iff_ne, ne_eq]; omega)) | exact R_cmpF rfl rfl rfl rfl (by first | (simp only [decide_eq_false_iff_not, beq_eq_false_iff_ne, bne_eq_false_iff_eq, ne_eq]; done) | (simp only [decide_eq_false_iff_not, beq_eq_false_iff_ne, bne_eq_false_iff_eq, ne_eq]; omega)) | exact Y_ibin rfl rfl rfl rfl | exact Y_extract rfl rfl rfl | exact R_lenr tabOk rfl rfl rfl rfl | exact R_lenn tabOk rfl rfl rfl | exact R_indexr tabOk rfl rfl rfl rfl rfl rfl rfl (by omega) | exact R_fielde tabOk rfl rfl rfl rfl | exact R_loade tabOk rfl rfl rfl rfl rfl rfl rfl rfl rfl | exact Y_not rfl rfl | exact Y_pick_t rfl rfl (by first | rfl | assumption) rfl | exact Y_pick_f rfl rfl (by first | rfl | assumption) rfl | exact Y_pick_b rfl rfl rfl rfl | exact R_build tabOk rfl rfl rfl rfl rfl rfl | fail))
          | (apply Q_y rfl rfl rfl; (first | exact Y_move rfl rfl | exact Y_assign rfl rfl | exact R_index tabOk rfl rfl rfl rfl rfl rfl (by omega) | exact R_fieldi tabOk rfl rfl rfl | exact R_loadi tabOk rfl rfl rfl rfl rfl rfl rfl | exact R_len tabOk rfl rfl rfl | exact R_load tabOk rfl rfl rfl rfl rfl rfl rfl rfl rfl | exact R_field tabOk rfl rfl rfl rfl | exact Y_add rfl rfl rfl (by first | exact wrap_succ (by omega) | exact wrap_pred (by omega) (by omega) | exact wrap_i64 ⟨by omega, by omega⟩ | rfl) | exact Y_sub rfl rfl rfl (by first | exact wrap_succ (by omega) | exact wrap_pred (by omega) (by omega) | exact wrap_i64 ⟨by omega, by omega⟩ | rfl) | exact R_cmpT rfl rfl rfl rfl (by first | (simp only [decide_eq_true_eq, beq_iff_eq, bne_iff_ne, ne_eq]; done) | (simp only [decide_eq_true_eq, beq_iff_eq, bne_iff_ne, ne_eq]; omega)) | exact R_cmpF rfl rfl rfl rfl (by first | (simp only [decide_eq_false_iff_not, beq_eq_false_iff_ne, bne_eq_false_iff_eq, ne_eq]; done) | (simp only [decide_eq_false_iff_not, beq_eq_false_iff_ne, bne_eq_false_iff_eq, ne_eq]; omega)) | exact Y_ibin rfl rfl rfl rfl | exact Y_extract rfl rfl rfl | exact R_lenr tabOk rfl rfl rfl rfl | exact R_lenn tabOk rfl rfl rfl | exact R_indexr tabOk rfl rfl rfl rfl rfl rfl rfl (by omega) | exact R_fielde tabOk rfl rfl rfl rfl | exact R_loade tabOk rfl rfl rfl rfl rfl rfl rfl rfl rfl | exact Y_not rfl rfl | exact Y_pick_t rfl rfl (by first | rfl | assumption) rfl | exact Y_pick_f rfl rfl (by first | rfl | assumption) rfl | exact Y_pick_b rfl rfl rfl rfl | exact R_build tabOk rfl rfl rfl rfl rfl rfl | fail))
          | refine O_nil ?_
          | refine Q_nil ?_
          | refine X_then_normal ?_
          | refine X_in_normal ?_
          | refine O_box rfl rfl rfl rfl rfl rfl rfl ?_
          | refine O_alloc tabOk rfl rfl rfl rfl rfl rfl ?_
          | refine O_store tabOk rfl rfl rfl rfl rfl rfl rfl rfl rfl rfl rfl ?_
          | refine O_slice tabOk rfl rfl rfl rfl rfl rfl rfl rfl rfl rfl rfl ?_
          | refine A_condt rfl (by first | rfl | assumption | (first | (simp only [decide_eq_true_eq]; done) | (simp only [decide_eq_true_eq]; omega))) ?_
          | refine A_condf rfl (by first | rfl | assumption | (first | (simp only [decide_eq_false_iff_not]; done) | (simp only [decide_eq_false_iff_not]; omega))) ?_
          | refine A_skip ?_
          | refine A_exit ?_
          | refine A_ret ?_
          | refine X_then_exit ?_
          | refine X_then_ret ?_
          | refine X_in_same ?_
          | refine X_in_other rfl ?_
          | refine X_in_ret ?_
          | refine O_s rfl rfl rfl ?_
          | refine Q_s rfl rfl rfl ?_
          | refine O_sn rfl rfl ?_
          | fail)
        exact ⟨i + 1, by (try dsimp only); omega, by (try dsimp only); omega, Wk_sel ⟨rfl, rfl, rfl, rfl, trivial⟩ trivial⟩
    · have hi2 : i = (coverT l2).length := by omega
      subst hi2
      repeat (first
        | refine A_seq ?_
        | refine A_block ?_
        | refine R_list ?_
        | refine R_quiet rfl mixed (by kernel_rfl) ?_
        | (apply O_y rfl rfl rfl; (first | exact Y_move rfl rfl | exact Y_assign rfl rfl | exact R_index tabOk rfl rfl rfl rfl rfl rfl (by omega) | exact R_fieldi tabOk rfl rfl rfl | exact R_loadi tabOk rfl rfl rfl rfl rfl rfl rfl | exact R_len tabOk rfl rfl rfl | exact R_load tabOk rfl rfl rfl rfl rfl rfl rfl rfl rfl | exact R_field tabOk rfl rfl rfl rfl | exact Y_add rfl rfl rfl (by first | exact wrap_succ (by omega) | exact wrap_pred (by omega) (by omega) | exact wrap_i64 ⟨by omega, by omega⟩ | rfl) | exact Y_sub rfl rfl rfl (by first | exact wrap_succ (by omega) | exact wrap_pred (by omega) (by omega) | exact wrap_i64 ⟨by omega, by omega⟩ | rfl) | exact R_cmpT rfl rfl rfl rfl (by first | (simp only [decide_eq_true_eq, beq_iff_eq, bne_iff_ne, ne_eq]; done) | (simp only [decide_eq_true_eq, beq_iff_eq, bne_iff_ne, ne_eq]; omega)) | exact R_cmpF rfl rfl rfl rfl (by first | (simp only [decide_eq_false_iff_not, beq_eq_false_iff_ne, bne_eq_false_iff_eq, ne_eq]; done) | (simp only [decide_eq_false_iff_not, beq_eq_false_iff_ne, bne_eq_false_iff_eq, ne_eq]; omega)) | exact Y_ibin rfl rfl rfl rfl | exact Y_extract rfl rfl rfl | exact R_lenr tabOk rfl rfl rfl rfl | exact R_lenn tabOk rfl rfl rfl | exact R_indexr tabOk rfl rfl rfl rfl rfl rfl rfl (by omega) | exact R_fielde tabOk rfl rfl rfl rfl | exact R_loade tabOk rfl rfl rfl rfl rfl rfl rfl rfl rfl | exact Y_not rfl rfl | exact Y_pick_t rfl rfl (by first | rfl | assumption) rfl | exact Y_pick_f rfl rfl (by first | rfl | assumption) rfl | exact Y_pick_b rfl rfl rfl rfl | exact R_build tabOk rfl rfl rfl rfl rfl rfl | fail))
        | (apply Q_y rfl rfl rfl; (first | exact Y_move rfl rfl | exact Y_assign rfl rfl | exact R_index tabOk rfl rfl rfl rfl rfl rfl (by omega) | exact R_fieldi tabOk rfl rfl rfl | exact R_loadi tabOk rfl rfl rfl rfl rfl rfl rfl | exact R_len tabOk rfl rfl rfl | exact R_load tabOk rfl rfl rfl rfl rfl rfl rfl rfl rfl | exact R_field tabOk rfl rfl rfl rfl | exact Y_add rfl rfl rfl (by first | exact wrap_succ (by omega) | exact wrap_pred (by omega) (by omega) | exact wrap_i64 ⟨by omega, by omega⟩ | rfl) | exact Y_sub rfl rfl rfl (by first | exact wrap_succ (by omega) | exact wrap_pred (by omega) (by omega) | exact wrap_i64 ⟨by omega, by omega⟩ | rfl) | exact R_cmpT rfl rfl rfl rfl (by first | (simp only [decide_eq_true_eq, beq_iff_eq, bne_iff_ne, ne_eq]; done) | (simp only [decide_eq_true_eq, beq_iff_eq, bne_iff_ne, ne_eq]; omega)) | exact R_cmpF rfl rfl rfl rfl (by first | (simp only [decide_eq_false_iff_not, beq_eq_false_iff_ne, bne_eq_false_iff_eq, ne_eq]; done) | (simp only [decide_eq_false_iff_not, beq_eq_false_iff_ne, bne_eq_false_iff_eq, ne_eq]; omega)) | exact Y_ibin rfl rfl rfl rfl | exact Y_extract rfl rfl rfl | exact R_lenr tabOk rfl rfl rfl rfl | exact R_lenn tabOk rfl rfl rfl | exact R_indexr tabOk rfl rfl rfl rfl rfl rfl rfl (by omega) | exact R_fielde tabOk rfl rfl rfl rfl | exact R_loade tabOk rfl rfl rfl rfl rfl rfl rfl rfl rfl | exact Y_not rfl rfl | exact Y_pick_t rfl rfl (by first | rfl | assumption) rfl | exact Y_pick_f rfl rfl (by first | rfl | assumption) rfl | exact Y_pick_b rfl rfl rfl rfl | exact R_build tabOk rfl rfl rfl rfl rfl rfl | fail))
        | refine O_nil ?_
        | refine Q_nil ?_
        | refine X_then_normal ?_
        | refine X_in_normal ?_
        | refine O_box rfl rfl rfl rfl rfl rfl rfl ?_
        | refine O_alloc tabOk rfl rfl rfl rfl rfl rfl ?_
        | refine O_store tabOk rfl rfl rfl rfl rfl rfl rfl rfl rfl rfl rfl ?_
        | refine O_slice tabOk rfl rfl rfl rfl rfl rfl rfl rfl rfl rfl rfl ?_
        | refine A_condt rfl (by first | rfl | assumption | (first | (simp only [decide_eq_true_eq]; done) | (simp only [decide_eq_true_eq]; omega))) ?_
        | refine A_condf rfl (by first | rfl | assumption | (first | (simp only [decide_eq_false_iff_not]; done) | (simp only [decide_eq_false_iff_not]; omega))) ?_
        | refine A_skip ?_
        | refine A_exit ?_
        | refine A_ret ?_
        | refine X_then_exit ?_
        | refine X_then_ret ?_
        | refine X_in_same ?_
        | refine X_in_other rfl ?_
        | refine X_in_ret ?_
        | refine O_s rfl rfl rfl ?_
        | refine Q_s rfl rfl rfl ?_
        | refine O_sn rfl rfl ?_
        | fail)
      exact X_ret rfl ⟨rfl, rfl⟩
end Go.Proofs.Ytplgpbadpdmeeaa.Ab

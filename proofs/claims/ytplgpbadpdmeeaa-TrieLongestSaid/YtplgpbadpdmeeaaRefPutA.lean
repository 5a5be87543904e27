/-
  The reference's Put over abstract states.
-/
import Derived.Test.YtplgpbadpdmeeaaAbsPfx
import Derived.Test.YtplgpbadpdmeeaaRefRows
namespace Go.Proofs.Ytplgpbadpdmeeaa.Ab
set_option linter.unusedVariables false
open Go.RowKit
set_option linter.unusedSimpArgs false
attribute [local irreducible] AWp AOps AQ AYield AEff ACall AWk AAny AAt AThen AIn APost NoPanic

def rowD (r : Row) : List Dat := [.sc (.int .u32 r.1.a), .sc (.int .i64 r.1.b), .sc (.int .i64 r.2)]
theorem rowD_len (r : Row) : (rowD r).length = 3 := rfl
def rowsA (l : List Row) : AVal := .d (.sl (l.flatMap rowD) l.length)

set_option maxHeartbeats 2000000 in
theorem refPut_A (l : List Row) (p : Pfx) (v : Int) (hp : p.ok) (hn : l.length ≤ 1000000) : ACall Try.prog 28 [rowsA l, pfxA p, intA v] [] (Just (.tup [rowsA (putR l p v), intA (chk p)])) := by
  refine ACall_of tabOk Try.func28 rfl Try.ntmps28 (congrArg Array.toList Try.results28) (by kernel_rfl) rfl ?_
  by_cases hc : chk p = 0
  · rw [hc]
    have hR : putR l p v = if (putFold l p v).2 then (putFold l p v).1 else (putFold l p v).1 ++ [(p, v)] := by unfold putR; rw [if_pos hc]
    have hck := refCheck_A p hp
    rw [hc] at hck
    repeat (first
      | refine A_seq ?_
      | refine A_block ?_
      | refine R_list ?_
      | refine R_quiet rfl mixed (by kernel_rfl) ?_
      | (apply O_y rfl rfl rfl; (first | exact Y_move rfl rfl | exact Y_assign rfl rfl | exact R_index tabOk rfl rfl rfl rfl rfl rfl (by omega) | exact R_fieldi tabOk rfl rfl rfl | exact R_loadi tabOk rfl rfl rfl rfl rfl rfl rfl | exact R_len tabOk rfl rfl rfl | exact R_load tabOk rfl rfl rfl rfl rfl rfl rfl rfl rfl | exact R_field tabOk rfl rfl rfl rfl | exact Y_add rfl rfl rfl (by first | exact wrap_succ (by omega) | exact wrap_pred (by omega) (by omega) | exact wrap_i64 ⟨by omega, by omega⟩ | rfl) | exact Y_sub rfl rfl rfl (by first | exact wrap_succ (by omega) | exact wrap_pred (by omega) (by omega) | exact wrap_i64 ⟨by omega, by omega⟩ | rfl) | exact R_cmpT rfl rfl rfl rfl (by first | (simp only [decide_eq_true_eq, beq_iff_eq, bne_iff_ne, ne_eq]; done) | (simp only [decide_eq_true_eq, beq_iff_eq, bne_iff_ne, ne_eq]; omega)) | exact R_cmpF rfl rfl rfl rfl (by first | (simp only [decide_eq_false_iff_not, beq_eq_false_iff_ne, bne_eq_false_iff_eq, ne_eq]; done) | (simp only [decide_eq_false_iff_not, beq_eq_false_iff_ne, bne_eq_false_iff_eq, ne_eq]; omega)) | exact Y_ibin rfl rfl rfl rfl | exact Y_extract rfl rfl rfl | exact R_lenr tabOk rfl rfl rfl rfl | exact R_lenn tabOk rfl rfl rfl | exact R_indexr tabOk rfl rfl rfl rfl rfl rfl rfl (by omega) | exact R_fielde tabOk rfl rfl rfl rfl | exact R_loade tabOk rfl rfl rfl rfl rfl rfl rfl rfl rfl | exact Y_not rfl rfl | exact Y_pick_t rfl rfl (by first | rfl | assumption) rfl | exact Y_pick_f rfl rfl (by first | rfl | assumption) rfl | exact Y_pick_b rfl rfl rfl rfl | exact R_build tabOk rfl rfl rfl rfl rfl rfl | fail))
      | (apply Q_y rfl rfl rfl; (first | exact Y_move rfl rfl | exact Y_assign rfl rfl | exact R_index tabOk rfl rfl rfl rfl rfl rfl (by omega) | exact R_fieldi tabOk rfl rfl rfl | exact R_loadi tabOk rfl rfl rfl rfl rfl rfl rfl | exact R_len tabOk rfl rfl rfl | exact R_load tabOk rfl rfl rfl rfl rfl rfl rfl rfl rfl | exact R_field tabOk rfl rfl rfl rfl | exact Y_add rfl rfl rfl (by first | exact wrap_succ (by omega) | exact wrap_pred (by omega) (by omega) | exact wrap_i64 ⟨by omega, by omega⟩ | rfl) | exact Y_sub rfl rfl rfl (by first | exact wrap_succ (by omega) | exact wrap_pred (by omega) (by omega) | exact wrap_i64 ⟨by omega, by omega⟩ | rfl) | exact R_cmpT rfl rfl rfl rfl (by first | (simp only [decide_eq_true_eq, beq_iff_eq, bne_iff_ne, ne_eq]; done) | (simp only [decide_eq_true_eq, beq_iff_eq, bne_iff_ne, ne_eq]; omega)) | exact R_cmpF rfl rfl rfl rfl (by first | (simp only [decide_eq_false_iff_not, beq_eq_false_iff_ne, bne_eq_false_iff_eq, ne_eq]; done) | (simp only [decide_eq_false_iff_not, beq_eq_false_iff_ne, bne_eq_false_iff_eq, ne_eq]; omega)) | exact Y_ibin rfl rfl rfl rfl | exact Y_extract rfl rfl rfl | exact R_lenr tabOk rfl rfl rfl rfl | exact R_lenn tabOk rfl rfl rfl | exact R_indexr tabOk rfl rfl rfl rfl rfl rfl rfl (by omega) | exact R_fielde tabOk rfl rfl rfl rfl | exact R_loade tabOk rfl rfl rfl rfl rfl rfl rfl rfl rfl | exact Y_not rfl rfl | exact Y_pick_t rfl rfl (by first | rfl | assumption) rfl | exact Y_pick_f rfl rfl (by first | rfl | assumption) rfl | exact Y_pick_b rfl rfl rfl rfl | exact R_build tabOk rfl rfl rfl rfl rfl rfl | fail))
      | refine O_nil ?_
      | refine Q_nil ?_
      | refine X_then_normal ?_
      | refine X_in_normal ?_
      | refine O_box rfl rfl rfl rfl rfl rfl rfl ?_
      | refine O_alloc tabOk rfl rfl rfl rfl rfl rfl ?_
      | refine O_store tabOk rfl rfl rfl rfl rfl rfl rfl rfl rfl rfl rfl ?_
      | refine O_slice tabOk rfl rfl rfl rfl rfl rfl rfl rfl rfl rfl rfl ?_
      | refine A_condt rfl (by first | rfl | assumption | (first | (simp only [decide_eq_true_eq]; done) | (simp only [decide_eq_true_eq]; omega))) ?_
      | refine A_condf rfl (by first | rfl | assumption | (first | (simp only [decide_eq_false_iff_not]; done) | (simp only [decide_eq_false_iff_not]; omega))) ?_
      | refine A_skip ?_
      | refine A_exit ?_
      | refine A_ret ?_
      | refine X_then_exit ?_
      | refine X_then_ret ?_
      | refine X_in_same ?_
      | refine X_in_other rfl ?_
      | refine X_in_ret ?_
      | refine O_s rfl rfl rfl ?_
      | refine Q_s rfl rfl rfl ?_
      | refine O_sn rfl rfl ?_
      | refine O_c rfl rfl rfl rfl rfl hck (fun _ => rfl) ?_)
    refine A_weaken (Wk_nil 80 3 (t := 9) (id := 9) rfl rfl) ?_
    refine A_loop (fun s : Nat × List Row × Bool => [(0, rowsA l), (2, intA v), (4, .ptr 4 0), (9, .row 9), (10, boolA s.2.2), (11, intA (s.1 : Int))]) (fun s => [(4, .var [.d (.sc (.int .u32 p.a)), .d (.sc (.int .i64 p.b))]), (9, .row 80 3 s.2.1.length (s.2.1.flatMap rowD))])
      (fun s => s.1 ≤ l.length ∧ putFold (l.take s.1) p v = s.2) (fun s => l.length - s.1) (0, [], false) ⟨Nat.zero_le _, rfl⟩ (Wk_sel ⟨rfl, rfl, rfl, rfl, rfl, rfl, trivial⟩ ⟨rfl, rfl, trivial⟩) ?_
    rintro ⟨k, out, done⟩ ⟨hk, hf⟩
    dsimp only at hk hf ⊢
    have hlen := putFold_len (l.take k) p v
    rw [hf] at hlen
    simp only [List.length_take] at hlen
    by_cases hlt : k < l.length
    · have hs := putFold_step l p v k hlt
      rw [hf] at hs
      obtain ⟨c, hcm⟩ : ∃ c, cmpP p l[k].1 = c := ⟨_, rfl⟩
      have hcA := refCmp_A p l[k].1
      rw [hcm] at hcA
      rw [putStep_eq p v out done l[k] c hcm] at hs
      cases done
      all_goals (
        simp only [Bool.false_eq_true, if_false, if_true] at hlen
        rcases (by omega : (c ≤ 0 ∧ c = 0) ∨ (c ≤ 0 ∧ c ≠ 0) ∨ (¬ c ≤ 0 ∧ c ≠ 0)) with ⟨h1, h2⟩ | ⟨h1, h2⟩ | ⟨h1, h2⟩
        all_goals (
          simp only [h1, h2, if_true, if_false, and_true, and_false, true_and, false_and, decide_true, decide_false, Bool.or_true, Bool.or_false, Bool.false_or, Bool.true_or, reduceCtorEq, Int.le_refl] at hs
          repeat (first
            | refine A_seq ?_
            | refine A_block ?_
            | refine R_list ?_
            | refine R_quiet rfl mixed (by kernel_rfl) ?_
            | (apply O_y rfl rfl rfl; (first | exact Y_move rfl rfl | exact Y_assign rfl rfl | exact R_index tabOk rfl rfl rfl rfl rfl rfl (by omega) | exact R_fieldi tabOk rfl rfl rfl | exact R_loadi tabOk rfl rfl rfl rfl (by first | exact win_flat0 rowD_len l k _ hlt (by decide) | exact win_flat rowD_len l k _ _ hlt (by decide) | exact win_flat2 rowD_len l k _ _ _ hlt (by decide) | rfl) rfl rfl | exact R_len tabOk rfl rfl rfl | exact R_load tabOk rfl rfl rfl rfl rfl rfl rfl rfl rfl | exact R_field tabOk rfl rfl rfl rfl | exact Y_add rfl rfl rfl (by first | exact wrap_succ (by omega) | exact wrap_pred (by omega) (by omega) | exact wrap_i64 ⟨by omega, by omega⟩ | rfl) | exact Y_sub rfl rfl rfl (by first | exact wrap_succ (by omega) | exact wrap_pred (by omega) (by omega) | exact wrap_i64 ⟨by omega, by omega⟩ | rfl) | exact R_cmpT rfl rfl rfl rfl (by first | (simp only [decide_eq_true_eq, beq_iff_eq, bne_iff_ne, ne_eq]; done) | (simp only [decide_eq_true_eq, beq_iff_eq, bne_iff_ne, ne_eq]; omega)) | exact R_cmpF rfl rfl rfl rfl (by first | (simp only [decide_eq_false_iff_not, beq_eq_false_iff_ne, bne_eq_false_iff_eq, ne_eq]; done) | (simp only [decide_eq_false_iff_not, beq_eq_false_iff_ne, bne_eq_false_iff_eq, ne_eq]; omega)) | exact Y_ibin rfl rfl rfl rfl | exact Y_extract rfl rfl rfl | exact R_lenr tabOk rfl rfl rfl rfl | exact R_lenn tabOk rfl rfl rfl | exact R_indexr tabOk rfl rfl rfl rfl rfl rfl rfl (by omega) | exact R_fielde tabOk rfl rfl rfl rfl | exact R_loade tabOk rfl rfl rfl rfl rfl rfl rfl rfl rfl | exact Y_not rfl rfl | exact Y_pick_t rfl rfl (by first | rfl | assumption) rfl | exact Y_pick_f rfl rfl (by first | rfl | assumption) rfl | exact Y_pick_b rfl rfl rfl rfl | exact R_build tabOk rfl rfl rfl rfl rfl rfl | fail))
            | (apply Q_y rfl rfl rfl; (first | exact Y_move rfl rfl | exact Y_assign rfl rfl | exact R_index tabOk rfl rfl rfl rfl rfl rfl (by omega) | exact R_fieldi tabOk rfl rfl rfl | exact R_loadi tabOk rfl rfl rfl rfl (by first | exact win_flat0 rowD_len l k _ hlt (by decide) | exact win_flat rowD_len l k _ _ hlt (by decide) | exact win_flat2 rowD_len l k _ _ _ hlt (by decide) | rfl) rfl rfl | exact R_len tabOk rfl rfl rfl | exact R_load tabOk rfl rfl rfl rfl rfl rfl rfl rfl rfl | exact R_field tabOk rfl rfl rfl rfl | exact Y_add rfl rfl rfl (by first | exact wrap_succ (by omega) | exact wrap_pred (by omega) (by omega) | exact wrap_i64 ⟨by omega, by omega⟩ | rfl) | exact Y_sub rfl rfl rfl (by first | exact wrap_succ (by omega) | exact wrap_pred (by omega) (by omega) | exact wrap_i64 ⟨by omega, by omega⟩ | rfl) | exact R_cmpT rfl rfl rfl rfl (by first | (simp only [decide_eq_true_eq, beq_iff_eq, bne_iff_ne, ne_eq]; done) | (simp only [decide_eq_true_eq, beq_iff_eq, bne_iff_ne, ne_eq]; omega)) | exact R_cmpF rfl rfl rfl rfl (by first | (simp only [decide_eq_false_iff_not, beq_eq_false_iff_ne, bne_eq_false_iff_eq, ne_eq]; done) | (simp only [decide_eq_false_iff_not, beq_eq_false_iff_ne, bne_eq_false_iff_eq, ne_eq]; omega)) | exact Y_ibin rfl rfl rfl rfl | exact Y_extract rfl rfl rfl | exact R_lenr tabOk rfl rfl rfl rfl | exact R_lenn tabOk rfl rfl rfl | exact R_indexr tabOk rfl rfl rfl rfl rfl rfl rfl (by omega) | exact R_fielde tabOk rfl rfl rfl rfl | exact R_loade tabOk rfl rfl rfl rfl rfl rfl rfl rfl rfl | exact Y_not rfl rfl | exact Y_pick_t rfl rfl (by first | rfl | assumption) rfl | exact Y_pick_f rfl rfl (by first | rfl | assumption) rfl | exact Y_pick_b rfl rfl rfl rfl | exact R_build tabOk rfl rfl rfl rfl rfl rfl | fail))
            | refine O_nil ?_
            | refine Q_nil ?_
            | refine X_then_normal ?_
            | refine X_in_normal ?_
            | refine O_box rfl rfl rfl rfl rfl rfl rfl ?_
            | refine O_alloc tabOk rfl rfl rfl rfl rfl rfl ?_
            | refine O_store tabOk rfl rfl rfl rfl rfl rfl rfl rfl rfl rfl rfl ?_
            | refine O_slice tabOk rfl rfl rfl rfl rfl rfl rfl rfl rfl rfl rfl ?_
            | refine A_condt rfl (by first | rfl | assumption | (first | (simp only [decide_eq_true_eq]; done) | (simp only [decide_eq_true_eq]; omega))) ?_
            | refine A_condf rfl (by first | rfl | assumption | (first | (simp only [decide_eq_false_iff_not]; done) | (simp only [decide_eq_false_iff_not]; omega))) ?_
            | refine A_skip ?_
            | refine A_exit ?_
            | refine A_ret ?_
            | refine X_then_exit ?_
            | refine X_then_ret ?_
            | refine X_in_same ?_
            | refine X_in_other rfl ?_
            | refine X_in_ret ?_
            | refine O_s rfl rfl rfl ?_
            | refine Q_s rfl rfl rfl ?_
            | refine O_sn rfl rfl ?_
            | (first | refine Q_c rfl rfl rfl rfl rfl hcA rfl (fun _ _ _ => val_mk _ _ _ _ _ rfl rfl) ?_ | (first | refine O_appR tabOk rfl rfl rfl rfl rfl rfl rfl rfl rfl rfl rfl (by first | exact Src.row rfl | exact Src.dat _ _ | exact Src.nil) rfl (by omega) ?_ | refine O_appN tabOk rfl rfl rfl rfl rfl rfl rfl rfl rfl rfl (by first | exact Src.row rfl | exact Src.dat _ _ | exact Src.nil) rfl (by omega) ?_)))
          refine ⟨(k + 1, _, _), ⟨by dsimp only; omega, hs⟩, by dsimp only; omega, Wk_sel ⟨rfl, rfl, rfl, rfl, rfl, rfl, trivial⟩ ⟨rfl, row_eq (by simp) (by simp [rowD]) rfl, trivial⟩⟩))
    · have hke : k = l.length := by omega
      repeat (first
        | refine A_seq ?_
        | refine A_block ?_
        | refine R_list ?_
        | refine R_quiet rfl mixed (by kernel_rfl) ?_
        | (apply O_y rfl rfl rfl; (first | exact Y_move rfl rfl | exact Y_assign rfl rfl | exact R_index tabOk rfl rfl rfl rfl rfl rfl (by omega) | exact R_fieldi tabOk rfl rfl rfl | exact R_loadi tabOk rfl rfl rfl rfl rfl rfl rfl | exact R_len tabOk rfl rfl rfl | exact R_load tabOk rfl rfl rfl rfl rfl rfl rfl rfl rfl | exact R_field tabOk rfl rfl rfl rfl | exact Y_add rfl rfl rfl (by first | exact wrap_succ (by omega) | exact wrap_pred (by omega) (by omega) | exact wrap_i64 ⟨by omega, by omega⟩ | rfl) | exact Y_sub rfl rfl rfl (by first | exact wrap_succ (by omega) | exact wrap_pred (by omega) (by omega) | exact wrap_i64 ⟨by omega, by omega⟩ | rfl) | exact R_cmpT rfl rfl rfl rfl (by first | (simp only [decide_eq_true_eq, beq_iff_eq, bne_iff_ne, ne_eq]; done) | (simp only [decide_eq_true_eq, beq_iff_eq, bne_iff_ne, ne_eq]; omega)) | exact R_cmpF rfl rfl rfl rfl (by first | (simp only [decide_eq_false_iff_not, beq_eq_false_iff_ne, bne_eq_false_iff_eq, ne_eq]; done) | (simp only [decide_eq_false_iff_not, beq_eq_false_iff_ne, bne_eq_false_iff_eq, ne_eq]; omega)) | exact Y_ibin rfl rfl rfl rfl | exact Y_extract rfl rfl rfl | exact R_lenr tabOk rfl rfl rfl rfl | exact R_lenn tabOk rfl rfl rfl | exact R_indexr tabOk rfl rfl rfl rfl rfl rfl rfl (by omega) | exact R_fielde tabOk rfl rfl rfl rfl | exact R_loade tabOk rfl rfl rfl rfl rfl rfl rfl rfl rfl | exact Y_not rfl rfl | exact Y_pick_t rfl rfl (by first | rfl | assumption) rfl | exact Y_pick_f rfl rfl (by first | rfl | assumption) rfl | exact Y_pick_b rfl rfl rfl rfl | exact R_build tabOk rfl rfl rfl rfl rfl rfl | fail))
        | (apply Q_y rfl rfl rfl; (first | exact Y_move rfl rfl | exact Y_assign rfl rfl | exact R_index tabOk rfl rfl rfl rfl rfl rfl (by omega) | exact R_fieldi tabOk rfl rfl rfl | exact R_loadi tabOk rfl rfl rfl rfl rfl rfl rfl | exact R_len tabOk rfl rfl rfl | exact R_load tabOk rfl rfl rfl rfl rfl rfl rfl rfl rfl | exact R_field tabOk rfl rfl rfl rfl | exact Y_add rfl rfl rfl (by first | exact wrap_succ (by omega) | exact wrap_pred (by omega) (by omega) | exact wrap_i64 ⟨by omega, by omega⟩ | rfl) | exact Y_sub rfl rfl rfl (by first | exact wrap_succ (by omega) | exact wrap_pred (by omega) (by omega) | exact wrap_i64 ⟨by omega, by omega⟩ | rfl) | exact R_cmpT rfl rfl rfl rfl (by first | (simp only [decide_eq_true_eq, beq_iff_eq, bne_iff_ne, ne_eq]; done) | (simp only [decide_eq_true_eq, beq_iff_eq, bne_iff_ne, ne_eq]; omega)) | exact R_cmpF rfl rfl rfl rfl (by first | (simp only [decide_eq_false_iff_not, beq_eq_false_iff_ne, bne_eq_false_iff_eq, ne_eq]; done) | (simp only [decide_eq_false_iff_not, beq_eq_false_iff_ne, bne_eq_false_iff_eq, ne_eq]; omega)) | exact Y_ibin rfl rfl rfl rfl | exact Y_extract rfl rfl rfl | exact R_lenr tabOk rfl rfl rfl rfl | exact R_lenn tabOk rfl rfl rfl | exact R_indexr tabOk rfl rfl rfl rfl rfl rfl rfl (by omega) | exact R_fielde tabOk rfl rfl rfl rfl | exact R_loade tabOk rfl rfl rfl rfl rfl rfl rfl rfl rfl | exact Y_not rfl rfl | exact Y_pick_t rfl rfl (by first | rfl | assumption) rfl | exact Y_pick_f rfl rfl (by first | rfl | assumption) rfl | exact Y_pick_b rfl rfl rfl rfl | exact R_build tabOk rfl rfl rfl rfl rfl rfl | fail))
        | refine O_nil ?_
        | refine Q_nil ?_
        | refine X_then_normal ?_
        | refine X_in_normal ?_
        | refine O_box rfl rfl rfl rfl rfl rfl rfl ?_
        | refine O_alloc tabOk rfl rfl rfl rfl rfl rfl ?_
        | refine O_store tabOk rfl rfl rfl rfl rfl rfl rfl rfl rfl rfl rfl ?_
        | refine O_slice tabOk rfl rfl rfl rfl rfl rfl rfl rfl rfl rfl rfl ?_
        | refine A_condt rfl (by first | rfl | assumption | (first | (simp only [decide_eq_true_eq]; done) | (simp only [decide_eq_true_eq]; omega))) ?_
        | refine A_condf rfl (by first | rfl | assumption | (first | (simp only [decide_eq_false_iff_not]; done) | (simp only [decide_eq_false_iff_not]; omega))) ?_
        | refine A_skip ?_
        | refine A_exit ?_
        | refine A_ret ?_
        | refine X_then_exit ?_
        | refine X_then_ret ?_
        | refine X_in_same ?_
        | refine X_in_other rfl ?_
        | refine X_in_ret ?_
        | refine O_s rfl rfl rfl ?_
        | refine Q_s rfl rfl rfl ?_
        | refine O_sn rfl rfl ?_
        | fail)
      have hR2 : putR l p v = if done then out else out ++ [(p, v)] := by rw [hR]; rw [hke, List.take_length] at hf; rw [hf]
      rw [hR2]
      cases done
      ·
        repeat (first
          | refine A_seq ?_
          | refine A_block ?_
          | refine R_list ?_
          | refine R_quiet rfl mixed (by kernel_rfl) ?_
          | (apply O_y rfl rfl rfl; (first | exact Y_move rfl rfl | exact Y_assign rfl rfl | exact R_index tabOk rfl rfl rfl rfl rfl rfl (by omega) | exact R_fieldi tabOk rfl rfl rfl | exact R_loadi tabOk rfl rfl rfl rfl rfl rfl rfl | exact R_len tabOk rfl rfl rfl | exact R_load tabOk rfl rfl rfl rfl rfl rfl rfl rfl rfl | exact R_field tabOk rfl rfl rfl rfl | exact Y_add rfl rfl rfl (by first | exact wrap_succ (by omega) | exact wrap_pred (by omega) (by omega) | exact wrap_i64 ⟨by omega, by omega⟩ | rfl) | exact Y_sub rfl rfl rfl (by first | exact wrap_succ (by omega) | exact wrap_pred (by omega) (by omega) | exact wrap_i64 ⟨by omega, by omega⟩ | rfl) | exact R_cmpT rfl rfl rfl rfl (by first | (simp only [decide_eq_true_eq, beq_iff_eq, bne_iff_ne, ne_eq]; done) | (simp only [decide_eq_true_eq, beq_iff_eq, bne_iff_ne, ne_eq]; omega)) | exact R_cmpF rfl rfl rfl rfl (by first | (simp only [decide_eq_false_iff_not, beq_eq_false_iff_ne, bne_eq_false_iff_eq, ne_eq]; done) | (simp only [decide_eq_false_iff_not, beq_eq_false_iff_ne, bne_eq_false_iff_eq, ne_eq]; omega)) | exact Y_ibin rfl rfl rfl rfl | exact Y_extract rfl rfl rfl | exact R_lenr tabOk rfl rfl rfl rfl | exact R_lenn tabOk rfl rfl rfl | exact R_indexr tabOk rfl rfl rfl rfl rfl rfl rfl (by omega) | exact R_fielde tabOk rfl rfl rfl rfl | exact R_loade tabOk rfl rfl rfl rfl rfl rfl rfl rfl rfl | exact Y_not rfl rfl | exact Y_pick_t rfl rfl (by first | rfl | assumption) rfl | exact Y_pick_f rfl rfl (by first | rfl | assumption) rfl | exact Y_pick_b rfl rfl rfl rfl | exact R_build tabOk rfl rfl rfl rfl rfl rfl | fail))
          | (apply Q_y rfl rfl rfl; (first | exact Y_move rfl rfl | exact Y_assign rfl rfl | exact R_index tabOk rfl rfl rfl rfl rfl rfl (by omega) | exact R_fieldi tabOk rfl rfl rfl | exact R_loadi tabOk rfl rfl rfl rfl rfl rfl rfl | exact R_len tabOk rfl rfl rfl | exact R_load tabOk rfl rfl rfl rfl rfl rfl rfl rfl rfl | exact R_field tabOk rfl rfl rfl rfl | exact Y_add rfl rfl rfl (by first | exact wrap_succ (by omega) | exact wrap_pred (by omega) (by omega) | exact wrap_i64 ⟨by omega, by omega⟩ | rfl) | exact Y_sub rfl rfl rfl (by first | exact wrap_succ (by omega) | exact wrap_pred (by omega) (by omega) | exact wrap_i64 ⟨by omega, by omega⟩ | rfl) | exact R_cmpT rfl rfl rfl rfl (by first | (simp only [decide_eq_true_eq, beq_iff_eq, bne_iff_ne, ne_eq]; done) | (simp only [decide_eq_true_eq, beq_iff_eq, bne_iff_ne, ne_eq]; omega)) | exact R_cmpF rfl rfl rfl rfl (by first | (simp only [decide_eq_false_iff_not, beq_eq_false_iff_ne, bne_eq_false_iff_eq, ne_eq]; done) | (simp only [decide_eq_false_iff_not, beq_eq_false_iff_ne, bne_eq_false_iff_eq, ne_eq]; omega)) | exact Y_ibin rfl rfl rfl rfl | exact Y_extract rfl rfl rfl | exact R_lenr tabOk rfl rfl rfl rfl | exact R_lenn tabOk rfl rfl rfl | exact R_indexr tabOk rfl rfl rfl rfl rfl rfl rfl (by omega) | exact R_fielde tabOk rfl rfl rfl rfl | exact R_loade tabOk rfl rfl rfl rfl rfl rfl rfl rfl rfl | exact Y_not rfl rfl | exact Y_pick_t rfl rfl (by first | rfl | assumption) rfl | exact Y_pick_f rfl rfl (by first | rfl | assumption) rfl | exact Y_pick_b rfl rfl rfl rfl | exact R_build tabOk rfl rfl rfl rfl rfl rfl | fail))
          | refine O_nil ?_
          | refine Q_nil ?_
          | refine X_then_normal ?_
          | refine X_in_normal ?_
          | refine O_box rfl rfl rfl rfl rfl rfl rfl ?_
          | refine O_alloc tabOk rfl rfl rfl rfl rfl rfl ?_
          | refine O_store tabOk rfl rfl rfl rfl rfl rfl rfl rfl rfl rfl rfl ?_
          | refine O_slice tabOk rfl rfl rfl rfl rfl rfl rfl rfl rfl rfl rfl ?_
          | refine A_condt rfl (by first | rfl | assumption | (first | (simp only [decide_eq_true_eq]; done) | (simp only [decide_eq_true_eq]; omega))) ?_
          | refine A_condf rfl (by first | rfl | assumption | (first | (simp only [decide_eq_false_iff_not]; done) | (simp only [decide_eq_false_iff_not]; omega))) ?_
          | refine A_skip ?_
          | refine A_exit ?_
          | refine A_ret ?_
          | refine X_then_exit ?_
          | refine X_then_ret ?_
          | refine X_in_same ?_
          | refine X_in_other rfl ?_
          | refine X_in_ret ?_
          | refine O_s rfl rfl rfl ?_
          | refine Q_s rfl rfl rfl ?_
          | refine O_sn rfl rfl ?_
          | (first | refine O_appR tabOk rfl rfl rfl rfl rfl rfl rfl rfl rfl rfl rfl (by first | exact Src.row rfl | exact Src.dat _ _ | exact Src.nil) rfl (by omega) ?_ | refine O_appN tabOk rfl rfl rfl rfl rfl rfl rfl rfl rfl rfl (by first | exact Src.row rfl | exact Src.dat _ _ | exact Src.nil) rfl (by omega) ?_))
        refine X_retW (Wk_freeze (id := 9) rfl) rfl (h2 := []) trivial ⟨?_, rfl⟩
        simp [rowsA, rowD, intA]
        exact ⟨rfl, rfl⟩
      ·
        repeat (first
          | refine A_seq ?_
          | refine A_block ?_
          | refine R_list ?_
          | refine R_quiet rfl mixed (by kernel_rfl) ?_
          | (apply O_y rfl rfl rfl; (first | exact Y_move rfl rfl | exact Y_assign rfl rfl | exact R_index tabOk rfl rfl rfl rfl rfl rfl (by omega) | exact R_fieldi tabOk rfl rfl rfl | exact R_loadi tabOk rfl rfl rfl rfl rfl rfl rfl | exact R_len tabOk rfl rfl rfl | exact R_load tabOk rfl rfl rfl rfl rfl rfl rfl rfl rfl | exact R_field tabOk rfl rfl rfl rfl | exact Y_add rfl rfl rfl (by first | exact wrap_succ (by omega) | exact wrap_pred (by omega) (by omega) | exact wrap_i64 ⟨by omega, by omega⟩ | rfl) | exact Y_sub rfl rfl rfl (by first | exact wrap_succ (by omega) | exact wrap_pred (by omega) (by omega) | exact wrap_i64 ⟨by omega, by omega⟩ | rfl) | exact R_cmpT rfl rfl rfl rfl (by first | (simp only [decide_eq_true_eq, beq_iff_eq, bne_iff_ne, ne_eq]; done) | (simp only [decide_eq_true_eq, beq_iff_eq, bne_iff_ne, ne_eq]; omega)) | exact R_cmpF rfl rfl rfl rfl (by first | (simp only [decide_eq_false_iff_not, beq_eq_false_iff_ne, bne_eq_false_iff_eq, ne_eq]; done) | (simp only [decide_eq_false_iff_not, beq_eq_false_iff_ne, bne_eq_false_iff_eq, ne_eq]; omega)) | exact Y_ibin rfl rfl rfl rfl | exact Y_extract rfl rfl rfl | exact R_lenr tabOk rfl rfl rfl rfl | exact R_lenn tabOk rfl rfl rfl | exact R_indexr tabOk rfl rfl rfl rfl rfl rfl rfl (by omega) | exact R_fielde tabOk rfl rfl rfl rfl | exact R_loade tabOk rfl rfl rfl rfl rfl rfl rfl rfl rfl | exact Y_not rfl rfl | exact Y_pick_t rfl rfl (by first | rfl | assumption) rfl | exact Y_pick_f rfl rfl (by first | rfl | assumption) rfl | exact Y_pick_b rfl rfl rfl rfl | exact R_build tabOk rfl rfl rfl rfl rfl rfl | fail))
          | (apply Q_y rfl rfl rfl; (first | exact Y_move rfl rfl | exact Y_assign rfl rfl | exact R_index tabOk rfl rfl rfl rfl rfl rfl (by omega) | exact R_fieldi tabOk rfl rfl rfl | exact R_loadi tabOk rfl rfl rfl rfl rfl rfl rfl | exact R_len tabOk rfl rfl rfl | exact R_load tabOk rfl rfl rfl rfl rfl rfl rfl rfl rfl | exact R_field tabOk rfl rfl rfl rfl | exact Y_add rfl rfl rfl (by first | exact wrap_succ (by omega) | exact wrap_pred (by omega) (by omega) | exact wrap_i64 ⟨by omega, by omega⟩ | rfl) | exact Y_sub rfl rfl rfl (by first | exact wrap_succ (by omega) | exact wrap_pred (by omega) (by omega) | exact wrap_i64 ⟨by omega, by omega⟩ | rfl) | exact R_cmpT rfl rfl rfl rfl (by first | (simp only [decide_eq_true_eq, beq_iff_eq, bne_iff_ne, ne_eq]; done) | (simp only [decide_eq_true_eq, beq_iff_eq, bne_iff_ne, ne_eq]; omega)) | exact R_cmpF rfl rfl rfl rfl (by first | (simp only [decide_eq_false_iff_not, beq_eq_false_iff_ne, bne_eq_false_iff_eq, ne_eq]; done) | (simp only [decide_eq_false_iff_not, beq_eq_false_iff_ne, bne_eq_false_iff_eq, ne_eq]; omega)) | exact Y_ibin rfl rfl rfl rfl | exact Y_extract rfl rfl rfl | exact R_lenr tabOk rfl rfl rfl rfl | exact R_lenn tabOk rfl rfl rfl | exact R_indexr tabOk rfl rfl rfl rfl rfl rfl rfl (by omega) | exact R_fielde tabOk rfl rfl rfl rfl | exact R_loade tabOk rfl rfl rfl rfl rfl rfl rfl rfl rfl | exact Y_not rfl rfl | exact Y_pick_t rfl rfl (by first | rfl | assumption) rfl | exact Y_pick_f rfl rfl (by first | rfl | assumption) rfl | exact Y_pick_b rfl rfl rfl rfl | exact R_build tabOk rfl rfl rfl rfl rfl rfl | fail))
          | refine O_nil ?_
          | refine Q_nil ?_
          | refine X_then_normal ?_
          | refine X_in_normal ?_
          | refine O_box rfl rfl rfl rfl rfl rfl rfl ?_
          | refine O_alloc tabOk rfl rfl rfl rfl rfl rfl ?_
          | refine O_store tabOk rfl rfl rfl rfl rfl rfl rfl rfl rfl rfl rfl ?_
          | refine O_slice tabOk rfl rfl rfl rfl rfl rfl rfl rfl rfl rfl rfl ?_
          | refine A_condt rfl (by first | rfl | assumption | (first | (simp only [decide_eq_true_eq]; done) | (simp only [decide_eq_true_eq]; omega))) ?_
          | refine A_condf rfl (by first | rfl | assumption | (first | (simp only [decide_eq_false_iff_not]; done) | (simp only [decide_eq_false_iff_not]; omega))) ?_
          | refine A_skip ?_
          | refine A_exit ?_
          | refine A_ret ?_
          | refine X_then_exit ?_
          | refine X_then_ret ?_
          | refine X_in_same ?_
          | refine X_in_other rfl ?_
          | refine X_in_ret ?_
          | refine O_s rfl rfl rfl ?_
          | refine Q_s rfl rfl rfl ?_
          | refine O_sn rfl rfl ?_
          | fail)
        exact X_retW (Wk_freeze (id := 9) rfl) rfl (h2 := []) trivial ⟨rfl, rfl⟩
  · have hR : putR l p v = l := by unfold putR; rw [if_neg hc]
    rw [hR]
    repeat (first
      | refine A_seq ?_
      | refine A_block ?_
      | refine R_list ?_
      | refine R_quiet rfl mixed (by kernel_rfl) ?_
      | (apply O_y rfl rfl rfl; (first | exact Y_move rfl rfl | exact Y_assign rfl rfl | exact R_index tabOk rfl rfl rfl rfl rfl rfl (by omega) | exact R_fieldi tabOk rfl rfl rfl | exact R_loadi tabOk rfl rfl rfl rfl rfl rfl rfl | exact R_len tabOk rfl rfl rfl | exact R_load tabOk rfl rfl rfl rfl rfl rfl rfl rfl rfl | exact R_field tabOk rfl rfl rfl rfl | exact Y_add rfl rfl rfl (by first | exact wrap_succ (by omega) | exact wrap_pred (by omega) (by omega) | exact wrap_i64 ⟨by omega, by omega⟩ | rfl) | exact Y_sub rfl rfl rfl (by first | exact wrap_succ (by omega) | exact wrap_pred (by omega) (by omega) | exact wrap_i64 ⟨by omega, by omega⟩ | rfl) | exact R_cmpT rfl rfl rfl rfl (by first | (simp only [decide_eq_true_eq, beq_iff_eq, bne_iff_ne, ne_eq]; done) | (simp only [decide_eq_true_eq, beq_iff_eq, bne_iff_ne, ne_eq]; omega)) | exact R_cmpF rfl rfl rfl rfl (by first | (simp only [decide_eq_false_iff_not, beq_eq_false_iff_ne, bne_eq_false_iff_eq, ne_eq]; done) | (simp only [decide_eq_false_iff_not, beq_eq_false_iff_ne, bne_eq_false_iff_eq, ne_eq]; omega)) | exact Y_ibin rfl rfl rfl rfl | exact Y_extract rfl rfl rfl | exact R_lenr tabOk rfl rfl rfl rfl | exact R_lenn tabOk rfl rfl rfl | exact R_indexr tabOk rfl rfl rfl rfl rfl rfl rfl (by omega) | exact R_fielde tabOk rfl rfl rfl rfl | exact R_loade tabOk rfl rfl rfl rfl rfl rfl rfl rfl rfl | exact Y_not rfl rfl | exact Y_pick_t rfl rfl (by first | rfl | assumption) rfl | exact Y_pick_f rfl rfl (by first | rfl | assumption) rfl | exact Y_pick_b rfl rfl rfl rfl | exact R_build tabOk rfl rfl rfl rfl rfl rfl | fail))
      | (apply Q_y rfl rfl rfl; (first | exact Y_move rfl rfl | exact Y_assign rfl rfl | exact R_index tabOk rfl rfl rfl rfl rfl rfl (by omega) | exact R_fieldi tabOk rfl rfl rfl | exact R_loadi tabOk rfl rfl rfl rfl rfl rfl rfl | exact R_len tabOk rfl rfl rfl | exact R_load tabOk rfl rfl rfl rfl rfl rfl rfl rfl rfl | exact R_field tabOk rfl rfl rfl rfl | exact Y_add rfl rfl rfl (by first | exact wrap_succ (by omega) | exact wrap_pred (by omega) (by omega) | exact wrap_i64 ⟨by omega, by omega⟩ | rfl) | exact Y_sub rfl rfl rfl (by first | exact wrap_succ (by omega) | exact wrap_pred (by omega) (by omega) | exact wrap_i64 ⟨by omega, by omega⟩ | rfl) | exact R_cmpT rfl rfl rfl rfl (by first | (simp only [decide_eq_true_eq, beq_iff_eq, bne_iff_ne, ne_eq]; done) | (simp only [decide_eq_true_eq, beq_iff_eq, bne_iff_ne, ne_eq]; omega)) | exact R_cmpF rfl rfl rfl rfl (by first | (simp only [decide_eq_false_iff_not, beq_eq_false_iff_ne, bne_eq_false_iff_eq, ne_eq]; done) | (simp only [decide_eq_false_iff_not, beq_eq_false_iff_ne, bne_eq_false_iff_eq, ne_eq]; omega)) | exact Y_ibin rfl rfl rfl rfl | exact Y_extract rfl rfl rfl | exact R_lenr tabOk rfl rfl rfl rfl | exact R_lenn tabOk rfl rfl rfl | exact R_indexr tabOk rfl rfl rfl rfl rfl rfl rfl (by omega) | exact R_fielde tabOk rfl rfl rfl rfl | exact R_loade tabOk rfl rfl rfl rfl rfl rfl rfl rfl rfl | exact Y_not rfl rfl | exact Y_pick_t rfl rfl (by first | rfl | assumption) rfl | exact Y_pick_f rfl rfl (by first | rfl | assumption) rfl | exact Y_pick_b rfl rfl rfl rfl | exact R_build tabOk rfl rfl rfl rfl rfl rfl | fail))
      | refine O_nil ?_
      | refine Q_nil ?_
      | refine X_then_normal ?_
      | refine X_in_normal ?_
      | refine O_box rfl rfl rfl rfl rfl rfl rfl ?_
      | refine O_alloc tabOk rfl rfl rfl rfl rfl rfl ?_
      | refine O_store tabOk rfl rfl rfl rfl rfl rfl rfl rfl rfl rfl rfl ?_
      | refine O_slice tabOk rfl rfl rfl rfl rfl rfl rfl rfl rfl rfl rfl ?_
      | refine A_condt rfl (by first | rfl | assumption | (first | (simp only [decide_eq_true_eq]; done) | (simp only [decide_eq_true_eq]; omega))) ?_
      | refine A_condf rfl (by first | rfl | assumption | (first | (simp only [decide_eq_false_iff_not]; done) | (simp only [decide_eq_false_iff_not]; omega))) ?_
      | refine A_skip ?_
      | refine A_exit ?_
      | refine A_ret ?_
      | refine X_then_exit ?_
      | refine X_then_ret ?_
      | refine X_in_same ?_
      | refine X_in_other rfl ?_
      | refine X_in_ret ?_
      | refine O_s rfl rfl rfl ?_
      | refine Q_s rfl rfl rfl ?_
      | refine O_sn rfl rfl ?_
      | refine O_c rfl rfl rfl rfl rfl (refCheck_A p hp) (fun _ => rfl) ?_)
    exact X_ret rfl ⟨rfl, rfl⟩
end Go.Proofs.Ytplgpbadpdmeeaa.Ab

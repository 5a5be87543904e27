/-
  Tables by prefixes: Drop.
-/
import Derived.Test.YtaecjmjdhbjbkaaTblA
import Derived.Test.YtaecjmjdhbjbkaaTblOver
namespace Go.Proofs.Ytaecjmjdhbjbkaa.Ab
set_option linter.unusedVariables false
set_option maxRecDepth 100000
open Go.RowKit
set_option linter.unusedSimpArgs false
attribute [local irreducible] AWp AOps AQ AYield AEff ACall AWk AAny AAt AThen AIn APost NoPanic

def dropE (m : List (Pfx × Int)) (p : Pfx) : Int := if chk p = 0 then (if (aget m p).isSome then 0 else 5) else chk p
def dropS (s : (Nat → Int) × List (Pfx × Int)) (p : Pfx) : (Nat → Int) × List (Pfx × Int) := if chk p = 0 then (if (aget s.2 p).isSome then (bump s.1 p.b.toNat (-1), Go.Proofs.Ytaecjmjdhbjbkaa.adel s.2 p) else s) else s
set_option maxHeartbeats 2000000 in
theorem drop_A (u : Nat → Int) (m : List (Pfx × Int)) (p : Pfx) (hp : p.ok) (hn : (m.map (·.1)).Nodup) (hu : ∀ j, 0 ≤ u j ∧ u j ≤ 1000000000) :
    ACall Try.prog 26 [.ptr 1000 0, pfxA p] [(1000, tblB 1001 u), (1001, mapB m)] (fun c h => c = intA (dropE m p) ∧ h = [(1000, tblB 1001 (dropS (u, m) p).1), (1001, mapB (dropS (u, m) p).2)]) := by
  refine ACall_of tabOk Try.func26 rfl Try.ntmps26 (congrArg Array.toList Try.results26) (by kernel_rfl) rfl ?_
  have hck := check_A p hp
  unfold dropE dropS
  by_cases hc : chk p = 0
  · rw [hc] at hck
    rw [if_pos hc, if_pos hc]
    have hg := (chk_eq p).1 hc
    obtain ⟨a, b⟩ := p
    obtain ⟨B, rfl⟩ : ∃ B : Nat, b = (B : Int) := ⟨b.toNat, by have := hg.1; simp at this; omega⟩
    have hB : B < 33 := by have := hg.2.1; simp at this; omega
    have huB := hu B
    refine A_seq ?_
    refine R_list ?_
    refine O_box rfl rfl rfl rfl rfl rfl rfl ?_
    refine O_weaken (Wk_sel (e1 := [(0, .ptr 1000 0), (3, .ptr 3 0)]) (h1 := [(3, .var [.d (.sc (.int .u32 a)), .d (.sc (.int .i64 (B : Int)))]), (1000, tblB 1001 u), (1001, mapB m)]) ⟨rfl, rfl, trivial⟩ ⟨rfl, rfl, kill_map 3 m, trivial⟩) ?_
    cases hag : aget m ⟨a, (B : Int)⟩ with
    | none =>
      repeat (first
        | refine A_seq ?_
        | refine A_block ?_
        | refine R_list ?_
        | refine R_quiet rfl mixed (by kernel_rfl) ?_
        | ((first | apply O_y rfl rfl rfl | apply Q_y rfl rfl rfl); (first | exact Y_move rfl rfl | exact Y_assign rfl rfl | exact R_index tabOk rfl rfl rfl rfl rfl rfl (by omega) | exact R_fieldi tabOk rfl rfl rfl | exact R_loadi tabOk rfl rfl rfl rfl rfl rfl rfl | exact R_len tabOk rfl rfl rfl | exact R_load tabOk rfl rfl rfl rfl rfl rfl rfl rfl rfl | exact R_field tabOk rfl rfl rfl rfl | exact Y_add rfl rfl rfl (by first | exact wrap_succ (by omega) | exact wrap_pred (by omega) (by omega) | exact wrap_i64 ⟨by omega, by omega⟩ | rfl) | exact Y_sub rfl rfl rfl (by first | exact wrap_succ (by omega) | exact wrap_pred (by omega) (by omega) | exact wrap_i64 ⟨by omega, by omega⟩ | rfl) | exact R_cmpT rfl rfl rfl rfl (by first | (simp only [decide_eq_true_eq, beq_iff_eq, bne_iff_ne, ne_eq]; done) | (simp only [decide_eq_true_eq, beq_iff_eq, bne_iff_ne, ne_eq]; omega)) | exact R_cmpF rfl rfl rfl rfl (by first | (simp only [decide_eq_false_iff_not, beq_eq_false_iff_ne, bne_eq_false_iff_eq, ne_eq]; done) | (simp only [decide_eq_false_iff_not, beq_eq_false_iff_ne, bne_eq_false_iff_eq, ne_eq]; omega)) | exact Y_ibin rfl rfl rfl rfl | exact Y_extract rfl rfl rfl | exact R_lenr tabOk rfl rfl rfl rfl | exact R_lenn tabOk rfl rfl rfl | exact R_indexr tabOk rfl rfl rfl rfl rfl rfl rfl (by omega) | exact R_fielde tabOk rfl rfl rfl rfl | exact R_loade tabOk rfl rfl rfl rfl rfl rfl rfl rfl rfl | exact Y_not rfl rfl | exact Y_pick_t rfl rfl (by first | rfl | assumption) rfl | exact Y_pick_f rfl rfl (by first | rfl | assumption) rfl | exact Y_pick_b rfl rfl rfl rfl | exact R_build tabOk rfl rfl rfl rfl rfl rfl | (first | exact R_pnil tabOk rfl rfl rfl rfl rfl | exact Y_nilCheck rfl rfl rfl | exact R_lkOut pfxKey pfxA_val zeroInt rfl trivial (fun _ _ => trivial) hn hag tabOk rfl rfl rfl rfl rfl rfl)))
        | refine O_nil ?_
        | refine Q_nil ?_
        | refine X_then_normal ?_
        | refine X_in_normal ?_
        | refine O_box rfl rfl rfl rfl rfl rfl rfl ?_
        | refine O_alloc tabOk rfl rfl rfl rfl rfl rfl ?_
        | refine O_store tabOk rfl rfl rfl rfl rfl rfl rfl rfl rfl rfl rfl ?_
        | refine O_slice tabOk rfl rfl rfl rfl rfl rfl rfl rfl rfl rfl rfl ?_
        | refine A_condt rfl (by first | rfl | assumption | (first | (simp only [decide_eq_true_eq]; done) | (simp only [decide_eq_true_eq]; omega))) ?_
        | refine A_condf rfl (by first | rfl | assumption | (first | (simp only [decide_eq_false_iff_not]; done) | (simp only [decide_eq_false_iff_not]; omega))) ?_
        | refine A_skip ?_
        | refine A_exit ?_
        | refine A_ret ?_
        | refine X_then_exit ?_
        | refine X_then_ret ?_
        | refine X_in_same ?_
        | refine X_in_other rfl ?_
        | refine X_in_ret ?_
        | refine O_s rfl rfl rfl ?_
        | refine Q_s rfl rfl rfl ?_
        | refine O_sn rfl rfl ?_
        | refine O_c rfl rfl rfl rfl rfl hck (fun _ => rfl) ?_)
      exact X_retW AWk.refl rfl (h2 := [(1000, tblB 1001 u), (1001, mapB m)]) ⟨rfl, rfl, trivial⟩ ⟨rfl, rfl⟩
    | some x =>
      repeat (first
        | refine A_seq ?_
        | refine A_block ?_
        | refine R_list ?_
        | refine R_quiet rfl mixed (by kernel_rfl) ?_
        | ((first | apply O_y rfl rfl rfl | apply Q_y rfl rfl rfl); (first | exact Y_move rfl rfl | exact Y_assign rfl rfl | exact R_index tabOk rfl rfl rfl rfl rfl rfl (by omega) | exact R_fieldi tabOk rfl rfl rfl | exact R_loadi tabOk rfl rfl rfl rfl rfl rfl rfl | exact R_len tabOk rfl rfl rfl | exact R_load tabOk rfl rfl rfl rfl rfl rfl rfl rfl rfl | exact R_field tabOk rfl rfl rfl rfl | exact Y_add rfl rfl rfl (by first | exact wrap_succ (by omega) | exact wrap_pred (by omega) (by omega) | exact wrap_i64 ⟨by omega, by omega⟩ | rfl) | exact Y_sub rfl rfl rfl (by first | exact wrap_succ (by omega) | exact wrap_pred (by omega) (by omega) | exact wrap_i64 ⟨by omega, by omega⟩ | rfl) | exact R_cmpT rfl rfl rfl rfl (by first | (simp only [decide_eq_true_eq, beq_iff_eq, bne_iff_ne, ne_eq]; done) | (simp only [decide_eq_true_eq, beq_iff_eq, bne_iff_ne, ne_eq]; omega)) | exact R_cmpF rfl rfl rfl rfl (by first | (simp only [decide_eq_false_iff_not, beq_eq_false_iff_ne, bne_eq_false_iff_eq, ne_eq]; done) | (simp only [decide_eq_false_iff_not, beq_eq_false_iff_ne, bne_eq_false_iff_eq, ne_eq]; omega)) | exact Y_ibin rfl rfl rfl rfl | exact Y_extract rfl rfl rfl | exact R_lenr tabOk rfl rfl rfl rfl | exact R_lenn tabOk rfl rfl rfl | exact R_indexr tabOk rfl rfl rfl rfl rfl rfl rfl (by omega) | exact R_fielde tabOk rfl rfl rfl rfl | exact R_loade tabOk rfl rfl rfl rfl rfl rfl rfl rfl rfl | exact Y_not rfl rfl | exact Y_pick_t rfl rfl (by first | rfl | assumption) rfl | exact Y_pick_f rfl rfl (by first | rfl | assumption) rfl | exact Y_pick_b rfl rfl rfl rfl | exact R_build tabOk rfl rfl rfl rfl rfl rfl | (first | exact R_pnil tabOk rfl rfl rfl rfl rfl | exact Y_nilCheck rfl rfl rfl | exact R_lkIn pfxKey pfxA_val zeroInt trivial (fun _ _ => trivial) hn hag tabOk rfl rfl rfl rfl rfl rfl)))
        | refine O_nil ?_
        | refine Q_nil ?_
        | refine X_then_normal ?_
        | refine X_in_normal ?_
        | refine O_box rfl rfl rfl rfl rfl rfl rfl ?_
        | refine O_alloc tabOk rfl rfl rfl rfl rfl rfl ?_
        | refine O_store tabOk rfl rfl rfl rfl rfl rfl rfl rfl rfl rfl rfl ?_
        | refine O_slice tabOk rfl rfl rfl rfl rfl rfl rfl rfl rfl rfl rfl ?_
        | refine A_condt rfl (by first | rfl | assumption | (first | (simp only [decide_eq_true_eq]; done) | (simp only [decide_eq_true_eq]; omega))) ?_
        | refine A_condf rfl (by first | rfl | assumption | (first | (simp only [decide_eq_false_iff_not]; done) | (simp only [decide_eq_false_iff_not]; omega))) ?_
        | refine A_skip ?_
        | refine A_exit ?_
        | refine A_ret ?_
        | refine X_then_exit ?_
        | refine X_then_ret ?_
        | refine X_in_same ?_
        | refine X_in_other rfl ?_
        | refine X_in_ret ?_
        | refine O_s rfl rfl rfl ?_
        | refine Q_s rfl rfl rfl ?_
        | refine O_sn rfl rfl ?_
        | refine O_c rfl rfl rfl rfl rfl hck (fun _ => rfl) ?_)
      refine N_begin [1001] mixed ?_
      repeat (first
        | ((first
          | apply N_takeN (i := 0) rfl rfl (by kernel_rfl) (by decide +kernel) (by decide +kernel) (by repeat (first | exact np_post | apply np_then | apply np_in)) rfl rfl rfl
          | apply N_takeN (i := 1) rfl rfl (by kernel_rfl) (by decide +kernel) (by decide +kernel) (by repeat (first | exact np_post | apply np_then | apply np_in)) rfl rfl rfl
          | apply N_takeN (i := 2) rfl rfl (by kernel_rfl) (by decide +kernel) (by decide +kernel) (by repeat (first | exact np_post | apply np_then | apply np_in)) rfl rfl rfl
          | apply N_takeN (i := 3) rfl rfl (by kernel_rfl) (by decide +kernel) (by decide +kernel) (by repeat (first | exact np_post | apply np_then | apply np_in)) rfl rfl rfl
          | apply N_takeN (i := 4) rfl rfl (by kernel_rfl) (by decide +kernel) (by decide +kernel) (by repeat (first | exact np_post | apply np_then | apply np_in)) rfl rfl rfl
          | apply N_takeN (i := 5) rfl rfl (by kernel_rfl) (by decide +kernel) (by decide +kernel) (by repeat (first | exact np_post | apply np_then | apply np_in)) rfl rfl rfl
          | apply N_takeN (i := 6) rfl rfl (by kernel_rfl) (by decide +kernel) (by decide +kernel) (by repeat (first | exact np_post | apply np_then | apply np_in)) rfl rfl rfl
          | apply N_takeN (i := 7) rfl rfl (by kernel_rfl) (by decide +kernel) (by decide +kernel) (by repeat (first | exact np_post | apply np_then | apply np_in)) rfl rfl rfl
          | apply N_takeN (i := 8) rfl rfl (by kernel_rfl) (by decide +kernel) (by decide +kernel) (by repeat (first | exact np_post | apply np_then | apply np_in)) rfl rfl rfl
          | apply N_takeN (i := 9) rfl rfl (by kernel_rfl) (by decide +kernel) (by decide +kernel) (by repeat (first | exact np_post | apply np_then | apply np_in)) rfl rfl rfl
          | apply N_takeN (i := 10) rfl rfl (by kernel_rfl) (by decide +kernel) (by decide +kernel) (by repeat (first | exact np_post | apply np_then | apply np_in)) rfl rfl rfl
          | apply N_takeN (i := 11) rfl rfl (by kernel_rfl) (by decide +kernel) (by decide +kernel) (by repeat (first | exact np_post | apply np_then | apply np_in)) rfl rfl rfl
          | apply N_takeN (i := 12) rfl rfl (by kernel_rfl) (by decide +kernel) (by decide +kernel) (by repeat (first | exact np_post | apply np_then | apply np_in)) rfl rfl rfl
          ); (first | exact Y_move rfl rfl | exact Y_assign rfl rfl | exact R_index tabOk rfl rfl rfl rfl rfl rfl (by omega) | exact R_fieldi tabOk rfl rfl rfl | exact R_loadi tabOk rfl rfl rfl rfl rfl rfl rfl | exact R_len tabOk rfl rfl rfl | exact R_load tabOk rfl rfl rfl rfl rfl rfl rfl rfl rfl | exact R_field tabOk rfl rfl rfl rfl | exact Y_add rfl rfl rfl (by first | exact wrap_succ (by omega) | exact wrap_pred (by omega) (by omega) | exact wrap_i64 ⟨by omega, by omega⟩ | rfl) | exact Y_sub rfl rfl rfl (by first | exact wrap_succ (by omega) | exact wrap_pred (by omega) (by omega) | exact wrap_i64 ⟨by omega, by omega⟩ | rfl) | exact R_cmpT rfl rfl rfl rfl (by first | (simp only [decide_eq_true_eq, beq_iff_eq, bne_iff_ne, ne_eq]; done) | (simp only [decide_eq_true_eq, beq_iff_eq, bne_iff_ne, ne_eq]; omega)) | exact R_cmpF rfl rfl rfl rfl (by first | (simp only [decide_eq_false_iff_not, beq_eq_false_iff_ne, bne_eq_false_iff_eq, ne_eq]; done) | (simp only [decide_eq_false_iff_not, beq_eq_false_iff_ne, bne_eq_false_iff_eq, ne_eq]; omega)) | exact Y_ibin rfl rfl rfl rfl | exact Y_extract rfl rfl rfl | exact R_lenr tabOk rfl rfl rfl rfl | exact R_lenn tabOk rfl rfl rfl | exact R_indexr tabOk rfl rfl rfl rfl rfl rfl rfl (by omega) | exact R_fielde tabOk rfl rfl rfl rfl | exact R_loade tabOk rfl rfl rfl rfl rfl rfl rfl rfl rfl | exact Y_not rfl rfl | exact Y_pick_t rfl rfl (by first | rfl | assumption) rfl | exact Y_pick_f rfl rfl (by first | rfl | assumption) rfl | exact Y_pick_b rfl rfl rfl rfl | exact R_build tabOk rfl rfl rfl rfl rfl rfl | (first | exact Y_nilCheck rfl rfl rfl)))
        | (apply N_takeL (i := 0) rfl rfl (by kernel_rfl) (by decide +kernel) (by decide +kernel) (by repeat (first | exact np_post | apply np_then | apply np_in)) rfl rfl rfl; (first | exact R_loadi tabOk rfl rfl rfl rfl rfl rfl rfl | exact R_len tabOk rfl rfl rfl | exact R_load tabOk rfl rfl rfl rfl rfl rfl rfl rfl rfl | exact R_lenr tabOk rfl rfl rfl rfl | exact R_lenn tabOk rfl rfl rfl | exact R_loade tabOk rfl rfl rfl rfl rfl rfl rfl rfl rfl | (first | exact Y_nilCheck rfl rfl rfl)))
        | (apply N_takeL (i := 1) rfl rfl (by kernel_rfl) (by decide +kernel) (by decide +kernel) (by repeat (first | exact np_post | apply np_then | apply np_in)) rfl rfl rfl; (first | exact R_loadi tabOk rfl rfl rfl rfl rfl rfl rfl | exact R_len tabOk rfl rfl rfl | exact R_load tabOk rfl rfl rfl rfl rfl rfl rfl rfl rfl | exact R_lenr tabOk rfl rfl rfl rfl | exact R_lenn tabOk rfl rfl rfl | exact R_loade tabOk rfl rfl rfl rfl rfl rfl rfl rfl rfl | (first | exact Y_nilCheck rfl rfl rfl)))
        | (apply N_takeL (i := 2) rfl rfl (by kernel_rfl) (by decide +kernel) (by decide +kernel) (by repeat (first | exact np_post | apply np_then | apply np_in)) rfl rfl rfl; (first | exact R_loadi tabOk rfl rfl rfl rfl rfl rfl rfl | exact R_len tabOk rfl rfl rfl | exact R_load tabOk rfl rfl rfl rfl rfl rfl rfl rfl rfl | exact R_lenr tabOk rfl rfl rfl rfl | exact R_lenn tabOk rfl rfl rfl | exact R_loade tabOk rfl rfl rfl rfl rfl rfl rfl rfl rfl | (first | exact Y_nilCheck rfl rfl rfl)))
        | (apply N_takeL (i := 3) rfl rfl (by kernel_rfl) (by decide +kernel) (by decide +kernel) (by repeat (first | exact np_post | apply np_then | apply np_in)) rfl rfl rfl; (first | exact R_loadi tabOk rfl rfl rfl rfl rfl rfl rfl | exact R_len tabOk rfl rfl rfl | exact R_load tabOk rfl rfl rfl rfl rfl rfl rfl rfl rfl | exact R_lenr tabOk rfl rfl rfl rfl | exact R_lenn tabOk rfl rfl rfl | exact R_loade tabOk rfl rfl rfl rfl rfl rfl rfl rfl rfl | (first | exact Y_nilCheck rfl rfl rfl)))
        | (apply N_takeL (i := 4) rfl rfl (by kernel_rfl) (by decide +kernel) (by decide +kernel) (by repeat (first | exact np_post | apply np_then | apply np_in)) rfl rfl rfl; (first | exact R_loadi tabOk rfl rfl rfl rfl rfl rfl rfl | exact R_len tabOk rfl rfl rfl | exact R_load tabOk rfl rfl rfl rfl rfl rfl rfl rfl rfl | exact R_lenr tabOk rfl rfl rfl rfl | exact R_lenn tabOk rfl rfl rfl | exact R_loade tabOk rfl rfl rfl rfl rfl rfl rfl rfl rfl | (first | exact Y_nilCheck rfl rfl rfl)))
        | (apply N_takeL (i := 5) rfl rfl (by kernel_rfl) (by decide +kernel) (by decide +kernel) (by repeat (first | exact np_post | apply np_then | apply np_in)) rfl rfl rfl; (first | exact R_loadi tabOk rfl rfl rfl rfl rfl rfl rfl | exact R_len tabOk rfl rfl rfl | exact R_load tabOk rfl rfl rfl rfl rfl rfl rfl rfl rfl | exact R_lenr tabOk rfl rfl rfl rfl | exact R_lenn tabOk rfl rfl rfl | exact R_loade tabOk rfl rfl rfl rfl rfl rfl rfl rfl rfl | (first | exact Y_nilCheck rfl rfl rfl)))
        | (apply N_takeL (i := 6) rfl rfl (by kernel_rfl) (by decide +kernel) (by decide +kernel) (by repeat (first | exact np_post | apply np_then | apply np_in)) rfl rfl rfl; (first | exact R_loadi tabOk rfl rfl rfl rfl rfl rfl rfl | exact R_len tabOk rfl rfl rfl | exact R_load tabOk rfl rfl rfl rfl rfl rfl rfl rfl rfl | exact R_lenr tabOk rfl rfl rfl rfl | exact R_lenn tabOk rfl rfl rfl | exact R_loade tabOk rfl rfl rfl rfl rfl rfl rfl rfl rfl | (first | exact Y_nilCheck rfl rfl rfl)))
        | (apply N_takeL (i := 7) rfl rfl (by kernel_rfl) (by decide +kernel) (by decide +kernel) (by repeat (first | exact np_post | apply np_then | apply np_in)) rfl rfl rfl; (first | exact R_loadi tabOk rfl rfl rfl rfl rfl rfl rfl | exact R_len tabOk rfl rfl rfl | exact R_load tabOk rfl rfl rfl rfl rfl rfl rfl rfl rfl | exact R_lenr tabOk rfl rfl rfl rfl | exact R_lenn tabOk rfl rfl rfl | exact R_loade tabOk rfl rfl rfl rfl rfl rfl rfl rfl rfl | (first | exact Y_nilCheck rfl rfl rfl)))
        | (apply N_takeL (i := 8) rfl rfl (by kernel_rfl) (by decide +kernel) (by decide +kernel) (by repeat (first | exact np_post | apply np_then | apply np_in)) rfl rfl rfl; (first | exact R_loadi tabOk rfl rfl rfl rfl rfl rfl rfl | exact R_len tabOk rfl rfl rfl | exact R_load tabOk rfl rfl rfl rfl rfl rfl rfl rfl rfl | exact R_lenr tabOk rfl rfl rfl rfl | exact R_lenn tabOk rfl rfl rfl | exact R_loade tabOk rfl rfl rfl rfl rfl rfl rfl rfl rfl | (first | exact Y_nilCheck rfl rfl rfl)))
        | (apply N_takeL (i := 9) rfl rfl (by kernel_rfl) (by decide +kernel) (by decide +kernel) (by repeat (first | exact np_post | apply np_then | apply np_in)) rfl rfl rfl; (first | exact R_loadi tabOk rfl rfl rfl rfl rfl rfl rfl | exact R_len tabOk rfl rfl rfl | exact R_load tabOk rfl rfl rfl rfl rfl rfl rfl rfl rfl | exact R_lenr tabOk rfl rfl rfl rfl | exact R_lenn tabOk rfl rfl rfl | exact R_loade tabOk rfl rfl rfl rfl rfl rfl rfl rfl rfl | (first | exact Y_nilCheck rfl rfl rfl)))
        | (apply N_takeL (i := 10) rfl rfl (by kernel_rfl) (by decide +kernel) (by decide +kernel) (by repeat (first | exact np_post | apply np_then | apply np_in)) rfl rfl rfl; (first | exact R_loadi tabOk rfl rfl rfl rfl rfl rfl rfl | exact R_len tabOk rfl rfl rfl | exact R_load tabOk rfl rfl rfl rfl rfl rfl rfl rfl rfl | exact R_lenr tabOk rfl rfl rfl rfl | exact R_lenn tabOk rfl rfl rfl | exact R_loade tabOk rfl rfl rfl rfl rfl rfl rfl rfl rfl | (first | exact Y_nilCheck rfl rfl rfl)))
        | (apply N_takeL (i := 11) rfl rfl (by kernel_rfl) (by decide +kernel) (by decide +kernel) (by repeat (first | exact np_post | apply np_then | apply np_in)) rfl rfl rfl; (first | exact R_loadi tabOk rfl rfl rfl rfl rfl rfl rfl | exact R_len tabOk rfl rfl rfl | exact R_load tabOk rfl rfl rfl rfl rfl rfl rfl rfl rfl | exact R_lenr tabOk rfl rfl rfl rfl | exact R_lenn tabOk rfl rfl rfl | exact R_loade tabOk rfl rfl rfl rfl rfl rfl rfl rfl rfl | (first | exact Y_nilCheck rfl rfl rfl)))
        | (apply N_takeL (i := 12) rfl rfl (by kernel_rfl) (by decide +kernel) (by decide +kernel) (by repeat (first | exact np_post | apply np_then | apply np_in)) rfl rfl rfl; (first | exact R_loadi tabOk rfl rfl rfl rfl rfl rfl rfl | exact R_len tabOk rfl rfl rfl | exact R_load tabOk rfl rfl rfl rfl rfl rfl rfl rfl rfl | exact R_lenr tabOk rfl rfl rfl rfl | exact R_lenn tabOk rfl rfl rfl | exact R_loade tabOk rfl rfl rfl rfl rfl rfl rfl rfl rfl | (first | exact Y_nilCheck rfl rfl rfl)))
        | refine N_one (j := 0) (by decide +kernel) ?_
        | refine N_one (j := 1) (by decide +kernel) ?_
        | refine N_one (j := 2) (by decide +kernel) ?_
        | refine N_one (j := 3) (by decide +kernel) ?_
        | refine N_one (j := 4) (by decide +kernel) ?_
        | refine N_one (j := 5) (by decide +kernel) ?_
        | refine N_one (j := 6) (by decide +kernel) ?_
        | refine N_one (j := 7) (by decide +kernel) ?_
        | refine N_one (j := 8) (by decide +kernel) ?_
        | refine N_one (j := 9) (by decide +kernel) ?_
        | refine N_one (j := 10) (by decide +kernel) ?_
        | refine N_one (j := 11) (by decide +kernel) ?_
        | refine N_one (j := 12) (by decide +kernel) ?_
        | refine T_alloc tabOk rfl rfl rfl rfl rfl rfl rfl ?_
        | refine T_store tabOk rfl rfl rfl rfl rfl rfl rfl rfl rfl rfl rfl rfl rfl ?_
        | refine T_box rfl rfl rfl rfl rfl rfl rfl rfl ?_
        | (apply T_yield rfl rfl rfl rfl; (first | exact Y_move rfl rfl | exact Y_assign rfl rfl | exact R_index tabOk rfl rfl rfl rfl rfl rfl (by omega) | exact R_fieldi tabOk rfl rfl rfl | exact R_loadi tabOk rfl rfl rfl rfl rfl rfl rfl | exact R_len tabOk rfl rfl rfl | exact R_load tabOk rfl rfl rfl rfl rfl rfl rfl rfl rfl | exact R_field tabOk rfl rfl rfl rfl | exact Y_add rfl rfl rfl (by first | exact wrap_succ (by omega) | exact wrap_pred (by omega) (by omega) | exact wrap_i64 ⟨by omega, by omega⟩ | rfl) | exact Y_sub rfl rfl rfl (by first | exact wrap_succ (by omega) | exact wrap_pred (by omega) (by omega) | exact wrap_i64 ⟨by omega, by omega⟩ | rfl) | exact R_cmpT rfl rfl rfl rfl (by first | (simp only [decide_eq_true_eq, beq_iff_eq, bne_iff_ne, ne_eq]; done) | (simp only [decide_eq_true_eq, beq_iff_eq, bne_iff_ne, ne_eq]; omega)) | exact R_cmpF rfl rfl rfl rfl (by first | (simp only [decide_eq_false_iff_not, beq_eq_false_iff_ne, bne_eq_false_iff_eq, ne_eq]; done) | (simp only [decide_eq_false_iff_not, beq_eq_false_iff_ne, bne_eq_false_iff_eq, ne_eq]; omega)) | exact Y_ibin rfl rfl rfl rfl | exact Y_extract rfl rfl rfl | exact R_lenr tabOk rfl rfl rfl rfl | exact R_lenn tabOk rfl rfl rfl | exact R_indexr tabOk rfl rfl rfl rfl rfl rfl rfl (by omega) | exact R_fielde tabOk rfl rfl rfl rfl | exact R_loade tabOk rfl rfl rfl rfl rfl rfl rfl rfl rfl | exact Y_not rfl rfl | exact Y_pick_t rfl rfl (by first | rfl | assumption) rfl | exact Y_pick_f rfl rfl (by first | rfl | assumption) rfl | exact Y_pick_b rfl rfl rfl rfl | exact R_build tabOk rfl rfl rfl rfl rfl rfl | (first | exact Y_nilCheck rfl rfl rfl)))
        | refine N_done (by decide +kernel) ?_
        | (refine T_del (k := ⟨a, (B : Int)⟩) pfxKey pfxA_val pfxA_rel trivial (fun _ _ => trivial) hn tabOk rfl rfl rfl rfl rfl rfl rfl rfl rfl ?_))
      repeat (first
        | refine A_seq ?_
        | refine A_block ?_
        | refine R_list ?_
        | refine R_quiet rfl mixed (by kernel_rfl) ?_
        | ((first | apply O_y rfl rfl rfl | apply Q_y rfl rfl rfl); (first | exact Y_move rfl rfl | exact Y_assign rfl rfl | exact R_index tabOk rfl rfl rfl rfl rfl rfl (by omega) | exact R_fieldi tabOk rfl rfl rfl | exact R_loadi tabOk rfl rfl rfl rfl rfl rfl rfl | exact R_len tabOk rfl rfl rfl | exact R_load tabOk rfl rfl rfl rfl rfl rfl rfl rfl rfl | exact R_field tabOk rfl rfl rfl rfl | exact Y_add rfl rfl rfl (by first | exact wrap_succ (by omega) | exact wrap_pred (by omega) (by omega) | exact wrap_i64 ⟨by omega, by omega⟩ | rfl) | exact Y_sub rfl rfl rfl (by first | exact wrap_succ (by omega) | exact wrap_pred (by omega) (by omega) | exact wrap_i64 ⟨by omega, by omega⟩ | rfl) | exact R_cmpT rfl rfl rfl rfl (by first | (simp only [decide_eq_true_eq, beq_iff_eq, bne_iff_ne, ne_eq]; done) | (simp only [decide_eq_true_eq, beq_iff_eq, bne_iff_ne, ne_eq]; omega)) | exact R_cmpF rfl rfl rfl rfl (by first | (simp only [decide_eq_false_iff_not, beq_eq_false_iff_ne, bne_eq_false_iff_eq, ne_eq]; done) | (simp only [decide_eq_false_iff_not, beq_eq_false_iff_ne, bne_eq_false_iff_eq, ne_eq]; omega)) | exact Y_ibin rfl rfl rfl rfl | exact Y_extract rfl rfl rfl | exact R_lenr tabOk rfl rfl rfl rfl | exact R_lenn tabOk rfl rfl rfl | exact R_indexr tabOk rfl rfl rfl rfl rfl rfl rfl (by omega) | exact R_fielde tabOk rfl rfl rfl rfl | exact R_loade tabOk rfl rfl rfl rfl rfl rfl rfl rfl rfl | exact Y_not rfl rfl | exact Y_pick_t rfl rfl (by first | rfl | assumption) rfl | exact Y_pick_f rfl rfl (by first | rfl | assumption) rfl | exact Y_pick_b rfl rfl rfl rfl | exact R_build tabOk rfl rfl rfl rfl rfl rfl | fail))
        | refine O_nil ?_
        | refine Q_nil ?_
        | refine X_then_normal ?_
        | refine X_in_normal ?_
        | refine O_box rfl rfl rfl rfl rfl rfl rfl ?_
        | refine O_alloc tabOk rfl rfl rfl rfl rfl rfl ?_
        | refine O_store tabOk rfl rfl rfl rfl rfl rfl rfl rfl rfl rfl rfl ?_
        | refine O_slice tabOk rfl rfl rfl rfl rfl rfl rfl rfl rfl rfl rfl ?_
        | refine A_condt rfl (by first | rfl | assumption | (first | (simp only [decide_eq_true_eq]; done) | (simp only [decide_eq_true_eq]; omega))) ?_
        | refine A_condf rfl (by first | rfl | assumption | (first | (simp only [decide_eq_false_iff_not]; done) | (simp only [decide_eq_false_iff_not]; omega))) ?_
        | refine A_skip ?_
        | refine A_exit ?_
        | refine A_ret ?_
        | refine X_then_exit ?_
        | refine X_then_ret ?_
        | refine X_in_same ?_
        | refine X_in_other rfl ?_
        | refine X_in_ret ?_
        | refine O_s rfl rfl rfl ?_
        | refine Q_s rfl rfl rfl ?_
        | refine O_sn rfl rfl ?_
        | fail)
      refine A_weaken (Wk_sel (e1 := [(0, .ptr 1000 0), (3, .ptr 3 0)]) (h1 := [(3, .var [.d (.sc (.int .u32 a)), .d (.sc (.int .i64 (B : Int)))]), (1000, tblB 1001 u), (1001, mapB (Go.Proofs.Ytaecjmjdhbjbkaa.adel m ⟨a, (B : Int)⟩))]) ⟨rfl, rfl, trivial⟩ ⟨rfl, rfl, rfl, trivial⟩) ?_
      refine N_begin [1000] mixed ?_
      repeat (first
        | ((first
          | apply N_takeN (i := 0) rfl rfl (by kernel_rfl) (by decide +kernel) (by decide +kernel) (by repeat (first | exact np_post | apply np_then | apply np_in)) rfl rfl rfl
          | apply N_takeN (i := 1) rfl rfl (by kernel_rfl) (by decide +kernel) (by decide +kernel) (by repeat (first | exact np_post | apply np_then | apply np_in)) rfl rfl rfl
          | apply N_takeN (i := 2) rfl rfl (by kernel_rfl) (by decide +kernel) (by decide +kernel) (by repeat (first | exact np_post | apply np_then | apply np_in)) rfl rfl rfl
          | apply N_takeN (i := 3) rfl rfl (by kernel_rfl) (by decide +kernel) (by decide +kernel) (by repeat (first | exact np_post | apply np_then | apply np_in)) rfl rfl rfl
          | apply N_takeN (i := 4) rfl rfl (by kernel_rfl) (by decide +kernel) (by decide +kernel) (by repeat (first | exact np_post | apply np_then | apply np_in)) rfl rfl rfl
          | apply N_takeN (i := 5) rfl rfl (by kernel_rfl) (by decide +kernel) (by decide +kernel) (by repeat (first | exact np_post | apply np_then | apply np_in)) rfl rfl rfl
          | apply N_takeN (i := 6) rfl rfl (by kernel_rfl) (by decide +kernel) (by decide +kernel) (by repeat (first | exact np_post | apply np_then | apply np_in)) rfl rfl rfl
          | apply N_takeN (i := 7) rfl rfl (by kernel_rfl) (by decide +kernel) (by decide +kernel) (by repeat (first | exact np_post | apply np_then | apply np_in)) rfl rfl rfl
          | apply N_takeN (i := 8) rfl rfl (by kernel_rfl) (by decide +kernel) (by decide +kernel) (by repeat (first | exact np_post | apply np_then | apply np_in)) rfl rfl rfl
          | apply N_takeN (i := 9) rfl rfl (by kernel_rfl) (by decide +kernel) (by decide +kernel) (by repeat (first | exact np_post | apply np_then | apply np_in)) rfl rfl rfl
          | apply N_takeN (i := 10) rfl rfl (by kernel_rfl) (by decide +kernel) (by decide +kernel) (by repeat (first | exact np_post | apply np_then | apply np_in)) rfl rfl rfl
          | apply N_takeN (i := 11) rfl rfl (by kernel_rfl) (by decide +kernel) (by decide +kernel) (by repeat (first | exact np_post | apply np_then | apply np_in)) rfl rfl rfl
          | apply N_takeN (i := 12) rfl rfl (by kernel_rfl) (by decide +kernel) (by decide +kernel) (by repeat (first | exact np_post | apply np_then | apply np_in)) rfl rfl rfl
          ); (first | exact Y_move rfl rfl | exact Y_assign rfl rfl | exact R_index tabOk rfl rfl rfl rfl rfl rfl (by omega) | exact R_fieldi tabOk rfl rfl rfl | exact R_loadi tabOk rfl rfl rfl rfl rfl rfl rfl | exact R_len tabOk rfl rfl rfl | exact R_load tabOk rfl rfl rfl rfl rfl rfl rfl rfl rfl | exact R_field tabOk rfl rfl rfl rfl | exact Y_add rfl rfl rfl (by first | exact wrap_succ (by omega) | exact wrap_pred (by omega) (by omega) | exact wrap_i64 ⟨by omega, by omega⟩ | rfl) | exact Y_sub rfl rfl rfl (by first | exact wrap_succ (by omega) | exact wrap_pred (by omega) (by omega) | exact wrap_i64 ⟨by omega, by omega⟩ | rfl) | exact R_cmpT rfl rfl rfl rfl (by first | (simp only [decide_eq_true_eq, beq_iff_eq, bne_iff_ne, ne_eq]; done) | (simp only [decide_eq_true_eq, beq_iff_eq, bne_iff_ne, ne_eq]; omega)) | exact R_cmpF rfl rfl rfl rfl (by first | (simp only [decide_eq_false_iff_not, beq_eq_false_iff_ne, bne_eq_false_iff_eq, ne_eq]; done) | (simp only [decide_eq_false_iff_not, beq_eq_false_iff_ne, bne_eq_false_iff_eq, ne_eq]; omega)) | exact Y_ibin rfl rfl rfl rfl | exact Y_extract rfl rfl rfl | exact R_lenr tabOk rfl rfl rfl rfl | exact R_lenn tabOk rfl rfl rfl | exact R_indexr tabOk rfl rfl rfl rfl rfl rfl rfl (by omega) | exact R_fielde tabOk rfl rfl rfl rfl | exact R_loade tabOk rfl rfl rfl rfl rfl rfl rfl rfl rfl | exact Y_not rfl rfl | exact Y_pick_t rfl rfl (by first | rfl | assumption) rfl | exact Y_pick_f rfl rfl (by first | rfl | assumption) rfl | exact Y_pick_b rfl rfl rfl rfl | exact R_build tabOk rfl rfl rfl rfl rfl rfl | (first | exact Y_nilCheck rfl rfl rfl | exact R_ixp tabOk rfl rfl rfl rfl rfl rfl rfl hB | exact R_load tabOk rfl rfl rfl rfl rfl rfl (used_get _ _ _ hB) rfl rfl)))
        | (apply N_takeL (i := 0) rfl rfl (by kernel_rfl) (by decide +kernel) (by decide +kernel) (by repeat (first | exact np_post | apply np_then | apply np_in)) rfl rfl rfl; (first | exact R_loadi tabOk rfl rfl rfl rfl rfl rfl rfl | exact R_len tabOk rfl rfl rfl | exact R_load tabOk rfl rfl rfl rfl rfl rfl rfl rfl rfl | exact R_lenr tabOk rfl rfl rfl rfl | exact R_lenn tabOk rfl rfl rfl | exact R_loade tabOk rfl rfl rfl rfl rfl rfl rfl rfl rfl | (first | exact Y_nilCheck rfl rfl rfl | exact R_ixp tabOk rfl rfl rfl rfl rfl rfl rfl hB | exact R_load tabOk rfl rfl rfl rfl rfl rfl (used_get _ _ _ hB) rfl rfl)))
        | (apply N_takeL (i := 1) rfl rfl (by kernel_rfl) (by decide +kernel) (by decide +kernel) (by repeat (first | exact np_post | apply np_then | apply np_in)) rfl rfl rfl; (first | exact R_loadi tabOk rfl rfl rfl rfl rfl rfl rfl | exact R_len tabOk rfl rfl rfl | exact R_load tabOk rfl rfl rfl rfl rfl rfl rfl rfl rfl | exact R_lenr tabOk rfl rfl rfl rfl | exact R_lenn tabOk rfl rfl rfl | exact R_loade tabOk rfl rfl rfl rfl rfl rfl rfl rfl rfl | (first | exact Y_nilCheck rfl rfl rfl | exact R_ixp tabOk rfl rfl rfl rfl rfl rfl rfl hB | exact R_load tabOk rfl rfl rfl rfl rfl rfl (used_get _ _ _ hB) rfl rfl)))
        | (apply N_takeL (i := 2) rfl rfl (by kernel_rfl) (by decide +kernel) (by decide +kernel) (by repeat (first | exact np_post | apply np_then | apply np_in)) rfl rfl rfl; (first | exact R_loadi tabOk rfl rfl rfl rfl rfl rfl rfl | exact R_len tabOk rfl rfl rfl | exact R_load tabOk rfl rfl rfl rfl rfl rfl rfl rfl rfl | exact R_lenr tabOk rfl rfl rfl rfl | exact R_lenn tabOk rfl rfl rfl | exact R_loade tabOk rfl rfl rfl rfl rfl rfl rfl rfl rfl | (first | exact Y_nilCheck rfl rfl rfl | exact R_ixp tabOk rfl rfl rfl rfl rfl rfl rfl hB | exact R_load tabOk rfl rfl rfl rfl rfl rfl (used_get _ _ _ hB) rfl rfl)))
        | (apply N_takeL (i := 3) rfl rfl (by kernel_rfl) (by decide +kernel) (by decide +kernel) (by repeat (first | exact np_post | apply np_then | apply np_in)) rfl rfl rfl; (first | exact R_loadi tabOk rfl rfl rfl rfl rfl rfl rfl | exact R_len tabOk rfl rfl rfl | exact R_load tabOk rfl rfl rfl rfl rfl rfl rfl rfl rfl | exact R_lenr tabOk rfl rfl rfl rfl | exact R_lenn tabOk rfl rfl rfl | exact R_loade tabOk rfl rfl rfl rfl rfl rfl rfl rfl rfl | (first | exact Y_nilCheck rfl rfl rfl | exact R_ixp tabOk rfl rfl rfl rfl rfl rfl rfl hB | exact R_load tabOk rfl rfl rfl rfl rfl rfl (used_get _ _ _ hB) rfl rfl)))
        | (apply N_takeL (i := 4) rfl rfl (by kernel_rfl) (by decide +kernel) (by decide +kernel) (by repeat (first | exact np_post | apply np_then | apply np_in)) rfl rfl rfl; (first | exact R_loadi tabOk rfl rfl rfl rfl rfl rfl rfl | exact R_len tabOk rfl rfl rfl | exact R_load tabOk rfl rfl rfl rfl rfl rfl rfl rfl rfl | exact R_lenr tabOk rfl rfl rfl rfl | exact R_lenn tabOk rfl rfl rfl | exact R_loade tabOk rfl rfl rfl rfl rfl rfl rfl rfl rfl | (first | exact Y_nilCheck rfl rfl rfl | exact R_ixp tabOk rfl rfl rfl rfl rfl rfl rfl hB | exact R_load tabOk rfl rfl rfl rfl rfl rfl (used_get _ _ _ hB) rfl rfl)))
        | (apply N_takeL (i := 5) rfl rfl (by kernel_rfl) (by decide +kernel) (by decide +kernel) (by repeat (first | exact np_post | apply np_then | apply np_in)) rfl rfl rfl; (first | exact R_loadi tabOk rfl rfl rfl rfl rfl rfl rfl | exact R_len tabOk rfl rfl rfl | exact R_load tabOk rfl rfl rfl rfl rfl rfl rfl rfl rfl | exact R_lenr tabOk rfl rfl rfl rfl | exact R_lenn tabOk rfl rfl rfl | exact R_loade tabOk rfl rfl rfl rfl rfl rfl rfl rfl rfl | (first | exact Y_nilCheck rfl rfl rfl | exact R_ixp tabOk rfl rfl rfl rfl rfl rfl rfl hB | exact R_load tabOk rfl rfl rfl rfl rfl rfl (used_get _ _ _ hB) rfl rfl)))
        | (apply N_takeL (i := 6) rfl rfl (by kernel_rfl) (by decide +kernel) (by decide +kernel) (by repeat (first | exact np_post | apply np_then | apply np_in)) rfl rfl rfl; (first | exact R_loadi tabOk rfl rfl rfl rfl rfl rfl rfl | exact R_len tabOk rfl rfl rfl | exact R_load tabOk rfl rfl rfl rfl rfl rfl rfl rfl rfl | exact R_lenr tabOk rfl rfl rfl rfl | exact R_lenn tabOk rfl rfl rfl | exact R_loade tabOk rfl rfl rfl rfl rfl rfl rfl rfl rfl | (first | exact Y_nilCheck rfl rfl rfl | exact R_ixp tabOk rfl rfl rfl rfl rfl rfl rfl hB | exact R_load tabOk rfl rfl rfl rfl rfl rfl (used_get _ _ _ hB) rfl rfl)))
        | (apply N_takeL (i := 7) rfl rfl (by kernel_rfl) (by decide +kernel) (by decide +kernel) (by repeat (first | exact np_post | apply np_then | apply np_in)) rfl rfl rfl; (first | exact R_loadi tabOk rfl rfl rfl rfl rfl rfl rfl | exact R_len tabOk rfl rfl rfl | exact R_load tabOk rfl rfl rfl rfl rfl rfl rfl rfl rfl | exact R_lenr tabOk rfl rfl rfl rfl | exact R_lenn tabOk rfl rfl rfl | exact R_loade tabOk rfl rfl rfl rfl rfl rfl rfl rfl rfl | (first | exact Y_nilCheck rfl rfl rfl | exact R_ixp tabOk rfl rfl rfl rfl rfl rfl rfl hB | exact R_load tabOk rfl rfl rfl rfl rfl rfl (used_get _ _ _ hB) rfl rfl)))
        | (apply N_takeL (i := 8) rfl rfl (by kernel_rfl) (by decide +kernel) (by decide +kernel) (by repeat (first | exact np_post | apply np_then | apply np_in)) rfl rfl rfl; (first | exact R_loadi tabOk rfl rfl rfl rfl rfl rfl rfl | exact R_len tabOk rfl rfl rfl | exact R_load tabOk rfl rfl rfl rfl rfl rfl rfl rfl rfl | exact R_lenr tabOk rfl rfl rfl rfl | exact R_lenn tabOk rfl rfl rfl | exact R_loade tabOk rfl rfl rfl rfl rfl rfl rfl rfl rfl | (first | exact Y_nilCheck rfl rfl rfl | exact R_ixp tabOk rfl rfl rfl rfl rfl rfl rfl hB | exact R_load tabOk rfl rfl rfl rfl rfl rfl (used_get _ _ _ hB) rfl rfl)))
        | (apply N_takeL (i := 9) rfl rfl (by kernel_rfl) (by decide +kernel) (by decide +kernel) (by repeat (first | exact np_post | apply np_then | apply np_in)) rfl rfl rfl; (first | exact R_loadi tabOk rfl rfl rfl rfl rfl rfl rfl | exact R_len tabOk rfl rfl rfl | exact R_load tabOk rfl rfl rfl rfl rfl rfl rfl rfl rfl | exact R_lenr tabOk rfl rfl rfl rfl | exact R_lenn tabOk rfl rfl rfl | exact R_loade tabOk rfl rfl rfl rfl rfl rfl rfl rfl rfl | (first | exact Y_nilCheck rfl rfl rfl | exact R_ixp tabOk rfl rfl rfl rfl rfl rfl rfl hB | exact R_load tabOk rfl rfl rfl rfl rfl rfl (used_get _ _ _ hB) rfl rfl)))
        | (apply N_takeL (i := 10) rfl rfl (by kernel_rfl) (by decide +kernel) (by decide +kernel) (by repeat (first | exact np_post | apply np_then | apply np_in)) rfl rfl rfl; (first | exact R_loadi tabOk rfl rfl rfl rfl rfl rfl rfl | exact R_len tabOk rfl rfl rfl | exact R_load tabOk rfl rfl rfl rfl rfl rfl rfl rfl rfl | exact R_lenr tabOk rfl rfl rfl rfl | exact R_lenn tabOk rfl rfl rfl | exact R_loade tabOk rfl rfl rfl rfl rfl rfl rfl rfl rfl | (first | exact Y_nilCheck rfl rfl rfl | exact R_ixp tabOk rfl rfl rfl rfl rfl rfl rfl hB | exact R_load tabOk rfl rfl rfl rfl rfl rfl (used_get _ _ _ hB) rfl rfl)))
        | (apply N_takeL (i := 11) rfl rfl (by kernel_rfl) (by decide +kernel) (by decide +kernel) (by repeat (first | exact np_post | apply np_then | apply np_in)) rfl rfl rfl; (first | exact R_loadi tabOk rfl rfl rfl rfl rfl rfl rfl | exact R_len tabOk rfl rfl rfl | exact R_load tabOk rfl rfl rfl rfl rfl rfl rfl rfl rfl | exact R_lenr tabOk rfl rfl rfl rfl | exact R_lenn tabOk rfl rfl rfl | exact R_loade tabOk rfl rfl rfl rfl rfl rfl rfl rfl rfl | (first | exact Y_nilCheck rfl rfl rfl | exact R_ixp tabOk rfl rfl rfl rfl rfl rfl rfl hB | exact R_load tabOk rfl rfl rfl rfl rfl rfl (used_get _ _ _ hB) rfl rfl)))
        | (apply N_takeL (i := 12) rfl rfl (by kernel_rfl) (by decide +kernel) (by decide +kernel) (by repeat (first | exact np_post | apply np_then | apply np_in)) rfl rfl rfl; (first | exact R_loadi tabOk rfl rfl rfl rfl rfl rfl rfl | exact R_len tabOk rfl rfl rfl | exact R_load tabOk rfl rfl rfl rfl rfl rfl rfl rfl rfl | exact R_lenr tabOk rfl rfl rfl rfl | exact R_lenn tabOk rfl rfl rfl | exact R_loade tabOk rfl rfl rfl rfl rfl rfl rfl rfl rfl | (first | exact Y_nilCheck rfl rfl rfl | exact R_ixp tabOk rfl rfl rfl rfl rfl rfl rfl hB | exact R_load tabOk rfl rfl rfl rfl rfl rfl (used_get _ _ _ hB) rfl rfl)))
        | refine N_one (j := 0) (by decide +kernel) ?_
        | refine N_one (j := 1) (by decide +kernel) ?_
        | refine N_one (j := 2) (by decide +kernel) ?_
        | refine N_one (j := 3) (by decide +kernel) ?_
        | refine N_one (j := 4) (by decide +kernel) ?_
        | refine N_one (j := 5) (by decide +kernel) ?_
        | refine N_one (j := 6) (by decide +kernel) ?_
        | refine N_one (j := 7) (by decide +kernel) ?_
        | refine N_one (j := 8) (by decide +kernel) ?_
        | refine N_one (j := 9) (by decide +kernel) ?_
        | refine N_one (j := 10) (by decide +kernel) ?_
        | refine N_one (j := 11) (by decide +kernel) ?_
        | refine N_one (j := 12) (by decide +kernel) ?_
        | refine T_alloc tabOk rfl rfl rfl rfl rfl rfl rfl ?_
        | refine T_store tabOk rfl rfl rfl rfl rfl rfl rfl rfl rfl rfl rfl rfl rfl ?_
        | refine T_box rfl rfl rfl rfl rfl rfl rfl rfl ?_
        | (apply T_yield rfl rfl rfl rfl; (first | exact Y_move rfl rfl | exact Y_assign rfl rfl | exact R_index tabOk rfl rfl rfl rfl rfl rfl (by omega) | exact R_fieldi tabOk rfl rfl rfl | exact R_loadi tabOk rfl rfl rfl rfl rfl rfl rfl | exact R_len tabOk rfl rfl rfl | exact R_load tabOk rfl rfl rfl rfl rfl rfl rfl rfl rfl | exact R_field tabOk rfl rfl rfl rfl | exact Y_add rfl rfl rfl (by first | exact wrap_succ (by omega) | exact wrap_pred (by omega) (by omega) | exact wrap_i64 ⟨by omega, by omega⟩ | rfl) | exact Y_sub rfl rfl rfl (by first | exact wrap_succ (by omega) | exact wrap_pred (by omega) (by omega) | exact wrap_i64 ⟨by omega, by omega⟩ | rfl) | exact R_cmpT rfl rfl rfl rfl (by first | (simp only [decide_eq_true_eq, beq_iff_eq, bne_iff_ne, ne_eq]; done) | (simp only [decide_eq_true_eq, beq_iff_eq, bne_iff_ne, ne_eq]; omega)) | exact R_cmpF rfl rfl rfl rfl (by first | (simp only [decide_eq_false_iff_not, beq_eq_false_iff_ne, bne_eq_false_iff_eq, ne_eq]; done) | (simp only [decide_eq_false_iff_not, beq_eq_false_iff_ne, bne_eq_false_iff_eq, ne_eq]; omega)) | exact Y_ibin rfl rfl rfl rfl | exact Y_extract rfl rfl rfl | exact R_lenr tabOk rfl rfl rfl rfl | exact R_lenn tabOk rfl rfl rfl | exact R_indexr tabOk rfl rfl rfl rfl rfl rfl rfl (by omega) | exact R_fielde tabOk rfl rfl rfl rfl | exact R_loade tabOk rfl rfl rfl rfl rfl rfl rfl rfl rfl | exact Y_not rfl rfl | exact Y_pick_t rfl rfl (by first | rfl | assumption) rfl | exact Y_pick_f rfl rfl (by first | rfl | assumption) rfl | exact Y_pick_b rfl rfl rfl rfl | exact R_build tabOk rfl rfl rfl rfl rfl rfl | (first | exact Y_nilCheck rfl rfl rfl | exact R_ixp tabOk rfl rfl rfl rfl rfl rfl rfl hB | exact R_load tabOk rfl rfl rfl rfl rfl rfl (used_get _ _ _ hB) rfl rfl)))
        | refine N_done (by decide +kernel) ?_
        | (refine T_storeS tabOk rfl rfl rfl rfl rfl rfl rfl rfl rfl rfl rfl rfl (by simp [usedA]; omega) ?_))
      repeat (first
        | refine A_seq ?_
        | refine A_block ?_
        | refine R_list ?_
        | refine R_quiet rfl mixed (by kernel_rfl) ?_
        | ((first | apply O_y rfl rfl rfl | apply Q_y rfl rfl rfl); (first | exact Y_move rfl rfl | exact Y_assign rfl rfl | exact R_index tabOk rfl rfl rfl rfl rfl rfl (by omega) | exact R_fieldi tabOk rfl rfl rfl | exact R_loadi tabOk rfl rfl rfl rfl rfl rfl rfl | exact R_len tabOk rfl rfl rfl | exact R_load tabOk rfl rfl rfl rfl rfl rfl rfl rfl rfl | exact R_field tabOk rfl rfl rfl rfl | exact Y_add rfl rfl rfl (by first | exact wrap_succ (by omega) | exact wrap_pred (by omega) (by omega) | exact wrap_i64 ⟨by omega, by omega⟩ | rfl) | exact Y_sub rfl rfl rfl (by first | exact wrap_succ (by omega) | exact wrap_pred (by omega) (by omega) | exact wrap_i64 ⟨by omega, by omega⟩ | rfl) | exact R_cmpT rfl rfl rfl rfl (by first | (simp only [decide_eq_true_eq, beq_iff_eq, bne_iff_ne, ne_eq]; done) | (simp only [decide_eq_true_eq, beq_iff_eq, bne_iff_ne, ne_eq]; omega)) | exact R_cmpF rfl rfl rfl rfl (by first | (simp only [decide_eq_false_iff_not, beq_eq_false_iff_ne, bne_eq_false_iff_eq, ne_eq]; done) | (simp only [decide_eq_false_iff_not, beq_eq_false_iff_ne, bne_eq_false_iff_eq, ne_eq]; omega)) | exact Y_ibin rfl rfl rfl rfl | exact Y_extract rfl rfl rfl | exact R_lenr tabOk rfl rfl rfl rfl | exact R_lenn tabOk rfl rfl rfl | exact R_indexr tabOk rfl rfl rfl rfl rfl rfl rfl (by omega) | exact R_fielde tabOk rfl rfl rfl rfl | exact R_loade tabOk rfl rfl rfl rfl rfl rfl rfl rfl rfl | exact Y_not rfl rfl | exact Y_pick_t rfl rfl (by first | rfl | assumption) rfl | exact Y_pick_f rfl rfl (by first | rfl | assumption) rfl | exact Y_pick_b rfl rfl rfl rfl | exact R_build tabOk rfl rfl rfl rfl rfl rfl | fail))
        | refine O_nil ?_
        | refine Q_nil ?_
        | refine X_then_normal ?_
        | refine X_in_normal ?_
        | refine O_box rfl rfl rfl rfl rfl rfl rfl ?_
        | refine O_alloc tabOk rfl rfl rfl rfl rfl rfl ?_
        | refine O_store tabOk rfl rfl rfl rfl rfl rfl rfl rfl rfl rfl rfl ?_
        | refine O_slice tabOk rfl rfl rfl rfl rfl rfl rfl rfl rfl rfl rfl ?_
        | refine A_condt rfl (by first | rfl | assumption | (first | (simp only [decide_eq_true_eq]; done) | (simp only [decide_eq_true_eq]; omega))) ?_
        | refine A_condf rfl (by first | rfl | assumption | (first | (simp only [decide_eq_false_iff_not]; done) | (simp only [decide_eq_false_iff_not]; omega))) ?_
        | refine A_skip ?_
        | refine A_exit ?_
        | refine A_ret ?_
        | refine X_then_exit ?_
        | refine X_then_ret ?_
        | refine X_in_same ?_
        | refine X_in_other rfl ?_
        | refine X_in_ret ?_
        | refine O_s rfl rfl rfl ?_
        | refine Q_s rfl rfl rfl ?_
        | refine O_sn rfl rfl ?_
        | fail)
      exact X_retW AWk.refl rfl (h2 := [(1000, tblB 1001 (bump u B (-1))), (1001, mapB (Go.Proofs.Ytaecjmjdhbjbkaa.adel m ⟨a, (B : Int)⟩))]) ⟨var_eq (used_set 1001 u B (-1) hB) rfl, rfl, trivial⟩ ⟨rfl, rfl⟩
  · rw [if_neg hc, if_neg hc]
    refine A_seq ?_
    refine R_list ?_
    refine O_box rfl rfl rfl rfl rfl rfl rfl ?_
    refine O_weaken (Wk_sel (e1 := [(0, .ptr 1000 0), (3, .ptr 3 0)]) (h1 := [(3, .var [.d (.sc (.int .u32 p.a)), .d (.sc (.int .i64 p.b))]), (1000, tblB 1001 u), (1001, mapB m)]) ⟨rfl, rfl, trivial⟩ ⟨rfl, rfl, kill_map 3 m, trivial⟩) ?_
    repeat (first
      | refine A_seq ?_
      | refine A_block ?_
      | refine R_list ?_
      | refine R_quiet rfl mixed (by kernel_rfl) ?_
      | ((first | apply O_y rfl rfl rfl | apply Q_y rfl rfl rfl); (first | exact Y_move rfl rfl | exact Y_assign rfl rfl | exact R_index tabOk rfl rfl rfl rfl rfl rfl (by omega) | exact R_fieldi tabOk rfl rfl rfl | exact R_loadi tabOk rfl rfl rfl rfl rfl rfl rfl | exact R_len tabOk rfl rfl rfl | exact R_load tabOk rfl rfl rfl rfl rfl rfl rfl rfl rfl | exact R_field tabOk rfl rfl rfl rfl | exact Y_add rfl rfl rfl (by first | exact wrap_succ (by omega) | exact wrap_pred (by omega) (by omega) | exact wrap_i64 ⟨by omega, by omega⟩ | rfl) | exact Y_sub rfl rfl rfl (by first | exact wrap_succ (by omega) | exact wrap_pred (by omega) (by omega) | exact wrap_i64 ⟨by omega, by omega⟩ | rfl) | exact R_cmpT rfl rfl rfl rfl (by first | (simp only [decide_eq_true_eq, beq_iff_eq, bne_iff_ne, ne_eq]; done) | (simp only [decide_eq_true_eq, beq_iff_eq, bne_iff_ne, ne_eq]; omega)) | exact R_cmpF rfl rfl rfl rfl (by first | (simp only [decide_eq_false_iff_not, beq_eq_false_iff_ne, bne_eq_false_iff_eq, ne_eq]; done) | (simp only [decide_eq_false_iff_not, beq_eq_false_iff_ne, bne_eq_false_iff_eq, ne_eq]; omega)) | exact Y_ibin rfl rfl rfl rfl | exact Y_extract rfl rfl rfl | exact R_lenr tabOk rfl rfl rfl rfl | exact R_lenn tabOk rfl rfl rfl | exact R_indexr tabOk rfl rfl rfl rfl rfl rfl rfl (by omega) | exact R_fielde tabOk rfl rfl rfl rfl | exact R_loade tabOk rfl rfl rfl rfl rfl rfl rfl rfl rfl | exact Y_not rfl rfl | exact Y_pick_t rfl rfl (by first | rfl | assumption) rfl | exact Y_pick_f rfl rfl (by first | rfl | assumption) rfl | exact Y_pick_b rfl rfl rfl rfl | exact R_build tabOk rfl rfl rfl rfl rfl rfl | (first | exact R_pnil tabOk rfl rfl rfl rfl rfl)))
      | refine O_nil ?_
      | refine Q_nil ?_
      | refine X_then_normal ?_
      | refine X_in_normal ?_
      | refine O_box rfl rfl rfl rfl rfl rfl rfl ?_
      | refine O_alloc tabOk rfl rfl rfl rfl rfl rfl ?_
      | refine O_store tabOk rfl rfl rfl rfl rfl rfl rfl rfl rfl rfl rfl ?_
      | refine O_slice tabOk rfl rfl rfl rfl rfl rfl rfl rfl rfl rfl rfl ?_
      | refine A_condt rfl (by first | rfl | assumption | (first | (simp only [decide_eq_true_eq]; done) | (simp only [decide_eq_true_eq]; omega))) ?_
      | refine A_condf rfl (by first | rfl | assumption | (first | (simp only [decide_eq_false_iff_not]; done) | (simp only [decide_eq_false_iff_not]; omega))) ?_
      | refine A_skip ?_
      | refine A_exit ?_
      | refine A_ret ?_
      | refine X_then_exit ?_
      | refine X_then_ret ?_
      | refine X_in_same ?_
      | refine X_in_other rfl ?_
      | refine X_in_ret ?_
      | refine O_s rfl rfl rfl ?_
      | refine Q_s rfl rfl rfl ?_
      | refine O_sn rfl rfl ?_
      | refine O_c rfl rfl rfl rfl rfl hck (fun _ => rfl) ?_)
    exact X_retW AWk.refl rfl (h2 := [(1000, tblB 1001 u), (1001, mapB m)]) ⟨rfl, rfl, trivial⟩ ⟨rfl, rfl⟩
end Go.Proofs.Ytaecjmjdhbjbkaa.Ab

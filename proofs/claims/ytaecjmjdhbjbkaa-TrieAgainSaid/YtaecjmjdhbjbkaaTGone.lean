/-
  Tables by prefixes: rows as they are now.
-/
import Derived.Test.YtaecjmjdhbjbkaaTIter
import Derived.Test.YtaecjmjdhbjbkaaAbsFrz
import Derived.Test.YtaecjmjdhbjbkaaTblOver
namespace Go.Proofs.Ytaecjmjdhbjbkaa.Ab
set_option linter.unusedVariables false
set_option maxRecDepth 100000
open Go.RowKit
set_option linter.unusedSimpArgs false
attribute [local irreducible] AWp AOps AQ AYield AEff ACall AWk AAny AAt AThen AIn APost NoPanic

/-- The rows of some prefixes of a table. -/
def rowsOf (m : List (Pfx × Int)) (l : List Pfx) : List Row := l.map fun p => (p, (aget m p).getD 0)
theorem kill2 (i j : Nat) (l : List (Pfx × Int)) : some (killB i (killB j (mapB l))) = some (mapB l) := by
  have h : ∀ i, killB i (mapB l) = mapB l := fun i => Option.some.inj (kill_map i l)
  rw [h, h]
theorem fz_map (id : Nat) (ds : List Dat) (l : List (Pfx × Int)) : some (fzB id ds (mapB l)) = some (mapB l) := by
  show some (ABlk.map ((l.map fun p => (pfxA p.1, intA p.2)).map fun p => (fzV id ds p.1, fzV id ds p.2))) = _
  rw [List.map_map]
  rfl
theorem rowsOf_len (m : List (Pfx × Int)) (l : List Pfx) : (rowsOf m l).length = l.length := by simp [rowsOf]
set_option maxHeartbeats 4000000 in
theorem gone_A (u : Nat → Int) (m : List (Pfx × Int)) (l : List Pfx) (hn : (m.map (·.1)).Nodup) (hk : ∀ p ∈ l, ∃ z, aget m p = some z) (hl : l.length ≤ 1000000) :
    ACall Try.prog 52 [.ptr 1000 0, pfxsA l] [(1000, tblB 1001 u), (1001, mapB m)] (fun c h => c = goneA (rowsOf m l) ∧ h = [(1000, tblB 1001 u), (1001, mapB m)]) := by
  refine ACall_of tabOk Try.func52 rfl Try.ntmps52 (congrArg Array.toList Try.results52) (by kernel_rfl) rfl ?_
  repeat (first
    | refine A_seq ?_
    | refine A_block ?_
    | refine R_list ?_
    | refine R_quiet rfl mixed (by kernel_rfl) ?_
    | ((first | apply O_y rfl rfl rfl | apply Q_y rfl rfl rfl); (first | exact Y_move rfl rfl | exact Y_assign rfl rfl | exact R_index tabOk rfl rfl rfl rfl rfl rfl (by omega) | exact R_fieldi tabOk rfl rfl rfl | exact R_loadi tabOk rfl rfl rfl rfl rfl rfl rfl | exact R_len tabOk rfl rfl rfl | exact R_load tabOk rfl rfl rfl rfl rfl rfl rfl rfl rfl | exact R_field tabOk rfl rfl rfl rfl | exact Y_add rfl rfl rfl (by first | exact wrap_succ (by omega) | exact wrap_pred (by omega) (by omega) | exact wrap_i64 ⟨by omega, by omega⟩ | rfl) | exact Y_sub rfl rfl rfl (by first | exact wrap_succ (by omega) | exact wrap_pred (by omega) (by omega) | exact wrap_i64 ⟨by omega, by omega⟩ | rfl) | exact R_cmpT rfl rfl rfl rfl (by first | (simp only [decide_eq_true_eq, beq_iff_eq, bne_iff_ne, ne_eq]; done) | (simp only [decide_eq_true_eq, beq_iff_eq, bne_iff_ne, ne_eq]; omega)) | exact R_cmpF rfl rfl rfl rfl (by first | (simp only [decide_eq_false_iff_not, beq_eq_false_iff_ne, bne_eq_false_iff_eq, ne_eq]; done) | (simp only [decide_eq_false_iff_not, beq_eq_false_iff_ne, bne_eq_false_iff_eq, ne_eq]; omega)) | exact Y_ibin rfl rfl rfl rfl | exact Y_extract rfl rfl rfl | exact R_lenr tabOk rfl rfl rfl rfl | exact R_lenn tabOk rfl rfl rfl | exact R_indexr tabOk rfl rfl rfl rfl rfl rfl rfl (by omega) | exact R_fielde tabOk rfl rfl rfl rfl | exact R_loade tabOk rfl rfl rfl rfl rfl rfl rfl rfl rfl | exact Y_not rfl rfl | exact Y_pick_t rfl rfl (by first | rfl | assumption) rfl | exact Y_pick_f rfl rfl (by first | rfl | assumption) rfl | exact Y_pick_b rfl rfl rfl rfl | exact R_build tabOk rfl rfl rfl rfl rfl rfl | fail))
    | refine O_nil ?_
    | refine Q_nil ?_
    | refine X_then_normal ?_
    | refine X_in_normal ?_
    | refine O_box rfl rfl rfl rfl rfl rfl rfl ?_
    | refine O_alloc tabOk rfl rfl rfl rfl rfl rfl ?_
    | refine O_store tabOk rfl rfl rfl rfl rfl rfl rfl rfl rfl rfl rfl ?_
    | refine O_slice tabOk rfl rfl rfl rfl rfl rfl rfl rfl rfl rfl rfl ?_
    | refine A_condt rfl (by first | rfl | assumption | (first | (simp only [decide_eq_true_eq]; done) | (simp only [decide_eq_true_eq]; omega))) ?_
    | refine A_condf rfl (by first | rfl | assumption | (first | (simp only [decide_eq_false_iff_not]; done) | (simp only [decide_eq_false_iff_not]; omega))) ?_
    | refine A_skip ?_
    | refine A_exit ?_
    | refine A_ret ?_
    | refine X_then_exit ?_
    | refine X_then_ret ?_
    | refine X_in_same ?_
    | refine X_in_other rfl ?_
    | refine X_in_ret ?_
    | refine O_s rfl rfl rfl ?_
    | refine Q_s rfl rfl rfl ?_
    | refine O_sn rfl rfl ?_
    | fail)
  refine A_weaken (Wk_sel (e1 := [(0, .ptr 1000 0), (5, .ptr 5 0), (8, pfxsA l), (9, intA (l.length : Int)), (10, intA 0)]) (h1 := [(5, .var [.d (.sc (.slice none 0 0))]), (1000, tblB 1001 u), (1001, mapB m)]) ⟨rfl, rfl, rfl, rfl, rfl, trivial⟩ ⟨rfl, rfl, kill_map 5 m, trivial⟩) ?_
  refine A_weaken (Wk_nilB (b := 5) (id := 24) 109 3 rfl rfl rfl) ?_
  refine A_loop (fun k : Nat => [(0, .ptr 1000 0), (5, .ptr 5 0), (8, pfxsA l), (9, intA (l.length : Int)), (10, intA (k : Int))]) (fun k => [(5, .var [.row 24]), (24, .row 109 3 k ((rowsOf m (l.take k)).flatMap rowD)), (1000, tblB 1001 u), (1001, mapB m)]) (fun k => k ≤ l.length) (fun k => l.length - k) 0 (by omega) (Wk_sel ⟨rfl, rfl, rfl, rfl, rfl, trivial⟩ ⟨rfl, rfl, rfl, kill_map 24 m, trivial⟩) ?_
  intro k hkl
  dsimp only
  by_cases hlt : k < l.length
  ·
    repeat (first
      | refine A_seq ?_
      | refine A_block ?_
      | refine R_list ?_
      | refine R_quiet rfl mixed (by kernel_rfl) ?_
      | ((first | apply O_y rfl rfl rfl | apply Q_y rfl rfl rfl); (first | exact Y_move rfl rfl | exact Y_assign rfl rfl | exact R_index tabOk rfl rfl rfl rfl rfl rfl (by omega) | exact R_fieldi tabOk rfl rfl rfl | exact R_loadi tabOk rfl rfl rfl rfl (by first | exact win_flat0 pfxD_len l k _ hlt (by decide) | exact win_flat pfxD_len l k _ _ hlt (by decide) | exact win_flat2 pfxD_len l k _ _ _ hlt (by decide) | rfl) rfl rfl | exact R_len tabOk rfl rfl rfl | exact R_load tabOk rfl rfl rfl rfl rfl rfl rfl rfl rfl | exact R_field tabOk rfl rfl rfl rfl | exact Y_add rfl rfl rfl (by first | exact wrap_succ (by omega) | exact wrap_pred (by omega) (by omega) | exact wrap_i64 ⟨by omega, by omega⟩ | rfl) | exact Y_sub rfl rfl rfl (by first | exact wrap_succ (by omega) | exact wrap_pred (by omega) (by omega) | exact wrap_i64 ⟨by omega, by omega⟩ | rfl) | exact R_cmpT rfl rfl rfl rfl (by first | (simp only [decide_eq_true_eq, beq_iff_eq, bne_iff_ne, ne_eq]; done) | (simp only [decide_eq_true_eq, beq_iff_eq, bne_iff_ne, ne_eq]; omega)) | exact R_cmpF rfl rfl rfl rfl (by first | (simp only [decide_eq_false_iff_not, beq_eq_false_iff_ne, bne_eq_false_iff_eq, ne_eq]; done) | (simp only [decide_eq_false_iff_not, beq_eq_false_iff_ne, bne_eq_false_iff_eq, ne_eq]; omega)) | exact Y_ibin rfl rfl rfl rfl | exact Y_extract rfl rfl rfl | exact R_lenr tabOk rfl rfl rfl rfl | exact R_lenn tabOk rfl rfl rfl | exact R_indexr tabOk rfl rfl rfl rfl rfl rfl rfl (by omega) | exact R_fielde tabOk rfl rfl rfl rfl | exact R_loade tabOk rfl rfl rfl rfl rfl rfl rfl rfl rfl | exact Y_not rfl rfl | exact Y_pick_t rfl rfl (by first | rfl | assumption) rfl | exact Y_pick_f rfl rfl (by first | rfl | assumption) rfl | exact Y_pick_b rfl rfl rfl rfl | exact R_build tabOk rfl rfl rfl rfl rfl rfl | fail))
      | refine O_nil ?_
      | refine Q_nil ?_
      | refine X_then_normal ?_
      | refine X_in_normal ?_
      | refine O_box rfl rfl rfl rfl rfl rfl rfl ?_
      | refine O_alloc tabOk rfl rfl rfl rfl rfl rfl ?_
      | refine O_store tabOk rfl rfl rfl rfl rfl rfl rfl rfl rfl rfl rfl ?_
      | refine O_slice tabOk rfl rfl rfl rfl rfl rfl rfl rfl rfl rfl rfl ?_
      | refine A_condt rfl (by first | rfl | assumption | (first | (simp only [decide_eq_true_eq]; done) | (simp only [decide_eq_true_eq]; omega))) ?_
      | refine A_condf rfl (by first | rfl | assumption | (first | (simp only [decide_eq_false_iff_not]; done) | (simp only [decide_eq_false_iff_not]; omega))) ?_
      | refine A_skip ?_
      | refine A_exit ?_
      | refine A_ret ?_
      | refine X_then_exit ?_
      | refine X_then_ret ?_
      | refine X_in_same ?_
      | refine X_in_other rfl ?_
      | refine X_in_ret ?_
      | refine O_s rfl rfl rfl ?_
      | refine Q_s rfl rfl rfl ?_
      | refine O_sn rfl rfl ?_
      | fail)
    obtain ⟨q, hq⟩ : ∃ q, l[k] = q := ⟨_, rfl⟩
    rw [hq]
    obtain ⟨z, hz⟩ := hk q (by rw [← hq]; exact List.getElem_mem hlt)
    have hrow : rowsOf m (l.take (k + 1)) = rowsOf m (l.take k) ++ [(q, z)] := by
      rw [List.take_add_one, List.getElem?_eq_getElem hlt, hq]
      simp [rowsOf, hz]
    refine A_weaken (Wk_sel (e1 := [(0, .ptr 1000 0), (5, .ptr 5 0), (7, .ptr 7 0), (8, pfxsA l), (9, intA (l.length : Int)), (10, intA (k : Int))]) (h1 := [(7, .var [.d (.sc (.int .u32 q.a)), .d (.sc (.int .i64 q.b))]), (5, .var [.row 24]), (24, .row 109 3 k ((rowsOf m (l.take k)).flatMap rowD)), (1000, tblB 1001 u), (1001, mapB m)]) ⟨rfl, rfl, rfl, rfl, rfl, rfl, trivial⟩ ⟨rfl, rfl, rfl, rfl, kill_map 7 m, trivial⟩) ?_
    refine N_begin [24, 5] mixed ?_
    repeat (first
      | ((first
        | apply N_takeN (i := 0) rfl rfl (by kernel_rfl) (by decide +kernel) (by decide +kernel) (by repeat (first | exact np_post | apply np_then | apply np_in)) rfl rfl rfl
        | apply N_takeN (i := 1) rfl rfl (by kernel_rfl) (by decide +kernel) (by decide +kernel) (by repeat (first | exact np_post | apply np_then | apply np_in)) rfl rfl rfl
        | apply N_takeN (i := 2) rfl rfl (by kernel_rfl) (by decide +kernel) (by decide +kernel) (by repeat (first | exact np_post | apply np_then | apply np_in)) rfl rfl rfl
        | apply N_takeN (i := 3) rfl rfl (by kernel_rfl) (by decide +kernel) (by decide +kernel) (by repeat (first | exact np_post | apply np_then | apply np_in)) rfl rfl rfl
        | apply N_takeN (i := 4) rfl rfl (by kernel_rfl) (by decide +kernel) (by decide +kernel) (by repeat (first | exact np_post | apply np_then | apply np_in)) rfl rfl rfl
        | apply N_takeN (i := 5) rfl rfl (by kernel_rfl) (by decide +kernel) (by decide +kernel) (by repeat (first | exact np_post | apply np_then | apply np_in)) rfl rfl rfl
        | apply N_takeN (i := 6) rfl rfl (by kernel_rfl) (by decide +kernel) (by decide +kernel) (by repeat (first | exact np_post | apply np_then | apply np_in)) rfl rfl rfl
        | apply N_takeN (i := 7) rfl rfl (by kernel_rfl) (by decide +kernel) (by decide +kernel) (by repeat (first | exact np_post | apply np_then | apply np_in)) rfl rfl rfl
        | apply N_takeN (i := 8) rfl rfl (by kernel_rfl) (by decide +kernel) (by decide +kernel) (by repeat (first | exact np_post | apply np_then | apply np_in)) rfl rfl rfl
        | apply N_takeN (i := 9) rfl rfl (by kernel_rfl) (by decide +kernel) (by decide +kernel) (by repeat (first | exact np_post | apply np_then | apply np_in)) rfl rfl rfl
        | apply N_takeN (i := 10) rfl rfl (by kernel_rfl) (by decide +kernel) (by decide +kernel) (by repeat (first | exact np_post | apply np_then | apply np_in)) rfl rfl rfl
        | apply N_takeN (i := 11) rfl rfl (by kernel_rfl) (by decide +kernel) (by decide +kernel) (by repeat (first | exact np_post | apply np_then | apply np_in)) rfl rfl rfl
        | apply N_takeN (i := 12) rfl rfl (by kernel_rfl) (by decide +kernel) (by decide +kernel) (by repeat (first | exact np_post | apply np_then | apply np_in)) rfl rfl rfl
        ); (first | exact Y_move rfl rfl | exact Y_assign rfl rfl | exact R_index tabOk rfl rfl rfl rfl rfl rfl (by omega) | exact R_fieldi tabOk rfl rfl rfl | exact R_loadi tabOk rfl rfl rfl rfl rfl rfl rfl | exact R_len tabOk rfl rfl rfl | exact R_load tabOk rfl rfl rfl rfl rfl rfl rfl rfl rfl | exact R_field tabOk rfl rfl rfl rfl | exact Y_add rfl rfl rfl (by first | exact wrap_succ (by omega) | exact wrap_pred (by omega) (by omega) | exact wrap_i64 ⟨by omega, by omega⟩ | rfl) | exact Y_sub rfl rfl rfl (by first | exact wrap_succ (by omega) | exact wrap_pred (by omega) (by omega) | exact wrap_i64 ⟨by omega, by omega⟩ | rfl) | exact R_cmpT rfl rfl rfl rfl (by first | (simp only [decide_eq_true_eq, beq_iff_eq, bne_iff_ne, ne_eq]; done) | (simp only [decide_eq_true_eq, beq_iff_eq, bne_iff_ne, ne_eq]; omega)) | exact R_cmpF rfl rfl rfl rfl (by first | (simp only [decide_eq_false_iff_not, beq_eq_false_iff_ne, bne_eq_false_iff_eq, ne_eq]; done) | (simp only [decide_eq_false_iff_not, beq_eq_false_iff_ne, bne_eq_false_iff_eq, ne_eq]; omega)) | exact Y_ibin rfl rfl rfl rfl | exact Y_extract rfl rfl rfl | exact R_lenr tabOk rfl rfl rfl rfl | exact R_lenn tabOk rfl rfl rfl | exact R_indexr tabOk rfl rfl rfl rfl rfl rfl rfl (by omega) | exact R_fielde tabOk rfl rfl rfl rfl | exact R_loade tabOk rfl rfl rfl rfl rfl rfl rfl rfl rfl | exact Y_not rfl rfl | exact Y_pick_t rfl rfl (by first | rfl | assumption) rfl | exact Y_pick_f rfl rfl (by first | rfl | assumption) rfl | exact Y_pick_b rfl rfl rfl rfl | exact R_build tabOk rfl rfl rfl rfl rfl rfl | (first | exact Y_nilCheck rfl rfl rfl | exact R_lk1 (k := q) pfxKey pfxA_val zeroInt trivial (fun _ _ => trivial) hn hz tabOk rfl rfl rfl rfl rfl rfl | exact R_build tabOk rfl rfl rfl rfl rfl rfl)))
      | (apply N_takeL (i := 0) rfl rfl (by kernel_rfl) (by decide +kernel) (by decide +kernel) (by repeat (first | exact np_post | apply np_then | apply np_in)) rfl rfl rfl; (first | exact R_loadi tabOk rfl rfl rfl rfl rfl rfl rfl | exact R_len tabOk rfl rfl rfl | exact R_load tabOk rfl rfl rfl rfl rfl rfl rfl rfl rfl | exact R_lenr tabOk rfl rfl rfl rfl | exact R_lenn tabOk rfl rfl rfl | exact R_loade tabOk rfl rfl rfl rfl rfl rfl rfl rfl rfl | (first | exact Y_nilCheck rfl rfl rfl | exact R_lk1 (k := q) pfxKey pfxA_val zeroInt trivial (fun _ _ => trivial) hn hz tabOk rfl rfl rfl rfl rfl rfl | exact R_build tabOk rfl rfl rfl rfl rfl rfl)))
      | (apply N_takeL (i := 1) rfl rfl (by kernel_rfl) (by decide +kernel) (by decide +kernel) (by repeat (first | exact np_post | apply np_then | apply np_in)) rfl rfl rfl; (first | exact R_loadi tabOk rfl rfl rfl rfl rfl rfl rfl | exact R_len tabOk rfl rfl rfl | exact R_load tabOk rfl rfl rfl rfl rfl rfl rfl rfl rfl | exact R_lenr tabOk rfl rfl rfl rfl | exact R_lenn tabOk rfl rfl rfl | exact R_loade tabOk rfl rfl rfl rfl rfl rfl rfl rfl rfl | (first | exact Y_nilCheck rfl rfl rfl | exact R_lk1 (k := q) pfxKey pfxA_val zeroInt trivial (fun _ _ => trivial) hn hz tabOk rfl rfl rfl rfl rfl rfl | exact R_build tabOk rfl rfl rfl rfl rfl rfl)))
      | (apply N_takeL (i := 2) rfl rfl (by kernel_rfl) (by decide +kernel) (by decide +kernel) (by repeat (first | exact np_post | apply np_then | apply np_in)) rfl rfl rfl; (first | exact R_loadi tabOk rfl rfl rfl rfl rfl rfl rfl | exact R_len tabOk rfl rfl rfl | exact R_load tabOk rfl rfl rfl rfl rfl rfl rfl rfl rfl | exact R_lenr tabOk rfl rfl rfl rfl | exact R_lenn tabOk rfl rfl rfl | exact R_loade tabOk rfl rfl rfl rfl rfl rfl rfl rfl rfl | (first | exact Y_nilCheck rfl rfl rfl | exact R_lk1 (k := q) pfxKey pfxA_val zeroInt trivial (fun _ _ => trivial) hn hz tabOk rfl rfl rfl rfl rfl rfl | exact R_build tabOk rfl rfl rfl rfl rfl rfl)))
      | (apply N_takeL (i := 3) rfl rfl (by kernel_rfl) (by decide +kernel) (by decide +kernel) (by repeat (first | exact np_post | apply np_then | apply np_in)) rfl rfl rfl; (first | exact R_loadi tabOk rfl rfl rfl rfl rfl rfl rfl | exact R_len tabOk rfl rfl rfl | exact R_load tabOk rfl rfl rfl rfl rfl rfl rfl rfl rfl | exact R_lenr tabOk rfl rfl rfl rfl | exact R_lenn tabOk rfl rfl rfl | exact R_loade tabOk rfl rfl rfl rfl rfl rfl rfl rfl rfl | (first | exact Y_nilCheck rfl rfl rfl | exact R_lk1 (k := q) pfxKey pfxA_val zeroInt trivial (fun _ _ => trivial) hn hz tabOk rfl rfl rfl rfl rfl rfl | exact R_build tabOk rfl rfl rfl rfl rfl rfl)))
      | (apply N_takeL (i := 4) rfl rfl (by kernel_rfl) (by decide +kernel) (by decide +kernel) (by repeat (first | exact np_post | apply np_then | apply np_in)) rfl rfl rfl; (first | exact R_loadi tabOk rfl rfl rfl rfl rfl rfl rfl | exact R_len tabOk rfl rfl rfl | exact R_load tabOk rfl rfl rfl rfl rfl rfl rfl rfl rfl | exact R_lenr tabOk rfl rfl rfl rfl | exact R_lenn tabOk rfl rfl rfl | exact R_loade tabOk rfl rfl rfl rfl rfl rfl rfl rfl rfl | (first | exact Y_nilCheck rfl rfl rfl | exact R_lk1 (k := q) pfxKey pfxA_val zeroInt trivial (fun _ _ => trivial) hn hz tabOk rfl rfl rfl rfl rfl rfl | exact R_build tabOk rfl rfl rfl rfl rfl rfl)))
      | (apply N_takeL (i := 5) rfl rfl (by kernel_rfl) (by decide +kernel) (by decide +kernel) (by repeat (first | exact np_post | apply np_then | apply np_in)) rfl rfl rfl; (first | exact R_loadi tabOk rfl rfl rfl rfl rfl rfl rfl | exact R_len tabOk rfl rfl rfl | exact R_load tabOk rfl rfl rfl rfl rfl rfl rfl rfl rfl | exact R_lenr tabOk rfl rfl rfl rfl | exact R_lenn tabOk rfl rfl rfl | exact R_loade tabOk rfl rfl rfl rfl rfl rfl rfl rfl rfl | (first | exact Y_nilCheck rfl rfl rfl | exact R_lk1 (k := q) pfxKey pfxA_val zeroInt trivial (fun _ _ => trivial) hn hz tabOk rfl rfl rfl rfl rfl rfl | exact R_build tabOk rfl rfl rfl rfl rfl rfl)))
      | (apply N_takeL (i := 6) rfl rfl (by kernel_rfl) (by decide +kernel) (by decide +kernel) (by repeat (first | exact np_post | apply np_then | apply np_in)) rfl rfl rfl; (first | exact R_loadi tabOk rfl rfl rfl rfl rfl rfl rfl | exact R_len tabOk rfl rfl rfl | exact R_load tabOk rfl rfl rfl rfl rfl rfl rfl rfl rfl | exact R_lenr tabOk rfl rfl rfl rfl | exact R_lenn tabOk rfl rfl rfl | exact R_loade tabOk rfl rfl rfl rfl rfl rfl rfl rfl rfl | (first | exact Y_nilCheck rfl rfl rfl | exact R_lk1 (k := q) pfxKey pfxA_val zeroInt trivial (fun _ _ => trivial) hn hz tabOk rfl rfl rfl rfl rfl rfl | exact R_build tabOk rfl rfl rfl rfl rfl rfl)))
      | (apply N_takeL (i := 7) rfl rfl (by kernel_rfl) (by decide +kernel) (by decide +kernel) (by repeat (first | exact np_post | apply np_then | apply np_in)) rfl rfl rfl; (first | exact R_loadi tabOk rfl rfl rfl rfl rfl rfl rfl | exact R_len tabOk rfl rfl rfl | exact R_load tabOk rfl rfl rfl rfl rfl rfl rfl rfl rfl | exact R_lenr tabOk rfl rfl rfl rfl | exact R_lenn tabOk rfl rfl rfl | exact R_loade tabOk rfl rfl rfl rfl rfl rfl rfl rfl rfl | (first | exact Y_nilCheck rfl rfl rfl | exact R_lk1 (k := q) pfxKey pfxA_val zeroInt trivial (fun _ _ => trivial) hn hz tabOk rfl rfl rfl rfl rfl rfl | exact R_build tabOk rfl rfl rfl rfl rfl rfl)))
      | (apply N_takeL (i := 8) rfl rfl (by kernel_rfl) (by decide +kernel) (by decide +kernel) (by repeat (first | exact np_post | apply np_then | apply np_in)) rfl rfl rfl; (first | exact R_loadi tabOk rfl rfl rfl rfl rfl rfl rfl | exact R_len tabOk rfl rfl rfl | exact R_load tabOk rfl rfl rfl rfl rfl rfl rfl rfl rfl | exact R_lenr tabOk rfl rfl rfl rfl | exact R_lenn tabOk rfl rfl rfl | exact R_loade tabOk rfl rfl rfl rfl rfl rfl rfl rfl rfl | (first | exact Y_nilCheck rfl rfl rfl | exact R_lk1 (k := q) pfxKey pfxA_val zeroInt trivial (fun _ _ => trivial) hn hz tabOk rfl rfl rfl rfl rfl rfl | exact R_build tabOk rfl rfl rfl rfl rfl rfl)))
      | (apply N_takeL (i := 9) rfl rfl (by kernel_rfl) (by decide +kernel) (by decide +kernel) (by repeat (first | exact np_post | apply np_then | apply np_in)) rfl rfl rfl; (first | exact R_loadi tabOk rfl rfl rfl rfl rfl rfl rfl | exact R_len tabOk rfl rfl rfl | exact R_load tabOk rfl rfl rfl rfl rfl rfl rfl rfl rfl | exact R_lenr tabOk rfl rfl rfl rfl | exact R_lenn tabOk rfl rfl rfl | exact R_loade tabOk rfl rfl rfl rfl rfl rfl rfl rfl rfl | (first | exact Y_nilCheck rfl rfl rfl | exact R_lk1 (k := q) pfxKey pfxA_val zeroInt trivial (fun _ _ => trivial) hn hz tabOk rfl rfl rfl rfl rfl rfl | exact R_build tabOk rfl rfl rfl rfl rfl rfl)))
      | (apply N_takeL (i := 10) rfl rfl (by kernel_rfl) (by decide +kernel) (by decide +kernel) (by repeat (first | exact np_post | apply np_then | apply np_in)) rfl rfl rfl; (first | exact R_loadi tabOk rfl rfl rfl rfl rfl rfl rfl | exact R_len tabOk rfl rfl rfl | exact R_load tabOk rfl rfl rfl rfl rfl rfl rfl rfl rfl | exact R_lenr tabOk rfl rfl rfl rfl | exact R_lenn tabOk rfl rfl rfl | exact R_loade tabOk rfl rfl rfl rfl rfl rfl rfl rfl rfl | (first | exact Y_nilCheck rfl rfl rfl | exact R_lk1 (k := q) pfxKey pfxA_val zeroInt trivial (fun _ _ => trivial) hn hz tabOk rfl rfl rfl rfl rfl rfl | exact R_build tabOk rfl rfl rfl rfl rfl rfl)))
      | (apply N_takeL (i := 11) rfl rfl (by kernel_rfl) (by decide +kernel) (by decide +kernel) (by repeat (first | exact np_post | apply np_then | apply np_in)) rfl rfl rfl; (first | exact R_loadi tabOk rfl rfl rfl rfl rfl rfl rfl | exact R_len tabOk rfl rfl rfl | exact R_load tabOk rfl rfl rfl rfl rfl rfl rfl rfl rfl | exact R_lenr tabOk rfl rfl rfl rfl | exact R_lenn tabOk rfl rfl rfl | exact R_loade tabOk rfl rfl rfl rfl rfl rfl rfl rfl rfl | (first | exact Y_nilCheck rfl rfl rfl | exact R_lk1 (k := q) pfxKey pfxA_val zeroInt trivial (fun _ _ => trivial) hn hz tabOk rfl rfl rfl rfl rfl rfl | exact R_build tabOk rfl rfl rfl rfl rfl rfl)))
      | (apply N_takeL (i := 12) rfl rfl (by kernel_rfl) (by decide +kernel) (by decide +kernel) (by repeat (first | exact np_post | apply np_then | apply np_in)) rfl rfl rfl; (first | exact R_loadi tabOk rfl rfl rfl rfl rfl rfl rfl | exact R_len tabOk rfl rfl rfl | exact R_load tabOk rfl rfl rfl rfl rfl rfl rfl rfl rfl | exact R_lenr tabOk rfl rfl rfl rfl | exact R_lenn tabOk rfl rfl rfl | exact R_loade tabOk rfl rfl rfl rfl rfl rfl rfl rfl rfl | (first | exact Y_nilCheck rfl rfl rfl | exact R_lk1 (k := q) pfxKey pfxA_val zeroInt trivial (fun _ _ => trivial) hn hz tabOk rfl rfl rfl rfl rfl rfl | exact R_build tabOk rfl rfl rfl rfl rfl rfl)))
      | refine N_one (j := 0) (by decide +kernel) ?_
      | refine N_one (j := 1) (by decide +kernel) ?_
      | refine N_one (j := 2) (by decide +kernel) ?_
      | refine N_one (j := 3) (by decide +kernel) ?_
      | refine N_one (j := 4) (by decide +kernel) ?_
      | refine N_one (j := 5) (by decide +kernel) ?_
      | refine N_one (j := 6) (by decide +kernel) ?_
      | refine N_one (j := 7) (by decide +kernel) ?_
      | refine N_one (j := 8) (by decide +kernel) ?_
      | refine N_one (j := 9) (by decide +kernel) ?_
      | refine N_one (j := 10) (by decide +kernel) ?_
      | refine N_one (j := 11) (by decide +kernel) ?_
      | refine N_one (j := 12) (by decide +kernel) ?_
      | refine T_alloc tabOk rfl rfl rfl rfl rfl rfl rfl ?_
      | refine T_store tabOk rfl rfl rfl rfl rfl rfl rfl rfl rfl rfl rfl rfl rfl ?_
      | refine T_box rfl rfl rfl rfl rfl rfl rfl rfl ?_
      | (apply T_yield rfl rfl rfl rfl; (first | exact Y_move rfl rfl | exact Y_assign rfl rfl | exact R_index tabOk rfl rfl rfl rfl rfl rfl (by omega) | exact R_fieldi tabOk rfl rfl rfl | exact R_loadi tabOk rfl rfl rfl rfl rfl rfl rfl | exact R_len tabOk rfl rfl rfl | exact R_load tabOk rfl rfl rfl rfl rfl rfl rfl rfl rfl | exact R_field tabOk rfl rfl rfl rfl | exact Y_add rfl rfl rfl (by first | exact wrap_succ (by omega) | exact wrap_pred (by omega) (by omega) | exact wrap_i64 ⟨by omega, by omega⟩ | rfl) | exact Y_sub rfl rfl rfl (by first | exact wrap_succ (by omega) | exact wrap_pred (by omega) (by omega) | exact wrap_i64 ⟨by omega, by omega⟩ | rfl) | exact R_cmpT rfl rfl rfl rfl (by first | (simp only [decide_eq_true_eq, beq_iff_eq, bne_iff_ne, ne_eq]; done) | (simp only [decide_eq_true_eq, beq_iff_eq, bne_iff_ne, ne_eq]; omega)) | exact R_cmpF rfl rfl rfl rfl (by first | (simp only [decide_eq_false_iff_not, beq_eq_false_iff_ne, bne_eq_false_iff_eq, ne_eq]; done) | (simp only [decide_eq_false_iff_not, beq_eq_false_iff_ne, bne_eq_false_iff_eq, ne_eq]; omega)) | exact Y_ibin rfl rfl rfl rfl | exact Y_extract rfl rfl rfl | exact R_lenr tabOk rfl rfl rfl rfl | exact R_lenn tabOk rfl rfl rfl | exact R_indexr tabOk rfl rfl rfl rfl rfl rfl rfl (by omega) | exact R_fielde tabOk rfl rfl rfl rfl | exact R_loade tabOk rfl rfl rfl rfl rfl rfl rfl rfl rfl | exact Y_not rfl rfl | exact Y_pick_t rfl rfl (by first | rfl | assumption) rfl | exact Y_pick_f rfl rfl (by first | rfl | assumption) rfl | exact Y_pick_b rfl rfl rfl rfl | exact R_build tabOk rfl rfl rfl rfl rfl rfl | (first | exact Y_nilCheck rfl rfl rfl | exact R_lk1 (k := q) pfxKey pfxA_val zeroInt trivial (fun _ _ => trivial) hn hz tabOk rfl rfl rfl rfl rfl rfl | exact R_build tabOk rfl rfl rfl rfl rfl rfl)))
      | refine N_done (by decide +kernel) ?_
      | fail)
    refine N_two (j := 0) (k := 9) (by kernel_rfl) ?_ ?_
    ·
      repeat (first
        | ((first
          | apply N_takeN (i := 0) rfl rfl (by kernel_rfl) (by decide +kernel) (by decide +kernel) (by repeat (first | exact np_post | apply np_then | apply np_in)) rfl rfl rfl
          | apply N_takeN (i := 1) rfl rfl (by kernel_rfl) (by decide +kernel) (by decide +kernel) (by repeat (first | exact np_post | apply np_then | apply np_in)) rfl rfl rfl
          | apply N_takeN (i := 2) rfl rfl (by kernel_rfl) (by decide +kernel) (by decide +kernel) (by repeat (first | exact np_post | apply np_then | apply np_in)) rfl rfl rfl
          | apply N_takeN (i := 3) rfl rfl (by kernel_rfl) (by decide +kernel) (by decide +kernel) (by repeat (first | exact np_post | apply np_then | apply np_in)) rfl rfl rfl
          | apply N_takeN (i := 4) rfl rfl (by kernel_rfl) (by decide +kernel) (by decide +kernel) (by repeat (first | exact np_post | apply np_then | apply np_in)) rfl rfl rfl
          | apply N_takeN (i := 5) rfl rfl (by kernel_rfl) (by decide +kernel) (by decide +kernel) (by repeat (first | exact np_post | apply np_then | apply np_in)) rfl rfl rfl
          | apply N_takeN (i := 6) rfl rfl (by kernel_rfl) (by decide +kernel) (by decide +kernel) (by repeat (first | exact np_post | apply np_then | apply np_in)) rfl rfl rfl
          | apply N_takeN (i := 7) rfl rfl (by kernel_rfl) (by decide +kernel) (by decide +kernel) (by repeat (first | exact np_post | apply np_then | apply np_in)) rfl rfl rfl
          | apply N_takeN (i := 8) rfl rfl (by kernel_rfl) (by decide +kernel) (by decide +kernel) (by repeat (first | exact np_post | apply np_then | apply np_in)) rfl rfl rfl
          | apply N_takeN (i := 9) rfl rfl (by kernel_rfl) (by decide +kernel) (by decide +kernel) (by repeat (first | exact np_post | apply np_then | apply np_in)) rfl rfl rfl
          | apply N_takeN (i := 10) rfl rfl (by kernel_rfl) (by decide +kernel) (by decide +kernel) (by repeat (first | exact np_post | apply np_then | apply np_in)) rfl rfl rfl
          | apply N_takeN (i := 11) rfl rfl (by kernel_rfl) (by decide +kernel) (by decide +kernel) (by repeat (first | exact np_post | apply np_then | apply np_in)) rfl rfl rfl
          | apply N_takeN (i := 12) rfl rfl (by kernel_rfl) (by decide +kernel) (by decide +kernel) (by repeat (first | exact np_post | apply np_then | apply np_in)) rfl rfl rfl
          ); (first | exact Y_move rfl rfl | exact Y_assign rfl rfl | exact R_index tabOk rfl rfl rfl rfl rfl rfl (by omega) | exact R_fieldi tabOk rfl rfl rfl | exact R_loadi tabOk rfl rfl rfl rfl rfl rfl rfl | exact R_len tabOk rfl rfl rfl | exact R_load tabOk rfl rfl rfl rfl rfl rfl rfl rfl rfl | exact R_field tabOk rfl rfl rfl rfl | exact Y_add rfl rfl rfl (by first | exact wrap_succ (by omega) | exact wrap_pred (by omega) (by omega) | exact wrap_i64 ⟨by omega, by omega⟩ | rfl) | exact Y_sub rfl rfl rfl (by first | exact wrap_succ (by omega) | exact wrap_pred (by omega) (by omega) | exact wrap_i64 ⟨by omega, by omega⟩ | rfl) | exact R_cmpT rfl rfl rfl rfl (by first | (simp only [decide_eq_true_eq, beq_iff_eq, bne_iff_ne, ne_eq]; done) | (simp only [decide_eq_true_eq, beq_iff_eq, bne_iff_ne, ne_eq]; omega)) | exact R_cmpF rfl rfl rfl rfl (by first | (simp only [decide_eq_false_iff_not, beq_eq_false_iff_ne, bne_eq_false_iff_eq, ne_eq]; done) | (simp only [decide_eq_false_iff_not, beq_eq_false_iff_ne, bne_eq_false_iff_eq, ne_eq]; omega)) | exact Y_ibin rfl rfl rfl rfl | exact Y_extract rfl rfl rfl | exact R_lenr tabOk rfl rfl rfl rfl | exact R_lenn tabOk rfl rfl rfl | exact R_indexr tabOk rfl rfl rfl rfl rfl rfl rfl (by omega) | exact R_fielde tabOk rfl rfl rfl rfl | exact R_loade tabOk rfl rfl rfl rfl rfl rfl rfl rfl rfl | exact Y_not rfl rfl | exact Y_pick_t rfl rfl (by first | rfl | assumption) rfl | exact Y_pick_f rfl rfl (by first | rfl | assumption) rfl | exact Y_pick_b rfl rfl rfl rfl | exact R_build tabOk rfl rfl rfl rfl rfl rfl | fail))
        | (apply N_takeL (i := 0) rfl rfl (by kernel_rfl) (by decide +kernel) (by decide +kernel) (by repeat (first | exact np_post | apply np_then | apply np_in)) rfl rfl rfl; (first | exact R_loadi tabOk rfl rfl rfl rfl rfl rfl rfl | exact R_len tabOk rfl rfl rfl | exact R_load tabOk rfl rfl rfl rfl rfl rfl rfl rfl rfl | exact R_lenr tabOk rfl rfl rfl rfl | exact R_lenn tabOk rfl rfl rfl | exact R_loade tabOk rfl rfl rfl rfl rfl rfl rfl rfl rfl | fail))
        | (apply N_takeL (i := 1) rfl rfl (by kernel_rfl) (by decide +kernel) (by decide +kernel) (by repeat (first | exact np_post | apply np_then | apply np_in)) rfl rfl rfl; (first | exact R_loadi tabOk rfl rfl rfl rfl rfl rfl rfl | exact R_len tabOk rfl rfl rfl | exact R_load tabOk rfl rfl rfl rfl rfl rfl rfl rfl rfl | exact R_lenr tabOk rfl rfl rfl rfl | exact R_lenn tabOk rfl rfl rfl | exact R_loade tabOk rfl rfl rfl rfl rfl rfl rfl rfl rfl | fail))
        | (apply N_takeL (i := 2) rfl rfl (by kernel_rfl) (by decide +kernel) (by decide +kernel) (by repeat (first | exact np_post | apply np_then | apply np_in)) rfl rfl rfl; (first | exact R_loadi tabOk rfl rfl rfl rfl rfl rfl rfl | exact R_len tabOk rfl rfl rfl | exact R_load tabOk rfl rfl rfl rfl rfl rfl rfl rfl rfl | exact R_lenr tabOk rfl rfl rfl rfl | exact R_lenn tabOk rfl rfl rfl | exact R_loade tabOk rfl rfl rfl rfl rfl rfl rfl rfl rfl | fail))
        | (apply N_takeL (i := 3) rfl rfl (by kernel_rfl) (by decide +kernel) (by decide +kernel) (by repeat (first | exact np_post | apply np_then | apply np_in)) rfl rfl rfl; (first | exact R_loadi tabOk rfl rfl rfl rfl rfl rfl rfl | exact R_len tabOk rfl rfl rfl | exact R_load tabOk rfl rfl rfl rfl rfl rfl rfl rfl rfl | exact R_lenr tabOk rfl rfl rfl rfl | exact R_lenn tabOk rfl rfl rfl | exact R_loade tabOk rfl rfl rfl rfl rfl rfl rfl rfl rfl | fail))
        | (apply N_takeL (i := 4) rfl rfl (by kernel_rfl) (by decide +kernel) (by decide +kernel) (by repeat (first | exact np_post | apply np_then | apply np_in)) rfl rfl rfl; (first | exact R_loadi tabOk rfl rfl rfl rfl rfl rfl rfl | exact R_len tabOk rfl rfl rfl | exact R_load tabOk rfl rfl rfl rfl rfl rfl rfl rfl rfl | exact R_lenr tabOk rfl rfl rfl rfl | exact R_lenn tabOk rfl rfl rfl | exact R_loade tabOk rfl rfl rfl rfl rfl rfl rfl rfl rfl | fail))
        | (apply N_takeL (i := 5) rfl rfl (by kernel_rfl) (by decide +kernel) (by decide +kernel) (by repeat (first | exact np_post | apply np_then | apply np_in)) rfl rfl rfl; (first | exact R_loadi tabOk rfl rfl rfl rfl rfl rfl rfl | exact R_len tabOk rfl rfl rfl | exact R_load tabOk rfl rfl rfl rfl rfl rfl rfl rfl rfl | exact R_lenr tabOk rfl rfl rfl rfl | exact R_lenn tabOk rfl rfl rfl | exact R_loade tabOk rfl rfl rfl rfl rfl rfl rfl rfl rfl | fail))
        | (apply N_takeL (i := 6) rfl rfl (by kernel_rfl) (by decide +kernel) (by decide +kernel) (by repeat (first | exact np_post | apply np_then | apply np_in)) rfl rfl rfl; (first | exact R_loadi tabOk rfl rfl rfl rfl rfl rfl rfl | exact R_len tabOk rfl rfl rfl | exact R_load tabOk rfl rfl rfl rfl rfl rfl rfl rfl rfl | exact R_lenr tabOk rfl rfl rfl rfl | exact R_lenn tabOk rfl rfl rfl | exact R_loade tabOk rfl rfl rfl rfl rfl rfl rfl rfl rfl | fail))
        | (apply N_takeL (i := 7) rfl rfl (by kernel_rfl) (by decide +kernel) (by decide +kernel) (by repeat (first | exact np_post | apply np_then | apply np_in)) rfl rfl rfl; (first | exact R_loadi tabOk rfl rfl rfl rfl rfl rfl rfl | exact R_len tabOk rfl rfl rfl | exact R_load tabOk rfl rfl rfl rfl rfl rfl rfl rfl rfl | exact R_lenr tabOk rfl rfl rfl rfl | exact R_lenn tabOk rfl rfl rfl | exact R_loade tabOk rfl rfl rfl rfl rfl rfl rfl rfl rfl | fail))
        | (apply N_takeL (i := 8) rfl rfl (by kernel_rfl) (by decide +kernel) (by decide +kernel) (by repeat (first | exact np_post | apply np_then | apply np_in)) rfl rfl rfl; (first | exact R_loadi tabOk rfl rfl rfl rfl rfl rfl rfl | exact R_len tabOk rfl rfl rfl | exact R_load tabOk rfl rfl rfl rfl rfl rfl rfl rfl rfl | exact R_lenr tabOk rfl rfl rfl rfl | exact R_lenn tabOk rfl rfl rfl | exact R_loade tabOk rfl rfl rfl rfl rfl rfl rfl rfl rfl | fail))
        | (apply N_takeL (i := 9) rfl rfl (by kernel_rfl) (by decide +kernel) (by decide +kernel) (by repeat (first | exact np_post | apply np_then | apply np_in)) rfl rfl rfl; (first | exact R_loadi tabOk rfl rfl rfl rfl rfl rfl rfl | exact R_len tabOk rfl rfl rfl | exact R_load tabOk rfl rfl rfl rfl rfl rfl rfl rfl rfl | exact R_lenr tabOk rfl rfl rfl rfl | exact R_lenn tabOk rfl rfl rfl | exact R_loade tabOk rfl rfl rfl rfl rfl rfl rfl rfl rfl | fail))
        | (apply N_takeL (i := 10) rfl rfl (by kernel_rfl) (by decide +kernel) (by decide +kernel) (by repeat (first | exact np_post | apply np_then | apply np_in)) rfl rfl rfl; (first | exact R_loadi tabOk rfl rfl rfl rfl rfl rfl rfl | exact R_len tabOk rfl rfl rfl | exact R_load tabOk rfl rfl rfl rfl rfl rfl rfl rfl rfl | exact R_lenr tabOk rfl rfl rfl rfl | exact R_lenn tabOk rfl rfl rfl | exact R_loade tabOk rfl rfl rfl rfl rfl rfl rfl rfl rfl | fail))
        | (apply N_takeL (i := 11) rfl rfl (by kernel_rfl) (by decide +kernel) (by decide +kernel) (by repeat (first | exact np_post | apply np_then | apply np_in)) rfl rfl rfl; (first | exact R_loadi tabOk rfl rfl rfl rfl rfl rfl rfl | exact R_len tabOk rfl rfl rfl | exact R_load tabOk rfl rfl rfl rfl rfl rfl rfl rfl rfl | exact R_lenr tabOk rfl rfl rfl rfl | exact R_lenn tabOk rfl rfl rfl | exact R_loade tabOk rfl rfl rfl rfl rfl rfl rfl rfl rfl | fail))
        | (apply N_takeL (i := 12) rfl rfl (by kernel_rfl) (by decide +kernel) (by decide +kernel) (by repeat (first | exact np_post | apply np_then | apply np_in)) rfl rfl rfl; (first | exact R_loadi tabOk rfl rfl rfl rfl rfl rfl rfl | exact R_len tabOk rfl rfl rfl | exact R_load tabOk rfl rfl rfl rfl rfl rfl rfl rfl rfl | exact R_lenr tabOk rfl rfl rfl rfl | exact R_lenn tabOk rfl rfl rfl | exact R_loade tabOk rfl rfl rfl rfl rfl rfl rfl rfl rfl | fail))
        | refine N_one (j := 0) (by decide +kernel) ?_
        | refine N_one (j := 1) (by decide +kernel) ?_
        | refine N_one (j := 2) (by decide +kernel) ?_
        | refine N_one (j := 3) (by decide +kernel) ?_
        | refine N_one (j := 4) (by decide +kernel) ?_
        | refine N_one (j := 5) (by decide +kernel) ?_
        | refine N_one (j := 6) (by decide +kernel) ?_
        | refine N_one (j := 7) (by decide +kernel) ?_
        | refine N_one (j := 8) (by decide +kernel) ?_
        | refine N_one (j := 9) (by decide +kernel) ?_
        | refine N_one (j := 10) (by decide +kernel) ?_
        | refine N_one (j := 11) (by decide +kernel) ?_
        | refine N_one (j := 12) (by decide +kernel) ?_
        | refine T_alloc tabOk rfl rfl rfl rfl rfl rfl rfl ?_
        | refine T_store tabOk rfl rfl rfl rfl rfl rfl rfl rfl rfl rfl rfl rfl rfl ?_
        | refine T_box rfl rfl rfl rfl rfl rfl rfl rfl ?_
        | (apply T_yield rfl rfl rfl rfl; (first | exact Y_move rfl rfl | exact Y_assign rfl rfl | exact R_index tabOk rfl rfl rfl rfl rfl rfl (by omega) | exact R_fieldi tabOk rfl rfl rfl | exact R_loadi tabOk rfl rfl rfl rfl rfl rfl rfl | exact R_len tabOk rfl rfl rfl | exact R_load tabOk rfl rfl rfl rfl rfl rfl rfl rfl rfl | exact R_field tabOk rfl rfl rfl rfl | exact Y_add rfl rfl rfl (by first | exact wrap_succ (by omega) | exact wrap_pred (by omega) (by omega) | exact wrap_i64 ⟨by omega, by omega⟩ | rfl) | exact Y_sub rfl rfl rfl (by first | exact wrap_succ (by omega) | exact wrap_pred (by omega) (by omega) | exact wrap_i64 ⟨by omega, by omega⟩ | rfl) | exact R_cmpT rfl rfl rfl rfl (by first | (simp only [decide_eq_true_eq, beq_iff_eq, bne_iff_ne, ne_eq]; done) | (simp only [decide_eq_true_eq, beq_iff_eq, bne_iff_ne, ne_eq]; omega)) | exact R_cmpF rfl rfl rfl rfl (by first | (simp only [decide_eq_false_iff_not, beq_eq_false_iff_ne, bne_eq_false_iff_eq, ne_eq]; done) | (simp only [decide_eq_false_iff_not, beq_eq_false_iff_ne, bne_eq_false_iff_eq, ne_eq]; omega)) | exact Y_ibin rfl rfl rfl rfl | exact Y_extract rfl rfl rfl | exact R_lenr tabOk rfl rfl rfl rfl | exact R_lenn tabOk rfl rfl rfl | exact R_indexr tabOk rfl rfl rfl rfl rfl rfl rfl (by omega) | exact R_fielde tabOk rfl rfl rfl rfl | exact R_loade tabOk rfl rfl rfl rfl rfl rfl rfl rfl rfl | exact Y_not rfl rfl | exact Y_pick_t rfl rfl (by first | rfl | assumption) rfl | exact Y_pick_f rfl rfl (by first | rfl | assumption) rfl | exact Y_pick_b rfl rfl rfl rfl | exact R_build tabOk rfl rfl rfl rfl rfl rfl | fail))
        | refine N_done (by decide +kernel) ?_
        | (first | refine T_slice tabOk rfl rfl rfl rfl rfl rfl rfl rfl rfl rfl rfl rfl ?_ | refine T_appR tabOk rfl rfl rfl rfl rfl rfl rfl rfl rfl rfl rfl rfl (Src.row rfl) rfl (by omega) rfl ?_))
      repeat (first
        | refine A_seq ?_
        | refine A_block ?_
        | refine R_list ?_
        | refine R_quiet rfl mixed (by kernel_rfl) ?_
        | ((first | apply O_y rfl rfl rfl | apply Q_y rfl rfl rfl); (first | exact Y_move rfl rfl | exact Y_assign rfl rfl | exact R_index tabOk rfl rfl rfl rfl rfl rfl (by omega) | exact R_fieldi tabOk rfl rfl rfl | exact R_loadi tabOk rfl rfl rfl rfl rfl rfl rfl | exact R_len tabOk rfl rfl rfl | exact R_load tabOk rfl rfl rfl rfl rfl rfl rfl rfl rfl | exact R_field tabOk rfl rfl rfl rfl | exact Y_add rfl rfl rfl (by first | exact wrap_succ (by omega) | exact wrap_pred (by omega) (by omega) | exact wrap_i64 ⟨by omega, by omega⟩ | rfl) | exact Y_sub rfl rfl rfl (by first | exact wrap_succ (by omega) | exact wrap_pred (by omega) (by omega) | exact wrap_i64 ⟨by omega, by omega⟩ | rfl) | exact R_cmpT rfl rfl rfl rfl (by first | (simp only [decide_eq_true_eq, beq_iff_eq, bne_iff_ne, ne_eq]; done) | (simp only [decide_eq_true_eq, beq_iff_eq, bne_iff_ne, ne_eq]; omega)) | exact R_cmpF rfl rfl rfl rfl (by first | (simp only [decide_eq_false_iff_not, beq_eq_false_iff_ne, bne_eq_false_iff_eq, ne_eq]; done) | (simp only [decide_eq_false_iff_not, beq_eq_false_iff_ne, bne_eq_false_iff_eq, ne_eq]; omega)) | exact Y_ibin rfl rfl rfl rfl | exact Y_extract rfl rfl rfl | exact R_lenr tabOk rfl rfl rfl rfl | exact R_lenn tabOk rfl rfl rfl | exact R_indexr tabOk rfl rfl rfl rfl rfl rfl rfl (by omega) | exact R_fielde tabOk rfl rfl rfl rfl | exact R_loade tabOk rfl rfl rfl rfl rfl rfl rfl rfl rfl | exact Y_not rfl rfl | exact Y_pick_t rfl rfl (by first | rfl | assumption) rfl | exact Y_pick_f rfl rfl (by first | rfl | assumption) rfl | exact Y_pick_b rfl rfl rfl rfl | exact R_build tabOk rfl rfl rfl rfl rfl rfl | fail))
        | refine O_nil ?_
        | refine Q_nil ?_
        | refine X_then_normal ?_
        | refine X_in_normal ?_
        | refine O_box rfl rfl rfl rfl rfl rfl rfl ?_
        | refine O_alloc tabOk rfl rfl rfl rfl rfl rfl ?_
        | refine O_store tabOk rfl rfl rfl rfl rfl rfl rfl rfl rfl rfl rfl ?_
        | refine O_slice tabOk rfl rfl rfl rfl rfl rfl rfl rfl rfl rfl rfl ?_
        | refine A_condt rfl (by first | rfl | assumption | (first | (simp only [decide_eq_true_eq]; done) | (simp only [decide_eq_true_eq]; omega))) ?_
        | refine A_condf rfl (by first | rfl | assumption | (first | (simp only [decide_eq_false_iff_not]; done) | (simp only [decide_eq_false_iff_not]; omega))) ?_
        | refine A_skip ?_
        | refine A_exit ?_
        | refine A_ret ?_
        | refine X_then_exit ?_
        | refine X_then_ret ?_
        | refine X_in_same ?_
        | refine X_in_other rfl ?_
        | refine X_in_ret ?_
        | refine O_s rfl rfl rfl ?_
        | refine Q_s rfl rfl rfl ?_
        | refine O_sn rfl rfl ?_
        | fail)
      exact ⟨k + 1, by omega, by omega, Wk_sel ⟨rfl, rfl, rfl, rfl, rfl, trivial⟩ ⟨rfl, row_eq (by omega) (by rw [hrow, List.flatMap_append]; rfl) rfl, rfl, kill2 _ _ m, trivial⟩⟩
    ·
      repeat (first
        | ((first
          | apply N_takeN (i := 0) rfl rfl (by kernel_rfl) (by decide +kernel) (by decide +kernel) (by repeat (first | exact np_post | apply np_then | apply np_in)) rfl rfl rfl
          | apply N_takeN (i := 1) rfl rfl (by kernel_rfl) (by decide +kernel) (by decide +kernel) (by repeat (first | exact np_post | apply np_then | apply np_in)) rfl rfl rfl
          | apply N_takeN (i := 2) rfl rfl (by kernel_rfl) (by decide +kernel) (by decide +kernel) (by repeat (first | exact np_post | apply np_then | apply np_in)) rfl rfl rfl
          | apply N_takeN (i := 3) rfl rfl (by kernel_rfl) (by decide +kernel) (by decide +kernel) (by repeat (first | exact np_post | apply np_then | apply np_in)) rfl rfl rfl
          | apply N_takeN (i := 4) rfl rfl (by kernel_rfl) (by decide +kernel) (by decide +kernel) (by repeat (first | exact np_post | apply np_then | apply np_in)) rfl rfl rfl
          | apply N_takeN (i := 5) rfl rfl (by kernel_rfl) (by decide +kernel) (by decide +kernel) (by repeat (first | exact np_post | apply np_then | apply np_in)) rfl rfl rfl
          | apply N_takeN (i := 6) rfl rfl (by kernel_rfl) (by decide +kernel) (by decide +kernel) (by repeat (first | exact np_post | apply np_then | apply np_in)) rfl rfl rfl
          | apply N_takeN (i := 7) rfl rfl (by kernel_rfl) (by decide +kernel) (by decide +kernel) (by repeat (first | exact np_post | apply np_then | apply np_in)) rfl rfl rfl
          | apply N_takeN (i := 8) rfl rfl (by kernel_rfl) (by decide +kernel) (by decide +kernel) (by repeat (first | exact np_post | apply np_then | apply np_in)) rfl rfl rfl
          | apply N_takeN (i := 9) rfl rfl (by kernel_rfl) (by decide +kernel) (by decide +kernel) (by repeat (first | exact np_post | apply np_then | apply np_in)) rfl rfl rfl
          | apply N_takeN (i := 10) rfl rfl (by kernel_rfl) (by decide +kernel) (by decide +kernel) (by repeat (first | exact np_post | apply np_then | apply np_in)) rfl rfl rfl
          | apply N_takeN (i := 11) rfl rfl (by kernel_rfl) (by decide +kernel) (by decide +kernel) (by repeat (first | exact np_post | apply np_then | apply np_in)) rfl rfl rfl
          | apply N_takeN (i := 12) rfl rfl (by kernel_rfl) (by decide +kernel) (by decide +kernel) (by repeat (first | exact np_post | apply np_then | apply np_in)) rfl rfl rfl
          ); (first | exact Y_move rfl rfl | exact Y_assign rfl rfl | exact R_index tabOk rfl rfl rfl rfl rfl rfl (by omega) | exact R_fieldi tabOk rfl rfl rfl | exact R_loadi tabOk rfl rfl rfl rfl rfl rfl rfl | exact R_len tabOk rfl rfl rfl | exact R_load tabOk rfl rfl rfl rfl rfl rfl rfl rfl rfl | exact R_field tabOk rfl rfl rfl rfl | exact Y_add rfl rfl rfl (by first | exact wrap_succ (by omega) | exact wrap_pred (by omega) (by omega) | exact wrap_i64 ⟨by omega, by omega⟩ | rfl) | exact Y_sub rfl rfl rfl (by first | exact wrap_succ (by omega) | exact wrap_pred (by omega) (by omega) | exact wrap_i64 ⟨by omega, by omega⟩ | rfl) | exact R_cmpT rfl rfl rfl rfl (by first | (simp only [decide_eq_true_eq, beq_iff_eq, bne_iff_ne, ne_eq]; done) | (simp only [decide_eq_true_eq, beq_iff_eq, bne_iff_ne, ne_eq]; omega)) | exact R_cmpF rfl rfl rfl rfl (by first | (simp only [decide_eq_false_iff_not, beq_eq_false_iff_ne, bne_eq_false_iff_eq, ne_eq]; done) | (simp only [decide_eq_false_iff_not, beq_eq_false_iff_ne, bne_eq_false_iff_eq, ne_eq]; omega)) | exact Y_ibin rfl rfl rfl rfl | exact Y_extract rfl rfl rfl | exact R_lenr tabOk rfl rfl rfl rfl | exact R_lenn tabOk rfl rfl rfl | exact R_indexr tabOk rfl rfl rfl rfl rfl rfl rfl (by omega) | exact R_fielde tabOk rfl rfl rfl rfl | exact R_loade tabOk rfl rfl rfl rfl rfl rfl rfl rfl rfl | exact Y_not rfl rfl | exact Y_pick_t rfl rfl (by first | rfl | assumption) rfl | exact Y_pick_f rfl rfl (by first | rfl | assumption) rfl | exact Y_pick_b rfl rfl rfl rfl | exact R_build tabOk rfl rfl rfl rfl rfl rfl | fail))
        | (apply N_takeL (i := 0) rfl rfl (by kernel_rfl) (by decide +kernel) (by decide +kernel) (by repeat (first | exact np_post | apply np_then | apply np_in)) rfl rfl rfl; (first | exact R_loadi tabOk rfl rfl rfl rfl rfl rfl rfl | exact R_len tabOk rfl rfl rfl | exact R_load tabOk rfl rfl rfl rfl rfl rfl rfl rfl rfl | exact R_lenr tabOk rfl rfl rfl rfl | exact R_lenn tabOk rfl rfl rfl | exact R_loade tabOk rfl rfl rfl rfl rfl rfl rfl rfl rfl | fail))
        | (apply N_takeL (i := 1) rfl rfl (by kernel_rfl) (by decide +kernel) (by decide +kernel) (by repeat (first | exact np_post | apply np_then | apply np_in)) rfl rfl rfl; (first | exact R_loadi tabOk rfl rfl rfl rfl rfl rfl rfl | exact R_len tabOk rfl rfl rfl | exact R_load tabOk rfl rfl rfl rfl rfl rfl rfl rfl rfl | exact R_lenr tabOk rfl rfl rfl rfl | exact R_lenn tabOk rfl rfl rfl | exact R_loade tabOk rfl rfl rfl rfl rfl rfl rfl rfl rfl | fail))
        | (apply N_takeL (i := 2) rfl rfl (by kernel_rfl) (by decide +kernel) (by decide +kernel) (by repeat (first | exact np_post | apply np_then | apply np_in)) rfl rfl rfl; (first | exact R_loadi tabOk rfl rfl rfl rfl rfl rfl rfl | exact R_len tabOk rfl rfl rfl | exact R_load tabOk rfl rfl rfl rfl rfl rfl rfl rfl rfl | exact R_lenr tabOk rfl rfl rfl rfl | exact R_lenn tabOk rfl rfl rfl | exact R_loade tabOk rfl rfl rfl rfl rfl rfl rfl rfl rfl | fail))
        | (apply N_takeL (i := 3) rfl rfl (by kernel_rfl) (by decide +kernel) (by decide +kernel) (by repeat (first | exact np_post | apply np_then | apply np_in)) rfl rfl rfl; (first | exact R_loadi tabOk rfl rfl rfl rfl rfl rfl rfl | exact R_len tabOk rfl rfl rfl | exact R_load tabOk rfl rfl rfl rfl rfl rfl rfl rfl rfl | exact R_lenr tabOk rfl rfl rfl rfl | exact R_lenn tabOk rfl rfl rfl | exact R_loade tabOk rfl rfl rfl rfl rfl rfl rfl rfl rfl | fail))
        | (apply N_takeL (i := 4) rfl rfl (by kernel_rfl) (by decide +kernel) (by decide +kernel) (by repeat (first | exact np_post | apply np_then | apply np_in)) rfl rfl rfl; (first | exact R_loadi tabOk rfl rfl rfl rfl rfl rfl rfl | exact R_len tabOk rfl rfl rfl | exact R_load tabOk rfl rfl rfl rfl rfl rfl rfl rfl rfl | exact R_lenr tabOk rfl rfl rfl rfl | exact R_lenn tabOk rfl rfl rfl | exact R_loade tabOk rfl rfl rfl rfl rfl rfl rfl rfl rfl | fail))
        | (apply N_takeL (i := 5) rfl rfl (by kernel_rfl) (by decide +kernel) (by decide +kernel) (by repeat (first | exact np_post | apply np_then | apply np_in)) rfl rfl rfl; (first | exact R_loadi tabOk rfl rfl rfl rfl rfl rfl rfl | exact R_len tabOk rfl rfl rfl | exact R_load tabOk rfl rfl rfl rfl rfl rfl rfl rfl rfl | exact R_lenr tabOk rfl rfl rfl rfl | exact R_lenn tabOk rfl rfl rfl | exact R_loade tabOk rfl rfl rfl rfl rfl rfl rfl rfl rfl | fail))
        | (apply N_takeL (i := 6) rfl rfl (by kernel_rfl) (by decide +kernel) (by decide +kernel) (by repeat (first | exact np_post | apply np_then | apply np_in)) rfl rfl rfl; (first | exact R_loadi tabOk rfl rfl rfl rfl rfl rfl rfl | exact R_len tabOk rfl rfl rfl | exact R_load tabOk rfl rfl rfl rfl rfl rfl rfl rfl rfl | exact R_lenr tabOk rfl rfl rfl rfl | exact R_lenn tabOk rfl rfl rfl | exact R_loade tabOk rfl rfl rfl rfl rfl rfl rfl rfl rfl | fail))
        | (apply N_takeL (i := 7) rfl rfl (by kernel_rfl) (by decide +kernel) (by decide +kernel) (by repeat (first | exact np_post | apply np_then | apply np_in)) rfl rfl rfl; (first | exact R_loadi tabOk rfl rfl rfl rfl rfl rfl rfl | exact R_len tabOk rfl rfl rfl | exact R_load tabOk rfl rfl rfl rfl rfl rfl rfl rfl rfl | exact R_lenr tabOk rfl rfl rfl rfl | exact R_lenn tabOk rfl rfl rfl | exact R_loade tabOk rfl rfl rfl rfl rfl rfl rfl rfl rfl | fail))
        | (apply N_takeL (i := 8) rfl rfl (by kernel_rfl) (by decide +kernel) (by decide +kernel) (by repeat (first | exact np_post | apply np_then | apply np_in)) rfl rfl rfl; (first | exact R_loadi tabOk rfl rfl rfl rfl rfl rfl rfl | exact R_len tabOk rfl rfl rfl | exact R_load tabOk rfl rfl rfl rfl rfl rfl rfl rfl rfl | exact R_lenr tabOk rfl rfl rfl rfl | exact R_lenn tabOk rfl rfl rfl | exact R_loade tabOk rfl rfl rfl rfl rfl rfl rfl rfl rfl | fail))
        | (apply N_takeL (i := 9) rfl rfl (by kernel_rfl) (by decide +kernel) (by decide +kernel) (by repeat (first | exact np_post | apply np_then | apply np_in)) rfl rfl rfl; (first | exact R_loadi tabOk rfl rfl rfl rfl rfl rfl rfl | exact R_len tabOk rfl rfl rfl | exact R_load tabOk rfl rfl rfl rfl rfl rfl rfl rfl rfl | exact R_lenr tabOk rfl rfl rfl rfl | exact R_lenn tabOk rfl rfl rfl | exact R_loade tabOk rfl rfl rfl rfl rfl rfl rfl rfl rfl | fail))
        | (apply N_takeL (i := 10) rfl rfl (by kernel_rfl) (by decide +kernel) (by decide +kernel) (by repeat (first | exact np_post | apply np_then | apply np_in)) rfl rfl rfl; (first | exact R_loadi tabOk rfl rfl rfl rfl rfl rfl rfl | exact R_len tabOk rfl rfl rfl | exact R_load tabOk rfl rfl rfl rfl rfl rfl rfl rfl rfl | exact R_lenr tabOk rfl rfl rfl rfl | exact R_lenn tabOk rfl rfl rfl | exact R_loade tabOk rfl rfl rfl rfl rfl rfl rfl rfl rfl | fail))
        | (apply N_takeL (i := 11) rfl rfl (by kernel_rfl) (by decide +kernel) (by decide +kernel) (by repeat (first | exact np_post | apply np_then | apply np_in)) rfl rfl rfl; (first | exact R_loadi tabOk rfl rfl rfl rfl rfl rfl rfl | exact R_len tabOk rfl rfl rfl | exact R_load tabOk rfl rfl rfl rfl rfl rfl rfl rfl rfl | exact R_lenr tabOk rfl rfl rfl rfl | exact R_lenn tabOk rfl rfl rfl | exact R_loade tabOk rfl rfl rfl rfl rfl rfl rfl rfl rfl | fail))
        | (apply N_takeL (i := 12) rfl rfl (by kernel_rfl) (by decide +kernel) (by decide +kernel) (by repeat (first | exact np_post | apply np_then | apply np_in)) rfl rfl rfl; (first | exact R_loadi tabOk rfl rfl rfl rfl rfl rfl rfl | exact R_len tabOk rfl rfl rfl | exact R_load tabOk rfl rfl rfl rfl rfl rfl rfl rfl rfl | exact R_lenr tabOk rfl rfl rfl rfl | exact R_lenn tabOk rfl rfl rfl | exact R_loade tabOk rfl rfl rfl rfl rfl rfl rfl rfl rfl | fail))
        | refine N_one (j := 0) (by decide +kernel) ?_
        | refine N_one (j := 1) (by decide +kernel) ?_
        | refine N_one (j := 2) (by decide +kernel) ?_
        | refine N_one (j := 3) (by decide +kernel) ?_
        | refine N_one (j := 4) (by decide +kernel) ?_
        | refine N_one (j := 5) (by decide +kernel) ?_
        | refine N_one (j := 6) (by decide +kernel) ?_
        | refine N_one (j := 7) (by decide +kernel) ?_
        | refine N_one (j := 8) (by decide +kernel) ?_
        | refine N_one (j := 9) (by decide +kernel) ?_
        | refine N_one (j := 10) (by decide +kernel) ?_
        | refine N_one (j := 11) (by decide +kernel) ?_
        | refine N_one (j := 12) (by decide +kernel) ?_
        | refine T_alloc tabOk rfl rfl rfl rfl rfl rfl rfl ?_
        | refine T_store tabOk rfl rfl rfl rfl rfl rfl rfl rfl rfl rfl rfl rfl rfl ?_
        | refine T_box rfl rfl rfl rfl rfl rfl rfl rfl ?_
        | (apply T_yield rfl rfl rfl rfl; (first | exact Y_move rfl rfl | exact Y_assign rfl rfl | exact R_index tabOk rfl rfl rfl rfl rfl rfl (by omega) | exact R_fieldi tabOk rfl rfl rfl | exact R_loadi tabOk rfl rfl rfl rfl rfl rfl rfl | exact R_len tabOk rfl rfl rfl | exact R_load tabOk rfl rfl rfl rfl rfl rfl rfl rfl rfl | exact R_field tabOk rfl rfl rfl rfl | exact Y_add rfl rfl rfl (by first | exact wrap_succ (by omega) | exact wrap_pred (by omega) (by omega) | exact wrap_i64 ⟨by omega, by omega⟩ | rfl) | exact Y_sub rfl rfl rfl (by first | exact wrap_succ (by omega) | exact wrap_pred (by omega) (by omega) | exact wrap_i64 ⟨by omega, by omega⟩ | rfl) | exact R_cmpT rfl rfl rfl rfl (by first | (simp only [decide_eq_true_eq, beq_iff_eq, bne_iff_ne, ne_eq]; done) | (simp only [decide_eq_true_eq, beq_iff_eq, bne_iff_ne, ne_eq]; omega)) | exact R_cmpF rfl rfl rfl rfl (by first | (simp only [decide_eq_false_iff_not, beq_eq_false_iff_ne, bne_eq_false_iff_eq, ne_eq]; done) | (simp only [decide_eq_false_iff_not, beq_eq_false_iff_ne, bne_eq_false_iff_eq, ne_eq]; omega)) | exact Y_ibin rfl rfl rfl rfl | exact Y_extract rfl rfl rfl | exact R_lenr tabOk rfl rfl rfl rfl | exact R_lenn tabOk rfl rfl rfl | exact R_indexr tabOk rfl rfl rfl rfl rfl rfl rfl (by omega) | exact R_fielde tabOk rfl rfl rfl rfl | exact R_loade tabOk rfl rfl rfl rfl rfl rfl rfl rfl rfl | exact Y_not rfl rfl | exact Y_pick_t rfl rfl (by first | rfl | assumption) rfl | exact Y_pick_f rfl rfl (by first | rfl | assumption) rfl | exact Y_pick_b rfl rfl rfl rfl | exact R_build tabOk rfl rfl rfl rfl rfl rfl | fail))
        | refine N_done (by decide +kernel) ?_
        | (first | refine T_slice tabOk rfl rfl rfl rfl rfl rfl rfl rfl rfl rfl rfl rfl ?_ | refine T_appR tabOk rfl rfl rfl rfl rfl rfl rfl rfl rfl rfl rfl rfl (Src.row rfl) rfl (by omega) rfl ?_))
      repeat (first
        | refine A_seq ?_
        | refine A_block ?_
        | refine R_list ?_
        | refine R_quiet rfl mixed (by kernel_rfl) ?_
        | ((first | apply O_y rfl rfl rfl | apply Q_y rfl rfl rfl); (first | exact Y_move rfl rfl | exact Y_assign rfl rfl | exact R_index tabOk rfl rfl rfl rfl rfl rfl (by omega) | exact R_fieldi tabOk rfl rfl rfl | exact R_loadi tabOk rfl rfl rfl rfl rfl rfl rfl | exact R_len tabOk rfl rfl rfl | exact R_load tabOk rfl rfl rfl rfl rfl rfl rfl rfl rfl | exact R_field tabOk rfl rfl rfl rfl | exact Y_add rfl rfl rfl (by first | exact wrap_succ (by omega) | exact wrap_pred (by omega) (by omega) | exact wrap_i64 ⟨by omega, by omega⟩ | rfl) | exact Y_sub rfl rfl rfl (by first | exact wrap_succ (by omega) | exact wrap_pred (by omega) (by omega) | exact wrap_i64 ⟨by omega, by omega⟩ | rfl) | exact R_cmpT rfl rfl rfl rfl (by first | (simp only [decide_eq_true_eq, beq_iff_eq, bne_iff_ne, ne_eq]; done) | (simp only [decide_eq_true_eq, beq_iff_eq, bne_iff_ne, ne_eq]; omega)) | exact R_cmpF rfl rfl rfl rfl (by first | (simp only [decide_eq_false_iff_not, beq_eq_false_iff_ne, bne_eq_false_iff_eq, ne_eq]; done) | (simp only [decide_eq_false_iff_not, beq_eq_false_iff_ne, bne_eq_false_iff_eq, ne_eq]; omega)) | exact Y_ibin rfl rfl rfl rfl | exact Y_extract rfl rfl rfl | exact R_lenr tabOk rfl rfl rfl rfl | exact R_lenn tabOk rfl rfl rfl | exact R_indexr tabOk rfl rfl rfl rfl rfl rfl rfl (by omega) | exact R_fielde tabOk rfl rfl rfl rfl | exact R_loade tabOk rfl rfl rfl rfl rfl rfl rfl rfl rfl | exact Y_not rfl rfl | exact Y_pick_t rfl rfl (by first | rfl | assumption) rfl | exact Y_pick_f rfl rfl (by first | rfl | assumption) rfl | exact Y_pick_b rfl rfl rfl rfl | exact R_build tabOk rfl rfl rfl rfl rfl rfl | fail))
        | refine O_nil ?_
        | refine Q_nil ?_
        | refine X_then_normal ?_
        | refine X_in_normal ?_
        | refine O_box rfl rfl rfl rfl rfl rfl rfl ?_
        | refine O_alloc tabOk rfl rfl rfl rfl rfl rfl ?_
        | refine O_store tabOk rfl rfl rfl rfl rfl rfl rfl rfl rfl rfl rfl ?_
        | refine O_slice tabOk rfl rfl rfl rfl rfl rfl rfl rfl rfl rfl rfl ?_
        | refine A_condt rfl (by first | rfl | assumption | (first | (simp only [decide_eq_true_eq]; done) | (simp only [decide_eq_true_eq]; omega))) ?_
        | refine A_condf rfl (by first | rfl | assumption | (first | (simp only [decide_eq_false_iff_not]; done) | (simp only [decide_eq_false_iff_not]; omega))) ?_
        | refine A_skip ?_
        | refine A_exit ?_
        | refine A_ret ?_
        | refine X_then_exit ?_
        | refine X_then_ret ?_
        | refine X_in_same ?_
        | refine X_in_other rfl ?_
        | refine X_in_ret ?_
        | refine O_s rfl rfl rfl ?_
        | refine Q_s rfl rfl rfl ?_
        | refine O_sn rfl rfl ?_
        | fail)
      exact ⟨k + 1, by omega, by omega, Wk_sel ⟨rfl, rfl, rfl, rfl, rfl, trivial⟩ ⟨rfl, row_eq (by omega) (by rw [hrow, List.flatMap_append]; rfl) rfl, rfl, kill2 _ _ m, trivial⟩⟩
  · have hkk : k = l.length := by omega
    subst hkk
    rw [List.take_length]
    repeat (first
      | refine A_seq ?_
      | refine A_block ?_
      | refine R_list ?_
      | refine R_quiet rfl mixed (by kernel_rfl) ?_
      | ((first | apply O_y rfl rfl rfl | apply Q_y rfl rfl rfl); (first | exact Y_move rfl rfl | exact Y_assign rfl rfl | exact R_index tabOk rfl rfl rfl rfl rfl rfl (by omega) | exact R_fieldi tabOk rfl rfl rfl | exact R_loadi tabOk rfl rfl rfl rfl rfl rfl rfl | exact R_len tabOk rfl rfl rfl | exact R_load tabOk rfl rfl rfl rfl rfl rfl rfl rfl rfl | exact R_field tabOk rfl rfl rfl rfl | exact Y_add rfl rfl rfl (by first | exact wrap_succ (by omega) | exact wrap_pred (by omega) (by omega) | exact wrap_i64 ⟨by omega, by omega⟩ | rfl) | exact Y_sub rfl rfl rfl (by first | exact wrap_succ (by omega) | exact wrap_pred (by omega) (by omega) | exact wrap_i64 ⟨by omega, by omega⟩ | rfl) | exact R_cmpT rfl rfl rfl rfl (by first | (simp only [decide_eq_true_eq, beq_iff_eq, bne_iff_ne, ne_eq]; done) | (simp only [decide_eq_true_eq, beq_iff_eq, bne_iff_ne, ne_eq]; omega)) | exact R_cmpF rfl rfl rfl rfl (by first | (simp only [decide_eq_false_iff_not, beq_eq_false_iff_ne, bne_eq_false_iff_eq, ne_eq]; done) | (simp only [decide_eq_false_iff_not, beq_eq_false_iff_ne, bne_eq_false_iff_eq, ne_eq]; omega)) | exact Y_ibin rfl rfl rfl rfl | exact Y_extract rfl rfl rfl | exact R_lenr tabOk rfl rfl rfl rfl | exact R_lenn tabOk rfl rfl rfl | exact R_indexr tabOk rfl rfl rfl rfl rfl rfl rfl (by omega) | exact R_fielde tabOk rfl rfl rfl rfl | exact R_loade tabOk rfl rfl rfl rfl rfl rfl rfl rfl rfl | exact Y_not rfl rfl | exact Y_pick_t rfl rfl (by first | rfl | assumption) rfl | exact Y_pick_f rfl rfl (by first | rfl | assumption) rfl | exact Y_pick_b rfl rfl rfl rfl | exact R_build tabOk rfl rfl rfl rfl rfl rfl | (exact Y_makeFunc rfl rfl)))
      | refine O_nil ?_
      | refine Q_nil ?_
      | refine X_then_normal ?_
      | refine X_in_normal ?_
      | refine O_box rfl rfl rfl rfl rfl rfl rfl ?_
      | refine O_alloc tabOk rfl rfl rfl rfl rfl rfl ?_
      | refine O_store tabOk rfl rfl rfl rfl rfl rfl rfl rfl rfl rfl rfl ?_
      | refine O_slice tabOk rfl rfl rfl rfl rfl rfl rfl rfl rfl rfl rfl ?_
      | refine A_condt rfl (by first | rfl | assumption | (first | (simp only [decide_eq_true_eq]; done) | (simp only [decide_eq_true_eq]; omega))) ?_
      | refine A_condf rfl (by first | rfl | assumption | (first | (simp only [decide_eq_false_iff_not]; done) | (simp only [decide_eq_false_iff_not]; omega))) ?_
      | refine A_skip ?_
      | refine A_exit ?_
      | refine A_ret ?_
      | refine X_then_exit ?_
      | refine X_then_ret ?_
      | refine X_in_same ?_
      | refine X_in_other rfl ?_
      | refine X_in_ret ?_
      | refine O_s rfl rfl rfl ?_
      | refine Q_s rfl rfl rfl ?_
      | refine O_sn rfl rfl ?_
      | fail)
    refine X_retW (((Wk_freeze (id := 24) rfl).trans (Wk_freezeV (id := 5) (ds := [rowsD (rowsOf m l)]) (var_eq (by simp [rowsD, rowsOf_len]; rfl) rfl) rfl)).trans (Wk_sel (e1 := [(4, goneA (rowsOf m l))]) (h1 := [(1000, tblB 1001 u), (1001, mapB m)]) ⟨rfl, trivial⟩ ⟨rfl, ?_, trivial⟩)) rfl (h2 := [(1000, tblB 1001 u), (1001, mapB m)]) ⟨rfl, rfl, trivial⟩ ⟨rfl, rfl⟩
    show some (fzB _ _ (frB _ _ (mapB m))) = _
    rw [Option.some.inj (freeze_map _ _ m)]
    exact fz_map _ _ m
end Go.Proofs.Ytaecjmjdhbjbkaa.Ab

/-
  Texts of a proof, one behind the other (part 4).
-/
import Derived.Lib.Bytealg
import Derived.Test.YtaecjmjdhbjbkaaTp2
set_option linter.unusedVariables false
set_option linter.unusedSimpArgs false
namespace Go.Proofs.Ytaecjmjdhbjbkaa.Ab
set_option linter.unusedVariables false
set_option maxRecDepth 100000
open Go.RowKit
set_option linter.unusedSimpArgs false
attribute [local irreducible] AWp AOps AQ AYield AEff ACall AWk AAny AAt AThen AIn APost NoPanic

def dropE (m : List (Pfx × Int)) (p : Pfx) : Int := if chk p = 0 then (if (aget m p).isSome then 0 else 5) else chk p
def dropS (s : (Nat → Int) × List (Pfx × Int)) (p : Pfx) : (Nat → Int) × List (Pfx × Int) := if chk p = 0 then (if (aget s.2 p).isSome then (bump s.1 p.b.toNat (-1), Go.Proofs.Ytaecjmjdhbjbkaa.adel s.2 p) else s) else s
set_option maxHeartbeats 2000000 in
theorem drop_A (u : Nat → Int) (m : List (Pfx × Int)) (p : Pfx) (hp : p.ok) (hn : (m.map (·.1)).Nodup) (hu : ∀ j, 0 ≤ u j ∧ u j ≤ 1000000000) :
    ACall Try.prog 26 [.ptr 1000 0, pfxA p] [(1000, tblB 1001 u), (1001, mapB m)] (fun c h => c = intA (dropE m p) ∧ h = [(1000, tblB 1001 (dropS (u, m) p).1), (1001, mapB (dropS (u, m) p).2)]) := by
  refine ACall_of tabOk Try.func26 rfl Try.ntmps26 (congrArg Array.toList Try.results26) (by kernel_rfl) rfl ?_
  have hck := check_A p hp
  unfold dropE dropS
  by_cases hc : chk p = 0
  · rw [hc] at hck
    rw [if_pos hc, if_pos hc]
    have hg := (chk_eq p).1 hc
    obtain ⟨a, b⟩ := p
    obtain ⟨B, rfl⟩ : ∃ B : Nat, b = (B : Int) := ⟨b.toNat, by have := hg.1; simp at this; omega⟩
    have hB : B < 33 := by have := hg.2.1; simp at this; omega
    have huB := hu B
    refine A_seq ?_
    refine R_list ?_
    refine O_box rfl rfl rfl rfl rfl rfl rfl ?_
    refine O_weaken (Wk_sel (e1 := [(0, .ptr 1000 0), (3, .ptr 3 0)]) (h1 := [(3, .var [.d (.sc (.int .u32 a)), .d (.sc (.int .i64 (B : Int)))]), (1000, tblB 1001 u), (1001, mapB m)]) ⟨rfl, rfl, trivial⟩ ⟨rfl, rfl, kill_map 3 m, trivial⟩) ?_
    cases hag : aget m ⟨a, (B : Int)⟩ with
    | none =>
      repeat (first | refine A_seq ?_ | refine A_block ?_ | refine R_list ?_ | refine R_quiet rfl mixed (by kernel_rfl) ?_ | ((first | apply O_y rfl rfl rfl | apply Q_y rfl rfl rfl); (first | exact Y_move rfl rfl | exact Y_assign rfl rfl | exact R_index tabOk rfl rfl rfl rfl rfl rfl (by omega) | exact R_fieldi tabOk rfl rfl rfl | exact R_loadi tabOk rfl rfl rfl rfl rfl rfl rfl | exact R_len tabOk rfl rfl rfl | exact R_load tabOk rfl rfl rfl rfl rfl rfl rfl rfl rfl | exact R_field tabOk rfl rfl rfl rfl | exact Y_addn rfl rfl rfl | exact Y_subn rfl rfl rfl | exact R_cmpT rfl rfl rfl rfl | exact R_cmpF rfl rfl rfl rfl | exact Y_ibin rfl rfl rfl rfl | exact Y_extract rfl rfl rfl | exact R_lenr tabOk rfl rfl rfl rfl | exact R_lenn tabOk rfl rfl rfl | exact R_indexr tabOk rfl rfl rfl rfl rfl rfl rfl (by omega) | exact R_fielde tabOk rfl rfl rfl rfl | exact R_loade tabOk rfl rfl rfl rfl rfl rfl rfl rfl rfl | exact Y_not rfl rfl | exact Y_pick_t rfl rfl (by first | rfl | assumption) rfl | exact Y_pick_f rfl rfl (by first | rfl | assumption) rfl | exact Y_pick_b rfl rfl rfl rfl | exact R_build tabOk rfl rfl rfl rfl rfl rfl | (first | exact R_pnil tabOk rfl rfl rfl rfl rfl | exact Y_nilCheck rfl rfl rfl | exact R_lkOut pfxKey pfxA_val zeroInt rfl trivial (fun _ _ => trivial) hn hag tabOk rfl rfl rfl rfl rfl rfl))) | refine O_nil ?_ | refine Q_nil ?_ | refine X_then_normal ?_ | refine X_in_normal ?_ | refine O_box rfl rfl rfl rfl rfl rfl rfl ?_ | refine O_alloc tabOk rfl rfl rfl rfl rfl rfl ?_ | refine O_store tabOk rfl rfl rfl rfl rfl rfl rfl rfl rfl rfl rfl ?_ | refine O_slice tabOk rfl rfl rfl rfl rfl rfl rfl rfl rfl rfl rfl ?_ | refine A_ct rfl ?_ | refine A_cf rfl ?_ | refine A_skip ?_ | refine A_exit ?_ | refine A_ret ?_ | refine X_then_exit ?_ | refine X_then_ret ?_ | refine X_in_same ?_ | refine X_in_other rfl ?_ | refine X_in_ret ?_ | refine O_s rfl rfl rfl ?_ | refine Q_s rfl rfl rfl ?_ | refine O_sn rfl rfl ?_ | refine O_c rfl rfl rfl rfl rfl hck (fun _ => rfl) ?_)
      exact X_retW AWk.refl rfl (h2 := [(1000, tblB 1001 u), (1001, mapB m)]) ⟨rfl, rfl, trivial⟩ ⟨rfl, rfl⟩
    | some x =>
      repeat (first | refine A_seq ?_ | refine A_block ?_ | refine R_list ?_ | refine R_quiet rfl mixed (by kernel_rfl) ?_ | ((first | apply O_y rfl rfl rfl | apply Q_y rfl rfl rfl); (first | exact Y_move rfl rfl | exact Y_assign rfl rfl | exact R_index tabOk rfl rfl rfl rfl rfl rfl (by omega) | exact R_fieldi tabOk rfl rfl rfl | exact R_loadi tabOk rfl rfl rfl rfl rfl rfl rfl | exact R_len tabOk rfl rfl rfl | exact R_load tabOk rfl rfl rfl rfl rfl rfl rfl rfl rfl | exact R_field tabOk rfl rfl rfl rfl | exact Y_addn rfl rfl rfl | exact Y_subn rfl rfl rfl | exact R_cmpT rfl rfl rfl rfl | exact R_cmpF rfl rfl rfl rfl | exact Y_ibin rfl rfl rfl rfl | exact Y_extract rfl rfl rfl | exact R_lenr tabOk rfl rfl rfl rfl | exact R_lenn tabOk rfl rfl rfl | exact R_indexr tabOk rfl rfl rfl rfl rfl rfl rfl (by omega) | exact R_fielde tabOk rfl rfl rfl rfl | exact R_loade tabOk rfl rfl rfl rfl rfl rfl rfl rfl rfl | exact Y_not rfl rfl | exact Y_pick_t rfl rfl (by first | rfl | assumption) rfl | exact Y_pick_f rfl rfl (by first | rfl | assumption) rfl | exact Y_pick_b rfl rfl rfl rfl | exact R_build tabOk rfl rfl rfl rfl rfl rfl | (first | exact R_pnil tabOk rfl rfl rfl rfl rfl | exact Y_nilCheck rfl rfl rfl | exact R_lkIn pfxKey pfxA_val zeroInt trivial (fun _ _ => trivial) hn hag tabOk rfl rfl rfl rfl rfl rfl))) | refine O_nil ?_ | refine Q_nil ?_ | refine X_then_normal ?_ | refine X_in_normal ?_ | refine O_box rfl rfl rfl rfl rfl rfl rfl ?_ | refine O_alloc tabOk rfl rfl rfl rfl rfl rfl ?_ | refine O_store tabOk rfl rfl rfl rfl rfl rfl rfl rfl rfl rfl rfl ?_ | refine O_slice tabOk rfl rfl rfl rfl rfl rfl rfl rfl rfl rfl rfl ?_ | refine A_ct rfl ?_ | refine A_cf rfl ?_ | refine A_skip ?_ | refine A_exit ?_ | refine A_ret ?_ | refine X_then_exit ?_ | refine X_then_ret ?_ | refine X_in_same ?_ | refine X_in_other rfl ?_ | refine X_in_ret ?_ | refine O_s rfl rfl rfl ?_ | refine Q_s rfl rfl rfl ?_ | refine O_sn rfl rfl ?_ | refine O_c rfl rfl rfl rfl rfl hck (fun _ => rfl) ?_)
      refine N_begin [1001] mixed ?_
      repeat (first | ((first | apply N_takeN (i := 0) rfl rfl (by kernel_rfl) (by decide +kernel) (by decide +kernel) (by repeat (first | exact np_post | apply np_then | apply np_in)) rfl rfl rfl | apply N_takeN (i := 1) rfl rfl (by kernel_rfl) (by decide +kernel) (by decide +kernel) (by repeat (first | exact np_post | apply np_then | apply np_in)) rfl rfl rfl | apply N_takeN (i := 2) rfl rfl (by kernel_rfl) (by decide +kernel) (by decide +kernel) (by repeat (first | exact np_post | apply np_then | apply np_in)) rfl rfl rfl | apply N_takeN (i := 3) rfl rfl (by kernel_rfl) (by decide +kernel) (by decide +kernel) (by repeat (first | exact np_post | apply np_then | apply np_in)) rfl rfl rfl | apply N_takeN (i := 4) rfl rfl (by kernel_rfl) (by decide +kernel) (by decide +kernel) (by repeat (first | exact np_post | apply np_then | apply np_in)) rfl rfl rfl | apply N_takeN (i := 5) rfl rfl (by kernel_rfl) (by decide +kernel) (by decide +kernel) (by repeat (first | exact np_post | apply np_then | apply np_in)) rfl rfl rfl | apply N_takeN (i := 6) rfl rfl (by kernel_rfl) (by decide +kernel) (by decide +kernel) (by repeat (first | exact np_post | apply np_then | apply np_in)) rfl rfl rfl | apply N_takeN (i := 7) rfl rfl (by kernel_rfl) (by decide +kernel) (by decide +kernel) (by repeat (first | exact np_post | apply np_then | apply np_in)) rfl rfl rfl | apply N_takeN (i := 8) rfl rfl (by kernel_rfl) (by decide +kernel) (by decide +kernel) (by repeat (first | exact np_post | apply np_then | apply np_in)) rfl rfl rfl | apply N_takeN (i := 9) rfl rfl (by kernel_rfl) (by decide +kernel) (by decide +kernel) (by repeat (first | exact np_post | apply np_then | apply np_in)) rfl rfl rfl | apply N_takeN (i := 10) rfl rfl (by kernel_rfl) (by decide +kernel) (by decide +kernel) (by repeat (first | exact np_post | apply np_then | apply np_in)) rfl rfl rfl | apply N_takeN (i := 11) rfl rfl (by kernel_rfl) (by decide +kernel) (by decide +kernel) (by repeat (first | exact np_post | apply np_then | apply np_in)) rfl rfl rfl | apply N_takeN (i := 12) rfl rfl (by kernel_rfl) (by decide +kernel) (by decide +kernel) (by repeat (first | exact np_post | apply np_then | apply np_in)) rfl rfl rfl ); (first | exact Y_move rfl rfl | exact Y_assign rfl rfl | exact R_index tabOk rfl rfl rfl rfl rfl rfl (by omega) | exact R_fieldi tabOk rfl rfl rfl | exact R_loadi tabOk rfl rfl rfl rfl rfl rfl rfl | exact R_len tabOk rfl rfl rfl | exact R_load tabOk rfl rfl rfl rfl rfl rfl rfl rfl rfl | exact R_field tabOk rfl rfl rfl rfl | exact Y_addn rfl rfl rfl | exact Y_subn rfl rfl rfl | exact R_cmpT rfl rfl rfl rfl | exact R_cmpF rfl rfl rfl rfl | exact Y_ibin rfl rfl rfl rfl | exact Y_extract rfl rfl rfl | exact R_lenr tabOk rfl rfl rfl rfl | exact R_lenn tabOk rfl rfl rfl | exact R_indexr tabOk rfl rfl rfl rfl rfl rfl rfl (by omega) | exact R_fielde tabOk rfl rfl rfl rfl | exact R_loade tabOk rfl rfl rfl rfl rfl rfl rfl rfl rfl | exact Y_not rfl rfl | exact Y_pick_t rfl rfl (by first | rfl | assumption) rfl | exact Y_pick_f rfl rfl (by first | rfl | assumption) rfl | exact Y_pick_b rfl rfl rfl rfl | exact R_build tabOk rfl rfl rfl rfl rfl rfl | (first | exact Y_nilCheck rfl rfl rfl))) | (apply N_takeL (i := 0) rfl rfl (by kernel_rfl) (by decide +kernel) (by decide +kernel) (by repeat (first | exact np_post | apply np_then | apply np_in)) rfl rfl rfl; (first | exact R_loadi tabOk rfl rfl rfl rfl rfl rfl rfl | exact R_len tabOk rfl rfl rfl | exact R_load tabOk rfl rfl rfl rfl rfl rfl rfl rfl rfl | exact R_lenr tabOk rfl rfl rfl rfl | exact R_lenn tabOk rfl rfl rfl | exact R_loade tabOk rfl rfl rfl rfl rfl rfl rfl rfl rfl | (first | exact Y_nilCheck rfl rfl rfl))) | (apply N_takeL (i := 1) rfl rfl (by kernel_rfl) (by decide +kernel) (by decide +kernel) (by repeat (first | exact np_post | apply np_then | apply np_in)) rfl rfl rfl; (first | exact R_loadi tabOk rfl rfl rfl rfl rfl rfl rfl | exact R_len tabOk rfl rfl rfl | exact R_load tabOk rfl rfl rfl rfl rfl rfl rfl rfl rfl | exact R_lenr tabOk rfl rfl rfl rfl | exact R_lenn tabOk rfl rfl rfl | exact R_loade tabOk rfl rfl rfl rfl rfl rfl rfl rfl rfl | (first | exact Y_nilCheck rfl rfl rfl))) | (apply N_takeL (i := 2) rfl rfl (by kernel_rfl) (by decide +kernel) (by decide +kernel) (by repeat (first | exact np_post | apply np_then | apply np_in)) rfl rfl rfl; (first | exact R_loadi tabOk rfl rfl rfl rfl rfl rfl rfl | exact R_len tabOk rfl rfl rfl | exact R_load tabOk rfl rfl rfl rfl rfl rfl rfl rfl rfl | exact R_lenr tabOk rfl rfl rfl rfl | exact R_lenn tabOk rfl rfl rfl | exact R_loade tabOk rfl rfl rfl rfl rfl rfl rfl rfl rfl | (first | exact Y_nilCheck rfl rfl rfl))) | (apply N_takeL (i := 3) rfl rfl (by kernel_rfl) (by decide +kernel) (by decide +kernel) (by repeat (first | exact np_post | apply np_then | apply np_in)) rfl rfl rfl; (first | exact R_loadi tabOk rfl rfl rfl rfl rfl rfl rfl | exact R_len tabOk rfl rfl rfl | exact R_load tabOk rfl rfl rfl rfl rfl rfl rfl rfl rfl | exact R_lenr tabOk rfl rfl rfl rfl | exact R_lenn tabOk rfl rfl rfl | exact R_loade tabOk rfl rfl rfl rfl rfl rfl rfl rfl rfl | (first | exact Y_nilCheck rfl rfl rfl))) | (apply N_takeL (i := 4) rfl rfl (by kernel_rfl) (by decide +kernel) (by decide +kernel) (by repeat (first | exact np_post | apply np_then | apply np_in)) rfl rfl rfl; (first | exact R_loadi tabOk rfl rfl rfl rfl rfl rfl rfl | exact R_len tabOk rfl rfl rfl | exact R_load tabOk rfl rfl rfl rfl rfl rfl rfl rfl rfl | exact R_lenr tabOk rfl rfl rfl rfl | exact R_lenn tabOk rfl rfl rfl | exact R_loade tabOk rfl rfl rfl rfl rfl rfl rfl rfl rfl | (first | exact Y_nilCheck rfl rfl rfl))) | (apply N_takeL (i := 5) rfl rfl (by kernel_rfl) (by decide +kernel) (by decide +kernel) (by repeat (first | exact np_post | apply np_then | apply np_in)) rfl rfl rfl; (first | exact R_loadi tabOk rfl rfl rfl rfl rfl rfl rfl | exact R_len tabOk rfl rfl rfl | exact R_load tabOk rfl rfl rfl rfl rfl rfl rfl rfl rfl | exact R_lenr tabOk rfl rfl rfl rfl | exact R_lenn tabOk rfl rfl rfl | exact R_loade tabOk rfl rfl rfl rfl rfl rfl rfl rfl rfl | (first | exact Y_nilCheck rfl rfl rfl))) | (apply N_takeL (i := 6) rfl rfl (by kernel_rfl) (by decide +kernel) (by decide +kernel) (by repeat (first | exact np_post | apply np_then | apply np_in)) rfl rfl rfl; (first | exact R_loadi tabOk rfl rfl rfl rfl rfl rfl rfl | exact R_len tabOk rfl rfl rfl | exact R_load tabOk rfl rfl rfl rfl rfl rfl rfl rfl rfl | exact R_lenr tabOk rfl rfl rfl rfl | exact R_lenn tabOk rfl rfl rfl | exact R_loade tabOk rfl rfl rfl rfl rfl rfl rfl rfl rfl | (first | exact Y_nilCheck rfl rfl rfl))) | (apply N_takeL (i := 7) rfl rfl (by kernel_rfl) (by decide +kernel) (by decide +kernel) (by repeat (first | exact np_post | apply np_then | apply np_in)) rfl rfl rfl; (first | exact R_loadi tabOk rfl rfl rfl rfl rfl rfl rfl | exact R_len tabOk rfl rfl rfl | exact R_load tabOk rfl rfl rfl rfl rfl rfl rfl rfl rfl | exact R_lenr tabOk rfl rfl rfl rfl | exact R_lenn tabOk rfl rfl rfl | exact R_loade tabOk rfl rfl rfl rfl rfl rfl rfl rfl rfl | (first | exact Y_nilCheck rfl rfl rfl))) | (apply N_takeL (i := 8) rfl rfl (by kernel_rfl) (by decide +kernel) (by decide +kernel) (by repeat (first | exact np_post | apply np_then | apply np_in)) rfl rfl rfl; (first | exact R_loadi tabOk rfl rfl rfl rfl rfl rfl rfl | exact R_len tabOk rfl rfl rfl | exact R_load tabOk rfl rfl rfl rfl rfl rfl rfl rfl rfl | exact R_lenr tabOk rfl rfl rfl rfl | exact R_lenn tabOk rfl rfl rfl | exact R_loade tabOk rfl rfl rfl rfl rfl rfl rfl rfl rfl | (first | exact Y_nilCheck rfl rfl rfl))) | (apply N_takeL (i := 9) rfl rfl (by kernel_rfl) (by decide +kernel) (by decide +kernel) (by repeat (first | exact np_post | apply np_then | apply np_in)) rfl rfl rfl; (first | exact R_loadi tabOk rfl rfl rfl rfl rfl rfl rfl | exact R_len tabOk rfl rfl rfl | exact R_load tabOk rfl rfl rfl rfl rfl rfl rfl rfl rfl | exact R_lenr tabOk rfl rfl rfl rfl | exact R_lenn tabOk rfl rfl rfl | exact R_loade tabOk rfl rfl rfl rfl rfl rfl rfl rfl rfl | (first | exact Y_nilCheck rfl rfl rfl))) | (apply N_takeL (i := 10) rfl rfl (by kernel_rfl) (by decide +kernel) (by decide +kernel) (by repeat (first | exact np_post | apply np_then | apply np_in)) rfl rfl rfl; (first | exact R_loadi tabOk rfl rfl rfl rfl rfl rfl rfl | exact R_len tabOk rfl rfl rfl | exact R_load tabOk rfl rfl rfl rfl rfl rfl rfl rfl rfl | exact R_lenr tabOk rfl rfl rfl rfl | exact R_lenn tabOk rfl rfl rfl | exact R_loade tabOk rfl rfl rfl rfl rfl rfl rfl rfl rfl | (first | exact Y_nilCheck rfl rfl rfl))) | (apply N_takeL (i := 11) rfl rfl (by kernel_rfl) (by decide +kernel) (by decide +kernel) (by repeat (first | exact np_post | apply np_then | apply np_in)) rfl rfl rfl; (first | exact R_loadi tabOk rfl rfl rfl rfl rfl rfl rfl | exact R_len tabOk rfl rfl rfl | exact R_load tabOk rfl rfl rfl rfl rfl rfl rfl rfl rfl | exact R_lenr tabOk rfl rfl rfl rfl | exact R_lenn tabOk rfl rfl rfl | exact R_loade tabOk rfl rfl rfl rfl rfl rfl rfl rfl rfl | (first | exact Y_nilCheck rfl rfl rfl))) | (apply N_takeL (i := 12) rfl rfl (by kernel_rfl) (by decide +kernel) (by decide +kernel) (by repeat (first | exact np_post | apply np_then | apply np_in)) rfl rfl rfl; (first | exact R_loadi tabOk rfl rfl rfl rfl rfl rfl rfl | exact R_len tabOk rfl rfl rfl | exact R_load tabOk rfl rfl rfl rfl rfl rfl rfl rfl rfl | exact R_lenr tabOk rfl rfl rfl rfl | exact R_lenn tabOk rfl rfl rfl | exact R_loade tabOk rfl rfl rfl rfl rfl rfl rfl rfl rfl | (first | exact Y_nilCheck rfl rfl rfl))) | refine N_one (j := 0) (by decide +kernel) ?_ | refine N_one (j := 1) (by decide +kernel) ?_ | refine N_one (j := 2) (by decide +kernel) ?_ | refine N_one (j := 3) (by decide +kernel) ?_ | refine N_one (j := 4) (by decide +kernel) ?_ | refine N_one (j := 5) (by decide +kernel) ?_ | refine N_one (j := 6) (by decide +kernel) ?_ | refine N_one (j := 7) (by decide +kernel) ?_ | refine N_one (j := 8) (by decide +kernel) ?_ | refine N_one (j := 9) (by decide +kernel) ?_ | refine N_one (j := 10) (by decide +kernel) ?_ | refine N_one (j := 11) (by decide +kernel) ?_ | refine N_one (j := 12) (by decide +kernel) ?_ | refine T_alloc tabOk rfl rfl rfl rfl rfl rfl rfl ?_ | refine T_store tabOk rfl rfl rfl rfl rfl rfl rfl rfl rfl rfl rfl rfl rfl ?_ | refine T_box rfl rfl rfl rfl rfl rfl rfl rfl ?_ | (apply T_yield rfl rfl rfl rfl; (first | exact Y_move rfl rfl | exact Y_assign rfl rfl | exact R_index tabOk rfl rfl rfl rfl rfl rfl (by omega) | exact R_fieldi tabOk rfl rfl rfl | exact R_loadi tabOk rfl rfl rfl rfl rfl rfl rfl | exact R_len tabOk rfl rfl rfl | exact R_load tabOk rfl rfl rfl rfl rfl rfl rfl rfl rfl | exact R_field tabOk rfl rfl rfl rfl | exact Y_addn rfl rfl rfl | exact Y_subn rfl rfl rfl | exact R_cmpT rfl rfl rfl rfl | exact R_cmpF rfl rfl rfl rfl | exact Y_ibin rfl rfl rfl rfl | exact Y_extract rfl rfl rfl | exact R_lenr tabOk rfl rfl rfl rfl | exact R_lenn tabOk rfl rfl rfl | exact R_indexr tabOk rfl rfl rfl rfl rfl rfl rfl (by omega) | exact R_fielde tabOk rfl rfl rfl rfl | exact R_loade tabOk rfl rfl rfl rfl rfl rfl rfl rfl rfl | exact Y_not rfl rfl | exact Y_pick_t rfl rfl (by first | rfl | assumption) rfl | exact Y_pick_f rfl rfl (by first | rfl | assumption) rfl | exact Y_pick_b rfl rfl rfl rfl | exact R_build tabOk rfl rfl rfl rfl rfl rfl | (first | exact Y_nilCheck rfl rfl rfl))) | refine N_done (by decide +kernel) ?_ | (refine T_del (k := ⟨a, (B : Int)⟩) pfxKey pfxA_val pfxA_rel trivial (fun _ _ => trivial) hn tabOk rfl rfl rfl rfl rfl rfl rfl rfl rfl ?_))
      repeat (first | refine A_seq ?_ | refine A_block ?_ | refine R_list ?_ | refine R_quiet rfl mixed (by kernel_rfl) ?_ | ((first | apply O_y rfl rfl rfl | apply Q_y rfl rfl rfl); (first | exact Y_move rfl rfl | exact Y_assign rfl rfl | exact R_index tabOk rfl rfl rfl rfl rfl rfl (by omega) | exact R_fieldi tabOk rfl rfl rfl | exact R_loadi tabOk rfl rfl rfl rfl rfl rfl rfl | exact R_len tabOk rfl rfl rfl | exact R_load tabOk rfl rfl rfl rfl rfl rfl rfl rfl rfl | exact R_field tabOk rfl rfl rfl rfl | exact Y_addn rfl rfl rfl | exact Y_subn rfl rfl rfl | exact R_cmpT rfl rfl rfl rfl | exact R_cmpF rfl rfl rfl rfl | exact Y_ibin rfl rfl rfl rfl | exact Y_extract rfl rfl rfl | exact R_lenr tabOk rfl rfl rfl rfl | exact R_lenn tabOk rfl rfl rfl | exact R_indexr tabOk rfl rfl rfl rfl rfl rfl rfl (by omega) | exact R_fielde tabOk rfl rfl rfl rfl | exact R_loade tabOk rfl rfl rfl rfl rfl rfl rfl rfl rfl | exact Y_not rfl rfl | exact Y_pick_t rfl rfl (by first | rfl | assumption) rfl | exact Y_pick_f rfl rfl (by first | rfl | assumption) rfl | exact Y_pick_b rfl rfl rfl rfl | exact R_build tabOk rfl rfl rfl rfl rfl rfl | fail)) | refine O_nil ?_ | refine Q_nil ?_ | refine X_then_normal ?_ | refine X_in_normal ?_ | refine O_box rfl rfl rfl rfl rfl rfl rfl ?_ | refine O_alloc tabOk rfl rfl rfl rfl rfl rfl ?_ | refine O_store tabOk rfl rfl rfl rfl rfl rfl rfl rfl rfl rfl rfl ?_ | refine O_slice tabOk rfl rfl rfl rfl rfl rfl rfl rfl rfl rfl rfl ?_ | refine A_ct rfl ?_ | refine A_cf rfl ?_ | refine A_skip ?_ | refine A_exit ?_ | refine A_ret ?_ | refine X_then_exit ?_ | refine X_then_ret ?_ | refine X_in_same ?_ | refine X_in_other rfl ?_ | refine X_in_ret ?_ | refine O_s rfl rfl rfl ?_ | refine Q_s rfl rfl rfl ?_ | refine O_sn rfl rfl ?_ | fail)
      refine A_weaken (Wk_sel (e1 := [(0, .ptr 1000 0), (3, .ptr 3 0)]) (h1 := [(3, .var [.d (.sc (.int .u32 a)), .d (.sc (.int .i64 (B : Int)))]), (1000, tblB 1001 u), (1001, mapB (Go.Proofs.Ytaecjmjdhbjbkaa.adel m ⟨a, (B : Int)⟩))]) ⟨rfl, rfl, trivial⟩ ⟨rfl, rfl, rfl, trivial⟩) ?_
      refine N_begin [1000] mixed ?_
      repeat (first | ((first | apply N_takeN (i := 0) rfl rfl (by kernel_rfl) (by decide +kernel) (by decide +kernel) (by repeat (first | exact np_post | apply np_then | apply np_in)) rfl rfl rfl | apply N_takeN (i := 1) rfl rfl (by kernel_rfl) (by decide +kernel) (by decide +kernel) (by repeat (first | exact np_post | apply np_then | apply np_in)) rfl rfl rfl | apply N_takeN (i := 2) rfl rfl (by kernel_rfl) (by decide +kernel) (by decide +kernel) (by repeat (first | exact np_post | apply np_then | apply np_in)) rfl rfl rfl | apply N_takeN (i := 3) rfl rfl (by kernel_rfl) (by decide +kernel) (by decide +kernel) (by repeat (first | exact np_post | apply np_then | apply np_in)) rfl rfl rfl | apply N_takeN (i := 4) rfl rfl (by kernel_rfl) (by decide +kernel) (by decide +kernel) (by repeat (first | exact np_post | apply np_then | apply np_in)) rfl rfl rfl | apply N_takeN (i := 5) rfl rfl (by kernel_rfl) (by decide +kernel) (by decide +kernel) (by repeat (first | exact np_post | apply np_then | apply np_in)) rfl rfl rfl | apply N_takeN (i := 6) rfl rfl (by kernel_rfl) (by decide +kernel) (by decide +kernel) (by repeat (first | exact np_post | apply np_then | apply np_in)) rfl rfl rfl | apply N_takeN (i := 7) rfl rfl (by kernel_rfl) (by decide +kernel) (by decide +kernel) (by repeat (first | exact np_post | apply np_then | apply np_in)) rfl rfl rfl | apply N_takeN (i := 8) rfl rfl (by kernel_rfl) (by decide +kernel) (by decide +kernel) (by repeat (first | exact np_post | apply np_then | apply np_in)) rfl rfl rfl | apply N_takeN (i := 9) rfl rfl (by kernel_rfl) (by decide +kernel) (by decide +kernel) (by repeat (first | exact np_post | apply np_then | apply np_in)) rfl rfl rfl | apply N_takeN (i := 10) rfl rfl (by kernel_rfl) (by decide +kernel) (by decide +kernel) (by repeat (first | exact np_post | apply np_then | apply np_in)) rfl rfl rfl | apply N_takeN (i := 11) rfl rfl (by kernel_rfl) (by decide +kernel) (by decide +kernel) (by repeat (first | exact np_post | apply np_then | apply np_in)) rfl rfl rfl | apply N_takeN (i := 12) rfl rfl (by kernel_rfl) (by decide +kernel) (by decide +kernel) (by repeat (first | exact np_post | apply np_then | apply np_in)) rfl rfl rfl ); (first | exact Y_move rfl rfl | exact Y_assign rfl rfl | exact R_index tabOk rfl rfl rfl rfl rfl rfl (by omega) | exact R_fieldi tabOk rfl rfl rfl | exact R_loadi tabOk rfl rfl rfl rfl rfl rfl rfl | exact R_len tabOk rfl rfl rfl | exact R_load tabOk rfl rfl rfl rfl rfl rfl rfl rfl rfl | exact R_field tabOk rfl rfl rfl rfl | exact Y_addn rfl rfl rfl | exact Y_subn rfl rfl rfl | exact R_cmpT rfl rfl rfl rfl | exact R_cmpF rfl rfl rfl rfl | exact Y_ibin rfl rfl rfl rfl | exact Y_extract rfl rfl rfl | exact R_lenr tabOk rfl rfl rfl rfl | exact R_lenn tabOk rfl rfl rfl | exact R_indexr tabOk rfl rfl rfl rfl rfl rfl rfl (by omega) | exact R_fielde tabOk rfl rfl rfl rfl | exact R_loade tabOk rfl rfl rfl rfl rfl rfl rfl rfl rfl | exact Y_not rfl rfl | exact Y_pick_t rfl rfl (by first | rfl | assumption) rfl | exact Y_pick_f rfl rfl (by first | rfl | assumption) rfl | exact Y_pick_b rfl rfl rfl rfl | exact R_build tabOk rfl rfl rfl rfl rfl rfl | (first | exact Y_nilCheck rfl rfl rfl | exact R_ixp tabOk rfl rfl rfl rfl rfl rfl rfl hB | exact R_load tabOk rfl rfl rfl rfl rfl rfl (used_get _ _ _ hB) rfl rfl))) | (apply N_takeL (i := 0) rfl rfl (by kernel_rfl) (by decide +kernel) (by decide +kernel) (by repeat (first | exact np_post | apply np_then | apply np_in)) rfl rfl rfl; (first | exact R_loadi tabOk rfl rfl rfl rfl rfl rfl rfl | exact R_len tabOk rfl rfl rfl | exact R_load tabOk rfl rfl rfl rfl rfl rfl rfl rfl rfl | exact R_lenr tabOk rfl rfl rfl rfl | exact R_lenn tabOk rfl rfl rfl | exact R_loade tabOk rfl rfl rfl rfl rfl rfl rfl rfl rfl | (first | exact Y_nilCheck rfl rfl rfl | exact R_ixp tabOk rfl rfl rfl rfl rfl rfl rfl hB | exact R_load tabOk rfl rfl rfl rfl rfl rfl (used_get _ _ _ hB) rfl rfl))) | (apply N_takeL (i := 1) rfl rfl (by kernel_rfl) (by decide +kernel) (by decide +kernel) (by repeat (first | exact np_post | apply np_then | apply np_in)) rfl rfl rfl; (first | exact R_loadi tabOk rfl rfl rfl rfl rfl rfl rfl | exact R_len tabOk rfl rfl rfl | exact R_load tabOk rfl rfl rfl rfl rfl rfl rfl rfl rfl | exact R_lenr tabOk rfl rfl rfl rfl | exact R_lenn tabOk rfl rfl rfl | exact R_loade tabOk rfl rfl rfl rfl rfl rfl rfl rfl rfl | (first | exact Y_nilCheck rfl rfl rfl | exact R_ixp tabOk rfl rfl rfl rfl rfl rfl rfl hB | exact R_load tabOk rfl rfl rfl rfl rfl rfl (used_get _ _ _ hB) rfl rfl))) | (apply N_takeL (i := 2) rfl rfl (by kernel_rfl) (by decide +kernel) (by decide +kernel) (by repeat (first | exact np_post | apply np_then | apply np_in)) rfl rfl rfl; (first | exact R_loadi tabOk rfl rfl rfl rfl rfl rfl rfl | exact R_len tabOk rfl rfl rfl | exact R_load tabOk rfl rfl rfl rfl rfl rfl rfl rfl rfl | exact R_lenr tabOk rfl rfl rfl rfl | exact R_lenn tabOk rfl rfl rfl | exact R_loade tabOk rfl rfl rfl rfl rfl rfl rfl rfl rfl | (first | exact Y_nilCheck rfl rfl rfl | exact R_ixp tabOk rfl rfl rfl rfl rfl rfl rfl hB | exact R_load tabOk rfl rfl rfl rfl rfl rfl (used_get _ _ _ hB) rfl rfl))) | (apply N_takeL (i := 3) rfl rfl (by kernel_rfl) (by decide +kernel) (by decide +kernel) (by repeat (first | exact np_post | apply np_then | apply np_in)) rfl rfl rfl; (first | exact R_loadi tabOk rfl rfl rfl rfl rfl rfl rfl | exact R_len tabOk rfl rfl rfl | exact R_load tabOk rfl rfl rfl rfl rfl rfl rfl rfl rfl | exact R_lenr tabOk rfl rfl rfl rfl | exact R_lenn tabOk rfl rfl rfl | exact R_loade tabOk rfl rfl rfl rfl rfl rfl rfl rfl rfl | (first | exact Y_nilCheck rfl rfl rfl | exact R_ixp tabOk rfl rfl rfl rfl rfl rfl rfl hB | exact R_load tabOk rfl rfl rfl rfl rfl rfl (used_get _ _ _ hB) rfl rfl))) | (apply N_takeL (i := 4) rfl rfl (by kernel_rfl) (by decide +kernel) (by decide +kernel) (by repeat (first | exact np_post | apply np_then | apply np_in)) rfl rfl rfl; (first | exact R_loadi tabOk rfl rfl rfl rfl rfl rfl rfl | exact R_len tabOk rfl rfl rfl | exact R_load tabOk rfl rfl rfl rfl rfl rfl rfl rfl rfl | exact R_lenr tabOk rfl rfl rfl rfl | exact R_lenn tabOk rfl rfl rfl | exact R_loade tabOk rfl rfl rfl rfl rfl rfl rfl rfl rfl | (first | exact Y_nilCheck rfl rfl rfl | exact R_ixp tabOk rfl rfl rfl rfl rfl rfl rfl hB | exact R_load tabOk rfl rfl rfl rfl rfl rfl (used_get _ _ _ hB) rfl rfl))) | (apply N_takeL (i := 5) rfl rfl (by kernel_rfl) (by decide +kernel) (by decide +kernel) (by repeat (first | exact np_post | apply np_then | apply np_in)) rfl rfl rfl; (first | exact R_loadi tabOk rfl rfl rfl rfl rfl rfl rfl | exact R_len tabOk rfl rfl rfl | exact R_load tabOk rfl rfl rfl rfl rfl rfl rfl rfl rfl | exact R_lenr tabOk rfl rfl rfl rfl | exact R_lenn tabOk rfl rfl rfl | exact R_loade tabOk rfl rfl rfl rfl rfl rfl rfl rfl rfl | (first | exact Y_nilCheck rfl rfl rfl | exact R_ixp tabOk rfl rfl rfl rfl rfl rfl rfl hB | exact R_load tabOk rfl rfl rfl rfl rfl rfl (used_get _ _ _ hB) rfl rfl))) | (apply N_takeL (i := 6) rfl rfl (by kernel_rfl) (by decide +kernel) (by decide +kernel) (by repeat (first | exact np_post | apply np_then | apply np_in)) rfl rfl rfl; (first | exact R_loadi tabOk rfl rfl rfl rfl rfl rfl rfl | exact R_len tabOk rfl rfl rfl | exact R_load tabOk rfl rfl rfl rfl rfl rfl rfl rfl rfl | exact R_lenr tabOk rfl rfl rfl rfl | exact R_lenn tabOk rfl rfl rfl | exact R_loade tabOk rfl rfl rfl rfl rfl rfl rfl rfl rfl | (first | exact Y_nilCheck rfl rfl rfl | exact R_ixp tabOk rfl rfl rfl rfl rfl rfl rfl hB | exact R_load tabOk rfl rfl rfl rfl rfl rfl (used_get _ _ _ hB) rfl rfl))) | (apply N_takeL (i := 7) rfl rfl (by kernel_rfl) (by decide +kernel) (by decide +kernel) (by repeat (first | exact np_post | apply np_then | apply np_in)) rfl rfl rfl; (first | exact R_loadi tabOk rfl rfl rfl rfl rfl rfl rfl | exact R_len tabOk rfl rfl rfl | exact R_load tabOk rfl rfl rfl rfl rfl rfl rfl rfl rfl | exact R_lenr tabOk rfl rfl rfl rfl | exact R_lenn tabOk rfl rfl rfl | exact R_loade tabOk rfl rfl rfl rfl rfl rfl rfl rfl rfl | (first | exact Y_nilCheck rfl rfl rfl | exact R_ixp tabOk rfl rfl rfl rfl rfl rfl rfl hB | exact R_load tabOk rfl rfl rfl rfl rfl rfl (used_get _ _ _ hB) rfl rfl))) | (apply N_takeL (i := 8) rfl rfl (by kernel_rfl) (by decide +kernel) (by decide +kernel) (by repeat (first | exact np_post | apply np_then | apply np_in)) rfl rfl rfl; (first | exact R_loadi tabOk rfl rfl rfl rfl rfl rfl rfl | exact R_len tabOk rfl rfl rfl | exact R_load tabOk rfl rfl rfl rfl rfl rfl rfl rfl rfl | exact R_lenr tabOk rfl rfl rfl rfl | exact R_lenn tabOk rfl rfl rfl | exact R_loade tabOk rfl rfl rfl rfl rfl rfl rfl rfl rfl | (first | exact Y_nilCheck rfl rfl rfl | exact R_ixp tabOk rfl rfl rfl rfl rfl rfl rfl hB | exact R_load tabOk rfl rfl rfl rfl rfl rfl (used_get _ _ _ hB) rfl rfl))) | (apply N_takeL (i := 9) rfl rfl (by kernel_rfl) (by decide +kernel) (by decide +kernel) (by repeat (first | exact np_post | apply np_then | apply np_in)) rfl rfl rfl; (first | exact R_loadi tabOk rfl rfl rfl rfl rfl rfl rfl | exact R_len tabOk rfl rfl rfl | exact R_load tabOk rfl rfl rfl rfl rfl rfl rfl rfl rfl | exact R_lenr tabOk rfl rfl rfl rfl | exact R_lenn tabOk rfl rfl rfl | exact R_loade tabOk rfl rfl rfl rfl rfl rfl rfl rfl rfl | (first | exact Y_nilCheck rfl rfl rfl | exact R_ixp tabOk rfl rfl rfl rfl rfl rfl rfl hB | exact R_load tabOk rfl rfl rfl rfl rfl rfl (used_get _ _ _ hB) rfl rfl))) | (apply N_takeL (i := 10) rfl rfl (by kernel_rfl) (by decide +kernel) (by decide +kernel) (by repeat (first | exact np_post | apply np_then | apply np_in)) rfl rfl rfl; (first | exact R_loadi tabOk rfl rfl rfl rfl rfl rfl rfl | exact R_len tabOk rfl rfl rfl | exact R_load tabOk rfl rfl rfl rfl rfl rfl rfl rfl rfl | exact R_lenr tabOk rfl rfl rfl rfl | exact R_lenn tabOk rfl rfl rfl | exact R_loade tabOk rfl rfl rfl rfl rfl rfl rfl rfl rfl | (first | exact Y_nilCheck rfl rfl rfl | exact R_ixp tabOk rfl rfl rfl rfl rfl rfl rfl hB | exact R_load tabOk rfl rfl rfl rfl rfl rfl (used_get _ _ _ hB) rfl rfl))) | (apply N_takeL (i := 11) rfl rfl (by kernel_rfl) (by decide +kernel) (by decide +kernel) (by repeat (first | exact np_post | apply np_then | apply np_in)) rfl rfl rfl; (first | exact R_loadi tabOk rfl rfl rfl rfl rfl rfl rfl | exact R_len tabOk rfl rfl rfl | exact R_load tabOk rfl rfl rfl rfl rfl rfl rfl rfl rfl | exact R_lenr tabOk rfl rfl rfl rfl | exact R_lenn tabOk rfl rfl rfl | exact R_loade tabOk rfl rfl rfl rfl rfl rfl rfl rfl rfl | (first | exact Y_nilCheck rfl rfl rfl | exact R_ixp tabOk rfl rfl rfl rfl rfl rfl rfl hB | exact R_load tabOk rfl rfl rfl rfl rfl rfl (used_get _ _ _ hB) rfl rfl))) | (apply N_takeL (i := 12) rfl rfl (by kernel_rfl) (by decide +kernel) (by decide +kernel) (by repeat (first | exact np_post | apply np_then | apply np_in)) rfl rfl rfl; (first | exact R_loadi tabOk rfl rfl rfl rfl rfl rfl rfl | exact R_len tabOk rfl rfl rfl | exact R_load tabOk rfl rfl rfl rfl rfl rfl rfl rfl rfl | exact R_lenr tabOk rfl rfl rfl rfl | exact R_lenn tabOk rfl rfl rfl | exact R_loade tabOk rfl rfl rfl rfl rfl rfl rfl rfl rfl | (first | exact Y_nilCheck rfl rfl rfl | exact R_ixp tabOk rfl rfl rfl rfl rfl rfl rfl hB | exact R_load tabOk rfl rfl rfl rfl rfl rfl (used_get _ _ _ hB) rfl rfl))) | refine N_one (j := 0) (by decide +kernel) ?_ | refine N_one (j := 1) (by decide +kernel) ?_ | refine N_one (j := 2) (by decide +kernel) ?_ | refine N_one (j := 3) (by decide +kernel) ?_ | refine N_one (j := 4) (by decide +kernel) ?_ | refine N_one (j := 5) (by decide +kernel) ?_ | refine N_one (j := 6) (by decide +kernel) ?_ | refine N_one (j := 7) (by decide +kernel) ?_ | refine N_one (j := 8) (by decide +kernel) ?_ | refine N_one (j := 9) (by decide +kernel) ?_ | refine N_one (j := 10) (by decide +kernel) ?_ | refine N_one (j := 11) (by decide +kernel) ?_ | refine N_one (j := 12) (by decide +kernel) ?_ | refine T_alloc tabOk rfl rfl rfl rfl rfl rfl rfl ?_ | refine T_store tabOk rfl rfl rfl rfl rfl rfl rfl rfl rfl rfl rfl rfl rfl ?_ | refine T_box rfl rfl rfl rfl rfl rfl rfl rfl ?_ | (apply T_yield rfl rfl rfl rfl; (first | exact Y_move rfl rfl | exact Y_assign rfl rfl | exact R_index tabOk rfl rfl rfl rfl rfl rfl (by omega) | exact R_fieldi tabOk rfl rfl rfl | exact R_loadi tabOk rfl rfl rfl rfl rfl rfl rfl | exact R_len tabOk rfl rfl rfl | exact R_load tabOk rfl rfl rfl rfl rfl rfl rfl rfl rfl | exact R_field tabOk rfl rfl rfl rfl | exact Y_addn rfl rfl rfl | exact Y_subn rfl rfl rfl | exact R_cmpT rfl rfl rfl rfl | exact R_cmpF rfl rfl rfl rfl | exact Y_ibin rfl rfl rfl rfl | exact Y_extract rfl rfl rfl | exact R_lenr tabOk rfl rfl rfl rfl | exact R_lenn tabOk rfl rfl rfl | exact R_indexr tabOk rfl rfl rfl rfl rfl rfl rfl (by omega) | exact R_fielde tabOk rfl rfl rfl rfl | exact R_loade tabOk rfl rfl rfl rfl rfl rfl rfl rfl rfl | exact Y_not rfl rfl | exact Y_pick_t rfl rfl (by first | rfl | assumption) rfl | exact Y_pick_f rfl rfl (by first | rfl | assumption) rfl | exact Y_pick_b rfl rfl rfl rfl | exact R_build tabOk rfl rfl rfl rfl rfl rfl | (first | exact Y_nilCheck rfl rfl rfl | exact R_ixp tabOk rfl rfl rfl rfl rfl rfl rfl hB | exact R_load tabOk rfl rfl rfl rfl rfl rfl (used_get _ _ _ hB) rfl rfl))) | refine N_done (by decide +kernel) ?_ | (refine T_storeS tabOk rfl rfl rfl rfl rfl rfl rfl rfl rfl rfl rfl rfl (by simp [usedA]; omega) ?_))
      repeat (first | refine A_seq ?_ | refine A_block ?_ | refine R_list ?_ | refine R_quiet rfl mixed (by kernel_rfl) ?_ | ((first | apply O_y rfl rfl rfl | apply Q_y rfl rfl rfl); (first | exact Y_move rfl rfl | exact Y_assign rfl rfl | exact R_index tabOk rfl rfl rfl rfl rfl rfl (by omega) | exact R_fieldi tabOk rfl rfl rfl | exact R_loadi tabOk rfl rfl rfl rfl rfl rfl rfl | exact R_len tabOk rfl rfl rfl | exact R_load tabOk rfl rfl rfl rfl rfl rfl rfl rfl rfl | exact R_field tabOk rfl rfl rfl rfl | exact Y_addn rfl rfl rfl | exact Y_subn rfl rfl rfl | exact R_cmpT rfl rfl rfl rfl | exact R_cmpF rfl rfl rfl rfl | exact Y_ibin rfl rfl rfl rfl | exact Y_extract rfl rfl rfl | exact R_lenr tabOk rfl rfl rfl rfl | exact R_lenn tabOk rfl rfl rfl | exact R_indexr tabOk rfl rfl rfl rfl rfl rfl rfl (by omega) | exact R_fielde tabOk rfl rfl rfl rfl | exact R_loade tabOk rfl rfl rfl rfl rfl rfl rfl rfl rfl | exact Y_not rfl rfl | exact Y_pick_t rfl rfl (by first | rfl | assumption) rfl | exact Y_pick_f rfl rfl (by first | rfl | assumption) rfl | exact Y_pick_b rfl rfl rfl rfl | exact R_build tabOk rfl rfl rfl rfl rfl rfl | fail)) | refine O_nil ?_ | refine Q_nil ?_ | refine X_then_normal ?_ | refine X_in_normal ?_ | refine O_box rfl rfl rfl rfl rfl rfl rfl ?_ | refine O_alloc tabOk rfl rfl rfl rfl rfl rfl ?_ | refine O_store tabOk rfl rfl rfl rfl rfl rfl rfl rfl rfl rfl rfl ?_ | refine O_slice tabOk rfl rfl rfl rfl rfl rfl rfl rfl rfl rfl rfl ?_ | refine A_ct rfl ?_ | refine A_cf rfl ?_ | refine A_skip ?_ | refine A_exit ?_ | refine A_ret ?_ | refine X_then_exit ?_ | refine X_then_ret ?_ | refine X_in_same ?_ | refine X_in_other rfl ?_ | refine X_in_ret ?_ | refine O_s rfl rfl rfl ?_ | refine Q_s rfl rfl rfl ?_ | refine O_sn rfl rfl ?_ | fail)
      exact X_retW AWk.refl rfl (h2 := [(1000, tblB 1001 (bump u B (-1))), (1001, mapB (Go.Proofs.Ytaecjmjdhbjbkaa.adel m ⟨a, (B : Int)⟩))]) ⟨var_eq (used_set 1001 u B (-1) hB) rfl, rfl, trivial⟩ ⟨rfl, rfl⟩
  · rw [if_neg hc, if_neg hc]
    refine A_seq ?_
    refine R_list ?_
    refine O_box rfl rfl rfl rfl rfl rfl rfl ?_
    refine O_weaken (Wk_sel (e1 := [(0, .ptr 1000 0), (3, .ptr 3 0)]) (h1 := [(3, .var [.d (.sc (.int .u32 p.a)), .d (.sc (.int .i64 p.b))]), (1000, tblB 1001 u), (1001, mapB m)]) ⟨rfl, rfl, trivial⟩ ⟨rfl, rfl, kill_map 3 m, trivial⟩) ?_
    repeat (first | refine A_seq ?_ | refine A_block ?_ | refine R_list ?_ | refine R_quiet rfl mixed (by kernel_rfl) ?_ | ((first | apply O_y rfl rfl rfl | apply Q_y rfl rfl rfl); (first | exact Y_move rfl rfl | exact Y_assign rfl rfl | exact R_index tabOk rfl rfl rfl rfl rfl rfl (by omega) | exact R_fieldi tabOk rfl rfl rfl | exact R_loadi tabOk rfl rfl rfl rfl rfl rfl rfl | exact R_len tabOk rfl rfl rfl | exact R_load tabOk rfl rfl rfl rfl rfl rfl rfl rfl rfl | exact R_field tabOk rfl rfl rfl rfl | exact Y_addn rfl rfl rfl | exact Y_subn rfl rfl rfl | exact R_cmpT rfl rfl rfl rfl | exact R_cmpF rfl rfl rfl rfl | exact Y_ibin rfl rfl rfl rfl | exact Y_extract rfl rfl rfl | exact R_lenr tabOk rfl rfl rfl rfl | exact R_lenn tabOk rfl rfl rfl | exact R_indexr tabOk rfl rfl rfl rfl rfl rfl rfl (by omega) | exact R_fielde tabOk rfl rfl rfl rfl | exact R_loade tabOk rfl rfl rfl rfl rfl rfl rfl rfl rfl | exact Y_not rfl rfl | exact Y_pick_t rfl rfl (by first | rfl | assumption) rfl | exact Y_pick_f rfl rfl (by first | rfl | assumption) rfl | exact Y_pick_b rfl rfl rfl rfl | exact R_build tabOk rfl rfl rfl rfl rfl rfl | (first | exact R_pnil tabOk rfl rfl rfl rfl rfl))) | refine O_nil ?_ | refine Q_nil ?_ | refine X_then_normal ?_ | refine X_in_normal ?_ | refine O_box rfl rfl rfl rfl rfl rfl rfl ?_ | refine O_alloc tabOk rfl rfl rfl rfl rfl rfl ?_ | refine O_store tabOk rfl rfl rfl rfl rfl rfl rfl rfl rfl rfl rfl ?_ | refine O_slice tabOk rfl rfl rfl rfl rfl rfl rfl rfl rfl rfl rfl ?_ | refine A_ct rfl ?_ | refine A_cf rfl ?_ | refine A_skip ?_ | refine A_exit ?_ | refine A_ret ?_ | refine X_then_exit ?_ | refine X_then_ret ?_ | refine X_in_same ?_ | refine X_in_other rfl ?_ | refine X_in_ret ?_ | refine O_s rfl rfl rfl ?_ | refine Q_s rfl rfl rfl ?_ | refine O_sn rfl rfl ?_ | refine O_c rfl rfl rfl rfl rfl hck (fun _ => rfl) ?_)
    exact X_retW AWk.refl rfl (h2 := [(1000, tblB 1001 u), (1001, mapB m)]) ⟨rfl, rfl, trivial⟩ ⟨rfl, rfl⟩
end Go.Proofs.Ytaecjmjdhbjbkaa.Ab

namespace Go.Proofs.Ytaecjmjdhbjbkaa.Ab
set_option linter.unusedVariables false
open Go.RowKit

def vOf (p : Pfx) : Int := IntKind.i64.wrap (p.a + p.b)
/-- The table has those that are good, each with its number. -/
structure Rep (s : TS) (K : Pfx → Prop) : Prop where
  keys : ∀ q, (∃ z, aget s.2 q = some z) ↔ K q ∧ good q
  vals : ∀ q z, aget s.2 q = some z → z = vOf q
theorem Rep.zero : Rep (fun _ => 0, []) fun _ => False :=
  ⟨fun q => ⟨fun ⟨z, h⟩ => absurd (mem_of_aget h) (by simp), fun h => h.1.elim⟩, fun q z h => absurd (mem_of_aget h) (by simp)⟩
theorem Rep.of {s : TS} {K K' : Pfx → Prop} (R : Rep s K) (h : ∀ q, K q ↔ K' q) : Rep s K' := ⟨fun q => by rw [R.keys q, h q], R.vals⟩
theorem Rep.put {s : TS} {K : Pfx → Prop} {k : Nat} (T : TOk s k) (R : Rep s K) (p : Pfx) : Rep (putS s p (vOf p)) fun q => K q ∨ q = p := by
  by_cases hg : good p
  · refine ⟨fun q => ?_, fun q z h => ?_⟩
    · rw [putS_get T p _ hg]
      by_cases e : q = p
      · rw [if_pos e]
        exact ⟨fun _ => ⟨.inr e, by rw [e]; exact hg⟩, fun _ => ⟨_, rfl⟩⟩
      · rw [if_neg e, R.keys q]
        exact ⟨fun h => ⟨.inl h.1, h.2⟩, fun h => ⟨h.1.resolve_right e, h.2⟩⟩
    · rw [putS_get T p _ hg] at h
      split at h
      · rename_i e; cases h; rw [e]
      · exact R.vals q z h
  · rw [putS_bad _ _ _ hg]
    refine ⟨fun q => ?_, R.vals⟩
    rw [R.keys q]
    refine ⟨fun h => ⟨.inl h.1, h.2⟩, fun h => ⟨h.1.resolve_right fun e => hg (by rw [← e]; exact h.2), h.2⟩⟩
theorem Rep.same {s t : TS} {K : Pfx → Prop} (Rs : Rep s K) (Rt : Rep t K) (q : Pfx) : aget s.2 q = aget t.2 q := by
  cases hs : aget s.2 q with
  | none =>
    cases ht : aget t.2 q with
    | none => rfl
    | some z =>
      obtain ⟨z', h⟩ := (Rs.keys q).2 ((Rt.keys q).1 ⟨z, ht⟩)
      rw [hs] at h; cases h
  | some z =>
    obtain ⟨z', h⟩ := (Rt.keys q).2 ((Rs.keys q).1 ⟨z, hs⟩)
    rw [h, Rs.vals q z hs, Rt.vals q z' h]
section
variable {s t : TS} {i j : Nat}
theorem over_same (Ts : TOk s i) (Tt : TOk t j) (h : ∀ q, aget s.2 q = aget t.2 q) (x : Int) : overS s.1 s.2 x 33 = overS t.1 t.2 x 33 := by
  refine List.Perm.eq_of_pairwise (le := fun p q : Pfx => p.b < q.b) (fun a b _ _ h1 h2 => by omega) (over_sorted _ _ _ _) (over_sorted _ _ _ _) ?_
  refine (List.perm_ext_iff_of_nodup (nodup_of_lt (over_sorted _ _ _ _)) (nodup_of_lt (over_sorted _ _ _ _))).2 fun q => ?_
  rw [over_mem Ts x q, over_mem Tt x q, h q]
theorem long_same (Ts : TOk s i) (Tt : TOk t j) (h : ∀ q, aget s.2 q = aget t.2 q) (x : Int) : longR s.1 s.2 x = longR t.1 t.2 x := by
  unfold longR
  rw [over_same Ts Tt h x]
  split
  · rw [h]
  · rfl
theorem len_same (Ts : TOk s i) (Tt : TOk t j) (h : ∀ q, aget s.2 q = aget t.2 q) : s.2.length = t.2.length := by
  have hp : (s.2.map (·.1)).Perm (t.2.map (·.1)) := (List.perm_ext_iff_of_nodup Ts.nd Tt.nd).2 fun q => by rw [key_iff, key_iff, h q]
  have := hp.length_eq
  simpa using this
/-- What is put and dropped leaves no trace. -/
theorem put_drop (T : TOk t j) (q : Pfx) (v : Int) (hg : good q) (hn : aget t.2 q = none) :
    TOk (dropS (putS t q v) q) j ∧ (∀ p, aget (dropS (putS t q v) q).2 p = aget t.2 p) ∧ dropE (putS t q v).2 q = 0 := by
  have hc := (chk_eq q).2 hg
  have hget := fun p => putS_get T q v hg p
  have hs : (aget (putS t q v).2 q).isSome = true := by rw [hget, if_pos rfl]; rfl
  have hnd : ((putS t q v).2.map (·.1)).Nodup := by
    unfold putS
    rw [if_pos hc]
    exact aput_nodup T.nd
  have e : dropS (putS t q v) q = (bump (putS t q v).1 q.b.toNat (-1), Go.Proofs.Ytaecjmjdhbjbkaa.adel (putS t q v).2 q) := by
    unfold dropS
    rw [if_pos hc, if_pos hs]
  have hu : bump (putS t q v).1 q.b.toNat (-1) = t.1 := by
    unfold putS
    rw [if_pos hc]
    rw [if_neg (by rw [hn]; simp)]
    funext k
    unfold bump
    dsimp only
    split <;> omega
  have hag : ∀ p, aget (Go.Proofs.Ytaecjmjdhbjbkaa.adel (putS t q v).2 q) p = aget t.2 p := fun p => by
    rw [aget_adel hnd]
    split
    · rename_i e; rw [e, hn]
    · rw [hget, if_neg (by assumption)]
  have hmem : ∀ p ∈ Go.Proofs.Ytaecjmjdhbjbkaa.adel (putS t q v).2 q, p ∈ t.2 := fun p hp => by
    have h1 := (aget_iff (adel_nodup hnd)).2 (show (p.1, p.2) ∈ _ from hp)
    rw [hag] at h1
    exact mem_of_aget h1
  refine ⟨?_, fun p => by rw [e]; exact hag p, by unfold dropE; rw [if_pos hc, if_pos hs]⟩
  rw [e, hu]
  refine ⟨adel_nodup hnd, fun p hp => T.good p (hmem p hp), fun p hp => T.ok p (hmem p hp), fun p hp => T.used p (hmem p hp), T.ub, ?_⟩
  have h1 := (adel_nodup (k := q) hnd).length_le_of_subset (l₂ := t.2.map (·.1)) fun p hp => by
    obtain ⟨x, hx, rfl⟩ := List.mem_map.1 hp
    exact List.mem_map.2 ⟨x, hmem x hx, rfl⟩
  have := T.len
  simp at h1
  dsimp only
  omega
end
end Go.Proofs.Ytaecjmjdhbjbkaa.Ab

/- Two tables: calls with a table in regions that draw their order; remainders. -/
namespace Go.Proofs.Ytaecjmjdhbjbkaa.Ab
set_option linter.unusedVariables false
set_option maxRecDepth 100000
open Go.RowKit

def agBool (tab : TTab) (t : TypeId) : Bool := match tlook tab t with
  | some te => match te.sh with
    | .bo => true
    | _ => false
  | none => false
section
variable {P : Program} {T : List Nat} {e : Env} {h : Heap} {o : Oper} {tab : TTab}
theorem Y_beq {t u : TypeId} {x y : Operand} {a b r : Bool} (TO : TabOk P tab) (ho : o.op = .binOp .eql t x y u) (ht : agBool tab t = true) (hx : aev e x = some (.d (.sc (.bool a)))) (hy : aev e y = some (.d (.sc (.bool b)))) (hr : (a == b) = r) : AYield P T e h o (.d (.sc (.bool r))) := yield_of _ fun w F ι ac E => by
  unfold agBool at ht
  split at ht
  · rename_i te hte
    split at ht
    · rename_i hs
      obtain ⟨d, hd, _, hh⟩ := (TO t te hte).und
      rw [hs] at hh
      cases hh
      refine ⟨.bool r, sc_rel rfl, fun w' => ?_⟩
      simp only [execOp, ho, (sc_of (aev_rel E hx)).1, (sc_of (aev_rel E hy)).1]
      simp [eqGuard, binOp, run_equal_bool w' t a b hd, ← hr]
    · cases ht
  · cases ht
end
section
variable {P : Program} {nt : Nat} {Q : Post} {e : Env} {h : Heap} {o : Oper} {ops : Array Oper} {rest : List Oper} {T : List Nat} {tab : TTab}
theorem Y_rem {t u : TypeId} {x y : Operand} {k : IntKind} {a b r : Int} (ho : o.op = .binOp .rem t x y u) (hx : aev e x = some (.d (.sc (.int k a)))) (hy : aev e y = some (.d (.sc (.int k b)))) (hb : b ≠ 0) (hr : a.tmod b = r) : AYield P T e h o (.d (.sc (.int k r))) := yield_of _ fun w F ι ac E =>
  ⟨.int k r, sc_rel rfl, fun w' => by
    simp only [execOp, ho, (sc_of (aev_rel E hx)).1, (sc_of (aev_rel E hy)).1]
    simp [eqGuard, binOp, Op.intDiv, hb, ← hr]⟩
theorem ren2_tbl (u : Nat → Int) : renB [(3, 4), (902, 903)] (tblB 902 u) = tblB 903 u := by
  show ABlk.var (renV _ (.mp 902) :: (usedA u).map (renV _)) = _
  unfold tblB usedA
  rw [List.map_map]
  rfl
theorem look_two {α : Type} {p a b : Nat} {k i j : α} (h : look [(a, i), (b, j)] p = some k) : (p = a ∧ k = i) ∨ (p = b ∧ k = j) := by
  by_cases h1 : a = p
  · subst h1; rw [look_cons_same] at h; cases h; exact .inl ⟨rfl, rfl⟩
  · rw [look_cons_ne _ _ h1] at h
    by_cases h2 : b = p
    · subst h2; rw [look_cons_same] at h; cases h; exact .inr ⟨rfl, rfl⟩
    · rw [look_cons_ne _ _ h2] at h; cases h
/-- The same table by other numbers. -/
theorem tbl_ren {f : FuncId} {args : List AVal} {u : Nat → Int} {m : List (Pfx × Int)} (H : ACall P f args [] (fun c h => c = .ptr 3 0 ∧ h = [(3, tblB 902 u), (902, mapB m)])) : ACall P f args [] (fun c h => c = .ptr 4 0 ∧ h = [(4, tblB 903 u), (903, mapB m)]) := by
  refine ⟨H.1, fun Pm F w0 pin ι us w HH HA => (H.2 Pm F w0 pin ι us w HH HA).mono ?_⟩
  rintro x w' ⟨v0, c, h2, ι', rfl, ⟨rfl, rfl⟩, hH, hv⟩
  let ι2 : Nat → Option Value := fun id => if id = 4 then ι' 3 else if id = 903 then ι' 902 else none
  have h2of : ∀ id v, ι2 id = some v → (id = 4 ∧ ι' 3 = some v) ∨ (id = 903 ∧ ι' 902 = some v) := fun id v hv => by
    simp only [ι2] at hv
    split at hv
    · exact .inl ⟨by assumption, hv⟩
    · split at hv
      · exact .inr ⟨by assumption, hv⟩
      · cases hv
  have hold : ∀ id v, ι2 id = some v → ∃ j, ι' j = some v := fun id v hv => by
    rcases h2of id v hv with ⟨_, h⟩ | ⟨_, h⟩
    · exact ⟨_, h⟩
    · exact ⟨_, h⟩
  have hF : ExtF w' F ι' w' F ι2 := ⟨fun _ _ _ => rfl, fun r _ hf => ⟨hf.1, fun id v hv hb => by obtain ⟨j, hj⟩ := hold id v hv; exact hf.2 j v hj hb⟩⟩
  have hρ : ∀ p i, look [(3, 4), (902, 903)] p = some i → ∀ v, ι2 i = some v → ι' p = some v := fun p i hp v hv => by
    rcases look_two hp with ⟨rfl, rfl⟩ | ⟨rfl, rfl⟩
    · rcases h2of _ v hv with ⟨_, h⟩ | ⟨h, _⟩
      · exact h
      · omega
    · rcases h2of _ v hv with ⟨h, _⟩ | ⟨_, h⟩
      · omega
      · exact h
  obtain ⟨v3, h3, hB3⟩ := hH.blk 3 _ rfl
  obtain ⟨v9, h9, hB9⟩ := hH.blk 902 _ rfl
  refine ⟨v0, .ptr 4 0, _, ι2, rfl, ⟨rfl, rfl⟩, ⟨fun id b hb => ?_, fun id v hv => ?_, fun i j v v' r hij hi hj hr => ?_, fun i v r hi => by obtain ⟨j, hj⟩ := hold i v hi; exact hH.pm j v r hj, hH.os, hH.tape, hH.output, hH.size, hH.keep, hH.fresh, fun id v h1 hv => ?_, fun i v r hi => by obtain ⟨j, hj⟩ := hold i v hi; exact hH.nf j v r hj, hH.forb⟩, ?_⟩
  · rcases look_two hb with ⟨rfl, rfl⟩ | ⟨rfl, rfl⟩
    · refine ⟨v3, by simp [ι2, h3], ?_⟩
      rw [← ren2_tbl]
      exact hB3.up hF hρ
    · refine ⟨v9, by simp [ι2, h9], ?_⟩
      rw [← ren_map [(3, 4), (902, 903)] m]
      exact hB9.up hF hρ
  · rcases h2of id v hv with ⟨rfl, _⟩ | ⟨rfl, _⟩
    · exact ⟨_, rfl⟩
    · exact ⟨_, rfl⟩
  · rcases h2of i v hi with ⟨rfl, h5⟩ | ⟨rfl, h5⟩ <;> rcases h2of j v' hj with ⟨rfl, h6⟩ | ⟨rfl, h6⟩
    · exact absurd rfl hij
    · exact hH.inj 3 902 v v' r (by omega) h5 h6 hr
    · exact hH.inj 902 3 v v' r (by omega) h5 h6 hr
    · exact absurd rfl hij
  · rcases h2of id v hv with ⟨rfl, _⟩ | ⟨rfl, _⟩ <;> omega
  · exact hv.up hF hρ
end
set_option linter.unusedSimpArgs false
attribute [local irreducible] AWp AOps AQ AYield AEff ACall AWk AAny AAt AThen AIn APost NoPanic
section
variable {P : Program} {nt : Nat} {Q : Post} {e : Env} {h : Heap} {o : Oper} {ops : Array Oper} {rest : List Oper} {T : List Nat}
theorem O_cNew2 {f : FuncId} {args : Array Operand} {ats : Array TypeId} {cs : List AVal} {d : Nat} {u : Nat → Int} {l : List (Pfx × Int)} (H : ACall P f cs [] (fun c' h' => c' = .ptr 4 0 ∧ h' = [(4, tblB 903 u), (903, mapB l)])) (hw : awant ops e o = some true) (hdst : o.dst = some d) (hd : Nat.blt d nt = true)
    (ho : o.op = .call { callee := .value (.func f), args := args, argTypes := ats }) (hx : aevs e args.toList = some cs) (HK : AOps P nt ops Q rest ((d, .ptr 4 0) :: killEs [4, 903] e) ((4, tblB 903 u) :: (903, mapB l) :: killHs [4, 903] h)) : AOps P nt ops Q (o :: rest) e h :=
  O_eff (T := []) hw (E_callQ ho hdst hx H hd fun c' h' ⟨h1, h2⟩ => by
    subst h1 h2
    refine ⟨rfl, fun id b j hb hh => ?_, fun j hj => ?_⟩
    · by_cases h3 : 4 = id
      · subst h3
        rw [look_cons_same] at hb
        cases hb
        have hs : hasL j (usedA u) = false := shutL_has j (usedA u) rfl
        have : (903 == j) = true := by
          have h9 : ((AVal.mp 903).has j || hasL j (usedA u)) = true := hh
          rw [hs, Bool.or_false] at h9
          exact h9
        have : 903 = j := by simpa using this
        subst this
        rfl
      · rw [look_cons_ne _ _ h3] at hb
        by_cases h4 : 903 = id
        · subst h4
          rw [look_cons_same] at hb
          cases hb
          have h9 : (ents pfxA intA l).any (fun p => p.1.has j || p.2.has j) = true := hh
          obtain ⟨p, hp, h10⟩ := List.any_eq_true.1 h9
          obtain ⟨q, _, rfl⟩ := List.mem_map.1 hp
          rw [shut_has j (pfxA q.1) rfl, shut_has j (intA q.2) rfl] at h10
          cases h10
        · rw [look_cons_ne _ _ h4] at hb; cases hb
    · have h9 : (4 == j) = true := hj
      have : 4 = j := by simpa using h9
      subst this
      rfl) fun e' h' ⟨c, h2, ⟨h3, h4⟩, h5, h6⟩ => by subst h3 h4 h5 h6; exact HK
/-- A call that gets a table of ours, at its turn in a region that draws. -/
theorem T_cTbl {f : FuncId} {args : Array Operand} {ats : Array TypeId} {cs0 cs : List AVal} {c : AVal} {d fuel n : Nat} {listed : Array Bool} (i j : Nat) (hij : i ≠ j) {u u' : Nat → Int} {l l' : List (Pfx × Int)}
    (H : ACall P f cs [(1000, tblB 1001 u), (1001, mapB l)] (fun c' h' => c' = c ∧ h' = [(1000, tblB 1001 u'), (1001, mapB l')])) (hn : ops[n]? = some o) (hw : awant ops e o = some true) (hdst : o.dst = some d) (hd : Nat.blt d nt = true) (ho : o.op = .call { callee := .value (.func f), args := args, argTypes := ats }) (hx : aevs e args.toList = some cs0)
    (hok : cs.all (okV [(1000, i), (1001, j)]) = true) (hcs : cs.map (renV [(1000, i), (1001, j)]) = cs0) (hi : look h i = some (tblB j u)) (hj : look h j = some (mapB l)) (hT1 : T.contains i = true) (hT2 : T.contains j = true)
    (HK : AAny P nt ops Q T fuel (listed.setIfInBounds n true) ((d, renV [(1000, i), (1001, j)] c) :: e) ((i, tblB j u') :: (j, mapB l') :: h)) : AAt P nt ops Q T fuel listed n e h := by
  refine T_eff hn hw (E_callP (h0 := [(1000, tblB 1001 u), (1001, mapB l)]) [(1000, i), (1001, j)] ho hdst hx hcs (fun c hc => List.all_eq_true.1 hok c hc) ⟨⟨i, _, rfl, hi, ren_tbl i j u, ok_tbl i j u⟩, ⟨j, _, rfl, hj, ren_map _ l, ok_map _ l⟩, trivial⟩ (fun p k h1 => ?_) (fun p p' k h1 h2 => ?_) H hd (fun p k h1 => ?_) (fun c' h' ⟨_, hh⟩ p k h1 => ?_)) fun e' h' ⟨c', h2, ⟨h3, h4⟩, h5, h6⟩ => ?_
  · rcases look_pass h1 with ⟨h3, h4⟩ | ⟨h3, h4⟩ <;> subst h3 <;> exact ⟨by omega, rfl⟩
  · rcases look_pass h1 with ⟨h3, h4⟩ | ⟨h3, h4⟩ <;> rcases look_pass h2 with ⟨h5, h6⟩ | ⟨h5, h6⟩ <;> omega
  · rcases look_pass h1 with ⟨h3, h4⟩ | ⟨h3, h4⟩ <;> subst h4 <;> assumption
  · subst hh
    rcases look_pass h1 with ⟨h3, h4⟩ | ⟨h3, h4⟩ <;> subst h3 <;> rfl
  · subst h3 h4 h5 h6
    have e1 : renH [(1000, i), (1001, j)] [(1000, tblB 1001 u'), (1001, mapB l')] ++ h = (i, tblB j u') :: (j, mapB l') :: h := by
      show (i, renB _ (tblB 1001 u')) :: (j, renB _ (mapB l')) :: ([] ++ h) = _
      rw [ren_tbl, ren_map]
      rfl
    rw [e1]
    exact HK
end
end Go.Proofs.Ytaecjmjdhbjbkaa.Ab

namespace Go.Proofs.Ytaecjmjdhbjbkaa
set_option linter.unusedVariables false
open Go.RowKit Go.Sort

def rcs (l : List Row) : List Value := l.flatMap fun r => [.int .u32 r.1.a, .int .i64 r.1.b, .int .i64 r.2]
theorem rcs_nil : rcs [] = [] := rfl
theorem rcs_cons (r : Row) (l : List Row) : rcs (r :: l) = .int .u32 r.1.a :: .int .i64 r.1.b :: .int .i64 r.2 :: rcs l := rfl
theorem rcs_append (l m : List Row) : rcs (l ++ m) = rcs l ++ rcs m := by simp [rcs]
theorem rcs_push (l : List Row) (r : Row) : rcs l ++ [.int .u32 r.1.a, .int .i64 r.1.b, .int .i64 r.2] = rcs (l ++ [r]) := by rw [rcs_append]; rfl
theorem rcs_length (l : List Row) : (rcs l).length = l.length * 3 := by
  induction l with
  | nil => rfl
  | cons p l ih => rw [rcs_cons]; simp [ih]; omega
theorem rcs_get (l : List Row) (i : Nat) (h : i < l.length) : (rcs l)[3 * i]? = some (.int .u32 l[i].1.a) ∧ (rcs l)[3 * i + 1]? = some (.int .i64 l[i].1.b) ∧ (rcs l)[3 * i + 2]? = some (.int .i64 l[i].2) := by
  induction l generalizing i with
  | nil => simp at h
  | cons p l ih =>
    rw [rcs_cons]
    match i with
    | 0 => simp
    | i + 1 =>
      have := ih i (by simpa using h)
      rw [show 3 * (i + 1) = (3 * i + 2) + 1 by omega]
      simpa using this
abbrev RdR (w : World) (v : Value) (l : List Row) : Prop := Rd w v l.length 3 (rcs l)
theorem Rd.triple {w : World} {b o : Nat} {l : List Row} (h : ∀ j u, (rcs l)[j]? = some u → w.cell? ⟨b, o + j, none⟩ = some u) (i : Nat) (hi : i < l.length) :
    w.cell? ⟨b, o + i * 3, none⟩ = some (.int .u32 l[i].1.a) ∧ w.cell? ⟨b, o + i * 3 + 1, none⟩ = some (.int .i64 l[i].1.b) ∧ w.cell? ⟨b, o + i * 3 + 2, none⟩ = some (.int .i64 l[i].2) := by
  have := rcs_get l i hi
  have e : i * 3 = 3 * i := by omega
  exact ⟨by rw [e]; exact h _ _ this.1, by rw [e, Nat.add_assoc]; exact h _ _ this.2.1, by rw [e, Nat.add_assoc]; exact h _ _ this.2.2⟩

/-! ### Put, plainly -/
/-- What a round of Put does with the row x. -/
def putStep (p : Pfx) (v : Int) (s : List Row × Bool) (x : Row) : List Row × Bool :=
  let c := cmpP p x.1
  let out := if c ≤ 0 ∧ s.2 = false then s.1 ++ [(p, v)] else s.1
  (if c = 0 then out else out ++ [x], s.2 || decide (c ≤ 0))
def putFold (l : List Row) (p : Pfx) (v : Int) : List Row × Bool := l.foldl (putStep p v) ([], false)
def putR (l : List Row) (p : Pfx) (v : Int) : List Row :=
  if chk p = 0 then (let s := putFold l p v; if s.2 then s.1 else s.1 ++ [(p, v)]) else l
theorem putFold_step (l : List Row) (p : Pfx) (v : Int) (k : Nat) (h : k < l.length) : putFold (l.take (k + 1)) p v = putStep p v (putFold (l.take k) p v) l[k] := by
  unfold putFold
  rw [List.take_succ_eq_append_getElem h, List.foldl_append]; rfl
theorem putFold_len (l : List Row) (p : Pfx) (v : Int) : (putFold l p v).1.length + (if (putFold l p v).2 then 0 else 1) ≤ l.length + 1 := by
  unfold putFold
  have key : ∀ (l : List Row) (s : List Row × Bool), (l.foldl (putStep p v) s).1.length + (if (l.foldl (putStep p v) s).2 then 0 else 1) ≤ l.length + s.1.length + (if s.2 then 0 else 1) := by
    intro l
    induction l with
    | nil => intro s; rcases s with ⟨o, d⟩; cases d <;> simp
    | cons x l ih =>
      intro s
      refine Nat.le_trans (ih _) ?_
      unfold putStep
      rcases s with ⟨out, d⟩
      generalize cmpP p x.1 = c
      rcases d <;> by_cases h1 : c ≤ 0 <;> by_cases h2 : c = 0 <;> simp [h1, h2] <;> omega
  have := key l ([], false)
  simpa using this
theorem rowT : RowT Try.prog 57 80 3 24 := by
  refine RowT.of (z := .agg #[.int .u32 0, .int .i64 0, .int .i64 0]) Try.underlying57 (by kernel_rfl) rfl (by omega)

theorem putStep_eq (p : Pfx) (v : Int) (xs : List Row) (d : Bool) (x : Row) (r : Int) (hr : cmpP p x.1 = r) :
    putStep p v (xs, d) x = (if r = 0 then (if r ≤ 0 ∧ d = false then xs ++ [(p, v)] else xs) else (if r ≤ 0 ∧ d = false then xs ++ [(p, v)] else xs) ++ [x], d || decide (r ≤ 0)) := by
  unfold putStep
  rw [hr]

/-- Rows handed back in memory that is the callee's or the caller's. -/
def GotR (w : World) (l : List Row) (n : Int) (e : Ending) (w' : World) : Prop := ∃ v, e = .returned (.tuple #[v, .int .i64 n]) ∧ RdR w' v l ∧ Below w.heap.size w w'

theorem refPut_any (va : Value) (l : List Row) (p : Pfx) (v : Int) (w : World) (hl : RdR w va l) (hp : p.ok) (hn : l.length ≤ 1000000) :
    Calls Try.prog 28 #[va, p.v, .int .i64 v] w (GotR w (putR l p v) (chk p)) := by
  have hC := fun W => refCheck_any p W hp
  obtain ⟨k0, k1⟩ : Kn (w.alloc (.cells #[.int .u32 p.a, .int .i64 p.b] 26)) w.heap.size 0 (.int .u32 p.a) ∧ Kn (w.alloc (.cells #[.int .u32 p.a, .int .i64 p.b] 26)) w.heap.size 1 (.int .i64 p.b) := ⟨Kn.new rfl, Kn.new rfl⟩
  have HK0 := Lib.hid ((Below.refl w.heap.size w).alloc (Nat.le_refl _) (.cells #[.int .u32 p.a, .int .i64 p.b] 26))
  by_cases hg : chk p = 0
  · rw [hg] at hC ⊢
    obtain ⟨R, hR⟩ : ∃ R, putR l p v = R := ⟨_, rfl⟩
    rw [hR]
    unfold putR at hR
    rw [if_pos hg] at hR
    have HR := Lib.hid hR
    clear hR hg
    have hcmp := fun q W => refCmp_any p q W
    obtain ⟨ao, ca, rfl, -, hca⟩ := hl
    obtain ⟨a, b⟩ := p
    dsimp only at *
    go_enter Try.func28, Try.ntmps28
    go_wp2_with fail
    refine (hC _).mono ?_
    rintro e w1 ⟨rfl, hb1⟩
    have K0 := k0.keep hb1
    have K1 := k1.keep hb1
    have HB := Lib.hid (below_trans HK0.out hb1)
    clear k0 k1 hb1 HK0
    go_wp2_with fail
    go_loopw [9, 10, 11] (fun out dn i wr => ∃ k : Nat, i = .int .i64 k ∧ k ≤ l.length ∧ ∃ xs d, putFold (l.take k) ⟨a, b⟩ v = (xs, d) ∧ dn = .bool d ∧ wr.ownsRow w1.heap.size 80 3 out xs.length (rcs xs) ∧ Kp [] w1 wr) (fun _ _ i _ => l.length - (intOf i).toNat)
    case atStart => exact ⟨0, rfl, Nat.zero_le _, [], false, rfl, rfl, World.ownsRow_nil _ _ _ _, Kp.refl _ _⟩
    case round =>
      obtain ⟨k, rfl, hk, xs, d, hf, rfl, hown, hkp⟩ := hrel
      rcases Nat.lt_or_ge k l.length with hlt | hge
      · obtain ⟨b1, o1, rfl, h1⟩ := hca (by omega)
        have T3 := Rd.triple h1 k (by omega)
        have hstep := putFold_step l ⟨a, b⟩ v k hlt
        rw [hf] at hstep
        obtain ⟨⟨⟨c, e⟩, x⟩, hx⟩ : ∃ x, l[k] = x := ⟨_, rfl⟩
        rw [hx] at T3 hstep
        dsimp only at T3
        have HS := Lib.hid (And.intro hstep (And.intro hx hf))
        clear hstep hx hf
        have hlow0 : b1 < w.heap.size := block_lt_of_cell T3.1
        have hlow : b1 < w1.heap.size := Nat.lt_of_lt_of_le hlow0 (Below.size HB.out)
        have hlen : xs.length ≤ 1000001 := by
          have := putFold_len (l.take k) ⟨a, b⟩ v
          rw [HS.out.2.2, List.length_take] at this
          dsimp only at this
          omega
        have bl := hkp.below
        have hcm := fun W => hcmp ⟨c, e⟩ W
        obtain ⟨r, hr⟩ : ∃ r, cmpP ⟨a, b⟩ ⟨c, e⟩ = r := ⟨_, rfl⟩
        rw [hr] at hcm
        have c0 := kc bl K0.1
        have c1 := kc bl K1.1
        have c2 := kc bl (kc HB.out T3.1)
        have c3 := kc bl (kc HB.out T3.2.1)
        have c4 := kc bl (kc HB.out T3.2.2)
        have q0 := cell_regrown c0
        have q1 := cell_regrown c1
        have q2 := cell_regrown c2
        have q3 := cell_regrown c3
        go_wp2_with fail
        refine wp_region_quiet_below (by kernel_rfl) (by kernel_rfl) ?_
        repeat (first | go_big_quiet_step (((go_at_call 15; exact Ret.q0 hcm))) | quiet_step (((go_at_call 15; exact Ret.q0 hcm))))
        refine wpQuiet_nil ?_
        intro wq hq'
        have hq := below_of_regrown hq'
        clear hq'
        have hown2 := owns_kp hown (Kp.of_below hq) (by simp)
        have hkp2 := hkp.more hq
        have hsz := hkp2.size
        replace c0 := kc hq c0
        replace c1 := kc hq c1
        replace c2 := kc hq c2
        replace c3 := kc hq c3
        replace c4 := kc hq c4
        have hlw : w.heap.size < w1.heap.size := K0.lt
        clear q0 q1 q2 q3 hown hkp hq bl hcm
        have HR2 := Lib.hid hr
        clear hr
        rcases d with _ | _
        · rcases Int.lt_trichotomy r 0 with hr0 | rfl | hr0
          · have hr1 : r ≤ 0 := by omega
            have hr2 : r ≠ 0 := by omega
            go_wp2_with (first | (at_builtin; refine push1 rowT rfl _ _ rfl _ _ _ _ _ _ _ hown2 rfl rfl rfl (by simp [Value.oneCell']) (by omega) (by omega) hsz ?_; intro v3 w3 hown3 hk3 hn3; have e2 := hk3.push_cell hown2 c2 hlow; have e3 := hk3.push_cell hown2 c3 hlow; have e4 := hk3.push_cell hown2 c4 hlow; have hsz3 := Nat.le_trans hsz hk3.size; have hkp3 := hkp2.push hown2 hk3 (Nat.le_refl _)) | (at_builtin; refine push1 rowT rfl _ _ rfl _ _ _ _ _ _ _ hown3 rfl rfl rfl (by simp [Value.oneCell']) (by omega) (by omega) hsz3 ?_; intro v4 w4 hown4 hk4 hn4; have hkp4 := hkp3.push hown3 hk4 (Nat.le_refl _)))
            go_roundw
            case rel =>
              have st := HS.out.1
              rw [putStep_eq _ _ _ _ _ r HR2.out] at st
              exact ⟨k + 1, by go_num, by omega, xs ++ [(⟨a, b⟩, v)] ++ [(⟨c, e⟩, x)], true, by rw [st]; simp [hr1, hr2], rfl, by simpa [rcs] using hown4, hkp4⟩
            case measure => simp [intOf]; omega
          · go_wp2_with (first | (at_builtin; refine push1 rowT rfl _ _ rfl _ _ _ _ _ _ _ hown2 rfl rfl rfl (by simp [Value.oneCell']) (by omega) (by omega) hsz ?_; intro v3 w3 hown3 hk3 hn3; have e2 := hk3.push_cell hown2 c2 hlow; have e3 := hk3.push_cell hown2 c3 hlow; have e4 := hk3.push_cell hown2 c4 hlow; have hsz3 := Nat.le_trans hsz hk3.size; have hkp3 := hkp2.push hown2 hk3 (Nat.le_refl _)))
            go_roundw
            case rel =>
              have st := HS.out.1
              rw [putStep_eq _ _ _ _ _ 0 HR2.out] at st
              exact ⟨k + 1, by go_num, by omega, xs ++ [(⟨a, b⟩, v)], true, by rw [st]; simp [], rfl, by simpa [rcs] using hown3, hkp3⟩
            case measure => simp [intOf]; omega
          · have hr1 : ¬ r ≤ 0 := by omega
            have hr2 : r ≠ 0 := by omega
            go_wp2_with (first | (at_builtin; refine push1 rowT rfl _ _ rfl _ _ _ _ _ _ _ hown2 rfl rfl rfl (by simp [Value.oneCell']) (by omega) (by omega) hsz ?_; intro v3 w3 hown3 hk3 hn3; have e2 := hk3.push_cell hown2 c2 hlow; have e3 := hk3.push_cell hown2 c3 hlow; have e4 := hk3.push_cell hown2 c4 hlow; have hsz3 := Nat.le_trans hsz hk3.size; have hkp3 := hkp2.push hown2 hk3 (Nat.le_refl _)))
            go_roundw
            case rel =>
              have st := HS.out.1
              rw [putStep_eq _ _ _ _ _ r HR2.out] at st
              exact ⟨k + 1, by go_num, by omega, xs ++ [(⟨c, e⟩, x)], false, by rw [st]; simp [hr1, hr2], rfl, by simpa [rcs] using hown3, hkp3⟩
            case measure => simp [intOf]; omega
        · by_cases hr2 : r = 0
          · subst hr2
            go_wp2_with fail
            go_roundw
            case rel =>
              have st := HS.out.1
              rw [putStep_eq _ _ _ _ _ 0 HR2.out] at st
              exact ⟨k + 1, by go_num, by omega, xs, true, by rw [st]; simp [], rfl, by simpa [rcs] using hown2, hkp2⟩
            case measure => simp [intOf]; omega
          · go_wp2_with (first | (at_builtin; refine push1 rowT rfl _ _ rfl _ _ _ _ _ _ _ hown2 rfl rfl rfl (by simp [Value.oneCell']) (by omega) (by omega) hsz ?_; intro v3 w3 hown3 hk3 hn3; have e2 := hk3.push_cell hown2 c2 hlow; have e3 := hk3.push_cell hown2 c3 hlow; have e4 := hk3.push_cell hown2 c4 hlow; have hsz3 := Nat.le_trans hsz hk3.size; have hkp3 := hkp2.push hown2 hk3 (Nat.le_refl _)))
            all_goals (
              have st := HS.out.1
              rw [putStep_eq _ _ _ _ _ r HR2.out] at st
              refine ⟨⟨k + 1, by go_num, by omega, xs ++ [(⟨c, e⟩, x)], true, by rw [st]; simp [hr2], rfl, by simpa [rcs] using hown3, hkp3⟩, ?_⟩
              simp [intOf]; omega)
      · have hkk : l.take k = l := List.take_of_length_le hge
        rw [hkk] at hf
        have hlen : xs.length ≤ 1000001 := by
          have := putFold_len l ⟨a, b⟩ v
          rw [hf] at this
          dsimp only at this
          omega
        have hRR := HR.out
        rw [hf] at hRR
        dsimp only at hRR
        have bl := hkp.below
        have c0 := kc bl K0.1
        have c1 := kc bl K1.1
        have hsz := hkp.size
        have hlw : w.heap.size < w1.heap.size := K0.lt
        have HRR := Lib.hid hRR
        clear hRR hf hkk bl
        rcases d with _ | _
        · go_wp2_with (first | (at_builtin; refine push1 rowT rfl _ _ rfl _ _ _ _ _ _ _ hown rfl rfl rfl (by simp [Value.oneCell']) (by omega) (by omega) hsz ?_; intro v3 w3 hown3 hk3 hn3; have hkp3 := hkp.push hown hk3 (Nat.le_refl _)))
          go_ret2
          have e0 := HRR.out
          rw [if_neg (by decide)] at e0
          subst e0
          exact ⟨v3, rfl, by have := Rd.of_owns hown3; simpa [RdR, rcs] using this, below_trans HB.out hkp3.below⟩
        · go_wp2_with fail
          go_ret2
          have e0 := HRR.out
          rw [if_pos trivial] at e0
          subst e0
          exact ⟨_, rfl, Rd.of_owns hown, below_trans HB.out hkp.below⟩
  · have hR : putR l p v = l := by unfold putR; rw [if_neg hg]
    rw [hR]
    clear hR
    have hc2 : (chk p == 0) = false := by simpa using hg
    obtain ⟨n, hnn⟩ : ∃ n, chk p = n := ⟨_, rfl⟩
    rw [hnn] at hC hc2 ⊢
    obtain ⟨ao, ca, rfl, h1, h2⟩ := hl
    obtain ⟨a, b⟩ := p
    have hn0 : n ≠ 0 := by simpa using hc2
    clear hc2 hg hnn
    dsimp only at *
    go_enter Try.func28, Try.ntmps28
    go_wp2_with fail
    refine (hC _).mono ?_
    rintro e w1 ⟨rfl, hb1⟩
    have HB := below_trans HK0.out hb1
    go_wp2_with fail
    go_ret2
    exact ⟨_, rfl, Rd.kp ⟨_, _, rfl, h1, h2⟩ (Kp.of_below HB), HB⟩
end Go.Proofs.Ytaecjmjdhbjbkaa

namespace Go.Proofs.Ytaecjmjdhbjbkaa
set_option linter.unusedVariables false
open Go.Sort

/-- In order, no prefix twice. -/
def Ord (l : List Row) : Prop := l.Pairwise fun x y => ltOf cmpP x.1 y.1 = true
theorem cmpP_zero (p q : Pfx) : cmpP p q = 0 ↔ p = q := by
  unfold cmpP
  split
  · rename_i h
    constructor
    · intro h2; omega
    · rintro rfl; omega
  · split
    · rename_i h; simp [h]
    · rename_i h; simp [h]
theorem cmpP_neg (p q : Pfx) : cmpP p q < 0 ↔ ltOf cmpP p q = true := by unfold ltOf; simp
theorem ltP_irrefl (p : Pfx) : ltOf cmpP p p = false := swoP.irrefl p
theorem ltP_trans {p q r : Pfx} (h1 : ltOf cmpP p q = true) (h2 : ltOf cmpP q r = true) : ltOf cmpP p r = true := swoP.trans p q r h1 h2
theorem ltP_tri (p q : Pfx) (h1 : ¬ cmpP p q < 0) (h2 : cmpP p q ≠ 0) : ltOf cmpP q p = true := by
  rw [cmpP_neg, Bool.not_eq_true] at h1
  rw [Ne, cmpP_zero] at h2
  cases h : ltOf cmpP q p
  · exact absurd (antiP p q h1 h) h2
  · rfl
/-- Put, by recursion. -/
def putRec (p : Pfx) (v : Int) : List Row → List Row
  | [] => [(p, v)]
  | x :: t => if cmpP p x.1 < 0 then (p, v) :: x :: t else if cmpP p x.1 = 0 then (p, v) :: t else x :: putRec p v t
theorem fold_done (p : Pfx) (v : Int) (t : List Row) : ∀ acc, (∀ y ∈ t, ltOf cmpP p y.1 = true) → t.foldl (putStep p v) (acc, true) = (acc ++ t, true) := by
  induction t with
  | nil => intro acc _; simp
  | cons x t ih =>
    intro acc h
    have hx := (cmpP_neg p x.1).2 (h x (by simp))
    rw [List.foldl_cons, putStep_eq _ _ _ _ _ _ rfl, if_neg (by omega), if_neg (by simp)]
    rw [Bool.true_or, ih _ (fun y hy => h y (by simp [hy]))]
    simp
theorem putStep_lt (p : Pfx) (v : Int) (xs : List Row) (x : Row) (h : cmpP p x.1 < 0) : putStep p v (xs, false) x = (xs ++ [(p, v)] ++ [x], true) := by
  rw [putStep_eq _ _ _ _ _ _ rfl]
  have h1 : cmpP p x.1 ≤ 0 := by omega
  have h2 : cmpP p x.1 ≠ 0 := by omega
  simp [h1, h2]
theorem putStep_zero (p : Pfx) (v : Int) (xs : List Row) (x : Row) (h : cmpP p x.1 = 0) : putStep p v (xs, false) x = (xs ++ [(p, v)], true) := by
  rw [putStep_eq _ _ _ _ _ _ rfl]
  simp [h]
theorem putStep_gt (p : Pfx) (v : Int) (xs : List Row) (x : Row) (h1 : ¬ cmpP p x.1 < 0) (h2 : ¬ cmpP p x.1 = 0) : putStep p v (xs, false) x = (xs ++ [x], false) := by
  rw [putStep_eq _ _ _ _ _ _ rfl]
  have h3 : ¬ cmpP p x.1 ≤ 0 := by omega
  simp [h2, h3]
theorem fold_rec (p : Pfx) (v : Int) (t : List Row) : ∀ acc, Ord t → (if (t.foldl (putStep p v) (acc, false)).2 then (t.foldl (putStep p v) (acc, false)).1 else (t.foldl (putStep p v) (acc, false)).1 ++ [(p, v)]) = acc ++ putRec p v t := by
  induction t with
  | nil => intro acc _; simp [putRec]
  | cons x t ih =>
    intro acc h
    have hp := List.pairwise_cons.1 h
    rw [List.foldl_cons]
    by_cases h1 : cmpP p x.1 < 0
    · have hl := (cmpP_neg _ _).1 h1
      have : ∀ y ∈ t, ltOf cmpP p y.1 = true := fun y hy => ltP_trans hl (hp.1 y hy)
      rw [putStep_lt _ _ _ _ h1, fold_done _ _ _ _ this]
      simp [putRec, h1]
    · by_cases h2 : cmpP p x.1 = 0
      · have he := (cmpP_zero _ _).1 h2
        have : ∀ y ∈ t, ltOf cmpP p y.1 = true := fun y hy => by rw [he]; exact hp.1 y hy
        rw [putStep_zero _ _ _ _ h2, fold_done _ _ _ _ this]
        simp [putRec, h2]
      · rw [putStep_gt _ _ _ _ h1 h2, ih (acc ++ [x]) hp.2]
        simp [putRec, h1, h2]
theorem putR_rec (l : List Row) (p : Pfx) (v : Int) (hp : chk p = 0) (hl : Ord l) : putR l p v = putRec p v l := by
  unfold putR putFold
  rw [if_pos hp]
  have := fold_rec p v l [] hl
  simpa using this
theorem putRec_mem (p : Pfx) (v : Int) (l : List Row) (hl : Ord l) (r : Row) : r ∈ putRec p v l ↔ r = (p, v) ∨ (r ∈ l ∧ r.1 ≠ p) := by
  induction l with
  | nil => simp [putRec]
  | cons x t ih =>
    have hp := List.pairwise_cons.1 hl
    unfold putRec
    split
    · rename_i h1
      have hl1 := (cmpP_neg _ _).1 h1
      constructor
      · intro h
        rcases List.mem_cons.1 h with rfl | h
        · exact .inl rfl
        · refine .inr ⟨h, ?_⟩
          intro hr
          rcases List.mem_cons.1 h with rfl | h
          · rw [hr, ltP_irrefl] at hl1; cases hl1
          · have := ltP_trans hl1 (hp.1 r h); rw [hr, ltP_irrefl] at this; cases this
      · rintro (rfl | ⟨h, _⟩)
        · simp
        · exact List.mem_cons_of_mem _ h
    · split
      · rename_i h1 h2
        have he := (cmpP_zero _ _).1 h2
        constructor
        · intro h
          rcases List.mem_cons.1 h with rfl | h
          · exact .inl rfl
          · refine .inr ⟨by simp [h], ?_⟩
            rintro hr
            have := hp.1 r h
            rw [hr, he, ltP_irrefl] at this; cases this
        · rintro (rfl | ⟨h, hn⟩)
          · simp
          · rcases List.mem_cons.1 h with rfl | h
            · exact absurd he.symm hn
            · exact List.mem_cons_of_mem _ h
      · rename_i h1 h2
        have hl1 := ltP_tri _ _ h1 h2
        rw [List.mem_cons, ih hp.2]
        constructor
        · rintro (rfl | rfl | ⟨h, hn⟩)
          · refine .inr ⟨by simp, ?_⟩
            intro hr; rw [hr, ltP_irrefl] at hl1; cases hl1
          · exact .inl rfl
          · exact .inr ⟨by simp [h], hn⟩
        · rintro (rfl | ⟨h, hn⟩)
          · exact .inr (.inl rfl)
          · rcases List.mem_cons.1 h with rfl | h
            · exact .inl rfl
            · exact .inr (.inr ⟨h, hn⟩)
theorem putRec_ord (p : Pfx) (v : Int) (l : List Row) (hl : Ord l) : Ord (putRec p v l) := by
  induction l with
  | nil => exact List.pairwise_singleton _ _
  | cons x t ih =>
    have hp := List.pairwise_cons.1 hl
    unfold putRec
    split
    · rename_i h1
      have hl1 := (cmpP_neg _ _).1 h1
      refine List.pairwise_cons.2 ⟨fun y hy => ?_, hl⟩
      rcases List.mem_cons.1 hy with rfl | hy
      · exact hl1
      · exact ltP_trans hl1 (hp.1 y hy)
    · split
      · rename_i h1 h2
        have he := (cmpP_zero _ _).1 h2
        exact List.pairwise_cons.2 ⟨fun y hy => by show ltOf cmpP p y.1 = true; rw [he]; exact hp.1 y hy, hp.2⟩
      · rename_i h1 h2
        have hl1 := ltP_tri _ _ h1 h2
        refine List.pairwise_cons.2 ⟨fun y hy => ?_, ih hp.2⟩
        rcases (putRec_mem p v t hp.2 y).1 hy with rfl | ⟨h, _⟩
        · exact hl1
        · exact hp.1 y h
theorem putR_ord (l : List Row) (p : Pfx) (v : Int) (hl : Ord l) : Ord (putR l p v) := by
  by_cases hp : chk p = 0
  · rw [putR_rec l p v hp hl]; exact putRec_ord p v l hl
  · unfold putR; rw [if_neg hp]; exact hl
theorem putR_mem (l : List Row) (p : Pfx) (v : Int) (hp : chk p = 0) (hl : Ord l) (r : Row) : r ∈ putR l p v ↔ r = (p, v) ∨ (r ∈ l ∧ r.1 ≠ p) := by
  rw [putR_rec l p v hp hl]; exact putRec_mem p v l hl r
end Go.Proofs.Ytaecjmjdhbjbkaa

namespace Go.Proofs.Ytaecjmjdhbjbkaa.Ab
set_option linter.unusedVariables false
open Go.RowKit Go.Sort

theorem ord_nd {l : List Row} (h : Ord l) : l.Nodup := h.imp fun {a b} h1 h2 => by rw [h2, ltP_irrefl] at h1; cases h1
theorem ord_ext {l m : List Row} (h1 : Ord l) (h2 : Ord m) (h : ∀ r, r ∈ l ↔ r ∈ m) : l = m :=
  List.Perm.eq_of_pairwise (le := fun x y : Row => ltOf cmpP x.1 y.1 = true) (fun a b _ _ h1 h2 => absurd (ltP_trans h1 h2) (by rw [ltP_irrefl]; simp)) h1 h2 ((List.perm_ext_iff_of_nodup (ord_nd h1) (ord_nd h2)).2 h)
theorem ord_keys {l : List Row} (h : Ord l) : (l.map (·.1)).Nodup := by
  unfold List.Nodup
  rw [List.pairwise_map]
  exact h.imp fun {a b} h1 h2 => by rw [h2, ltP_irrefl] at h1; cases h1
theorem sortP_strict {l : List Pfx} (hn : l.Nodup) : (sortP l).Pairwise fun x y => ltOf cmpP x y = true := by
  have h1 : (sortP l).Pairwise fun x y => (!ltOf cmpP y x) = true := by
    refine List.pairwise_mergeSort (fun x y z h1 h2 => ?_) (fun x y => ?_) l
    · simp only [Bool.not_eq_true'] at *
      exact swoP.3 _ _ _ h2 h1
    · cases hc : ltOf cmpP y x with
      | false => simp [hc]
      | true =>
        have := cmpP_lt y x |>.1 hc
        have h2 : ltOf cmpP x y = false := (cmpP_lt_false x y).2 (by omega)
        simp [h2]
  have h2 : (sortP l).Nodup := (List.mergeSort_perm _ _).nodup_iff.2 hn
  refine (h1.and h2).imp fun {x y} ⟨h3, h4⟩ => ?_
  simp only [Bool.not_eq_true'] at h3
  cases hc : ltOf cmpP x y with
  | true => rfl
  | false => exact absurd (antiP x y hc h3) h4
/-- The rows are what the table has, in order. -/
structure Holds (s : TS) (R : List Row) : Prop where
  ord : Ord R
  mem : ∀ p z, (p, z) ∈ R ↔ aget s.2 p = some z
/-- A table whose counters are right. -/
structure POk (s : TS) (k : Nat) : Prop where
  nd : (s.2.map (·.1)).Nodup
  good : ∀ p ∈ s.2, good p.1
  ok : ∀ p ∈ s.2, p.1.ok
  cnt : ∀ j : Nat, s.1 j = (((s.2.map (·.1)).countP fun q => q.b.toNat == j : Nat) : Int)
  len : s.2.length ≤ k
theorem POk.tok {s : TS} {k : Nat} (T : POk s k) : TOk s k := by
  refine ⟨T.nd, T.good, T.ok, fun p hp => ?_, fun j => ?_, T.len⟩
  · rw [T.cnt]
    have : 0 < (s.2.map (·.1)).countP fun q => q.b.toNat == p.1.b.toNat := List.countP_pos_iff.2 ⟨p.1, List.mem_map.2 ⟨p, hp, rfl⟩, by simp⟩
    omega
  · rw [T.cnt]
    have h1 := List.countP_le_length (p := fun q : Pfx => q.b.toNat == j) (l := s.2.map (·.1))
    have h2 := T.len
    rw [List.length_map] at h1
    omega
theorem POk.mono {s : TS} {k j : Nat} (T : POk s k) (h : k ≤ j) : POk s j := ⟨T.nd, T.good, T.ok, T.cnt, Nat.le_trans T.len h⟩
theorem POk.zero : POk (fun _ => 0, []) 0 := ⟨.nil, by simp, by simp, by simp, Nat.le_refl _⟩
theorem Holds.zero : Holds (fun _ => 0, []) [] := ⟨.nil, fun p z => ⟨fun h => (by cases h), fun h => absurd (mem_of_aget h) (by simp)⟩⟩
section
variable {s : TS} {R : List Row} {k : Nat}
theorem Holds.perm (T : POk s k) (H : Holds s R) : R.Perm s.2 := by
  have hn : s.2.Nodup := by
    have := T.nd
    unfold List.Nodup at this ⊢
    rw [List.pairwise_map] at this
    exact this.imp fun {a b} h1 h2 => h1 (by rw [h2])
  refine (List.perm_ext_iff_of_nodup (ord_nd H.ord) hn).2 fun r => ?_
  rw [show r = (r.1, r.2) from rfl, H.mem, aget_iff T.nd]
theorem Holds.len (T : POk s k) (H : Holds s R) : s.2.length = R.length := (H.perm T).length_eq.symm
theorem Holds.lek (T : POk s k) (H : Holds s R) : R.length ≤ k := by rw [← H.len T]; exact T.len
theorem Holds.by (T : POk s k) (H : Holds s R) (is : Pfx → Bool) : rowsBy s.2 is = R.filter fun r => is r.1 := by
  unfold rowsBy rowsOf
  refine ord_ext ?_ (H.ord.filter _) fun r => ?_
  · unfold Ord
    rw [List.pairwise_map]
    exact sortP_strict (T.nd.filter _)
  · rw [List.mem_map, List.mem_filter]
    constructor
    · rintro ⟨p, hp, rfl⟩
      rw [sortP_mem, List.mem_filter] at hp
      obtain ⟨z, hz⟩ := key_iff.1 hp.1
      rw [hz]
      exact ⟨(H.mem p z).2 hz, hp.2⟩
    · rintro ⟨h1, h2⟩
      obtain ⟨p, z⟩ := r
      have hz := (H.mem p z).1 h1
      refine ⟨p, ?_, by rw [hz]; rfl⟩
      rw [sortP_mem, List.mem_filter]
      exact ⟨key_iff.2 ⟨z, hz⟩, h2⟩
theorem Holds.all (T : POk s k) (H : Holds s R) : rowsBy s.2 (fun _ => true) = R := by
  rw [H.by T]
  exact List.filter_eq_self.2 fun _ _ => rfl
/-- Over, by the document's words. -/
def overR (R : List Row) (x : Int) : Nat → List Row
  | 0 => []
  | n + 1 => overR R x n ++ R.filter fun r => decide (r.1.b = (n : Int)) && inB x r.1
theorem overR_mem (R : List Row) (x : Int) (r : Row) : ∀ n : Nat, r ∈ overR R x n ↔ r ∈ R ∧ inB x r.1 = true ∧ 0 ≤ r.1.b ∧ r.1.b < n
  | 0 => by
    refine ⟨fun h => absurd h (by simp [overR]), fun h => ?_⟩
    have h1 := h.2.2.1
    have h2 := h.2.2.2
    omega
  | n + 1 => by
    rw [overR, List.mem_append, overR_mem R x r n, List.mem_filter]
    simp only [Bool.and_eq_true, decide_eq_true_eq]
    constructor
    · rintro (⟨h1, h2, h3, h4⟩ | ⟨h1, h2, h3⟩)
      · exact ⟨h1, h2, h3, by omega⟩
      · exact ⟨h1, h3, by omega, by omega⟩
    · rintro ⟨h1, h2, h3, h4⟩
      by_cases h : r.1.b = (n : Int)
      · exact .inr ⟨h1, h, h2⟩
      · exact .inl ⟨h1, h2, h3, by omega⟩
theorem overR_sorted (T : POk s k) (H : Holds s R) (x : Int) : ∀ n : Nat, (overR R x n).Pairwise fun a b => a.1.b < b.1.b
  | 0 => .nil
  | n + 1 => by
    rw [overR, List.pairwise_append]
    refine ⟨overR_sorted T H x n, ?_, fun a ha b hb => ?_⟩
    · have hin : ∀ r ∈ R, good r.1 := fun r hr => T.good (r.1, r.2) (mem_of_aget ((H.mem r.1 r.2).1 hr))
      have h1 := (ord_keys H.ord)
      unfold List.Nodup at h1
      rw [List.pairwise_map] at h1
      rw [List.pairwise_filter]
      refine (List.Pairwise.imp_of_mem (fun {a b} ha hb hne h3 h4 => ?_) h1)
      simp only [Bool.and_eq_true, decide_eq_true_eq] at h3 h4
      refine absurd ?_ hne
      have e1 := inB_low x a.1 (hin a ha)
      have e2 := inB_low x b.1 (hin b hb)
      rw [h3.2, decide_eq_true_eq] at e1
      rw [h4.2, decide_eq_true_eq] at e2
      obtain ⟨⟨aa, ab⟩, av⟩ := a
      obtain ⟨⟨ba, bb⟩, bv⟩ := b
      dsimp only at *
      have h5 := h3.1
      have h6 := h4.1
      subst h5
      rw [h6] at e2
      rw [← e1, ← e2, h6]
    · rw [overR_mem] at ha
      rw [List.mem_filter] at hb
      simp only [Bool.and_eq_true, decide_eq_true_eq] at hb
      omega
theorem Holds.over (T : POk s k) (H : Holds s R) (x : Int) : rowsOf s.2 (overS s.1 s.2 x 33) = overR R x 33 := by
  have h1 : (rowsOf s.2 (overS s.1 s.2 x 33)).Pairwise fun a b => a.1.b < b.1.b := by
    unfold rowsOf
    rw [List.pairwise_map]
    exact over_sorted _ _ _ _
  have h2 := overR_sorted T H x 33
  have nd : ∀ {l : List Row}, (l.Pairwise fun a b => a.1.b < b.1.b) → l.Nodup := fun h => h.imp fun {a b} h1 h2 => by rw [h2] at h1; omega
  refine List.Perm.eq_of_pairwise (le := fun a b : Row => a.1.b < b.1.b) (fun a b _ _ h1 h2 => by omega) h1 h2 ((List.perm_ext_iff_of_nodup (nd h1) (nd h2)).2 fun r => ?_)
  rw [overR_mem]
  unfold rowsOf
  rw [List.mem_map]
  constructor
  · rintro ⟨p, hp, rfl⟩
    obtain ⟨⟨z, hz⟩, hi⟩ := (over_mem T.tok x p).1 hp
    rw [hz]
    have hg := T.good _ (mem_of_aget hz)
    exact ⟨(H.mem p z).2 hz, hi, hg.1, by have := hg.2.1; dsimp only at this ⊢; omega⟩
  · rintro ⟨h3, h4, _, _⟩
    obtain ⟨p, z⟩ := r
    have hz := (H.mem p z).1 h3
    exact ⟨p, (over_mem T.tok x p).2 ⟨⟨z, hz⟩, h4⟩, by rw [hz]; rfl⟩
theorem Holds.longest (T : POk s k) (H : Holds s R) (x : Int) : longR s.1 s.2 x = match (overR R x 33).getLast? with
    | some r => (r.1, r.2, true)
    | none => (⟨0, 0⟩, 0, false) := by
  rw [← H.over T]
  by_cases h0 : overS s.1 s.2 x 33 = []
  · rw [long_none h0, h0]; rfl
  · obtain ⟨p, z, h1, h2, h3⟩ := long_some h0
    rw [h3]
    unfold rowsOf
    rw [List.getLast?_map, h1]
    simp [h2]
theorem Holds.at (H : Holds s R) (p : Pfx) : aget s.2 p = aget R p := by
  cases h : aget R p with
  | none =>
    cases h2 : aget s.2 p with
    | none => rfl
    | some z => exact absurd rfl (aget_none h _ ((H.mem p z).2 h2))
  | some z => exact (H.mem p z).1 (mem_of_aget h)
theorem POk.put (T : POk s k) (p : Pfx) (v : Int) (hp : p.ok) : POk (putS s p v) (k + 1) := by
  have T2 := T.tok.put p v hp
  refine ⟨T2.nd, T2.good, T2.ok, fun j => ?_, T2.len⟩
  unfold putS
  by_cases hc : chk p = 0
  · rw [if_pos hc]
    dsimp only
    unfold Go.Proofs.Ytaecjmjdhbjbkaa.aput
    cases hm : mget s.2 p with
    | some x =>
      obtain ⟨i, z⟩ := x
      have : (aget s.2 p).isSome = true := by unfold aget; rw [hm]; rfl
      rw [if_pos this]
      dsimp only
      rw [set_keys (mget_some hm)]
      exact T.cnt j
    | none =>
      have : ¬ (aget s.2 p).isSome = true := by unfold aget; rw [hm]; simp
      rw [if_neg this]
      dsimp only
      rw [List.map_append, List.countP_append]
      unfold bump
      rw [T.cnt]
      by_cases hj : j = p.b.toNat
      · subst hj; simp
      · have : (p.b.toNat == j) = false := by simpa using fun h => hj h.symm
        simp [hj, this]
  · rw [if_neg hc]; exact T.cnt j
theorem Holds.put (T : POk s k) (H : Holds s R) (p : Pfx) (v : Int) (hp : p.ok) : Holds (putS s p v) (putR R p v) := by
  by_cases hc : chk p = 0
  · have hg := (chk_eq p).1 hc
    refine ⟨putR_ord R p v H.ord, fun q z => ?_⟩
    rw [putR_mem R p v hc H.ord, putS_get T.tok p v hg]
    by_cases e : q = p
    · subst e
      rw [if_pos rfl]
      simp
      exact ⟨fun h => h.symm, fun h => h.symm⟩
    · rw [if_neg e, ← H.mem]
      constructor
      · rintro (h | h)
        · cases h; exact absurd rfl e
        · exact h.1
      · intro h; exact .inr ⟨h, e⟩
  · have e1 : putR R p v = R := by unfold putR; rw [if_neg hc]
    have e2 : putS s p v = s := by unfold putS; rw [if_neg hc]
    rw [e1, e2]
    exact H
/-- Drop, by the document's words. -/
def dropR (R : List Row) (p : Pfx) : List Row := if chk p = 0 then (R.filter fun r => !decide (r.1 = p)) else R
theorem drop_filter_len (H : Holds s R) (p : Pfx) : ((R.filter fun r => !decide (r.1 = p)).length = R.length) ↔ aget s.2 p = none := by
  rw [H.at, List.length_filter_eq_length_iff]
  constructor
  · intro h
    cases hg : aget R p with
    | none => rfl
    | some z => have := h _ (mem_of_aget hg); simp at this
  · intro h r hr
    have := aget_none h r hr
    simpa using this
theorem dropR_none (H : Holds s R) (p : Pfx) (h : aget s.2 p = none) : (R.filter fun r => !decide (r.1 = p)) = R :=
  List.filter_eq_self.2 fun r hr => by have := aget_none ((H.at p).symm.trans h) r hr; simpa using this
theorem erase_perm {α : Type} : ∀ (l : List α) (i : Nat) (x : α), l[i]? = some x → (x :: l.eraseIdx i).Perm l
  | [], i, x, h => by simp at h
  | a :: l, 0, x, h => by simp at h; subst h; exact .refl _
  | a :: l, i + 1, x, h => by
    have := erase_perm l i x (by simpa using h)
    exact (List.Perm.swap a x _).trans (this.cons a)
theorem POk.drop (T : POk s k) (p : Pfx) : POk (dropS s p) k := by
  unfold dropS
  by_cases hc : chk p = 0
  · rw [if_pos hc]
    by_cases hs : (aget s.2 p).isSome = true
    · rw [if_pos hs]
      obtain ⟨z, hz⟩ := Option.isSome_iff_exists.1 hs
      have hm : ∀ q ∈ Go.Proofs.Ytaecjmjdhbjbkaa.adel s.2 p, q ∈ s.2 := fun q hq => ((mem_adel T.nd).1 hq).2
      cases hg : mget s.2 p with
      | none => unfold aget at hz; rw [hg] at hz; cases hz
      | some x =>
        obtain ⟨i, y⟩ := x
        have hp := erase_perm s.2 i (p, y) (mget_some hg)
        have hd : Go.Proofs.Ytaecjmjdhbjbkaa.adel s.2 p = s.2.eraseIdx i := by unfold Go.Proofs.Ytaecjmjdhbjbkaa.adel; rw [hg]
        refine ⟨adel_nodup T.nd, fun q hq => T.good q (hm q hq), fun q hq => T.ok q (hm q hq), fun j => ?_, ?_⟩
        · dsimp only
          rw [hd]
          have h1 := (hp.map (·.1)).countP_eq fun q : Pfx => q.b.toNat == j
          rw [List.map_cons, List.countP_cons] at h1
          unfold bump
          rw [T.cnt, ← h1]
          by_cases hj : j = p.b.toNat
          · subst hj; simp; omega
          · have : (p.b.toNat == j) = false := by simpa using fun h => hj h.symm
            simp [hj, this]
        · dsimp only
          rw [hd]
          have := hp.length_eq
          have := T.len
          simp at *
          omega
    · rw [if_neg hs]; exact T
  · rw [if_neg hc]; exact T
theorem Holds.drop (T : POk s k) (H : Holds s R) (p : Pfx) : Holds (dropS s p) (dropR R p) := by
  unfold dropS dropR
  by_cases hc : chk p = 0
  · rw [if_pos hc, if_pos hc]
    cases hs : aget s.2 p with
    | some z =>
      rw [if_pos (show (some z).isSome = true from rfl)]
      refine ⟨H.ord.filter _, fun q y => ?_⟩
      dsimp only
      rw [List.mem_filter, aget_adel T.nd, H.mem]
      by_cases e : q = p
      · subst e; simp
      · simp [e]
    | none =>
      rw [if_neg (by simp), dropR_none H p hs]
      exact H
  · rw [if_neg hc, if_neg hc]; exact H
theorem dropE_R (H : Holds s R) (p : Pfx) : dropE s.2 p = if chk p = 0 then (if (R.filter fun r => !decide (r.1 = p)).length = R.length then 5 else 0) else chk p := by
  unfold dropE
  by_cases hc : chk p = 0
  · rw [if_pos hc, if_pos hc]
    cases hs : aget s.2 p with
    | some z => rw [if_pos (show (some z).isSome = true from rfl), if_neg]; rw [drop_filter_len H, hs]; simp
    | none => rw [if_neg (by simp), if_pos ((drop_filter_len H p).2 hs)]
  · rw [if_neg hc, if_neg hc]
/-- The same in another order. -/
theorem POk.perm (T : POk s k) {m : List (Pfx × Int)} (h : m.Perm s.2) : POk (s.1, m) k := by
  refine ⟨(h.map _).nodup_iff.2 T.nd, fun p hp => T.good p (h.mem_iff.1 hp), fun p hp => T.ok p (h.mem_iff.1 hp), fun j => ?_, by have := h.length_eq; have := T.len; dsimp only; omega⟩
  rw [T.cnt]
  dsimp only
  rw [(h.map (·.1)).countP_eq]
theorem Holds.perm2 (T : POk s k) (H : Holds s R) {m : List (Pfx × Int)} (h : m.Perm s.2) : Holds (s.1, m) R := by
  refine ⟨H.ord, fun p z => ?_⟩
  rw [H.mem, aget_iff T.nd, aget_iff (T.perm h).nd]
  exact h.mem_iff.symm
end
end Go.Proofs.Ytaecjmjdhbjbkaa.Ab

namespace Go.Proofs.Ytaecjmjdhbjbkaa.Ab
set_option linter.unusedVariables false
set_option maxRecDepth 100000
open Go.RowKit
set_option linter.unusedSimpArgs false
attribute [local irreducible] AWp AOps AQ AYield AEff ACall AWk AAny AAt AThen AIn APost NoPanic

def rowsB (l : List Row) : ABlk := .row 80 3 l.length (l.flatMap rowD)
def ovTest (b : Nat) (x : Int) (r : Row) : Bool := decide (r.1.b = (b : Int)) && inB x r.1
theorem overR_succ (R : List Row) (x : Int) (n : Nat) : overR R x (n + 1) = overR R x n ++ R.filter (ovTest n x) := rfl
theorem overR_len (R : List Row) (x : Int) (h : R.length ≤ 1000000) : ∀ n : Nat, (overR R x n).length ≤ n * 1000000
  | 0 => by simp [overR]
  | n + 1 => by
    rw [overR_succ, List.length_append]
    have h1 := overR_len R x h n
    have h2 := List.length_filter_le (ovTest n x) R
    omega
theorem filter_take {α : Type} (p : α → Bool) (l : List α) (k : Nat) (h : k < l.length) : (l.take (k + 1)).filter p = (l.take k).filter p ++ (if p l[k] then [l[k]] else []) := by
  rw [List.take_succ_eq_append_getElem h, List.filter_append]
  congr 1
  cases hp : p l[k] <;> simp [hp]
theorem filter_take_len {α : Type} (p : α → Bool) (l : List α) (k : Nat) : ((l.take k).filter p).length ≤ l.length := Nat.le_trans (List.length_filter_le _ _) (by rw [List.length_take]; omega)
set_option maxHeartbeats 2000000 in
theorem refOver_A (l : List Row) (x : Int) (x0 : 0 ≤ x) (x1 : x < 4294967296) (hok : ∀ r ∈ l, r.1.ok) (hn : l.length ≤ 1000000) : ACall Try.prog 33 [rowsA l, .d (.sc (.int .u32 x))] [] (Just (rowsA (overR l x 33))) := by
  refine ACall_of tabOk Try.func33 rfl Try.ntmps33 (congrArg Array.toList Try.results33) (by kernel_rfl) rfl ?_
  repeat (first | refine A_seq ?_ | refine A_block ?_ | refine R_list ?_ | refine R_quiet rfl mixed (by kernel_rfl) ?_ | ((first | apply O_y rfl rfl rfl | apply Q_y rfl rfl rfl); (first | exact Y_move rfl rfl | exact Y_assign rfl rfl | exact R_index tabOk rfl rfl rfl rfl rfl rfl (by omega) | exact R_fieldi tabOk rfl rfl rfl | exact R_loadi tabOk rfl rfl rfl rfl rfl rfl rfl | exact R_len tabOk rfl rfl rfl | exact R_load tabOk rfl rfl rfl rfl rfl rfl rfl rfl rfl | exact R_field tabOk rfl rfl rfl rfl | exact Y_addn rfl rfl rfl | exact Y_subn rfl rfl rfl | exact R_cmpT rfl rfl rfl rfl | exact R_cmpF rfl rfl rfl rfl | exact Y_ibin rfl rfl rfl rfl | exact Y_extract rfl rfl rfl | exact R_lenr tabOk rfl rfl rfl rfl | exact R_lenn tabOk rfl rfl rfl | exact R_indexr tabOk rfl rfl rfl rfl rfl rfl rfl (by omega) | exact R_fielde tabOk rfl rfl rfl rfl | exact R_loade tabOk rfl rfl rfl rfl rfl rfl rfl rfl rfl | exact Y_not rfl rfl | exact Y_pick_t rfl rfl (by first | rfl | assumption) rfl | exact Y_pick_f rfl rfl (by first | rfl | assumption) rfl | exact Y_pick_b rfl rfl rfl rfl | exact R_build tabOk rfl rfl rfl rfl rfl rfl | fail)) | refine O_nil ?_ | refine Q_nil ?_ | refine X_then_normal ?_ | refine X_in_normal ?_ | refine O_box rfl rfl rfl rfl rfl rfl rfl ?_ | refine O_alloc tabOk rfl rfl rfl rfl rfl rfl ?_ | refine O_store tabOk rfl rfl rfl rfl rfl rfl rfl rfl rfl rfl rfl ?_ | refine O_slice tabOk rfl rfl rfl rfl rfl rfl rfl rfl rfl rfl rfl ?_ | refine A_ct rfl ?_ | refine A_cf rfl ?_ | refine A_skip ?_ | refine A_exit ?_ | refine A_ret ?_ | refine X_then_exit ?_ | refine X_then_ret ?_ | refine X_in_same ?_ | refine X_in_other rfl ?_ | refine X_in_ret ?_ | refine O_s rfl rfl rfl ?_ | refine Q_s rfl rfl rfl ?_ | refine O_sn rfl rfl ?_ | fail)
  refine A_weaken (Wk_nil 80 3 (t := 5) (id := 5) rfl rfl) ?_
  refine A_loop (fun b : Nat => [(0, rowsA l), (1, .d (.sc (.int .u32 x))), (5, .row 5), (6, intA (b : Int))]) (fun b => [(5, rowsB (overR l x b))]) (fun b => b ≤ 33) (fun b => 33 - b) 0 (by omega) (Wk_sel ⟨rfl, rfl, rfl, rfl, trivial⟩ ⟨rfl, trivial⟩) ?_
  intro b hb
  dsimp only
  have hlen := overR_len l x hn b
  by_cases hlt : b < 33
  ·
    repeat (first | refine A_seq ?_ | refine A_block ?_ | refine R_list ?_ | refine R_quiet rfl mixed (by kernel_rfl) ?_ | ((first | apply O_y rfl rfl rfl | apply Q_y rfl rfl rfl); (first | exact Y_move rfl rfl | exact Y_assign rfl rfl | exact R_index tabOk rfl rfl rfl rfl rfl rfl (by omega) | exact R_fieldi tabOk rfl rfl rfl | exact R_loadi tabOk rfl rfl rfl rfl rfl rfl rfl | exact R_len tabOk rfl rfl rfl | exact R_load tabOk rfl rfl rfl rfl rfl rfl rfl rfl rfl | exact R_field tabOk rfl rfl rfl rfl | exact Y_addn rfl rfl rfl | exact Y_subn rfl rfl rfl | exact R_cmpT rfl rfl rfl rfl | exact R_cmpF rfl rfl rfl rfl | exact Y_ibin rfl rfl rfl rfl | exact Y_extract rfl rfl rfl | exact R_lenr tabOk rfl rfl rfl rfl | exact R_lenn tabOk rfl rfl rfl | exact R_indexr tabOk rfl rfl rfl rfl rfl rfl rfl (by omega) | exact R_fielde tabOk rfl rfl rfl rfl | exact R_loade tabOk rfl rfl rfl rfl rfl rfl rfl rfl rfl | exact Y_not rfl rfl | exact Y_pick_t rfl rfl (by first | rfl | assumption) rfl | exact Y_pick_f rfl rfl (by first | rfl | assumption) rfl | exact Y_pick_b rfl rfl rfl rfl | exact R_build tabOk rfl rfl rfl rfl rfl rfl | fail)) | refine O_nil ?_ | refine Q_nil ?_ | refine X_then_normal ?_ | refine X_in_normal ?_ | refine O_box rfl rfl rfl rfl rfl rfl rfl ?_ | refine O_alloc tabOk rfl rfl rfl rfl rfl rfl ?_ | refine O_store tabOk rfl rfl rfl rfl rfl rfl rfl rfl rfl rfl rfl ?_ | refine O_slice tabOk rfl rfl rfl rfl rfl rfl rfl rfl rfl rfl rfl ?_ | refine A_ct rfl ?_ | refine A_cf rfl ?_ | refine A_skip ?_ | refine A_exit ?_ | refine A_ret ?_ | refine X_then_exit ?_ | refine X_then_ret ?_ | refine X_in_same ?_ | refine X_in_other rfl ?_ | refine X_in_ret ?_ | refine O_s rfl rfl rfl ?_ | refine Q_s rfl rfl rfl ?_ | refine O_sn rfl rfl ?_ | fail)
    refine A_loop (fun i : Nat => [(0, rowsA l), (1, .d (.sc (.int .u32 x))), (5, .row 5), (6, intA (b : Int)), (7, intA (i : Int))]) (fun i => [(5, rowsB (overR l x b ++ (l.take i).filter (ovTest b x)))]) (fun i => i ≤ l.length) (fun i => l.length - i) 0 (by omega) (Wk_sel ⟨rfl, rfl, rfl, rfl, rfl, trivial⟩ ⟨row_eq (by simp) (by simp) rfl, trivial⟩) ?_
    intro i hi
    try dsimp only
    have hfl := filter_take_len (ovTest b x) l i
    by_cases hil : i < l.length
    · have hin := refIn_A x l[i].1 (hok _ (List.getElem_mem hil)) x0 x1
      have hst := filter_take (ovTest b x) l i hil
      by_cases hbb : l[i].1.b = (b : Int)
      · cases hx : inB x l[i].1 with
        | true =>
          have ht : ovTest b x l[i] = true := by simp [ovTest, hbb, hx]
          rw [ht, if_pos rfl] at hst
          rw [hx] at hin
          have hap : (overR l x b ++ (l.take i).filter (ovTest b x)).length + 1 ≤ 2147483648 := by rw [List.length_append]; omega
          repeat (first | refine A_seq ?_ | refine A_block ?_ | refine R_list ?_ | refine R_quiet rfl mixed (by kernel_rfl) ?_ | ((first | apply O_y rfl rfl rfl | apply Q_y rfl rfl rfl); (first | exact Y_move rfl rfl | exact Y_assign rfl rfl | exact R_index tabOk rfl rfl rfl rfl rfl rfl (by omega) | exact R_fieldi tabOk rfl rfl rfl | exact R_loadi tabOk rfl rfl rfl rfl (by first | exact win_flat0 rowD_len l i _ hil (by decide) | exact win_flat rowD_len l i _ _ hil (by decide) | exact win_flat2 rowD_len l i _ _ _ hil (by decide) | rfl) rfl rfl | exact R_len tabOk rfl rfl rfl | exact R_load tabOk rfl rfl rfl rfl rfl rfl rfl rfl rfl | exact R_field tabOk rfl rfl rfl rfl | exact Y_addn rfl rfl rfl | exact Y_subn rfl rfl rfl | exact R_cmpT rfl rfl rfl rfl | exact R_cmpF rfl rfl rfl rfl | exact Y_ibin rfl rfl rfl rfl | exact Y_extract rfl rfl rfl | exact R_lenr tabOk rfl rfl rfl rfl | exact R_lenn tabOk rfl rfl rfl | exact R_indexr tabOk rfl rfl rfl rfl rfl rfl rfl (by omega) | exact R_fielde tabOk rfl rfl rfl rfl | exact R_loade tabOk rfl rfl rfl rfl rfl rfl rfl rfl rfl | exact Y_not rfl rfl | exact Y_pick_t rfl rfl (by first | rfl | assumption) rfl | exact Y_pick_f rfl rfl (by first | rfl | assumption) rfl | exact Y_pick_b rfl rfl rfl rfl | exact R_build tabOk rfl rfl rfl rfl rfl rfl | fail)) | refine O_nil ?_ | refine Q_nil ?_ | refine X_then_normal ?_ | refine X_in_normal ?_ | refine O_box rfl rfl rfl rfl rfl rfl rfl ?_ | refine O_alloc tabOk rfl rfl rfl rfl rfl rfl ?_ | refine O_store tabOk rfl rfl rfl rfl rfl rfl rfl rfl rfl rfl rfl ?_ | refine O_slice tabOk rfl rfl rfl rfl rfl rfl rfl rfl rfl rfl rfl ?_ | refine A_ct rfl ?_ | refine A_cf rfl ?_ | refine A_skip ?_ | refine A_exit ?_ | refine A_ret ?_ | refine X_then_exit ?_ | refine X_then_ret ?_ | refine X_in_same ?_ | refine X_in_other rfl ?_ | refine X_in_ret ?_ | refine O_s rfl rfl rfl ?_ | refine Q_s rfl rfl rfl ?_ | refine O_sn rfl rfl ?_ | (first | refine O_c rfl rfl rfl rfl rfl hin (fun _ => rfl) ?_ | (first | refine O_appR tabOk rfl rfl rfl rfl rfl rfl rfl rfl rfl rfl rfl (by first | exact Src.row rfl | exact Src.dat _ _ | exact Src.nil) rfl (by omega) ?_ | refine O_appN tabOk rfl rfl rfl rfl rfl rfl rfl rfl rfl rfl (by first | exact Src.row rfl | exact Src.dat _ _ | exact Src.nil) rfl (by omega) ?_)))
          exact ⟨i + 1, by omega, by omega, Wk_sel ⟨rfl, rfl, rfl, rfl, rfl, trivial⟩ ⟨row_eq (by rw [hst]; simp; omega) (by rw [hst]; simp [rowD]) rfl, trivial⟩⟩
        | false =>
          have ht : ovTest b x l[i] = false := by simp [ovTest, hx]
          rw [ht] at hst
          rw [hx] at hin
          repeat (first | refine A_seq ?_ | refine A_block ?_ | refine R_list ?_ | refine R_quiet rfl mixed (by kernel_rfl) ?_ | ((first | apply O_y rfl rfl rfl | apply Q_y rfl rfl rfl); (first | exact Y_move rfl rfl | exact Y_assign rfl rfl | exact R_index tabOk rfl rfl rfl rfl rfl rfl (by omega) | exact R_fieldi tabOk rfl rfl rfl | exact R_loadi tabOk rfl rfl rfl rfl (by first | exact win_flat0 rowD_len l i _ hil (by decide) | exact win_flat rowD_len l i _ _ hil (by decide) | exact win_flat2 rowD_len l i _ _ _ hil (by decide) | rfl) rfl rfl | exact R_len tabOk rfl rfl rfl | exact R_load tabOk rfl rfl rfl rfl rfl rfl rfl rfl rfl | exact R_field tabOk rfl rfl rfl rfl | exact Y_addn rfl rfl rfl | exact Y_subn rfl rfl rfl | exact R_cmpT rfl rfl rfl rfl | exact R_cmpF rfl rfl rfl rfl | exact Y_ibin rfl rfl rfl rfl | exact Y_extract rfl rfl rfl | exact R_lenr tabOk rfl rfl rfl rfl | exact R_lenn tabOk rfl rfl rfl | exact R_indexr tabOk rfl rfl rfl rfl rfl rfl rfl (by omega) | exact R_fielde tabOk rfl rfl rfl rfl | exact R_loade tabOk rfl rfl rfl rfl rfl rfl rfl rfl rfl | exact Y_not rfl rfl | exact Y_pick_t rfl rfl (by first | rfl | assumption) rfl | exact Y_pick_f rfl rfl (by first | rfl | assumption) rfl | exact Y_pick_b rfl rfl rfl rfl | exact R_build tabOk rfl rfl rfl rfl rfl rfl | fail)) | refine O_nil ?_ | refine Q_nil ?_ | refine X_then_normal ?_ | refine X_in_normal ?_ | refine O_box rfl rfl rfl rfl rfl rfl rfl ?_ | refine O_alloc tabOk rfl rfl rfl rfl rfl rfl ?_ | refine O_store tabOk rfl rfl rfl rfl rfl rfl rfl rfl rfl rfl rfl ?_ | refine O_slice tabOk rfl rfl rfl rfl rfl rfl rfl rfl rfl rfl rfl ?_ | refine A_ct rfl ?_ | refine A_cf rfl ?_ | refine A_skip ?_ | refine A_exit ?_ | refine A_ret ?_ | refine X_then_exit ?_ | refine X_then_ret ?_ | refine X_in_same ?_ | refine X_in_other rfl ?_ | refine X_in_ret ?_ | refine O_s rfl rfl rfl ?_ | refine Q_s rfl rfl rfl ?_ | refine O_sn rfl rfl ?_ | (first | refine O_c rfl rfl rfl rfl rfl hin (fun _ => rfl) ?_))
          exact ⟨i + 1, by omega, by omega, Wk_sel ⟨rfl, rfl, rfl, rfl, rfl, trivial⟩ ⟨row_eq (by rw [hst]; simp) (by rw [hst]; simp) rfl, trivial⟩⟩
      · have ht : ovTest b x l[i] = false := by simp [ovTest, hbb]
        rw [ht] at hst
        repeat (first | refine A_seq ?_ | refine A_block ?_ | refine R_list ?_ | refine R_quiet rfl mixed (by kernel_rfl) ?_ | ((first | apply O_y rfl rfl rfl | apply Q_y rfl rfl rfl); (first | exact Y_move rfl rfl | exact Y_assign rfl rfl | exact R_index tabOk rfl rfl rfl rfl rfl rfl (by omega) | exact R_fieldi tabOk rfl rfl rfl | exact R_loadi tabOk rfl rfl rfl rfl (by first | exact win_flat0 rowD_len l i _ hil (by decide) | exact win_flat rowD_len l i _ _ hil (by decide) | exact win_flat2 rowD_len l i _ _ _ hil (by decide) | rfl) rfl rfl | exact R_len tabOk rfl rfl rfl | exact R_load tabOk rfl rfl rfl rfl rfl rfl rfl rfl rfl | exact R_field tabOk rfl rfl rfl rfl | exact Y_addn rfl rfl rfl | exact Y_subn rfl rfl rfl | exact R_cmpT rfl rfl rfl rfl | exact R_cmpF rfl rfl rfl rfl | exact Y_ibin rfl rfl rfl rfl | exact Y_extract rfl rfl rfl | exact R_lenr tabOk rfl rfl rfl rfl | exact R_lenn tabOk rfl rfl rfl | exact R_indexr tabOk rfl rfl rfl rfl rfl rfl rfl (by omega) | exact R_fielde tabOk rfl rfl rfl rfl | exact R_loade tabOk rfl rfl rfl rfl rfl rfl rfl rfl rfl | exact Y_not rfl rfl | exact Y_pick_t rfl rfl (by first | rfl | assumption) rfl | exact Y_pick_f rfl rfl (by first | rfl | assumption) rfl | exact Y_pick_b rfl rfl rfl rfl | exact R_build tabOk rfl rfl rfl rfl rfl rfl | fail)) | refine O_nil ?_ | refine Q_nil ?_ | refine X_then_normal ?_ | refine X_in_normal ?_ | refine O_box rfl rfl rfl rfl rfl rfl rfl ?_ | refine O_alloc tabOk rfl rfl rfl rfl rfl rfl ?_ | refine O_store tabOk rfl rfl rfl rfl rfl rfl rfl rfl rfl rfl rfl ?_ | refine O_slice tabOk rfl rfl rfl rfl rfl rfl rfl rfl rfl rfl rfl ?_ | refine A_ct rfl ?_ | refine A_cf rfl ?_ | refine A_skip ?_ | refine A_exit ?_ | refine A_ret ?_ | refine X_then_exit ?_ | refine X_then_ret ?_ | refine X_in_same ?_ | refine X_in_other rfl ?_ | refine X_in_ret ?_ | refine O_s rfl rfl rfl ?_ | refine Q_s rfl rfl rfl ?_ | refine O_sn rfl rfl ?_ | (first | refine O_c rfl rfl rfl rfl rfl hin (fun _ => rfl) ?_))
        exact ⟨i + 1, by omega, by omega, Wk_sel ⟨rfl, rfl, rfl, rfl, rfl, trivial⟩ ⟨row_eq (by rw [hst]; simp) (by rw [hst]; simp) rfl, trivial⟩⟩
    · have : i = l.length := by omega
      subst this
      repeat (first | refine A_seq ?_ | refine A_block ?_ | refine R_list ?_ | refine R_quiet rfl mixed (by kernel_rfl) ?_ | ((first | apply O_y rfl rfl rfl | apply Q_y rfl rfl rfl); (first | exact Y_move rfl rfl | exact Y_assign rfl rfl | exact R_index tabOk rfl rfl rfl rfl rfl rfl (by omega) | exact R_fieldi tabOk rfl rfl rfl | exact R_loadi tabOk rfl rfl rfl rfl rfl rfl rfl | exact R_len tabOk rfl rfl rfl | exact R_load tabOk rfl rfl rfl rfl rfl rfl rfl rfl rfl | exact R_field tabOk rfl rfl rfl rfl | exact Y_addn rfl rfl rfl | exact Y_subn rfl rfl rfl | exact R_cmpT rfl rfl rfl rfl | exact R_cmpF rfl rfl rfl rfl | exact Y_ibin rfl rfl rfl rfl | exact Y_extract rfl rfl rfl | exact R_lenr tabOk rfl rfl rfl rfl | exact R_lenn tabOk rfl rfl rfl | exact R_indexr tabOk rfl rfl rfl rfl rfl rfl rfl (by omega) | exact R_fielde tabOk rfl rfl rfl rfl | exact R_loade tabOk rfl rfl rfl rfl rfl rfl rfl rfl rfl | exact Y_not rfl rfl | exact Y_pick_t rfl rfl (by first | rfl | assumption) rfl | exact Y_pick_f rfl rfl (by first | rfl | assumption) rfl | exact Y_pick_b rfl rfl rfl rfl | exact R_build tabOk rfl rfl rfl rfl rfl rfl | fail)) | refine O_nil ?_ | refine Q_nil ?_ | refine X_then_normal ?_ | refine X_in_normal ?_ | refine O_box rfl rfl rfl rfl rfl rfl rfl ?_ | refine O_alloc tabOk rfl rfl rfl rfl rfl rfl ?_ | refine O_store tabOk rfl rfl rfl rfl rfl rfl rfl rfl rfl rfl rfl ?_ | refine O_slice tabOk rfl rfl rfl rfl rfl rfl rfl rfl rfl rfl rfl ?_ | refine A_ct rfl ?_ | refine A_cf rfl ?_ | refine A_skip ?_ | refine A_exit ?_ | refine A_ret ?_ | refine X_then_exit ?_ | refine X_then_ret ?_ | refine X_in_same ?_ | refine X_in_other rfl ?_ | refine X_in_ret ?_ | refine O_s rfl rfl rfl ?_ | refine Q_s rfl rfl rfl ?_ | refine O_sn rfl rfl ?_ | fail)
      exact ⟨b + 1, by omega, by omega, Wk_sel ⟨rfl, rfl, rfl, rfl, trivial⟩ ⟨row_eq (by rw [List.take_length]; rfl) (by rw [List.take_length]; rfl) rfl, trivial⟩⟩
  · have : b = 33 := by omega
    subst this
    repeat (first | refine A_seq ?_ | refine A_block ?_ | refine R_list ?_ | refine R_quiet rfl mixed (by kernel_rfl) ?_ | ((first | apply O_y rfl rfl rfl | apply Q_y rfl rfl rfl); (first | exact Y_move rfl rfl | exact Y_assign rfl rfl | exact R_index tabOk rfl rfl rfl rfl rfl rfl (by omega) | exact R_fieldi tabOk rfl rfl rfl | exact R_loadi tabOk rfl rfl rfl rfl rfl rfl rfl | exact R_len tabOk rfl rfl rfl | exact R_load tabOk rfl rfl rfl rfl rfl rfl rfl rfl rfl | exact R_field tabOk rfl rfl rfl rfl | exact Y_addn rfl rfl rfl | exact Y_subn rfl rfl rfl | exact R_cmpT rfl rfl rfl rfl | exact R_cmpF rfl rfl rfl rfl | exact Y_ibin rfl rfl rfl rfl | exact Y_extract rfl rfl rfl | exact R_lenr tabOk rfl rfl rfl rfl | exact R_lenn tabOk rfl rfl rfl | exact R_indexr tabOk rfl rfl rfl rfl rfl rfl rfl (by omega) | exact R_fielde tabOk rfl rfl rfl rfl | exact R_loade tabOk rfl rfl rfl rfl rfl rfl rfl rfl rfl | exact Y_not rfl rfl | exact Y_pick_t rfl rfl (by first | rfl | assumption) rfl | exact Y_pick_f rfl rfl (by first | rfl | assumption) rfl | exact Y_pick_b rfl rfl rfl rfl | exact R_build tabOk rfl rfl rfl rfl rfl rfl | fail)) | refine O_nil ?_ | refine Q_nil ?_ | refine X_then_normal ?_ | refine X_in_normal ?_ | refine O_box rfl rfl rfl rfl rfl rfl rfl ?_ | refine O_alloc tabOk rfl rfl rfl rfl rfl rfl ?_ | refine O_store tabOk rfl rfl rfl rfl rfl rfl rfl rfl rfl rfl rfl ?_ | refine O_slice tabOk rfl rfl rfl rfl rfl rfl rfl rfl rfl rfl rfl ?_ | refine A_ct rfl ?_ | refine A_cf rfl ?_ | refine A_skip ?_ | refine A_exit ?_ | refine A_ret ?_ | refine X_then_exit ?_ | refine X_then_ret ?_ | refine X_in_same ?_ | refine X_in_other rfl ?_ | refine X_in_ret ?_ | refine O_s rfl rfl rfl ?_ | refine Q_s rfl rfl rfl ?_ | refine O_sn rfl rfl ?_ | fail)
    exact X_retW (Wk_freeze (id := 5) rfl) rfl (h2 := []) trivial ⟨rfl, rfl⟩
set_option maxHeartbeats 2000000 in
theorem refWithinR_A (l : List Row) (p : Pfx) (hp : p.ok) (hok : ∀ r ∈ l, r.1.ok) (hn : l.length ≤ 1000000) : ACall Try.prog 57 [rowsA l, pfxA p] [] (Just (rowsA (l.filter fun r => withinB r.1 p))) := by
  refine ACall_of tabOk Try.func57 rfl Try.ntmps57 (congrArg Array.toList Try.results57) (by kernel_rfl) rfl ?_
  repeat (first | refine A_seq ?_ | refine A_block ?_ | refine R_list ?_ | refine R_quiet rfl mixed (by kernel_rfl) ?_ | ((first | apply O_y rfl rfl rfl | apply Q_y rfl rfl rfl); (first | exact Y_move rfl rfl | exact Y_assign rfl rfl | exact R_index tabOk rfl rfl rfl rfl rfl rfl (by omega) | exact R_fieldi tabOk rfl rfl rfl | exact R_loadi tabOk rfl rfl rfl rfl rfl rfl rfl | exact R_len tabOk rfl rfl rfl | exact R_load tabOk rfl rfl rfl rfl rfl rfl rfl rfl rfl | exact R_field tabOk rfl rfl rfl rfl | exact Y_addn rfl rfl rfl | exact Y_subn rfl rfl rfl | exact R_cmpT rfl rfl rfl rfl | exact R_cmpF rfl rfl rfl rfl | exact Y_ibin rfl rfl rfl rfl | exact Y_extract rfl rfl rfl | exact R_lenr tabOk rfl rfl rfl rfl | exact R_lenn tabOk rfl rfl rfl | exact R_indexr tabOk rfl rfl rfl rfl rfl rfl rfl (by omega) | exact R_fielde tabOk rfl rfl rfl rfl | exact R_loade tabOk rfl rfl rfl rfl rfl rfl rfl rfl rfl | exact Y_not rfl rfl | exact Y_pick_t rfl rfl (by first | rfl | assumption) rfl | exact Y_pick_f rfl rfl (by first | rfl | assumption) rfl | exact Y_pick_b rfl rfl rfl rfl | exact R_build tabOk rfl rfl rfl rfl rfl rfl | fail)) | refine O_nil ?_ | refine Q_nil ?_ | refine X_then_normal ?_ | refine X_in_normal ?_ | refine O_box rfl rfl rfl rfl rfl rfl rfl ?_ | refine O_alloc tabOk rfl rfl rfl rfl rfl rfl ?_ | refine O_store tabOk rfl rfl rfl rfl rfl rfl rfl rfl rfl rfl rfl ?_ | refine O_slice tabOk rfl rfl rfl rfl rfl rfl rfl rfl rfl rfl rfl ?_ | refine A_ct rfl ?_ | refine A_cf rfl ?_ | refine A_skip ?_ | refine A_exit ?_ | refine A_ret ?_ | refine X_then_exit ?_ | refine X_then_ret ?_ | refine X_in_same ?_ | refine X_in_other rfl ?_ | refine X_in_ret ?_ | refine O_s rfl rfl rfl ?_ | refine Q_s rfl rfl rfl ?_ | refine O_sn rfl rfl ?_ | fail)
  refine A_weaken (Wk_nil 80 3 (t := 5) (id := 5) rfl rfl) ?_
  refine A_loop (fun i : Nat => [(0, rowsA l), (3, .ptr 3 0), (5, .row 5), (6, intA (i : Int))]) (fun i => [(3, .var [.d (.sc (.int .u32 p.a)), .d (.sc (.int .i64 p.b))]), (5, rowsB ((l.take i).filter fun r => withinB r.1 p))]) (fun i => i ≤ l.length) (fun i => l.length - i) 0 (by omega) (Wk_sel ⟨rfl, rfl, rfl, rfl, trivial⟩ ⟨rfl, rfl, trivial⟩) ?_
  intro i hi
  dsimp only
  have hfl := filter_take_len (fun r : Row => withinB r.1 p) l i
  by_cases hil : i < l.length
  · have hin := refWithin_A l[i].1 p (hok _ (List.getElem_mem hil)) hp
    have hst := filter_take (fun r : Row => withinB r.1 p) l i hil
    cases hx : withinB l[i].1 p with
    | true =>
      rw [hx, if_pos rfl] at hst
      rw [hx] at hin
      repeat (first | refine A_seq ?_ | refine A_block ?_ | refine R_list ?_ | refine R_quiet rfl mixed (by kernel_rfl) ?_ | ((first | apply O_y rfl rfl rfl | apply Q_y rfl rfl rfl); (first | exact Y_move rfl rfl | exact Y_assign rfl rfl | exact R_index tabOk rfl rfl rfl rfl rfl rfl (by omega) | exact R_fieldi tabOk rfl rfl rfl | exact R_loadi tabOk rfl rfl rfl rfl (by first | exact win_flat0 rowD_len l i _ hil (by decide) | exact win_flat rowD_len l i _ _ hil (by decide) | exact win_flat2 rowD_len l i _ _ _ hil (by decide) | rfl) rfl rfl | exact R_len tabOk rfl rfl rfl | exact R_load tabOk rfl rfl rfl rfl rfl rfl rfl rfl rfl | exact R_field tabOk rfl rfl rfl rfl | exact Y_addn rfl rfl rfl | exact Y_subn rfl rfl rfl | exact R_cmpT rfl rfl rfl rfl | exact R_cmpF rfl rfl rfl rfl | exact Y_ibin rfl rfl rfl rfl | exact Y_extract rfl rfl rfl | exact R_lenr tabOk rfl rfl rfl rfl | exact R_lenn tabOk rfl rfl rfl | exact R_indexr tabOk rfl rfl rfl rfl rfl rfl rfl (by omega) | exact R_fielde tabOk rfl rfl rfl rfl | exact R_loade tabOk rfl rfl rfl rfl rfl rfl rfl rfl rfl | exact Y_not rfl rfl | exact Y_pick_t rfl rfl (by first | rfl | assumption) rfl | exact Y_pick_f rfl rfl (by first | rfl | assumption) rfl | exact Y_pick_b rfl rfl rfl rfl | exact R_build tabOk rfl rfl rfl rfl rfl rfl | fail)) | refine O_nil ?_ | refine Q_nil ?_ | refine X_then_normal ?_ | refine X_in_normal ?_ | refine O_box rfl rfl rfl rfl rfl rfl rfl ?_ | refine O_alloc tabOk rfl rfl rfl rfl rfl rfl ?_ | refine O_store tabOk rfl rfl rfl rfl rfl rfl rfl rfl rfl rfl rfl ?_ | refine O_slice tabOk rfl rfl rfl rfl rfl rfl rfl rfl rfl rfl rfl ?_ | refine A_ct rfl ?_ | refine A_cf rfl ?_ | refine A_skip ?_ | refine A_exit ?_ | refine A_ret ?_ | refine X_then_exit ?_ | refine X_then_ret ?_ | refine X_in_same ?_ | refine X_in_other rfl ?_ | refine X_in_ret ?_ | refine O_s rfl rfl rfl ?_ | refine Q_s rfl rfl rfl ?_ | refine O_sn rfl rfl ?_ | (first | refine Q_c rfl rfl rfl rfl rfl hin rfl (fun _ _ _ => val_mk _ _ _ _ _ rfl rfl) ?_ | (first | refine O_appR tabOk rfl rfl rfl rfl rfl rfl rfl rfl rfl rfl rfl (by first | exact Src.row rfl | exact Src.dat _ _ | exact Src.nil) rfl (by omega) ?_ | refine O_appN tabOk rfl rfl rfl rfl rfl rfl rfl rfl rfl rfl (by first | exact Src.row rfl | exact Src.dat _ _ | exact Src.nil) rfl (by omega) ?_)))
      exact ⟨i + 1, by omega, by omega, Wk_sel ⟨rfl, rfl, rfl, rfl, trivial⟩ ⟨rfl, row_eq (by rw [hst]; simp) (by rw [hst]; simp [rowD]) rfl, trivial⟩⟩
    | false =>
      rw [hx] at hst
      rw [hx] at hin
      repeat (first | refine A_seq ?_ | refine A_block ?_ | refine R_list ?_ | refine R_quiet rfl mixed (by kernel_rfl) ?_ | ((first | apply O_y rfl rfl rfl | apply Q_y rfl rfl rfl); (first | exact Y_move rfl rfl | exact Y_assign rfl rfl | exact R_index tabOk rfl rfl rfl rfl rfl rfl (by omega) | exact R_fieldi tabOk rfl rfl rfl | exact R_loadi tabOk rfl rfl rfl rfl (by first | exact win_flat0 rowD_len l i _ hil (by decide) | exact win_flat rowD_len l i _ _ hil (by decide) | exact win_flat2 rowD_len l i _ _ _ hil (by decide) | rfl) rfl rfl | exact R_len tabOk rfl rfl rfl | exact R_load tabOk rfl rfl rfl rfl rfl rfl rfl rfl rfl | exact R_field tabOk rfl rfl rfl rfl | exact Y_addn rfl rfl rfl | exact Y_subn rfl rfl rfl | exact R_cmpT rfl rfl rfl rfl | exact R_cmpF rfl rfl rfl rfl | exact Y_ibin rfl rfl rfl rfl | exact Y_extract rfl rfl rfl | exact R_lenr tabOk rfl rfl rfl rfl | exact R_lenn tabOk rfl rfl rfl | exact R_indexr tabOk rfl rfl rfl rfl rfl rfl rfl (by omega) | exact R_fielde tabOk rfl rfl rfl rfl | exact R_loade tabOk rfl rfl rfl rfl rfl rfl rfl rfl rfl | exact Y_not rfl rfl | exact Y_pick_t rfl rfl (by first | rfl | assumption) rfl | exact Y_pick_f rfl rfl (by first | rfl | assumption) rfl | exact Y_pick_b rfl rfl rfl rfl | exact R_build tabOk rfl rfl rfl rfl rfl rfl | fail)) | refine O_nil ?_ | refine Q_nil ?_ | refine X_then_normal ?_ | refine X_in_normal ?_ | refine O_box rfl rfl rfl rfl rfl rfl rfl ?_ | refine O_alloc tabOk rfl rfl rfl rfl rfl rfl ?_ | refine O_store tabOk rfl rfl rfl rfl rfl rfl rfl rfl rfl rfl rfl ?_ | refine O_slice tabOk rfl rfl rfl rfl rfl rfl rfl rfl rfl rfl rfl ?_ | refine A_ct rfl ?_ | refine A_cf rfl ?_ | refine A_skip ?_ | refine A_exit ?_ | refine A_ret ?_ | refine X_then_exit ?_ | refine X_then_ret ?_ | refine X_in_same ?_ | refine X_in_other rfl ?_ | refine X_in_ret ?_ | refine O_s rfl rfl rfl ?_ | refine Q_s rfl rfl rfl ?_ | refine O_sn rfl rfl ?_ | (first | refine Q_c rfl rfl rfl rfl rfl hin rfl (fun _ _ _ => val_mk _ _ _ _ _ rfl rfl) ?_))
      exact ⟨i + 1, by omega, by omega, Wk_sel ⟨rfl, rfl, rfl, rfl, trivial⟩ ⟨rfl, row_eq (by rw [hst]; simp) (by rw [hst]; simp) rfl, trivial⟩⟩
  · have : i = l.length := by omega
    subst this
    repeat (first | refine A_seq ?_ | refine A_block ?_ | refine R_list ?_ | refine R_quiet rfl mixed (by kernel_rfl) ?_ | ((first | apply O_y rfl rfl rfl | apply Q_y rfl rfl rfl); (first | exact Y_move rfl rfl | exact Y_assign rfl rfl | exact R_index tabOk rfl rfl rfl rfl rfl rfl (by omega) | exact R_fieldi tabOk rfl rfl rfl | exact R_loadi tabOk rfl rfl rfl rfl rfl rfl rfl | exact R_len tabOk rfl rfl rfl | exact R_load tabOk rfl rfl rfl rfl rfl rfl rfl rfl rfl | exact R_field tabOk rfl rfl rfl rfl | exact Y_addn rfl rfl rfl | exact Y_subn rfl rfl rfl | exact R_cmpT rfl rfl rfl rfl | exact R_cmpF rfl rfl rfl rfl | exact Y_ibin rfl rfl rfl rfl | exact Y_extract rfl rfl rfl | exact R_lenr tabOk rfl rfl rfl rfl | exact R_lenn tabOk rfl rfl rfl | exact R_indexr tabOk rfl rfl rfl rfl rfl rfl rfl (by omega) | exact R_fielde tabOk rfl rfl rfl rfl | exact R_loade tabOk rfl rfl rfl rfl rfl rfl rfl rfl rfl | exact Y_not rfl rfl | exact Y_pick_t rfl rfl (by first | rfl | assumption) rfl | exact Y_pick_f rfl rfl (by first | rfl | assumption) rfl | exact Y_pick_b rfl rfl rfl rfl | exact R_build tabOk rfl rfl rfl rfl rfl rfl | fail)) | refine O_nil ?_ | refine Q_nil ?_ | refine X_then_normal ?_ | refine X_in_normal ?_ | refine O_box rfl rfl rfl rfl rfl rfl rfl ?_ | refine O_alloc tabOk rfl rfl rfl rfl rfl rfl ?_ | refine O_store tabOk rfl rfl rfl rfl rfl rfl rfl rfl rfl rfl rfl ?_ | refine O_slice tabOk rfl rfl rfl rfl rfl rfl rfl rfl rfl rfl rfl ?_ | refine A_ct rfl ?_ | refine A_cf rfl ?_ | refine A_skip ?_ | refine A_exit ?_ | refine A_ret ?_ | refine X_then_exit ?_ | refine X_then_ret ?_ | refine X_in_same ?_ | refine X_in_other rfl ?_ | refine X_in_ret ?_ | refine O_s rfl rfl rfl ?_ | refine Q_s rfl rfl rfl ?_ | refine O_sn rfl rfl ?_ | fail)
    exact X_retW (Wk_freeze (id := 5) rfl) rfl (h2 := []) trivial ⟨by rw [List.take_length]; rfl, rfl⟩
def refDropE (l : List Row) (p : Pfx) : Int := if chk p = 0 then (if (l.filter fun r => !decide (r.1 = p)).length = l.length then 5 else 0) else chk p
set_option maxHeartbeats 2000000 in
theorem refDrop_A (l : List Row) (p : Pfx) (hp : p.ok) (hn : l.length ≤ 1000000) : ACall Try.prog 29 [rowsA l, pfxA p] [] (Just (.tup [rowsA (dropR l p), intA (refDropE l p)])) := by
  refine ACall_of tabOk Try.func29 rfl Try.ntmps29 (congrArg Array.toList Try.results29) (by kernel_rfl) rfl ?_
  have hck := refCheck_A p hp
  unfold dropR refDropE
  by_cases hc : chk p = 0
  · rw [hc] at hck
    rw [if_pos hc, if_pos hc]
    repeat (first | refine A_seq ?_ | refine A_block ?_ | refine R_list ?_ | refine R_quiet rfl mixed (by kernel_rfl) ?_ | ((first | apply O_y rfl rfl rfl | apply Q_y rfl rfl rfl); (first | exact Y_move rfl rfl | exact Y_assign rfl rfl | exact R_index tabOk rfl rfl rfl rfl rfl rfl (by omega) | exact R_fieldi tabOk rfl rfl rfl | exact R_loadi tabOk rfl rfl rfl rfl rfl rfl rfl | exact R_len tabOk rfl rfl rfl | exact R_load tabOk rfl rfl rfl rfl rfl rfl rfl rfl rfl | exact R_field tabOk rfl rfl rfl rfl | exact Y_addn rfl rfl rfl | exact Y_subn rfl rfl rfl | exact R_cmpT rfl rfl rfl rfl | exact R_cmpF rfl rfl rfl rfl | exact Y_ibin rfl rfl rfl rfl | exact Y_extract rfl rfl rfl | exact R_lenr tabOk rfl rfl rfl rfl | exact R_lenn tabOk rfl rfl rfl | exact R_indexr tabOk rfl rfl rfl rfl rfl rfl rfl (by omega) | exact R_fielde tabOk rfl rfl rfl rfl | exact R_loade tabOk rfl rfl rfl rfl rfl rfl rfl rfl rfl | exact Y_not rfl rfl | exact Y_pick_t rfl rfl (by first | rfl | assumption) rfl | exact Y_pick_f rfl rfl (by first | rfl | assumption) rfl | exact Y_pick_b rfl rfl rfl rfl | exact R_build tabOk rfl rfl rfl rfl rfl rfl | fail)) | refine O_nil ?_ | refine Q_nil ?_ | refine X_then_normal ?_ | refine X_in_normal ?_ | refine O_box rfl rfl rfl rfl rfl rfl rfl ?_ | refine O_alloc tabOk rfl rfl rfl rfl rfl rfl ?_ | refine O_store tabOk rfl rfl rfl rfl rfl rfl rfl rfl rfl rfl rfl ?_ | refine O_slice tabOk rfl rfl rfl rfl rfl rfl rfl rfl rfl rfl rfl ?_ | refine A_ct rfl ?_ | refine A_cf rfl ?_ | refine A_skip ?_ | refine A_exit ?_ | refine A_ret ?_ | refine X_then_exit ?_ | refine X_then_ret ?_ | refine X_in_same ?_ | refine X_in_other rfl ?_ | refine X_in_ret ?_ | refine O_s rfl rfl rfl ?_ | refine Q_s rfl rfl rfl ?_ | refine O_sn rfl rfl ?_ | refine O_c rfl rfl rfl rfl rfl hck (fun _ => rfl) ?_)
    refine A_weaken (Wk_nil 80 3 (t := 7) (id := 7) rfl rfl) ?_
    refine A_loop (fun i : Nat => [(0, rowsA l), (3, .ptr 3 0), (7, .row 7), (8, intA (i : Int))]) (fun i => [(3, .var [.d (.sc (.int .u32 p.a)), .d (.sc (.int .i64 p.b))]), (7, rowsB ((l.take i).filter fun r => !decide (r.1 = p)))]) (fun i => i ≤ l.length) (fun i => l.length - i) 0 (by omega) (Wk_sel ⟨rfl, rfl, rfl, rfl, trivial⟩ ⟨rfl, rfl, trivial⟩) ?_
    intro i hi
    dsimp only
    have hfl := filter_take_len (fun r : Row => !decide (r.1 = p)) l i
    by_cases hil : i < l.length
    · have hst := filter_take (fun r : Row => !decide (r.1 = p)) l i hil
      have hpe := pfxEq l[i].1 p
      by_cases hx : l[i].1 = p
      · rw [show (!decide (l[i].1 = p)) = false by simp [hx]] at hst
        rw [show (l[i].1 == p) = true by simpa using hx] at hpe
        repeat (first | refine A_seq ?_ | refine A_block ?_ | refine R_list ?_ | refine R_quiet rfl mixed (by kernel_rfl) ?_ | ((first | apply O_y rfl rfl rfl | apply Q_y rfl rfl rfl); (first | exact Y_move rfl rfl | exact Y_assign rfl rfl | exact R_index tabOk rfl rfl rfl rfl rfl rfl (by omega) | exact R_fieldi tabOk rfl rfl rfl | exact R_loadi tabOk rfl rfl rfl rfl (by first | exact win_flat0 rowD_len l i _ hil (by decide) | exact win_flat rowD_len l i _ _ hil (by decide) | exact win_flat2 rowD_len l i _ _ _ hil (by decide) | rfl) rfl rfl | exact R_len tabOk rfl rfl rfl | exact R_load tabOk rfl rfl rfl rfl rfl rfl rfl rfl rfl | exact R_field tabOk rfl rfl rfl rfl | exact Y_addn rfl rfl rfl | exact Y_subn rfl rfl rfl | exact R_cmpT rfl rfl rfl rfl | exact R_cmpF rfl rfl rfl rfl | exact Y_ibin rfl rfl rfl rfl | exact Y_extract rfl rfl rfl | exact R_lenr tabOk rfl rfl rfl rfl | exact R_lenn tabOk rfl rfl rfl | exact R_indexr tabOk rfl rfl rfl rfl rfl rfl rfl (by omega) | exact R_fielde tabOk rfl rfl rfl rfl | exact R_loade tabOk rfl rfl rfl rfl rfl rfl rfl rfl rfl | exact Y_not rfl rfl | exact Y_pick_t rfl rfl (by first | rfl | assumption) rfl | exact Y_pick_f rfl rfl (by first | rfl | assumption) rfl | exact Y_pick_b rfl rfl rfl rfl | exact R_build tabOk rfl rfl rfl rfl rfl rfl | (exact Y_eq tabOk noStand rfl rfl rfl rfl rfl rfl rfl rfl rfl (by kernel_rfl) hpe rfl))) | refine O_nil ?_ | refine Q_nil ?_ | refine X_then_normal ?_ | refine X_in_normal ?_ | refine O_box rfl rfl rfl rfl rfl rfl rfl ?_ | refine O_alloc tabOk rfl rfl rfl rfl rfl rfl ?_ | refine O_store tabOk rfl rfl rfl rfl rfl rfl rfl rfl rfl rfl rfl ?_ | refine O_slice tabOk rfl rfl rfl rfl rfl rfl rfl rfl rfl rfl rfl ?_ | refine A_ct rfl ?_ | refine A_cf rfl ?_ | refine A_skip ?_ | refine A_exit ?_ | refine A_ret ?_ | refine X_then_exit ?_ | refine X_then_ret ?_ | refine X_in_same ?_ | refine X_in_other rfl ?_ | refine X_in_ret ?_ | refine O_s rfl rfl rfl ?_ | refine Q_s rfl rfl rfl ?_ | refine O_sn rfl rfl ?_ | fail)
        exact ⟨i + 1, by omega, by omega, Wk_sel ⟨rfl, rfl, rfl, rfl, trivial⟩ ⟨rfl, row_eq (by rw [hst]; simp) (by rw [hst]; simp) rfl, trivial⟩⟩
      · rw [show (!decide (l[i].1 = p)) = true by simp [hx], if_pos rfl] at hst
        rw [show (l[i].1 == p) = false by simpa using hx] at hpe
        repeat (first | refine A_seq ?_ | refine A_block ?_ | refine R_list ?_ | refine R_quiet rfl mixed (by kernel_rfl) ?_ | ((first | apply O_y rfl rfl rfl | apply Q_y rfl rfl rfl); (first | exact Y_move rfl rfl | exact Y_assign rfl rfl | exact R_index tabOk rfl rfl rfl rfl rfl rfl (by omega) | exact R_fieldi tabOk rfl rfl rfl | exact R_loadi tabOk rfl rfl rfl rfl (by first | exact win_flat0 rowD_len l i _ hil (by decide) | exact win_flat rowD_len l i _ _ hil (by decide) | exact win_flat2 rowD_len l i _ _ _ hil (by decide) | rfl) rfl rfl | exact R_len tabOk rfl rfl rfl | exact R_load tabOk rfl rfl rfl rfl rfl rfl rfl rfl rfl | exact R_field tabOk rfl rfl rfl rfl | exact Y_addn rfl rfl rfl | exact Y_subn rfl rfl rfl | exact R_cmpT rfl rfl rfl rfl | exact R_cmpF rfl rfl rfl rfl | exact Y_ibin rfl rfl rfl rfl | exact Y_extract rfl rfl rfl | exact R_lenr tabOk rfl rfl rfl rfl | exact R_lenn tabOk rfl rfl rfl | exact R_indexr tabOk rfl rfl rfl rfl rfl rfl rfl (by omega) | exact R_fielde tabOk rfl rfl rfl rfl | exact R_loade tabOk rfl rfl rfl rfl rfl rfl rfl rfl rfl | exact Y_not rfl rfl | exact Y_pick_t rfl rfl (by first | rfl | assumption) rfl | exact Y_pick_f rfl rfl (by first | rfl | assumption) rfl | exact Y_pick_b rfl rfl rfl rfl | exact R_build tabOk rfl rfl rfl rfl rfl rfl | (exact Y_eq tabOk noStand rfl rfl rfl rfl rfl rfl rfl rfl rfl (by kernel_rfl) hpe rfl))) | refine O_nil ?_ | refine Q_nil ?_ | refine X_then_normal ?_ | refine X_in_normal ?_ | refine O_box rfl rfl rfl rfl rfl rfl rfl ?_ | refine O_alloc tabOk rfl rfl rfl rfl rfl rfl ?_ | refine O_store tabOk rfl rfl rfl rfl rfl rfl rfl rfl rfl rfl rfl ?_ | refine O_slice tabOk rfl rfl rfl rfl rfl rfl rfl rfl rfl rfl rfl ?_ | refine A_ct rfl ?_ | refine A_cf rfl ?_ | refine A_skip ?_ | refine A_exit ?_ | refine A_ret ?_ | refine X_then_exit ?_ | refine X_then_ret ?_ | refine X_in_same ?_ | refine X_in_other rfl ?_ | refine X_in_ret ?_ | refine O_s rfl rfl rfl ?_ | refine Q_s rfl rfl rfl ?_ | refine O_sn rfl rfl ?_ | ((first | refine O_appR tabOk rfl rfl rfl rfl rfl rfl rfl rfl rfl rfl rfl (by first | exact Src.row rfl | exact Src.dat _ _ | exact Src.nil) rfl (by omega) ?_ | refine O_appN tabOk rfl rfl rfl rfl rfl rfl rfl rfl rfl rfl (by first | exact Src.row rfl | exact Src.dat _ _ | exact Src.nil) rfl (by omega) ?_)))
        exact ⟨i + 1, by omega, by omega, Wk_sel ⟨rfl, rfl, rfl, rfl, trivial⟩ ⟨rfl, row_eq (by rw [hst]; simp) (by rw [hst]; simp [rowD]) rfl, trivial⟩⟩
    · have : i = l.length := by omega
      subst this
      rw [List.take_length] at hfl ⊢
      by_cases hz : (l.filter fun r => !decide (r.1 = p)).length = l.length
      · rw [if_pos hz]
        have he : (l.filter fun r => !decide (r.1 = p)) = l := List.filter_eq_self.2 (List.length_filter_eq_length_iff.1 hz)
        have hz2 : ((((l.filter fun r => !decide (r.1 = p)).length : Nat) : Int) == (l.length : Int)) = true := by
          rw [beq_iff_eq]; omega
        repeat (first | refine A_seq ?_ | refine A_block ?_ | refine R_list ?_ | refine R_quiet rfl mixed (by kernel_rfl) ?_ | ((first | apply O_y rfl rfl rfl | apply Q_y rfl rfl rfl); (first | exact Y_move rfl rfl | exact Y_assign rfl rfl | exact R_index tabOk rfl rfl rfl rfl rfl rfl (by omega) | exact R_fieldi tabOk rfl rfl rfl | exact R_loadi tabOk rfl rfl rfl rfl rfl rfl rfl | exact R_len tabOk rfl rfl rfl | exact R_load tabOk rfl rfl rfl rfl rfl rfl rfl rfl rfl | exact R_field tabOk rfl rfl rfl rfl | exact Y_addn rfl rfl rfl | exact Y_subn rfl rfl rfl | exact R_cmpT rfl rfl rfl rfl | exact R_cmpF rfl rfl rfl rfl | exact Y_ibin rfl rfl rfl rfl | exact Y_extract rfl rfl rfl | exact R_lenr tabOk rfl rfl rfl rfl | exact R_lenn tabOk rfl rfl rfl | exact R_indexr tabOk rfl rfl rfl rfl rfl rfl rfl (by omega) | exact R_fielde tabOk rfl rfl rfl rfl | exact R_loade tabOk rfl rfl rfl rfl rfl rfl rfl rfl rfl | exact Y_not rfl rfl | exact Y_pick_t rfl rfl (by first | rfl | assumption) rfl | exact Y_pick_f rfl rfl (by first | rfl | assumption) rfl | exact Y_pick_b rfl rfl rfl rfl | exact R_build tabOk rfl rfl rfl rfl rfl rfl | fail)) | refine O_nil ?_ | refine Q_nil ?_ | refine X_then_normal ?_ | refine X_in_normal ?_ | refine O_box rfl rfl rfl rfl rfl rfl rfl ?_ | refine O_alloc tabOk rfl rfl rfl rfl rfl rfl ?_ | refine O_store tabOk rfl rfl rfl rfl rfl rfl rfl rfl rfl rfl rfl ?_ | refine O_slice tabOk rfl rfl rfl rfl rfl rfl rfl rfl rfl rfl rfl ?_ | refine A_ct rfl ?_ | refine A_cf rfl ?_ | refine A_skip ?_ | refine A_exit ?_ | refine A_ret ?_ | refine X_then_exit ?_ | refine X_then_ret ?_ | refine X_in_same ?_ | refine X_in_other rfl ?_ | refine X_in_ret ?_ | refine O_s rfl rfl rfl ?_ | refine Q_s rfl rfl rfl ?_ | refine O_sn rfl rfl ?_ | fail)
        exact X_ret rfl ⟨by rw [he]; rfl, rfl⟩
      · rw [if_neg hz]
        have hz2 : ((((l.filter fun r => !decide (r.1 = p)).length : Nat) : Int) == (l.length : Int)) = false := by
          rw [beq_eq_false_iff_ne]; omega
        repeat (first | refine A_seq ?_ | refine A_block ?_ | refine R_list ?_ | refine R_quiet rfl mixed (by kernel_rfl) ?_ | ((first | apply O_y rfl rfl rfl | apply Q_y rfl rfl rfl); (first | exact Y_move rfl rfl | exact Y_assign rfl rfl | exact R_index tabOk rfl rfl rfl rfl rfl rfl (by omega) | exact R_fieldi tabOk rfl rfl rfl | exact R_loadi tabOk rfl rfl rfl rfl rfl rfl rfl | exact R_len tabOk rfl rfl rfl | exact R_load tabOk rfl rfl rfl rfl rfl rfl rfl rfl rfl | exact R_field tabOk rfl rfl rfl rfl | exact Y_addn rfl rfl rfl | exact Y_subn rfl rfl rfl | exact R_cmpT rfl rfl rfl rfl | exact R_cmpF rfl rfl rfl rfl | exact Y_ibin rfl rfl rfl rfl | exact Y_extract rfl rfl rfl | exact R_lenr tabOk rfl rfl rfl rfl | exact R_lenn tabOk rfl rfl rfl | exact R_indexr tabOk rfl rfl rfl rfl rfl rfl rfl (by omega) | exact R_fielde tabOk rfl rfl rfl rfl | exact R_loade tabOk rfl rfl rfl rfl rfl rfl rfl rfl rfl | exact Y_not rfl rfl | exact Y_pick_t rfl rfl (by first | rfl | assumption) rfl | exact Y_pick_f rfl rfl (by first | rfl | assumption) rfl | exact Y_pick_b rfl rfl rfl rfl | exact R_build tabOk rfl rfl rfl rfl rfl rfl | fail)) | refine O_nil ?_ | refine Q_nil ?_ | refine X_then_normal ?_ | refine X_in_normal ?_ | refine O_box rfl rfl rfl rfl rfl rfl rfl ?_ | refine O_alloc tabOk rfl rfl rfl rfl rfl rfl ?_ | refine O_store tabOk rfl rfl rfl rfl rfl rfl rfl rfl rfl rfl rfl ?_ | refine O_slice tabOk rfl rfl rfl rfl rfl rfl rfl rfl rfl rfl rfl ?_ | refine A_ct rfl ?_ | refine A_cf rfl ?_ | refine A_skip ?_ | refine A_exit ?_ | refine A_ret ?_ | refine X_then_exit ?_ | refine X_then_ret ?_ | refine X_in_same ?_ | refine X_in_other rfl ?_ | refine X_in_ret ?_ | refine O_s rfl rfl rfl ?_ | refine Q_s rfl rfl rfl ?_ | refine O_sn rfl rfl ?_ | fail)
        exact X_retW (Wk_freeze (id := 7) rfl) rfl (h2 := []) trivial ⟨rfl, rfl⟩
  · rw [if_neg hc, if_neg hc]
    repeat (first | refine A_seq ?_ | refine A_block ?_ | refine R_list ?_ | refine R_quiet rfl mixed (by kernel_rfl) ?_ | ((first | apply O_y rfl rfl rfl | apply Q_y rfl rfl rfl); (first | exact Y_move rfl rfl | exact Y_assign rfl rfl | exact R_index tabOk rfl rfl rfl rfl rfl rfl (by omega) | exact R_fieldi tabOk rfl rfl rfl | exact R_loadi tabOk rfl rfl rfl rfl rfl rfl rfl | exact R_len tabOk rfl rfl rfl | exact R_load tabOk rfl rfl rfl rfl rfl rfl rfl rfl rfl | exact R_field tabOk rfl rfl rfl rfl | exact Y_addn rfl rfl rfl | exact Y_subn rfl rfl rfl | exact R_cmpT rfl rfl rfl rfl | exact R_cmpF rfl rfl rfl rfl | exact Y_ibin rfl rfl rfl rfl | exact Y_extract rfl rfl rfl | exact R_lenr tabOk rfl rfl rfl rfl | exact R_lenn tabOk rfl rfl rfl | exact R_indexr tabOk rfl rfl rfl rfl rfl rfl rfl (by omega) | exact R_fielde tabOk rfl rfl rfl rfl | exact R_loade tabOk rfl rfl rfl rfl rfl rfl rfl rfl rfl | exact Y_not rfl rfl | exact Y_pick_t rfl rfl (by first | rfl | assumption) rfl | exact Y_pick_f rfl rfl (by first | rfl | assumption) rfl | exact Y_pick_b rfl rfl rfl rfl | exact R_build tabOk rfl rfl rfl rfl rfl rfl | fail)) | refine O_nil ?_ | refine Q_nil ?_ | refine X_then_normal ?_ | refine X_in_normal ?_ | refine O_box rfl rfl rfl rfl rfl rfl rfl ?_ | refine O_alloc tabOk rfl rfl rfl rfl rfl rfl ?_ | refine O_store tabOk rfl rfl rfl rfl rfl rfl rfl rfl rfl rfl rfl ?_ | refine O_slice tabOk rfl rfl rfl rfl rfl rfl rfl rfl rfl rfl rfl ?_ | refine A_ct rfl ?_ | refine A_cf rfl ?_ | refine A_skip ?_ | refine A_exit ?_ | refine A_ret ?_ | refine X_then_exit ?_ | refine X_then_ret ?_ | refine X_in_same ?_ | refine X_in_other rfl ?_ | refine X_in_ret ?_ | refine O_s rfl rfl rfl ?_ | refine Q_s rfl rfl rfl ?_ | refine O_sn rfl rfl ?_ | refine O_c rfl rfl rfl rfl rfl hck (fun _ => rfl) ?_)
    exact X_ret rfl ⟨rfl, rfl⟩
end Go.Proofs.Ytaecjmjdhbjbkaa.Ab

namespace Go.Proofs.Ytaecjmjdhbjbkaa.Ab
set_option linter.unusedVariables false
set_option maxRecDepth 100000
open Go.RowKit

def tfun (tab : TTab) (t : Nat) : Bool := match tlook tab t with
  | some te => match te.sh with
    | .fu => true
    | _ => false
  | none => false
section
variable {P : Program} {nt : Nat} {Q : Post} {e : Env} {h : Heap} {o : Oper} {T : List Nat} {tab : TTab}
theorem run_fnil {P : Program} (w : World) {t : TypeId} {p q b} (dd : Nat) (hd : P.underlying t = some (.func p q b)) (f C) : (Op.equalIn (dd + 1) t (.func f #[] C) .nilFunc).run P w = .ok false w := by unfold Op.equalIn; simp [run_underlying hd]
/-- A closure is not nil. -/
theorem R_fnil {t u f : Nat} {x : Operand} {caps : List AVal} (TO : TabOk P tab) (ho : o.op = .binOp .eql t x (.const .nilFunc) u) (ht : tfun tab t = true) (hx : aev e x = some (.fn f caps)) : AYield P T e h o (.d (.sc (.bool false))) := yield_of _ fun w F ι ac E => by
  unfold tfun at ht
  split at ht
  · rename_i te hte
    split at ht
    · rename_i hs
      obtain ⟨d, hd, _, hh⟩ := (TO t te hte).und
      rw [hs] at hh
      obtain ⟨p, q, b, rfl⟩ := hh
      have hv := aev_rel E hx
      generalize hau : ac.eval x = ux at hv
      cases hv with
      | fn _ _ C hl hc =>
        refine ⟨.bool false, sc_rel rfl, fun w' => ?_⟩
        have ev : ac.eval (.const .nilFunc) = .nilFunc := rfl
        simp only [execOp, ho, hau, ev, eqGuard, binOp, Op.equal]
        rw [show Op.maxDepth = 9999 + 1 from rfl]
        simp [run_fnil w' 9999 hd]
    · cases ht
  · cases ht
/-- A block that ends in one of some states, whatever way it goes. -/
theorem A_cutB {α : Type} {z : Bool} {id : Nat} {c y : Code} (E1 : Env) (H1 : α → Heap) (h1 : AWp z P nt c (AIn id (AThen (fun e' h' => ∃ a, AWk nt e' h' E1 (H1 a)) RF)) e h) (h2 : ∀ a, AWp z P nt y Q E1 (H1 a)) : AWp z P nt c (AIn id (AThen (AWp z P nt y Q) Q)) e h :=
  h1.mono fun ex e h hq => by
    cases ex with
    | normal =>
      obtain ⟨a, hk⟩ := hq
      exact A_weaken hk (h2 a)
    | exit j =>
      show cond (Nat.beq j id) _ _
      have hq : cond (Nat.beq j id) (∃ a, AWk nt e h E1 (H1 a)) False := hq
      cases hb : Nat.beq j id with
      | true =>
        rw [hb] at hq
        obtain ⟨a, hk⟩ := hq
        exact A_weaken hk (h2 a)
      | false => rw [hb] at hq; exact hq.elim
    | _ => exact False.elim hq
end
set_option linter.unusedSimpArgs false
attribute [local irreducible] AWp AOps AQ AYield AEff ACall AWk AAny AAt AThen AIn APost NoPanic
abbrev rE (t : Nat) (c : AVal) : Env := [(t, c), (4, .ptr 4 0), (5, .ptr 5 0), (6, .ptr 6 0), (7, .ptr 7 0), (0, c)]
abbrev rE1 (t : Nat) (c : AVal) : Env := [(t, c), (4, .ptr 1004 0), (5, .ptr 1005 0), (6, .ptr 1006 0), (7, .ptr 1007 0), (0, c)]
abbrev rH (R : List Row) (leave n : Int) : Heap := [(4, .var [rowsA R]), (5, .var [intA leave]), (6, .var [boolA false]), (7, .var [intA n])]
abbrev rH1 (R : List Row) (leave n : Int) : Heap := [(1004, .var [rowsA R]), (1005, .var [intA leave]), (1006, .var [boolA false]), (1007, .var [intA n])]
theorem goneXs_at (R : List Row) (i : Nat) (x : List AVal) (hx : (goneXs R)[i]? = some x) : ∃ h : i < R.length, x = [pfxA R[i].1, intA R[i].2] := by
  rw [goneXs, List.getElem?_map] at hx
  cases h : R[i]? with
  | none => simp [h] at hx
  | some p =>
    obtain ⟨hl, he⟩ := List.getElem?_eq_some_iff.1 h
    simp [h] at hx
    exact ⟨hl, by rw [he]; exact hx.symm⟩
theorem goneXs_ok' (rows : List Row) : ∀ x ∈ goneXs rows, x.length = 2 ∧ ∀ c ∈ x, datA c := fun x hx => by
  obtain ⟨r, _, rfl⟩ := List.mem_map.1 hx
  refine ⟨rfl, fun c hc => ?_⟩
  simp at hc
  rcases hc with rfl | rfl <;> exact fun _ => rfl
theorem caps_ok' (rows : List Row) : ∀ c ∈ [AVal.iptr [rowsD rows] 0], datA c := fun c hc => by simp at hc; subst hc; exact fun _ => rfl
set_option maxHeartbeats 4000000 in
theorem rows_A (R : List Row) (leave : Int) (hn : R.length ≤ 1000000) : ACall Try.prog 32 [goneA R, rowsA R, intA leave] [] (Just (boolA true)) := by
  refine ACall_of tabOk Try.func32 rfl Try.ntmps32 (congrArg Array.toList Try.results32) (by kernel_rfl) rfl ?_
  repeat (first | refine A_seq ?_ | refine A_block ?_ | refine R_list ?_ | refine R_quiet rfl mixed (by kernel_rfl) ?_ | ((first | apply O_y rfl rfl rfl | apply Q_y rfl rfl rfl); (first | exact Y_move rfl rfl | exact Y_assign rfl rfl | exact R_index tabOk rfl rfl rfl rfl rfl rfl (by omega) | exact R_fieldi tabOk rfl rfl rfl | exact R_loadi tabOk rfl rfl rfl rfl rfl rfl rfl | exact R_len tabOk rfl rfl rfl | exact R_load tabOk rfl rfl rfl rfl rfl rfl rfl rfl rfl | exact R_field tabOk rfl rfl rfl rfl | exact Y_addn rfl rfl rfl | exact Y_subn rfl rfl rfl | exact R_cmpT rfl rfl rfl rfl | exact R_cmpF rfl rfl rfl rfl | exact Y_ibin rfl rfl rfl rfl | exact Y_extract rfl rfl rfl | exact R_lenr tabOk rfl rfl rfl rfl | exact R_lenn tabOk rfl rfl rfl | exact R_indexr tabOk rfl rfl rfl rfl rfl rfl rfl (by omega) | exact R_fielde tabOk rfl rfl rfl rfl | exact R_loade tabOk rfl rfl rfl rfl rfl rfl rfl rfl rfl | exact Y_not rfl rfl | exact Y_pick_t rfl rfl (by first | rfl | assumption) rfl | exact Y_pick_f rfl rfl (by first | rfl | assumption) rfl | exact Y_pick_b rfl rfl rfl rfl | exact R_build tabOk rfl rfl rfl rfl rfl rfl | (exact R_fnil tabOk rfl rfl rfl))) | refine O_nil ?_ | refine Q_nil ?_ | refine X_then_normal ?_ | refine X_in_normal ?_ | refine O_box rfl rfl rfl rfl rfl rfl rfl ?_ | refine O_alloc tabOk rfl rfl rfl rfl rfl rfl ?_ | refine O_store tabOk rfl rfl rfl rfl rfl rfl rfl rfl rfl rfl rfl ?_ | refine O_slice tabOk rfl rfl rfl rfl rfl rfl rfl rfl rfl rfl rfl ?_ | refine A_ct rfl ?_ | refine A_cf rfl ?_ | refine A_skip ?_ | refine A_exit ?_ | refine A_ret ?_ | refine X_then_exit ?_ | refine X_then_ret ?_ | refine X_in_same ?_ | refine X_in_other rfl ?_ | refine X_in_ret ?_ | refine O_s rfl rfl rfl ?_ | refine Q_s rfl rfl rfl ?_ | refine O_sn rfl rfl ?_ | fail)
  refine A_cutB (rE 0 (goneA R)) (fun n : Int => rH R leave n) ?_ fun n => ?_
  · refine A_weaken (Wk_sel (e1 := rE 12 (goneA R)) (h1 := rH R leave ((0 : Nat) : Int)) ⟨rfl, rfl, rfl, rfl, rfl, rfl, trivial⟩ ⟨rfl, rfl, rfl, rfl, trivial⟩) ?_
    refine A_rangeFunc (xs := goneXs R) (E := rE 12 (goneA R)) (H := fun i : Nat => rH R leave (i : Int)) rfl (gone_seq R hn) (caps_ok' R) rfl (goneXs_ok' R) (fun i x hx => ?_) ?_
    · obtain ⟨hi, rfl⟩ := goneXs_at R i x hx
      show AWp false _ _ _ _ ([(13, pfxA R[i].1), (14, intA R[i].2)] ++ rE1 12 (goneA R)) (rH1 R leave (i : Int))
      by_cases hl : leave < (i : Int) + 1
      ·
        repeat (first | refine A_seq ?_ | refine A_block ?_ | refine R_list ?_ | refine R_quiet rfl mixed (by kernel_rfl) ?_ | ((first | apply O_y rfl rfl rfl | apply Q_y rfl rfl rfl); (first | exact Y_move rfl rfl | exact Y_assign rfl rfl | exact R_index tabOk rfl rfl rfl rfl rfl rfl (by omega) | exact R_fieldi tabOk rfl rfl rfl | exact R_loadi tabOk rfl rfl rfl rfl rfl rfl rfl | exact R_len tabOk rfl rfl rfl | exact R_load tabOk rfl rfl rfl rfl rfl rfl rfl rfl rfl | exact R_field tabOk rfl rfl rfl rfl | exact Y_addn rfl rfl rfl | exact Y_subn rfl rfl rfl | exact R_cmpT rfl rfl rfl rfl | exact R_cmpF rfl rfl rfl rfl | exact Y_ibin rfl rfl rfl rfl | exact Y_extract rfl rfl rfl | exact R_lenr tabOk rfl rfl rfl rfl | exact R_lenn tabOk rfl rfl rfl | exact R_indexr tabOk rfl rfl rfl rfl rfl rfl rfl (by omega) | exact R_fielde tabOk rfl rfl rfl rfl | exact R_loade tabOk rfl rfl rfl rfl rfl rfl rfl rfl rfl | exact Y_not rfl rfl | exact Y_pick_t rfl rfl (by first | rfl | assumption) rfl | exact Y_pick_f rfl rfl (by first | rfl | assumption) rfl | exact Y_pick_b rfl rfl rfl rfl | exact R_build tabOk rfl rfl rfl rfl rfl rfl | fail)) | refine O_nil ?_ | refine Q_nil ?_ | refine X_then_normal ?_ | refine X_in_normal ?_ | refine O_box rfl rfl rfl rfl rfl rfl rfl ?_ | refine O_alloc tabOk rfl rfl rfl rfl rfl rfl ?_ | refine O_store tabOk rfl rfl rfl rfl rfl rfl rfl rfl rfl rfl rfl ?_ | refine O_slice tabOk rfl rfl rfl rfl rfl rfl rfl rfl rfl rfl rfl ?_ | refine A_ct rfl ?_ | refine A_cf rfl ?_ | refine A_skip ?_ | refine A_exit ?_ | refine A_ret ?_ | refine X_then_exit ?_ | refine X_then_ret ?_ | refine X_in_same ?_ | refine X_in_other rfl ?_ | refine X_in_ret ?_ | refine O_s rfl rfl rfl ?_ | refine Q_s rfl rfl rfl ?_ | refine O_sn rfl rfl ?_ | fail)
        exact ⟨rH R leave ((i : Int) + 1), Wk_sel trivial ⟨rfl, rfl, rfl, rfl, trivial⟩, X_in_same (X_then_normal ⟨_, Wk_sel ⟨rfl, rfl, rfl, rfl, rfl, rfl, trivial⟩ ⟨rfl, rfl, rfl, rfl, trivial⟩⟩)⟩
      ·
        repeat (first | refine A_seq ?_ | refine A_block ?_ | refine R_list ?_ | refine R_quiet rfl mixed (by kernel_rfl) ?_ | ((first | apply O_y rfl rfl rfl | apply Q_y rfl rfl rfl); (first | exact Y_move rfl rfl | exact Y_assign rfl rfl | exact R_index tabOk rfl rfl rfl rfl rfl rfl (by omega) | exact R_fieldi tabOk rfl rfl rfl | exact R_loadi tabOk rfl rfl rfl rfl rfl rfl rfl | exact R_len tabOk rfl rfl rfl | exact R_load tabOk rfl rfl rfl rfl rfl rfl rfl rfl rfl | exact R_field tabOk rfl rfl rfl rfl | exact Y_addn rfl rfl rfl | exact Y_subn rfl rfl rfl | exact R_cmpT rfl rfl rfl rfl | exact R_cmpF rfl rfl rfl rfl | exact Y_ibin rfl rfl rfl rfl | exact Y_extract rfl rfl rfl | exact R_lenr tabOk rfl rfl rfl rfl | exact R_lenn tabOk rfl rfl rfl | exact R_indexr tabOk rfl rfl rfl rfl rfl rfl rfl (by omega) | exact R_fielde tabOk rfl rfl rfl rfl | exact R_loade tabOk rfl rfl rfl rfl rfl rfl rfl rfl rfl | exact Y_not rfl rfl | exact Y_pick_t rfl rfl (by first | rfl | assumption) rfl | exact Y_pick_f rfl rfl (by first | rfl | assumption) rfl | exact Y_pick_b rfl rfl rfl rfl | exact R_build tabOk rfl rfl rfl rfl rfl rfl | fail)) | refine O_nil ?_ | refine Q_nil ?_ | refine X_then_normal ?_ | refine X_in_normal ?_ | refine O_box rfl rfl rfl rfl rfl rfl rfl ?_ | refine O_alloc tabOk rfl rfl rfl rfl rfl rfl ?_ | refine O_store tabOk rfl rfl rfl rfl rfl rfl rfl rfl rfl rfl rfl ?_ | refine O_slice tabOk rfl rfl rfl rfl rfl rfl rfl rfl rfl rfl rfl ?_ | refine A_ct rfl ?_ | refine A_cf rfl ?_ | refine A_skip ?_ | refine A_exit ?_ | refine A_ret ?_ | refine X_then_exit ?_ | refine X_then_ret ?_ | refine X_in_same ?_ | refine X_in_other rfl ?_ | refine X_in_ret ?_ | refine O_s rfl rfl rfl ?_ | refine Q_s rfl rfl rfl ?_ | refine O_sn rfl rfl ?_ | fail)
        exact Wk_sel trivial ⟨rfl, rfl, rfl, rfl, trivial⟩
    · exact X_in_normal (X_then_normal ⟨_, Wk_sel ⟨rfl, rfl, rfl, rfl, rfl, rfl, trivial⟩ ⟨rfl, rfl, rfl, rfl, trivial⟩⟩)
  ·
    repeat (first | refine A_seq ?_ | refine A_block ?_ | refine R_list ?_ | refine R_quiet rfl mixed (by kernel_rfl) ?_ | ((first | apply O_y rfl rfl rfl | apply Q_y rfl rfl rfl); (first | exact Y_move rfl rfl | exact Y_assign rfl rfl | exact R_index tabOk rfl rfl rfl rfl rfl rfl (by omega) | exact R_fieldi tabOk rfl rfl rfl | exact R_loadi tabOk rfl rfl rfl rfl rfl rfl rfl | exact R_len tabOk rfl rfl rfl | exact R_load tabOk rfl rfl rfl rfl rfl rfl rfl rfl rfl | exact R_field tabOk rfl rfl rfl rfl | exact Y_addn rfl rfl rfl | exact Y_subn rfl rfl rfl | exact R_cmpT rfl rfl rfl rfl | exact R_cmpF rfl rfl rfl rfl | exact Y_ibin rfl rfl rfl rfl | exact Y_extract rfl rfl rfl | exact R_lenr tabOk rfl rfl rfl rfl | exact R_lenn tabOk rfl rfl rfl | exact R_indexr tabOk rfl rfl rfl rfl rfl rfl rfl (by omega) | exact R_fielde tabOk rfl rfl rfl rfl | exact R_loade tabOk rfl rfl rfl rfl rfl rfl rfl rfl rfl | exact Y_not rfl rfl | exact Y_pick_t rfl rfl (by first | rfl | assumption) rfl | exact Y_pick_f rfl rfl (by first | rfl | assumption) rfl | exact Y_pick_b rfl rfl rfl rfl | exact R_build tabOk rfl rfl rfl rfl rfl rfl | fail)) | refine O_nil ?_ | refine Q_nil ?_ | refine X_then_normal ?_ | refine X_in_normal ?_ | refine O_box rfl rfl rfl rfl rfl rfl rfl ?_ | refine O_alloc tabOk rfl rfl rfl rfl rfl rfl ?_ | refine O_store tabOk rfl rfl rfl rfl rfl rfl rfl rfl rfl rfl rfl ?_ | refine O_slice tabOk rfl rfl rfl rfl rfl rfl rfl rfl rfl rfl rfl ?_ | refine A_ct rfl ?_ | refine A_cf rfl ?_ | refine A_skip ?_ | refine A_exit ?_ | refine A_ret ?_ | refine X_then_exit ?_ | refine X_then_ret ?_ | refine X_in_same ?_ | refine X_in_other rfl ?_ | refine X_in_ret ?_ | refine O_s rfl rfl rfl ?_ | refine Q_s rfl rfl rfl ?_ | refine O_sn rfl rfl ?_ | fail)
    refine A_cutB (rE 0 (goneA R)) (fun _ : Unit => rH R leave (R.length : Int)) ?_ fun _ => ?_
    · refine A_weaken (Wk_sel (e1 := rE 20 (goneA R)) (h1 := rH R leave ((0 : Nat) : Int)) ⟨rfl, rfl, rfl, rfl, rfl, rfl, trivial⟩ ⟨rfl, rfl, rfl, rfl, trivial⟩) ?_
      refine A_range (xs := goneXs R) (E := rE 20 (goneA R)) (E' := rE1 20 (goneA R)) (H := fun i : Nat => rH R leave (i : Int)) (H' := fun i : Nat => rH1 R leave (i : Int)) rfl (gone_seq R hn) (caps_ok' R) rfl (goneXs_ok' R) rfl (fun _ => rfl) (fun i x hx => ?_) ?_
      · obtain ⟨hi, rfl⟩ := goneXs_at R i x hx
        have hpe := pfxEq R[i].1 R[i].1
        rw [show (R[i].1 == R[i].1) = true by simp] at hpe
        show AWp false _ _ _ _ ([(21, pfxA R[i].1), (22, intA R[i].2)] ++ rE1 20 (goneA R)) (rH1 R leave (i : Int))
        repeat (first | refine A_seq ?_ | refine A_block ?_ | refine R_list ?_ | refine R_quiet rfl mixed (by kernel_rfl) ?_ | ((first | apply O_y rfl rfl rfl | apply Q_y rfl rfl rfl); (first | exact Y_move rfl rfl | exact Y_assign rfl rfl | exact R_index tabOk rfl rfl rfl rfl rfl rfl (by omega) | exact R_fieldi tabOk rfl rfl rfl | exact R_loadi tabOk rfl rfl rfl rfl (by first | exact win_flat0 rowD_len R i _ hi (by decide) | exact win_flat rowD_len R i _ _ hi (by decide) | exact win_flat2 rowD_len R i _ _ _ hi (by decide) | rfl) rfl rfl | exact R_len tabOk rfl rfl rfl | exact R_load tabOk rfl rfl rfl rfl rfl rfl rfl rfl rfl | exact R_field tabOk rfl rfl rfl rfl | exact Y_addn rfl rfl rfl | exact Y_subn rfl rfl rfl | exact R_cmpT rfl rfl rfl rfl | exact R_cmpF rfl rfl rfl rfl | exact Y_ibin rfl rfl rfl rfl | exact Y_extract rfl rfl rfl | exact R_lenr tabOk rfl rfl rfl rfl | exact R_lenn tabOk rfl rfl rfl | exact R_indexr tabOk rfl rfl rfl rfl rfl rfl rfl (by omega) | exact R_fielde tabOk rfl rfl rfl rfl | exact R_loade tabOk rfl rfl rfl rfl rfl rfl rfl rfl rfl | exact Y_not rfl rfl | exact Y_pick_t rfl rfl (by first | rfl | assumption) rfl | exact Y_pick_f rfl rfl (by first | rfl | assumption) rfl | exact Y_pick_b rfl rfl rfl rfl | exact R_build tabOk rfl rfl rfl rfl rfl rfl | (exact Y_eq tabOk noStand rfl rfl rfl rfl rfl rfl rfl rfl rfl (by kernel_rfl) hpe rfl))) | refine O_nil ?_ | refine Q_nil ?_ | refine X_then_normal ?_ | refine X_in_normal ?_ | refine O_box rfl rfl rfl rfl rfl rfl rfl ?_ | refine O_alloc tabOk rfl rfl rfl rfl rfl rfl ?_ | refine O_store tabOk rfl rfl rfl rfl rfl rfl rfl rfl rfl rfl rfl ?_ | refine O_slice tabOk rfl rfl rfl rfl rfl rfl rfl rfl rfl rfl rfl ?_ | refine A_ct rfl ?_ | refine A_cf rfl ?_ | refine A_skip ?_ | refine A_exit ?_ | refine A_ret ?_ | refine X_then_exit ?_ | refine X_then_ret ?_ | refine X_in_same ?_ | refine X_in_other rfl ?_ | refine X_in_ret ?_ | refine O_s rfl rfl rfl ?_ | refine Q_s rfl rfl rfl ?_ | refine O_sn rfl rfl ?_ | fail)
        exact Wk_sel trivial ⟨rfl, rfl, rfl, rfl, trivial⟩
      · refine X_in_normal (X_then_normal ⟨(), ?_⟩)
        try dsimp only
        rw [show (goneXs R).length = R.length by simp [goneXs]]
        exact Wk_sel ⟨rfl, rfl, rfl, rfl, rfl, rfl, trivial⟩ ⟨rfl, rfl, rfl, rfl, trivial⟩
    ·
      repeat (first | refine A_seq ?_ | refine A_block ?_ | refine R_list ?_ | refine R_quiet rfl mixed (by kernel_rfl) ?_ | ((first | apply O_y rfl rfl rfl | apply Q_y rfl rfl rfl); (first | exact Y_move rfl rfl | exact Y_assign rfl rfl | exact R_index tabOk rfl rfl rfl rfl rfl rfl (by omega) | exact R_fieldi tabOk rfl rfl rfl | exact R_loadi tabOk rfl rfl rfl rfl rfl rfl rfl | exact R_len tabOk rfl rfl rfl | exact R_load tabOk rfl rfl rfl rfl rfl rfl rfl rfl rfl | exact R_field tabOk rfl rfl rfl rfl | exact Y_addn rfl rfl rfl | exact Y_subn rfl rfl rfl | exact R_cmpT rfl rfl rfl rfl | exact R_cmpF rfl rfl rfl rfl | exact Y_ibin rfl rfl rfl rfl | exact Y_extract rfl rfl rfl | exact R_lenr tabOk rfl rfl rfl rfl | exact R_lenn tabOk rfl rfl rfl | exact R_indexr tabOk rfl rfl rfl rfl rfl rfl rfl (by omega) | exact R_fielde tabOk rfl rfl rfl rfl | exact R_loade tabOk rfl rfl rfl rfl rfl rfl rfl rfl rfl | exact Y_not rfl rfl | exact Y_pick_t rfl rfl (by first | rfl | assumption) rfl | exact Y_pick_f rfl rfl (by first | rfl | assumption) rfl | exact Y_pick_b rfl rfl rfl rfl | exact R_build tabOk rfl rfl rfl rfl rfl rfl | fail)) | refine O_nil ?_ | refine Q_nil ?_ | refine X_then_normal ?_ | refine X_in_normal ?_ | refine O_box rfl rfl rfl rfl rfl rfl rfl ?_ | refine O_alloc tabOk rfl rfl rfl rfl rfl rfl ?_ | refine O_store tabOk rfl rfl rfl rfl rfl rfl rfl rfl rfl rfl rfl ?_ | refine O_slice tabOk rfl rfl rfl rfl rfl rfl rfl rfl rfl rfl rfl ?_ | refine A_ct rfl ?_ | refine A_cf rfl ?_ | refine A_skip ?_ | refine A_exit ?_ | refine A_ret ?_ | refine X_then_exit ?_ | refine X_then_ret ?_ | refine X_in_same ?_ | refine X_in_other rfl ?_ | refine X_in_ret ?_ | refine O_s rfl rfl rfl ?_ | refine Q_s rfl rfl rfl ?_ | refine O_sn rfl rfl ?_ | fail)
      exact X_ret rfl ⟨rfl, rfl⟩
end Go.Proofs.Ytaecjmjdhbjbkaa.Ab

namespace Go.Proofs.Ytaecjmjdhbjbkaa.Ab
set_option linter.unusedVariables false
set_option maxRecDepth 100000
open Go.RowKit
set_option linter.unusedSimpArgs false
attribute [local irreducible] AWp AOps AQ AYield AEff ACall AWk AAny AAt AThen AIn APost NoPanic

set_option maxHeartbeats 2000000 in
theorem tblAt_A (u : Nat → Int) (m : List (Pfx × Int)) (p : Pfx) (hn : (m.map (·.1)).Nodup) :
    ACall Try.prog 20 [.ptr 1000 0, pfxA p] [(1000, tblB 1001 u), (1001, mapB m)] (fun c h => c = .tup [intA ((aget m p).getD 0), boolA (aget m p).isSome] ∧ h = [(1000, tblB 1001 u), (1001, mapB m)]) := by
  refine ACall_of tabOk Try.func20 rfl Try.ntmps20 (congrArg Array.toList Try.results20) (by kernel_rfl) rfl ?_
  cases hag : aget m p with
  | none =>
    repeat (first | refine A_seq ?_ | refine A_block ?_ | refine R_list ?_ | refine R_quiet rfl mixed (by kernel_rfl) ?_ | ((first | apply O_y rfl rfl rfl | apply Q_y rfl rfl rfl); (first | exact Y_move rfl rfl | exact Y_assign rfl rfl | exact R_index tabOk rfl rfl rfl rfl rfl rfl (by omega) | exact R_fieldi tabOk rfl rfl rfl | exact R_loadi tabOk rfl rfl rfl rfl rfl rfl rfl | exact R_len tabOk rfl rfl rfl | exact R_load tabOk rfl rfl rfl rfl rfl rfl rfl rfl rfl | exact R_field tabOk rfl rfl rfl rfl | exact Y_addn rfl rfl rfl | exact Y_subn rfl rfl rfl | exact R_cmpT rfl rfl rfl rfl | exact R_cmpF rfl rfl rfl rfl | exact Y_ibin rfl rfl rfl rfl | exact Y_extract rfl rfl rfl | exact R_lenr tabOk rfl rfl rfl rfl | exact R_lenn tabOk rfl rfl rfl | exact R_indexr tabOk rfl rfl rfl rfl rfl rfl rfl (by omega) | exact R_fielde tabOk rfl rfl rfl rfl | exact R_loade tabOk rfl rfl rfl rfl rfl rfl rfl rfl rfl | exact Y_not rfl rfl | exact Y_pick_t rfl rfl (by first | rfl | assumption) rfl | exact Y_pick_f rfl rfl (by first | rfl | assumption) rfl | exact Y_pick_b rfl rfl rfl rfl | exact R_build tabOk rfl rfl rfl rfl rfl rfl | (first | exact R_pnil tabOk rfl rfl rfl rfl rfl | exact Y_nilCheck rfl rfl rfl | exact R_lkOut (k := p) pfxKey pfxA_val zeroInt rfl trivial (fun _ _ => trivial) hn hag tabOk rfl rfl rfl (kill_map 3 m) rfl rfl))) | refine O_nil ?_ | refine Q_nil ?_ | refine X_then_normal ?_ | refine X_in_normal ?_ | refine O_box rfl rfl rfl rfl rfl rfl rfl ?_ | refine O_alloc tabOk rfl rfl rfl rfl rfl rfl ?_ | refine O_store tabOk rfl rfl rfl rfl rfl rfl rfl rfl rfl rfl rfl ?_ | refine O_slice tabOk rfl rfl rfl rfl rfl rfl rfl rfl rfl rfl rfl ?_ | refine A_ct rfl ?_ | refine A_cf rfl ?_ | refine A_skip ?_ | refine A_exit ?_ | refine A_ret ?_ | refine X_then_exit ?_ | refine X_then_ret ?_ | refine X_in_same ?_ | refine X_in_other rfl ?_ | refine X_in_ret ?_ | refine O_s rfl rfl rfl ?_ | refine Q_s rfl rfl rfl ?_ | refine O_sn rfl rfl ?_ | fail)
    exact X_retW AWk.refl rfl (h2 := [(1000, tblB 1001 u), (1001, mapB m)]) ⟨rfl, kill_map 3 m, trivial⟩ ⟨rfl, rfl⟩
  | some x =>
    repeat (first | refine A_seq ?_ | refine A_block ?_ | refine R_list ?_ | refine R_quiet rfl mixed (by kernel_rfl) ?_ | ((first | apply O_y rfl rfl rfl | apply Q_y rfl rfl rfl); (first | exact Y_move rfl rfl | exact Y_assign rfl rfl | exact R_index tabOk rfl rfl rfl rfl rfl rfl (by omega) | exact R_fieldi tabOk rfl rfl rfl | exact R_loadi tabOk rfl rfl rfl rfl rfl rfl rfl | exact R_len tabOk rfl rfl rfl | exact R_load tabOk rfl rfl rfl rfl rfl rfl rfl rfl rfl | exact R_field tabOk rfl rfl rfl rfl | exact Y_addn rfl rfl rfl | exact Y_subn rfl rfl rfl | exact R_cmpT rfl rfl rfl rfl | exact R_cmpF rfl rfl rfl rfl | exact Y_ibin rfl rfl rfl rfl | exact Y_extract rfl rfl rfl | exact R_lenr tabOk rfl rfl rfl rfl | exact R_lenn tabOk rfl rfl rfl | exact R_indexr tabOk rfl rfl rfl rfl rfl rfl rfl (by omega) | exact R_fielde tabOk rfl rfl rfl rfl | exact R_loade tabOk rfl rfl rfl rfl rfl rfl rfl rfl rfl | exact Y_not rfl rfl | exact Y_pick_t rfl rfl (by first | rfl | assumption) rfl | exact Y_pick_f rfl rfl (by first | rfl | assumption) rfl | exact Y_pick_b rfl rfl rfl rfl | exact R_build tabOk rfl rfl rfl rfl rfl rfl | (first | exact R_pnil tabOk rfl rfl rfl rfl rfl | exact Y_nilCheck rfl rfl rfl | exact R_lkIn (k := p) pfxKey pfxA_val zeroInt trivial (fun _ _ => trivial) hn hag tabOk rfl rfl rfl (kill_map 3 m) rfl rfl))) | refine O_nil ?_ | refine Q_nil ?_ | refine X_then_normal ?_ | refine X_in_normal ?_ | refine O_box rfl rfl rfl rfl rfl rfl rfl ?_ | refine O_alloc tabOk rfl rfl rfl rfl rfl rfl ?_ | refine O_store tabOk rfl rfl rfl rfl rfl rfl rfl rfl rfl rfl rfl ?_ | refine O_slice tabOk rfl rfl rfl rfl rfl rfl rfl rfl rfl rfl rfl ?_ | refine A_ct rfl ?_ | refine A_cf rfl ?_ | refine A_skip ?_ | refine A_exit ?_ | refine A_ret ?_ | refine X_then_exit ?_ | refine X_then_ret ?_ | refine X_in_same ?_ | refine X_in_other rfl ?_ | refine X_in_ret ?_ | refine O_s rfl rfl rfl ?_ | refine Q_s rfl rfl rfl ?_ | refine O_sn rfl rfl ?_ | fail)
    exact X_retW AWk.refl rfl (h2 := [(1000, tblB 1001 u), (1001, mapB m)]) ⟨rfl, kill_map 3 m, trivial⟩ ⟨rfl, rfl⟩
end Go.Proofs.Ytaecjmjdhbjbkaa.Ab

namespace Go.Proofs.Ytaecjmjdhbjbkaa
set_option linter.unusedVariables false
open Go.Lib

structure Good {α : Type} (c : α → α → Int) : Prop where
  anti : ∀ x y, c y x = - c x y
  trans : ∀ x y z, c x y ≤ 0 → c y z ≤ 0 → c x z ≤ 0
section
variable {α β : Type} {c d : α → α → Int}
theorem Good.refl (G : Good c) (x : α) : c x x = 0 := by have := G.anti x x; omega
theorem Good.lt_le (G : Good c) {x y z : α} (h1 : c x y < 0) (h2 : c y z ≤ 0) : c x z < 0 := by
  have h3 := G.trans x y z (by omega) h2
  rcases Int.lt_or_eq_of_le h3 with h4 | h4
  · exact h4
  · have h5 := G.anti x z
    have h6 := G.trans y z x h2 (by omega)
    have h7 := G.anti x y
    omega
theorem Good.le_lt (G : Good c) {x y z : α} (h1 : c x y ≤ 0) (h2 : c y z < 0) : c x z < 0 := by
  have h3 := G.trans x y z h1 (by omega)
  rcases Int.lt_or_eq_of_le h3 with h4 | h4
  · exact h4
  · have h5 := G.anti x z
    have h6 := G.trans z x y (by omega) h1
    have h7 := G.anti y z
    omega
theorem Good.lt_lt (G : Good c) {x y z : α} (h1 : c x y < 0) (h2 : c y z < 0) : c x z < 0 := G.lt_le h1 (by omega)
theorem Good.eq_le (G : Good c) {x y z : α} (h1 : c x y = 0) : c x z = c y z ∨ (c x z < 0 ∧ c y z < 0) ∨ (0 < c x z ∧ 0 < c y z) := by
  have h2 := G.anti x y
  have h3 := G.anti y z
  have h4 := G.anti x z
  rcases Int.lt_trichotomy (c y z) 0 with h | h | h
  · exact .inr (.inl ⟨G.le_lt (by omega) h, h⟩)
  · have h5 := G.trans x y z (by omega) (by omega)
    have h6 := G.trans z y x (by omega) (by omega)
    exact .inl (by omega)
  · have h5 : c z x < 0 := G.lt_le (y := y) (by omega) (by omega)
    exact .inr (.inr ⟨by omega, h⟩)
/-- The one, and where it does not part two the other one. -/
def lexc (c d : α → α → Int) : α → α → Int := fun x y => if c x y = 0 then d x y else c x y
theorem Good.lex (G : Good c) (H : Good d) : Good (lexc c d) := by
  refine ⟨fun x y => ?_, fun x y z h1 h2 => ?_⟩
  · unfold lexc
    have h := G.anti x y
    by_cases h0 : c x y = 0
    · rw [if_pos h0, if_pos (by omega)]; exact H.anti x y
    · rw [if_neg h0, if_neg (by omega)]; exact h
  · unfold lexc at *
    by_cases hxy : c x y = 0
    · rw [if_pos hxy] at h1
      by_cases hyz : c y z = 0
      · rw [if_pos hyz] at h2
        have e1 := G.trans x y z (by omega) (by omega)
        have e2 := G.anti x y
        have e3 := G.anti y z
        have e4 := G.trans z y x (by omega) (by omega)
        have e5 := G.anti x z
        rw [if_pos (by omega)]
        exact H.trans x y z h1 h2
      · rw [if_neg hyz] at h2
        have := G.le_lt (x := x) (y := y) (z := z) (by omega) (by omega)
        rw [if_neg (by omega)]; omega
    · rw [if_neg hxy] at h1
      have h3 : c y z ≤ 0 := by
        by_cases hyz : c y z = 0
        · omega
        · rw [if_neg hyz] at h2; exact h2
      have := G.lt_le (x := x) (y := y) (z := z) (by omega) h3
      rw [if_neg (by omega)]; omega
theorem Good.of (G : Good c) (g : β → α) : Good fun x y => c (g x) (g y) := ⟨fun x y => G.anti _ _, fun x y z => G.trans _ _ _⟩
theorem Good.neg (G : Good c) : Good fun x y => c y x := ⟨fun x y => G.anti _ _, fun x y z h1 h2 => G.trans z y x h2 h1⟩
theorem lexc_zero {x y : α} : lexc c d x y = 0 ↔ c x y = 0 ∧ d x y = 0 := by
  unfold lexc
  by_cases h : c x y = 0
  · rw [if_pos h]; exact ⟨fun h2 => ⟨h, h2⟩, fun h2 => h2.2⟩
  · rw [if_neg h]; exact ⟨fun h2 => absurd h2 h, fun h2 => absurd h2.1 h⟩
theorem lexc_lt {x y : α} : lexc c d x y < 0 ↔ c x y < 0 ∨ c x y = 0 ∧ d x y < 0 := by
  unfold lexc
  by_cases h : c x y = 0
  · rw [if_pos h]; exact ⟨fun h2 => .inr ⟨h, h2⟩, fun h2 => by rcases h2 with h2 | h2; omega; exact h2.2⟩
  · rw [if_neg h]; exact ⟨fun h2 => .inl h2, fun h2 => by rcases h2 with h2 | h2; exact h2; exact absurd h2.1 h⟩
end
def c2 (x y : Int) : Int := if x < y then -1 else if y < x then 1 else 0
theorem good_c2 : Good c2 := ⟨fun x y => by unfold c2; split <;> split <;> omega, fun x y z h1 h2 => by unfold c2 at *; split at h1 <;> split at h2 <;> (try split at h1) <;> (try split at h2) <;> split <;> (try split) <;> omega⟩
theorem c2_zero {x y : Int} : c2 x y = 0 ↔ x = y := by unfold c2; split <;> (try split) <;> omega
theorem c2_lt {x y : Int} : c2 x y < 0 ↔ x < y := by unfold c2; split <;> (try split) <;> omega
theorem c2_gt {x y : Int} : 0 < c2 x y ↔ y < x := by unfold c2; split <;> (try split) <;> omega
def cB (x y : Bool) : Int := if x = y then 0 else if y then -1 else 1
theorem good_cB : Good cB := ⟨fun x y => by cases x <;> cases y <;> decide, fun x y z h1 h2 => by cases x <;> cases y <;> cases z <;> revert h1 h2 <;> decide⟩
theorem cB_zero {x y : Bool} : cB x y = 0 ↔ x = y := by cases x <;> cases y <;> decide
theorem good_bytes : Good compareBytes := by
  refine ⟨fun x => ?_, fun x => ?_⟩
  · induction x with
    | nil => intro y; cases y <;> simp [compareBytes]
    | cons a x ih =>
      intro y
      cases y with
      | nil => simp [compareBytes]
      | cons b y =>
        simp only [compareBytes]
        by_cases h1 : a < b
        · have h2 : ¬ b < a := fun h => by have := UInt8.lt_trans h1 h; exact UInt8.lt_irrefl _ this
          simp [h1, h2]
        · by_cases h2 : b < a
          · simp [h1, h2]
          · simp [h1, h2, ih y]
  · induction x with
    | nil => intro y z _ h2; cases z <;> simp [compareBytes]
    | cons a x ih =>
      intro y z h1 h2
      cases y with
      | nil => simp [compareBytes] at h1
      | cons b y =>
        cases z with
        | nil => simp [compareBytes] at h2
        | cons d z =>
          simp only [compareBytes] at *
          simp only [UInt8.lt_iff_toNat_lt] at *
          split at h1
          · split at h2
            · rw [if_pos (by omega)]; omega
            · split at h2
              · omega
              · rw [if_pos (by omega)]; omega
          · split at h1
            · omega
            · split at h2
              · rw [if_pos (by omega)]; omega
              · split at h2
                · omega
                · rw [if_neg (by omega), if_neg (by omega)]
                  exact ih y z h1 h2
theorem bytes_zero : ∀ {x y : List UInt8}, compareBytes x y = 0 ↔ x = y
  | [], [] => by simp [compareBytes]
  | [], _ :: _ => by simp [compareBytes]
  | _ :: _, [] => by simp [compareBytes]
  | a :: x, b :: y => by
    simp only [compareBytes, List.cons.injEq]
    split
    · rename_i h
      exact ⟨fun h2 => by omega, fun h2 => by rw [h2.1] at h; exact absurd h (UInt8.lt_irrefl _)⟩
    · split
      · rename_i h
        exact ⟨fun h2 => by omega, fun h2 => by rw [h2.1] at h; exact absurd h (UInt8.lt_irrefl _)⟩
      · rename_i h1 h2
        rw [bytes_zero]
        refine ⟨fun h => ⟨?_, h⟩, fun h => h.2⟩
        rw [UInt8.lt_iff_toNat_lt] at h1 h2
        exact UInt8.toNat_inj.1 (by omega)

section
variable {α : Type} {c : α → α → Int}
/-- Each is ahead of what stands behind it. -/
def Rising (c : α → α → Int) (l : List α) : Prop := l.Pairwise fun x y => c x y < 0
/-- Two rising lists of the same things are one. -/
theorem rising_ext (G : Good c) : ∀ {l m : List α}, Rising c l → Rising c m → (∀ x, x ∈ l ↔ x ∈ m) → l = m
  | [], [], _, _, _ => rfl
  | [], b :: m, _, _, h => absurd ((h b).2 (List.mem_cons_self ..)) (by simp)
  | a :: l, [], _, _, h => absurd ((h a).1 (List.mem_cons_self ..)) (by simp)
  | a :: l, b :: m, h1, h2, h => by
    unfold Rising at h1 h2
    rw [List.pairwise_cons] at h1 h2
    have hab : a = b := by
      rcases List.mem_cons.1 ((h a).1 (List.mem_cons_self ..)) with e | e
      · exact e
      · rcases List.mem_cons.1 ((h b).2 (List.mem_cons_self ..)) with e2 | e2
        · exact e2.symm
        · have q1 := h2.1 a e
          have q2 := h1.1 b e2
          have q3 := G.anti a b
          omega
    subst hab
    congr 1
    refine rising_ext G h1.2 h2.2 fun x => ⟨fun hx => ?_, fun hx => ?_⟩
    · rcases List.mem_cons.1 ((h x).1 (List.mem_cons_of_mem _ hx)) with e | e
      · subst e; have := h1.1 x hx; rw [G.refl] at this; omega
      · exact e
    · rcases List.mem_cons.1 ((h x).2 (List.mem_cons_of_mem _ hx)) with e | e
      · subst e; have := h2.1 x hx; rw [G.refl] at this; omega
      · exact e
/-- What a sort by c leaves. -/
def srt (c : α → α → Int) (l : List α) : List α := l.mergeSort fun x y => !(decide (c y x < 0))
theorem srt_mem (l : List α) (x : α) : x ∈ srt c l ↔ x ∈ l := List.mem_mergeSort
theorem srt_len (l : List α) : (srt c l).length = l.length := List.length_mergeSort _
theorem srt_pair (G : Good c) (l : List α) : (srt c l).Pairwise fun x y => c x y ≤ 0 := by
  have := List.pairwise_mergeSort (le := fun x y => !(decide (c y x < 0))) (fun x y z h1 h2 => by
    simp only [Bool.not_eq_true', decide_eq_false_iff_not] at *
    have e1 := G.anti x y
    have e2 := G.anti y z
    have e3 := G.anti x z
    have := G.trans x y z (by omega) (by omega)
    omega) (fun x y => by
    simp only [Bool.or_eq_true, Bool.not_eq_true', decide_eq_false_iff_not]
    have e1 := G.anti x y
    omega) l
  refine this.imp fun {x y} h => ?_
  simp only [Bool.not_eq_true', decide_eq_false_iff_not] at h
  have e1 := G.anti x y
  omega
variable [DecidableEq α]
/-- slices.Compact: of equal ones beside one another the first. -/
def dedA : List α → List α
  | [] => []
  | [x] => [x]
  | x :: y :: r => if x = y then dedA (y :: r) else x :: dedA (y :: r)
theorem dedA_mem : ∀ (l : List α) (x : α), x ∈ dedA l ↔ x ∈ l
  | [], x => Iff.rfl
  | [y], x => Iff.rfl
  | y :: z :: r, x => by
    unfold dedA
    split
    · rename_i h
      rw [dedA_mem (z :: r)]
      subst h
      simp
    · rw [List.mem_cons, dedA_mem (z :: r), List.mem_cons (l := z :: r)]
theorem dedA_rising (G : Good c) (hi : ∀ x y, c x y = 0 → x = y) : ∀ (l : List α), l.Pairwise (fun x y => c x y ≤ 0) → Rising c (dedA l)
  | [], _ => List.Pairwise.nil
  | [y], _ => by unfold dedA Rising; simp
  | y :: z :: r, h => by
    have h' := (List.pairwise_cons.1 h).2
    have ih := dedA_rising G hi (z :: r) h'
    unfold dedA
    split
    · exact ih
    · rename_i hne
      unfold Rising
      rw [List.pairwise_cons]
      refine ⟨fun x hx => ?_, ih⟩
      rw [dedA_mem] at hx
      have h1 := (List.pairwise_cons.1 h).1 z (List.mem_cons_self ..)
      have h2 : c y z < 0 := by
        rcases Int.lt_or_eq_of_le h1 with q | q
        · exact q
        · exact absurd (hi _ _ q) hne
      rcases List.mem_cons.1 hx with rfl | hx
      · exact h2
      · exact G.lt_le h2 ((List.pairwise_cons.1 h').1 x hx)
theorem dedA_len : ∀ (l : List α), (dedA l).length ≤ l.length
  | [] => Nat.le_refl _
  | [y] => Nat.le_refl _
  | y :: z :: r => by
    unfold dedA
    have := dedA_len (z :: r)
    split <;> simp at * <;> omega
/-- Sorted, each once. -/
def sortU (c : α → α → Int) (l : List α) : List α := dedA (srt c l)
theorem sortU_mem (l : List α) (x : α) : x ∈ sortU c l ↔ x ∈ l := by unfold sortU; rw [dedA_mem, srt_mem]
theorem sortU_rising (G : Good c) (hi : ∀ x y, c x y = 0 → x = y) (l : List α) : Rising c (sortU c l) := dedA_rising G hi _ (srt_pair G l)
theorem sortU_len (l : List α) : (sortU c l).length ≤ l.length := by unfold sortU; have := dedA_len (srt c l); rw [srt_len] at this; exact this
/-- It hangs on the things alone. -/
theorem sortU_ext (G : Good c) (hi : ∀ x y, c x y = 0 → x = y) {l m : List α} (h : ∀ x, x ∈ l ↔ x ∈ m) : sortU c l = sortU c m :=
  rising_ext G (sortU_rising G hi l) (sortU_rising G hi m) fun x => by rw [sortU_mem, sortU_mem]; exact h x
theorem sortU_of_rising (G : Good c) (hi : ∀ x y, c x y = 0 → x = y) {l : List α} (h : Rising c l) : sortU c l = l :=
  rising_ext G (sortU_rising G hi l) h fun x => sortU_mem l x
end
end Go.Proofs.Ytaecjmjdhbjbkaa

namespace Go.Proofs.Ytaecjmjdhbjbkaa.Ab
set_option linter.unusedVariables false
open Go.RowKit Go.Lib

theorem bytesLess_cmp : ∀ (a b : List UInt8), Op.bytesLess a b = decide (compareBytes a b < 0)
  | [], [] => by simp [Op.bytesLess, compareBytes]
  | [], _ :: _ => by simp [Op.bytesLess, compareBytes]
  | _ :: _, [] => by simp [Op.bytesLess, compareBytes]
  | a :: x, b :: y => by
    rw [Op.bytesLess, compareBytes, bytesLess_cmp x y]
    by_cases h : a < b
    · simp [h]
    · by_cases h2 : b < a
      · have : (a == b) = false := by
          rw [beq_eq_false_iff_ne]
          rintro rfl
          exact UInt8.lt_irrefl _ h2
        simp [h, h2, this]
      · have : a = b := by
          rw [UInt8.lt_iff_toNat_lt] at h h2
          exact UInt8.toNat_inj.1 (by omega)
        subst this
        simp [h]
theorem mk_toList (l : List UInt8) : (ByteArray.mk (Array.mk l)).toList = l := by
  rw [ByteArray.toList_eq]
abbrev strA (l : List UInt8) : AVal := .d (.sc (.string ⟨⟨l⟩⟩))
def sbin (op : BinOp) (a b : List UInt8) : Option Bool := match op with
  | .eql => some (decide (a = b))
  | .neq => some (!decide (a = b))
  | .lss => some (decide (compareBytes a b < 0))
  | .leq => some (decide (compareBytes a b ≤ 0))
  | .gtr => some (decide (0 < compareBytes a b))
  | .geq => some (decide (0 ≤ compareBytes a b))
  | _ => none
section
variable {P : Program} {nt : Nat} {Q : Post} {e : Env} {h : Heap} {ops : Array Oper} {o : Oper} {rest : List Oper} {T : List Nat} {tab : TTab}
theorem Y_sbin {op : BinOp} {t u : TypeId} {x y : Operand} {a b : List UInt8} {r : Bool} (ho : o.op = .binOp op t x y u) (hx : aev e x = some (strA a)) (hy : aev e y = some (strA b)) (hr : sbin op a b = some r) : AYield P T e h o (.d (.sc (.bool r))) := yield_of _ fun w F ι ac E =>
  ⟨.bool r, sc_rel rfl, fun w' => by
    have hz : (a == b) = decide (compareBytes a b = 0) := by rw [Bool.eq_iff_iff]; simp [bytes_zero]
    have hz2 : decide (a = b) = decide (compareBytes a b = 0) := by rw [Bool.eq_iff_iff]; simp [bytes_zero]
    simp only [execOp, ho, (sc_of (aev_rel E hx)).1, (sc_of (aev_rel E hy)).1]
    cases op <;> first | cases hr; done | (injection hr with hr; subst hr; (try simp only [hz2]); simp [eqGuard, binOp, Op.stringOp, mk_toList, bytesLess_cmp, hz]; done) | (injection hr with hr; subst hr; (try simp only [hz2]); simp [eqGuard, binOp, Op.stringOp, mk_toList, bytesLess_cmp, hz]; generalize compareBytes a b = c; rw [Bool.eq_iff_iff]; simp <;> omega)⟩
theorem R_sT {op : BinOp} {t u : TypeId} {x y : Operand} {a b : List UInt8} {r : Bool} (ho : o.op = .binOp op t x y u) (hx : aev e x = some (strA a)) (hy : aev e y = some (strA b)) (hr : sbin op a b = some r) (hc : r = true) : AYield P T e h o (.d (.sc (.bool true))) := by
  subst hc; exact Y_sbin ho hx hy hr
theorem R_sF {op : BinOp} {t u : TypeId} {x y : Operand} {a b : List UInt8} {r : Bool} (ho : o.op = .binOp op t x y u) (hx : aev e x = some (strA a)) (hy : aev e y = some (strA b)) (hr : sbin op a b = some r) (hc : r = false) : AYield P T e h o (.d (.sc (.bool false))) := by
  subst hc; exact Y_sbin ho hx hy hr
def bbin (op : BinOp) (a b : Bool) : Option Bool := match op with
  | .eql => some (a == b)
  | .neq => some (a != b)
  | _ => none
def tbool (tab : TTab) (t : TypeId) : Bool := match tlook tab t with
  | some ⟨_, _, _, _, .bo⟩ => true
  | _ => false
theorem tbool_spec {tab : TTab} {t : TypeId} (TO : TabOk P tab) (h : tbool tab t = true) : P.underlying t = some .bool := by
  unfold tbool at h
  split at h
  · rename_i heq
    obtain ⟨d, hd, _, hs⟩ := (TO t _ heq).und
    rw [hd]; congr 1
  · cases h
theorem Y_bbin {op : BinOp} {t u : TypeId} {x y : Operand} {a b : Bool} {r : Bool} (TO : TabOk P tab) (ho : o.op = .binOp op t x y u) (ht : tbool tab t = true) (hx : aev e x = some (.d (.sc (.bool a)))) (hy : aev e y = some (.d (.sc (.bool b)))) (hr : bbin op a b = some r) : AYield P T e h o (.d (.sc (.bool r))) := yield_of _ fun w F ι ac E =>
  ⟨.bool r, sc_rel rfl, fun w' => by
    have hu := tbool_spec TO ht
    simp only [execOp, ho, (sc_of (aev_rel E hx)).1, (sc_of (aev_rel E hy)).1]
    cases op <;> first | cases hr; done | (injection hr with hr; subst hr; simp [eqGuard, binOp, run_equal_bool w' t a b hu]; done) | (injection hr with hr; subst hr; simp [eqGuard, binOp, run_equal_bool w' t a b hu]; cases a <;> cases b <;> rfl)⟩
end
end Go.Proofs.Ytaecjmjdhbjbkaa.Ab

namespace Go.Proofs.Ytaecjmjdhbjbkaa.Ab
set_option linter.unusedVariables false
set_option maxRecDepth 100000
open Go.RowKit
set_option linter.unusedSimpArgs false
attribute [local irreducible] AWp AOps AQ AYield AEff ACall AWk AAny AAt AThen AIn APost NoPanic

theorem aget_cons {κ ν : Type} [DecidableEq κ] (k' : κ) (v : ν) (r : List (κ × ν)) (k : κ) : aget ((k', v) :: r) k = if k = k' then some v else aget r k := by
  show ((if k = k' then some (0, v) else (mget r k).map fun x => (x.1 + 1, x.2)).map (·.2)) = _
  split
  · rfl
  · unfold aget
    cases mget r k <;> rfl
theorem atR_aget (l : List Row) (p : Pfx) : atR l p = ((aget l p).getD 0, (aget l p).isSome) := by
  induction l with
  | nil => rfl
  | cons r t ih =>
    obtain ⟨q, v⟩ := r
    rw [atR_cons, aget_cons, ih]
    by_cases h : p = q
    · subst h; simp
    · rw [if_neg h, if_neg (by simpa using fun h2 => h h2.symm)]
def lastR (O : List Row) : Pfx × Int × Bool := match O.getLast? with
  | some r => (r.1, r.2, true)
  | none => (⟨0, 0⟩, 0, false)
theorem longest_last {s : TS} {k : Nat} {R : List Row} (T : POk s k) (H : Holds s R) (x : Int) : longR s.1 s.2 x = lastR (overR R x 33) := by
  have h := H.longest T x
  unfold lastR
  generalize overR R x 33 = O at h ⊢
  refine h.trans ?_
  generalize O.getLast? = o
  cases o <;> rfl
theorem told_last (O : List Row) : ∃ q v is, lastR O = (q, v, is) ∧ (is = true → ∃ h : O.length - 1 < O.length, q = (O[O.length - 1]).1 ∧ v = (O[O.length - 1]).2) ∧ (is = false → O.length = 0 ∧ q = ⟨0, 0⟩ ∧ v = 0) := by
  unfold lastR
  by_cases hO : O.length = 0
  · have : O.getLast? = none := by rw [List.eq_nil_of_length_eq_zero hO]; rfl
    rw [this]
    exact ⟨_, _, _, rfl, fun h => (by cases h), fun _ => ⟨hO, rfl, rfl⟩⟩
  · have hlt : O.length - 1 < O.length := by omega
    rw [List.getLast?_eq_getElem?, List.getElem?_eq_getElem hlt]
    exact ⟨_, _, _, rfl, fun _ => ⟨hlt, rfl, rfl⟩, fun h => (by cases h)⟩
set_option maxHeartbeats 8000000 in
theorem told_A (s : TS) (k : Nat) (T : POk s k) (hk : k ≤ 1000) (R : List Row) (H : Holds s R) (p : Pfx) (hp : p.ok) (x leave : Int) (x0 : 0 ≤ x) (x1 : x < 4294967296) :
    ACall Try.prog 31 [.ptr 1000 0, rowsA R, pfxA p, .d (.sc (.int .u32 x)), intA leave] [(1000, tblB 1001 s.1), (1001, mapB s.2)] (fun c h => c = boolA true ∧ h = [(1000, tblB 1001 s.1), (1001, mapB s.2)]) := by
  have hRk := H.lek T
  have hRok : ∀ r ∈ R, r.1.ok := fun r hr => T.ok (r.1, r.2) (mem_of_aget ((H.mem r.1 r.2).1 hr))
  have hmk := T.len
  have hat := tblAt_A s.1 s.2 p T.nd
  have href := at_A R p (by omega)
  rw [atR_aget, ← H.at] at href
  have hover := refOver_A R x x0 x1 hRok (by omega)
  have hlong := longest_A s.1 s.2 x x0 x1 T.nd
  rw [longest_last T H x] at hlong
  have hlen := len_A s.1 s.2
  rw [H.len T] at hlen
  have hall := all_A s.1 s.2 T.nd (by omega)
  rw [H.all T] at hall
  have hrows1 := rows_A R leave (by omega)
  have hos := overSeq_A s.1 s.2 x x0 x1 T.nd
  rw [H.over T] at hos
  have hol : (overR R x 33).length ≤ 1000000 := by
    rw [← H.over T, rowsOf_len]
    have := overS_len s.1 s.2 x 33
    omega
  have hrows2 := rows_A (overR R x 33) leave hol
  have hwi := withinSeq_A s.1 s.2 p hp T.ok T.nd (by omega)
  rw [H.by T fun q => withinB q p] at hwi
  have hrw := refWithinR_A R p hp hRok (by omega)
  have hrows3 := rows_A (R.filter fun r => withinB r.1 p) leave (Nat.le_trans (List.length_filter_le _ _) (by omega))
  have hz0 : eqCells [.int .u32 0, .int .i64 0] [.int .u32 0, .int .i64 0] = some true := pfxEq ⟨0, 0⟩ ⟨0, 0⟩
  obtain ⟨O, hOO⟩ : ∃ O, overR R x 33 = O := ⟨_, rfl⟩
  rw [hOO] at hover hlong hos hol hrows2
  clear hOO
  obtain ⟨q, v, is, hL, hL1, hL0⟩ := told_last O
  rw [hL] at hlong
  obtain ⟨W, hWW⟩ : ∃ W, (R.filter fun r => withinB r.1 p) = W := ⟨_, rfl⟩
  rw [hWW] at hwi hrw hrows3
  clear hWW
  obtain ⟨u, m⟩ := s
  dsimp only at *
  refine ACall_of tabOk Try.func31 rfl Try.ntmps31 (congrArg Array.toList Try.results31) (by kernel_rfl) rfl ?_
  refine A_seq ?_
  refine R_list ?_
  refine O_box rfl rfl rfl rfl rfl rfl rfl ?_
  refine O_weaken (Wk_sel (e1 := [(0, .ptr 1000 0), (1, rowsA R), (3, .d (.sc (.int .u32 x))), (4, intA leave), (7, .ptr 7 0)]) (h1 := [(7, .var [.d (.sc (.int .u32 p.a)), .d (.sc (.int .i64 p.b))]), (1000, tblB 1001 u), (1001, mapB m)]) ⟨rfl, rfl, rfl, rfl, rfl, trivial⟩ ⟨rfl, rfl, kill_map 7 m, trivial⟩) ?_
  repeat (first | (apply O_y rfl rfl rfl; (first | exact Y_move rfl rfl | exact Y_assign rfl rfl | exact R_index tabOk rfl rfl rfl rfl rfl rfl (by omega) | exact R_fieldi tabOk rfl rfl rfl | exact R_loadi tabOk rfl rfl rfl rfl rfl rfl rfl | exact R_len tabOk rfl rfl rfl | exact R_load tabOk rfl rfl rfl rfl rfl rfl rfl rfl rfl | exact R_field tabOk rfl rfl rfl rfl | exact Y_addn rfl rfl rfl | exact Y_subn rfl rfl rfl | exact R_cmpT rfl rfl rfl rfl | exact R_cmpF rfl rfl rfl rfl | exact Y_ibin rfl rfl rfl rfl | exact Y_extract rfl rfl rfl | exact R_lenr tabOk rfl rfl rfl rfl | exact R_lenn tabOk rfl rfl rfl | exact R_indexr tabOk rfl rfl rfl rfl rfl rfl rfl (by omega) | exact R_fielde tabOk rfl rfl rfl rfl | exact R_loade tabOk rfl rfl rfl rfl rfl rfl rfl rfl rfl | exact Y_not rfl rfl | exact Y_pick_t rfl rfl (by first | rfl | assumption) rfl | exact Y_pick_f rfl rfl (by first | rfl | assumption) rfl | exact Y_pick_b rfl rfl rfl rfl | exact R_build tabOk rfl rfl rfl rfl rfl rfl | fail)) | refine O_alloc tabOk rfl rfl rfl rfl rfl rfl ?_ | refine O_store tabOk rfl rfl rfl rfl rfl rfl rfl rfl rfl rfl rfl ?_ | refine O_s rfl rfl rfl ?_ | refine O_sn rfl rfl ?_ | fail)
  refine O_nil ?_
  refine X_then_normal ?_
  refine A_seq ?_
  refine R_list ?_
  repeat (first | (apply O_y rfl rfl rfl; (first | exact Y_move rfl rfl | exact Y_assign rfl rfl | exact R_index tabOk rfl rfl rfl rfl rfl rfl (by omega) | exact R_fieldi tabOk rfl rfl rfl | exact R_loadi tabOk rfl rfl rfl rfl rfl rfl rfl | exact R_len tabOk rfl rfl rfl | exact R_load tabOk rfl rfl rfl rfl rfl rfl rfl rfl rfl | exact R_field tabOk rfl rfl rfl rfl | exact Y_addn rfl rfl rfl | exact Y_subn rfl rfl rfl | exact R_cmpT rfl rfl rfl rfl | exact R_cmpF rfl rfl rfl rfl | exact Y_ibin rfl rfl rfl rfl | exact Y_extract rfl rfl rfl | exact R_lenr tabOk rfl rfl rfl rfl | exact R_lenn tabOk rfl rfl rfl | exact R_indexr tabOk rfl rfl rfl rfl rfl rfl rfl (by omega) | exact R_fielde tabOk rfl rfl rfl rfl | exact R_loade tabOk rfl rfl rfl rfl rfl rfl rfl rfl rfl | exact Y_not rfl rfl | exact Y_pick_t rfl rfl (by first | rfl | assumption) rfl | exact Y_pick_f rfl rfl (by first | rfl | assumption) rfl | exact Y_pick_b rfl rfl rfl rfl | exact R_build tabOk rfl rfl rfl rfl rfl rfl | fail)) | refine O_alloc tabOk rfl rfl rfl rfl rfl rfl ?_ | refine O_store tabOk rfl rfl rfl rfl rfl rfl rfl rfl rfl rfl rfl ?_ | refine O_s rfl rfl rfl ?_ | refine O_sn rfl rfl ?_ | (refine O_cTbl 1000 1001 (by omega) hat rfl rfl rfl rfl rfl rfl rfl rfl rfl ?_))
  refine O_nil ?_
  refine X_then_normal ?_
  refine A_seq ?_
  refine R_list ?_
  repeat (first | (apply O_y rfl rfl rfl; (first | exact Y_move rfl rfl | exact Y_assign rfl rfl | exact R_index tabOk rfl rfl rfl rfl rfl rfl (by omega) | exact R_fieldi tabOk rfl rfl rfl | exact R_loadi tabOk rfl rfl rfl rfl rfl rfl rfl | exact R_len tabOk rfl rfl rfl | exact R_load tabOk rfl rfl rfl rfl rfl rfl rfl rfl rfl | exact R_field tabOk rfl rfl rfl rfl | exact Y_addn rfl rfl rfl | exact Y_subn rfl rfl rfl | exact R_cmpT rfl rfl rfl rfl | exact R_cmpF rfl rfl rfl rfl | exact Y_ibin rfl rfl rfl rfl | exact Y_extract rfl rfl rfl | exact R_lenr tabOk rfl rfl rfl rfl | exact R_lenn tabOk rfl rfl rfl | exact R_indexr tabOk rfl rfl rfl rfl rfl rfl rfl (by omega) | exact R_fielde tabOk rfl rfl rfl rfl | exact R_loade tabOk rfl rfl rfl rfl rfl rfl rfl rfl rfl | exact Y_not rfl rfl | exact Y_pick_t rfl rfl (by first | rfl | assumption) rfl | exact Y_pick_f rfl rfl (by first | rfl | assumption) rfl | exact Y_pick_b rfl rfl rfl rfl | exact R_build tabOk rfl rfl rfl rfl rfl rfl | fail)) | refine O_alloc tabOk rfl rfl rfl rfl rfl rfl ?_ | refine O_store tabOk rfl rfl rfl rfl rfl rfl rfl rfl rfl rfl rfl ?_ | refine O_s rfl rfl rfl ?_ | refine O_sn rfl rfl ?_ | refine O_c rfl rfl rfl rfl rfl href (fun _ => rfl) ?_)
  refine O_nil ?_
  refine X_then_normal ?_
  refine A_seq ?_
  refine R_list ?_
  repeat (first | (apply O_y rfl rfl rfl; (first | exact Y_move rfl rfl | exact Y_assign rfl rfl | exact R_index tabOk rfl rfl rfl rfl rfl rfl (by omega) | exact R_fieldi tabOk rfl rfl rfl | exact R_loadi tabOk rfl rfl rfl rfl rfl rfl rfl | exact R_len tabOk rfl rfl rfl | exact R_load tabOk rfl rfl rfl rfl rfl rfl rfl rfl rfl | exact R_field tabOk rfl rfl rfl rfl | exact Y_addn rfl rfl rfl | exact Y_subn rfl rfl rfl | exact R_cmpT rfl rfl rfl rfl | exact R_cmpF rfl rfl rfl rfl | exact Y_ibin rfl rfl rfl rfl | exact Y_extract rfl rfl rfl | exact R_lenr tabOk rfl rfl rfl rfl | exact R_lenn tabOk rfl rfl rfl | exact R_indexr tabOk rfl rfl rfl rfl rfl rfl rfl (by omega) | exact R_fielde tabOk rfl rfl rfl rfl | exact R_loade tabOk rfl rfl rfl rfl rfl rfl rfl rfl rfl | exact Y_not rfl rfl | exact Y_pick_t rfl rfl (by first | rfl | assumption) rfl | exact Y_pick_f rfl rfl (by first | rfl | assumption) rfl | exact Y_pick_b rfl rfl rfl rfl | exact R_build tabOk rfl rfl rfl rfl rfl rfl | fail)) | refine O_alloc tabOk rfl rfl rfl rfl rfl rfl ?_ | refine O_store tabOk rfl rfl rfl rfl rfl rfl rfl rfl rfl rfl rfl ?_ | refine O_s rfl rfl rfl ?_ | refine O_sn rfl rfl ?_ | refine O_c rfl rfl rfl rfl rfl hover (fun _ => rfl) ?_)
  refine O_nil ?_
  refine X_then_normal ?_
  refine A_seq ?_
  refine R_list ?_
  repeat (first | (apply O_y rfl rfl rfl; (first | exact Y_move rfl rfl | exact Y_assign rfl rfl | exact R_index tabOk rfl rfl rfl rfl rfl rfl (by omega) | exact R_fieldi tabOk rfl rfl rfl | exact R_loadi tabOk rfl rfl rfl rfl rfl rfl rfl | exact R_len tabOk rfl rfl rfl | exact R_load tabOk rfl rfl rfl rfl rfl rfl rfl rfl rfl | exact R_field tabOk rfl rfl rfl rfl | exact Y_addn rfl rfl rfl | exact Y_subn rfl rfl rfl | exact R_cmpT rfl rfl rfl rfl | exact R_cmpF rfl rfl rfl rfl | exact Y_ibin rfl rfl rfl rfl | exact Y_extract rfl rfl rfl | exact R_lenr tabOk rfl rfl rfl rfl | exact R_lenn tabOk rfl rfl rfl | exact R_indexr tabOk rfl rfl rfl rfl rfl rfl rfl (by omega) | exact R_fielde tabOk rfl rfl rfl rfl | exact R_loade tabOk rfl rfl rfl rfl rfl rfl rfl rfl rfl | exact Y_not rfl rfl | exact Y_pick_t rfl rfl (by first | rfl | assumption) rfl | exact Y_pick_f rfl rfl (by first | rfl | assumption) rfl | exact Y_pick_b rfl rfl rfl rfl | exact R_build tabOk rfl rfl rfl rfl rfl rfl | fail)) | refine O_alloc tabOk rfl rfl rfl rfl rfl rfl ?_ | refine O_store tabOk rfl rfl rfl rfl rfl rfl rfl rfl rfl rfl rfl ?_ | refine O_s rfl rfl rfl ?_ | refine O_sn rfl rfl ?_ | (refine O_cTbl 1000 1001 (by omega) hlong rfl rfl rfl rfl rfl rfl rfl rfl rfl ?_))
  refine O_nil ?_
  refine X_then_normal ?_
  refine A_weaken (Wk_sel (e1 := [(0, .ptr 1000 0), (1, rowsA R), (3, .d (.sc (.int .u32 x))), (4, intA leave), (7, .ptr 7 0), (15, rowsA O), (11, intA ((aget m p).getD 0)), (12, boolA (aget m p).isSome), (13, intA ((aget m p).getD 0)), (14, boolA (aget m p).isSome), (16, .ptr 16 0), (17, intA v), (18, boolA is)]) (h1 := [(7, .var [.d (.sc (.int .u32 p.a)), .d (.sc (.int .i64 p.b))]), (16, .var [.d (.sc (.int .u32 q.a)), .d (.sc (.int .i64 q.b))]), (1000, tblB 1001 u), (1001, mapB m)]) ⟨rfl, rfl, rfl, rfl, rfl, rfl, rfl, rfl, rfl, rfl, rfl, rfl, rfl, trivial⟩ ⟨rfl, rfl, rfl, kill_map 16 m, trivial⟩) ?_
  refine A_cut ([(0, .ptr 1000 0), (1, rowsA R), (3, .d (.sc (.int .u32 x))), (4, intA leave), (7, .ptr 7 0), (15, rowsA O), (16, .ptr 16 0), (17, intA v), (18, boolA is)]) ([(7, .var [.d (.sc (.int .u32 p.a)), .d (.sc (.int .i64 p.b))]), (16, .var [.d (.sc (.int .u32 q.a)), .d (.sc (.int .i64 q.b))]), (1000, tblB 1001 u), (1001, mapB m)]) ?_ ?_
  · cases hg : (aget m p).isSome with
    | true =>
      cases is with
      | true =>
        obtain ⟨hlt, _, _⟩ := hL1 rfl
        repeat (first | refine A_seq ?_ | refine A_block ?_ | refine R_list ?_ | ((first | apply O_y rfl rfl rfl | apply Q_y rfl rfl rfl); (first | exact Y_move rfl rfl | exact Y_assign rfl rfl | exact R_index tabOk rfl rfl rfl rfl rfl rfl (by omega) | exact R_fieldi tabOk rfl rfl rfl | exact R_loadi tabOk rfl rfl rfl rfl rfl rfl rfl | exact R_len tabOk rfl rfl rfl | exact R_load tabOk rfl rfl rfl rfl rfl rfl rfl rfl rfl | exact R_field tabOk rfl rfl rfl rfl | exact Y_addn rfl rfl rfl | exact Y_subn rfl rfl rfl | exact R_cmpT rfl rfl rfl rfl | exact R_cmpF rfl rfl rfl rfl | exact Y_ibin rfl rfl rfl rfl | exact Y_extract rfl rfl rfl | exact R_lenr tabOk rfl rfl rfl rfl | exact R_lenn tabOk rfl rfl rfl | exact R_indexr tabOk rfl rfl rfl rfl rfl rfl rfl (by omega) | exact R_fielde tabOk rfl rfl rfl rfl | exact R_loade tabOk rfl rfl rfl rfl rfl rfl rfl rfl rfl | exact Y_not rfl rfl | exact Y_pick_t rfl rfl (by first | rfl | assumption) rfl | exact Y_pick_f rfl rfl (by first | rfl | assumption) rfl | exact Y_pick_b rfl rfl rfl rfl | exact R_build tabOk rfl rfl rfl rfl rfl rfl | (first | exact Y_bbin tabOk rfl rfl rfl rfl rfl))) | refine O_nil ?_ | refine Q_nil ?_ | refine X_then_normal ?_ | refine X_in_normal ?_ | refine O_box rfl rfl rfl rfl rfl rfl rfl ?_ | refine O_alloc tabOk rfl rfl rfl rfl rfl rfl ?_ | refine O_store tabOk rfl rfl rfl rfl rfl rfl rfl rfl rfl rfl rfl ?_ | refine O_slice tabOk rfl rfl rfl rfl rfl rfl rfl rfl rfl rfl rfl ?_ | refine A_ct rfl ?_ | refine A_cf rfl ?_ | refine A_skip ?_ | refine A_exit ?_ | refine A_ret ?_ | refine X_then_exit ?_ | refine X_then_ret ?_ | refine X_in_same ?_ | refine X_in_other rfl ?_ | refine X_in_ret ?_ | refine O_s rfl rfl rfl ?_ | refine Q_s rfl rfl rfl ?_ | refine O_sn rfl rfl ?_ | (refine O_cTbl 1000 1001 (by omega) hlen rfl rfl rfl rfl rfl rfl rfl rfl rfl ?_))
        exact Wk_sel ⟨rfl, rfl, rfl, rfl, rfl, rfl, rfl, rfl, rfl, trivial⟩ ⟨rfl, rfl, rfl, rfl, trivial⟩
      | false =>
        obtain ⟨hO, _, _⟩ := hL0 rfl
        repeat (first | refine A_seq ?_ | refine A_block ?_ | refine R_list ?_ | ((first | apply O_y rfl rfl rfl | apply Q_y rfl rfl rfl); (first | exact Y_move rfl rfl | exact Y_assign rfl rfl | exact R_index tabOk rfl rfl rfl rfl rfl rfl (by omega) | exact R_fieldi tabOk rfl rfl rfl | exact R_loadi tabOk rfl rfl rfl rfl rfl rfl rfl | exact R_len tabOk rfl rfl rfl | exact R_load tabOk rfl rfl rfl rfl rfl rfl rfl rfl rfl | exact R_field tabOk rfl rfl rfl rfl | exact Y_addn rfl rfl rfl | exact Y_subn rfl rfl rfl | exact R_cmpT rfl rfl rfl rfl | exact R_cmpF rfl rfl rfl rfl | exact Y_ibin rfl rfl rfl rfl | exact Y_extract rfl rfl rfl | exact R_lenr tabOk rfl rfl rfl rfl | exact R_lenn tabOk rfl rfl rfl | exact R_indexr tabOk rfl rfl rfl rfl rfl rfl rfl (by omega) | exact R_fielde tabOk rfl rfl rfl rfl | exact R_loade tabOk rfl rfl rfl rfl rfl rfl rfl rfl rfl | exact Y_not rfl rfl | exact Y_pick_t rfl rfl (by first | rfl | assumption) rfl | exact Y_pick_f rfl rfl (by first | rfl | assumption) rfl | exact Y_pick_b rfl rfl rfl rfl | exact R_build tabOk rfl rfl rfl rfl rfl rfl | (first | exact Y_bbin tabOk rfl rfl rfl rfl rfl))) | refine O_nil ?_ | refine Q_nil ?_ | refine X_then_normal ?_ | refine X_in_normal ?_ | refine O_box rfl rfl rfl rfl rfl rfl rfl ?_ | refine O_alloc tabOk rfl rfl rfl rfl rfl rfl ?_ | refine O_store tabOk rfl rfl rfl rfl rfl rfl rfl rfl rfl rfl rfl ?_ | refine O_slice tabOk rfl rfl rfl rfl rfl rfl rfl rfl rfl rfl rfl ?_ | refine A_ct rfl ?_ | refine A_cf rfl ?_ | refine A_skip ?_ | refine A_exit ?_ | refine A_ret ?_ | refine X_then_exit ?_ | refine X_then_ret ?_ | refine X_in_same ?_ | refine X_in_other rfl ?_ | refine X_in_ret ?_ | refine O_s rfl rfl rfl ?_ | refine Q_s rfl rfl rfl ?_ | refine O_sn rfl rfl ?_ | (refine O_cTbl 1000 1001 (by omega) hlen rfl rfl rfl rfl rfl rfl rfl rfl rfl ?_))
        exact Wk_sel ⟨rfl, rfl, rfl, rfl, rfl, rfl, rfl, rfl, rfl, trivial⟩ ⟨rfl, rfl, rfl, rfl, trivial⟩
    | false =>
      cases is with
      | true =>
        obtain ⟨hlt, _, _⟩ := hL1 rfl
        repeat (first | refine A_seq ?_ | refine A_block ?_ | refine R_list ?_ | ((first | apply O_y rfl rfl rfl | apply Q_y rfl rfl rfl); (first | exact Y_move rfl rfl | exact Y_assign rfl rfl | exact R_index tabOk rfl rfl rfl rfl rfl rfl (by omega) | exact R_fieldi tabOk rfl rfl rfl | exact R_loadi tabOk rfl rfl rfl rfl rfl rfl rfl | exact R_len tabOk rfl rfl rfl | exact R_load tabOk rfl rfl rfl rfl rfl rfl rfl rfl rfl | exact R_field tabOk rfl rfl rfl rfl | exact Y_addn rfl rfl rfl | exact Y_subn rfl rfl rfl | exact R_cmpT rfl rfl rfl rfl | exact R_cmpF rfl rfl rfl rfl | exact Y_ibin rfl rfl rfl rfl | exact Y_extract rfl rfl rfl | exact R_lenr tabOk rfl rfl rfl rfl | exact R_lenn tabOk rfl rfl rfl | exact R_indexr tabOk rfl rfl rfl rfl rfl rfl rfl (by omega) | exact R_fielde tabOk rfl rfl rfl rfl | exact R_loade tabOk rfl rfl rfl rfl rfl rfl rfl rfl rfl | exact Y_not rfl rfl | exact Y_pick_t rfl rfl (by first | rfl | assumption) rfl | exact Y_pick_f rfl rfl (by first | rfl | assumption) rfl | exact Y_pick_b rfl rfl rfl rfl | exact R_build tabOk rfl rfl rfl rfl rfl rfl | (first | exact Y_bbin tabOk rfl rfl rfl rfl rfl))) | refine O_nil ?_ | refine Q_nil ?_ | refine X_then_normal ?_ | refine X_in_normal ?_ | refine O_box rfl rfl rfl rfl rfl rfl rfl ?_ | refine O_alloc tabOk rfl rfl rfl rfl rfl rfl ?_ | refine O_store tabOk rfl rfl rfl rfl rfl rfl rfl rfl rfl rfl rfl ?_ | refine O_slice tabOk rfl rfl rfl rfl rfl rfl rfl rfl rfl rfl rfl ?_ | refine A_ct rfl ?_ | refine A_cf rfl ?_ | refine A_skip ?_ | refine A_exit ?_ | refine A_ret ?_ | refine X_then_exit ?_ | refine X_then_ret ?_ | refine X_in_same ?_ | refine X_in_other rfl ?_ | refine X_in_ret ?_ | refine O_s rfl rfl rfl ?_ | refine Q_s rfl rfl rfl ?_ | refine O_sn rfl rfl ?_ | (refine O_cTbl 1000 1001 (by omega) hlen rfl rfl rfl rfl rfl rfl rfl rfl rfl ?_))
        exact Wk_sel ⟨rfl, rfl, rfl, rfl, rfl, rfl, rfl, rfl, rfl, trivial⟩ ⟨rfl, rfl, rfl, rfl, trivial⟩
      | false =>
        obtain ⟨hO, _, _⟩ := hL0 rfl
        repeat (first | refine A_seq ?_ | refine A_block ?_ | refine R_list ?_ | ((first | apply O_y rfl rfl rfl | apply Q_y rfl rfl rfl); (first | exact Y_move rfl rfl | exact Y_assign rfl rfl | exact R_index tabOk rfl rfl rfl rfl rfl rfl (by omega) | exact R_fieldi tabOk rfl rfl rfl | exact R_loadi tabOk rfl rfl rfl rfl rfl rfl rfl | exact R_len tabOk rfl rfl rfl | exact R_load tabOk rfl rfl rfl rfl rfl rfl rfl rfl rfl | exact R_field tabOk rfl rfl rfl rfl | exact Y_addn rfl rfl rfl | exact Y_subn rfl rfl rfl | exact R_cmpT rfl rfl rfl rfl | exact R_cmpF rfl rfl rfl rfl | exact Y_ibin rfl rfl rfl rfl | exact Y_extract rfl rfl rfl | exact R_lenr tabOk rfl rfl rfl rfl | exact R_lenn tabOk rfl rfl rfl | exact R_indexr tabOk rfl rfl rfl rfl rfl rfl rfl (by omega) | exact R_fielde tabOk rfl rfl rfl rfl | exact R_loade tabOk rfl rfl rfl rfl rfl rfl rfl rfl rfl | exact Y_not rfl rfl | exact Y_pick_t rfl rfl (by first | rfl | assumption) rfl | exact Y_pick_f rfl rfl (by first | rfl | assumption) rfl | exact Y_pick_b rfl rfl rfl rfl | exact R_build tabOk rfl rfl rfl rfl rfl rfl | (first | exact Y_bbin tabOk rfl rfl rfl rfl rfl))) | refine O_nil ?_ | refine Q_nil ?_ | refine X_then_normal ?_ | refine X_in_normal ?_ | refine O_box rfl rfl rfl rfl rfl rfl rfl ?_ | refine O_alloc tabOk rfl rfl rfl rfl rfl rfl ?_ | refine O_store tabOk rfl rfl rfl rfl rfl rfl rfl rfl rfl rfl rfl ?_ | refine O_slice tabOk rfl rfl rfl rfl rfl rfl rfl rfl rfl rfl rfl ?_ | refine A_ct rfl ?_ | refine A_cf rfl ?_ | refine A_skip ?_ | refine A_exit ?_ | refine A_ret ?_ | refine X_then_exit ?_ | refine X_then_ret ?_ | refine X_in_same ?_ | refine X_in_other rfl ?_ | refine X_in_ret ?_ | refine O_s rfl rfl rfl ?_ | refine Q_s rfl rfl rfl ?_ | refine O_sn rfl rfl ?_ | (refine O_cTbl 1000 1001 (by omega) hlen rfl rfl rfl rfl rfl rfl rfl rfl rfl ?_))
        exact Wk_sel ⟨rfl, rfl, rfl, rfl, rfl, rfl, rfl, rfl, rfl, trivial⟩ ⟨rfl, rfl, rfl, rfl, trivial⟩
  refine A_cut ([(0, .ptr 1000 0), (1, rowsA R), (3, .d (.sc (.int .u32 x))), (4, intA leave), (7, .ptr 7 0), (15, rowsA O)]) ([(7, .var [.d (.sc (.int .u32 p.a)), .d (.sc (.int .i64 p.b))]), (1000, tblB 1001 u), (1001, mapB m)]) ?_ ?_
  · cases is with
    | true =>
      obtain ⟨hlt, rfl, rfl⟩ := hL1 rfl
      have hpe := pfxEq O[O.length - 1].1 O[O.length - 1].1
      rw [show (O[O.length - 1].1 == O[O.length - 1].1) = true by simp] at hpe
      refine A_seq ?_
      refine R_quiet rfl mixed (by kernel_rfl) ?_
      repeat (first | refine A_seq ?_ | refine A_block ?_ | refine R_list ?_ | ((first | apply O_y rfl rfl rfl | apply Q_y rfl rfl rfl); (first | exact Y_move rfl rfl | exact Y_assign rfl rfl | exact R_index tabOk rfl rfl rfl rfl rfl rfl (by omega) | exact R_fieldi tabOk rfl rfl rfl | exact R_loadi tabOk rfl rfl rfl rfl (by first | exact win_flat0 rowD_len O (O.length - 1) _ hlt (by decide) | exact win_flat rowD_len O (O.length - 1) _ _ hlt (by decide) | exact win_flat2 rowD_len O (O.length - 1) _ _ _ hlt (by decide) | rfl) rfl rfl | exact R_len tabOk rfl rfl rfl | exact R_load tabOk rfl rfl rfl rfl rfl rfl rfl rfl rfl | exact R_field tabOk rfl rfl rfl rfl | exact Y_addn rfl rfl rfl | exact Y_subn rfl rfl rfl | exact R_cmpT rfl rfl rfl rfl | exact R_cmpF rfl rfl rfl rfl | exact Y_ibin rfl rfl rfl rfl | exact Y_extract rfl rfl rfl | exact R_lenr tabOk rfl rfl rfl rfl | exact R_lenn tabOk rfl rfl rfl | exact R_indexr tabOk rfl rfl rfl rfl rfl rfl rfl (by omega) | exact R_fielde tabOk rfl rfl rfl rfl | exact R_loade tabOk rfl rfl rfl rfl rfl rfl rfl rfl rfl | exact Y_not rfl rfl | exact Y_pick_t rfl rfl (by first | rfl | assumption) rfl | exact Y_pick_f rfl rfl (by first | rfl | assumption) rfl | exact Y_pick_b rfl rfl rfl rfl | exact R_build tabOk rfl rfl rfl rfl rfl rfl | (first | exact R_index (j := O.length - 1) tabOk rfl rfl rfl rfl rfl (by omega) hlt | exact Y_eq tabOk noStand rfl rfl rfl rfl rfl rfl rfl rfl rfl (by kernel_rfl) hpe rfl))) | refine O_nil ?_ | refine Q_nil ?_ | refine X_then_normal ?_ | refine X_in_normal ?_ | refine O_box rfl rfl rfl rfl rfl rfl rfl ?_ | refine O_alloc tabOk rfl rfl rfl rfl rfl rfl ?_ | refine O_store tabOk rfl rfl rfl rfl rfl rfl rfl rfl rfl rfl rfl ?_ | refine O_slice tabOk rfl rfl rfl rfl rfl rfl rfl rfl rfl rfl rfl ?_ | refine A_ct rfl ?_ | refine A_cf rfl ?_ | refine A_skip ?_ | refine A_exit ?_ | refine A_ret ?_ | refine X_then_exit ?_ | refine X_then_ret ?_ | refine X_in_same ?_ | refine X_in_other rfl ?_ | refine X_in_ret ?_ | refine O_s rfl rfl rfl ?_ | refine Q_s rfl rfl rfl ?_ | refine O_sn rfl rfl ?_ | fail)
      exact Wk_sel ⟨rfl, rfl, rfl, rfl, rfl, rfl, trivial⟩ ⟨rfl, rfl, rfl, trivial⟩
    | false =>
      obtain ⟨hO, rfl, rfl⟩ := hL0 rfl
      refine A_seq ?_
      refine R_quiet rfl mixed (by kernel_rfl) ?_
      repeat (first | refine A_seq ?_ | refine A_block ?_ | refine R_list ?_ | ((first | apply O_y rfl rfl rfl | apply Q_y rfl rfl rfl); (first | exact Y_move rfl rfl | exact Y_assign rfl rfl | exact R_index tabOk rfl rfl rfl rfl rfl rfl (by omega) | exact R_fieldi tabOk rfl rfl rfl | exact R_loadi tabOk rfl rfl rfl rfl rfl rfl rfl | exact R_len tabOk rfl rfl rfl | exact R_load tabOk rfl rfl rfl rfl rfl rfl rfl rfl rfl | exact R_field tabOk rfl rfl rfl rfl | exact Y_addn rfl rfl rfl | exact Y_subn rfl rfl rfl | exact R_cmpT rfl rfl rfl rfl | exact R_cmpF rfl rfl rfl rfl | exact Y_ibin rfl rfl rfl rfl | exact Y_extract rfl rfl rfl | exact R_lenr tabOk rfl rfl rfl rfl | exact R_lenn tabOk rfl rfl rfl | exact R_indexr tabOk rfl rfl rfl rfl rfl rfl rfl (by omega) | exact R_fielde tabOk rfl rfl rfl rfl | exact R_loade tabOk rfl rfl rfl rfl rfl rfl rfl rfl rfl | exact Y_not rfl rfl | exact Y_pick_t rfl rfl (by first | rfl | assumption) rfl | exact Y_pick_f rfl rfl (by first | rfl | assumption) rfl | exact Y_pick_b rfl rfl rfl rfl | exact R_build tabOk rfl rfl rfl rfl rfl rfl | (first | exact Y_eq tabOk noStand rfl rfl rfl rfl rfl rfl rfl rfl rfl (by kernel_rfl) hz0 rfl))) | refine O_nil ?_ | refine Q_nil ?_ | refine X_then_normal ?_ | refine X_in_normal ?_ | refine O_box rfl rfl rfl rfl rfl rfl rfl ?_ | refine O_alloc tabOk rfl rfl rfl rfl rfl rfl ?_ | refine O_store tabOk rfl rfl rfl rfl rfl rfl rfl rfl rfl rfl rfl ?_ | refine O_slice tabOk rfl rfl rfl rfl rfl rfl rfl rfl rfl rfl rfl ?_ | refine A_ct rfl ?_ | refine A_cf rfl ?_ | refine A_skip ?_ | refine A_exit ?_ | refine A_ret ?_ | refine X_then_exit ?_ | refine X_then_ret ?_ | refine X_in_same ?_ | refine X_in_other rfl ?_ | refine X_in_ret ?_ | refine O_s rfl rfl rfl ?_ | refine Q_s rfl rfl rfl ?_ | refine O_sn rfl rfl ?_ | fail)
      exact Wk_sel ⟨rfl, rfl, rfl, rfl, rfl, rfl, trivial⟩ ⟨rfl, rfl, rfl, trivial⟩
  refine A_seq ?_
  refine N_begin [1000, 1001] mixed ?_
  (apply N_take (i := 0) rfl (by kernel_rfl) (by kernel_rfl) (by kernel_rfl) (by repeat (first | exact np_post | refine np_then ?_ | refine np_in ?_)) rfl rfl rfl; (first | exact Y_move rfl rfl | exact Y_assign rfl rfl | exact R_index tabOk rfl rfl rfl rfl rfl rfl (by omega) | exact R_fieldi tabOk rfl rfl rfl | exact R_loadi tabOk rfl rfl rfl rfl rfl rfl rfl | exact R_len tabOk rfl rfl rfl | exact R_load tabOk rfl rfl rfl rfl rfl rfl rfl rfl rfl | exact R_field tabOk rfl rfl rfl rfl | exact Y_addn rfl rfl rfl | exact Y_subn rfl rfl rfl | exact R_cmpT rfl rfl rfl rfl | exact R_cmpF rfl rfl rfl rfl | exact Y_ibin rfl rfl rfl rfl | exact Y_extract rfl rfl rfl | exact R_lenr tabOk rfl rfl rfl rfl | exact R_lenn tabOk rfl rfl rfl | exact R_indexr tabOk rfl rfl rfl rfl rfl rfl rfl (by omega) | exact R_fielde tabOk rfl rfl rfl rfl | exact R_loade tabOk rfl rfl rfl rfl rfl rfl rfl rfl rfl | exact Y_not rfl rfl | exact Y_pick_t rfl rfl (by first | rfl | assumption) rfl | exact Y_pick_f rfl rfl (by first | rfl | assumption) rfl | exact Y_pick_b rfl rfl rfl rfl | exact R_build tabOk rfl rfl rfl rfl rfl rfl | fail))
  (apply N_take (i := 2) rfl (by kernel_rfl) (by kernel_rfl) (by kernel_rfl) (by repeat (first | exact np_post | refine np_then ?_ | refine np_in ?_)) rfl rfl rfl; (first | exact Y_move rfl rfl | exact Y_assign rfl rfl | exact R_index tabOk rfl rfl rfl rfl rfl rfl (by omega) | exact R_fieldi tabOk rfl rfl rfl | exact R_loadi tabOk rfl rfl rfl rfl rfl rfl rfl | exact R_len tabOk rfl rfl rfl | exact R_load tabOk rfl rfl rfl rfl rfl rfl rfl rfl rfl | exact R_field tabOk rfl rfl rfl rfl | exact Y_addn rfl rfl rfl | exact Y_subn rfl rfl rfl | exact R_cmpT rfl rfl rfl rfl | exact R_cmpF rfl rfl rfl rfl | exact Y_ibin rfl rfl rfl rfl | exact Y_extract rfl rfl rfl | exact R_lenr tabOk rfl rfl rfl rfl | exact R_lenn tabOk rfl rfl rfl | exact R_indexr tabOk rfl rfl rfl rfl rfl rfl rfl (by omega) | exact R_fielde tabOk rfl rfl rfl rfl | exact R_loade tabOk rfl rfl rfl rfl rfl rfl rfl rfl rfl | exact Y_not rfl rfl | exact Y_pick_t rfl rfl (by first | rfl | assumption) rfl | exact Y_pick_f rfl rfl (by first | rfl | assumption) rfl | exact Y_pick_b rfl rfl rfl rfl | exact R_build tabOk rfl rfl rfl rfl rfl rfl | fail))
  (apply N_take (i := 3) rfl (by kernel_rfl) (by kernel_rfl) (by kernel_rfl) (by repeat (first | exact np_post | refine np_then ?_ | refine np_in ?_)) rfl rfl rfl; (first | exact Y_move rfl rfl | exact Y_assign rfl rfl | exact R_index tabOk rfl rfl rfl rfl rfl rfl (by omega) | exact R_fieldi tabOk rfl rfl rfl | exact R_loadi tabOk rfl rfl rfl rfl rfl rfl rfl | exact R_len tabOk rfl rfl rfl | exact R_load tabOk rfl rfl rfl rfl rfl rfl rfl rfl rfl | exact R_field tabOk rfl rfl rfl rfl | exact Y_addn rfl rfl rfl | exact Y_subn rfl rfl rfl | exact R_cmpT rfl rfl rfl rfl | exact R_cmpF rfl rfl rfl rfl | exact Y_ibin rfl rfl rfl rfl | exact Y_extract rfl rfl rfl | exact R_lenr tabOk rfl rfl rfl rfl | exact R_lenn tabOk rfl rfl rfl | exact R_indexr tabOk rfl rfl rfl rfl rfl rfl rfl (by omega) | exact R_fielde tabOk rfl rfl rfl rfl | exact R_loade tabOk rfl rfl rfl rfl rfl rfl rfl rfl rfl | exact Y_not rfl rfl | exact Y_pick_t rfl rfl (by first | rfl | assumption) rfl | exact Y_pick_f rfl rfl (by first | rfl | assumption) rfl | exact Y_pick_b rfl rfl rfl rfl | exact R_build tabOk rfl rfl rfl rfl rfl rfl | fail))
  refine N_one (j := 1) (by kernel_rfl) ?_
  refine T_cTbl 1000 1001 (by omega) hall rfl rfl rfl rfl rfl rfl rfl rfl rfl rfl rfl rfl ?_
  refine N_one (j := 4) (by kernel_rfl) ?_
  refine T_call rfl rfl rfl rfl rfl rfl hrows1 (fun _ => rfl) ?_
  (apply N_take (i := 5) rfl (by kernel_rfl) (by kernel_rfl) (by kernel_rfl) (by repeat (first | exact np_post | refine np_then ?_ | refine np_in ?_)) rfl rfl rfl; (first | exact Y_move rfl rfl | exact Y_assign rfl rfl | exact R_index tabOk rfl rfl rfl rfl rfl rfl (by omega) | exact R_fieldi tabOk rfl rfl rfl | exact R_loadi tabOk rfl rfl rfl rfl rfl rfl rfl | exact R_len tabOk rfl rfl rfl | exact R_load tabOk rfl rfl rfl rfl rfl rfl rfl rfl rfl | exact R_field tabOk rfl rfl rfl rfl | exact Y_addn rfl rfl rfl | exact Y_subn rfl rfl rfl | exact R_cmpT rfl rfl rfl rfl | exact R_cmpF rfl rfl rfl rfl | exact Y_ibin rfl rfl rfl rfl | exact Y_extract rfl rfl rfl | exact R_lenr tabOk rfl rfl rfl rfl | exact R_lenn tabOk rfl rfl rfl | exact R_indexr tabOk rfl rfl rfl rfl rfl rfl rfl (by omega) | exact R_fielde tabOk rfl rfl rfl rfl | exact R_loade tabOk rfl rfl rfl rfl rfl rfl rfl rfl rfl | exact Y_not rfl rfl | exact Y_pick_t rfl rfl (by first | rfl | assumption) rfl | exact Y_pick_f rfl rfl (by first | rfl | assumption) rfl | exact Y_pick_b rfl rfl rfl rfl | exact R_build tabOk rfl rfl rfl rfl rfl rfl | fail))
  (apply N_take (i := 6) rfl (by kernel_rfl) (by kernel_rfl) (by kernel_rfl) (by repeat (first | exact np_post | refine np_then ?_ | refine np_in ?_)) rfl rfl rfl; (first | exact Y_move rfl rfl | exact Y_assign rfl rfl | exact R_index tabOk rfl rfl rfl rfl rfl rfl (by omega) | exact R_fieldi tabOk rfl rfl rfl | exact R_loadi tabOk rfl rfl rfl rfl rfl rfl rfl | exact R_len tabOk rfl rfl rfl | exact R_load tabOk rfl rfl rfl rfl rfl rfl rfl rfl rfl | exact R_field tabOk rfl rfl rfl rfl | exact Y_addn rfl rfl rfl | exact Y_subn rfl rfl rfl | exact R_cmpT rfl rfl rfl rfl | exact R_cmpF rfl rfl rfl rfl | exact Y_ibin rfl rfl rfl rfl | exact Y_extract rfl rfl rfl | exact R_lenr tabOk rfl rfl rfl rfl | exact R_lenn tabOk rfl rfl rfl | exact R_indexr tabOk rfl rfl rfl rfl rfl rfl rfl (by omega) | exact R_fielde tabOk rfl rfl rfl rfl | exact R_loade tabOk rfl rfl rfl rfl rfl rfl rfl rfl rfl | exact Y_not rfl rfl | exact Y_pick_t rfl rfl (by first | rfl | assumption) rfl | exact Y_pick_f rfl rfl (by first | rfl | assumption) rfl | exact Y_pick_b rfl rfl rfl rfl | exact R_build tabOk rfl rfl rfl rfl rfl rfl | fail))
  (apply N_take (i := 7) rfl (by kernel_rfl) (by kernel_rfl) (by kernel_rfl) (by repeat (first | exact np_post | refine np_then ?_ | refine np_in ?_)) rfl rfl rfl; (first | exact Y_move rfl rfl | exact Y_assign rfl rfl | exact R_index tabOk rfl rfl rfl rfl rfl rfl (by omega) | exact R_fieldi tabOk rfl rfl rfl | exact R_loadi tabOk rfl rfl rfl rfl rfl rfl rfl | exact R_len tabOk rfl rfl rfl | exact R_load tabOk rfl rfl rfl rfl rfl rfl rfl rfl rfl | exact R_field tabOk rfl rfl rfl rfl | exact Y_addn rfl rfl rfl | exact Y_subn rfl rfl rfl | exact R_cmpT rfl rfl rfl rfl | exact R_cmpF rfl rfl rfl rfl | exact Y_ibin rfl rfl rfl rfl | exact Y_extract rfl rfl rfl | exact R_lenr tabOk rfl rfl rfl rfl | exact R_lenn tabOk rfl rfl rfl | exact R_indexr tabOk rfl rfl rfl rfl rfl rfl rfl (by omega) | exact R_fielde tabOk rfl rfl rfl rfl | exact R_loade tabOk rfl rfl rfl rfl rfl rfl rfl rfl rfl | exact Y_not rfl rfl | exact Y_pick_t rfl rfl (by first | rfl | assumption) rfl | exact Y_pick_f rfl rfl (by first | rfl | assumption) rfl | exact Y_pick_b rfl rfl rfl rfl | exact R_build tabOk rfl rfl rfl rfl rfl rfl | fail))
  (apply N_take (i := 9) rfl (by kernel_rfl) (by kernel_rfl) (by kernel_rfl) (by repeat (first | exact np_post | refine np_then ?_ | refine np_in ?_)) rfl rfl rfl; (first | exact Y_move rfl rfl | exact Y_assign rfl rfl | exact R_index tabOk rfl rfl rfl rfl rfl rfl (by omega) | exact R_fieldi tabOk rfl rfl rfl | exact R_loadi tabOk rfl rfl rfl rfl rfl rfl rfl | exact R_len tabOk rfl rfl rfl | exact R_load tabOk rfl rfl rfl rfl rfl rfl rfl rfl rfl | exact R_field tabOk rfl rfl rfl rfl | exact Y_addn rfl rfl rfl | exact Y_subn rfl rfl rfl | exact R_cmpT rfl rfl rfl rfl | exact R_cmpF rfl rfl rfl rfl | exact Y_ibin rfl rfl rfl rfl | exact Y_extract rfl rfl rfl | exact R_lenr tabOk rfl rfl rfl rfl | exact R_lenn tabOk rfl rfl rfl | exact R_indexr tabOk rfl rfl rfl rfl rfl rfl rfl (by omega) | exact R_fielde tabOk rfl rfl rfl rfl | exact R_loade tabOk rfl rfl rfl rfl rfl rfl rfl rfl rfl | exact Y_not rfl rfl | exact Y_pick_t rfl rfl (by first | rfl | assumption) rfl | exact Y_pick_f rfl rfl (by first | rfl | assumption) rfl | exact Y_pick_b rfl rfl rfl rfl | exact R_build tabOk rfl rfl rfl rfl rfl rfl | fail))
  (apply N_take (i := 10) rfl (by kernel_rfl) (by kernel_rfl) (by kernel_rfl) (by repeat (first | exact np_post | refine np_then ?_ | refine np_in ?_)) rfl rfl rfl; (first | exact Y_move rfl rfl | exact Y_assign rfl rfl | exact R_index tabOk rfl rfl rfl rfl rfl rfl (by omega) | exact R_fieldi tabOk rfl rfl rfl | exact R_loadi tabOk rfl rfl rfl rfl rfl rfl rfl | exact R_len tabOk rfl rfl rfl | exact R_load tabOk rfl rfl rfl rfl rfl rfl rfl rfl rfl | exact R_field tabOk rfl rfl rfl rfl | exact Y_addn rfl rfl rfl | exact Y_subn rfl rfl rfl | exact R_cmpT rfl rfl rfl rfl | exact R_cmpF rfl rfl rfl rfl | exact Y_ibin rfl rfl rfl rfl | exact Y_extract rfl rfl rfl | exact R_lenr tabOk rfl rfl rfl rfl | exact R_lenn tabOk rfl rfl rfl | exact R_indexr tabOk rfl rfl rfl rfl rfl rfl rfl (by omega) | exact R_fielde tabOk rfl rfl rfl rfl | exact R_loade tabOk rfl rfl rfl rfl rfl rfl rfl rfl rfl | exact Y_not rfl rfl | exact Y_pick_t rfl rfl (by first | rfl | assumption) rfl | exact Y_pick_f rfl rfl (by first | rfl | assumption) rfl | exact Y_pick_b rfl rfl rfl rfl | exact R_build tabOk rfl rfl rfl rfl rfl rfl | fail))
  refine N_one (j := 8) (by kernel_rfl) ?_
  refine T_cTbl 1000 1001 (by omega) hos rfl rfl rfl rfl rfl rfl rfl rfl rfl rfl rfl rfl ?_
  refine N_one (j := 11) (by kernel_rfl) ?_
  refine T_call rfl rfl rfl rfl rfl rfl hrows2 (fun _ => rfl) ?_
  (apply N_take (i := 12) rfl (by kernel_rfl) (by kernel_rfl) (by kernel_rfl) (by repeat (first | exact np_post | refine np_then ?_ | refine np_in ?_)) rfl rfl rfl; (first | exact Y_move rfl rfl | exact Y_assign rfl rfl | exact R_index tabOk rfl rfl rfl rfl rfl rfl (by omega) | exact R_fieldi tabOk rfl rfl rfl | exact R_loadi tabOk rfl rfl rfl rfl rfl rfl rfl | exact R_len tabOk rfl rfl rfl | exact R_load tabOk rfl rfl rfl rfl rfl rfl rfl rfl rfl | exact R_field tabOk rfl rfl rfl rfl | exact Y_addn rfl rfl rfl | exact Y_subn rfl rfl rfl | exact R_cmpT rfl rfl rfl rfl | exact R_cmpF rfl rfl rfl rfl | exact Y_ibin rfl rfl rfl rfl | exact Y_extract rfl rfl rfl | exact R_lenr tabOk rfl rfl rfl rfl | exact R_lenn tabOk rfl rfl rfl | exact R_indexr tabOk rfl rfl rfl rfl rfl rfl rfl (by omega) | exact R_fielde tabOk rfl rfl rfl rfl | exact R_loade tabOk rfl rfl rfl rfl rfl rfl rfl rfl rfl | exact Y_not rfl rfl | exact Y_pick_t rfl rfl (by first | rfl | assumption) rfl | exact Y_pick_f rfl rfl (by first | rfl | assumption) rfl | exact Y_pick_b rfl rfl rfl rfl | exact R_build tabOk rfl rfl rfl rfl rfl rfl | fail))
  (apply N_take (i := 13) rfl (by kernel_rfl) (by kernel_rfl) (by kernel_rfl) (by repeat (first | exact np_post | refine np_then ?_ | refine np_in ?_)) rfl rfl rfl; (first | exact Y_move rfl rfl | exact Y_assign rfl rfl | exact R_index tabOk rfl rfl rfl rfl rfl rfl (by omega) | exact R_fieldi tabOk rfl rfl rfl | exact R_loadi tabOk rfl rfl rfl rfl rfl rfl rfl | exact R_len tabOk rfl rfl rfl | exact R_load tabOk rfl rfl rfl rfl rfl rfl rfl rfl rfl | exact R_field tabOk rfl rfl rfl rfl | exact Y_addn rfl rfl rfl | exact Y_subn rfl rfl rfl | exact R_cmpT rfl rfl rfl rfl | exact R_cmpF rfl rfl rfl rfl | exact Y_ibin rfl rfl rfl rfl | exact Y_extract rfl rfl rfl | exact R_lenr tabOk rfl rfl rfl rfl | exact R_lenn tabOk rfl rfl rfl | exact R_indexr tabOk rfl rfl rfl rfl rfl rfl rfl (by omega) | exact R_fielde tabOk rfl rfl rfl rfl | exact R_loade tabOk rfl rfl rfl rfl rfl rfl rfl rfl rfl | exact Y_not rfl rfl | exact Y_pick_t rfl rfl (by first | rfl | assumption) rfl | exact Y_pick_f rfl rfl (by first | rfl | assumption) rfl | exact Y_pick_b rfl rfl rfl rfl | exact R_build tabOk rfl rfl rfl rfl rfl rfl | fail))
  (apply N_take (i := 14) rfl (by kernel_rfl) (by kernel_rfl) (by kernel_rfl) (by repeat (first | exact np_post | refine np_then ?_ | refine np_in ?_)) rfl rfl rfl; (first | exact Y_move rfl rfl | exact Y_assign rfl rfl | exact R_index tabOk rfl rfl rfl rfl rfl rfl (by omega) | exact R_fieldi tabOk rfl rfl rfl | exact R_loadi tabOk rfl rfl rfl rfl rfl rfl rfl | exact R_len tabOk rfl rfl rfl | exact R_load tabOk rfl rfl rfl rfl rfl rfl rfl rfl rfl | exact R_field tabOk rfl rfl rfl rfl | exact Y_addn rfl rfl rfl | exact Y_subn rfl rfl rfl | exact R_cmpT rfl rfl rfl rfl | exact R_cmpF rfl rfl rfl rfl | exact Y_ibin rfl rfl rfl rfl | exact Y_extract rfl rfl rfl | exact R_lenr tabOk rfl rfl rfl rfl | exact R_lenn tabOk rfl rfl rfl | exact R_indexr tabOk rfl rfl rfl rfl rfl rfl rfl (by omega) | exact R_fielde tabOk rfl rfl rfl rfl | exact R_loade tabOk rfl rfl rfl rfl rfl rfl rfl rfl rfl | exact Y_not rfl rfl | exact Y_pick_t rfl rfl (by first | rfl | assumption) rfl | exact Y_pick_f rfl rfl (by first | rfl | assumption) rfl | exact Y_pick_b rfl rfl rfl rfl | exact R_build tabOk rfl rfl rfl rfl rfl rfl | fail))
  (apply N_take (i := 15) rfl (by kernel_rfl) (by kernel_rfl) (by kernel_rfl) (by repeat (first | exact np_post | refine np_then ?_ | refine np_in ?_)) rfl rfl rfl; (first | exact Y_move rfl rfl | exact Y_assign rfl rfl | exact R_index tabOk rfl rfl rfl rfl rfl rfl (by omega) | exact R_fieldi tabOk rfl rfl rfl | exact R_loadi tabOk rfl rfl rfl rfl rfl rfl rfl | exact R_len tabOk rfl rfl rfl | exact R_load tabOk rfl rfl rfl rfl rfl rfl rfl rfl rfl | exact R_field tabOk rfl rfl rfl rfl | exact Y_addn rfl rfl rfl | exact Y_subn rfl rfl rfl | exact R_cmpT rfl rfl rfl rfl | exact R_cmpF rfl rfl rfl rfl | exact Y_ibin rfl rfl rfl rfl | exact Y_extract rfl rfl rfl | exact R_lenr tabOk rfl rfl rfl rfl | exact R_lenn tabOk rfl rfl rfl | exact R_indexr tabOk rfl rfl rfl rfl rfl rfl rfl (by omega) | exact R_fielde tabOk rfl rfl rfl rfl | exact R_loade tabOk rfl rfl rfl rfl rfl rfl rfl rfl rfl | exact Y_not rfl rfl | exact Y_pick_t rfl rfl (by first | rfl | assumption) rfl | exact Y_pick_f rfl rfl (by first | rfl | assumption) rfl | exact Y_pick_b rfl rfl rfl rfl | exact R_build tabOk rfl rfl rfl rfl rfl rfl | fail))
  (apply N_take (i := 17) rfl (by kernel_rfl) (by kernel_rfl) (by kernel_rfl) (by repeat (first | exact np_post | refine np_then ?_ | refine np_in ?_)) rfl rfl rfl; (first | exact Y_move rfl rfl | exact Y_assign rfl rfl | exact R_index tabOk rfl rfl rfl rfl rfl rfl (by omega) | exact R_fieldi tabOk rfl rfl rfl | exact R_loadi tabOk rfl rfl rfl rfl rfl rfl rfl | exact R_len tabOk rfl rfl rfl | exact R_load tabOk rfl rfl rfl rfl rfl rfl rfl rfl rfl | exact R_field tabOk rfl rfl rfl rfl | exact Y_addn rfl rfl rfl | exact Y_subn rfl rfl rfl | exact R_cmpT rfl rfl rfl rfl | exact R_cmpF rfl rfl rfl rfl | exact Y_ibin rfl rfl rfl rfl | exact Y_extract rfl rfl rfl | exact R_lenr tabOk rfl rfl rfl rfl | exact R_lenn tabOk rfl rfl rfl | exact R_indexr tabOk rfl rfl rfl rfl rfl rfl rfl (by omega) | exact R_fielde tabOk rfl rfl rfl rfl | exact R_loade tabOk rfl rfl rfl rfl rfl rfl rfl rfl rfl | exact Y_not rfl rfl | exact Y_pick_t rfl rfl (by first | rfl | assumption) rfl | exact Y_pick_f rfl rfl (by first | rfl | assumption) rfl | exact Y_pick_b rfl rfl rfl rfl | exact R_build tabOk rfl rfl rfl rfl rfl rfl | fail))
  (apply N_take (i := 18) rfl (by kernel_rfl) (by kernel_rfl) (by kernel_rfl) (by repeat (first | exact np_post | refine np_then ?_ | refine np_in ?_)) rfl rfl rfl; (first | exact Y_move rfl rfl | exact Y_assign rfl rfl | exact R_index tabOk rfl rfl rfl rfl rfl rfl (by omega) | exact R_fieldi tabOk rfl rfl rfl | exact R_loadi tabOk rfl rfl rfl rfl rfl rfl rfl | exact R_len tabOk rfl rfl rfl | exact R_load tabOk rfl rfl rfl rfl rfl rfl rfl rfl rfl | exact R_field tabOk rfl rfl rfl rfl | exact Y_addn rfl rfl rfl | exact Y_subn rfl rfl rfl | exact R_cmpT rfl rfl rfl rfl | exact R_cmpF rfl rfl rfl rfl | exact Y_ibin rfl rfl rfl rfl | exact Y_extract rfl rfl rfl | exact R_lenr tabOk rfl rfl rfl rfl | exact R_lenn tabOk rfl rfl rfl | exact R_indexr tabOk rfl rfl rfl rfl rfl rfl rfl (by omega) | exact R_fielde tabOk rfl rfl rfl rfl | exact R_loade tabOk rfl rfl rfl rfl rfl rfl rfl rfl rfl | exact Y_not rfl rfl | exact Y_pick_t rfl rfl (by first | rfl | assumption) rfl | exact Y_pick_f rfl rfl (by first | rfl | assumption) rfl | exact Y_pick_b rfl rfl rfl rfl | exact R_build tabOk rfl rfl rfl rfl rfl rfl | fail))
  (apply N_take (i := 20) rfl (by kernel_rfl) (by kernel_rfl) (by kernel_rfl) (by repeat (first | exact np_post | refine np_then ?_ | refine np_in ?_)) rfl rfl rfl; (first | exact Y_move rfl rfl | exact Y_assign rfl rfl | exact R_index tabOk rfl rfl rfl rfl rfl rfl (by omega) | exact R_fieldi tabOk rfl rfl rfl | exact R_loadi tabOk rfl rfl rfl rfl rfl rfl rfl | exact R_len tabOk rfl rfl rfl | exact R_load tabOk rfl rfl rfl rfl rfl rfl rfl rfl rfl | exact R_field tabOk rfl rfl rfl rfl | exact Y_addn rfl rfl rfl | exact Y_subn rfl rfl rfl | exact R_cmpT rfl rfl rfl rfl | exact R_cmpF rfl rfl rfl rfl | exact Y_ibin rfl rfl rfl rfl | exact Y_extract rfl rfl rfl | exact R_lenr tabOk rfl rfl rfl rfl | exact R_lenn tabOk rfl rfl rfl | exact R_indexr tabOk rfl rfl rfl rfl rfl rfl rfl (by omega) | exact R_fielde tabOk rfl rfl rfl rfl | exact R_loade tabOk rfl rfl rfl rfl rfl rfl rfl rfl rfl | exact Y_not rfl rfl | exact Y_pick_t rfl rfl (by first | rfl | assumption) rfl | exact Y_pick_f rfl rfl (by first | rfl | assumption) rfl | exact Y_pick_b rfl rfl rfl rfl | exact R_build tabOk rfl rfl rfl rfl rfl rfl | fail))
  refine N_one (j := 16) (by kernel_rfl) ?_
  refine T_cTbl 1000 1001 (by omega) hwi rfl rfl rfl rfl rfl rfl rfl rfl rfl rfl rfl rfl ?_
  refine N_one (j := 19) (by kernel_rfl) ?_
  refine T_call rfl rfl rfl rfl rfl rfl hrw (fun _ => rfl) ?_
  refine N_one (j := 21) (by kernel_rfl) ?_
  refine T_call rfl rfl rfl rfl rfl rfl hrows3 (fun _ => rfl) ?_
  (apply N_take (i := 22) rfl (by kernel_rfl) (by kernel_rfl) (by kernel_rfl) (by repeat (first | exact np_post | refine np_then ?_ | refine np_in ?_)) rfl rfl rfl; (first | exact Y_move rfl rfl | exact Y_assign rfl rfl | exact R_index tabOk rfl rfl rfl rfl rfl rfl (by omega) | exact R_fieldi tabOk rfl rfl rfl | exact R_loadi tabOk rfl rfl rfl rfl rfl rfl rfl | exact R_len tabOk rfl rfl rfl | exact R_load tabOk rfl rfl rfl rfl rfl rfl rfl rfl rfl | exact R_field tabOk rfl rfl rfl rfl | exact Y_addn rfl rfl rfl | exact Y_subn rfl rfl rfl | exact R_cmpT rfl rfl rfl rfl | exact R_cmpF rfl rfl rfl rfl | exact Y_ibin rfl rfl rfl rfl | exact Y_extract rfl rfl rfl | exact R_lenr tabOk rfl rfl rfl rfl | exact R_lenn tabOk rfl rfl rfl | exact R_indexr tabOk rfl rfl rfl rfl rfl rfl rfl (by omega) | exact R_fielde tabOk rfl rfl rfl rfl | exact R_loade tabOk rfl rfl rfl rfl rfl rfl rfl rfl rfl | exact Y_not rfl rfl | exact Y_pick_t rfl rfl (by first | rfl | assumption) rfl | exact Y_pick_f rfl rfl (by first | rfl | assumption) rfl | exact Y_pick_b rfl rfl rfl rfl | exact R_build tabOk rfl rfl rfl rfl rfl rfl | fail))
  (apply N_take (i := 23) rfl (by kernel_rfl) (by kernel_rfl) (by kernel_rfl) (by repeat (first | exact np_post | refine np_then ?_ | refine np_in ?_)) rfl rfl rfl; (first | exact Y_move rfl rfl | exact Y_assign rfl rfl | exact R_index tabOk rfl rfl rfl rfl rfl rfl (by omega) | exact R_fieldi tabOk rfl rfl rfl | exact R_loadi tabOk rfl rfl rfl rfl rfl rfl rfl | exact R_len tabOk rfl rfl rfl | exact R_load tabOk rfl rfl rfl rfl rfl rfl rfl rfl rfl | exact R_field tabOk rfl rfl rfl rfl | exact Y_addn rfl rfl rfl | exact Y_subn rfl rfl rfl | exact R_cmpT rfl rfl rfl rfl | exact R_cmpF rfl rfl rfl rfl | exact Y_ibin rfl rfl rfl rfl | exact Y_extract rfl rfl rfl | exact R_lenr tabOk rfl rfl rfl rfl | exact R_lenn tabOk rfl rfl rfl | exact R_indexr tabOk rfl rfl rfl rfl rfl rfl rfl (by omega) | exact R_fielde tabOk rfl rfl rfl rfl | exact R_loade tabOk rfl rfl rfl rfl rfl rfl rfl rfl rfl | exact Y_not rfl rfl | exact Y_pick_t rfl rfl (by first | rfl | assumption) rfl | exact Y_pick_f rfl rfl (by first | rfl | assumption) rfl | exact Y_pick_b rfl rfl rfl rfl | exact R_build tabOk rfl rfl rfl rfl rfl rfl | fail))
  refine N_done (by kernel_rfl) ?_
  repeat (first | refine A_seq ?_ | refine A_block ?_ | refine R_list ?_ | ((first | apply O_y rfl rfl rfl | apply Q_y rfl rfl rfl); (first | exact Y_move rfl rfl | exact Y_assign rfl rfl | exact R_index tabOk rfl rfl rfl rfl rfl rfl (by omega) | exact R_fieldi tabOk rfl rfl rfl | exact R_loadi tabOk rfl rfl rfl rfl rfl rfl rfl | exact R_len tabOk rfl rfl rfl | exact R_load tabOk rfl rfl rfl rfl rfl rfl rfl rfl rfl | exact R_field tabOk rfl rfl rfl rfl | exact Y_addn rfl rfl rfl | exact Y_subn rfl rfl rfl | exact R_cmpT rfl rfl rfl rfl | exact R_cmpF rfl rfl rfl rfl | exact Y_ibin rfl rfl rfl rfl | exact Y_extract rfl rfl rfl | exact R_lenr tabOk rfl rfl rfl rfl | exact R_lenn tabOk rfl rfl rfl | exact R_indexr tabOk rfl rfl rfl rfl rfl rfl rfl (by omega) | exact R_fielde tabOk rfl rfl rfl rfl | exact R_loade tabOk rfl rfl rfl rfl rfl rfl rfl rfl rfl | exact Y_not rfl rfl | exact Y_pick_t rfl rfl (by first | rfl | assumption) rfl | exact Y_pick_f rfl rfl (by first | rfl | assumption) rfl | exact Y_pick_b rfl rfl rfl rfl | exact R_build tabOk rfl rfl rfl rfl rfl rfl | fail)) | refine O_nil ?_ | refine Q_nil ?_ | refine X_then_normal ?_ | refine X_in_normal ?_ | refine O_box rfl rfl rfl rfl rfl rfl rfl ?_ | refine O_alloc tabOk rfl rfl rfl rfl rfl rfl ?_ | refine O_store tabOk rfl rfl rfl rfl rfl rfl rfl rfl rfl rfl rfl ?_ | refine O_slice tabOk rfl rfl rfl rfl rfl rfl rfl rfl rfl rfl rfl ?_ | refine A_ct rfl ?_ | refine A_cf rfl ?_ | refine A_skip ?_ | refine A_exit ?_ | refine A_ret ?_ | refine X_then_exit ?_ | refine X_then_ret ?_ | refine X_in_same ?_ | refine X_in_other rfl ?_ | refine X_in_ret ?_ | refine O_s rfl rfl rfl ?_ | refine Q_s rfl rfl rfl ?_ | refine O_sn rfl rfl ?_ | fail)
  exact X_retW AWk.refl rfl (h2 := [(1000, tblB 1001 u), (1001, mapB m)]) ⟨rfl, rfl, trivial⟩ ⟨rfl, rfl⟩
end Go.Proofs.Ytaecjmjdhbjbkaa.Ab

namespace Go.Proofs.Ytaecjmjdhbjbkaa.Ab
set_option linter.unusedVariables false
set_option maxRecDepth 100000
open Go.RowKit
set_option linter.unusedSimpArgs false
attribute [local irreducible] AWp AOps AQ AYield AEff ACall AWk AAny AAt AThen AIn APost NoPanic

theorem kills_mapx (r clk : Nat) (bs : List Nat) (l : List (Pfx × Int)) : some (killBs [3, 902] (.mapx r bs clk (ents pfxA intA l))) = some (.mapx r bs clk (ents pfxA intA l)) := by
  show some (ABlk.mapx r bs clk ((l.map fun p => (pfxA p.1, intA p.2)).map fun p => (killVs [3, 902] p.1, killVs [3, 902] p.2))) = _
  rw [List.map_map]
  rfl
/-- The entries that have come. -/
def cp (m : List (Pfx × Int)) (js : List Nat) : List (Pfx × Int) := js.filterMap fun j => m[j]?
theorem cp_mem {m : List (Pfx × Int)} {js : List Nat} {p : Pfx × Int} : p ∈ cp m js ↔ ∃ j ∈ js, m[j]? = some p := by unfold cp; rw [List.mem_filterMap]
theorem key_inj {m : List (Pfx × Int)} (hn : (m.map (·.1)).Nodup) {i j : Nat} {p q : Pfx × Int} (hi : m[i]? = some p) (hj : m[j]? = some q) (h : p.1 = q.1) : i = j := by
  have h1 : (m.map (·.1))[i]? = some p.1 := by rw [List.getElem?_map, hi]; rfl
  have h2 : (m.map (·.1))[j]? = some q.1 := by rw [List.getElem?_map, hj]; rfl
  obtain ⟨l1, e1⟩ := List.getElem?_eq_some_iff.1 h1
  obtain ⟨l2, e2⟩ := List.getElem?_eq_some_iff.1 h2
  exact (List.getElem_inj hn (h₀ := l1) (h₁ := l2)).1 (by rw [e1, e2, h])
theorem cp_put {m : List (Pfx × Int)} (hn : (m.map (·.1)).Nodup) {js : List Nat} {j : Nat} {q : Pfx × Int} (hq : m[j]? = some q) (hj : j ∉ js) : Go.Proofs.Ytaecjmjdhbjbkaa.aput (cp m js) q.1 q.2 = cp m (js ++ [j]) := by
  have e : cp m (js ++ [j]) = cp m js ++ [q] := by unfold cp; rw [List.filterMap_append]; simp [hq]
  rw [e]
  unfold Go.Proofs.Ytaecjmjdhbjbkaa.aput
  cases hm : mget (cp m js) q.1 with
  | none => rfl
  | some x =>
    obtain ⟨i, v⟩ := x
    have h1 := mget_some hm
    obtain ⟨j2, h2, h3⟩ := cp_mem.1 (List.mem_of_getElem? h1)
    have := key_inj hn h3 hq rfl
    subst this
    exact absurd h2 hj
theorem cp_nodup {m : List (Pfx × Int)} (hn : (m.map (·.1)).Nodup) {js : List Nat} (hjs : js.Nodup) : ((cp m js).map (·.1)).Nodup := by
  unfold cp List.Nodup
  rw [List.pairwise_map, List.pairwise_filterMap]
  refine hjs.imp fun {i j} hij p hp q hq h => hij (key_inj hn ?_ ?_ h)
  · exact hp
  · exact hq
theorem cp_all {m : List (Pfx × Int)} (hn : (m.map (·.1)).Nodup) {js : List Nat} (hjs : js.Nodup) (ha : ∀ j, j < m.length → j ∈ js) : (cp m js).Perm m := by
  have nd : ∀ {l : List (Pfx × Int)}, (l.map (·.1)).Nodup → l.Nodup := fun h => by
    unfold List.Nodup at h ⊢
    rw [List.pairwise_map] at h
    exact h.imp fun {a b} h1 h2 => h1 (by rw [h2])
  refine (List.perm_ext_iff_of_nodup (nd (cp_nodup hn hjs)) (nd hn)).2 fun p => ?_
  rw [cp_mem]
  constructor
  · rintro ⟨j, _, h⟩; exact List.mem_of_getElem? h
  · intro h
    obtain ⟨j, hj⟩ := List.getElem?_of_mem h
    exact ⟨j, ha j (List.getElem?_eq_some_iff.1 hj).1, hj⟩
set_option maxHeartbeats 4000000 in
theorem copy_A (u : Nat → Int) (m : List (Pfx × Int)) (hn : (m.map (·.1)).Nodup) (hl : m.length ≤ 1000000) :
    ACall Try.prog 30 [.ptr 1000 0] [(1000, tblB 1001 u), (1001, mapB m)] (fun c h => ∃ m', m'.Perm m ∧ c = .ptr 3 0 ∧ h = [(3, tblB 902 u), (902, mapB m'), (1000, tblB 1001 u), (1001, mapB m)]) := by
  refine ACall_of tabOk Try.func30 rfl Try.ntmps30 (congrArg Array.toList Try.results30) (by kernel_rfl) rfl ?_
  refine A_open (mid := 1001) rfl fun r bs clk hbl hbp hbc => ?_
  repeat (first | refine A_seq ?_ | refine A_block ?_ | refine R_list ?_ | refine R_quiet rfl mixed (by kernel_rfl) ?_ | ((first | apply O_y rfl rfl rfl | apply Q_y rfl rfl rfl); (first | exact Y_move rfl rfl | exact Y_assign rfl rfl | exact R_index tabOk rfl rfl rfl rfl rfl rfl (by omega) | exact R_fieldi tabOk rfl rfl rfl | exact R_loadi tabOk rfl rfl rfl rfl rfl rfl rfl | exact R_len tabOk rfl rfl rfl | exact R_load tabOk rfl rfl rfl rfl rfl rfl rfl rfl rfl | exact R_field tabOk rfl rfl rfl rfl | exact Y_addn rfl rfl rfl | exact Y_subn rfl rfl rfl | exact R_cmpT rfl rfl rfl rfl | exact R_cmpF rfl rfl rfl rfl | exact Y_ibin rfl rfl rfl rfl | exact Y_extract rfl rfl rfl | exact R_lenr tabOk rfl rfl rfl rfl | exact R_lenn tabOk rfl rfl rfl | exact R_indexr tabOk rfl rfl rfl rfl rfl rfl rfl (by omega) | exact R_fielde tabOk rfl rfl rfl rfl | exact R_loade tabOk rfl rfl rfl rfl rfl rfl rfl rfl rfl | exact Y_not rfl rfl | exact Y_pick_t rfl rfl (by first | rfl | assumption) rfl | exact Y_pick_f rfl rfl (by first | rfl | assumption) rfl | exact Y_pick_b rfl rfl rfl rfl | exact R_build tabOk rfl rfl rfl rfl rfl rfl | (first | exact R_pnil tabOk rfl rfl rfl rfl rfl | exact Y_nilCheck rfl rfl rfl))) | refine O_nil ?_ | refine Q_nil ?_ | refine X_then_normal ?_ | refine X_in_normal ?_ | refine O_box rfl rfl rfl rfl rfl rfl rfl ?_ | refine O_alloc tabOk rfl rfl rfl rfl rfl rfl ?_ | refine O_store tabOk rfl rfl rfl rfl rfl rfl rfl rfl rfl rfl rfl ?_ | refine O_slice tabOk rfl rfl rfl rfl rfl rfl rfl rfl rfl rfl rfl ?_ | refine A_ct rfl ?_ | refine A_cf rfl ?_ | refine A_skip ?_ | refine A_exit ?_ | refine A_ret ?_ | refine X_then_exit ?_ | refine X_then_ret ?_ | refine X_in_same ?_ | refine X_in_other rfl ?_ | refine X_in_ret ?_ | refine O_s rfl rfl rfl ?_ | refine Q_s rfl rfl rfl ?_ | refine O_sn rfl rfl ?_ | fail)
  refine O_cNew new_A rfl rfl rfl rfl rfl ?_
  refine O_weaken (Wk_sel (e1 := [(0, .ptr 1000 0), (8, .ptr 3 0)]) (h1 := [(3, tblB 902 fun _ => 0), (902, mapB []), (1001, .mapx r bs clk (ents pfxA intA m)), (1000, tblB 1001 u)]) ⟨rfl, rfl, trivial⟩ ⟨rfl, rfl, kills_mapx _ _ _ _, rfl, trivial⟩) ?_
  repeat (first | refine A_seq ?_ | refine A_block ?_ | refine R_list ?_ | refine R_quiet rfl mixed (by kernel_rfl) ?_ | ((first | apply O_y rfl rfl rfl | apply Q_y rfl rfl rfl); (first | exact Y_move rfl rfl | exact Y_assign rfl rfl | exact R_index tabOk rfl rfl rfl rfl rfl rfl (by omega) | exact R_fieldi tabOk rfl rfl rfl | exact R_loadi tabOk rfl rfl rfl rfl rfl rfl rfl | exact R_len tabOk rfl rfl rfl | exact R_load tabOk rfl rfl rfl rfl rfl rfl rfl rfl rfl | exact R_field tabOk rfl rfl rfl rfl | exact Y_addn rfl rfl rfl | exact Y_subn rfl rfl rfl | exact R_cmpT rfl rfl rfl rfl | exact R_cmpF rfl rfl rfl rfl | exact Y_ibin rfl rfl rfl rfl | exact Y_extract rfl rfl rfl | exact R_lenr tabOk rfl rfl rfl rfl | exact R_lenn tabOk rfl rfl rfl | exact R_indexr tabOk rfl rfl rfl rfl rfl rfl rfl (by omega) | exact R_fielde tabOk rfl rfl rfl rfl | exact R_loade tabOk rfl rfl rfl rfl rfl rfl rfl rfl rfl | exact Y_not rfl rfl | exact Y_pick_t rfl rfl (by first | rfl | assumption) rfl | exact Y_pick_f rfl rfl (by first | rfl | assumption) rfl | exact Y_pick_b rfl rfl rfl rfl | exact R_build tabOk rfl rfl rfl rfl rfl rfl | (first | exact R_pnil tabOk rfl rfl rfl rfl rfl | exact Y_nilCheck rfl rfl rfl))) | refine O_nil ?_ | refine Q_nil ?_ | refine X_then_normal ?_ | refine X_in_normal ?_ | refine O_box rfl rfl rfl rfl rfl rfl rfl ?_ | refine O_alloc tabOk rfl rfl rfl rfl rfl rfl ?_ | refine O_store tabOk rfl rfl rfl rfl rfl rfl rfl rfl rfl rfl rfl ?_ | refine O_slice tabOk rfl rfl rfl rfl rfl rfl rfl rfl rfl rfl rfl ?_ | refine A_ct rfl ?_ | refine A_cf rfl ?_ | refine A_skip ?_ | refine A_exit ?_ | refine A_ret ?_ | refine X_then_exit ?_ | refine X_then_ret ?_ | refine X_in_same ?_ | refine X_in_other rfl ?_ | refine X_in_ret ?_ | refine O_s rfl rfl rfl ?_ | refine Q_s rfl rfl rfl ?_ | refine O_sn rfl rfl ?_ | (refine O_range tabOk rfl rfl rfl rfl rfl rfl rfl rfl ?_))
  refine A_weaken (Wk_sel (e1 := [(0, .ptr 1000 0), (3, .ptr 3 0), (13, .ptr 13 0)]) (h1 := [(13, .it (.mapIter (some r) clk #[] clk)), (3, tblB 902 fun _ => 0), (902, mapB []), (1001, .mapx r bs clk (ents pfxA intA m)), (1000, tblB 1001 u)]) ⟨rfl, rfl, rfl, trivial⟩ ⟨rfl, rfl, rfl, congrArg some (kill_mapx _ _ _ _ _), rfl, trivial⟩) ?_
  refine A_loop (fun _ : List Nat => [(0, .ptr 1000 0), (3, .ptr 3 0), (13, .ptr 13 0)]) (fun js => [(13, .it (.mapIter (some r) clk (seenOf bs js) clk)), (3, tblB 902 fun _ => 0), (902, mapB (cp m js)), (1001, .mapx r bs clk (ents pfxA intA m)), (1000, tblB 1001 u)]) (fun js => js.Nodup ∧ ∀ j ∈ js, j < m.length) (fun js => m.length - js.length) [] ⟨.nil, by simp⟩ (Wk_sel ⟨rfl, rfl, rfl, trivial⟩ ⟨rfl, rfl, rfl, rfl, rfl, trivial⟩) ?_
  rintro js ⟨hnd, hjl⟩
  dsimp only
  have hbm : bs.length = m.length := by rw [hbl]; simp [ents]
  have hbjl : ∀ j ∈ js, j < bs.length := fun j hj => by rw [hbm]; exact hjl j hj
  refine A_seq ?_
  refine R_list ?_
  refine O_next (mid := 1001) rfl rfl rfl rfl rfl rfl rfl (Nat.le_refl _) (Nat.le_refl _) (fun hall => ?_) (fun j p b hp hb hs => ?_)
  · have hper := cp_all hn hnd fun j hj => (seen_has bs js hbp hbjl j bs[j] (List.getElem?_eq_getElem (by omega))).1 (hall _ (List.getElem_mem (by omega)))
    repeat (first | refine A_seq ?_ | refine A_block ?_ | refine R_list ?_ | refine R_quiet rfl mixed (by kernel_rfl) ?_ | ((first | apply O_y rfl rfl rfl | apply Q_y rfl rfl rfl); (first | exact Y_move rfl rfl | exact Y_assign rfl rfl | exact R_index tabOk rfl rfl rfl rfl rfl rfl (by omega) | exact R_fieldi tabOk rfl rfl rfl | exact R_loadi tabOk rfl rfl rfl rfl rfl rfl rfl | exact R_len tabOk rfl rfl rfl | exact R_load tabOk rfl rfl rfl rfl rfl rfl rfl rfl rfl | exact R_field tabOk rfl rfl rfl rfl | exact Y_addn rfl rfl rfl | exact Y_subn rfl rfl rfl | exact R_cmpT rfl rfl rfl rfl | exact R_cmpF rfl rfl rfl rfl | exact Y_ibin rfl rfl rfl rfl | exact Y_extract rfl rfl rfl | exact R_lenr tabOk rfl rfl rfl rfl | exact R_lenn tabOk rfl rfl rfl | exact R_indexr tabOk rfl rfl rfl rfl rfl rfl rfl (by omega) | exact R_fielde tabOk rfl rfl rfl rfl | exact R_loade tabOk rfl rfl rfl rfl rfl rfl rfl rfl rfl | exact Y_not rfl rfl | exact Y_pick_t rfl rfl (by first | rfl | assumption) rfl | exact Y_pick_f rfl rfl (by first | rfl | assumption) rfl | exact Y_pick_b rfl rfl rfl rfl | exact R_build tabOk rfl rfl rfl rfl rfl rfl | (first | exact Y_nilCheck rfl rfl rfl))) | refine O_nil ?_ | refine Q_nil ?_ | refine X_then_normal ?_ | refine X_in_normal ?_ | refine O_box rfl rfl rfl rfl rfl rfl rfl ?_ | refine O_alloc tabOk rfl rfl rfl rfl rfl rfl ?_ | refine O_store tabOk rfl rfl rfl rfl rfl rfl rfl rfl rfl rfl rfl ?_ | refine O_slice tabOk rfl rfl rfl rfl rfl rfl rfl rfl rfl rfl rfl ?_ | refine A_ct rfl ?_ | refine A_cf rfl ?_ | refine A_skip ?_ | refine A_exit ?_ | refine A_ret ?_ | refine X_then_exit ?_ | refine X_then_ret ?_ | refine X_in_same ?_ | refine X_in_other rfl ?_ | refine X_in_ret ?_ | refine O_s rfl rfl rfl ?_ | refine Q_s rfl rfl rfl ?_ | refine O_sn rfl rfl ?_ | fail)
    exact X_retW ((Wk_sel (e1 := [(2, .ptr 3 0)]) (h1 := [(3, tblB 902 u), (902, mapB (cp m js)), (1001, .mapx r bs clk (ents pfxA intA m)), (1000, tblB 1001 u)]) ⟨rfl, trivial⟩ ⟨rfl, rfl, rfl, rfl, trivial⟩).trans (Wk_close (mid := 1001) rfl)) rfl (h2 := [(3, tblB 902 u), (902, mapB (cp m js)), (1000, tblB 1001 u), (1001, mapB m)]) ⟨rfl, rfl, rfl, rfl, trivial⟩ ⟨_, hper, rfl, rfl⟩
  · obtain ⟨q, hq, rfl⟩ : ∃ q, m[j]? = some q ∧ p = (pfxA q.1, intA q.2) := by
      rw [ents, List.getElem?_map] at hp
      cases h1 : m[j]? with
      | none => simp [h1] at hp
      | some q => simp [h1] at hp; exact ⟨q, rfl, hp.symm⟩
    have hjm : j < m.length := (List.getElem?_eq_some_iff.1 hq).1
    have hnot : j ∉ js := fun h => by rw [(seen_has bs js hbp hbjl j b hb).2 h] at hs; cases hs
    have hnd2 : (js ++ [j]).Nodup := List.nodup_append.2 ⟨hnd, by simp, by rintro a ha b hb rfl; simp at hb; subst hb; exact hnot ha⟩
    have hjl2 : ∀ i ∈ js ++ [j], i < m.length := fun i hi => by
      rcases List.mem_append.1 hi with h | h
      · exact hjl i h
      · simp at h; omega
    have hlen2 := nodup_len hnd2 hjl2
    rw [List.length_append] at hlen2
    simp at hlen2
    rw [seen_push bs js j b hb]
    have hcs := cp_put hn hq hnot
    have hcn := cp_nodup hn hnd
    obtain ⟨⟨qa, qb⟩, qv⟩ := q
    repeat (first | refine A_seq ?_ | refine A_block ?_ | refine R_list ?_ | refine R_quiet rfl mixed (by kernel_rfl) ?_ | ((first | apply O_y rfl rfl rfl | apply Q_y rfl rfl rfl); (first | exact Y_move rfl rfl | exact Y_assign rfl rfl | exact R_index tabOk rfl rfl rfl rfl rfl rfl (by omega) | exact R_fieldi tabOk rfl rfl rfl | exact R_loadi tabOk rfl rfl rfl rfl rfl rfl rfl | exact R_len tabOk rfl rfl rfl | exact R_load tabOk rfl rfl rfl rfl rfl rfl rfl rfl rfl | exact R_field tabOk rfl rfl rfl rfl | exact Y_addn rfl rfl rfl | exact Y_subn rfl rfl rfl | exact R_cmpT rfl rfl rfl rfl | exact R_cmpF rfl rfl rfl rfl | exact Y_ibin rfl rfl rfl rfl | exact Y_extract rfl rfl rfl | exact R_lenr tabOk rfl rfl rfl rfl | exact R_lenn tabOk rfl rfl rfl | exact R_indexr tabOk rfl rfl rfl rfl rfl rfl rfl (by omega) | exact R_fielde tabOk rfl rfl rfl rfl | exact R_loade tabOk rfl rfl rfl rfl rfl rfl rfl rfl rfl | exact Y_not rfl rfl | exact Y_pick_t rfl rfl (by first | rfl | assumption) rfl | exact Y_pick_f rfl rfl (by first | rfl | assumption) rfl | exact Y_pick_b rfl rfl rfl rfl | exact R_build tabOk rfl rfl rfl rfl rfl rfl | (exact R_entry (mid := 1001) (p := (pfxA ⟨qa, qb⟩, intA qv)) rfl rfl (by rw [← seen_push bs js j b hb]; rfl) rfl hp hb rfl rfl))) | refine O_nil ?_ | refine Q_nil ?_ | refine X_then_normal ?_ | refine X_in_normal ?_ | refine O_box rfl rfl rfl rfl rfl rfl rfl ?_ | refine O_alloc tabOk rfl rfl rfl rfl rfl rfl ?_ | refine O_store tabOk rfl rfl rfl rfl rfl rfl rfl rfl rfl rfl rfl ?_ | refine O_slice tabOk rfl rfl rfl rfl rfl rfl rfl rfl rfl rfl rfl ?_ | refine A_ct rfl ?_ | refine A_cf rfl ?_ | refine A_skip ?_ | refine A_exit ?_ | refine A_ret ?_ | refine X_then_exit ?_ | refine X_then_ret ?_ | refine X_in_same ?_ | refine X_in_other rfl ?_ | refine X_in_ret ?_ | refine O_s rfl rfl rfl ?_ | refine Q_s rfl rfl rfl ?_ | refine O_sn rfl rfl ?_ | fail)
    refine A_weaken (Wk_sel (e1 := [(0, .ptr 1000 0), (3, .ptr 3 0), (4, .ptr 4 0), (5, intA qv), (13, .ptr 13 0)]) (h1 := [(4, .var [.d (.sc (.int .u32 qa)), .d (.sc (.int .i64 qb))]), (13, .it (.mapIter (some r) clk (seenOf bs (js ++ [j])) clk)), (3, tblB 902 fun _ => 0), (902, mapB (cp m js)), (1001, .mapx r bs clk (ents pfxA intA m)), (1000, tblB 1001 u)]) ⟨rfl, rfl, rfl, rfl, rfl, trivial⟩ ⟨rfl, rfl, rfl, kill_map 4 _, congrArg some (kill_mapx _ _ _ _ _), rfl, trivial⟩) ?_
    refine N_begin [902] mixed ?_
    repeat (first | ((first | apply N_takeN (i := 0) rfl rfl (by kernel_rfl) (by decide +kernel) (by decide +kernel) (by repeat (first | exact np_post | apply np_then | apply np_in)) rfl rfl rfl | apply N_takeN (i := 1) rfl rfl (by kernel_rfl) (by decide +kernel) (by decide +kernel) (by repeat (first | exact np_post | apply np_then | apply np_in)) rfl rfl rfl | apply N_takeN (i := 2) rfl rfl (by kernel_rfl) (by decide +kernel) (by decide +kernel) (by repeat (first | exact np_post | apply np_then | apply np_in)) rfl rfl rfl | apply N_takeN (i := 3) rfl rfl (by kernel_rfl) (by decide +kernel) (by decide +kernel) (by repeat (first | exact np_post | apply np_then | apply np_in)) rfl rfl rfl | apply N_takeN (i := 4) rfl rfl (by kernel_rfl) (by decide +kernel) (by decide +kernel) (by repeat (first | exact np_post | apply np_then | apply np_in)) rfl rfl rfl | apply N_takeN (i := 5) rfl rfl (by kernel_rfl) (by decide +kernel) (by decide +kernel) (by repeat (first | exact np_post | apply np_then | apply np_in)) rfl rfl rfl | apply N_takeN (i := 6) rfl rfl (by kernel_rfl) (by decide +kernel) (by decide +kernel) (by repeat (first | exact np_post | apply np_then | apply np_in)) rfl rfl rfl | apply N_takeN (i := 7) rfl rfl (by kernel_rfl) (by decide +kernel) (by decide +kernel) (by repeat (first | exact np_post | apply np_then | apply np_in)) rfl rfl rfl | apply N_takeN (i := 8) rfl rfl (by kernel_rfl) (by decide +kernel) (by decide +kernel) (by repeat (first | exact np_post | apply np_then | apply np_in)) rfl rfl rfl | apply N_takeN (i := 9) rfl rfl (by kernel_rfl) (by decide +kernel) (by decide +kernel) (by repeat (first | exact np_post | apply np_then | apply np_in)) rfl rfl rfl | apply N_takeN (i := 10) rfl rfl (by kernel_rfl) (by decide +kernel) (by decide +kernel) (by repeat (first | exact np_post | apply np_then | apply np_in)) rfl rfl rfl | apply N_takeN (i := 11) rfl rfl (by kernel_rfl) (by decide +kernel) (by decide +kernel) (by repeat (first | exact np_post | apply np_then | apply np_in)) rfl rfl rfl | apply N_takeN (i := 12) rfl rfl (by kernel_rfl) (by decide +kernel) (by decide +kernel) (by repeat (first | exact np_post | apply np_then | apply np_in)) rfl rfl rfl ); (first | exact Y_move rfl rfl | exact Y_assign rfl rfl | exact R_index tabOk rfl rfl rfl rfl rfl rfl (by omega) | exact R_fieldi tabOk rfl rfl rfl | exact R_loadi tabOk rfl rfl rfl rfl rfl rfl rfl | exact R_len tabOk rfl rfl rfl | exact R_load tabOk rfl rfl rfl rfl rfl rfl rfl rfl rfl | exact R_field tabOk rfl rfl rfl rfl | exact Y_addn rfl rfl rfl | exact Y_subn rfl rfl rfl | exact R_cmpT rfl rfl rfl rfl | exact R_cmpF rfl rfl rfl rfl | exact Y_ibin rfl rfl rfl rfl | exact Y_extract rfl rfl rfl | exact R_lenr tabOk rfl rfl rfl rfl | exact R_lenn tabOk rfl rfl rfl | exact R_indexr tabOk rfl rfl rfl rfl rfl rfl rfl (by omega) | exact R_fielde tabOk rfl rfl rfl rfl | exact R_loade tabOk rfl rfl rfl rfl rfl rfl rfl rfl rfl | exact Y_not rfl rfl | exact Y_pick_t rfl rfl (by first | rfl | assumption) rfl | exact Y_pick_f rfl rfl (by first | rfl | assumption) rfl | exact Y_pick_b rfl rfl rfl rfl | exact R_build tabOk rfl rfl rfl rfl rfl rfl | (first | exact Y_nilCheck rfl rfl rfl))) | (apply N_takeL (i := 0) rfl rfl (by kernel_rfl) (by decide +kernel) (by decide +kernel) (by repeat (first | exact np_post | apply np_then | apply np_in)) rfl rfl rfl; (first | exact R_loadi tabOk rfl rfl rfl rfl rfl rfl rfl | exact R_len tabOk rfl rfl rfl | exact R_load tabOk rfl rfl rfl rfl rfl rfl rfl rfl rfl | exact R_lenr tabOk rfl rfl rfl rfl | exact R_lenn tabOk rfl rfl rfl | exact R_loade tabOk rfl rfl rfl rfl rfl rfl rfl rfl rfl | (first | exact Y_nilCheck rfl rfl rfl))) | (apply N_takeL (i := 1) rfl rfl (by kernel_rfl) (by decide +kernel) (by decide +kernel) (by repeat (first | exact np_post | apply np_then | apply np_in)) rfl rfl rfl; (first | exact R_loadi tabOk rfl rfl rfl rfl rfl rfl rfl | exact R_len tabOk rfl rfl rfl | exact R_load tabOk rfl rfl rfl rfl rfl rfl rfl rfl rfl | exact R_lenr tabOk rfl rfl rfl rfl | exact R_lenn tabOk rfl rfl rfl | exact R_loade tabOk rfl rfl rfl rfl rfl rfl rfl rfl rfl | (first | exact Y_nilCheck rfl rfl rfl))) | (apply N_takeL (i := 2) rfl rfl (by kernel_rfl) (by decide +kernel) (by decide +kernel) (by repeat (first | exact np_post | apply np_then | apply np_in)) rfl rfl rfl; (first | exact R_loadi tabOk rfl rfl rfl rfl rfl rfl rfl | exact R_len tabOk rfl rfl rfl | exact R_load tabOk rfl rfl rfl rfl rfl rfl rfl rfl rfl | exact R_lenr tabOk rfl rfl rfl rfl | exact R_lenn tabOk rfl rfl rfl | exact R_loade tabOk rfl rfl rfl rfl rfl rfl rfl rfl rfl | (first | exact Y_nilCheck rfl rfl rfl))) | (apply N_takeL (i := 3) rfl rfl (by kernel_rfl) (by decide +kernel) (by decide +kernel) (by repeat (first | exact np_post | apply np_then | apply np_in)) rfl rfl rfl; (first | exact R_loadi tabOk rfl rfl rfl rfl rfl rfl rfl | exact R_len tabOk rfl rfl rfl | exact R_load tabOk rfl rfl rfl rfl rfl rfl rfl rfl rfl | exact R_lenr tabOk rfl rfl rfl rfl | exact R_lenn tabOk rfl rfl rfl | exact R_loade tabOk rfl rfl rfl rfl rfl rfl rfl rfl rfl | (first | exact Y_nilCheck rfl rfl rfl))) | (apply N_takeL (i := 4) rfl rfl (by kernel_rfl) (by decide +kernel) (by decide +kernel) (by repeat (first | exact np_post | apply np_then | apply np_in)) rfl rfl rfl; (first | exact R_loadi tabOk rfl rfl rfl rfl rfl rfl rfl | exact R_len tabOk rfl rfl rfl | exact R_load tabOk rfl rfl rfl rfl rfl rfl rfl rfl rfl | exact R_lenr tabOk rfl rfl rfl rfl | exact R_lenn tabOk rfl rfl rfl | exact R_loade tabOk rfl rfl rfl rfl rfl rfl rfl rfl rfl | (first | exact Y_nilCheck rfl rfl rfl))) | (apply N_takeL (i := 5) rfl rfl (by kernel_rfl) (by decide +kernel) (by decide +kernel) (by repeat (first | exact np_post | apply np_then | apply np_in)) rfl rfl rfl; (first | exact R_loadi tabOk rfl rfl rfl rfl rfl rfl rfl | exact R_len tabOk rfl rfl rfl | exact R_load tabOk rfl rfl rfl rfl rfl rfl rfl rfl rfl | exact R_lenr tabOk rfl rfl rfl rfl | exact R_lenn tabOk rfl rfl rfl | exact R_loade tabOk rfl rfl rfl rfl rfl rfl rfl rfl rfl | (first | exact Y_nilCheck rfl rfl rfl))) | (apply N_takeL (i := 6) rfl rfl (by kernel_rfl) (by decide +kernel) (by decide +kernel) (by repeat (first | exact np_post | apply np_then | apply np_in)) rfl rfl rfl; (first | exact R_loadi tabOk rfl rfl rfl rfl rfl rfl rfl | exact R_len tabOk rfl rfl rfl | exact R_load tabOk rfl rfl rfl rfl rfl rfl rfl rfl rfl | exact R_lenr tabOk rfl rfl rfl rfl | exact R_lenn tabOk rfl rfl rfl | exact R_loade tabOk rfl rfl rfl rfl rfl rfl rfl rfl rfl | (first | exact Y_nilCheck rfl rfl rfl))) | (apply N_takeL (i := 7) rfl rfl (by kernel_rfl) (by decide +kernel) (by decide +kernel) (by repeat (first | exact np_post | apply np_then | apply np_in)) rfl rfl rfl; (first | exact R_loadi tabOk rfl rfl rfl rfl rfl rfl rfl | exact R_len tabOk rfl rfl rfl | exact R_load tabOk rfl rfl rfl rfl rfl rfl rfl rfl rfl | exact R_lenr tabOk rfl rfl rfl rfl | exact R_lenn tabOk rfl rfl rfl | exact R_loade tabOk rfl rfl rfl rfl rfl rfl rfl rfl rfl | (first | exact Y_nilCheck rfl rfl rfl))) | (apply N_takeL (i := 8) rfl rfl (by kernel_rfl) (by decide +kernel) (by decide +kernel) (by repeat (first | exact np_post | apply np_then | apply np_in)) rfl rfl rfl; (first | exact R_loadi tabOk rfl rfl rfl rfl rfl rfl rfl | exact R_len tabOk rfl rfl rfl | exact R_load tabOk rfl rfl rfl rfl rfl rfl rfl rfl rfl | exact R_lenr tabOk rfl rfl rfl rfl | exact R_lenn tabOk rfl rfl rfl | exact R_loade tabOk rfl rfl rfl rfl rfl rfl rfl rfl rfl | (first | exact Y_nilCheck rfl rfl rfl))) | (apply N_takeL (i := 9) rfl rfl (by kernel_rfl) (by decide +kernel) (by decide +kernel) (by repeat (first | exact np_post | apply np_then | apply np_in)) rfl rfl rfl; (first | exact R_loadi tabOk rfl rfl rfl rfl rfl rfl rfl | exact R_len tabOk rfl rfl rfl | exact R_load tabOk rfl rfl rfl rfl rfl rfl rfl rfl rfl | exact R_lenr tabOk rfl rfl rfl rfl | exact R_lenn tabOk rfl rfl rfl | exact R_loade tabOk rfl rfl rfl rfl rfl rfl rfl rfl rfl | (first | exact Y_nilCheck rfl rfl rfl))) | (apply N_takeL (i := 10) rfl rfl (by kernel_rfl) (by decide +kernel) (by decide +kernel) (by repeat (first | exact np_post | apply np_then | apply np_in)) rfl rfl rfl; (first | exact R_loadi tabOk rfl rfl rfl rfl rfl rfl rfl | exact R_len tabOk rfl rfl rfl | exact R_load tabOk rfl rfl rfl rfl rfl rfl rfl rfl rfl | exact R_lenr tabOk rfl rfl rfl rfl | exact R_lenn tabOk rfl rfl rfl | exact R_loade tabOk rfl rfl rfl rfl rfl rfl rfl rfl rfl | (first | exact Y_nilCheck rfl rfl rfl))) | (apply N_takeL (i := 11) rfl rfl (by kernel_rfl) (by decide +kernel) (by decide +kernel) (by repeat (first | exact np_post | apply np_then | apply np_in)) rfl rfl rfl; (first | exact R_loadi tabOk rfl rfl rfl rfl rfl rfl rfl | exact R_len tabOk rfl rfl rfl | exact R_load tabOk rfl rfl rfl rfl rfl rfl rfl rfl rfl | exact R_lenr tabOk rfl rfl rfl rfl | exact R_lenn tabOk rfl rfl rfl | exact R_loade tabOk rfl rfl rfl rfl rfl rfl rfl rfl rfl | (first | exact Y_nilCheck rfl rfl rfl))) | (apply N_takeL (i := 12) rfl rfl (by kernel_rfl) (by decide +kernel) (by decide +kernel) (by repeat (first | exact np_post | apply np_then | apply np_in)) rfl rfl rfl; (first | exact R_loadi tabOk rfl rfl rfl rfl rfl rfl rfl | exact R_len tabOk rfl rfl rfl | exact R_load tabOk rfl rfl rfl rfl rfl rfl rfl rfl rfl | exact R_lenr tabOk rfl rfl rfl rfl | exact R_lenn tabOk rfl rfl rfl | exact R_loade tabOk rfl rfl rfl rfl rfl rfl rfl rfl rfl | (first | exact Y_nilCheck rfl rfl rfl))) | refine N_one (j := 0) (by decide +kernel) ?_ | refine N_one (j := 1) (by decide +kernel) ?_ | refine N_one (j := 2) (by decide +kernel) ?_ | refine N_one (j := 3) (by decide +kernel) ?_ | refine N_one (j := 4) (by decide +kernel) ?_ | refine N_one (j := 5) (by decide +kernel) ?_ | refine N_one (j := 6) (by decide +kernel) ?_ | refine N_one (j := 7) (by decide +kernel) ?_ | refine N_one (j := 8) (by decide +kernel) ?_ | refine N_one (j := 9) (by decide +kernel) ?_ | refine N_one (j := 10) (by decide +kernel) ?_ | refine N_one (j := 11) (by decide +kernel) ?_ | refine N_one (j := 12) (by decide +kernel) ?_ | refine T_alloc tabOk rfl rfl rfl rfl rfl rfl rfl ?_ | refine T_store tabOk rfl rfl rfl rfl rfl rfl rfl rfl rfl rfl rfl rfl rfl ?_ | refine T_box rfl rfl rfl rfl rfl rfl rfl rfl ?_ | (apply T_yield rfl rfl rfl rfl; (first | exact Y_move rfl rfl | exact Y_assign rfl rfl | exact R_index tabOk rfl rfl rfl rfl rfl rfl (by omega) | exact R_fieldi tabOk rfl rfl rfl | exact R_loadi tabOk rfl rfl rfl rfl rfl rfl rfl | exact R_len tabOk rfl rfl rfl | exact R_load tabOk rfl rfl rfl rfl rfl rfl rfl rfl rfl | exact R_field tabOk rfl rfl rfl rfl | exact Y_addn rfl rfl rfl | exact Y_subn rfl rfl rfl | exact R_cmpT rfl rfl rfl rfl | exact R_cmpF rfl rfl rfl rfl | exact Y_ibin rfl rfl rfl rfl | exact Y_extract rfl rfl rfl | exact R_lenr tabOk rfl rfl rfl rfl | exact R_lenn tabOk rfl rfl rfl | exact R_indexr tabOk rfl rfl rfl rfl rfl rfl rfl (by omega) | exact R_fielde tabOk rfl rfl rfl rfl | exact R_loade tabOk rfl rfl rfl rfl rfl rfl rfl rfl rfl | exact Y_not rfl rfl | exact Y_pick_t rfl rfl (by first | rfl | assumption) rfl | exact Y_pick_f rfl rfl (by first | rfl | assumption) rfl | exact Y_pick_b rfl rfl rfl rfl | exact R_build tabOk rfl rfl rfl rfl rfl rfl | (first | exact Y_nilCheck rfl rfl rfl))) | refine N_done (by decide +kernel) ?_ | (refine T_upd (k := ⟨qa, qb⟩) (xa := intA) (q := qv) pfxKey pfxA_val pfxA_rel trivial (fun _ _ => trivial) hcn tabOk rfl rfl rfl rfl rfl rfl rfl rfl rfl rfl ?_))
    repeat (first | refine A_seq ?_ | refine A_block ?_ | refine R_list ?_ | refine R_quiet rfl mixed (by kernel_rfl) ?_ | ((first | apply O_y rfl rfl rfl | apply Q_y rfl rfl rfl); (first | exact Y_move rfl rfl | exact Y_assign rfl rfl | exact R_index tabOk rfl rfl rfl rfl rfl rfl (by omega) | exact R_fieldi tabOk rfl rfl rfl | exact R_loadi tabOk rfl rfl rfl rfl rfl rfl rfl | exact R_len tabOk rfl rfl rfl | exact R_load tabOk rfl rfl rfl rfl rfl rfl rfl rfl rfl | exact R_field tabOk rfl rfl rfl rfl | exact Y_addn rfl rfl rfl | exact Y_subn rfl rfl rfl | exact R_cmpT rfl rfl rfl rfl | exact R_cmpF rfl rfl rfl rfl | exact Y_ibin rfl rfl rfl rfl | exact Y_extract rfl rfl rfl | exact R_lenr tabOk rfl rfl rfl rfl | exact R_lenn tabOk rfl rfl rfl | exact R_indexr tabOk rfl rfl rfl rfl rfl rfl rfl (by omega) | exact R_fielde tabOk rfl rfl rfl rfl | exact R_loade tabOk rfl rfl rfl rfl rfl rfl rfl rfl rfl | exact Y_not rfl rfl | exact Y_pick_t rfl rfl (by first | rfl | assumption) rfl | exact Y_pick_f rfl rfl (by first | rfl | assumption) rfl | exact Y_pick_b rfl rfl rfl rfl | exact R_build tabOk rfl rfl rfl rfl rfl rfl | fail)) | refine O_nil ?_ | refine Q_nil ?_ | refine X_then_normal ?_ | refine X_in_normal ?_ | refine O_box rfl rfl rfl rfl rfl rfl rfl ?_ | refine O_alloc tabOk rfl rfl rfl rfl rfl rfl ?_ | refine O_store tabOk rfl rfl rfl rfl rfl rfl rfl rfl rfl rfl rfl ?_ | refine O_slice tabOk rfl rfl rfl rfl rfl rfl rfl rfl rfl rfl rfl ?_ | refine A_ct rfl ?_ | refine A_cf rfl ?_ | refine A_skip ?_ | refine A_exit ?_ | refine A_ret ?_ | refine X_then_exit ?_ | refine X_then_ret ?_ | refine X_in_same ?_ | refine X_in_other rfl ?_ | refine X_in_ret ?_ | refine O_s rfl rfl rfl ?_ | refine Q_s rfl rfl rfl ?_ | refine O_sn rfl rfl ?_ | fail)
    exact ⟨js ++ [j], ⟨hnd2, hjl2⟩, by rw [List.length_append]; simp; omega, Wk_sel ⟨rfl, rfl, rfl, trivial⟩ ⟨rfl, rfl, by rw [← hcs]; rfl, rfl, rfl, trivial⟩⟩
end Go.Proofs.Ytaecjmjdhbjbkaa.Ab

namespace Go.Proofs.Ytaecjmjdhbjbkaa.Ab
set_option linter.unusedVariables false
open Go.RowKit
set_option linter.unusedSimpArgs false
attribute [local irreducible] AWp AOps AQ AYield AEff ACall AWk AAny AAt AThen AIn APost NoPanic


set_option maxHeartbeats 2000000 in
theorem refPut_A (l : List Row) (p : Pfx) (v : Int) (hp : p.ok) (hn : l.length ≤ 1000000) : ACall Try.prog 28 [rowsA l, pfxA p, intA v] [] (Just (.tup [rowsA (putR l p v), intA (chk p)])) := by
  refine ACall_of tabOk Try.func28 rfl Try.ntmps28 (congrArg Array.toList Try.results28) (by kernel_rfl) rfl ?_
  by_cases hc : chk p = 0
  · rw [hc]
    have hR : putR l p v = if (putFold l p v).2 then (putFold l p v).1 else (putFold l p v).1 ++ [(p, v)] := by unfold putR; rw [if_pos hc]
    have hck := refCheck_A p hp
    rw [hc] at hck
    repeat (first | refine A_seq ?_ | refine A_block ?_ | refine R_list ?_ | refine R_quiet rfl mixed (by kernel_rfl) ?_ | ((first | apply O_y rfl rfl rfl | apply Q_y rfl rfl rfl); (first | exact Y_move rfl rfl | exact Y_assign rfl rfl | exact R_index tabOk rfl rfl rfl rfl rfl rfl (by omega) | exact R_fieldi tabOk rfl rfl rfl | exact R_loadi tabOk rfl rfl rfl rfl rfl rfl rfl | exact R_len tabOk rfl rfl rfl | exact R_load tabOk rfl rfl rfl rfl rfl rfl rfl rfl rfl | exact R_field tabOk rfl rfl rfl rfl | exact Y_addn rfl rfl rfl | exact Y_subn rfl rfl rfl | exact R_cmpT rfl rfl rfl rfl | exact R_cmpF rfl rfl rfl rfl | exact Y_ibin rfl rfl rfl rfl | exact Y_extract rfl rfl rfl | exact R_lenr tabOk rfl rfl rfl rfl | exact R_lenn tabOk rfl rfl rfl | exact R_indexr tabOk rfl rfl rfl rfl rfl rfl rfl (by omega) | exact R_fielde tabOk rfl rfl rfl rfl | exact R_loade tabOk rfl rfl rfl rfl rfl rfl rfl rfl rfl | exact Y_not rfl rfl | exact Y_pick_t rfl rfl (by first | rfl | assumption) rfl | exact Y_pick_f rfl rfl (by first | rfl | assumption) rfl | exact Y_pick_b rfl rfl rfl rfl | exact R_build tabOk rfl rfl rfl rfl rfl rfl | fail)) | refine O_nil ?_ | refine Q_nil ?_ | refine X_then_normal ?_ | refine X_in_normal ?_ | refine O_box rfl rfl rfl rfl rfl rfl rfl ?_ | refine O_alloc tabOk rfl rfl rfl rfl rfl rfl ?_ | refine O_store tabOk rfl rfl rfl rfl rfl rfl rfl rfl rfl rfl rfl ?_ | refine O_slice tabOk rfl rfl rfl rfl rfl rfl rfl rfl rfl rfl rfl ?_ | refine A_ct rfl ?_ | refine A_cf rfl ?_ | refine A_skip ?_ | refine A_exit ?_ | refine A_ret ?_ | refine X_then_exit ?_ | refine X_then_ret ?_ | refine X_in_same ?_ | refine X_in_other rfl ?_ | refine X_in_ret ?_ | refine O_s rfl rfl rfl ?_ | refine Q_s rfl rfl rfl ?_ | refine O_sn rfl rfl ?_ | refine O_c rfl rfl rfl rfl rfl hck (fun _ => rfl) ?_)
    refine A_weaken (Wk_nil 80 3 (t := 9) (id := 9) rfl rfl) ?_
    refine A_loop (fun s : Nat × List Row × Bool => [(0, rowsA l), (2, intA v), (4, .ptr 4 0), (9, .row 9), (10, boolA s.2.2), (11, intA (s.1 : Int))]) (fun s => [(4, .var [.d (.sc (.int .u32 p.a)), .d (.sc (.int .i64 p.b))]), (9, .row 80 3 s.2.1.length (s.2.1.flatMap rowD))])
      (fun s => s.1 ≤ l.length ∧ putFold (l.take s.1) p v = s.2) (fun s => l.length - s.1) (0, [], false) ⟨Nat.zero_le _, rfl⟩ (Wk_sel ⟨rfl, rfl, rfl, rfl, rfl, rfl, trivial⟩ ⟨rfl, rfl, trivial⟩) ?_
    rintro ⟨k, out, done⟩ ⟨hk, hf⟩
    dsimp only at hk hf ⊢
    have hlen := putFold_len (l.take k) p v
    rw [hf] at hlen
    simp only [List.length_take] at hlen
    by_cases hlt : k < l.length
    · have hs := putFold_step l p v k hlt
      rw [hf] at hs
      obtain ⟨c, hcm⟩ : ∃ c, cmpP p l[k].1 = c := ⟨_, rfl⟩
      have hcA := refCmp_A p l[k].1
      rw [hcm] at hcA
      rw [putStep_eq p v out done l[k] c hcm] at hs
      cases done
      all_goals (
        simp only [Bool.false_eq_true, if_false, if_true] at hlen
        rcases (by omega : (c ≤ 0 ∧ c = 0) ∨ (c ≤ 0 ∧ c ≠ 0) ∨ (¬ c ≤ 0 ∧ c ≠ 0)) with ⟨h1, h2⟩ | ⟨h1, h2⟩ | ⟨h1, h2⟩
        all_goals (
          simp only [h1, h2, if_true, if_false, and_true, and_false, true_and, false_and, decide_true, decide_false, Bool.or_true, Bool.or_false, Bool.false_or, Bool.true_or, reduceCtorEq, Int.le_refl] at hs
          repeat (first | refine A_seq ?_ | refine A_block ?_ | refine R_list ?_ | refine R_quiet rfl mixed (by kernel_rfl) ?_ | ((first | apply O_y rfl rfl rfl | apply Q_y rfl rfl rfl); (first | exact Y_move rfl rfl | exact Y_assign rfl rfl | exact R_index tabOk rfl rfl rfl rfl rfl rfl (by omega) | exact R_fieldi tabOk rfl rfl rfl | exact R_loadi tabOk rfl rfl rfl rfl (by first | exact win_flat0 rowD_len l k _ hlt (by decide) | exact win_flat rowD_len l k _ _ hlt (by decide) | exact win_flat2 rowD_len l k _ _ _ hlt (by decide) | rfl) rfl rfl | exact R_len tabOk rfl rfl rfl | exact R_load tabOk rfl rfl rfl rfl rfl rfl rfl rfl rfl | exact R_field tabOk rfl rfl rfl rfl | exact Y_addn rfl rfl rfl | exact Y_subn rfl rfl rfl | exact R_cmpT rfl rfl rfl rfl | exact R_cmpF rfl rfl rfl rfl | exact Y_ibin rfl rfl rfl rfl | exact Y_extract rfl rfl rfl | exact R_lenr tabOk rfl rfl rfl rfl | exact R_lenn tabOk rfl rfl rfl | exact R_indexr tabOk rfl rfl rfl rfl rfl rfl rfl (by omega) | exact R_fielde tabOk rfl rfl rfl rfl | exact R_loade tabOk rfl rfl rfl rfl rfl rfl rfl rfl rfl | exact Y_not rfl rfl | exact Y_pick_t rfl rfl (by first | rfl | assumption) rfl | exact Y_pick_f rfl rfl (by first | rfl | assumption) rfl | exact Y_pick_b rfl rfl rfl rfl | exact R_build tabOk rfl rfl rfl rfl rfl rfl | fail)) | refine O_nil ?_ | refine Q_nil ?_ | refine X_then_normal ?_ | refine X_in_normal ?_ | refine O_box rfl rfl rfl rfl rfl rfl rfl ?_ | refine O_alloc tabOk rfl rfl rfl rfl rfl rfl ?_ | refine O_store tabOk rfl rfl rfl rfl rfl rfl rfl rfl rfl rfl rfl ?_ | refine O_slice tabOk rfl rfl rfl rfl rfl rfl rfl rfl rfl rfl rfl ?_ | refine A_ct rfl ?_ | refine A_cf rfl ?_ | refine A_skip ?_ | refine A_exit ?_ | refine A_ret ?_ | refine X_then_exit ?_ | refine X_then_ret ?_ | refine X_in_same ?_ | refine X_in_other rfl ?_ | refine X_in_ret ?_ | refine O_s rfl rfl rfl ?_ | refine Q_s rfl rfl rfl ?_ | refine O_sn rfl rfl ?_ | (first | refine Q_c rfl rfl rfl rfl rfl hcA rfl (fun _ _ _ => val_mk _ _ _ _ _ rfl rfl) ?_ | (first | refine O_appR tabOk rfl rfl rfl rfl rfl rfl rfl rfl rfl rfl rfl (by first | exact Src.row rfl | exact Src.dat _ _ | exact Src.nil) rfl (by omega) ?_ | refine O_appN tabOk rfl rfl rfl rfl rfl rfl rfl rfl rfl rfl (by first | exact Src.row rfl | exact Src.dat _ _ | exact Src.nil) rfl (by omega) ?_)))
          refine ⟨(k + 1, _, _), ⟨by dsimp only; omega, hs⟩, by dsimp only; omega, Wk_sel ⟨rfl, rfl, rfl, rfl, rfl, rfl, trivial⟩ ⟨rfl, row_eq (by simp) (by simp [rowD]) rfl, trivial⟩⟩))
    · have hke : k = l.length := by omega
      repeat (first | refine A_seq ?_ | refine A_block ?_ | refine R_list ?_ | refine R_quiet rfl mixed (by kernel_rfl) ?_ | ((first | apply O_y rfl rfl rfl | apply Q_y rfl rfl rfl); (first | exact Y_move rfl rfl | exact Y_assign rfl rfl | exact R_index tabOk rfl rfl rfl rfl rfl rfl (by omega) | exact R_fieldi tabOk rfl rfl rfl | exact R_loadi tabOk rfl rfl rfl rfl rfl rfl rfl | exact R_len tabOk rfl rfl rfl | exact R_load tabOk rfl rfl rfl rfl rfl rfl rfl rfl rfl | exact R_field tabOk rfl rfl rfl rfl | exact Y_addn rfl rfl rfl | exact Y_subn rfl rfl rfl | exact R_cmpT rfl rfl rfl rfl | exact R_cmpF rfl rfl rfl rfl | exact Y_ibin rfl rfl rfl rfl | exact Y_extract rfl rfl rfl | exact R_lenr tabOk rfl rfl rfl rfl | exact R_lenn tabOk rfl rfl rfl | exact R_indexr tabOk rfl rfl rfl rfl rfl rfl rfl (by omega) | exact R_fielde tabOk rfl rfl rfl rfl | exact R_loade tabOk rfl rfl rfl rfl rfl rfl rfl rfl rfl | exact Y_not rfl rfl | exact Y_pick_t rfl rfl (by first | rfl | assumption) rfl | exact Y_pick_f rfl rfl (by first | rfl | assumption) rfl | exact Y_pick_b rfl rfl rfl rfl | exact R_build tabOk rfl rfl rfl rfl rfl rfl | fail)) | refine O_nil ?_ | refine Q_nil ?_ | refine X_then_normal ?_ | refine X_in_normal ?_ | refine O_box rfl rfl rfl rfl rfl rfl rfl ?_ | refine O_alloc tabOk rfl rfl rfl rfl rfl rfl ?_ | refine O_store tabOk rfl rfl rfl rfl rfl rfl rfl rfl rfl rfl rfl ?_ | refine O_slice tabOk rfl rfl rfl rfl rfl rfl rfl rfl rfl rfl rfl ?_ | refine A_ct rfl ?_ | refine A_cf rfl ?_ | refine A_skip ?_ | refine A_exit ?_ | refine A_ret ?_ | refine X_then_exit ?_ | refine X_then_ret ?_ | refine X_in_same ?_ | refine X_in_other rfl ?_ | refine X_in_ret ?_ | refine O_s rfl rfl rfl ?_ | refine Q_s rfl rfl rfl ?_ | refine O_sn rfl rfl ?_ | fail)
      have hR2 : putR l p v = if done then out else out ++ [(p, v)] := by rw [hR]; rw [hke, List.take_length] at hf; rw [hf]
      rw [hR2]
      cases done
      ·
        repeat (first | refine A_seq ?_ | refine A_block ?_ | refine R_list ?_ | refine R_quiet rfl mixed (by kernel_rfl) ?_ | ((first | apply O_y rfl rfl rfl | apply Q_y rfl rfl rfl); (first | exact Y_move rfl rfl | exact Y_assign rfl rfl | exact R_index tabOk rfl rfl rfl rfl rfl rfl (by omega) | exact R_fieldi tabOk rfl rfl rfl | exact R_loadi tabOk rfl rfl rfl rfl rfl rfl rfl | exact R_len tabOk rfl rfl rfl | exact R_load tabOk rfl rfl rfl rfl rfl rfl rfl rfl rfl | exact R_field tabOk rfl rfl rfl rfl | exact Y_addn rfl rfl rfl | exact Y_subn rfl rfl rfl | exact R_cmpT rfl rfl rfl rfl | exact R_cmpF rfl rfl rfl rfl | exact Y_ibin rfl rfl rfl rfl | exact Y_extract rfl rfl rfl | exact R_lenr tabOk rfl rfl rfl rfl | exact R_lenn tabOk rfl rfl rfl | exact R_indexr tabOk rfl rfl rfl rfl rfl rfl rfl (by omega) | exact R_fielde tabOk rfl rfl rfl rfl | exact R_loade tabOk rfl rfl rfl rfl rfl rfl rfl rfl rfl | exact Y_not rfl rfl | exact Y_pick_t rfl rfl (by first | rfl | assumption) rfl | exact Y_pick_f rfl rfl (by first | rfl | assumption) rfl | exact Y_pick_b rfl rfl rfl rfl | exact R_build tabOk rfl rfl rfl rfl rfl rfl | fail)) | refine O_nil ?_ | refine Q_nil ?_ | refine X_then_normal ?_ | refine X_in_normal ?_ | refine O_box rfl rfl rfl rfl rfl rfl rfl ?_ | refine O_alloc tabOk rfl rfl rfl rfl rfl rfl ?_ | refine O_store tabOk rfl rfl rfl rfl rfl rfl rfl rfl rfl rfl rfl ?_ | refine O_slice tabOk rfl rfl rfl rfl rfl rfl rfl rfl rfl rfl rfl ?_ | refine A_ct rfl ?_ | refine A_cf rfl ?_ | refine A_skip ?_ | refine A_exit ?_ | refine A_ret ?_ | refine X_then_exit ?_ | refine X_then_ret ?_ | refine X_in_same ?_ | refine X_in_other rfl ?_ | refine X_in_ret ?_ | refine O_s rfl rfl rfl ?_ | refine Q_s rfl rfl rfl ?_ | refine O_sn rfl rfl ?_ | (first | refine O_appR tabOk rfl rfl rfl rfl rfl rfl rfl rfl rfl rfl rfl (by first | exact Src.row rfl | exact Src.dat _ _ | exact Src.nil) rfl (by omega) ?_ | refine O_appN tabOk rfl rfl rfl rfl rfl rfl rfl rfl rfl rfl (by first | exact Src.row rfl | exact Src.dat _ _ | exact Src.nil) rfl (by omega) ?_))
        refine X_retW (Wk_freeze (id := 9) rfl) rfl (h2 := []) trivial ⟨?_, rfl⟩
        simp [rowsA, rowD, intA]
        exact ⟨rfl, rfl⟩
      ·
        repeat (first | refine A_seq ?_ | refine A_block ?_ | refine R_list ?_ | refine R_quiet rfl mixed (by kernel_rfl) ?_ | ((first | apply O_y rfl rfl rfl | apply Q_y rfl rfl rfl); (first | exact Y_move rfl rfl | exact Y_assign rfl rfl | exact R_index tabOk rfl rfl rfl rfl rfl rfl (by omega) | exact R_fieldi tabOk rfl rfl rfl | exact R_loadi tabOk rfl rfl rfl rfl rfl rfl rfl | exact R_len tabOk rfl rfl rfl | exact R_load tabOk rfl rfl rfl rfl rfl rfl rfl rfl rfl | exact R_field tabOk rfl rfl rfl rfl | exact Y_addn rfl rfl rfl | exact Y_subn rfl rfl rfl | exact R_cmpT rfl rfl rfl rfl | exact R_cmpF rfl rfl rfl rfl | exact Y_ibin rfl rfl rfl rfl | exact Y_extract rfl rfl rfl | exact R_lenr tabOk rfl rfl rfl rfl | exact R_lenn tabOk rfl rfl rfl | exact R_indexr tabOk rfl rfl rfl rfl rfl rfl rfl (by omega) | exact R_fielde tabOk rfl rfl rfl rfl | exact R_loade tabOk rfl rfl rfl rfl rfl rfl rfl rfl rfl | exact Y_not rfl rfl | exact Y_pick_t rfl rfl (by first | rfl | assumption) rfl | exact Y_pick_f rfl rfl (by first | rfl | assumption) rfl | exact Y_pick_b rfl rfl rfl rfl | exact R_build tabOk rfl rfl rfl rfl rfl rfl | fail)) | refine O_nil ?_ | refine Q_nil ?_ | refine X_then_normal ?_ | refine X_in_normal ?_ | refine O_box rfl rfl rfl rfl rfl rfl rfl ?_ | refine O_alloc tabOk rfl rfl rfl rfl rfl rfl ?_ | refine O_store tabOk rfl rfl rfl rfl rfl rfl rfl rfl rfl rfl rfl ?_ | refine O_slice tabOk rfl rfl rfl rfl rfl rfl rfl rfl rfl rfl rfl ?_ | refine A_ct rfl ?_ | refine A_cf rfl ?_ | refine A_skip ?_ | refine A_exit ?_ | refine A_ret ?_ | refine X_then_exit ?_ | refine X_then_ret ?_ | refine X_in_same ?_ | refine X_in_other rfl ?_ | refine X_in_ret ?_ | refine O_s rfl rfl rfl ?_ | refine Q_s rfl rfl rfl ?_ | refine O_sn rfl rfl ?_ | fail)
        exact X_retW (Wk_freeze (id := 9) rfl) rfl (h2 := []) trivial ⟨rfl, rfl⟩
  · have hR : putR l p v = l := by unfold putR; rw [if_neg hc]
    rw [hR]
    repeat (first | refine A_seq ?_ | refine A_block ?_ | refine R_list ?_ | refine R_quiet rfl mixed (by kernel_rfl) ?_ | ((first | apply O_y rfl rfl rfl | apply Q_y rfl rfl rfl); (first | exact Y_move rfl rfl | exact Y_assign rfl rfl | exact R_index tabOk rfl rfl rfl rfl rfl rfl (by omega) | exact R_fieldi tabOk rfl rfl rfl | exact R_loadi tabOk rfl rfl rfl rfl rfl rfl rfl | exact R_len tabOk rfl rfl rfl | exact R_load tabOk rfl rfl rfl rfl rfl rfl rfl rfl rfl | exact R_field tabOk rfl rfl rfl rfl | exact Y_addn rfl rfl rfl | exact Y_subn rfl rfl rfl | exact R_cmpT rfl rfl rfl rfl | exact R_cmpF rfl rfl rfl rfl | exact Y_ibin rfl rfl rfl rfl | exact Y_extract rfl rfl rfl | exact R_lenr tabOk rfl rfl rfl rfl | exact R_lenn tabOk rfl rfl rfl | exact R_indexr tabOk rfl rfl rfl rfl rfl rfl rfl (by omega) | exact R_fielde tabOk rfl rfl rfl rfl | exact R_loade tabOk rfl rfl rfl rfl rfl rfl rfl rfl rfl | exact Y_not rfl rfl | exact Y_pick_t rfl rfl (by first | rfl | assumption) rfl | exact Y_pick_f rfl rfl (by first | rfl | assumption) rfl | exact Y_pick_b rfl rfl rfl rfl | exact R_build tabOk rfl rfl rfl rfl rfl rfl | fail)) | refine O_nil ?_ | refine Q_nil ?_ | refine X_then_normal ?_ | refine X_in_normal ?_ | refine O_box rfl rfl rfl rfl rfl rfl rfl ?_ | refine O_alloc tabOk rfl rfl rfl rfl rfl rfl ?_ | refine O_store tabOk rfl rfl rfl rfl rfl rfl rfl rfl rfl rfl rfl ?_ | refine O_slice tabOk rfl rfl rfl rfl rfl rfl rfl rfl rfl rfl rfl ?_ | refine A_ct rfl ?_ | refine A_cf rfl ?_ | refine A_skip ?_ | refine A_exit ?_ | refine A_ret ?_ | refine X_then_exit ?_ | refine X_then_ret ?_ | refine X_in_same ?_ | refine X_in_other rfl ?_ | refine X_in_ret ?_ | refine O_s rfl rfl rfl ?_ | refine Q_s rfl rfl rfl ?_ | refine O_sn rfl rfl ?_ | refine O_c rfl rfl rfl rfl rfl (refCheck_A p hp) (fun _ => rfl) ?_)
    exact X_ret rfl ⟨rfl, rfl⟩
end Go.Proofs.Ytaecjmjdhbjbkaa.Ab

namespace Go.Proofs.Ytaecjmjdhbjbkaa.Ab
set_option linter.unusedVariables false
open Go.RowKit

open Classical in
/-- The callee's name of a block that the caller calls i. -/
noncomputable def invN (ν : List (Nat × Nat)) (i : Nat) : Option Nat := if h : ∃ p, look ν p = some i then some (Classical.choose h) else none
theorem invN_some {ν : List (Nat × Nat)} {i p : Nat} (h : invN ν i = some p) : look ν p = some i := by
  unfold invN at h
  split at h
  · rename_i h2
    cases h
    exact Classical.choose_spec h2
  · cases h
theorem invN_none {ν : List (Nat × Nat)} {i : Nat} (h : invN ν i = none) (p : Nat) : look ν p ≠ some i := fun hp => by
  unfold invN at h
  rw [dif_pos ⟨p, hp⟩] at h
  cases h
theorem invN_of {ν : List (Nat × Nat)} (hinj : ∀ p p' i, look ν p = some i → look ν p' = some i → p = p') {i p : Nat} (h : look ν p = some i) : invN ν i = some p := by
  cases h2 : invN ν i with
  | none => exact absurd h (invN_none h2 p)
  | some q => rw [hinj p q i h (invN_some h2)]
theorem look_mem2 {ν : List (Nat × Nat)} {p i : Nat} (h : look ν p = some i) : i ∈ ν.map (·.2) := by
  induction ν with
  | nil => cases h
  | cons q r ih =>
    obtain ⟨a, b⟩ := q
    by_cases ha : a = p
    · subst ha; rw [look_cons_same] at h; cases h; simp
    · rw [look_cons_ne _ _ ha] at h; have := ih h; simp at this ⊢; exact .inr this
theorem mem2_look {ν : List (Nat × Nat)} (hn : (ν.map (·.1)).Nodup) {i : Nat} (h : i ∈ ν.map (·.2)) : ∃ p, look ν p = some i := by
  induction ν with
  | nil => simp at h
  | cons q r ih =>
    obtain ⟨a, b⟩ := q
    rw [List.map_cons, List.nodup_cons] at hn
    rcases List.mem_cons.1 h with h1 | h1
    · exact ⟨a, by rw [h1]; exact look_cons_same _ _ _⟩
    · obtain ⟨p, hp⟩ := ih hn.2 h1
      refine ⟨p, ?_⟩
      rw [look_cons_ne _ _ ?_]
      · exact hp
      · rintro rfl
        refine hn.1 ?_
        have : ∀ (r : List (Nat × Nat)), look r a = some i → a ∈ r.map (·.1) := by
          intro r
          induction r with
          | nil => intro h; cases h
          | cons q r ih =>
            intro h
            by_cases hq : q.1 = a
            · rw [← hq]; simp
            · have e : look (q :: r) a = look r a := look_cons_ne _ _ hq
              rw [e] at h
              exact List.mem_cons_of_mem _ (ih h)
        exact this r hp
section
variable {P : Program} {nt : Nat} {T : List Nat} {Q0 : Post} {ops : Array Oper} {rest : List Oper} {e : Env} {h : Heap} {o : Oper} {tab : TTab}
/-- A callee that gets blocks of ours (ρ), and makes new ones (ν). -/
theorem E_callX {f : FuncId} {args : Array Operand} {ats : Array TypeId} {cs0 cs : List AVal} {h0 : Heap} {d : Option Tmp} {Q : AVal → Heap → Prop} (ρ ν : List (Nat × Nat)) (ho : o.op = .call { callee := .value (.func f), args := args, argTypes := ats }) (hdst : o.dst = d) (hx : aevs e args.toList = some cs0)
    (hcs : cs.map (renV ρ) = cs0) (hok : ∀ c ∈ cs, okV ρ c = true) (hl : Lent ρ h h0) (hdom : ∀ p i, look ρ p = some i → 1000 ≤ p ∧ (look h0 p).isSome = true) (hinj : ∀ p p' i, look ρ p = some i → look ρ p' = some i → p = p')
    (H : ACall P f cs h0 Q) (hd : dstOk nt d = true) (hT : ∀ p i, look ρ p = some i → T.contains i = true)
    (hν : ∀ p i, look ν p = some i → p < 1000 ∧ i < 1000 ∧ ∀ q, look ρ q ≠ some i) (hνinj : ∀ p p' i, look ν p = some i → look ν p' = some i → p = p') (hνn : (ν.map (·.1)).Nodup)
    (hq : ∀ c h', Q c h' → ∀ p i, look ρ p = some i → (look h' p).isSome = true) :
    AEff P nt T e h o (fun e' h2 => ∃ c h', Q c h' ∧ e' = aput d (renV (ν ++ ρ) c) (killEs (ν.map (·.2)) e) ∧ h2 = renH (ν ++ ρ) h' ++ killHs (ν.map (·.2)) h) := fun Pm F w0 pin ι a w R K Qx hK => by
  unfold Oper.wp
  rw [run_callA H.1 ho, Oper.upon_enter, hdst]
  have HR := R.heap
  let ι0 : Nat → Option Value := fun p => match look ρ p with | some i => ι i | none => none
  have h0some : ∀ p v, ι0 p = some v → ∃ i, look ρ p = some i ∧ ι i = some v := fun p v hv => by
    simp only [ι0] at hv
    cases hp : look ρ p with
    | none => rw [hp] at hv; cases hv
    | some i => rw [hp] at hv; exact ⟨i, rfl, hv⟩
  have h0of : ∀ p i, look ρ p = some i → ι0 p = ι i := fun p i hp => by simp only [ι0, hp]
  let F' : Nat → Prop := fun r => F r ∨ ∃ id v, ι id = some v ∧ blockOf v = some r ∧ ∀ p, look ρ p ≠ some id
  let Pm' : Nat → Prop := fun r => w.heap.size ≤ r ∨ ∃ p v, ι0 p = some v ∧ blockOf v = some r
  have hFdown : ExtF w F ι w F' ι0 := ⟨fun _ _ _ => rfl, fun r _ hf => ⟨fun hc => hc.elim hf.1 fun ⟨id, v, h1, h2, _⟩ => hf.2 id v h1 h2, fun p v hv hb => by
    obtain ⟨i, _, h2⟩ := h0some p v hv
    exact hf.2 i v h2 hb⟩⟩
  have HC : HRel Pm' F' w ι0 ι0 h0 w := by
    refine ⟨fun p b hb => ?_, fun p v hv => ?_, fun p q v v' r hpq hv hv' hr => ?_, fun p v r hv hr => .inr ⟨p, v, hv, hr⟩, rfl, rfl, rfl, Nat.le_refl _, fun _ _ _ => rfl, fun r hr => .inl hr, fun p v _ hv => hv, fun p v r hv hr hF' => ?_, fun r hr => ?_⟩
    · obtain ⟨i, h1, h2, h3⟩ := hl.get hb
      obtain ⟨v, hv, hB⟩ := HR.blk i _ h2
      exact ⟨v, by rw [h0of p i h1]; exact hv, hB.down h3 hFdown h0some⟩
    · obtain ⟨i, h1, h2⟩ := h0some p v hv
      exact Option.isSome_iff_exists.1 (hdom p i h1).2
    · obtain ⟨i, h1, h2⟩ := h0some p v hv
      obtain ⟨j, h3, h4⟩ := h0some q v' hv'
      exact HR.inj i j v v' r (by rintro rfl; exact hpq (hinj p q i h1 h3)) h2 h4 hr
    · obtain ⟨i, h1, h2⟩ := h0some p v hv
      rcases hF' with h3 | ⟨id, v', h3, h4, h5⟩
      · exact HR.nf i v r h2 hr h3
      · have : i ≠ id := by rintro rfl; exact h5 p h1
        exact HR.inj i id v v' r this h2 h3 hr h4
    · rcases hr with h1 | ⟨id, v, h1, h2, _⟩
      · exact Nat.lt_of_lt_of_le (HR.forb r h1) HR.size
      · exact HR.lt h1 h2
  have HA : ArgsRel w F' ι0 cs (args.map a.eval) := by
    have := args_of R.env hx
    refine ⟨by rw [this.1, ← hcs, List.length_map], fun i c u h1 h2 => (this.2 i (renV ρ c) u (by rw [← hcs, List.getElem?_map, h1]; rfl) h2).down (hok c (List.mem_of_getElem? h1)) hFdown h0some⟩
  refine (H.2 Pm' F' w ι0 ι0 _ w HC HA).mono ?_
  rintro x w' ⟨u, c, h', ι', rfl, hQ, hH, hv⟩
  have hsz := hH.size
  have hkeep : ∀ r, r < w.heap.size → (∀ p i v, look ρ p = some i → ι i = some v → blockOf v ≠ some r) → w'.heap[r]? = w.heap[r]? := fun r hr hn => hH.keep r hr fun hp => by
    rcases hp with h1 | ⟨p, v, h1, h2⟩
    · omega
    · obtain ⟨i, h3, h4⟩ := h0some p v h1
      exact hn p i v h3 h4 h2
  have hpin : ∀ p i, look ρ p = some i → ∀ v, ι i = some v → ι' p = some v := fun p i hp v hv => by
    obtain ⟨b, hb⟩ := Option.isSome_iff_exists.1 (hq c h' hQ p i hp)
    obtain ⟨v', hv', _⟩ := hH.blk p b hb
    have := hH.pinned p v' (hdom p i hp).1 hv'
    rw [h0of p i hp, hv] at this
    cases this
    exact hv'
  have hσ : ∀ p i, look (ν ++ ρ) p = some i → look ν p = some i ∨ look ρ p = some i := fun p i hp => by
    rw [look_append] at hp
    cases h1 : look ν p with
    | some j => rw [h1] at hp; cases hp; exact .inl rfl
    | none => rw [h1] at hp; exact .inr hp
  have hσν : ∀ p i, look ν p = some i → look (ν ++ ρ) p = some i := fun p i hp => by rw [look_append, hp]
  have hσinj : ∀ p p' i, look (ν ++ ρ) p = some i → look (ν ++ ρ) p' = some i → p = p' := fun p p' i h1 h2 => by
    rcases hσ p i h1 with h3 | h3 <;> rcases hσ p' i h2 with h4 | h4
    · exact hνinj p p' i h3 h4
    · exact absurd h4 ((hν p i h3).2.2 p')
    · exact absurd h3 ((hν p' i h4).2.2 p)
    · exact hinj p p' i h3 h4
  let ι2 : Nat → Option Value := fun id => match invN ν id with | some p => ι' p | none => ι id
  have i2 : ∀ id v, ι2 id = some v → (∃ p, look ν p = some id ∧ ι' p = some v) ∨ (∀ p, look ν p ≠ some id) ∧ ι id = some v := fun id v hv => by
    simp only [ι2] at hv
    cases hi : invN ν id with
    | some p => rw [hi] at hv; exact .inl ⟨p, invN_some hi, hv⟩
    | none => rw [hi] at hv; exact .inr ⟨invN_none hi, hv⟩
  have i2ν : ∀ p id, look ν p = some id → ι2 id = ι' p := fun p id hp => by simp only [ι2, invN_of hνinj hp]
  have i2o : ∀ id, (∀ p, look ν p ≠ some id) → ι2 id = ι id := fun id hn => by
    simp only [ι2]
    cases hi : invN ν id with
    | some p => exact absurd (invN_some hi) (hn p)
    | none => rfl
  have newlt : ∀ p id v r, look ν p = some id → ι' p = some v → blockOf v = some r → w.heap.size ≤ r := fun p id v r hp hv hr => by
    rcases hH.pm p v r hv hr with h1 | ⟨q, v2, h1, h2⟩
    · exact h1
    · obtain ⟨i, h3, h4⟩ := h0some q v2 h1
      have h5 := hpin q i h3 v2 h4
      have h6 := (hν p id hp).1
      have h7 := (hdom q i h3).1
      exact absurd h2 (hH.inj p q v v2 r (by omega) hv h5 hr)
  have hFup : ExtF w' F' ι' w' F ι2 := ⟨fun _ _ _ => rfl, fun r _ hf => ⟨fun hc => hf.1 (.inl hc), fun id v hid hb => by
    rcases i2 id v hid with ⟨p, _, h2⟩ | ⟨_, h2⟩
    · exact hf.2 p v h2 hb
    · by_cases hex : ∃ p, look ρ p = some id
      · obtain ⟨p, hp⟩ := hex
        exact hf.2 p v (hpin p id hp v h2) hb
      · exact hf.1 (.inr ⟨id, v, h2, hb, fun p hp => hex ⟨p, hp⟩⟩)⟩⟩
  have hup : ∀ p i, look (ν ++ ρ) p = some i → ∀ v, ι2 i = some v → ι' p = some v := fun p i hp v hv => by
    rcases hσ p i hp with h1 | h1
    · rw [i2ν p i h1] at hv; exact hv
    · rcases i2 i v hv with ⟨q, h2, _⟩ | ⟨_, h2⟩
      · exact absurd h1 ((hν q i h2).2.2 p)
      · exact hpin p i h1 v h2
  have hext : Ext w F ι w' ι2 := ⟨fun r hr hf => hkeep r hr fun p i v hp hi hb => hf.2 i v hi hb, fun r hr hf => ⟨hf.1, fun id v hid hb => by
    rcases i2 id v hid with ⟨p, h1, h2⟩ | ⟨_, h2⟩
    · have := newlt p id v r h1 h2 hb; omega
    · exact hf.2 id v h2 hb⟩⟩
  have hold : ∀ id, (ν.map (·.2)).contains id = false → ∀ p, look ν p ≠ some id := fun id hc p hp => by
    have := List.contains_iff_mem.2 (look_mem2 hp)
    rw [hc] at this; cases this
  have vk : ∀ c0 u0, VRel w F ι c0 u0 → VRel w' F ι2 (killVs (ν.map (·.2)) c0) u0 := fun c0 u0 hv => by
    unfold killVs
    cases hh : hasAny (ν.map (·.2)) c0 with
    | true => exact .top _
    | false =>
      refine hv.ext hext fun id v hi hv2 => ?_
      rcases i2 id v hv2 with ⟨p, h1, h2⟩ | ⟨_, h2⟩
      · have := List.any_eq_false.1 hh id (look_mem2 h1)
        rw [hi] at this; exact absurd rfl this
      · exact h2
  have hheap : HRel Pm F w0 pin ι2 (renH (ν ++ ρ) h' ++ killHs (ν.map (·.2)) h) w' := by
    refine ⟨fun id b hb => ?_, fun id v hv => ?_, fun i j v v' r hij hi hj hr => ?_, fun i v r hi hr => ?_, hH.os.trans HR.os, hH.tape.trans HR.tape, hH.output.trans HR.output, Nat.le_trans HR.size hsz, fun r hr hn => ?_, HR.fresh, fun id v h1 hv => ?_, fun i v r hi hr => ?_, HR.forb⟩
    · rw [look_append] at hb
      cases hl2 : look (renH (ν ++ ρ) h') id with
      | some b' =>
        rw [hl2] at hb
        cases hb
        obtain ⟨p, b0, h1, h2, h3⟩ := (look_renH hσinj h' id).1 b hl2
        subst h3
        obtain ⟨v', hv', hB⟩ := hH.blk p b0 h2
        refine ⟨v', ?_, hB.up hFup hup⟩
        rcases hσ p id h1 with h3 | h3
        · rw [i2ν p id h3]; exact hv'
        · have h4 := hH.pinned p v' (hdom p id h3).1 hv'
          rw [h0of p id h3] at h4
          rw [i2o id fun q hq2 => (hν q id hq2).2.2 p h3]
          exact h4
      | none =>
        rw [hl2] at hb
        rw [look_killHs] at hb
        cases hc : (ν.map (·.2)).contains id with
        | true => rw [hc] at hb; simp at hb
        | false =>
          rw [hc] at hb
          simp only [Bool.false_eq_true, if_false] at hb
          cases hl3 : look h id with
          | none => simp [hl3] at hb
          | some b0 =>
            simp [hl3] at hb
            subst hb
            have hno : ∀ p, look ρ p ≠ some id := fun p hp => by
              have h1 := (look_renH hσinj h' id).2 hl2 p (by
                rw [look_append]
                cases h2 : look ν p with
                | some j => have h3 := (hν p j h2).1; have h4 := (hdom p id hp).1; omega
                | none => exact hp)
              have h2 := hq c h' hQ p id hp
              rw [h1] at h2; cases h2
            obtain ⟨v, hv, hB⟩ := HR.blk id b0 hl3
            have hsame : ∀ r, blockOf v = some r → w'.heap[r]? = w.heap[r]? := fun r hr => hkeep r (HR.lt hv hr) fun p i v2 hp hi hb3 =>
              HR.inj i id v2 v r (by rintro rfl; exact hno p hp) hi hv hb3 hr
            refine ⟨v, by rw [i2o id (hold id hc)]; exact hv, ?_⟩
            cases b0 with
            | var cs =>
              obtain ⟨r, C, tt, rfl, h2, h3, h4⟩ := hB
              refine ⟨r, C, tt, rfl, (hsame r rfl).trans h2, by simpa using h3, fun i c u h5 h6 => ?_⟩
              rw [List.getElem?_map] at h5
              cases h7 : cs[i]? with
              | none => simp [h7] at h5
              | some c0 => simp [h7] at h5; subst h5; exact vk _ _ (h4 i c0 u h7 h6)
            | row el k n cs =>
              obtain ⟨xs, hown, h3, h4⟩ := hB
              refine ⟨xs, ⟨hown.1, ?_⟩, h3, fun i c u h5 h6 => (h4 i c u h5 h6).ext hext.mem hext.free⟩
              rcases hown.2 with h8 | ⟨g, cap, cur, rfl, hb, hg, rest⟩
              · exact .inl h8
              · exact .inr ⟨g, cap, cur, rfl, hb, (hsame g rfl).trans hg, rest⟩
            | map es =>
              obtain ⟨r, E, clk, rfl, h2, h3, h4, h5⟩ := hB
              refine ⟨r, E, clk, rfl, (hsame r rfl).trans h2, by simpa using h3, fun i p m h6 h7 => ?_, h5⟩
              rw [List.getElem?_map] at h6
              cases h8 : es[i]? with
              | none => simp [h8] at h6
              | some p0 => simp [h8] at h6; subst h6; exact ⟨vk _ _ (h4 i p0 m h8 h7).1, vk _ _ (h4 i p0 m h8 h7).2⟩
            | mapx r0 bs0 clk0 es =>
              obtain ⟨E, rfl, h2, h3, h4, h5⟩ := hB
              refine ⟨E, rfl, (hsame _ rfl).trans h2, by simpa using h3, fun i p m h6 h7 => ?_, h5⟩
              rw [List.getElem?_map] at h6
              cases h8 : es[i]? with
              | none => simp [h8] at h6
              | some p0 => simp [h8] at h6; subst h6; exact ⟨vk _ _ (h4 i p0 m h8 h7).1, vk _ _ (h4 i p0 m h8 h7).2⟩
            | it o => obtain ⟨r, rfl, h2⟩ := hB; exact ⟨r, rfl, (hsame r rfl).trans h2⟩
    · rw [look_append]
      cases hl2 : look (renH (ν ++ ρ) h') id with
      | some b' => exact ⟨b', rfl⟩
      | none =>
        rcases i2 id v hv with ⟨p, h1, h2⟩ | ⟨h1, h2⟩
        · obtain ⟨b, hb⟩ := hH.dom p v h2
          have := (look_renH hσinj h' id).2 hl2 p (hσν p id h1)
          rw [hb] at this; cases this
        · obtain ⟨b, hb⟩ := HR.dom id v h2
          refine ⟨killBs (ν.map (·.2)) b, ?_⟩
          show look (killHs _ h) id = _
          rw [look_killHs, hb]
          cases hc : (ν.map (·.2)).contains id with
          | true =>
            obtain ⟨p, hp⟩ := mem2_look hνn (List.contains_iff_mem.1 hc)
            exact absurd hp (h1 p)
          | false => rfl
    · rcases i2 i v hi with ⟨p, h1, h2⟩ | ⟨h1, h2⟩ <;> rcases i2 j v' hj with ⟨q, h3, h4⟩ | ⟨h3, h4⟩
      · exact hH.inj p q v v' r (by rintro rfl; rw [h1] at h3; cases h3; exact hij rfl) h2 h4 hr
      · intro hr'
        have := newlt p i v r h1 h2 hr
        have := HR.lt h4 hr'
        omega
      · intro hr'
        have := newlt q j v' r h3 h4 hr'
        have := HR.lt h2 hr
        omega
      · exact HR.inj i j v v' r hij h2 h4 hr
    · rcases i2 i v hi with ⟨p, h1, h2⟩ | ⟨_, h2⟩
      · exact HR.fresh r (Nat.le_trans HR.size (newlt p i v r h1 h2 hr))
      · exact HR.pm i v r h2 hr
    · rw [hkeep r (Nat.lt_of_lt_of_le hr HR.size) fun p i v hp hi hb => hn (HR.pm i v r hi hb)]
      exact HR.keep r hr hn
    · rcases i2 id v hv with ⟨p, h2, h3⟩ | ⟨_, h3⟩
      · have := (hν p id h2).2.1; omega
      · exact HR.pinned id v h1 h3
    · intro hF
      rcases i2 i v hi with ⟨p, h2, h3⟩ | ⟨_, h3⟩
      · have := newlt p i v r h2 h3 hr
        have := HR.forb r hF
        have := HR.size
        omega
      · exact HR.nf i v r h3 hr hF
  refine hK ι2 _ _ _ w' ⟨c, h', hQ, rfl, rfl⟩ ⟨hheap, EnvRel.aput (fun t c0 ht => ?_) hd R.size (hv.up hFup hup), by rw [put_defers]; exact R.defers.ext hext, by rw [put_size]; exact R.size⟩ ⟨⟨hH.os, hH.tape, hH.output, hsz, fun r hr hne => hkeep r hr fun p i v hp hi hb => hne i (List.contains_iff_mem.1 (hT p i hp)) v hi hb⟩, fun id _ v r h1 h2 h3 => ?_⟩ (put_defers _ _ _)
  · rw [look_killEs] at ht
    cases hl1 : look e t with
    | none => simp [hl1] at ht
    | some c1 =>
      simp [hl1] at ht
      subst ht
      obtain ⟨u0, hu0, hv0⟩ := R.env t c1 hl1
      exact ⟨u0, hu0, vk _ _ hv0⟩
  · rcases i2 id v h1 with ⟨p, h4, h5⟩ | ⟨_, h5⟩
    · have := newlt p id v r h4 h5 h2; omega
    · exact ⟨v, h5, h2⟩
/-- .. whose answer is known up to a choice. -/
theorem O_cX {α : Type} {f : FuncId} {args : Array Operand} {ats : Array TypeId} {cs0 cs : List AVal} {h0 : Heap} {C : α → AVal} {H1 : α → Heap} {Φ : α → Prop} {d : Nat} (ρ ν : List (Nat × Nat)) (hinj : ∀ p p' i, look ρ p = some i → look ρ p' = some i → p = p') (hdom : ∀ p i, look ρ p = some i → 1000 ≤ p ∧ (look h0 p).isSome = true ∧ ∀ x, (look (H1 x) p).isSome = true)
    (hν : ∀ p i, look ν p = some i → p < 1000 ∧ i < 1000 ∧ ∀ q, look ρ q ≠ some i) (hνinj : ∀ p p' i, look ν p = some i → look ν p' = some i → p = p') (hνn : (ν.map (·.1)).Nodup)
    (H : ACall P f cs h0 (fun c' h' => ∃ x, Φ x ∧ c' = C x ∧ h' = H1 x)) (hok : cs.all (okV ρ) = true) (hl : Lent ρ h h0) (hw : awant ops e o = some true) (hdst : o.dst = some d) (hd : Nat.blt d nt = true) (ho : o.op = .call { callee := .value (.func f), args := args, argTypes := ats }) (hx : aevs e args.toList = some cs0)
    (hcs : cs.map (renV ρ) = cs0) (HK : ∀ x, Φ x → AOps P nt ops Q0 rest ((d, renV (ν ++ ρ) (C x)) :: killEs (ν.map (·.2)) e) (renH (ν ++ ρ) (H1 x) ++ killHs (ν.map (·.2)) h)) : AOps P nt ops Q0 (o :: rest) e h :=
  O_eff (T := ρ.map (·.2)) hw (E_callX ρ ν ho hdst hx hcs (fun c hc => List.all_eq_true.1 hok c hc) hl (fun p i hp => ⟨(hdom p i hp).1, (hdom p i hp).2.1⟩) hinj H hd (fun p i hp => List.contains_iff_mem.2 (look_mem2 hp)) hν hνinj hνn (fun c' h' ⟨x, _, _, h4⟩ p i hp => by subst h4; exact (hdom p i hp).2.2 x)) fun e' h' ⟨c', h2, ⟨x, h9, h3, h4⟩, h5, h6⟩ => by subst h3 h4 h5 h6; exact HK x h9
end
end Go.Proofs.Ytaecjmjdhbjbkaa.Ab

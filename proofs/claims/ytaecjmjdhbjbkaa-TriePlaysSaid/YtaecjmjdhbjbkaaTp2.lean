/-
  Texts of a proof, one behind the other (part 3).
-/
import Derived.Deep.AppendLies
import Derived.Shelf.SlSortCmp.WholeK
import Derived.Test.YtaecjmjdhbjbkaaTp1
set_option linter.unusedVariables false
set_option linter.unusedSimpArgs false
namespace Go.Proofs.Ytaecjmjdhbjbkaa.Ab
set_option linter.unusedVariables false
set_option maxRecDepth 100000
open Go.RowKit
set_option linter.unusedSimpArgs false
attribute [local irreducible] AWp AOps AQ AYield AEff ACall AWk AAny AAt AThen AIn APost NoPanic

def usedA (u : Nat → Int) : List AVal := (List.range 33).map fun b => intA (u b)
def tblB (m : Nat) (u : Nat → Int) : ABlk := .var (.mp m :: usedA u)
def mapB (l : List (Pfx × Int)) : ABlk := .map (ents pfxA intA l)
theorem new_A : ACall Try.prog 23 [] [] (fun c h => c = .ptr 3 0 ∧ h = [(3, tblB 902 fun _ => 0), (902, mapB [])]) := by
  refine ACall_of tabOk Try.func23 rfl Try.ntmps23 (congrArg Array.toList Try.results23) (by kernel_rfl) rfl ?_
  repeat (first | refine A_seq ?_ | refine A_block ?_ | refine R_list ?_ | refine R_quiet rfl mixed (by kernel_rfl) ?_ | ((first | apply O_y rfl rfl rfl | apply Q_y rfl rfl rfl); (first | exact Y_move rfl rfl | exact Y_assign rfl rfl | exact R_index tabOk rfl rfl rfl rfl rfl rfl (by omega) | exact R_fieldi tabOk rfl rfl rfl | exact R_loadi tabOk rfl rfl rfl rfl rfl rfl rfl | exact R_len tabOk rfl rfl rfl | exact R_load tabOk rfl rfl rfl rfl rfl rfl rfl rfl rfl | exact R_field tabOk rfl rfl rfl rfl | exact Y_addn rfl rfl rfl | exact Y_subn rfl rfl rfl | exact R_cmpT rfl rfl rfl rfl | exact R_cmpF rfl rfl rfl rfl | exact Y_ibin rfl rfl rfl rfl | exact Y_extract rfl rfl rfl | exact R_lenr tabOk rfl rfl rfl rfl | exact R_lenn tabOk rfl rfl rfl | exact R_indexr tabOk rfl rfl rfl rfl rfl rfl rfl (by omega) | exact R_fielde tabOk rfl rfl rfl rfl | exact R_loade tabOk rfl rfl rfl rfl rfl rfl rfl rfl rfl | exact Y_not rfl rfl | exact Y_pick_t rfl rfl (by first | rfl | assumption) rfl | exact Y_pick_f rfl rfl (by first | rfl | assumption) rfl | exact Y_pick_b rfl rfl rfl rfl | exact R_build tabOk rfl rfl rfl rfl rfl rfl | fail)) | refine O_nil ?_ | refine Q_nil ?_ | refine X_then_normal ?_ | refine X_in_normal ?_ | refine O_box rfl rfl rfl rfl rfl rfl rfl ?_ | refine O_alloc tabOk rfl rfl rfl rfl rfl rfl ?_ | refine O_store tabOk rfl rfl rfl rfl rfl rfl rfl rfl rfl rfl rfl ?_ | refine O_slice tabOk rfl rfl rfl rfl rfl rfl rfl rfl rfl rfl rfl ?_ | refine A_ct rfl ?_ | refine A_cf rfl ?_ | refine A_skip ?_ | refine A_exit ?_ | refine A_ret ?_ | refine X_then_exit ?_ | refine X_then_ret ?_ | refine X_in_same ?_ | refine X_in_other rfl ?_ | refine X_in_ret ?_ | refine O_s rfl rfl rfl ?_ | refine Q_s rfl rfl rfl ?_ | refine O_sn rfl rfl ?_ | (refine O_makeMap 902 rfl rfl rfl rfl rfl ?_))
  exact X_retW AWk.refl rfl (h2 := [(3, tblB 902 fun _ => 0), (902, mapB [])]) ⟨rfl, rfl, trivial⟩ ⟨rfl, rfl⟩
theorem len_A (u : Nat → Int) (l : List (Pfx × Int)) : ACall Try.prog 27 [.ptr 1000 0] [(1000, tblB 1001 u), (1001, mapB l)] (fun c h => c = intA (l.length : Int) ∧ h = [(1000, tblB 1001 u), (1001, mapB l)]) := by
  refine ACall_of tabOk Try.func27 rfl Try.ntmps27 (congrArg Array.toList Try.results27) (by kernel_rfl) rfl ?_
  repeat (first | refine A_seq ?_ | refine A_block ?_ | refine R_list ?_ | refine R_quiet rfl mixed (by kernel_rfl) ?_ | ((first | apply O_y rfl rfl rfl | apply Q_y rfl rfl rfl); (first | exact Y_move rfl rfl | exact Y_assign rfl rfl | exact R_index tabOk rfl rfl rfl rfl rfl rfl (by omega) | exact R_fieldi tabOk rfl rfl rfl | exact R_loadi tabOk rfl rfl rfl rfl rfl rfl rfl | exact R_len tabOk rfl rfl rfl | exact R_load tabOk rfl rfl rfl rfl rfl rfl rfl rfl rfl | exact R_field tabOk rfl rfl rfl rfl | exact Y_addn rfl rfl rfl | exact Y_subn rfl rfl rfl | exact R_cmpT rfl rfl rfl rfl | exact R_cmpF rfl rfl rfl rfl | exact Y_ibin rfl rfl rfl rfl | exact Y_extract rfl rfl rfl | exact R_lenr tabOk rfl rfl rfl rfl | exact R_lenn tabOk rfl rfl rfl | exact R_indexr tabOk rfl rfl rfl rfl rfl rfl rfl (by omega) | exact R_fielde tabOk rfl rfl rfl rfl | exact R_loade tabOk rfl rfl rfl rfl rfl rfl rfl rfl rfl | exact Y_not rfl rfl | exact Y_pick_t rfl rfl (by first | rfl | assumption) rfl | exact Y_pick_f rfl rfl (by first | rfl | assumption) rfl | exact Y_pick_b rfl rfl rfl rfl | exact R_build tabOk rfl rfl rfl rfl rfl rfl | (first | exact R_pnil tabOk rfl rfl rfl rfl rfl | exact Y_nilCheck rfl rfl rfl | exact R_lenm tabOk rfl rfl rfl rfl rfl))) | refine O_nil ?_ | refine Q_nil ?_ | refine X_then_normal ?_ | refine X_in_normal ?_ | refine O_box rfl rfl rfl rfl rfl rfl rfl ?_ | refine O_alloc tabOk rfl rfl rfl rfl rfl rfl ?_ | refine O_store tabOk rfl rfl rfl rfl rfl rfl rfl rfl rfl rfl rfl ?_ | refine O_slice tabOk rfl rfl rfl rfl rfl rfl rfl rfl rfl rfl rfl ?_ | refine A_ct rfl ?_ | refine A_cf rfl ?_ | refine A_skip ?_ | refine A_exit ?_ | refine A_ret ?_ | refine X_then_exit ?_ | refine X_then_ret ?_ | refine X_in_same ?_ | refine X_in_other rfl ?_ | refine X_in_ret ?_ | refine O_s rfl rfl rfl ?_ | refine Q_s rfl rfl rfl ?_ | refine O_sn rfl rfl ?_ | fail)
  rw [show (ents pfxA intA l).length = l.length from List.length_map _]
  exact X_retW AWk.refl rfl (h2 := [(1000, tblB 1001 u), (1001, mapB l)]) ⟨rfl, rfl, trivial⟩ ⟨rfl, rfl⟩
theorem var_eq {id : Nat} {cs cs' : List AVal} {h : Heap} (hc : cs = cs') (hl : look h id = some (.var cs)) : look h id = some (.var cs') := by subst hc; exact hl
def bump (u : Nat → Int) (b : Nat) (d : Int) : Nat → Int := fun j => if j = b then u j + d else u j
theorem used_get (m : Nat) (u : Nat → Int) (b : Nat) (hb : b < 33) : win (.mp m :: usedA u) (0 + 1 + b * 1) 1 = [intA (u b)] := by
  have h1 : (AVal.mp m :: usedA u)[1 + b]? = some (intA (u b)) := by
    rw [show 1 + b = b + 1 by omega, List.getElem?_cons_succ]
    simp [usedA, List.getElem?_map, List.getElem?_range hb]
  have h2 : 1 + b < (AVal.mp m :: usedA u).length := (List.getElem?_eq_some_iff.1 h1).1
  unfold win
  rw [show 0 + 1 + b * 1 = 1 + b by omega, List.drop_eq_getElem_cons h2]
  have h3 := (List.getElem?_eq_some_iff.1 h1).2
  rw [List.take_succ_cons, List.take_zero, h3]
theorem used_set (m : Nat) (u : Nat → Int) (b : Nat) (d : Int) (hb : b < 33) : setW (.mp m :: usedA u) (0 + 1 + b * 1) [intA (u b + d)] = .mp m :: usedA (bump u b d) := by
  apply List.ext_getElem?
  intro i
  rw [setW_get (by simp [usedA]; omega)]
  cases i with
  | zero => simp
  | succ i =>
    simp only [List.getElem?_cons_succ, List.length_cons, List.length_nil, usedA, List.getElem?_map]
    by_cases hi : i < 33
    · rw [List.getElem?_range hi]
      by_cases he : i = b
      · subst he
        rw [if_pos (by omega)]
        simp [bump]
        rw [show i + 1 - (1 + i) = 0 by omega]
        rfl
      · rw [if_neg (by omega)]
        simp [bump, he]
    · have h0 : (List.range 33)[i]? = none := by simp; omega
      rw [h0, if_neg (by omega)]
      rfl
theorem zeroInt (W : World) : (zeroValue 3).run Try.prog W = .ok (.int .i64 0) W := by
  have h : tlook tab 3 = some _ := rfl
  obtain ⟨z, h1, h2, i, h3, h4, _⟩ := (tabOk _ _ h).zero W
  have h5 : (Try.prog.info? 3).bind (·.zero) = some (.int .i64 0) := by kernel_rfl
  rw [h3] at h5
  simp only [Option.bind_some] at h5
  rw [h4] at h5
  cases h5
  exact h1
theorem kill_map (id : Nat) (l : List (Pfx × Int)) : some (killB id (mapB l)) = some (mapB l) := by
  show some (ABlk.map ((l.map fun p => (pfxA p.1, intA p.2)).map fun p => (killV id p.1, killV id p.2))) = _
  rw [List.map_map]
  rfl
set_option maxHeartbeats 2000000 in
theorem put_A (u : Nat → Int) (l : List (Pfx × Int)) (p : Pfx) (v : Int) (hp : p.ok) (hn : (l.map (·.1)).Nodup) (hu : ∀ j, 0 ≤ u j ∧ u j ≤ 1000000000) :
    ACall Try.prog 24 [.ptr 1000 0, pfxA p, intA v] [(1000, tblB 1001 u), (1001, mapB l)] (fun c h => c = intA (chk p) ∧ h = if chk p = 0 then [(1000, tblB 1001 (if (aget l p).isSome then u else bump u p.b.toNat 1)), (1001, mapB (Go.Proofs.Ytaecjmjdhbjbkaa.aput l p v))] else [(1000, tblB 1001 u), (1001, mapB l)]) := by
  refine ACall_of tabOk Try.func24 rfl Try.ntmps24 (congrArg Array.toList Try.results24) (by kernel_rfl) rfl ?_
  have hck := check_A p hp
  by_cases hc : chk p = 0
  · rw [hc] at hck ⊢
    simp only [if_true]
    have hg := (chk_eq p).1 hc
    obtain ⟨a, b⟩ := p
    obtain ⟨B, rfl⟩ : ∃ B : Nat, b = (B : Int) := ⟨b.toNat, by have := hg.1; simp at this; omega⟩
    have hB : B < 33 := by have := hg.2.1; simp at this; omega
    have huB := hu B
    refine A_seq ?_
    refine R_list ?_
    refine O_box rfl rfl rfl rfl rfl rfl rfl ?_
    refine O_weaken (Wk_sel (e1 := [(0, .ptr 1000 0), (2, intA v), (4, .ptr 4 0)]) (h1 := [(4, .var [.d (.sc (.int .u32 a)), .d (.sc (.int .i64 (B : Int)))]), (1000, tblB 1001 u), (1001, mapB l)]) ⟨rfl, rfl, rfl, trivial⟩ ⟨rfl, rfl, kill_map 4 l, trivial⟩) ?_
    cases hag : aget l ⟨a, (B : Int)⟩ with
    | none =>
      repeat (first | refine A_seq ?_ | refine A_block ?_ | refine R_list ?_ | refine R_quiet rfl mixed (by kernel_rfl) ?_ | ((first | apply O_y rfl rfl rfl | apply Q_y rfl rfl rfl); (first | exact Y_move rfl rfl | exact Y_assign rfl rfl | exact R_index tabOk rfl rfl rfl rfl rfl rfl (by omega) | exact R_fieldi tabOk rfl rfl rfl | exact R_loadi tabOk rfl rfl rfl rfl rfl rfl rfl | exact R_len tabOk rfl rfl rfl | exact R_load tabOk rfl rfl rfl rfl rfl rfl rfl rfl rfl | exact R_field tabOk rfl rfl rfl rfl | exact Y_addn rfl rfl rfl | exact Y_subn rfl rfl rfl | exact R_cmpT rfl rfl rfl rfl | exact R_cmpF rfl rfl rfl rfl | exact Y_ibin rfl rfl rfl rfl | exact Y_extract rfl rfl rfl | exact R_lenr tabOk rfl rfl rfl rfl | exact R_lenn tabOk rfl rfl rfl | exact R_indexr tabOk rfl rfl rfl rfl rfl rfl rfl (by omega) | exact R_fielde tabOk rfl rfl rfl rfl | exact R_loade tabOk rfl rfl rfl rfl rfl rfl rfl rfl rfl | exact Y_not rfl rfl | exact Y_pick_t rfl rfl (by first | rfl | assumption) rfl | exact Y_pick_f rfl rfl (by first | rfl | assumption) rfl | exact Y_pick_b rfl rfl rfl rfl | exact R_build tabOk rfl rfl rfl rfl rfl rfl | (first | exact R_pnil tabOk rfl rfl rfl rfl rfl | exact Y_nilCheck rfl rfl rfl | exact R_lkOut pfxKey pfxA_val zeroInt rfl trivial (fun _ _ => trivial) hn hag tabOk rfl rfl rfl rfl rfl rfl))) | refine O_nil ?_ | refine Q_nil ?_ | refine X_then_normal ?_ | refine X_in_normal ?_ | refine O_box rfl rfl rfl rfl rfl rfl rfl ?_ | refine O_alloc tabOk rfl rfl rfl rfl rfl rfl ?_ | refine O_store tabOk rfl rfl rfl rfl rfl rfl rfl rfl rfl rfl rfl ?_ | refine O_slice tabOk rfl rfl rfl rfl rfl rfl rfl rfl rfl rfl rfl ?_ | refine A_ct rfl ?_ | refine A_cf rfl ?_ | refine A_skip ?_ | refine A_exit ?_ | refine A_ret ?_ | refine X_then_exit ?_ | refine X_then_ret ?_ | refine X_in_same ?_ | refine X_in_other rfl ?_ | refine X_in_ret ?_ | refine O_s rfl rfl rfl ?_ | refine Q_s rfl rfl rfl ?_ | refine O_sn rfl rfl ?_ | refine O_c rfl rfl rfl rfl rfl hck (fun _ => rfl) ?_)
      refine N_begin [1000] mixed ?_
      repeat (first | ((first | apply N_takeN (i := 0) rfl rfl (by kernel_rfl) (by decide +kernel) (by decide +kernel) (by repeat (first | exact np_post | apply np_then | apply np_in)) rfl rfl rfl | apply N_takeN (i := 1) rfl rfl (by kernel_rfl) (by decide +kernel) (by decide +kernel) (by repeat (first | exact np_post | apply np_then | apply np_in)) rfl rfl rfl | apply N_takeN (i := 2) rfl rfl (by kernel_rfl) (by decide +kernel) (by decide +kernel) (by repeat (first | exact np_post | apply np_then | apply np_in)) rfl rfl rfl | apply N_takeN (i := 3) rfl rfl (by kernel_rfl) (by decide +kernel) (by decide +kernel) (by repeat (first | exact np_post | apply np_then | apply np_in)) rfl rfl rfl | apply N_takeN (i := 4) rfl rfl (by kernel_rfl) (by decide +kernel) (by decide +kernel) (by repeat (first | exact np_post | apply np_then | apply np_in)) rfl rfl rfl | apply N_takeN (i := 5) rfl rfl (by kernel_rfl) (by decide +kernel) (by decide +kernel) (by repeat (first | exact np_post | apply np_then | apply np_in)) rfl rfl rfl | apply N_takeN (i := 6) rfl rfl (by kernel_rfl) (by decide +kernel) (by decide +kernel) (by repeat (first | exact np_post | apply np_then | apply np_in)) rfl rfl rfl | apply N_takeN (i := 7) rfl rfl (by kernel_rfl) (by decide +kernel) (by decide +kernel) (by repeat (first | exact np_post | apply np_then | apply np_in)) rfl rfl rfl | apply N_takeN (i := 8) rfl rfl (by kernel_rfl) (by decide +kernel) (by decide +kernel) (by repeat (first | exact np_post | apply np_then | apply np_in)) rfl rfl rfl | apply N_takeN (i := 9) rfl rfl (by kernel_rfl) (by decide +kernel) (by decide +kernel) (by repeat (first | exact np_post | apply np_then | apply np_in)) rfl rfl rfl | apply N_takeN (i := 10) rfl rfl (by kernel_rfl) (by decide +kernel) (by decide +kernel) (by repeat (first | exact np_post | apply np_then | apply np_in)) rfl rfl rfl | apply N_takeN (i := 11) rfl rfl (by kernel_rfl) (by decide +kernel) (by decide +kernel) (by repeat (first | exact np_post | apply np_then | apply np_in)) rfl rfl rfl | apply N_takeN (i := 12) rfl rfl (by kernel_rfl) (by decide +kernel) (by decide +kernel) (by repeat (first | exact np_post | apply np_then | apply np_in)) rfl rfl rfl ); (first | exact Y_move rfl rfl | exact Y_assign rfl rfl | exact R_index tabOk rfl rfl rfl rfl rfl rfl (by omega) | exact R_fieldi tabOk rfl rfl rfl | exact R_loadi tabOk rfl rfl rfl rfl rfl rfl rfl | exact R_len tabOk rfl rfl rfl | exact R_load tabOk rfl rfl rfl rfl rfl rfl rfl rfl rfl | exact R_field tabOk rfl rfl rfl rfl | exact Y_addn rfl rfl rfl | exact Y_subn rfl rfl rfl | exact R_cmpT rfl rfl rfl rfl | exact R_cmpF rfl rfl rfl rfl | exact Y_ibin rfl rfl rfl rfl | exact Y_extract rfl rfl rfl | exact R_lenr tabOk rfl rfl rfl rfl | exact R_lenn tabOk rfl rfl rfl | exact R_indexr tabOk rfl rfl rfl rfl rfl rfl rfl (by omega) | exact R_fielde tabOk rfl rfl rfl rfl | exact R_loade tabOk rfl rfl rfl rfl rfl rfl rfl rfl rfl | exact Y_not rfl rfl | exact Y_pick_t rfl rfl (by first | rfl | assumption) rfl | exact Y_pick_f rfl rfl (by first | rfl | assumption) rfl | exact Y_pick_b rfl rfl rfl rfl | exact R_build tabOk rfl rfl rfl rfl rfl rfl | (first | exact Y_nilCheck rfl rfl rfl | exact R_ixp tabOk rfl rfl rfl rfl rfl rfl rfl hB | exact R_load tabOk rfl rfl rfl rfl rfl rfl (used_get _ _ _ hB) rfl rfl))) | (apply N_takeL (i := 0) rfl rfl (by kernel_rfl) (by decide +kernel) (by decide +kernel) (by repeat (first | exact np_post | apply np_then | apply np_in)) rfl rfl rfl; (first | exact R_loadi tabOk rfl rfl rfl rfl rfl rfl rfl | exact R_len tabOk rfl rfl rfl | exact R_load tabOk rfl rfl rfl rfl rfl rfl rfl rfl rfl | exact R_lenr tabOk rfl rfl rfl rfl | exact R_lenn tabOk rfl rfl rfl | exact R_loade tabOk rfl rfl rfl rfl rfl rfl rfl rfl rfl | (first | exact Y_nilCheck rfl rfl rfl | exact R_ixp tabOk rfl rfl rfl rfl rfl rfl rfl hB | exact R_load tabOk rfl rfl rfl rfl rfl rfl (used_get _ _ _ hB) rfl rfl))) | (apply N_takeL (i := 1) rfl rfl (by kernel_rfl) (by decide +kernel) (by decide +kernel) (by repeat (first | exact np_post | apply np_then | apply np_in)) rfl rfl rfl; (first | exact R_loadi tabOk rfl rfl rfl rfl rfl rfl rfl | exact R_len tabOk rfl rfl rfl | exact R_load tabOk rfl rfl rfl rfl rfl rfl rfl rfl rfl | exact R_lenr tabOk rfl rfl rfl rfl | exact R_lenn tabOk rfl rfl rfl | exact R_loade tabOk rfl rfl rfl rfl rfl rfl rfl rfl rfl | (first | exact Y_nilCheck rfl rfl rfl | exact R_ixp tabOk rfl rfl rfl rfl rfl rfl rfl hB | exact R_load tabOk rfl rfl rfl rfl rfl rfl (used_get _ _ _ hB) rfl rfl))) | (apply N_takeL (i := 2) rfl rfl (by kernel_rfl) (by decide +kernel) (by decide +kernel) (by repeat (first | exact np_post | apply np_then | apply np_in)) rfl rfl rfl; (first | exact R_loadi tabOk rfl rfl rfl rfl rfl rfl rfl | exact R_len tabOk rfl rfl rfl | exact R_load tabOk rfl rfl rfl rfl rfl rfl rfl rfl rfl | exact R_lenr tabOk rfl rfl rfl rfl | exact R_lenn tabOk rfl rfl rfl | exact R_loade tabOk rfl rfl rfl rfl rfl rfl rfl rfl rfl | (first | exact Y_nilCheck rfl rfl rfl | exact R_ixp tabOk rfl rfl rfl rfl rfl rfl rfl hB | exact R_load tabOk rfl rfl rfl rfl rfl rfl (used_get _ _ _ hB) rfl rfl))) | (apply N_takeL (i := 3) rfl rfl (by kernel_rfl) (by decide +kernel) (by decide +kernel) (by repeat (first | exact np_post | apply np_then | apply np_in)) rfl rfl rfl; (first | exact R_loadi tabOk rfl rfl rfl rfl rfl rfl rfl | exact R_len tabOk rfl rfl rfl | exact R_load tabOk rfl rfl rfl rfl rfl rfl rfl rfl rfl | exact R_lenr tabOk rfl rfl rfl rfl | exact R_lenn tabOk rfl rfl rfl | exact R_loade tabOk rfl rfl rfl rfl rfl rfl rfl rfl rfl | (first | exact Y_nilCheck rfl rfl rfl | exact R_ixp tabOk rfl rfl rfl rfl rfl rfl rfl hB | exact R_load tabOk rfl rfl rfl rfl rfl rfl (used_get _ _ _ hB) rfl rfl))) | (apply N_takeL (i := 4) rfl rfl (by kernel_rfl) (by decide +kernel) (by decide +kernel) (by repeat (first | exact np_post | apply np_then | apply np_in)) rfl rfl rfl; (first | exact R_loadi tabOk rfl rfl rfl rfl rfl rfl rfl | exact R_len tabOk rfl rfl rfl | exact R_load tabOk rfl rfl rfl rfl rfl rfl rfl rfl rfl | exact R_lenr tabOk rfl rfl rfl rfl | exact R_lenn tabOk rfl rfl rfl | exact R_loade tabOk rfl rfl rfl rfl rfl rfl rfl rfl rfl | (first | exact Y_nilCheck rfl rfl rfl | exact R_ixp tabOk rfl rfl rfl rfl rfl rfl rfl hB | exact R_load tabOk rfl rfl rfl rfl rfl rfl (used_get _ _ _ hB) rfl rfl))) | (apply N_takeL (i := 5) rfl rfl (by kernel_rfl) (by decide +kernel) (by decide +kernel) (by repeat (first | exact np_post | apply np_then | apply np_in)) rfl rfl rfl; (first | exact R_loadi tabOk rfl rfl rfl rfl rfl rfl rfl | exact R_len tabOk rfl rfl rfl | exact R_load tabOk rfl rfl rfl rfl rfl rfl rfl rfl rfl | exact R_lenr tabOk rfl rfl rfl rfl | exact R_lenn tabOk rfl rfl rfl | exact R_loade tabOk rfl rfl rfl rfl rfl rfl rfl rfl rfl | (first | exact Y_nilCheck rfl rfl rfl | exact R_ixp tabOk rfl rfl rfl rfl rfl rfl rfl hB | exact R_load tabOk rfl rfl rfl rfl rfl rfl (used_get _ _ _ hB) rfl rfl))) | (apply N_takeL (i := 6) rfl rfl (by kernel_rfl) (by decide +kernel) (by decide +kernel) (by repeat (first | exact np_post | apply np_then | apply np_in)) rfl rfl rfl; (first | exact R_loadi tabOk rfl rfl rfl rfl rfl rfl rfl | exact R_len tabOk rfl rfl rfl | exact R_load tabOk rfl rfl rfl rfl rfl rfl rfl rfl rfl | exact R_lenr tabOk rfl rfl rfl rfl | exact R_lenn tabOk rfl rfl rfl | exact R_loade tabOk rfl rfl rfl rfl rfl rfl rfl rfl rfl | (first | exact Y_nilCheck rfl rfl rfl | exact R_ixp tabOk rfl rfl rfl rfl rfl rfl rfl hB | exact R_load tabOk rfl rfl rfl rfl rfl rfl (used_get _ _ _ hB) rfl rfl))) | (apply N_takeL (i := 7) rfl rfl (by kernel_rfl) (by decide +kernel) (by decide +kernel) (by repeat (first | exact np_post | apply np_then | apply np_in)) rfl rfl rfl; (first | exact R_loadi tabOk rfl rfl rfl rfl rfl rfl rfl | exact R_len tabOk rfl rfl rfl | exact R_load tabOk rfl rfl rfl rfl rfl rfl rfl rfl rfl | exact R_lenr tabOk rfl rfl rfl rfl | exact R_lenn tabOk rfl rfl rfl | exact R_loade tabOk rfl rfl rfl rfl rfl rfl rfl rfl rfl | (first | exact Y_nilCheck rfl rfl rfl | exact R_ixp tabOk rfl rfl rfl rfl rfl rfl rfl hB | exact R_load tabOk rfl rfl rfl rfl rfl rfl (used_get _ _ _ hB) rfl rfl))) | (apply N_takeL (i := 8) rfl rfl (by kernel_rfl) (by decide +kernel) (by decide +kernel) (by repeat (first | exact np_post | apply np_then | apply np_in)) rfl rfl rfl; (first | exact R_loadi tabOk rfl rfl rfl rfl rfl rfl rfl | exact R_len tabOk rfl rfl rfl | exact R_load tabOk rfl rfl rfl rfl rfl rfl rfl rfl rfl | exact R_lenr tabOk rfl rfl rfl rfl | exact R_lenn tabOk rfl rfl rfl | exact R_loade tabOk rfl rfl rfl rfl rfl rfl rfl rfl rfl | (first | exact Y_nilCheck rfl rfl rfl | exact R_ixp tabOk rfl rfl rfl rfl rfl rfl rfl hB | exact R_load tabOk rfl rfl rfl rfl rfl rfl (used_get _ _ _ hB) rfl rfl))) | (apply N_takeL (i := 9) rfl rfl (by kernel_rfl) (by decide +kernel) (by decide +kernel) (by repeat (first | exact np_post | apply np_then | apply np_in)) rfl rfl rfl; (first | exact R_loadi tabOk rfl rfl rfl rfl rfl rfl rfl | exact R_len tabOk rfl rfl rfl | exact R_load tabOk rfl rfl rfl rfl rfl rfl rfl rfl rfl | exact R_lenr tabOk rfl rfl rfl rfl | exact R_lenn tabOk rfl rfl rfl | exact R_loade tabOk rfl rfl rfl rfl rfl rfl rfl rfl rfl | (first | exact Y_nilCheck rfl rfl rfl | exact R_ixp tabOk rfl rfl rfl rfl rfl rfl rfl hB | exact R_load tabOk rfl rfl rfl rfl rfl rfl (used_get _ _ _ hB) rfl rfl))) | (apply N_takeL (i := 10) rfl rfl (by kernel_rfl) (by decide +kernel) (by decide +kernel) (by repeat (first | exact np_post | apply np_then | apply np_in)) rfl rfl rfl; (first | exact R_loadi tabOk rfl rfl rfl rfl rfl rfl rfl | exact R_len tabOk rfl rfl rfl | exact R_load tabOk rfl rfl rfl rfl rfl rfl rfl rfl rfl | exact R_lenr tabOk rfl rfl rfl rfl | exact R_lenn tabOk rfl rfl rfl | exact R_loade tabOk rfl rfl rfl rfl rfl rfl rfl rfl rfl | (first | exact Y_nilCheck rfl rfl rfl | exact R_ixp tabOk rfl rfl rfl rfl rfl rfl rfl hB | exact R_load tabOk rfl rfl rfl rfl rfl rfl (used_get _ _ _ hB) rfl rfl))) | (apply N_takeL (i := 11) rfl rfl (by kernel_rfl) (by decide +kernel) (by decide +kernel) (by repeat (first | exact np_post | apply np_then | apply np_in)) rfl rfl rfl; (first | exact R_loadi tabOk rfl rfl rfl rfl rfl rfl rfl | exact R_len tabOk rfl rfl rfl | exact R_load tabOk rfl rfl rfl rfl rfl rfl rfl rfl rfl | exact R_lenr tabOk rfl rfl rfl rfl | exact R_lenn tabOk rfl rfl rfl | exact R_loade tabOk rfl rfl rfl rfl rfl rfl rfl rfl rfl | (first | exact Y_nilCheck rfl rfl rfl | exact R_ixp tabOk rfl rfl rfl rfl rfl rfl rfl hB | exact R_load tabOk rfl rfl rfl rfl rfl rfl (used_get _ _ _ hB) rfl rfl))) | (apply N_takeL (i := 12) rfl rfl (by kernel_rfl) (by decide +kernel) (by decide +kernel) (by repeat (first | exact np_post | apply np_then | apply np_in)) rfl rfl rfl; (first | exact R_loadi tabOk rfl rfl rfl rfl rfl rfl rfl | exact R_len tabOk rfl rfl rfl | exact R_load tabOk rfl rfl rfl rfl rfl rfl rfl rfl rfl | exact R_lenr tabOk rfl rfl rfl rfl | exact R_lenn tabOk rfl rfl rfl | exact R_loade tabOk rfl rfl rfl rfl rfl rfl rfl rfl rfl | (first | exact Y_nilCheck rfl rfl rfl | exact R_ixp tabOk rfl rfl rfl rfl rfl rfl rfl hB | exact R_load tabOk rfl rfl rfl rfl rfl rfl (used_get _ _ _ hB) rfl rfl))) | refine N_one (j := 0) (by decide +kernel) ?_ | refine N_one (j := 1) (by decide +kernel) ?_ | refine N_one (j := 2) (by decide +kernel) ?_ | refine N_one (j := 3) (by decide +kernel) ?_ | refine N_one (j := 4) (by decide +kernel) ?_ | refine N_one (j := 5) (by decide +kernel) ?_ | refine N_one (j := 6) (by decide +kernel) ?_ | refine N_one (j := 7) (by decide +kernel) ?_ | refine N_one (j := 8) (by decide +kernel) ?_ | refine N_one (j := 9) (by decide +kernel) ?_ | refine N_one (j := 10) (by decide +kernel) ?_ | refine N_one (j := 11) (by decide +kernel) ?_ | refine N_one (j := 12) (by decide +kernel) ?_ | refine T_alloc tabOk rfl rfl rfl rfl rfl rfl rfl ?_ | refine T_store tabOk rfl rfl rfl rfl rfl rfl rfl rfl rfl rfl rfl rfl rfl ?_ | refine T_box rfl rfl rfl rfl rfl rfl rfl rfl ?_ | (apply T_yield rfl rfl rfl rfl; (first | exact Y_move rfl rfl | exact Y_assign rfl rfl | exact R_index tabOk rfl rfl rfl rfl rfl rfl (by omega) | exact R_fieldi tabOk rfl rfl rfl | exact R_loadi tabOk rfl rfl rfl rfl rfl rfl rfl | exact R_len tabOk rfl rfl rfl | exact R_load tabOk rfl rfl rfl rfl rfl rfl rfl rfl rfl | exact R_field tabOk rfl rfl rfl rfl | exact Y_addn rfl rfl rfl | exact Y_subn rfl rfl rfl | exact R_cmpT rfl rfl rfl rfl | exact R_cmpF rfl rfl rfl rfl | exact Y_ibin rfl rfl rfl rfl | exact Y_extract rfl rfl rfl | exact R_lenr tabOk rfl rfl rfl rfl | exact R_lenn tabOk rfl rfl rfl | exact R_indexr tabOk rfl rfl rfl rfl rfl rfl rfl (by omega) | exact R_fielde tabOk rfl rfl rfl rfl | exact R_loade tabOk rfl rfl rfl rfl rfl rfl rfl rfl rfl | exact Y_not rfl rfl | exact Y_pick_t rfl rfl (by first | rfl | assumption) rfl | exact Y_pick_f rfl rfl (by first | rfl | assumption) rfl | exact Y_pick_b rfl rfl rfl rfl | exact R_build tabOk rfl rfl rfl rfl rfl rfl | (first | exact Y_nilCheck rfl rfl rfl | exact R_ixp tabOk rfl rfl rfl rfl rfl rfl rfl hB | exact R_load tabOk rfl rfl rfl rfl rfl rfl (used_get _ _ _ hB) rfl rfl))) | refine N_done (by decide +kernel) ?_ | (refine T_storeS tabOk rfl rfl rfl rfl rfl rfl rfl rfl rfl rfl rfl rfl (by simp [usedA]; omega) ?_))
      repeat (first | refine A_seq ?_ | refine A_block ?_ | refine R_list ?_ | refine R_quiet rfl mixed (by kernel_rfl) ?_ | ((first | apply O_y rfl rfl rfl | apply Q_y rfl rfl rfl); (first | exact Y_move rfl rfl | exact Y_assign rfl rfl | exact R_index tabOk rfl rfl rfl rfl rfl rfl (by omega) | exact R_fieldi tabOk rfl rfl rfl | exact R_loadi tabOk rfl rfl rfl rfl rfl rfl rfl | exact R_len tabOk rfl rfl rfl | exact R_load tabOk rfl rfl rfl rfl rfl rfl rfl rfl rfl | exact R_field tabOk rfl rfl rfl rfl | exact Y_addn rfl rfl rfl | exact Y_subn rfl rfl rfl | exact R_cmpT rfl rfl rfl rfl | exact R_cmpF rfl rfl rfl rfl | exact Y_ibin rfl rfl rfl rfl | exact Y_extract rfl rfl rfl | exact R_lenr tabOk rfl rfl rfl rfl | exact R_lenn tabOk rfl rfl rfl | exact R_indexr tabOk rfl rfl rfl rfl rfl rfl rfl (by omega) | exact R_fielde tabOk rfl rfl rfl rfl | exact R_loade tabOk rfl rfl rfl rfl rfl rfl rfl rfl rfl | exact Y_not rfl rfl | exact Y_pick_t rfl rfl (by first | rfl | assumption) rfl | exact Y_pick_f rfl rfl (by first | rfl | assumption) rfl | exact Y_pick_b rfl rfl rfl rfl | exact R_build tabOk rfl rfl rfl rfl rfl rfl | fail)) | refine O_nil ?_ | refine Q_nil ?_ | refine X_then_normal ?_ | refine X_in_normal ?_ | refine O_box rfl rfl rfl rfl rfl rfl rfl ?_ | refine O_alloc tabOk rfl rfl rfl rfl rfl rfl ?_ | refine O_store tabOk rfl rfl rfl rfl rfl rfl rfl rfl rfl rfl rfl ?_ | refine O_slice tabOk rfl rfl rfl rfl rfl rfl rfl rfl rfl rfl rfl ?_ | refine A_ct rfl ?_ | refine A_cf rfl ?_ | refine A_skip ?_ | refine A_exit ?_ | refine A_ret ?_ | refine X_then_exit ?_ | refine X_then_ret ?_ | refine X_in_same ?_ | refine X_in_other rfl ?_ | refine X_in_ret ?_ | refine O_s rfl rfl rfl ?_ | refine Q_s rfl rfl rfl ?_ | refine O_sn rfl rfl ?_ | fail)
      refine A_weaken (Wk_sel (e1 := [(0, .ptr 1000 0), (2, intA v), (4, .ptr 4 0)]) (h1 := [(4, .var [.d (.sc (.int .u32 a)), .d (.sc (.int .i64 (B : Int)))]), (1000, tblB 1001 (bump u B 1)), (1001, mapB l)]) ⟨rfl, rfl, rfl, trivial⟩ ⟨rfl, var_eq (used_set 1001 u B 1 hB) rfl, rfl, trivial⟩) ?_
      refine N_begin [1001] mixed ?_
      repeat (first | ((first | apply N_takeN (i := 0) rfl rfl (by kernel_rfl) (by decide +kernel) (by decide +kernel) (by repeat (first | exact np_post | apply np_then | apply np_in)) rfl rfl rfl | apply N_takeN (i := 1) rfl rfl (by kernel_rfl) (by decide +kernel) (by decide +kernel) (by repeat (first | exact np_post | apply np_then | apply np_in)) rfl rfl rfl | apply N_takeN (i := 2) rfl rfl (by kernel_rfl) (by decide +kernel) (by decide +kernel) (by repeat (first | exact np_post | apply np_then | apply np_in)) rfl rfl rfl | apply N_takeN (i := 3) rfl rfl (by kernel_rfl) (by decide +kernel) (by decide +kernel) (by repeat (first | exact np_post | apply np_then | apply np_in)) rfl rfl rfl | apply N_takeN (i := 4) rfl rfl (by kernel_rfl) (by decide +kernel) (by decide +kernel) (by repeat (first | exact np_post | apply np_then | apply np_in)) rfl rfl rfl | apply N_takeN (i := 5) rfl rfl (by kernel_rfl) (by decide +kernel) (by decide +kernel) (by repeat (first | exact np_post | apply np_then | apply np_in)) rfl rfl rfl | apply N_takeN (i := 6) rfl rfl (by kernel_rfl) (by decide +kernel) (by decide +kernel) (by repeat (first | exact np_post | apply np_then | apply np_in)) rfl rfl rfl | apply N_takeN (i := 7) rfl rfl (by kernel_rfl) (by decide +kernel) (by decide +kernel) (by repeat (first | exact np_post | apply np_then | apply np_in)) rfl rfl rfl | apply N_takeN (i := 8) rfl rfl (by kernel_rfl) (by decide +kernel) (by decide +kernel) (by repeat (first | exact np_post | apply np_then | apply np_in)) rfl rfl rfl | apply N_takeN (i := 9) rfl rfl (by kernel_rfl) (by decide +kernel) (by decide +kernel) (by repeat (first | exact np_post | apply np_then | apply np_in)) rfl rfl rfl | apply N_takeN (i := 10) rfl rfl (by kernel_rfl) (by decide +kernel) (by decide +kernel) (by repeat (first | exact np_post | apply np_then | apply np_in)) rfl rfl rfl | apply N_takeN (i := 11) rfl rfl (by kernel_rfl) (by decide +kernel) (by decide +kernel) (by repeat (first | exact np_post | apply np_then | apply np_in)) rfl rfl rfl | apply N_takeN (i := 12) rfl rfl (by kernel_rfl) (by decide +kernel) (by decide +kernel) (by repeat (first | exact np_post | apply np_then | apply np_in)) rfl rfl rfl ); (first | exact Y_move rfl rfl | exact Y_assign rfl rfl | exact R_index tabOk rfl rfl rfl rfl rfl rfl (by omega) | exact R_fieldi tabOk rfl rfl rfl | exact R_loadi tabOk rfl rfl rfl rfl rfl rfl rfl | exact R_len tabOk rfl rfl rfl | exact R_load tabOk rfl rfl rfl rfl rfl rfl rfl rfl rfl | exact R_field tabOk rfl rfl rfl rfl | exact Y_addn rfl rfl rfl | exact Y_subn rfl rfl rfl | exact R_cmpT rfl rfl rfl rfl | exact R_cmpF rfl rfl rfl rfl | exact Y_ibin rfl rfl rfl rfl | exact Y_extract rfl rfl rfl | exact R_lenr tabOk rfl rfl rfl rfl | exact R_lenn tabOk rfl rfl rfl | exact R_indexr tabOk rfl rfl rfl rfl rfl rfl rfl (by omega) | exact R_fielde tabOk rfl rfl rfl rfl | exact R_loade tabOk rfl rfl rfl rfl rfl rfl rfl rfl rfl | exact Y_not rfl rfl | exact Y_pick_t rfl rfl (by first | rfl | assumption) rfl | exact Y_pick_f rfl rfl (by first | rfl | assumption) rfl | exact Y_pick_b rfl rfl rfl rfl | exact R_build tabOk rfl rfl rfl rfl rfl rfl | (first | exact Y_nilCheck rfl rfl rfl))) | (apply N_takeL (i := 0) rfl rfl (by kernel_rfl) (by decide +kernel) (by decide +kernel) (by repeat (first | exact np_post | apply np_then | apply np_in)) rfl rfl rfl; (first | exact R_loadi tabOk rfl rfl rfl rfl rfl rfl rfl | exact R_len tabOk rfl rfl rfl | exact R_load tabOk rfl rfl rfl rfl rfl rfl rfl rfl rfl | exact R_lenr tabOk rfl rfl rfl rfl | exact R_lenn tabOk rfl rfl rfl | exact R_loade tabOk rfl rfl rfl rfl rfl rfl rfl rfl rfl | (first | exact Y_nilCheck rfl rfl rfl))) | (apply N_takeL (i := 1) rfl rfl (by kernel_rfl) (by decide +kernel) (by decide +kernel) (by repeat (first | exact np_post | apply np_then | apply np_in)) rfl rfl rfl; (first | exact R_loadi tabOk rfl rfl rfl rfl rfl rfl rfl | exact R_len tabOk rfl rfl rfl | exact R_load tabOk rfl rfl rfl rfl rfl rfl rfl rfl rfl | exact R_lenr tabOk rfl rfl rfl rfl | exact R_lenn tabOk rfl rfl rfl | exact R_loade tabOk rfl rfl rfl rfl rfl rfl rfl rfl rfl | (first | exact Y_nilCheck rfl rfl rfl))) | (apply N_takeL (i := 2) rfl rfl (by kernel_rfl) (by decide +kernel) (by decide +kernel) (by repeat (first | exact np_post | apply np_then | apply np_in)) rfl rfl rfl; (first | exact R_loadi tabOk rfl rfl rfl rfl rfl rfl rfl | exact R_len tabOk rfl rfl rfl | exact R_load tabOk rfl rfl rfl rfl rfl rfl rfl rfl rfl | exact R_lenr tabOk rfl rfl rfl rfl | exact R_lenn tabOk rfl rfl rfl | exact R_loade tabOk rfl rfl rfl rfl rfl rfl rfl rfl rfl | (first | exact Y_nilCheck rfl rfl rfl))) | (apply N_takeL (i := 3) rfl rfl (by kernel_rfl) (by decide +kernel) (by decide +kernel) (by repeat (first | exact np_post | apply np_then | apply np_in)) rfl rfl rfl; (first | exact R_loadi tabOk rfl rfl rfl rfl rfl rfl rfl | exact R_len tabOk rfl rfl rfl | exact R_load tabOk rfl rfl rfl rfl rfl rfl rfl rfl rfl | exact R_lenr tabOk rfl rfl rfl rfl | exact R_lenn tabOk rfl rfl rfl | exact R_loade tabOk rfl rfl rfl rfl rfl rfl rfl rfl rfl | (first | exact Y_nilCheck rfl rfl rfl))) | (apply N_takeL (i := 4) rfl rfl (by kernel_rfl) (by decide +kernel) (by decide +kernel) (by repeat (first | exact np_post | apply np_then | apply np_in)) rfl rfl rfl; (first | exact R_loadi tabOk rfl rfl rfl rfl rfl rfl rfl | exact R_len tabOk rfl rfl rfl | exact R_load tabOk rfl rfl rfl rfl rfl rfl rfl rfl rfl | exact R_lenr tabOk rfl rfl rfl rfl | exact R_lenn tabOk rfl rfl rfl | exact R_loade tabOk rfl rfl rfl rfl rfl rfl rfl rfl rfl | (first | exact Y_nilCheck rfl rfl rfl))) | (apply N_takeL (i := 5) rfl rfl (by kernel_rfl) (by decide +kernel) (by decide +kernel) (by repeat (first | exact np_post | apply np_then | apply np_in)) rfl rfl rfl; (first | exact R_loadi tabOk rfl rfl rfl rfl rfl rfl rfl | exact R_len tabOk rfl rfl rfl | exact R_load tabOk rfl rfl rfl rfl rfl rfl rfl rfl rfl | exact R_lenr tabOk rfl rfl rfl rfl | exact R_lenn tabOk rfl rfl rfl | exact R_loade tabOk rfl rfl rfl rfl rfl rfl rfl rfl rfl | (first | exact Y_nilCheck rfl rfl rfl))) | (apply N_takeL (i := 6) rfl rfl (by kernel_rfl) (by decide +kernel) (by decide +kernel) (by repeat (first | exact np_post | apply np_then | apply np_in)) rfl rfl rfl; (first | exact R_loadi tabOk rfl rfl rfl rfl rfl rfl rfl | exact R_len tabOk rfl rfl rfl | exact R_load tabOk rfl rfl rfl rfl rfl rfl rfl rfl rfl | exact R_lenr tabOk rfl rfl rfl rfl | exact R_lenn tabOk rfl rfl rfl | exact R_loade tabOk rfl rfl rfl rfl rfl rfl rfl rfl rfl | (first | exact Y_nilCheck rfl rfl rfl))) | (apply N_takeL (i := 7) rfl rfl (by kernel_rfl) (by decide +kernel) (by decide +kernel) (by repeat (first | exact np_post | apply np_then | apply np_in)) rfl rfl rfl; (first | exact R_loadi tabOk rfl rfl rfl rfl rfl rfl rfl | exact R_len tabOk rfl rfl rfl | exact R_load tabOk rfl rfl rfl rfl rfl rfl rfl rfl rfl | exact R_lenr tabOk rfl rfl rfl rfl | exact R_lenn tabOk rfl rfl rfl | exact R_loade tabOk rfl rfl rfl rfl rfl rfl rfl rfl rfl | (first | exact Y_nilCheck rfl rfl rfl))) | (apply N_takeL (i := 8) rfl rfl (by kernel_rfl) (by decide +kernel) (by decide +kernel) (by repeat (first | exact np_post | apply np_then | apply np_in)) rfl rfl rfl; (first | exact R_loadi tabOk rfl rfl rfl rfl rfl rfl rfl | exact R_len tabOk rfl rfl rfl | exact R_load tabOk rfl rfl rfl rfl rfl rfl rfl rfl rfl | exact R_lenr tabOk rfl rfl rfl rfl | exact R_lenn tabOk rfl rfl rfl | exact R_loade tabOk rfl rfl rfl rfl rfl rfl rfl rfl rfl | (first | exact Y_nilCheck rfl rfl rfl))) | (apply N_takeL (i := 9) rfl rfl (by kernel_rfl) (by decide +kernel) (by decide +kernel) (by repeat (first | exact np_post | apply np_then | apply np_in)) rfl rfl rfl; (first | exact R_loadi tabOk rfl rfl rfl rfl rfl rfl rfl | exact R_len tabOk rfl rfl rfl | exact R_load tabOk rfl rfl rfl rfl rfl rfl rfl rfl rfl | exact R_lenr tabOk rfl rfl rfl rfl | exact R_lenn tabOk rfl rfl rfl | exact R_loade tabOk rfl rfl rfl rfl rfl rfl rfl rfl rfl | (first | exact Y_nilCheck rfl rfl rfl))) | (apply N_takeL (i := 10) rfl rfl (by kernel_rfl) (by decide +kernel) (by decide +kernel) (by repeat (first | exact np_post | apply np_then | apply np_in)) rfl rfl rfl; (first | exact R_loadi tabOk rfl rfl rfl rfl rfl rfl rfl | exact R_len tabOk rfl rfl rfl | exact R_load tabOk rfl rfl rfl rfl rfl rfl rfl rfl rfl | exact R_lenr tabOk rfl rfl rfl rfl | exact R_lenn tabOk rfl rfl rfl | exact R_loade tabOk rfl rfl rfl rfl rfl rfl rfl rfl rfl | (first | exact Y_nilCheck rfl rfl rfl))) | (apply N_takeL (i := 11) rfl rfl (by kernel_rfl) (by decide +kernel) (by decide +kernel) (by repeat (first | exact np_post | apply np_then | apply np_in)) rfl rfl rfl; (first | exact R_loadi tabOk rfl rfl rfl rfl rfl rfl rfl | exact R_len tabOk rfl rfl rfl | exact R_load tabOk rfl rfl rfl rfl rfl rfl rfl rfl rfl | exact R_lenr tabOk rfl rfl rfl rfl | exact R_lenn tabOk rfl rfl rfl | exact R_loade tabOk rfl rfl rfl rfl rfl rfl rfl rfl rfl | (first | exact Y_nilCheck rfl rfl rfl))) | (apply N_takeL (i := 12) rfl rfl (by kernel_rfl) (by decide +kernel) (by decide +kernel) (by repeat (first | exact np_post | apply np_then | apply np_in)) rfl rfl rfl; (first | exact R_loadi tabOk rfl rfl rfl rfl rfl rfl rfl | exact R_len tabOk rfl rfl rfl | exact R_load tabOk rfl rfl rfl rfl rfl rfl rfl rfl rfl | exact R_lenr tabOk rfl rfl rfl rfl | exact R_lenn tabOk rfl rfl rfl | exact R_loade tabOk rfl rfl rfl rfl rfl rfl rfl rfl rfl | (first | exact Y_nilCheck rfl rfl rfl))) | refine N_one (j := 0) (by decide +kernel) ?_ | refine N_one (j := 1) (by decide +kernel) ?_ | refine N_one (j := 2) (by decide +kernel) ?_ | refine N_one (j := 3) (by decide +kernel) ?_ | refine N_one (j := 4) (by decide +kernel) ?_ | refine N_one (j := 5) (by decide +kernel) ?_ | refine N_one (j := 6) (by decide +kernel) ?_ | refine N_one (j := 7) (by decide +kernel) ?_ | refine N_one (j := 8) (by decide +kernel) ?_ | refine N_one (j := 9) (by decide +kernel) ?_ | refine N_one (j := 10) (by decide +kernel) ?_ | refine N_one (j := 11) (by decide +kernel) ?_ | refine N_one (j := 12) (by decide +kernel) ?_ | refine T_alloc tabOk rfl rfl rfl rfl rfl rfl rfl ?_ | refine T_store tabOk rfl rfl rfl rfl rfl rfl rfl rfl rfl rfl rfl rfl rfl ?_ | refine T_box rfl rfl rfl rfl rfl rfl rfl rfl ?_ | (apply T_yield rfl rfl rfl rfl; (first | exact Y_move rfl rfl | exact Y_assign rfl rfl | exact R_index tabOk rfl rfl rfl rfl rfl rfl (by omega) | exact R_fieldi tabOk rfl rfl rfl | exact R_loadi tabOk rfl rfl rfl rfl rfl rfl rfl | exact R_len tabOk rfl rfl rfl | exact R_load tabOk rfl rfl rfl rfl rfl rfl rfl rfl rfl | exact R_field tabOk rfl rfl rfl rfl | exact Y_addn rfl rfl rfl | exact Y_subn rfl rfl rfl | exact R_cmpT rfl rfl rfl rfl | exact R_cmpF rfl rfl rfl rfl | exact Y_ibin rfl rfl rfl rfl | exact Y_extract rfl rfl rfl | exact R_lenr tabOk rfl rfl rfl rfl | exact R_lenn tabOk rfl rfl rfl | exact R_indexr tabOk rfl rfl rfl rfl rfl rfl rfl (by omega) | exact R_fielde tabOk rfl rfl rfl rfl | exact R_loade tabOk rfl rfl rfl rfl rfl rfl rfl rfl rfl | exact Y_not rfl rfl | exact Y_pick_t rfl rfl (by first | rfl | assumption) rfl | exact Y_pick_f rfl rfl (by first | rfl | assumption) rfl | exact Y_pick_b rfl rfl rfl rfl | exact R_build tabOk rfl rfl rfl rfl rfl rfl | (first | exact Y_nilCheck rfl rfl rfl))) | refine N_done (by decide +kernel) ?_ | (refine T_upd (k := ⟨a, (B : Int)⟩) (xa := intA) (q := v) pfxKey pfxA_val pfxA_rel trivial (fun _ _ => trivial) hn tabOk rfl rfl rfl rfl rfl rfl rfl rfl rfl rfl ?_))
      repeat (first | refine A_seq ?_ | refine A_block ?_ | refine R_list ?_ | refine R_quiet rfl mixed (by kernel_rfl) ?_ | ((first | apply O_y rfl rfl rfl | apply Q_y rfl rfl rfl); (first | exact Y_move rfl rfl | exact Y_assign rfl rfl | exact R_index tabOk rfl rfl rfl rfl rfl rfl (by omega) | exact R_fieldi tabOk rfl rfl rfl | exact R_loadi tabOk rfl rfl rfl rfl rfl rfl rfl | exact R_len tabOk rfl rfl rfl | exact R_load tabOk rfl rfl rfl rfl rfl rfl rfl rfl rfl | exact R_field tabOk rfl rfl rfl rfl | exact Y_addn rfl rfl rfl | exact Y_subn rfl rfl rfl | exact R_cmpT rfl rfl rfl rfl | exact R_cmpF rfl rfl rfl rfl | exact Y_ibin rfl rfl rfl rfl | exact Y_extract rfl rfl rfl | exact R_lenr tabOk rfl rfl rfl rfl | exact R_lenn tabOk rfl rfl rfl | exact R_indexr tabOk rfl rfl rfl rfl rfl rfl rfl (by omega) | exact R_fielde tabOk rfl rfl rfl rfl | exact R_loade tabOk rfl rfl rfl rfl rfl rfl rfl rfl rfl | exact Y_not rfl rfl | exact Y_pick_t rfl rfl (by first | rfl | assumption) rfl | exact Y_pick_f rfl rfl (by first | rfl | assumption) rfl | exact Y_pick_b rfl rfl rfl rfl | exact R_build tabOk rfl rfl rfl rfl rfl rfl | fail)) | refine O_nil ?_ | refine Q_nil ?_ | refine X_then_normal ?_ | refine X_in_normal ?_ | refine O_box rfl rfl rfl rfl rfl rfl rfl ?_ | refine O_alloc tabOk rfl rfl rfl rfl rfl rfl ?_ | refine O_store tabOk rfl rfl rfl rfl rfl rfl rfl rfl rfl rfl rfl ?_ | refine O_slice tabOk rfl rfl rfl rfl rfl rfl rfl rfl rfl rfl rfl ?_ | refine A_ct rfl ?_ | refine A_cf rfl ?_ | refine A_skip ?_ | refine A_exit ?_ | refine A_ret ?_ | refine X_then_exit ?_ | refine X_then_ret ?_ | refine X_in_same ?_ | refine X_in_other rfl ?_ | refine X_in_ret ?_ | refine O_s rfl rfl rfl ?_ | refine Q_s rfl rfl rfl ?_ | refine O_sn rfl rfl ?_ | fail)
      exact X_retW AWk.refl rfl (h2 := [(1000, tblB 1001 (bump u B 1)), (1001, mapB (Go.Proofs.Ytaecjmjdhbjbkaa.aput l ⟨a, (B : Int)⟩ v))]) ⟨rfl, rfl, trivial⟩ ⟨rfl, rfl⟩
    | some x =>
      repeat (first | refine A_seq ?_ | refine A_block ?_ | refine R_list ?_ | refine R_quiet rfl mixed (by kernel_rfl) ?_ | ((first | apply O_y rfl rfl rfl | apply Q_y rfl rfl rfl); (first | exact Y_move rfl rfl | exact Y_assign rfl rfl | exact R_index tabOk rfl rfl rfl rfl rfl rfl (by omega) | exact R_fieldi tabOk rfl rfl rfl | exact R_loadi tabOk rfl rfl rfl rfl rfl rfl rfl | exact R_len tabOk rfl rfl rfl | exact R_load tabOk rfl rfl rfl rfl rfl rfl rfl rfl rfl | exact R_field tabOk rfl rfl rfl rfl | exact Y_addn rfl rfl rfl | exact Y_subn rfl rfl rfl | exact R_cmpT rfl rfl rfl rfl | exact R_cmpF rfl rfl rfl rfl | exact Y_ibin rfl rfl rfl rfl | exact Y_extract rfl rfl rfl | exact R_lenr tabOk rfl rfl rfl rfl | exact R_lenn tabOk rfl rfl rfl | exact R_indexr tabOk rfl rfl rfl rfl rfl rfl rfl (by omega) | exact R_fielde tabOk rfl rfl rfl rfl | exact R_loade tabOk rfl rfl rfl rfl rfl rfl rfl rfl rfl | exact Y_not rfl rfl | exact Y_pick_t rfl rfl (by first | rfl | assumption) rfl | exact Y_pick_f rfl rfl (by first | rfl | assumption) rfl | exact Y_pick_b rfl rfl rfl rfl | exact R_build tabOk rfl rfl rfl rfl rfl rfl | (first | exact R_pnil tabOk rfl rfl rfl rfl rfl | exact Y_nilCheck rfl rfl rfl | exact R_lkIn pfxKey pfxA_val zeroInt trivial (fun _ _ => trivial) hn hag tabOk rfl rfl rfl rfl rfl rfl))) | refine O_nil ?_ | refine Q_nil ?_ | refine X_then_normal ?_ | refine X_in_normal ?_ | refine O_box rfl rfl rfl rfl rfl rfl rfl ?_ | refine O_alloc tabOk rfl rfl rfl rfl rfl rfl ?_ | refine O_store tabOk rfl rfl rfl rfl rfl rfl rfl rfl rfl rfl rfl ?_ | refine O_slice tabOk rfl rfl rfl rfl rfl rfl rfl rfl rfl rfl rfl ?_ | refine A_ct rfl ?_ | refine A_cf rfl ?_ | refine A_skip ?_ | refine A_exit ?_ | refine A_ret ?_ | refine X_then_exit ?_ | refine X_then_ret ?_ | refine X_in_same ?_ | refine X_in_other rfl ?_ | refine X_in_ret ?_ | refine O_s rfl rfl rfl ?_ | refine Q_s rfl rfl rfl ?_ | refine O_sn rfl rfl ?_ | refine O_c rfl rfl rfl rfl rfl hck (fun _ => rfl) ?_)
      refine N_begin [1001] mixed ?_
      repeat (first | ((first | apply N_takeN (i := 0) rfl rfl (by kernel_rfl) (by decide +kernel) (by decide +kernel) (by repeat (first | exact np_post | apply np_then | apply np_in)) rfl rfl rfl | apply N_takeN (i := 1) rfl rfl (by kernel_rfl) (by decide +kernel) (by decide +kernel) (by repeat (first | exact np_post | apply np_then | apply np_in)) rfl rfl rfl | apply N_takeN (i := 2) rfl rfl (by kernel_rfl) (by decide +kernel) (by decide +kernel) (by repeat (first | exact np_post | apply np_then | apply np_in)) rfl rfl rfl | apply N_takeN (i := 3) rfl rfl (by kernel_rfl) (by decide +kernel) (by decide +kernel) (by repeat (first | exact np_post | apply np_then | apply np_in)) rfl rfl rfl | apply N_takeN (i := 4) rfl rfl (by kernel_rfl) (by decide +kernel) (by decide +kernel) (by repeat (first | exact np_post | apply np_then | apply np_in)) rfl rfl rfl | apply N_takeN (i := 5) rfl rfl (by kernel_rfl) (by decide +kernel) (by decide +kernel) (by repeat (first | exact np_post | apply np_then | apply np_in)) rfl rfl rfl | apply N_takeN (i := 6) rfl rfl (by kernel_rfl) (by decide +kernel) (by decide +kernel) (by repeat (first | exact np_post | apply np_then | apply np_in)) rfl rfl rfl | apply N_takeN (i := 7) rfl rfl (by kernel_rfl) (by decide +kernel) (by decide +kernel) (by repeat (first | exact np_post | apply np_then | apply np_in)) rfl rfl rfl | apply N_takeN (i := 8) rfl rfl (by kernel_rfl) (by decide +kernel) (by decide +kernel) (by repeat (first | exact np_post | apply np_then | apply np_in)) rfl rfl rfl | apply N_takeN (i := 9) rfl rfl (by kernel_rfl) (by decide +kernel) (by decide +kernel) (by repeat (first | exact np_post | apply np_then | apply np_in)) rfl rfl rfl | apply N_takeN (i := 10) rfl rfl (by kernel_rfl) (by decide +kernel) (by decide +kernel) (by repeat (first | exact np_post | apply np_then | apply np_in)) rfl rfl rfl | apply N_takeN (i := 11) rfl rfl (by kernel_rfl) (by decide +kernel) (by decide +kernel) (by repeat (first | exact np_post | apply np_then | apply np_in)) rfl rfl rfl | apply N_takeN (i := 12) rfl rfl (by kernel_rfl) (by decide +kernel) (by decide +kernel) (by repeat (first | exact np_post | apply np_then | apply np_in)) rfl rfl rfl ); (first | exact Y_move rfl rfl | exact Y_assign rfl rfl | exact R_index tabOk rfl rfl rfl rfl rfl rfl (by omega) | exact R_fieldi tabOk rfl rfl rfl | exact R_loadi tabOk rfl rfl rfl rfl rfl rfl rfl | exact R_len tabOk rfl rfl rfl | exact R_load tabOk rfl rfl rfl rfl rfl rfl rfl rfl rfl | exact R_field tabOk rfl rfl rfl rfl | exact Y_addn rfl rfl rfl | exact Y_subn rfl rfl rfl | exact R_cmpT rfl rfl rfl rfl | exact R_cmpF rfl rfl rfl rfl | exact Y_ibin rfl rfl rfl rfl | exact Y_extract rfl rfl rfl | exact R_lenr tabOk rfl rfl rfl rfl | exact R_lenn tabOk rfl rfl rfl | exact R_indexr tabOk rfl rfl rfl rfl rfl rfl rfl (by omega) | exact R_fielde tabOk rfl rfl rfl rfl | exact R_loade tabOk rfl rfl rfl rfl rfl rfl rfl rfl rfl | exact Y_not rfl rfl | exact Y_pick_t rfl rfl (by first | rfl | assumption) rfl | exact Y_pick_f rfl rfl (by first | rfl | assumption) rfl | exact Y_pick_b rfl rfl rfl rfl | exact R_build tabOk rfl rfl rfl rfl rfl rfl | (first | exact Y_nilCheck rfl rfl rfl))) | (apply N_takeL (i := 0) rfl rfl (by kernel_rfl) (by decide +kernel) (by decide +kernel) (by repeat (first | exact np_post | apply np_then | apply np_in)) rfl rfl rfl; (first | exact R_loadi tabOk rfl rfl rfl rfl rfl rfl rfl | exact R_len tabOk rfl rfl rfl | exact R_load tabOk rfl rfl rfl rfl rfl rfl rfl rfl rfl | exact R_lenr tabOk rfl rfl rfl rfl | exact R_lenn tabOk rfl rfl rfl | exact R_loade tabOk rfl rfl rfl rfl rfl rfl rfl rfl rfl | (first | exact Y_nilCheck rfl rfl rfl))) | (apply N_takeL (i := 1) rfl rfl (by kernel_rfl) (by decide +kernel) (by decide +kernel) (by repeat (first | exact np_post | apply np_then | apply np_in)) rfl rfl rfl; (first | exact R_loadi tabOk rfl rfl rfl rfl rfl rfl rfl | exact R_len tabOk rfl rfl rfl | exact R_load tabOk rfl rfl rfl rfl rfl rfl rfl rfl rfl | exact R_lenr tabOk rfl rfl rfl rfl | exact R_lenn tabOk rfl rfl rfl | exact R_loade tabOk rfl rfl rfl rfl rfl rfl rfl rfl rfl | (first | exact Y_nilCheck rfl rfl rfl))) | (apply N_takeL (i := 2) rfl rfl (by kernel_rfl) (by decide +kernel) (by decide +kernel) (by repeat (first | exact np_post | apply np_then | apply np_in)) rfl rfl rfl; (first | exact R_loadi tabOk rfl rfl rfl rfl rfl rfl rfl | exact R_len tabOk rfl rfl rfl | exact R_load tabOk rfl rfl rfl rfl rfl rfl rfl rfl rfl | exact R_lenr tabOk rfl rfl rfl rfl | exact R_lenn tabOk rfl rfl rfl | exact R_loade tabOk rfl rfl rfl rfl rfl rfl rfl rfl rfl | (first | exact Y_nilCheck rfl rfl rfl))) | (apply N_takeL (i := 3) rfl rfl (by kernel_rfl) (by decide +kernel) (by decide +kernel) (by repeat (first | exact np_post | apply np_then | apply np_in)) rfl rfl rfl; (first | exact R_loadi tabOk rfl rfl rfl rfl rfl rfl rfl | exact R_len tabOk rfl rfl rfl | exact R_load tabOk rfl rfl rfl rfl rfl rfl rfl rfl rfl | exact R_lenr tabOk rfl rfl rfl rfl | exact R_lenn tabOk rfl rfl rfl | exact R_loade tabOk rfl rfl rfl rfl rfl rfl rfl rfl rfl | (first | exact Y_nilCheck rfl rfl rfl))) | (apply N_takeL (i := 4) rfl rfl (by kernel_rfl) (by decide +kernel) (by decide +kernel) (by repeat (first | exact np_post | apply np_then | apply np_in)) rfl rfl rfl; (first | exact R_loadi tabOk rfl rfl rfl rfl rfl rfl rfl | exact R_len tabOk rfl rfl rfl | exact R_load tabOk rfl rfl rfl rfl rfl rfl rfl rfl rfl | exact R_lenr tabOk rfl rfl rfl rfl | exact R_lenn tabOk rfl rfl rfl | exact R_loade tabOk rfl rfl rfl rfl rfl rfl rfl rfl rfl | (first | exact Y_nilCheck rfl rfl rfl))) | (apply N_takeL (i := 5) rfl rfl (by kernel_rfl) (by decide +kernel) (by decide +kernel) (by repeat (first | exact np_post | apply np_then | apply np_in)) rfl rfl rfl; (first | exact R_loadi tabOk rfl rfl rfl rfl rfl rfl rfl | exact R_len tabOk rfl rfl rfl | exact R_load tabOk rfl rfl rfl rfl rfl rfl rfl rfl rfl | exact R_lenr tabOk rfl rfl rfl rfl | exact R_lenn tabOk rfl rfl rfl | exact R_loade tabOk rfl rfl rfl rfl rfl rfl rfl rfl rfl | (first | exact Y_nilCheck rfl rfl rfl))) | (apply N_takeL (i := 6) rfl rfl (by kernel_rfl) (by decide +kernel) (by decide +kernel) (by repeat (first | exact np_post | apply np_then | apply np_in)) rfl rfl rfl; (first | exact R_loadi tabOk rfl rfl rfl rfl rfl rfl rfl | exact R_len tabOk rfl rfl rfl | exact R_load tabOk rfl rfl rfl rfl rfl rfl rfl rfl rfl | exact R_lenr tabOk rfl rfl rfl rfl | exact R_lenn tabOk rfl rfl rfl | exact R_loade tabOk rfl rfl rfl rfl rfl rfl rfl rfl rfl | (first | exact Y_nilCheck rfl rfl rfl))) | (apply N_takeL (i := 7) rfl rfl (by kernel_rfl) (by decide +kernel) (by decide +kernel) (by repeat (first | exact np_post | apply np_then | apply np_in)) rfl rfl rfl; (first | exact R_loadi tabOk rfl rfl rfl rfl rfl rfl rfl | exact R_len tabOk rfl rfl rfl | exact R_load tabOk rfl rfl rfl rfl rfl rfl rfl rfl rfl | exact R_lenr tabOk rfl rfl rfl rfl | exact R_lenn tabOk rfl rfl rfl | exact R_loade tabOk rfl rfl rfl rfl rfl rfl rfl rfl rfl | (first | exact Y_nilCheck rfl rfl rfl))) | (apply N_takeL (i := 8) rfl rfl (by kernel_rfl) (by decide +kernel) (by decide +kernel) (by repeat (first | exact np_post | apply np_then | apply np_in)) rfl rfl rfl; (first | exact R_loadi tabOk rfl rfl rfl rfl rfl rfl rfl | exact R_len tabOk rfl rfl rfl | exact R_load tabOk rfl rfl rfl rfl rfl rfl rfl rfl rfl | exact R_lenr tabOk rfl rfl rfl rfl | exact R_lenn tabOk rfl rfl rfl | exact R_loade tabOk rfl rfl rfl rfl rfl rfl rfl rfl rfl | (first | exact Y_nilCheck rfl rfl rfl))) | (apply N_takeL (i := 9) rfl rfl (by kernel_rfl) (by decide +kernel) (by decide +kernel) (by repeat (first | exact np_post | apply np_then | apply np_in)) rfl rfl rfl; (first | exact R_loadi tabOk rfl rfl rfl rfl rfl rfl rfl | exact R_len tabOk rfl rfl rfl | exact R_load tabOk rfl rfl rfl rfl rfl rfl rfl rfl rfl | exact R_lenr tabOk rfl rfl rfl rfl | exact R_lenn tabOk rfl rfl rfl | exact R_loade tabOk rfl rfl rfl rfl rfl rfl rfl rfl rfl | (first | exact Y_nilCheck rfl rfl rfl))) | (apply N_takeL (i := 10) rfl rfl (by kernel_rfl) (by decide +kernel) (by decide +kernel) (by repeat (first | exact np_post | apply np_then | apply np_in)) rfl rfl rfl; (first | exact R_loadi tabOk rfl rfl rfl rfl rfl rfl rfl | exact R_len tabOk rfl rfl rfl | exact R_load tabOk rfl rfl rfl rfl rfl rfl rfl rfl rfl | exact R_lenr tabOk rfl rfl rfl rfl | exact R_lenn tabOk rfl rfl rfl | exact R_loade tabOk rfl rfl rfl rfl rfl rfl rfl rfl rfl | (first | exact Y_nilCheck rfl rfl rfl))) | (apply N_takeL (i := 11) rfl rfl (by kernel_rfl) (by decide +kernel) (by decide +kernel) (by repeat (first | exact np_post | apply np_then | apply np_in)) rfl rfl rfl; (first | exact R_loadi tabOk rfl rfl rfl rfl rfl rfl rfl | exact R_len tabOk rfl rfl rfl | exact R_load tabOk rfl rfl rfl rfl rfl rfl rfl rfl rfl | exact R_lenr tabOk rfl rfl rfl rfl | exact R_lenn tabOk rfl rfl rfl | exact R_loade tabOk rfl rfl rfl rfl rfl rfl rfl rfl rfl | (first | exact Y_nilCheck rfl rfl rfl))) | (apply N_takeL (i := 12) rfl rfl (by kernel_rfl) (by decide +kernel) (by decide +kernel) (by repeat (first | exact np_post | apply np_then | apply np_in)) rfl rfl rfl; (first | exact R_loadi tabOk rfl rfl rfl rfl rfl rfl rfl | exact R_len tabOk rfl rfl rfl | exact R_load tabOk rfl rfl rfl rfl rfl rfl rfl rfl rfl | exact R_lenr tabOk rfl rfl rfl rfl | exact R_lenn tabOk rfl rfl rfl | exact R_loade tabOk rfl rfl rfl rfl rfl rfl rfl rfl rfl | (first | exact Y_nilCheck rfl rfl rfl))) | refine N_one (j := 0) (by decide +kernel) ?_ | refine N_one (j := 1) (by decide +kernel) ?_ | refine N_one (j := 2) (by decide +kernel) ?_ | refine N_one (j := 3) (by decide +kernel) ?_ | refine N_one (j := 4) (by decide +kernel) ?_ | refine N_one (j := 5) (by decide +kernel) ?_ | refine N_one (j := 6) (by decide +kernel) ?_ | refine N_one (j := 7) (by decide +kernel) ?_ | refine N_one (j := 8) (by decide +kernel) ?_ | refine N_one (j := 9) (by decide +kernel) ?_ | refine N_one (j := 10) (by decide +kernel) ?_ | refine N_one (j := 11) (by decide +kernel) ?_ | refine N_one (j := 12) (by decide +kernel) ?_ | refine T_alloc tabOk rfl rfl rfl rfl rfl rfl rfl ?_ | refine T_store tabOk rfl rfl rfl rfl rfl rfl rfl rfl rfl rfl rfl rfl rfl ?_ | refine T_box rfl rfl rfl rfl rfl rfl rfl rfl ?_ | (apply T_yield rfl rfl rfl rfl; (first | exact Y_move rfl rfl | exact Y_assign rfl rfl | exact R_index tabOk rfl rfl rfl rfl rfl rfl (by omega) | exact R_fieldi tabOk rfl rfl rfl | exact R_loadi tabOk rfl rfl rfl rfl rfl rfl rfl | exact R_len tabOk rfl rfl rfl | exact R_load tabOk rfl rfl rfl rfl rfl rfl rfl rfl rfl | exact R_field tabOk rfl rfl rfl rfl | exact Y_addn rfl rfl rfl | exact Y_subn rfl rfl rfl | exact R_cmpT rfl rfl rfl rfl | exact R_cmpF rfl rfl rfl rfl | exact Y_ibin rfl rfl rfl rfl | exact Y_extract rfl rfl rfl | exact R_lenr tabOk rfl rfl rfl rfl | exact R_lenn tabOk rfl rfl rfl | exact R_indexr tabOk rfl rfl rfl rfl rfl rfl rfl (by omega) | exact R_fielde tabOk rfl rfl rfl rfl | exact R_loade tabOk rfl rfl rfl rfl rfl rfl rfl rfl rfl | exact Y_not rfl rfl | exact Y_pick_t rfl rfl (by first | rfl | assumption) rfl | exact Y_pick_f rfl rfl (by first | rfl | assumption) rfl | exact Y_pick_b rfl rfl rfl rfl | exact R_build tabOk rfl rfl rfl rfl rfl rfl | (first | exact Y_nilCheck rfl rfl rfl))) | refine N_done (by decide +kernel) ?_ | (refine T_upd (k := ⟨a, (B : Int)⟩) (xa := intA) (q := v) pfxKey pfxA_val pfxA_rel trivial (fun _ _ => trivial) hn tabOk rfl rfl rfl rfl rfl rfl rfl rfl rfl rfl ?_))
      repeat (first | refine A_seq ?_ | refine A_block ?_ | refine R_list ?_ | refine R_quiet rfl mixed (by kernel_rfl) ?_ | ((first | apply O_y rfl rfl rfl | apply Q_y rfl rfl rfl); (first | exact Y_move rfl rfl | exact Y_assign rfl rfl | exact R_index tabOk rfl rfl rfl rfl rfl rfl (by omega) | exact R_fieldi tabOk rfl rfl rfl | exact R_loadi tabOk rfl rfl rfl rfl rfl rfl rfl | exact R_len tabOk rfl rfl rfl | exact R_load tabOk rfl rfl rfl rfl rfl rfl rfl rfl rfl | exact R_field tabOk rfl rfl rfl rfl | exact Y_addn rfl rfl rfl | exact Y_subn rfl rfl rfl | exact R_cmpT rfl rfl rfl rfl | exact R_cmpF rfl rfl rfl rfl | exact Y_ibin rfl rfl rfl rfl | exact Y_extract rfl rfl rfl | exact R_lenr tabOk rfl rfl rfl rfl | exact R_lenn tabOk rfl rfl rfl | exact R_indexr tabOk rfl rfl rfl rfl rfl rfl rfl (by omega) | exact R_fielde tabOk rfl rfl rfl rfl | exact R_loade tabOk rfl rfl rfl rfl rfl rfl rfl rfl rfl | exact Y_not rfl rfl | exact Y_pick_t rfl rfl (by first | rfl | assumption) rfl | exact Y_pick_f rfl rfl (by first | rfl | assumption) rfl | exact Y_pick_b rfl rfl rfl rfl | exact R_build tabOk rfl rfl rfl rfl rfl rfl | fail)) | refine O_nil ?_ | refine Q_nil ?_ | refine X_then_normal ?_ | refine X_in_normal ?_ | refine O_box rfl rfl rfl rfl rfl rfl rfl ?_ | refine O_alloc tabOk rfl rfl rfl rfl rfl rfl ?_ | refine O_store tabOk rfl rfl rfl rfl rfl rfl rfl rfl rfl rfl rfl ?_ | refine O_slice tabOk rfl rfl rfl rfl rfl rfl rfl rfl rfl rfl rfl ?_ | refine A_ct rfl ?_ | refine A_cf rfl ?_ | refine A_skip ?_ | refine A_exit ?_ | refine A_ret ?_ | refine X_then_exit ?_ | refine X_then_ret ?_ | refine X_in_same ?_ | refine X_in_other rfl ?_ | refine X_in_ret ?_ | refine O_s rfl rfl rfl ?_ | refine Q_s rfl rfl rfl ?_ | refine O_sn rfl rfl ?_ | fail)
      exact X_retW AWk.refl rfl (h2 := [(1000, tblB 1001 u), (1001, mapB (Go.Proofs.Ytaecjmjdhbjbkaa.aput l ⟨a, (B : Int)⟩ v))]) ⟨rfl, rfl, trivial⟩ ⟨rfl, rfl⟩
  · simp only [hc, if_false]
    have hR : (fun c h => c = intA (chk p) ∧ h = [(1000, tblB 1001 u), (1001, mapB l)]) = (fun c h => c = intA (chk p) ∧ h = [(1000, tblB 1001 u), (1001, mapB l)]) := rfl
    refine A_seq ?_
    refine R_list ?_
    refine O_box rfl rfl rfl rfl rfl rfl rfl ?_
    refine O_weaken (Wk_sel (e1 := [(0, .ptr 1000 0), (2, intA v), (4, .ptr 4 0)]) (h1 := [(4, .var [.d (.sc (.int .u32 p.a)), .d (.sc (.int .i64 p.b))]), (1000, tblB 1001 u), (1001, mapB l)]) ⟨rfl, rfl, rfl, trivial⟩ ⟨rfl, rfl, kill_map 4 l, trivial⟩) ?_
    repeat (first | refine A_seq ?_ | refine A_block ?_ | refine R_list ?_ | refine R_quiet rfl mixed (by kernel_rfl) ?_ | ((first | apply O_y rfl rfl rfl | apply Q_y rfl rfl rfl); (first | exact Y_move rfl rfl | exact Y_assign rfl rfl | exact R_index tabOk rfl rfl rfl rfl rfl rfl (by omega) | exact R_fieldi tabOk rfl rfl rfl | exact R_loadi tabOk rfl rfl rfl rfl rfl rfl rfl | exact R_len tabOk rfl rfl rfl | exact R_load tabOk rfl rfl rfl rfl rfl rfl rfl rfl rfl | exact R_field tabOk rfl rfl rfl rfl | exact Y_addn rfl rfl rfl | exact Y_subn rfl rfl rfl | exact R_cmpT rfl rfl rfl rfl | exact R_cmpF rfl rfl rfl rfl | exact Y_ibin rfl rfl rfl rfl | exact Y_extract rfl rfl rfl | exact R_lenr tabOk rfl rfl rfl rfl | exact R_lenn tabOk rfl rfl rfl | exact R_indexr tabOk rfl rfl rfl rfl rfl rfl rfl (by omega) | exact R_fielde tabOk rfl rfl rfl rfl | exact R_loade tabOk rfl rfl rfl rfl rfl rfl rfl rfl rfl | exact Y_not rfl rfl | exact Y_pick_t rfl rfl (by first | rfl | assumption) rfl | exact Y_pick_f rfl rfl (by first | rfl | assumption) rfl | exact Y_pick_b rfl rfl rfl rfl | exact R_build tabOk rfl rfl rfl rfl rfl rfl | (first | exact R_pnil tabOk rfl rfl rfl rfl rfl))) | refine O_nil ?_ | refine Q_nil ?_ | refine X_then_normal ?_ | refine X_in_normal ?_ | refine O_box rfl rfl rfl rfl rfl rfl rfl ?_ | refine O_alloc tabOk rfl rfl rfl rfl rfl rfl ?_ | refine O_store tabOk rfl rfl rfl rfl rfl rfl rfl rfl rfl rfl rfl ?_ | refine O_slice tabOk rfl rfl rfl rfl rfl rfl rfl rfl rfl rfl rfl ?_ | refine A_ct rfl ?_ | refine A_cf rfl ?_ | refine A_skip ?_ | refine A_exit ?_ | refine A_ret ?_ | refine X_then_exit ?_ | refine X_then_ret ?_ | refine X_in_same ?_ | refine X_in_other rfl ?_ | refine X_in_ret ?_ | refine O_s rfl rfl rfl ?_ | refine Q_s rfl rfl rfl ?_ | refine O_sn rfl rfl ?_ | refine O_c rfl rfl rfl rfl rfl hck (fun _ => rfl) ?_)
    exact X_retW AWk.refl rfl (h2 := [(1000, tblB 1001 u), (1001, mapB l)]) ⟨rfl, rfl, trivial⟩ ⟨rfl, rfl⟩
end Go.Proofs.Ytaecjmjdhbjbkaa.Ab

namespace Go.Proofs.Ytaecjmjdhbjbkaa.Ab
set_option linter.unusedVariables false
set_option maxRecDepth 100000
open Go.RowKit
set_option linter.unusedSimpArgs false
attribute [local irreducible] AWp AOps AQ AYield AEff ACall AWk AAny AAt AThen AIn APost NoPanic

theorem subnet_A (x : Int) (k : Nat) (hk : k ≤ 32) (x0 : 0 ≤ x) (x1 : x < 4294967296) : ACall Try.prog 70 [.d (.sc (.int .u32 x)), intA (k : Int)] [] (Just (.tup [pfxA (sub x k), intA 0])) :=
  ACall_val (by kernel_rfl) rfl rfl rfl fun w => addrSubnet_any x (k : Int) w (by omega) (by omega) x0 x1
/-- The prefixes of fewer than k bits of the table that are of x's. -/
def overS (u : Nat → Int) (l : List (Pfx × Int)) (x : Int) (k : Nat) : List Pfx := ((List.range k).filter fun b => !(u b == 0) && (aget l (sub x (b : Nat))).isSome).map fun b => sub x (b : Nat)
theorem overS_in (u : Nat → Int) (l : List (Pfx × Int)) (x : Int) (k : Nat) (h1 : u k ≠ 0) {z : Int} (h2 : aget l (sub x (k : Nat)) = some z) : overS u l x (k + 1) = overS u l x k ++ [sub x (k : Nat)] := by
  unfold overS
  rw [List.range_succ, List.filter_append, List.map_append]
  simp [h1, h2]
theorem overS_no (u : Nat → Int) (l : List (Pfx × Int)) (x : Int) (k : Nat) (h1 : u k = 0 ∨ aget l (sub x (k : Nat)) = none) : overS u l x (k + 1) = overS u l x k := by
  unfold overS
  rw [List.range_succ, List.filter_append, List.map_append]
  rcases h1 with h1 | h1 <;> simp [h1]
theorem overS_len (u : Nat → Int) (l : List (Pfx × Int)) (x : Int) (k : Nat) : (overS u l x k).length ≤ k := by
  unfold overS
  rw [List.length_map]
  exact Nat.le_trans (List.length_filter_le _ _) (by simp)
theorem kill3 (i j k : Nat) (l : List (Pfx × Int)) : some (killB i (killB j (killB k (mapB l)))) = some (mapB l) := by
  have h : ∀ i, killB i (mapB l) = mapB l := fun i => Option.some.inj (kill_map i l)
  rw [h, h, h]
theorem freeze_map (id : Nat) (x : Dat) (l : List (Pfx × Int)) : some (frB id x (mapB l)) = some (mapB l) := by
  show some (ABlk.map ((l.map fun p => (pfxA p.1, intA p.2)).map fun p => (frV id x p.1, frV id x p.2))) = _
  rw [List.map_map]
  rfl
set_option maxHeartbeats 4000000 in
theorem over_A (u : Nat → Int) (l : List (Pfx × Int)) (x : Int) (x0 : 0 ≤ x) (x1 : x < 4294967296) (hn : (l.map (·.1)).Nodup) :
    ACall Try.prog 51 [.ptr 1000 0, .d (.sc (.int .u32 x))] [(1000, tblB 1001 u), (1001, mapB l)] (fun c h => c = pfxsA (overS u l x 33) ∧ h = [(1000, tblB 1001 u), (1001, mapB l)]) := by
  refine ACall_of tabOk Try.func51 rfl Try.ntmps51 (congrArg Array.toList Try.results51) (by kernel_rfl) rfl ?_
  repeat (first | refine A_seq ?_ | refine A_block ?_ | refine R_list ?_ | refine R_quiet rfl mixed (by kernel_rfl) ?_ | ((first | apply O_y rfl rfl rfl | apply Q_y rfl rfl rfl); (first | exact Y_move rfl rfl | exact Y_assign rfl rfl | exact R_index tabOk rfl rfl rfl rfl rfl rfl (by omega) | exact R_fieldi tabOk rfl rfl rfl | exact R_loadi tabOk rfl rfl rfl rfl rfl rfl rfl | exact R_len tabOk rfl rfl rfl | exact R_load tabOk rfl rfl rfl rfl rfl rfl rfl rfl rfl | exact R_field tabOk rfl rfl rfl rfl | exact Y_addn rfl rfl rfl | exact Y_subn rfl rfl rfl | exact R_cmpT rfl rfl rfl rfl | exact R_cmpF rfl rfl rfl rfl | exact Y_ibin rfl rfl rfl rfl | exact Y_extract rfl rfl rfl | exact R_lenr tabOk rfl rfl rfl rfl | exact R_lenn tabOk rfl rfl rfl | exact R_indexr tabOk rfl rfl rfl rfl rfl rfl rfl (by omega) | exact R_fielde tabOk rfl rfl rfl rfl | exact R_loade tabOk rfl rfl rfl rfl rfl rfl rfl rfl rfl | exact Y_not rfl rfl | exact Y_pick_t rfl rfl (by first | rfl | assumption) rfl | exact Y_pick_f rfl rfl (by first | rfl | assumption) rfl | exact Y_pick_b rfl rfl rfl rfl | exact R_build tabOk rfl rfl rfl rfl rfl rfl | (first | exact R_pnil tabOk rfl rfl rfl rfl rfl | exact Y_nilCheck rfl rfl rfl))) | refine O_nil ?_ | refine Q_nil ?_ | refine X_then_normal ?_ | refine X_in_normal ?_ | refine O_box rfl rfl rfl rfl rfl rfl rfl ?_ | refine O_alloc tabOk rfl rfl rfl rfl rfl rfl ?_ | refine O_store tabOk rfl rfl rfl rfl rfl rfl rfl rfl rfl rfl rfl ?_ | refine O_slice tabOk rfl rfl rfl rfl rfl rfl rfl rfl rfl rfl rfl ?_ | refine A_ct rfl ?_ | refine A_cf rfl ?_ | refine A_skip ?_ | refine A_exit ?_ | refine A_ret ?_ | refine X_then_exit ?_ | refine X_then_ret ?_ | refine X_in_same ?_ | refine X_in_other rfl ?_ | refine X_in_ret ?_ | refine O_s rfl rfl rfl ?_ | refine Q_s rfl rfl rfl ?_ | refine O_sn rfl rfl ?_ | fail)
  refine A_weaken (Wk_nil 26 2 (t := 5) (id := 5) rfl rfl) ?_
  refine A_loop (fun k : Nat => [(0, .ptr 1000 0), (1, .d (.sc (.int .u32 x))), (5, .row 5), (17, .agg (usedA u)), (18, intA (k : Int))]) (fun k => [(5, .row 26 2 (overS u l x k).length ((overS u l x k).flatMap pfxD)), (1000, tblB 1001 u), (1001, mapB l)]) (fun k => k ≤ 33) (fun k => 33 - k) 0 (by omega) (Wk_sel ⟨rfl, rfl, rfl, rfl, rfl, trivial⟩ ⟨rfl, rfl, kill_map 5 l, trivial⟩) ?_
  intro k hk
  dsimp only
  have hlen := overS_len u l x k
  by_cases hlt : k < 33
  · have hk32 : k ≤ 32 := by omega
    have huk : (usedA u)[k]? = some (intA (u k)) := by simp [usedA, List.getElem?_map, List.getElem?_range hlt]
    by_cases h0 : u k = 0
    ·
      repeat (first | refine A_seq ?_ | refine A_block ?_ | refine R_list ?_ | refine R_quiet rfl mixed (by kernel_rfl) ?_ | ((first | apply O_y rfl rfl rfl | apply Q_y rfl rfl rfl); (first | exact Y_move rfl rfl | exact Y_assign rfl rfl | exact R_index tabOk rfl rfl rfl rfl rfl rfl (by omega) | exact R_fieldi tabOk rfl rfl rfl | exact R_loadi tabOk rfl rfl rfl rfl rfl rfl rfl | exact R_len tabOk rfl rfl rfl | exact R_load tabOk rfl rfl rfl rfl rfl rfl rfl rfl rfl | exact R_field tabOk rfl rfl rfl rfl | exact Y_addn rfl rfl rfl | exact Y_subn rfl rfl rfl | exact R_cmpT rfl rfl rfl rfl | exact R_cmpF rfl rfl rfl rfl | exact Y_ibin rfl rfl rfl rfl | exact Y_extract rfl rfl rfl | exact R_lenr tabOk rfl rfl rfl rfl | exact R_lenn tabOk rfl rfl rfl | exact R_indexr tabOk rfl rfl rfl rfl rfl rfl rfl (by omega) | exact R_fielde tabOk rfl rfl rfl rfl | exact R_loade tabOk rfl rfl rfl rfl rfl rfl rfl rfl rfl | exact Y_not rfl rfl | exact Y_pick_t rfl rfl (by first | rfl | assumption) rfl | exact Y_pick_f rfl rfl (by first | rfl | assumption) rfl | exact Y_pick_b rfl rfl rfl rfl | exact R_build tabOk rfl rfl rfl rfl rfl rfl | (first | exact R_ixa tabOk rfl rfl rfl rfl rfl rfl rfl hlt huk))) | refine O_nil ?_ | refine Q_nil ?_ | refine X_then_normal ?_ | refine X_in_normal ?_ | refine O_box rfl rfl rfl rfl rfl rfl rfl ?_ | refine O_alloc tabOk rfl rfl rfl rfl rfl rfl ?_ | refine O_store tabOk rfl rfl rfl rfl rfl rfl rfl rfl rfl rfl rfl ?_ | refine O_slice tabOk rfl rfl rfl rfl rfl rfl rfl rfl rfl rfl rfl ?_ | refine A_ct rfl ?_ | refine A_cf rfl ?_ | refine A_skip ?_ | refine A_exit ?_ | refine A_ret ?_ | refine X_then_exit ?_ | refine X_then_ret ?_ | refine X_in_same ?_ | refine X_in_other rfl ?_ | refine X_in_ret ?_ | refine O_s rfl rfl rfl ?_ | refine Q_s rfl rfl rfl ?_ | refine O_sn rfl rfl ?_ | fail)
      exact ⟨k + 1, by omega, by omega, Wk_sel ⟨rfl, rfl, rfl, rfl, rfl, trivial⟩ ⟨by rw [overS_no u l x k (.inl h0)]; rfl, rfl, rfl, trivial⟩⟩
    · cases hag : aget l (sub x (k : Nat)) with
      | none =>
        repeat (first | refine A_seq ?_ | refine A_block ?_ | refine R_list ?_ | refine R_quiet rfl mixed (by kernel_rfl) ?_ | ((first | apply O_y rfl rfl rfl | apply Q_y rfl rfl rfl); (first | exact Y_move rfl rfl | exact Y_assign rfl rfl | exact R_index tabOk rfl rfl rfl rfl rfl rfl (by omega) | exact R_fieldi tabOk rfl rfl rfl | exact R_loadi tabOk rfl rfl rfl rfl rfl rfl rfl | exact R_len tabOk rfl rfl rfl | exact R_load tabOk rfl rfl rfl rfl rfl rfl rfl rfl rfl | exact R_field tabOk rfl rfl rfl rfl | exact Y_addn rfl rfl rfl | exact Y_subn rfl rfl rfl | exact R_cmpT rfl rfl rfl rfl | exact R_cmpF rfl rfl rfl rfl | exact Y_ibin rfl rfl rfl rfl | exact Y_extract rfl rfl rfl | exact R_lenr tabOk rfl rfl rfl rfl | exact R_lenn tabOk rfl rfl rfl | exact R_indexr tabOk rfl rfl rfl rfl rfl rfl rfl (by omega) | exact R_fielde tabOk rfl rfl rfl rfl | exact R_loade tabOk rfl rfl rfl rfl rfl rfl rfl rfl rfl | exact Y_not rfl rfl | exact Y_pick_t rfl rfl (by first | rfl | assumption) rfl | exact Y_pick_f rfl rfl (by first | rfl | assumption) rfl | exact Y_pick_b rfl rfl rfl rfl | exact R_build tabOk rfl rfl rfl rfl rfl rfl | (first | exact R_ixa tabOk rfl rfl rfl rfl rfl rfl rfl hlt huk | exact Y_nilCheck rfl rfl rfl | exact R_lkOut pfxKey pfxA_val zeroInt rfl trivial (fun _ _ => trivial) hn hag tabOk rfl rfl rfl (kill_map 8 l) rfl rfl))) | refine O_nil ?_ | refine Q_nil ?_ | refine X_then_normal ?_ | refine X_in_normal ?_ | refine O_box rfl rfl rfl rfl rfl rfl rfl ?_ | refine O_alloc tabOk rfl rfl rfl rfl rfl rfl ?_ | refine O_store tabOk rfl rfl rfl rfl rfl rfl rfl rfl rfl rfl rfl ?_ | refine O_slice tabOk rfl rfl rfl rfl rfl rfl rfl rfl rfl rfl rfl ?_ | refine A_ct rfl ?_ | refine A_cf rfl ?_ | refine A_skip ?_ | refine A_exit ?_ | refine A_ret ?_ | refine X_then_exit ?_ | refine X_then_ret ?_ | refine X_in_same ?_ | refine X_in_other rfl ?_ | refine X_in_ret ?_ | refine O_s rfl rfl rfl ?_ | refine Q_s rfl rfl rfl ?_ | refine O_sn rfl rfl ?_ | refine O_c rfl rfl rfl rfl rfl (subnet_A x k hk32 x0 x1) (fun _ => rfl) ?_)
        exact ⟨k + 1, by omega, by omega, Wk_sel ⟨rfl, rfl, rfl, rfl, rfl, trivial⟩ ⟨by rw [overS_no u l x k (.inr hag)]; rfl, rfl, kill_map 8 l, trivial⟩⟩
      | some z =>
        repeat (first | refine A_seq ?_ | refine A_block ?_ | refine R_list ?_ | refine R_quiet rfl mixed (by kernel_rfl) ?_ | ((first | apply O_y rfl rfl rfl | apply Q_y rfl rfl rfl); (first | exact Y_move rfl rfl | exact Y_assign rfl rfl | exact R_index tabOk rfl rfl rfl rfl rfl rfl (by omega) | exact R_fieldi tabOk rfl rfl rfl | exact R_loadi tabOk rfl rfl rfl rfl rfl rfl rfl | exact R_len tabOk rfl rfl rfl | exact R_load tabOk rfl rfl rfl rfl rfl rfl rfl rfl rfl | exact R_field tabOk rfl rfl rfl rfl | exact Y_addn rfl rfl rfl | exact Y_subn rfl rfl rfl | exact R_cmpT rfl rfl rfl rfl | exact R_cmpF rfl rfl rfl rfl | exact Y_ibin rfl rfl rfl rfl | exact Y_extract rfl rfl rfl | exact R_lenr tabOk rfl rfl rfl rfl | exact R_lenn tabOk rfl rfl rfl | exact R_indexr tabOk rfl rfl rfl rfl rfl rfl rfl (by omega) | exact R_fielde tabOk rfl rfl rfl rfl | exact R_loade tabOk rfl rfl rfl rfl rfl rfl rfl rfl rfl | exact Y_not rfl rfl | exact Y_pick_t rfl rfl (by first | rfl | assumption) rfl | exact Y_pick_f rfl rfl (by first | rfl | assumption) rfl | exact Y_pick_b rfl rfl rfl rfl | exact R_build tabOk rfl rfl rfl rfl rfl rfl | (first | exact R_ixa tabOk rfl rfl rfl rfl rfl rfl rfl hlt huk | exact Y_nilCheck rfl rfl rfl | exact R_lkIn pfxKey pfxA_val zeroInt trivial (fun _ _ => trivial) hn hag tabOk rfl rfl rfl (kill_map 8 l) rfl rfl))) | refine O_nil ?_ | refine Q_nil ?_ | refine X_then_normal ?_ | refine X_in_normal ?_ | refine O_box rfl rfl rfl rfl rfl rfl rfl ?_ | refine O_alloc tabOk rfl rfl rfl rfl rfl rfl ?_ | refine O_store tabOk rfl rfl rfl rfl rfl rfl rfl rfl rfl rfl rfl ?_ | refine O_slice tabOk rfl rfl rfl rfl rfl rfl rfl rfl rfl rfl rfl ?_ | refine A_ct rfl ?_ | refine A_cf rfl ?_ | refine A_skip ?_ | refine A_exit ?_ | refine A_ret ?_ | refine X_then_exit ?_ | refine X_then_ret ?_ | refine X_in_same ?_ | refine X_in_other rfl ?_ | refine X_in_ret ?_ | refine O_s rfl rfl rfl ?_ | refine Q_s rfl rfl rfl ?_ | refine O_sn rfl rfl ?_ | (first | refine O_c rfl rfl rfl rfl rfl (subnet_A x k hk32 x0 x1) (fun _ => rfl) ?_ | (first | refine O_appR tabOk rfl rfl rfl rfl rfl rfl rfl rfl rfl rfl rfl (by first | exact Src.row rfl | exact Src.dat _ _ | exact Src.nil) rfl (by omega) ?_ | refine O_appN tabOk rfl rfl rfl rfl rfl rfl rfl rfl rfl rfl (by first | exact Src.row rfl | exact Src.dat _ _ | exact Src.nil) rfl (by omega) ?_)))
        exact ⟨k + 1, by omega, by omega, Wk_sel ⟨rfl, rfl, rfl, rfl, rfl, trivial⟩ ⟨row_eq (by rw [overS_in u l x k h0 hag]; simp) (by rw [overS_in u l x k h0 hag, List.flatMap_append]; simp [pfxD]) rfl, rfl, kill3 _ _ _ l, trivial⟩⟩
  · have hk33 : k = 33 := by omega
    subst hk33
    repeat (first | refine A_seq ?_ | refine A_block ?_ | refine R_list ?_ | refine R_quiet rfl mixed (by kernel_rfl) ?_ | ((first | apply O_y rfl rfl rfl | apply Q_y rfl rfl rfl); (first | exact Y_move rfl rfl | exact Y_assign rfl rfl | exact R_index tabOk rfl rfl rfl rfl rfl rfl (by omega) | exact R_fieldi tabOk rfl rfl rfl | exact R_loadi tabOk rfl rfl rfl rfl rfl rfl rfl | exact R_len tabOk rfl rfl rfl | exact R_load tabOk rfl rfl rfl rfl rfl rfl rfl rfl rfl | exact R_field tabOk rfl rfl rfl rfl | exact Y_addn rfl rfl rfl | exact Y_subn rfl rfl rfl | exact R_cmpT rfl rfl rfl rfl | exact R_cmpF rfl rfl rfl rfl | exact Y_ibin rfl rfl rfl rfl | exact Y_extract rfl rfl rfl | exact R_lenr tabOk rfl rfl rfl rfl | exact R_lenn tabOk rfl rfl rfl | exact R_indexr tabOk rfl rfl rfl rfl rfl rfl rfl (by omega) | exact R_fielde tabOk rfl rfl rfl rfl | exact R_loade tabOk rfl rfl rfl rfl rfl rfl rfl rfl rfl | exact Y_not rfl rfl | exact Y_pick_t rfl rfl (by first | rfl | assumption) rfl | exact Y_pick_f rfl rfl (by first | rfl | assumption) rfl | exact Y_pick_b rfl rfl rfl rfl | exact R_build tabOk rfl rfl rfl rfl rfl rfl | fail)) | refine O_nil ?_ | refine Q_nil ?_ | refine X_then_normal ?_ | refine X_in_normal ?_ | refine O_box rfl rfl rfl rfl rfl rfl rfl ?_ | refine O_alloc tabOk rfl rfl rfl rfl rfl rfl ?_ | refine O_store tabOk rfl rfl rfl rfl rfl rfl rfl rfl rfl rfl rfl ?_ | refine O_slice tabOk rfl rfl rfl rfl rfl rfl rfl rfl rfl rfl rfl ?_ | refine A_ct rfl ?_ | refine A_cf rfl ?_ | refine A_skip ?_ | refine A_exit ?_ | refine A_ret ?_ | refine X_then_exit ?_ | refine X_then_ret ?_ | refine X_in_same ?_ | refine X_in_other rfl ?_ | refine X_in_ret ?_ | refine O_s rfl rfl rfl ?_ | refine Q_s rfl rfl rfl ?_ | refine O_sn rfl rfl ?_ | fail)
    refine X_retW (Wk_freeze (id := 5) rfl) rfl (h2 := [(1000, tblB 1001 u), (1001, mapB l)]) ⟨rfl, freeze_map _ _ l, trivial⟩ ⟨rfl, rfl⟩
end Go.Proofs.Ytaecjmjdhbjbkaa.Ab

namespace Go.Proofs.Ytaecjmjdhbjbkaa
set_option linter.unusedVariables false
open Go.RowKit Go.Sort

/-- The slice type t has elements of type e, of k cells, of so many bytes. -/
def RowT (P : Program) (t e : TypeId) (k bytes : Nat) : Prop :=
  P.underlying t = some (.slice e) ∧ 0 < k ∧ ∃ i z, P.info? e = some i ∧ i.zero = some z ∧ i.size = k ∧ i.bytes = bytes ∧ z.cells.size = k
theorem RowT.of {P : Program} {t e : TypeId} {k bytes : Nat} {z : Value} (hu : P.underlying t = some (.slice e)) (h : (P.info? e).map (fun i => (i.zero, i.size, i.bytes)) = some (some z, k, bytes)) (hz : z.cells.size = k) (hk : 0 < k) : RowT P t e k bytes := by
  obtain ⟨i, h1, h2, h3, h4⟩ := info_parts h
  exact ⟨hu, hk, i, z, h1, h2, h3, h4, hz⟩

section
variable {P : Program} {t e : TypeId} {k bytes : Nat} {ops : Array Oper} {rest : List Oper} {o : Oper} {a : Act} {Q : Exit → Act → World → Prop}
theorem push1 (T : RowT P t e k bytes) (hgd : o.guard = none) (s x : Operand)
    (ho : o.op = .call { callee := .builtin .append, args := #[s, x], argTypes := #[t, t] })
    (w : World) (cs : Array Value) (et : TypeId) (base : Nat) (v : Value) (n : Nat) (xs : List Value) (hown : w.ownsRow base e k v n xs) (hs : a.eval s = v)
    (hx : a.eval x = .slice (some ⟨w.heap.size, 0, none⟩) 1 1) (hl : cs.size = k) (h1 : cs.all (·.oneCell') = true)
    (hbytes : n + 1 ≤ 2147483648) (hb2 : bytes ≤ 65536) (hbase : base ≤ w.heap.size)
    (h : ∀ v' w', w'.ownsRow base e k v' (n + 1) (xs ++ cs.toList) → Kp v.ownBlock.toList w w' → v' ≠ .slice none 0 0 → wpList P ops Q rest (a.put o.dst v') w') :
    wpList P ops Q (o :: rest) a (w.alloc (.cells cs et)) := by
  obtain ⟨hu, hk, i, z, hi, hz, hsz, hby, hzs⟩ := T
  refine wpList_append_own _ hgd s x t ho base e i z k bytes hu hi hz hsz hby hzs hk v n xs hs (hown.alloc _) ⟨w.heap.size, 0, none⟩ 1 1 cs.toList hx (by simp [hl]) ?_ ?_ ?_ ?_ ?_ ?_
  · intro j u hj
    have : (⟨w.heap.size, 0, none⟩ : Addr).add j = ⟨w.heap.size, j, none⟩ := by unfold Addr.add; split <;> simp_all
    rw [this]
    exact (Kn.new (by simpa using hj)).1
  · intro u hu; exact (Array.all_eq_true_iff_forall_mem.1 h1) u (by simpa using hu)
  · unfold maxLen; omega
  · have := Nat.mul_le_mul hbytes hb2; omega
  · simp; omega
  · intro v' w' h2 h3 h4
    refine h v' w' h2 ?_ ?_
    · refine Kp.grown ((Kp.refl _ w).alloc _) h3 ?_
      intro g hg; left; rw [hg]; simp
    · intro hn; have := (h4.1 hn).2; omega
/-- .. at a step of a region that draws its order. -/
theorem push1s {K : Act → World → Prop} {E : Prop} (T : RowT P t e k bytes) (hgd : o.guard = none) (s x : Operand)
    (ho : o.op = .call { callee := .builtin .append, args := #[s, x], argTypes := #[t, t] })
    (w : World) (cs : Array Value) (et : TypeId) (base : Nat) (v : Value) (n : Nat) (xs : List Value) (hown : w.ownsRow base e k v n xs) (hs : a.eval s = v)
    (H : Nat) (hx : a.eval x = .slice (some ⟨H, 0, none⟩) 1 1) (hH : w.heap.size = H) (hl : cs.size = k) (h1 : cs.all (·.oneCell') = true)
    (hbytes : n + 1 ≤ 2147483648) (hb2 : bytes ≤ 65536) (hbase : base ≤ w.heap.size)
    (h : ∀ v' w', w'.ownsRow base e k v' (n + 1) (xs ++ cs.toList) → Kp v.ownBlock.toList w w' → v' ≠ .slice none 0 0 → K (a.put o.dst v') w') :
    if Region.wanted o (yielded ops a.tmps) = true then Oper.wp P o a (w.alloc (.cells cs et)).drew K Q else E := by
  subst hH
  obtain ⟨hu, hk, i, z, hi, hz, hsz, hby, hzs⟩ := T
  refine step_append_lies (w.alloc (.cells cs et)).drew hgd s x t ho base e i z k bytes hu hi hz hsz hby hzs hk v n xs hs (hown.alloc _) ⟨w.heap.size, 0, none⟩ 1 1 cs.toList hx (by simp [hl]) ?_ ?_ (by omega) ?_ ?_ ?_ _ rfl ?_
  · intro j u hj
    have : (⟨w.heap.size, 0, none⟩ : Addr).add j = ⟨w.heap.size, j, none⟩ := by unfold Addr.add; split <;> simp_all
    rw [this]
    exact (Kn.new (by simpa using hj)).1
  · intro u hu; exact (Array.all_eq_true_iff_forall_mem.1 h1) u (by simpa using hu)
  · unfold maxLen; omega
  · have := Nat.mul_le_mul hbytes hb2; omega
  · show base ≤ (w.alloc (.cells cs et)).heap.size; simp; omega
  · intro g cap w' h2 h3 h4 h5
    refine h _ w' h2 ?_ (by simp)
    refine Kp.grown ((Kp.refl _ w).alloc _).drew h3 ?_
    intro g hg; left; rw [hg]; simp
end
theorem Kp.push {L : List Nat} {w0 w w1 : World} {base n k : Nat} {e : TypeId} {v : Value} {xs : List Value} (h : Kp L w0 w) (hown : w.ownsRow base e k v n xs) (hk : Kp v.ownBlock.toList w w1) (hb : w0.heap.size ≤ base) : Kp L w0 w1 := by
  refine h.trans hk ?_
  intro g hg
  right
  have := hown.lt g (by simpa using hg)
  omega
/-- A cell below the row's base stays. -/
theorem Kp.push_cell {w w1 : World} {base n k : Nat} {e : TypeId} {v u : Value} {xs : List Value} {a : Addr} (hk : Kp v.ownBlock.toList w w1) (hown : w.ownsRow base e k v n xs) (hc : w.cell? a = some u) (ha : a.block < base) : w1.cell? a = some u := by
  refine hk.cell hc ?_
  intro hg
  have := hown.lt _ (by simpa using hg)
  omega
theorem Kp.push_kn {w w1 : World} {base n k b o : Nat} {e : TypeId} {v u : Value} {xs : List Value} (hk : Kp v.ownBlock.toList w w1) (hown : w.ownsRow base e k v n xs) (hc : Kn w b o u) (ha : b < base) : Kn w1 b o u := by
  refine hc.kp hk ?_
  intro hg
  have := hown.lt _ (by simpa using hg)
  omega
end Go.Proofs.Ytaecjmjdhbjbkaa

namespace Go.Proofs.Ytaecjmjdhbjbkaa
set_option linter.unusedVariables false
open Go.RowKit Go.Sort

section
variable {α : Type} [Inhabited α] (enc : α → List Value) (k : Nat)
theorem flatMap_get (hk : ∀ x, (enc x).length = k) (l : List α) (t : Nat) (h : t < l.length * k) : (l.flatMap enc)[t]? = some (enc l[t / k]!)[t % k]! := by
  have k0 : 0 < k := by rcases Nat.eq_zero_or_pos k with h0 | h0; · subst h0; simp at h
                        · exact h0
  induction l generalizing t with
  | nil => simp at h
  | cons x l ih =>
    rw [List.flatMap_cons]
    rcases Nat.lt_or_ge t k with h1 | h1
    · rw [List.getElem?_append_left (by rw [hk]; exact h1), Nat.div_eq_of_lt h1, Nat.mod_eq_of_lt h1]
      simp [hk, h1]
    · rw [List.getElem?_append_right (by rw [hk]; exact h1), hk]
      have e1 : t = (t - k) + k := by omega
      have e2 : t / k = (t - k) / k + 1 := by conv => lhs; rw [e1]; rw [Nat.add_div_right _ k0]
      have e3 : t % k = (t - k) % k := by conv => lhs; rw [e1]; rw [Nat.add_mod_right]
      rw [e2, e3, ih (t - k) (by simp [Nat.add_mul] at h; omega)]
      simp
theorem flatMap_len (hk : ∀ x, (enc x).length = k) (l : List α) : (l.flatMap enc).length = l.length * k := by
  induction l with
  | nil => exact (fun (_ : α) => by simp) (default : α)
  | cons x l ih => rw [List.flatMap_cons, List.length_append, ih, hk]; simp [Nat.add_mul]; omega
theorem flatK_toList (hk : ∀ x, (enc x).length = k) (d : Array α) : (flatK enc k d).toList = d.toList.flatMap enc := by
  apply List.ext_getElem?
  intro t
  by_cases ht : t < d.size * k
  · rw [flatMap_get enc k hk d.toList t (by simpa using ht), Array.getElem?_toList]
    have h1 : t < (flatK enc k d).size := by simpa using ht
    rw [Array.getElem?_eq_getElem h1]
    have := get_flatK enc k d t ht
    rw [getElem!_pos _ t h1] at this
    rw [this]
    have e9 : d[t / k]! = d.toList[t / k]! := by rw [← Array.getElem!_toList]
    rw [e9]
  · rw [List.getElem?_eq_none (by simp; omega), List.getElem?_eq_none (by rw [flatMap_len enc k hk]; simp; omega)]

variable {w : World} {base g n cap : Nat} {e : TypeId} {os : Array Obj} {cur : Array Value}
/-- A row that is owned holds its elements, as the sort asks it. -/
theorem holdsK_owns (hk : ∀ x, (enc x).length = k) (l : List α) (hg : w.heap[g]? = some (.cells cur e (0, 0))) (ht : cur.toList.take (l.length * k) = l.flatMap enc) (hs : l.length * k ≤ cur.size) : HoldsK enc k w g 0 l.toArray := by
  intro j hj
  have hj' : j < l.length * k := by simpa using hj
  have e1 : (flatK enc k l.toArray)[j]! = (enc l[j / k]!)[j % k]! := by
    rw [get_flatK _ _ _ _ (by simpa using hj')]; simp
  have e2 := flatMap_get enc k hk l j hj'
  rw [← ht, List.getElem?_take_of_lt hj', Array.getElem?_toList] at e2
  rw [Nat.zero_add]
  refine ⟨?_, ?_⟩
  · rw [cell_of_row w g j cur e (0, 0) hg, e1, e2]; rfl
  · simp [World.frozen?, hg]
theorem heap_sortedK (d : Array α) {fr : Nat × Nat} (hb : w.heap[g]? = some (.cells cur e fr)) :
    (sortWorldK enc k w g 0 n d os).heap[g]? = some (.cells (putCells id 0 (flatK enc k d) cur) e fr) := by
  have hg : g < w.heap.size := (Array.getElem?_eq_some_iff.1 hb).1
  unfold sortWorldK putRowK
  rw [heap_grow_old _ _ (by simpa using hg)]
  simp [putRow, mapBlock, Sort.ahead, Array.getElem?_modify, hb, onCells]
theorem kp_sortedK (d : Array α) : Kp [g] w (sortWorldK enc k w g 0 n d os) := by
  refine ⟨rfl, rfl, rfl, ?_, fun j hj hne => ?_⟩
  · unfold sortWorldK putRowK; simp
  · unfold sortWorldK putRowK
    rw [heap_grow_old _ _ (by simpa using hj)]
    have : g ≠ j := fun e => hne (by simp [e])
    simp [putRow, mapBlock, Sort.ahead, Array.getElem?_modify, this]
theorem take_putCellsK (F : Array Value) (h : F.size ≤ cur.size) : (putCells id 0 F cur).toList.take F.size = F.toList := by
  apply List.ext_getElem?
  intro j
  by_cases hj : j < F.size
  · rw [List.getElem?_take_of_lt hj, Array.getElem?_toList]
    simp [putCells, hj, show j < cur.size by omega]
  · rw [List.getElem?_take_eq_none (by omega), List.getElem?_eq_none (by simp; omega)]
theorem owns_sortedK (hk : ∀ x, (enc x).length = k) (d : Array α) (hbase : base ≤ g) (hb : w.heap[g]? = some (.cells cur e (0, 0))) (h1 : d.size ≤ cap) (h2 : cap ≤ maxLen) (h3 : cur.size = cap * k) :
    (sortWorldK enc k w g 0 n d os).ownsRow base e k (.slice (some ⟨g, 0, none⟩) d.size cap) d.size (d.toList.flatMap enc) := by
  refine ⟨by rw [flatMap_len enc k hk]; simp, .inr ⟨g, cap, _, rfl, hbase, heap_sortedK enc k d hb, h1, h2, by simp [putCells, h3], ?_⟩⟩
  have := take_putCellsK (cur := cur) (flatK enc k d) (by rw [size_flatK, h3]; exact Nat.mul_le_mul_right k h1)
  rw [size_flatK] at this
  rw [this, flatK_toList enc k hk]
/-- What the sort leaves is the one sorted list, where equal rank means equal. -/
theorem sorted_is (cf : α → α → Int) (hO : SWO (ltOf cf)) (hanti : ∀ x y, ltOf cf x y = false → ltOf cf y x = false → x = y) (l : List α) (d' : Array α)
    (hp : PermIn 0 l.toArray.size l.toArray d') (hs : SortedIn (ltOf cf) 0 l.toArray.size d') : d'.toList = l.mergeSort (fun x y => !ltOf cf y x) :=
  sorted_unique_holds hO hanti l.toArray d' hp hs
end
end Go.Proofs.Ytaecjmjdhbjbkaa

namespace Go.Proofs.Ytaecjmjdhbjbkaa
set_option linter.unusedVariables false
open Go.RowKit Go.Sort

/-- The cells of prefixes. -/
def pcs (l : List Pfx) : List Value := l.flatMap fun p => [.int .u32 p.a, .int .i64 p.b]
theorem pcs_nil : pcs [] = [] := rfl
theorem pcs_cons (p : Pfx) (l : List Pfx) : pcs (p :: l) = .int .u32 p.a :: .int .i64 p.b :: pcs l := rfl
theorem pcs_append (l m : List Pfx) : pcs (l ++ m) = pcs l ++ pcs m := by simp [pcs]
theorem pcs_length (l : List Pfx) : (pcs l).length = l.length * 2 := by
  induction l with
  | nil => rfl
  | cons p l ih => rw [pcs_cons]; simp [ih]; omega
theorem pcs_get (l : List Pfx) (i : Nat) (h : i < l.length) : (pcs l)[2 * i]? = some (.int .u32 l[i].a) ∧ (pcs l)[2 * i + 1]? = some (.int .i64 l[i].b) := by
  induction l generalizing i with
  | nil => simp at h
  | cons p l ih =>
    rw [pcs_cons]
    match i with
    | 0 => simp
    | i + 1 =>
      have := ih i (by simpa using h)
      rw [show 2 * (i + 1) = (2 * i + 1) + 1 by omega]
      simpa using this
theorem pcs_one (l : List Pfx) : ∀ u ∈ pcs l, u.oneCell' = true := by
  intro u hu
  simp only [pcs, List.mem_flatMap] at hu
  obtain ⟨p, _, hp⟩ := hu
  simp at hp
  rcases hp with rfl | rfl <;> rfl

/-- The slice v reads as the prefixes l. -/
abbrev RdP (w : World) (v : Value) (l : List Pfx) : Prop := Rd w v l.length 2 (pcs l)

theorem Rd.pair {w : World} {b o : Nat} {l : List Pfx} (h : ∀ j u, (pcs l)[j]? = some u → w.cell? ⟨b, o + j, none⟩ = some u) (i : Nat) (hi : i < l.length) :
    w.cell? ⟨b, o + i * 2, none⟩ = some (.int .u32 l[i].a) ∧ w.cell? ⟨b, o + i * 2 + 1, none⟩ = some (.int .i64 l[i].b) := by
  have := pcs_get l i hi
  have e : i * 2 = 2 * i := by omega
  exact ⟨by rw [e]; exact h _ _ this.1, by rw [e, Nat.add_assoc]; exact h _ _ this.2⟩

/-! ### Same -/
theorem same_any (va vb : Value) (ps qs : List Pfx) (w : World) (ha : RdP w va ps) (hb : RdP w vb qs) (hn : ps.length ≤ 140737488355328) : Calls Try.prog 11 #[va, vb] w (Ret w (.bool (decide (ps = qs)))) := by
  obtain ⟨ao, ca, rfl, -, hca⟩ := ha
  obtain ⟨bo, cb, rfl, -, hcb⟩ := hb
  by_cases hl : ps.length = qs.length
  · go_enter Try.func11, Try.ntmps11
    go_wp2_with fail
    go_loopw [5] (fun i wr => ∃ k : Nat, i = .int .i64 k ∧ k ≤ ps.length ∧ ps.take k = qs.take k ∧ Below w.heap.size w wr) (fun i _ => ps.length - (intOf i).toNat)
    case atStart => exact ⟨0, rfl, Nat.zero_le _, by simp, Below.refl _ _⟩
    case round =>
      obtain ⟨k, rfl, hk, ht, hbl⟩ := hrel
      rcases Nat.lt_or_ge k ps.length with hlt | hge
      · obtain ⟨b1, o1, rfl, h1⟩ := hca (by omega)
        obtain ⟨b2, o2, rfl, h2⟩ := hcb (by omega)
        have P1 := Rd.pair h1 k (by omega)
        have P2 := Rd.pair h2 k (by omega)
        have hs1 := List.take_succ_eq_append_getElem (l := ps) (i := k) (by omega)
        have hs2 := List.take_succ_eq_append_getElem (l := qs) (i := k) (by omega)
        have hne : ps[k] ≠ qs[k] → ps ≠ qs := by rintro hne rfl; exact hne rfl
        obtain ⟨⟨a, b⟩, hx⟩ : ∃ x, ps[k] = x := ⟨_, rfl⟩
        obtain ⟨⟨c, d⟩, hy⟩ : ∃ x, qs[k] = x := ⟨_, rfl⟩
        rw [hx] at P1 hs1 hne
        rw [hy] at P2 hs2 hne
        have c1 := kc hbl P1.1
        have c2 := kc hbl P1.2
        have c3 := kc hbl P2.1
        have c4 := kc hbl P2.2
        have H := Lib.hid (And.intro hne (And.intro hs1 (And.intro hs2 (And.intro ht hbl))))
        clear P1 P2 hne hs1 hs2 ht hbl hx hy
        dsimp only at *
        by_cases hac : a = c
        · subst hac
          by_cases hbd : b = d
          · subst hbd
            go_wp2_with fail
            go_quiet (fail)
            go_wp2_with fail
            obtain ⟨-, hs1, hs2, ht, hbl⟩ := H.out
            go_roundw
            case rel => exact ⟨k + 1, by go_num, by omega, by rw [hs1, hs2, ht], below_drewN hbl _⟩
            case measure => simp [intOf]; omega
          · have hbd' : (b != d) = true := by simpa using hbd
            go_wp2_with fail
            go_quiet (fail)
            go_wp2_with fail
            obtain ⟨hne, -, -, -, hbl⟩ := H.out
            go_ret
            exact ⟨ret_bool (decide_eq_false (hne (by simpa using hbd))).symm, below_drewN hbl _⟩
        · have hac' : (a != c) = true := by simpa using hac
          go_wp2_with fail
          go_quiet (fail)
          go_wp2_with fail
          obtain ⟨hne, -, -, -, hbl⟩ := H.out
          go_ret
          exact ⟨ret_bool (decide_eq_false (hne (by simp [hac]))).symm, below_drewN hbl _⟩
      · go_wp2_with fail
        have hkk : k = ps.length := by omega
        go_ret
        refine ⟨ret_bool (decide_eq_true ?_).symm, hbl⟩
        rw [hkk, List.take_length, hl, List.take_length] at ht
        exact ht
  · go_enter Try.func11, Try.ntmps11
    go_wp2_with fail
    go_ret
    refine ⟨ret_bool (decide_eq_false ?_).symm, Below.refl _ _⟩
    rintro rfl; exact hl rfl
end Go.Proofs.Ytaecjmjdhbjbkaa

namespace Go.Proofs.Ytaecjmjdhbjbkaa
set_option linter.unusedVariables false
open Go.RowKit Go.Sort Go.Lib

instance : Inhabited Pfx := ⟨⟨0, 0⟩⟩
def encP (p : Pfx) : List Value := [.int .u32 p.a, .int .i64 p.b]
theorem encP_pcs (l : List Pfx) : l.flatMap encP = pcs l := rfl
/-- The order of prefixes. -/
theorem cmpP_lt (p q : Pfx) : ltOf cmpP p q = true ↔ p.a < q.a ∨ p.a = q.a ∧ p.b < q.b := by
  unfold ltOf cmpP
  rw [decide_eq_true_iff]
  by_cases h : p.a < q.a ∨ p.a = q.a ∧ p.b < q.b
  · simp [h]
  · by_cases h2 : p = q <;> simp [h, h2]
theorem cmpP_lt_false (p q : Pfx) : ltOf cmpP p q = false ↔ ¬ (p.a < q.a ∨ p.a = q.a ∧ p.b < q.b) := by
  rw [← Bool.not_eq_true, cmpP_lt]
theorem swoP : SWO (ltOf cmpP) := by
  refine ⟨fun x => ?_, fun x y z h1 h2 => ?_, fun x y z h1 h2 => ?_⟩
  · rw [cmpP_lt_false]; omega
  · rw [cmpP_lt] at *; omega
  · rw [cmpP_lt_false] at *; omega
theorem antiP (x y : Pfx) (h1 : ltOf cmpP x y = false) (h2 : ltOf cmpP y x = false) : x = y := by
  rw [cmpP_lt_false] at *
  obtain ⟨a, b⟩ := x
  obtain ⟨c, d⟩ := y
  simp only [Pfx.mk.injEq] at *
  omega
/-- The sorted list. -/
def sortP (l : List Pfx) : List Pfx := l.mergeSort fun x y => !ltOf cmpP y x

theorem insNil_any (c : Value) (w : World) : Calls Try.prog 74 #[.slice none 0 0, .int .i64 0, .int .i64 0, c] w (RetS w (.tuple #[])) := by
  go_enter Try.func74, Try.ntmps74
  go_wp2_with fail
  refine wp_loop_rounds 1 ?_
  rw [rounds_succ]; go_wp2_with fail
  go_end0
  exact ⟨rfl, rfl⟩
theorem pdqNil_any (c : Value) (w : World) (n : Int) : Calls Try.prog 64 #[.slice none 0 0, .int .i64 0, .int .i64 0, .int .i64 n, c] w (RetS w (.tuple #[])) := by
  go_enter Try.func64, Try.ntmps64
  go_wp2_with fail
  refine wp_loop_rounds 1 ?_
  rw [rounds_succ]; go_wp2_with fail
  refine (insNil_any c _).mono ?_
  rintro e w' ⟨rfl, rfl⟩
  go_wp2_with fail
  go_end0
  exact ⟨rfl, rfl⟩
theorem sortNil_any (c : Value) (w : World) : Calls Try.prog 45 #[.slice none 0 0, c] w (RetS w (.tuple #[])) := by
  have hl := fun W => Any.bits_Len (SlLaysF0.n15.bits (P := _) (ρ := _) { Try.sortPrefix with }) (0 : Int) W (by omega) (by omega)
  go_enter Try.func45, Try.ntmps45
  go_wp2_with fail
  refine (hl _).mono ?_
  rintro e w' ⟨rfl, rfl⟩
  go_wp2_with fail
  refine (pdqNil_any c _ _).mono ?_
  rintro e w' ⟨rfl, rfl⟩
  go_wp2_with fail
  go_end0
  exact ⟨rfl, rfl⟩

theorem sort_any (v : Value) (base : Nat) (l : List Pfx) (w : World) (hown : w.ownsRow base 26 2 v l.length (pcs l)) (hn : l.length ≤ 1000000) :
    Calls Try.prog 45 #[v, .func (.func 46) #[] #[]] w fun e w' => e = .returned (.tuple #[]) ∧ w'.ownsRow base 26 2 v l.length (pcs (sortP l)) ∧ Kp v.ownBlock.toList w w' := by
  have hlen : (sortP l).length = l.length := List.length_mergeSort _
  obtain ⟨h0, ⟨rfl, h1⟩ | ⟨g, cap, cur, rfl, hb, hg, hcap, hmax, hsz, ht⟩⟩ := hown
  · have : l = [] := List.eq_nil_of_length_eq_zero h1
    subst this
    refine (sortNil_any _ w).mono ?_
    rintro e w' ⟨rfl, rfl⟩
    have e0 : sortP [] = [] := by unfold sortP; simp
    rw [e0]
    exact ⟨rfl, World.ownsRow_nil _ _ _ _, Kp.refl _ _⟩
  · have hk : ∀ x : Pfx, (encP x).length = 2 := fun _ => rfl
    have hH := holdsK_owns encP 2 hk l hg ht (by rw [hsz]; exact Nat.mul_le_mul_right 2 hcap)
    refine (AnyQ.slices_SortFunc Try.sortPrefix 2 (fun W => Try.isAgg26 W) (fun W => Try.sizeOf26 W) encP hk (fun x v hv => by simp [encP] at hv; rcases hv with rfl | rfl <;> rfl) cmpP swoP 46 #[] g 0 cap l.toArray w (fun args W => by go_simp) ?_ hH (Array.getElem?_eq_some_iff.1 hg).1 (by simp; omega)).mono ?_
    · intro m os dk hdk x y
      exact cmp_lays x y _
    · rintro e w' ⟨rfl, d', n, os, hp, hs, rfl⟩
      have e1 : d'.toList = sortP l := sorted_is cmpP swoP antiP l d' hp hs
      have e2 : d'.size = l.length := by rw [hp.1]; simp
      refine ⟨rfl, ?_, kp_sortedK encP 2 d'⟩
      have := owns_sortedK (os := os) (n := n) encP 2 hk d' hb hg (by rw [e2]; exact hcap) hmax hsz
      rw [e2, e1] at this
      exact this
end Go.Proofs.Ytaecjmjdhbjbkaa

namespace Go.Proofs.Ytaecjmjdhbjbkaa.Ab
set_option linter.unusedVariables false
set_option maxRecDepth 100000
open Go.RowKit

/-- slices.SortFunc at a row of prefixes of one's own. -/
theorem sort_A (l : List Pfx) (hn : l.length ≤ 1000000) :
    ACall Try.prog 45 [.row 1000, .fn 46 []] [(1000, .row 26 2 l.length (l.flatMap pfxD))] (fun c h => c = .tup [] ∧ h = [(1000, .row 26 2 l.length ((sortP l).flatMap pfxD))]) := by
  refine ⟨by kernel_rfl, fun Pm F w0 pin ι us w H HA => ?_⟩
  obtain ⟨v, hv, xs, hown, hxl, hxr⟩ := H.blk 1000 _ rfl
  have hval : ∀ (m : List Pfx) (xs : List Value), xs.length = (m.flatMap pfxD).length → (∀ (i : Nat) (c : Dat) (u : Value), (m.flatMap pfxD)[i]? = some c → xs[i]? = some u → DRel w (FreeB F ι) c u) → xs = pcs m := fun m xs h1 h2 => by
    have hlen : (m.flatMap pfxD).length = (pcs m).length := by
      unfold pcs
      induction m with
      | nil => rfl
      | cons p m ih => simp [pfxD]
    have hd : ∀ i : Nat, (m.flatMap pfxD)[i]? = ((pcs m)[i]?).map Dat.sc := fun i => by
      rw [← List.getElem?_map]
      congr 1
      unfold pcs
      rw [List.map_flatMap]
      rfl
    apply List.ext_getElem?
    intro i
    by_cases hi : i < xs.length
    · have h3 := h2 i (.sc (pcs m)[i]) xs[i] (by rw [hd, List.getElem?_eq_getElem (by omega)]; rfl) (List.getElem?_eq_getElem hi)
      rw [List.getElem?_eq_getElem hi, List.getElem?_eq_getElem (by omega)]
      congr 1
      generalize xs[i] = u0 at h3 ⊢
      generalize (pcs m)[i] = v0 at h3 ⊢
      cases h3
      rfl
    · rw [List.getElem?_eq_none (by omega), List.getElem?_eq_none (by omega)]
  have hxs := hval l xs hxl hxr
  subst hxs
  have hus : us = #[v, .func (.func 46) #[] #[]] := by
    have hsz : us.size = 2 := HA.1
    obtain ⟨u0, u1, rfl⟩ : ∃ u0 u1, us = #[u0, u1] := ⟨us[0], us[1], by apply Array.ext <;> simp [hsz]; intro i h1 h2; match i with | 0 => rfl | 1 => rfl | i + 2 => omega⟩
    have h0 := HA.2 0 _ u0 rfl rfl
    have h1 := HA.2 1 _ u1 rfl rfl
    cases h0 with
    | row _ _ _ h3 =>
      cases h1 with
      | fn _ _ C hl _ =>
        have : C = #[] := Array.eq_empty_of_size_eq_zero hl
        rw [h3 v hv, this]
  subst hus
  refine (sort_any v 0 l w hown hn).mono ?_
  rintro x w' ⟨rfl, hown', hk⟩
  have hbl : ∀ r, blockOf v ≠ some r → r ∉ v.ownBlock.toList := fun r hr hm => by
    rcases hown.2 with ⟨h1, _⟩ | ⟨g, cap, cur, h1, _⟩
    · rw [h1] at hm; simp [Value.ownBlock] at hm
    · rw [h1] at hm hr; simp [Value.ownBlock] at hm; exact hr (by rw [hm]; rfl)
  have hW : Wrote w v w' := ⟨hk.os, hk.tape, hk.output, hk.size, fun r hr hne => hk.block r hr (hbl r hne)⟩
  have hlen : (sortP l).length = l.length := List.length_mergeSort _
  refine ⟨.tuple #[], .tup [], _, ι, rfl, ⟨rfl, rfl⟩, ?_, .tup _ _ rfl (by simp)⟩
  have HB := H.wrote hW hv (b' := .row 26 2 l.length ((sortP l).flatMap pfxD)) ⟨pcs (sortP l), hown', by
    unfold pcs
    simp [List.length_flatMap, pfxD], fun i c u h1 h2 => ?_⟩
  · have := HB.only (h' := [(1000, .row 26 2 l.length ((sortP l).flatMap pfxD))]) fun id b hb => by
      by_cases hid : 1000 = id
      · subst hid; exact hb
      · rw [look_cons_ne _ _ hid] at hb; cases hb
    have e : Ab.only [(1000, ABlk.row 26 2 l.length ((sortP l).flatMap pfxD))] ι = ι := funext fun id => by
      unfold Ab.only
      split
      · rfl
      · rename_i hn2
        cases hi : ι id with
        | none => rfl
        | some v' =>
          obtain ⟨b, hb⟩ := H.dom id v' hi
          by_cases hid : 1000 = id
          · subst hid; exact absurd rfl hn2
          · rw [look_cons_ne _ _ hid] at hb; cases hb
    rw [e] at this
    exact this
  · have hd : ((sortP l).flatMap pfxD)[i]? = ((pcs (sortP l))[i]?).map Dat.sc := by
      rw [← List.getElem?_map]
      congr 1
      unfold pcs
      rw [List.map_flatMap]
      rfl
    rw [hd, h2] at h1
    cases h1
    refine .sc u ?_
    have : u ∈ pcs (sortP l) := List.mem_of_getElem? h2
    unfold pcs at this
    obtain ⟨p, _, hp⟩ := List.mem_flatMap.1 this
    simp at hp
    rcases hp with rfl | rfl <;> rfl
set_option linter.unusedSimpArgs false
attribute [local irreducible] AWp AOps AQ AYield AEff ACall AWk AAny AAt AThen AIn APost NoPanic
end Go.Proofs.Ytaecjmjdhbjbkaa.Ab

namespace Go.Proofs.Ytaecjmjdhbjbkaa.Ab
set_option linter.unusedVariables false
set_option maxRecDepth 100000
open Go.RowKit
set_option linter.unusedSimpArgs false
attribute [local irreducible] AWp AOps AQ AYield AEff ACall AWk AAny AAt AThen AIn APost NoPanic

theorem kill_mapx (id r clk : Nat) (bs : List Nat) (l : List (Pfx × Int)) : killB id (.mapx r bs clk (ents pfxA intA l)) = .mapx r bs clk (ents pfxA intA l) := by
  show ABlk.mapx r bs clk ((l.map fun p => (pfxA p.1, intA p.2)).map fun p => (killV id p.1, killV id p.2)) = _
  rw [List.map_map]
  rfl
/-- Whatever order they come in. -/
theorem sortP_perm {l l' : List Pfx} (h : l.Perm l') : sortP l = sortP l' := by
  have sorted : ∀ l : List Pfx, (sortP l).Pairwise fun x y => (!ltOf cmpP y x) = true := fun l => by
    refine List.pairwise_mergeSort (fun x y z h1 h2 => ?_) (fun x y => ?_) l
    · simp only [Bool.not_eq_true'] at *
      exact swoP.3 _ _ _ h2 h1
    · cases hc : ltOf cmpP y x with
      | false => simp [hc]
      | true =>
        have := cmpP_lt y x |>.1 hc
        have h2 : ltOf cmpP x y = false := (cmpP_lt_false x y).2 (by omega)
        simp [h2]
  refine List.Perm.eq_of_pairwise (le := fun x y => (!ltOf cmpP y x) = true) (fun x y _ _ h1 h2 => ?_) (sorted l) (sorted l') (((List.mergeSort_perm _ _).trans h).trans (List.mergeSort_perm _ _).symm)
  simp only [Bool.not_eq_true'] at h1 h2
  exact antiP x y h2 h1
/-- The prefixes that have come, of which it is so. -/
def come (m : List (Pfx × Int)) (is : Pfx → Bool) (js : List Nat) : List Pfx := (js.filterMap fun j => m[j]?.map (·.1)).filter is
theorem come_snoc (m : List (Pfx × Int)) (is : Pfx → Bool) (js : List Nat) (j : Nat) (p : Pfx × Int) (hp : m[j]? = some p) : come m is (js ++ [j]) = come m is js ++ (if is p.1 then [p.1] else []) := by
  unfold come
  rw [List.filterMap_append, List.filter_append]
  congr 1
  simp [hp]
  split <;> simp_all
theorem come_all (m : List (Pfx × Int)) (is : Pfx → Bool) (js : List Nat) (hn : js.Nodup) (hl : ∀ j ∈ js, j < m.length) (ha : ∀ j, j < m.length → j ∈ js) : (come m is js).Perm ((m.map (·.1)).filter is) := by
  have hp : js.Perm (List.range m.length) := by
    refine (List.perm_ext_iff_of_nodup hn List.nodup_range).2 fun j => ?_
    rw [List.mem_range]
    exact ⟨hl j, ha j⟩
  have h1 := (hp.filterMap fun j => m[j]?.map (·.1)).filter is
  have h2 : (List.range m.length).filterMap (fun j => m[j]?.map (·.1)) = m.map (·.1) := by
    clear h1 hp ha hl hn
    have : ∀ (m : List (Pfx × Int)) (k : Nat) (M : List (Pfx × Int)), (∀ j, M[k + j]? = m[j]?) → (List.range' k m.length).filterMap (fun j => M[j]?.map (·.1)) = m.map (·.1) := by
      intro m
      induction m with
      | nil => intro k M _; rfl
      | cons p m ih =>
        intro k M hM
        rw [List.length_cons, List.range'_succ, List.filterMap_cons]
        have h0 := hM 0
        simp at h0
        rw [h0]
        simp only [Option.map_some, List.map_cons]
        rw [ih (k + 1) M fun j => by have := hM (j + 1); rw [show k + 1 + j = k + (j + 1) by omega, this]; simp]
    rw [List.range_eq_range']
    exact this m 0 m fun j => by simp
  rw [h2] at h1
  exact h1
theorem kill_fn {id f : Nat} {caps : List AVal} (h : hasL id caps = false) : some (killV id (.fn f caps)) = some (AVal.fn f caps) := by
  unfold killV
  rw [show (AVal.fn f caps).has id = false from h]
  rfl
theorem kill_fn2 {i j f : Nat} {caps : List AVal} (h : hasL i caps = false) (h2 : hasL j caps = false) : some (killV i (killV j (.fn f caps))) = some (AVal.fn f caps) := by
  rw [Option.some.inj (kill_fn h2)]
  exact kill_fn h
theorem kill_mapx2 (i j r clk : Nat) (bs : List Nat) (l : List (Pfx × Int)) : some (killB i (killB j (.mapx r bs clk (ents pfxA intA l)))) = some (.mapx r bs clk (ents pfxA intA l)) := by
  rw [kill_mapx, kill_mapx]
theorem nodup_len {js : List Nat} {n : Nat} (hn : js.Nodup) (hl : ∀ j ∈ js, j < n) : js.length ≤ n := by
  have := hn.length_le_of_subset (l₂ := List.range n) fun j hj => List.mem_range.2 (hl j hj)
  simpa using this
def seenOf (bs js : List Nat) : Array Nat := (js.map fun j => bs.getD j 0).toArray
theorem seen_push (bs js : List Nat) (j b : Nat) (hb : bs[j]? = some b) : (seenOf bs js).push b = seenOf bs (js ++ [j]) := by
  unfold seenOf
  simp [hb]
theorem seen_has (bs js : List Nat) (hp : bs.Pairwise fun a b => a < b) (hl : ∀ j ∈ js, j < bs.length) (j b : Nat) (hb : bs[j]? = some b) : (seenOf bs js).contains b = true ↔ j ∈ js := by
  unfold seenOf
  rw [Array.contains_iff_mem]
  simp only [List.mem_toArray, List.mem_map]
  have hjl := (List.getElem?_eq_some_iff.1 hb)
  constructor
  · rintro ⟨i, hi, hib⟩
    have hil := hl i hi
    rw [show bs.getD i 0 = bs[i] by simp [List.getElem?_eq_getElem hil]] at hib
    have hpw := List.pairwise_iff_getElem.1 hp
    rcases Nat.lt_trichotomy i j with h1 | h1 | h1
    · have := hpw i j hil hjl.1 h1; rw [hjl.2] at this; omega
    · rw [← h1]; exact hi
    · have := hpw j i hjl.1 hil h1; rw [hjl.2] at this; omega
  · intro hj
    exact ⟨j, hj, by simp [hb]⟩
theorem look_one {a b p i : Nat} (h : look [(a, b)] p = some i) : p = a ∧ i = b := by
  by_cases hp : a = p
  · subst hp; rw [look_cons_same] at h; cases h; exact ⟨rfl, rfl⟩
  · rw [look_cons_ne _ _ hp] at h; cases h
set_option maxHeartbeats 4000000 in
theorem sorted_A (u : Nat → Int) (m : List (Pfx × Int)) (f : Nat) (caps : List AVal) (is : Pfx → Bool) (hcd : ∀ id, hasL id caps = false) (his : ∀ p ∈ m, ACall Try.prog f ([pfxA p.1] ++ caps) [] (fun c h => c = boolA (is p.1) ∧ h = [])) (hn : m.length ≤ 1000000) :
    ACall Try.prog 53 [.ptr 1000 0, .fn f caps] [(1000, tblB 1001 u), (1001, mapB m)] (fun c h => c = pfxsA (sortP ((m.map (·.1)).filter is)) ∧ h = [(1000, tblB 1001 u), (1001, mapB m)]) := by
  refine ACall_of tabOk Try.func53 rfl Try.ntmps53 (congrArg Array.toList Try.results53) (by kernel_rfl) rfl ?_
  refine A_open (mid := 1001) rfl fun r bs clk hbl hbp hbc => ?_
  repeat (first | refine A_seq ?_ | refine A_block ?_ | refine R_list ?_ | refine R_quiet rfl mixed (by kernel_rfl) ?_ | ((first | apply O_y rfl rfl rfl | apply Q_y rfl rfl rfl); (first | exact Y_move rfl rfl | exact Y_assign rfl rfl | exact R_index tabOk rfl rfl rfl rfl rfl rfl (by omega) | exact R_fieldi tabOk rfl rfl rfl | exact R_loadi tabOk rfl rfl rfl rfl rfl rfl rfl | exact R_len tabOk rfl rfl rfl | exact R_load tabOk rfl rfl rfl rfl rfl rfl rfl rfl rfl | exact R_field tabOk rfl rfl rfl rfl | exact Y_addn rfl rfl rfl | exact Y_subn rfl rfl rfl | exact R_cmpT rfl rfl rfl rfl | exact R_cmpF rfl rfl rfl rfl | exact Y_ibin rfl rfl rfl rfl | exact Y_extract rfl rfl rfl | exact R_lenr tabOk rfl rfl rfl rfl | exact R_lenn tabOk rfl rfl rfl | exact R_indexr tabOk rfl rfl rfl rfl rfl rfl rfl (by omega) | exact R_fielde tabOk rfl rfl rfl rfl | exact R_loade tabOk rfl rfl rfl rfl rfl rfl rfl rfl rfl | exact Y_not rfl rfl | exact Y_pick_t rfl rfl (by first | rfl | assumption) rfl | exact Y_pick_f rfl rfl (by first | rfl | assumption) rfl | exact Y_pick_b rfl rfl rfl rfl | exact R_build tabOk rfl rfl rfl rfl rfl rfl | (first | exact R_pnil tabOk rfl rfl rfl rfl rfl | exact Y_nilCheck rfl rfl rfl))) | refine O_nil ?_ | refine Q_nil ?_ | refine X_then_normal ?_ | refine X_in_normal ?_ | refine O_box rfl rfl rfl rfl rfl rfl rfl ?_ | refine O_alloc tabOk rfl rfl rfl rfl rfl rfl ?_ | refine O_store tabOk rfl rfl rfl rfl rfl rfl rfl rfl rfl rfl rfl ?_ | refine O_slice tabOk rfl rfl rfl rfl rfl rfl rfl rfl rfl rfl rfl ?_ | refine A_ct rfl ?_ | refine A_cf rfl ?_ | refine A_skip ?_ | refine A_exit ?_ | refine A_ret ?_ | refine X_then_exit ?_ | refine X_then_ret ?_ | refine X_in_same ?_ | refine X_in_other rfl ?_ | refine X_in_ret ?_ | refine O_s rfl rfl rfl ?_ | refine Q_s rfl rfl rfl ?_ | refine O_sn rfl rfl ?_ | (refine O_range tabOk rfl rfl rfl rfl rfl rfl rfl rfl ?_))
  refine A_weaken (Wk_sel (e1 := [(1, .fn f caps), (5, .d (.sc (.slice none 0 0))), (13, .ptr 13 0)]) (h1 := [(13, .it (.mapIter (some r) clk #[] clk)), (1001, .mapx r bs clk (ents pfxA intA m)), (1000, tblB 1001 u)]) ⟨kill_fn (hcd _), rfl, rfl, trivial⟩ ⟨rfl, congrArg some (kill_mapx _ _ _ _ _), rfl, trivial⟩) ?_
  refine A_weaken (Wk_nil 26 2 (t := 5) (id := 5) rfl rfl) ?_
  refine A_loop (fun _ : List Nat => [(1, .fn f caps), (5, .row 5), (13, .ptr 13 0)]) (fun js => [(5, .row 26 2 (come m is js).length ((come m is js).flatMap pfxD)), (13, .it (.mapIter (some r) clk (seenOf bs js) clk)), (1001, .mapx r bs clk (ents pfxA intA m)), (1000, tblB 1001 u)]) (fun js => js.Nodup ∧ ∀ j ∈ js, j < m.length) (fun js => m.length - js.length) [] ⟨.nil, by simp⟩ (Wk_sel ⟨kill_fn (hcd _), rfl, rfl, trivial⟩ ⟨rfl, rfl, congrArg some (kill_mapx _ _ _ _ _), rfl, trivial⟩) ?_
  rintro js ⟨hnd, hjl⟩
  dsimp only
  have hbm : bs.length = m.length := by rw [hbl]; simp [ents]
  have hbjl : ∀ j ∈ js, j < bs.length := fun j hj => by rw [hbm]; exact hjl j hj
  refine A_seq ?_
  refine R_list ?_
  refine O_next (mid := 1001) rfl rfl rfl rfl rfl rfl rfl (Nat.le_refl _) (Nat.le_refl _) (fun hall => ?_) (fun j p b hp hb hs => ?_)
  · have hper := come_all m is js hnd hjl fun j hj => (seen_has bs js hbp hbjl j bs[j] (List.getElem?_eq_getElem (by omega))).1 (hall _ (List.getElem_mem (by omega)))
    generalize come m is js = L at hper ⊢
    have hL : L.length ≤ 1000000 := by
      rw [hper.length_eq]
      exact Nat.le_trans (List.length_filter_le _ _) (by simpa using hn)
    rw [← sortP_perm hper]
    have hlen : (sortP L).length = L.length := List.length_mergeSort _
    repeat (first | refine A_seq ?_ | refine A_block ?_ | refine R_list ?_ | refine R_quiet rfl mixed (by kernel_rfl) ?_ | ((first | apply O_y rfl rfl rfl | apply Q_y rfl rfl rfl); (first | exact Y_move rfl rfl | exact Y_assign rfl rfl | exact R_index tabOk rfl rfl rfl rfl rfl rfl (by omega) | exact R_fieldi tabOk rfl rfl rfl | exact R_loadi tabOk rfl rfl rfl rfl rfl rfl rfl | exact R_len tabOk rfl rfl rfl | exact R_load tabOk rfl rfl rfl rfl rfl rfl rfl rfl rfl | exact R_field tabOk rfl rfl rfl rfl | exact Y_addn rfl rfl rfl | exact Y_subn rfl rfl rfl | exact R_cmpT rfl rfl rfl rfl | exact R_cmpF rfl rfl rfl rfl | exact Y_ibin rfl rfl rfl rfl | exact Y_extract rfl rfl rfl | exact R_lenr tabOk rfl rfl rfl rfl | exact R_lenn tabOk rfl rfl rfl | exact R_indexr tabOk rfl rfl rfl rfl rfl rfl rfl (by omega) | exact R_fielde tabOk rfl rfl rfl rfl | exact R_loade tabOk rfl rfl rfl rfl rfl rfl rfl rfl rfl | exact Y_not rfl rfl | exact Y_pick_t rfl rfl (by first | rfl | assumption) rfl | exact Y_pick_f rfl rfl (by first | rfl | assumption) rfl | exact Y_pick_b rfl rfl rfl rfl | exact R_build tabOk rfl rfl rfl rfl rfl rfl | fail)) | refine O_nil ?_ | refine Q_nil ?_ | refine X_then_normal ?_ | refine X_in_normal ?_ | refine O_box rfl rfl rfl rfl rfl rfl rfl ?_ | refine O_alloc tabOk rfl rfl rfl rfl rfl rfl ?_ | refine O_store tabOk rfl rfl rfl rfl rfl rfl rfl rfl rfl rfl rfl ?_ | refine O_slice tabOk rfl rfl rfl rfl rfl rfl rfl rfl rfl rfl rfl ?_ | refine A_ct rfl ?_ | refine A_cf rfl ?_ | refine A_skip ?_ | refine A_exit ?_ | refine A_ret ?_ | refine X_then_exit ?_ | refine X_then_ret ?_ | refine X_in_same ?_ | refine X_in_other rfl ?_ | refine X_in_ret ?_ | refine O_s rfl rfl rfl ?_ | refine Q_s rfl rfl rfl ?_ | refine O_sn rfl rfl ?_ | fail)
    refine O_cP [(1000, 5)] (fun p p' i h1 h2 => by rw [(look_one h1).1, (look_one h2).1]) (fun p i h1 => by rw [(look_one h1).1]; exact ⟨Nat.le_refl _, rfl, rfl⟩) (sort_A L hL) (fun c hc => by simp at hc; rcases hc with rfl | rfl <;> rfl) ⟨⟨5, _, rfl, rfl, rfl, trivial⟩, trivial⟩ rfl rfl rfl rfl rfl rfl ?_
    repeat (first | refine A_seq ?_ | refine A_block ?_ | refine R_list ?_ | refine R_quiet rfl mixed (by kernel_rfl) ?_ | ((first | apply O_y rfl rfl rfl | apply Q_y rfl rfl rfl); (first | exact Y_move rfl rfl | exact Y_assign rfl rfl | exact R_index tabOk rfl rfl rfl rfl rfl rfl (by omega) | exact R_fieldi tabOk rfl rfl rfl | exact R_loadi tabOk rfl rfl rfl rfl rfl rfl rfl | exact R_len tabOk rfl rfl rfl | exact R_load tabOk rfl rfl rfl rfl rfl rfl rfl rfl rfl | exact R_field tabOk rfl rfl rfl rfl | exact Y_addn rfl rfl rfl | exact Y_subn rfl rfl rfl | exact R_cmpT rfl rfl rfl rfl | exact R_cmpF rfl rfl rfl rfl | exact Y_ibin rfl rfl rfl rfl | exact Y_extract rfl rfl rfl | exact R_lenr tabOk rfl rfl rfl rfl | exact R_lenn tabOk rfl rfl rfl | exact R_indexr tabOk rfl rfl rfl rfl rfl rfl rfl (by omega) | exact R_fielde tabOk rfl rfl rfl rfl | exact R_loade tabOk rfl rfl rfl rfl rfl rfl rfl rfl rfl | exact Y_not rfl rfl | exact Y_pick_t rfl rfl (by first | rfl | assumption) rfl | exact Y_pick_f rfl rfl (by first | rfl | assumption) rfl | exact Y_pick_b rfl rfl rfl rfl | exact R_build tabOk rfl rfl rfl rfl rfl rfl | fail)) | refine O_nil ?_ | refine Q_nil ?_ | refine X_then_normal ?_ | refine X_in_normal ?_ | refine O_box rfl rfl rfl rfl rfl rfl rfl ?_ | refine O_alloc tabOk rfl rfl rfl rfl rfl rfl ?_ | refine O_store tabOk rfl rfl rfl rfl rfl rfl rfl rfl rfl rfl rfl ?_ | refine O_slice tabOk rfl rfl rfl rfl rfl rfl rfl rfl rfl rfl rfl ?_ | refine A_ct rfl ?_ | refine A_cf rfl ?_ | refine A_skip ?_ | refine A_exit ?_ | refine A_ret ?_ | refine X_then_exit ?_ | refine X_then_ret ?_ | refine X_in_same ?_ | refine X_in_other rfl ?_ | refine X_in_ret ?_ | refine O_s rfl rfl rfl ?_ | refine Q_s rfl rfl rfl ?_ | refine O_sn rfl rfl ?_ | fail)
    refine X_retW (((Wk_sel (e1 := [(4, .row 5)]) (h1 := [(5, .row 26 2 L.length ((sortP L).flatMap pfxD)), (1001, .mapx r bs clk (ents pfxA intA m)), (1000, tblB 1001 u)]) ⟨rfl, trivial⟩ ⟨rfl, rfl, rfl, trivial⟩).trans (Wk_close (mid := 1001) rfl)).trans (Wk_freeze (id := 5) rfl)) rfl (h2 := [(1000, tblB 1001 u), (1001, mapB m)]) ⟨rfl, freeze_map _ _ m, trivial⟩ ⟨?_, rfl⟩
    unfold pfxsA
    rw [hlen]
    rfl
  · obtain ⟨q, hq, rfl⟩ : ∃ q, m[j]? = some q ∧ p = (pfxA q.1, intA q.2) := by
      rw [ents, List.getElem?_map] at hp
      cases h1 : m[j]? with
      | none => simp [h1] at hp
      | some q => simp [h1] at hp; exact ⟨q, rfl, hp.symm⟩
    have hjm : j < m.length := (List.getElem?_eq_some_iff.1 hq).1
    have hnot : j ∉ js := fun h => by rw [(seen_has bs js hbp hbjl j b hb).2 h] at hs; cases hs
    have hq2 := his q (List.mem_of_getElem? hq)
    have hnd2 : (js ++ [j]).Nodup := List.nodup_append.2 ⟨hnd, by simp, by rintro a ha b hb rfl; simp at hb; subst hb; exact hnot ha⟩
    have hjl2 : ∀ i ∈ js ++ [j], i < m.length := fun i hi => by
      rcases List.mem_append.1 hi with h | h
      · exact hjl i h
      · simp at h; omega
    have hlen2 := nodup_len hnd2 hjl2
    rw [List.length_append] at hlen2
    simp at hlen2
    rw [seen_push bs js j b hb]
    have hcs := come_snoc m is js j q hq
    have hcl : (come m is js).length ≤ 1000000 := by
      have h1 : (come m is js).length ≤ js.length := Nat.le_trans (List.length_filter_le _ _) (List.length_filterMap_le _ _)
      omega
    cases hi : is q.1 with
    | true =>
      rw [hi] at hq2 hcs
      repeat (first | refine A_seq ?_ | refine A_block ?_ | refine R_list ?_ | refine R_quiet rfl mixed (by kernel_rfl) ?_ | ((first | apply O_y rfl rfl rfl | apply Q_y rfl rfl rfl); (first | exact Y_move rfl rfl | exact Y_assign rfl rfl | exact R_index tabOk rfl rfl rfl rfl rfl rfl (by omega) | exact R_fieldi tabOk rfl rfl rfl | exact R_loadi tabOk rfl rfl rfl rfl rfl rfl rfl | exact R_len tabOk rfl rfl rfl | exact R_load tabOk rfl rfl rfl rfl rfl rfl rfl rfl rfl | exact R_field tabOk rfl rfl rfl rfl | exact Y_addn rfl rfl rfl | exact Y_subn rfl rfl rfl | exact R_cmpT rfl rfl rfl rfl | exact R_cmpF rfl rfl rfl rfl | exact Y_ibin rfl rfl rfl rfl | exact Y_extract rfl rfl rfl | exact R_lenr tabOk rfl rfl rfl rfl | exact R_lenn tabOk rfl rfl rfl | exact R_indexr tabOk rfl rfl rfl rfl rfl rfl rfl (by omega) | exact R_fielde tabOk rfl rfl rfl rfl | exact R_loade tabOk rfl rfl rfl rfl rfl rfl rfl rfl rfl | exact Y_not rfl rfl | exact Y_pick_t rfl rfl (by first | rfl | assumption) rfl | exact Y_pick_f rfl rfl (by first | rfl | assumption) rfl | exact Y_pick_b rfl rfl rfl rfl | exact R_build tabOk rfl rfl rfl rfl rfl rfl | (exact R_entry (mid := 1001) (p := (pfxA q.1, intA q.2)) rfl rfl (by rw [← seen_push bs js j b hb]; rfl) rfl hp hb rfl rfl))) | refine O_nil ?_ | refine Q_nil ?_ | refine X_then_normal ?_ | refine X_in_normal ?_ | refine O_box rfl rfl rfl rfl rfl rfl rfl ?_ | refine O_alloc tabOk rfl rfl rfl rfl rfl rfl ?_ | refine O_store tabOk rfl rfl rfl rfl rfl rfl rfl rfl rfl rfl rfl ?_ | refine O_slice tabOk rfl rfl rfl rfl rfl rfl rfl rfl rfl rfl rfl ?_ | refine A_ct rfl ?_ | refine A_cf rfl ?_ | refine A_skip ?_ | refine A_exit ?_ | refine A_ret ?_ | refine X_then_exit ?_ | refine X_then_ret ?_ | refine X_in_same ?_ | refine X_in_other rfl ?_ | refine X_in_ret ?_ | refine O_s rfl rfl rfl ?_ | refine Q_s rfl rfl rfl ?_ | refine O_sn rfl rfl ?_ | fail)
      have hq3 : ACall Try.prog f ([pfxA q.1] ++ caps) [] (fun c h => c = boolA true ∧ h = []) := hq2
      refine O_weaken (Wk_sel (e1 := [(1, .fn f caps), (5, .row 5), (6, .ptr 6 0), (13, .ptr 13 0), (18, .fn f caps), (19, pfxA q.1)]) (h1 := [(6, .var [.d (.sc (.int .u32 q.1.a)), .d (.sc (.int .i64 q.1.b))]), (5, .row 26 2 (come m is js).length ((come m is js).flatMap pfxD)), (13, .it (.mapIter (some r) clk (seenOf bs (js ++ [j])) clk)), (1001, .mapx r bs clk (ents pfxA intA m)), (1000, tblB 1001 u)]) ⟨kill_fn (hcd _), rfl, rfl, rfl, kill_fn (hcd _), rfl, trivial⟩ ⟨rfl, rfl, rfl, congrArg some (kill_mapx _ _ _ _ _), rfl, trivial⟩) ?_
      refine O_cF rfl rfl rfl rfl rfl rfl hq3 (fun _ => rfl) ?_
      repeat (first | refine A_seq ?_ | refine A_block ?_ | refine R_list ?_ | refine R_quiet rfl mixed (by kernel_rfl) ?_ | ((first | apply O_y rfl rfl rfl | apply Q_y rfl rfl rfl); (first | exact Y_move rfl rfl | exact Y_assign rfl rfl | exact R_index tabOk rfl rfl rfl rfl rfl rfl (by omega) | exact R_fieldi tabOk rfl rfl rfl | exact R_loadi tabOk rfl rfl rfl rfl rfl rfl rfl | exact R_len tabOk rfl rfl rfl | exact R_load tabOk rfl rfl rfl rfl rfl rfl rfl rfl rfl | exact R_field tabOk rfl rfl rfl rfl | exact Y_addn rfl rfl rfl | exact Y_subn rfl rfl rfl | exact R_cmpT rfl rfl rfl rfl | exact R_cmpF rfl rfl rfl rfl | exact Y_ibin rfl rfl rfl rfl | exact Y_extract rfl rfl rfl | exact R_lenr tabOk rfl rfl rfl rfl | exact R_lenn tabOk rfl rfl rfl | exact R_indexr tabOk rfl rfl rfl rfl rfl rfl rfl (by omega) | exact R_fielde tabOk rfl rfl rfl rfl | exact R_loade tabOk rfl rfl rfl rfl rfl rfl rfl rfl rfl | exact Y_not rfl rfl | exact Y_pick_t rfl rfl (by first | rfl | assumption) rfl | exact Y_pick_f rfl rfl (by first | rfl | assumption) rfl | exact Y_pick_b rfl rfl rfl rfl | exact R_build tabOk rfl rfl rfl rfl rfl rfl | fail)) | refine O_nil ?_ | refine Q_nil ?_ | refine X_then_normal ?_ | refine X_in_normal ?_ | refine O_box rfl rfl rfl rfl rfl rfl rfl ?_ | refine O_alloc tabOk rfl rfl rfl rfl rfl rfl ?_ | refine O_store tabOk rfl rfl rfl rfl rfl rfl rfl rfl rfl rfl rfl ?_ | refine O_slice tabOk rfl rfl rfl rfl rfl rfl rfl rfl rfl rfl rfl ?_ | refine A_ct rfl ?_ | refine A_cf rfl ?_ | refine A_skip ?_ | refine A_exit ?_ | refine A_ret ?_ | refine X_then_exit ?_ | refine X_then_ret ?_ | refine X_in_same ?_ | refine X_in_other rfl ?_ | refine X_in_ret ?_ | refine O_s rfl rfl rfl ?_ | refine Q_s rfl rfl rfl ?_ | refine O_sn rfl rfl ?_ | (first | refine O_appR tabOk rfl rfl rfl rfl rfl rfl rfl rfl rfl rfl rfl (by first | exact Src.row rfl | exact Src.dat _ _ | exact Src.nil) rfl (by omega) ?_ | refine O_appN tabOk rfl rfl rfl rfl rfl rfl rfl rfl rfl rfl (by first | exact Src.row rfl | exact Src.dat _ _ | exact Src.nil) rfl (by omega) ?_))
      exact ⟨js ++ [j], ⟨hnd2, hjl2⟩, by rw [List.length_append]; simp; omega, Wk_sel ⟨kill_fn2 (hcd _) (hcd _), rfl, rfl, trivial⟩ ⟨row_eq (by rw [hcs]; simp) (by rw [hcs, List.flatMap_append]; simp [pfxD]) rfl, rfl, kill_mapx2 _ _ _ _ _ _, rfl, trivial⟩⟩
    | false =>
      rw [hi] at hq2 hcs
      repeat (first | refine A_seq ?_ | refine A_block ?_ | refine R_list ?_ | refine R_quiet rfl mixed (by kernel_rfl) ?_ | ((first | apply O_y rfl rfl rfl | apply Q_y rfl rfl rfl); (first | exact Y_move rfl rfl | exact Y_assign rfl rfl | exact R_index tabOk rfl rfl rfl rfl rfl rfl (by omega) | exact R_fieldi tabOk rfl rfl rfl | exact R_loadi tabOk rfl rfl rfl rfl rfl rfl rfl | exact R_len tabOk rfl rfl rfl | exact R_load tabOk rfl rfl rfl rfl rfl rfl rfl rfl rfl | exact R_field tabOk rfl rfl rfl rfl | exact Y_addn rfl rfl rfl | exact Y_subn rfl rfl rfl | exact R_cmpT rfl rfl rfl rfl | exact R_cmpF rfl rfl rfl rfl | exact Y_ibin rfl rfl rfl rfl | exact Y_extract rfl rfl rfl | exact R_lenr tabOk rfl rfl rfl rfl | exact R_lenn tabOk rfl rfl rfl | exact R_indexr tabOk rfl rfl rfl rfl rfl rfl rfl (by omega) | exact R_fielde tabOk rfl rfl rfl rfl | exact R_loade tabOk rfl rfl rfl rfl rfl rfl rfl rfl rfl | exact Y_not rfl rfl | exact Y_pick_t rfl rfl (by first | rfl | assumption) rfl | exact Y_pick_f rfl rfl (by first | rfl | assumption) rfl | exact Y_pick_b rfl rfl rfl rfl | exact R_build tabOk rfl rfl rfl rfl rfl rfl | (exact R_entry (mid := 1001) (p := (pfxA q.1, intA q.2)) rfl rfl (by rw [← seen_push bs js j b hb]; rfl) rfl hp hb rfl rfl))) | refine O_nil ?_ | refine Q_nil ?_ | refine X_then_normal ?_ | refine X_in_normal ?_ | refine O_box rfl rfl rfl rfl rfl rfl rfl ?_ | refine O_alloc tabOk rfl rfl rfl rfl rfl rfl ?_ | refine O_store tabOk rfl rfl rfl rfl rfl rfl rfl rfl rfl rfl rfl ?_ | refine O_slice tabOk rfl rfl rfl rfl rfl rfl rfl rfl rfl rfl rfl ?_ | refine A_ct rfl ?_ | refine A_cf rfl ?_ | refine A_skip ?_ | refine A_exit ?_ | refine A_ret ?_ | refine X_then_exit ?_ | refine X_then_ret ?_ | refine X_in_same ?_ | refine X_in_other rfl ?_ | refine X_in_ret ?_ | refine O_s rfl rfl rfl ?_ | refine Q_s rfl rfl rfl ?_ | refine O_sn rfl rfl ?_ | fail)
      have hq3 : ACall Try.prog f ([pfxA q.1] ++ caps) [] (fun c h => c = boolA false ∧ h = []) := hq2
      refine O_weaken (Wk_sel (e1 := [(1, .fn f caps), (5, .row 5), (6, .ptr 6 0), (13, .ptr 13 0), (18, .fn f caps), (19, pfxA q.1)]) (h1 := [(6, .var [.d (.sc (.int .u32 q.1.a)), .d (.sc (.int .i64 q.1.b))]), (5, .row 26 2 (come m is js).length ((come m is js).flatMap pfxD)), (13, .it (.mapIter (some r) clk (seenOf bs (js ++ [j])) clk)), (1001, .mapx r bs clk (ents pfxA intA m)), (1000, tblB 1001 u)]) ⟨kill_fn (hcd _), rfl, rfl, rfl, kill_fn (hcd _), rfl, trivial⟩ ⟨rfl, rfl, rfl, congrArg some (kill_mapx _ _ _ _ _), rfl, trivial⟩) ?_
      refine O_cF rfl rfl rfl rfl rfl rfl hq3 (fun _ => rfl) ?_
      repeat (first | refine A_seq ?_ | refine A_block ?_ | refine R_list ?_ | refine R_quiet rfl mixed (by kernel_rfl) ?_ | ((first | apply O_y rfl rfl rfl | apply Q_y rfl rfl rfl); (first | exact Y_move rfl rfl | exact Y_assign rfl rfl | exact R_index tabOk rfl rfl rfl rfl rfl rfl (by omega) | exact R_fieldi tabOk rfl rfl rfl | exact R_loadi tabOk rfl rfl rfl rfl rfl rfl rfl | exact R_len tabOk rfl rfl rfl | exact R_load tabOk rfl rfl rfl rfl rfl rfl rfl rfl rfl | exact R_field tabOk rfl rfl rfl rfl | exact Y_addn rfl rfl rfl | exact Y_subn rfl rfl rfl | exact R_cmpT rfl rfl rfl rfl | exact R_cmpF rfl rfl rfl rfl | exact Y_ibin rfl rfl rfl rfl | exact Y_extract rfl rfl rfl | exact R_lenr tabOk rfl rfl rfl rfl | exact R_lenn tabOk rfl rfl rfl | exact R_indexr tabOk rfl rfl rfl rfl rfl rfl rfl (by omega) | exact R_fielde tabOk rfl rfl rfl rfl | exact R_loade tabOk rfl rfl rfl rfl rfl rfl rfl rfl rfl | exact Y_not rfl rfl | exact Y_pick_t rfl rfl (by first | rfl | assumption) rfl | exact Y_pick_f rfl rfl (by first | rfl | assumption) rfl | exact Y_pick_b rfl rfl rfl rfl | exact R_build tabOk rfl rfl rfl rfl rfl rfl | fail)) | refine O_nil ?_ | refine Q_nil ?_ | refine X_then_normal ?_ | refine X_in_normal ?_ | refine O_box rfl rfl rfl rfl rfl rfl rfl ?_ | refine O_alloc tabOk rfl rfl rfl rfl rfl rfl ?_ | refine O_store tabOk rfl rfl rfl rfl rfl rfl rfl rfl rfl rfl rfl ?_ | refine O_slice tabOk rfl rfl rfl rfl rfl rfl rfl rfl rfl rfl rfl ?_ | refine A_ct rfl ?_ | refine A_cf rfl ?_ | refine A_skip ?_ | refine A_exit ?_ | refine A_ret ?_ | refine X_then_exit ?_ | refine X_then_ret ?_ | refine X_in_same ?_ | refine X_in_other rfl ?_ | refine X_in_ret ?_ | refine O_s rfl rfl rfl ?_ | refine Q_s rfl rfl rfl ?_ | refine O_sn rfl rfl ?_ | fail)
      exact ⟨js ++ [j], ⟨hnd2, hjl2⟩, by rw [List.length_append]; simp; omega, Wk_sel ⟨rfl, rfl, rfl, trivial⟩ ⟨row_eq (by rw [hcs]; simp) (by rw [hcs]; simp) rfl, rfl, rfl, rfl, trivial⟩⟩
end Go.Proofs.Ytaecjmjdhbjbkaa.Ab

namespace Go.Proofs.Ytaecjmjdhbjbkaa
/-- A row: a prefix, its number. -/
abbrev Row := Pfx × Int
namespace Ab
def rowD (r : Row) : List Dat := [.sc (.int .u32 r.1.a), .sc (.int .i64 r.1.b), .sc (.int .i64 r.2)]
theorem rowD_len (r : Row) : (rowD r).length = 3 := rfl
def rowsA (l : List Row) : AVal := .d (.sl (l.flatMap rowD) l.length)
end Ab
end Go.Proofs.Ytaecjmjdhbjbkaa

namespace Go.Proofs.Ytaecjmjdhbjbkaa.Ab
set_option linter.unusedVariables false
set_option maxRecDepth 100000
open Go.RowKit
set_option linter.unusedSimpArgs false
attribute [local irreducible] AWp AOps AQ AYield AEff ACall AWk AAny AAt AThen AIn APost NoPanic

abbrev rowsD (l : List Row) : Dat := .sl (l.flatMap rowD) l.length
abbrev goneA (l : List Row) : AVal := .fn 72 [.iptr [rowsD l] 0]
def goneXs (l : List Row) : List (List AVal) := l.map fun r => [pfxA r.1, intA r.2]
set_option maxHeartbeats 2000000 in
theorem gone_seq (l : List Row) (hn : l.length ≤ 1000000) : ASeq Try.prog 72 [.iptr [rowsD l] 0] (goneXs l) := by
  refine ⟨by kernel_rfl, fun O W us hO hus => ⟨l.map fun r => #[pfxV r.1, .int .i64 r.2], by simp [goneXs], fun i x v h1 h2 => ?_, fun l0 J Jx hJ hJx hY h0 => ?_⟩⟩
  · rw [goneXs, List.getElem?_map] at h1
    rw [List.getElem?_map] at h2
    cases hr : l[i]? with
    | none => simp [hr] at h1
    | some r =>
      simp [hr] at h1 h2
      subst h1 h2
      refine ⟨rfl, fun j c u h3 h4 => ?_⟩
      match j with
      | 0 => simp at h3 h4; subst h3 h4; exact pfxA_rel _ _ _ _
      | 1 => simp at h3 h4; subst h3 h4; exact .d _ _ (.sc _ rfl)
      | j + 2 => simp at h3
  · refine seq_of Try.func72 rfl (congrArg Array.toList Try.results72) ?_
    have hus2 := ArgsRel.cons1 (w := W) (F := O) (ι := fun _ => none) (.d _ _ (.sc (.func (.yield l0) #[] #[]) rfl)) hus
    generalize (#[Value.func (Fn.yield l0) #[] #[]] ++ us : Array Value) = us2 at hus2 ⊢
    have S := SegR.start (k := Try.f72.ntmps - us2.size) hO hus2 (nt := 19) (by rw [show Try.f72.ntmps = 19 from Try.ntmps72]; omega)
    generalize ({ tmps := us2 ++ Array.replicate (Try.f72.ntmps - us2.size) undef, defers := [] } : Act) = a at S ⊢
    refine wpIn_seq (wpIn_region_lit ?_)
    repeat (apply L_y S rfl rfl rfl rfl; (first | exact Y_move rfl rfl | exact Y_assign rfl rfl | exact R_index tabOk rfl rfl rfl rfl rfl rfl (by omega) | exact R_fieldi tabOk rfl rfl rfl | exact R_loadi tabOk rfl rfl rfl rfl rfl rfl rfl | exact R_len tabOk rfl rfl rfl | exact R_load tabOk rfl rfl rfl rfl rfl rfl rfl rfl rfl | exact R_field tabOk rfl rfl rfl rfl | exact Y_addn rfl rfl rfl | exact Y_subn rfl rfl rfl | exact R_cmpT rfl rfl rfl rfl | exact R_cmpF rfl rfl rfl rfl | exact Y_ibin rfl rfl rfl rfl | exact Y_extract rfl rfl rfl | exact R_lenr tabOk rfl rfl rfl rfl | exact R_lenn tabOk rfl rfl rfl | exact R_indexr tabOk rfl rfl rfl rfl rfl rfl rfl (by omega) | exact R_fielde tabOk rfl rfl rfl rfl | exact R_loade tabOk rfl rfl rfl rfl rfl rfl rfl rfl rfl | exact Y_not rfl rfl | exact Y_pick_t rfl rfl (by first | rfl | assumption) rfl | exact Y_pick_f rfl rfl (by first | rfl | assumption) rfl | exact Y_pick_b rfl rfl rfl rfl | exact R_build tabOk rfl rfl rfl rfl rfl rfl | fail); clear S; intro a S)
    apply wpListIn_nil
    change (Code.block 0 _).wpIn _ _ _ _ _ _
    refine wpIn_block ?_
    have hvl : (l.map fun r => #[pfxV r.1, Value.int .i64 r.2]).length = l.length := by simp
    rw [hvl]
    refine wpIn_loop (fun a w => ∃ k, k ≤ l.length ∧ J k w ∧ W.heap.size ≤ w.heap.size ∧ SegR O w 19 [(0, .d (.sc (.func (.yield l0) #[] #[]))), (5, .d (rowsD l)), (6, intA (l.length : Int)), (7, intA (k : Int))] [] a w) (fun a _ => l.length - tmpN a 7) ⟨0, Nat.zero_le _, h0, Nat.le_refl _, S.new ⟨rfl, rfl, rfl, rfl, trivial⟩⟩ ?_
    clear S
    rintro a w ⟨k, hk, hJk, hsz, S⟩
    have hk0 := S.num (t := 7) (k := k) rfl
    generalize tmpN a 7 = k7 at hk0 ⊢
    refine wpIn_seq (wpIn_region_lit ?_)
    by_cases hlt : k < l.length
    · repeat (apply L_y S rfl rfl rfl rfl; (first | exact Y_move rfl rfl | exact Y_assign rfl rfl | exact R_index tabOk rfl rfl rfl rfl rfl rfl (by omega) | exact R_fieldi tabOk rfl rfl rfl | exact R_loadi tabOk rfl rfl rfl rfl rfl rfl rfl | exact R_len tabOk rfl rfl rfl | exact R_load tabOk rfl rfl rfl rfl rfl rfl rfl rfl rfl | exact R_field tabOk rfl rfl rfl rfl | exact Y_addn rfl rfl rfl | exact Y_subn rfl rfl rfl | exact R_cmpT rfl rfl rfl rfl | exact R_cmpF rfl rfl rfl rfl | exact Y_ibin rfl rfl rfl rfl | exact Y_extract rfl rfl rfl | exact R_lenr tabOk rfl rfl rfl rfl | exact R_lenn tabOk rfl rfl rfl | exact R_indexr tabOk rfl rfl rfl rfl rfl rfl rfl (by omega) | exact R_fielde tabOk rfl rfl rfl rfl | exact R_loade tabOk rfl rfl rfl rfl rfl rfl rfl rfl rfl | exact Y_not rfl rfl | exact Y_pick_t rfl rfl (by first | rfl | assumption) rfl | exact Y_pick_f rfl rfl (by first | rfl | assumption) rfl | exact Y_pick_b rfl rfl rfl rfl | exact R_build tabOk rfl rfl rfl rfl rfl rfl | fail); clear S; intro a S)
      apply wpListIn_nil
      change (Code.seq _ _).wpIn _ _ _ _ _ _
      refine wpIn_seq (wpIn_cond_true (S.val rfl rfl) (wpIn_skip ?_))
      change (Code.seq _ _).wpIn _ _ _ _ _ _
      refine wpIn_seq (wpIn_block (wpIn_seq (wpIn_region_lit ?_)))
      repeat (apply L_y S rfl rfl rfl rfl; (first | exact Y_move rfl rfl | exact Y_assign rfl rfl | exact R_index tabOk rfl rfl rfl rfl rfl rfl (by omega) | exact R_fieldi tabOk rfl rfl rfl | exact R_loadi tabOk rfl rfl rfl rfl (by first | exact win_flat0 rowD_len l k _ hlt (by decide) | exact win_flat rowD_len l k _ _ hlt (by decide) | exact win_flat2 rowD_len l k _ _ _ hlt (by decide) | rfl) rfl rfl | exact R_len tabOk rfl rfl rfl | exact R_load tabOk rfl rfl rfl rfl rfl rfl rfl rfl rfl | exact R_field tabOk rfl rfl rfl rfl | exact Y_addn rfl rfl rfl | exact Y_subn rfl rfl rfl | exact R_cmpT rfl rfl rfl rfl | exact R_cmpF rfl rfl rfl rfl | exact Y_ibin rfl rfl rfl rfl | exact Y_extract rfl rfl rfl | exact R_lenr tabOk rfl rfl rfl rfl | exact R_lenn tabOk rfl rfl rfl | exact R_indexr tabOk rfl rfl rfl rfl rfl rfl rfl (by omega) | exact R_fielde tabOk rfl rfl rfl rfl | exact R_loade tabOk rfl rfl rfl rfl rfl rfl rfl rfl rfl | exact Y_not rfl rfl | exact Y_pick_t rfl rfl (by first | rfl | assumption) rfl | exact Y_pick_f rfl rfl (by first | rfl | assumption) rfl | exact Y_pick_b rfl rfl rfl rfl | exact R_build tabOk rfl rfl rfl rfl rfl rfl | fail); clear S; intro a S)
      refine L_alloc S tabOk rfl rfl rfl rfl rfl rfl ?_
      clear S; intro a w1 S
      refine L_store S tabOk rfl rfl rfl rfl rfl rfl rfl rfl rfl rfl rfl ?_
      clear S; intro a w2 S
      apply wpListIn_nil
      change (Code.seq _ _).wpIn _ _ _ _ _ _
      refine wpIn_seq (wpIn_region_lit ?_)
      repeat (apply L_y S rfl rfl rfl rfl; (first | exact Y_move rfl rfl | exact Y_assign rfl rfl | exact R_index tabOk rfl rfl rfl rfl rfl rfl (by omega) | exact R_fieldi tabOk rfl rfl rfl | exact R_loadi tabOk rfl rfl rfl rfl rfl rfl rfl | exact R_len tabOk rfl rfl rfl | exact R_load tabOk rfl rfl rfl rfl rfl rfl rfl rfl rfl | exact R_field tabOk rfl rfl rfl rfl | exact Y_addn rfl rfl rfl | exact Y_subn rfl rfl rfl | exact R_cmpT rfl rfl rfl rfl | exact R_cmpF rfl rfl rfl rfl | exact Y_ibin rfl rfl rfl rfl | exact Y_extract rfl rfl rfl | exact R_lenr tabOk rfl rfl rfl rfl | exact R_lenn tabOk rfl rfl rfl | exact R_indexr tabOk rfl rfl rfl rfl rfl rfl rfl (by omega) | exact R_fielde tabOk rfl rfl rfl rfl | exact R_loade tabOk rfl rfl rfl rfl rfl rfl rfl rfl rfl | exact Y_not rfl rfl | exact Y_pick_t rfl rfl (by first | rfl | assumption) rfl | exact Y_pick_f rfl rfl (by first | rfl | assumption) rfl | exact Y_pick_b rfl rfl rfl rfl | exact R_build tabOk rfl rfl rfl rfl rfl rfl | fail); clear S; intro a S)
      have hJ2 := hJ k _ _ hJk S.grew
      have hsz2 := Nat.le_trans hsz S.grew.size
      have S := S.new (e1 := [(0, .d (.sc (.func (.yield l0) #[] #[]))), (5, .d (rowsD l)), (6, intA (l.length : Int)), (7, intA (k : Int)), (11, .d (.sc (.func (.yield l0) #[] #[]))), (13, pfxA l[k].1), (15, intA l[k].2)]) ⟨rfl, rfl, rfl, rfl, rfl, rfl, rfl, trivial⟩
      have hargs : (#[.tmp 13, .tmp 15] : Array Operand).map a.eval = #[pfxV l[k].1, .int .i64 l[k].2] := by
        have h1 := S.val (x := .tmp 13) rfl (pfxA_val l[k].1)
        have h2 := S.val (x := .tmp 15) (v := .int .i64 l[k].2) rfl rfl
        simp [h1, h2]
      refine L_round (i := k) (l := l0) rfl rfl rfl rfl rfl hargs S (hY k _ _ (by simp [List.getElem?_map, hlt]) hJ2 hsz2) (fun a B hJB hsz3 S => ?_) fun a B hJB _ S => ?_
      · repeat (apply L_y S rfl rfl rfl rfl; (first | exact Y_move rfl rfl | exact Y_assign rfl rfl | exact R_index tabOk rfl rfl rfl rfl rfl rfl (by omega) | exact R_fieldi tabOk rfl rfl rfl | exact R_loadi tabOk rfl rfl rfl rfl rfl rfl rfl | exact R_len tabOk rfl rfl rfl | exact R_load tabOk rfl rfl rfl rfl rfl rfl rfl rfl rfl | exact R_field tabOk rfl rfl rfl rfl | exact Y_addn rfl rfl rfl | exact Y_subn rfl rfl rfl | exact R_cmpT rfl rfl rfl rfl | exact R_cmpF rfl rfl rfl rfl | exact Y_ibin rfl rfl rfl rfl | exact Y_extract rfl rfl rfl | exact R_lenr tabOk rfl rfl rfl rfl | exact R_lenn tabOk rfl rfl rfl | exact R_indexr tabOk rfl rfl rfl rfl rfl rfl rfl (by omega) | exact R_fielde tabOk rfl rfl rfl rfl | exact R_loade tabOk rfl rfl rfl rfl rfl rfl rfl rfl rfl | exact Y_not rfl rfl | exact Y_pick_t rfl rfl (by first | rfl | assumption) rfl | exact Y_pick_f rfl rfl (by first | rfl | assumption) rfl | exact Y_pick_b rfl rfl rfl rfl | exact R_build tabOk rfl rfl rfl rfl rfl rfl | fail); clear S; intro a S)
        apply wpListIn_nil
        change (Code.cond _ _ _).wpIn _ _ _ _ _ _
        refine wpIn_cond_false (S.val rfl rfl) (wpIn_skip ?_)
        change (Code.region _ _ _).wpIn _ _ _ _ _ _
        refine wpIn_region_lit ?_
        repeat (apply L_y S rfl rfl rfl rfl; (first | exact Y_move rfl rfl | exact Y_assign rfl rfl | exact R_index tabOk rfl rfl rfl rfl rfl rfl (by omega) | exact R_fieldi tabOk rfl rfl rfl | exact R_loadi tabOk rfl rfl rfl rfl rfl rfl rfl | exact R_len tabOk rfl rfl rfl | exact R_load tabOk rfl rfl rfl rfl rfl rfl rfl rfl rfl | exact R_field tabOk rfl rfl rfl rfl | exact Y_addn rfl rfl rfl | exact Y_subn rfl rfl rfl | exact R_cmpT rfl rfl rfl rfl | exact R_cmpF rfl rfl rfl rfl | exact Y_ibin rfl rfl rfl rfl | exact Y_extract rfl rfl rfl | exact R_lenr tabOk rfl rfl rfl rfl | exact R_lenn tabOk rfl rfl rfl | exact R_indexr tabOk rfl rfl rfl rfl rfl rfl rfl (by omega) | exact R_fielde tabOk rfl rfl rfl rfl | exact R_loade tabOk rfl rfl rfl rfl rfl rfl rfl rfl rfl | exact Y_not rfl rfl | exact Y_pick_t rfl rfl (by first | rfl | assumption) rfl | exact Y_pick_f rfl rfl (by first | rfl | assumption) rfl | exact Y_pick_b rfl rfl rfl rfl | exact R_build tabOk rfl rfl rfl rfl rfl rfl | fail); clear S; intro a S)
        apply wpListIn_nil
        refine ⟨⟨k + 1, hlt, hJB, Nat.le_trans hsz2 hsz3, S.new ⟨rfl, rfl, rfl, rfl, trivial⟩⟩, ?_⟩
        have h1 := S.num (t := 7) (k := k + 1) rfl
        rw [h1, ← hk0]
        omega
      · repeat (apply L_y S rfl rfl rfl rfl; (first | exact Y_move rfl rfl | exact Y_assign rfl rfl | exact R_index tabOk rfl rfl rfl rfl rfl rfl (by omega) | exact R_fieldi tabOk rfl rfl rfl | exact R_loadi tabOk rfl rfl rfl rfl rfl rfl rfl | exact R_len tabOk rfl rfl rfl | exact R_load tabOk rfl rfl rfl rfl rfl rfl rfl rfl rfl | exact R_field tabOk rfl rfl rfl rfl | exact Y_addn rfl rfl rfl | exact Y_subn rfl rfl rfl | exact R_cmpT rfl rfl rfl rfl | exact R_cmpF rfl rfl rfl rfl | exact Y_ibin rfl rfl rfl rfl | exact Y_extract rfl rfl rfl | exact R_lenr tabOk rfl rfl rfl rfl | exact R_lenn tabOk rfl rfl rfl | exact R_indexr tabOk rfl rfl rfl rfl rfl rfl rfl (by omega) | exact R_fielde tabOk rfl rfl rfl rfl | exact R_loade tabOk rfl rfl rfl rfl rfl rfl rfl rfl rfl | exact Y_not rfl rfl | exact Y_pick_t rfl rfl (by first | rfl | assumption) rfl | exact Y_pick_f rfl rfl (by first | rfl | assumption) rfl | exact Y_pick_b rfl rfl rfl rfl | exact R_build tabOk rfl rfl rfl rfl rfl rfl | fail); clear S; intro a S)
        apply wpListIn_nil
        change (Code.cond _ _ _).wpIn _ _ _ _ _ _
        refine wpIn_cond_true (S.val rfl rfl) (wpIn_ret ?_)
        exact ⟨.inr rfl, S.nodef, .inr hJB⟩
    · repeat (apply L_y S rfl rfl rfl rfl; (first | exact Y_move rfl rfl | exact Y_assign rfl rfl | exact R_index tabOk rfl rfl rfl rfl rfl rfl (by omega) | exact R_fieldi tabOk rfl rfl rfl | exact R_loadi tabOk rfl rfl rfl rfl rfl rfl rfl | exact R_len tabOk rfl rfl rfl | exact R_load tabOk rfl rfl rfl rfl rfl rfl rfl rfl rfl | exact R_field tabOk rfl rfl rfl rfl | exact Y_addn rfl rfl rfl | exact Y_subn rfl rfl rfl | exact R_cmpT rfl rfl rfl rfl | exact R_cmpF rfl rfl rfl rfl | exact Y_ibin rfl rfl rfl rfl | exact Y_extract rfl rfl rfl | exact R_lenr tabOk rfl rfl rfl rfl | exact R_lenn tabOk rfl rfl rfl | exact R_indexr tabOk rfl rfl rfl rfl rfl rfl rfl (by omega) | exact R_fielde tabOk rfl rfl rfl rfl | exact R_loade tabOk rfl rfl rfl rfl rfl rfl rfl rfl rfl | exact Y_not rfl rfl | exact Y_pick_t rfl rfl (by first | rfl | assumption) rfl | exact Y_pick_f rfl rfl (by first | rfl | assumption) rfl | exact Y_pick_b rfl rfl rfl rfl | exact R_build tabOk rfl rfl rfl rfl rfl rfl | fail); clear S; intro a S)
      apply wpListIn_nil
      change (Code.seq _ _).wpIn _ _ _ _ _ _
      refine wpIn_seq (wpIn_cond_false (S.val rfl rfl) (wpIn_exit ?_))
      have : k = l.length := by omega
      subst this
      exact ⟨.inl rfl, S.nodef, .inl hJk⟩
end Go.Proofs.Ytaecjmjdhbjbkaa.Ab

namespace Go.Proofs.Ytaecjmjdhbjbkaa.Ab
set_option linter.unusedVariables false
set_option maxRecDepth 100000
open Go.RowKit
set_option linter.unusedSimpArgs false
attribute [local irreducible] AWp AOps AQ AYield AEff ACall AWk AAny AAt AThen AIn APost NoPanic

/-- The rows of some prefixes of a table. -/
def rowsOf (m : List (Pfx × Int)) (l : List Pfx) : List Row := l.map fun p => (p, (aget m p).getD 0)
theorem kill2 (i j : Nat) (l : List (Pfx × Int)) : some (killB i (killB j (mapB l))) = some (mapB l) := by
  have h : ∀ i, killB i (mapB l) = mapB l := fun i => Option.some.inj (kill_map i l)
  rw [h, h]
theorem fz_map (id : Nat) (ds : List Dat) (l : List (Pfx × Int)) : some (fzB id ds (mapB l)) = some (mapB l) := by
  show some (ABlk.map ((l.map fun p => (pfxA p.1, intA p.2)).map fun p => (fzV id ds p.1, fzV id ds p.2))) = _
  rw [List.map_map]
  rfl
theorem rowsOf_len (m : List (Pfx × Int)) (l : List Pfx) : (rowsOf m l).length = l.length := by simp [rowsOf]
set_option maxHeartbeats 4000000 in
theorem gone_A (u : Nat → Int) (m : List (Pfx × Int)) (l : List Pfx) (hn : (m.map (·.1)).Nodup) (hk : ∀ p ∈ l, ∃ z, aget m p = some z) (hl : l.length ≤ 1000000) :
    ACall Try.prog 52 [.ptr 1000 0, pfxsA l] [(1000, tblB 1001 u), (1001, mapB m)] (fun c h => c = goneA (rowsOf m l) ∧ h = [(1000, tblB 1001 u), (1001, mapB m)]) := by
  refine ACall_of tabOk Try.func52 rfl Try.ntmps52 (congrArg Array.toList Try.results52) (by kernel_rfl) rfl ?_
  repeat (first | refine A_seq ?_ | refine A_block ?_ | refine R_list ?_ | refine R_quiet rfl mixed (by kernel_rfl) ?_ | ((first | apply O_y rfl rfl rfl | apply Q_y rfl rfl rfl); (first | exact Y_move rfl rfl | exact Y_assign rfl rfl | exact R_index tabOk rfl rfl rfl rfl rfl rfl (by omega) | exact R_fieldi tabOk rfl rfl rfl | exact R_loadi tabOk rfl rfl rfl rfl rfl rfl rfl | exact R_len tabOk rfl rfl rfl | exact R_load tabOk rfl rfl rfl rfl rfl rfl rfl rfl rfl | exact R_field tabOk rfl rfl rfl rfl | exact Y_addn rfl rfl rfl | exact Y_subn rfl rfl rfl | exact R_cmpT rfl rfl rfl rfl | exact R_cmpF rfl rfl rfl rfl | exact Y_ibin rfl rfl rfl rfl | exact Y_extract rfl rfl rfl | exact R_lenr tabOk rfl rfl rfl rfl | exact R_lenn tabOk rfl rfl rfl | exact R_indexr tabOk rfl rfl rfl rfl rfl rfl rfl (by omega) | exact R_fielde tabOk rfl rfl rfl rfl | exact R_loade tabOk rfl rfl rfl rfl rfl rfl rfl rfl rfl | exact Y_not rfl rfl | exact Y_pick_t rfl rfl (by first | rfl | assumption) rfl | exact Y_pick_f rfl rfl (by first | rfl | assumption) rfl | exact Y_pick_b rfl rfl rfl rfl | exact R_build tabOk rfl rfl rfl rfl rfl rfl | fail)) | refine O_nil ?_ | refine Q_nil ?_ | refine X_then_normal ?_ | refine X_in_normal ?_ | refine O_box rfl rfl rfl rfl rfl rfl rfl ?_ | refine O_alloc tabOk rfl rfl rfl rfl rfl rfl ?_ | refine O_store tabOk rfl rfl rfl rfl rfl rfl rfl rfl rfl rfl rfl ?_ | refine O_slice tabOk rfl rfl rfl rfl rfl rfl rfl rfl rfl rfl rfl ?_ | refine A_ct rfl ?_ | refine A_cf rfl ?_ | refine A_skip ?_ | refine A_exit ?_ | refine A_ret ?_ | refine X_then_exit ?_ | refine X_then_ret ?_ | refine X_in_same ?_ | refine X_in_other rfl ?_ | refine X_in_ret ?_ | refine O_s rfl rfl rfl ?_ | refine Q_s rfl rfl rfl ?_ | refine O_sn rfl rfl ?_ | fail)
  refine A_weaken (Wk_sel (e1 := [(0, .ptr 1000 0), (5, .ptr 5 0), (8, pfxsA l), (9, intA (l.length : Int)), (10, intA 0)]) (h1 := [(5, .var [.d (.sc (.slice none 0 0))]), (1000, tblB 1001 u), (1001, mapB m)]) ⟨rfl, rfl, rfl, rfl, rfl, trivial⟩ ⟨rfl, rfl, kill_map 5 m, trivial⟩) ?_
  refine A_weaken (Wk_nilB (b := 5) (id := 24) 109 3 rfl rfl rfl) ?_
  refine A_loop (fun k : Nat => [(0, .ptr 1000 0), (5, .ptr 5 0), (8, pfxsA l), (9, intA (l.length : Int)), (10, intA (k : Int))]) (fun k => [(5, .var [.row 24]), (24, .row 109 3 k ((rowsOf m (l.take k)).flatMap rowD)), (1000, tblB 1001 u), (1001, mapB m)]) (fun k => k ≤ l.length) (fun k => l.length - k) 0 (by omega) (Wk_sel ⟨rfl, rfl, rfl, rfl, rfl, trivial⟩ ⟨rfl, rfl, rfl, kill_map 24 m, trivial⟩) ?_
  intro k hkl
  dsimp only
  by_cases hlt : k < l.length
  ·
    repeat (first | refine A_seq ?_ | refine A_block ?_ | refine R_list ?_ | refine R_quiet rfl mixed (by kernel_rfl) ?_ | ((first | apply O_y rfl rfl rfl | apply Q_y rfl rfl rfl); (first | exact Y_move rfl rfl | exact Y_assign rfl rfl | exact R_index tabOk rfl rfl rfl rfl rfl rfl (by omega) | exact R_fieldi tabOk rfl rfl rfl | exact R_loadi tabOk rfl rfl rfl rfl (by first | exact win_flat0 pfxD_len l k _ hlt (by decide) | exact win_flat pfxD_len l k _ _ hlt (by decide) | exact win_flat2 pfxD_len l k _ _ _ hlt (by decide) | rfl) rfl rfl | exact R_len tabOk rfl rfl rfl | exact R_load tabOk rfl rfl rfl rfl rfl rfl rfl rfl rfl | exact R_field tabOk rfl rfl rfl rfl | exact Y_addn rfl rfl rfl | exact Y_subn rfl rfl rfl | exact R_cmpT rfl rfl rfl rfl | exact R_cmpF rfl rfl rfl rfl | exact Y_ibin rfl rfl rfl rfl | exact Y_extract rfl rfl rfl | exact R_lenr tabOk rfl rfl rfl rfl | exact R_lenn tabOk rfl rfl rfl | exact R_indexr tabOk rfl rfl rfl rfl rfl rfl rfl (by omega) | exact R_fielde tabOk rfl rfl rfl rfl | exact R_loade tabOk rfl rfl rfl rfl rfl rfl rfl rfl rfl | exact Y_not rfl rfl | exact Y_pick_t rfl rfl (by first | rfl | assumption) rfl | exact Y_pick_f rfl rfl (by first | rfl | assumption) rfl | exact Y_pick_b rfl rfl rfl rfl | exact R_build tabOk rfl rfl rfl rfl rfl rfl | fail)) | refine O_nil ?_ | refine Q_nil ?_ | refine X_then_normal ?_ | refine X_in_normal ?_ | refine O_box rfl rfl rfl rfl rfl rfl rfl ?_ | refine O_alloc tabOk rfl rfl rfl rfl rfl rfl ?_ | refine O_store tabOk rfl rfl rfl rfl rfl rfl rfl rfl rfl rfl rfl ?_ | refine O_slice tabOk rfl rfl rfl rfl rfl rfl rfl rfl rfl rfl rfl ?_ | refine A_ct rfl ?_ | refine A_cf rfl ?_ | refine A_skip ?_ | refine A_exit ?_ | refine A_ret ?_ | refine X_then_exit ?_ | refine X_then_ret ?_ | refine X_in_same ?_ | refine X_in_other rfl ?_ | refine X_in_ret ?_ | refine O_s rfl rfl rfl ?_ | refine Q_s rfl rfl rfl ?_ | refine O_sn rfl rfl ?_ | fail)
    obtain ⟨q, hq⟩ : ∃ q, l[k] = q := ⟨_, rfl⟩
    rw [hq]
    obtain ⟨z, hz⟩ := hk q (by rw [← hq]; exact List.getElem_mem hlt)
    have hrow : rowsOf m (l.take (k + 1)) = rowsOf m (l.take k) ++ [(q, z)] := by
      rw [List.take_add_one, List.getElem?_eq_getElem hlt, hq]
      simp [rowsOf, hz]
    refine A_weaken (Wk_sel (e1 := [(0, .ptr 1000 0), (5, .ptr 5 0), (7, .ptr 7 0), (8, pfxsA l), (9, intA (l.length : Int)), (10, intA (k : Int))]) (h1 := [(7, .var [.d (.sc (.int .u32 q.a)), .d (.sc (.int .i64 q.b))]), (5, .var [.row 24]), (24, .row 109 3 k ((rowsOf m (l.take k)).flatMap rowD)), (1000, tblB 1001 u), (1001, mapB m)]) ⟨rfl, rfl, rfl, rfl, rfl, rfl, trivial⟩ ⟨rfl, rfl, rfl, rfl, kill_map 7 m, trivial⟩) ?_
    refine N_begin [24, 5] mixed ?_
    repeat (first | ((first | apply N_takeN (i := 0) rfl rfl (by kernel_rfl) (by decide +kernel) (by decide +kernel) (by repeat (first | exact np_post | apply np_then | apply np_in)) rfl rfl rfl | apply N_takeN (i := 1) rfl rfl (by kernel_rfl) (by decide +kernel) (by decide +kernel) (by repeat (first | exact np_post | apply np_then | apply np_in)) rfl rfl rfl | apply N_takeN (i := 2) rfl rfl (by kernel_rfl) (by decide +kernel) (by decide +kernel) (by repeat (first | exact np_post | apply np_then | apply np_in)) rfl rfl rfl | apply N_takeN (i := 3) rfl rfl (by kernel_rfl) (by decide +kernel) (by decide +kernel) (by repeat (first | exact np_post | apply np_then | apply np_in)) rfl rfl rfl | apply N_takeN (i := 4) rfl rfl (by kernel_rfl) (by decide +kernel) (by decide +kernel) (by repeat (first | exact np_post | apply np_then | apply np_in)) rfl rfl rfl | apply N_takeN (i := 5) rfl rfl (by kernel_rfl) (by decide +kernel) (by decide +kernel) (by repeat (first | exact np_post | apply np_then | apply np_in)) rfl rfl rfl | apply N_takeN (i := 6) rfl rfl (by kernel_rfl) (by decide +kernel) (by decide +kernel) (by repeat (first | exact np_post | apply np_then | apply np_in)) rfl rfl rfl | apply N_takeN (i := 7) rfl rfl (by kernel_rfl) (by decide +kernel) (by decide +kernel) (by repeat (first | exact np_post | apply np_then | apply np_in)) rfl rfl rfl | apply N_takeN (i := 8) rfl rfl (by kernel_rfl) (by decide +kernel) (by decide +kernel) (by repeat (first | exact np_post | apply np_then | apply np_in)) rfl rfl rfl | apply N_takeN (i := 9) rfl rfl (by kernel_rfl) (by decide +kernel) (by decide +kernel) (by repeat (first | exact np_post | apply np_then | apply np_in)) rfl rfl rfl | apply N_takeN (i := 10) rfl rfl (by kernel_rfl) (by decide +kernel) (by decide +kernel) (by repeat (first | exact np_post | apply np_then | apply np_in)) rfl rfl rfl | apply N_takeN (i := 11) rfl rfl (by kernel_rfl) (by decide +kernel) (by decide +kernel) (by repeat (first | exact np_post | apply np_then | apply np_in)) rfl rfl rfl | apply N_takeN (i := 12) rfl rfl (by kernel_rfl) (by decide +kernel) (by decide +kernel) (by repeat (first | exact np_post | apply np_then | apply np_in)) rfl rfl rfl ); (first | exact Y_move rfl rfl | exact Y_assign rfl rfl | exact R_index tabOk rfl rfl rfl rfl rfl rfl (by omega) | exact R_fieldi tabOk rfl rfl rfl | exact R_loadi tabOk rfl rfl rfl rfl rfl rfl rfl | exact R_len tabOk rfl rfl rfl | exact R_load tabOk rfl rfl rfl rfl rfl rfl rfl rfl rfl | exact R_field tabOk rfl rfl rfl rfl | exact Y_addn rfl rfl rfl | exact Y_subn rfl rfl rfl | exact R_cmpT rfl rfl rfl rfl | exact R_cmpF rfl rfl rfl rfl | exact Y_ibin rfl rfl rfl rfl | exact Y_extract rfl rfl rfl | exact R_lenr tabOk rfl rfl rfl rfl | exact R_lenn tabOk rfl rfl rfl | exact R_indexr tabOk rfl rfl rfl rfl rfl rfl rfl (by omega) | exact R_fielde tabOk rfl rfl rfl rfl | exact R_loade tabOk rfl rfl rfl rfl rfl rfl rfl rfl rfl | exact Y_not rfl rfl | exact Y_pick_t rfl rfl (by first | rfl | assumption) rfl | exact Y_pick_f rfl rfl (by first | rfl | assumption) rfl | exact Y_pick_b rfl rfl rfl rfl | exact R_build tabOk rfl rfl rfl rfl rfl rfl | (first | exact Y_nilCheck rfl rfl rfl | exact R_lk1 (k := q) pfxKey pfxA_val zeroInt trivial (fun _ _ => trivial) hn hz tabOk rfl rfl rfl rfl rfl rfl | exact R_build tabOk rfl rfl rfl rfl rfl rfl))) | (apply N_takeL (i := 0) rfl rfl (by kernel_rfl) (by decide +kernel) (by decide +kernel) (by repeat (first | exact np_post | apply np_then | apply np_in)) rfl rfl rfl; (first | exact R_loadi tabOk rfl rfl rfl rfl rfl rfl rfl | exact R_len tabOk rfl rfl rfl | exact R_load tabOk rfl rfl rfl rfl rfl rfl rfl rfl rfl | exact R_lenr tabOk rfl rfl rfl rfl | exact R_lenn tabOk rfl rfl rfl | exact R_loade tabOk rfl rfl rfl rfl rfl rfl rfl rfl rfl | (first | exact Y_nilCheck rfl rfl rfl | exact R_lk1 (k := q) pfxKey pfxA_val zeroInt trivial (fun _ _ => trivial) hn hz tabOk rfl rfl rfl rfl rfl rfl | exact R_build tabOk rfl rfl rfl rfl rfl rfl))) | (apply N_takeL (i := 1) rfl rfl (by kernel_rfl) (by decide +kernel) (by decide +kernel) (by repeat (first | exact np_post | apply np_then | apply np_in)) rfl rfl rfl; (first | exact R_loadi tabOk rfl rfl rfl rfl rfl rfl rfl | exact R_len tabOk rfl rfl rfl | exact R_load tabOk rfl rfl rfl rfl rfl rfl rfl rfl rfl | exact R_lenr tabOk rfl rfl rfl rfl | exact R_lenn tabOk rfl rfl rfl | exact R_loade tabOk rfl rfl rfl rfl rfl rfl rfl rfl rfl | (first | exact Y_nilCheck rfl rfl rfl | exact R_lk1 (k := q) pfxKey pfxA_val zeroInt trivial (fun _ _ => trivial) hn hz tabOk rfl rfl rfl rfl rfl rfl | exact R_build tabOk rfl rfl rfl rfl rfl rfl))) | (apply N_takeL (i := 2) rfl rfl (by kernel_rfl) (by decide +kernel) (by decide +kernel) (by repeat (first | exact np_post | apply np_then | apply np_in)) rfl rfl rfl; (first | exact R_loadi tabOk rfl rfl rfl rfl rfl rfl rfl | exact R_len tabOk rfl rfl rfl | exact R_load tabOk rfl rfl rfl rfl rfl rfl rfl rfl rfl | exact R_lenr tabOk rfl rfl rfl rfl | exact R_lenn tabOk rfl rfl rfl | exact R_loade tabOk rfl rfl rfl rfl rfl rfl rfl rfl rfl | (first | exact Y_nilCheck rfl rfl rfl | exact R_lk1 (k := q) pfxKey pfxA_val zeroInt trivial (fun _ _ => trivial) hn hz tabOk rfl rfl rfl rfl rfl rfl | exact R_build tabOk rfl rfl rfl rfl rfl rfl))) | (apply N_takeL (i := 3) rfl rfl (by kernel_rfl) (by decide +kernel) (by decide +kernel) (by repeat (first | exact np_post | apply np_then | apply np_in)) rfl rfl rfl; (first | exact R_loadi tabOk rfl rfl rfl rfl rfl rfl rfl | exact R_len tabOk rfl rfl rfl | exact R_load tabOk rfl rfl rfl rfl rfl rfl rfl rfl rfl | exact R_lenr tabOk rfl rfl rfl rfl | exact R_lenn tabOk rfl rfl rfl | exact R_loade tabOk rfl rfl rfl rfl rfl rfl rfl rfl rfl | (first | exact Y_nilCheck rfl rfl rfl | exact R_lk1 (k := q) pfxKey pfxA_val zeroInt trivial (fun _ _ => trivial) hn hz tabOk rfl rfl rfl rfl rfl rfl | exact R_build tabOk rfl rfl rfl rfl rfl rfl))) | (apply N_takeL (i := 4) rfl rfl (by kernel_rfl) (by decide +kernel) (by decide +kernel) (by repeat (first | exact np_post | apply np_then | apply np_in)) rfl rfl rfl; (first | exact R_loadi tabOk rfl rfl rfl rfl rfl rfl rfl | exact R_len tabOk rfl rfl rfl | exact R_load tabOk rfl rfl rfl rfl rfl rfl rfl rfl rfl | exact R_lenr tabOk rfl rfl rfl rfl | exact R_lenn tabOk rfl rfl rfl | exact R_loade tabOk rfl rfl rfl rfl rfl rfl rfl rfl rfl | (first | exact Y_nilCheck rfl rfl rfl | exact R_lk1 (k := q) pfxKey pfxA_val zeroInt trivial (fun _ _ => trivial) hn hz tabOk rfl rfl rfl rfl rfl rfl | exact R_build tabOk rfl rfl rfl rfl rfl rfl))) | (apply N_takeL (i := 5) rfl rfl (by kernel_rfl) (by decide +kernel) (by decide +kernel) (by repeat (first | exact np_post | apply np_then | apply np_in)) rfl rfl rfl; (first | exact R_loadi tabOk rfl rfl rfl rfl rfl rfl rfl | exact R_len tabOk rfl rfl rfl | exact R_load tabOk rfl rfl rfl rfl rfl rfl rfl rfl rfl | exact R_lenr tabOk rfl rfl rfl rfl | exact R_lenn tabOk rfl rfl rfl | exact R_loade tabOk rfl rfl rfl rfl rfl rfl rfl rfl rfl | (first | exact Y_nilCheck rfl rfl rfl | exact R_lk1 (k := q) pfxKey pfxA_val zeroInt trivial (fun _ _ => trivial) hn hz tabOk rfl rfl rfl rfl rfl rfl | exact R_build tabOk rfl rfl rfl rfl rfl rfl))) | (apply N_takeL (i := 6) rfl rfl (by kernel_rfl) (by decide +kernel) (by decide +kernel) (by repeat (first | exact np_post | apply np_then | apply np_in)) rfl rfl rfl; (first | exact R_loadi tabOk rfl rfl rfl rfl rfl rfl rfl | exact R_len tabOk rfl rfl rfl | exact R_load tabOk rfl rfl rfl rfl rfl rfl rfl rfl rfl | exact R_lenr tabOk rfl rfl rfl rfl | exact R_lenn tabOk rfl rfl rfl | exact R_loade tabOk rfl rfl rfl rfl rfl rfl rfl rfl rfl | (first | exact Y_nilCheck rfl rfl rfl | exact R_lk1 (k := q) pfxKey pfxA_val zeroInt trivial (fun _ _ => trivial) hn hz tabOk rfl rfl rfl rfl rfl rfl | exact R_build tabOk rfl rfl rfl rfl rfl rfl))) | (apply N_takeL (i := 7) rfl rfl (by kernel_rfl) (by decide +kernel) (by decide +kernel) (by repeat (first | exact np_post | apply np_then | apply np_in)) rfl rfl rfl; (first | exact R_loadi tabOk rfl rfl rfl rfl rfl rfl rfl | exact R_len tabOk rfl rfl rfl | exact R_load tabOk rfl rfl rfl rfl rfl rfl rfl rfl rfl | exact R_lenr tabOk rfl rfl rfl rfl | exact R_lenn tabOk rfl rfl rfl | exact R_loade tabOk rfl rfl rfl rfl rfl rfl rfl rfl rfl | (first | exact Y_nilCheck rfl rfl rfl | exact R_lk1 (k := q) pfxKey pfxA_val zeroInt trivial (fun _ _ => trivial) hn hz tabOk rfl rfl rfl rfl rfl rfl | exact R_build tabOk rfl rfl rfl rfl rfl rfl))) | (apply N_takeL (i := 8) rfl rfl (by kernel_rfl) (by decide +kernel) (by decide +kernel) (by repeat (first | exact np_post | apply np_then | apply np_in)) rfl rfl rfl; (first | exact R_loadi tabOk rfl rfl rfl rfl rfl rfl rfl | exact R_len tabOk rfl rfl rfl | exact R_load tabOk rfl rfl rfl rfl rfl rfl rfl rfl rfl | exact R_lenr tabOk rfl rfl rfl rfl | exact R_lenn tabOk rfl rfl rfl | exact R_loade tabOk rfl rfl rfl rfl rfl rfl rfl rfl rfl | (first | exact Y_nilCheck rfl rfl rfl | exact R_lk1 (k := q) pfxKey pfxA_val zeroInt trivial (fun _ _ => trivial) hn hz tabOk rfl rfl rfl rfl rfl rfl | exact R_build tabOk rfl rfl rfl rfl rfl rfl))) | (apply N_takeL (i := 9) rfl rfl (by kernel_rfl) (by decide +kernel) (by decide +kernel) (by repeat (first | exact np_post | apply np_then | apply np_in)) rfl rfl rfl; (first | exact R_loadi tabOk rfl rfl rfl rfl rfl rfl rfl | exact R_len tabOk rfl rfl rfl | exact R_load tabOk rfl rfl rfl rfl rfl rfl rfl rfl rfl | exact R_lenr tabOk rfl rfl rfl rfl | exact R_lenn tabOk rfl rfl rfl | exact R_loade tabOk rfl rfl rfl rfl rfl rfl rfl rfl rfl | (first | exact Y_nilCheck rfl rfl rfl | exact R_lk1 (k := q) pfxKey pfxA_val zeroInt trivial (fun _ _ => trivial) hn hz tabOk rfl rfl rfl rfl rfl rfl | exact R_build tabOk rfl rfl rfl rfl rfl rfl))) | (apply N_takeL (i := 10) rfl rfl (by kernel_rfl) (by decide +kernel) (by decide +kernel) (by repeat (first | exact np_post | apply np_then | apply np_in)) rfl rfl rfl; (first | exact R_loadi tabOk rfl rfl rfl rfl rfl rfl rfl | exact R_len tabOk rfl rfl rfl | exact R_load tabOk rfl rfl rfl rfl rfl rfl rfl rfl rfl | exact R_lenr tabOk rfl rfl rfl rfl | exact R_lenn tabOk rfl rfl rfl | exact R_loade tabOk rfl rfl rfl rfl rfl rfl rfl rfl rfl | (first | exact Y_nilCheck rfl rfl rfl | exact R_lk1 (k := q) pfxKey pfxA_val zeroInt trivial (fun _ _ => trivial) hn hz tabOk rfl rfl rfl rfl rfl rfl | exact R_build tabOk rfl rfl rfl rfl rfl rfl))) | (apply N_takeL (i := 11) rfl rfl (by kernel_rfl) (by decide +kernel) (by decide +kernel) (by repeat (first | exact np_post | apply np_then | apply np_in)) rfl rfl rfl; (first | exact R_loadi tabOk rfl rfl rfl rfl rfl rfl rfl | exact R_len tabOk rfl rfl rfl | exact R_load tabOk rfl rfl rfl rfl rfl rfl rfl rfl rfl | exact R_lenr tabOk rfl rfl rfl rfl | exact R_lenn tabOk rfl rfl rfl | exact R_loade tabOk rfl rfl rfl rfl rfl rfl rfl rfl rfl | (first | exact Y_nilCheck rfl rfl rfl | exact R_lk1 (k := q) pfxKey pfxA_val zeroInt trivial (fun _ _ => trivial) hn hz tabOk rfl rfl rfl rfl rfl rfl | exact R_build tabOk rfl rfl rfl rfl rfl rfl))) | (apply N_takeL (i := 12) rfl rfl (by kernel_rfl) (by decide +kernel) (by decide +kernel) (by repeat (first | exact np_post | apply np_then | apply np_in)) rfl rfl rfl; (first | exact R_loadi tabOk rfl rfl rfl rfl rfl rfl rfl | exact R_len tabOk rfl rfl rfl | exact R_load tabOk rfl rfl rfl rfl rfl rfl rfl rfl rfl | exact R_lenr tabOk rfl rfl rfl rfl | exact R_lenn tabOk rfl rfl rfl | exact R_loade tabOk rfl rfl rfl rfl rfl rfl rfl rfl rfl | (first | exact Y_nilCheck rfl rfl rfl | exact R_lk1 (k := q) pfxKey pfxA_val zeroInt trivial (fun _ _ => trivial) hn hz tabOk rfl rfl rfl rfl rfl rfl | exact R_build tabOk rfl rfl rfl rfl rfl rfl))) | refine N_one (j := 0) (by decide +kernel) ?_ | refine N_one (j := 1) (by decide +kernel) ?_ | refine N_one (j := 2) (by decide +kernel) ?_ | refine N_one (j := 3) (by decide +kernel) ?_ | refine N_one (j := 4) (by decide +kernel) ?_ | refine N_one (j := 5) (by decide +kernel) ?_ | refine N_one (j := 6) (by decide +kernel) ?_ | refine N_one (j := 7) (by decide +kernel) ?_ | refine N_one (j := 8) (by decide +kernel) ?_ | refine N_one (j := 9) (by decide +kernel) ?_ | refine N_one (j := 10) (by decide +kernel) ?_ | refine N_one (j := 11) (by decide +kernel) ?_ | refine N_one (j := 12) (by decide +kernel) ?_ | refine T_alloc tabOk rfl rfl rfl rfl rfl rfl rfl ?_ | refine T_store tabOk rfl rfl rfl rfl rfl rfl rfl rfl rfl rfl rfl rfl rfl ?_ | refine T_box rfl rfl rfl rfl rfl rfl rfl rfl ?_ | (apply T_yield rfl rfl rfl rfl; (first | exact Y_move rfl rfl | exact Y_assign rfl rfl | exact R_index tabOk rfl rfl rfl rfl rfl rfl (by omega) | exact R_fieldi tabOk rfl rfl rfl | exact R_loadi tabOk rfl rfl rfl rfl rfl rfl rfl | exact R_len tabOk rfl rfl rfl | exact R_load tabOk rfl rfl rfl rfl rfl rfl rfl rfl rfl | exact R_field tabOk rfl rfl rfl rfl | exact Y_addn rfl rfl rfl | exact Y_subn rfl rfl rfl | exact R_cmpT rfl rfl rfl rfl | exact R_cmpF rfl rfl rfl rfl | exact Y_ibin rfl rfl rfl rfl | exact Y_extract rfl rfl rfl | exact R_lenr tabOk rfl rfl rfl rfl | exact R_lenn tabOk rfl rfl rfl | exact R_indexr tabOk rfl rfl rfl rfl rfl rfl rfl (by omega) | exact R_fielde tabOk rfl rfl rfl rfl | exact R_loade tabOk rfl rfl rfl rfl rfl rfl rfl rfl rfl | exact Y_not rfl rfl | exact Y_pick_t rfl rfl (by first | rfl | assumption) rfl | exact Y_pick_f rfl rfl (by first | rfl | assumption) rfl | exact Y_pick_b rfl rfl rfl rfl | exact R_build tabOk rfl rfl rfl rfl rfl rfl | (first | exact Y_nilCheck rfl rfl rfl | exact R_lk1 (k := q) pfxKey pfxA_val zeroInt trivial (fun _ _ => trivial) hn hz tabOk rfl rfl rfl rfl rfl rfl | exact R_build tabOk rfl rfl rfl rfl rfl rfl))) | refine N_done (by decide +kernel) ?_ | fail)
    refine N_two (j := 0) (k := 9) (by kernel_rfl) ?_ ?_
    ·
      repeat (first | ((first | apply N_takeN (i := 0) rfl rfl (by kernel_rfl) (by decide +kernel) (by decide +kernel) (by repeat (first | exact np_post | apply np_then | apply np_in)) rfl rfl rfl | apply N_takeN (i := 1) rfl rfl (by kernel_rfl) (by decide +kernel) (by decide +kernel) (by repeat (first | exact np_post | apply np_then | apply np_in)) rfl rfl rfl | apply N_takeN (i := 2) rfl rfl (by kernel_rfl) (by decide +kernel) (by decide +kernel) (by repeat (first | exact np_post | apply np_then | apply np_in)) rfl rfl rfl | apply N_takeN (i := 3) rfl rfl (by kernel_rfl) (by decide +kernel) (by decide +kernel) (by repeat (first | exact np_post | apply np_then | apply np_in)) rfl rfl rfl | apply N_takeN (i := 4) rfl rfl (by kernel_rfl) (by decide +kernel) (by decide +kernel) (by repeat (first | exact np_post | apply np_then | apply np_in)) rfl rfl rfl | apply N_takeN (i := 5) rfl rfl (by kernel_rfl) (by decide +kernel) (by decide +kernel) (by repeat (first | exact np_post | apply np_then | apply np_in)) rfl rfl rfl | apply N_takeN (i := 6) rfl rfl (by kernel_rfl) (by decide +kernel) (by decide +kernel) (by repeat (first | exact np_post | apply np_then | apply np_in)) rfl rfl rfl | apply N_takeN (i := 7) rfl rfl (by kernel_rfl) (by decide +kernel) (by decide +kernel) (by repeat (first | exact np_post | apply np_then | apply np_in)) rfl rfl rfl | apply N_takeN (i := 8) rfl rfl (by kernel_rfl) (by decide +kernel) (by decide +kernel) (by repeat (first | exact np_post | apply np_then | apply np_in)) rfl rfl rfl | apply N_takeN (i := 9) rfl rfl (by kernel_rfl) (by decide +kernel) (by decide +kernel) (by repeat (first | exact np_post | apply np_then | apply np_in)) rfl rfl rfl | apply N_takeN (i := 10) rfl rfl (by kernel_rfl) (by decide +kernel) (by decide +kernel) (by repeat (first | exact np_post | apply np_then | apply np_in)) rfl rfl rfl | apply N_takeN (i := 11) rfl rfl (by kernel_rfl) (by decide +kernel) (by decide +kernel) (by repeat (first | exact np_post | apply np_then | apply np_in)) rfl rfl rfl | apply N_takeN (i := 12) rfl rfl (by kernel_rfl) (by decide +kernel) (by decide +kernel) (by repeat (first | exact np_post | apply np_then | apply np_in)) rfl rfl rfl ); (first | exact Y_move rfl rfl | exact Y_assign rfl rfl | exact R_index tabOk rfl rfl rfl rfl rfl rfl (by omega) | exact R_fieldi tabOk rfl rfl rfl | exact R_loadi tabOk rfl rfl rfl rfl rfl rfl rfl | exact R_len tabOk rfl rfl rfl | exact R_load tabOk rfl rfl rfl rfl rfl rfl rfl rfl rfl | exact R_field tabOk rfl rfl rfl rfl | exact Y_addn rfl rfl rfl | exact Y_subn rfl rfl rfl | exact R_cmpT rfl rfl rfl rfl | exact R_cmpF rfl rfl rfl rfl | exact Y_ibin rfl rfl rfl rfl | exact Y_extract rfl rfl rfl | exact R_lenr tabOk rfl rfl rfl rfl | exact R_lenn tabOk rfl rfl rfl | exact R_indexr tabOk rfl rfl rfl rfl rfl rfl rfl (by omega) | exact R_fielde tabOk rfl rfl rfl rfl | exact R_loade tabOk rfl rfl rfl rfl rfl rfl rfl rfl rfl | exact Y_not rfl rfl | exact Y_pick_t rfl rfl (by first | rfl | assumption) rfl | exact Y_pick_f rfl rfl (by first | rfl | assumption) rfl | exact Y_pick_b rfl rfl rfl rfl | exact R_build tabOk rfl rfl rfl rfl rfl rfl | fail)) | (apply N_takeL (i := 0) rfl rfl (by kernel_rfl) (by decide +kernel) (by decide +kernel) (by repeat (first | exact np_post | apply np_then | apply np_in)) rfl rfl rfl; (first | exact R_loadi tabOk rfl rfl rfl rfl rfl rfl rfl | exact R_len tabOk rfl rfl rfl | exact R_load tabOk rfl rfl rfl rfl rfl rfl rfl rfl rfl | exact R_lenr tabOk rfl rfl rfl rfl | exact R_lenn tabOk rfl rfl rfl | exact R_loade tabOk rfl rfl rfl rfl rfl rfl rfl rfl rfl | fail)) | (apply N_takeL (i := 1) rfl rfl (by kernel_rfl) (by decide +kernel) (by decide +kernel) (by repeat (first | exact np_post | apply np_then | apply np_in)) rfl rfl rfl; (first | exact R_loadi tabOk rfl rfl rfl rfl rfl rfl rfl | exact R_len tabOk rfl rfl rfl | exact R_load tabOk rfl rfl rfl rfl rfl rfl rfl rfl rfl | exact R_lenr tabOk rfl rfl rfl rfl | exact R_lenn tabOk rfl rfl rfl | exact R_loade tabOk rfl rfl rfl rfl rfl rfl rfl rfl rfl | fail)) | (apply N_takeL (i := 2) rfl rfl (by kernel_rfl) (by decide +kernel) (by decide +kernel) (by repeat (first | exact np_post | apply np_then | apply np_in)) rfl rfl rfl; (first | exact R_loadi tabOk rfl rfl rfl rfl rfl rfl rfl | exact R_len tabOk rfl rfl rfl | exact R_load tabOk rfl rfl rfl rfl rfl rfl rfl rfl rfl | exact R_lenr tabOk rfl rfl rfl rfl | exact R_lenn tabOk rfl rfl rfl | exact R_loade tabOk rfl rfl rfl rfl rfl rfl rfl rfl rfl | fail)) | (apply N_takeL (i := 3) rfl rfl (by kernel_rfl) (by decide +kernel) (by decide +kernel) (by repeat (first | exact np_post | apply np_then | apply np_in)) rfl rfl rfl; (first | exact R_loadi tabOk rfl rfl rfl rfl rfl rfl rfl | exact R_len tabOk rfl rfl rfl | exact R_load tabOk rfl rfl rfl rfl rfl rfl rfl rfl rfl | exact R_lenr tabOk rfl rfl rfl rfl | exact R_lenn tabOk rfl rfl rfl | exact R_loade tabOk rfl rfl rfl rfl rfl rfl rfl rfl rfl | fail)) | (apply N_takeL (i := 4) rfl rfl (by kernel_rfl) (by decide +kernel) (by decide +kernel) (by repeat (first | exact np_post | apply np_then | apply np_in)) rfl rfl rfl; (first | exact R_loadi tabOk rfl rfl rfl rfl rfl rfl rfl | exact R_len tabOk rfl rfl rfl | exact R_load tabOk rfl rfl rfl rfl rfl rfl rfl rfl rfl | exact R_lenr tabOk rfl rfl rfl rfl | exact R_lenn tabOk rfl rfl rfl | exact R_loade tabOk rfl rfl rfl rfl rfl rfl rfl rfl rfl | fail)) | (apply N_takeL (i := 5) rfl rfl (by kernel_rfl) (by decide +kernel) (by decide +kernel) (by repeat (first | exact np_post | apply np_then | apply np_in)) rfl rfl rfl; (first | exact R_loadi tabOk rfl rfl rfl rfl rfl rfl rfl | exact R_len tabOk rfl rfl rfl | exact R_load tabOk rfl rfl rfl rfl rfl rfl rfl rfl rfl | exact R_lenr tabOk rfl rfl rfl rfl | exact R_lenn tabOk rfl rfl rfl | exact R_loade tabOk rfl rfl rfl rfl rfl rfl rfl rfl rfl | fail)) | (apply N_takeL (i := 6) rfl rfl (by kernel_rfl) (by decide +kernel) (by decide +kernel) (by repeat (first | exact np_post | apply np_then | apply np_in)) rfl rfl rfl; (first | exact R_loadi tabOk rfl rfl rfl rfl rfl rfl rfl | exact R_len tabOk rfl rfl rfl | exact R_load tabOk rfl rfl rfl rfl rfl rfl rfl rfl rfl | exact R_lenr tabOk rfl rfl rfl rfl | exact R_lenn tabOk rfl rfl rfl | exact R_loade tabOk rfl rfl rfl rfl rfl rfl rfl rfl rfl | fail)) | (apply N_takeL (i := 7) rfl rfl (by kernel_rfl) (by decide +kernel) (by decide +kernel) (by repeat (first | exact np_post | apply np_then | apply np_in)) rfl rfl rfl; (first | exact R_loadi tabOk rfl rfl rfl rfl rfl rfl rfl | exact R_len tabOk rfl rfl rfl | exact R_load tabOk rfl rfl rfl rfl rfl rfl rfl rfl rfl | exact R_lenr tabOk rfl rfl rfl rfl | exact R_lenn tabOk rfl rfl rfl | exact R_loade tabOk rfl rfl rfl rfl rfl rfl rfl rfl rfl | fail)) | (apply N_takeL (i := 8) rfl rfl (by kernel_rfl) (by decide +kernel) (by decide +kernel) (by repeat (first | exact np_post | apply np_then | apply np_in)) rfl rfl rfl; (first | exact R_loadi tabOk rfl rfl rfl rfl rfl rfl rfl | exact R_len tabOk rfl rfl rfl | exact R_load tabOk rfl rfl rfl rfl rfl rfl rfl rfl rfl | exact R_lenr tabOk rfl rfl rfl rfl | exact R_lenn tabOk rfl rfl rfl | exact R_loade tabOk rfl rfl rfl rfl rfl rfl rfl rfl rfl | fail)) | (apply N_takeL (i := 9) rfl rfl (by kernel_rfl) (by decide +kernel) (by decide +kernel) (by repeat (first | exact np_post | apply np_then | apply np_in)) rfl rfl rfl; (first | exact R_loadi tabOk rfl rfl rfl rfl rfl rfl rfl | exact R_len tabOk rfl rfl rfl | exact R_load tabOk rfl rfl rfl rfl rfl rfl rfl rfl rfl | exact R_lenr tabOk rfl rfl rfl rfl | exact R_lenn tabOk rfl rfl rfl | exact R_loade tabOk rfl rfl rfl rfl rfl rfl rfl rfl rfl | fail)) | (apply N_takeL (i := 10) rfl rfl (by kernel_rfl) (by decide +kernel) (by decide +kernel) (by repeat (first | exact np_post | apply np_then | apply np_in)) rfl rfl rfl; (first | exact R_loadi tabOk rfl rfl rfl rfl rfl rfl rfl | exact R_len tabOk rfl rfl rfl | exact R_load tabOk rfl rfl rfl rfl rfl rfl rfl rfl rfl | exact R_lenr tabOk rfl rfl rfl rfl | exact R_lenn tabOk rfl rfl rfl | exact R_loade tabOk rfl rfl rfl rfl rfl rfl rfl rfl rfl | fail)) | (apply N_takeL (i := 11) rfl rfl (by kernel_rfl) (by decide +kernel) (by decide +kernel) (by repeat (first | exact np_post | apply np_then | apply np_in)) rfl rfl rfl; (first | exact R_loadi tabOk rfl rfl rfl rfl rfl rfl rfl | exact R_len tabOk rfl rfl rfl | exact R_load tabOk rfl rfl rfl rfl rfl rfl rfl rfl rfl | exact R_lenr tabOk rfl rfl rfl rfl | exact R_lenn tabOk rfl rfl rfl | exact R_loade tabOk rfl rfl rfl rfl rfl rfl rfl rfl rfl | fail)) | (apply N_takeL (i := 12) rfl rfl (by kernel_rfl) (by decide +kernel) (by decide +kernel) (by repeat (first | exact np_post | apply np_then | apply np_in)) rfl rfl rfl; (first | exact R_loadi tabOk rfl rfl rfl rfl rfl rfl rfl | exact R_len tabOk rfl rfl rfl | exact R_load tabOk rfl rfl rfl rfl rfl rfl rfl rfl rfl | exact R_lenr tabOk rfl rfl rfl rfl | exact R_lenn tabOk rfl rfl rfl | exact R_loade tabOk rfl rfl rfl rfl rfl rfl rfl rfl rfl | fail)) | refine N_one (j := 0) (by decide +kernel) ?_ | refine N_one (j := 1) (by decide +kernel) ?_ | refine N_one (j := 2) (by decide +kernel) ?_ | refine N_one (j := 3) (by decide +kernel) ?_ | refine N_one (j := 4) (by decide +kernel) ?_ | refine N_one (j := 5) (by decide +kernel) ?_ | refine N_one (j := 6) (by decide +kernel) ?_ | refine N_one (j := 7) (by decide +kernel) ?_ | refine N_one (j := 8) (by decide +kernel) ?_ | refine N_one (j := 9) (by decide +kernel) ?_ | refine N_one (j := 10) (by decide +kernel) ?_ | refine N_one (j := 11) (by decide +kernel) ?_ | refine N_one (j := 12) (by decide +kernel) ?_ | refine T_alloc tabOk rfl rfl rfl rfl rfl rfl rfl ?_ | refine T_store tabOk rfl rfl rfl rfl rfl rfl rfl rfl rfl rfl rfl rfl rfl ?_ | refine T_box rfl rfl rfl rfl rfl rfl rfl rfl ?_ | (apply T_yield rfl rfl rfl rfl; (first | exact Y_move rfl rfl | exact Y_assign rfl rfl | exact R_index tabOk rfl rfl rfl rfl rfl rfl (by omega) | exact R_fieldi tabOk rfl rfl rfl | exact R_loadi tabOk rfl rfl rfl rfl rfl rfl rfl | exact R_len tabOk rfl rfl rfl | exact R_load tabOk rfl rfl rfl rfl rfl rfl rfl rfl rfl | exact R_field tabOk rfl rfl rfl rfl | exact Y_addn rfl rfl rfl | exact Y_subn rfl rfl rfl | exact R_cmpT rfl rfl rfl rfl | exact R_cmpF rfl rfl rfl rfl | exact Y_ibin rfl rfl rfl rfl | exact Y_extract rfl rfl rfl | exact R_lenr tabOk rfl rfl rfl rfl | exact R_lenn tabOk rfl rfl rfl | exact R_indexr tabOk rfl rfl rfl rfl rfl rfl rfl (by omega) | exact R_fielde tabOk rfl rfl rfl rfl | exact R_loade tabOk rfl rfl rfl rfl rfl rfl rfl rfl rfl | exact Y_not rfl rfl | exact Y_pick_t rfl rfl (by first | rfl | assumption) rfl | exact Y_pick_f rfl rfl (by first | rfl | assumption) rfl | exact Y_pick_b rfl rfl rfl rfl | exact R_build tabOk rfl rfl rfl rfl rfl rfl | fail)) | refine N_done (by decide +kernel) ?_ | (first | refine T_slice tabOk rfl rfl rfl rfl rfl rfl rfl rfl rfl rfl rfl rfl ?_ | refine T_appR tabOk rfl rfl rfl rfl rfl rfl rfl rfl rfl rfl rfl rfl (Src.row rfl) rfl (by omega) rfl ?_))
      repeat (first | refine A_seq ?_ | refine A_block ?_ | refine R_list ?_ | refine R_quiet rfl mixed (by kernel_rfl) ?_ | ((first | apply O_y rfl rfl rfl | apply Q_y rfl rfl rfl); (first | exact Y_move rfl rfl | exact Y_assign rfl rfl | exact R_index tabOk rfl rfl rfl rfl rfl rfl (by omega) | exact R_fieldi tabOk rfl rfl rfl | exact R_loadi tabOk rfl rfl rfl rfl rfl rfl rfl | exact R_len tabOk rfl rfl rfl | exact R_load tabOk rfl rfl rfl rfl rfl rfl rfl rfl rfl | exact R_field tabOk rfl rfl rfl rfl | exact Y_addn rfl rfl rfl | exact Y_subn rfl rfl rfl | exact R_cmpT rfl rfl rfl rfl | exact R_cmpF rfl rfl rfl rfl | exact Y_ibin rfl rfl rfl rfl | exact Y_extract rfl rfl rfl | exact R_lenr tabOk rfl rfl rfl rfl | exact R_lenn tabOk rfl rfl rfl | exact R_indexr tabOk rfl rfl rfl rfl rfl rfl rfl (by omega) | exact R_fielde tabOk rfl rfl rfl rfl | exact R_loade tabOk rfl rfl rfl rfl rfl rfl rfl rfl rfl | exact Y_not rfl rfl | exact Y_pick_t rfl rfl (by first | rfl | assumption) rfl | exact Y_pick_f rfl rfl (by first | rfl | assumption) rfl | exact Y_pick_b rfl rfl rfl rfl | exact R_build tabOk rfl rfl rfl rfl rfl rfl | fail)) | refine O_nil ?_ | refine Q_nil ?_ | refine X_then_normal ?_ | refine X_in_normal ?_ | refine O_box rfl rfl rfl rfl rfl rfl rfl ?_ | refine O_alloc tabOk rfl rfl rfl rfl rfl rfl ?_ | refine O_store tabOk rfl rfl rfl rfl rfl rfl rfl rfl rfl rfl rfl ?_ | refine O_slice tabOk rfl rfl rfl rfl rfl rfl rfl rfl rfl rfl rfl ?_ | refine A_ct rfl ?_ | refine A_cf rfl ?_ | refine A_skip ?_ | refine A_exit ?_ | refine A_ret ?_ | refine X_then_exit ?_ | refine X_then_ret ?_ | refine X_in_same ?_ | refine X_in_other rfl ?_ | refine X_in_ret ?_ | refine O_s rfl rfl rfl ?_ | refine Q_s rfl rfl rfl ?_ | refine O_sn rfl rfl ?_ | fail)
      exact ⟨k + 1, by omega, by omega, Wk_sel ⟨rfl, rfl, rfl, rfl, rfl, trivial⟩ ⟨rfl, row_eq (by omega) (by rw [hrow, List.flatMap_append]; rfl) rfl, rfl, kill2 _ _ m, trivial⟩⟩
    ·
      repeat (first | ((first | apply N_takeN (i := 0) rfl rfl (by kernel_rfl) (by decide +kernel) (by decide +kernel) (by repeat (first | exact np_post | apply np_then | apply np_in)) rfl rfl rfl | apply N_takeN (i := 1) rfl rfl (by kernel_rfl) (by decide +kernel) (by decide +kernel) (by repeat (first | exact np_post | apply np_then | apply np_in)) rfl rfl rfl | apply N_takeN (i := 2) rfl rfl (by kernel_rfl) (by decide +kernel) (by decide +kernel) (by repeat (first | exact np_post | apply np_then | apply np_in)) rfl rfl rfl | apply N_takeN (i := 3) rfl rfl (by kernel_rfl) (by decide +kernel) (by decide +kernel) (by repeat (first | exact np_post | apply np_then | apply np_in)) rfl rfl rfl | apply N_takeN (i := 4) rfl rfl (by kernel_rfl) (by decide +kernel) (by decide +kernel) (by repeat (first | exact np_post | apply np_then | apply np_in)) rfl rfl rfl | apply N_takeN (i := 5) rfl rfl (by kernel_rfl) (by decide +kernel) (by decide +kernel) (by repeat (first | exact np_post | apply np_then | apply np_in)) rfl rfl rfl | apply N_takeN (i := 6) rfl rfl (by kernel_rfl) (by decide +kernel) (by decide +kernel) (by repeat (first | exact np_post | apply np_then | apply np_in)) rfl rfl rfl | apply N_takeN (i := 7) rfl rfl (by kernel_rfl) (by decide +kernel) (by decide +kernel) (by repeat (first | exact np_post | apply np_then | apply np_in)) rfl rfl rfl | apply N_takeN (i := 8) rfl rfl (by kernel_rfl) (by decide +kernel) (by decide +kernel) (by repeat (first | exact np_post | apply np_then | apply np_in)) rfl rfl rfl | apply N_takeN (i := 9) rfl rfl (by kernel_rfl) (by decide +kernel) (by decide +kernel) (by repeat (first | exact np_post | apply np_then | apply np_in)) rfl rfl rfl | apply N_takeN (i := 10) rfl rfl (by kernel_rfl) (by decide +kernel) (by decide +kernel) (by repeat (first | exact np_post | apply np_then | apply np_in)) rfl rfl rfl | apply N_takeN (i := 11) rfl rfl (by kernel_rfl) (by decide +kernel) (by decide +kernel) (by repeat (first | exact np_post | apply np_then | apply np_in)) rfl rfl rfl | apply N_takeN (i := 12) rfl rfl (by kernel_rfl) (by decide +kernel) (by decide +kernel) (by repeat (first | exact np_post | apply np_then | apply np_in)) rfl rfl rfl ); (first | exact Y_move rfl rfl | exact Y_assign rfl rfl | exact R_index tabOk rfl rfl rfl rfl rfl rfl (by omega) | exact R_fieldi tabOk rfl rfl rfl | exact R_loadi tabOk rfl rfl rfl rfl rfl rfl rfl | exact R_len tabOk rfl rfl rfl | exact R_load tabOk rfl rfl rfl rfl rfl rfl rfl rfl rfl | exact R_field tabOk rfl rfl rfl rfl | exact Y_addn rfl rfl rfl | exact Y_subn rfl rfl rfl | exact R_cmpT rfl rfl rfl rfl | exact R_cmpF rfl rfl rfl rfl | exact Y_ibin rfl rfl rfl rfl | exact Y_extract rfl rfl rfl | exact R_lenr tabOk rfl rfl rfl rfl | exact R_lenn tabOk rfl rfl rfl | exact R_indexr tabOk rfl rfl rfl rfl rfl rfl rfl (by omega) | exact R_fielde tabOk rfl rfl rfl rfl | exact R_loade tabOk rfl rfl rfl rfl rfl rfl rfl rfl rfl | exact Y_not rfl rfl | exact Y_pick_t rfl rfl (by first | rfl | assumption) rfl | exact Y_pick_f rfl rfl (by first | rfl | assumption) rfl | exact Y_pick_b rfl rfl rfl rfl | exact R_build tabOk rfl rfl rfl rfl rfl rfl | fail)) | (apply N_takeL (i := 0) rfl rfl (by kernel_rfl) (by decide +kernel) (by decide +kernel) (by repeat (first | exact np_post | apply np_then | apply np_in)) rfl rfl rfl; (first | exact R_loadi tabOk rfl rfl rfl rfl rfl rfl rfl | exact R_len tabOk rfl rfl rfl | exact R_load tabOk rfl rfl rfl rfl rfl rfl rfl rfl rfl | exact R_lenr tabOk rfl rfl rfl rfl | exact R_lenn tabOk rfl rfl rfl | exact R_loade tabOk rfl rfl rfl rfl rfl rfl rfl rfl rfl | fail)) | (apply N_takeL (i := 1) rfl rfl (by kernel_rfl) (by decide +kernel) (by decide +kernel) (by repeat (first | exact np_post | apply np_then | apply np_in)) rfl rfl rfl; (first | exact R_loadi tabOk rfl rfl rfl rfl rfl rfl rfl | exact R_len tabOk rfl rfl rfl | exact R_load tabOk rfl rfl rfl rfl rfl rfl rfl rfl rfl | exact R_lenr tabOk rfl rfl rfl rfl | exact R_lenn tabOk rfl rfl rfl | exact R_loade tabOk rfl rfl rfl rfl rfl rfl rfl rfl rfl | fail)) | (apply N_takeL (i := 2) rfl rfl (by kernel_rfl) (by decide +kernel) (by decide +kernel) (by repeat (first | exact np_post | apply np_then | apply np_in)) rfl rfl rfl; (first | exact R_loadi tabOk rfl rfl rfl rfl rfl rfl rfl | exact R_len tabOk rfl rfl rfl | exact R_load tabOk rfl rfl rfl rfl rfl rfl rfl rfl rfl | exact R_lenr tabOk rfl rfl rfl rfl | exact R_lenn tabOk rfl rfl rfl | exact R_loade tabOk rfl rfl rfl rfl rfl rfl rfl rfl rfl | fail)) | (apply N_takeL (i := 3) rfl rfl (by kernel_rfl) (by decide +kernel) (by decide +kernel) (by repeat (first | exact np_post | apply np_then | apply np_in)) rfl rfl rfl; (first | exact R_loadi tabOk rfl rfl rfl rfl rfl rfl rfl | exact R_len tabOk rfl rfl rfl | exact R_load tabOk rfl rfl rfl rfl rfl rfl rfl rfl rfl | exact R_lenr tabOk rfl rfl rfl rfl | exact R_lenn tabOk rfl rfl rfl | exact R_loade tabOk rfl rfl rfl rfl rfl rfl rfl rfl rfl | fail)) | (apply N_takeL (i := 4) rfl rfl (by kernel_rfl) (by decide +kernel) (by decide +kernel) (by repeat (first | exact np_post | apply np_then | apply np_in)) rfl rfl rfl; (first | exact R_loadi tabOk rfl rfl rfl rfl rfl rfl rfl | exact R_len tabOk rfl rfl rfl | exact R_load tabOk rfl rfl rfl rfl rfl rfl rfl rfl rfl | exact R_lenr tabOk rfl rfl rfl rfl | exact R_lenn tabOk rfl rfl rfl | exact R_loade tabOk rfl rfl rfl rfl rfl rfl rfl rfl rfl | fail)) | (apply N_takeL (i := 5) rfl rfl (by kernel_rfl) (by decide +kernel) (by decide +kernel) (by repeat (first | exact np_post | apply np_then | apply np_in)) rfl rfl rfl; (first | exact R_loadi tabOk rfl rfl rfl rfl rfl rfl rfl | exact R_len tabOk rfl rfl rfl | exact R_load tabOk rfl rfl rfl rfl rfl rfl rfl rfl rfl | exact R_lenr tabOk rfl rfl rfl rfl | exact R_lenn tabOk rfl rfl rfl | exact R_loade tabOk rfl rfl rfl rfl rfl rfl rfl rfl rfl | fail)) | (apply N_takeL (i := 6) rfl rfl (by kernel_rfl) (by decide +kernel) (by decide +kernel) (by repeat (first | exact np_post | apply np_then | apply np_in)) rfl rfl rfl; (first | exact R_loadi tabOk rfl rfl rfl rfl rfl rfl rfl | exact R_len tabOk rfl rfl rfl | exact R_load tabOk rfl rfl rfl rfl rfl rfl rfl rfl rfl | exact R_lenr tabOk rfl rfl rfl rfl | exact R_lenn tabOk rfl rfl rfl | exact R_loade tabOk rfl rfl rfl rfl rfl rfl rfl rfl rfl | fail)) | (apply N_takeL (i := 7) rfl rfl (by kernel_rfl) (by decide +kernel) (by decide +kernel) (by repeat (first | exact np_post | apply np_then | apply np_in)) rfl rfl rfl; (first | exact R_loadi tabOk rfl rfl rfl rfl rfl rfl rfl | exact R_len tabOk rfl rfl rfl | exact R_load tabOk rfl rfl rfl rfl rfl rfl rfl rfl rfl | exact R_lenr tabOk rfl rfl rfl rfl | exact R_lenn tabOk rfl rfl rfl | exact R_loade tabOk rfl rfl rfl rfl rfl rfl rfl rfl rfl | fail)) | (apply N_takeL (i := 8) rfl rfl (by kernel_rfl) (by decide +kernel) (by decide +kernel) (by repeat (first | exact np_post | apply np_then | apply np_in)) rfl rfl rfl; (first | exact R_loadi tabOk rfl rfl rfl rfl rfl rfl rfl | exact R_len tabOk rfl rfl rfl | exact R_load tabOk rfl rfl rfl rfl rfl rfl rfl rfl rfl | exact R_lenr tabOk rfl rfl rfl rfl | exact R_lenn tabOk rfl rfl rfl | exact R_loade tabOk rfl rfl rfl rfl rfl rfl rfl rfl rfl | fail)) | (apply N_takeL (i := 9) rfl rfl (by kernel_rfl) (by decide +kernel) (by decide +kernel) (by repeat (first | exact np_post | apply np_then | apply np_in)) rfl rfl rfl; (first | exact R_loadi tabOk rfl rfl rfl rfl rfl rfl rfl | exact R_len tabOk rfl rfl rfl | exact R_load tabOk rfl rfl rfl rfl rfl rfl rfl rfl rfl | exact R_lenr tabOk rfl rfl rfl rfl | exact R_lenn tabOk rfl rfl rfl | exact R_loade tabOk rfl rfl rfl rfl rfl rfl rfl rfl rfl | fail)) | (apply N_takeL (i := 10) rfl rfl (by kernel_rfl) (by decide +kernel) (by decide +kernel) (by repeat (first | exact np_post | apply np_then | apply np_in)) rfl rfl rfl; (first | exact R_loadi tabOk rfl rfl rfl rfl rfl rfl rfl | exact R_len tabOk rfl rfl rfl | exact R_load tabOk rfl rfl rfl rfl rfl rfl rfl rfl rfl | exact R_lenr tabOk rfl rfl rfl rfl | exact R_lenn tabOk rfl rfl rfl | exact R_loade tabOk rfl rfl rfl rfl rfl rfl rfl rfl rfl | fail)) | (apply N_takeL (i := 11) rfl rfl (by kernel_rfl) (by decide +kernel) (by decide +kernel) (by repeat (first | exact np_post | apply np_then | apply np_in)) rfl rfl rfl; (first | exact R_loadi tabOk rfl rfl rfl rfl rfl rfl rfl | exact R_len tabOk rfl rfl rfl | exact R_load tabOk rfl rfl rfl rfl rfl rfl rfl rfl rfl | exact R_lenr tabOk rfl rfl rfl rfl | exact R_lenn tabOk rfl rfl rfl | exact R_loade tabOk rfl rfl rfl rfl rfl rfl rfl rfl rfl | fail)) | (apply N_takeL (i := 12) rfl rfl (by kernel_rfl) (by decide +kernel) (by decide +kernel) (by repeat (first | exact np_post | apply np_then | apply np_in)) rfl rfl rfl; (first | exact R_loadi tabOk rfl rfl rfl rfl rfl rfl rfl | exact R_len tabOk rfl rfl rfl | exact R_load tabOk rfl rfl rfl rfl rfl rfl rfl rfl rfl | exact R_lenr tabOk rfl rfl rfl rfl | exact R_lenn tabOk rfl rfl rfl | exact R_loade tabOk rfl rfl rfl rfl rfl rfl rfl rfl rfl | fail)) | refine N_one (j := 0) (by decide +kernel) ?_ | refine N_one (j := 1) (by decide +kernel) ?_ | refine N_one (j := 2) (by decide +kernel) ?_ | refine N_one (j := 3) (by decide +kernel) ?_ | refine N_one (j := 4) (by decide +kernel) ?_ | refine N_one (j := 5) (by decide +kernel) ?_ | refine N_one (j := 6) (by decide +kernel) ?_ | refine N_one (j := 7) (by decide +kernel) ?_ | refine N_one (j := 8) (by decide +kernel) ?_ | refine N_one (j := 9) (by decide +kernel) ?_ | refine N_one (j := 10) (by decide +kernel) ?_ | refine N_one (j := 11) (by decide +kernel) ?_ | refine N_one (j := 12) (by decide +kernel) ?_ | refine T_alloc tabOk rfl rfl rfl rfl rfl rfl rfl ?_ | refine T_store tabOk rfl rfl rfl rfl rfl rfl rfl rfl rfl rfl rfl rfl rfl ?_ | refine T_box rfl rfl rfl rfl rfl rfl rfl rfl ?_ | (apply T_yield rfl rfl rfl rfl; (first | exact Y_move rfl rfl | exact Y_assign rfl rfl | exact R_index tabOk rfl rfl rfl rfl rfl rfl (by omega) | exact R_fieldi tabOk rfl rfl rfl | exact R_loadi tabOk rfl rfl rfl rfl rfl rfl rfl | exact R_len tabOk rfl rfl rfl | exact R_load tabOk rfl rfl rfl rfl rfl rfl rfl rfl rfl | exact R_field tabOk rfl rfl rfl rfl | exact Y_addn rfl rfl rfl | exact Y_subn rfl rfl rfl | exact R_cmpT rfl rfl rfl rfl | exact R_cmpF rfl rfl rfl rfl | exact Y_ibin rfl rfl rfl rfl | exact Y_extract rfl rfl rfl | exact R_lenr tabOk rfl rfl rfl rfl | exact R_lenn tabOk rfl rfl rfl | exact R_indexr tabOk rfl rfl rfl rfl rfl rfl rfl (by omega) | exact R_fielde tabOk rfl rfl rfl rfl | exact R_loade tabOk rfl rfl rfl rfl rfl rfl rfl rfl rfl | exact Y_not rfl rfl | exact Y_pick_t rfl rfl (by first | rfl | assumption) rfl | exact Y_pick_f rfl rfl (by first | rfl | assumption) rfl | exact Y_pick_b rfl rfl rfl rfl | exact R_build tabOk rfl rfl rfl rfl rfl rfl | fail)) | refine N_done (by decide +kernel) ?_ | (first | refine T_slice tabOk rfl rfl rfl rfl rfl rfl rfl rfl rfl rfl rfl rfl ?_ | refine T_appR tabOk rfl rfl rfl rfl rfl rfl rfl rfl rfl rfl rfl rfl (Src.row rfl) rfl (by omega) rfl ?_))
      repeat (first | refine A_seq ?_ | refine A_block ?_ | refine R_list ?_ | refine R_quiet rfl mixed (by kernel_rfl) ?_ | ((first | apply O_y rfl rfl rfl | apply Q_y rfl rfl rfl); (first | exact Y_move rfl rfl | exact Y_assign rfl rfl | exact R_index tabOk rfl rfl rfl rfl rfl rfl (by omega) | exact R_fieldi tabOk rfl rfl rfl | exact R_loadi tabOk rfl rfl rfl rfl rfl rfl rfl | exact R_len tabOk rfl rfl rfl | exact R_load tabOk rfl rfl rfl rfl rfl rfl rfl rfl rfl | exact R_field tabOk rfl rfl rfl rfl | exact Y_addn rfl rfl rfl | exact Y_subn rfl rfl rfl | exact R_cmpT rfl rfl rfl rfl | exact R_cmpF rfl rfl rfl rfl | exact Y_ibin rfl rfl rfl rfl | exact Y_extract rfl rfl rfl | exact R_lenr tabOk rfl rfl rfl rfl | exact R_lenn tabOk rfl rfl rfl | exact R_indexr tabOk rfl rfl rfl rfl rfl rfl rfl (by omega) | exact R_fielde tabOk rfl rfl rfl rfl | exact R_loade tabOk rfl rfl rfl rfl rfl rfl rfl rfl rfl | exact Y_not rfl rfl | exact Y_pick_t rfl rfl (by first | rfl | assumption) rfl | exact Y_pick_f rfl rfl (by first | rfl | assumption) rfl | exact Y_pick_b rfl rfl rfl rfl | exact R_build tabOk rfl rfl rfl rfl rfl rfl | fail)) | refine O_nil ?_ | refine Q_nil ?_ | refine X_then_normal ?_ | refine X_in_normal ?_ | refine O_box rfl rfl rfl rfl rfl rfl rfl ?_ | refine O_alloc tabOk rfl rfl rfl rfl rfl rfl ?_ | refine O_store tabOk rfl rfl rfl rfl rfl rfl rfl rfl rfl rfl rfl ?_ | refine O_slice tabOk rfl rfl rfl rfl rfl rfl rfl rfl rfl rfl rfl ?_ | refine A_ct rfl ?_ | refine A_cf rfl ?_ | refine A_skip ?_ | refine A_exit ?_ | refine A_ret ?_ | refine X_then_exit ?_ | refine X_then_ret ?_ | refine X_in_same ?_ | refine X_in_other rfl ?_ | refine X_in_ret ?_ | refine O_s rfl rfl rfl ?_ | refine Q_s rfl rfl rfl ?_ | refine O_sn rfl rfl ?_ | fail)
      exact ⟨k + 1, by omega, by omega, Wk_sel ⟨rfl, rfl, rfl, rfl, rfl, trivial⟩ ⟨rfl, row_eq (by omega) (by rw [hrow, List.flatMap_append]; rfl) rfl, rfl, kill2 _ _ m, trivial⟩⟩
  · have hkk : k = l.length := by omega
    subst hkk
    rw [List.take_length]
    repeat (first | refine A_seq ?_ | refine A_block ?_ | refine R_list ?_ | refine R_quiet rfl mixed (by kernel_rfl) ?_ | ((first | apply O_y rfl rfl rfl | apply Q_y rfl rfl rfl); (first | exact Y_move rfl rfl | exact Y_assign rfl rfl | exact R_index tabOk rfl rfl rfl rfl rfl rfl (by omega) | exact R_fieldi tabOk rfl rfl rfl | exact R_loadi tabOk rfl rfl rfl rfl rfl rfl rfl | exact R_len tabOk rfl rfl rfl | exact R_load tabOk rfl rfl rfl rfl rfl rfl rfl rfl rfl | exact R_field tabOk rfl rfl rfl rfl | exact Y_addn rfl rfl rfl | exact Y_subn rfl rfl rfl | exact R_cmpT rfl rfl rfl rfl | exact R_cmpF rfl rfl rfl rfl | exact Y_ibin rfl rfl rfl rfl | exact Y_extract rfl rfl rfl | exact R_lenr tabOk rfl rfl rfl rfl | exact R_lenn tabOk rfl rfl rfl | exact R_indexr tabOk rfl rfl rfl rfl rfl rfl rfl (by omega) | exact R_fielde tabOk rfl rfl rfl rfl | exact R_loade tabOk rfl rfl rfl rfl rfl rfl rfl rfl rfl | exact Y_not rfl rfl | exact Y_pick_t rfl rfl (by first | rfl | assumption) rfl | exact Y_pick_f rfl rfl (by first | rfl | assumption) rfl | exact Y_pick_b rfl rfl rfl rfl | exact R_build tabOk rfl rfl rfl rfl rfl rfl | (exact Y_makeFunc rfl rfl))) | refine O_nil ?_ | refine Q_nil ?_ | refine X_then_normal ?_ | refine X_in_normal ?_ | refine O_box rfl rfl rfl rfl rfl rfl rfl ?_ | refine O_alloc tabOk rfl rfl rfl rfl rfl rfl ?_ | refine O_store tabOk rfl rfl rfl rfl rfl rfl rfl rfl rfl rfl rfl ?_ | refine O_slice tabOk rfl rfl rfl rfl rfl rfl rfl rfl rfl rfl rfl ?_ | refine A_ct rfl ?_ | refine A_cf rfl ?_ | refine A_skip ?_ | refine A_exit ?_ | refine A_ret ?_ | refine X_then_exit ?_ | refine X_then_ret ?_ | refine X_in_same ?_ | refine X_in_other rfl ?_ | refine X_in_ret ?_ | refine O_s rfl rfl rfl ?_ | refine Q_s rfl rfl rfl ?_ | refine O_sn rfl rfl ?_ | fail)
    refine X_retW (((Wk_freeze (id := 24) rfl).trans (Wk_freezeV (id := 5) (ds := [rowsD (rowsOf m l)]) (var_eq (by simp [rowsD, rowsOf_len]; rfl) rfl) rfl)).trans (Wk_sel (e1 := [(4, goneA (rowsOf m l))]) (h1 := [(1000, tblB 1001 u), (1001, mapB m)]) ⟨rfl, trivial⟩ ⟨rfl, ?_, trivial⟩)) rfl (h2 := [(1000, tblB 1001 u), (1001, mapB m)]) ⟨rfl, rfl, trivial⟩ ⟨rfl, rfl⟩
    show some (fzB _ _ (frB _ _ (mapB m))) = _
    rw [Option.some.inj (freeze_map _ _ m)]
    exact fz_map _ _ m
end Go.Proofs.Ytaecjmjdhbjbkaa.Ab

namespace Go.Proofs.Ytaecjmjdhbjbkaa.Ab
set_option linter.unusedVariables false
set_option maxRecDepth 100000
open Go.RowKit
set_option linter.unusedSimpArgs false
attribute [local irreducible] AWp AOps AQ AYield AEff ACall AWk AAny AAt AThen AIn APost NoPanic

theorem ren_map (ρ : List (Nat × Nat)) (l : List (Pfx × Int)) : renB ρ (mapB l) = mapB l := by
  show ABlk.map ((l.map fun p => (pfxA p.1, intA p.2)).map fun p => (renV ρ p.1, renV ρ p.2)) = _
  rw [List.map_map]
  rfl
theorem ok_map (ρ : List (Nat × Nat)) (l : List (Pfx × Int)) : okB ρ (mapB l) := by
  intro p hp
  obtain ⟨q, _, rfl⟩ := List.mem_map.1 hp
  exact ⟨rfl, rfl⟩
theorem ok_tbl (i j : Nat) (u : Nat → Int) : okB [(1000, i), (1001, j)] (tblB 1001 u) := by
  intro c hc
  rcases List.mem_cons.1 hc with rfl | hc
  · rfl
  · obtain ⟨b, _, rfl⟩ := List.mem_map.1 hc
    rfl
theorem ren_tbl (i j : Nat) (u : Nat → Int) : renB [(1000, i), (1001, j)] (tblB 1001 u) = tblB j u := by
  show ABlk.var (renV _ (.mp 1001) :: (usedA u).map (renV _)) = _
  unfold tblB usedA
  rw [List.map_map]
  rfl
section
variable {P : Program} {nt : Nat} {Q : Post} {e : Env} {h : Heap} {o : Oper} {ops : Array Oper} {rest : List Oper}
theorem look_pass {p k i j : Nat} (h : look [(1000, i), (1001, j)] p = some k) : (p = 1000 ∧ k = i) ∨ (p = 1001 ∧ k = j) := by
  by_cases h1 : 1000 = p
  · subst h1; rw [look_cons_same] at h; cases h; exact .inl ⟨rfl, rfl⟩
  · rw [look_cons_ne _ _ h1] at h
    by_cases h2 : 1001 = p
    · subst h2; rw [look_cons_same] at h; cases h; exact .inr ⟨rfl, rfl⟩
    · rw [look_cons_ne _ _ h2] at h; cases h
/-- A call that gets a table of ours. -/
theorem O_cTbl {f : FuncId} {args : Array Operand} {ats : Array TypeId} {cs0 cs : List AVal} {c : AVal} {d : Nat} (i j : Nat) (hij : i ≠ j) {u u' : Nat → Int} {l l' : List (Pfx × Int)}
    (H : ACall P f cs [(1000, tblB 1001 u), (1001, mapB l)] (fun c' h' => c' = c ∧ h' = [(1000, tblB 1001 u'), (1001, mapB l')])) (hw : awant ops e o = some true) (hdst : o.dst = some d) (hd : Nat.blt d nt = true) (ho : o.op = .call { callee := .value (.func f), args := args, argTypes := ats }) (hx : aevs e args.toList = some cs0)
    (hok : cs.all (okV [(1000, i), (1001, j)]) = true) (hcs : cs.map (renV [(1000, i), (1001, j)]) = cs0) (hi : look h i = some (tblB j u)) (hj : look h j = some (mapB l))
    (HK : AOps P nt ops Q rest ((d, renV [(1000, i), (1001, j)] c) :: e) ((i, tblB j u') :: (j, mapB l') :: h)) : AOps P nt ops Q (o :: rest) e h := by
  refine O_cP [(1000, i), (1001, j)] (fun p p' k h1 h2 => ?_) (fun p k h1 => ?_) H (fun c hc => List.all_eq_true.1 hok c hc) ⟨⟨i, _, rfl, hi, ren_tbl i j u, ok_tbl i j u⟩, ⟨j, _, rfl, hj, ren_map _ l, ok_map _ l⟩, trivial⟩ hw hdst hd ho hx hcs ?_
  · rcases look_pass h1 with ⟨h3, h4⟩ | ⟨h3, h4⟩ <;> rcases look_pass h2 with ⟨h5, h6⟩ | ⟨h5, h6⟩ <;> omega
  · rcases look_pass h1 with ⟨h3, h4⟩ | ⟨h3, h4⟩ <;> subst h3 <;> exact ⟨by omega, rfl, rfl⟩
  · have e1 : renH [(1000, i), (1001, j)] [(1000, tblB 1001 u'), (1001, mapB l')] ++ h = (i, tblB j u') :: (j, mapB l') :: h := by
      show (i, renB _ (tblB 1001 u')) :: (j, renB _ (mapB l')) :: ([] ++ h) = _
      rw [ren_tbl, ren_map]
      rfl
    rw [e1]
    exact HK
end
theorem overS_mem (u : Nat → Int) (l : List (Pfx × Int)) (x : Int) (k : Nat) (q : Pfx) (h : q ∈ overS u l x k) : ∃ z, aget l q = some z := by
  unfold overS at h
  obtain ⟨b, hb, rfl⟩ := List.mem_map.1 h
  have := (List.mem_filter.1 hb).2
  simp only [Bool.and_eq_true] at this
  exact Option.isSome_iff_exists.1 this.2
/-- What Longest tells. -/
def longR (u : Nat → Int) (l : List (Pfx × Int)) (x : Int) : Pfx × Int × Bool := match (overS u l x 33).getLast? with
  | some p => (p, (aget l p).getD 0, true)
  | none => (⟨0, 0⟩, 0, false)
set_option maxHeartbeats 4000000 in
theorem longest_A (u : Nat → Int) (l : List (Pfx × Int)) (x : Int) (x0 : 0 ≤ x) (x1 : x < 4294967296) (hn : (l.map (·.1)).Nodup) :
    ACall Try.prog 18 [.ptr 1000 0, .d (.sc (.int .u32 x))] [(1000, tblB 1001 u), (1001, mapB l)] (fun c h => c = .tup [pfxA (longR u l x).1, intA (longR u l x).2.1, boolA (longR u l x).2.2] ∧ h = [(1000, tblB 1001 u), (1001, mapB l)]) := by
  refine ACall_of tabOk Try.func18 rfl Try.ntmps18 (congrArg Array.toList Try.results18) (by kernel_rfl) rfl ?_
  refine A_seq ?_
  refine R_list ?_
  refine O_alloc tabOk rfl rfl rfl rfl rfl rfl ?_
  refine O_weaken (Wk_sel (e1 := [(0, .ptr 1000 0), (1, .d (.sc (.int .u32 x))), (4, .ptr 4 0)]) (h1 := [(4, .var [.d (.sc (.int .u32 0)), .d (.sc (.int .i64 0))]), (1000, tblB 1001 u), (1001, mapB l)]) ⟨rfl, rfl, rfl, trivial⟩ ⟨rfl, rfl, kill_map 4 l, trivial⟩) ?_
  obtain ⟨L, hL⟩ : ∃ L, overS u l x 33 = L := ⟨_, rfl⟩
  have hov := over_A u l x x0 x1 hn
  rw [hL] at hov
  have hLn : L.length ≤ 33 := by rw [← hL]; exact overS_len u l x 33
  unfold longR
  rw [hL]
  by_cases h0 : L.length = 0
  · have : L = [] := List.length_eq_zero_iff.1 h0
    subst this
    repeat (first | refine A_seq ?_ | refine A_block ?_ | refine R_list ?_ | refine R_quiet rfl mixed (by kernel_rfl) ?_ | ((first | apply O_y rfl rfl rfl | apply Q_y rfl rfl rfl); (first | exact Y_move rfl rfl | exact Y_assign rfl rfl | exact R_index tabOk rfl rfl rfl rfl rfl rfl (by omega) | exact R_fieldi tabOk rfl rfl rfl | exact R_loadi tabOk rfl rfl rfl rfl rfl rfl rfl | exact R_len tabOk rfl rfl rfl | exact R_load tabOk rfl rfl rfl rfl rfl rfl rfl rfl rfl | exact R_field tabOk rfl rfl rfl rfl | exact Y_addn rfl rfl rfl | exact Y_subn rfl rfl rfl | exact R_cmpT rfl rfl rfl rfl | exact R_cmpF rfl rfl rfl rfl | exact Y_ibin rfl rfl rfl rfl | exact Y_extract rfl rfl rfl | exact R_lenr tabOk rfl rfl rfl rfl | exact R_lenn tabOk rfl rfl rfl | exact R_indexr tabOk rfl rfl rfl rfl rfl rfl rfl (by omega) | exact R_fielde tabOk rfl rfl rfl rfl | exact R_loade tabOk rfl rfl rfl rfl rfl rfl rfl rfl rfl | exact Y_not rfl rfl | exact Y_pick_t rfl rfl (by first | rfl | assumption) rfl | exact Y_pick_f rfl rfl (by first | rfl | assumption) rfl | exact Y_pick_b rfl rfl rfl rfl | exact R_build tabOk rfl rfl rfl rfl rfl rfl | fail)) | refine O_nil ?_ | refine Q_nil ?_ | refine X_then_normal ?_ | refine X_in_normal ?_ | refine O_box rfl rfl rfl rfl rfl rfl rfl ?_ | refine O_alloc tabOk rfl rfl rfl rfl rfl rfl ?_ | refine O_store tabOk rfl rfl rfl rfl rfl rfl rfl rfl rfl rfl rfl ?_ | refine O_slice tabOk rfl rfl rfl rfl rfl rfl rfl rfl rfl rfl rfl ?_ | refine A_ct rfl ?_ | refine A_cf rfl ?_ | refine A_skip ?_ | refine A_exit ?_ | refine A_ret ?_ | refine X_then_exit ?_ | refine X_then_ret ?_ | refine X_in_same ?_ | refine X_in_other rfl ?_ | refine X_in_ret ?_ | refine O_s rfl rfl rfl ?_ | refine Q_s rfl rfl rfl ?_ | refine O_sn rfl rfl ?_ | (refine O_cTbl 1000 1001 (by omega) hov rfl rfl rfl rfl rfl rfl rfl rfl rfl ?_))
    exact X_retW AWk.refl rfl (h2 := [(1000, tblB 1001 u), (1001, mapB l)]) ⟨rfl, rfl, trivial⟩ ⟨rfl, rfl⟩
  · have hlt : L.length - 1 < L.length := by omega
    repeat (first | refine A_seq ?_ | refine A_block ?_ | refine R_list ?_ | refine R_quiet rfl mixed (by kernel_rfl) ?_ | ((first | apply O_y rfl rfl rfl | apply Q_y rfl rfl rfl); (first | exact Y_move rfl rfl | exact Y_assign rfl rfl | exact R_index tabOk rfl rfl rfl rfl rfl rfl (by omega) | exact R_fieldi tabOk rfl rfl rfl | exact R_loadi tabOk rfl rfl rfl rfl (by first | exact win_flat0 pfxD_len L (L.length - 1) _ hlt (by decide) | exact win_flat pfxD_len L (L.length - 1) _ _ hlt (by decide) | exact win_flat2 pfxD_len L (L.length - 1) _ _ _ hlt (by decide) | rfl) rfl rfl | exact R_len tabOk rfl rfl rfl | exact R_load tabOk rfl rfl rfl rfl rfl rfl rfl rfl rfl | exact R_field tabOk rfl rfl rfl rfl | exact Y_addn rfl rfl rfl | exact Y_subn rfl rfl rfl | exact R_cmpT rfl rfl rfl rfl | exact R_cmpF rfl rfl rfl rfl | exact Y_ibin rfl rfl rfl rfl | exact Y_extract rfl rfl rfl | exact R_lenr tabOk rfl rfl rfl rfl | exact R_lenn tabOk rfl rfl rfl | exact R_indexr tabOk rfl rfl rfl rfl rfl rfl rfl (by omega) | exact R_fielde tabOk rfl rfl rfl rfl | exact R_loade tabOk rfl rfl rfl rfl rfl rfl rfl rfl rfl | exact Y_not rfl rfl | exact Y_pick_t rfl rfl (by first | rfl | assumption) rfl | exact Y_pick_f rfl rfl (by first | rfl | assumption) rfl | exact Y_pick_b rfl rfl rfl rfl | exact R_build tabOk rfl rfl rfl rfl rfl rfl | (exact R_index (j := L.length - 1) tabOk rfl rfl rfl rfl rfl (by omega) hlt))) | refine O_nil ?_ | refine Q_nil ?_ | refine X_then_normal ?_ | refine X_in_normal ?_ | refine O_box rfl rfl rfl rfl rfl rfl rfl ?_ | refine O_alloc tabOk rfl rfl rfl rfl rfl rfl ?_ | refine O_store tabOk rfl rfl rfl rfl rfl rfl rfl rfl rfl rfl rfl ?_ | refine O_slice tabOk rfl rfl rfl rfl rfl rfl rfl rfl rfl rfl rfl ?_ | refine A_ct rfl ?_ | refine A_cf rfl ?_ | refine A_skip ?_ | refine A_exit ?_ | refine A_ret ?_ | refine X_then_exit ?_ | refine X_then_ret ?_ | refine X_in_same ?_ | refine X_in_other rfl ?_ | refine X_in_ret ?_ | refine O_s rfl rfl rfl ?_ | refine Q_s rfl rfl rfl ?_ | refine O_sn rfl rfl ?_ | (refine O_cTbl 1000 1001 (by omega) hov rfl rfl rfl rfl rfl rfl rfl rfl rfl ?_))
    obtain ⟨q, hq⟩ : ∃ q, L[L.length - 1] = q := ⟨_, rfl⟩
    have hlast : L.getLast? = some q := by rw [List.getLast?_eq_getElem?, List.getElem?_eq_getElem hlt, hq]
    obtain ⟨z, hz⟩ : ∃ z, aget l q = some z := by
      refine overS_mem u l x 33 q ?_
      rw [hL]
      exact List.mem_of_getElem? (by rw [← hq]; exact List.getElem?_eq_getElem hlt)
    rw [hq]
    refine A_weaken (Wk_sel (e1 := [(0, .ptr 1000 0), (4, .ptr 4 0)]) (h1 := [(4, .var [.d (.sc (.int .u32 q.a)), .d (.sc (.int .i64 q.b))]), (1000, tblB 1001 u), (1001, mapB l)]) ⟨rfl, rfl, trivial⟩ ⟨rfl, rfl, rfl, trivial⟩) ?_
    refine N_begin [4] mixed ?_
    repeat (first | ((first | apply N_takeN (i := 0) rfl rfl (by kernel_rfl) (by decide +kernel) (by decide +kernel) (by repeat (first | exact np_post | apply np_then | apply np_in)) rfl rfl rfl | apply N_takeN (i := 1) rfl rfl (by kernel_rfl) (by decide +kernel) (by decide +kernel) (by repeat (first | exact np_post | apply np_then | apply np_in)) rfl rfl rfl | apply N_takeN (i := 2) rfl rfl (by kernel_rfl) (by decide +kernel) (by decide +kernel) (by repeat (first | exact np_post | apply np_then | apply np_in)) rfl rfl rfl | apply N_takeN (i := 3) rfl rfl (by kernel_rfl) (by decide +kernel) (by decide +kernel) (by repeat (first | exact np_post | apply np_then | apply np_in)) rfl rfl rfl | apply N_takeN (i := 4) rfl rfl (by kernel_rfl) (by decide +kernel) (by decide +kernel) (by repeat (first | exact np_post | apply np_then | apply np_in)) rfl rfl rfl | apply N_takeN (i := 5) rfl rfl (by kernel_rfl) (by decide +kernel) (by decide +kernel) (by repeat (first | exact np_post | apply np_then | apply np_in)) rfl rfl rfl | apply N_takeN (i := 6) rfl rfl (by kernel_rfl) (by decide +kernel) (by decide +kernel) (by repeat (first | exact np_post | apply np_then | apply np_in)) rfl rfl rfl | apply N_takeN (i := 7) rfl rfl (by kernel_rfl) (by decide +kernel) (by decide +kernel) (by repeat (first | exact np_post | apply np_then | apply np_in)) rfl rfl rfl | apply N_takeN (i := 8) rfl rfl (by kernel_rfl) (by decide +kernel) (by decide +kernel) (by repeat (first | exact np_post | apply np_then | apply np_in)) rfl rfl rfl | apply N_takeN (i := 9) rfl rfl (by kernel_rfl) (by decide +kernel) (by decide +kernel) (by repeat (first | exact np_post | apply np_then | apply np_in)) rfl rfl rfl | apply N_takeN (i := 10) rfl rfl (by kernel_rfl) (by decide +kernel) (by decide +kernel) (by repeat (first | exact np_post | apply np_then | apply np_in)) rfl rfl rfl | apply N_takeN (i := 11) rfl rfl (by kernel_rfl) (by decide +kernel) (by decide +kernel) (by repeat (first | exact np_post | apply np_then | apply np_in)) rfl rfl rfl | apply N_takeN (i := 12) rfl rfl (by kernel_rfl) (by decide +kernel) (by decide +kernel) (by repeat (first | exact np_post | apply np_then | apply np_in)) rfl rfl rfl ); (first | exact Y_move rfl rfl | exact Y_assign rfl rfl | exact R_index tabOk rfl rfl rfl rfl rfl rfl (by omega) | exact R_fieldi tabOk rfl rfl rfl | exact R_loadi tabOk rfl rfl rfl rfl rfl rfl rfl | exact R_len tabOk rfl rfl rfl | exact R_load tabOk rfl rfl rfl rfl rfl rfl rfl rfl rfl | exact R_field tabOk rfl rfl rfl rfl | exact Y_addn rfl rfl rfl | exact Y_subn rfl rfl rfl | exact R_cmpT rfl rfl rfl rfl | exact R_cmpF rfl rfl rfl rfl | exact Y_ibin rfl rfl rfl rfl | exact Y_extract rfl rfl rfl | exact R_lenr tabOk rfl rfl rfl rfl | exact R_lenn tabOk rfl rfl rfl | exact R_indexr tabOk rfl rfl rfl rfl rfl rfl rfl (by omega) | exact R_fielde tabOk rfl rfl rfl rfl | exact R_loade tabOk rfl rfl rfl rfl rfl rfl rfl rfl rfl | exact Y_not rfl rfl | exact Y_pick_t rfl rfl (by first | rfl | assumption) rfl | exact Y_pick_f rfl rfl (by first | rfl | assumption) rfl | exact Y_pick_b rfl rfl rfl rfl | exact R_build tabOk rfl rfl rfl rfl rfl rfl | (first | exact Y_nilCheck rfl rfl rfl | exact R_lk1 pfxKey pfxA_val zeroInt trivial (fun _ _ => trivial) hn hz tabOk rfl rfl rfl rfl rfl rfl))) | (apply N_takeL (i := 0) rfl rfl (by kernel_rfl) (by decide +kernel) (by decide +kernel) (by repeat (first | exact np_post | apply np_then | apply np_in)) rfl rfl rfl; (first | exact R_loadi tabOk rfl rfl rfl rfl rfl rfl rfl | exact R_len tabOk rfl rfl rfl | exact R_load tabOk rfl rfl rfl rfl rfl rfl rfl rfl rfl | exact R_lenr tabOk rfl rfl rfl rfl | exact R_lenn tabOk rfl rfl rfl | exact R_loade tabOk rfl rfl rfl rfl rfl rfl rfl rfl rfl | (first | exact Y_nilCheck rfl rfl rfl | exact R_lk1 pfxKey pfxA_val zeroInt trivial (fun _ _ => trivial) hn hz tabOk rfl rfl rfl rfl rfl rfl))) | (apply N_takeL (i := 1) rfl rfl (by kernel_rfl) (by decide +kernel) (by decide +kernel) (by repeat (first | exact np_post | apply np_then | apply np_in)) rfl rfl rfl; (first | exact R_loadi tabOk rfl rfl rfl rfl rfl rfl rfl | exact R_len tabOk rfl rfl rfl | exact R_load tabOk rfl rfl rfl rfl rfl rfl rfl rfl rfl | exact R_lenr tabOk rfl rfl rfl rfl | exact R_lenn tabOk rfl rfl rfl | exact R_loade tabOk rfl rfl rfl rfl rfl rfl rfl rfl rfl | (first | exact Y_nilCheck rfl rfl rfl | exact R_lk1 pfxKey pfxA_val zeroInt trivial (fun _ _ => trivial) hn hz tabOk rfl rfl rfl rfl rfl rfl))) | (apply N_takeL (i := 2) rfl rfl (by kernel_rfl) (by decide +kernel) (by decide +kernel) (by repeat (first | exact np_post | apply np_then | apply np_in)) rfl rfl rfl; (first | exact R_loadi tabOk rfl rfl rfl rfl rfl rfl rfl | exact R_len tabOk rfl rfl rfl | exact R_load tabOk rfl rfl rfl rfl rfl rfl rfl rfl rfl | exact R_lenr tabOk rfl rfl rfl rfl | exact R_lenn tabOk rfl rfl rfl | exact R_loade tabOk rfl rfl rfl rfl rfl rfl rfl rfl rfl | (first | exact Y_nilCheck rfl rfl rfl | exact R_lk1 pfxKey pfxA_val zeroInt trivial (fun _ _ => trivial) hn hz tabOk rfl rfl rfl rfl rfl rfl))) | (apply N_takeL (i := 3) rfl rfl (by kernel_rfl) (by decide +kernel) (by decide +kernel) (by repeat (first | exact np_post | apply np_then | apply np_in)) rfl rfl rfl; (first | exact R_loadi tabOk rfl rfl rfl rfl rfl rfl rfl | exact R_len tabOk rfl rfl rfl | exact R_load tabOk rfl rfl rfl rfl rfl rfl rfl rfl rfl | exact R_lenr tabOk rfl rfl rfl rfl | exact R_lenn tabOk rfl rfl rfl | exact R_loade tabOk rfl rfl rfl rfl rfl rfl rfl rfl rfl | (first | exact Y_nilCheck rfl rfl rfl | exact R_lk1 pfxKey pfxA_val zeroInt trivial (fun _ _ => trivial) hn hz tabOk rfl rfl rfl rfl rfl rfl))) | (apply N_takeL (i := 4) rfl rfl (by kernel_rfl) (by decide +kernel) (by decide +kernel) (by repeat (first | exact np_post | apply np_then | apply np_in)) rfl rfl rfl; (first | exact R_loadi tabOk rfl rfl rfl rfl rfl rfl rfl | exact R_len tabOk rfl rfl rfl | exact R_load tabOk rfl rfl rfl rfl rfl rfl rfl rfl rfl | exact R_lenr tabOk rfl rfl rfl rfl | exact R_lenn tabOk rfl rfl rfl | exact R_loade tabOk rfl rfl rfl rfl rfl rfl rfl rfl rfl | (first | exact Y_nilCheck rfl rfl rfl | exact R_lk1 pfxKey pfxA_val zeroInt trivial (fun _ _ => trivial) hn hz tabOk rfl rfl rfl rfl rfl rfl))) | (apply N_takeL (i := 5) rfl rfl (by kernel_rfl) (by decide +kernel) (by decide +kernel) (by repeat (first | exact np_post | apply np_then | apply np_in)) rfl rfl rfl; (first | exact R_loadi tabOk rfl rfl rfl rfl rfl rfl rfl | exact R_len tabOk rfl rfl rfl | exact R_load tabOk rfl rfl rfl rfl rfl rfl rfl rfl rfl | exact R_lenr tabOk rfl rfl rfl rfl | exact R_lenn tabOk rfl rfl rfl | exact R_loade tabOk rfl rfl rfl rfl rfl rfl rfl rfl rfl | (first | exact Y_nilCheck rfl rfl rfl | exact R_lk1 pfxKey pfxA_val zeroInt trivial (fun _ _ => trivial) hn hz tabOk rfl rfl rfl rfl rfl rfl))) | (apply N_takeL (i := 6) rfl rfl (by kernel_rfl) (by decide +kernel) (by decide +kernel) (by repeat (first | exact np_post | apply np_then | apply np_in)) rfl rfl rfl; (first | exact R_loadi tabOk rfl rfl rfl rfl rfl rfl rfl | exact R_len tabOk rfl rfl rfl | exact R_load tabOk rfl rfl rfl rfl rfl rfl rfl rfl rfl | exact R_lenr tabOk rfl rfl rfl rfl | exact R_lenn tabOk rfl rfl rfl | exact R_loade tabOk rfl rfl rfl rfl rfl rfl rfl rfl rfl | (first | exact Y_nilCheck rfl rfl rfl | exact R_lk1 pfxKey pfxA_val zeroInt trivial (fun _ _ => trivial) hn hz tabOk rfl rfl rfl rfl rfl rfl))) | (apply N_takeL (i := 7) rfl rfl (by kernel_rfl) (by decide +kernel) (by decide +kernel) (by repeat (first | exact np_post | apply np_then | apply np_in)) rfl rfl rfl; (first | exact R_loadi tabOk rfl rfl rfl rfl rfl rfl rfl | exact R_len tabOk rfl rfl rfl | exact R_load tabOk rfl rfl rfl rfl rfl rfl rfl rfl rfl | exact R_lenr tabOk rfl rfl rfl rfl | exact R_lenn tabOk rfl rfl rfl | exact R_loade tabOk rfl rfl rfl rfl rfl rfl rfl rfl rfl | (first | exact Y_nilCheck rfl rfl rfl | exact R_lk1 pfxKey pfxA_val zeroInt trivial (fun _ _ => trivial) hn hz tabOk rfl rfl rfl rfl rfl rfl))) | (apply N_takeL (i := 8) rfl rfl (by kernel_rfl) (by decide +kernel) (by decide +kernel) (by repeat (first | exact np_post | apply np_then | apply np_in)) rfl rfl rfl; (first | exact R_loadi tabOk rfl rfl rfl rfl rfl rfl rfl | exact R_len tabOk rfl rfl rfl | exact R_load tabOk rfl rfl rfl rfl rfl rfl rfl rfl rfl | exact R_lenr tabOk rfl rfl rfl rfl | exact R_lenn tabOk rfl rfl rfl | exact R_loade tabOk rfl rfl rfl rfl rfl rfl rfl rfl rfl | (first | exact Y_nilCheck rfl rfl rfl | exact R_lk1 pfxKey pfxA_val zeroInt trivial (fun _ _ => trivial) hn hz tabOk rfl rfl rfl rfl rfl rfl))) | (apply N_takeL (i := 9) rfl rfl (by kernel_rfl) (by decide +kernel) (by decide +kernel) (by repeat (first | exact np_post | apply np_then | apply np_in)) rfl rfl rfl; (first | exact R_loadi tabOk rfl rfl rfl rfl rfl rfl rfl | exact R_len tabOk rfl rfl rfl | exact R_load tabOk rfl rfl rfl rfl rfl rfl rfl rfl rfl | exact R_lenr tabOk rfl rfl rfl rfl | exact R_lenn tabOk rfl rfl rfl | exact R_loade tabOk rfl rfl rfl rfl rfl rfl rfl rfl rfl | (first | exact Y_nilCheck rfl rfl rfl | exact R_lk1 pfxKey pfxA_val zeroInt trivial (fun _ _ => trivial) hn hz tabOk rfl rfl rfl rfl rfl rfl))) | (apply N_takeL (i := 10) rfl rfl (by kernel_rfl) (by decide +kernel) (by decide +kernel) (by repeat (first | exact np_post | apply np_then | apply np_in)) rfl rfl rfl; (first | exact R_loadi tabOk rfl rfl rfl rfl rfl rfl rfl | exact R_len tabOk rfl rfl rfl | exact R_load tabOk rfl rfl rfl rfl rfl rfl rfl rfl rfl | exact R_lenr tabOk rfl rfl rfl rfl | exact R_lenn tabOk rfl rfl rfl | exact R_loade tabOk rfl rfl rfl rfl rfl rfl rfl rfl rfl | (first | exact Y_nilCheck rfl rfl rfl | exact R_lk1 pfxKey pfxA_val zeroInt trivial (fun _ _ => trivial) hn hz tabOk rfl rfl rfl rfl rfl rfl))) | (apply N_takeL (i := 11) rfl rfl (by kernel_rfl) (by decide +kernel) (by decide +kernel) (by repeat (first | exact np_post | apply np_then | apply np_in)) rfl rfl rfl; (first | exact R_loadi tabOk rfl rfl rfl rfl rfl rfl rfl | exact R_len tabOk rfl rfl rfl | exact R_load tabOk rfl rfl rfl rfl rfl rfl rfl rfl rfl | exact R_lenr tabOk rfl rfl rfl rfl | exact R_lenn tabOk rfl rfl rfl | exact R_loade tabOk rfl rfl rfl rfl rfl rfl rfl rfl rfl | (first | exact Y_nilCheck rfl rfl rfl | exact R_lk1 pfxKey pfxA_val zeroInt trivial (fun _ _ => trivial) hn hz tabOk rfl rfl rfl rfl rfl rfl))) | (apply N_takeL (i := 12) rfl rfl (by kernel_rfl) (by decide +kernel) (by decide +kernel) (by repeat (first | exact np_post | apply np_then | apply np_in)) rfl rfl rfl; (first | exact R_loadi tabOk rfl rfl rfl rfl rfl rfl rfl | exact R_len tabOk rfl rfl rfl | exact R_load tabOk rfl rfl rfl rfl rfl rfl rfl rfl rfl | exact R_lenr tabOk rfl rfl rfl rfl | exact R_lenn tabOk rfl rfl rfl | exact R_loade tabOk rfl rfl rfl rfl rfl rfl rfl rfl rfl | (first | exact Y_nilCheck rfl rfl rfl | exact R_lk1 pfxKey pfxA_val zeroInt trivial (fun _ _ => trivial) hn hz tabOk rfl rfl rfl rfl rfl rfl))) | refine N_one (j := 0) (by decide +kernel) ?_ | refine N_one (j := 1) (by decide +kernel) ?_ | refine N_one (j := 2) (by decide +kernel) ?_ | refine N_one (j := 3) (by decide +kernel) ?_ | refine N_one (j := 4) (by decide +kernel) ?_ | refine N_one (j := 5) (by decide +kernel) ?_ | refine N_one (j := 6) (by decide +kernel) ?_ | refine N_one (j := 7) (by decide +kernel) ?_ | refine N_one (j := 8) (by decide +kernel) ?_ | refine N_one (j := 9) (by decide +kernel) ?_ | refine N_one (j := 10) (by decide +kernel) ?_ | refine N_one (j := 11) (by decide +kernel) ?_ | refine N_one (j := 12) (by decide +kernel) ?_ | refine T_alloc tabOk rfl rfl rfl rfl rfl rfl rfl ?_ | refine T_store tabOk rfl rfl rfl rfl rfl rfl rfl rfl rfl rfl rfl rfl rfl ?_ | refine T_box rfl rfl rfl rfl rfl rfl rfl rfl ?_ | (apply T_yield rfl rfl rfl rfl; (first | exact Y_move rfl rfl | exact Y_assign rfl rfl | exact R_index tabOk rfl rfl rfl rfl rfl rfl (by omega) | exact R_fieldi tabOk rfl rfl rfl | exact R_loadi tabOk rfl rfl rfl rfl rfl rfl rfl | exact R_len tabOk rfl rfl rfl | exact R_load tabOk rfl rfl rfl rfl rfl rfl rfl rfl rfl | exact R_field tabOk rfl rfl rfl rfl | exact Y_addn rfl rfl rfl | exact Y_subn rfl rfl rfl | exact R_cmpT rfl rfl rfl rfl | exact R_cmpF rfl rfl rfl rfl | exact Y_ibin rfl rfl rfl rfl | exact Y_extract rfl rfl rfl | exact R_lenr tabOk rfl rfl rfl rfl | exact R_lenn tabOk rfl rfl rfl | exact R_indexr tabOk rfl rfl rfl rfl rfl rfl rfl (by omega) | exact R_fielde tabOk rfl rfl rfl rfl | exact R_loade tabOk rfl rfl rfl rfl rfl rfl rfl rfl rfl | exact Y_not rfl rfl | exact Y_pick_t rfl rfl (by first | rfl | assumption) rfl | exact Y_pick_f rfl rfl (by first | rfl | assumption) rfl | exact Y_pick_b rfl rfl rfl rfl | exact R_build tabOk rfl rfl rfl rfl rfl rfl | (first | exact Y_nilCheck rfl rfl rfl | exact R_lk1 pfxKey pfxA_val zeroInt trivial (fun _ _ => trivial) hn hz tabOk rfl rfl rfl rfl rfl rfl))) | refine N_done (by decide +kernel) ?_ | fail)
    refine N_two (j := 0) (k := 5) (by decide +kernel) ?_ ?_
    ·
      repeat (first | ((first | apply N_takeN (i := 0) rfl rfl (by kernel_rfl) (by decide +kernel) (by decide +kernel) (by repeat (first | exact np_post | apply np_then | apply np_in)) rfl rfl rfl | apply N_takeN (i := 1) rfl rfl (by kernel_rfl) (by decide +kernel) (by decide +kernel) (by repeat (first | exact np_post | apply np_then | apply np_in)) rfl rfl rfl | apply N_takeN (i := 2) rfl rfl (by kernel_rfl) (by decide +kernel) (by decide +kernel) (by repeat (first | exact np_post | apply np_then | apply np_in)) rfl rfl rfl | apply N_takeN (i := 3) rfl rfl (by kernel_rfl) (by decide +kernel) (by decide +kernel) (by repeat (first | exact np_post | apply np_then | apply np_in)) rfl rfl rfl | apply N_takeN (i := 4) rfl rfl (by kernel_rfl) (by decide +kernel) (by decide +kernel) (by repeat (first | exact np_post | apply np_then | apply np_in)) rfl rfl rfl | apply N_takeN (i := 5) rfl rfl (by kernel_rfl) (by decide +kernel) (by decide +kernel) (by repeat (first | exact np_post | apply np_then | apply np_in)) rfl rfl rfl | apply N_takeN (i := 6) rfl rfl (by kernel_rfl) (by decide +kernel) (by decide +kernel) (by repeat (first | exact np_post | apply np_then | apply np_in)) rfl rfl rfl | apply N_takeN (i := 7) rfl rfl (by kernel_rfl) (by decide +kernel) (by decide +kernel) (by repeat (first | exact np_post | apply np_then | apply np_in)) rfl rfl rfl | apply N_takeN (i := 8) rfl rfl (by kernel_rfl) (by decide +kernel) (by decide +kernel) (by repeat (first | exact np_post | apply np_then | apply np_in)) rfl rfl rfl | apply N_takeN (i := 9) rfl rfl (by kernel_rfl) (by decide +kernel) (by decide +kernel) (by repeat (first | exact np_post | apply np_then | apply np_in)) rfl rfl rfl | apply N_takeN (i := 10) rfl rfl (by kernel_rfl) (by decide +kernel) (by decide +kernel) (by repeat (first | exact np_post | apply np_then | apply np_in)) rfl rfl rfl | apply N_takeN (i := 11) rfl rfl (by kernel_rfl) (by decide +kernel) (by decide +kernel) (by repeat (first | exact np_post | apply np_then | apply np_in)) rfl rfl rfl | apply N_takeN (i := 12) rfl rfl (by kernel_rfl) (by decide +kernel) (by decide +kernel) (by repeat (first | exact np_post | apply np_then | apply np_in)) rfl rfl rfl ); (first | exact Y_move rfl rfl | exact Y_assign rfl rfl | exact R_index tabOk rfl rfl rfl rfl rfl rfl (by omega) | exact R_fieldi tabOk rfl rfl rfl | exact R_loadi tabOk rfl rfl rfl rfl rfl rfl rfl | exact R_len tabOk rfl rfl rfl | exact R_load tabOk rfl rfl rfl rfl rfl rfl rfl rfl rfl | exact R_field tabOk rfl rfl rfl rfl | exact Y_addn rfl rfl rfl | exact Y_subn rfl rfl rfl | exact R_cmpT rfl rfl rfl rfl | exact R_cmpF rfl rfl rfl rfl | exact Y_ibin rfl rfl rfl rfl | exact Y_extract rfl rfl rfl | exact R_lenr tabOk rfl rfl rfl rfl | exact R_lenn tabOk rfl rfl rfl | exact R_indexr tabOk rfl rfl rfl rfl rfl rfl rfl (by omega) | exact R_fielde tabOk rfl rfl rfl rfl | exact R_loade tabOk rfl rfl rfl rfl rfl rfl rfl rfl rfl | exact Y_not rfl rfl | exact Y_pick_t rfl rfl (by first | rfl | assumption) rfl | exact Y_pick_f rfl rfl (by first | rfl | assumption) rfl | exact Y_pick_b rfl rfl rfl rfl | exact R_build tabOk rfl rfl rfl rfl rfl rfl | (first | exact Y_nilCheck rfl rfl rfl | exact R_lk1 pfxKey pfxA_val zeroInt trivial (fun _ _ => trivial) hn hz tabOk rfl rfl rfl rfl rfl rfl))) | (apply N_takeL (i := 0) rfl rfl (by kernel_rfl) (by decide +kernel) (by decide +kernel) (by repeat (first | exact np_post | apply np_then | apply np_in)) rfl rfl rfl; (first | exact R_loadi tabOk rfl rfl rfl rfl rfl rfl rfl | exact R_len tabOk rfl rfl rfl | exact R_load tabOk rfl rfl rfl rfl rfl rfl rfl rfl rfl | exact R_lenr tabOk rfl rfl rfl rfl | exact R_lenn tabOk rfl rfl rfl | exact R_loade tabOk rfl rfl rfl rfl rfl rfl rfl rfl rfl | (first | exact Y_nilCheck rfl rfl rfl | exact R_lk1 pfxKey pfxA_val zeroInt trivial (fun _ _ => trivial) hn hz tabOk rfl rfl rfl rfl rfl rfl))) | (apply N_takeL (i := 1) rfl rfl (by kernel_rfl) (by decide +kernel) (by decide +kernel) (by repeat (first | exact np_post | apply np_then | apply np_in)) rfl rfl rfl; (first | exact R_loadi tabOk rfl rfl rfl rfl rfl rfl rfl | exact R_len tabOk rfl rfl rfl | exact R_load tabOk rfl rfl rfl rfl rfl rfl rfl rfl rfl | exact R_lenr tabOk rfl rfl rfl rfl | exact R_lenn tabOk rfl rfl rfl | exact R_loade tabOk rfl rfl rfl rfl rfl rfl rfl rfl rfl | (first | exact Y_nilCheck rfl rfl rfl | exact R_lk1 pfxKey pfxA_val zeroInt trivial (fun _ _ => trivial) hn hz tabOk rfl rfl rfl rfl rfl rfl))) | (apply N_takeL (i := 2) rfl rfl (by kernel_rfl) (by decide +kernel) (by decide +kernel) (by repeat (first | exact np_post | apply np_then | apply np_in)) rfl rfl rfl; (first | exact R_loadi tabOk rfl rfl rfl rfl rfl rfl rfl | exact R_len tabOk rfl rfl rfl | exact R_load tabOk rfl rfl rfl rfl rfl rfl rfl rfl rfl | exact R_lenr tabOk rfl rfl rfl rfl | exact R_lenn tabOk rfl rfl rfl | exact R_loade tabOk rfl rfl rfl rfl rfl rfl rfl rfl rfl | (first | exact Y_nilCheck rfl rfl rfl | exact R_lk1 pfxKey pfxA_val zeroInt trivial (fun _ _ => trivial) hn hz tabOk rfl rfl rfl rfl rfl rfl))) | (apply N_takeL (i := 3) rfl rfl (by kernel_rfl) (by decide +kernel) (by decide +kernel) (by repeat (first | exact np_post | apply np_then | apply np_in)) rfl rfl rfl; (first | exact R_loadi tabOk rfl rfl rfl rfl rfl rfl rfl | exact R_len tabOk rfl rfl rfl | exact R_load tabOk rfl rfl rfl rfl rfl rfl rfl rfl rfl | exact R_lenr tabOk rfl rfl rfl rfl | exact R_lenn tabOk rfl rfl rfl | exact R_loade tabOk rfl rfl rfl rfl rfl rfl rfl rfl rfl | (first | exact Y_nilCheck rfl rfl rfl | exact R_lk1 pfxKey pfxA_val zeroInt trivial (fun _ _ => trivial) hn hz tabOk rfl rfl rfl rfl rfl rfl))) | (apply N_takeL (i := 4) rfl rfl (by kernel_rfl) (by decide +kernel) (by decide +kernel) (by repeat (first | exact np_post | apply np_then | apply np_in)) rfl rfl rfl; (first | exact R_loadi tabOk rfl rfl rfl rfl rfl rfl rfl | exact R_len tabOk rfl rfl rfl | exact R_load tabOk rfl rfl rfl rfl rfl rfl rfl rfl rfl | exact R_lenr tabOk rfl rfl rfl rfl | exact R_lenn tabOk rfl rfl rfl | exact R_loade tabOk rfl rfl rfl rfl rfl rfl rfl rfl rfl | (first | exact Y_nilCheck rfl rfl rfl | exact R_lk1 pfxKey pfxA_val zeroInt trivial (fun _ _ => trivial) hn hz tabOk rfl rfl rfl rfl rfl rfl))) | (apply N_takeL (i := 5) rfl rfl (by kernel_rfl) (by decide +kernel) (by decide +kernel) (by repeat (first | exact np_post | apply np_then | apply np_in)) rfl rfl rfl; (first | exact R_loadi tabOk rfl rfl rfl rfl rfl rfl rfl | exact R_len tabOk rfl rfl rfl | exact R_load tabOk rfl rfl rfl rfl rfl rfl rfl rfl rfl | exact R_lenr tabOk rfl rfl rfl rfl | exact R_lenn tabOk rfl rfl rfl | exact R_loade tabOk rfl rfl rfl rfl rfl rfl rfl rfl rfl | (first | exact Y_nilCheck rfl rfl rfl | exact R_lk1 pfxKey pfxA_val zeroInt trivial (fun _ _ => trivial) hn hz tabOk rfl rfl rfl rfl rfl rfl))) | (apply N_takeL (i := 6) rfl rfl (by kernel_rfl) (by decide +kernel) (by decide +kernel) (by repeat (first | exact np_post | apply np_then | apply np_in)) rfl rfl rfl; (first | exact R_loadi tabOk rfl rfl rfl rfl rfl rfl rfl | exact R_len tabOk rfl rfl rfl | exact R_load tabOk rfl rfl rfl rfl rfl rfl rfl rfl rfl | exact R_lenr tabOk rfl rfl rfl rfl | exact R_lenn tabOk rfl rfl rfl | exact R_loade tabOk rfl rfl rfl rfl rfl rfl rfl rfl rfl | (first | exact Y_nilCheck rfl rfl rfl | exact R_lk1 pfxKey pfxA_val zeroInt trivial (fun _ _ => trivial) hn hz tabOk rfl rfl rfl rfl rfl rfl))) | (apply N_takeL (i := 7) rfl rfl (by kernel_rfl) (by decide +kernel) (by decide +kernel) (by repeat (first | exact np_post | apply np_then | apply np_in)) rfl rfl rfl; (first | exact R_loadi tabOk rfl rfl rfl rfl rfl rfl rfl | exact R_len tabOk rfl rfl rfl | exact R_load tabOk rfl rfl rfl rfl rfl rfl rfl rfl rfl | exact R_lenr tabOk rfl rfl rfl rfl | exact R_lenn tabOk rfl rfl rfl | exact R_loade tabOk rfl rfl rfl rfl rfl rfl rfl rfl rfl | (first | exact Y_nilCheck rfl rfl rfl | exact R_lk1 pfxKey pfxA_val zeroInt trivial (fun _ _ => trivial) hn hz tabOk rfl rfl rfl rfl rfl rfl))) | (apply N_takeL (i := 8) rfl rfl (by kernel_rfl) (by decide +kernel) (by decide +kernel) (by repeat (first | exact np_post | apply np_then | apply np_in)) rfl rfl rfl; (first | exact R_loadi tabOk rfl rfl rfl rfl rfl rfl rfl | exact R_len tabOk rfl rfl rfl | exact R_load tabOk rfl rfl rfl rfl rfl rfl rfl rfl rfl | exact R_lenr tabOk rfl rfl rfl rfl | exact R_lenn tabOk rfl rfl rfl | exact R_loade tabOk rfl rfl rfl rfl rfl rfl rfl rfl rfl | (first | exact Y_nilCheck rfl rfl rfl | exact R_lk1 pfxKey pfxA_val zeroInt trivial (fun _ _ => trivial) hn hz tabOk rfl rfl rfl rfl rfl rfl))) | (apply N_takeL (i := 9) rfl rfl (by kernel_rfl) (by decide +kernel) (by decide +kernel) (by repeat (first | exact np_post | apply np_then | apply np_in)) rfl rfl rfl; (first | exact R_loadi tabOk rfl rfl rfl rfl rfl rfl rfl | exact R_len tabOk rfl rfl rfl | exact R_load tabOk rfl rfl rfl rfl rfl rfl rfl rfl rfl | exact R_lenr tabOk rfl rfl rfl rfl | exact R_lenn tabOk rfl rfl rfl | exact R_loade tabOk rfl rfl rfl rfl rfl rfl rfl rfl rfl | (first | exact Y_nilCheck rfl rfl rfl | exact R_lk1 pfxKey pfxA_val zeroInt trivial (fun _ _ => trivial) hn hz tabOk rfl rfl rfl rfl rfl rfl))) | (apply N_takeL (i := 10) rfl rfl (by kernel_rfl) (by decide +kernel) (by decide +kernel) (by repeat (first | exact np_post | apply np_then | apply np_in)) rfl rfl rfl; (first | exact R_loadi tabOk rfl rfl rfl rfl rfl rfl rfl | exact R_len tabOk rfl rfl rfl | exact R_load tabOk rfl rfl rfl rfl rfl rfl rfl rfl rfl | exact R_lenr tabOk rfl rfl rfl rfl | exact R_lenn tabOk rfl rfl rfl | exact R_loade tabOk rfl rfl rfl rfl rfl rfl rfl rfl rfl | (first | exact Y_nilCheck rfl rfl rfl | exact R_lk1 pfxKey pfxA_val zeroInt trivial (fun _ _ => trivial) hn hz tabOk rfl rfl rfl rfl rfl rfl))) | (apply N_takeL (i := 11) rfl rfl (by kernel_rfl) (by decide +kernel) (by decide +kernel) (by repeat (first | exact np_post | apply np_then | apply np_in)) rfl rfl rfl; (first | exact R_loadi tabOk rfl rfl rfl rfl rfl rfl rfl | exact R_len tabOk rfl rfl rfl | exact R_load tabOk rfl rfl rfl rfl rfl rfl rfl rfl rfl | exact R_lenr tabOk rfl rfl rfl rfl | exact R_lenn tabOk rfl rfl rfl | exact R_loade tabOk rfl rfl rfl rfl rfl rfl rfl rfl rfl | (first | exact Y_nilCheck rfl rfl rfl | exact R_lk1 pfxKey pfxA_val zeroInt trivial (fun _ _ => trivial) hn hz tabOk rfl rfl rfl rfl rfl rfl))) | (apply N_takeL (i := 12) rfl rfl (by kernel_rfl) (by decide +kernel) (by decide +kernel) (by repeat (first | exact np_post | apply np_then | apply np_in)) rfl rfl rfl; (first | exact R_loadi tabOk rfl rfl rfl rfl rfl rfl rfl | exact R_len tabOk rfl rfl rfl | exact R_load tabOk rfl rfl rfl rfl rfl rfl rfl rfl rfl | exact R_lenr tabOk rfl rfl rfl rfl | exact R_lenn tabOk rfl rfl rfl | exact R_loade tabOk rfl rfl rfl rfl rfl rfl rfl rfl rfl | (first | exact Y_nilCheck rfl rfl rfl | exact R_lk1 pfxKey pfxA_val zeroInt trivial (fun _ _ => trivial) hn hz tabOk rfl rfl rfl rfl rfl rfl))) | refine N_one (j := 0) (by decide +kernel) ?_ | refine N_one (j := 1) (by decide +kernel) ?_ | refine N_one (j := 2) (by decide +kernel) ?_ | refine N_one (j := 3) (by decide +kernel) ?_ | refine N_one (j := 4) (by decide +kernel) ?_ | refine N_one (j := 5) (by decide +kernel) ?_ | refine N_one (j := 6) (by decide +kernel) ?_ | refine N_one (j := 7) (by decide +kernel) ?_ | refine N_one (j := 8) (by decide +kernel) ?_ | refine N_one (j := 9) (by decide +kernel) ?_ | refine N_one (j := 10) (by decide +kernel) ?_ | refine N_one (j := 11) (by decide +kernel) ?_ | refine N_one (j := 12) (by decide +kernel) ?_ | refine T_alloc tabOk rfl rfl rfl rfl rfl rfl rfl ?_ | refine T_store tabOk rfl rfl rfl rfl rfl rfl rfl rfl rfl rfl rfl rfl rfl ?_ | refine T_box rfl rfl rfl rfl rfl rfl rfl rfl ?_ | (apply T_yield rfl rfl rfl rfl; (first | exact Y_move rfl rfl | exact Y_assign rfl rfl | exact R_index tabOk rfl rfl rfl rfl rfl rfl (by omega) | exact R_fieldi tabOk rfl rfl rfl | exact R_loadi tabOk rfl rfl rfl rfl rfl rfl rfl | exact R_len tabOk rfl rfl rfl | exact R_load tabOk rfl rfl rfl rfl rfl rfl rfl rfl rfl | exact R_field tabOk rfl rfl rfl rfl | exact Y_addn rfl rfl rfl | exact Y_subn rfl rfl rfl | exact R_cmpT rfl rfl rfl rfl | exact R_cmpF rfl rfl rfl rfl | exact Y_ibin rfl rfl rfl rfl | exact Y_extract rfl rfl rfl | exact R_lenr tabOk rfl rfl rfl rfl | exact R_lenn tabOk rfl rfl rfl | exact R_indexr tabOk rfl rfl rfl rfl rfl rfl rfl (by omega) | exact R_fielde tabOk rfl rfl rfl rfl | exact R_loade tabOk rfl rfl rfl rfl rfl rfl rfl rfl rfl | exact Y_not rfl rfl | exact Y_pick_t rfl rfl (by first | rfl | assumption) rfl | exact Y_pick_f rfl rfl (by first | rfl | assumption) rfl | exact Y_pick_b rfl rfl rfl rfl | exact R_build tabOk rfl rfl rfl rfl rfl rfl | (first | exact Y_nilCheck rfl rfl rfl | exact R_lk1 pfxKey pfxA_val zeroInt trivial (fun _ _ => trivial) hn hz tabOk rfl rfl rfl rfl rfl rfl))) | refine N_done (by decide +kernel) ?_ | fail)
      repeat (first | refine A_seq ?_ | refine A_block ?_ | refine R_list ?_ | refine R_quiet rfl mixed (by kernel_rfl) ?_ | ((first | apply O_y rfl rfl rfl | apply Q_y rfl rfl rfl); (first | exact Y_move rfl rfl | exact Y_assign rfl rfl | exact R_index tabOk rfl rfl rfl rfl rfl rfl (by omega) | exact R_fieldi tabOk rfl rfl rfl | exact R_loadi tabOk rfl rfl rfl rfl rfl rfl rfl | exact R_len tabOk rfl rfl rfl | exact R_load tabOk rfl rfl rfl rfl rfl rfl rfl rfl rfl | exact R_field tabOk rfl rfl rfl rfl | exact Y_addn rfl rfl rfl | exact Y_subn rfl rfl rfl | exact R_cmpT rfl rfl rfl rfl | exact R_cmpF rfl rfl rfl rfl | exact Y_ibin rfl rfl rfl rfl | exact Y_extract rfl rfl rfl | exact R_lenr tabOk rfl rfl rfl rfl | exact R_lenn tabOk rfl rfl rfl | exact R_indexr tabOk rfl rfl rfl rfl rfl rfl rfl (by omega) | exact R_fielde tabOk rfl rfl rfl rfl | exact R_loade tabOk rfl rfl rfl rfl rfl rfl rfl rfl rfl | exact Y_not rfl rfl | exact Y_pick_t rfl rfl (by first | rfl | assumption) rfl | exact Y_pick_f rfl rfl (by first | rfl | assumption) rfl | exact Y_pick_b rfl rfl rfl rfl | exact R_build tabOk rfl rfl rfl rfl rfl rfl | fail)) | refine O_nil ?_ | refine Q_nil ?_ | refine X_then_normal ?_ | refine X_in_normal ?_ | refine O_box rfl rfl rfl rfl rfl rfl rfl ?_ | refine O_alloc tabOk rfl rfl rfl rfl rfl rfl ?_ | refine O_store tabOk rfl rfl rfl rfl rfl rfl rfl rfl rfl rfl rfl ?_ | refine O_slice tabOk rfl rfl rfl rfl rfl rfl rfl rfl rfl rfl rfl ?_ | refine A_ct rfl ?_ | refine A_cf rfl ?_ | refine A_skip ?_ | refine A_exit ?_ | refine A_ret ?_ | refine X_then_exit ?_ | refine X_then_ret ?_ | refine X_in_same ?_ | refine X_in_other rfl ?_ | refine X_in_ret ?_ | refine O_s rfl rfl rfl ?_ | refine Q_s rfl rfl rfl ?_ | refine O_sn rfl rfl ?_ | fail)
      refine X_retW AWk.refl rfl (h2 := [(1000, tblB 1001 u), (1001, mapB l)]) ⟨rfl, rfl, trivial⟩ ⟨?_, rfl⟩
      rw [hlast]
      simp only [hz, Option.getD_some]
      rfl
    ·
      repeat (first | ((first | apply N_takeN (i := 0) rfl rfl (by kernel_rfl) (by decide +kernel) (by decide +kernel) (by repeat (first | exact np_post | apply np_then | apply np_in)) rfl rfl rfl | apply N_takeN (i := 1) rfl rfl (by kernel_rfl) (by decide +kernel) (by decide +kernel) (by repeat (first | exact np_post | apply np_then | apply np_in)) rfl rfl rfl | apply N_takeN (i := 2) rfl rfl (by kernel_rfl) (by decide +kernel) (by decide +kernel) (by repeat (first | exact np_post | apply np_then | apply np_in)) rfl rfl rfl | apply N_takeN (i := 3) rfl rfl (by kernel_rfl) (by decide +kernel) (by decide +kernel) (by repeat (first | exact np_post | apply np_then | apply np_in)) rfl rfl rfl | apply N_takeN (i := 4) rfl rfl (by kernel_rfl) (by decide +kernel) (by decide +kernel) (by repeat (first | exact np_post | apply np_then | apply np_in)) rfl rfl rfl | apply N_takeN (i := 5) rfl rfl (by kernel_rfl) (by decide +kernel) (by decide +kernel) (by repeat (first | exact np_post | apply np_then | apply np_in)) rfl rfl rfl | apply N_takeN (i := 6) rfl rfl (by kernel_rfl) (by decide +kernel) (by decide +kernel) (by repeat (first | exact np_post | apply np_then | apply np_in)) rfl rfl rfl | apply N_takeN (i := 7) rfl rfl (by kernel_rfl) (by decide +kernel) (by decide +kernel) (by repeat (first | exact np_post | apply np_then | apply np_in)) rfl rfl rfl | apply N_takeN (i := 8) rfl rfl (by kernel_rfl) (by decide +kernel) (by decide +kernel) (by repeat (first | exact np_post | apply np_then | apply np_in)) rfl rfl rfl | apply N_takeN (i := 9) rfl rfl (by kernel_rfl) (by decide +kernel) (by decide +kernel) (by repeat (first | exact np_post | apply np_then | apply np_in)) rfl rfl rfl | apply N_takeN (i := 10) rfl rfl (by kernel_rfl) (by decide +kernel) (by decide +kernel) (by repeat (first | exact np_post | apply np_then | apply np_in)) rfl rfl rfl | apply N_takeN (i := 11) rfl rfl (by kernel_rfl) (by decide +kernel) (by decide +kernel) (by repeat (first | exact np_post | apply np_then | apply np_in)) rfl rfl rfl | apply N_takeN (i := 12) rfl rfl (by kernel_rfl) (by decide +kernel) (by decide +kernel) (by repeat (first | exact np_post | apply np_then | apply np_in)) rfl rfl rfl ); (first | exact Y_move rfl rfl | exact Y_assign rfl rfl | exact R_index tabOk rfl rfl rfl rfl rfl rfl (by omega) | exact R_fieldi tabOk rfl rfl rfl | exact R_loadi tabOk rfl rfl rfl rfl rfl rfl rfl | exact R_len tabOk rfl rfl rfl | exact R_load tabOk rfl rfl rfl rfl rfl rfl rfl rfl rfl | exact R_field tabOk rfl rfl rfl rfl | exact Y_addn rfl rfl rfl | exact Y_subn rfl rfl rfl | exact R_cmpT rfl rfl rfl rfl | exact R_cmpF rfl rfl rfl rfl | exact Y_ibin rfl rfl rfl rfl | exact Y_extract rfl rfl rfl | exact R_lenr tabOk rfl rfl rfl rfl | exact R_lenn tabOk rfl rfl rfl | exact R_indexr tabOk rfl rfl rfl rfl rfl rfl rfl (by omega) | exact R_fielde tabOk rfl rfl rfl rfl | exact R_loade tabOk rfl rfl rfl rfl rfl rfl rfl rfl rfl | exact Y_not rfl rfl | exact Y_pick_t rfl rfl (by first | rfl | assumption) rfl | exact Y_pick_f rfl rfl (by first | rfl | assumption) rfl | exact Y_pick_b rfl rfl rfl rfl | exact R_build tabOk rfl rfl rfl rfl rfl rfl | (first | exact Y_nilCheck rfl rfl rfl | exact R_lk1 pfxKey pfxA_val zeroInt trivial (fun _ _ => trivial) hn hz tabOk rfl rfl rfl rfl rfl rfl))) | (apply N_takeL (i := 0) rfl rfl (by kernel_rfl) (by decide +kernel) (by decide +kernel) (by repeat (first | exact np_post | apply np_then | apply np_in)) rfl rfl rfl; (first | exact R_loadi tabOk rfl rfl rfl rfl rfl rfl rfl | exact R_len tabOk rfl rfl rfl | exact R_load tabOk rfl rfl rfl rfl rfl rfl rfl rfl rfl | exact R_lenr tabOk rfl rfl rfl rfl | exact R_lenn tabOk rfl rfl rfl | exact R_loade tabOk rfl rfl rfl rfl rfl rfl rfl rfl rfl | (first | exact Y_nilCheck rfl rfl rfl | exact R_lk1 pfxKey pfxA_val zeroInt trivial (fun _ _ => trivial) hn hz tabOk rfl rfl rfl rfl rfl rfl))) | (apply N_takeL (i := 1) rfl rfl (by kernel_rfl) (by decide +kernel) (by decide +kernel) (by repeat (first | exact np_post | apply np_then | apply np_in)) rfl rfl rfl; (first | exact R_loadi tabOk rfl rfl rfl rfl rfl rfl rfl | exact R_len tabOk rfl rfl rfl | exact R_load tabOk rfl rfl rfl rfl rfl rfl rfl rfl rfl | exact R_lenr tabOk rfl rfl rfl rfl | exact R_lenn tabOk rfl rfl rfl | exact R_loade tabOk rfl rfl rfl rfl rfl rfl rfl rfl rfl | (first | exact Y_nilCheck rfl rfl rfl | exact R_lk1 pfxKey pfxA_val zeroInt trivial (fun _ _ => trivial) hn hz tabOk rfl rfl rfl rfl rfl rfl))) | (apply N_takeL (i := 2) rfl rfl (by kernel_rfl) (by decide +kernel) (by decide +kernel) (by repeat (first | exact np_post | apply np_then | apply np_in)) rfl rfl rfl; (first | exact R_loadi tabOk rfl rfl rfl rfl rfl rfl rfl | exact R_len tabOk rfl rfl rfl | exact R_load tabOk rfl rfl rfl rfl rfl rfl rfl rfl rfl | exact R_lenr tabOk rfl rfl rfl rfl | exact R_lenn tabOk rfl rfl rfl | exact R_loade tabOk rfl rfl rfl rfl rfl rfl rfl rfl rfl | (first | exact Y_nilCheck rfl rfl rfl | exact R_lk1 pfxKey pfxA_val zeroInt trivial (fun _ _ => trivial) hn hz tabOk rfl rfl rfl rfl rfl rfl))) | (apply N_takeL (i := 3) rfl rfl (by kernel_rfl) (by decide +kernel) (by decide +kernel) (by repeat (first | exact np_post | apply np_then | apply np_in)) rfl rfl rfl; (first | exact R_loadi tabOk rfl rfl rfl rfl rfl rfl rfl | exact R_len tabOk rfl rfl rfl | exact R_load tabOk rfl rfl rfl rfl rfl rfl rfl rfl rfl | exact R_lenr tabOk rfl rfl rfl rfl | exact R_lenn tabOk rfl rfl rfl | exact R_loade tabOk rfl rfl rfl rfl rfl rfl rfl rfl rfl | (first | exact Y_nilCheck rfl rfl rfl | exact R_lk1 pfxKey pfxA_val zeroInt trivial (fun _ _ => trivial) hn hz tabOk rfl rfl rfl rfl rfl rfl))) | (apply N_takeL (i := 4) rfl rfl (by kernel_rfl) (by decide +kernel) (by decide +kernel) (by repeat (first | exact np_post | apply np_then | apply np_in)) rfl rfl rfl; (first | exact R_loadi tabOk rfl rfl rfl rfl rfl rfl rfl | exact R_len tabOk rfl rfl rfl | exact R_load tabOk rfl rfl rfl rfl rfl rfl rfl rfl rfl | exact R_lenr tabOk rfl rfl rfl rfl | exact R_lenn tabOk rfl rfl rfl | exact R_loade tabOk rfl rfl rfl rfl rfl rfl rfl rfl rfl | (first | exact Y_nilCheck rfl rfl rfl | exact R_lk1 pfxKey pfxA_val zeroInt trivial (fun _ _ => trivial) hn hz tabOk rfl rfl rfl rfl rfl rfl))) | (apply N_takeL (i := 5) rfl rfl (by kernel_rfl) (by decide +kernel) (by decide +kernel) (by repeat (first | exact np_post | apply np_then | apply np_in)) rfl rfl rfl; (first | exact R_loadi tabOk rfl rfl rfl rfl rfl rfl rfl | exact R_len tabOk rfl rfl rfl | exact R_load tabOk rfl rfl rfl rfl rfl rfl rfl rfl rfl | exact R_lenr tabOk rfl rfl rfl rfl | exact R_lenn tabOk rfl rfl rfl | exact R_loade tabOk rfl rfl rfl rfl rfl rfl rfl rfl rfl | (first | exact Y_nilCheck rfl rfl rfl | exact R_lk1 pfxKey pfxA_val zeroInt trivial (fun _ _ => trivial) hn hz tabOk rfl rfl rfl rfl rfl rfl))) | (apply N_takeL (i := 6) rfl rfl (by kernel_rfl) (by decide +kernel) (by decide +kernel) (by repeat (first | exact np_post | apply np_then | apply np_in)) rfl rfl rfl; (first | exact R_loadi tabOk rfl rfl rfl rfl rfl rfl rfl | exact R_len tabOk rfl rfl rfl | exact R_load tabOk rfl rfl rfl rfl rfl rfl rfl rfl rfl | exact R_lenr tabOk rfl rfl rfl rfl | exact R_lenn tabOk rfl rfl rfl | exact R_loade tabOk rfl rfl rfl rfl rfl rfl rfl rfl rfl | (first | exact Y_nilCheck rfl rfl rfl | exact R_lk1 pfxKey pfxA_val zeroInt trivial (fun _ _ => trivial) hn hz tabOk rfl rfl rfl rfl rfl rfl))) | (apply N_takeL (i := 7) rfl rfl (by kernel_rfl) (by decide +kernel) (by decide +kernel) (by repeat (first | exact np_post | apply np_then | apply np_in)) rfl rfl rfl; (first | exact R_loadi tabOk rfl rfl rfl rfl rfl rfl rfl | exact R_len tabOk rfl rfl rfl | exact R_load tabOk rfl rfl rfl rfl rfl rfl rfl rfl rfl | exact R_lenr tabOk rfl rfl rfl rfl | exact R_lenn tabOk rfl rfl rfl | exact R_loade tabOk rfl rfl rfl rfl rfl rfl rfl rfl rfl | (first | exact Y_nilCheck rfl rfl rfl | exact R_lk1 pfxKey pfxA_val zeroInt trivial (fun _ _ => trivial) hn hz tabOk rfl rfl rfl rfl rfl rfl))) | (apply N_takeL (i := 8) rfl rfl (by kernel_rfl) (by decide +kernel) (by decide +kernel) (by repeat (first | exact np_post | apply np_then | apply np_in)) rfl rfl rfl; (first | exact R_loadi tabOk rfl rfl rfl rfl rfl rfl rfl | exact R_len tabOk rfl rfl rfl | exact R_load tabOk rfl rfl rfl rfl rfl rfl rfl rfl rfl | exact R_lenr tabOk rfl rfl rfl rfl | exact R_lenn tabOk rfl rfl rfl | exact R_loade tabOk rfl rfl rfl rfl rfl rfl rfl rfl rfl | (first | exact Y_nilCheck rfl rfl rfl | exact R_lk1 pfxKey pfxA_val zeroInt trivial (fun _ _ => trivial) hn hz tabOk rfl rfl rfl rfl rfl rfl))) | (apply N_takeL (i := 9) rfl rfl (by kernel_rfl) (by decide +kernel) (by decide +kernel) (by repeat (first | exact np_post | apply np_then | apply np_in)) rfl rfl rfl; (first | exact R_loadi tabOk rfl rfl rfl rfl rfl rfl rfl | exact R_len tabOk rfl rfl rfl | exact R_load tabOk rfl rfl rfl rfl rfl rfl rfl rfl rfl | exact R_lenr tabOk rfl rfl rfl rfl | exact R_lenn tabOk rfl rfl rfl | exact R_loade tabOk rfl rfl rfl rfl rfl rfl rfl rfl rfl | (first | exact Y_nilCheck rfl rfl rfl | exact R_lk1 pfxKey pfxA_val zeroInt trivial (fun _ _ => trivial) hn hz tabOk rfl rfl rfl rfl rfl rfl))) | (apply N_takeL (i := 10) rfl rfl (by kernel_rfl) (by decide +kernel) (by decide +kernel) (by repeat (first | exact np_post | apply np_then | apply np_in)) rfl rfl rfl; (first | exact R_loadi tabOk rfl rfl rfl rfl rfl rfl rfl | exact R_len tabOk rfl rfl rfl | exact R_load tabOk rfl rfl rfl rfl rfl rfl rfl rfl rfl | exact R_lenr tabOk rfl rfl rfl rfl | exact R_lenn tabOk rfl rfl rfl | exact R_loade tabOk rfl rfl rfl rfl rfl rfl rfl rfl rfl | (first | exact Y_nilCheck rfl rfl rfl | exact R_lk1 pfxKey pfxA_val zeroInt trivial (fun _ _ => trivial) hn hz tabOk rfl rfl rfl rfl rfl rfl))) | (apply N_takeL (i := 11) rfl rfl (by kernel_rfl) (by decide +kernel) (by decide +kernel) (by repeat (first | exact np_post | apply np_then | apply np_in)) rfl rfl rfl; (first | exact R_loadi tabOk rfl rfl rfl rfl rfl rfl rfl | exact R_len tabOk rfl rfl rfl | exact R_load tabOk rfl rfl rfl rfl rfl rfl rfl rfl rfl | exact R_lenr tabOk rfl rfl rfl rfl | exact R_lenn tabOk rfl rfl rfl | exact R_loade tabOk rfl rfl rfl rfl rfl rfl rfl rfl rfl | (first | exact Y_nilCheck rfl rfl rfl | exact R_lk1 pfxKey pfxA_val zeroInt trivial (fun _ _ => trivial) hn hz tabOk rfl rfl rfl rfl rfl rfl))) | (apply N_takeL (i := 12) rfl rfl (by kernel_rfl) (by decide +kernel) (by decide +kernel) (by repeat (first | exact np_post | apply np_then | apply np_in)) rfl rfl rfl; (first | exact R_loadi tabOk rfl rfl rfl rfl rfl rfl rfl | exact R_len tabOk rfl rfl rfl | exact R_load tabOk rfl rfl rfl rfl rfl rfl rfl rfl rfl | exact R_lenr tabOk rfl rfl rfl rfl | exact R_lenn tabOk rfl rfl rfl | exact R_loade tabOk rfl rfl rfl rfl rfl rfl rfl rfl rfl | (first | exact Y_nilCheck rfl rfl rfl | exact R_lk1 pfxKey pfxA_val zeroInt trivial (fun _ _ => trivial) hn hz tabOk rfl rfl rfl rfl rfl rfl))) | refine N_one (j := 0) (by decide +kernel) ?_ | refine N_one (j := 1) (by decide +kernel) ?_ | refine N_one (j := 2) (by decide +kernel) ?_ | refine N_one (j := 3) (by decide +kernel) ?_ | refine N_one (j := 4) (by decide +kernel) ?_ | refine N_one (j := 5) (by decide +kernel) ?_ | refine N_one (j := 6) (by decide +kernel) ?_ | refine N_one (j := 7) (by decide +kernel) ?_ | refine N_one (j := 8) (by decide +kernel) ?_ | refine N_one (j := 9) (by decide +kernel) ?_ | refine N_one (j := 10) (by decide +kernel) ?_ | refine N_one (j := 11) (by decide +kernel) ?_ | refine N_one (j := 12) (by decide +kernel) ?_ | refine T_alloc tabOk rfl rfl rfl rfl rfl rfl rfl ?_ | refine T_store tabOk rfl rfl rfl rfl rfl rfl rfl rfl rfl rfl rfl rfl rfl ?_ | refine T_box rfl rfl rfl rfl rfl rfl rfl rfl ?_ | (apply T_yield rfl rfl rfl rfl; (first | exact Y_move rfl rfl | exact Y_assign rfl rfl | exact R_index tabOk rfl rfl rfl rfl rfl rfl (by omega) | exact R_fieldi tabOk rfl rfl rfl | exact R_loadi tabOk rfl rfl rfl rfl rfl rfl rfl | exact R_len tabOk rfl rfl rfl | exact R_load tabOk rfl rfl rfl rfl rfl rfl rfl rfl rfl | exact R_field tabOk rfl rfl rfl rfl | exact Y_addn rfl rfl rfl | exact Y_subn rfl rfl rfl | exact R_cmpT rfl rfl rfl rfl | exact R_cmpF rfl rfl rfl rfl | exact Y_ibin rfl rfl rfl rfl | exact Y_extract rfl rfl rfl | exact R_lenr tabOk rfl rfl rfl rfl | exact R_lenn tabOk rfl rfl rfl | exact R_indexr tabOk rfl rfl rfl rfl rfl rfl rfl (by omega) | exact R_fielde tabOk rfl rfl rfl rfl | exact R_loade tabOk rfl rfl rfl rfl rfl rfl rfl rfl rfl | exact Y_not rfl rfl | exact Y_pick_t rfl rfl (by first | rfl | assumption) rfl | exact Y_pick_f rfl rfl (by first | rfl | assumption) rfl | exact Y_pick_b rfl rfl rfl rfl | exact R_build tabOk rfl rfl rfl rfl rfl rfl | (first | exact Y_nilCheck rfl rfl rfl | exact R_lk1 pfxKey pfxA_val zeroInt trivial (fun _ _ => trivial) hn hz tabOk rfl rfl rfl rfl rfl rfl))) | refine N_done (by decide +kernel) ?_ | fail)
      repeat (first | refine A_seq ?_ | refine A_block ?_ | refine R_list ?_ | refine R_quiet rfl mixed (by kernel_rfl) ?_ | ((first | apply O_y rfl rfl rfl | apply Q_y rfl rfl rfl); (first | exact Y_move rfl rfl | exact Y_assign rfl rfl | exact R_index tabOk rfl rfl rfl rfl rfl rfl (by omega) | exact R_fieldi tabOk rfl rfl rfl | exact R_loadi tabOk rfl rfl rfl rfl rfl rfl rfl | exact R_len tabOk rfl rfl rfl | exact R_load tabOk rfl rfl rfl rfl rfl rfl rfl rfl rfl | exact R_field tabOk rfl rfl rfl rfl | exact Y_addn rfl rfl rfl | exact Y_subn rfl rfl rfl | exact R_cmpT rfl rfl rfl rfl | exact R_cmpF rfl rfl rfl rfl | exact Y_ibin rfl rfl rfl rfl | exact Y_extract rfl rfl rfl | exact R_lenr tabOk rfl rfl rfl rfl | exact R_lenn tabOk rfl rfl rfl | exact R_indexr tabOk rfl rfl rfl rfl rfl rfl rfl (by omega) | exact R_fielde tabOk rfl rfl rfl rfl | exact R_loade tabOk rfl rfl rfl rfl rfl rfl rfl rfl rfl | exact Y_not rfl rfl | exact Y_pick_t rfl rfl (by first | rfl | assumption) rfl | exact Y_pick_f rfl rfl (by first | rfl | assumption) rfl | exact Y_pick_b rfl rfl rfl rfl | exact R_build tabOk rfl rfl rfl rfl rfl rfl | fail)) | refine O_nil ?_ | refine Q_nil ?_ | refine X_then_normal ?_ | refine X_in_normal ?_ | refine O_box rfl rfl rfl rfl rfl rfl rfl ?_ | refine O_alloc tabOk rfl rfl rfl rfl rfl rfl ?_ | refine O_store tabOk rfl rfl rfl rfl rfl rfl rfl rfl rfl rfl rfl ?_ | refine O_slice tabOk rfl rfl rfl rfl rfl rfl rfl rfl rfl rfl rfl ?_ | refine A_ct rfl ?_ | refine A_cf rfl ?_ | refine A_skip ?_ | refine A_exit ?_ | refine A_ret ?_ | refine X_then_exit ?_ | refine X_then_ret ?_ | refine X_in_same ?_ | refine X_in_other rfl ?_ | refine X_in_ret ?_ | refine O_s rfl rfl rfl ?_ | refine Q_s rfl rfl rfl ?_ | refine O_sn rfl rfl ?_ | fail)
      refine X_retW AWk.refl rfl (h2 := [(1000, tblB 1001 u), (1001, mapB l)]) ⟨rfl, rfl, trivial⟩ ⟨?_, rfl⟩
      rw [hlast]
      simp only [hz, Option.getD_some]
      rfl
end Go.Proofs.Ytaecjmjdhbjbkaa.Ab

namespace Go.Proofs.Ytaecjmjdhbjbkaa.Ab
set_option linter.unusedVariables false
set_option maxRecDepth 100000
open Go.RowKit
set_option linter.unusedSimpArgs false
attribute [local irreducible] AWp AOps AQ AYield AEff ACall AWk AAny AAt AThen AIn APost NoPanic

/-- The rows of which it is so, in order. -/
def rowsBy (m : List (Pfx × Int)) (is : Pfx → Bool) : List Row := rowsOf m (sortP ((m.map (·.1)).filter is))
theorem key_get (m : List (Pfx × Int)) (p : Pfx) (h : p ∈ m.map (·.1)) : ∃ z, aget m p = some z := by
  cases hg : aget m p with
  | some z => exact ⟨z, rfl⟩
  | none =>
    obtain ⟨q, hq, rfl⟩ := List.mem_map.1 h
    exact absurd rfl (aget_none hg q hq)
theorem fzk_map (id j : Nat) (ds : List Dat) (l : List (Pfx × Int)) : some (fzB id ds (killB j (mapB l))) = some (mapB l) := by
  rw [Option.some.inj (kill_map j l)]
  exact fz_map _ _ l
theorem by_mem (m : List (Pfx × Int)) (is : Pfx → Bool) (p : Pfx) (h : p ∈ sortP ((m.map (·.1)).filter is)) : p ∈ m.map (·.1) := by
  have : p ∈ (m.map (·.1)).filter is := (List.mergeSort_perm _ _).mem_iff.1 h
  exact (List.mem_filter.1 this).1
theorem by_len (m : List (Pfx × Int)) (is : Pfx → Bool) : (sortP ((m.map (·.1)).filter is)).length ≤ m.length := by
  have h1 : (sortP ((m.map (·.1)).filter is)).length = ((m.map (·.1)).filter is).length := List.length_mergeSort _
  have h2 := List.length_filter_le is (m.map (·.1))
  simp at h2
  omega
theorem allIs_A (p : Pfx) : ACall Try.prog 54 ([pfxA p] ++ []) [] (fun c h => c = boolA true ∧ h = []) := by
  show ACall _ _ [pfxA p] _ _
  refine ACall_of tabOk Try.func54 rfl Try.ntmps54 (congrArg Array.toList Try.results54) (by kernel_rfl) rfl ?_
  repeat (first | refine A_seq ?_ | refine A_block ?_ | refine R_list ?_ | refine R_quiet rfl mixed (by kernel_rfl) ?_ | ((first | apply O_y rfl rfl rfl | apply Q_y rfl rfl rfl); (first | exact Y_move rfl rfl | exact Y_assign rfl rfl | exact R_index tabOk rfl rfl rfl rfl rfl rfl (by omega) | exact R_fieldi tabOk rfl rfl rfl | exact R_loadi tabOk rfl rfl rfl rfl rfl rfl rfl | exact R_len tabOk rfl rfl rfl | exact R_load tabOk rfl rfl rfl rfl rfl rfl rfl rfl rfl | exact R_field tabOk rfl rfl rfl rfl | exact Y_addn rfl rfl rfl | exact Y_subn rfl rfl rfl | exact R_cmpT rfl rfl rfl rfl | exact R_cmpF rfl rfl rfl rfl | exact Y_ibin rfl rfl rfl rfl | exact Y_extract rfl rfl rfl | exact R_lenr tabOk rfl rfl rfl rfl | exact R_lenn tabOk rfl rfl rfl | exact R_indexr tabOk rfl rfl rfl rfl rfl rfl rfl (by omega) | exact R_fielde tabOk rfl rfl rfl rfl | exact R_loade tabOk rfl rfl rfl rfl rfl rfl rfl rfl rfl | exact Y_not rfl rfl | exact Y_pick_t rfl rfl (by first | rfl | assumption) rfl | exact Y_pick_f rfl rfl (by first | rfl | assumption) rfl | exact Y_pick_b rfl rfl rfl rfl | exact R_build tabOk rfl rfl rfl rfl rfl rfl | fail)) | refine O_nil ?_ | refine Q_nil ?_ | refine X_then_normal ?_ | refine X_in_normal ?_ | refine O_box rfl rfl rfl rfl rfl rfl rfl ?_ | refine O_alloc tabOk rfl rfl rfl rfl rfl rfl ?_ | refine O_store tabOk rfl rfl rfl rfl rfl rfl rfl rfl rfl rfl rfl ?_ | refine O_slice tabOk rfl rfl rfl rfl rfl rfl rfl rfl rfl rfl rfl ?_ | refine A_ct rfl ?_ | refine A_cf rfl ?_ | refine A_skip ?_ | refine A_exit ?_ | refine A_ret ?_ | refine X_then_exit ?_ | refine X_then_ret ?_ | refine X_in_same ?_ | refine X_in_other rfl ?_ | refine X_in_ret ?_ | refine O_s rfl rfl rfl ?_ | refine Q_s rfl rfl rfl ?_ | refine O_sn rfl rfl ?_ | fail)
  exact X_ret rfl ⟨rfl, rfl⟩
theorem withinIs_A (p q : Pfx) (hp : p.ok) (hq : q.ok) : ACall Try.prog 55 ([pfxA q] ++ [.iptr (pfxD p) 0]) [] (fun c h => c = boolA (withinB q p) ∧ h = []) := by
  show ACall _ _ [pfxA q, .iptr (pfxD p) 0] _ _
  refine ACall_of tabOk Try.func55 rfl Try.ntmps55 (congrArg Array.toList Try.results55) (by kernel_rfl) rfl ?_
  repeat (first | refine A_seq ?_ | refine A_block ?_ | refine R_list ?_ | refine R_quiet rfl mixed (by kernel_rfl) ?_ | ((first | apply O_y rfl rfl rfl | apply Q_y rfl rfl rfl); (first | exact Y_move rfl rfl | exact Y_assign rfl rfl | exact R_index tabOk rfl rfl rfl rfl rfl rfl (by omega) | exact R_fieldi tabOk rfl rfl rfl | exact R_loadi tabOk rfl rfl rfl rfl rfl rfl rfl | exact R_len tabOk rfl rfl rfl | exact R_load tabOk rfl rfl rfl rfl rfl rfl rfl rfl rfl | exact R_field tabOk rfl rfl rfl rfl | exact Y_addn rfl rfl rfl | exact Y_subn rfl rfl rfl | exact R_cmpT rfl rfl rfl rfl | exact R_cmpF rfl rfl rfl rfl | exact Y_ibin rfl rfl rfl rfl | exact Y_extract rfl rfl rfl | exact R_lenr tabOk rfl rfl rfl rfl | exact R_lenn tabOk rfl rfl rfl | exact R_indexr tabOk rfl rfl rfl rfl rfl rfl rfl (by omega) | exact R_fielde tabOk rfl rfl rfl rfl | exact R_loade tabOk rfl rfl rfl rfl rfl rfl rfl rfl rfl | exact Y_not rfl rfl | exact Y_pick_t rfl rfl (by first | rfl | assumption) rfl | exact Y_pick_f rfl rfl (by first | rfl | assumption) rfl | exact Y_pick_b rfl rfl rfl rfl | exact R_build tabOk rfl rfl rfl rfl rfl rfl | fail)) | refine O_nil ?_ | refine Q_nil ?_ | refine X_then_normal ?_ | refine X_in_normal ?_ | refine O_box rfl rfl rfl rfl rfl rfl rfl ?_ | refine O_alloc tabOk rfl rfl rfl rfl rfl rfl ?_ | refine O_store tabOk rfl rfl rfl rfl rfl rfl rfl rfl rfl rfl rfl ?_ | refine O_slice tabOk rfl rfl rfl rfl rfl rfl rfl rfl rfl rfl rfl ?_ | refine A_ct rfl ?_ | refine A_cf rfl ?_ | refine A_skip ?_ | refine A_exit ?_ | refine A_ret ?_ | refine X_then_exit ?_ | refine X_then_ret ?_ | refine X_in_same ?_ | refine X_in_other rfl ?_ | refine X_in_ret ?_ | refine O_s rfl rfl rfl ?_ | refine Q_s rfl rfl rfl ?_ | refine O_sn rfl rfl ?_ | refine O_c rfl rfl rfl rfl rfl (within_A q p hq hp) (fun _ => rfl) ?_)
  exact X_ret rfl ⟨rfl, rfl⟩
set_option maxHeartbeats 4000000 in
theorem all_A (u : Nat → Int) (m : List (Pfx × Int)) (hn : (m.map (·.1)).Nodup) (hl : m.length ≤ 1000000) :
    ACall Try.prog 19 [.ptr 1000 0] [(1000, tblB 1001 u), (1001, mapB m)] (fun c h => c = goneA (rowsBy m fun _ => true) ∧ h = [(1000, tblB 1001 u), (1001, mapB m)]) := by
  have h1 := sorted_A u m 54 [] (fun _ => true) (fun _ => rfl) (fun p _ => allIs_A p.1) hl
  have h2 := gone_A u m (sortP ((m.map (·.1)).filter fun _ => true)) hn (fun p hp => key_get m p (by_mem m _ p hp)) (Nat.le_trans (by_len m _) hl)
  refine ACall_of tabOk Try.func19 rfl Try.ntmps19 (congrArg Array.toList Try.results19) (by kernel_rfl) rfl ?_
  repeat (first | refine A_seq ?_ | refine A_block ?_ | refine R_list ?_ | refine R_quiet rfl mixed (by kernel_rfl) ?_ | ((first | apply O_y rfl rfl rfl | apply Q_y rfl rfl rfl); (first | exact Y_move rfl rfl | exact Y_assign rfl rfl | exact R_index tabOk rfl rfl rfl rfl rfl rfl (by omega) | exact R_fieldi tabOk rfl rfl rfl | exact R_loadi tabOk rfl rfl rfl rfl rfl rfl rfl | exact R_len tabOk rfl rfl rfl | exact R_load tabOk rfl rfl rfl rfl rfl rfl rfl rfl rfl | exact R_field tabOk rfl rfl rfl rfl | exact Y_addn rfl rfl rfl | exact Y_subn rfl rfl rfl | exact R_cmpT rfl rfl rfl rfl | exact R_cmpF rfl rfl rfl rfl | exact Y_ibin rfl rfl rfl rfl | exact Y_extract rfl rfl rfl | exact R_lenr tabOk rfl rfl rfl rfl | exact R_lenn tabOk rfl rfl rfl | exact R_indexr tabOk rfl rfl rfl rfl rfl rfl rfl (by omega) | exact R_fielde tabOk rfl rfl rfl rfl | exact R_loade tabOk rfl rfl rfl rfl rfl rfl rfl rfl rfl | exact Y_not rfl rfl | exact Y_pick_t rfl rfl (by first | rfl | assumption) rfl | exact Y_pick_f rfl rfl (by first | rfl | assumption) rfl | exact Y_pick_b rfl rfl rfl rfl | exact R_build tabOk rfl rfl rfl rfl rfl rfl | fail)) | refine O_nil ?_ | refine Q_nil ?_ | refine X_then_normal ?_ | refine X_in_normal ?_ | refine O_box rfl rfl rfl rfl rfl rfl rfl ?_ | refine O_alloc tabOk rfl rfl rfl rfl rfl rfl ?_ | refine O_store tabOk rfl rfl rfl rfl rfl rfl rfl rfl rfl rfl rfl ?_ | refine O_slice tabOk rfl rfl rfl rfl rfl rfl rfl rfl rfl rfl rfl ?_ | refine A_ct rfl ?_ | refine A_cf rfl ?_ | refine A_skip ?_ | refine A_exit ?_ | refine A_ret ?_ | refine X_then_exit ?_ | refine X_then_ret ?_ | refine X_in_same ?_ | refine X_in_other rfl ?_ | refine X_in_ret ?_ | refine O_s rfl rfl rfl ?_ | refine Q_s rfl rfl rfl ?_ | refine O_sn rfl rfl ?_ | (first | refine O_cTbl 1000 1001 (by omega) h1 rfl rfl rfl rfl rfl rfl rfl rfl rfl ?_ | refine O_cTbl 1000 1001 (by omega) h2 rfl rfl rfl rfl rfl rfl rfl rfl rfl ?_))
  exact X_retW AWk.refl rfl (h2 := [(1000, tblB 1001 u), (1001, mapB m)]) ⟨rfl, rfl, trivial⟩ ⟨rfl, rfl⟩
set_option maxHeartbeats 4000000 in
theorem overSeq_A (u : Nat → Int) (m : List (Pfx × Int)) (x : Int) (x0 : 0 ≤ x) (x1 : x < 4294967296) (hn : (m.map (·.1)).Nodup) :
    ACall Try.prog 21 [.ptr 1000 0, .d (.sc (.int .u32 x))] [(1000, tblB 1001 u), (1001, mapB m)] (fun c h => c = goneA (rowsOf m (overS u m x 33)) ∧ h = [(1000, tblB 1001 u), (1001, mapB m)]) := by
  have h1 := over_A u m x x0 x1 hn
  have h2 := gone_A u m (overS u m x 33) hn (fun p hp => overS_mem u m x 33 p hp) (by have := overS_len u m x 33; omega)
  refine ACall_of tabOk Try.func21 rfl Try.ntmps21 (congrArg Array.toList Try.results21) (by kernel_rfl) rfl ?_
  repeat (first | refine A_seq ?_ | refine A_block ?_ | refine R_list ?_ | refine R_quiet rfl mixed (by kernel_rfl) ?_ | ((first | apply O_y rfl rfl rfl | apply Q_y rfl rfl rfl); (first | exact Y_move rfl rfl | exact Y_assign rfl rfl | exact R_index tabOk rfl rfl rfl rfl rfl rfl (by omega) | exact R_fieldi tabOk rfl rfl rfl | exact R_loadi tabOk rfl rfl rfl rfl rfl rfl rfl | exact R_len tabOk rfl rfl rfl | exact R_load tabOk rfl rfl rfl rfl rfl rfl rfl rfl rfl | exact R_field tabOk rfl rfl rfl rfl | exact Y_addn rfl rfl rfl | exact Y_subn rfl rfl rfl | exact R_cmpT rfl rfl rfl rfl | exact R_cmpF rfl rfl rfl rfl | exact Y_ibin rfl rfl rfl rfl | exact Y_extract rfl rfl rfl | exact R_lenr tabOk rfl rfl rfl rfl | exact R_lenn tabOk rfl rfl rfl | exact R_indexr tabOk rfl rfl rfl rfl rfl rfl rfl (by omega) | exact R_fielde tabOk rfl rfl rfl rfl | exact R_loade tabOk rfl rfl rfl rfl rfl rfl rfl rfl rfl | exact Y_not rfl rfl | exact Y_pick_t rfl rfl (by first | rfl | assumption) rfl | exact Y_pick_f rfl rfl (by first | rfl | assumption) rfl | exact Y_pick_b rfl rfl rfl rfl | exact R_build tabOk rfl rfl rfl rfl rfl rfl | fail)) | refine O_nil ?_ | refine Q_nil ?_ | refine X_then_normal ?_ | refine X_in_normal ?_ | refine O_box rfl rfl rfl rfl rfl rfl rfl ?_ | refine O_alloc tabOk rfl rfl rfl rfl rfl rfl ?_ | refine O_store tabOk rfl rfl rfl rfl rfl rfl rfl rfl rfl rfl rfl ?_ | refine O_slice tabOk rfl rfl rfl rfl rfl rfl rfl rfl rfl rfl rfl ?_ | refine A_ct rfl ?_ | refine A_cf rfl ?_ | refine A_skip ?_ | refine A_exit ?_ | refine A_ret ?_ | refine X_then_exit ?_ | refine X_then_ret ?_ | refine X_in_same ?_ | refine X_in_other rfl ?_ | refine X_in_ret ?_ | refine O_s rfl rfl rfl ?_ | refine Q_s rfl rfl rfl ?_ | refine O_sn rfl rfl ?_ | (first | refine O_cTbl 1000 1001 (by omega) h1 rfl rfl rfl rfl rfl rfl rfl rfl rfl ?_ | refine O_cTbl 1000 1001 (by omega) h2 rfl rfl rfl rfl rfl rfl rfl rfl rfl ?_))
  exact X_retW AWk.refl rfl (h2 := [(1000, tblB 1001 u), (1001, mapB m)]) ⟨rfl, rfl, trivial⟩ ⟨rfl, rfl⟩
set_option maxHeartbeats 4000000 in
theorem withinSeq_A (u : Nat → Int) (m : List (Pfx × Int)) (p : Pfx) (hp : p.ok) (hk : ∀ q ∈ m, q.1.ok) (hn : (m.map (·.1)).Nodup) (hl : m.length ≤ 1000000) :
    ACall Try.prog 22 [.ptr 1000 0, pfxA p] [(1000, tblB 1001 u), (1001, mapB m)] (fun c h => c = goneA (rowsBy m fun q => withinB q p) ∧ h = [(1000, tblB 1001 u), (1001, mapB m)]) := by
  have h1 := sorted_A u m 55 [.iptr (pfxD p) 0] (fun q => withinB q p) (fun _ => rfl) (fun q hq => withinIs_A p q.1 hp (hk q hq)) hl
  have h2 := gone_A u m (sortP ((m.map (·.1)).filter fun q => withinB q p)) hn (fun q hq => key_get m q (by_mem m _ q hq)) (Nat.le_trans (by_len m _) hl)
  refine ACall_of tabOk Try.func22 rfl Try.ntmps22 (congrArg Array.toList Try.results22) (by kernel_rfl) rfl ?_
  repeat (first | refine A_seq ?_ | refine A_block ?_ | refine R_list ?_ | refine R_quiet rfl mixed (by kernel_rfl) ?_ | ((first | apply O_y rfl rfl rfl | apply Q_y rfl rfl rfl); (first | exact Y_move rfl rfl | exact Y_assign rfl rfl | exact R_index tabOk rfl rfl rfl rfl rfl rfl (by omega) | exact R_fieldi tabOk rfl rfl rfl | exact R_loadi tabOk rfl rfl rfl rfl rfl rfl rfl | exact R_len tabOk rfl rfl rfl | exact R_load tabOk rfl rfl rfl rfl rfl rfl rfl rfl rfl | exact R_field tabOk rfl rfl rfl rfl | exact Y_addn rfl rfl rfl | exact Y_subn rfl rfl rfl | exact R_cmpT rfl rfl rfl rfl | exact R_cmpF rfl rfl rfl rfl | exact Y_ibin rfl rfl rfl rfl | exact Y_extract rfl rfl rfl | exact R_lenr tabOk rfl rfl rfl rfl | exact R_lenn tabOk rfl rfl rfl | exact R_indexr tabOk rfl rfl rfl rfl rfl rfl rfl (by omega) | exact R_fielde tabOk rfl rfl rfl rfl | exact R_loade tabOk rfl rfl rfl rfl rfl rfl rfl rfl rfl | exact Y_not rfl rfl | exact Y_pick_t rfl rfl (by first | rfl | assumption) rfl | exact Y_pick_f rfl rfl (by first | rfl | assumption) rfl | exact Y_pick_b rfl rfl rfl rfl | exact R_build tabOk rfl rfl rfl rfl rfl rfl | fail)) | refine O_nil ?_ | refine Q_nil ?_ | refine X_then_normal ?_ | refine X_in_normal ?_ | refine O_box rfl rfl rfl rfl rfl rfl rfl ?_ | refine O_alloc tabOk rfl rfl rfl rfl rfl rfl ?_ | refine O_store tabOk rfl rfl rfl rfl rfl rfl rfl rfl rfl rfl rfl ?_ | refine O_slice tabOk rfl rfl rfl rfl rfl rfl rfl rfl rfl rfl rfl ?_ | refine A_ct rfl ?_ | refine A_cf rfl ?_ | refine A_skip ?_ | refine A_exit ?_ | refine A_ret ?_ | refine X_then_exit ?_ | refine X_then_ret ?_ | refine X_in_same ?_ | refine X_in_other rfl ?_ | refine X_in_ret ?_ | refine O_s rfl rfl rfl ?_ | refine Q_s rfl rfl rfl ?_ | refine O_sn rfl rfl ?_ | fail)
  refine O_weaken (Wk_freezeV (id := 3) (ds := pfxD p) rfl rfl) ?_
  refine O_weaken (Wk_sel (e1 := [(0, .ptr 1000 0), (3, .iptr (pfxD p) 0), (5, .ptr 1000 0), (6, .ptr 1000 0)]) (h1 := [(1000, tblB 1001 u), (1001, mapB m)]) ⟨rfl, rfl, rfl, rfl, trivial⟩ ⟨rfl, fzk_map _ _ _ m, trivial⟩) ?_
  repeat (first | refine A_seq ?_ | refine A_block ?_ | refine R_list ?_ | refine R_quiet rfl mixed (by kernel_rfl) ?_ | ((first | apply O_y rfl rfl rfl | apply Q_y rfl rfl rfl); (first | exact Y_move rfl rfl | exact Y_assign rfl rfl | exact R_index tabOk rfl rfl rfl rfl rfl rfl (by omega) | exact R_fieldi tabOk rfl rfl rfl | exact R_loadi tabOk rfl rfl rfl rfl rfl rfl rfl | exact R_len tabOk rfl rfl rfl | exact R_load tabOk rfl rfl rfl rfl rfl rfl rfl rfl rfl | exact R_field tabOk rfl rfl rfl rfl | exact Y_addn rfl rfl rfl | exact Y_subn rfl rfl rfl | exact R_cmpT rfl rfl rfl rfl | exact R_cmpF rfl rfl rfl rfl | exact Y_ibin rfl rfl rfl rfl | exact Y_extract rfl rfl rfl | exact R_lenr tabOk rfl rfl rfl rfl | exact R_lenn tabOk rfl rfl rfl | exact R_indexr tabOk rfl rfl rfl rfl rfl rfl rfl (by omega) | exact R_fielde tabOk rfl rfl rfl rfl | exact R_loade tabOk rfl rfl rfl rfl rfl rfl rfl rfl rfl | exact Y_not rfl rfl | exact Y_pick_t rfl rfl (by first | rfl | assumption) rfl | exact Y_pick_f rfl rfl (by first | rfl | assumption) rfl | exact Y_pick_b rfl rfl rfl rfl | exact R_build tabOk rfl rfl rfl rfl rfl rfl | (exact Y_makeFunc rfl rfl))) | refine O_nil ?_ | refine Q_nil ?_ | refine X_then_normal ?_ | refine X_in_normal ?_ | refine O_box rfl rfl rfl rfl rfl rfl rfl ?_ | refine O_alloc tabOk rfl rfl rfl rfl rfl rfl ?_ | refine O_store tabOk rfl rfl rfl rfl rfl rfl rfl rfl rfl rfl rfl ?_ | refine O_slice tabOk rfl rfl rfl rfl rfl rfl rfl rfl rfl rfl rfl ?_ | refine A_ct rfl ?_ | refine A_cf rfl ?_ | refine A_skip ?_ | refine A_exit ?_ | refine A_ret ?_ | refine X_then_exit ?_ | refine X_then_ret ?_ | refine X_in_same ?_ | refine X_in_other rfl ?_ | refine X_in_ret ?_ | refine O_s rfl rfl rfl ?_ | refine Q_s rfl rfl rfl ?_ | refine O_sn rfl rfl ?_ | (first | refine O_cTbl 1000 1001 (by omega) h1 rfl rfl rfl rfl rfl rfl rfl rfl rfl ?_ | refine O_cTbl 1000 1001 (by omega) h2 rfl rfl rfl rfl rfl rfl rfl rfl rfl ?_))
  exact X_retW AWk.refl rfl (h2 := [(1000, tblB 1001 u), (1001, mapB m)]) ⟨rfl, rfl, trivial⟩ ⟨rfl, rfl⟩
end Go.Proofs.Ytaecjmjdhbjbkaa.Ab

namespace Go.Proofs.Ytaecjmjdhbjbkaa.Ab
set_option linter.unusedVariables false
open Go.RowKit
set_option linter.unusedSimpArgs false
attribute [local irreducible] AWp AOps AQ AYield AEff ACall AWk AAny AAt AThen AIn APost NoPanic

def atR (l : List Row) (p : Pfx) : Int × Bool := match l.find? (fun r => r.1 == p) with
  | some r => (r.2, true)
  | none => (0, false)
theorem atR_cons (r : Row) (t : List Row) (p : Pfx) : atR (r :: t) p = if r.1 == p then (r.2, true) else atR t p := by unfold atR; rw [List.find?_cons]; cases r.1 == p <;> rfl
set_option profiler true in
set_option profiler.threshold 30 in
theorem at_A (l : List Row) (p : Pfx) (hn : l.length ≤ 1000000) : ACall Try.prog 56 [rowsA l, pfxA p] [] (fun c h => c = .tup [.d (.sc (.int .i64 (atR l p).1)), .d (.sc (.bool (atR l p).2))] ∧ h = []) := by
  refine ACall_of tabOk Try.func56 rfl Try.ntmps56 (congrArg Array.toList Try.results56) (by kernel_rfl) rfl ?_
  repeat (first | refine A_seq ?_ | refine A_block ?_ | refine R_list ?_ | refine R_quiet rfl mixed (by kernel_rfl) ?_ | ((first | apply O_y rfl rfl rfl | apply Q_y rfl rfl rfl); (first | exact Y_move rfl rfl | exact Y_assign rfl rfl | exact R_index tabOk rfl rfl rfl rfl rfl rfl (by omega) | exact R_fieldi tabOk rfl rfl rfl | exact R_loadi tabOk rfl rfl rfl rfl rfl rfl rfl | exact R_len tabOk rfl rfl rfl | exact R_load tabOk rfl rfl rfl rfl rfl rfl rfl rfl rfl | exact R_field tabOk rfl rfl rfl rfl | exact Y_addn rfl rfl rfl | exact Y_subn rfl rfl rfl | exact R_cmpT rfl rfl rfl rfl | exact R_cmpF rfl rfl rfl rfl | exact Y_ibin rfl rfl rfl rfl | exact Y_extract rfl rfl rfl | exact R_lenr tabOk rfl rfl rfl rfl | exact R_lenn tabOk rfl rfl rfl | exact R_indexr tabOk rfl rfl rfl rfl rfl rfl rfl (by omega) | exact R_fielde tabOk rfl rfl rfl rfl | exact R_loade tabOk rfl rfl rfl rfl rfl rfl rfl rfl rfl | exact Y_not rfl rfl | exact Y_pick_t rfl rfl (by first | rfl | assumption) rfl | exact Y_pick_f rfl rfl (by first | rfl | assumption) rfl | exact Y_pick_b rfl rfl rfl rfl | exact R_build tabOk rfl rfl rfl rfl rfl rfl | fail)) | refine O_nil ?_ | refine Q_nil ?_ | refine X_then_normal ?_ | refine X_in_normal ?_ | refine O_box rfl rfl rfl rfl rfl rfl rfl ?_ | refine O_alloc tabOk rfl rfl rfl rfl rfl rfl ?_ | refine O_store tabOk rfl rfl rfl rfl rfl rfl rfl rfl rfl rfl rfl ?_ | refine O_slice tabOk rfl rfl rfl rfl rfl rfl rfl rfl rfl rfl rfl ?_ | refine A_ct rfl ?_ | refine A_cf rfl ?_ | refine A_skip ?_ | refine A_exit ?_ | refine A_ret ?_ | refine X_then_exit ?_ | refine X_then_ret ?_ | refine X_in_same ?_ | refine X_in_other rfl ?_ | refine X_in_ret ?_ | refine O_s rfl rfl rfl ?_ | refine Q_s rfl rfl rfl ?_ | refine O_sn rfl rfl ?_ | fail)
  refine A_loop (fun k : Nat => [(0, rowsA l), (6, .d (.sc (.int .i64 (k : Int)))), (3, .ptr 3 0)]) (fun _ => [(3, .var [.d (.sc (.int .u32 p.a)), .d (.sc (.int .i64 p.b))])]) (fun k => k ≤ l.length ∧ atR (l.drop k) p = atR l p) (fun k => l.length - k) 0 ⟨Nat.zero_le _, rfl⟩ (Wk_sel ⟨rfl, rfl, rfl, trivial⟩ ⟨rfl, trivial⟩) ?_
  rintro k ⟨hk, hrest⟩
  by_cases hlt : k < l.length
  · have hd : l.drop k = l[k] :: l.drop (k + 1) := List.drop_eq_getElem_cons hlt
    repeat (first | refine A_seq ?_ | refine A_block ?_ | refine R_list ?_ | refine R_quiet rfl mixed (by kernel_rfl) ?_ | ((first | apply O_y rfl rfl rfl | apply Q_y rfl rfl rfl); (first | exact Y_move rfl rfl | exact Y_assign rfl rfl | exact R_index tabOk rfl rfl rfl rfl rfl rfl (by omega) | exact R_fieldi tabOk rfl rfl rfl | exact R_loadi tabOk rfl rfl rfl rfl (by first | exact win_flat0 rowD_len l k _ hlt (by decide) | exact win_flat rowD_len l k _ _ hlt (by decide) | exact win_flat2 rowD_len l k _ _ _ hlt (by decide) | rfl) rfl rfl | exact R_len tabOk rfl rfl rfl | exact R_load tabOk rfl rfl rfl rfl rfl rfl rfl rfl rfl | exact R_field tabOk rfl rfl rfl rfl | exact Y_addn rfl rfl rfl | exact Y_subn rfl rfl rfl | exact R_cmpT rfl rfl rfl rfl | exact R_cmpF rfl rfl rfl rfl | exact Y_ibin rfl rfl rfl rfl | exact Y_extract rfl rfl rfl | exact R_lenr tabOk rfl rfl rfl rfl | exact R_lenn tabOk rfl rfl rfl | exact R_indexr tabOk rfl rfl rfl rfl rfl rfl rfl (by omega) | exact R_fielde tabOk rfl rfl rfl rfl | exact R_loade tabOk rfl rfl rfl rfl rfl rfl rfl rfl rfl | exact Y_not rfl rfl | exact Y_pick_t rfl rfl (by first | rfl | assumption) rfl | exact Y_pick_f rfl rfl (by first | rfl | assumption) rfl | exact Y_pick_b rfl rfl rfl rfl | exact R_build tabOk rfl rfl rfl rfl rfl rfl | (exact Y_eq tabOk noStand rfl rfl rfl rfl rfl rfl rfl rfl rfl (by kernel_rfl) (pfxEq _ _) rfl))) | refine O_nil ?_ | refine Q_nil ?_ | refine X_then_normal ?_ | refine X_in_normal ?_ | refine O_box rfl rfl rfl rfl rfl rfl rfl ?_ | refine O_alloc tabOk rfl rfl rfl rfl rfl rfl ?_ | refine O_store tabOk rfl rfl rfl rfl rfl rfl rfl rfl rfl rfl rfl ?_ | refine O_slice tabOk rfl rfl rfl rfl rfl rfl rfl rfl rfl rfl rfl ?_ | refine A_ct rfl ?_ | refine A_cf rfl ?_ | refine A_skip ?_ | refine A_exit ?_ | refine A_ret ?_ | refine X_then_exit ?_ | refine X_then_ret ?_ | refine X_in_same ?_ | refine X_in_other rfl ?_ | refine X_in_ret ?_ | refine O_s rfl rfl rfl ?_ | refine Q_s rfl rfl rfl ?_ | refine O_sn rfl rfl ?_ | fail)
    refine A_cond rfl (fun hb => ?_) (fun hb => ?_)
    ·
      repeat (first | refine A_seq ?_ | refine A_block ?_ | refine R_list ?_ | refine R_quiet rfl mixed (by kernel_rfl) ?_ | ((first | apply O_y rfl rfl rfl | apply Q_y rfl rfl rfl); (first | exact Y_move rfl rfl | exact Y_assign rfl rfl | exact R_index tabOk rfl rfl rfl rfl rfl rfl (by omega) | exact R_fieldi tabOk rfl rfl rfl | exact R_loadi tabOk rfl rfl rfl rfl (by first | exact win_flat0 rowD_len l k _ hlt (by decide) | exact win_flat rowD_len l k _ _ hlt (by decide) | exact win_flat2 rowD_len l k _ _ _ hlt (by decide) | rfl) rfl rfl | exact R_len tabOk rfl rfl rfl | exact R_load tabOk rfl rfl rfl rfl rfl rfl rfl rfl rfl | exact R_field tabOk rfl rfl rfl rfl | exact Y_addn rfl rfl rfl | exact Y_subn rfl rfl rfl | exact R_cmpT rfl rfl rfl rfl | exact R_cmpF rfl rfl rfl rfl | exact Y_ibin rfl rfl rfl rfl | exact Y_extract rfl rfl rfl | exact R_lenr tabOk rfl rfl rfl rfl | exact R_lenn tabOk rfl rfl rfl | exact R_indexr tabOk rfl rfl rfl rfl rfl rfl rfl (by omega) | exact R_fielde tabOk rfl rfl rfl rfl | exact R_loade tabOk rfl rfl rfl rfl rfl rfl rfl rfl rfl | exact Y_not rfl rfl | exact Y_pick_t rfl rfl (by first | rfl | assumption) rfl | exact Y_pick_f rfl rfl (by first | rfl | assumption) rfl | exact Y_pick_b rfl rfl rfl rfl | exact R_build tabOk rfl rfl rfl rfl rfl rfl | fail)) | refine O_nil ?_ | refine Q_nil ?_ | refine X_then_normal ?_ | refine X_in_normal ?_ | refine O_box rfl rfl rfl rfl rfl rfl rfl ?_ | refine O_alloc tabOk rfl rfl rfl rfl rfl rfl ?_ | refine O_store tabOk rfl rfl rfl rfl rfl rfl rfl rfl rfl rfl rfl ?_ | refine O_slice tabOk rfl rfl rfl rfl rfl rfl rfl rfl rfl rfl rfl ?_ | refine A_ct rfl ?_ | refine A_cf rfl ?_ | refine A_skip ?_ | refine A_exit ?_ | refine A_ret ?_ | refine X_then_exit ?_ | refine X_then_ret ?_ | refine X_in_same ?_ | refine X_in_other rfl ?_ | refine X_in_ret ?_ | refine O_s rfl rfl rfl ?_ | refine Q_s rfl rfl rfl ?_ | refine O_sn rfl rfl ?_ | fail)
      refine X_ret rfl ⟨?_, rfl⟩
      have : atR l p = (l[k].2, true) := by rw [← hrest, hd, atR_cons, hb]; rfl
      rw [this]; rfl
    ·
      repeat (first | refine A_seq ?_ | refine A_block ?_ | refine R_list ?_ | refine R_quiet rfl mixed (by kernel_rfl) ?_ | ((first | apply O_y rfl rfl rfl | apply Q_y rfl rfl rfl); (first | exact Y_move rfl rfl | exact Y_assign rfl rfl | exact R_index tabOk rfl rfl rfl rfl rfl rfl (by omega) | exact R_fieldi tabOk rfl rfl rfl | exact R_loadi tabOk rfl rfl rfl rfl (by first | exact win_flat0 rowD_len l k _ hlt (by decide) | exact win_flat rowD_len l k _ _ hlt (by decide) | exact win_flat2 rowD_len l k _ _ _ hlt (by decide) | rfl) rfl rfl | exact R_len tabOk rfl rfl rfl | exact R_load tabOk rfl rfl rfl rfl rfl rfl rfl rfl rfl | exact R_field tabOk rfl rfl rfl rfl | exact Y_addn rfl rfl rfl | exact Y_subn rfl rfl rfl | exact R_cmpT rfl rfl rfl rfl | exact R_cmpF rfl rfl rfl rfl | exact Y_ibin rfl rfl rfl rfl | exact Y_extract rfl rfl rfl | exact R_lenr tabOk rfl rfl rfl rfl | exact R_lenn tabOk rfl rfl rfl | exact R_indexr tabOk rfl rfl rfl rfl rfl rfl rfl (by omega) | exact R_fielde tabOk rfl rfl rfl rfl | exact R_loade tabOk rfl rfl rfl rfl rfl rfl rfl rfl rfl | exact Y_not rfl rfl | exact Y_pick_t rfl rfl (by first | rfl | assumption) rfl | exact Y_pick_f rfl rfl (by first | rfl | assumption) rfl | exact Y_pick_b rfl rfl rfl rfl | exact R_build tabOk rfl rfl rfl rfl rfl rfl | fail)) | refine O_nil ?_ | refine Q_nil ?_ | refine X_then_normal ?_ | refine X_in_normal ?_ | refine O_box rfl rfl rfl rfl rfl rfl rfl ?_ | refine O_alloc tabOk rfl rfl rfl rfl rfl rfl ?_ | refine O_store tabOk rfl rfl rfl rfl rfl rfl rfl rfl rfl rfl rfl ?_ | refine O_slice tabOk rfl rfl rfl rfl rfl rfl rfl rfl rfl rfl rfl ?_ | refine A_ct rfl ?_ | refine A_cf rfl ?_ | refine A_skip ?_ | refine A_exit ?_ | refine A_ret ?_ | refine X_then_exit ?_ | refine X_then_ret ?_ | refine X_in_same ?_ | refine X_in_other rfl ?_ | refine X_in_ret ?_ | refine O_s rfl rfl rfl ?_ | refine Q_s rfl rfl rfl ?_ | refine O_sn rfl rfl ?_ | fail)
      refine ⟨k + 1, ⟨by omega, ?_⟩, by omega, Wk_sel ⟨rfl, rfl, rfl, trivial⟩ ⟨rfl, trivial⟩⟩
      rw [← hrest, hd, atR_cons, hb]; rfl
  · have hke : k = l.length := by omega
    repeat (first | refine A_seq ?_ | refine A_block ?_ | refine R_list ?_ | refine R_quiet rfl mixed (by kernel_rfl) ?_ | ((first | apply O_y rfl rfl rfl | apply Q_y rfl rfl rfl); (first | exact Y_move rfl rfl | exact Y_assign rfl rfl | exact R_index tabOk rfl rfl rfl rfl rfl rfl (by omega) | exact R_fieldi tabOk rfl rfl rfl | exact R_loadi tabOk rfl rfl rfl rfl rfl rfl rfl | exact R_len tabOk rfl rfl rfl | exact R_load tabOk rfl rfl rfl rfl rfl rfl rfl rfl rfl | exact R_field tabOk rfl rfl rfl rfl | exact Y_addn rfl rfl rfl | exact Y_subn rfl rfl rfl | exact R_cmpT rfl rfl rfl rfl | exact R_cmpF rfl rfl rfl rfl | exact Y_ibin rfl rfl rfl rfl | exact Y_extract rfl rfl rfl | exact R_lenr tabOk rfl rfl rfl rfl | exact R_lenn tabOk rfl rfl rfl | exact R_indexr tabOk rfl rfl rfl rfl rfl rfl rfl (by omega) | exact R_fielde tabOk rfl rfl rfl rfl | exact R_loade tabOk rfl rfl rfl rfl rfl rfl rfl rfl rfl | exact Y_not rfl rfl | exact Y_pick_t rfl rfl (by first | rfl | assumption) rfl | exact Y_pick_f rfl rfl (by first | rfl | assumption) rfl | exact Y_pick_b rfl rfl rfl rfl | exact R_build tabOk rfl rfl rfl rfl rfl rfl | fail)) | refine O_nil ?_ | refine Q_nil ?_ | refine X_then_normal ?_ | refine X_in_normal ?_ | refine O_box rfl rfl rfl rfl rfl rfl rfl ?_ | refine O_alloc tabOk rfl rfl rfl rfl rfl rfl ?_ | refine O_store tabOk rfl rfl rfl rfl rfl rfl rfl rfl rfl rfl rfl ?_ | refine O_slice tabOk rfl rfl rfl rfl rfl rfl rfl rfl rfl rfl rfl ?_ | refine A_ct rfl ?_ | refine A_cf rfl ?_ | refine A_skip ?_ | refine A_exit ?_ | refine A_ret ?_ | refine X_then_exit ?_ | refine X_then_ret ?_ | refine X_in_same ?_ | refine X_in_other rfl ?_ | refine X_in_ret ?_ | refine O_s rfl rfl rfl ?_ | refine Q_s rfl rfl rfl ?_ | refine O_sn rfl rfl ?_ | fail)
    refine X_ret rfl ⟨?_, rfl⟩
    have : atR l p = (0, false) := by rw [← hrest, hke, List.drop_length]; rfl
    rw [this]; rfl
end Go.Proofs.Ytaecjmjdhbjbkaa.Ab

namespace Go.Proofs.Ytaecjmjdhbjbkaa.Ab
set_option linter.unusedVariables false
set_option maxRecDepth 100000
open Go.RowKit
set_option linter.unusedSimpArgs false
attribute [local irreducible] AWp AOps AQ AYield AEff ACall AWk AAny AAt AThen AIn APost NoPanic

section
variable {P : Program} {nt : Nat} {Q : Post} {e : Env} {h : Heap} {o : Oper} {ops : Array Oper} {rest : List Oper}
/-- A call that hands back a new table. -/
theorem O_cNew {f : FuncId} {args : Array Operand} {ats : Array TypeId} {cs : List AVal} {d : Nat} {u : Nat → Int} {l : List (Pfx × Int)} (H : ACall P f cs [] (fun c' h' => c' = .ptr 3 0 ∧ h' = [(3, tblB 902 u), (902, mapB l)])) (hw : awant ops e o = some true) (hdst : o.dst = some d) (hd : Nat.blt d nt = true)
    (ho : o.op = .call { callee := .value (.func f), args := args, argTypes := ats }) (hx : aevs e args.toList = some cs) (HK : AOps P nt ops Q rest ((d, .ptr 3 0) :: killEs [3, 902] e) ((3, tblB 902 u) :: (902, mapB l) :: killHs [3, 902] h)) : AOps P nt ops Q (o :: rest) e h :=
  O_eff (T := []) hw (E_callQ ho hdst hx H hd fun c' h' ⟨h1, h2⟩ => by
    subst h1 h2
    refine ⟨rfl, fun id b j hb hh => ?_, fun j hj => ?_⟩
    · by_cases h3 : 3 = id
      · subst h3
        rw [look_cons_same] at hb
        cases hb
        have hs : hasL j (usedA u) = false := shutL_has j (usedA u) rfl
        have : (902 == j) = true := by
          have h9 : ((AVal.mp 902).has j || hasL j (usedA u)) = true := hh
          rw [hs, Bool.or_false] at h9
          exact h9
        have : 902 = j := by simpa using this
        subst this
        rfl
      · rw [look_cons_ne _ _ h3] at hb
        by_cases h4 : 902 = id
        · subst h4
          rw [look_cons_same] at hb
          cases hb
          have h9 : (ents pfxA intA l).any (fun p => p.1.has j || p.2.has j) = true := hh
          obtain ⟨p, hp, h10⟩ := List.any_eq_true.1 h9
          obtain ⟨q, _, rfl⟩ := List.mem_map.1 hp
          rw [shut_has j (pfxA q.1) rfl, shut_has j (intA q.2) rfl] at h10
          cases h10
        · rw [look_cons_ne _ _ h4] at hb; cases hb
    · have h9 : (3 == j) = true := hj
      have : 3 = j := by simpa using h9
      subst this
      rfl) fun e' h' ⟨c, h2, ⟨h3, h4⟩, h5, h6⟩ => by subst h3 h4 h5 h6; exact HK
end
def p8 : Pfx := ⟨167772160, 8⟩
def p16 : Pfx := ⟨167837696, 16⟩
def u1 : Nat → Int := bump (fun _ => 0) 8 1
def u2 : Nat → Int := bump u1 16 1
theorem put1_A : ACall Try.prog 24 [.ptr 1000 0, pfxA p8, intA 1] [(1000, tblB 1001 fun _ => 0), (1001, mapB [])] (fun c h => c = intA 0 ∧ h = [(1000, tblB 1001 u1), (1001, mapB [(p8, 1)])]) :=
  (put_A (fun _ => 0) [] p8 1 (by unfold Pfx.ok p8; decide) (by simp) (fun _ => ⟨by omega, by omega⟩)).mono fun c h ⟨h1, h2⟩ => ⟨by rw [h1]; rfl, by rw [h2]; rfl⟩
theorem put2_A : ACall Try.prog 24 [.ptr 1000 0, pfxA p16, intA 2] [(1000, tblB 1001 u1), (1001, mapB [(p8, 1)])] (fun c h => c = intA 0 ∧ h = [(1000, tblB 1001 u2), (1001, mapB [(p8, 1), (p16, 2)])]) :=
  (put_A u1 [(p8, 1)] p16 2 (by unfold Pfx.ok p16; decide) (by simp) (fun j => by unfold u1 bump; dsimp only; split <;> exact ⟨by omega, by omega⟩)).mono fun c h ⟨h1, h2⟩ => ⟨by rw [h1]; rfl, by rw [h2]; rfl⟩
theorem nod2 : ([(p8, (1 : Int)), (p16, 2)].map (·.1)).Nodup := by decide
theorem long1_A : ACall Try.prog 18 [.ptr 1000 0, .d (.sc (.int .u32 167838211))] [(1000, tblB 1001 u2), (1001, mapB [(p8, 1), (p16, 2)])] (fun c h => c = .tup [pfxA p16, intA 2, boolA true] ∧ h = [(1000, tblB 1001 u2), (1001, mapB [(p8, 1), (p16, 2)])]) := by
  have h := longest_A u2 [(p8, 1), (p16, 2)] 167838211 (by omega) (by omega) nod2
  rw [show longR u2 [(p8, 1), (p16, 2)] 167838211 = (p16, 2, true) by decide +kernel] at h
  exact h
theorem long2_A : ACall Try.prog 18 [.ptr 1000 0, .d (.sc (.int .u32 167903747))] [(1000, tblB 1001 u2), (1001, mapB [(p8, 1), (p16, 2)])] (fun c h => c = .tup [pfxA p8, intA 1, boolA true] ∧ h = [(1000, tblB 1001 u2), (1001, mapB [(p8, 1), (p16, 2)])]) := by
  have h := longest_A u2 [(p8, 1), (p16, 2)] 167903747 (by omega) (by omega) nod2
  rw [show longR u2 [(p8, 1), (p16, 2)] 167903747 = (p8, 1, true) by decide +kernel] at h
  exact h
set_option maxHeartbeats 4000000 in
theorem awake_A : ACall Try.prog 12 [] [] (Just (boolA true)) := by
  refine ACall_of tabOk Try.func12 rfl Try.ntmps12 (congrArg Array.toList Try.results12) (by kernel_rfl) rfl ?_
  repeat (first | refine A_seq ?_ | refine A_block ?_ | refine R_list ?_ | refine R_quiet rfl mixed (by kernel_rfl) ?_ | ((first | apply O_y rfl rfl rfl | apply Q_y rfl rfl rfl); (first | exact Y_move rfl rfl | exact Y_assign rfl rfl | exact R_index tabOk rfl rfl rfl rfl rfl rfl (by omega) | exact R_fieldi tabOk rfl rfl rfl | exact R_loadi tabOk rfl rfl rfl rfl rfl rfl rfl | exact R_len tabOk rfl rfl rfl | exact R_load tabOk rfl rfl rfl rfl rfl rfl rfl rfl rfl | exact R_field tabOk rfl rfl rfl rfl | exact Y_addn rfl rfl rfl | exact Y_subn rfl rfl rfl | exact R_cmpT rfl rfl rfl rfl | exact R_cmpF rfl rfl rfl rfl | exact Y_ibin rfl rfl rfl rfl | exact Y_extract rfl rfl rfl | exact R_lenr tabOk rfl rfl rfl rfl | exact R_lenn tabOk rfl rfl rfl | exact R_indexr tabOk rfl rfl rfl rfl rfl rfl rfl (by omega) | exact R_fielde tabOk rfl rfl rfl rfl | exact R_loade tabOk rfl rfl rfl rfl rfl rfl rfl rfl rfl | exact Y_not rfl rfl | exact Y_pick_t rfl rfl (by first | rfl | assumption) rfl | exact Y_pick_f rfl rfl (by first | rfl | assumption) rfl | exact Y_pick_b rfl rfl rfl rfl | exact R_build tabOk rfl rfl rfl rfl rfl rfl | (first | exact R_pnil tabOk rfl rfl rfl rfl rfl))) | refine O_nil ?_ | refine Q_nil ?_ | refine X_then_normal ?_ | refine X_in_normal ?_ | refine O_box rfl rfl rfl rfl rfl rfl rfl ?_ | refine O_alloc tabOk rfl rfl rfl rfl rfl rfl ?_ | refine O_store tabOk rfl rfl rfl rfl rfl rfl rfl rfl rfl rfl rfl ?_ | refine O_slice tabOk rfl rfl rfl rfl rfl rfl rfl rfl rfl rfl rfl ?_ | refine A_ct rfl ?_ | refine A_cf rfl ?_ | refine A_skip ?_ | refine A_exit ?_ | refine A_ret ?_ | refine X_then_exit ?_ | refine X_then_ret ?_ | refine X_in_same ?_ | refine X_in_other rfl ?_ | refine X_in_ret ?_ | refine O_s rfl rfl rfl ?_ | refine Q_s rfl rfl rfl ?_ | refine O_sn rfl rfl ?_ | (first | refine O_cNew new_A rfl rfl rfl rfl rfl ?_ | refine O_cTbl 3 902 (by omega) put1_A rfl rfl rfl rfl rfl rfl rfl rfl rfl ?_ | refine O_cTbl 3 902 (by omega) put2_A rfl rfl rfl rfl rfl rfl rfl rfl rfl ?_ | refine O_cTbl 3 902 (by omega) long1_A rfl rfl rfl rfl rfl rfl rfl rfl rfl ?_ | refine O_cTbl 3 902 (by omega) long2_A rfl rfl rfl rfl rfl rfl rfl rfl rfl ?_ | refine O_cTbl 3 902 (by omega) (len_A u2 [(p8, 1), (p16, 2)]) rfl rfl rfl rfl rfl rfl rfl rfl rfl ?_))
  exact X_ret rfl ⟨rfl, rfl⟩
end Go.Proofs.Ytaecjmjdhbjbkaa.Ab

namespace Go.Proofs.Ytaecjmjdhbjbkaa.Ab
set_option linter.unusedVariables false
set_option maxRecDepth 100000
open Go.RowKit
set_option linter.unusedSimpArgs false
attribute [local irreducible] AWp AOps AQ AYield AEff ACall AWk AAny AAt AThen AIn APost NoPanic

abbrev TS := (Nat → Int) × List (Pfx × Int)
def putS (s : TS) (p : Pfx) (v : Int) : TS := if chk p = 0 then (if (aget s.2 p).isSome then s.1 else bump s.1 p.b.toNat 1, Go.Proofs.Ytaecjmjdhbjbkaa.aput s.2 p v) else s
def laidS (l : List Pfx) : Nat → TS
  | 0 => (fun _ => 0, [])
  | k + 1 => match l[k]? with
    | some p => putS (laidS l k) p (k : Int)
    | none => laidS l k
/-- What such a table knows of the prefixes that were put. -/
structure TOk (s : TS) (k : Nat) : Prop where
  nd : (s.2.map (·.1)).Nodup
  good : ∀ p ∈ s.2, good p.1
  ok : ∀ p ∈ s.2, p.1.ok
  used : ∀ p ∈ s.2, 1 ≤ s.1 p.1.b.toNat
  ub : ∀ j, 0 ≤ s.1 j ∧ s.1 j ≤ k
  len : s.2.length ≤ k
theorem TOk.zero : TOk (fun _ => 0, []) 0 := ⟨.nil, by simp, by simp, by simp, fun _ => ⟨Int.le_refl _, Int.le_refl _⟩, Nat.le_refl _⟩
theorem TOk.put {s : TS} {k : Nat} (T : TOk s k) (p : Pfx) (v : Int) (hp : p.ok) : TOk (putS s p v) (k + 1) := by
  unfold putS
  by_cases hc : chk p = 0
  · rw [if_pos hc]
    have hg := (chk_eq p).1 hc
    have hmem : ∀ q ∈ Go.Proofs.Ytaecjmjdhbjbkaa.aput s.2 p v, q.1 = p ∨ q ∈ s.2 := fun q hq => by
      rcases (mem_aput T.nd).1 hq with h | h
      · exact .inl (by rw [h])
      · exact .inr h.2
    have hmono : ∀ j, s.1 j ≤ (if (aget s.2 p).isSome then s.1 else bump s.1 p.b.toNat 1) j := fun j => by
      split
      · exact Int.le_refl _
      · unfold bump; split <;> omega
    refine ⟨aput_nodup T.nd, fun q hq => ?_, fun q hq => ?_, fun q hq => ?_, fun j => ?_, ?_⟩
    · rcases hmem q hq with h | h
      · rw [h]; exact hg
      · exact T.good q h
    · rcases hmem q hq with h | h
      · rw [h]; exact hp
      · exact T.ok q h
    · rcases hmem q hq with h | h
      · rw [h]
        dsimp only
        split
        · rename_i hs
          obtain ⟨z, hz⟩ := Option.isSome_iff_exists.1 hs
          exact T.used _ (mem_of_aget hz)
        · have := (T.ub p.b.toNat).1
          unfold bump
          rw [if_pos rfl]
          omega
      · exact Int.le_trans (T.used q h) (hmono _)
    · have := T.ub j
      dsimp only
      split
      · exact ⟨this.1, by omega⟩
      · unfold bump; split <;> exact ⟨by omega, by omega⟩
    · dsimp only
      rw [aput_length]
      have := T.len
      split <;> omega
  · rw [if_neg hc]
    exact ⟨T.nd, T.good, T.ok, T.used, fun j => ⟨(T.ub j).1, by have := (T.ub j).2; omega⟩, by have := T.len; omega⟩
theorem laid_ok (l : List Pfx) (hl : ∀ p ∈ l, p.ok) : ∀ k, TOk (laidS l k) k
  | 0 => .zero
  | k + 1 => by
    rw [laidS]
    have ih := laid_ok l hl k
    cases h : l[k]? with
    | none =>
      show TOk (laidS l k) (k + 1)
      exact ⟨ih.nd, ih.good, ih.ok, ih.used, fun j => ⟨(ih.ub j).1, by have := (ih.ub j).2; omega⟩, by have := ih.len; omega⟩
    | some p => exact ih.put p k (hl p (List.mem_of_getElem? h))
theorem putS_get {s : TS} {k : Nat} (T : TOk s k) (p : Pfx) (v : Int) (hg : good p) (q : Pfx) : aget (putS s p v).2 q = if q = p then some v else aget s.2 q := by
  unfold putS
  rw [if_pos ((chk_eq p).2 hg)]
  exact aget_aput T.nd
theorem putS_bad (s : TS) (p : Pfx) (v : Int) (hg : ¬ good p) : putS s p v = s := by
  unfold putS
  rw [if_neg fun h => hg ((chk_eq p).1 h)]
/-- Each has the last place where it stands. -/
theorem laid_from (l : List Pfx) (hl : ∀ p ∈ l, p.ok) : ∀ k q z, aget (laidS l k).2 q = some z → ∃ i : Nat, i < k ∧ z = (i : Int) ∧ l[i]? = some q
  | 0, q, z, h => absurd (mem_of_aget h) (by simp [laidS])
  | k + 1, q, z, h => by
    rw [laidS] at h
    cases hk : l[k]? with
    | none =>
      rw [hk] at h
      have h : aget (laidS l k).2 q = some z := h
      obtain ⟨i, h1, h2, h3⟩ := laid_from l hl k q z h
      exact ⟨i, by omega, h2, h3⟩
    | some p =>
      rw [hk] at h
      have h : aget (putS (laidS l k) p (k : Int)).2 q = some z := h
      by_cases hg : good p
      · rw [putS_get (laid_ok l hl k) p _ hg] at h
        split at h
        · rename_i e
          cases h
          exact ⟨k, by omega, rfl, by rw [e]; exact hk⟩
        · obtain ⟨i, h1, h2, h3⟩ := laid_from l hl k q z h
          exact ⟨i, by omega, h2, h3⟩
      · rw [putS_bad _ _ _ hg] at h
        obtain ⟨i, h1, h2, h3⟩ := laid_from l hl k q z h
        exact ⟨i, by omega, h2, h3⟩
theorem laid_all (l : List Pfx) (hl : ∀ p ∈ l, p.ok) : ∀ k i q, i < k → l[i]? = some q → good q → ∃ z, aget (laidS l k).2 q = some z
  | 0, i, q, h, _, _ => by omega
  | k + 1, i, q, h, hq, hg => by
    rw [laidS]
    by_cases hik : i = k
    · subst hik
      rw [hq]
      exact ⟨(i : Int), by rw [putS_get (laid_ok l hl i) q _ hg, if_pos rfl]⟩
    · obtain ⟨z, hz⟩ := laid_all l hl k i q (by omega) hq hg
      cases hk : l[k]? with
      | none => exact ⟨z, hz⟩
      | some p =>
        by_cases hg2 : good p
        · by_cases e : q = p
          · exact ⟨(k : Int), by show aget (putS _ _ _).2 q = _; rw [putS_get (laid_ok l hl k) p _ hg2, if_pos e]⟩
          · exact ⟨z, by show aget (putS _ _ _).2 q = _; rw [putS_get (laid_ok l hl k) p _ hg2, if_neg e]; exact hz⟩
        · exact ⟨z, by show aget (putS _ _ _).2 q = _; rw [putS_bad _ _ _ hg2]; exact hz⟩

theorem putS_A (s : TS) (k : Nat) (T : TOk s k) (hk : k ≤ 1000000) (p : Pfx) (v : Int) (hp : p.ok) :
    ACall Try.prog 24 [.ptr 1000 0, pfxA p, intA v] [(1000, tblB 1001 s.1), (1001, mapB s.2)] (fun c h => c = intA (chk p) ∧ h = [(1000, tblB 1001 (putS s p v).1), (1001, mapB (putS s p v).2)]) :=
  (put_A s.1 s.2 p v hp T.nd fun j => ⟨(T.ub j).1, by have := (T.ub j).2; omega⟩).mono fun c h ⟨h1, h2⟩ => ⟨h1, by
    rw [h2]
    unfold putS
    split <;> rfl⟩
set_option maxHeartbeats 4000000 in
theorem laid_A (l : List Pfx) (hok : ∀ p ∈ l, p.ok) (hn : l.length ≤ 200) : ACall Try.prog 17 [pfxsA l] [] (fun c h => c = .ptr 3 0 ∧ h = [(3, tblB 902 (laidS l l.length).1), (902, mapB (laidS l l.length).2)]) := by
  refine ACall_of tabOk Try.func17 rfl Try.ntmps17 (congrArg Array.toList Try.results17) (by kernel_rfl) rfl ?_
  repeat (first | refine A_seq ?_ | refine A_block ?_ | refine R_list ?_ | refine R_quiet rfl mixed (by kernel_rfl) ?_ | ((first | apply O_y rfl rfl rfl | apply Q_y rfl rfl rfl); (first | exact Y_move rfl rfl | exact Y_assign rfl rfl | exact R_index tabOk rfl rfl rfl rfl rfl rfl (by omega) | exact R_fieldi tabOk rfl rfl rfl | exact R_loadi tabOk rfl rfl rfl rfl rfl rfl rfl | exact R_len tabOk rfl rfl rfl | exact R_load tabOk rfl rfl rfl rfl rfl rfl rfl rfl rfl | exact R_field tabOk rfl rfl rfl rfl | exact Y_addn rfl rfl rfl | exact Y_subn rfl rfl rfl | exact R_cmpT rfl rfl rfl rfl | exact R_cmpF rfl rfl rfl rfl | exact Y_ibin rfl rfl rfl rfl | exact Y_extract rfl rfl rfl | exact R_lenr tabOk rfl rfl rfl rfl | exact R_lenn tabOk rfl rfl rfl | exact R_indexr tabOk rfl rfl rfl rfl rfl rfl rfl (by omega) | exact R_fielde tabOk rfl rfl rfl rfl | exact R_loade tabOk rfl rfl rfl rfl rfl rfl rfl rfl rfl | exact Y_not rfl rfl | exact Y_pick_t rfl rfl (by first | rfl | assumption) rfl | exact Y_pick_f rfl rfl (by first | rfl | assumption) rfl | exact Y_pick_b rfl rfl rfl rfl | exact R_build tabOk rfl rfl rfl rfl rfl rfl | fail)) | refine O_nil ?_ | refine Q_nil ?_ | refine X_then_normal ?_ | refine X_in_normal ?_ | refine O_box rfl rfl rfl rfl rfl rfl rfl ?_ | refine O_alloc tabOk rfl rfl rfl rfl rfl rfl ?_ | refine O_store tabOk rfl rfl rfl rfl rfl rfl rfl rfl rfl rfl rfl ?_ | refine O_slice tabOk rfl rfl rfl rfl rfl rfl rfl rfl rfl rfl rfl ?_ | refine A_ct rfl ?_ | refine A_cf rfl ?_ | refine A_skip ?_ | refine A_exit ?_ | refine A_ret ?_ | refine X_then_exit ?_ | refine X_then_ret ?_ | refine X_in_same ?_ | refine X_in_other rfl ?_ | refine X_in_ret ?_ | refine O_s rfl rfl rfl ?_ | refine Q_s rfl rfl rfl ?_ | refine O_sn rfl rfl ?_ | (refine O_cNew new_A rfl rfl rfl rfl rfl ?_))
  refine A_loop (fun k : Nat => [(0, pfxsA l), (3, .ptr 3 0), (4, intA (k : Int))]) (fun k => [(3, tblB 902 (laidS l k).1), (902, mapB (laidS l k).2)]) (fun k => k ≤ l.length) (fun k => l.length - k) 0 (by omega) (Wk_sel ⟨rfl, rfl, rfl, trivial⟩ ⟨rfl, rfl, trivial⟩) ?_
  intro k hk
  dsimp only
  by_cases hlt : k < l.length
  · have hput := putS_A (laidS l k) k (laid_ok l hok k) (by omega) l[k] (k : Int) (hok _ (List.getElem_mem hlt))
    have hst : laidS l (k + 1) = putS (laidS l k) l[k] (k : Int) := by rw [laidS, List.getElem?_eq_getElem hlt]
    repeat (first | refine A_seq ?_ | refine A_block ?_ | refine R_list ?_ | refine R_quiet rfl mixed (by kernel_rfl) ?_ | ((first | apply O_y rfl rfl rfl | apply Q_y rfl rfl rfl); (first | exact Y_move rfl rfl | exact Y_assign rfl rfl | exact R_index tabOk rfl rfl rfl rfl rfl rfl (by omega) | exact R_fieldi tabOk rfl rfl rfl | exact R_loadi tabOk rfl rfl rfl rfl (by first | exact win_flat0 pfxD_len l k _ hlt (by decide) | exact win_flat pfxD_len l k _ _ hlt (by decide) | exact win_flat2 pfxD_len l k _ _ _ hlt (by decide) | rfl) rfl rfl | exact R_len tabOk rfl rfl rfl | exact R_load tabOk rfl rfl rfl rfl rfl rfl rfl rfl rfl | exact R_field tabOk rfl rfl rfl rfl | exact Y_addn rfl rfl rfl | exact Y_subn rfl rfl rfl | exact R_cmpT rfl rfl rfl rfl | exact R_cmpF rfl rfl rfl rfl | exact Y_ibin rfl rfl rfl rfl | exact Y_extract rfl rfl rfl | exact R_lenr tabOk rfl rfl rfl rfl | exact R_lenn tabOk rfl rfl rfl | exact R_indexr tabOk rfl rfl rfl rfl rfl rfl rfl (by omega) | exact R_fielde tabOk rfl rfl rfl rfl | exact R_loade tabOk rfl rfl rfl rfl rfl rfl rfl rfl rfl | exact Y_not rfl rfl | exact Y_pick_t rfl rfl (by first | rfl | assumption) rfl | exact Y_pick_f rfl rfl (by first | rfl | assumption) rfl | exact Y_pick_b rfl rfl rfl rfl | exact R_build tabOk rfl rfl rfl rfl rfl rfl | fail)) | refine O_nil ?_ | refine Q_nil ?_ | refine X_then_normal ?_ | refine X_in_normal ?_ | refine O_box rfl rfl rfl rfl rfl rfl rfl ?_ | refine O_alloc tabOk rfl rfl rfl rfl rfl rfl ?_ | refine O_store tabOk rfl rfl rfl rfl rfl rfl rfl rfl rfl rfl rfl ?_ | refine O_slice tabOk rfl rfl rfl rfl rfl rfl rfl rfl rfl rfl rfl ?_ | refine A_ct rfl ?_ | refine A_cf rfl ?_ | refine A_skip ?_ | refine A_exit ?_ | refine A_ret ?_ | refine X_then_exit ?_ | refine X_then_ret ?_ | refine X_in_same ?_ | refine X_in_other rfl ?_ | refine X_in_ret ?_ | refine O_s rfl rfl rfl ?_ | refine Q_s rfl rfl rfl ?_ | refine O_sn rfl rfl ?_ | (refine O_cTbl 3 902 (by omega) hput rfl rfl rfl rfl rfl rfl rfl rfl rfl ?_))
    exact ⟨k + 1, by omega, by omega, Wk_sel ⟨rfl, rfl, rfl, trivial⟩ ⟨by rw [hst]; rfl, by rw [hst]; rfl, trivial⟩⟩
  · have hkk : k = l.length := by omega
    subst hkk
    repeat (first | refine A_seq ?_ | refine A_block ?_ | refine R_list ?_ | refine R_quiet rfl mixed (by kernel_rfl) ?_ | ((first | apply O_y rfl rfl rfl | apply Q_y rfl rfl rfl); (first | exact Y_move rfl rfl | exact Y_assign rfl rfl | exact R_index tabOk rfl rfl rfl rfl rfl rfl (by omega) | exact R_fieldi tabOk rfl rfl rfl | exact R_loadi tabOk rfl rfl rfl rfl rfl rfl rfl | exact R_len tabOk rfl rfl rfl | exact R_load tabOk rfl rfl rfl rfl rfl rfl rfl rfl rfl | exact R_field tabOk rfl rfl rfl rfl | exact Y_addn rfl rfl rfl | exact Y_subn rfl rfl rfl | exact R_cmpT rfl rfl rfl rfl | exact R_cmpF rfl rfl rfl rfl | exact Y_ibin rfl rfl rfl rfl | exact Y_extract rfl rfl rfl | exact R_lenr tabOk rfl rfl rfl rfl | exact R_lenn tabOk rfl rfl rfl | exact R_indexr tabOk rfl rfl rfl rfl rfl rfl rfl (by omega) | exact R_fielde tabOk rfl rfl rfl rfl | exact R_loade tabOk rfl rfl rfl rfl rfl rfl rfl rfl rfl | exact Y_not rfl rfl | exact Y_pick_t rfl rfl (by first | rfl | assumption) rfl | exact Y_pick_f rfl rfl (by first | rfl | assumption) rfl | exact Y_pick_b rfl rfl rfl rfl | exact R_build tabOk rfl rfl rfl rfl rfl rfl | fail)) | refine O_nil ?_ | refine Q_nil ?_ | refine X_then_normal ?_ | refine X_in_normal ?_ | refine O_box rfl rfl rfl rfl rfl rfl rfl ?_ | refine O_alloc tabOk rfl rfl rfl rfl rfl rfl ?_ | refine O_store tabOk rfl rfl rfl rfl rfl rfl rfl rfl rfl rfl rfl ?_ | refine O_slice tabOk rfl rfl rfl rfl rfl rfl rfl rfl rfl rfl rfl ?_ | refine A_ct rfl ?_ | refine A_cf rfl ?_ | refine A_skip ?_ | refine A_exit ?_ | refine A_ret ?_ | refine X_then_exit ?_ | refine X_then_ret ?_ | refine X_in_same ?_ | refine X_in_other rfl ?_ | refine X_in_ret ?_ | refine O_s rfl rfl rfl ?_ | refine Q_s rfl rfl rfl ?_ | refine O_sn rfl rfl ?_ | fail)
    exact X_retW AWk.refl rfl (h2 := [(3, tblB 902 (laidS l l.length).1), (902, mapB (laidS l l.length).2)]) ⟨rfl, rfl, trivial⟩ ⟨rfl, rfl⟩
end Go.Proofs.Ytaecjmjdhbjbkaa.Ab

namespace Go.Proofs.Ytaecjmjdhbjbkaa.Ab
set_option linter.unusedVariables false
open Go.RowKit

theorem over_mem {s : TS} {k : Nat} (T : TOk s k) (x : Int) (q : Pfx) : q ∈ overS s.1 s.2 x 33 ↔ (∃ z, aget s.2 q = some z) ∧ inB x q = true := by
  unfold overS
  rw [List.mem_map]
  constructor
  · rintro ⟨b, hb, rfl⟩
    have h1 := (List.mem_filter.1 hb).2
    simp only [Bool.and_eq_true] at h1
    obtain ⟨z, hz⟩ := Option.isSome_iff_exists.1 h1.2
    refine ⟨⟨z, hz⟩, ?_⟩
    rw [← inB_low x _ (T.good _ (mem_of_aget hz))]
    exact decide_eq_true rfl
  · rintro ⟨⟨z, hz⟩, hin⟩
    have hm := mem_of_aget hz
    have hg := T.good _ hm
    rw [← inB_low x q hg, decide_eq_true_eq] at hin
    have hu := T.used _ hm
    obtain ⟨a, b⟩ := q
    have hb0 := hg.1
    have hb1 := hg.2.1
    dsimp only at hb0 hb1 hin hu
    obtain ⟨B, rfl⟩ : ∃ B : Nat, b = (B : Int) := ⟨b.toNat, by omega⟩
    have hsub : sub x (B : Int) = ⟨a, (B : Int)⟩ := by
      unfold sub
      rw [hin]
    rw [Int.toNat_natCast] at hu
    refine ⟨B, List.mem_filter.2 ⟨List.mem_range.2 (by omega), ?_⟩, hsub⟩
    rw [hsub, hz]
    simp
    omega
theorem over_sorted (u : Nat → Int) (m : List (Pfx × Int)) (x : Int) (k : Nat) : (overS u m x k).Pairwise fun p q => p.b < q.b := by
  unfold overS
  rw [List.pairwise_map]
  refine List.Pairwise.imp ?_ (List.Pairwise.filter _ List.pairwise_lt_range)
  intro a b h
  show (a : Int) < (b : Int)
  omega
theorem nodup_of_lt {l : List Pfx} (h : l.Pairwise fun p q => p.b < q.b) : l.Nodup := h.imp fun {a b} h1 h2 => by rw [h2] at h1; omega
theorem sortP_mem {l : List Pfx} {q : Pfx} : q ∈ sortP l ↔ q ∈ l := (List.mergeSort_perm _ _).mem_iff
theorem key_iff {m : List (Pfx × Int)} {q : Pfx} : q ∈ m.map (·.1) ↔ ∃ z, aget m q = some z := by
  constructor
  · exact key_get m q
  · rintro ⟨z, hz⟩
    exact List.mem_map.2 ⟨_, mem_of_aget hz, rfl⟩
/-- All keys, in order. -/
def keysP (m : List (Pfx × Int)) : List Pfx := sortP ((m.map (·.1)).filter fun _ => true)
theorem keysP_perm (m : List (Pfx × Int)) : (keysP m).Perm (m.map (·.1)) := by
  have h : (m.map (·.1)).filter (fun _ => true) = m.map (·.1) := List.filter_eq_self.2 fun _ _ => rfl
  unfold keysP
  rw [h]
  exact List.mergeSort_perm _ _
theorem over_count {s : TS} {k : Nat} (T : TOk s k) (x : Int) : ((keysP s.2).filter (inB x)).length = (overS s.1 s.2 x 33).length := by
  refine List.Perm.length_eq ?_
  refine (List.perm_ext_iff_of_nodup (((keysP_perm s.2).nodup_iff.2 T.nd).filter _) (nodup_of_lt (over_sorted _ _ _ _))).2 fun q => ?_
  rw [List.mem_filter, (keysP_perm s.2).mem_iff, over_mem T x q, key_iff]
theorem within_count (m : List (Pfx × Int)) (is : Pfx → Bool) : ((keysP m).filter is).length = (sortP ((m.map (·.1)).filter is)).length := by
  refine List.Perm.length_eq ?_
  exact (((keysP_perm m).filter is).trans (List.mergeSort_perm _ _).symm)
/-- What Longest tells is the last of them. -/
theorem long_none {u : Nat → Int} {m : List (Pfx × Int)} {x : Int} (h : overS u m x 33 = []) : longR u m x = (⟨0, 0⟩, 0, false) := by
  unfold longR
  rw [h]
  rfl
theorem long_some {u : Nat → Int} {m : List (Pfx × Int)} {x : Int} (h : overS u m x 33 ≠ []) : ∃ p z, (overS u m x 33).getLast? = some p ∧ aget m p = some z ∧ longR u m x = (p, z, true) := by
  have h1 : (overS u m x 33).getLast? = some ((overS u m x 33).getLast h) := List.getLast?_eq_some_getLast h
  obtain ⟨z, hz⟩ := overS_mem u m x 33 _ (List.getLast_mem h)
  refine ⟨_, z, h1, hz, ?_⟩
  unfold longR
  rw [h1]
  show (_, (aget m _).getD 0, true) = _
  rw [hz]
  rfl
/-- It is the longest. -/
theorem long_most {u : Nat → Int} {m : List (Pfx × Int)} {x : Int} {p q : Pfx} (h : (overS u m x 33).getLast? = some p) (hq : q ∈ overS u m x 33) : q.b ≤ p.b := by
  have hs := over_sorted u m x 33
  generalize overS u m x 33 = L at *
  obtain ⟨i, hi⟩ := List.getElem?_of_mem hq
  rw [List.getLast?_eq_getElem?] at h
  have hil := (List.getElem?_eq_some_iff.1 hi)
  have hjl := (List.getElem?_eq_some_iff.1 h)
  rcases Nat.lt_or_ge i (L.length - 1) with h1 | h1
  · have := List.pairwise_iff_getElem.1 hs i (L.length - 1) hil.1 hjl.1 h1
    rw [hil.2, hjl.2] at this
    omega
  · have h2 := hil.1
    have : i = L.length - 1 := by omega
    subst this
    rw [h] at hi
    cases hi
    omega
theorem filter_take_succ {α : Type} (l : List α) (p : α → Bool) (k : Nat) (h : k < l.length) : ((l.take (k + 1)).filter p).length = ((l.take k).filter p).length + (if p l[k] then 1 else 0) := by
  rw [List.take_add_one, List.getElem?_eq_getElem h, List.filter_append, List.length_append]
  cases hp : p l[k] <;> simp [hp]
end Go.Proofs.Ytaecjmjdhbjbkaa.Ab

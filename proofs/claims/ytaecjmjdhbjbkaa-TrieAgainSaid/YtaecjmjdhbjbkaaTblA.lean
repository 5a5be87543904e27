/-
  Tables of numbers by prefixes: New, Len, Put.
-/
import Derived.Test.YtaecjmjdhbjbkaaAbsTab
import Derived.Test.YtaecjmjdhbjbkaaPfxKey
namespace Go.Proofs.Ytaecjmjdhbjbkaa.Ab
set_option linter.unusedVariables false
set_option maxRecDepth 100000
open Go.RowKit
set_option linter.unusedSimpArgs false
attribute [local irreducible] AWp AOps AQ AYield AEff ACall AWk AAny AAt AThen AIn APost NoPanic

def usedA (u : Nat → Int) : List AVal := (List.range 33).map fun b => intA (u b)
def tblB (m : Nat) (u : Nat → Int) : ABlk := .var (.mp m :: usedA u)
def mapB (l : List (Pfx × Int)) : ABlk := .map (ents pfxA intA l)
theorem new_A : ACall Try.prog 23 [] [] (fun c h => c = .ptr 3 0 ∧ h = [(3, tblB 902 fun _ => 0), (902, mapB [])]) := by
  refine ACall_of tabOk Try.func23 rfl Try.ntmps23 (congrArg Array.toList Try.results23) (by kernel_rfl) rfl ?_
  repeat (first
    | refine A_seq ?_
    | refine A_block ?_
    | refine R_list ?_
    | refine R_quiet rfl mixed (by kernel_rfl) ?_
    | ((first | apply O_y rfl rfl rfl | apply Q_y rfl rfl rfl); (first | exact Y_move rfl rfl | exact Y_assign rfl rfl | exact R_index tabOk rfl rfl rfl rfl rfl rfl (by omega) | exact R_fieldi tabOk rfl rfl rfl | exact R_loadi tabOk rfl rfl rfl rfl rfl rfl rfl | exact R_len tabOk rfl rfl rfl | exact R_load tabOk rfl rfl rfl rfl rfl rfl rfl rfl rfl | exact R_field tabOk rfl rfl rfl rfl | exact Y_add rfl rfl rfl (by first | exact wrap_succ (by omega) | exact wrap_pred (by omega) (by omega) | exact wrap_i64 ⟨by omega, by omega⟩ | rfl) | exact Y_sub rfl rfl rfl (by first | exact wrap_succ (by omega) | exact wrap_pred (by omega) (by omega) | exact wrap_i64 ⟨by omega, by omega⟩ | rfl) | exact R_cmpT rfl rfl rfl rfl (by first | (simp only [decide_eq_true_eq, beq_iff_eq, bne_iff_ne, ne_eq]; done) | (simp only [decide_eq_true_eq, beq_iff_eq, bne_iff_ne, ne_eq]; omega)) | exact R_cmpF rfl rfl rfl rfl (by first | (simp only [decide_eq_false_iff_not, beq_eq_false_iff_ne, bne_eq_false_iff_eq, ne_eq]; done) | (simp only [decide_eq_false_iff_not, beq_eq_false_iff_ne, bne_eq_false_iff_eq, ne_eq]; omega)) | exact Y_ibin rfl rfl rfl rfl | exact Y_extract rfl rfl rfl | exact R_lenr tabOk rfl rfl rfl rfl | exact R_lenn tabOk rfl rfl rfl | exact R_indexr tabOk rfl rfl rfl rfl rfl rfl rfl (by omega) | exact R_fielde tabOk rfl rfl rfl rfl | exact R_loade tabOk rfl rfl rfl rfl rfl rfl rfl rfl rfl | exact Y_not rfl rfl | exact Y_pick_t rfl rfl (by first | rfl | assumption) rfl | exact Y_pick_f rfl rfl (by first | rfl | assumption) rfl | exact Y_pick_b rfl rfl rfl rfl | exact R_build tabOk rfl rfl rfl rfl rfl rfl | fail))
    | refine O_nil ?_
    | refine Q_nil ?_
    | refine X_then_normal ?_
    | refine X_in_normal ?_
    | refine O_box rfl rfl rfl rfl rfl rfl rfl ?_
    | refine O_alloc tabOk rfl rfl rfl rfl rfl rfl ?_
    | refine O_store tabOk rfl rfl rfl rfl rfl rfl rfl rfl rfl rfl rfl ?_
    | refine O_slice tabOk rfl rfl rfl rfl rfl rfl rfl rfl rfl rfl rfl ?_
    | refine A_condt rfl (by first | rfl | assumption | (first | (simp only [decide_eq_true_eq]; done) | (simp only [decide_eq_true_eq]; omega))) ?_
    | refine A_condf rfl (by first | rfl | assumption | (first | (simp only [decide_eq_false_iff_not]; done) | (simp only [decide_eq_false_iff_not]; omega))) ?_
    | refine A_skip ?_
    | refine A_exit ?_
    | refine A_ret ?_
    | refine X_then_exit ?_
    | refine X_then_ret ?_
    | refine X_in_same ?_
    | refine X_in_other rfl ?_
    | refine X_in_ret ?_
    | refine O_s rfl rfl rfl ?_
    | refine Q_s rfl rfl rfl ?_
    | refine O_sn rfl rfl ?_
    | (refine O_makeMap 902 rfl rfl rfl rfl rfl ?_))
  exact X_retW AWk.refl rfl (h2 := [(3, tblB 902 fun _ => 0), (902, mapB [])]) ⟨rfl, rfl, trivial⟩ ⟨rfl, rfl⟩
theorem len_A (u : Nat → Int) (l : List (Pfx × Int)) : ACall Try.prog 27 [.ptr 1000 0] [(1000, tblB 1001 u), (1001, mapB l)] (fun c h => c = intA (l.length : Int) ∧ h = [(1000, tblB 1001 u), (1001, mapB l)]) := by
  refine ACall_of tabOk Try.func27 rfl Try.ntmps27 (congrArg Array.toList Try.results27) (by kernel_rfl) rfl ?_
  repeat (first
    | refine A_seq ?_
    | refine A_block ?_
    | refine R_list ?_
    | refine R_quiet rfl mixed (by kernel_rfl) ?_
    | ((first | apply O_y rfl rfl rfl | apply Q_y rfl rfl rfl); (first | exact Y_move rfl rfl | exact Y_assign rfl rfl | exact R_index tabOk rfl rfl rfl rfl rfl rfl (by omega) | exact R_fieldi tabOk rfl rfl rfl | exact R_loadi tabOk rfl rfl rfl rfl rfl rfl rfl | exact R_len tabOk rfl rfl rfl | exact R_load tabOk rfl rfl rfl rfl rfl rfl rfl rfl rfl | exact R_field tabOk rfl rfl rfl rfl | exact Y_add rfl rfl rfl (by first | exact wrap_succ (by omega) | exact wrap_pred (by omega) (by omega) | exact wrap_i64 ⟨by omega, by omega⟩ | rfl) | exact Y_sub rfl rfl rfl (by first | exact wrap_succ (by omega) | exact wrap_pred (by omega) (by omega) | exact wrap_i64 ⟨by omega, by omega⟩ | rfl) | exact R_cmpT rfl rfl rfl rfl (by first | (simp only [decide_eq_true_eq, beq_iff_eq, bne_iff_ne, ne_eq]; done) | (simp only [decide_eq_true_eq, beq_iff_eq, bne_iff_ne, ne_eq]; omega)) | exact R_cmpF rfl rfl rfl rfl (by first | (simp only [decide_eq_false_iff_not, beq_eq_false_iff_ne, bne_eq_false_iff_eq, ne_eq]; done) | (simp only [decide_eq_false_iff_not, beq_eq_false_iff_ne, bne_eq_false_iff_eq, ne_eq]; omega)) | exact Y_ibin rfl rfl rfl rfl | exact Y_extract rfl rfl rfl | exact R_lenr tabOk rfl rfl rfl rfl | exact R_lenn tabOk rfl rfl rfl | exact R_indexr tabOk rfl rfl rfl rfl rfl rfl rfl (by omega) | exact R_fielde tabOk rfl rfl rfl rfl | exact R_loade tabOk rfl rfl rfl rfl rfl rfl rfl rfl rfl | exact Y_not rfl rfl | exact Y_pick_t rfl rfl (by first | rfl | assumption) rfl | exact Y_pick_f rfl rfl (by first | rfl | assumption) rfl | exact Y_pick_b rfl rfl rfl rfl | exact R_build tabOk rfl rfl rfl rfl rfl rfl | (first | exact R_pnil tabOk rfl rfl rfl rfl rfl | exact Y_nilCheck rfl rfl rfl | exact R_lenm tabOk rfl rfl rfl rfl rfl)))
    | refine O_nil ?_
    | refine Q_nil ?_
    | refine X_then_normal ?_
    | refine X_in_normal ?_
    | refine O_box rfl rfl rfl rfl rfl rfl rfl ?_
    | refine O_alloc tabOk rfl rfl rfl rfl rfl rfl ?_
    | refine O_store tabOk rfl rfl rfl rfl rfl rfl rfl rfl rfl rfl rfl ?_
    | refine O_slice tabOk rfl rfl rfl rfl rfl rfl rfl rfl rfl rfl rfl ?_
    | refine A_condt rfl (by first | rfl | assumption | (first | (simp only [decide_eq_true_eq]; done) | (simp only [decide_eq_true_eq]; omega))) ?_
    | refine A_condf rfl (by first | rfl | assumption | (first | (simp only [decide_eq_false_iff_not]; done) | (simp only [decide_eq_false_iff_not]; omega))) ?_
    | refine A_skip ?_
    | refine A_exit ?_
    | refine A_ret ?_
    | refine X_then_exit ?_
    | refine X_then_ret ?_
    | refine X_in_same ?_
    | refine X_in_other rfl ?_
    | refine X_in_ret ?_
    | refine O_s rfl rfl rfl ?_
    | refine Q_s rfl rfl rfl ?_
    | refine O_sn rfl rfl ?_
    | fail)
  rw [show (ents pfxA intA l).length = l.length from List.length_map _]
  exact X_retW AWk.refl rfl (h2 := [(1000, tblB 1001 u), (1001, mapB l)]) ⟨rfl, rfl, trivial⟩ ⟨rfl, rfl⟩
theorem var_eq {id : Nat} {cs cs' : List AVal} {h : Heap} (hc : cs = cs') (hl : look h id = some (.var cs)) : look h id = some (.var cs') := by subst hc; exact hl
def bump (u : Nat → Int) (b : Nat) (d : Int) : Nat → Int := fun j => if j = b then u j + d else u j
theorem used_get (m : Nat) (u : Nat → Int) (b : Nat) (hb : b < 33) : win (.mp m :: usedA u) (0 + 1 + b * 1) 1 = [intA (u b)] := by
  have h1 : (AVal.mp m :: usedA u)[1 + b]? = some (intA (u b)) := by
    rw [show 1 + b = b + 1 by omega, List.getElem?_cons_succ]
    simp [usedA, List.getElem?_map, List.getElem?_range hb]
  have h2 : 1 + b < (AVal.mp m :: usedA u).length := (List.getElem?_eq_some_iff.1 h1).1
  unfold win
  rw [show 0 + 1 + b * 1 = 1 + b by omega, List.drop_eq_getElem_cons h2]
  have h3 := (List.getElem?_eq_some_iff.1 h1).2
  rw [List.take_succ_cons, List.take_zero, h3]
theorem used_set (m : Nat) (u : Nat → Int) (b : Nat) (d : Int) (hb : b < 33) : setW (.mp m :: usedA u) (0 + 1 + b * 1) [intA (u b + d)] = .mp m :: usedA (bump u b d) := by
  apply List.ext_getElem?
  intro i
  rw [setW_get (by simp [usedA]; omega)]
  cases i with
  | zero => simp
  | succ i =>
    simp only [List.getElem?_cons_succ, List.length_cons, List.length_nil, usedA, List.getElem?_map]
    by_cases hi : i < 33
    · rw [List.getElem?_range hi]
      by_cases he : i = b
      · subst he
        rw [if_pos (by omega)]
        simp [bump]
        rw [show i + 1 - (1 + i) = 0 by omega]
        rfl
      · rw [if_neg (by omega)]
        simp [bump, he]
    · have h0 : (List.range 33)[i]? = none := by simp; omega
      rw [h0, if_neg (by omega)]
      rfl
theorem zeroInt (W : World) : (zeroValue 3).run Try.prog W = .ok (.int .i64 0) W := by
  have h : tlook tab 3 = some _ := rfl
  obtain ⟨z, h1, h2, i, h3, h4, _⟩ := (tabOk _ _ h).zero W
  have h5 : (Try.prog.info? 3).bind (·.zero) = some (.int .i64 0) := by kernel_rfl
  rw [h3] at h5
  simp only [Option.bind_some] at h5
  rw [h4] at h5
  cases h5
  exact h1
theorem kill_map (id : Nat) (l : List (Pfx × Int)) : some (killB id (mapB l)) = some (mapB l) := by
  show some (ABlk.map ((l.map fun p => (pfxA p.1, intA p.2)).map fun p => (killV id p.1, killV id p.2))) = _
  rw [List.map_map]
  rfl
set_option maxHeartbeats 2000000 in
theorem put_A (u : Nat → Int) (l : List (Pfx × Int)) (p : Pfx) (v : Int) (hp : p.ok) (hn : (l.map (·.1)).Nodup) (hu : ∀ j, 0 ≤ u j ∧ u j ≤ 1000000000) :
    ACall Try.prog 24 [.ptr 1000 0, pfxA p, intA v] [(1000, tblB 1001 u), (1001, mapB l)] (fun c h => c = intA (chk p) ∧ h = if chk p = 0 then [(1000, tblB 1001 (if (aget l p).isSome then u else bump u p.b.toNat 1)), (1001, mapB (Go.Proofs.Ytaecjmjdhbjbkaa.aput l p v))] else [(1000, tblB 1001 u), (1001, mapB l)]) := by
  refine ACall_of tabOk Try.func24 rfl Try.ntmps24 (congrArg Array.toList Try.results24) (by kernel_rfl) rfl ?_
  have hck := check_A p hp
  by_cases hc : chk p = 0
  · rw [hc] at hck ⊢
    simp only [if_true]
    have hg := (chk_eq p).1 hc
    obtain ⟨a, b⟩ := p
    obtain ⟨B, rfl⟩ : ∃ B : Nat, b = (B : Int) := ⟨b.toNat, by have := hg.1; simp at this; omega⟩
    have hB : B < 33 := by have := hg.2.1; simp at this; omega
    have huB := hu B
    refine A_seq ?_
    refine R_list ?_
    refine O_box rfl rfl rfl rfl rfl rfl rfl ?_
    refine O_weaken (Wk_sel (e1 := [(0, .ptr 1000 0), (2, intA v), (4, .ptr 4 0)]) (h1 := [(4, .var [.d (.sc (.int .u32 a)), .d (.sc (.int .i64 (B : Int)))]), (1000, tblB 1001 u), (1001, mapB l)]) ⟨rfl, rfl, rfl, trivial⟩ ⟨rfl, rfl, kill_map 4 l, trivial⟩) ?_
    cases hag : aget l ⟨a, (B : Int)⟩ with
    | none =>
      repeat (first
        | refine A_seq ?_
        | refine A_block ?_
        | refine R_list ?_
        | refine R_quiet rfl mixed (by kernel_rfl) ?_
        | ((first | apply O_y rfl rfl rfl | apply Q_y rfl rfl rfl); (first | exact Y_move rfl rfl | exact Y_assign rfl rfl | exact R_index tabOk rfl rfl rfl rfl rfl rfl (by omega) | exact R_fieldi tabOk rfl rfl rfl | exact R_loadi tabOk rfl rfl rfl rfl rfl rfl rfl | exact R_len tabOk rfl rfl rfl | exact R_load tabOk rfl rfl rfl rfl rfl rfl rfl rfl rfl | exact R_field tabOk rfl rfl rfl rfl | exact Y_add rfl rfl rfl (by first | exact wrap_succ (by omega) | exact wrap_pred (by omega) (by omega) | exact wrap_i64 ⟨by omega, by omega⟩ | rfl) | exact Y_sub rfl rfl rfl (by first | exact wrap_succ (by omega) | exact wrap_pred (by omega) (by omega) | exact wrap_i64 ⟨by omega, by omega⟩ | rfl) | exact R_cmpT rfl rfl rfl rfl (by first | (simp only [decide_eq_true_eq, beq_iff_eq, bne_iff_ne, ne_eq]; done) | (simp only [decide_eq_true_eq, beq_iff_eq, bne_iff_ne, ne_eq]; omega)) | exact R_cmpF rfl rfl rfl rfl (by first | (simp only [decide_eq_false_iff_not, beq_eq_false_iff_ne, bne_eq_false_iff_eq, ne_eq]; done) | (simp only [decide_eq_false_iff_not, beq_eq_false_iff_ne, bne_eq_false_iff_eq, ne_eq]; omega)) | exact Y_ibin rfl rfl rfl rfl | exact Y_extract rfl rfl rfl | exact R_lenr tabOk rfl rfl rfl rfl | exact R_lenn tabOk rfl rfl rfl | exact R_indexr tabOk rfl rfl rfl rfl rfl rfl rfl (by omega) | exact R_fielde tabOk rfl rfl rfl rfl | exact R_loade tabOk rfl rfl rfl rfl rfl rfl rfl rfl rfl | exact Y_not rfl rfl | exact Y_pick_t rfl rfl (by first | rfl | assumption) rfl | exact Y_pick_f rfl rfl (by first | rfl | assumption) rfl | exact Y_pick_b rfl rfl rfl rfl | exact R_build tabOk rfl rfl rfl rfl rfl rfl | (first | exact R_pnil tabOk rfl rfl rfl rfl rfl | exact Y_nilCheck rfl rfl rfl | exact R_lkOut pfxKey pfxA_val zeroInt rfl trivial (fun _ _ => trivial) hn hag tabOk rfl rfl rfl rfl rfl rfl)))
        | refine O_nil ?_
        | refine Q_nil ?_
        | refine X_then_normal ?_
        | refine X_in_normal ?_
        | refine O_box rfl rfl rfl rfl rfl rfl rfl ?_
        | refine O_alloc tabOk rfl rfl rfl rfl rfl rfl ?_
        | refine O_store tabOk rfl rfl rfl rfl rfl rfl rfl rfl rfl rfl rfl ?_
        | refine O_slice tabOk rfl rfl rfl rfl rfl rfl rfl rfl rfl rfl rfl ?_
        | refine A_condt rfl (by first | rfl | assumption | (first | (simp only [decide_eq_true_eq]; done) | (simp only [decide_eq_true_eq]; omega))) ?_
        | refine A_condf rfl (by first | rfl | assumption | (first | (simp only [decide_eq_false_iff_not]; done) | (simp only [decide_eq_false_iff_not]; omega))) ?_
        | refine A_skip ?_
        | refine A_exit ?_
        | refine A_ret ?_
        | refine X_then_exit ?_
        | refine X_then_ret ?_
        | refine X_in_same ?_
        | refine X_in_other rfl ?_
        | refine X_in_ret ?_
        | refine O_s rfl rfl rfl ?_
        | refine Q_s rfl rfl rfl ?_
        | refine O_sn rfl rfl ?_
        | refine O_c rfl rfl rfl rfl rfl hck (fun _ => rfl) ?_)
      refine N_begin [1000] mixed ?_
      repeat (first
        | ((first
          | apply N_takeN (i := 0) rfl rfl (by kernel_rfl) (by decide +kernel) (by decide +kernel) (by repeat (first | exact np_post | apply np_then | apply np_in)) rfl rfl rfl
          | apply N_takeN (i := 1) rfl rfl (by kernel_rfl) (by decide +kernel) (by decide +kernel) (by repeat (first | exact np_post | apply np_then | apply np_in)) rfl rfl rfl
          | apply N_takeN (i := 2) rfl rfl (by kernel_rfl) (by decide +kernel) (by decide +kernel) (by repeat (first | exact np_post | apply np_then | apply np_in)) rfl rfl rfl
          | apply N_takeN (i := 3) rfl rfl (by kernel_rfl) (by decide +kernel) (by decide +kernel) (by repeat (first | exact np_post | apply np_then | apply np_in)) rfl rfl rfl
          | apply N_takeN (i := 4) rfl rfl (by kernel_rfl) (by decide +kernel) (by decide +kernel) (by repeat (first | exact np_post | apply np_then | apply np_in)) rfl rfl rfl
          | apply N_takeN (i := 5) rfl rfl (by kernel_rfl) (by decide +kernel) (by decide +kernel) (by repeat (first | exact np_post | apply np_then | apply np_in)) rfl rfl rfl
          | apply N_takeN (i := 6) rfl rfl (by kernel_rfl) (by decide +kernel) (by decide +kernel) (by repeat (first | exact np_post | apply np_then | apply np_in)) rfl rfl rfl
          | apply N_takeN (i := 7) rfl rfl (by kernel_rfl) (by decide +kernel) (by decide +kernel) (by repeat (first | exact np_post | apply np_then | apply np_in)) rfl rfl rfl
          | apply N_takeN (i := 8) rfl rfl (by kernel_rfl) (by decide +kernel) (by decide +kernel) (by repeat (first | exact np_post | apply np_then | apply np_in)) rfl rfl rfl
          | apply N_takeN (i := 9) rfl rfl (by kernel_rfl) (by decide +kernel) (by decide +kernel) (by repeat (first | exact np_post | apply np_then | apply np_in)) rfl rfl rfl
          | apply N_takeN (i := 10) rfl rfl (by kernel_rfl) (by decide +kernel) (by decide +kernel) (by repeat (first | exact np_post | apply np_then | apply np_in)) rfl rfl rfl
          | apply N_takeN (i := 11) rfl rfl (by kernel_rfl) (by decide +kernel) (by decide +kernel) (by repeat (first | exact np_post | apply np_then | apply np_in)) rfl rfl rfl
          | apply N_takeN (i := 12) rfl rfl (by kernel_rfl) (by decide +kernel) (by decide +kernel) (by repeat (first | exact np_post | apply np_then | apply np_in)) rfl rfl rfl
          ); (first | exact Y_move rfl rfl | exact Y_assign rfl rfl | exact R_index tabOk rfl rfl rfl rfl rfl rfl (by omega) | exact R_fieldi tabOk rfl rfl rfl | exact R_loadi tabOk rfl rfl rfl rfl rfl rfl rfl | exact R_len tabOk rfl rfl rfl | exact R_load tabOk rfl rfl rfl rfl rfl rfl rfl rfl rfl | exact R_field tabOk rfl rfl rfl rfl | exact Y_add rfl rfl rfl (by first | exact wrap_succ (by omega) | exact wrap_pred (by omega) (by omega) | exact wrap_i64 ⟨by omega, by omega⟩ | rfl) | exact Y_sub rfl rfl rfl (by first | exact wrap_succ (by omega) | exact wrap_pred (by omega) (by omega) | exact wrap_i64 ⟨by omega, by omega⟩ | rfl) | exact R_cmpT rfl rfl rfl rfl (by first | (simp only [decide_eq_true_eq, beq_iff_eq, bne_iff_ne, ne_eq]; done) | (simp only [decide_eq_true_eq, beq_iff_eq, bne_iff_ne, ne_eq]; omega)) | exact R_cmpF rfl rfl rfl rfl (by first | (simp only [decide_eq_false_iff_not, beq_eq_false_iff_ne, bne_eq_false_iff_eq, ne_eq]; done) | (simp only [decide_eq_false_iff_not, beq_eq_false_iff_ne, bne_eq_false_iff_eq, ne_eq]; omega)) | exact Y_ibin rfl rfl rfl rfl | exact Y_extract rfl rfl rfl | exact R_lenr tabOk rfl rfl rfl rfl | exact R_lenn tabOk rfl rfl rfl | exact R_indexr tabOk rfl rfl rfl rfl rfl rfl rfl (by omega) | exact R_fielde tabOk rfl rfl rfl rfl | exact R_loade tabOk rfl rfl rfl rfl rfl rfl rfl rfl rfl | exact Y_not rfl rfl | exact Y_pick_t rfl rfl (by first | rfl | assumption) rfl | exact Y_pick_f rfl rfl (by first | rfl | assumption) rfl | exact Y_pick_b rfl rfl rfl rfl | exact R_build tabOk rfl rfl rfl rfl rfl rfl | (first | exact Y_nilCheck rfl rfl rfl | exact R_ixp tabOk rfl rfl rfl rfl rfl rfl rfl hB | exact R_load tabOk rfl rfl rfl rfl rfl rfl (used_get _ _ _ hB) rfl rfl)))
        | (apply N_takeL (i := 0) rfl rfl (by kernel_rfl) (by decide +kernel) (by decide +kernel) (by repeat (first | exact np_post | apply np_then | apply np_in)) rfl rfl rfl; (first | exact R_loadi tabOk rfl rfl rfl rfl rfl rfl rfl | exact R_len tabOk rfl rfl rfl | exact R_load tabOk rfl rfl rfl rfl rfl rfl rfl rfl rfl | exact R_lenr tabOk rfl rfl rfl rfl | exact R_lenn tabOk rfl rfl rfl | exact R_loade tabOk rfl rfl rfl rfl rfl rfl rfl rfl rfl | (first | exact Y_nilCheck rfl rfl rfl | exact R_ixp tabOk rfl rfl rfl rfl rfl rfl rfl hB | exact R_load tabOk rfl rfl rfl rfl rfl rfl (used_get _ _ _ hB) rfl rfl)))
        | (apply N_takeL (i := 1) rfl rfl (by kernel_rfl) (by decide +kernel) (by decide +kernel) (by repeat (first | exact np_post | apply np_then | apply np_in)) rfl rfl rfl; (first | exact R_loadi tabOk rfl rfl rfl rfl rfl rfl rfl | exact R_len tabOk rfl rfl rfl | exact R_load tabOk rfl rfl rfl rfl rfl rfl rfl rfl rfl | exact R_lenr tabOk rfl rfl rfl rfl | exact R_lenn tabOk rfl rfl rfl | exact R_loade tabOk rfl rfl rfl rfl rfl rfl rfl rfl rfl | (first | exact Y_nilCheck rfl rfl rfl | exact R_ixp tabOk rfl rfl rfl rfl rfl rfl rfl hB | exact R_load tabOk rfl rfl rfl rfl rfl rfl (used_get _ _ _ hB) rfl rfl)))
        | (apply N_takeL (i := 2) rfl rfl (by kernel_rfl) (by decide +kernel) (by decide +kernel) (by repeat (first | exact np_post | apply np_then | apply np_in)) rfl rfl rfl; (first | exact R_loadi tabOk rfl rfl rfl rfl rfl rfl rfl | exact R_len tabOk rfl rfl rfl | exact R_load tabOk rfl rfl rfl rfl rfl rfl rfl rfl rfl | exact R_lenr tabOk rfl rfl rfl rfl | exact R_lenn tabOk rfl rfl rfl | exact R_loade tabOk rfl rfl rfl rfl rfl rfl rfl rfl rfl | (first | exact Y_nilCheck rfl rfl rfl | exact R_ixp tabOk rfl rfl rfl rfl rfl rfl rfl hB | exact R_load tabOk rfl rfl rfl rfl rfl rfl (used_get _ _ _ hB) rfl rfl)))
        | (apply N_takeL (i := 3) rfl rfl (by kernel_rfl) (by decide +kernel) (by decide +kernel) (by repeat (first | exact np_post | apply np_then | apply np_in)) rfl rfl rfl; (first | exact R_loadi tabOk rfl rfl rfl rfl rfl rfl rfl | exact R_len tabOk rfl rfl rfl | exact R_load tabOk rfl rfl rfl rfl rfl rfl rfl rfl rfl | exact R_lenr tabOk rfl rfl rfl rfl | exact R_lenn tabOk rfl rfl rfl | exact R_loade tabOk rfl rfl rfl rfl rfl rfl rfl rfl rfl | (first | exact Y_nilCheck rfl rfl rfl | exact R_ixp tabOk rfl rfl rfl rfl rfl rfl rfl hB | exact R_load tabOk rfl rfl rfl rfl rfl rfl (used_get _ _ _ hB) rfl rfl)))
        | (apply N_takeL (i := 4) rfl rfl (by kernel_rfl) (by decide +kernel) (by decide +kernel) (by repeat (first | exact np_post | apply np_then | apply np_in)) rfl rfl rfl; (first | exact R_loadi tabOk rfl rfl rfl rfl rfl rfl rfl | exact R_len tabOk rfl rfl rfl | exact R_load tabOk rfl rfl rfl rfl rfl rfl rfl rfl rfl | exact R_lenr tabOk rfl rfl rfl rfl | exact R_lenn tabOk rfl rfl rfl | exact R_loade tabOk rfl rfl rfl rfl rfl rfl rfl rfl rfl | (first | exact Y_nilCheck rfl rfl rfl | exact R_ixp tabOk rfl rfl rfl rfl rfl rfl rfl hB | exact R_load tabOk rfl rfl rfl rfl rfl rfl (used_get _ _ _ hB) rfl rfl)))
        | (apply N_takeL (i := 5) rfl rfl (by kernel_rfl) (by decide +kernel) (by decide +kernel) (by repeat (first | exact np_post | apply np_then | apply np_in)) rfl rfl rfl; (first | exact R_loadi tabOk rfl rfl rfl rfl rfl rfl rfl | exact R_len tabOk rfl rfl rfl | exact R_load tabOk rfl rfl rfl rfl rfl rfl rfl rfl rfl | exact R_lenr tabOk rfl rfl rfl rfl | exact R_lenn tabOk rfl rfl rfl | exact R_loade tabOk rfl rfl rfl rfl rfl rfl rfl rfl rfl | (first | exact Y_nilCheck rfl rfl rfl | exact R_ixp tabOk rfl rfl rfl rfl rfl rfl rfl hB | exact R_load tabOk rfl rfl rfl rfl rfl rfl (used_get _ _ _ hB) rfl rfl)))
        | (apply N_takeL (i := 6) rfl rfl (by kernel_rfl) (by decide +kernel) (by decide +kernel) (by repeat (first | exact np_post | apply np_then | apply np_in)) rfl rfl rfl; (first | exact R_loadi tabOk rfl rfl rfl rfl rfl rfl rfl | exact R_len tabOk rfl rfl rfl | exact R_load tabOk rfl rfl rfl rfl rfl rfl rfl rfl rfl | exact R_lenr tabOk rfl rfl rfl rfl | exact R_lenn tabOk rfl rfl rfl | exact R_loade tabOk rfl rfl rfl rfl rfl rfl rfl rfl rfl | (first | exact Y_nilCheck rfl rfl rfl | exact R_ixp tabOk rfl rfl rfl rfl rfl rfl rfl hB | exact R_load tabOk rfl rfl rfl rfl rfl rfl (used_get _ _ _ hB) rfl rfl)))
        | (apply N_takeL (i := 7) rfl rfl (by kernel_rfl) (by decide +kernel) (by decide +kernel) (by repeat (first | exact np_post | apply np_then | apply np_in)) rfl rfl rfl; (first | exact R_loadi tabOk rfl rfl rfl rfl rfl rfl rfl | exact R_len tabOk rfl rfl rfl | exact R_load tabOk rfl rfl rfl rfl rfl rfl rfl rfl rfl | exact R_lenr tabOk rfl rfl rfl rfl | exact R_lenn tabOk rfl rfl rfl | exact R_loade tabOk rfl rfl rfl rfl rfl rfl rfl rfl rfl | (first | exact Y_nilCheck rfl rfl rfl | exact R_ixp tabOk rfl rfl rfl rfl rfl rfl rfl hB | exact R_load tabOk rfl rfl rfl rfl rfl rfl (used_get _ _ _ hB) rfl rfl)))
        | (apply N_takeL (i := 8) rfl rfl (by kernel_rfl) (by decide +kernel) (by decide +kernel) (by repeat (first | exact np_post | apply np_then | apply np_in)) rfl rfl rfl; (first | exact R_loadi tabOk rfl rfl rfl rfl rfl rfl rfl | exact R_len tabOk rfl rfl rfl | exact R_load tabOk rfl rfl rfl rfl rfl rfl rfl rfl rfl | exact R_lenr tabOk rfl rfl rfl rfl | exact R_lenn tabOk rfl rfl rfl | exact R_loade tabOk rfl rfl rfl rfl rfl rfl rfl rfl rfl | (first | exact Y_nilCheck rfl rfl rfl | exact R_ixp tabOk rfl rfl rfl rfl rfl rfl rfl hB | exact R_load tabOk rfl rfl rfl rfl rfl rfl (used_get _ _ _ hB) rfl rfl)))
        | (apply N_takeL (i := 9) rfl rfl (by kernel_rfl) (by decide +kernel) (by decide +kernel) (by repeat (first | exact np_post | apply np_then | apply np_in)) rfl rfl rfl; (first | exact R_loadi tabOk rfl rfl rfl rfl rfl rfl rfl | exact R_len tabOk rfl rfl rfl | exact R_load tabOk rfl rfl rfl rfl rfl rfl rfl rfl rfl | exact R_lenr tabOk rfl rfl rfl rfl | exact R_lenn tabOk rfl rfl rfl | exact R_loade tabOk rfl rfl rfl rfl rfl rfl rfl rfl rfl | (first | exact Y_nilCheck rfl rfl rfl | exact R_ixp tabOk rfl rfl rfl rfl rfl rfl rfl hB | exact R_load tabOk rfl rfl rfl rfl rfl rfl (used_get _ _ _ hB) rfl rfl)))
        | (apply N_takeL (i := 10) rfl rfl (by kernel_rfl) (by decide +kernel) (by decide +kernel) (by repeat (first | exact np_post | apply np_then | apply np_in)) rfl rfl rfl; (first | exact R_loadi tabOk rfl rfl rfl rfl rfl rfl rfl | exact R_len tabOk rfl rfl rfl | exact R_load tabOk rfl rfl rfl rfl rfl rfl rfl rfl rfl | exact R_lenr tabOk rfl rfl rfl rfl | exact R_lenn tabOk rfl rfl rfl | exact R_loade tabOk rfl rfl rfl rfl rfl rfl rfl rfl rfl | (first | exact Y_nilCheck rfl rfl rfl | exact R_ixp tabOk rfl rfl rfl rfl rfl rfl rfl hB | exact R_load tabOk rfl rfl rfl rfl rfl rfl (used_get _ _ _ hB) rfl rfl)))
        | (apply N_takeL (i := 11) rfl rfl (by kernel_rfl) (by decide +kernel) (by decide +kernel) (by repeat (first | exact np_post | apply np_then | apply np_in)) rfl rfl rfl; (first | exact R_loadi tabOk rfl rfl rfl rfl rfl rfl rfl | exact R_len tabOk rfl rfl rfl | exact R_load tabOk rfl rfl rfl rfl rfl rfl rfl rfl rfl | exact R_lenr tabOk rfl rfl rfl rfl | exact R_lenn tabOk rfl rfl rfl | exact R_loade tabOk rfl rfl rfl rfl rfl rfl rfl rfl rfl | (first | exact Y_nilCheck rfl rfl rfl | exact R_ixp tabOk rfl rfl rfl rfl rfl rfl rfl hB | exact R_load tabOk rfl rfl rfl rfl rfl rfl (used_get _ _ _ hB) rfl rfl)))
        | (apply N_takeL (i := 12) rfl rfl (by kernel_rfl) (by decide +kernel) (by decide +kernel) (by repeat (first | exact np_post | apply np_then | apply np_in)) rfl rfl rfl; (first | exact R_loadi tabOk rfl rfl rfl rfl rfl rfl rfl | exact R_len tabOk rfl rfl rfl | exact R_load tabOk rfl rfl rfl rfl rfl rfl rfl rfl rfl | exact R_lenr tabOk rfl rfl rfl rfl | exact R_lenn tabOk rfl rfl rfl | exact R_loade tabOk rfl rfl rfl rfl rfl rfl rfl rfl rfl | (first | exact Y_nilCheck rfl rfl rfl | exact R_ixp tabOk rfl rfl rfl rfl rfl rfl rfl hB | exact R_load tabOk rfl rfl rfl rfl rfl rfl (used_get _ _ _ hB) rfl rfl)))
        | refine N_one (j := 0) (by decide +kernel) ?_
        | refine N_one (j := 1) (by decide +kernel) ?_
        | refine N_one (j := 2) (by decide +kernel) ?_
        | refine N_one (j := 3) (by decide +kernel) ?_
        | refine N_one (j := 4) (by decide +kernel) ?_
        | refine N_one (j := 5) (by decide +kernel) ?_
        | refine N_one (j := 6) (by decide +kernel) ?_
        | refine N_one (j := 7) (by decide +kernel) ?_
        | refine N_one (j := 8) (by decide +kernel) ?_
        | refine N_one (j := 9) (by decide +kernel) ?_
        | refine N_one (j := 10) (by decide +kernel) ?_
        | refine N_one (j := 11) (by decide +kernel) ?_
        | refine N_one (j := 12) (by decide +kernel) ?_
        | refine T_alloc tabOk rfl rfl rfl rfl rfl rfl rfl ?_
        | refine T_store tabOk rfl rfl rfl rfl rfl rfl rfl rfl rfl rfl rfl rfl rfl ?_
        | refine T_box rfl rfl rfl rfl rfl rfl rfl rfl ?_
        | (apply T_yield rfl rfl rfl rfl; (first | exact Y_move rfl rfl | exact Y_assign rfl rfl | exact R_index tabOk rfl rfl rfl rfl rfl rfl (by omega) | exact R_fieldi tabOk rfl rfl rfl | exact R_loadi tabOk rfl rfl rfl rfl rfl rfl rfl | exact R_len tabOk rfl rfl rfl | exact R_load tabOk rfl rfl rfl rfl rfl rfl rfl rfl rfl | exact R_field tabOk rfl rfl rfl rfl | exact Y_add rfl rfl rfl (by first | exact wrap_succ (by omega) | exact wrap_pred (by omega) (by omega) | exact wrap_i64 ⟨by omega, by omega⟩ | rfl) | exact Y_sub rfl rfl rfl (by first | exact wrap_succ (by omega) | exact wrap_pred (by omega) (by omega) | exact wrap_i64 ⟨by omega, by omega⟩ | rfl) | exact R_cmpT rfl rfl rfl rfl (by first | (simp only [decide_eq_true_eq, beq_iff_eq, bne_iff_ne, ne_eq]; done) | (simp only [decide_eq_true_eq, beq_iff_eq, bne_iff_ne, ne_eq]; omega)) | exact R_cmpF rfl rfl rfl rfl (by first | (simp only [decide_eq_false_iff_not, beq_eq_false_iff_ne, bne_eq_false_iff_eq, ne_eq]; done) | (simp only [decide_eq_false_iff_not, beq_eq_false_iff_ne, bne_eq_false_iff_eq, ne_eq]; omega)) | exact Y_ibin rfl rfl rfl rfl | exact Y_extract rfl rfl rfl | exact R_lenr tabOk rfl rfl rfl rfl | exact R_lenn tabOk rfl rfl rfl | exact R_indexr tabOk rfl rfl rfl rfl rfl rfl rfl (by omega) | exact R_fielde tabOk rfl rfl rfl rfl | exact R_loade tabOk rfl rfl rfl rfl rfl rfl rfl rfl rfl | exact Y_not rfl rfl | exact Y_pick_t rfl rfl (by first | rfl | assumption) rfl | exact Y_pick_f rfl rfl (by first | rfl | assumption) rfl | exact Y_pick_b rfl rfl rfl rfl | exact R_build tabOk rfl rfl rfl rfl rfl rfl | (first | exact Y_nilCheck rfl rfl rfl | exact R_ixp tabOk rfl rfl rfl rfl rfl rfl rfl hB | exact R_load tabOk rfl rfl rfl rfl rfl rfl (used_get _ _ _ hB) rfl rfl)))
        | refine N_done (by decide +kernel) ?_
        | (refine T_storeS tabOk rfl rfl rfl rfl rfl rfl rfl rfl rfl rfl rfl rfl (by simp [usedA]; omega) ?_))
      repeat (first
        | refine A_seq ?_
        | refine A_block ?_
        | refine R_list ?_
        | refine R_quiet rfl mixed (by kernel_rfl) ?_
        | ((first | apply O_y rfl rfl rfl | apply Q_y rfl rfl rfl); (first | exact Y_move rfl rfl | exact Y_assign rfl rfl | exact R_index tabOk rfl rfl rfl rfl rfl rfl (by omega) | exact R_fieldi tabOk rfl rfl rfl | exact R_loadi tabOk rfl rfl rfl rfl rfl rfl rfl | exact R_len tabOk rfl rfl rfl | exact R_load tabOk rfl rfl rfl rfl rfl rfl rfl rfl rfl | exact R_field tabOk rfl rfl rfl rfl | exact Y_add rfl rfl rfl (by first | exact wrap_succ (by omega) | exact wrap_pred (by omega) (by omega) | exact wrap_i64 ⟨by omega, by omega⟩ | rfl) | exact Y_sub rfl rfl rfl (by first | exact wrap_succ (by omega) | exact wrap_pred (by omega) (by omega) | exact wrap_i64 ⟨by omega, by omega⟩ | rfl) | exact R_cmpT rfl rfl rfl rfl (by first | (simp only [decide_eq_true_eq, beq_iff_eq, bne_iff_ne, ne_eq]; done) | (simp only [decide_eq_true_eq, beq_iff_eq, bne_iff_ne, ne_eq]; omega)) | exact R_cmpF rfl rfl rfl rfl (by first | (simp only [decide_eq_false_iff_not, beq_eq_false_iff_ne, bne_eq_false_iff_eq, ne_eq]; done) | (simp only [decide_eq_false_iff_not, beq_eq_false_iff_ne, bne_eq_false_iff_eq, ne_eq]; omega)) | exact Y_ibin rfl rfl rfl rfl | exact Y_extract rfl rfl rfl | exact R_lenr tabOk rfl rfl rfl rfl | exact R_lenn tabOk rfl rfl rfl | exact R_indexr tabOk rfl rfl rfl rfl rfl rfl rfl (by omega) | exact R_fielde tabOk rfl rfl rfl rfl | exact R_loade tabOk rfl rfl rfl rfl rfl rfl rfl rfl rfl | exact Y_not rfl rfl | exact Y_pick_t rfl rfl (by first | rfl | assumption) rfl | exact Y_pick_f rfl rfl (by first | rfl | assumption) rfl | exact Y_pick_b rfl rfl rfl rfl | exact R_build tabOk rfl rfl rfl rfl rfl rfl | fail))
        | refine O_nil ?_
        | refine Q_nil ?_
        | refine X_then_normal ?_
        | refine X_in_normal ?_
        | refine O_box rfl rfl rfl rfl rfl rfl rfl ?_
        | refine O_alloc tabOk rfl rfl rfl rfl rfl rfl ?_
        | refine O_store tabOk rfl rfl rfl rfl rfl rfl rfl rfl rfl rfl rfl ?_
        | refine O_slice tabOk rfl rfl rfl rfl rfl rfl rfl rfl rfl rfl rfl ?_
        | refine A_condt rfl (by first | rfl | assumption | (first | (simp only [decide_eq_true_eq]; done) | (simp only [decide_eq_true_eq]; omega))) ?_
        | refine A_condf rfl (by first | rfl | assumption | (first | (simp only [decide_eq_false_iff_not]; done) | (simp only [decide_eq_false_iff_not]; omega))) ?_
        | refine A_skip ?_
        | refine A_exit ?_
        | refine A_ret ?_
        | refine X_then_exit ?_
        | refine X_then_ret ?_
        | refine X_in_same ?_
        | refine X_in_other rfl ?_
        | refine X_in_ret ?_
        | refine O_s rfl rfl rfl ?_
        | refine Q_s rfl rfl rfl ?_
        | refine O_sn rfl rfl ?_
        | fail)
      refine A_weaken (Wk_sel (e1 := [(0, .ptr 1000 0), (2, intA v), (4, .ptr 4 0)]) (h1 := [(4, .var [.d (.sc (.int .u32 a)), .d (.sc (.int .i64 (B : Int)))]), (1000, tblB 1001 (bump u B 1)), (1001, mapB l)]) ⟨rfl, rfl, rfl, trivial⟩ ⟨rfl, var_eq (used_set 1001 u B 1 hB) rfl, rfl, trivial⟩) ?_
      refine N_begin [1001] mixed ?_
      repeat (first
        | ((first
          | apply N_takeN (i := 0) rfl rfl (by kernel_rfl) (by decide +kernel) (by decide +kernel) (by repeat (first | exact np_post | apply np_then | apply np_in)) rfl rfl rfl
          | apply N_takeN (i := 1) rfl rfl (by kernel_rfl) (by decide +kernel) (by decide +kernel) (by repeat (first | exact np_post | apply np_then | apply np_in)) rfl rfl rfl
          | apply N_takeN (i := 2) rfl rfl (by kernel_rfl) (by decide +kernel) (by decide +kernel) (by repeat (first | exact np_post | apply np_then | apply np_in)) rfl rfl rfl
          | apply N_takeN (i := 3) rfl rfl (by kernel_rfl) (by decide +kernel) (by decide +kernel) (by repeat (first | exact np_post | apply np_then | apply np_in)) rfl rfl rfl
          | apply N_takeN (i := 4) rfl rfl (by kernel_rfl) (by decide +kernel) (by decide +kernel) (by repeat (first | exact np_post | apply np_then | apply np_in)) rfl rfl rfl
          | apply N_takeN (i := 5) rfl rfl (by kernel_rfl) (by decide +kernel) (by decide +kernel) (by repeat (first | exact np_post | apply np_then | apply np_in)) rfl rfl rfl
          | apply N_takeN (i := 6) rfl rfl (by kernel_rfl) (by decide +kernel) (by decide +kernel) (by repeat (first | exact np_post | apply np_then | apply np_in)) rfl rfl rfl
          | apply N_takeN (i := 7) rfl rfl (by kernel_rfl) (by decide +kernel) (by decide +kernel) (by repeat (first | exact np_post | apply np_then | apply np_in)) rfl rfl rfl
          | apply N_takeN (i := 8) rfl rfl (by kernel_rfl) (by decide +kernel) (by decide +kernel) (by repeat (first | exact np_post | apply np_then | apply np_in)) rfl rfl rfl
          | apply N_takeN (i := 9) rfl rfl (by kernel_rfl) (by decide +kernel) (by decide +kernel) (by repeat (first | exact np_post | apply np_then | apply np_in)) rfl rfl rfl
          | apply N_takeN (i := 10) rfl rfl (by kernel_rfl) (by decide +kernel) (by decide +kernel) (by repeat (first | exact np_post | apply np_then | apply np_in)) rfl rfl rfl
          | apply N_takeN (i := 11) rfl rfl (by kernel_rfl) (by decide +kernel) (by decide +kernel) (by repeat (first | exact np_post | apply np_then | apply np_in)) rfl rfl rfl
          | apply N_takeN (i := 12) rfl rfl (by kernel_rfl) (by decide +kernel) (by decide +kernel) (by repeat (first | exact np_post | apply np_then | apply np_in)) rfl rfl rfl
          ); (first | exact Y_move rfl rfl | exact Y_assign rfl rfl | exact R_index tabOk rfl rfl rfl rfl rfl rfl (by omega) | exact R_fieldi tabOk rfl rfl rfl | exact R_loadi tabOk rfl rfl rfl rfl rfl rfl rfl | exact R_len tabOk rfl rfl rfl | exact R_load tabOk rfl rfl rfl rfl rfl rfl rfl rfl rfl | exact R_field tabOk rfl rfl rfl rfl | exact Y_add rfl rfl rfl (by first | exact wrap_succ (by omega) | exact wrap_pred (by omega) (by omega) | exact wrap_i64 ⟨by omega, by omega⟩ | rfl) | exact Y_sub rfl rfl rfl (by first | exact wrap_succ (by omega) | exact wrap_pred (by omega) (by omega) | exact wrap_i64 ⟨by omega, by omega⟩ | rfl) | exact R_cmpT rfl rfl rfl rfl (by first | (simp only [decide_eq_true_eq, beq_iff_eq, bne_iff_ne, ne_eq]; done) | (simp only [decide_eq_true_eq, beq_iff_eq, bne_iff_ne, ne_eq]; omega)) | exact R_cmpF rfl rfl rfl rfl (by first | (simp only [decide_eq_false_iff_not, beq_eq_false_iff_ne, bne_eq_false_iff_eq, ne_eq]; done) | (simp only [decide_eq_false_iff_not, beq_eq_false_iff_ne, bne_eq_false_iff_eq, ne_eq]; omega)) | exact Y_ibin rfl rfl rfl rfl | exact Y_extract rfl rfl rfl | exact R_lenr tabOk rfl rfl rfl rfl | exact R_lenn tabOk rfl rfl rfl | exact R_indexr tabOk rfl rfl rfl rfl rfl rfl rfl (by omega) | exact R_fielde tabOk rfl rfl rfl rfl | exact R_loade tabOk rfl rfl rfl rfl rfl rfl rfl rfl rfl | exact Y_not rfl rfl | exact Y_pick_t rfl rfl (by first | rfl | assumption) rfl | exact Y_pick_f rfl rfl (by first | rfl | assumption) rfl | exact Y_pick_b rfl rfl rfl rfl | exact R_build tabOk rfl rfl rfl rfl rfl rfl | (first | exact Y_nilCheck rfl rfl rfl)))
        | (apply N_takeL (i := 0) rfl rfl (by kernel_rfl) (by decide +kernel) (by decide +kernel) (by repeat (first | exact np_post | apply np_then | apply np_in)) rfl rfl rfl; (first | exact R_loadi tabOk rfl rfl rfl rfl rfl rfl rfl | exact R_len tabOk rfl rfl rfl | exact R_load tabOk rfl rfl rfl rfl rfl rfl rfl rfl rfl | exact R_lenr tabOk rfl rfl rfl rfl | exact R_lenn tabOk rfl rfl rfl | exact R_loade tabOk rfl rfl rfl rfl rfl rfl rfl rfl rfl | (first | exact Y_nilCheck rfl rfl rfl)))
        | (apply N_takeL (i := 1) rfl rfl (by kernel_rfl) (by decide +kernel) (by decide +kernel) (by repeat (first | exact np_post | apply np_then | apply np_in)) rfl rfl rfl; (first | exact R_loadi tabOk rfl rfl rfl rfl rfl rfl rfl | exact R_len tabOk rfl rfl rfl | exact R_load tabOk rfl rfl rfl rfl rfl rfl rfl rfl rfl | exact R_lenr tabOk rfl rfl rfl rfl | exact R_lenn tabOk rfl rfl rfl | exact R_loade tabOk rfl rfl rfl rfl rfl rfl rfl rfl rfl | (first | exact Y_nilCheck rfl rfl rfl)))
        | (apply N_takeL (i := 2) rfl rfl (by kernel_rfl) (by decide +kernel) (by decide +kernel) (by repeat (first | exact np_post | apply np_then | apply np_in)) rfl rfl rfl; (first | exact R_loadi tabOk rfl rfl rfl rfl rfl rfl rfl | exact R_len tabOk rfl rfl rfl | exact R_load tabOk rfl rfl rfl rfl rfl rfl rfl rfl rfl | exact R_lenr tabOk rfl rfl rfl rfl | exact R_lenn tabOk rfl rfl rfl | exact R_loade tabOk rfl rfl rfl rfl rfl rfl rfl rfl rfl | (first | exact Y_nilCheck rfl rfl rfl)))
        | (apply N_takeL (i := 3) rfl rfl (by kernel_rfl) (by decide +kernel) (by decide +kernel) (by repeat (first | exact np_post | apply np_then | apply np_in)) rfl rfl rfl; (first | exact R_loadi tabOk rfl rfl rfl rfl rfl rfl rfl | exact R_len tabOk rfl rfl rfl | exact R_load tabOk rfl rfl rfl rfl rfl rfl rfl rfl rfl | exact R_lenr tabOk rfl rfl rfl rfl | exact R_lenn tabOk rfl rfl rfl | exact R_loade tabOk rfl rfl rfl rfl rfl rfl rfl rfl rfl | (first | exact Y_nilCheck rfl rfl rfl)))
        | (apply N_takeL (i := 4) rfl rfl (by kernel_rfl) (by decide +kernel) (by decide +kernel) (by repeat (first | exact np_post | apply np_then | apply np_in)) rfl rfl rfl; (first | exact R_loadi tabOk rfl rfl rfl rfl rfl rfl rfl | exact R_len tabOk rfl rfl rfl | exact R_load tabOk rfl rfl rfl rfl rfl rfl rfl rfl rfl | exact R_lenr tabOk rfl rfl rfl rfl | exact R_lenn tabOk rfl rfl rfl | exact R_loade tabOk rfl rfl rfl rfl rfl rfl rfl rfl rfl | (first | exact Y_nilCheck rfl rfl rfl)))
        | (apply N_takeL (i := 5) rfl rfl (by kernel_rfl) (by decide +kernel) (by decide +kernel) (by repeat (first | exact np_post | apply np_then | apply np_in)) rfl rfl rfl; (first | exact R_loadi tabOk rfl rfl rfl rfl rfl rfl rfl | exact R_len tabOk rfl rfl rfl | exact R_load tabOk rfl rfl rfl rfl rfl rfl rfl rfl rfl | exact R_lenr tabOk rfl rfl rfl rfl | exact R_lenn tabOk rfl rfl rfl | exact R_loade tabOk rfl rfl rfl rfl rfl rfl rfl rfl rfl | (first | exact Y_nilCheck rfl rfl rfl)))
        | (apply N_takeL (i := 6) rfl rfl (by kernel_rfl) (by decide +kernel) (by decide +kernel) (by repeat (first | exact np_post | apply np_then | apply np_in)) rfl rfl rfl; (first | exact R_loadi tabOk rfl rfl rfl rfl rfl rfl rfl | exact R_len tabOk rfl rfl rfl | exact R_load tabOk rfl rfl rfl rfl rfl rfl rfl rfl rfl | exact R_lenr tabOk rfl rfl rfl rfl | exact R_lenn tabOk rfl rfl rfl | exact R_loade tabOk rfl rfl rfl rfl rfl rfl rfl rfl rfl | (first | exact Y_nilCheck rfl rfl rfl)))
        | (apply N_takeL (i := 7) rfl rfl (by kernel_rfl) (by decide +kernel) (by decide +kernel) (by repeat (first | exact np_post | apply np_then | apply np_in)) rfl rfl rfl; (first | exact R_loadi tabOk rfl rfl rfl rfl rfl rfl rfl | exact R_len tabOk rfl rfl rfl | exact R_load tabOk rfl rfl rfl rfl rfl rfl rfl rfl rfl | exact R_lenr tabOk rfl rfl rfl rfl | exact R_lenn tabOk rfl rfl rfl | exact R_loade tabOk rfl rfl rfl rfl rfl rfl rfl rfl rfl | (first | exact Y_nilCheck rfl rfl rfl)))
        | (apply N_takeL (i := 8) rfl rfl (by kernel_rfl) (by decide +kernel) (by decide +kernel) (by repeat (first | exact np_post | apply np_then | apply np_in)) rfl rfl rfl; (first | exact R_loadi tabOk rfl rfl rfl rfl rfl rfl rfl | exact R_len tabOk rfl rfl rfl | exact R_load tabOk rfl rfl rfl rfl rfl rfl rfl rfl rfl | exact R_lenr tabOk rfl rfl rfl rfl | exact R_lenn tabOk rfl rfl rfl | exact R_loade tabOk rfl rfl rfl rfl rfl rfl rfl rfl rfl | (first | exact Y_nilCheck rfl rfl rfl)))
        | (apply N_takeL (i := 9) rfl rfl (by kernel_rfl) (by decide +kernel) (by decide +kernel) (by repeat (first | exact np_post | apply np_then | apply np_in)) rfl rfl rfl; (first | exact R_loadi tabOk rfl rfl rfl rfl rfl rfl rfl | exact R_len tabOk rfl rfl rfl | exact R_load tabOk rfl rfl rfl rfl rfl rfl rfl rfl rfl | exact R_lenr tabOk rfl rfl rfl rfl | exact R_lenn tabOk rfl rfl rfl | exact R_loade tabOk rfl rfl rfl rfl rfl rfl rfl rfl rfl | (first | exact Y_nilCheck rfl rfl rfl)))
        | (apply N_takeL (i := 10) rfl rfl (by kernel_rfl) (by decide +kernel) (by decide +kernel) (by repeat (first | exact np_post | apply np_then | apply np_in)) rfl rfl rfl; (first | exact R_loadi tabOk rfl rfl rfl rfl rfl rfl rfl | exact R_len tabOk rfl rfl rfl | exact R_load tabOk rfl rfl rfl rfl rfl rfl rfl rfl rfl | exact R_lenr tabOk rfl rfl rfl rfl | exact R_lenn tabOk rfl rfl rfl | exact R_loade tabOk rfl rfl rfl rfl rfl rfl rfl rfl rfl | (first | exact Y_nilCheck rfl rfl rfl)))
        | (apply N_takeL (i := 11) rfl rfl (by kernel_rfl) (by decide +kernel) (by decide +kernel) (by repeat (first | exact np_post | apply np_then | apply np_in)) rfl rfl rfl; (first | exact R_loadi tabOk rfl rfl rfl rfl rfl rfl rfl | exact R_len tabOk rfl rfl rfl | exact R_load tabOk rfl rfl rfl rfl rfl rfl rfl rfl rfl | exact R_lenr tabOk rfl rfl rfl rfl | exact R_lenn tabOk rfl rfl rfl | exact R_loade tabOk rfl rfl rfl rfl rfl rfl rfl rfl rfl | (first | exact Y_nilCheck rfl rfl rfl)))
        | (apply N_takeL (i := 12) rfl rfl (by kernel_rfl) (by decide +kernel) (by decide +kernel) (by repeat (first | exact np_post | apply np_then | apply np_in)) rfl rfl rfl; (first | exact R_loadi tabOk rfl rfl rfl rfl rfl rfl rfl | exact R_len tabOk rfl rfl rfl | exact R_load tabOk rfl rfl rfl rfl rfl rfl rfl rfl rfl | exact R_lenr tabOk rfl rfl rfl rfl | exact R_lenn tabOk rfl rfl rfl | exact R_loade tabOk rfl rfl rfl rfl rfl rfl rfl rfl rfl | (first | exact Y_nilCheck rfl rfl rfl)))
        | refine N_one (j := 0) (by decide +kernel) ?_
        | refine N_one (j := 1) (by decide +kernel) ?_
        | refine N_one (j := 2) (by decide +kernel) ?_
        | refine N_one (j := 3) (by decide +kernel) ?_
        | refine N_one (j := 4) (by decide +kernel) ?_
        | refine N_one (j := 5) (by decide +kernel) ?_
        | refine N_one (j := 6) (by decide +kernel) ?_
        | refine N_one (j := 7) (by decide +kernel) ?_
        | refine N_one (j := 8) (by decide +kernel) ?_
        | refine N_one (j := 9) (by decide +kernel) ?_
        | refine N_one (j := 10) (by decide +kernel) ?_
        | refine N_one (j := 11) (by decide +kernel) ?_
        | refine N_one (j := 12) (by decide +kernel) ?_
        | refine T_alloc tabOk rfl rfl rfl rfl rfl rfl rfl ?_
        | refine T_store tabOk rfl rfl rfl rfl rfl rfl rfl rfl rfl rfl rfl rfl rfl ?_
        | refine T_box rfl rfl rfl rfl rfl rfl rfl rfl ?_
        | (apply T_yield rfl rfl rfl rfl; (first | exact Y_move rfl rfl | exact Y_assign rfl rfl | exact R_index tabOk rfl rfl rfl rfl rfl rfl (by omega) | exact R_fieldi tabOk rfl rfl rfl | exact R_loadi tabOk rfl rfl rfl rfl rfl rfl rfl | exact R_len tabOk rfl rfl rfl | exact R_load tabOk rfl rfl rfl rfl rfl rfl rfl rfl rfl | exact R_field tabOk rfl rfl rfl rfl | exact Y_add rfl rfl rfl (by first | exact wrap_succ (by omega) | exact wrap_pred (by omega) (by omega) | exact wrap_i64 ⟨by omega, by omega⟩ | rfl) | exact Y_sub rfl rfl rfl (by first | exact wrap_succ (by omega) | exact wrap_pred (by omega) (by omega) | exact wrap_i64 ⟨by omega, by omega⟩ | rfl) | exact R_cmpT rfl rfl rfl rfl (by first | (simp only [decide_eq_true_eq, beq_iff_eq, bne_iff_ne, ne_eq]; done) | (simp only [decide_eq_true_eq, beq_iff_eq, bne_iff_ne, ne_eq]; omega)) | exact R_cmpF rfl rfl rfl rfl (by first | (simp only [decide_eq_false_iff_not, beq_eq_false_iff_ne, bne_eq_false_iff_eq, ne_eq]; done) | (simp only [decide_eq_false_iff_not, beq_eq_false_iff_ne, bne_eq_false_iff_eq, ne_eq]; omega)) | exact Y_ibin rfl rfl rfl rfl | exact Y_extract rfl rfl rfl | exact R_lenr tabOk rfl rfl rfl rfl | exact R_lenn tabOk rfl rfl rfl | exact R_indexr tabOk rfl rfl rfl rfl rfl rfl rfl (by omega) | exact R_fielde tabOk rfl rfl rfl rfl | exact R_loade tabOk rfl rfl rfl rfl rfl rfl rfl rfl rfl | exact Y_not rfl rfl | exact Y_pick_t rfl rfl (by first | rfl | assumption) rfl | exact Y_pick_f rfl rfl (by first | rfl | assumption) rfl | exact Y_pick_b rfl rfl rfl rfl | exact R_build tabOk rfl rfl rfl rfl rfl rfl | (first | exact Y_nilCheck rfl rfl rfl)))
        | refine N_done (by decide +kernel) ?_
        | (refine T_upd (k := ⟨a, (B : Int)⟩) (xa := intA) (q := v) pfxKey pfxA_val pfxA_rel trivial (fun _ _ => trivial) hn tabOk rfl rfl rfl rfl rfl rfl rfl rfl rfl rfl ?_))
      repeat (first
        | refine A_seq ?_
        | refine A_block ?_
        | refine R_list ?_
        | refine R_quiet rfl mixed (by kernel_rfl) ?_
        | ((first | apply O_y rfl rfl rfl | apply Q_y rfl rfl rfl); (first | exact Y_move rfl rfl | exact Y_assign rfl rfl | exact R_index tabOk rfl rfl rfl rfl rfl rfl (by omega) | exact R_fieldi tabOk rfl rfl rfl | exact R_loadi tabOk rfl rfl rfl rfl rfl rfl rfl | exact R_len tabOk rfl rfl rfl | exact R_load tabOk rfl rfl rfl rfl rfl rfl rfl rfl rfl | exact R_field tabOk rfl rfl rfl rfl | exact Y_add rfl rfl rfl (by first | exact wrap_succ (by omega) | exact wrap_pred (by omega) (by omega) | exact wrap_i64 ⟨by omega, by omega⟩ | rfl) | exact Y_sub rfl rfl rfl (by first | exact wrap_succ (by omega) | exact wrap_pred (by omega) (by omega) | exact wrap_i64 ⟨by omega, by omega⟩ | rfl) | exact R_cmpT rfl rfl rfl rfl (by first | (simp only [decide_eq_true_eq, beq_iff_eq, bne_iff_ne, ne_eq]; done) | (simp only [decide_eq_true_eq, beq_iff_eq, bne_iff_ne, ne_eq]; omega)) | exact R_cmpF rfl rfl rfl rfl (by first | (simp only [decide_eq_false_iff_not, beq_eq_false_iff_ne, bne_eq_false_iff_eq, ne_eq]; done) | (simp only [decide_eq_false_iff_not, beq_eq_false_iff_ne, bne_eq_false_iff_eq, ne_eq]; omega)) | exact Y_ibin rfl rfl rfl rfl | exact Y_extract rfl rfl rfl | exact R_lenr tabOk rfl rfl rfl rfl | exact R_lenn tabOk rfl rfl rfl | exact R_indexr tabOk rfl rfl rfl rfl rfl rfl rfl (by omega) | exact R_fielde tabOk rfl rfl rfl rfl | exact R_loade tabOk rfl rfl rfl rfl rfl rfl rfl rfl rfl | exact Y_not rfl rfl | exact Y_pick_t rfl rfl (by first | rfl | assumption) rfl | exact Y_pick_f rfl rfl (by first | rfl | assumption) rfl | exact Y_pick_b rfl rfl rfl rfl | exact R_build tabOk rfl rfl rfl rfl rfl rfl | fail))
        | refine O_nil ?_
        | refine Q_nil ?_
        | refine X_then_normal ?_
        | refine X_in_normal ?_
        | refine O_box rfl rfl rfl rfl rfl rfl rfl ?_
        | refine O_alloc tabOk rfl rfl rfl rfl rfl rfl ?_
        | refine O_store tabOk rfl rfl rfl rfl rfl rfl rfl rfl rfl rfl rfl ?_
        | refine O_slice tabOk rfl rfl rfl rfl rfl rfl rfl rfl rfl rfl rfl ?_
        | refine A_condt rfl (by first | rfl | assumption | (first | (simp only [decide_eq_true_eq]; done) | (simp only [decide_eq_true_eq]; omega))) ?_
        | refine A_condf rfl (by first | rfl | assumption | (first | (simp only [decide_eq_false_iff_not]; done) | (simp only [decide_eq_false_iff_not]; omega))) ?_
        | refine A_skip ?_
        | refine A_exit ?_
        | refine A_ret ?_
        | refine X_then_exit ?_
        | refine X_then_ret ?_
        | refine X_in_same ?_
        | refine X_in_other rfl ?_
        | refine X_in_ret ?_
        | refine O_s rfl rfl rfl ?_
        | refine Q_s rfl rfl rfl ?_
        | refine O_sn rfl rfl ?_
        | fail)
      exact X_retW AWk.refl rfl (h2 := [(1000, tblB 1001 (bump u B 1)), (1001, mapB (Go.Proofs.Ytaecjmjdhbjbkaa.aput l ⟨a, (B : Int)⟩ v))]) ⟨rfl, rfl, trivial⟩ ⟨rfl, rfl⟩
    | some x =>
      repeat (first
        | refine A_seq ?_
        | refine A_block ?_
        | refine R_list ?_
        | refine R_quiet rfl mixed (by kernel_rfl) ?_
        | ((first | apply O_y rfl rfl rfl | apply Q_y rfl rfl rfl); (first | exact Y_move rfl rfl | exact Y_assign rfl rfl | exact R_index tabOk rfl rfl rfl rfl rfl rfl (by omega) | exact R_fieldi tabOk rfl rfl rfl | exact R_loadi tabOk rfl rfl rfl rfl rfl rfl rfl | exact R_len tabOk rfl rfl rfl | exact R_load tabOk rfl rfl rfl rfl rfl rfl rfl rfl rfl | exact R_field tabOk rfl rfl rfl rfl | exact Y_add rfl rfl rfl (by first | exact wrap_succ (by omega) | exact wrap_pred (by omega) (by omega) | exact wrap_i64 ⟨by omega, by omega⟩ | rfl) | exact Y_sub rfl rfl rfl (by first | exact wrap_succ (by omega) | exact wrap_pred (by omega) (by omega) | exact wrap_i64 ⟨by omega, by omega⟩ | rfl) | exact R_cmpT rfl rfl rfl rfl (by first | (simp only [decide_eq_true_eq, beq_iff_eq, bne_iff_ne, ne_eq]; done) | (simp only [decide_eq_true_eq, beq_iff_eq, bne_iff_ne, ne_eq]; omega)) | exact R_cmpF rfl rfl rfl rfl (by first | (simp only [decide_eq_false_iff_not, beq_eq_false_iff_ne, bne_eq_false_iff_eq, ne_eq]; done) | (simp only [decide_eq_false_iff_not, beq_eq_false_iff_ne, bne_eq_false_iff_eq, ne_eq]; omega)) | exact Y_ibin rfl rfl rfl rfl | exact Y_extract rfl rfl rfl | exact R_lenr tabOk rfl rfl rfl rfl | exact R_lenn tabOk rfl rfl rfl | exact R_indexr tabOk rfl rfl rfl rfl rfl rfl rfl (by omega) | exact R_fielde tabOk rfl rfl rfl rfl | exact R_loade tabOk rfl rfl rfl rfl rfl rfl rfl rfl rfl | exact Y_not rfl rfl | exact Y_pick_t rfl rfl (by first | rfl | assumption) rfl | exact Y_pick_f rfl rfl (by first | rfl | assumption) rfl | exact Y_pick_b rfl rfl rfl rfl | exact R_build tabOk rfl rfl rfl rfl rfl rfl | (first | exact R_pnil tabOk rfl rfl rfl rfl rfl | exact Y_nilCheck rfl rfl rfl | exact R_lkIn pfxKey pfxA_val zeroInt trivial (fun _ _ => trivial) hn hag tabOk rfl rfl rfl rfl rfl rfl)))
        | refine O_nil ?_
        | refine Q_nil ?_
        | refine X_then_normal ?_
        | refine X_in_normal ?_
        | refine O_box rfl rfl rfl rfl rfl rfl rfl ?_
        | refine O_alloc tabOk rfl rfl rfl rfl rfl rfl ?_
        | refine O_store tabOk rfl rfl rfl rfl rfl rfl rfl rfl rfl rfl rfl ?_
        | refine O_slice tabOk rfl rfl rfl rfl rfl rfl rfl rfl rfl rfl rfl ?_
        | refine A_condt rfl (by first | rfl | assumption | (first | (simp only [decide_eq_true_eq]; done) | (simp only [decide_eq_true_eq]; omega))) ?_
        | refine A_condf rfl (by first | rfl | assumption | (first | (simp only [decide_eq_false_iff_not]; done) | (simp only [decide_eq_false_iff_not]; omega))) ?_
        | refine A_skip ?_
        | refine A_exit ?_
        | refine A_ret ?_
        | refine X_then_exit ?_
        | refine X_then_ret ?_
        | refine X_in_same ?_
        | refine X_in_other rfl ?_
        | refine X_in_ret ?_
        | refine O_s rfl rfl rfl ?_
        | refine Q_s rfl rfl rfl ?_
        | refine O_sn rfl rfl ?_
        | refine O_c rfl rfl rfl rfl rfl hck (fun _ => rfl) ?_)
      refine N_begin [1001] mixed ?_
      repeat (first
        | ((first
          | apply N_takeN (i := 0) rfl rfl (by kernel_rfl) (by decide +kernel) (by decide +kernel) (by repeat (first | exact np_post | apply np_then | apply np_in)) rfl rfl rfl
          | apply N_takeN (i := 1) rfl rfl (by kernel_rfl) (by decide +kernel) (by decide +kernel) (by repeat (first | exact np_post | apply np_then | apply np_in)) rfl rfl rfl
          | apply N_takeN (i := 2) rfl rfl (by kernel_rfl) (by decide +kernel) (by decide +kernel) (by repeat (first | exact np_post | apply np_then | apply np_in)) rfl rfl rfl
          | apply N_takeN (i := 3) rfl rfl (by kernel_rfl) (by decide +kernel) (by decide +kernel) (by repeat (first | exact np_post | apply np_then | apply np_in)) rfl rfl rfl
          | apply N_takeN (i := 4) rfl rfl (by kernel_rfl) (by decide +kernel) (by decide +kernel) (by repeat (first | exact np_post | apply np_then | apply np_in)) rfl rfl rfl
          | apply N_takeN (i := 5) rfl rfl (by kernel_rfl) (by decide +kernel) (by decide +kernel) (by repeat (first | exact np_post | apply np_then | apply np_in)) rfl rfl rfl
          | apply N_takeN (i := 6) rfl rfl (by kernel_rfl) (by decide +kernel) (by decide +kernel) (by repeat (first | exact np_post | apply np_then | apply np_in)) rfl rfl rfl
          | apply N_takeN (i := 7) rfl rfl (by kernel_rfl) (by decide +kernel) (by decide +kernel) (by repeat (first | exact np_post | apply np_then | apply np_in)) rfl rfl rfl
          | apply N_takeN (i := 8) rfl rfl (by kernel_rfl) (by decide +kernel) (by decide +kernel) (by repeat (first | exact np_post | apply np_then | apply np_in)) rfl rfl rfl
          | apply N_takeN (i := 9) rfl rfl (by kernel_rfl) (by decide +kernel) (by decide +kernel) (by repeat (first | exact np_post | apply np_then | apply np_in)) rfl rfl rfl
          | apply N_takeN (i := 10) rfl rfl (by kernel_rfl) (by decide +kernel) (by decide +kernel) (by repeat (first | exact np_post | apply np_then | apply np_in)) rfl rfl rfl
          | apply N_takeN (i := 11) rfl rfl (by kernel_rfl) (by decide +kernel) (by decide +kernel) (by repeat (first | exact np_post | apply np_then | apply np_in)) rfl rfl rfl
          | apply N_takeN (i := 12) rfl rfl (by kernel_rfl) (by decide +kernel) (by decide +kernel) (by repeat (first | exact np_post | apply np_then | apply np_in)) rfl rfl rfl
          ); (first | exact Y_move rfl rfl | exact Y_assign rfl rfl | exact R_index tabOk rfl rfl rfl rfl rfl rfl (by omega) | exact R_fieldi tabOk rfl rfl rfl | exact R_loadi tabOk rfl rfl rfl rfl rfl rfl rfl | exact R_len tabOk rfl rfl rfl | exact R_load tabOk rfl rfl rfl rfl rfl rfl rfl rfl rfl | exact R_field tabOk rfl rfl rfl rfl | exact Y_add rfl rfl rfl (by first | exact wrap_succ (by omega) | exact wrap_pred (by omega) (by omega) | exact wrap_i64 ⟨by omega, by omega⟩ | rfl) | exact Y_sub rfl rfl rfl (by first | exact wrap_succ (by omega) | exact wrap_pred (by omega) (by omega) | exact wrap_i64 ⟨by omega, by omega⟩ | rfl) | exact R_cmpT rfl rfl rfl rfl (by first | (simp only [decide_eq_true_eq, beq_iff_eq, bne_iff_ne, ne_eq]; done) | (simp only [decide_eq_true_eq, beq_iff_eq, bne_iff_ne, ne_eq]; omega)) | exact R_cmpF rfl rfl rfl rfl (by first | (simp only [decide_eq_false_iff_not, beq_eq_false_iff_ne, bne_eq_false_iff_eq, ne_eq]; done) | (simp only [decide_eq_false_iff_not, beq_eq_false_iff_ne, bne_eq_false_iff_eq, ne_eq]; omega)) | exact Y_ibin rfl rfl rfl rfl | exact Y_extract rfl rfl rfl | exact R_lenr tabOk rfl rfl rfl rfl | exact R_lenn tabOk rfl rfl rfl | exact R_indexr tabOk rfl rfl rfl rfl rfl rfl rfl (by omega) | exact R_fielde tabOk rfl rfl rfl rfl | exact R_loade tabOk rfl rfl rfl rfl rfl rfl rfl rfl rfl | exact Y_not rfl rfl | exact Y_pick_t rfl rfl (by first | rfl | assumption) rfl | exact Y_pick_f rfl rfl (by first | rfl | assumption) rfl | exact Y_pick_b rfl rfl rfl rfl | exact R_build tabOk rfl rfl rfl rfl rfl rfl | (first | exact Y_nilCheck rfl rfl rfl)))
        | (apply N_takeL (i := 0) rfl rfl (by kernel_rfl) (by decide +kernel) (by decide +kernel) (by repeat (first | exact np_post | apply np_then | apply np_in)) rfl rfl rfl; (first | exact R_loadi tabOk rfl rfl rfl rfl rfl rfl rfl | exact R_len tabOk rfl rfl rfl | exact R_load tabOk rfl rfl rfl rfl rfl rfl rfl rfl rfl | exact R_lenr tabOk rfl rfl rfl rfl | exact R_lenn tabOk rfl rfl rfl | exact R_loade tabOk rfl rfl rfl rfl rfl rfl rfl rfl rfl | (first | exact Y_nilCheck rfl rfl rfl)))
        | (apply N_takeL (i := 1) rfl rfl (by kernel_rfl) (by decide +kernel) (by decide +kernel) (by repeat (first | exact np_post | apply np_then | apply np_in)) rfl rfl rfl; (first | exact R_loadi tabOk rfl rfl rfl rfl rfl rfl rfl | exact R_len tabOk rfl rfl rfl | exact R_load tabOk rfl rfl rfl rfl rfl rfl rfl rfl rfl | exact R_lenr tabOk rfl rfl rfl rfl | exact R_lenn tabOk rfl rfl rfl | exact R_loade tabOk rfl rfl rfl rfl rfl rfl rfl rfl rfl | (first | exact Y_nilCheck rfl rfl rfl)))
        | (apply N_takeL (i := 2) rfl rfl (by kernel_rfl) (by decide +kernel) (by decide +kernel) (by repeat (first | exact np_post | apply np_then | apply np_in)) rfl rfl rfl; (first | exact R_loadi tabOk rfl rfl rfl rfl rfl rfl rfl | exact R_len tabOk rfl rfl rfl | exact R_load tabOk rfl rfl rfl rfl rfl rfl rfl rfl rfl | exact R_lenr tabOk rfl rfl rfl rfl | exact R_lenn tabOk rfl rfl rfl | exact R_loade tabOk rfl rfl rfl rfl rfl rfl rfl rfl rfl | (first | exact Y_nilCheck rfl rfl rfl)))
        | (apply N_takeL (i := 3) rfl rfl (by kernel_rfl) (by decide +kernel) (by decide +kernel) (by repeat (first | exact np_post | apply np_then | apply np_in)) rfl rfl rfl; (first | exact R_loadi tabOk rfl rfl rfl rfl rfl rfl rfl | exact R_len tabOk rfl rfl rfl | exact R_load tabOk rfl rfl rfl rfl rfl rfl rfl rfl rfl | exact R_lenr tabOk rfl rfl rfl rfl | exact R_lenn tabOk rfl rfl rfl | exact R_loade tabOk rfl rfl rfl rfl rfl rfl rfl rfl rfl | (first | exact Y_nilCheck rfl rfl rfl)))
        | (apply N_takeL (i := 4) rfl rfl (by kernel_rfl) (by decide +kernel) (by decide +kernel) (by repeat (first | exact np_post | apply np_then | apply np_in)) rfl rfl rfl; (first | exact R_loadi tabOk rfl rfl rfl rfl rfl rfl rfl | exact R_len tabOk rfl rfl rfl | exact R_load tabOk rfl rfl rfl rfl rfl rfl rfl rfl rfl | exact R_lenr tabOk rfl rfl rfl rfl | exact R_lenn tabOk rfl rfl rfl | exact R_loade tabOk rfl rfl rfl rfl rfl rfl rfl rfl rfl | (first | exact Y_nilCheck rfl rfl rfl)))
        | (apply N_takeL (i := 5) rfl rfl (by kernel_rfl) (by decide +kernel) (by decide +kernel) (by repeat (first | exact np_post | apply np_then | apply np_in)) rfl rfl rfl; (first | exact R_loadi tabOk rfl rfl rfl rfl rfl rfl rfl | exact R_len tabOk rfl rfl rfl | exact R_load tabOk rfl rfl rfl rfl rfl rfl rfl rfl rfl | exact R_lenr tabOk rfl rfl rfl rfl | exact R_lenn tabOk rfl rfl rfl | exact R_loade tabOk rfl rfl rfl rfl rfl rfl rfl rfl rfl | (first | exact Y_nilCheck rfl rfl rfl)))
        | (apply N_takeL (i := 6) rfl rfl (by kernel_rfl) (by decide +kernel) (by decide +kernel) (by repeat (first | exact np_post | apply np_then | apply np_in)) rfl rfl rfl; (first | exact R_loadi tabOk rfl rfl rfl rfl rfl rfl rfl | exact R_len tabOk rfl rfl rfl | exact R_load tabOk rfl rfl rfl rfl rfl rfl rfl rfl rfl | exact R_lenr tabOk rfl rfl rfl rfl | exact R_lenn tabOk rfl rfl rfl | exact R_loade tabOk rfl rfl rfl rfl rfl rfl rfl rfl rfl | (first | exact Y_nilCheck rfl rfl rfl)))
        | (apply N_takeL (i := 7) rfl rfl (by kernel_rfl) (by decide +kernel) (by decide +kernel) (by repeat (first | exact np_post | apply np_then | apply np_in)) rfl rfl rfl; (first | exact R_loadi tabOk rfl rfl rfl rfl rfl rfl rfl | exact R_len tabOk rfl rfl rfl | exact R_load tabOk rfl rfl rfl rfl rfl rfl rfl rfl rfl | exact R_lenr tabOk rfl rfl rfl rfl | exact R_lenn tabOk rfl rfl rfl | exact R_loade tabOk rfl rfl rfl rfl rfl rfl rfl rfl rfl | (first | exact Y_nilCheck rfl rfl rfl)))
        | (apply N_takeL (i := 8) rfl rfl (by kernel_rfl) (by decide +kernel) (by decide +kernel) (by repeat (first | exact np_post | apply np_then | apply np_in)) rfl rfl rfl; (first | exact R_loadi tabOk rfl rfl rfl rfl rfl rfl rfl | exact R_len tabOk rfl rfl rfl | exact R_load tabOk rfl rfl rfl rfl rfl rfl rfl rfl rfl | exact R_lenr tabOk rfl rfl rfl rfl | exact R_lenn tabOk rfl rfl rfl | exact R_loade tabOk rfl rfl rfl rfl rfl rfl rfl rfl rfl | (first | exact Y_nilCheck rfl rfl rfl)))
        | (apply N_takeL (i := 9) rfl rfl (by kernel_rfl) (by decide +kernel) (by decide +kernel) (by repeat (first | exact np_post | apply np_then | apply np_in)) rfl rfl rfl; (first | exact R_loadi tabOk rfl rfl rfl rfl rfl rfl rfl | exact R_len tabOk rfl rfl rfl | exact R_load tabOk rfl rfl rfl rfl rfl rfl rfl rfl rfl | exact R_lenr tabOk rfl rfl rfl rfl | exact R_lenn tabOk rfl rfl rfl | exact R_loade tabOk rfl rfl rfl rfl rfl rfl rfl rfl rfl | (first | exact Y_nilCheck rfl rfl rfl)))
        | (apply N_takeL (i := 10) rfl rfl (by kernel_rfl) (by decide +kernel) (by decide +kernel) (by repeat (first | exact np_post | apply np_then | apply np_in)) rfl rfl rfl; (first | exact R_loadi tabOk rfl rfl rfl rfl rfl rfl rfl | exact R_len tabOk rfl rfl rfl | exact R_load tabOk rfl rfl rfl rfl rfl rfl rfl rfl rfl | exact R_lenr tabOk rfl rfl rfl rfl | exact R_lenn tabOk rfl rfl rfl | exact R_loade tabOk rfl rfl rfl rfl rfl rfl rfl rfl rfl | (first | exact Y_nilCheck rfl rfl rfl)))
        | (apply N_takeL (i := 11) rfl rfl (by kernel_rfl) (by decide +kernel) (by decide +kernel) (by repeat (first | exact np_post | apply np_then | apply np_in)) rfl rfl rfl; (first | exact R_loadi tabOk rfl rfl rfl rfl rfl rfl rfl | exact R_len tabOk rfl rfl rfl | exact R_load tabOk rfl rfl rfl rfl rfl rfl rfl rfl rfl | exact R_lenr tabOk rfl rfl rfl rfl | exact R_lenn tabOk rfl rfl rfl | exact R_loade tabOk rfl rfl rfl rfl rfl rfl rfl rfl rfl | (first | exact Y_nilCheck rfl rfl rfl)))
        | (apply N_takeL (i := 12) rfl rfl (by kernel_rfl) (by decide +kernel) (by decide +kernel) (by repeat (first | exact np_post | apply np_then | apply np_in)) rfl rfl rfl; (first | exact R_loadi tabOk rfl rfl rfl rfl rfl rfl rfl | exact R_len tabOk rfl rfl rfl | exact R_load tabOk rfl rfl rfl rfl rfl rfl rfl rfl rfl | exact R_lenr tabOk rfl rfl rfl rfl | exact R_lenn tabOk rfl rfl rfl | exact R_loade tabOk rfl rfl rfl rfl rfl rfl rfl rfl rfl | (first | exact Y_nilCheck rfl rfl rfl)))
        | refine N_one (j := 0) (by decide +kernel) ?_
        | refine N_one (j := 1) (by decide +kernel) ?_
        | refine N_one (j := 2) (by decide +kernel) ?_
        | refine N_one (j := 3) (by decide +kernel) ?_
        | refine N_one (j := 4) (by decide +kernel) ?_
        | refine N_one (j := 5) (by decide +kernel) ?_
        | refine N_one (j := 6) (by decide +kernel) ?_
        | refine N_one (j := 7) (by decide +kernel) ?_
        | refine N_one (j := 8) (by decide +kernel) ?_
        | refine N_one (j := 9) (by decide +kernel) ?_
        | refine N_one (j := 10) (by decide +kernel) ?_
        | refine N_one (j := 11) (by decide +kernel) ?_
        | refine N_one (j := 12) (by decide +kernel) ?_
        | refine T_alloc tabOk rfl rfl rfl rfl rfl rfl rfl ?_
        | refine T_store tabOk rfl rfl rfl rfl rfl rfl rfl rfl rfl rfl rfl rfl rfl ?_
        | refine T_box rfl rfl rfl rfl rfl rfl rfl rfl ?_
        | (apply T_yield rfl rfl rfl rfl; (first | exact Y_move rfl rfl | exact Y_assign rfl rfl | exact R_index tabOk rfl rfl rfl rfl rfl rfl (by omega) | exact R_fieldi tabOk rfl rfl rfl | exact R_loadi tabOk rfl rfl rfl rfl rfl rfl rfl | exact R_len tabOk rfl rfl rfl | exact R_load tabOk rfl rfl rfl rfl rfl rfl rfl rfl rfl | exact R_field tabOk rfl rfl rfl rfl | exact Y_add rfl rfl rfl (by first | exact wrap_succ (by omega) | exact wrap_pred (by omega) (by omega) | exact wrap_i64 ⟨by omega, by omega⟩ | rfl) | exact Y_sub rfl rfl rfl (by first | exact wrap_succ (by omega) | exact wrap_pred (by omega) (by omega) | exact wrap_i64 ⟨by omega, by omega⟩ | rfl) | exact R_cmpT rfl rfl rfl rfl (by first | (simp only [decide_eq_true_eq, beq_iff_eq, bne_iff_ne, ne_eq]; done) | (simp only [decide_eq_true_eq, beq_iff_eq, bne_iff_ne, ne_eq]; omega)) | exact R_cmpF rfl rfl rfl rfl (by first | (simp only [decide_eq_false_iff_not, beq_eq_false_iff_ne, bne_eq_false_iff_eq, ne_eq]; done) | (simp only [decide_eq_false_iff_not, beq_eq_false_iff_ne, bne_eq_false_iff_eq, ne_eq]; omega)) | exact Y_ibin rfl rfl rfl rfl | exact Y_extract rfl rfl rfl | exact R_lenr tabOk rfl rfl rfl rfl | exact R_lenn tabOk rfl rfl rfl | exact R_indexr tabOk rfl rfl rfl rfl rfl rfl rfl (by omega) | exact R_fielde tabOk rfl rfl rfl rfl | exact R_loade tabOk rfl rfl rfl rfl rfl rfl rfl rfl rfl | exact Y_not rfl rfl | exact Y_pick_t rfl rfl (by first | rfl | assumption) rfl | exact Y_pick_f rfl rfl (by first | rfl | assumption) rfl | exact Y_pick_b rfl rfl rfl rfl | exact R_build tabOk rfl rfl rfl rfl rfl rfl | (first | exact Y_nilCheck rfl rfl rfl)))
        | refine N_done (by decide +kernel) ?_
        | (refine T_upd (k := ⟨a, (B : Int)⟩) (xa := intA) (q := v) pfxKey pfxA_val pfxA_rel trivial (fun _ _ => trivial) hn tabOk rfl rfl rfl rfl rfl rfl rfl rfl rfl rfl ?_))
      repeat (first
        | refine A_seq ?_
        | refine A_block ?_
        | refine R_list ?_
        | refine R_quiet rfl mixed (by kernel_rfl) ?_
        | ((first | apply O_y rfl rfl rfl | apply Q_y rfl rfl rfl); (first | exact Y_move rfl rfl | exact Y_assign rfl rfl | exact R_index tabOk rfl rfl rfl rfl rfl rfl (by omega) | exact R_fieldi tabOk rfl rfl rfl | exact R_loadi tabOk rfl rfl rfl rfl rfl rfl rfl | exact R_len tabOk rfl rfl rfl | exact R_load tabOk rfl rfl rfl rfl rfl rfl rfl rfl rfl | exact R_field tabOk rfl rfl rfl rfl | exact Y_add rfl rfl rfl (by first | exact wrap_succ (by omega) | exact wrap_pred (by omega) (by omega) | exact wrap_i64 ⟨by omega, by omega⟩ | rfl) | exact Y_sub rfl rfl rfl (by first | exact wrap_succ (by omega) | exact wrap_pred (by omega) (by omega) | exact wrap_i64 ⟨by omega, by omega⟩ | rfl) | exact R_cmpT rfl rfl rfl rfl (by first | (simp only [decide_eq_true_eq, beq_iff_eq, bne_iff_ne, ne_eq]; done) | (simp only [decide_eq_true_eq, beq_iff_eq, bne_iff_ne, ne_eq]; omega)) | exact R_cmpF rfl rfl rfl rfl (by first | (simp only [decide_eq_false_iff_not, beq_eq_false_iff_ne, bne_eq_false_iff_eq, ne_eq]; done) | (simp only [decide_eq_false_iff_not, beq_eq_false_iff_ne, bne_eq_false_iff_eq, ne_eq]; omega)) | exact Y_ibin rfl rfl rfl rfl | exact Y_extract rfl rfl rfl | exact R_lenr tabOk rfl rfl rfl rfl | exact R_lenn tabOk rfl rfl rfl | exact R_indexr tabOk rfl rfl rfl rfl rfl rfl rfl (by omega) | exact R_fielde tabOk rfl rfl rfl rfl | exact R_loade tabOk rfl rfl rfl rfl rfl rfl rfl rfl rfl | exact Y_not rfl rfl | exact Y_pick_t rfl rfl (by first | rfl | assumption) rfl | exact Y_pick_f rfl rfl (by first | rfl | assumption) rfl | exact Y_pick_b rfl rfl rfl rfl | exact R_build tabOk rfl rfl rfl rfl rfl rfl | fail))
        | refine O_nil ?_
        | refine Q_nil ?_
        | refine X_then_normal ?_
        | refine X_in_normal ?_
        | refine O_box rfl rfl rfl rfl rfl rfl rfl ?_
        | refine O_alloc tabOk rfl rfl rfl rfl rfl rfl ?_
        | refine O_store tabOk rfl rfl rfl rfl rfl rfl rfl rfl rfl rfl rfl ?_
        | refine O_slice tabOk rfl rfl rfl rfl rfl rfl rfl rfl rfl rfl rfl ?_
        | refine A_condt rfl (by first | rfl | assumption | (first | (simp only [decide_eq_true_eq]; done) | (simp only [decide_eq_true_eq]; omega))) ?_
        | refine A_condf rfl (by first | rfl | assumption | (first | (simp only [decide_eq_false_iff_not]; done) | (simp only [decide_eq_false_iff_not]; omega))) ?_
        | refine A_skip ?_
        | refine A_exit ?_
        | refine A_ret ?_
        | refine X_then_exit ?_
        | refine X_then_ret ?_
        | refine X_in_same ?_
        | refine X_in_other rfl ?_
        | refine X_in_ret ?_
        | refine O_s rfl rfl rfl ?_
        | refine Q_s rfl rfl rfl ?_
        | refine O_sn rfl rfl ?_
        | fail)
      exact X_retW AWk.refl rfl (h2 := [(1000, tblB 1001 u), (1001, mapB (Go.Proofs.Ytaecjmjdhbjbkaa.aput l ⟨a, (B : Int)⟩ v))]) ⟨rfl, rfl, trivial⟩ ⟨rfl, rfl⟩
  · simp only [hc, if_false]
    have hR : (fun c h => c = intA (chk p) ∧ h = [(1000, tblB 1001 u), (1001, mapB l)]) = (fun c h => c = intA (chk p) ∧ h = [(1000, tblB 1001 u), (1001, mapB l)]) := rfl
    refine A_seq ?_
    refine R_list ?_
    refine O_box rfl rfl rfl rfl rfl rfl rfl ?_
    refine O_weaken (Wk_sel (e1 := [(0, .ptr 1000 0), (2, intA v), (4, .ptr 4 0)]) (h1 := [(4, .var [.d (.sc (.int .u32 p.a)), .d (.sc (.int .i64 p.b))]), (1000, tblB 1001 u), (1001, mapB l)]) ⟨rfl, rfl, rfl, trivial⟩ ⟨rfl, rfl, kill_map 4 l, trivial⟩) ?_
    repeat (first
      | refine A_seq ?_
      | refine A_block ?_
      | refine R_list ?_
      | refine R_quiet rfl mixed (by kernel_rfl) ?_
      | ((first | apply O_y rfl rfl rfl | apply Q_y rfl rfl rfl); (first | exact Y_move rfl rfl | exact Y_assign rfl rfl | exact R_index tabOk rfl rfl rfl rfl rfl rfl (by omega) | exact R_fieldi tabOk rfl rfl rfl | exact R_loadi tabOk rfl rfl rfl rfl rfl rfl rfl | exact R_len tabOk rfl rfl rfl | exact R_load tabOk rfl rfl rfl rfl rfl rfl rfl rfl rfl | exact R_field tabOk rfl rfl rfl rfl | exact Y_add rfl rfl rfl (by first | exact wrap_succ (by omega) | exact wrap_pred (by omega) (by omega) | exact wrap_i64 ⟨by omega, by omega⟩ | rfl) | exact Y_sub rfl rfl rfl (by first | exact wrap_succ (by omega) | exact wrap_pred (by omega) (by omega) | exact wrap_i64 ⟨by omega, by omega⟩ | rfl) | exact R_cmpT rfl rfl rfl rfl (by first | (simp only [decide_eq_true_eq, beq_iff_eq, bne_iff_ne, ne_eq]; done) | (simp only [decide_eq_true_eq, beq_iff_eq, bne_iff_ne, ne_eq]; omega)) | exact R_cmpF rfl rfl rfl rfl (by first | (simp only [decide_eq_false_iff_not, beq_eq_false_iff_ne, bne_eq_false_iff_eq, ne_eq]; done) | (simp only [decide_eq_false_iff_not, beq_eq_false_iff_ne, bne_eq_false_iff_eq, ne_eq]; omega)) | exact Y_ibin rfl rfl rfl rfl | exact Y_extract rfl rfl rfl | exact R_lenr tabOk rfl rfl rfl rfl | exact R_lenn tabOk rfl rfl rfl | exact R_indexr tabOk rfl rfl rfl rfl rfl rfl rfl (by omega) | exact R_fielde tabOk rfl rfl rfl rfl | exact R_loade tabOk rfl rfl rfl rfl rfl rfl rfl rfl rfl | exact Y_not rfl rfl | exact Y_pick_t rfl rfl (by first | rfl | assumption) rfl | exact Y_pick_f rfl rfl (by first | rfl | assumption) rfl | exact Y_pick_b rfl rfl rfl rfl | exact R_build tabOk rfl rfl rfl rfl rfl rfl | (first | exact R_pnil tabOk rfl rfl rfl rfl rfl)))
      | refine O_nil ?_
      | refine Q_nil ?_
      | refine X_then_normal ?_
      | refine X_in_normal ?_
      | refine O_box rfl rfl rfl rfl rfl rfl rfl ?_
      | refine O_alloc tabOk rfl rfl rfl rfl rfl rfl ?_
      | refine O_store tabOk rfl rfl rfl rfl rfl rfl rfl rfl rfl rfl rfl ?_
      | refine O_slice tabOk rfl rfl rfl rfl rfl rfl rfl rfl rfl rfl rfl ?_
      | refine A_condt rfl (by first | rfl | assumption | (first | (simp only [decide_eq_true_eq]; done) | (simp only [decide_eq_true_eq]; omega))) ?_
      | refine A_condf rfl (by first | rfl | assumption | (first | (simp only [decide_eq_false_iff_not]; done) | (simp only [decide_eq_false_iff_not]; omega))) ?_
      | refine A_skip ?_
      | refine A_exit ?_
      | refine A_ret ?_
      | refine X_then_exit ?_
      | refine X_then_ret ?_
      | refine X_in_same ?_
      | refine X_in_other rfl ?_
      | refine X_in_ret ?_
      | refine O_s rfl rfl rfl ?_
      | refine Q_s rfl rfl rfl ?_
      | refine O_sn rfl rfl ?_
      | refine O_c rfl rfl rfl rfl rfl hck (fun _ => rfl) ?_)
    exact X_retW AWk.refl rfl (h2 := [(1000, tblB 1001 u), (1001, mapB l)]) ⟨rfl, rfl, trivial⟩ ⟨rfl, rfl⟩
end Go.Proofs.Ytaecjmjdhbjbkaa.Ab

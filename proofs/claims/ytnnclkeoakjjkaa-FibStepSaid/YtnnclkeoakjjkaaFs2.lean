/-
  Texts of a proof, one behind the other (part 3).
-/
import Derived.CallsIn
import Derived.Listen
import Derived.Lone
import Derived.Shelf.SlSortCmp.WholeK
import Derived.Sort.LotA
import Derived.Maps.RangeRun
import Derived.Test.YtnnclkeoakjjkaaFs1
set_option linter.unusedVariables false
set_option linter.unusedSimpArgs false
namespace Go.Proofs.Ytnnclkeoakjjkaa.Ab
set_option linter.unusedVariables false
set_option maxRecDepth 100000
open Go.RowKit
set_option linter.unusedSimpArgs false
attribute [local irreducible] AWp AOps AQ AYield AEff ACall AWk AAny AAt AThen AIn APost NoPanic

def usedA (u : Nat → Int) : List AVal := (List.range 33).map fun b => intA (u b)
def tblB (m : Nat) (u : Nat → Int) : ABlk := .var (.mp m :: usedA u)
def rmapB (l : List (Pfx × List Rte)) : ABlk := .map (ents pfxA rtesA l)
theorem new_A : ACall Try.prog 22 [] [] (fun c h => c = .ptr 3 0 ∧ h = [(3, tblB 902 fun _ => 0), (902, rmapB [])]) := by
  refine ACall_of tabOk Try.func22 rfl Try.ntmps22 (congrArg Array.toList Try.results22) (by kernel_rfl) rfl ?_
  repeat (first | refine A_seq ?_ | refine A_block ?_ | refine R_list ?_ | refine R_quiet rfl mixed (by kernel_rfl) ?_ | ((first | apply O_y rfl rfl rfl | apply Q_y rfl rfl rfl); (first | exact q_1 | exact q_2 | exact q_3 | exact q_4 | exact q_5 | exact q_6 | exact q_7 | exact q_8 | exact q_9 | exact q_10 | exact q_11 | exact q_12 | exact q_13 | exact q_14 | exact q_15 | exact q_16 | exact q_17 | exact q_18 | exact q_19 | exact q_20 | exact q_21 | exact q_22 | exact q_23 | exact q_24 | fail)) | refine O_nil ?_ | refine Q_nil ?_ | refine q_j ?_ | refine q_k ?_ | refine q_d ?_ | refine q_a ?_ | refine q_b ?_ | refine q_c ?_ | refine A_ct rfl ?_ | refine A_cf rfl ?_ | refine A_skip ?_ | refine A_exit ?_ | refine A_ret ?_ | refine q_l ?_ | refine q_m ?_ | refine q_n ?_ | refine q_h ?_ | refine q_o ?_ | refine q_e ?_ | refine q_f ?_ | refine q_g ?_ | (refine O_makeMap 902 rfl rfl rfl rfl rfl ?_))
  exact X_retW AWk.refl rfl (h2 := [(3, tblB 902 fun _ => 0), (902, rmapB [])]) ⟨rfl, rfl, trivial⟩ ⟨rfl, rfl⟩
theorem var_eq {id : Nat} {cs cs' : List AVal} {h : Heap} (hc : cs = cs') (hl : look h id = some (.var cs)) : look h id = some (.var cs') := by subst hc; exact hl
def bump (u : Nat → Int) (b : Nat) (d : Int) : Nat → Int := fun j => if j = b then u j + d else u j
theorem used_get (m : Nat) (u : Nat → Int) (b : Nat) (hb : b < 33) : win (.mp m :: usedA u) (0 + 1 + b * 1) 1 = [intA (u b)] := by
  have h1 : (AVal.mp m :: usedA u)[1 + b]? = some (intA (u b)) := by
    rw [show 1 + b = b + 1 by omega, List.getElem?_cons_succ]
    simp [usedA, List.getElem?_map, List.getElem?_range hb]
  have h2 : 1 + b < (AVal.mp m :: usedA u).length := (List.getElem?_eq_some_iff.1 h1).1
  unfold win
  rw [show 0 + 1 + b * 1 = 1 + b by omega, List.drop_eq_getElem_cons h2]
  have h3 := (List.getElem?_eq_some_iff.1 h1).2
  rw [List.take_succ_cons, List.take_zero, h3]
theorem used_set (m : Nat) (u : Nat → Int) (b : Nat) (d : Int) (hb : b < 33) : setW (.mp m :: usedA u) (0 + 1 + b * 1) [intA (u b + d)] = .mp m :: usedA (bump u b d) := by
  apply List.ext_getElem?
  intro i
  rw [setW_get (by simp [usedA]; omega)]
  cases i with
  | zero => simp
  | succ i =>
    simp only [List.getElem?_cons_succ, List.length_cons, List.length_nil, usedA, List.getElem?_map]
    by_cases hi : i < 33
    · rw [List.getElem?_range hi]
      by_cases he : i = b
      · subst he
        rw [if_pos (by omega)]
        simp [bump]
        rw [show i + 1 - (1 + i) = 0 by omega]
        rfl
      · rw [if_neg (by omega)]
        simp [bump, he]
    · have h0 : (List.range 33)[i]? = none := by simp; omega
      rw [h0, if_neg (by omega)]
      rfl
theorem zeroRts (W : World) : (zeroValue 22).run Try.prog W = .ok (.slice none 0 0) W := by
  have h : tlook tab 22 = some _ := rfl
  obtain ⟨z, h1, h2, i, h3, h4, _⟩ := (tabOk _ _ h).zero W
  have h5 : (Try.prog.info? 22).bind (·.zero) = some (.slice none 0 0) := by kernel_rfl
  rw [h3] at h5
  simp only [Option.bind_some] at h5
  rw [h4] at h5
  cases h5
  exact h1
theorem kill_map (id : Nat) (l : List (Pfx × List Rte)) : some (killB id (rmapB l)) = some (rmapB l) := by
  show some (ABlk.map ((l.map fun p => (pfxA p.1, rtesA p.2)).map fun p => (killV id p.1, killV id p.2))) = _
  rw [List.map_map]
  rfl
set_option maxHeartbeats 2000000 in
theorem put_A (u : Nat → Int) (l : List (Pfx × List Rte)) (p : Pfx) (v : List Rte) (hp : p.ok) (hn : (l.map (·.1)).Nodup) (hu : ∀ j, 0 ≤ u j ∧ u j ≤ 1000000000) :
    ACall Try.prog 24 [.ptr 1000 0, pfxA p, rtesA v] [(1000, tblB 1001 u), (1001, rmapB l)] (fun c h => c = intA (chk p) ∧ h = if chk p = 0 then [(1000, tblB 1001 (if (aget l p).isSome then u else bump u p.b.toNat 1)), (1001, rmapB (Go.Proofs.Ytnnclkeoakjjkaa.aput l p v))] else [(1000, tblB 1001 u), (1001, rmapB l)]) := by
  refine ACall_of tabOk Try.func24 rfl Try.ntmps24 (congrArg Array.toList Try.results24) (by kernel_rfl) rfl ?_
  have hck := check_A p hp
  by_cases hc : chk p = 0
  · rw [hc] at hck ⊢
    simp only [if_true]
    have hg := (chk_eq p).1 hc
    obtain ⟨a, b⟩ := p
    obtain ⟨B, rfl⟩ : ∃ B : Nat, b = (B : Int) := ⟨b.toNat, by have := hg.1; simp at this; omega⟩
    have hB : B < 33 := by have := hg.2.1; simp at this; omega
    have huB := hu B
    refine A_seq ?_
    refine R_list ?_
    refine q_d ?_
    refine O_weaken (Wk_sel (e1 := [(0, .ptr 1000 0), (2, rtesA v), (4, .ptr 4 0)]) (h1 := [(4, .var [.d (.sc (.int .u32 a)), .d (.sc (.int .i64 (B : Int)))]), (1000, tblB 1001 u), (1001, rmapB l)]) ⟨rfl, rfl, rfl, trivial⟩ ⟨rfl, rfl, kill_map 4 l, trivial⟩) ?_
    cases hag : aget l ⟨a, (B : Int)⟩ with
    | none =>
      repeat (first | refine A_seq ?_ | refine A_block ?_ | refine R_list ?_ | refine R_quiet rfl mixed (by kernel_rfl) ?_ | ((first | apply O_y rfl rfl rfl | apply Q_y rfl rfl rfl); (first | exact q_1 | exact q_2 | exact q_3 | exact q_4 | exact q_5 | exact q_6 | exact q_7 | exact q_8 | exact q_9 | exact q_10 | exact q_11 | exact q_12 | exact q_13 | exact q_14 | exact q_15 | exact q_16 | exact q_17 | exact q_18 | exact q_19 | exact q_20 | exact q_21 | exact q_22 | exact q_23 | exact q_24 | (first | exact R_pnil tabOk rfl rfl rfl rfl rfl | exact Y_nilCheck rfl rfl rfl | exact R_lkOut pfxKey pfxA_val zeroRts rfl trivial (fun _ _ => trivial) hn hag tabOk rfl rfl rfl rfl rfl rfl))) | refine O_nil ?_ | refine Q_nil ?_ | refine q_j ?_ | refine q_k ?_ | refine q_d ?_ | refine q_a ?_ | refine q_b ?_ | refine q_c ?_ | refine A_ct rfl ?_ | refine A_cf rfl ?_ | refine A_skip ?_ | refine A_exit ?_ | refine A_ret ?_ | refine q_l ?_ | refine q_m ?_ | refine q_n ?_ | refine q_h ?_ | refine q_o ?_ | refine q_e ?_ | refine q_f ?_ | refine q_g ?_ | refine O_c rfl rfl rfl rfl rfl hck (fun _ => rfl) ?_)
      refine N_begin [1000] mixed ?_
      repeat (first | ((first | apply q_M 0 rfl rfl (by kernel_rfl) (by decide +kernel) (by decide +kernel) rfl rfl rfl | apply q_M 1 rfl rfl (by kernel_rfl) (by decide +kernel) (by decide +kernel) rfl rfl rfl | apply q_M 2 rfl rfl (by kernel_rfl) (by decide +kernel) (by decide +kernel) rfl rfl rfl | apply q_M 3 rfl rfl (by kernel_rfl) (by decide +kernel) (by decide +kernel) rfl rfl rfl | apply q_M 4 rfl rfl (by kernel_rfl) (by decide +kernel) (by decide +kernel) rfl rfl rfl | apply q_M 5 rfl rfl (by kernel_rfl) (by decide +kernel) (by decide +kernel) rfl rfl rfl | apply q_M 6 rfl rfl (by kernel_rfl) (by decide +kernel) (by decide +kernel) rfl rfl rfl | apply q_M 7 rfl rfl (by kernel_rfl) (by decide +kernel) (by decide +kernel) rfl rfl rfl | apply q_M 8 rfl rfl (by kernel_rfl) (by decide +kernel) (by decide +kernel) rfl rfl rfl | apply q_M 9 rfl rfl (by kernel_rfl) (by decide +kernel) (by decide +kernel) rfl rfl rfl | apply q_M 10 rfl rfl (by kernel_rfl) (by decide +kernel) (by decide +kernel) rfl rfl rfl | apply q_M 11 rfl rfl (by kernel_rfl) (by decide +kernel) (by decide +kernel) rfl rfl rfl | apply q_M 12 rfl rfl (by kernel_rfl) (by decide +kernel) (by decide +kernel) rfl rfl rfl ); (first | exact q_1 | exact q_2 | exact q_3 | exact q_4 | exact q_5 | exact q_6 | exact q_7 | exact q_8 | exact q_9 | exact q_10 | exact q_11 | exact q_12 | exact q_13 | exact q_14 | exact q_15 | exact q_16 | exact q_17 | exact q_18 | exact q_19 | exact q_20 | exact q_21 | exact q_22 | exact q_23 | exact q_24 | (first | exact Y_nilCheck rfl rfl rfl | exact R_ixp tabOk rfl rfl rfl rfl rfl rfl rfl hB | exact R_load tabOk rfl rfl rfl rfl rfl rfl (used_get _ _ _ hB) rfl rfl))) | (apply q_L 0 rfl rfl (by kernel_rfl) (by decide +kernel) (by decide +kernel) rfl rfl rfl; (first | exact q_5 | exact q_6 | exact q_7 | exact q_15 | exact q_16 | exact q_19 | (first | exact Y_nilCheck rfl rfl rfl | exact R_ixp tabOk rfl rfl rfl rfl rfl rfl rfl hB | exact R_load tabOk rfl rfl rfl rfl rfl rfl (used_get _ _ _ hB) rfl rfl))) | (apply q_L 1 rfl rfl (by kernel_rfl) (by decide +kernel) (by decide +kernel) rfl rfl rfl; (first | exact q_5 | exact q_6 | exact q_7 | exact q_15 | exact q_16 | exact q_19 | (first | exact Y_nilCheck rfl rfl rfl | exact R_ixp tabOk rfl rfl rfl rfl rfl rfl rfl hB | exact R_load tabOk rfl rfl rfl rfl rfl rfl (used_get _ _ _ hB) rfl rfl))) | (apply q_L 2 rfl rfl (by kernel_rfl) (by decide +kernel) (by decide +kernel) rfl rfl rfl; (first | exact q_5 | exact q_6 | exact q_7 | exact q_15 | exact q_16 | exact q_19 | (first | exact Y_nilCheck rfl rfl rfl | exact R_ixp tabOk rfl rfl rfl rfl rfl rfl rfl hB | exact R_load tabOk rfl rfl rfl rfl rfl rfl (used_get _ _ _ hB) rfl rfl))) | (apply q_L 3 rfl rfl (by kernel_rfl) (by decide +kernel) (by decide +kernel) rfl rfl rfl; (first | exact q_5 | exact q_6 | exact q_7 | exact q_15 | exact q_16 | exact q_19 | (first | exact Y_nilCheck rfl rfl rfl | exact R_ixp tabOk rfl rfl rfl rfl rfl rfl rfl hB | exact R_load tabOk rfl rfl rfl rfl rfl rfl (used_get _ _ _ hB) rfl rfl))) | (apply q_L 4 rfl rfl (by kernel_rfl) (by decide +kernel) (by decide +kernel) rfl rfl rfl; (first | exact q_5 | exact q_6 | exact q_7 | exact q_15 | exact q_16 | exact q_19 | (first | exact Y_nilCheck rfl rfl rfl | exact R_ixp tabOk rfl rfl rfl rfl rfl rfl rfl hB | exact R_load tabOk rfl rfl rfl rfl rfl rfl (used_get _ _ _ hB) rfl rfl))) | (apply q_L 5 rfl rfl (by kernel_rfl) (by decide +kernel) (by decide +kernel) rfl rfl rfl; (first | exact q_5 | exact q_6 | exact q_7 | exact q_15 | exact q_16 | exact q_19 | (first | exact Y_nilCheck rfl rfl rfl | exact R_ixp tabOk rfl rfl rfl rfl rfl rfl rfl hB | exact R_load tabOk rfl rfl rfl rfl rfl rfl (used_get _ _ _ hB) rfl rfl))) | (apply q_L 6 rfl rfl (by kernel_rfl) (by decide +kernel) (by decide +kernel) rfl rfl rfl; (first | exact q_5 | exact q_6 | exact q_7 | exact q_15 | exact q_16 | exact q_19 | (first | exact Y_nilCheck rfl rfl rfl | exact R_ixp tabOk rfl rfl rfl rfl rfl rfl rfl hB | exact R_load tabOk rfl rfl rfl rfl rfl rfl (used_get _ _ _ hB) rfl rfl))) | (apply q_L 7 rfl rfl (by kernel_rfl) (by decide +kernel) (by decide +kernel) rfl rfl rfl; (first | exact q_5 | exact q_6 | exact q_7 | exact q_15 | exact q_16 | exact q_19 | (first | exact Y_nilCheck rfl rfl rfl | exact R_ixp tabOk rfl rfl rfl rfl rfl rfl rfl hB | exact R_load tabOk rfl rfl rfl rfl rfl rfl (used_get _ _ _ hB) rfl rfl))) | (apply q_L 8 rfl rfl (by kernel_rfl) (by decide +kernel) (by decide +kernel) rfl rfl rfl; (first | exact q_5 | exact q_6 | exact q_7 | exact q_15 | exact q_16 | exact q_19 | (first | exact Y_nilCheck rfl rfl rfl | exact R_ixp tabOk rfl rfl rfl rfl rfl rfl rfl hB | exact R_load tabOk rfl rfl rfl rfl rfl rfl (used_get _ _ _ hB) rfl rfl))) | (apply q_L 9 rfl rfl (by kernel_rfl) (by decide +kernel) (by decide +kernel) rfl rfl rfl; (first | exact q_5 | exact q_6 | exact q_7 | exact q_15 | exact q_16 | exact q_19 | (first | exact Y_nilCheck rfl rfl rfl | exact R_ixp tabOk rfl rfl rfl rfl rfl rfl rfl hB | exact R_load tabOk rfl rfl rfl rfl rfl rfl (used_get _ _ _ hB) rfl rfl))) | (apply q_L 10 rfl rfl (by kernel_rfl) (by decide +kernel) (by decide +kernel) rfl rfl rfl; (first | exact q_5 | exact q_6 | exact q_7 | exact q_15 | exact q_16 | exact q_19 | (first | exact Y_nilCheck rfl rfl rfl | exact R_ixp tabOk rfl rfl rfl rfl rfl rfl rfl hB | exact R_load tabOk rfl rfl rfl rfl rfl rfl (used_get _ _ _ hB) rfl rfl))) | (apply q_L 11 rfl rfl (by kernel_rfl) (by decide +kernel) (by decide +kernel) rfl rfl rfl; (first | exact q_5 | exact q_6 | exact q_7 | exact q_15 | exact q_16 | exact q_19 | (first | exact Y_nilCheck rfl rfl rfl | exact R_ixp tabOk rfl rfl rfl rfl rfl rfl rfl hB | exact R_load tabOk rfl rfl rfl rfl rfl rfl (used_get _ _ _ hB) rfl rfl))) | (apply q_L 12 rfl rfl (by kernel_rfl) (by decide +kernel) (by decide +kernel) rfl rfl rfl; (first | exact q_5 | exact q_6 | exact q_7 | exact q_15 | exact q_16 | exact q_19 | (first | exact Y_nilCheck rfl rfl rfl | exact R_ixp tabOk rfl rfl rfl rfl rfl rfl rfl hB | exact R_load tabOk rfl rfl rfl rfl rfl rfl (used_get _ _ _ hB) rfl rfl))) | refine N_one (j := 0) (by decide +kernel) ?_ | refine N_one (j := 1) (by decide +kernel) ?_ | refine N_one (j := 2) (by decide +kernel) ?_ | refine N_one (j := 3) (by decide +kernel) ?_ | refine N_one (j := 4) (by decide +kernel) ?_ | refine N_one (j := 5) (by decide +kernel) ?_ | refine N_one (j := 6) (by decide +kernel) ?_ | refine N_one (j := 7) (by decide +kernel) ?_ | refine N_one (j := 8) (by decide +kernel) ?_ | refine N_one (j := 9) (by decide +kernel) ?_ | refine N_one (j := 10) (by decide +kernel) ?_ | refine N_one (j := 11) (by decide +kernel) ?_ | refine N_one (j := 12) (by decide +kernel) ?_ | refine T_alloc tabOk rfl rfl rfl rfl rfl rfl rfl ?_ | refine T_store tabOk rfl rfl rfl rfl rfl rfl rfl rfl rfl rfl rfl rfl rfl ?_ | refine T_box rfl rfl rfl rfl rfl rfl rfl rfl ?_ | (apply T_yield rfl rfl rfl rfl; (first | exact q_1 | exact q_2 | exact q_3 | exact q_4 | exact q_5 | exact q_6 | exact q_7 | exact q_8 | exact q_9 | exact q_10 | exact q_11 | exact q_12 | exact q_13 | exact q_14 | exact q_15 | exact q_16 | exact q_17 | exact q_18 | exact q_19 | exact q_20 | exact q_21 | exact q_22 | exact q_23 | exact q_24 | (first | exact Y_nilCheck rfl rfl rfl | exact R_ixp tabOk rfl rfl rfl rfl rfl rfl rfl hB | exact R_load tabOk rfl rfl rfl rfl rfl rfl (used_get _ _ _ hB) rfl rfl))) | refine N_done (by decide +kernel) ?_ | (refine T_storeS tabOk rfl rfl rfl rfl rfl rfl rfl rfl rfl rfl rfl rfl (by simp [usedA]; omega) ?_))
      repeat (first | refine A_seq ?_ | refine A_block ?_ | refine R_list ?_ | refine R_quiet rfl mixed (by kernel_rfl) ?_ | ((first | apply O_y rfl rfl rfl | apply Q_y rfl rfl rfl); (first | exact q_1 | exact q_2 | exact q_3 | exact q_4 | exact q_5 | exact q_6 | exact q_7 | exact q_8 | exact q_9 | exact q_10 | exact q_11 | exact q_12 | exact q_13 | exact q_14 | exact q_15 | exact q_16 | exact q_17 | exact q_18 | exact q_19 | exact q_20 | exact q_21 | exact q_22 | exact q_23 | exact q_24 | fail)) | refine O_nil ?_ | refine Q_nil ?_ | refine q_j ?_ | refine q_k ?_ | refine q_d ?_ | refine q_a ?_ | refine q_b ?_ | refine q_c ?_ | refine A_ct rfl ?_ | refine A_cf rfl ?_ | refine A_skip ?_ | refine A_exit ?_ | refine A_ret ?_ | refine q_l ?_ | refine q_m ?_ | refine q_n ?_ | refine q_h ?_ | refine q_o ?_ | refine q_e ?_ | refine q_f ?_ | refine q_g ?_ | fail)
      refine A_weaken (Wk_sel (e1 := [(0, .ptr 1000 0), (2, rtesA v), (4, .ptr 4 0)]) (h1 := [(4, .var [.d (.sc (.int .u32 a)), .d (.sc (.int .i64 (B : Int)))]), (1000, tblB 1001 (bump u B 1)), (1001, rmapB l)]) ⟨rfl, rfl, rfl, trivial⟩ ⟨rfl, var_eq (used_set 1001 u B 1 hB) rfl, rfl, trivial⟩) ?_
      refine N_begin [1001] mixed ?_
      repeat (first | ((first | apply q_M 0 rfl rfl (by kernel_rfl) (by decide +kernel) (by decide +kernel) rfl rfl rfl | apply q_M 1 rfl rfl (by kernel_rfl) (by decide +kernel) (by decide +kernel) rfl rfl rfl | apply q_M 2 rfl rfl (by kernel_rfl) (by decide +kernel) (by decide +kernel) rfl rfl rfl | apply q_M 3 rfl rfl (by kernel_rfl) (by decide +kernel) (by decide +kernel) rfl rfl rfl | apply q_M 4 rfl rfl (by kernel_rfl) (by decide +kernel) (by decide +kernel) rfl rfl rfl | apply q_M 5 rfl rfl (by kernel_rfl) (by decide +kernel) (by decide +kernel) rfl rfl rfl | apply q_M 6 rfl rfl (by kernel_rfl) (by decide +kernel) (by decide +kernel) rfl rfl rfl | apply q_M 7 rfl rfl (by kernel_rfl) (by decide +kernel) (by decide +kernel) rfl rfl rfl | apply q_M 8 rfl rfl (by kernel_rfl) (by decide +kernel) (by decide +kernel) rfl rfl rfl | apply q_M 9 rfl rfl (by kernel_rfl) (by decide +kernel) (by decide +kernel) rfl rfl rfl | apply q_M 10 rfl rfl (by kernel_rfl) (by decide +kernel) (by decide +kernel) rfl rfl rfl | apply q_M 11 rfl rfl (by kernel_rfl) (by decide +kernel) (by decide +kernel) rfl rfl rfl | apply q_M 12 rfl rfl (by kernel_rfl) (by decide +kernel) (by decide +kernel) rfl rfl rfl ); (first | exact q_1 | exact q_2 | exact q_3 | exact q_4 | exact q_5 | exact q_6 | exact q_7 | exact q_8 | exact q_9 | exact q_10 | exact q_11 | exact q_12 | exact q_13 | exact q_14 | exact q_15 | exact q_16 | exact q_17 | exact q_18 | exact q_19 | exact q_20 | exact q_21 | exact q_22 | exact q_23 | exact q_24 | (first | exact Y_nilCheck rfl rfl rfl))) | (apply q_L 0 rfl rfl (by kernel_rfl) (by decide +kernel) (by decide +kernel) rfl rfl rfl; (first | exact q_5 | exact q_6 | exact q_7 | exact q_15 | exact q_16 | exact q_19 | (first | exact Y_nilCheck rfl rfl rfl))) | (apply q_L 1 rfl rfl (by kernel_rfl) (by decide +kernel) (by decide +kernel) rfl rfl rfl; (first | exact q_5 | exact q_6 | exact q_7 | exact q_15 | exact q_16 | exact q_19 | (first | exact Y_nilCheck rfl rfl rfl))) | (apply q_L 2 rfl rfl (by kernel_rfl) (by decide +kernel) (by decide +kernel) rfl rfl rfl; (first | exact q_5 | exact q_6 | exact q_7 | exact q_15 | exact q_16 | exact q_19 | (first | exact Y_nilCheck rfl rfl rfl))) | (apply q_L 3 rfl rfl (by kernel_rfl) (by decide +kernel) (by decide +kernel) rfl rfl rfl; (first | exact q_5 | exact q_6 | exact q_7 | exact q_15 | exact q_16 | exact q_19 | (first | exact Y_nilCheck rfl rfl rfl))) | (apply q_L 4 rfl rfl (by kernel_rfl) (by decide +kernel) (by decide +kernel) rfl rfl rfl; (first | exact q_5 | exact q_6 | exact q_7 | exact q_15 | exact q_16 | exact q_19 | (first | exact Y_nilCheck rfl rfl rfl))) | (apply q_L 5 rfl rfl (by kernel_rfl) (by decide +kernel) (by decide +kernel) rfl rfl rfl; (first | exact q_5 | exact q_6 | exact q_7 | exact q_15 | exact q_16 | exact q_19 | (first | exact Y_nilCheck rfl rfl rfl))) | (apply q_L 6 rfl rfl (by kernel_rfl) (by decide +kernel) (by decide +kernel) rfl rfl rfl; (first | exact q_5 | exact q_6 | exact q_7 | exact q_15 | exact q_16 | exact q_19 | (first | exact Y_nilCheck rfl rfl rfl))) | (apply q_L 7 rfl rfl (by kernel_rfl) (by decide +kernel) (by decide +kernel) rfl rfl rfl; (first | exact q_5 | exact q_6 | exact q_7 | exact q_15 | exact q_16 | exact q_19 | (first | exact Y_nilCheck rfl rfl rfl))) | (apply q_L 8 rfl rfl (by kernel_rfl) (by decide +kernel) (by decide +kernel) rfl rfl rfl; (first | exact q_5 | exact q_6 | exact q_7 | exact q_15 | exact q_16 | exact q_19 | (first | exact Y_nilCheck rfl rfl rfl))) | (apply q_L 9 rfl rfl (by kernel_rfl) (by decide +kernel) (by decide +kernel) rfl rfl rfl; (first | exact q_5 | exact q_6 | exact q_7 | exact q_15 | exact q_16 | exact q_19 | (first | exact Y_nilCheck rfl rfl rfl))) | (apply q_L 10 rfl rfl (by kernel_rfl) (by decide +kernel) (by decide +kernel) rfl rfl rfl; (first | exact q_5 | exact q_6 | exact q_7 | exact q_15 | exact q_16 | exact q_19 | (first | exact Y_nilCheck rfl rfl rfl))) | (apply q_L 11 rfl rfl (by kernel_rfl) (by decide +kernel) (by decide +kernel) rfl rfl rfl; (first | exact q_5 | exact q_6 | exact q_7 | exact q_15 | exact q_16 | exact q_19 | (first | exact Y_nilCheck rfl rfl rfl))) | (apply q_L 12 rfl rfl (by kernel_rfl) (by decide +kernel) (by decide +kernel) rfl rfl rfl; (first | exact q_5 | exact q_6 | exact q_7 | exact q_15 | exact q_16 | exact q_19 | (first | exact Y_nilCheck rfl rfl rfl))) | refine N_one (j := 0) (by decide +kernel) ?_ | refine N_one (j := 1) (by decide +kernel) ?_ | refine N_one (j := 2) (by decide +kernel) ?_ | refine N_one (j := 3) (by decide +kernel) ?_ | refine N_one (j := 4) (by decide +kernel) ?_ | refine N_one (j := 5) (by decide +kernel) ?_ | refine N_one (j := 6) (by decide +kernel) ?_ | refine N_one (j := 7) (by decide +kernel) ?_ | refine N_one (j := 8) (by decide +kernel) ?_ | refine N_one (j := 9) (by decide +kernel) ?_ | refine N_one (j := 10) (by decide +kernel) ?_ | refine N_one (j := 11) (by decide +kernel) ?_ | refine N_one (j := 12) (by decide +kernel) ?_ | refine T_alloc tabOk rfl rfl rfl rfl rfl rfl rfl ?_ | refine T_store tabOk rfl rfl rfl rfl rfl rfl rfl rfl rfl rfl rfl rfl rfl ?_ | refine T_box rfl rfl rfl rfl rfl rfl rfl rfl ?_ | (apply T_yield rfl rfl rfl rfl; (first | exact q_1 | exact q_2 | exact q_3 | exact q_4 | exact q_5 | exact q_6 | exact q_7 | exact q_8 | exact q_9 | exact q_10 | exact q_11 | exact q_12 | exact q_13 | exact q_14 | exact q_15 | exact q_16 | exact q_17 | exact q_18 | exact q_19 | exact q_20 | exact q_21 | exact q_22 | exact q_23 | exact q_24 | (first | exact Y_nilCheck rfl rfl rfl))) | refine N_done (by decide +kernel) ?_ | (refine T_upd (k := ⟨a, (B : Int)⟩) (xa := rtesA) (q := v) pfxKey pfxA_val pfxA_rel trivial (fun _ _ => trivial) hn tabOk rfl rfl rfl rfl rfl rfl rfl rfl rfl rfl ?_))
      repeat (first | refine A_seq ?_ | refine A_block ?_ | refine R_list ?_ | refine R_quiet rfl mixed (by kernel_rfl) ?_ | ((first | apply O_y rfl rfl rfl | apply Q_y rfl rfl rfl); (first | exact q_1 | exact q_2 | exact q_3 | exact q_4 | exact q_5 | exact q_6 | exact q_7 | exact q_8 | exact q_9 | exact q_10 | exact q_11 | exact q_12 | exact q_13 | exact q_14 | exact q_15 | exact q_16 | exact q_17 | exact q_18 | exact q_19 | exact q_20 | exact q_21 | exact q_22 | exact q_23 | exact q_24 | fail)) | refine O_nil ?_ | refine Q_nil ?_ | refine q_j ?_ | refine q_k ?_ | refine q_d ?_ | refine q_a ?_ | refine q_b ?_ | refine q_c ?_ | refine A_ct rfl ?_ | refine A_cf rfl ?_ | refine A_skip ?_ | refine A_exit ?_ | refine A_ret ?_ | refine q_l ?_ | refine q_m ?_ | refine q_n ?_ | refine q_h ?_ | refine q_o ?_ | refine q_e ?_ | refine q_f ?_ | refine q_g ?_ | fail)
      exact X_retW AWk.refl rfl (h2 := [(1000, tblB 1001 (bump u B 1)), (1001, rmapB (Go.Proofs.Ytnnclkeoakjjkaa.aput l ⟨a, (B : Int)⟩ v))]) ⟨rfl, rfl, trivial⟩ ⟨rfl, rfl⟩
    | some x =>
      repeat (first | refine A_seq ?_ | refine A_block ?_ | refine R_list ?_ | refine R_quiet rfl mixed (by kernel_rfl) ?_ | ((first | apply O_y rfl rfl rfl | apply Q_y rfl rfl rfl); (first | exact q_1 | exact q_2 | exact q_3 | exact q_4 | exact q_5 | exact q_6 | exact q_7 | exact q_8 | exact q_9 | exact q_10 | exact q_11 | exact q_12 | exact q_13 | exact q_14 | exact q_15 | exact q_16 | exact q_17 | exact q_18 | exact q_19 | exact q_20 | exact q_21 | exact q_22 | exact q_23 | exact q_24 | (first | exact R_pnil tabOk rfl rfl rfl rfl rfl | exact Y_nilCheck rfl rfl rfl | exact R_lkIn pfxKey pfxA_val zeroRts trivial (fun _ _ => trivial) hn hag tabOk rfl rfl rfl rfl rfl rfl))) | refine O_nil ?_ | refine Q_nil ?_ | refine q_j ?_ | refine q_k ?_ | refine q_d ?_ | refine q_a ?_ | refine q_b ?_ | refine q_c ?_ | refine A_ct rfl ?_ | refine A_cf rfl ?_ | refine A_skip ?_ | refine A_exit ?_ | refine A_ret ?_ | refine q_l ?_ | refine q_m ?_ | refine q_n ?_ | refine q_h ?_ | refine q_o ?_ | refine q_e ?_ | refine q_f ?_ | refine q_g ?_ | refine O_c rfl rfl rfl rfl rfl hck (fun _ => rfl) ?_)
      refine N_begin [1001] mixed ?_
      repeat (first | ((first | apply q_M 0 rfl rfl (by kernel_rfl) (by decide +kernel) (by decide +kernel) rfl rfl rfl | apply q_M 1 rfl rfl (by kernel_rfl) (by decide +kernel) (by decide +kernel) rfl rfl rfl | apply q_M 2 rfl rfl (by kernel_rfl) (by decide +kernel) (by decide +kernel) rfl rfl rfl | apply q_M 3 rfl rfl (by kernel_rfl) (by decide +kernel) (by decide +kernel) rfl rfl rfl | apply q_M 4 rfl rfl (by kernel_rfl) (by decide +kernel) (by decide +kernel) rfl rfl rfl | apply q_M 5 rfl rfl (by kernel_rfl) (by decide +kernel) (by decide +kernel) rfl rfl rfl | apply q_M 6 rfl rfl (by kernel_rfl) (by decide +kernel) (by decide +kernel) rfl rfl rfl | apply q_M 7 rfl rfl (by kernel_rfl) (by decide +kernel) (by decide +kernel) rfl rfl rfl | apply q_M 8 rfl rfl (by kernel_rfl) (by decide +kernel) (by decide +kernel) rfl rfl rfl | apply q_M 9 rfl rfl (by kernel_rfl) (by decide +kernel) (by decide +kernel) rfl rfl rfl | apply q_M 10 rfl rfl (by kernel_rfl) (by decide +kernel) (by decide +kernel) rfl rfl rfl | apply q_M 11 rfl rfl (by kernel_rfl) (by decide +kernel) (by decide +kernel) rfl rfl rfl | apply q_M 12 rfl rfl (by kernel_rfl) (by decide +kernel) (by decide +kernel) rfl rfl rfl ); (first | exact q_1 | exact q_2 | exact q_3 | exact q_4 | exact q_5 | exact q_6 | exact q_7 | exact q_8 | exact q_9 | exact q_10 | exact q_11 | exact q_12 | exact q_13 | exact q_14 | exact q_15 | exact q_16 | exact q_17 | exact q_18 | exact q_19 | exact q_20 | exact q_21 | exact q_22 | exact q_23 | exact q_24 | (first | exact Y_nilCheck rfl rfl rfl))) | (apply q_L 0 rfl rfl (by kernel_rfl) (by decide +kernel) (by decide +kernel) rfl rfl rfl; (first | exact q_5 | exact q_6 | exact q_7 | exact q_15 | exact q_16 | exact q_19 | (first | exact Y_nilCheck rfl rfl rfl))) | (apply q_L 1 rfl rfl (by kernel_rfl) (by decide +kernel) (by decide +kernel) rfl rfl rfl; (first | exact q_5 | exact q_6 | exact q_7 | exact q_15 | exact q_16 | exact q_19 | (first | exact Y_nilCheck rfl rfl rfl))) | (apply q_L 2 rfl rfl (by kernel_rfl) (by decide +kernel) (by decide +kernel) rfl rfl rfl; (first | exact q_5 | exact q_6 | exact q_7 | exact q_15 | exact q_16 | exact q_19 | (first | exact Y_nilCheck rfl rfl rfl))) | (apply q_L 3 rfl rfl (by kernel_rfl) (by decide +kernel) (by decide +kernel) rfl rfl rfl; (first | exact q_5 | exact q_6 | exact q_7 | exact q_15 | exact q_16 | exact q_19 | (first | exact Y_nilCheck rfl rfl rfl))) | (apply q_L 4 rfl rfl (by kernel_rfl) (by decide +kernel) (by decide +kernel) rfl rfl rfl; (first | exact q_5 | exact q_6 | exact q_7 | exact q_15 | exact q_16 | exact q_19 | (first | exact Y_nilCheck rfl rfl rfl))) | (apply q_L 5 rfl rfl (by kernel_rfl) (by decide +kernel) (by decide +kernel) rfl rfl rfl; (first | exact q_5 | exact q_6 | exact q_7 | exact q_15 | exact q_16 | exact q_19 | (first | exact Y_nilCheck rfl rfl rfl))) | (apply q_L 6 rfl rfl (by kernel_rfl) (by decide +kernel) (by decide +kernel) rfl rfl rfl; (first | exact q_5 | exact q_6 | exact q_7 | exact q_15 | exact q_16 | exact q_19 | (first | exact Y_nilCheck rfl rfl rfl))) | (apply q_L 7 rfl rfl (by kernel_rfl) (by decide +kernel) (by decide +kernel) rfl rfl rfl; (first | exact q_5 | exact q_6 | exact q_7 | exact q_15 | exact q_16 | exact q_19 | (first | exact Y_nilCheck rfl rfl rfl))) | (apply q_L 8 rfl rfl (by kernel_rfl) (by decide +kernel) (by decide +kernel) rfl rfl rfl; (first | exact q_5 | exact q_6 | exact q_7 | exact q_15 | exact q_16 | exact q_19 | (first | exact Y_nilCheck rfl rfl rfl))) | (apply q_L 9 rfl rfl (by kernel_rfl) (by decide +kernel) (by decide +kernel) rfl rfl rfl; (first | exact q_5 | exact q_6 | exact q_7 | exact q_15 | exact q_16 | exact q_19 | (first | exact Y_nilCheck rfl rfl rfl))) | (apply q_L 10 rfl rfl (by kernel_rfl) (by decide +kernel) (by decide +kernel) rfl rfl rfl; (first | exact q_5 | exact q_6 | exact q_7 | exact q_15 | exact q_16 | exact q_19 | (first | exact Y_nilCheck rfl rfl rfl))) | (apply q_L 11 rfl rfl (by kernel_rfl) (by decide +kernel) (by decide +kernel) rfl rfl rfl; (first | exact q_5 | exact q_6 | exact q_7 | exact q_15 | exact q_16 | exact q_19 | (first | exact Y_nilCheck rfl rfl rfl))) | (apply q_L 12 rfl rfl (by kernel_rfl) (by decide +kernel) (by decide +kernel) rfl rfl rfl; (first | exact q_5 | exact q_6 | exact q_7 | exact q_15 | exact q_16 | exact q_19 | (first | exact Y_nilCheck rfl rfl rfl))) | refine N_one (j := 0) (by decide +kernel) ?_ | refine N_one (j := 1) (by decide +kernel) ?_ | refine N_one (j := 2) (by decide +kernel) ?_ | refine N_one (j := 3) (by decide +kernel) ?_ | refine N_one (j := 4) (by decide +kernel) ?_ | refine N_one (j := 5) (by decide +kernel) ?_ | refine N_one (j := 6) (by decide +kernel) ?_ | refine N_one (j := 7) (by decide +kernel) ?_ | refine N_one (j := 8) (by decide +kernel) ?_ | refine N_one (j := 9) (by decide +kernel) ?_ | refine N_one (j := 10) (by decide +kernel) ?_ | refine N_one (j := 11) (by decide +kernel) ?_ | refine N_one (j := 12) (by decide +kernel) ?_ | refine T_alloc tabOk rfl rfl rfl rfl rfl rfl rfl ?_ | refine T_store tabOk rfl rfl rfl rfl rfl rfl rfl rfl rfl rfl rfl rfl rfl ?_ | refine T_box rfl rfl rfl rfl rfl rfl rfl rfl ?_ | (apply T_yield rfl rfl rfl rfl; (first | exact q_1 | exact q_2 | exact q_3 | exact q_4 | exact q_5 | exact q_6 | exact q_7 | exact q_8 | exact q_9 | exact q_10 | exact q_11 | exact q_12 | exact q_13 | exact q_14 | exact q_15 | exact q_16 | exact q_17 | exact q_18 | exact q_19 | exact q_20 | exact q_21 | exact q_22 | exact q_23 | exact q_24 | (first | exact Y_nilCheck rfl rfl rfl))) | refine N_done (by decide +kernel) ?_ | (refine T_upd (k := ⟨a, (B : Int)⟩) (xa := rtesA) (q := v) pfxKey pfxA_val pfxA_rel trivial (fun _ _ => trivial) hn tabOk rfl rfl rfl rfl rfl rfl rfl rfl rfl rfl ?_))
      repeat (first | refine A_seq ?_ | refine A_block ?_ | refine R_list ?_ | refine R_quiet rfl mixed (by kernel_rfl) ?_ | ((first | apply O_y rfl rfl rfl | apply Q_y rfl rfl rfl); (first | exact q_1 | exact q_2 | exact q_3 | exact q_4 | exact q_5 | exact q_6 | exact q_7 | exact q_8 | exact q_9 | exact q_10 | exact q_11 | exact q_12 | exact q_13 | exact q_14 | exact q_15 | exact q_16 | exact q_17 | exact q_18 | exact q_19 | exact q_20 | exact q_21 | exact q_22 | exact q_23 | exact q_24 | fail)) | refine O_nil ?_ | refine Q_nil ?_ | refine q_j ?_ | refine q_k ?_ | refine q_d ?_ | refine q_a ?_ | refine q_b ?_ | refine q_c ?_ | refine A_ct rfl ?_ | refine A_cf rfl ?_ | refine A_skip ?_ | refine A_exit ?_ | refine A_ret ?_ | refine q_l ?_ | refine q_m ?_ | refine q_n ?_ | refine q_h ?_ | refine q_o ?_ | refine q_e ?_ | refine q_f ?_ | refine q_g ?_ | fail)
      exact X_retW AWk.refl rfl (h2 := [(1000, tblB 1001 u), (1001, rmapB (Go.Proofs.Ytnnclkeoakjjkaa.aput l ⟨a, (B : Int)⟩ v))]) ⟨rfl, rfl, trivial⟩ ⟨rfl, rfl⟩
  · simp only [hc, if_false]
    have hR : (fun c h => c = intA (chk p) ∧ h = [(1000, tblB 1001 u), (1001, rmapB l)]) = (fun c h => c = intA (chk p) ∧ h = [(1000, tblB 1001 u), (1001, rmapB l)]) := rfl
    refine A_seq ?_
    refine R_list ?_
    refine q_d ?_
    refine O_weaken (Wk_sel (e1 := [(0, .ptr 1000 0), (2, rtesA v), (4, .ptr 4 0)]) (h1 := [(4, .var [.d (.sc (.int .u32 p.a)), .d (.sc (.int .i64 p.b))]), (1000, tblB 1001 u), (1001, rmapB l)]) ⟨rfl, rfl, rfl, trivial⟩ ⟨rfl, rfl, kill_map 4 l, trivial⟩) ?_
    repeat (first | refine A_seq ?_ | refine A_block ?_ | refine R_list ?_ | refine R_quiet rfl mixed (by kernel_rfl) ?_ | ((first | apply O_y rfl rfl rfl | apply Q_y rfl rfl rfl); (first | exact q_1 | exact q_2 | exact q_3 | exact q_4 | exact q_5 | exact q_6 | exact q_7 | exact q_8 | exact q_9 | exact q_10 | exact q_11 | exact q_12 | exact q_13 | exact q_14 | exact q_15 | exact q_16 | exact q_17 | exact q_18 | exact q_19 | exact q_20 | exact q_21 | exact q_22 | exact q_23 | exact q_24 | (first | exact R_pnil tabOk rfl rfl rfl rfl rfl))) | refine O_nil ?_ | refine Q_nil ?_ | refine q_j ?_ | refine q_k ?_ | refine q_d ?_ | refine q_a ?_ | refine q_b ?_ | refine q_c ?_ | refine A_ct rfl ?_ | refine A_cf rfl ?_ | refine A_skip ?_ | refine A_exit ?_ | refine A_ret ?_ | refine q_l ?_ | refine q_m ?_ | refine q_n ?_ | refine q_h ?_ | refine q_o ?_ | refine q_e ?_ | refine q_f ?_ | refine q_g ?_ | refine O_c rfl rfl rfl rfl rfl hck (fun _ => rfl) ?_)
    exact X_retW AWk.refl rfl (h2 := [(1000, tblB 1001 u), (1001, rmapB l)]) ⟨rfl, rfl, trivial⟩ ⟨rfl, rfl⟩
theorem subnet_A (x : Int) (k : Nat) (hk : k ≤ 32) (x0 : 0 ≤ x) (x1 : x < 4294967296) : ACall Try.prog 54 [.d (.sc (.int .u32 x)), intA (k : Int)] [] (Just (.tup [pfxA (sub x k), intA 0])) :=
  ACall_val (by kernel_rfl) rfl rfl rfl fun w => addrSubnet_any x (k : Int) w (by omega) (by omega) x0 x1
def overS (u : Nat → Int) (l : List (Pfx × List Rte)) (x : Int) (k : Nat) : List Pfx := ((List.range k).filter fun b => !(u b == 0) && (aget l (sub x (b : Nat))).isSome).map fun b => sub x (b : Nat)
theorem overS_in (u : Nat → Int) (l : List (Pfx × List Rte)) (x : Int) (k : Nat) (h1 : u k ≠ 0) {z : List Rte} (h2 : aget l (sub x (k : Nat)) = some z) : overS u l x (k + 1) = overS u l x k ++ [sub x (k : Nat)] := by
  unfold overS
  rw [List.range_succ, List.filter_append, List.map_append]
  simp [h1, h2]
theorem overS_no (u : Nat → Int) (l : List (Pfx × List Rte)) (x : Int) (k : Nat) (h1 : u k = 0 ∨ aget l (sub x (k : Nat)) = none) : overS u l x (k + 1) = overS u l x k := by
  unfold overS
  rw [List.range_succ, List.filter_append, List.map_append]
  rcases h1 with h1 | h1 <;> simp [h1]
theorem overS_len (u : Nat → Int) (l : List (Pfx × List Rte)) (x : Int) (k : Nat) : (overS u l x k).length ≤ k := by
  unfold overS
  rw [List.length_map]
  exact Nat.le_trans (List.length_filter_le _ _) (by simp)
theorem kill3 (i j k : Nat) (l : List (Pfx × List Rte)) : some (killB i (killB j (killB k (rmapB l)))) = some (rmapB l) := by
  have h : ∀ i, killB i (rmapB l) = rmapB l := fun i => Option.some.inj (kill_map i l)
  rw [h, h, h]
theorem freeze_map (id : Nat) (x : Dat) (l : List (Pfx × List Rte)) : some (frB id x (rmapB l)) = some (rmapB l) := by
  show some (ABlk.map ((l.map fun p => (pfxA p.1, rtesA p.2)).map fun p => (frV id x p.1, frV id x p.2))) = _
  rw [List.map_map]
  rfl
set_option maxHeartbeats 4000000 in
theorem over_A (u : Nat → Int) (l : List (Pfx × List Rte)) (x : Int) (x0 : 0 ≤ x) (x1 : x < 4294967296) (hn : (l.map (·.1)).Nodup) :
    ACall Try.prog 39 [.ptr 1000 0, .d (.sc (.int .u32 x))] [(1000, tblB 1001 u), (1001, rmapB l)] (fun c h => c = pfxsA (overS u l x 33) ∧ h = [(1000, tblB 1001 u), (1001, rmapB l)]) := by
  refine ACall_of tabOk Try.func39 rfl Try.ntmps39 (congrArg Array.toList Try.results39) (by kernel_rfl) rfl ?_
  repeat (first | refine A_seq ?_ | refine A_block ?_ | refine R_list ?_ | refine R_quiet rfl mixed (by kernel_rfl) ?_ | ((first | apply O_y rfl rfl rfl | apply Q_y rfl rfl rfl); (first | exact q_1 | exact q_2 | exact q_3 | exact q_4 | exact q_5 | exact q_6 | exact q_7 | exact q_8 | exact q_9 | exact q_10 | exact q_11 | exact q_12 | exact q_13 | exact q_14 | exact q_15 | exact q_16 | exact q_17 | exact q_18 | exact q_19 | exact q_20 | exact q_21 | exact q_22 | exact q_23 | exact q_24 | (first | exact R_pnil tabOk rfl rfl rfl rfl rfl | exact Y_nilCheck rfl rfl rfl))) | refine O_nil ?_ | refine Q_nil ?_ | refine q_j ?_ | refine q_k ?_ | refine q_d ?_ | refine q_a ?_ | refine q_b ?_ | refine q_c ?_ | refine A_ct rfl ?_ | refine A_cf rfl ?_ | refine A_skip ?_ | refine A_exit ?_ | refine A_ret ?_ | refine q_l ?_ | refine q_m ?_ | refine q_n ?_ | refine q_h ?_ | refine q_o ?_ | refine q_e ?_ | refine q_f ?_ | refine q_g ?_ | fail)
  refine A_weaken (Wk_nil 26 2 (t := 5) (id := 5) rfl rfl) ?_
  refine A_loop (fun k : Nat => [(0, .ptr 1000 0), (1, .d (.sc (.int .u32 x))), (5, .row 5), (17, .agg (usedA u)), (18, intA (k : Int))]) (fun k => [(5, .row 26 2 (overS u l x k).length ((overS u l x k).flatMap pfxD)), (1000, tblB 1001 u), (1001, rmapB l)]) (fun k => k ≤ 33) (fun k => 33 - k) 0 (by omega) (Wk_sel ⟨rfl, rfl, rfl, rfl, rfl, trivial⟩ ⟨rfl, rfl, kill_map 5 l, trivial⟩) ?_
  intro k hk
  dsimp only
  have hlen := overS_len u l x k
  by_cases hlt : k < 33
  · have hk32 : k ≤ 32 := by omega
    have huk : (usedA u)[k]? = some (intA (u k)) := by simp [usedA, List.getElem?_map, List.getElem?_range hlt]
    by_cases h0 : u k = 0
    ·
      repeat (first | refine A_seq ?_ | refine A_block ?_ | refine R_list ?_ | refine R_quiet rfl mixed (by kernel_rfl) ?_ | ((first | apply O_y rfl rfl rfl | apply Q_y rfl rfl rfl); (first | exact q_1 | exact q_2 | exact q_3 | exact q_4 | exact q_5 | exact q_6 | exact q_7 | exact q_8 | exact q_9 | exact q_10 | exact q_11 | exact q_12 | exact q_13 | exact q_14 | exact q_15 | exact q_16 | exact q_17 | exact q_18 | exact q_19 | exact q_20 | exact q_21 | exact q_22 | exact q_23 | exact q_24 | (first | exact R_ixa tabOk rfl rfl rfl rfl rfl rfl rfl hlt huk))) | refine O_nil ?_ | refine Q_nil ?_ | refine q_j ?_ | refine q_k ?_ | refine q_d ?_ | refine q_a ?_ | refine q_b ?_ | refine q_c ?_ | refine A_ct rfl ?_ | refine A_cf rfl ?_ | refine A_skip ?_ | refine A_exit ?_ | refine A_ret ?_ | refine q_l ?_ | refine q_m ?_ | refine q_n ?_ | refine q_h ?_ | refine q_o ?_ | refine q_e ?_ | refine q_f ?_ | refine q_g ?_ | fail)
      exact ⟨k + 1, by omega, by omega, Wk_sel ⟨rfl, rfl, rfl, rfl, rfl, trivial⟩ ⟨by rw [overS_no u l x k (.inl h0)]; rfl, rfl, rfl, trivial⟩⟩
    · cases hag : aget l (sub x (k : Nat)) with
      | none =>
        repeat (first | refine A_seq ?_ | refine A_block ?_ | refine R_list ?_ | refine R_quiet rfl mixed (by kernel_rfl) ?_ | ((first | apply O_y rfl rfl rfl | apply Q_y rfl rfl rfl); (first | exact q_1 | exact q_2 | exact q_3 | exact q_4 | exact q_5 | exact q_6 | exact q_7 | exact q_8 | exact q_9 | exact q_10 | exact q_11 | exact q_12 | exact q_13 | exact q_14 | exact q_15 | exact q_16 | exact q_17 | exact q_18 | exact q_19 | exact q_20 | exact q_21 | exact q_22 | exact q_23 | exact q_24 | (first | exact R_ixa tabOk rfl rfl rfl rfl rfl rfl rfl hlt huk | exact Y_nilCheck rfl rfl rfl | exact R_lkOut pfxKey pfxA_val zeroRts rfl trivial (fun _ _ => trivial) hn hag tabOk rfl rfl rfl (kill_map 8 l) rfl rfl))) | refine O_nil ?_ | refine Q_nil ?_ | refine q_j ?_ | refine q_k ?_ | refine q_d ?_ | refine q_a ?_ | refine q_b ?_ | refine q_c ?_ | refine A_ct rfl ?_ | refine A_cf rfl ?_ | refine A_skip ?_ | refine A_exit ?_ | refine A_ret ?_ | refine q_l ?_ | refine q_m ?_ | refine q_n ?_ | refine q_h ?_ | refine q_o ?_ | refine q_e ?_ | refine q_f ?_ | refine q_g ?_ | refine O_c rfl rfl rfl rfl rfl (subnet_A x k hk32 x0 x1) (fun _ => rfl) ?_)
        exact ⟨k + 1, by omega, by omega, Wk_sel ⟨rfl, rfl, rfl, rfl, rfl, trivial⟩ ⟨by rw [overS_no u l x k (.inr hag)]; rfl, rfl, kill_map 8 l, trivial⟩⟩
      | some z =>
        repeat (first | refine A_seq ?_ | refine A_block ?_ | refine R_list ?_ | refine R_quiet rfl mixed (by kernel_rfl) ?_ | ((first | apply O_y rfl rfl rfl | apply Q_y rfl rfl rfl); (first | exact q_1 | exact q_2 | exact q_3 | exact q_4 | exact q_5 | exact q_6 | exact q_7 | exact q_8 | exact q_9 | exact q_10 | exact q_11 | exact q_12 | exact q_13 | exact q_14 | exact q_15 | exact q_16 | exact q_17 | exact q_18 | exact q_19 | exact q_20 | exact q_21 | exact q_22 | exact q_23 | exact q_24 | (first | exact R_ixa tabOk rfl rfl rfl rfl rfl rfl rfl hlt huk | exact Y_nilCheck rfl rfl rfl | exact R_lkIn pfxKey pfxA_val zeroRts trivial (fun _ _ => trivial) hn hag tabOk rfl rfl rfl (kill_map 8 l) rfl rfl))) | refine O_nil ?_ | refine Q_nil ?_ | refine q_j ?_ | refine q_k ?_ | refine q_d ?_ | refine q_a ?_ | refine q_b ?_ | refine q_c ?_ | refine A_ct rfl ?_ | refine A_cf rfl ?_ | refine A_skip ?_ | refine A_exit ?_ | refine A_ret ?_ | refine q_l ?_ | refine q_m ?_ | refine q_n ?_ | refine q_h ?_ | refine q_o ?_ | refine q_e ?_ | refine q_f ?_ | refine q_g ?_ | (first | refine O_c rfl rfl rfl rfl rfl (subnet_A x k hk32 x0 x1) (fun _ => rfl) ?_ | (first | refine O_appR tabOk rfl rfl rfl rfl rfl rfl rfl rfl rfl rfl rfl (by first | exact Src.row rfl | exact Src.dat _ _ | exact Src.nil) rfl (by omega) ?_ | refine O_appN tabOk rfl rfl rfl rfl rfl rfl rfl rfl rfl rfl (by first | exact Src.row rfl | exact Src.dat _ _ | exact Src.nil) rfl (by omega) ?_)))
        exact ⟨k + 1, by omega, by omega, Wk_sel ⟨rfl, rfl, rfl, rfl, rfl, trivial⟩ ⟨row_eq (by rw [overS_in u l x k h0 hag]; simp) (by rw [overS_in u l x k h0 hag, List.flatMap_append]; simp [pfxD]) rfl, rfl, kill3 _ _ _ l, trivial⟩⟩
  · have hk33 : k = 33 := by omega
    subst hk33
    repeat (first | refine A_seq ?_ | refine A_block ?_ | refine R_list ?_ | refine R_quiet rfl mixed (by kernel_rfl) ?_ | ((first | apply O_y rfl rfl rfl | apply Q_y rfl rfl rfl); (first | exact q_1 | exact q_2 | exact q_3 | exact q_4 | exact q_5 | exact q_6 | exact q_7 | exact q_8 | exact q_9 | exact q_10 | exact q_11 | exact q_12 | exact q_13 | exact q_14 | exact q_15 | exact q_16 | exact q_17 | exact q_18 | exact q_19 | exact q_20 | exact q_21 | exact q_22 | exact q_23 | exact q_24 | fail)) | refine O_nil ?_ | refine Q_nil ?_ | refine q_j ?_ | refine q_k ?_ | refine q_d ?_ | refine q_a ?_ | refine q_b ?_ | refine q_c ?_ | refine A_ct rfl ?_ | refine A_cf rfl ?_ | refine A_skip ?_ | refine A_exit ?_ | refine A_ret ?_ | refine q_l ?_ | refine q_m ?_ | refine q_n ?_ | refine q_h ?_ | refine q_o ?_ | refine q_e ?_ | refine q_f ?_ | refine q_g ?_ | fail)
    refine X_retW (Wk_freeze (id := 5) rfl) rfl (h2 := [(1000, tblB 1001 u), (1001, rmapB l)]) ⟨rfl, freeze_map _ _ l, trivial⟩ ⟨rfl, rfl⟩
theorem ren_map (ρ : List (Nat × Nat)) (l : List (Pfx × List Rte)) : renB ρ (rmapB l) = rmapB l := by
  show ABlk.map ((l.map fun p => (pfxA p.1, rtesA p.2)).map fun p => (renV ρ p.1, renV ρ p.2)) = _
  rw [List.map_map]
  rfl
theorem ok_map (ρ : List (Nat × Nat)) (l : List (Pfx × List Rte)) : okB ρ (rmapB l) := by
  intro p hp
  obtain ⟨q, _, rfl⟩ := List.mem_map.1 hp
  exact ⟨rfl, rfl⟩
theorem ok_tbl (i j : Nat) (u : Nat → Int) : okB [(1000, i), (1001, j)] (tblB 1001 u) := by
  intro c hc
  rcases List.mem_cons.1 hc with rfl | hc
  · rfl
  · obtain ⟨b, _, rfl⟩ := List.mem_map.1 hc
    rfl
theorem ren_tbl (i j : Nat) (u : Nat → Int) : renB [(1000, i), (1001, j)] (tblB 1001 u) = tblB j u := by
  show ABlk.var (renV _ (.mp 1001) :: (usedA u).map (renV _)) = _
  unfold tblB usedA
  rw [List.map_map]
  rfl
section
variable {P : Program} {nt : Nat} {Q : Post} {e : Env} {h : Heap} {o : Oper} {ops : Array Oper} {rest : List Oper}
theorem look_pass {p k i j : Nat} (h : look [(1000, i), (1001, j)] p = some k) : (p = 1000 ∧ k = i) ∨ (p = 1001 ∧ k = j) := by
  by_cases h1 : 1000 = p
  · subst h1; rw [look_cons_same] at h; cases h; exact .inl ⟨rfl, rfl⟩
  · rw [look_cons_ne _ _ h1] at h
    by_cases h2 : 1001 = p
    · subst h2; rw [look_cons_same] at h; cases h; exact .inr ⟨rfl, rfl⟩
    · rw [look_cons_ne _ _ h2] at h; cases h
theorem O_cTbl {f : FuncId} {args : Array Operand} {ats : Array TypeId} {cs0 cs : List AVal} {c : AVal} {d : Nat} (i j : Nat) (hij : i ≠ j) {u u' : Nat → Int} {l l' : List (Pfx × List Rte)}
    (H : ACall P f cs [(1000, tblB 1001 u), (1001, rmapB l)] (fun c' h' => c' = c ∧ h' = [(1000, tblB 1001 u'), (1001, rmapB l')])) (hw : awant ops e o = some true) (hdst : o.dst = some d) (hd : Nat.blt d nt = true) (ho : o.op = .call { callee := .value (.func f), args := args, argTypes := ats }) (hx : aevs e args.toList = some cs0)
    (hok : cs.all (okV [(1000, i), (1001, j)]) = true) (hcs : cs.map (renV [(1000, i), (1001, j)]) = cs0) (hi : look h i = some (tblB j u)) (hj : look h j = some (rmapB l))
    (HK : AOps P nt ops Q rest ((d, renV [(1000, i), (1001, j)] c) :: e) ((i, tblB j u') :: (j, rmapB l') :: h)) : AOps P nt ops Q (o :: rest) e h := by
  refine O_cP [(1000, i), (1001, j)] (fun p p' k h1 h2 => ?_) (fun p k h1 => ?_) H (fun c hc => List.all_eq_true.1 hok c hc) ⟨⟨i, _, rfl, hi, ren_tbl i j u, ok_tbl i j u⟩, ⟨j, _, rfl, hj, ren_map _ l, ok_map _ l⟩, trivial⟩ hw hdst hd ho hx hcs ?_
  · rcases look_pass h1 with ⟨h3, h4⟩ | ⟨h3, h4⟩ <;> rcases look_pass h2 with ⟨h5, h6⟩ | ⟨h5, h6⟩ <;> omega
  · rcases look_pass h1 with ⟨h3, h4⟩ | ⟨h3, h4⟩ <;> subst h3 <;> exact ⟨by omega, rfl, rfl⟩
  · have e1 : renH [(1000, i), (1001, j)] [(1000, tblB 1001 u'), (1001, rmapB l')] ++ h = (i, tblB j u') :: (j, rmapB l') :: h := by
      show (i, renB _ (tblB 1001 u')) :: (j, renB _ (rmapB l')) :: ([] ++ h) = _
      rw [ren_tbl, ren_map]
      rfl
    rw [e1]
    exact HK
end
theorem overS_mem (u : Nat → Int) (l : List (Pfx × List Rte)) (x : Int) (k : Nat) (q : Pfx) (h : q ∈ overS u l x k) : ∃ z, aget l q = some z := by
  unfold overS at h
  obtain ⟨b, hb, rfl⟩ := List.mem_map.1 h
  have := (List.mem_filter.1 hb).2
  simp only [Bool.and_eq_true] at this
  exact Option.isSome_iff_exists.1 this.2
def longR (u : Nat → Int) (l : List (Pfx × List Rte)) (x : Int) : Pfx × List Rte × Bool := match (overS u l x 33).getLast? with
  | some p => (p, (aget l p).getD [], true)
  | none => (⟨0, 0⟩, [], false)
set_option maxHeartbeats 4000000 in
theorem longest_A (u : Nat → Int) (l : List (Pfx × List Rte)) (x : Int) (x0 : 0 ≤ x) (x1 : x < 4294967296) (hn : (l.map (·.1)).Nodup) :
    ACall Try.prog 26 [.ptr 1000 0, .d (.sc (.int .u32 x))] [(1000, tblB 1001 u), (1001, rmapB l)] (fun c h => c = .tup [pfxA (longR u l x).1, rtesA (longR u l x).2.1, boolA (longR u l x).2.2] ∧ h = [(1000, tblB 1001 u), (1001, rmapB l)]) := by
  refine ACall_of tabOk Try.func26 rfl Try.ntmps26 (congrArg Array.toList Try.results26) (by kernel_rfl) rfl ?_
  refine A_seq ?_
  refine R_list ?_
  refine q_a ?_
  refine O_weaken (Wk_sel (e1 := [(0, .ptr 1000 0), (1, .d (.sc (.int .u32 x))), (4, .ptr 4 0)]) (h1 := [(4, .var [.d (.sc (.int .u32 0)), .d (.sc (.int .i64 0))]), (1000, tblB 1001 u), (1001, rmapB l)]) ⟨rfl, rfl, rfl, trivial⟩ ⟨rfl, rfl, kill_map 4 l, trivial⟩) ?_
  obtain ⟨L, hL⟩ : ∃ L, overS u l x 33 = L := ⟨_, rfl⟩
  have hov := over_A u l x x0 x1 hn
  rw [hL] at hov
  have hLn : L.length ≤ 33 := by rw [← hL]; exact overS_len u l x 33
  unfold longR
  rw [hL]
  by_cases h0 : L.length = 0
  · have : L = [] := List.length_eq_zero_iff.1 h0
    subst this
    repeat (first | refine A_seq ?_ | refine A_block ?_ | refine R_list ?_ | refine R_quiet rfl mixed (by kernel_rfl) ?_ | ((first | apply O_y rfl rfl rfl | apply Q_y rfl rfl rfl); (first | exact q_1 | exact q_2 | exact q_3 | exact q_4 | exact q_5 | exact q_6 | exact q_7 | exact q_8 | exact q_9 | exact q_10 | exact q_11 | exact q_12 | exact q_13 | exact q_14 | exact q_15 | exact q_16 | exact q_17 | exact q_18 | exact q_19 | exact q_20 | exact q_21 | exact q_22 | exact q_23 | exact q_24 | fail)) | refine O_nil ?_ | refine Q_nil ?_ | refine q_j ?_ | refine q_k ?_ | refine q_d ?_ | refine q_a ?_ | refine q_b ?_ | refine q_c ?_ | refine A_ct rfl ?_ | refine A_cf rfl ?_ | refine A_skip ?_ | refine A_exit ?_ | refine A_ret ?_ | refine q_l ?_ | refine q_m ?_ | refine q_n ?_ | refine q_h ?_ | refine q_o ?_ | refine q_e ?_ | refine q_f ?_ | refine q_g ?_ | (refine O_cTbl 1000 1001 (by omega) hov rfl rfl rfl rfl rfl rfl rfl rfl rfl ?_))
    exact X_retW (Wk_see (t := 5) rfl see_nil) rfl (h2 := [(1000, tblB 1001 u), (1001, rmapB l)]) ⟨rfl, rfl, trivial⟩ ⟨rfl, rfl⟩
  · have hlt : L.length - 1 < L.length := by omega
    repeat (first | refine A_seq ?_ | refine A_block ?_ | refine R_list ?_ | refine R_quiet rfl mixed (by kernel_rfl) ?_ | ((first | apply O_y rfl rfl rfl | apply Q_y rfl rfl rfl); (first | exact q_1 | exact q_2 | exact q_3 | exact q_4 | exact R_loadi tabOk rfl rfl rfl rfl (by first | exact win_flat0 pfxD_len L (L.length - 1) _ hlt (by decide) | exact win_flat pfxD_len L (L.length - 1) _ _ hlt (by decide) | exact win_flat2 pfxD_len L (L.length - 1) _ _ _ hlt (by decide) | rfl) rfl rfl | exact q_6 | exact q_7 | exact q_8 | exact q_9 | exact q_10 | exact q_11 | exact q_12 | exact q_13 | exact q_14 | exact q_15 | exact q_16 | exact q_17 | exact q_18 | exact q_19 | exact q_20 | exact q_21 | exact q_22 | exact q_23 | exact q_24 | (exact R_index (j := L.length - 1) tabOk rfl rfl rfl rfl rfl (by omega) hlt))) | refine O_nil ?_ | refine Q_nil ?_ | refine q_j ?_ | refine q_k ?_ | refine q_d ?_ | refine q_a ?_ | refine q_b ?_ | refine q_c ?_ | refine A_ct rfl ?_ | refine A_cf rfl ?_ | refine A_skip ?_ | refine A_exit ?_ | refine A_ret ?_ | refine q_l ?_ | refine q_m ?_ | refine q_n ?_ | refine q_h ?_ | refine q_o ?_ | refine q_e ?_ | refine q_f ?_ | refine q_g ?_ | (refine O_cTbl 1000 1001 (by omega) hov rfl rfl rfl rfl rfl rfl rfl rfl rfl ?_))
    obtain ⟨q, hq⟩ : ∃ q, L[L.length - 1] = q := ⟨_, rfl⟩
    have hlast : L.getLast? = some q := by rw [List.getLast?_eq_getElem?, List.getElem?_eq_getElem hlt, hq]
    obtain ⟨z, hz⟩ : ∃ z, aget l q = some z := by
      refine overS_mem u l x 33 q ?_
      rw [hL]
      exact List.mem_of_getElem? (by rw [← hq]; exact List.getElem?_eq_getElem hlt)
    rw [hq]
    refine A_weaken (Wk_sel (e1 := [(0, .ptr 1000 0), (4, .ptr 4 0)]) (h1 := [(4, .var [.d (.sc (.int .u32 q.a)), .d (.sc (.int .i64 q.b))]), (1000, tblB 1001 u), (1001, rmapB l)]) ⟨rfl, rfl, trivial⟩ ⟨rfl, rfl, rfl, trivial⟩) ?_
    refine N_begin [4] mixed ?_
    repeat (first | ((first | apply q_M 0 rfl rfl (by kernel_rfl) (by decide +kernel) (by decide +kernel) rfl rfl rfl | apply q_M 1 rfl rfl (by kernel_rfl) (by decide +kernel) (by decide +kernel) rfl rfl rfl | apply q_M 2 rfl rfl (by kernel_rfl) (by decide +kernel) (by decide +kernel) rfl rfl rfl | apply q_M 3 rfl rfl (by kernel_rfl) (by decide +kernel) (by decide +kernel) rfl rfl rfl | apply q_M 4 rfl rfl (by kernel_rfl) (by decide +kernel) (by decide +kernel) rfl rfl rfl | apply q_M 5 rfl rfl (by kernel_rfl) (by decide +kernel) (by decide +kernel) rfl rfl rfl | apply q_M 6 rfl rfl (by kernel_rfl) (by decide +kernel) (by decide +kernel) rfl rfl rfl | apply q_M 7 rfl rfl (by kernel_rfl) (by decide +kernel) (by decide +kernel) rfl rfl rfl | apply q_M 8 rfl rfl (by kernel_rfl) (by decide +kernel) (by decide +kernel) rfl rfl rfl | apply q_M 9 rfl rfl (by kernel_rfl) (by decide +kernel) (by decide +kernel) rfl rfl rfl | apply q_M 10 rfl rfl (by kernel_rfl) (by decide +kernel) (by decide +kernel) rfl rfl rfl | apply q_M 11 rfl rfl (by kernel_rfl) (by decide +kernel) (by decide +kernel) rfl rfl rfl | apply q_M 12 rfl rfl (by kernel_rfl) (by decide +kernel) (by decide +kernel) rfl rfl rfl ); (first | exact q_1 | exact q_2 | exact q_3 | exact q_4 | exact q_5 | exact q_6 | exact q_7 | exact q_8 | exact q_9 | exact q_10 | exact q_11 | exact q_12 | exact q_13 | exact q_14 | exact q_15 | exact q_16 | exact q_17 | exact q_18 | exact q_19 | exact q_20 | exact q_21 | exact q_22 | exact q_23 | exact q_24 | (first | exact Y_nilCheck rfl rfl rfl | exact R_lk1 pfxKey pfxA_val zeroRts trivial (fun _ _ => trivial) hn hz tabOk rfl rfl rfl rfl rfl rfl))) | (apply q_L 0 rfl rfl (by kernel_rfl) (by decide +kernel) (by decide +kernel) rfl rfl rfl; (first | exact q_5 | exact q_6 | exact q_7 | exact q_15 | exact q_16 | exact q_19 | (first | exact Y_nilCheck rfl rfl rfl | exact R_lk1 pfxKey pfxA_val zeroRts trivial (fun _ _ => trivial) hn hz tabOk rfl rfl rfl rfl rfl rfl))) | (apply q_L 1 rfl rfl (by kernel_rfl) (by decide +kernel) (by decide +kernel) rfl rfl rfl; (first | exact q_5 | exact q_6 | exact q_7 | exact q_15 | exact q_16 | exact q_19 | (first | exact Y_nilCheck rfl rfl rfl | exact R_lk1 pfxKey pfxA_val zeroRts trivial (fun _ _ => trivial) hn hz tabOk rfl rfl rfl rfl rfl rfl))) | (apply q_L 2 rfl rfl (by kernel_rfl) (by decide +kernel) (by decide +kernel) rfl rfl rfl; (first | exact q_5 | exact q_6 | exact q_7 | exact q_15 | exact q_16 | exact q_19 | (first | exact Y_nilCheck rfl rfl rfl | exact R_lk1 pfxKey pfxA_val zeroRts trivial (fun _ _ => trivial) hn hz tabOk rfl rfl rfl rfl rfl rfl))) | (apply q_L 3 rfl rfl (by kernel_rfl) (by decide +kernel) (by decide +kernel) rfl rfl rfl; (first | exact q_5 | exact q_6 | exact q_7 | exact q_15 | exact q_16 | exact q_19 | (first | exact Y_nilCheck rfl rfl rfl | exact R_lk1 pfxKey pfxA_val zeroRts trivial (fun _ _ => trivial) hn hz tabOk rfl rfl rfl rfl rfl rfl))) | (apply q_L 4 rfl rfl (by kernel_rfl) (by decide +kernel) (by decide +kernel) rfl rfl rfl; (first | exact q_5 | exact q_6 | exact q_7 | exact q_15 | exact q_16 | exact q_19 | (first | exact Y_nilCheck rfl rfl rfl | exact R_lk1 pfxKey pfxA_val zeroRts trivial (fun _ _ => trivial) hn hz tabOk rfl rfl rfl rfl rfl rfl))) | (apply q_L 5 rfl rfl (by kernel_rfl) (by decide +kernel) (by decide +kernel) rfl rfl rfl; (first | exact q_5 | exact q_6 | exact q_7 | exact q_15 | exact q_16 | exact q_19 | (first | exact Y_nilCheck rfl rfl rfl | exact R_lk1 pfxKey pfxA_val zeroRts trivial (fun _ _ => trivial) hn hz tabOk rfl rfl rfl rfl rfl rfl))) | (apply q_L 6 rfl rfl (by kernel_rfl) (by decide +kernel) (by decide +kernel) rfl rfl rfl; (first | exact q_5 | exact q_6 | exact q_7 | exact q_15 | exact q_16 | exact q_19 | (first | exact Y_nilCheck rfl rfl rfl | exact R_lk1 pfxKey pfxA_val zeroRts trivial (fun _ _ => trivial) hn hz tabOk rfl rfl rfl rfl rfl rfl))) | (apply q_L 7 rfl rfl (by kernel_rfl) (by decide +kernel) (by decide +kernel) rfl rfl rfl; (first | exact q_5 | exact q_6 | exact q_7 | exact q_15 | exact q_16 | exact q_19 | (first | exact Y_nilCheck rfl rfl rfl | exact R_lk1 pfxKey pfxA_val zeroRts trivial (fun _ _ => trivial) hn hz tabOk rfl rfl rfl rfl rfl rfl))) | (apply q_L 8 rfl rfl (by kernel_rfl) (by decide +kernel) (by decide +kernel) rfl rfl rfl; (first | exact q_5 | exact q_6 | exact q_7 | exact q_15 | exact q_16 | exact q_19 | (first | exact Y_nilCheck rfl rfl rfl | exact R_lk1 pfxKey pfxA_val zeroRts trivial (fun _ _ => trivial) hn hz tabOk rfl rfl rfl rfl rfl rfl))) | (apply q_L 9 rfl rfl (by kernel_rfl) (by decide +kernel) (by decide +kernel) rfl rfl rfl; (first | exact q_5 | exact q_6 | exact q_7 | exact q_15 | exact q_16 | exact q_19 | (first | exact Y_nilCheck rfl rfl rfl | exact R_lk1 pfxKey pfxA_val zeroRts trivial (fun _ _ => trivial) hn hz tabOk rfl rfl rfl rfl rfl rfl))) | (apply q_L 10 rfl rfl (by kernel_rfl) (by decide +kernel) (by decide +kernel) rfl rfl rfl; (first | exact q_5 | exact q_6 | exact q_7 | exact q_15 | exact q_16 | exact q_19 | (first | exact Y_nilCheck rfl rfl rfl | exact R_lk1 pfxKey pfxA_val zeroRts trivial (fun _ _ => trivial) hn hz tabOk rfl rfl rfl rfl rfl rfl))) | (apply q_L 11 rfl rfl (by kernel_rfl) (by decide +kernel) (by decide +kernel) rfl rfl rfl; (first | exact q_5 | exact q_6 | exact q_7 | exact q_15 | exact q_16 | exact q_19 | (first | exact Y_nilCheck rfl rfl rfl | exact R_lk1 pfxKey pfxA_val zeroRts trivial (fun _ _ => trivial) hn hz tabOk rfl rfl rfl rfl rfl rfl))) | (apply q_L 12 rfl rfl (by kernel_rfl) (by decide +kernel) (by decide +kernel) rfl rfl rfl; (first | exact q_5 | exact q_6 | exact q_7 | exact q_15 | exact q_16 | exact q_19 | (first | exact Y_nilCheck rfl rfl rfl | exact R_lk1 pfxKey pfxA_val zeroRts trivial (fun _ _ => trivial) hn hz tabOk rfl rfl rfl rfl rfl rfl))) | refine N_one (j := 0) (by decide +kernel) ?_ | refine N_one (j := 1) (by decide +kernel) ?_ | refine N_one (j := 2) (by decide +kernel) ?_ | refine N_one (j := 3) (by decide +kernel) ?_ | refine N_one (j := 4) (by decide +kernel) ?_ | refine N_one (j := 5) (by decide +kernel) ?_ | refine N_one (j := 6) (by decide +kernel) ?_ | refine N_one (j := 7) (by decide +kernel) ?_ | refine N_one (j := 8) (by decide +kernel) ?_ | refine N_one (j := 9) (by decide +kernel) ?_ | refine N_one (j := 10) (by decide +kernel) ?_ | refine N_one (j := 11) (by decide +kernel) ?_ | refine N_one (j := 12) (by decide +kernel) ?_ | refine T_alloc tabOk rfl rfl rfl rfl rfl rfl rfl ?_ | refine T_store tabOk rfl rfl rfl rfl rfl rfl rfl rfl rfl rfl rfl rfl rfl ?_ | refine T_box rfl rfl rfl rfl rfl rfl rfl rfl ?_ | (apply T_yield rfl rfl rfl rfl; (first | exact q_1 | exact q_2 | exact q_3 | exact q_4 | exact q_5 | exact q_6 | exact q_7 | exact q_8 | exact q_9 | exact q_10 | exact q_11 | exact q_12 | exact q_13 | exact q_14 | exact q_15 | exact q_16 | exact q_17 | exact q_18 | exact q_19 | exact q_20 | exact q_21 | exact q_22 | exact q_23 | exact q_24 | (first | exact Y_nilCheck rfl rfl rfl | exact R_lk1 pfxKey pfxA_val zeroRts trivial (fun _ _ => trivial) hn hz tabOk rfl rfl rfl rfl rfl rfl))) | refine N_done (by decide +kernel) ?_ | fail)
    refine N_two (j := 0) (k := 5) (by decide +kernel) ?_ ?_
    ·
      repeat (first | ((first | apply q_M 0 rfl rfl (by kernel_rfl) (by decide +kernel) (by decide +kernel) rfl rfl rfl | apply q_M 1 rfl rfl (by kernel_rfl) (by decide +kernel) (by decide +kernel) rfl rfl rfl | apply q_M 2 rfl rfl (by kernel_rfl) (by decide +kernel) (by decide +kernel) rfl rfl rfl | apply q_M 3 rfl rfl (by kernel_rfl) (by decide +kernel) (by decide +kernel) rfl rfl rfl | apply q_M 4 rfl rfl (by kernel_rfl) (by decide +kernel) (by decide +kernel) rfl rfl rfl | apply q_M 5 rfl rfl (by kernel_rfl) (by decide +kernel) (by decide +kernel) rfl rfl rfl | apply q_M 6 rfl rfl (by kernel_rfl) (by decide +kernel) (by decide +kernel) rfl rfl rfl | apply q_M 7 rfl rfl (by kernel_rfl) (by decide +kernel) (by decide +kernel) rfl rfl rfl | apply q_M 8 rfl rfl (by kernel_rfl) (by decide +kernel) (by decide +kernel) rfl rfl rfl | apply q_M 9 rfl rfl (by kernel_rfl) (by decide +kernel) (by decide +kernel) rfl rfl rfl | apply q_M 10 rfl rfl (by kernel_rfl) (by decide +kernel) (by decide +kernel) rfl rfl rfl | apply q_M 11 rfl rfl (by kernel_rfl) (by decide +kernel) (by decide +kernel) rfl rfl rfl | apply q_M 12 rfl rfl (by kernel_rfl) (by decide +kernel) (by decide +kernel) rfl rfl rfl ); (first | exact q_1 | exact q_2 | exact q_3 | exact q_4 | exact q_5 | exact q_6 | exact q_7 | exact q_8 | exact q_9 | exact q_10 | exact q_11 | exact q_12 | exact q_13 | exact q_14 | exact q_15 | exact q_16 | exact q_17 | exact q_18 | exact q_19 | exact q_20 | exact q_21 | exact q_22 | exact q_23 | exact q_24 | (first | exact Y_nilCheck rfl rfl rfl | exact R_lk1 pfxKey pfxA_val zeroRts trivial (fun _ _ => trivial) hn hz tabOk rfl rfl rfl rfl rfl rfl))) | (apply q_L 0 rfl rfl (by kernel_rfl) (by decide +kernel) (by decide +kernel) rfl rfl rfl; (first | exact q_5 | exact q_6 | exact q_7 | exact q_15 | exact q_16 | exact q_19 | (first | exact Y_nilCheck rfl rfl rfl | exact R_lk1 pfxKey pfxA_val zeroRts trivial (fun _ _ => trivial) hn hz tabOk rfl rfl rfl rfl rfl rfl))) | (apply q_L 1 rfl rfl (by kernel_rfl) (by decide +kernel) (by decide +kernel) rfl rfl rfl; (first | exact q_5 | exact q_6 | exact q_7 | exact q_15 | exact q_16 | exact q_19 | (first | exact Y_nilCheck rfl rfl rfl | exact R_lk1 pfxKey pfxA_val zeroRts trivial (fun _ _ => trivial) hn hz tabOk rfl rfl rfl rfl rfl rfl))) | (apply q_L 2 rfl rfl (by kernel_rfl) (by decide +kernel) (by decide +kernel) rfl rfl rfl; (first | exact q_5 | exact q_6 | exact q_7 | exact q_15 | exact q_16 | exact q_19 | (first | exact Y_nilCheck rfl rfl rfl | exact R_lk1 pfxKey pfxA_val zeroRts trivial (fun _ _ => trivial) hn hz tabOk rfl rfl rfl rfl rfl rfl))) | (apply q_L 3 rfl rfl (by kernel_rfl) (by decide +kernel) (by decide +kernel) rfl rfl rfl; (first | exact q_5 | exact q_6 | exact q_7 | exact q_15 | exact q_16 | exact q_19 | (first | exact Y_nilCheck rfl rfl rfl | exact R_lk1 pfxKey pfxA_val zeroRts trivial (fun _ _ => trivial) hn hz tabOk rfl rfl rfl rfl rfl rfl))) | (apply q_L 4 rfl rfl (by kernel_rfl) (by decide +kernel) (by decide +kernel) rfl rfl rfl; (first | exact q_5 | exact q_6 | exact q_7 | exact q_15 | exact q_16 | exact q_19 | (first | exact Y_nilCheck rfl rfl rfl | exact R_lk1 pfxKey pfxA_val zeroRts trivial (fun _ _ => trivial) hn hz tabOk rfl rfl rfl rfl rfl rfl))) | (apply q_L 5 rfl rfl (by kernel_rfl) (by decide +kernel) (by decide +kernel) rfl rfl rfl; (first | exact q_5 | exact q_6 | exact q_7 | exact q_15 | exact q_16 | exact q_19 | (first | exact Y_nilCheck rfl rfl rfl | exact R_lk1 pfxKey pfxA_val zeroRts trivial (fun _ _ => trivial) hn hz tabOk rfl rfl rfl rfl rfl rfl))) | (apply q_L 6 rfl rfl (by kernel_rfl) (by decide +kernel) (by decide +kernel) rfl rfl rfl; (first | exact q_5 | exact q_6 | exact q_7 | exact q_15 | exact q_16 | exact q_19 | (first | exact Y_nilCheck rfl rfl rfl | exact R_lk1 pfxKey pfxA_val zeroRts trivial (fun _ _ => trivial) hn hz tabOk rfl rfl rfl rfl rfl rfl))) | (apply q_L 7 rfl rfl (by kernel_rfl) (by decide +kernel) (by decide +kernel) rfl rfl rfl; (first | exact q_5 | exact q_6 | exact q_7 | exact q_15 | exact q_16 | exact q_19 | (first | exact Y_nilCheck rfl rfl rfl | exact R_lk1 pfxKey pfxA_val zeroRts trivial (fun _ _ => trivial) hn hz tabOk rfl rfl rfl rfl rfl rfl))) | (apply q_L 8 rfl rfl (by kernel_rfl) (by decide +kernel) (by decide +kernel) rfl rfl rfl; (first | exact q_5 | exact q_6 | exact q_7 | exact q_15 | exact q_16 | exact q_19 | (first | exact Y_nilCheck rfl rfl rfl | exact R_lk1 pfxKey pfxA_val zeroRts trivial (fun _ _ => trivial) hn hz tabOk rfl rfl rfl rfl rfl rfl))) | (apply q_L 9 rfl rfl (by kernel_rfl) (by decide +kernel) (by decide +kernel) rfl rfl rfl; (first | exact q_5 | exact q_6 | exact q_7 | exact q_15 | exact q_16 | exact q_19 | (first | exact Y_nilCheck rfl rfl rfl | exact R_lk1 pfxKey pfxA_val zeroRts trivial (fun _ _ => trivial) hn hz tabOk rfl rfl rfl rfl rfl rfl))) | (apply q_L 10 rfl rfl (by kernel_rfl) (by decide +kernel) (by decide +kernel) rfl rfl rfl; (first | exact q_5 | exact q_6 | exact q_7 | exact q_15 | exact q_16 | exact q_19 | (first | exact Y_nilCheck rfl rfl rfl | exact R_lk1 pfxKey pfxA_val zeroRts trivial (fun _ _ => trivial) hn hz tabOk rfl rfl rfl rfl rfl rfl))) | (apply q_L 11 rfl rfl (by kernel_rfl) (by decide +kernel) (by decide +kernel) rfl rfl rfl; (first | exact q_5 | exact q_6 | exact q_7 | exact q_15 | exact q_16 | exact q_19 | (first | exact Y_nilCheck rfl rfl rfl | exact R_lk1 pfxKey pfxA_val zeroRts trivial (fun _ _ => trivial) hn hz tabOk rfl rfl rfl rfl rfl rfl))) | (apply q_L 12 rfl rfl (by kernel_rfl) (by decide +kernel) (by decide +kernel) rfl rfl rfl; (first | exact q_5 | exact q_6 | exact q_7 | exact q_15 | exact q_16 | exact q_19 | (first | exact Y_nilCheck rfl rfl rfl | exact R_lk1 pfxKey pfxA_val zeroRts trivial (fun _ _ => trivial) hn hz tabOk rfl rfl rfl rfl rfl rfl))) | refine N_one (j := 0) (by decide +kernel) ?_ | refine N_one (j := 1) (by decide +kernel) ?_ | refine N_one (j := 2) (by decide +kernel) ?_ | refine N_one (j := 3) (by decide +kernel) ?_ | refine N_one (j := 4) (by decide +kernel) ?_ | refine N_one (j := 5) (by decide +kernel) ?_ | refine N_one (j := 6) (by decide +kernel) ?_ | refine N_one (j := 7) (by decide +kernel) ?_ | refine N_one (j := 8) (by decide +kernel) ?_ | refine N_one (j := 9) (by decide +kernel) ?_ | refine N_one (j := 10) (by decide +kernel) ?_ | refine N_one (j := 11) (by decide +kernel) ?_ | refine N_one (j := 12) (by decide +kernel) ?_ | refine T_alloc tabOk rfl rfl rfl rfl rfl rfl rfl ?_ | refine T_store tabOk rfl rfl rfl rfl rfl rfl rfl rfl rfl rfl rfl rfl rfl ?_ | refine T_box rfl rfl rfl rfl rfl rfl rfl rfl ?_ | (apply T_yield rfl rfl rfl rfl; (first | exact q_1 | exact q_2 | exact q_3 | exact q_4 | exact q_5 | exact q_6 | exact q_7 | exact q_8 | exact q_9 | exact q_10 | exact q_11 | exact q_12 | exact q_13 | exact q_14 | exact q_15 | exact q_16 | exact q_17 | exact q_18 | exact q_19 | exact q_20 | exact q_21 | exact q_22 | exact q_23 | exact q_24 | (first | exact Y_nilCheck rfl rfl rfl | exact R_lk1 pfxKey pfxA_val zeroRts trivial (fun _ _ => trivial) hn hz tabOk rfl rfl rfl rfl rfl rfl))) | refine N_done (by decide +kernel) ?_ | fail)
      repeat (first | refine A_seq ?_ | refine A_block ?_ | refine R_list ?_ | refine R_quiet rfl mixed (by kernel_rfl) ?_ | ((first | apply O_y rfl rfl rfl | apply Q_y rfl rfl rfl); (first | exact q_1 | exact q_2 | exact q_3 | exact q_4 | exact q_5 | exact q_6 | exact q_7 | exact q_8 | exact q_9 | exact q_10 | exact q_11 | exact q_12 | exact q_13 | exact q_14 | exact q_15 | exact q_16 | exact q_17 | exact q_18 | exact q_19 | exact q_20 | exact q_21 | exact q_22 | exact q_23 | exact q_24 | fail)) | refine O_nil ?_ | refine Q_nil ?_ | refine q_j ?_ | refine q_k ?_ | refine q_d ?_ | refine q_a ?_ | refine q_b ?_ | refine q_c ?_ | refine A_ct rfl ?_ | refine A_cf rfl ?_ | refine A_skip ?_ | refine A_exit ?_ | refine A_ret ?_ | refine q_l ?_ | refine q_m ?_ | refine q_n ?_ | refine q_h ?_ | refine q_o ?_ | refine q_e ?_ | refine q_f ?_ | refine q_g ?_ | fail)
      refine X_retW AWk.refl rfl (h2 := [(1000, tblB 1001 u), (1001, rmapB l)]) ⟨rfl, rfl, trivial⟩ ⟨?_, rfl⟩
      rw [hlast]
      simp only [hz, Option.getD_some]
      rfl
    ·
      repeat (first | ((first | apply q_M 0 rfl rfl (by kernel_rfl) (by decide +kernel) (by decide +kernel) rfl rfl rfl | apply q_M 1 rfl rfl (by kernel_rfl) (by decide +kernel) (by decide +kernel) rfl rfl rfl | apply q_M 2 rfl rfl (by kernel_rfl) (by decide +kernel) (by decide +kernel) rfl rfl rfl | apply q_M 3 rfl rfl (by kernel_rfl) (by decide +kernel) (by decide +kernel) rfl rfl rfl | apply q_M 4 rfl rfl (by kernel_rfl) (by decide +kernel) (by decide +kernel) rfl rfl rfl | apply q_M 5 rfl rfl (by kernel_rfl) (by decide +kernel) (by decide +kernel) rfl rfl rfl | apply q_M 6 rfl rfl (by kernel_rfl) (by decide +kernel) (by decide +kernel) rfl rfl rfl | apply q_M 7 rfl rfl (by kernel_rfl) (by decide +kernel) (by decide +kernel) rfl rfl rfl | apply q_M 8 rfl rfl (by kernel_rfl) (by decide +kernel) (by decide +kernel) rfl rfl rfl | apply q_M 9 rfl rfl (by kernel_rfl) (by decide +kernel) (by decide +kernel) rfl rfl rfl | apply q_M 10 rfl rfl (by kernel_rfl) (by decide +kernel) (by decide +kernel) rfl rfl rfl | apply q_M 11 rfl rfl (by kernel_rfl) (by decide +kernel) (by decide +kernel) rfl rfl rfl | apply q_M 12 rfl rfl (by kernel_rfl) (by decide +kernel) (by decide +kernel) rfl rfl rfl ); (first | exact q_1 | exact q_2 | exact q_3 | exact q_4 | exact q_5 | exact q_6 | exact q_7 | exact q_8 | exact q_9 | exact q_10 | exact q_11 | exact q_12 | exact q_13 | exact q_14 | exact q_15 | exact q_16 | exact q_17 | exact q_18 | exact q_19 | exact q_20 | exact q_21 | exact q_22 | exact q_23 | exact q_24 | (first | exact Y_nilCheck rfl rfl rfl | exact R_lk1 pfxKey pfxA_val zeroRts trivial (fun _ _ => trivial) hn hz tabOk rfl rfl rfl rfl rfl rfl))) | (apply q_L 0 rfl rfl (by kernel_rfl) (by decide +kernel) (by decide +kernel) rfl rfl rfl; (first | exact q_5 | exact q_6 | exact q_7 | exact q_15 | exact q_16 | exact q_19 | (first | exact Y_nilCheck rfl rfl rfl | exact R_lk1 pfxKey pfxA_val zeroRts trivial (fun _ _ => trivial) hn hz tabOk rfl rfl rfl rfl rfl rfl))) | (apply q_L 1 rfl rfl (by kernel_rfl) (by decide +kernel) (by decide +kernel) rfl rfl rfl; (first | exact q_5 | exact q_6 | exact q_7 | exact q_15 | exact q_16 | exact q_19 | (first | exact Y_nilCheck rfl rfl rfl | exact R_lk1 pfxKey pfxA_val zeroRts trivial (fun _ _ => trivial) hn hz tabOk rfl rfl rfl rfl rfl rfl))) | (apply q_L 2 rfl rfl (by kernel_rfl) (by decide +kernel) (by decide +kernel) rfl rfl rfl; (first | exact q_5 | exact q_6 | exact q_7 | exact q_15 | exact q_16 | exact q_19 | (first | exact Y_nilCheck rfl rfl rfl | exact R_lk1 pfxKey pfxA_val zeroRts trivial (fun _ _ => trivial) hn hz tabOk rfl rfl rfl rfl rfl rfl))) | (apply q_L 3 rfl rfl (by kernel_rfl) (by decide +kernel) (by decide +kernel) rfl rfl rfl; (first | exact q_5 | exact q_6 | exact q_7 | exact q_15 | exact q_16 | exact q_19 | (first | exact Y_nilCheck rfl rfl rfl | exact R_lk1 pfxKey pfxA_val zeroRts trivial (fun _ _ => trivial) hn hz tabOk rfl rfl rfl rfl rfl rfl))) | (apply q_L 4 rfl rfl (by kernel_rfl) (by decide +kernel) (by decide +kernel) rfl rfl rfl; (first | exact q_5 | exact q_6 | exact q_7 | exact q_15 | exact q_16 | exact q_19 | (first | exact Y_nilCheck rfl rfl rfl | exact R_lk1 pfxKey pfxA_val zeroRts trivial (fun _ _ => trivial) hn hz tabOk rfl rfl rfl rfl rfl rfl))) | (apply q_L 5 rfl rfl (by kernel_rfl) (by decide +kernel) (by decide +kernel) rfl rfl rfl; (first | exact q_5 | exact q_6 | exact q_7 | exact q_15 | exact q_16 | exact q_19 | (first | exact Y_nilCheck rfl rfl rfl | exact R_lk1 pfxKey pfxA_val zeroRts trivial (fun _ _ => trivial) hn hz tabOk rfl rfl rfl rfl rfl rfl))) | (apply q_L 6 rfl rfl (by kernel_rfl) (by decide +kernel) (by decide +kernel) rfl rfl rfl; (first | exact q_5 | exact q_6 | exact q_7 | exact q_15 | exact q_16 | exact q_19 | (first | exact Y_nilCheck rfl rfl rfl | exact R_lk1 pfxKey pfxA_val zeroRts trivial (fun _ _ => trivial) hn hz tabOk rfl rfl rfl rfl rfl rfl))) | (apply q_L 7 rfl rfl (by kernel_rfl) (by decide +kernel) (by decide +kernel) rfl rfl rfl; (first | exact q_5 | exact q_6 | exact q_7 | exact q_15 | exact q_16 | exact q_19 | (first | exact Y_nilCheck rfl rfl rfl | exact R_lk1 pfxKey pfxA_val zeroRts trivial (fun _ _ => trivial) hn hz tabOk rfl rfl rfl rfl rfl rfl))) | (apply q_L 8 rfl rfl (by kernel_rfl) (by decide +kernel) (by decide +kernel) rfl rfl rfl; (first | exact q_5 | exact q_6 | exact q_7 | exact q_15 | exact q_16 | exact q_19 | (first | exact Y_nilCheck rfl rfl rfl | exact R_lk1 pfxKey pfxA_val zeroRts trivial (fun _ _ => trivial) hn hz tabOk rfl rfl rfl rfl rfl rfl))) | (apply q_L 9 rfl rfl (by kernel_rfl) (by decide +kernel) (by decide +kernel) rfl rfl rfl; (first | exact q_5 | exact q_6 | exact q_7 | exact q_15 | exact q_16 | exact q_19 | (first | exact Y_nilCheck rfl rfl rfl | exact R_lk1 pfxKey pfxA_val zeroRts trivial (fun _ _ => trivial) hn hz tabOk rfl rfl rfl rfl rfl rfl))) | (apply q_L 10 rfl rfl (by kernel_rfl) (by decide +kernel) (by decide +kernel) rfl rfl rfl; (first | exact q_5 | exact q_6 | exact q_7 | exact q_15 | exact q_16 | exact q_19 | (first | exact Y_nilCheck rfl rfl rfl | exact R_lk1 pfxKey pfxA_val zeroRts trivial (fun _ _ => trivial) hn hz tabOk rfl rfl rfl rfl rfl rfl))) | (apply q_L 11 rfl rfl (by kernel_rfl) (by decide +kernel) (by decide +kernel) rfl rfl rfl; (first | exact q_5 | exact q_6 | exact q_7 | exact q_15 | exact q_16 | exact q_19 | (first | exact Y_nilCheck rfl rfl rfl | exact R_lk1 pfxKey pfxA_val zeroRts trivial (fun _ _ => trivial) hn hz tabOk rfl rfl rfl rfl rfl rfl))) | (apply q_L 12 rfl rfl (by kernel_rfl) (by decide +kernel) (by decide +kernel) rfl rfl rfl; (first | exact q_5 | exact q_6 | exact q_7 | exact q_15 | exact q_16 | exact q_19 | (first | exact Y_nilCheck rfl rfl rfl | exact R_lk1 pfxKey pfxA_val zeroRts trivial (fun _ _ => trivial) hn hz tabOk rfl rfl rfl rfl rfl rfl))) | refine N_one (j := 0) (by decide +kernel) ?_ | refine N_one (j := 1) (by decide +kernel) ?_ | refine N_one (j := 2) (by decide +kernel) ?_ | refine N_one (j := 3) (by decide +kernel) ?_ | refine N_one (j := 4) (by decide +kernel) ?_ | refine N_one (j := 5) (by decide +kernel) ?_ | refine N_one (j := 6) (by decide +kernel) ?_ | refine N_one (j := 7) (by decide +kernel) ?_ | refine N_one (j := 8) (by decide +kernel) ?_ | refine N_one (j := 9) (by decide +kernel) ?_ | refine N_one (j := 10) (by decide +kernel) ?_ | refine N_one (j := 11) (by decide +kernel) ?_ | refine N_one (j := 12) (by decide +kernel) ?_ | refine T_alloc tabOk rfl rfl rfl rfl rfl rfl rfl ?_ | refine T_store tabOk rfl rfl rfl rfl rfl rfl rfl rfl rfl rfl rfl rfl rfl ?_ | refine T_box rfl rfl rfl rfl rfl rfl rfl rfl ?_ | (apply T_yield rfl rfl rfl rfl; (first | exact q_1 | exact q_2 | exact q_3 | exact q_4 | exact q_5 | exact q_6 | exact q_7 | exact q_8 | exact q_9 | exact q_10 | exact q_11 | exact q_12 | exact q_13 | exact q_14 | exact q_15 | exact q_16 | exact q_17 | exact q_18 | exact q_19 | exact q_20 | exact q_21 | exact q_22 | exact q_23 | exact q_24 | (first | exact Y_nilCheck rfl rfl rfl | exact R_lk1 pfxKey pfxA_val zeroRts trivial (fun _ _ => trivial) hn hz tabOk rfl rfl rfl rfl rfl rfl))) | refine N_done (by decide +kernel) ?_ | fail)
      repeat (first | refine A_seq ?_ | refine A_block ?_ | refine R_list ?_ | refine R_quiet rfl mixed (by kernel_rfl) ?_ | ((first | apply O_y rfl rfl rfl | apply Q_y rfl rfl rfl); (first | exact q_1 | exact q_2 | exact q_3 | exact q_4 | exact q_5 | exact q_6 | exact q_7 | exact q_8 | exact q_9 | exact q_10 | exact q_11 | exact q_12 | exact q_13 | exact q_14 | exact q_15 | exact q_16 | exact q_17 | exact q_18 | exact q_19 | exact q_20 | exact q_21 | exact q_22 | exact q_23 | exact q_24 | fail)) | refine O_nil ?_ | refine Q_nil ?_ | refine q_j ?_ | refine q_k ?_ | refine q_d ?_ | refine q_a ?_ | refine q_b ?_ | refine q_c ?_ | refine A_ct rfl ?_ | refine A_cf rfl ?_ | refine A_skip ?_ | refine A_exit ?_ | refine A_ret ?_ | refine q_l ?_ | refine q_m ?_ | refine q_n ?_ | refine q_h ?_ | refine q_o ?_ | refine q_e ?_ | refine q_f ?_ | refine q_g ?_ | fail)
      refine X_retW AWk.refl rfl (h2 := [(1000, tblB 1001 u), (1001, rmapB l)]) ⟨rfl, rfl, trivial⟩ ⟨?_, rfl⟩
      rw [hlast]
      simp only [hz, Option.getD_some]
      rfl
set_option maxHeartbeats 2000000 in
theorem tblAt_A (u : Nat → Int) (m : List (Pfx × List Rte)) (p : Pfx) (hn : (m.map (·.1)).Nodup) :
    ACall Try.prog 23 [.ptr 1000 0, pfxA p] [(1000, tblB 1001 u), (1001, rmapB m)] (fun c h => c = .tup [(match aget m p with | some v => rtesA v | none => .d (.sc (.slice none 0 0))), boolA (aget m p).isSome] ∧ h = [(1000, tblB 1001 u), (1001, rmapB m)]) := by
  refine ACall_of tabOk Try.func23 rfl Try.ntmps23 (congrArg Array.toList Try.results23) (by kernel_rfl) rfl ?_
  cases hag : aget m p with
  | none =>
    repeat (first | refine A_seq ?_ | refine A_block ?_ | refine R_list ?_ | refine R_quiet rfl mixed (by kernel_rfl) ?_ | ((first | apply O_y rfl rfl rfl | apply Q_y rfl rfl rfl); (first | exact q_1 | exact q_2 | exact q_3 | exact q_4 | exact q_5 | exact q_6 | exact q_7 | exact q_8 | exact q_9 | exact q_10 | exact q_11 | exact q_12 | exact q_13 | exact q_14 | exact q_15 | exact q_16 | exact q_17 | exact q_18 | exact q_19 | exact q_20 | exact q_21 | exact q_22 | exact q_23 | exact q_24 | (first | exact R_pnil tabOk rfl rfl rfl rfl rfl | exact Y_nilCheck rfl rfl rfl | exact R_lkOut (k := p) pfxKey pfxA_val zeroRts rfl trivial (fun _ _ => trivial) hn hag tabOk rfl rfl rfl (kill_map 3 m) rfl rfl))) | refine O_nil ?_ | refine Q_nil ?_ | refine q_j ?_ | refine q_k ?_ | refine q_d ?_ | refine q_a ?_ | refine q_b ?_ | refine q_c ?_ | refine A_ct rfl ?_ | refine A_cf rfl ?_ | refine A_skip ?_ | refine A_exit ?_ | refine A_ret ?_ | refine q_l ?_ | refine q_m ?_ | refine q_n ?_ | refine q_h ?_ | refine q_o ?_ | refine q_e ?_ | refine q_f ?_ | refine q_g ?_ | fail)
    exact X_retW AWk.refl rfl (h2 := [(1000, tblB 1001 u), (1001, rmapB m)]) ⟨rfl, kill_map 3 m, trivial⟩ ⟨rfl, rfl⟩
  | some x =>
    repeat (first | refine A_seq ?_ | refine A_block ?_ | refine R_list ?_ | refine R_quiet rfl mixed (by kernel_rfl) ?_ | ((first | apply O_y rfl rfl rfl | apply Q_y rfl rfl rfl); (first | exact q_1 | exact q_2 | exact q_3 | exact q_4 | exact q_5 | exact q_6 | exact q_7 | exact q_8 | exact q_9 | exact q_10 | exact q_11 | exact q_12 | exact q_13 | exact q_14 | exact q_15 | exact q_16 | exact q_17 | exact q_18 | exact q_19 | exact q_20 | exact q_21 | exact q_22 | exact q_23 | exact q_24 | (first | exact R_pnil tabOk rfl rfl rfl rfl rfl | exact Y_nilCheck rfl rfl rfl | exact R_lkIn (k := p) pfxKey pfxA_val zeroRts trivial (fun _ _ => trivial) hn hag tabOk rfl rfl rfl (kill_map 3 m) rfl rfl))) | refine O_nil ?_ | refine Q_nil ?_ | refine q_j ?_ | refine q_k ?_ | refine q_d ?_ | refine q_a ?_ | refine q_b ?_ | refine q_c ?_ | refine A_ct rfl ?_ | refine A_cf rfl ?_ | refine A_skip ?_ | refine A_exit ?_ | refine A_ret ?_ | refine q_l ?_ | refine q_m ?_ | refine q_n ?_ | refine q_h ?_ | refine q_o ?_ | refine q_e ?_ | refine q_f ?_ | refine q_g ?_ | fail)
    exact X_retW AWk.refl rfl (h2 := [(1000, tblB 1001 u), (1001, rmapB m)]) ⟨rfl, kill_map 3 m, trivial⟩ ⟨rfl, rfl⟩
end Go.Proofs.Ytnnclkeoakjjkaa.Ab

namespace Go.Proofs.Ytnnclkeoakjjkaa.Ab
set_option linter.unusedVariables false
set_option maxRecDepth 100000
open Go.RowKit Go.Lib
set_option linter.unusedSimpArgs false
attribute [local irreducible] AWp AOps AQ AYield AEff ACall AWk AAny AAt AThen AIn APost NoPanic
theorem nan_int (x : Int) : ACall Try.prog 79 [.d (.sc (.int .i64 x))] [] (Just (boolA false)) := by
  refine ACall_of tabOk Try.func79 rfl Try.ntmps79 (congrArg Array.toList Try.results79) (by kernel_rfl) rfl ?_
  repeat (first | refine A_seq ?_ | refine A_block ?_ | refine R_list ?_ | refine R_quiet rfl mixed (by kernel_rfl) ?_ | ((first | apply O_y rfl rfl rfl | apply Q_y rfl rfl rfl); (first | exact q_1 | exact q_2 | exact q_3 | exact q_4 | exact q_5 | exact q_6 | exact q_7 | exact q_8 | exact q_9 | exact q_10 | exact q_11 | exact q_12 | exact q_13 | exact q_14 | exact q_15 | exact q_16 | exact q_17 | exact q_18 | exact q_19 | exact q_20 | exact q_21 | exact q_22 | exact q_23 | exact q_24 | fail)) | refine O_nil ?_ | refine Q_nil ?_ | refine q_j ?_ | refine q_k ?_ | refine q_d ?_ | refine q_a ?_ | refine q_b ?_ | refine q_c ?_ | refine A_ct rfl ?_ | refine A_cf rfl ?_ | refine A_skip ?_ | refine A_exit ?_ | refine A_ret ?_ | refine q_l ?_ | refine q_m ?_ | refine q_n ?_ | refine q_h ?_ | refine q_o ?_ | refine q_e ?_ | refine q_f ?_ | refine q_g ?_ | fail)
  exact X_ret rfl ⟨rfl, rfl⟩
theorem compare_int (x y : Int) : ACall Try.prog 53 [.d (.sc (.int .i64 x)), .d (.sc (.int .i64 y))] [] (Just (intA (c2 x y))) := by
  have hx := nan_int x
  have hy := nan_int y
  refine ACall_of tabOk Try.func53 rfl Try.ntmps53 (congrArg Array.toList Try.results53) (by kernel_rfl) rfl ?_
  unfold c2
  by_cases h1 : x < y
  · rw [if_pos h1]
    repeat (first | refine A_seq ?_ | refine A_block ?_ | refine R_list ?_ | refine R_quiet rfl mixed (by kernel_rfl) ?_ | ((first | apply O_y rfl rfl rfl | apply Q_y rfl rfl rfl); (first | exact q_1 | exact q_2 | exact q_3 | exact q_4 | exact q_5 | exact q_6 | exact q_7 | exact q_8 | exact q_9 | exact q_10 | exact q_11 | exact q_12 | exact q_13 | exact q_14 | exact q_15 | exact q_16 | exact q_17 | exact q_18 | exact q_19 | exact q_20 | exact q_21 | exact q_22 | exact q_23 | exact q_24 | fail)) | refine O_nil ?_ | refine Q_nil ?_ | refine q_j ?_ | refine q_k ?_ | refine q_d ?_ | refine q_a ?_ | refine q_b ?_ | refine q_c ?_ | refine A_ct rfl ?_ | refine A_cf rfl ?_ | refine A_skip ?_ | refine A_exit ?_ | refine A_ret ?_ | refine q_l ?_ | refine q_m ?_ | refine q_n ?_ | refine q_h ?_ | refine q_o ?_ | refine q_e ?_ | refine q_f ?_ | refine q_g ?_ | (first | refine O_c rfl rfl rfl rfl rfl hx (fun _ => rfl) ?_ | refine O_c rfl rfl rfl rfl rfl hy (fun _ => rfl) ?_ | refine Q_c rfl rfl rfl rfl rfl hx rfl (fun _ _ _ => val_mk _ _ _ _ _ rfl rfl) ?_ | refine Q_c rfl rfl rfl rfl rfl hy rfl (fun _ _ _ => val_mk _ _ _ _ _ rfl rfl) ?_))
    exact X_ret rfl ⟨rfl, rfl⟩
  · rw [if_neg h1]
    by_cases h2 : y < x
    · rw [if_pos h2]
      repeat (first | refine A_seq ?_ | refine A_block ?_ | refine R_list ?_ | refine R_quiet rfl mixed (by kernel_rfl) ?_ | ((first | apply O_y rfl rfl rfl | apply Q_y rfl rfl rfl); (first | exact q_1 | exact q_2 | exact q_3 | exact q_4 | exact q_5 | exact q_6 | exact q_7 | exact q_8 | exact q_9 | exact q_10 | exact q_11 | exact q_12 | exact q_13 | exact q_14 | exact q_15 | exact q_16 | exact q_17 | exact q_18 | exact q_19 | exact q_20 | exact q_21 | exact q_22 | exact q_23 | exact q_24 | fail)) | refine O_nil ?_ | refine Q_nil ?_ | refine q_j ?_ | refine q_k ?_ | refine q_d ?_ | refine q_a ?_ | refine q_b ?_ | refine q_c ?_ | refine A_ct rfl ?_ | refine A_cf rfl ?_ | refine A_skip ?_ | refine A_exit ?_ | refine A_ret ?_ | refine q_l ?_ | refine q_m ?_ | refine q_n ?_ | refine q_h ?_ | refine q_o ?_ | refine q_e ?_ | refine q_f ?_ | refine q_g ?_ | (first | refine O_c rfl rfl rfl rfl rfl hx (fun _ => rfl) ?_ | refine O_c rfl rfl rfl rfl rfl hy (fun _ => rfl) ?_ | refine Q_c rfl rfl rfl rfl rfl hx rfl (fun _ _ _ => val_mk _ _ _ _ _ rfl rfl) ?_ | refine Q_c rfl rfl rfl rfl rfl hy rfl (fun _ _ _ => val_mk _ _ _ _ _ rfl rfl) ?_))
      exact X_ret rfl ⟨rfl, rfl⟩
    · rw [if_neg h2]
      repeat (first | refine A_seq ?_ | refine A_block ?_ | refine R_list ?_ | refine R_quiet rfl mixed (by kernel_rfl) ?_ | ((first | apply O_y rfl rfl rfl | apply Q_y rfl rfl rfl); (first | exact q_1 | exact q_2 | exact q_3 | exact q_4 | exact q_5 | exact q_6 | exact q_7 | exact q_8 | exact q_9 | exact q_10 | exact q_11 | exact q_12 | exact q_13 | exact q_14 | exact q_15 | exact q_16 | exact q_17 | exact q_18 | exact q_19 | exact q_20 | exact q_21 | exact q_22 | exact q_23 | exact q_24 | fail)) | refine O_nil ?_ | refine Q_nil ?_ | refine q_j ?_ | refine q_k ?_ | refine q_d ?_ | refine q_a ?_ | refine q_b ?_ | refine q_c ?_ | refine A_ct rfl ?_ | refine A_cf rfl ?_ | refine A_skip ?_ | refine A_exit ?_ | refine A_ret ?_ | refine q_l ?_ | refine q_m ?_ | refine q_n ?_ | refine q_h ?_ | refine q_o ?_ | refine q_e ?_ | refine q_f ?_ | refine q_g ?_ | (first | refine O_c rfl rfl rfl rfl rfl hx (fun _ => rfl) ?_ | refine O_c rfl rfl rfl rfl rfl hy (fun _ => rfl) ?_ | refine Q_c rfl rfl rfl rfl rfl hx rfl (fun _ _ _ => val_mk _ _ _ _ _ rfl rfl) ?_ | refine Q_c rfl rfl rfl rfl rfl hy rfl (fun _ _ _ => val_mk _ _ _ _ _ rfl rfl) ?_))
      exact X_ret rfl ⟨rfl, rfl⟩
theorem nan_u8 (x : Int) : ACall Try.prog 88 [.d (.sc (.int .u8 x))] [] (Just (boolA false)) := by
  refine ACall_of tabOk Try.func88 rfl Try.ntmps88 (congrArg Array.toList Try.results88) (by kernel_rfl) rfl ?_
  repeat (first | refine A_seq ?_ | refine A_block ?_ | refine R_list ?_ | refine R_quiet rfl mixed (by kernel_rfl) ?_ | ((first | apply O_y rfl rfl rfl | apply Q_y rfl rfl rfl); (first | exact q_1 | exact q_2 | exact q_3 | exact q_4 | exact q_5 | exact q_6 | exact q_7 | exact q_8 | exact q_9 | exact q_10 | exact q_11 | exact q_12 | exact q_13 | exact q_14 | exact q_15 | exact q_16 | exact q_17 | exact q_18 | exact q_19 | exact q_20 | exact q_21 | exact q_22 | exact q_23 | exact q_24 | fail)) | refine O_nil ?_ | refine Q_nil ?_ | refine q_j ?_ | refine q_k ?_ | refine q_d ?_ | refine q_a ?_ | refine q_b ?_ | refine q_c ?_ | refine A_ct rfl ?_ | refine A_cf rfl ?_ | refine A_skip ?_ | refine A_exit ?_ | refine A_ret ?_ | refine q_l ?_ | refine q_m ?_ | refine q_n ?_ | refine q_h ?_ | refine q_o ?_ | refine q_e ?_ | refine q_f ?_ | refine q_g ?_ | fail)
  exact X_ret rfl ⟨rfl, rfl⟩
theorem compare_u8 (x y : Int) : ACall Try.prog 57 [.d (.sc (.int .u8 x)), .d (.sc (.int .u8 y))] [] (Just (intA (c2 x y))) := by
  have hx := nan_u8 x
  have hy := nan_u8 y
  refine ACall_of tabOk Try.func57 rfl Try.ntmps57 (congrArg Array.toList Try.results57) (by kernel_rfl) rfl ?_
  unfold c2
  by_cases h1 : x < y
  · rw [if_pos h1]
    repeat (first | refine A_seq ?_ | refine A_block ?_ | refine R_list ?_ | refine R_quiet rfl mixed (by kernel_rfl) ?_ | ((first | apply O_y rfl rfl rfl | apply Q_y rfl rfl rfl); (first | exact q_1 | exact q_2 | exact q_3 | exact q_4 | exact q_5 | exact q_6 | exact q_7 | exact q_8 | exact q_9 | exact q_10 | exact q_11 | exact q_12 | exact q_13 | exact q_14 | exact q_15 | exact q_16 | exact q_17 | exact q_18 | exact q_19 | exact q_20 | exact q_21 | exact q_22 | exact q_23 | exact q_24 | fail)) | refine O_nil ?_ | refine Q_nil ?_ | refine q_j ?_ | refine q_k ?_ | refine q_d ?_ | refine q_a ?_ | refine q_b ?_ | refine q_c ?_ | refine A_ct rfl ?_ | refine A_cf rfl ?_ | refine A_skip ?_ | refine A_exit ?_ | refine A_ret ?_ | refine q_l ?_ | refine q_m ?_ | refine q_n ?_ | refine q_h ?_ | refine q_o ?_ | refine q_e ?_ | refine q_f ?_ | refine q_g ?_ | (first | refine O_c rfl rfl rfl rfl rfl hx (fun _ => rfl) ?_ | refine O_c rfl rfl rfl rfl rfl hy (fun _ => rfl) ?_ | refine Q_c rfl rfl rfl rfl rfl hx rfl (fun _ _ _ => val_mk _ _ _ _ _ rfl rfl) ?_ | refine Q_c rfl rfl rfl rfl rfl hy rfl (fun _ _ _ => val_mk _ _ _ _ _ rfl rfl) ?_))
    exact X_ret rfl ⟨rfl, rfl⟩
  · rw [if_neg h1]
    by_cases h2 : y < x
    · rw [if_pos h2]
      repeat (first | refine A_seq ?_ | refine A_block ?_ | refine R_list ?_ | refine R_quiet rfl mixed (by kernel_rfl) ?_ | ((first | apply O_y rfl rfl rfl | apply Q_y rfl rfl rfl); (first | exact q_1 | exact q_2 | exact q_3 | exact q_4 | exact q_5 | exact q_6 | exact q_7 | exact q_8 | exact q_9 | exact q_10 | exact q_11 | exact q_12 | exact q_13 | exact q_14 | exact q_15 | exact q_16 | exact q_17 | exact q_18 | exact q_19 | exact q_20 | exact q_21 | exact q_22 | exact q_23 | exact q_24 | fail)) | refine O_nil ?_ | refine Q_nil ?_ | refine q_j ?_ | refine q_k ?_ | refine q_d ?_ | refine q_a ?_ | refine q_b ?_ | refine q_c ?_ | refine A_ct rfl ?_ | refine A_cf rfl ?_ | refine A_skip ?_ | refine A_exit ?_ | refine A_ret ?_ | refine q_l ?_ | refine q_m ?_ | refine q_n ?_ | refine q_h ?_ | refine q_o ?_ | refine q_e ?_ | refine q_f ?_ | refine q_g ?_ | (first | refine O_c rfl rfl rfl rfl rfl hx (fun _ => rfl) ?_ | refine O_c rfl rfl rfl rfl rfl hy (fun _ => rfl) ?_ | refine Q_c rfl rfl rfl rfl rfl hx rfl (fun _ _ _ => val_mk _ _ _ _ _ rfl rfl) ?_ | refine Q_c rfl rfl rfl rfl rfl hy rfl (fun _ _ _ => val_mk _ _ _ _ _ rfl rfl) ?_))
      exact X_ret rfl ⟨rfl, rfl⟩
    · rw [if_neg h2]
      repeat (first | refine A_seq ?_ | refine A_block ?_ | refine R_list ?_ | refine R_quiet rfl mixed (by kernel_rfl) ?_ | ((first | apply O_y rfl rfl rfl | apply Q_y rfl rfl rfl); (first | exact q_1 | exact q_2 | exact q_3 | exact q_4 | exact q_5 | exact q_6 | exact q_7 | exact q_8 | exact q_9 | exact q_10 | exact q_11 | exact q_12 | exact q_13 | exact q_14 | exact q_15 | exact q_16 | exact q_17 | exact q_18 | exact q_19 | exact q_20 | exact q_21 | exact q_22 | exact q_23 | exact q_24 | fail)) | refine O_nil ?_ | refine Q_nil ?_ | refine q_j ?_ | refine q_k ?_ | refine q_d ?_ | refine q_a ?_ | refine q_b ?_ | refine q_c ?_ | refine A_ct rfl ?_ | refine A_cf rfl ?_ | refine A_skip ?_ | refine A_exit ?_ | refine A_ret ?_ | refine q_l ?_ | refine q_m ?_ | refine q_n ?_ | refine q_h ?_ | refine q_o ?_ | refine q_e ?_ | refine q_f ?_ | refine q_g ?_ | (first | refine O_c rfl rfl rfl rfl rfl hx (fun _ => rfl) ?_ | refine O_c rfl rfl rfl rfl rfl hy (fun _ => rfl) ?_ | refine Q_c rfl rfl rfl rfl rfl hx rfl (fun _ _ _ => val_mk _ _ _ _ _ rfl rfl) ?_ | refine Q_c rfl rfl rfl rfl rfl hy rfl (fun _ _ _ => val_mk _ _ _ _ _ rfl rfl) ?_))
      exact X_ret rfl ⟨rfl, rfl⟩
theorem nan_addr (x : Int) : ACall Try.prog 47 [.d (.sc (.int .u32 x))] [] (Just (boolA false)) := by
  refine ACall_of tabOk Try.func47 rfl Try.ntmps47 (congrArg Array.toList Try.results47) (by kernel_rfl) rfl ?_
  repeat (first | refine A_seq ?_ | refine A_block ?_ | refine R_list ?_ | refine R_quiet rfl mixed (by kernel_rfl) ?_ | ((first | apply O_y rfl rfl rfl | apply Q_y rfl rfl rfl); (first | exact q_1 | exact q_2 | exact q_3 | exact q_4 | exact q_5 | exact q_6 | exact q_7 | exact q_8 | exact q_9 | exact q_10 | exact q_11 | exact q_12 | exact q_13 | exact q_14 | exact q_15 | exact q_16 | exact q_17 | exact q_18 | exact q_19 | exact q_20 | exact q_21 | exact q_22 | exact q_23 | exact q_24 | fail)) | refine O_nil ?_ | refine Q_nil ?_ | refine q_j ?_ | refine q_k ?_ | refine q_d ?_ | refine q_a ?_ | refine q_b ?_ | refine q_c ?_ | refine A_ct rfl ?_ | refine A_cf rfl ?_ | refine A_skip ?_ | refine A_exit ?_ | refine A_ret ?_ | refine q_l ?_ | refine q_m ?_ | refine q_n ?_ | refine q_h ?_ | refine q_o ?_ | refine q_e ?_ | refine q_f ?_ | refine q_g ?_ | fail)
  exact X_ret rfl ⟨rfl, rfl⟩
theorem compare_addr (x y : Int) : ACall Try.prog 32 [.d (.sc (.int .u32 x)), .d (.sc (.int .u32 y))] [] (Just (intA (c2 x y))) := by
  have hx := nan_addr x
  have hy := nan_addr y
  refine ACall_of tabOk Try.func32 rfl Try.ntmps32 (congrArg Array.toList Try.results32) (by kernel_rfl) rfl ?_
  unfold c2
  by_cases h1 : x < y
  · rw [if_pos h1]
    repeat (first | refine A_seq ?_ | refine A_block ?_ | refine R_list ?_ | refine R_quiet rfl mixed (by kernel_rfl) ?_ | ((first | apply O_y rfl rfl rfl | apply Q_y rfl rfl rfl); (first | exact q_1 | exact q_2 | exact q_3 | exact q_4 | exact q_5 | exact q_6 | exact q_7 | exact q_8 | exact q_9 | exact q_10 | exact q_11 | exact q_12 | exact q_13 | exact q_14 | exact q_15 | exact q_16 | exact q_17 | exact q_18 | exact q_19 | exact q_20 | exact q_21 | exact q_22 | exact q_23 | exact q_24 | fail)) | refine O_nil ?_ | refine Q_nil ?_ | refine q_j ?_ | refine q_k ?_ | refine q_d ?_ | refine q_a ?_ | refine q_b ?_ | refine q_c ?_ | refine A_ct rfl ?_ | refine A_cf rfl ?_ | refine A_skip ?_ | refine A_exit ?_ | refine A_ret ?_ | refine q_l ?_ | refine q_m ?_ | refine q_n ?_ | refine q_h ?_ | refine q_o ?_ | refine q_e ?_ | refine q_f ?_ | refine q_g ?_ | (first | refine O_c rfl rfl rfl rfl rfl hx (fun _ => rfl) ?_ | refine O_c rfl rfl rfl rfl rfl hy (fun _ => rfl) ?_ | refine Q_c rfl rfl rfl rfl rfl hx rfl (fun _ _ _ => val_mk _ _ _ _ _ rfl rfl) ?_ | refine Q_c rfl rfl rfl rfl rfl hy rfl (fun _ _ _ => val_mk _ _ _ _ _ rfl rfl) ?_))
    exact X_ret rfl ⟨rfl, rfl⟩
  · rw [if_neg h1]
    by_cases h2 : y < x
    · rw [if_pos h2]
      repeat (first | refine A_seq ?_ | refine A_block ?_ | refine R_list ?_ | refine R_quiet rfl mixed (by kernel_rfl) ?_ | ((first | apply O_y rfl rfl rfl | apply Q_y rfl rfl rfl); (first | exact q_1 | exact q_2 | exact q_3 | exact q_4 | exact q_5 | exact q_6 | exact q_7 | exact q_8 | exact q_9 | exact q_10 | exact q_11 | exact q_12 | exact q_13 | exact q_14 | exact q_15 | exact q_16 | exact q_17 | exact q_18 | exact q_19 | exact q_20 | exact q_21 | exact q_22 | exact q_23 | exact q_24 | fail)) | refine O_nil ?_ | refine Q_nil ?_ | refine q_j ?_ | refine q_k ?_ | refine q_d ?_ | refine q_a ?_ | refine q_b ?_ | refine q_c ?_ | refine A_ct rfl ?_ | refine A_cf rfl ?_ | refine A_skip ?_ | refine A_exit ?_ | refine A_ret ?_ | refine q_l ?_ | refine q_m ?_ | refine q_n ?_ | refine q_h ?_ | refine q_o ?_ | refine q_e ?_ | refine q_f ?_ | refine q_g ?_ | (first | refine O_c rfl rfl rfl rfl rfl hx (fun _ => rfl) ?_ | refine O_c rfl rfl rfl rfl rfl hy (fun _ => rfl) ?_ | refine Q_c rfl rfl rfl rfl rfl hx rfl (fun _ _ _ => val_mk _ _ _ _ _ rfl rfl) ?_ | refine Q_c rfl rfl rfl rfl rfl hy rfl (fun _ _ _ => val_mk _ _ _ _ _ rfl rfl) ?_))
      exact X_ret rfl ⟨rfl, rfl⟩
    · rw [if_neg h2]
      repeat (first | refine A_seq ?_ | refine A_block ?_ | refine R_list ?_ | refine R_quiet rfl mixed (by kernel_rfl) ?_ | ((first | apply O_y rfl rfl rfl | apply Q_y rfl rfl rfl); (first | exact q_1 | exact q_2 | exact q_3 | exact q_4 | exact q_5 | exact q_6 | exact q_7 | exact q_8 | exact q_9 | exact q_10 | exact q_11 | exact q_12 | exact q_13 | exact q_14 | exact q_15 | exact q_16 | exact q_17 | exact q_18 | exact q_19 | exact q_20 | exact q_21 | exact q_22 | exact q_23 | exact q_24 | fail)) | refine O_nil ?_ | refine Q_nil ?_ | refine q_j ?_ | refine q_k ?_ | refine q_d ?_ | refine q_a ?_ | refine q_b ?_ | refine q_c ?_ | refine A_ct rfl ?_ | refine A_cf rfl ?_ | refine A_skip ?_ | refine A_exit ?_ | refine A_ret ?_ | refine q_l ?_ | refine q_m ?_ | refine q_n ?_ | refine q_h ?_ | refine q_o ?_ | refine q_e ?_ | refine q_f ?_ | refine q_g ?_ | (first | refine O_c rfl rfl rfl rfl rfl hx (fun _ => rfl) ?_ | refine O_c rfl rfl rfl rfl rfl hy (fun _ => rfl) ?_ | refine Q_c rfl rfl rfl rfl rfl hx rfl (fun _ _ _ => val_mk _ _ _ _ _ rfl rfl) ?_ | refine Q_c rfl rfl rfl rfl rfl hy rfl (fun _ _ _ => val_mk _ _ _ _ _ rfl rfl) ?_))
      exact X_ret rfl ⟨rfl, rfl⟩
theorem nan_str (x : List UInt8) : ACall Try.prog 89 [strA x] [] (Just (boolA false)) := by
  refine ACall_of tabOk Try.func89 rfl Try.ntmps89 (congrArg Array.toList Try.results89) (by kernel_rfl) rfl ?_
  repeat (first | refine A_seq ?_ | refine A_block ?_ | refine R_list ?_ | refine R_quiet rfl mixed (by kernel_rfl) ?_ | ((first | apply O_y rfl rfl rfl | apply Q_y rfl rfl rfl); (first | exact q_1 | exact q_2 | exact q_3 | exact q_4 | exact q_5 | exact q_6 | exact q_7 | exact q_8 | exact q_9 | exact q_10 | exact q_11 | exact q_12 | exact q_13 | exact q_14 | exact q_15 | exact q_16 | exact q_17 | exact q_18 | exact q_19 | exact q_20 | exact q_21 | exact q_22 | exact q_23 | exact q_24 | (first | exact R_sF rfl rfl rfl rfl (by first | (simp only [decide_eq_false_iff_not, Bool.not_eq_false', decide_eq_true_eq]; done) | (simp only [decide_eq_false_iff_not, Bool.not_eq_false', decide_eq_true_eq]; omega)) | exact R_sT rfl rfl rfl rfl (by first | (simp only [decide_eq_true_eq, Bool.not_eq_true', decide_eq_false_iff_not]; done) | (simp only [decide_eq_true_eq, Bool.not_eq_true', decide_eq_false_iff_not]; omega))))) | refine O_nil ?_ | refine Q_nil ?_ | refine q_j ?_ | refine q_k ?_ | refine q_d ?_ | refine q_a ?_ | refine q_b ?_ | refine q_c ?_ | refine A_ct rfl ?_ | refine A_cf rfl ?_ | refine A_skip ?_ | refine A_exit ?_ | refine A_ret ?_ | refine q_l ?_ | refine q_m ?_ | refine q_n ?_ | refine q_h ?_ | refine q_o ?_ | refine q_e ?_ | refine q_f ?_ | refine q_g ?_ | fail)
  exact X_ret rfl ⟨rfl, rfl⟩
theorem bytes_c2 (x y : List UInt8) : compareBytes x y = -1 ∨ compareBytes x y = 0 ∨ compareBytes x y = 1 := by
  induction x generalizing y with
  | nil => cases y <;> simp [compareBytes]
  | cons a x ih =>
    cases y with
    | nil => simp [compareBytes]
    | cons b y =>
      simp only [compareBytes]
      split
      · exact .inl rfl
      · split
        · exact .inr (.inr rfl)
        · exact ih y
theorem compare_str (x y : List UInt8) : ACall Try.prog 58 [strA x, strA y] [] (Just (intA (compareBytes x y))) := by
  have hx := nan_str x
  have hy := nan_str y
  refine ACall_of tabOk Try.func58 rfl Try.ntmps58 (congrArg Array.toList Try.results58) (by kernel_rfl) rfl ?_
  rcases bytes_c2 x y with h | h | h
  ·
    repeat (first | refine A_seq ?_ | refine A_block ?_ | refine R_list ?_ | refine R_quiet rfl mixed (by kernel_rfl) ?_ | ((first | apply O_y rfl rfl rfl | apply Q_y rfl rfl rfl); (first | exact q_1 | exact q_2 | exact q_3 | exact q_4 | exact q_5 | exact q_6 | exact q_7 | exact q_8 | exact q_9 | exact q_10 | exact q_11 | exact q_12 | exact q_13 | exact q_14 | exact q_15 | exact q_16 | exact q_17 | exact q_18 | exact q_19 | exact q_20 | exact q_21 | exact q_22 | exact q_23 | exact q_24 | (first | exact R_sF rfl rfl rfl rfl (by first | (simp only [decide_eq_false_iff_not, Bool.not_eq_false', decide_eq_true_eq]; done) | (simp only [decide_eq_false_iff_not, Bool.not_eq_false', decide_eq_true_eq]; omega)) | exact R_sT rfl rfl rfl rfl (by first | (simp only [decide_eq_true_eq, Bool.not_eq_true', decide_eq_false_iff_not]; done) | (simp only [decide_eq_true_eq, Bool.not_eq_true', decide_eq_false_iff_not]; omega))))) | refine O_nil ?_ | refine Q_nil ?_ | refine q_j ?_ | refine q_k ?_ | refine q_d ?_ | refine q_a ?_ | refine q_b ?_ | refine q_c ?_ | refine A_ct rfl ?_ | refine A_cf rfl ?_ | refine A_skip ?_ | refine A_exit ?_ | refine A_ret ?_ | refine q_l ?_ | refine q_m ?_ | refine q_n ?_ | refine q_h ?_ | refine q_o ?_ | refine q_e ?_ | refine q_f ?_ | refine q_g ?_ | (first | refine O_c rfl rfl rfl rfl rfl hx (fun _ => rfl) ?_ | refine O_c rfl rfl rfl rfl rfl hy (fun _ => rfl) ?_ | refine Q_c rfl rfl rfl rfl rfl hx rfl (fun _ _ _ => val_mk _ _ _ _ _ rfl rfl) ?_ | refine Q_c rfl rfl rfl rfl rfl hy rfl (fun _ _ _ => val_mk _ _ _ _ _ rfl rfl) ?_))
    exact X_ret rfl ⟨by rw [h]; rfl, rfl⟩
  ·
    repeat (first | refine A_seq ?_ | refine A_block ?_ | refine R_list ?_ | refine R_quiet rfl mixed (by kernel_rfl) ?_ | ((first | apply O_y rfl rfl rfl | apply Q_y rfl rfl rfl); (first | exact q_1 | exact q_2 | exact q_3 | exact q_4 | exact q_5 | exact q_6 | exact q_7 | exact q_8 | exact q_9 | exact q_10 | exact q_11 | exact q_12 | exact q_13 | exact q_14 | exact q_15 | exact q_16 | exact q_17 | exact q_18 | exact q_19 | exact q_20 | exact q_21 | exact q_22 | exact q_23 | exact q_24 | (first | exact R_sF rfl rfl rfl rfl (by first | (simp only [decide_eq_false_iff_not, Bool.not_eq_false', decide_eq_true_eq]; done) | (simp only [decide_eq_false_iff_not, Bool.not_eq_false', decide_eq_true_eq]; omega)) | exact R_sT rfl rfl rfl rfl (by first | (simp only [decide_eq_true_eq, Bool.not_eq_true', decide_eq_false_iff_not]; done) | (simp only [decide_eq_true_eq, Bool.not_eq_true', decide_eq_false_iff_not]; omega))))) | refine O_nil ?_ | refine Q_nil ?_ | refine q_j ?_ | refine q_k ?_ | refine q_d ?_ | refine q_a ?_ | refine q_b ?_ | refine q_c ?_ | refine A_ct rfl ?_ | refine A_cf rfl ?_ | refine A_skip ?_ | refine A_exit ?_ | refine A_ret ?_ | refine q_l ?_ | refine q_m ?_ | refine q_n ?_ | refine q_h ?_ | refine q_o ?_ | refine q_e ?_ | refine q_f ?_ | refine q_g ?_ | (first | refine O_c rfl rfl rfl rfl rfl hx (fun _ => rfl) ?_ | refine O_c rfl rfl rfl rfl rfl hy (fun _ => rfl) ?_ | refine Q_c rfl rfl rfl rfl rfl hx rfl (fun _ _ _ => val_mk _ _ _ _ _ rfl rfl) ?_ | refine Q_c rfl rfl rfl rfl rfl hy rfl (fun _ _ _ => val_mk _ _ _ _ _ rfl rfl) ?_))
    exact X_ret rfl ⟨by rw [h]; rfl, rfl⟩
  ·
    repeat (first | refine A_seq ?_ | refine A_block ?_ | refine R_list ?_ | refine R_quiet rfl mixed (by kernel_rfl) ?_ | ((first | apply O_y rfl rfl rfl | apply Q_y rfl rfl rfl); (first | exact q_1 | exact q_2 | exact q_3 | exact q_4 | exact q_5 | exact q_6 | exact q_7 | exact q_8 | exact q_9 | exact q_10 | exact q_11 | exact q_12 | exact q_13 | exact q_14 | exact q_15 | exact q_16 | exact q_17 | exact q_18 | exact q_19 | exact q_20 | exact q_21 | exact q_22 | exact q_23 | exact q_24 | (first | exact R_sF rfl rfl rfl rfl (by first | (simp only [decide_eq_false_iff_not, Bool.not_eq_false', decide_eq_true_eq]; done) | (simp only [decide_eq_false_iff_not, Bool.not_eq_false', decide_eq_true_eq]; omega)) | exact R_sT rfl rfl rfl rfl (by first | (simp only [decide_eq_true_eq, Bool.not_eq_true', decide_eq_false_iff_not]; done) | (simp only [decide_eq_true_eq, Bool.not_eq_true', decide_eq_false_iff_not]; omega))))) | refine O_nil ?_ | refine Q_nil ?_ | refine q_j ?_ | refine q_k ?_ | refine q_d ?_ | refine q_a ?_ | refine q_b ?_ | refine q_c ?_ | refine A_ct rfl ?_ | refine A_cf rfl ?_ | refine A_skip ?_ | refine A_exit ?_ | refine A_ret ?_ | refine q_l ?_ | refine q_m ?_ | refine q_n ?_ | refine q_h ?_ | refine q_o ?_ | refine q_e ?_ | refine q_f ?_ | refine q_g ?_ | (first | refine O_c rfl rfl rfl rfl rfl hx (fun _ => rfl) ?_ | refine O_c rfl rfl rfl rfl rfl hy (fun _ => rfl) ?_ | refine Q_c rfl rfl rfl rfl rfl hx rfl (fun _ _ _ => val_mk _ _ _ _ _ rfl rfl) ?_ | refine Q_c rfl rfl rfl rfl rfl hy rfl (fun _ _ _ => val_mk _ _ _ _ _ rfl rfl) ?_))
    exact X_ret rfl ⟨by rw [h]; rfl, rfl⟩
theorem cmpBool_A (x y : Bool) : ACall Try.prog 59 [boolA x, boolA y] [] (Just (intA (cB x y))) := by
  refine ACall_of tabOk Try.func59 rfl Try.ntmps59 (congrArg Array.toList Try.results59) (by kernel_rfl) rfl ?_
  cases x <;> cases y
  ·
    repeat (first | refine A_seq ?_ | refine A_block ?_ | refine R_list ?_ | refine R_quiet rfl mixed (by kernel_rfl) ?_ | ((first | apply O_y rfl rfl rfl | apply Q_y rfl rfl rfl); (first | exact q_1 | exact q_2 | exact q_3 | exact q_4 | exact q_5 | exact q_6 | exact q_7 | exact q_8 | exact q_9 | exact q_10 | exact q_11 | exact q_12 | exact q_13 | exact q_14 | exact q_15 | exact q_16 | exact q_17 | exact q_18 | exact q_19 | exact q_20 | exact q_21 | exact q_22 | exact q_23 | exact q_24 | exact Y_bbin tabOk rfl rfl rfl rfl rfl)) | refine O_nil ?_ | refine Q_nil ?_ | refine q_j ?_ | refine q_k ?_ | refine q_d ?_ | refine q_a ?_ | refine q_b ?_ | refine q_c ?_ | refine A_ct rfl ?_ | refine A_cf rfl ?_ | refine A_skip ?_ | refine A_exit ?_ | refine A_ret ?_ | refine q_l ?_ | refine q_m ?_ | refine q_n ?_ | refine q_h ?_ | refine q_o ?_ | refine q_e ?_ | refine q_f ?_ | refine q_g ?_ | fail)
    exact X_ret rfl ⟨rfl, rfl⟩
  ·
    repeat (first | refine A_seq ?_ | refine A_block ?_ | refine R_list ?_ | refine R_quiet rfl mixed (by kernel_rfl) ?_ | ((first | apply O_y rfl rfl rfl | apply Q_y rfl rfl rfl); (first | exact q_1 | exact q_2 | exact q_3 | exact q_4 | exact q_5 | exact q_6 | exact q_7 | exact q_8 | exact q_9 | exact q_10 | exact q_11 | exact q_12 | exact q_13 | exact q_14 | exact q_15 | exact q_16 | exact q_17 | exact q_18 | exact q_19 | exact q_20 | exact q_21 | exact q_22 | exact q_23 | exact q_24 | exact Y_bbin tabOk rfl rfl rfl rfl rfl)) | refine O_nil ?_ | refine Q_nil ?_ | refine q_j ?_ | refine q_k ?_ | refine q_d ?_ | refine q_a ?_ | refine q_b ?_ | refine q_c ?_ | refine A_ct rfl ?_ | refine A_cf rfl ?_ | refine A_skip ?_ | refine A_exit ?_ | refine A_ret ?_ | refine q_l ?_ | refine q_m ?_ | refine q_n ?_ | refine q_h ?_ | refine q_o ?_ | refine q_e ?_ | refine q_f ?_ | refine q_g ?_ | fail)
    exact X_ret rfl ⟨rfl, rfl⟩
  ·
    repeat (first | refine A_seq ?_ | refine A_block ?_ | refine R_list ?_ | refine R_quiet rfl mixed (by kernel_rfl) ?_ | ((first | apply O_y rfl rfl rfl | apply Q_y rfl rfl rfl); (first | exact q_1 | exact q_2 | exact q_3 | exact q_4 | exact q_5 | exact q_6 | exact q_7 | exact q_8 | exact q_9 | exact q_10 | exact q_11 | exact q_12 | exact q_13 | exact q_14 | exact q_15 | exact q_16 | exact q_17 | exact q_18 | exact q_19 | exact q_20 | exact q_21 | exact q_22 | exact q_23 | exact q_24 | exact Y_bbin tabOk rfl rfl rfl rfl rfl)) | refine O_nil ?_ | refine Q_nil ?_ | refine q_j ?_ | refine q_k ?_ | refine q_d ?_ | refine q_a ?_ | refine q_b ?_ | refine q_c ?_ | refine A_ct rfl ?_ | refine A_cf rfl ?_ | refine A_skip ?_ | refine A_exit ?_ | refine A_ret ?_ | refine q_l ?_ | refine q_m ?_ | refine q_n ?_ | refine q_h ?_ | refine q_o ?_ | refine q_e ?_ | refine q_f ?_ | refine q_g ?_ | fail)
    exact X_ret rfl ⟨rfl, rfl⟩
  ·
    repeat (first | refine A_seq ?_ | refine A_block ?_ | refine R_list ?_ | refine R_quiet rfl mixed (by kernel_rfl) ?_ | ((first | apply O_y rfl rfl rfl | apply Q_y rfl rfl rfl); (first | exact q_1 | exact q_2 | exact q_3 | exact q_4 | exact q_5 | exact q_6 | exact q_7 | exact q_8 | exact q_9 | exact q_10 | exact q_11 | exact q_12 | exact q_13 | exact q_14 | exact q_15 | exact q_16 | exact q_17 | exact q_18 | exact q_19 | exact q_20 | exact q_21 | exact q_22 | exact q_23 | exact q_24 | exact Y_bbin tabOk rfl rfl rfl rfl rfl)) | refine O_nil ?_ | refine Q_nil ?_ | refine q_j ?_ | refine q_k ?_ | refine q_d ?_ | refine q_a ?_ | refine q_b ?_ | refine q_c ?_ | refine A_ct rfl ?_ | refine A_cf rfl ?_ | refine A_skip ?_ | refine A_exit ?_ | refine A_ret ?_ | refine q_l ?_ | refine q_m ?_ | refine q_n ?_ | refine q_h ?_ | refine q_o ?_ | refine q_e ?_ | refine q_f ?_ | refine q_g ?_ | fail)
    exact X_ret rfl ⟨rfl, rfl⟩
end Go.Proofs.Ytnnclkeoakjjkaa.Ab

namespace Go.Proofs.Ytnnclkeoakjjkaa.Ab
set_option linter.unusedVariables false
open Go.RowKit

mutual
def fzV (id : Nat) (ds : List Dat) : AVal → AVal
  | .ptr j off => cond (Nat.beq j id) (.iptr ds off) (.ptr j off)
  | .agg cs => .agg (fzL id ds cs)
  | .tup cs => .tup (fzL id ds cs)
  | .fn f cs => .fn f (fzL id ds cs)
  | .top => .top
  | .und => .und
  | .d x => .d x
  | .eptr j off => .eptr j off
  | .iptr cs off => .iptr cs off
  | .row j => .row j
  | .mp j => .mp j
  | .srow j o n => .srow j o n
  | .full cs n => .full cs n
def fzL (id : Nat) (ds : List Dat) : List AVal → List AVal
  | [] => []
  | c :: r => fzV id ds c :: fzL id ds r
end
theorem fzL_get (id : Nat) (ds : List Dat) (cs : List AVal) (i : Nat) : (fzL id ds cs)[i]? = (cs[i]?).map (fzV id ds) := by
  induction cs generalizing i with
  | nil => rfl
  | cons c r ih =>
    rw [fzL]
    cases i with
    | zero => rfl
    | succ i => simpa using ih i
theorem fzL_len (id : Nat) (ds : List Dat) (cs : List AVal) : (fzL id ds cs).length = cs.length := by
  induction cs with
  | nil => rfl
  | cons c r ih => rw [fzL]; simp [ih]
def fzB (id : Nat) (ds : List Dat) : ABlk → ABlk
  | .var cs => .var (fzL id ds cs)
  | .row e k n cs => .row e k n cs
  | .map es => .map (es.map fun p => (fzV id ds p.1, fzV id ds p.2))
  | .mapx r bs clk es => .mapx r bs clk (es.map fun p => (fzV id ds p.1, fzV id ds p.2))
  | .it o => .it o
def fzE (id : Nat) (ds : List Dat) : Env → Env
  | [] => []
  | (k, c) :: r => (k, fzV id ds c) :: fzE id ds r
def fzH (id : Nat) (ds : List Dat) : Heap → Heap
  | [] => []
  | (k, b) :: r => cond (Nat.beq k id) (fzH id ds r) ((k, fzB id ds b) :: fzH id ds r)
theorem look_fzE (id : Nat) (ds : List Dat) (e : Env) (t : Nat) : look (fzE id ds e) t = (look e t).map (fzV id ds) := by
  induction e with
  | nil => rfl
  | cons p r ih =>
    show cond _ _ _ = Option.map _ (cond _ _ _)
    cases Nat.beq p.1 t
    · exact ih
    · rfl
theorem look_fzH (id : Nat) (ds : List Dat) (h : Heap) (t : Nat) : look (fzH id ds h) t = if t = id then none else (look h t).map (fzB id ds) := by
  induction h with
  | nil => simp [fzH, look]
  | cons p r ih =>
    show look (cond _ _ _) t = _
    by_cases hpt : p.1 = t
    · cases hc : Nat.beq p.1 id
      · have := of_beq_no hc
        have e1 : look (p :: r) t = some p.2 := by rw [← hpt]; exact look_cons_same _ _ _
        rw [cond_false, e1, if_neg (by omega), ← hpt, look_cons_same]; rfl
      · have := Nat.eq_of_beq_eq_true hc
        rw [cond_true, ih, if_pos (by omega), if_pos (by omega)]
    · have e1 : look (p :: r) t = look r t := look_cons_ne _ _ hpt
      rw [e1]
      cases hc : Nat.beq p.1 id
      · rw [cond_false, look_cons_ne _ _ hpt, ih]
      · rw [cond_true, ih]
section
variable {nt : Nat} {e : Env} {h : Heap}
theorem Wk_freezeV {id : Nat} {cs : List AVal} {ds : List Dat} (hb : look h id = some (.var cs)) (hcs : cs = ds.map .d) : AWk nt e h (fzE id ds e) (fzH id ds h) := fun Pm F w0 pin ι a w R => by
  subst hcs
  obtain ⟨v, hv, r, C, T, rfl, hC, hlC, hrr⟩ := R.heap.blk id _ hb
  let ι' : Nat → Option Value := fun j => if j = id then none else ι j
  have hs : ∀ j u, ι' j = some u → j ≠ id ∧ ι j = some u := fun j u hj => by
    simp only [ι'] at hj
    split at hj
    · cases hj
    · exact ⟨by assumption, hj⟩
  have he : Ext w F ι w ι' := ⟨fun _ _ _ => rfl, fun r _ hf => ⟨hf.1, fun j u hj => hf.2 j u (hs j u hj).2⟩⟩
  have hfr : FreeB F ι' r := ⟨R.heap.nf id _ r hv rfl, fun j u hj hb => by
    obtain ⟨h1, h2⟩ := hs j u hj
    exact R.heap.inj j id u _ r h1 h2 hv hb rfl⟩
  have hlen : C.toList.length = ds.length := by simpa using hlC
  have hcell : ∀ (i : Nat) (u : Value), C.toList[i]? = some u → w.cell? ⟨r, 0 + i, none⟩ = some u := fun i u hu => by
    rw [Nat.zero_add]; simp [World.cell?, hC]; simpa using hu
  have hdat : ∀ (i : Nat) (c : Dat) (u : Value), ds[i]? = some c → C.toList[i]? = some u → DRel w (FreeB F ι') c u := fun i c u h1 h2 => by
    have := hrr i (.d c) u (by rw [List.getElem?_map, h1]; rfl) (by simpa using h2)
    cases this with
    | d _ _ hd => exact hd.ext he.mem he.free
  have vk : ∀ c u, VRel w F ι c u → VRel w F ι' (fzV id ds c) u := by
    intro c u hc
    induction hc with
    | top u => exact .top u
    | und => exact .und
    | d x u hd => exact .d x u (hd.ext he.mem he.free)
    | agg cs C hl h ih =>
      refine .agg _ C (by rw [fzL_len]; exact hl) fun i c u h1 h2 => ?_
      rw [fzL_get] at h1
      cases h3 : cs[i]? with
      | none => simp [h3] at h1
      | some c0 => simp [h3] at h1; subst h1; exact ih i c0 u h3 h2
    | tup cs C hl h ih =>
      refine .tup _ C (by rw [fzL_len]; exact hl) fun i c u h1 h2 => ?_
      rw [fzL_get] at h1
      cases h3 : cs[i]? with
      | none => simp [h3] at h1
      | some c0 => simp [h3] at h1; subst h1; exact ih i c0 u h3 h2
    | ptr j off u h1 h =>
      rw [fzV]
      cases hj : Nat.beq j id with
      | true =>
        have := Nat.eq_of_beq_eq_true hj
        subst this
        obtain ⟨g, h3, rfl⟩ := h _ hv
        cases h3
        have := VRel.iptr (w := w) (F := F) (ι := ι') ds off r 0 C.toList hlen (fun _ => hfr) hcell hdat
        rw [Nat.zero_add] at this
        exact this
      | false => exact .ptr j off u h1 fun v hv => h v (hs j v hv).2
    | eptr j off u h1 h => exact .eptr j off u h1 fun v hv => h v (hs j v hv).2
    | iptr cs off b o' vs hl hf hc hr => exact (VRel.iptr cs off b o' vs hl hf hc hr : VRel w F ι _ _).ext he fun j v _ hv => (hs j v hv).2
    | row j u h1 h => exact .row j u h1 fun v hv => h v (hs j v hv).2
    | mp j u h1 h => exact .mp j u h1 fun v hv => h v (hs j v hv).2
    | srow j off n u h1 h => exact .srow j off n u h1 fun v hv => h v (hs j v hv).2
    | full cs n b h => exact .full cs n b (h.ext he.mem he.free)
    | fn f cs C hl h ih =>
      refine .fn f _ C (by rw [fzL_len]; exact hl) fun i c u h1 h2 => ?_
      rw [fzL_get] at h1
      cases h3 : cs[i]? with
      | none => simp [h3] at h1
      | some c0 => simp [h3] at h1; subst h1; exact ih i c0 u h3 h2
  refine ⟨ι', ⟨?_, ?_, fun i j v v' r hij hi hj => R.heap.inj i j v v' r hij (hs i v hi).2 (hs j v' hj).2, fun i v r hi => R.heap.pm i v r (hs i v hi).2, R.heap.os, R.heap.tape, R.heap.output, R.heap.size, R.heap.keep, R.heap.fresh, fun i v h1 hi => R.heap.pinned i v h1 (hs i v hi).2, fun i v r hi => R.heap.nf i v r (hs i v hi).2, R.heap.forb⟩, ?_, R.defers.ext he, R.size⟩
  · intro j b hj
    rw [look_fzH] at hj
    split at hj
    · cases hj
    · rename_i hji
      cases hl2 : look h j with
      | none => simp [hl2] at hj
      | some b0 =>
        simp [hl2] at hj
        subst hj
        obtain ⟨v2, hv2, hB⟩ := R.heap.blk j b0 hl2
        refine ⟨v2, by simp [ι', hji, hv2], ?_⟩
        cases b0 with
        | var es =>
          obtain ⟨r, C, tt, rfl, h3, h4, h5⟩ := hB
          refine ⟨r, C, tt, rfl, h3, by rw [fzL_len]; exact h4, fun i c u h6 h7 => ?_⟩
          rw [fzL_get] at h6
          cases h8 : es[i]? with
          | none => simp [h8] at h6
          | some c0 => simp [h8] at h6; subst h6; exact vk _ _ (h5 i c0 u h8 h7)
        | row el2 k2 n2 es =>
          obtain ⟨ys, hown2, h4, h5⟩ := hB
          exact ⟨ys, hown2, h4, fun i c u h6 h7 => (h5 i c u h6 h7).ext he.mem he.free⟩
        | map es =>
          obtain ⟨r, E, clk, rfl, h3, h4, h5, h6⟩ := hB
          refine ⟨r, E, clk, rfl, h3, by simpa using h4, fun i p m h7 h8 => ?_, h6⟩
          rw [List.getElem?_map] at h7
          cases h9 : es[i]? with
          | none => simp [h9] at h7
          | some p0 => simp [h9] at h7; subst h7; exact ⟨vk _ _ (h5 i p0 m h9 h8).1, vk _ _ (h5 i p0 m h9 h8).2⟩
        | mapx r0 bs0 clk0 es =>
          obtain ⟨E, rfl, h3, h4, h5, h6⟩ := hB
          refine ⟨E, rfl, h3, by simpa using h4, fun i p m h7 h8 => ?_, h6⟩
          rw [List.getElem?_map] at h7
          cases h9 : es[i]? with
          | none => simp [h9] at h7
          | some p0 => simp [h9] at h7; subst h7; exact ⟨vk _ _ (h5 i p0 m h9 h8).1, vk _ _ (h5 i p0 m h9 h8).2⟩
        | it o => exact hB
  · intro j u hj
    obtain ⟨h1, h2⟩ := hs j u hj
    obtain ⟨b, hb⟩ := R.heap.dom j u h2
    exact ⟨fzB id _ b, by rw [look_fzH, if_neg h1, hb]; rfl⟩
  · intro t c ht
    rw [look_fzE] at ht
    cases hl2 : look e t with
    | none => simp [hl2] at ht
    | some c0 =>
      simp [hl2] at ht
      subst ht
      obtain ⟨u, hu, hv2⟩ := R.env t c0 hl2
      exact ⟨u, hu, vk _ _ hv2⟩
theorem Wk_nilB {b id : Nat} (el k : Nat) (hb : look h b = some (.var [.d (.sc (.slice none 0 0))])) (hid : Nat.blt id 1000 = true) (hne : Nat.beq b id = false) :
    AWk nt e h (killE id e) ((b, .var [.row id]) :: (id, .row el k 0 []) :: killH id h) := fun Pm F w0 pin ι a w R => by
  have hid' : id < 1000 := by simp [Nat.blt] at hid; omega
  have hne' := of_beq_no hne
  have TT : Touch w ι id (.slice none 0 0) w := ⟨rfl, rfl, rfl, Nat.le_refl _, fun _ _ _ => rfl, fun r hr => by cases hr⟩
  have H1 := R.heap.touch TT (.inl hid') (b' := .row el k 0 []) ⟨[], World.ownsRow_nil _ _ _ _, rfl, by simp⟩
  obtain ⟨v, hv, r, C, T, rfl, hC, hlC, hrr⟩ := R.heap.blk b _ hb
  have hv1 : upd ι id (some (.slice none 0 0)) b = some (.pointer (some ⟨r, 0, none⟩)) := by simp [upd, hne', hv]
  have hW : Wrote w (.pointer (some ⟨r, 0, none⟩)) w := ⟨rfl, rfl, rfl, Nat.le_refl _, fun _ _ _ => rfl⟩
  have H2 := H1.wrote (b' := .var [.row id]) hW hv1 ⟨r, C, T, rfl, hC, hlC, fun i c u h1 h2 => by
    cases i with
    | zero =>
      simp at h1
      subst h1
      have h3 := hrr 0 _ u rfl h2
      refine .row id u (by rw [(sc_of h3).1]; rfl) fun v' hv' => ?_
      simp [upd] at hv'
      rw [(sc_of h3).1, hv']
    | succ i => simp at h1⟩
  exact ⟨_, H2, R.env.killed TT.ext, R.defers.ext TT.ext, R.size⟩
end
section
variable {P : Program} {nt : Nat} {Q : Post} {e : Env} {h : Heap} {ops : Array Oper} {T : List Nat} {fuel i : Nat} {listed : Array Bool} {o : Oper} {tab : TTab}
theorem T_slice {t el k len d : Nat} {ps : Array (Nat × Operand)} {al : List (Nat × AVal)} {xs : List AVal} {ds : List Dat} (TO : TabOk P tab) (hi : ops[i]? = some o) (hw : awant ops e o = some true) (hdst : o.dst = some d) (hd : Nat.blt d nt = true) (hid : Nat.blt d 1000 = true) (ho : o.op = .buildSlice t len ps)
    (hel : telem tab t = some el) (hsz : tsize tab el = some k) (hok : (match tlook tab el with | some te => te.zero.all (·.oneCell') && Nat.blt 0 te.size && Nat.beq te.zero.length te.size && Nat.blt (len * te.size) 16777216 && Nat.blt 0 len | none => false) = true)
    (hal : aparts e ps.toList = some al) (hf : (match tlook tab el with
      | some te => afill (fun i => some (i * te.size, te.size)) ((List.range (len * te.size)).map fun j => match te.zero[j % te.size]? with | some v => .d (.sc v) | none => .top) al
      | none => none) = some xs) (hds : datsA xs = some ds)
    (HK : AAny P nt ops Q T fuel (listed.setIfInBounds i true) ((d, .row d) :: killE d e) ((d, .row el k len ds) :: killH d h)) : AAt P nt ops Q T fuel listed i e h := by
  obtain ⟨te, h1, h2⟩ := telem_spec hel
  obtain ⟨te', h3, rfl⟩ := tsize_spec hsz
  rw [h3] at hok hf
  simp only [Bool.and_eq_true] at hok
  exact T_eff hi hw (E_buildSlice TO ho hdst h1 h2 h3 hok.1.1.1.1 hok.1.1.1.2 hok.1.1.2 hok.1.2 hok.2 hal hf (datsA_spec hds) hid hd) fun e' h' ⟨h1, h2⟩ => by subst h1 h2; exact HK
theorem T_appR {t el k rid n m d : Nat} {x y : Operand} {cy : AVal} {cs ds : List Dat} (TO : TabOk P tab) (hi : ops[i]? = some o) (hw : awant ops e o = some true) (hdst : o.dst = some d) (hd : Nat.blt d nt = true) (ho : o.op = .call { callee := .builtin .append, args := #[x, y], argTypes := #[t, t] })
    (hel : telem tab t = some el) (hsz : tsize tab el = some k) (hok : (match tlook tab el with | some te => Nat.blt 0 te.size && Nat.beq te.zero.length te.size && Nat.ble te.bytes 65536 | none => false) = true)
    (hx : aev e x = some (.row rid)) (hb : look h rid = some (.row el k n cs)) (hid : Nat.blt rid 1000 = true) (hy : aev e y = some cy) (S : Src h cy m ds) (hl : ds.length = m * k) (hn : n + m ≤ 2147483648) (hT : T.contains rid = true)
    (HK : AAny P nt ops Q T fuel (listed.setIfInBounds i true) ((d, .row rid) :: killE rid e) ((rid, .row el k (n + m) (cs ++ ds)) :: killH rid h)) : AAt P nt ops Q T fuel listed i e h := by
  obtain ⟨te, h1, h2⟩ := telem_spec hel
  obtain ⟨te', h3, rfl⟩ := tsize_spec hsz
  rw [h3] at hok
  simp only [Bool.and_eq_true] at hok
  exact T_eff hi hw (E_append TO ho hdst h1 h2 h3 hok.1.1 hok.1.2 hok.2 hx hy (.row hb) S hl hn hid hd hT) fun e' h' ⟨h1, h2⟩ => by subst h1 h2; exact HK
end
end Go.Proofs.Ytnnclkeoakjjkaa.Ab

namespace Go.Proofs.Ytnnclkeoakjjkaa.Ab
set_option linter.unusedVariables false
open Go.RowKit
section
variable {P : Program} {nt : Nat} {Q : Post} {e : Env} {h : Heap} {ops : Array Oper} {o : Oper} {rest : List Oper} {T : List Nat} {tab : TTab} {fuel i : Nat} {listed : Array Bool}
theorem T_cL {f : FuncId} {args : Array Operand} {ats : Array TypeId} {cs : List AVal} {c : AVal} {v : Value} {d : Nat} (hi : ops[i]? = some o) (hw : awant ops e o = some true) (hdst : o.dst = some d) (hd : Nat.blt d nt = true) (ho : o.op = .call { callee := .value (.func f), args := args, argTypes := ats }) (hx : aevs e args.toList = some cs)
    (H : ACall P f (cs.map (lendV h)) [] (fun c' h' => c' = c ∧ h' = [])) (hc : valA c = some v) (hrel : ∀ w F ι, VRel w F ι c v) (HK : AAny P nt ops Q T fuel (listed.setIfInBounds i true) ((d, c) :: e) h) : AAt P nt ops Q T fuel listed i e h :=
  T_eff hi hw (E_callL ho hdst hx H hd hc hrel) fun e' h' ⟨h1, h2⟩ => by subst h1 h2; exact HK
theorem O_rowTo {t el el' k kk m rid d : Nat} {x y : Operand} {cs : List Dat} {n : Nat} {q : IntKind} {i : Int} (TO : TabOk P tab) (hw : awant ops e o = some true) (hdst : o.dst = some d) (hd : Nat.blt d nt = true) (ho : o.op = .slice t x none (some y) none) (hel : telem tab t = some el) (hsz : tsize tab el = some k)
    (hx : aev e x = some (.row rid)) (hb : look h rid = some (.row el' kk n cs)) (hy : aev e y = some (.d (.sc (.int q i)))) (hid : Nat.blt rid 1000 = true) (hi : i = (m : Int)) (hm : m ≤ n)
    (HK : AOps P nt ops Q rest ((d, .row rid) :: killE rid e) ((rid, .row el' kk m (cs.take (m * kk))) :: killH rid h)) : AOps P nt ops Q (o :: rest) e h := by
  obtain ⟨te, h1, h2⟩ := telem_spec hel
  obtain ⟨te', h3, rfl⟩ := tsize_spec hsz
  subst hi
  exact O_eff (T := [rid]) hw (E_rowTo TO ho hdst h1 h2 h3 hx hb hy hm hid hd (by simp)) fun e' h' ⟨h4, h5⟩ => by subst h4 h5; exact HK
theorem O_appF {t el k n m d : Nat} {x y : Operand} {cy : AVal} {cs ds : List Dat} (TO : TabOk P tab) (hw : awant ops e o = some true) (hdst : o.dst = some d) (hd : Nat.blt d nt = true) (ho : o.op = .call { callee := .builtin .append, args := #[x, y], argTypes := #[t, t] })
    (hel : telem tab t = some el) (hsz : tsize tab el = some k) (hok : (match tlook tab el with | some te => Nat.blt 0 te.size && Nat.beq te.zero.length te.size && Nat.ble te.bytes 65536 | none => false) = true)
    (hx : aev e x = some (.full cs n)) (hid : Nat.blt d 1000 = true) (hy : aev e y = some cy) (S : Src h cy m ds) (hcs : cs.length = n * k) (hm : 0 < m) (hl : ds.length = m * k) (hn : n + m ≤ 2147483648)
    (HK : AOps P nt ops Q rest ((d, .row d) :: killE d e) ((d, .row el k (n + m) (cs ++ ds)) :: killH d h)) : AOps P nt ops Q (o :: rest) e h := by
  obtain ⟨te, h1, h2⟩ := telem_spec hel
  obtain ⟨te', h3, rfl⟩ := tsize_spec hsz
  rw [h3] at hok
  simp only [Bool.and_eq_true] at hok
  exact O_eff (T := []) hw (E_appendF TO ho hdst h1 h2 h3 hok.1.1 hok.1.2 hok.2 hx hcs hy S hm hl hn hid hd) fun e' h' ⟨h4, h5⟩ => by subst h4 h5; exact HK
theorem T_appF {t el k n m d : Nat} {x y : Operand} {cy : AVal} {cs ds : List Dat} (TO : TabOk P tab) (hi : ops[i]? = some o) (hw : awant ops e o = some true) (hdst : o.dst = some d) (hd : Nat.blt d nt = true) (ho : o.op = .call { callee := .builtin .append, args := #[x, y], argTypes := #[t, t] })
    (hel : telem tab t = some el) (hsz : tsize tab el = some k) (hok : (match tlook tab el with | some te => Nat.blt 0 te.size && Nat.beq te.zero.length te.size && Nat.ble te.bytes 65536 | none => false) = true)
    (hx : aev e x = some (.full cs n)) (hid : Nat.blt d 1000 = true) (hy : aev e y = some cy) (S : Src h cy m ds) (hcs : cs.length = n * k) (hm : 0 < m) (hl : ds.length = m * k) (hn : n + m ≤ 2147483648)
    (HK : AAny P nt ops Q T fuel (listed.setIfInBounds i true) ((d, .row d) :: killE d e) ((d, .row el k (n + m) (cs ++ ds)) :: killH d h)) : AAt P nt ops Q T fuel listed i e h := by
  obtain ⟨te, h1, h2⟩ := telem_spec hel
  obtain ⟨te', h3, rfl⟩ := tsize_spec hsz
  rw [h3] at hok
  simp only [Bool.and_eq_true] at hok
  exact T_eff hi hw (E_appendF TO ho hdst h1 h2 h3 hok.1.1 hok.1.2 hok.2 hx hcs hy S hm hl hn hid hd) fun e' h' ⟨h4, h5⟩ => by subst h4 h5; exact HK
theorem T_copyS {t sT el k off1 n1 off2 n2 n id d c : Nat} {x y : Operand} {cs : List Dat} (TO : TabOk P tab) (hi : ops[i]? = some o) (hw : awant ops e o = some true) (hdst : o.dst = some d) (hd : Nat.blt d nt = true) (ho : o.op = .call { callee := .builtin .copy, args := #[x, y], argTypes := #[t, sT] })
    (hel : telem tab t = some el) (hsz : tsize tab el = some k) (hx : aev e x = some (.srow id off1 n1)) (hy : aev e y = some (.srow id off2 n2)) (hb : look h id = some (.row el k n cs)) (hT : T.contains id = true) (hc : Nat.min n2 n1 = c)
    (h1 : off1 + c * k ≤ n * k) (h2 : off2 + c * k ≤ n * k)
    (HK : AAny P nt ops Q T fuel (listed.setIfInBounds i true) ((d, .d (.sc (.int .i64 (c : Int)))) :: e) ((id, .row el k n (setW cs off1 (win cs off2 (c * k)))) :: h)) : AAt P nt ops Q T fuel listed i e h := by
  obtain ⟨te, h3, h4⟩ := telem_spec hel
  obtain ⟨te', h5, rfl⟩ := tsize_spec hsz
  subst hc
  exact T_eff hi hw (E_copyS TO ho hdst h3 h4 h5 rfl hx hy hb h1 h2 hd hT) fun e' h' ⟨h6, h7⟩ => by subst h6 h7; exact HK
theorem O_copyS {t sT el k off1 n1 off2 n2 n id d c : Nat} {x y : Operand} {cs : List Dat} (TO : TabOk P tab) (hw : awant ops e o = some true) (hdst : o.dst = some d) (hd : Nat.blt d nt = true) (ho : o.op = .call { callee := .builtin .copy, args := #[x, y], argTypes := #[t, sT] })
    (hel : telem tab t = some el) (hsz : tsize tab el = some k) (hx : aev e x = some (.srow id off1 n1)) (hy : aev e y = some (.srow id off2 n2)) (hb : look h id = some (.row el k n cs)) (hc : Nat.min n2 n1 = c)
    (h1 : off1 + c * k ≤ n * k) (h2 : off2 + c * k ≤ n * k)
    (HK : AOps P nt ops Q rest ((d, .d (.sc (.int .i64 (c : Int)))) :: e) ((id, .row el k n (setW cs off1 (win cs off2 (c * k)))) :: h)) : AOps P nt ops Q (o :: rest) e h := by
  obtain ⟨te, h3, h4⟩ := telem_spec hel
  obtain ⟨te', h5, rfl⟩ := tsize_spec hsz
  subst hc
  exact O_eff (T := [id]) hw (E_copyS TO ho hdst h3 h4 h5 rfl hx hy hb h1 h2 hd (by simp)) fun e' h' ⟨h6, h7⟩ => by subst h6 h7; exact HK
end
end Go.Proofs.Ytnnclkeoakjjkaa.Ab

namespace Go.Proofs.Ytnnclkeoakjjkaa.Ab
set_option linter.unusedVariables false
set_option maxRecDepth 100000
open Go.RowKit Go.Lib
set_option linter.unusedSimpArgs false
attribute [local irreducible] AWp AOps AQ AYield AEff ACall AWk AAny AAt AThen AIn APost NoPanic
def intD (n : Int) : List Dat := [.sc (.int .i64 n)]
theorem intD_len (n : Int) : (intD n).length = 1 := rfl
def intsA (l : List Int) : AVal := .d (.sl (l.flatMap intD) l.length)
theorem firstI_drop {l : List Int} {k : Nat} (hk : k < l.length) (h0 : l[k] = 0) : firstI (l.drop k) = firstI (l.drop (k + 1)) := by
  rw [List.drop_eq_getElem_cons hk, h0]; rfl
theorem firstI_at {l : List Int} {k : Nat} (hk : k < l.length) (h0 : l[k] ≠ 0) : firstI (l.drop k) = l[k] := by
  rw [List.drop_eq_getElem_cons hk]
  show (if l[k] = 0 then _ else _) = _
  rw [if_neg h0]
theorem or_int (l : List Int) (hn : l.length ≤ 1000000) : ACall Try.prog 30 [intsA l] [] (Just (intA (firstI l))) := by
  refine ACall_of tabOk Try.func30 rfl Try.ntmps30 (congrArg Array.toList Try.results30) (by kernel_rfl) rfl ?_
  repeat (first | refine A_seq ?_ | refine A_block ?_ | refine R_list ?_ | refine R_quiet rfl mixed (by kernel_rfl) ?_ | ((first | apply O_y rfl rfl rfl | apply Q_y rfl rfl rfl); (first | exact q_1 | exact q_2 | exact q_3 | exact q_4 | exact q_5 | exact q_6 | exact q_7 | exact q_8 | exact q_9 | exact q_10 | exact q_11 | exact q_12 | exact q_13 | exact q_14 | exact q_15 | exact q_16 | exact q_17 | exact q_18 | exact q_19 | exact q_20 | exact q_21 | exact q_22 | exact q_23 | exact q_24 | fail)) | refine O_nil ?_ | refine Q_nil ?_ | refine q_j ?_ | refine q_k ?_ | refine q_d ?_ | refine q_a ?_ | refine q_b ?_ | refine q_c ?_ | refine A_ct rfl ?_ | refine A_cf rfl ?_ | refine A_skip ?_ | refine A_exit ?_ | refine A_ret ?_ | refine q_l ?_ | refine q_m ?_ | refine q_n ?_ | refine q_h ?_ | refine q_o ?_ | refine q_e ?_ | refine q_f ?_ | refine q_g ?_ | fail)
  refine A_loop (fun k : Nat => [(2, intA 0), (3, intA 0), (6, intsA l), (7, intA (l.length : Int)), (8, intA (k : Int))]) (fun _ => []) (fun k => k ≤ l.length ∧ firstI l = firstI (l.drop k)) (fun k => l.length - k) 0 ⟨by omega, rfl⟩ (Wk_sel ⟨rfl, rfl, rfl, rfl, rfl, trivial⟩ trivial) ?_
  rintro k ⟨hk, he⟩
  dsimp only
  by_cases hlt : k < l.length
  · by_cases h0 : l[k] = 0
    ·
      repeat (first | refine A_seq ?_ | refine A_block ?_ | refine R_list ?_ | refine R_quiet rfl mixed (by kernel_rfl) ?_ | ((first | apply O_y rfl rfl rfl | apply Q_y rfl rfl rfl); (first | exact q_1 | exact q_2 | exact q_3 | exact q_4 | exact R_loadi tabOk rfl rfl rfl rfl (by first | exact win_flat0 intD_len l k _ hlt (by decide) | exact win_flat intD_len l k _ _ hlt (by decide) | exact win_flat2 intD_len l k _ _ _ hlt (by decide) | rfl) rfl rfl | exact q_6 | exact q_7 | exact q_8 | exact q_9 | exact q_10 | exact q_11 | exact q_12 | exact q_13 | exact q_14 | exact q_15 | exact q_16 | exact q_17 | exact q_18 | exact q_19 | exact q_20 | exact q_21 | exact q_22 | exact q_23 | exact q_24 | fail)) | refine O_nil ?_ | refine Q_nil ?_ | refine q_j ?_ | refine q_k ?_ | refine q_d ?_ | refine q_a ?_ | refine q_b ?_ | refine q_c ?_ | refine A_ct rfl ?_ | refine A_cf rfl ?_ | refine A_skip ?_ | refine A_exit ?_ | refine A_ret ?_ | refine q_l ?_ | refine q_m ?_ | refine q_n ?_ | refine q_h ?_ | refine q_o ?_ | refine q_e ?_ | refine q_f ?_ | refine q_g ?_ | fail)
      exact ⟨k + 1, ⟨by omega, by rw [he, firstI_drop hlt h0]⟩, by omega, Wk_sel ⟨rfl, rfl, rfl, rfl, rfl, trivial⟩ trivial⟩
    ·
      repeat (first | refine A_seq ?_ | refine A_block ?_ | refine R_list ?_ | refine R_quiet rfl mixed (by kernel_rfl) ?_ | ((first | apply O_y rfl rfl rfl | apply Q_y rfl rfl rfl); (first | exact q_1 | exact q_2 | exact q_3 | exact q_4 | exact R_loadi tabOk rfl rfl rfl rfl (by first | exact win_flat0 intD_len l k _ hlt (by decide) | exact win_flat intD_len l k _ _ hlt (by decide) | exact win_flat2 intD_len l k _ _ _ hlt (by decide) | rfl) rfl rfl | exact q_6 | exact q_7 | exact q_8 | exact q_9 | exact q_10 | exact q_11 | exact q_12 | exact q_13 | exact q_14 | exact q_15 | exact q_16 | exact q_17 | exact q_18 | exact q_19 | exact q_20 | exact q_21 | exact q_22 | exact q_23 | exact q_24 | fail)) | refine O_nil ?_ | refine Q_nil ?_ | refine q_j ?_ | refine q_k ?_ | refine q_d ?_ | refine q_a ?_ | refine q_b ?_ | refine q_c ?_ | refine A_ct rfl ?_ | refine A_cf rfl ?_ | refine A_skip ?_ | refine A_exit ?_ | refine A_ret ?_ | refine q_l ?_ | refine q_m ?_ | refine q_n ?_ | refine q_h ?_ | refine q_o ?_ | refine q_e ?_ | refine q_f ?_ | refine q_g ?_ | fail)
      exact X_ret rfl ⟨by rw [he, firstI_at hlt h0]; rfl, rfl⟩
  · have : k = l.length := by omega
    subst this
    repeat (first | refine A_seq ?_ | refine A_block ?_ | refine R_list ?_ | refine R_quiet rfl mixed (by kernel_rfl) ?_ | ((first | apply O_y rfl rfl rfl | apply Q_y rfl rfl rfl); (first | exact q_1 | exact q_2 | exact q_3 | exact q_4 | exact q_5 | exact q_6 | exact q_7 | exact q_8 | exact q_9 | exact q_10 | exact q_11 | exact q_12 | exact q_13 | exact q_14 | exact q_15 | exact q_16 | exact q_17 | exact q_18 | exact q_19 | exact q_20 | exact q_21 | exact q_22 | exact q_23 | exact q_24 | fail)) | refine O_nil ?_ | refine Q_nil ?_ | refine q_j ?_ | refine q_k ?_ | refine q_d ?_ | refine q_a ?_ | refine q_b ?_ | refine q_c ?_ | refine A_ct rfl ?_ | refine A_cf rfl ?_ | refine A_skip ?_ | refine A_exit ?_ | refine A_ret ?_ | refine q_l ?_ | refine q_m ?_ | refine q_n ?_ | refine q_h ?_ | refine q_o ?_ | refine q_e ?_ | refine q_f ?_ | refine q_g ?_ | fail)
    exact X_ret rfl ⟨by rw [he, List.drop_length]; rfl, rfl⟩
set_option maxHeartbeats 4000000 in
theorem cmpPrefix_A (p q : Pfx) : ACall Try.prog 56 [pfxA p, pfxA q] [] (Just (intA (ordP p q))) := by
  have h1 := compare_addr p.a q.a
  have h2 := compare_int p.b q.b
  have h3 := or_int [c2 p.a q.a, c2 p.b q.b] (by simp)
  rw [ordP_first] at h3
  refine ACall_of tabOk Try.func56 rfl Try.ntmps56 (congrArg Array.toList Try.results56) (by kernel_rfl) rfl ?_
  repeat (first | refine A_seq ?_ | refine A_block ?_ | refine R_list ?_ | refine R_quiet rfl mixed (by kernel_rfl) ?_ | ((first | apply O_y rfl rfl rfl | apply Q_y rfl rfl rfl); (first | exact q_1 | exact q_2 | exact q_3 | exact q_4 | exact q_5 | exact q_6 | exact q_7 | exact q_8 | exact q_9 | exact q_10 | exact q_11 | exact q_12 | exact q_13 | exact q_14 | exact q_15 | exact q_16 | exact q_17 | exact q_18 | exact q_19 | exact q_20 | exact q_21 | exact q_22 | exact q_23 | exact q_24 | fail)) | refine O_nil ?_ | refine Q_nil ?_ | refine q_j ?_ | refine q_k ?_ | refine q_d ?_ | refine q_a ?_ | refine q_b ?_ | refine q_c ?_ | refine A_ct rfl ?_ | refine A_cf rfl ?_ | refine A_skip ?_ | refine A_exit ?_ | refine A_ret ?_ | refine q_l ?_ | refine q_m ?_ | refine q_n ?_ | refine q_h ?_ | refine q_o ?_ | refine q_e ?_ | refine q_f ?_ | refine q_g ?_ | (first | refine O_c rfl rfl rfl rfl rfl h1 (fun _ => rfl) ?_ | refine O_c rfl rfl rfl rfl rfl h2 (fun _ => rfl) ?_ | refine Q_c rfl rfl rfl rfl rfl h1 rfl (fun _ _ _ => val_mk _ _ _ _ _ rfl rfl) ?_ | refine Q_c rfl rfl rfl rfl rfl h2 rfl (fun _ _ _ => val_mk _ _ _ _ _ rfl rfl) ?_))
  refine N_begin [] mixed ?_
  repeat (first | ((first | apply q_M 0 rfl rfl (by kernel_rfl) (by decide +kernel) (by decide +kernel) rfl rfl rfl | apply q_M 1 rfl rfl (by kernel_rfl) (by decide +kernel) (by decide +kernel) rfl rfl rfl | apply q_M 2 rfl rfl (by kernel_rfl) (by decide +kernel) (by decide +kernel) rfl rfl rfl | apply q_M 3 rfl rfl (by kernel_rfl) (by decide +kernel) (by decide +kernel) rfl rfl rfl | apply q_M 4 rfl rfl (by kernel_rfl) (by decide +kernel) (by decide +kernel) rfl rfl rfl | apply q_M 5 rfl rfl (by kernel_rfl) (by decide +kernel) (by decide +kernel) rfl rfl rfl | apply q_M 6 rfl rfl (by kernel_rfl) (by decide +kernel) (by decide +kernel) rfl rfl rfl | apply q_M 7 rfl rfl (by kernel_rfl) (by decide +kernel) (by decide +kernel) rfl rfl rfl | apply q_M 8 rfl rfl (by kernel_rfl) (by decide +kernel) (by decide +kernel) rfl rfl rfl | apply q_M 9 rfl rfl (by kernel_rfl) (by decide +kernel) (by decide +kernel) rfl rfl rfl | apply q_M 10 rfl rfl (by kernel_rfl) (by decide +kernel) (by decide +kernel) rfl rfl rfl | apply q_M 11 rfl rfl (by kernel_rfl) (by decide +kernel) (by decide +kernel) rfl rfl rfl | apply q_M 12 rfl rfl (by kernel_rfl) (by decide +kernel) (by decide +kernel) rfl rfl rfl ); (first | exact q_1 | exact q_2 | exact q_3 | exact q_4 | exact q_5 | exact q_6 | exact q_7 | exact q_8 | exact q_9 | exact q_10 | exact q_11 | exact q_12 | exact q_13 | exact q_14 | exact q_15 | exact q_16 | exact q_17 | exact q_18 | exact q_19 | exact q_20 | exact q_21 | exact q_22 | exact q_23 | exact q_24 | fail)) | (apply q_L 0 rfl rfl (by kernel_rfl) (by decide +kernel) (by decide +kernel) rfl rfl rfl; (first | exact q_5 | exact q_6 | exact q_7 | exact q_15 | exact q_16 | exact q_19 | fail)) | (apply q_L 1 rfl rfl (by kernel_rfl) (by decide +kernel) (by decide +kernel) rfl rfl rfl; (first | exact q_5 | exact q_6 | exact q_7 | exact q_15 | exact q_16 | exact q_19 | fail)) | (apply q_L 2 rfl rfl (by kernel_rfl) (by decide +kernel) (by decide +kernel) rfl rfl rfl; (first | exact q_5 | exact q_6 | exact q_7 | exact q_15 | exact q_16 | exact q_19 | fail)) | (apply q_L 3 rfl rfl (by kernel_rfl) (by decide +kernel) (by decide +kernel) rfl rfl rfl; (first | exact q_5 | exact q_6 | exact q_7 | exact q_15 | exact q_16 | exact q_19 | fail)) | (apply q_L 4 rfl rfl (by kernel_rfl) (by decide +kernel) (by decide +kernel) rfl rfl rfl; (first | exact q_5 | exact q_6 | exact q_7 | exact q_15 | exact q_16 | exact q_19 | fail)) | (apply q_L 5 rfl rfl (by kernel_rfl) (by decide +kernel) (by decide +kernel) rfl rfl rfl; (first | exact q_5 | exact q_6 | exact q_7 | exact q_15 | exact q_16 | exact q_19 | fail)) | (apply q_L 6 rfl rfl (by kernel_rfl) (by decide +kernel) (by decide +kernel) rfl rfl rfl; (first | exact q_5 | exact q_6 | exact q_7 | exact q_15 | exact q_16 | exact q_19 | fail)) | (apply q_L 7 rfl rfl (by kernel_rfl) (by decide +kernel) (by decide +kernel) rfl rfl rfl; (first | exact q_5 | exact q_6 | exact q_7 | exact q_15 | exact q_16 | exact q_19 | fail)) | (apply q_L 8 rfl rfl (by kernel_rfl) (by decide +kernel) (by decide +kernel) rfl rfl rfl; (first | exact q_5 | exact q_6 | exact q_7 | exact q_15 | exact q_16 | exact q_19 | fail)) | (apply q_L 9 rfl rfl (by kernel_rfl) (by decide +kernel) (by decide +kernel) rfl rfl rfl; (first | exact q_5 | exact q_6 | exact q_7 | exact q_15 | exact q_16 | exact q_19 | fail)) | (apply q_L 10 rfl rfl (by kernel_rfl) (by decide +kernel) (by decide +kernel) rfl rfl rfl; (first | exact q_5 | exact q_6 | exact q_7 | exact q_15 | exact q_16 | exact q_19 | fail)) | (apply q_L 11 rfl rfl (by kernel_rfl) (by decide +kernel) (by decide +kernel) rfl rfl rfl; (first | exact q_5 | exact q_6 | exact q_7 | exact q_15 | exact q_16 | exact q_19 | fail)) | (apply q_L 12 rfl rfl (by kernel_rfl) (by decide +kernel) (by decide +kernel) rfl rfl rfl; (first | exact q_5 | exact q_6 | exact q_7 | exact q_15 | exact q_16 | exact q_19 | fail)) | refine N_one (j := 0) (by decide +kernel) ?_ | refine N_one (j := 1) (by decide +kernel) ?_ | refine N_one (j := 2) (by decide +kernel) ?_ | refine N_one (j := 3) (by decide +kernel) ?_ | refine N_one (j := 4) (by decide +kernel) ?_ | refine N_one (j := 5) (by decide +kernel) ?_ | refine N_one (j := 6) (by decide +kernel) ?_ | refine N_one (j := 7) (by decide +kernel) ?_ | refine N_one (j := 8) (by decide +kernel) ?_ | refine N_one (j := 9) (by decide +kernel) ?_ | refine N_one (j := 10) (by decide +kernel) ?_ | refine N_one (j := 11) (by decide +kernel) ?_ | refine N_one (j := 12) (by decide +kernel) ?_ | refine T_alloc tabOk rfl rfl rfl rfl rfl rfl rfl ?_ | refine T_store tabOk rfl rfl rfl rfl rfl rfl rfl rfl rfl rfl rfl rfl rfl ?_ | refine T_box rfl rfl rfl rfl rfl rfl rfl rfl ?_ | (apply T_yield rfl rfl rfl rfl; (first | exact q_1 | exact q_2 | exact q_3 | exact q_4 | exact q_5 | exact q_6 | exact q_7 | exact q_8 | exact q_9 | exact q_10 | exact q_11 | exact q_12 | exact q_13 | exact q_14 | exact q_15 | exact q_16 | exact q_17 | exact q_18 | exact q_19 | exact q_20 | exact q_21 | exact q_22 | exact q_23 | exact q_24 | fail)) | refine N_done (by decide +kernel) ?_ | (first | refine T_call rfl rfl rfl rfl rfl rfl h1 (fun _ => rfl) ?_ | refine T_call rfl rfl rfl rfl rfl rfl h2 (fun _ => rfl) ?_ | refine T_slice tabOk rfl rfl rfl rfl rfl rfl rfl rfl rfl rfl rfl rfl ?_ | refine T_cL rfl rfl rfl rfl rfl rfl h3 rfl (fun _ _ _ => val_mk _ _ _ _ _ rfl rfl) ?_))
  repeat (first | refine A_seq ?_ | refine A_block ?_ | refine R_list ?_ | refine R_quiet rfl mixed (by kernel_rfl) ?_ | ((first | apply O_y rfl rfl rfl | apply Q_y rfl rfl rfl); (first | exact q_1 | exact q_2 | exact q_3 | exact q_4 | exact q_5 | exact q_6 | exact q_7 | exact q_8 | exact q_9 | exact q_10 | exact q_11 | exact q_12 | exact q_13 | exact q_14 | exact q_15 | exact q_16 | exact q_17 | exact q_18 | exact q_19 | exact q_20 | exact q_21 | exact q_22 | exact q_23 | exact q_24 | fail)) | refine O_nil ?_ | refine Q_nil ?_ | refine q_j ?_ | refine q_k ?_ | refine q_d ?_ | refine q_a ?_ | refine q_b ?_ | refine q_c ?_ | refine A_ct rfl ?_ | refine A_cf rfl ?_ | refine A_skip ?_ | refine A_exit ?_ | refine A_ret ?_ | refine q_l ?_ | refine q_m ?_ | refine q_n ?_ | refine q_h ?_ | refine q_o ?_ | refine q_e ?_ | refine q_f ?_ | refine q_g ?_ | fail)
  exact X_ret rfl ⟨rfl, rfl⟩
set_option maxHeartbeats 8000000 in
theorem routesCmp_A (x y : Rte) : ACall Try.prog 42 [rteA x, rteA y] [] (Just (intA (ordR x y))) := by
  have h1 := cmpPrefix_A x.p y.p
  have h2 := compare_u8 x.f y.f
  have h3 := compare_int x.d y.d
  have h4 := compare_int x.m y.m
  have h5 := compare_int x.t y.t
  have h6 := compare_addr x.h y.h
  have h7 := compare_str x.i y.i
  have h8 := cmpBool_A x.x y.x
  refine ACall_of tabOk Try.func42 rfl Try.ntmps42 (congrArg Array.toList Try.results42) (by kernel_rfl) rfl ?_
  have h9 := or_int [ordP x.p y.p, c2 x.f y.f, c2 x.d y.d, c2 x.m y.m, c2 x.t y.t, c2 x.h y.h, compareBytes x.i y.i, cB x.x y.x] (by simp)
  rw [ordR_first] at h9
  refine A_seq ?_
  refine R_list ?_
  repeat (first | refine A_seq ?_ | refine A_block ?_ | refine R_list ?_ | refine R_quiet rfl mixed (by kernel_rfl) ?_ | ((first | apply O_y rfl rfl rfl | apply Q_y rfl rfl rfl); (first | exact q_1 | exact q_2 | exact q_3 | exact q_4 | exact q_5 | exact q_6 | exact q_7 | exact q_8 | exact q_9 | exact q_10 | exact q_11 | exact q_12 | exact q_13 | exact q_14 | exact q_15 | exact q_16 | exact q_17 | exact q_18 | exact q_19 | exact q_20 | exact q_21 | exact q_22 | exact q_23 | exact q_24 | fail)) | refine O_nil ?_ | refine Q_nil ?_ | refine q_j ?_ | refine q_k ?_ | refine q_d ?_ | refine q_a ?_ | refine q_b ?_ | refine q_c ?_ | refine A_ct rfl ?_ | refine A_cf rfl ?_ | refine A_skip ?_ | refine A_exit ?_ | refine A_ret ?_ | refine q_l ?_ | refine q_m ?_ | refine q_n ?_ | refine q_h ?_ | refine q_o ?_ | refine q_e ?_ | refine q_f ?_ | refine q_g ?_ | fail)
  refine N_begin [] mixed ?_
  (apply q_P 0 rfl (by kernel_rfl) rfl rfl rfl; (first | exact q_1 | exact q_2 | exact q_3 | exact q_4 | exact q_5 | exact q_6 | exact q_7 | exact q_8 | exact q_9 | exact q_10 | exact q_11 | exact q_12 | exact q_13 | exact q_14 | exact q_15 | exact q_16 | exact q_17 | exact q_18 | exact q_19 | exact q_20 | exact q_21 | exact q_22 | exact q_23 | exact q_24 | fail))
  (apply q_P 1 rfl (by kernel_rfl) rfl rfl rfl; (first | exact q_1 | exact q_2 | exact q_3 | exact q_4 | exact q_5 | exact q_6 | exact q_7 | exact q_8 | exact q_9 | exact q_10 | exact q_11 | exact q_12 | exact q_13 | exact q_14 | exact q_15 | exact q_16 | exact q_17 | exact q_18 | exact q_19 | exact q_20 | exact q_21 | exact q_22 | exact q_23 | exact q_24 | fail))
  (apply q_P 2 rfl (by kernel_rfl) rfl rfl rfl; (first | exact q_1 | exact q_2 | exact q_3 | exact q_4 | exact q_5 | exact q_6 | exact q_7 | exact q_8 | exact q_9 | exact q_10 | exact q_11 | exact q_12 | exact q_13 | exact q_14 | exact q_15 | exact q_16 | exact q_17 | exact q_18 | exact q_19 | exact q_20 | exact q_21 | exact q_22 | exact q_23 | exact q_24 | fail))
  (apply q_P 3 rfl (by kernel_rfl) rfl rfl rfl; (first | exact q_1 | exact q_2 | exact q_3 | exact q_4 | exact q_5 | exact q_6 | exact q_7 | exact q_8 | exact q_9 | exact q_10 | exact q_11 | exact q_12 | exact q_13 | exact q_14 | exact q_15 | exact q_16 | exact q_17 | exact q_18 | exact q_19 | exact q_20 | exact q_21 | exact q_22 | exact q_23 | exact q_24 | fail))
  (apply q_P 5 rfl (by kernel_rfl) rfl rfl rfl; (first | exact q_1 | exact q_2 | exact q_3 | exact q_4 | exact q_5 | exact q_6 | exact q_7 | exact q_8 | exact q_9 | exact q_10 | exact q_11 | exact q_12 | exact q_13 | exact q_14 | exact q_15 | exact q_16 | exact q_17 | exact q_18 | exact q_19 | exact q_20 | exact q_21 | exact q_22 | exact q_23 | exact q_24 | fail))
  (apply q_P 6 rfl (by kernel_rfl) rfl rfl rfl; (first | exact q_1 | exact q_2 | exact q_3 | exact q_4 | exact q_5 | exact q_6 | exact q_7 | exact q_8 | exact q_9 | exact q_10 | exact q_11 | exact q_12 | exact q_13 | exact q_14 | exact q_15 | exact q_16 | exact q_17 | exact q_18 | exact q_19 | exact q_20 | exact q_21 | exact q_22 | exact q_23 | exact q_24 | fail))
  (apply q_P 7 rfl (by kernel_rfl) rfl rfl rfl; (first | exact q_1 | exact q_2 | exact q_3 | exact q_4 | exact q_5 | exact q_6 | exact q_7 | exact q_8 | exact q_9 | exact q_10 | exact q_11 | exact q_12 | exact q_13 | exact q_14 | exact q_15 | exact q_16 | exact q_17 | exact q_18 | exact q_19 | exact q_20 | exact q_21 | exact q_22 | exact q_23 | exact q_24 | fail))
  (apply q_P 8 rfl (by kernel_rfl) rfl rfl rfl; (first | exact q_1 | exact q_2 | exact q_3 | exact q_4 | exact q_5 | exact q_6 | exact q_7 | exact q_8 | exact q_9 | exact q_10 | exact q_11 | exact q_12 | exact q_13 | exact q_14 | exact q_15 | exact q_16 | exact q_17 | exact q_18 | exact q_19 | exact q_20 | exact q_21 | exact q_22 | exact q_23 | exact q_24 | fail))
  (apply q_P 10 rfl (by kernel_rfl) rfl rfl rfl; (first | exact q_1 | exact q_2 | exact q_3 | exact q_4 | exact q_5 | exact q_6 | exact q_7 | exact q_8 | exact q_9 | exact q_10 | exact q_11 | exact q_12 | exact q_13 | exact q_14 | exact q_15 | exact q_16 | exact q_17 | exact q_18 | exact q_19 | exact q_20 | exact q_21 | exact q_22 | exact q_23 | exact q_24 | fail))
  (apply q_P 11 rfl (by kernel_rfl) rfl rfl rfl; (first | exact q_1 | exact q_2 | exact q_3 | exact q_4 | exact q_5 | exact q_6 | exact q_7 | exact q_8 | exact q_9 | exact q_10 | exact q_11 | exact q_12 | exact q_13 | exact q_14 | exact q_15 | exact q_16 | exact q_17 | exact q_18 | exact q_19 | exact q_20 | exact q_21 | exact q_22 | exact q_23 | exact q_24 | fail))
  (apply q_P 12 rfl (by kernel_rfl) rfl rfl rfl; (first | exact q_1 | exact q_2 | exact q_3 | exact q_4 | exact q_5 | exact q_6 | exact q_7 | exact q_8 | exact q_9 | exact q_10 | exact q_11 | exact q_12 | exact q_13 | exact q_14 | exact q_15 | exact q_16 | exact q_17 | exact q_18 | exact q_19 | exact q_20 | exact q_21 | exact q_22 | exact q_23 | exact q_24 | fail))
  (apply q_P 13 rfl (by kernel_rfl) rfl rfl rfl; (first | exact q_1 | exact q_2 | exact q_3 | exact q_4 | exact q_5 | exact q_6 | exact q_7 | exact q_8 | exact q_9 | exact q_10 | exact q_11 | exact q_12 | exact q_13 | exact q_14 | exact q_15 | exact q_16 | exact q_17 | exact q_18 | exact q_19 | exact q_20 | exact q_21 | exact q_22 | exact q_23 | exact q_24 | fail))
  (apply q_P 15 rfl (by kernel_rfl) rfl rfl rfl; (first | exact q_1 | exact q_2 | exact q_3 | exact q_4 | exact q_5 | exact q_6 | exact q_7 | exact q_8 | exact q_9 | exact q_10 | exact q_11 | exact q_12 | exact q_13 | exact q_14 | exact q_15 | exact q_16 | exact q_17 | exact q_18 | exact q_19 | exact q_20 | exact q_21 | exact q_22 | exact q_23 | exact q_24 | fail))
  (apply q_P 16 rfl (by kernel_rfl) rfl rfl rfl; (first | exact q_1 | exact q_2 | exact q_3 | exact q_4 | exact q_5 | exact q_6 | exact q_7 | exact q_8 | exact q_9 | exact q_10 | exact q_11 | exact q_12 | exact q_13 | exact q_14 | exact q_15 | exact q_16 | exact q_17 | exact q_18 | exact q_19 | exact q_20 | exact q_21 | exact q_22 | exact q_23 | exact q_24 | fail))
  (apply q_P 17 rfl (by kernel_rfl) rfl rfl rfl; (first | exact q_1 | exact q_2 | exact q_3 | exact q_4 | exact q_5 | exact q_6 | exact q_7 | exact q_8 | exact q_9 | exact q_10 | exact q_11 | exact q_12 | exact q_13 | exact q_14 | exact q_15 | exact q_16 | exact q_17 | exact q_18 | exact q_19 | exact q_20 | exact q_21 | exact q_22 | exact q_23 | exact q_24 | fail))
  (apply q_P 18 rfl (by kernel_rfl) rfl rfl rfl; (first | exact q_1 | exact q_2 | exact q_3 | exact q_4 | exact q_5 | exact q_6 | exact q_7 | exact q_8 | exact q_9 | exact q_10 | exact q_11 | exact q_12 | exact q_13 | exact q_14 | exact q_15 | exact q_16 | exact q_17 | exact q_18 | exact q_19 | exact q_20 | exact q_21 | exact q_22 | exact q_23 | exact q_24 | fail))
  (apply q_P 20 rfl (by kernel_rfl) rfl rfl rfl; (first | exact q_1 | exact q_2 | exact q_3 | exact q_4 | exact q_5 | exact q_6 | exact q_7 | exact q_8 | exact q_9 | exact q_10 | exact q_11 | exact q_12 | exact q_13 | exact q_14 | exact q_15 | exact q_16 | exact q_17 | exact q_18 | exact q_19 | exact q_20 | exact q_21 | exact q_22 | exact q_23 | exact q_24 | fail))
  (apply q_P 21 rfl (by kernel_rfl) rfl rfl rfl; (first | exact q_1 | exact q_2 | exact q_3 | exact q_4 | exact q_5 | exact q_6 | exact q_7 | exact q_8 | exact q_9 | exact q_10 | exact q_11 | exact q_12 | exact q_13 | exact q_14 | exact q_15 | exact q_16 | exact q_17 | exact q_18 | exact q_19 | exact q_20 | exact q_21 | exact q_22 | exact q_23 | exact q_24 | fail))
  (apply q_P 22 rfl (by kernel_rfl) rfl rfl rfl; (first | exact q_1 | exact q_2 | exact q_3 | exact q_4 | exact q_5 | exact q_6 | exact q_7 | exact q_8 | exact q_9 | exact q_10 | exact q_11 | exact q_12 | exact q_13 | exact q_14 | exact q_15 | exact q_16 | exact q_17 | exact q_18 | exact q_19 | exact q_20 | exact q_21 | exact q_22 | exact q_23 | exact q_24 | fail))
  (apply q_P 23 rfl (by kernel_rfl) rfl rfl rfl; (first | exact q_1 | exact q_2 | exact q_3 | exact q_4 | exact q_5 | exact q_6 | exact q_7 | exact q_8 | exact q_9 | exact q_10 | exact q_11 | exact q_12 | exact q_13 | exact q_14 | exact q_15 | exact q_16 | exact q_17 | exact q_18 | exact q_19 | exact q_20 | exact q_21 | exact q_22 | exact q_23 | exact q_24 | fail))
  (apply q_P 25 rfl (by kernel_rfl) rfl rfl rfl; (first | exact q_1 | exact q_2 | exact q_3 | exact q_4 | exact q_5 | exact q_6 | exact q_7 | exact q_8 | exact q_9 | exact q_10 | exact q_11 | exact q_12 | exact q_13 | exact q_14 | exact q_15 | exact q_16 | exact q_17 | exact q_18 | exact q_19 | exact q_20 | exact q_21 | exact q_22 | exact q_23 | exact q_24 | fail))
  (apply q_P 26 rfl (by kernel_rfl) rfl rfl rfl; (first | exact q_1 | exact q_2 | exact q_3 | exact q_4 | exact q_5 | exact q_6 | exact q_7 | exact q_8 | exact q_9 | exact q_10 | exact q_11 | exact q_12 | exact q_13 | exact q_14 | exact q_15 | exact q_16 | exact q_17 | exact q_18 | exact q_19 | exact q_20 | exact q_21 | exact q_22 | exact q_23 | exact q_24 | fail))
  (apply q_P 27 rfl (by kernel_rfl) rfl rfl rfl; (first | exact q_1 | exact q_2 | exact q_3 | exact q_4 | exact q_5 | exact q_6 | exact q_7 | exact q_8 | exact q_9 | exact q_10 | exact q_11 | exact q_12 | exact q_13 | exact q_14 | exact q_15 | exact q_16 | exact q_17 | exact q_18 | exact q_19 | exact q_20 | exact q_21 | exact q_22 | exact q_23 | exact q_24 | fail))
  (apply q_P 28 rfl (by kernel_rfl) rfl rfl rfl; (first | exact q_1 | exact q_2 | exact q_3 | exact q_4 | exact q_5 | exact q_6 | exact q_7 | exact q_8 | exact q_9 | exact q_10 | exact q_11 | exact q_12 | exact q_13 | exact q_14 | exact q_15 | exact q_16 | exact q_17 | exact q_18 | exact q_19 | exact q_20 | exact q_21 | exact q_22 | exact q_23 | exact q_24 | fail))
  (apply q_P 30 rfl (by kernel_rfl) rfl rfl rfl; (first | exact q_1 | exact q_2 | exact q_3 | exact q_4 | exact q_5 | exact q_6 | exact q_7 | exact q_8 | exact q_9 | exact q_10 | exact q_11 | exact q_12 | exact q_13 | exact q_14 | exact q_15 | exact q_16 | exact q_17 | exact q_18 | exact q_19 | exact q_20 | exact q_21 | exact q_22 | exact q_23 | exact q_24 | fail))
  (apply q_P 31 rfl (by kernel_rfl) rfl rfl rfl; (first | exact q_1 | exact q_2 | exact q_3 | exact q_4 | exact q_5 | exact q_6 | exact q_7 | exact q_8 | exact q_9 | exact q_10 | exact q_11 | exact q_12 | exact q_13 | exact q_14 | exact q_15 | exact q_16 | exact q_17 | exact q_18 | exact q_19 | exact q_20 | exact q_21 | exact q_22 | exact q_23 | exact q_24 | fail))
  (apply q_P 32 rfl (by kernel_rfl) rfl rfl rfl; (first | exact q_1 | exact q_2 | exact q_3 | exact q_4 | exact q_5 | exact q_6 | exact q_7 | exact q_8 | exact q_9 | exact q_10 | exact q_11 | exact q_12 | exact q_13 | exact q_14 | exact q_15 | exact q_16 | exact q_17 | exact q_18 | exact q_19 | exact q_20 | exact q_21 | exact q_22 | exact q_23 | exact q_24 | fail))
  (apply q_P 33 rfl (by kernel_rfl) rfl rfl rfl; (first | exact q_1 | exact q_2 | exact q_3 | exact q_4 | exact q_5 | exact q_6 | exact q_7 | exact q_8 | exact q_9 | exact q_10 | exact q_11 | exact q_12 | exact q_13 | exact q_14 | exact q_15 | exact q_16 | exact q_17 | exact q_18 | exact q_19 | exact q_20 | exact q_21 | exact q_22 | exact q_23 | exact q_24 | fail))
  (apply q_P 35 rfl (by kernel_rfl) rfl rfl rfl; (first | exact q_1 | exact q_2 | exact q_3 | exact q_4 | exact q_5 | exact q_6 | exact q_7 | exact q_8 | exact q_9 | exact q_10 | exact q_11 | exact q_12 | exact q_13 | exact q_14 | exact q_15 | exact q_16 | exact q_17 | exact q_18 | exact q_19 | exact q_20 | exact q_21 | exact q_22 | exact q_23 | exact q_24 | fail))
  (apply q_P 36 rfl (by kernel_rfl) rfl rfl rfl; (first | exact q_1 | exact q_2 | exact q_3 | exact q_4 | exact q_5 | exact q_6 | exact q_7 | exact q_8 | exact q_9 | exact q_10 | exact q_11 | exact q_12 | exact q_13 | exact q_14 | exact q_15 | exact q_16 | exact q_17 | exact q_18 | exact q_19 | exact q_20 | exact q_21 | exact q_22 | exact q_23 | exact q_24 | fail))
  (apply q_P 37 rfl (by kernel_rfl) rfl rfl rfl; (first | exact q_1 | exact q_2 | exact q_3 | exact q_4 | exact q_5 | exact q_6 | exact q_7 | exact q_8 | exact q_9 | exact q_10 | exact q_11 | exact q_12 | exact q_13 | exact q_14 | exact q_15 | exact q_16 | exact q_17 | exact q_18 | exact q_19 | exact q_20 | exact q_21 | exact q_22 | exact q_23 | exact q_24 | fail))
  (apply q_P 38 rfl (by kernel_rfl) rfl rfl rfl; (first | exact q_1 | exact q_2 | exact q_3 | exact q_4 | exact q_5 | exact q_6 | exact q_7 | exact q_8 | exact q_9 | exact q_10 | exact q_11 | exact q_12 | exact q_13 | exact q_14 | exact q_15 | exact q_16 | exact q_17 | exact q_18 | exact q_19 | exact q_20 | exact q_21 | exact q_22 | exact q_23 | exact q_24 | fail))
  refine N_one (j := 4) (by kernel_rfl) ?_
  refine T_call rfl rfl rfl rfl rfl rfl h1 (fun _ => rfl) ?_
  refine N_one (j := 9) (by kernel_rfl) ?_
  refine T_call rfl rfl rfl rfl rfl rfl h2 (fun _ => rfl) ?_
  refine N_one (j := 14) (by kernel_rfl) ?_
  refine T_call rfl rfl rfl rfl rfl rfl h3 (fun _ => rfl) ?_
  refine N_one (j := 19) (by kernel_rfl) ?_
  refine T_call rfl rfl rfl rfl rfl rfl h4 (fun _ => rfl) ?_
  refine N_one (j := 24) (by kernel_rfl) ?_
  refine T_call rfl rfl rfl rfl rfl rfl h5 (fun _ => rfl) ?_
  refine N_one (j := 29) (by kernel_rfl) ?_
  refine T_call rfl rfl rfl rfl rfl rfl h6 (fun _ => rfl) ?_
  refine N_one (j := 34) (by kernel_rfl) ?_
  refine T_call rfl rfl rfl rfl rfl rfl h7 (fun _ => rfl) ?_
  refine N_one (j := 39) (by kernel_rfl) ?_
  refine T_call rfl rfl rfl rfl rfl rfl h8 (fun _ => rfl) ?_
  refine N_one (j := 40) (by kernel_rfl) ?_
  refine T_slice tabOk rfl rfl rfl rfl rfl rfl rfl rfl rfl rfl rfl rfl ?_
  refine N_one (j := 41) (by kernel_rfl) ?_
  refine T_cL rfl rfl rfl rfl rfl rfl h9 rfl (fun _ _ _ => val_mk _ _ _ _ _ rfl rfl) ?_
  (apply q_P 42 rfl (by kernel_rfl) rfl rfl rfl; (first | exact q_1 | exact q_2 | exact q_3 | exact q_4 | exact q_5 | exact q_6 | exact q_7 | exact q_8 | exact q_9 | exact q_10 | exact q_11 | exact q_12 | exact q_13 | exact q_14 | exact q_15 | exact q_16 | exact q_17 | exact q_18 | exact q_19 | exact q_20 | exact q_21 | exact q_22 | exact q_23 | exact q_24 | fail))
  refine N_done (by kernel_rfl) ?_
  repeat (first | refine A_seq ?_ | refine A_block ?_ | refine R_list ?_ | refine R_quiet rfl mixed (by kernel_rfl) ?_ | ((first | apply O_y rfl rfl rfl | apply Q_y rfl rfl rfl); (first | exact q_1 | exact q_2 | exact q_3 | exact q_4 | exact q_5 | exact q_6 | exact q_7 | exact q_8 | exact q_9 | exact q_10 | exact q_11 | exact q_12 | exact q_13 | exact q_14 | exact q_15 | exact q_16 | exact q_17 | exact q_18 | exact q_19 | exact q_20 | exact q_21 | exact q_22 | exact q_23 | exact q_24 | fail)) | refine O_nil ?_ | refine Q_nil ?_ | refine q_j ?_ | refine q_k ?_ | refine q_d ?_ | refine q_a ?_ | refine q_b ?_ | refine q_c ?_ | refine A_ct rfl ?_ | refine A_cf rfl ?_ | refine A_skip ?_ | refine A_exit ?_ | refine A_ret ?_ | refine q_l ?_ | refine q_m ?_ | refine q_n ?_ | refine q_h ?_ | refine q_o ?_ | refine q_e ?_ | refine q_f ?_ | refine q_g ?_ | fail)
  exact X_ret rfl ⟨rfl, rfl⟩
end Go.Proofs.Ytnnclkeoakjjkaa.Ab

namespace Go.Proofs.Ytnnclkeoakjjkaa
set_option linter.unusedVariables false
set_option maxRecDepth 100000
open Go
def rworld {α : Type} : Result α → World
  | .ok _ w => w
  | .halt _ w => w
theorem ask_drawn {α : Type} (a : Ask α) (w : World) : w.drawn ≤ (w.ask a).2.drawn := by
  induction a generalizing w with
  | done a => exact Nat.le_refl _
  | ask what range k ih =>
    simp only [World.ask]
    split
    · exact ih _ _
    · refine Nat.le_trans ?_ (ih _ _)
      exact Nat.le_succ _
theorem sys_drawn (w : World) (c : Sys) : w.drawn ≤ (w.sys c).2.drawn := by
  have hk := ask_drawn (Kernel.perform c w.os) w
  unfold World.sys
  split
  · exact Nat.le_refl _
  · rename_i h
    rw [h] at hk
    exact hk
theorem viewStore_drawn {p : Program} {w : World} {at_ : Addr} {u : TypeId} {k : Addr} {v : Value} {b : Bool} {r : World × List Addr} (h : w.viewStore p at_ u k v b = .ok r) : r.1.drawn = w.drawn := by
  unfold World.viewStore at h
  simp only [bind, Except.bind, pure, Except.pure, throw, throwThe, MonadExceptOf.throw] at h
  repeat' first
    | (simp at h; done)
    | (simp only [Except.ok.injEq] at h; subst h; rfl)
    | split at h
theorem farStore_drawn {p : Program} {w : World} {a : Addr} {v : Value} {b : Bool} {r : World × List Addr} (h : w.farStore p a v b = .ok r) : r.1.drawn = w.drawn := by
  unfold World.farStore at h
  split at h
  · split at h
    · rename_i hv
      cases h
      exact viewStore_drawn hv
    · cases h
  · cases h
theorem run_drawn {α : Type} (p : Program) (e : Sem α) (w : World) : w.drawn ≤ (rworld (e.run p w)).drawn := by
  induction e generalizing w with
  | pure a => exact Nat.le_refl _
  | load m a k ih =>
    simp only [Sem.run]
    (repeat' split) <;> first | exact ih _ _ | exact Nat.le_refl _
  | store m a v k ih =>
    cases v <;> simp only [Sem.run] <;> (repeat' split) <;> first
      | exact Nat.le_refl _
      | (refine Nat.le_trans ?_ (ih _); exact Nat.le_refl _)
      | (refine Nat.le_trans ?_ (ih _); rename_i hf; exact Nat.le_of_eq (farStore_drawn hf).symm)
  | new o k ih => refine Nat.le_trans ?_ (ih _ _); exact Nat.le_refl _
  | shape r k ih => exact ih _ _
  | freeze a n k ih =>
    refine Nat.le_trans ?_ (ih _)
    unfold World.freeze
    split <;> exact Nat.le_refl _
  | frozen a k ih => exact ih _ _
  | getObj r k ih =>
    simp only [Sem.run]
    split <;> first | exact ih _ _ | exact Nat.le_refl _
  | setObj r o k ih =>
    simp only [Sem.run]
    split <;> first | exact Nat.le_refl _ | (refine Nat.le_trans ?_ (ih _); exact Nat.le_refl _)
  | choose q k ih =>
    simp only [Sem.run]
    split
    · exact ih _ _
    · refine Nat.le_trans ?_ (ih _ _)
      exact Nat.le_succ _
  | sys c k ih =>
    refine Nat.le_trans ?_ (ih _ _)
    exact sys_drawn _ _
  | program k ih => exact ih _ _
  | mark m k ih => exact ih _
  | halt h => exact Nat.le_refl _
section
variable {α : Type} {p : Program} {s : Sem α} {w w1 : World} {D : Nat} {a : α} {x : Halt} {e e1 : Array Event}
theorem le_ok (h : s.run p w = .ok a w1) (hD : D ≤ w.drawn) : D ≤ w1.drawn := by
  have := run_drawn p s w
  rw [h] at this
  exact Nat.le_trans hD this
theorem le_halt (h : s.run p w = .halt x w1) (hD : D ≤ w.drawn) : D ≤ w1.drawn := by
  have := run_drawn p s w
  rw [h] at this
  exact Nat.le_trans hD this
theorem le_okP (h : (s.run p w, e) = (.ok a w1, e1)) (hD : D ≤ w.drawn) : D ≤ w1.drawn := le_ok (Prod.mk.inj h).1 hD
theorem le_haltP (h : (s.run p w, e) = (.halt x w1, e1)) (hD : D ≤ w.drawn) : D ≤ w1.drawn := le_halt (Prod.mk.inj h).1 hD
end
def gdr (D : Nat) : GStep → Prop
  | .go _ w _ => D ≤ w.drawn
  | .comm _ _ _ _ w _ => D ≤ w.drawn
  | .spawn _ _ w _ => D ≤ w.drawn
  | .count _ w _ => D ≤ w.drawn
  | .timer _ _ w _ => D ≤ w.drawn
  | .alone _ _ w _ => D ≤ w.drawn
  | .newcoro _ _ _ w _ => D ≤ w.drawn
  | .coroswitch _ _ _ w _ => D ≤ w.drawn
  | .collect _ w _ => D ≤ w.drawn
  | .watch _ w _ => D ≤ w.drawn
  | .ended _ _ _ => True
theorem gdr_after (D : Nat) (es : Array Event) (s : GStep) : gdr D (GStep.after es s) = gdr D s := by cases s <;> rfl
theorem gdr_elim {α : Type} {D : Nat} {o : Option α} {a : GStep} {f : α → GStep} (ha : gdr D a) (hf : ∀ x, gdr D (f x)) : gdr D (o.elim a f) := by cases o; exact ha; exact hf _
section
variable {p : Program} {main b : Bool} {fr : Frame} {callers : List Frame} {dying : Option Dying} {w : World} {D : Nat}
theorem doReturn_dr {v : Value} (h : D ≤ w.drawn) : gdr D (doReturn p main fr callers dying v w) := by
  unfold doReturn
  repeat' first
    | trivial
    | rw [gdr_after]
    | exact h
    | exact le_ok (by assumption) h
    | exact le_halt (by assumption) h
    | exact le_okP (by assumption) h
    | exact le_haltP (by assumption) h
    | (simp only [gdr]; exact le_ok (by assumption) h)
    | (simp only [gdr]; exact le_halt (by assumption) h)
    | split
theorem dieOf_dr {l : List ByteArray} {m : String} {b : Bool} (h : D ≤ w.drawn) : gdr D (dieOf fr l m b w) := h
theorem endThrow_dr {m : String} (h : D ≤ w.drawn) : gdr D (endThrow fr m w) := h
theorem endWith_dr {n : Nat} {t : ByteArray} {o : Outcome} : gdr D (endWith w n t o) := by
  unfold endWith
  simp only []
  repeat' first
    | trivial
    | split
theorem endPrinting_dr {v : Value} (h : D ≤ w.drawn) : gdr D (endPrinting p fr v w) := by
  unfold endPrinting
  simp only []
  repeat' first
    | exact endThrow_dr h
    | trivial
    | split
theorem endFatal_dr {m : String} (h : D ≤ w.drawn) : gdr D (endFatal p fr callers dying m w) := by
  unfold endFatal
  simp only []
  split
  · exact dieOf_dr (le_ok (by assumption) h)
  · trivial
  · trivial
theorem writeOn_dr {d : Dying} {f : Fatal} (h : D ≤ w.drawn) : gdr D (writeOn p fr d f w) := by
  unfold writeOn
  simp only [Sem.runT_eq]
  split
  · trivial
  · split
    · exact le_okP (by assumption) h
    · exact le_haltP (by assumption) h
    · trivial
    · trivial
theorem die_dr {d : Dying} (h : D ≤ w.drawn) : gdr D (die p fr d w) := by
  unfold die
  simp only [Sem.runT_eq, gdr_after]
  repeat' first
    | trivial
    | rw [gdr_after]
    | exact h
    | exact le_ok (by assumption) h
    | exact le_halt (by assumption) h
    | exact le_okP (by assumption) h
    | exact le_haltP (by assumption) h
    | (simp only [gdr]; exact le_ok (by assumption) h)
    | (simp only [gdr]; exact le_halt (by assumption) h)
    | exact writeOn_dr h
    | exact endWith_dr
    | exact endPrinting_dr (le_halt (by assumption) h)
    | split
theorem callDeferred_dr {d : Deferred} (h : D ≤ w.drawn) : gdr D (callDeferred p fr callers dying d w) := by
  unfold callDeferred
  simp only [Sem.runT_eq, gdr_after]
  repeat' first
    | trivial
    | rw [gdr_after]
    | exact h
    | exact le_ok (by assumption) h
    | exact le_halt (by assumption) h
    | exact le_okP (by assumption) h
    | exact le_haltP (by assumption) h
    | (simp only [gdr]; exact le_ok (by assumption) h)
    | (simp only [gdr]; exact le_halt (by assumption) h)
    | exact endFatal_dr (le_halt (by assumption) h)
    | exact endThrow_dr (le_halt (by assumption) h)
    | split
theorem unwind_dr (h : D ≤ w.drawn) : gdr D (unwind p main fr callers dying w) := by
  unfold unwind
  simp only [Sem.runT_eq, gdr_after]
  repeat' first
    | trivial
    | rw [gdr_after]
    | exact h
    | exact le_ok (by assumption) h
    | exact le_halt (by assumption) h
    | exact le_okP (by assumption) h
    | exact le_haltP (by assumption) h
    | (simp only [gdr]; exact le_ok (by assumption) h)
    | (simp only [gdr]; exact le_halt (by assumption) h)
    | exact callDeferred_dr h
    | exact doReturn_dr h
    | exact doReturn_dr (le_ok (by assumption) h)
    | exact endPrinting_dr h
    | split
theorem early_dr {g : Nat} (h : D ≤ w.drawn) : gdr D (early p fr callers dying g w) := by
  unfold early
  simp only []
  repeat' first
    | trivial
    | rw [gdr_after]
    | exact h
    | exact le_ok (by assumption) h
    | exact le_halt (by assumption) h
    | exact le_okP (by assumption) h
    | exact le_haltP (by assumption) h
    | (simp only [gdr]; exact le_ok (by assumption) h)
    | (simp only [gdr]; exact le_halt (by assumption) h)
    | split
theorem apply_dr {s : Sem Next} (h : D ≤ w.drawn) : gdr D (stepG.apply p b fr callers dying s w) := by
  unfold stepG.apply
  have e : (if b = true then s.runT p w #[] else (s.run p w, #[])).1 = s.run p w := by split <;> simp
  generalize (if b = true then s.runT p w #[] else (s.run p w, #[])) = re at e ⊢
  obtain ⟨r, es⟩ := re
  dsimp only at e
  subst e
  simp only [gdr_after]
  repeat' first
    | trivial
    | rw [gdr_after]
    | exact h
    | exact le_ok (by assumption) h
    | exact le_halt (by assumption) h
    | exact le_okP (by assumption) h
    | exact le_haltP (by assumption) h
    | (simp only [gdr]; exact le_ok (by assumption) h)
    | (simp only [gdr]; exact le_halt (by assumption) h)
    | exact endFatal_dr (le_halt (by assumption) h)
    | exact endThrow_dr (le_halt (by assumption) h)
    | exact endThrow_dr (le_ok (by assumption) h)
    | exact early_dr (le_halt (by assumption) h)
    | split
theorem oper_dr (h : D ≤ w.drawn) : gdr D (stepG.oper p b fr callers dying w) := by
  unfold stepG.oper
  split
  · trivial
  · split <;> exact apply_dr h
theorem exec_dr (h : D ≤ w.drawn) : gdr D (stepG.exec p main b fr callers dying w) := by
  unfold stepG.exec
  simp only [Sem.runT_eq, gdr_after]
  repeat' first
    | trivial
    | rw [gdr_after]
    | exact h
    | exact le_ok (by assumption) h
    | exact le_halt (by assumption) h
    | exact le_okP (by assumption) h
    | exact le_haltP (by assumption) h
    | (simp only [gdr]; exact le_ok (by assumption) h)
    | (simp only [gdr]; exact le_halt (by assumption) h)
    | exact apply_dr h
    | exact apply_dr (le_ok (by assumption) h)
    | exact oper_dr h
    | exact doReturn_dr (le_ok (by assumption) h)
    | (refine gdr_elim ?_ fun x => ?_)
    | (simp only [Sem.runT_eq, gdr_after]; done)
    | split
end
section
variable {p : Program} {w : World} {m m' : Machine}
theorem stepG_dr {main b : Bool} {g : Goroutine} : gdr w.drawn (stepG p main g w b) := by
  obtain ⟨fr, callers, status, dying, offers⟩ := g
  simp only [stepG]
  have h : w.drawn ≤ w.drawn := Nat.le_refl _
  split
  · exact die_dr h
  · exact exec_dr h
  · exact unwind_dr h
theorem waitingAt_dr {rest : Rest} {cs : Array CommCase} {w1 : World} (h : waitingAt rest cs w = some w1) : w1.drawn = w.drawn := by
  unfold waitingAt at h
  repeat' first
    | (simp at h; done)
    | (simp only [Option.some.injEq] at h; subst h; rfl)
    | split at h
theorem communicate_dr {rest : Rest} {gs : Array Goroutine} {i : Nat} {g : Goroutine} {cases : Array CommCase} {blocking : Bool} {shape : CommShape} (h : (communicate p rest gs i g cases blocking shape w).1 = .next m') : w.drawn ≤ m'.world.drawn := by
  have hD : w.drawn ≤ w.drawn := Nat.le_refl _
  unfold communicate at h
  simp only [] at h
  repeat' first
    | (simp at h; done)
    | (simp only [Stepped.next.injEq] at h; subst h; dsimp only; first | exact hD | exact le_ok (by assumption) hD | exact le_halt (by assumption) hD | exact le_halt (by assumption) (le_ok (by assumption) hD) | exact le_ok (by assumption) (le_ok (by assumption) hD))
    | (simp only [Stepped.next.injEq] at h; subst h; dsimp only; rename_i hw; exact Nat.le_of_eq (waitingAt_dr hw).symm)
    | split at h
theorem look_dr {gs : Array Goroutine} {rest : Rest} (h : look p gs rest w = .next m') : w.drawn ≤ m'.world.drawn := by
  have hD : w.drawn ≤ w.drawn := Nat.le_refl _
  unfold look at h
  simp only [] at h
  repeat' first
    | (simp at h; done)
    | (simp only [Stepped.next.injEq] at h; subst h; dsimp only; first | exact hD | exact le_ok (by assumption) hD | exact le_halt (by assumption) hD | exact le_halt (by assumption) (le_ok (by assumption) hD) | exact le_ok (by assumption) (le_ok (by assumption) hD))
    | split at h
theorem opened_dr {var : Addr} {m1 : Machine} (h : timerOp.opened m var = some m1) : m1.world.drawn = m.world.drawn := by
  unfold timerOp.opened at h
  split at h
  · split at h
    · cases h; rfl
    · cases h
  · cases h; rfl
theorem timerOp_dr {op : TimerOp} {v : Value} (h : timerOp m op = .ok (v, m')) : m'.world.drawn = m.world.drawn := by
  unfold timerOp timerOp.named retime drain Machine.withTimers at h
  simp only [] at h
  repeat' first
    | (simp at h; done)
    | (simp only [Except.ok.injEq, Prod.mk.injEq] at h; obtain ⟨_, h⟩ := h; subst h; first | rfl | (dsimp only; exact opened_dr (by assumption)))
    | split at h
set_option maxHeartbeats 4000000 in
theorem runT_dr {i : Nat} {b : Bool} (h : (runT p m i b).1 = .next m') : m.world.drawn ≤ m'.world.drawn := by
  simp only [runT] at h
  revert h
  generalize m.gs.swapAt! _ _ = gg
  have hs : gdr m.world.drawn (stepG p (i == 0) gg.1 m.world b) := stepG_dr
  revert hs
  generalize stepG p (i == 0) gg.1 m.world b = s
  intro hs h
  cases s <;> simp only [] at h <;> simp only [gdr] at hs
  all_goals first
    | (simp at h; done)
    | (exact Nat.le_trans hs (communicate_dr h))
    | (exact Nat.le_trans hs (look_dr h))
    | (simp only [Stepped.next.injEq] at h; subst h; exact hs)
    | (repeat' first
        | (simp at h; done)
        | (simp only [Stepped.next.injEq] at h; subst h; exact hs)
        | (simp only [Stepped.next.injEq] at h; subst h; rename_i ht; have := timerOp_dr ht; dsimp only at this ⊢; omega)
        | (simp only [endThrow, dieOf, Stepped.next.injEq] at h; subst h; exact hs)
        | split at h)
theorem serve_dr {k : Nat} (h : serve p m k = .next m') : m.world.drawn ≤ m'.world.drawn := by
  unfold serve at h
  simp only [] at h
  repeat' first
    | (simp at h; done)
    | (simp only [Stepped.next.injEq] at h; subst h; exact Nat.le_refl _)
    | split at h
def mdr (D : Nat) : Move → Prop
  | .goroutine m _ => D ≤ m.world.drawn
  | .machine (.next m) _ => D ≤ m.world.drawn
  | .machine (.ended _ _) _ => True
theorem mdr_serve {D k : Nat} {ops : Array MemOp} (h : D ≤ m.world.drawn) : mdr D (.machine (serve p m k) ops) := by
  cases hs : serve p m k with
  | next m1 => exact Nat.le_trans h (serve_dr hs)
  | ended o w => trivial
theorem adv_dr {D t : Nat} (h : D ≤ m.world.drawn) : D ≤ (m.advanceTo t).world.drawn := h
set_option maxHeartbeats 4000000 in
theorem askOn_dr {D : Nat} (h : D ≤ m.world.drawn) : mdr D (askOn p m) := by
  unfold askOn
  simp only []
  repeat' first
    | trivial
    | rw [gdr_after]
    | exact h
    | exact le_ok (by assumption) h
    | exact le_halt (by assumption) h
    | exact le_okP (by assumption) h
    | exact le_haltP (by assumption) h
    | (simp only [gdr]; exact le_ok (by assumption) h)
    | (simp only [gdr]; exact le_halt (by assumption) h)
    | exact le_ok (by assumption) (le_ok (by assumption) h)
    | exact le_ok (by assumption) (le_ok (by assumption) (le_ok (by assumption) h))
    | exact mdr_serve (le_ok (by assumption) h)
    | (simp only [mdr, Machine.advanceTo]; first | trivial | exact le_ok (by assumption) h | exact le_ok (by assumption) (le_ok (by assumption) h) | exact le_ok (by assumption) (le_ok (by assumption) (le_ok (by assumption) h)) | exact le_ok (by assumption) (le_ok (by assumption) (le_ok (by assumption) (le_ok (by assumption) h))) | exact le_ok (by assumption) (adv_dr (le_ok (by assumption) (le_ok (by assumption) h))) | exact le_ok (by assumption) (le_ok (by assumption) (adv_dr (le_ok (by assumption) (le_ok (by assumption) h)))))
    | split
theorem ask_dr {D : Nat} (h : D ≤ m.world.drawn) : mdr D (ask p m) := by
  unfold ask
  split
  · split
    · trivial
    · rename_i hr
      generalize hl : look p m.gs m.rest _ = s
      cases s with
      | next m1 => exact askOn_dr (Nat.le_trans (le_ok hr h) (look_dr hl))
      | ended o w => trivial
    · rename_i hr
      exact askOn_dr (le_ok hr h)
  · exact askOn_dr h
theorem move_dr {D : Nat} (h : D ≤ m.world.drawn) : mdr D (move p m) := by
  unfold move
  repeat' first
    | trivial
    | exact h
    | exact ask_dr h
    | split
theorem step_dr (h : step p m = .next m') : m.world.drawn ≤ m'.world.drawn := by
  have hm : mdr m.world.drawn (move p m) := move_dr (Nat.le_refl _)
  unfold step stepT at h
  split at h
  · rename_i m1 i he
    rw [he] at hm
    exact Nat.le_trans hm (runT_dr h)
  · rename_i s ops he
    rw [he] at hm
    dsimp only at h
    subst h
    exact hm
theorem steps_dr (h : Steps p m m') : m.world.drawn ≤ m'.world.drawn := by
  have h1 := StepsIn.of_steps h
  clear h
  induction h1 with
  | refl => exact Nat.le_refl _
  | head _ hs _ ih => exact Nat.le_trans (step_dr hs) ih
theorem Calls.drawn {f : FuncId} {args : Array Value} {R : Ending → World → Prop} (h : Calls p f args w R) : Calls p f args w fun e w' => R e w' ∧ (e ≠ .outgrown → w.drawn ≤ w'.drawn) := fun cs => by
  obtain ⟨e, w', fr, hR, hc, h1, h2⟩ := h cs
  refine ⟨e, w', fr, ⟨hR, fun he => ?_⟩, hc, h1, h2⟩
  cases e with
  | outgrown => exact absurd rfl he
  | returned v => exact steps_dr hc
  | panicked c => exact steps_dr hc
end
end Go.Proofs.Ytnnclkeoakjjkaa

namespace Go.Proofs.Ytnnclkeoakjjkaa
set_option linter.unusedVariables false
set_option maxRecDepth 100000
open Go.RowKit Go.Sort Go.Shelf
section
variable {α : Type} [Inhabited α] (enc : α → List Value) (k : Nat)
theorem flat_get (hk : ∀ x, (enc x).length = k) (l : List α) (t : Nat) (h : t < l.length * k) : (l.flatMap enc)[t]? = some (enc l[t / k]!)[t % k]! := by
  have k0 : 0 < k := by rcases Nat.eq_zero_or_pos k with h0 | h0; · subst h0; simp at h
                        · exact h0
  induction l generalizing t with
  | nil => simp at h
  | cons x l ih =>
    rw [List.flatMap_cons]
    rcases Nat.lt_or_ge t k with h1 | h1
    · rw [List.getElem?_append_left (by rw [hk]; exact h1), Nat.div_eq_of_lt h1, Nat.mod_eq_of_lt h1]
      simp [hk, h1]
    · rw [List.getElem?_append_right (by rw [hk]; exact h1), hk]
      have e1 : t = (t - k) + k := by omega
      have e2 : t / k = (t - k) / k + 1 := by conv => lhs; rw [e1]; rw [Nat.add_div_right _ k0]
      have e3 : t % k = (t - k) % k := by conv => lhs; rw [e1]; rw [Nat.add_mod_right]
      rw [e2, e3, ih (t - k) (by simp [Nat.add_mul] at h; omega)]
      simp
theorem flat_len (hk : ∀ x, (enc x).length = k) (l : List α) : (l.flatMap enc).length = l.length * k := by
  induction l with
  | nil => exact (fun (_ : α) => by simp) (default : α)
  | cons x l ih => rw [List.flatMap_cons, List.length_append, ih, hk]; simp [Nat.add_mul]; omega
theorem flat_toList (hk : ∀ x, (enc x).length = k) (d : Array α) : (flatK enc k d).toList = d.toList.flatMap enc := by
  apply List.ext_getElem?
  intro t
  by_cases ht : t < d.size * k
  · rw [flat_get enc k hk d.toList t (by simpa using ht), Array.getElem?_toList]
    have h1 : t < (flatK enc k d).size := by simpa using ht
    rw [Array.getElem?_eq_getElem h1]
    have := get_flatK enc k d t ht
    rw [getElem!_pos _ t h1] at this
    rw [this]
    have e9 : d[t / k]! = d.toList[t / k]! := by rw [← Array.getElem!_toList]
    rw [e9]
  · rw [List.getElem?_eq_none (by simp; omega), List.getElem?_eq_none (by rw [flat_len enc k hk]; simp; omega)]
variable {w : World} {base g n cap : Nat} {e : TypeId} {os : Array Obj} {cur : Array Value}
theorem holds_of_owns (hk : ∀ x, (enc x).length = k) (l : List α) (hg : w.heap[g]? = some (.cells cur e (0, 0))) (ht : cur.toList.take (l.length * k) = l.flatMap enc) (hs : l.length * k ≤ cur.size) : HoldsK enc k w g 0 l.toArray := by
  intro j hj
  have hj' : j < l.length * k := by simpa using hj
  have e1 : (flatK enc k l.toArray)[j]! = (enc l[j / k]!)[j % k]! := by
    rw [get_flatK _ _ _ _ (by simpa using hj')]; simp
  have e2 := flat_get enc k hk l j hj'
  rw [← ht, List.getElem?_take_of_lt hj', Array.getElem?_toList] at e2
  rw [Nat.zero_add]
  refine ⟨?_, ?_⟩
  · rw [cell_of_row w g j cur e (0, 0) hg, e1, e2]; rfl
  · simp [World.frozen?, hg]
theorem heap_of_sort (d : Array α) {fr : Nat × Nat} (hb : w.heap[g]? = some (.cells cur e fr)) :
    (sortWorldK enc k w g 0 n d os).heap[g]? = some (.cells (putCells id 0 (flatK enc k d) cur) e fr) := by
  have hg : g < w.heap.size := (Array.getElem?_eq_some_iff.1 hb).1
  unfold sortWorldK putRowK
  rw [heap_grow_old _ _ (by simpa using hg)]
  simp [putRow, mapBlock, Sort.ahead, Array.getElem?_modify, hb, onCells]
theorem wrote_sort (d : Array α) {v : Value} (hv : Ab.blockOf v = some g) : Ab.Wrote w v (sortWorldK enc k w g 0 n d os) := by
  refine ⟨rfl, rfl, rfl, ?_, fun j hj hne => ?_⟩
  · unfold sortWorldK putRowK; simp
  · unfold sortWorldK putRowK
    rw [heap_grow_old _ _ (by simpa using hj)]
    have : g ≠ j := fun e => hne (by rw [hv, e])
    simp [putRow, mapBlock, Sort.ahead, Array.getElem?_modify, this]
theorem take_put (F : Array Value) (h : F.size ≤ cur.size) : (putCells id 0 F cur).toList.take F.size = F.toList := by
  apply List.ext_getElem?
  intro j
  by_cases hj : j < F.size
  · rw [List.getElem?_take_of_lt hj, Array.getElem?_toList]
    simp [putCells, hj, show j < cur.size by omega]
  · rw [List.getElem?_take_eq_none (by omega), List.getElem?_eq_none (by simp; omega)]
theorem owns_of_sort (hk : ∀ x, (enc x).length = k) (d : Array α) (hbase : base ≤ g) (hb : w.heap[g]? = some (.cells cur e (0, 0))) (h1 : d.size ≤ cap) (h2 : cap ≤ maxLen) (h3 : cur.size = cap * k) :
    (sortWorldK enc k w g 0 n d os).ownsRow base e k (.slice (some ⟨g, 0, none⟩) d.size cap) d.size (d.toList.flatMap enc) := by
  refine ⟨by rw [flat_len enc k hk]; simp, .inr ⟨g, cap, _, rfl, hbase, heap_of_sort enc k d hb, h1, h2, by simp [putCells, h3], ?_⟩⟩
  have := take_put (cur := cur) (flatK enc k d) (by rw [size_flatK, h3]; exact Nat.mul_le_mul_right k h1)
  rw [size_flatK] at this
  rw [this, flat_toList enc k hk]
end
theorem swo_of {α : Type} {cf : α → α → Int} (G : Good cf) : SWO (ltOf cf) := by
  refine ⟨fun x => ?_, fun x y z h1 h2 => ?_, fun x y z h1 h2 => ?_⟩
  · simp only [ltOf, decide_eq_false_iff_not]
    rw [G.refl]
    omega
  · simp only [ltOf, decide_eq_true_eq] at *
    exact G.lt_lt h1 h2
  · simp only [ltOf, decide_eq_false_iff_not] at *
    have e1 := G.anti x y
    have e2 := G.anti y z
    have e3 := G.anti x z
    have := G.trans z y x (by omega) (by omega)
    omega
theorem tot_of {α : Type} {cf : α → α → Int} (G : Good cf) (hz : ∀ x y, cf x y = 0 → x = y) (x y : α) (h1 : ltOf cf x y = false) (h2 : ltOf cf y x = false) : x = y := by
  simp only [ltOf, decide_eq_false_iff_not] at *
  have := G.anti x y
  exact hz x y (by omega)
theorem srt_is {α : Type} (cf : α → α → Int) (l : List α) : (l.mergeSort fun x y => !(ltOf cf) y x) = srt cf l := rfl
theorem world_grown {w w' : World} (G : Ab.Grew w w') (hd : w.drawn ≤ w'.drawn) : ∃ n os, w' = grow (w.drewN n) os := by
  refine ⟨w'.drawn - w.drawn, w'.heap.extract w.heap.size w'.heap.size, ?_⟩
  have h1 := G.os
  have h2 := G.tape
  have h3 := G.output
  have h4 := G.size
  have h5 := G.mem
  obtain ⟨hp, tp, dr, os, ot⟩ := w
  obtain ⟨hp', tp', dr', os', ot'⟩ := w'
  dsimp only at h1 h2 h3 h4 h5 hd
  subst h1 h2 h3
  have e1 : hp' = hp ++ hp'.extract hp.size hp'.size := by
    apply Array.ext_getElem?
    intro i
    by_cases hi : i < hp.size
    · rw [Array.getElem?_append_left hi]
      exact h5 i hi
    · rw [Array.getElem?_append_right (by omega), Array.getElem?_extract]
      split
      · congr 1; omega
      · exact Array.getElem?_eq_none (by omega)
  show World.mk .. = World.mk ..
  dsimp only [World.drewN]
  have e2 : dr' = dr + (dr' - dr) := by omega
  rw [← e1, ← e2]
namespace Ab
section
variable {P : Program} {ρ : Ren} {α : Type} [Inhabited α]
theorem cmpLays_of {g : FuncId} {enc : α → List Value} {k : Nat} {cf : α → α → Int} {eA : α → AVal} (hvA : ∀ x, valA (eA x) = some (.agg (enc x).toArray)) (hoA : ∀ x, oneA (eA x) = true)
    (HC : ∀ x y, ACall P g [eA x, eA y] [] (Just (.d (.sc (.int .i64 (cf x y)))))) (blk off size : Nat) (w : World) : CmpLays P g #[] enc k cf blk off size w := by
  intro m os dk hs x y
  generalize sortWorldK enc k w blk off m dk os = W
  have H2 := (HC x y).2 (fun r => W.heap.size ≤ r) (fun _ => False) W (fun _ => none) (fun _ => none) (#[.agg (enc x).toArray, .agg (enc y).toArray] ++ #[]) W (HRel.none _ W (fun _ h => h.elim)) ⟨rfl, fun i c u h1 h2 => by
    match i, h1, h2 with
    | 0, h1, h2 => cases h1; cases h2; exact val_mk _ _ _ _ _ (hvA x) (hoA x)
    | 1, h1, h2 => cases h1; cases h2; exact val_mk _ _ _ _ _ (hvA y) (hoA y)⟩
  refine (Calls.drawn H2).mono ?_
  rintro e w' ⟨⟨u, c, h', ι', rfl, ⟨rfl, rfl⟩, hH, hv⟩, hd⟩
  obtain ⟨rfl, _⟩ := sc_of hv
  exact ⟨rfl, world_grown hH.grewC (hd (by simp))⟩
theorem vals_of {w : World} {Fr : Nat → Prop} : ∀ (vs xs : List Value), xs.length = vs.length → (∀ (i : Nat) (c : Dat) (u : Value), (vs.map Dat.sc)[i]? = some c → xs[i]? = some u → DRel w Fr c u) → xs = vs := fun vs xs h1 h2 => by
  apply List.ext_getElem?
  intro i
  by_cases hi : i < xs.length
  · have h3 := h2 i (.sc vs[i]) xs[i] (by rw [List.getElem?_map, List.getElem?_eq_getElem (by omega)]; rfl) (List.getElem?_eq_getElem hi)
    rw [List.getElem?_eq_getElem hi, List.getElem?_eq_getElem (by omega)]
    congr 1
    generalize xs[i] = u0 at h3 ⊢
    generalize (vs[i]'(by omega)) = v0 at h3 ⊢
    cases h3
    rfl
  · rw [List.getElem?_eq_none (by omega), List.getElem?_eq_none (by omega)]
theorem sortG (L : SlLaysF0.n6 P ρ) {f el : Nat} {k : Nat} (hf : ρ.f 6 = f) (hgo : isGo P f = true) (aE : ∀ w, (isAgg (ρ.t 24)).run P w = .ok true w) (zE : ∀ w, (Go.sizeOf (ρ.t 24)).run P w = .ok k w)
    {enc : α → List Value} (hk : ∀ x, (enc x).length = k) (h1 : ∀ x, ∀ v ∈ enc x, v.oneCell' = true) {eA : α → AVal} (hvA : ∀ x, valA (eA x) = some (.agg (enc x).toArray)) (hoA : ∀ x, oneA (eA x) = true)
    {eD : α → List Dat} (hD : ∀ x, eD x = (enc x).map Dat.sc) {cf : α → α → Int} (G : Good cf) (hz : ∀ x y, cf x y = 0 → x = y) {g : FuncId} (HC : ∀ x y, ACall P g [eA x, eA y] [] (Just (.d (.sc (.int .i64 (cf x y))))))
    (hnil : ∀ w, Calls P f #[.slice none 0 0, .func (.func g) #[] #[]] w fun e w' => e = .returned (.tuple #[]) ∧ w' = w) (l : List α) (hn : l.length ≤ 2147483648) :
    ACall P f [.row 1000, .fn g []] [(1000, .row el k l.length (l.flatMap eD))] (fun c h => c = .tup [] ∧ h = [(1000, .row el k l.length ((srt cf l).flatMap eD))]) := by
  refine ⟨hgo, fun Pm F w0 pin ι us w H HA => ?_⟩
  obtain ⟨v, hv, xs, hown, hxl, hxr⟩ := H.blk 1000 _ rfl
  have hmap : ∀ m : List α, m.flatMap eD = (m.flatMap enc).map Dat.sc := fun m => by
    rw [List.map_flatMap]
    congr 1
    exact funext hD
  rw [hmap] at hxl hxr
  have hxs := vals_of (l.flatMap enc) xs (by rw [hxl, List.length_map]) hxr
  subst hxs
  have hus : us = #[v, .func (.func g) #[] #[]] := by
    have hsz : us.size = 2 := HA.1
    obtain ⟨u0, u1, rfl⟩ : ∃ u0 u1, us = #[u0, u1] := ⟨us[0], us[1], by apply Array.ext <;> simp [hsz]; intro i h1 h2; match i with | 0 => rfl | 1 => rfl | i + 2 => omega⟩
    have h0 := HA.2 0 _ u0 rfl rfl
    have h1 := HA.2 1 _ u1 rfl rfl
    cases h0 with
    | row _ _ _ h3 =>
      cases h1 with
      | fn _ _ C hl _ =>
        have : C = #[] := Array.eq_empty_of_size_eq_zero hl
        rw [h3 v hv, this]
  subst hus
  have hlen : (srt cf l).length = l.length := srt_len l
  have key : Calls P f #[v, .func (.func g) #[] #[]] w fun e w' => e = .returned (.tuple #[]) ∧ w'.ownsRow 0 el k v l.length ((srt cf l).flatMap enc) ∧ Wrote w v w' := by
    obtain ⟨h0, ⟨rfl, h3⟩ | ⟨gb, cap, cur, rfl, hb, hg, hcap, hmax, hsz, ht⟩⟩ := hown
    · have : l = [] := List.eq_nil_of_length_eq_zero h3
      subst this
      refine (hnil w).mono ?_
      rintro e w' ⟨rfl, rfl⟩
      have e0 : srt cf [] = [] := List.eq_nil_of_length_eq_zero hlen
      rw [e0]
      exact ⟨rfl, World.ownsRow_nil _ _ _ _, rfl, rfl, rfl, Nat.le_refl _, fun _ _ _ => rfl⟩
    · have hH := holds_of_owns enc k hk l hg ht (by rw [hsz]; exact Nat.mul_le_mul_right k hcap)
      refine (hf ▸ AnyQ.slices_SortFunc L k aE zE enc hk h1 cf (swo_of G) g #[] gb 0 cap l.toArray w (fun args W => run_isGo (HC default default).1 args W) (cmpLays_of hvA hoA HC _ _ _ _) hH (Array.getElem?_eq_some_iff.1 hg).1 (by simp; omega)).mono ?_
      rintro e w' ⟨rfl, d', n, os, hp, hs, rfl⟩
      have e1 : d'.toList = srt cf l := sorted_unique_holds (swo_of G) (tot_of G hz) l.toArray d' hp hs
      have e2 : d'.size = l.length := by rw [hp.1]; simp
      refine ⟨rfl, ?_, wrote_sort enc k d' rfl⟩
      have := owns_of_sort (os := os) (n := n) enc k hk d' hb hg (by rw [e2]; exact hcap) hmax hsz
      rw [e2, e1] at this
      exact this
  refine key.mono ?_
  rintro x w' ⟨rfl, hown', hW⟩
  refine ⟨.tuple #[], .tup [], _, ι, rfl, ⟨rfl, rfl⟩, ?_, .tup _ _ rfl (by simp)⟩
  have HB := H.wrote hW hv (b' := .row el k l.length ((srt cf l).flatMap eD)) ⟨(srt cf l).flatMap enc, hown', by rw [hmap, List.length_map], fun i c u h1' h2 => ?_⟩
  · have := HB.only (h' := [(1000, .row el k l.length ((srt cf l).flatMap eD))]) fun id b hb => by
      by_cases hid : 1000 = id
      · subst hid; exact hb
      · rw [look_cons_ne _ _ hid] at hb; cases hb
    have e : Ab.only [(1000, ABlk.row el k l.length ((srt cf l).flatMap eD))] ι = ι := funext fun id => by
      unfold Ab.only
      split
      · rfl
      · rename_i hn2
        cases hi : ι id with
        | none => rfl
        | some v' =>
          obtain ⟨b, hb⟩ := H.dom id v' hi
          by_cases hid : 1000 = id
          · subst hid; exact absurd rfl hn2
          · rw [look_cons_ne _ _ hid] at hb; cases hb
    rw [e] at this
    exact this
  · rw [hmap, List.getElem?_map, h2] at h1'
    cases h1'
    obtain ⟨p, _, hp⟩ := List.mem_flatMap.1 (List.mem_of_getElem? h2)
    exact .sc u (h1 p u hp)
end
end Ab
end Go.Proofs.Ytnnclkeoakjjkaa

namespace Go.Proofs.Ytnnclkeoakjjkaa.Ab
set_option linter.unusedVariables false
open Go.RowKit Go.Builtin
theorem zeroCells_one {z : Array Value} (h : ∀ v ∈ z.toList, v.oneCell' = true) (n : Nat) : ∀ v ∈ (zeroCells z n).toList, v.oneCell' = true := by
  intro v hv
  unfold zeroCells at hv
  rw [Array.toList_map, List.mem_map] at hv
  obtain ⟨i, hi, rfl⟩ := hv
  have hi2 : i < n * z.size := by simpa using hi
  have hp : 0 < z.size := by rcases Nat.eq_zero_or_pos z.size with h0 | h0; · rw [h0] at hi2; omega
                             · exact h0
  rw [getElem!_pos z (i % z.size) (Nat.mod_lt _ hp)]
  exact h _ (by simp)
theorem zeroCells_len (z : Array Value) (n : Nat) : (zeroCells z n).toList.length = n * z.size := by simp [zeroCells]
theorem run_clearK {P : Program} (w : World) (t el ty : TypeId) (g o n cap : Nat) (cur : Array Value) (tt : TypeId) (z : Value) (hu : P.underlying t = some (.slice el)) (hz : (zeroValue el).run P w = .ok z w) (h1 : ∀ v ∈ z.cells.toList, v.oneCell' = true)
    (hg : w.heap[g]? = some (.cells cur tt (0, 0))) (hn : 0 < n) (hfit : o + n * z.cells.size ≤ cur.size) :
    (Builtin.clear_ #[t] ty #[.slice (some ⟨g, o, none⟩) n cap]).run P w = .ok (.tuple #[]) (w.setRow g (setW cur.toList o (zeroCells z.cells n).toList).toArray) := by
  obtain ⟨m, rfl⟩ : ∃ m, n = m + 1 := ⟨n - 1, by omega⟩
  have hst := run_storeCells_at P g o tt (zeroCells z.cells (m + 1)).toList 0 cur w hg (by rw [zeroCells_len]; simpa using hfit) (zeroCells_one h1 _)
  simp [Builtin.clear_, run_underlying hu, hz, hst, setW]
theorem run_clear0 {P : Program} (w : World) (t el ty : TypeId) (b : Option Addr) (cap : Nat) (hu : P.underlying t = some (.slice el)) :
    (Builtin.clear_ #[t] ty #[.slice b 0 cap]).run P w = .ok (.tuple #[]) w := by
  cases b <;> simp [Builtin.clear_, run_underlying hu]
section
variable {P : Program} {nt : Nat} {Q : Post} {e : Env} {h : Heap} {ops : Array Oper} {o : Oper} {rest : List Oper} {T : List Nat} {tab : TTab} {fuel i : Nat} {listed : Array Bool}
theorem E_clear {t el : TypeId} {te te' : TE} {d : Option Tmp} {x : Operand} {id off1 n1 n k : Nat} {cs : List Dat} (TO : TabOk P tab) (ho : o.op = .call { callee := .builtin .clear, args := #[x], argTypes := #[t] }) (hdst : o.dst = d)
    (ht : tlook tab t = some te) (hs : te.sh = .sl el) (hel : tlook tab el = some te') (hk : te'.size = k) (hz1 : te'.zero.all (·.oneCell') = true) (hz2 : te'.zero.length = te'.size) (hx : aev e x = some (.srow id off1 n1)) (hb : look h id = some (.row el k n cs))
    (h1 : off1 + n1 * k ≤ n * k) (hd : dstOk nt d = true) (hT : T.contains id = true) :
    AEff P nt T e h o (fun e' h' => ∃ zs : List Dat, zs.length = n1 * k ∧ e' = aput d (.tup []) e ∧ h' = (id, .row el k n (setW cs off1 zs)) :: h) := fun Pm F w0 pin ι a w R K Qx hK => by
  subst hk
  obtain ⟨v, hv, xs, hown, hxl, hxr⟩ := R.heap.blk _ _ hb
  have hu := (TO t te ht).slice hs
  obtain ⟨z, hz, hz3, _⟩ := (TO el te' hel).zero w
  have hzs : z.cells.size = te'.size := by rw [← Array.length_toList, hz3, hz2]
  have hzo : ∀ v ∈ z.cells.toList, v.oneCell' = true := by rw [hz3]; exact List.all_eq_true.1 hz1
  have hrx := aev_rel R.env hx
  have hcl : cs.length = n * te'.size := by rw [← hxl]; exact hown.1
  obtain ⟨ux, hux⟩ : ∃ ux, a.eval x = ux := ⟨_, rfl⟩
  rw [hux] at hrx
  cases hrx with
  | srow _ _ _ _ g1 g2 =>
    obtain ⟨b1, c1, rfl, _, k1⟩ := g2 v hv
    by_cases h0 : n1 = 0
    · subst h0
      have hrun : (execOp a.eval o).run P w = .ok (.value (.tuple #[])) w := by
        simp [execOp, ho, resolve, invoke, builtin, hux, run_clear0 w t el o.type b1 c1 hu]
      unfold Oper.wp
      rw [hrun, Oper.upon_value, hdst]
      refine hK ι _ _ _ _ ⟨[], by simp, rfl, rfl⟩ ?_ ⟨CT.refl T ι w, fun id _ v r hv hr _ => ⟨v, hv, hr⟩⟩ (put_defers _ _ _)
      refine ⟨?_, R.env.aput hd R.size (.tup _ _ rfl (by simp)), by rw [put_defers]; exact R.defers, by rw [put_size]; exact R.size⟩
      rw [setW_nil]
      refine R.heap.relook fun j => ?_
      by_cases hj2 : id = j
      · subst hj2; rw [look_cons_same, hb]
      · rw [look_cons_ne _ _ hj2]
    · obtain ⟨g, N, cap, hvv, rfl⟩ := k1 (by omega)
      rcases hown.2 with ⟨q1, _⟩ | ⟨g0, cap0, cur, q1, _, hg, q4, q5, q6, q7⟩
      · rw [hvv] at q1; cases q1
      rw [hvv] at q1; cases q1
      have hle : n * te'.size ≤ cur.size := by rw [q6]; exact Nat.mul_le_mul_right _ q4
      have hzl : (zeroCells z.cells n1).toList.length = n1 * te'.size := by rw [zeroCells_len, hzs]
      have hrun0 := run_clearK (P := P) w t el o.type g off1 n1 c1 cur el z hu hz hzo hg (by omega) (by rw [hzs]; omega)
      have hrun : (execOp a.eval o).run P w = .ok (.value (.tuple #[])) (w.setRow g (setW cur.toList off1 (zeroCells z.cells n1).toList).toArray) := by
        simp only [execOp, ho, resolve, invoke, builtin]
        simp [hux, hrun0]
      obtain ⟨hW, hnew⟩ := wrote_setRow (C' := (setW cur.toList off1 (zeroCells z.cells n1).toList).toArray) hg (v := v) (by rw [hvv]; rfl)
      have hown2 := own_set (off := off1) (news := (zeroCells z.cells n1).toList) hg hown.1 q4 q5 q6 q7 (by rw [hzl]; exact h1)
      unfold Oper.wp
      rw [hrun, Oper.upon_value, hdst]
      refine hK ι _ _ _ _ ⟨(zeroCells z.cells n1).toList.map Dat.sc, by rw [List.length_map, hzl], rfl, rfl⟩ ?_ ⟨⟨hW.os, hW.tape, hW.output, hW.size, fun r hr hne => hW.mem r hr fun he => hne id (List.contains_iff_mem.1 hT) v hv he⟩, fun id _ v r hv hr _ => ⟨v, hv, hr⟩⟩ (put_defers _ _ _)
      refine ⟨R.heap.wrote hW hv ⟨_, by rw [hvv]; exact hown2, by rw [setW_len _ _ _ (by rw [hzl, hown.1]; omega), setW_len _ _ _ (by rw [List.length_map, hzl]; omega), hxl], fun i c u h4 h5 => ?_⟩, (R.env.mono fun _ _ _ _ hv' => hv'.wrote hW hv).aput hd R.size (.tup _ _ rfl (by simp)), by rw [put_defers]; exact R.defers.ext (hW.ext hv), by rw [put_size]; exact R.size⟩
      rw [setW_get (by rw [List.length_map, hzl]; omega), List.length_map, hzl] at h4
      rw [setW_get (by rw [hzl, hown.1]; omega), hzl] at h5
      split at h4
      · rename_i hin
        rw [if_pos hin] at h5
        rw [List.getElem?_map, h5] at h4
        cases h4
        exact .sc u (zeroCells_one hzo _ u (List.mem_of_getElem? h5))
      · rename_i hin
        rw [if_neg hin] at h5
        exact (hxr _ _ _ h4 h5).ext (hW.ext hv).mem (hW.ext hv).free
theorem O_clear {t el k off1 n1 n id : Nat} {x : Operand} {cs : List Dat} (TO : TabOk P tab) (hw : awant ops e o = some true) (hdst : o.dst = none) (ho : o.op = .call { callee := .builtin .clear, args := #[x], argTypes := #[t] })
    (hel : telem tab t = some el) (hsz : tsize tab el = some k) (hok : (match tlook tab el with | some te => te.zero.all (·.oneCell') && Nat.beq te.zero.length te.size | none => false) = true) (hx : aev e x = some (.srow id off1 n1)) (hb : look h id = some (.row el k n cs)) (h1 : off1 + n1 * k ≤ n * k)
    (HK : ∀ zs : List Dat, zs.length = n1 * k → AOps P nt ops Q rest e ((id, .row el k n (setW cs off1 zs)) :: h)) : AOps P nt ops Q (o :: rest) e h := by
  obtain ⟨te, h3, h4⟩ := telem_spec hel
  obtain ⟨te', h5, rfl⟩ := tsize_spec hsz
  rw [h5] at hok
  simp only [Bool.and_eq_true] at hok
  exact O_eff (T := [id]) hw (E_clear TO ho hdst h3 h4 h5 rfl hok.1 (Nat.eq_of_beq_eq_true hok.2) hx hb h1 rfl (by simp)) fun e' h' ⟨zs, h6, h7, h8⟩ => by subst h7 h8; exact HK zs h6
theorem T_clear {t el k off1 n1 n id : Nat} {x : Operand} {cs : List Dat} (TO : TabOk P tab) (hi : ops[i]? = some o) (hw : awant ops e o = some true) (hdst : o.dst = none) (ho : o.op = .call { callee := .builtin .clear, args := #[x], argTypes := #[t] })
    (hel : telem tab t = some el) (hsz : tsize tab el = some k) (hok : (match tlook tab el with | some te => te.zero.all (·.oneCell') && Nat.beq te.zero.length te.size | none => false) = true) (hx : aev e x = some (.srow id off1 n1)) (hb : look h id = some (.row el k n cs)) (hT : T.contains id = true) (h1 : off1 + n1 * k ≤ n * k)
    (HK : ∀ zs : List Dat, zs.length = n1 * k → AAny P nt ops Q T fuel (listed.setIfInBounds i true) e ((id, .row el k n (setW cs off1 zs)) :: h)) : AAt P nt ops Q T fuel listed i e h := by
  obtain ⟨te, h3, h4⟩ := telem_spec hel
  obtain ⟨te', h5, rfl⟩ := tsize_spec hsz
  rw [h5] at hok
  simp only [Bool.and_eq_true] at hok
  exact T_eff hi hw (E_clear TO ho hdst h3 h4 h5 rfl hok.1 (Nat.eq_of_beq_eq_true hok.2) hx hb h1 rfl hT) fun e' h' ⟨zs, h6, h7, h8⟩ => by subst h7 h8; exact HK zs h6
end
end Go.Proofs.Ytnnclkeoakjjkaa.Ab

namespace Go.Proofs.Ytnnclkeoakjjkaa.Ab
set_option linter.unusedVariables false
open Go.RowKit
section
variable {P : Program} {nt : Nat} {Q : Post} {e : Env} {h : Heap} {ops : Array Oper} {o : Oper} {rest : List Oper} {T : List Nat} {tab : TTab} {fuel i : Nat} {listed : Array Bool}
theorem E_callM {f : FuncId} {args : Array Operand} {ats : Array TypeId} {cs0 cs : List AVal} {d : Option Tmp} {id j el k n el0 k0 n0 : Nat} {ds0 ds : List Dat} (ho : o.op = .call { callee := .value (.func f), args := args, argTypes := ats }) (hdst : o.dst = d) (hx : aevs e args.toList = some cs0)
    (hcs : cs.map (renV [(1000, id)]) = cs0) (hok : ∀ c ∈ cs, okV [(1000, id)] c = true) (hb : look h id = some (.row el0 k0 n0 ds0))
    (H : ACall P f cs [(1000, .row el0 k0 n0 ds0)] (fun c h' => c = .row j ∧ h' = [(j, .row el k n ds)])) (hid : Nat.blt id 1000 = true) (hd : dstOk nt d = true) (hT : T.contains id = true) :
    AEff P nt T e h o (fun e' h2 => e' = aput d (.row id) (killE id e) ∧ h2 = (id, .row el k n ds) :: killH id h) := fun Pm F w0 pin ι a w R K Qx hK => by
  have hid' : id < 1000 := by simp [Nat.blt] at hid; omega
  unfold Oper.wp
  rw [run_callA H.1 ho, Oper.upon_enter, hdst]
  have HR := R.heap
  obtain ⟨v0, hv0, hB0⟩ := HR.blk id _ hb
  let ι0 : Nat → Option Value := fun p => if p = 1000 then ι id else none
  have h0some : ∀ p v, ι0 p = some v → ∃ i, look [(1000, id)] p = some i ∧ ι i = some v := fun p v hv => by
    simp only [ι0] at hv
    split at hv
    · rename_i hp; subst hp; exact ⟨id, rfl, hv⟩
    · cases hv
  have hlk : ∀ p i, look [(1000, id)] p = some i → p = 1000 ∧ i = id := fun p i hp => by
    by_cases h1 : 1000 = p
    · subst h1; rw [look_cons_same] at hp; cases hp; exact ⟨rfl, rfl⟩
    · rw [look_cons_ne _ _ h1] at hp; cases hp
  let F' : Nat → Prop := fun r => F r ∨ ∃ i v, ι i = some v ∧ blockOf v = some r ∧ i ≠ id
  let Pm' : Nat → Prop := fun r => w.heap.size ≤ r ∨ blockOf v0 = some r
  have hFdown : ExtF w F ι w F' ι0 := ⟨fun _ _ _ => rfl, fun r _ hf => ⟨fun hc => hc.elim hf.1 fun ⟨i, v, h1, h2, _⟩ => hf.2 i v h1 h2, fun p v hv hb => by
    obtain ⟨i, _, h2⟩ := h0some p v hv
    exact hf.2 i v h2 hb⟩⟩
  have HC : HRel Pm' F' w ι0 ι0 [(1000, .row el0 k0 n0 ds0)] w := by
    refine ⟨fun p b hb2 => ?_, fun p v hv => ?_, fun p q v v' r hpq hv hv' hr => ?_, fun p v r hv hr => .inr ?_, rfl, rfl, rfl, Nat.le_refl _, fun _ _ _ => rfl, fun r hr => .inl hr, fun p v _ hv => hv, fun p v r hv hr hF' => ?_, fun r hr => ?_⟩
    · by_cases h1 : 1000 = p
      · subst h1
        rw [look_cons_same] at hb2
        cases hb2
        refine ⟨v0, by simp only [ι0, if_true]; exact hv0, ?_⟩
        obtain ⟨xs, hown, hxl, hxr⟩ := hB0
        exact ⟨xs, hown, hxl, fun i c u h3 h4 => (hxr i c u h3 h4).ext (fun _ _ _ => rfl) fun r hr hf => hFdown.free r hr hf⟩
      · rw [look_cons_ne _ _ h1] at hb2; cases hb2
    · simp only [ι0] at hv
      split at hv
      · rename_i hp; subst hp; exact ⟨_, look_cons_same _ _ _⟩
      · cases hv
    · simp only [ι0] at hv hv'
      split at hv <;> split at hv'
      · omega
      · cases hv'
      · cases hv
      · cases hv
    · simp only [ι0] at hv
      split at hv
      · rw [hv0] at hv; cases hv; exact hr
      · cases hv
    · obtain ⟨i, h1, h2⟩ := h0some p v hv
      obtain ⟨_, rfl⟩ := hlk p i h1
      rcases hF' with h3 | ⟨q, v', h3, h4, h5⟩
      · exact HR.nf _ v r h2 hr h3
      · exact HR.inj _ q v v' r (fun h => h5 h.symm) h2 h3 hr h4
    · rcases hr with h1 | ⟨q, v, h1, h2, _⟩
      · exact Nat.lt_of_lt_of_le (HR.forb r h1) HR.size
      · exact HR.lt h1 h2
  have HA : ArgsRel w F' ι0 cs (args.map a.eval) := by
    have := args_of R.env hx
    refine ⟨by rw [this.1, ← hcs, List.length_map], fun i c u h1 h2 => (this.2 i (renV [(1000, id)] c) u (by rw [← hcs, List.getElem?_map, h1]; rfl) h2).down (hok c (List.mem_of_getElem? h1)) hFdown h0some⟩
  refine (H.2 Pm' F' w ι0 ι0 _ w HC HA).mono ?_
  rintro x w' ⟨u, c, h', ι', rfl, ⟨rfl, rfl⟩, hH, hv⟩
  obtain ⟨v', hv', xs, hown, hxl, hxr⟩ := hH.blk j _ (look_cons_same _ _ _)
  have hu : u = v' := by
    cases hv with
    | row _ _ _ h3 => exact h3 v' hv'
  subst hu
  have hpm : ∀ r, blockOf u = some r → w.heap.size ≤ r ∨ ∃ v, ι id = some v ∧ blockOf v = some r := fun r hr => by
    rcases hH.pm j u r hv' hr with h1 | h1
    · exact .inl h1
    · exact .inr ⟨v0, hv0, h1⟩
  have hkeep : ∀ r, r < w.heap.size → blockOf v0 ≠ some r → w'.heap[r]? = w.heap[r]? := fun r hr hn => hH.keep r hr fun hp => by
    rcases hp with h1 | h1
    · omega
    · exact hn h1
  have TT : Touch w ι id u w' := ⟨hH.os, hH.tape, hH.output, hH.size, fun r hr hn => hkeep r hr (hn v0 hv0), hpm⟩
  refine hK _ _ _ _ _ ⟨rfl, rfl⟩ ⟨R.heap.touch TT (.inl hid') ⟨xs, hown, hxl, fun i c u2 h1 h2 => (hxr i c u2 h1 h2).ext (fun _ _ _ => rfl) fun r hr hf => ⟨fun h3 => hf.1 (.inl h3), fun q v h3 h4 => ?_⟩⟩, (R.env.killed TT.ext).aput hd R.size (.row id _ (own_one hown) fun v hv => by simp [upd] at hv; exact hv), by rw [put_defers]; exact R.defers.ext TT.ext, by rw [put_size]; exact R.size⟩ ?_ (put_defers _ _ _)
  · unfold upd at h3
    split at h3
    · cases h3; exact hf.2 j u hv' h4
    · rename_i hne; exact hf.1 (.inr ⟨q, v, h3, h4, hne⟩)
  · refine ⟨⟨hH.os, hH.tape, hH.output, hH.size, fun r hr hne => hkeep r hr (hne id (List.contains_iff_mem.1 hT) v0 hv0)⟩, fun q _ u2 r hq hr1 hlt => ?_⟩
    unfold upd at hq
    split at hq
    · rename_i hqi
      subst hqi
      cases hq
      rcases hpm r hr1 with h1 | ⟨v, h1, h2⟩
      · omega
      · exact ⟨v, h1, h2⟩
    · exact ⟨u2, hq, hr1⟩
theorem O_cM {f : FuncId} {args : Array Operand} {ats : Array TypeId} {cs0 cs : List AVal} {d id j el k n el0 k0 n0 : Nat} {ds0 ds : List Dat} (hw : awant ops e o = some true) (hdst : o.dst = some d) (hd : Nat.blt d nt = true) (ho : o.op = .call { callee := .value (.func f), args := args, argTypes := ats }) (hx : aevs e args.toList = some cs0)
    (H : ACall P f cs [(1000, .row el0 k0 n0 ds0)] (fun c h' => c = .row j ∧ h' = [(j, .row el k n ds)])) (hcs : cs.map (renV [(1000, id)]) = cs0) (hok : ∀ c ∈ cs, okV [(1000, id)] c = true) (hb : look h id = some (.row el0 k0 n0 ds0)) (hid : Nat.blt id 1000 = true)
    (HK : AOps P nt ops Q rest ((d, .row id) :: killE id e) ((id, .row el k n ds) :: killH id h)) : AOps P nt ops Q (o :: rest) e h :=
  O_eff (T := [id]) hw (E_callM (d := some d) ho hdst hx hcs hok hb H hid hd (by simp)) fun e' h' ⟨h1, h2⟩ => by subst h1 h2; exact HK
theorem Wk_rename {p id el k n t : Nat} {cs : List Dat} (hid : Nat.blt id 1000 = true) (ht : look e t = some (.row p)) :
    AWk nt e [(p, .row el k n cs)] [(t, .row id)] [(id, .row el k n cs)] := fun Pm F w0 pin ι a w R => by
  have hid' : id < 1000 := by simp [Nat.blt] at hid; omega
  have H := R.heap
  obtain ⟨v, hv, xs, hown, hxl, hxr⟩ := H.blk p _ (look_cons_same _ _ _)
  have hι : ∀ i u, (fun i => if i = id then ι p else none) i = some u → i = id ∧ ι p = some u := fun i u hu => by
    dsimp only at hu
    split at hu
    · rename_i h; exact ⟨h, hu⟩
    · cases hu
  have hex : Ext w F ι w (fun i => if i = id then ι p else none) := ⟨fun _ _ _ => rfl, fun r _ hf => ⟨hf.1, fun i u hu => hf.2 p u (hι i u hu).2⟩⟩
  refine ⟨fun i => if i = id then ι p else none, ⟨fun i b hb => ?_, fun i u hu => ?_, fun i j u u' r hij hi hj => ?_, fun i u r hu => H.pm p u r (hι i u hu).2, H.os, H.tape, H.output, H.size, H.keep, H.fresh, fun i u h1 hu => ?_, fun i u r hu => H.nf p u r (hι i u hu).2, H.forb⟩, fun s c hs => ?_, R.defers.ext hex, R.size⟩
  · by_cases h1 : id = i
    · subst h1
      rw [look_cons_same] at hb
      cases hb
      exact ⟨v, by simp only [if_true]; exact hv, xs, hown, hxl, fun i c u h3 h4 => (hxr i c u h3 h4).ext (fun _ _ _ => rfl) fun r hr hf => hex.free r hr hf⟩
    · rw [look_cons_ne _ _ h1] at hb; cases hb
  · obtain ⟨rfl, _⟩ := hι i u hu
    exact ⟨_, look_cons_same _ _ _⟩
  · exact absurd ((hι i u hi).1.trans (hι j u' hj).1.symm) hij
  · obtain ⟨rfl, _⟩ := hι i u hu
    omega
  · by_cases h1 : t = s
    · subst h1
      rw [look_cons_same] at hs
      cases hs
      obtain ⟨u, hu, hr⟩ := R.env t _ ht
      refine ⟨u, hu, ?_⟩
      cases hr with
      | row _ _ g1 g2 => exact .row id u g1 fun v2 hv2 => g2 v2 (hι id v2 hv2).2
    · rw [look_cons_ne _ _ h1] at hs; cases hs
theorem run_nilEq {P : Program} {t el : TypeId} (w : World) (hu : P.underlying t = some (.slice el)) (dp : Nat) (b : Option Addr) (n c : Nat) : (Op.equalIn (dp + 1) t (.slice b n c) (.slice none 0 0)).run P w = .ok b.isNone w := by
  unfold Op.equalIn
  cases b <;> simp [run_underlying hu]
theorem E_nilEq {t u el : TypeId} {te : TE} {x : Operand} {d : Option Tmp} {cs : List Dat} {n : Nat} (TO : TabOk P tab) (ho : o.op = .binOp .eql t x (.const (.slice none 0 0)) u) (hdst : o.dst = d) (ht : tlook tab t = some te) (hs : te.sh = .sl el) (hx : aev e x = some (.d (.sl cs n))) (hd : dstOk nt d = true) :
    AEff P nt T e h o (fun e' h' => ∃ b : Bool, (b = true → cs = [] ∧ n = 0) ∧ e' = aput d (.d (.sc (.bool b))) e ∧ h' = h) := fun Pm F w0 pin ι a w R K Qx hK => by
  have hu := (TO t te ht).slice hs
  have hv := aev_rel R.env hx
  have ev : a.eval (.const (.slice none 0 0)) = .slice none 0 0 := rfl
  have key : ∃ b : Bool, (b = true → cs = [] ∧ n = 0) ∧ (execOp a.eval o).run P w = .ok (.value (.bool b)) w := by
    generalize hau : a.eval x = ux at hv
    cases hv with
    | d _ _ hD =>
      cases hD with
      | nil => exact ⟨true, fun _ => ⟨rfl, rfl⟩, by simp only [execOp, ho, hau, ev, eqGuard, binOp, Op.equal]; rw [show Op.maxDepth = 9999 + 1 from rfl]; simp [run_nilEq w hu 9999]⟩
      | sl _ _ b o2 cap vs => exact ⟨false, fun h => (by cases h), by simp only [execOp, ho, hau, ev, eqGuard, binOp, Op.equal]; rw [show Op.maxDepth = 9999 + 1 from rfl]; simp [run_nilEq w hu 9999]⟩
  obtain ⟨b, hb, hrun⟩ := key
  unfold Oper.wp
  rw [hrun, Oper.upon_value, hdst]
  refine hK ι _ _ _ _ ⟨b, hb, rfl, rfl⟩ ⟨R.heap, R.env.aput hd R.size (sc_rel rfl), by rw [put_defers]; exact R.defers, by rw [put_size]; exact R.size⟩ ⟨CT.refl T ι w, fun id _ v r hv hr _ => ⟨v, hv, hr⟩⟩ (put_defers _ _ _)
theorem O_nilEq {t u el : TypeId} {x : Operand} {d : Nat} {cs : List Dat} {n : Nat} (TO : TabOk P tab) (hw : awant ops e o = some true) (hdst : o.dst = some d) (hd : Nat.blt d nt = true) (ho : o.op = .binOp .eql t x (.const (.slice none 0 0)) u) (hel : telem tab t = some el) (hx : aev e x = some (.d (.sl cs n)))
    (HK : ∀ b : Bool, (b = true → cs = [] ∧ n = 0) → AOps P nt ops Q rest ((d, .d (.sc (.bool b))) :: e) h) : AOps P nt ops Q (o :: rest) e h := by
  obtain ⟨te, h1, h2⟩ := telem_spec hel
  exact O_eff (T := []) hw (E_nilEq (d := some d) TO ho hdst h1 h2 hx hd) fun e' h' ⟨b, h3, h4, h5⟩ => by subst h4 h5; exact HK b h3
end
end Go.Proofs.Ytnnclkeoakjjkaa.Ab

namespace Go.Proofs.Ytnnclkeoakjjkaa
set_option linter.unusedVariables false
section
variable {α : Type} [DecidableEq α]
theorem dedA_snoc (y x : α) : ∀ m : List α, dedA (m ++ [y, x]) = if y = x then dedA (m ++ [y]) else dedA (m ++ [y]) ++ [x] := by
  intro m
  induction m with
  | nil => by_cases h : y = x <;> simp [dedA, h]
  | cons a m ih =>
    obtain ⟨b, r, h1⟩ : ∃ b r, m ++ [y] = b :: r := by cases m <;> simp
    have h2 : m ++ [y, x] = b :: (r ++ [x]) := by rw [show m ++ [y, x] = (m ++ [y]) ++ [x] by simp, h1]; rfl
    rw [List.cons_append, List.cons_append, h2, h1]
    rw [h2, h1] at ih
    simp only [dedA]
    rw [ih]
    by_cases hab : a = b <;> by_cases hyx : y = x <;> simp [hab, hyx]
theorem ded_take (l : List α) (k : Nat) (h1 : 1 ≤ k) (h : k < l.length) : dedA (l.take (k + 1)) = if l[k - 1] = l[k] then dedA (l.take k) else dedA (l.take k) ++ [l[k]] := by
  obtain ⟨j, rfl⟩ : ∃ j, k = j + 1 := ⟨k - 1, by omega⟩
  have e1 : l.take (j + 1 + 1) = l.take j ++ [l[j], l[j + 1]] := by
    rw [List.take_succ_eq_append_getElem h, List.take_succ_eq_append_getElem (show j < l.length by omega), List.append_assoc]
    rfl
  have e2 : l.take (j + 1) = l.take j ++ [l[j]] := List.take_succ_eq_append_getElem (show j < l.length by omega)
  rw [e1, dedA_snoc, e2]
  rfl
end
section
variable {α β : Type} {enc : α → List β} {sz : Nat}
theorem flat_take (hsz : ∀ x, (enc x).length = sz) : ∀ (l : List α) (k : Nat), (l.flatMap enc).take (k * sz) = (l.take k).flatMap enc
  | [], k => by simp
  | x :: l, 0 => by simp
  | x :: l, k + 1 => by
    rw [List.flatMap_cons, List.take_succ_cons, List.flatMap_cons, ← flat_take hsz l k, List.take_append, hsz]
    rw [List.take_of_length_le (by rw [hsz, Nat.add_mul]; omega)]
    congr 2
    rw [Nat.add_mul]; omega
theorem flat_drop (hsz : ∀ x, (enc x).length = sz) : ∀ (l : List α) (k : Nat), (l.flatMap enc).drop (k * sz) = (l.drop k).flatMap enc
  | [], k => by simp
  | x :: l, 0 => by simp
  | x :: l, k + 1 => by
    rw [List.flatMap_cons, List.drop_succ_cons, ← flat_drop hsz l k, List.drop_append, hsz]
    rw [List.drop_of_length_le (by rw [hsz, Nat.add_mul]; omega), List.nil_append]
    congr 1
    rw [Nat.add_mul]; omega
theorem flat_set (hsz : ∀ x, (enc x).length = sz) (l : List α) (k : Nat) (x : α) (hk : k < l.length) : Ab.setW (l.flatMap enc) (k * sz) (enc x) = (l.set k x).flatMap enc := by
  unfold Ab.setW
  rw [flat_take hsz, hsz]
  rw [show k * sz + sz = (k + 1) * sz by rw [Nat.add_mul]; omega, flat_drop hsz]
  rw [List.set_eq_take_append_cons_drop, if_pos hk]
  simp
end
instance : Inhabited Rte := ⟨⟨⟨0, 0⟩, 0, 0, 0, 0, [], 0, false⟩⟩
def rteV (r : Rte) : List Value := [.int .u32 r.p.a, .int .i64 r.p.b, .int .u8 r.f, .int .i64 r.d, .int .i64 r.m, .int .i64 r.t, .string ⟨⟨r.i⟩⟩, .int .u32 r.h, .bool r.x]
theorem ordR_eq' (x y : Rte) (h : ordR x y = 0) : x = y := (ordR_zero x y).1 h
section
open Go.RowKit Go.Sort Go.Lib
set_option maxRecDepth 100000
theorem insNilR (c : Value) (w : World) : Calls Try.prog 80 #[.slice none 0 0, .int .i64 0, .int .i64 0, c] w (RetS w (.tuple #[])) := by
  go_enter Try.func80, Try.ntmps80
  go_wp2_with fail
  refine wp_loop_rounds 1 ?_
  rw [rounds_succ]; go_wp2_with fail
  go_end0
  exact ⟨rfl, rfl⟩
theorem pdqNilR (c : Value) (w : World) (n : Int) : Calls Try.prog 55 #[.slice none 0 0, .int .i64 0, .int .i64 0, .int .i64 n, c] w (RetS w (.tuple #[])) := by
  go_enter Try.func55, Try.ntmps55
  go_wp2_with fail
  refine wp_loop_rounds 1 ?_
  rw [rounds_succ]; go_wp2_with fail
  refine (insNilR c _).mono ?_
  rintro e w' ⟨rfl, rfl⟩
  go_wp2_with fail
  go_end0
  exact ⟨rfl, rfl⟩
theorem sortNilR (c : Value) (w : World) : Calls Try.prog 41 #[.slice none 0 0, c] w (RetS w (.tuple #[])) := by
  have hl := fun W => Any.bits_Len (SlLaysF0.n15.bits (P := _) (ρ := _) { Try.sortRoute with }) (0 : Int) W (by omega) (by omega)
  go_enter Try.func41, Try.ntmps41
  go_wp2_with fail
  refine (hl _).mono ?_
  rintro e w' ⟨rfl, rfl⟩
  go_wp2_with fail
  refine (pdqNilR c _ _).mono ?_
  rintro e w' ⟨rfl, rfl⟩
  go_wp2_with fail
  go_end0
  exact ⟨rfl, rfl⟩
end
namespace Ab
set_option maxRecDepth 100000
open Go.RowKit Go.Lib
set_option linter.unusedSimpArgs false
attribute [local irreducible] AWp AOps AQ AYield AEff ACall AWk AAny AAt AThen AIn APost NoPanic
def rteB (l : List Rte) : ABlk := .row 28 9 l.length (l.flatMap rteD)
theorem rteEq (x y : Rte) : eqCells (rteV x) (rteV y) = some (x == y) := by
  obtain ⟨⟨a, b⟩, f, d, m, t, i, h, q⟩ := x
  obtain ⟨⟨a', b'⟩, f', d', m', t', i', h', q'⟩ := y
  simp only [rteV, eqCells, eqV, if_true, mk_toList, Bool.and_true, Option.some.injEq]
  rw [Bool.eq_iff_iff]
  simp only [Bool.and_eq_true, beq_iff_eq, Rte.mk.injEq, Pfx.mk.injEq, and_assoc]
theorem sortR_A (l : List Rte) (hn : l.length ≤ 2147483648) : ACall Try.prog 41 [.row 1000, .fn 42 []] [(1000, rteB l)] (fun c h => c = .tup [] ∧ h = [(1000, rteB (srt ordR l))]) := by
  have := sortG (α := Rte) Try.sortRoute (f := 41) (el := 28) (k := 9) rfl (by kernel_rfl) (fun W => Try.isAgg28 W) (fun W => Try.sizeOf28 W) (enc := rteV) (fun _ => rfl)
    (fun x v hv => by simp [rteV] at hv; rcases hv with rfl | rfl | rfl | rfl | rfl | rfl | rfl | rfl | rfl <;> rfl) (eA := rteA) (fun _ => rfl) (fun _ => rfl) (eD := rteD) (fun _ => rfl) good_ordR ordR_eq' (g := 42) routesCmp_A (fun w => (sortNilR _ w).mono fun e w' h => ⟨h.1, h.2.symm⟩) l hn
  unfold rteB
  rw [srt_len]
  exact this
theorem clone_A (l : List Rte) (hl : l.length ≤ 2147483648) : ACall Try.prog 40 [rtesA l] [] (fun c h => c = .row 5 ∧ h = [(5, rteB l)]) := by
  refine ACall_of tabOk Try.func40 rfl Try.ntmps40 (congrArg Array.toList Try.results40) (by kernel_rfl) rfl ?_
  have hfl : (l.flatMap rteD).length = l.length * 9 := flat_len rteD_len l
  repeat (first | refine A_seq ?_ | refine A_block ?_ | refine R_list ?_ | refine R_quiet rfl mixed (by kernel_rfl) ?_ | ((first | apply O_y rfl rfl rfl | apply Q_y rfl rfl rfl); (first | exact q_1 | exact q_2 | exact q_3 | exact q_4 | exact q_5 | exact q_6 | exact q_7 | exact q_8 | exact q_9 | exact q_10 | exact q_11 | exact q_12 | exact q_13 | exact q_14 | exact q_15 | exact q_16 | exact q_17 | exact q_18 | exact q_19 | exact q_20 | exact q_21 | exact q_22 | exact q_23 | exact q_24 | fail)) | refine O_nil ?_ | refine Q_nil ?_ | refine q_j ?_ | refine q_k ?_ | refine q_d ?_ | refine q_a ?_ | refine q_b ?_ | refine q_c ?_ | refine A_ct rfl ?_ | refine A_cf rfl ?_ | refine A_skip ?_ | refine A_exit ?_ | refine A_ret ?_ | refine q_l ?_ | refine q_m ?_ | refine q_n ?_ | refine q_h ?_ | refine q_o ?_ | refine q_e ?_ | refine q_f ?_ | refine q_g ?_ | (refine O_nilEq tabOk rfl rfl rfl rfl rfl rfl ?_; intro b hb))
  cases b with
  | true =>
    have : l = [] := List.eq_nil_of_length_eq_zero (hb rfl).2
    subst this
    repeat (first | refine A_seq ?_ | refine A_block ?_ | refine R_list ?_ | refine R_quiet rfl mixed (by kernel_rfl) ?_ | ((first | apply O_y rfl rfl rfl | apply Q_y rfl rfl rfl); (first | exact q_1 | exact q_2 | exact q_3 | exact q_4 | exact q_5 | exact q_6 | exact q_7 | exact q_8 | exact q_9 | exact q_10 | exact q_11 | exact q_12 | exact q_13 | exact q_14 | exact q_15 | exact q_16 | exact q_17 | exact q_18 | exact q_19 | exact q_20 | exact q_21 | exact q_22 | exact q_23 | exact q_24 | fail)) | refine O_nil ?_ | refine Q_nil ?_ | refine q_j ?_ | refine q_k ?_ | refine q_d ?_ | refine q_a ?_ | refine q_b ?_ | refine q_c ?_ | refine A_ct rfl ?_ | refine A_cf rfl ?_ | refine A_skip ?_ | refine A_exit ?_ | refine A_ret ?_ | refine q_l ?_ | refine q_m ?_ | refine q_n ?_ | refine q_h ?_ | refine q_o ?_ | refine q_e ?_ | refine q_f ?_ | refine q_g ?_ | fail)
    exact X_retW (Wk_nil 28 9 (t := 2) (id := 5) rfl rfl) rfl (h2 := [(5, rteB [])]) ⟨rfl, trivial⟩ ⟨rfl, rfl⟩
  | false =>
    repeat (first | refine A_seq ?_ | refine A_block ?_ | refine R_list ?_ | refine R_quiet rfl mixed (by kernel_rfl) ?_ | ((first | apply O_y rfl rfl rfl | apply Q_y rfl rfl rfl); (first | exact q_1 | exact q_2 | exact q_3 | exact q_4 | exact q_5 | exact q_6 | exact q_7 | exact q_8 | exact q_9 | exact q_10 | exact q_11 | exact q_12 | exact q_13 | exact q_14 | exact q_15 | exact q_16 | exact q_17 | exact q_18 | exact q_19 | exact q_20 | exact q_21 | exact q_22 | exact q_23 | exact q_24 | fail)) | refine O_nil ?_ | refine Q_nil ?_ | refine q_j ?_ | refine q_k ?_ | refine q_d ?_ | refine q_a ?_ | refine q_b ?_ | refine q_c ?_ | refine A_ct rfl ?_ | refine A_cf rfl ?_ | refine A_skip ?_ | refine A_exit ?_ | refine A_ret ?_ | refine q_l ?_ | refine q_m ?_ | refine q_n ?_ | refine q_h ?_ | refine q_o ?_ | refine q_e ?_ | refine q_f ?_ | refine q_g ?_ | (first | refine O_slice0 tabOk rfl rfl rfl rfl rfl rfl rfl ?_ | (first | refine O_appR tabOk rfl rfl rfl rfl rfl rfl rfl rfl rfl rfl rfl (by first | exact Src.row rfl | exact Src.dat _ _ | exact Src.nil) hfl (by omega) ?_ | refine O_appN tabOk rfl rfl rfl rfl rfl rfl rfl rfl rfl rfl (by first | exact Src.row rfl | exact Src.dat _ _ | exact Src.nil) hfl (by omega) ?_)))
    exact X_retW AWk.refl rfl (h2 := [(5, rteB l)]) ⟨by rw [Nat.zero_add]; rfl, trivial⟩ ⟨rfl, rfl⟩
structure Cpt (l m : List Rte) (k q : Nat) : Prop where
  len : m.length = l.length
  q1 : q ≤ l.length
  kq : k < q
  k0 : 0 < k
  front : m.take k = dedA (l.take q)
  back : ∀ i, q ≤ i + 1 → m[i]? = l[i]?
theorem cpt_next {l m : List Rte} {k q : Nat} (C : Cpt l m k q) (h : q < l.length) (he : l[q - 1]'(by omega) = l[q]) : Cpt l m k (q + 1) := by
  have := C.kq
  have := C.k0
  refine ⟨C.len, by omega, by omega, C.k0, ?_, fun i hi => C.back i (by omega)⟩
  rw [ded_take l q (by omega) h, if_pos he, C.front]
theorem cpt_put {l m : List Rte} {k q : Nat} (C : Cpt l m k q) (h : q < l.length) (he : l[q - 1]'(by omega) ≠ l[q]) : Cpt l (m.set k l[q]) (k + 1) (q + 1) := by
  have h1 := C.kq
  have h2 := C.k0
  have h3 := C.len
  refine ⟨by rw [List.length_set, h3], by omega, by omega, by omega, ?_, fun i hi => ?_⟩
  · rw [ded_take l q (by omega) h, if_neg he, ← C.front, List.take_succ_eq_append_getElem (by rw [List.length_set]; omega), List.getElem_set_self, List.take_set_of_le (Nat.le_refl _)]
  · rw [List.getElem?_set_ne (by omega)]
    exact C.back i (by omega)
theorem win_at (l : List Rte) (k : Nat) (h : k < l.length) : win (l.flatMap rteD) (k * 9) 9 = rteD l[k] := win_flat0 rteD_len l k 9 h (by decide)
theorem win_part (l : List Rte) (a b : Nat) (h : a + b < l.length) : win (l.flatMap rteD) (a * 9 + b * 9) 9 = rteD l[a + b] := by rw [← Nat.add_mul]; exact win_at l (a + b) h
set_option maxHeartbeats 8000000 in
theorem compact_A (l : List Rte) (hn : l.length ≤ 2147483648) : ACall Try.prog 43 [.row 1000] [(1000, rteB l)] (fun c h => c = .row 100 ∧ h = [(100, rteB (dedA l))]) := by
  refine ACall_of tabOk Try.func43 rfl Try.ntmps43 (congrArg Array.toList Try.results43) (by kernel_rfl) rfl ?_
  refine A_weaken (Wk_rename (id := 100) (t := 0) rfl rfl) ?_
  by_cases h2 : l.length < 2
  · have hd : dedA l = l := by match l, h2 with | [], _ => rfl | [x], _ => rfl
    rw [hd]
    repeat (first | refine A_seq ?_ | refine A_block ?_ | refine R_list ?_ | refine R_quiet rfl mixed (by kernel_rfl) ?_ | ((first | apply O_y rfl rfl rfl | apply Q_y rfl rfl rfl); (first | exact q_1 | exact q_2 | exact q_3 | exact q_4 | exact q_5 | exact q_6 | exact q_7 | exact q_8 | exact q_9 | exact q_10 | exact q_11 | exact q_12 | exact q_13 | exact q_14 | exact q_15 | exact q_16 | exact q_17 | exact q_18 | exact q_19 | exact q_20 | exact q_21 | exact q_22 | exact q_23 | exact q_24 | fail)) | refine O_nil ?_ | refine Q_nil ?_ | refine q_j ?_ | refine q_k ?_ | refine q_d ?_ | refine q_a ?_ | refine q_b ?_ | refine q_c ?_ | refine A_ct rfl ?_ | refine A_cf rfl ?_ | refine A_skip ?_ | refine A_exit ?_ | refine A_ret ?_ | refine q_l ?_ | refine q_m ?_ | refine q_n ?_ | refine q_h ?_ | refine q_o ?_ | refine q_e ?_ | refine q_f ?_ | refine q_g ?_ | fail)
    exact X_retW AWk.refl rfl (h2 := [(100, rteB l)]) ⟨rfl, trivial⟩ ⟨rfl, rfl⟩
  ·
    repeat (first | refine A_seq ?_ | refine A_block ?_ | refine R_list ?_ | refine R_quiet rfl mixed (by kernel_rfl) ?_ | ((first | apply O_y rfl rfl rfl | apply Q_y rfl rfl rfl); (first | exact q_1 | exact q_2 | exact q_3 | exact q_4 | exact q_5 | exact q_6 | exact q_7 | exact q_8 | exact q_9 | exact q_10 | exact q_11 | exact q_12 | exact q_13 | exact q_14 | exact q_15 | exact q_16 | exact q_17 | exact q_18 | exact q_19 | exact q_20 | exact q_21 | exact q_22 | exact q_23 | exact q_24 | fail)) | refine O_nil ?_ | refine Q_nil ?_ | refine q_j ?_ | refine q_k ?_ | refine q_d ?_ | refine q_a ?_ | refine q_b ?_ | refine q_c ?_ | refine A_ct rfl ?_ | refine A_cf rfl ?_ | refine A_skip ?_ | refine A_exit ?_ | refine A_ret ?_ | refine q_l ?_ | refine q_m ?_ | refine q_n ?_ | refine q_h ?_ | refine q_o ?_ | refine q_e ?_ | refine q_f ?_ | refine q_g ?_ | fail)
    refine A_loop (fun k : Nat => [(0, .row 100), (3, intA (k : Int))]) (fun _ => [(100, rteB l)]) (fun k => 1 ≤ k ∧ k ≤ l.length ∧ dedA (l.take k) = l.take k) (fun k => l.length - k) 1 ⟨by omega, by omega, ?_⟩ (Wk_sel ⟨rfl, rfl, trivial⟩ ⟨rfl, trivial⟩) ?_
    · match l with
      | [] => rfl
      | x :: r => rfl
    rintro k ⟨hk1, hk2, hd⟩
    dsimp only
    by_cases hlt : k < l.length
    · have hlt1 : k - 1 < l.length := by omega
      have hk' : ((k : Int) - 1) = ((k - 1 : Nat) : Int) := by omega
      have heq := rteEq l[k] l[k - 1]
      have hw0 := win_at l k hlt
      have hw1 := win_at l (k - 1) hlt1
      by_cases he : l[k] = l[k - 1]
      · rw [show (l[k] == l[k - 1]) = true by simpa using he] at heq
        repeat (first | refine A_seq ?_ | refine A_block ?_ | refine R_list ?_ | refine R_quiet rfl mixed (by kernel_rfl) ?_ | ((first | apply O_y rfl rfl rfl | apply Q_y rfl rfl rfl); (first | exact q_1 | exact q_2 | exact q_3 | exact q_4 | exact q_5 | exact q_6 | exact q_7 | exact q_8 | exact q_9 | exact q_10 | exact q_11 | exact q_12 | exact q_13 | exact q_14 | exact q_15 | exact q_16 | exact q_17 | exact q_18 | exact q_19 | exact q_20 | exact q_21 | exact q_22 | exact q_23 | exact q_24 | (first | exact R_indexr tabOk rfl rfl rfl rfl rfl rfl hk' hlt1 | exact R_loade tabOk rfl rfl rfl rfl rfl rfl hw0 rfl rfl | exact R_loade tabOk rfl rfl rfl rfl rfl rfl hw1 rfl rfl | exact Y_eq tabOk noStand rfl rfl rfl rfl rfl rfl rfl rfl rfl (by kernel_rfl) heq rfl | exact R_rowFrom tabOk rfl rfl rfl rfl rfl rfl rfl (Nat.le_of_lt hlt)))) | refine O_nil ?_ | refine Q_nil ?_ | refine q_j ?_ | refine q_k ?_ | refine q_d ?_ | refine q_a ?_ | refine q_b ?_ | refine q_c ?_ | refine A_ct rfl ?_ | refine A_cf rfl ?_ | refine A_skip ?_ | refine A_exit ?_ | refine A_ret ?_ | refine q_l ?_ | refine q_m ?_ | refine q_n ?_ | refine q_h ?_ | refine q_o ?_ | refine q_e ?_ | refine q_f ?_ | refine q_g ?_ | fail)
        refine A_loop (fun x : Nat × Nat × List Rte => [(0, .row 100), (3, intA (x.1 : Int)), (4, .srow 100 (k * 9) (l.length - k)), (5, intA (x.2.1 : Int))]) (fun x => [(100, rteB x.2.2)]) (fun x => 1 ≤ x.2.1 ∧ Cpt l x.2.2 x.1 (k + x.2.1)) (fun x => l.length - x.2.1) (k, 1, l) ⟨Nat.le_refl _, rfl, hlt, Nat.lt_succ_self k, hk1, ?_, fun _ _ => rfl⟩ (Wk_sel ⟨rfl, rfl, rfl, rfl, trivial⟩ ⟨rfl, trivial⟩) ?_
        · rw [ded_take l k hk1 hlt, if_pos he.symm, hd]
        rintro ⟨K, j, m⟩ ⟨hj, C⟩
        dsimp only at hj C ⊢
        have c1 := C.len
        have c2 := C.q1
        have c3 := C.kq
        have c4 := C.k0
        by_cases hq : k + j < l.length
        · have hjk : j < l.length - k := by omega
          have hjk1 : j - 1 < l.length - k := by omega
          have hj' : ((j : Int) - 1) = ((j - 1 : Nat) : Int) := by omega
          have e1 : m[k + j]'(by omega) = l[k + j] := by
            have := C.back (k + j) (by omega)
            rw [List.getElem?_eq_getElem (by omega), List.getElem?_eq_getElem hq] at this
            exact Option.some.inj this
          have e2 : m[k + (j - 1)]'(by omega) = l[k + j - 1] := by
            have := C.back (k + (j - 1)) (by omega)
            rw [List.getElem?_eq_getElem (by omega), List.getElem?_eq_getElem (show k + (j - 1) < l.length by omega)] at this
            rw [Option.some.inj this]
            congr 1
            omega
          have hw2 := win_part m k j (by omega)
          have hw3 := win_part m k (j - 1) (by omega)
          rw [e1] at hw2
          rw [e2] at hw3
          have heq2 := rteEq l[k + j] l[k + j - 1]
          by_cases hs : l[k + j - 1] = l[k + j]
          · rw [show (l[k + j] == l[k + j - 1]) = true by simpa using hs.symm] at heq2
            repeat (first | refine A_seq ?_ | refine A_block ?_ | refine R_list ?_ | refine R_quiet rfl mixed (by kernel_rfl) ?_ | ((first | apply O_y rfl rfl rfl | apply Q_y rfl rfl rfl); (first | exact q_1 | exact q_2 | exact q_3 | exact q_4 | exact q_5 | exact q_6 | exact q_7 | exact q_8 | exact q_9 | exact q_10 | exact q_11 | exact q_12 | exact q_13 | exact q_14 | exact q_15 | exact q_16 | exact q_17 | exact q_18 | exact q_19 | exact q_20 | exact q_21 | exact q_22 | exact q_23 | exact q_24 | (first | exact R_lens tabOk rfl rfl rfl rfl | exact R_indexs tabOk rfl rfl rfl rfl rfl rfl rfl hjk | exact R_indexs tabOk rfl rfl rfl rfl rfl rfl rfl hjk1 | exact R_indexs tabOk rfl rfl rfl rfl rfl rfl hj' hjk1 | exact R_loade tabOk rfl rfl rfl rfl rfl rfl hw2 rfl rfl | exact R_loade tabOk rfl rfl rfl rfl rfl rfl hw3 rfl rfl | exact Y_eq tabOk noStand rfl rfl rfl rfl rfl rfl rfl rfl rfl (by kernel_rfl) heq2 rfl))) | refine O_nil ?_ | refine Q_nil ?_ | refine q_j ?_ | refine q_k ?_ | refine q_d ?_ | refine q_a ?_ | refine q_b ?_ | refine q_c ?_ | refine A_ct rfl ?_ | refine A_cf rfl ?_ | refine A_skip ?_ | refine A_exit ?_ | refine A_ret ?_ | refine q_l ?_ | refine q_m ?_ | refine q_n ?_ | refine q_h ?_ | refine q_o ?_ | refine q_e ?_ | refine q_f ?_ | refine q_g ?_ | fail)
            exact ⟨(K, j + 1, m), ⟨by dsimp only; omega, by dsimp only; exact cpt_next C hq hs⟩, by dsimp only; omega, Wk_sel ⟨rfl, rfl, rfl, rfl, trivial⟩ ⟨rfl, trivial⟩⟩
          · rw [show (l[k + j] == l[k + j - 1]) = false by simpa using fun h => hs h.symm] at heq2
            have hKm : K < m.length := by omega
            have hfl : (m.flatMap rteD).length = m.length * 9 := flat_len rteD_len m
            repeat (first | refine A_seq ?_ | refine A_block ?_ | refine R_list ?_ | refine R_quiet rfl mixed (by kernel_rfl) ?_ | ((first | apply O_y rfl rfl rfl | apply Q_y rfl rfl rfl); (first | exact q_1 | exact q_2 | exact q_3 | exact q_4 | exact q_5 | exact q_6 | exact q_7 | exact q_8 | exact q_9 | exact q_10 | exact q_11 | exact q_12 | exact q_13 | exact q_14 | exact q_15 | exact q_16 | exact q_17 | exact q_18 | exact q_19 | exact q_20 | exact q_21 | exact q_22 | exact q_23 | exact q_24 | (first | exact R_lens tabOk rfl rfl rfl rfl | exact R_indexs tabOk rfl rfl rfl rfl rfl rfl rfl hjk | exact R_indexs tabOk rfl rfl rfl rfl rfl rfl rfl hjk1 | exact R_indexs tabOk rfl rfl rfl rfl rfl rfl hj' hjk1 | exact R_loade tabOk rfl rfl rfl rfl rfl rfl hw2 rfl rfl | exact R_loade tabOk rfl rfl rfl rfl rfl rfl hw3 rfl rfl | exact Y_eq tabOk noStand rfl rfl rfl rfl rfl rfl rfl rfl rfl (by kernel_rfl) heq2 rfl | exact R_indexr tabOk rfl rfl rfl rfl rfl rfl rfl hKm))) | refine O_nil ?_ | refine Q_nil ?_ | refine q_j ?_ | refine q_k ?_ | refine q_d ?_ | refine q_a ?_ | refine q_b ?_ | refine q_c ?_ | refine A_ct rfl ?_ | refine A_cf rfl ?_ | refine A_skip ?_ | refine A_exit ?_ | refine A_ret ?_ | refine q_l ?_ | refine q_m ?_ | refine q_n ?_ | refine q_h ?_ | refine q_o ?_ | refine q_e ?_ | refine q_f ?_ | refine q_g ?_ | (refine O_storee tabOk rfl rfl rfl rfl rfl rfl rfl rfl rfl rfl (by rw [hfl]; omega) (by omega) ?_))
            exact ⟨(K + 1, j + 1, m.set K l[k + j]), ⟨by dsimp only; omega, by dsimp only; exact cpt_put C hq hs⟩, by dsimp only; omega, Wk_sel ⟨rfl, rfl, rfl, rfl, trivial⟩ ⟨row_eq (by dsimp only; rw [List.length_set]) (flat_set rteD_len m K l[k + j] hKm) rfl, trivial⟩⟩
        · have hK : K ≤ m.length := by omega
          have hq2 : k + j = l.length := by omega
          have hfl : (m.flatMap rteD).length = m.length * 9 := flat_len rteD_len m
          have hjl : ¬ ((j : Int) < ((l.length - k : Nat) : Int)) := by omega
          repeat (first | refine A_seq ?_ | refine A_block ?_ | refine R_list ?_ | refine R_quiet rfl mixed (by kernel_rfl) ?_ | ((first | apply O_y rfl rfl rfl | apply Q_y rfl rfl rfl); (first | exact q_1 | exact q_2 | exact q_3 | exact q_4 | exact q_5 | exact q_6 | exact q_7 | exact q_8 | exact q_9 | exact q_10 | exact q_11 | exact q_12 | exact q_13 | exact q_14 | exact q_15 | exact q_16 | exact q_17 | exact q_18 | exact q_19 | exact q_20 | exact q_21 | exact q_22 | exact q_23 | exact q_24 | (first | exact R_lens tabOk rfl rfl rfl rfl | exact R_rowFrom tabOk rfl rfl rfl rfl rfl rfl rfl hK))) | refine O_nil ?_ | refine Q_nil ?_ | refine q_j ?_ | refine q_k ?_ | refine q_d ?_ | refine q_a ?_ | refine q_b ?_ | refine q_c ?_ | refine A_ct rfl ?_ | refine A_cf rfl ?_ | refine A_skip ?_ | refine A_exit ?_ | refine A_ret ?_ | refine q_l ?_ | refine q_m ?_ | refine q_n ?_ | refine q_h ?_ | refine q_o ?_ | refine q_e ?_ | refine q_f ?_ | refine q_g ?_ | fail)
          refine O_clear tabOk rfl rfl rfl rfl rfl rfl rfl rfl (by rw [Nat.sub_mul]; have := Nat.mul_le_mul_right 9 hK; omega) fun zs hzs => ?_
          repeat (first | refine A_seq ?_ | refine A_block ?_ | refine R_list ?_ | refine R_quiet rfl mixed (by kernel_rfl) ?_ | ((first | apply O_y rfl rfl rfl | apply Q_y rfl rfl rfl); (first | exact q_1 | exact q_2 | exact q_3 | exact q_4 | exact q_5 | exact q_6 | exact q_7 | exact q_8 | exact q_9 | exact q_10 | exact q_11 | exact q_12 | exact q_13 | exact q_14 | exact q_15 | exact q_16 | exact q_17 | exact q_18 | exact q_19 | exact q_20 | exact q_21 | exact q_22 | exact q_23 | exact q_24 | fail)) | refine O_nil ?_ | refine Q_nil ?_ | refine q_j ?_ | refine q_k ?_ | refine q_d ?_ | refine q_a ?_ | refine q_b ?_ | refine q_c ?_ | refine A_ct rfl ?_ | refine A_cf rfl ?_ | refine A_skip ?_ | refine A_exit ?_ | refine A_ret ?_ | refine q_l ?_ | refine q_m ?_ | refine q_n ?_ | refine q_h ?_ | refine q_o ?_ | refine q_e ?_ | refine q_f ?_ | refine q_g ?_ | (refine O_rowTo tabOk rfl rfl rfl rfl rfl rfl rfl rfl rfl rfl rfl hK ?_))
          have hfr : (setW (m.flatMap rteD) (K * 9) zs).take (K * 9) = (dedA l).flatMap rteD := by
            unfold setW
            rw [List.take_append_of_le_length (by rw [List.length_append, List.length_take, hfl]; have := Nat.mul_le_mul_right 9 hK; omega), List.take_append_of_le_length (by rw [List.length_take, hfl]; have := Nat.mul_le_mul_right 9 hK; omega), List.take_take, Nat.min_self, flat_take rteD_len, C.front, hq2, List.take_length]
          have hlK : K = (dedA l).length := by
            have := congrArg List.length C.front
            rw [hq2, List.take_length, List.length_take] at this
            omega
          exact X_retW AWk.refl rfl (h2 := [(100, rteB (dedA l))]) ⟨row_eq hlK hfr rfl, trivial⟩ ⟨rfl, rfl⟩
      · rw [show (l[k] == l[k - 1]) = false by simpa using he] at heq
        repeat (first | refine A_seq ?_ | refine A_block ?_ | refine R_list ?_ | refine R_quiet rfl mixed (by kernel_rfl) ?_ | ((first | apply O_y rfl rfl rfl | apply Q_y rfl rfl rfl); (first | exact q_1 | exact q_2 | exact q_3 | exact q_4 | exact q_5 | exact q_6 | exact q_7 | exact q_8 | exact q_9 | exact q_10 | exact q_11 | exact q_12 | exact q_13 | exact q_14 | exact q_15 | exact q_16 | exact q_17 | exact q_18 | exact q_19 | exact q_20 | exact q_21 | exact q_22 | exact q_23 | exact q_24 | (first | exact R_indexr tabOk rfl rfl rfl rfl rfl rfl hk' hlt1 | exact R_loade tabOk rfl rfl rfl rfl rfl rfl hw0 rfl rfl | exact R_loade tabOk rfl rfl rfl rfl rfl rfl hw1 rfl rfl | exact Y_eq tabOk noStand rfl rfl rfl rfl rfl rfl rfl rfl rfl (by kernel_rfl) heq rfl))) | refine O_nil ?_ | refine Q_nil ?_ | refine q_j ?_ | refine q_k ?_ | refine q_d ?_ | refine q_a ?_ | refine q_b ?_ | refine q_c ?_ | refine A_ct rfl ?_ | refine A_cf rfl ?_ | refine A_skip ?_ | refine A_exit ?_ | refine A_ret ?_ | refine q_l ?_ | refine q_m ?_ | refine q_n ?_ | refine q_h ?_ | refine q_o ?_ | refine q_e ?_ | refine q_f ?_ | refine q_g ?_ | fail)
        exact ⟨k + 1, ⟨by omega, by omega, by rw [ded_take l k hk1 hlt, if_neg fun h => he h.symm, hd, ← List.take_succ_eq_append_getElem hlt]⟩, by omega, Wk_sel ⟨rfl, rfl, trivial⟩ ⟨rfl, trivial⟩⟩
    · have : k = l.length := by omega
      subst this
      rw [List.take_length] at hd
      rw [hd]
      repeat (first | refine A_seq ?_ | refine A_block ?_ | refine R_list ?_ | refine R_quiet rfl mixed (by kernel_rfl) ?_ | ((first | apply O_y rfl rfl rfl | apply Q_y rfl rfl rfl); (first | exact q_1 | exact q_2 | exact q_3 | exact q_4 | exact q_5 | exact q_6 | exact q_7 | exact q_8 | exact q_9 | exact q_10 | exact q_11 | exact q_12 | exact q_13 | exact q_14 | exact q_15 | exact q_16 | exact q_17 | exact q_18 | exact q_19 | exact q_20 | exact q_21 | exact q_22 | exact q_23 | exact q_24 | fail)) | refine O_nil ?_ | refine Q_nil ?_ | refine q_j ?_ | refine q_k ?_ | refine q_d ?_ | refine q_a ?_ | refine q_b ?_ | refine q_c ?_ | refine A_ct rfl ?_ | refine A_cf rfl ?_ | refine A_skip ?_ | refine A_exit ?_ | refine A_ret ?_ | refine q_l ?_ | refine q_m ?_ | refine q_n ?_ | refine q_h ?_ | refine q_o ?_ | refine q_e ?_ | refine q_f ?_ | refine q_g ?_ | fail)
      exact X_retW AWk.refl rfl (h2 := [(100, rteB l)]) ⟨rfl, trivial⟩ ⟨rfl, rfl⟩
end Ab
end Go.Proofs.Ytnnclkeoakjjkaa

namespace Go.Proofs.Ytnnclkeoakjjkaa
set_option linter.unusedVariables false
def winB (l : List Rte) (r : Rte) : Bool := l.all fun s => !(decide (s.p = r.p) && decide (rank s r < 0))
theorem winB_iff {l : List Rte} {r : Rte} : winB l r = true ↔ ∀ s ∈ l, s.p = r.p → 0 ≤ rank s r := by
  unfold winB
  rw [List.all_eq_true]
  refine forall_congr' fun s => forall_congr' fun _ => ?_
  simp only [Bool.not_eq_true', Bool.and_eq_false_iff, decide_eq_false_iff_not, Int.not_lt]
  constructor
  · rintro (h | h) hp
    · exact absurd hp h
    · exact h
  · intro h
    by_cases hp : s.p = r.p
    · exact .inr (h hp)
    · exact .inl hp
def takeR (l : List Rte) : List Rte := sortU ordR (l.filter (winB l))
theorem ordR_eq (x y : Rte) (h : ordR x y = 0) : x = y := (ordR_zero x y).1 h
theorem takeR_mem {l : List Rte} {r : Rte} : r ∈ takeR l ↔ r ∈ l ∧ ∀ s ∈ l, s.p = r.p → 0 ≤ rank s r := by
  unfold takeR
  rw [sortU_mem, List.mem_filter, winB_iff]
theorem takeR_rising (l : List Rte) : Rising ordR (takeR l) := sortU_rising good_ordR ordR_eq _
theorem takeR_len (l : List Rte) : (takeR l).length ≤ l.length := Nat.le_trans (sortU_len _) (List.length_filter_le _ _)
theorem least {α : Type} {c : α → α → Int} (G : Good c) : ∀ (l : List α), l ≠ [] → ∃ b ∈ l, ∀ s ∈ l, c b s ≤ 0
  | [], h => absurd rfl h
  | [x], _ => ⟨x, List.mem_cons_self .., fun s hs => by rcases List.mem_cons.1 hs with rfl | h; exact Int.le_of_eq (G.refl _); cases h⟩
  | x :: y :: r, _ => by
    obtain ⟨b, hb, hl⟩ := least G (y :: r) (by simp)
    rcases Int.lt_or_le 0 (c x b) with h | h
    · refine ⟨b, List.mem_cons_of_mem _ hb, fun s hs => ?_⟩
      rcases List.mem_cons.1 hs with rfl | hs
      · have := G.anti s b; omega
      · exact hl s hs
    · refine ⟨x, List.mem_cons_self .., fun s hs => ?_⟩
      rcases List.mem_cons.1 hs with rfl | hs
      · exact Int.le_of_eq (G.refl _)
      · exact G.trans _ _ _ h (hl s hs)
theorem winner (l : List Rte) (r : Rte) (h : r ∈ l) : ∃ b ∈ takeR l, b.p = r.p ∧ rank b r ≤ 0 := by
  obtain ⟨b, hb, hl⟩ := least good_rank (l.filter fun s => decide (s.p = r.p)) (fun e => by
    have : r ∈ l.filter fun s => decide (s.p = r.p) := List.mem_filter.2 ⟨h, by simp⟩
    rw [e] at this; cases this)
  rw [List.mem_filter, decide_eq_true_eq] at hb
  refine ⟨b, takeR_mem.2 ⟨hb.1, fun s hs hp => ?_⟩, hb.2, hl r (List.mem_filter.2 ⟨h, by simp⟩)⟩
  have h1 := hl s (List.mem_filter.2 ⟨hs, by rw [decide_eq_true_eq, hp]; exact hb.2⟩)
  have h2 := good_rank.anti b s
  omega
theorem takeR_ext {l m : List Rte} (h : ∀ r, (r ∈ l ∧ ∀ s ∈ l, s.p = r.p → 0 ≤ rank s r) ↔ (r ∈ m ∧ ∀ s ∈ m, s.p = r.p → 0 ≤ rank s r)) : takeR l = takeR m :=
  rising_ext good_ordR (takeR_rising l) (takeR_rising m) fun r => by rw [takeR_mem, takeR_mem]; exact h r
theorem takeR_parts (l m : List Rte) : takeR (takeR m ++ takeR l) = takeR (l ++ m) := by
  have sub : ∀ {x : List Rte} {r : Rte}, r ∈ takeR x → r ∈ x := fun h => (takeR_mem.1 h).1
  refine takeR_ext fun r => ⟨fun ⟨h1, h2⟩ => ⟨?_, fun s hs hp => ?_⟩, fun ⟨h1, h2⟩ => ⟨?_, fun s hs hp => ?_⟩⟩
  · rcases List.mem_append.1 h1 with h | h
    · exact List.mem_append_right _ (sub h)
    · exact List.mem_append_left _ (sub h)
  · have key : ∃ b ∈ takeR m ++ takeR l, b.p = s.p ∧ rank b s ≤ 0 := by
      rcases List.mem_append.1 hs with h | h
      · obtain ⟨b, hb, h3⟩ := winner l s h
        exact ⟨b, List.mem_append_right _ hb, h3⟩
      · obtain ⟨b, hb, h3⟩ := winner m s h
        exact ⟨b, List.mem_append_left _ hb, h3⟩
    obtain ⟨b, hb, h3, h4⟩ := key
    have h5 := h2 b hb (h3.trans hp)
    rcases Int.lt_or_le (rank s r) 0 with h6 | h6
    · have := good_rank.le_lt h4 h6; omega
    · exact h6
  · rcases List.mem_append.1 h1 with h | h
    · exact List.mem_append_right _ (takeR_mem.2 ⟨h, fun s hs hp => h2 s (List.mem_append_left _ hs) hp⟩)
    · exact List.mem_append_left _ (takeR_mem.2 ⟨h, fun s hs hp => h2 s (List.mem_append_right _ hs) hp⟩)
  · rcases List.mem_append.1 hs with h | h
    · exact h2 s (List.mem_append_right _ (sub h)) hp
    · exact h2 s (List.mem_append_left _ (sub h)) hp
theorem takeR_again (l : List Rte) : takeR (takeR l) = takeR l := by
  refine takeR_ext fun r => ⟨fun ⟨h1, h2⟩ => takeR_mem.1 h1, fun ⟨h1, h2⟩ => ⟨takeR_mem.2 ⟨h1, h2⟩, fun s hs hp => h2 s (takeR_mem.1 hs).1 hp⟩⟩
structure Kept (l : List Rte) (es : List (Pfx × Rte)) : Prop where
  mem : ∀ e ∈ es, e.2 ∈ l ∧ e.2.p = e.1
  all : ∀ r ∈ l, ∃ e ∈ es, e.1 = r.p ∧ rank e.2 r ≤ 0
theorem kept_win {l : List Rte} {es : List (Pfx × Rte)} (K : Kept l es) {r b : Rte} (hn : (es.map (·.1)).Nodup) (hb : (r.p, b) ∈ es) (hr : r ∈ l) : winB l r = true ↔ rank r b = 0 := by
  have hb1 := K.mem _ hb
  have least : ∀ s ∈ l, s.p = r.p → rank b s ≤ 0 := fun s hs hp => by
    obtain ⟨e, he, h1, h2⟩ := K.all s hs
    have : e = (r.p, b) := by
      obtain ⟨k, v⟩ := e
      dsimp only at h1
      have h3 : k = r.p := h1.trans hp
      subst h3
      exact Prod.ext rfl (Option.some.inj ((aget_of_mem hn he).symm.trans (aget_of_mem hn hb)))
    rw [this] at h2
    exact h2
  rw [winB_iff]
  constructor
  · intro h
    have h1 := h b hb1.1 hb1.2
    have h2 := good_rank.anti b r
    have := least r hr rfl
    omega
  · intro h s hs hp
    have h1 := least s hs hp
    have h2 := good_rank.anti s b
    have h3 := good_rank.anti s r
    have := good_rank.trans r b s (by omega) h1
    omega
theorem kept_put {l : List Rte} {es : List (Pfx × Rte)} (K : Kept l es) (hn : (es.map (·.1)).Nodup) {r : Rte} (h : ∀ b, aget es r.p = some b → rank r b < 0) : Kept (l ++ [r]) (aput es r.p r) := by
  refine ⟨fun e he => ?_, fun s hs => ?_⟩
  · rcases (mem_aput hn).1 he with rfl | ⟨_, h1⟩
    · exact ⟨by simp, rfl⟩
    · have := K.mem e h1
      exact ⟨List.mem_append_left _ this.1, this.2⟩
  · rcases List.mem_append.1 hs with h1 | h1
    · obtain ⟨e, he, h2, h3⟩ := K.all s h1
      by_cases hk : e.1 = r.p
      · have hg := aget_of_mem hn (k := r.p) (v := e.2) (by rw [← hk]; exact he)
        exact ⟨(r.p, r), (mem_aput hn).2 (.inl rfl), hk.symm.trans h2, Int.le_of_lt (good_rank.lt_le (h _ hg) h3)⟩
      · exact ⟨e, (mem_aput hn).2 (.inr ⟨hk, he⟩), h2, h3⟩
    · have : s = r := by simpa using h1
      subst this
      exact ⟨(s.p, s), (mem_aput hn).2 (.inl rfl), rfl, Int.le_of_eq (good_rank.refl _)⟩
theorem kept_stay {l : List Rte} {es : List (Pfx × Rte)} (K : Kept l es) {r b : Rte} (hg : aget es r.p = some b) (h : 0 ≤ rank r b) : Kept (l ++ [r]) es := by
  refine ⟨fun e he => ⟨List.mem_append_left _ (K.mem e he).1, (K.mem e he).2⟩, fun s hs => ?_⟩
  rcases List.mem_append.1 hs with h1 | h1
  · exact K.all s h1
  · have : s = r := by simpa using h1
    subst this
    have := good_rank.anti s b
    exact ⟨(s.p, b), mem_of_aget hg, rfl, by dsimp only; omega⟩
theorem kept_nil : Kept [] [] := ⟨fun _ h => (by cases h), fun _ h => (by cases h)⟩
end Go.Proofs.Ytnnclkeoakjjkaa

namespace Go.Proofs.Ytnnclkeoakjjkaa.Ab
set_option linter.unusedVariables false
open Go.RowKit
open Go.ChangeMaps (setBlock)

section
variable {nt : Nat} {e : Env} {h : Heap}
theorem Rel.opened {Pm F : Nat → Prop} {w0 w : World} {pin ι : Nat → Option Value} {a : Act} (R : Rel Pm F w0 pin ι nt e h a w) {mid : Nat} {es : List (AVal × AVal)} (hb : look h mid = some (.map es)) :
    ∃ r bs clk, bs.length = es.length ∧ bs.Pairwise (fun a b => a < b) ∧ (∀ b ∈ bs, b < clk) ∧ Rel Pm F w0 pin ι nt e ((mid, .mapx r bs clk es) :: h) a w := by
  obtain ⟨v, hv, r, E, clk, rfl, hC, hl, hr, h1, h2⟩ := R.heap.blk mid _ hb
  have hW : Wrote w (.map (some r)) w := ⟨rfl, rfl, rfl, Nat.le_refl _, fun _ _ _ => rfl⟩
  have hp : (E.toList.map (·.born)).Pairwise (fun a b => a < b) := by
    rw [List.pairwise_map, List.pairwise_iff_getElem]
    intro i j hi hj hij
    exact h1 i j _ _ hij (by rw [← Array.getElem?_toList]; exact List.getElem?_eq_getElem hi) (by rw [← Array.getElem?_toList]; exact List.getElem?_eq_getElem hj)
  have hlt : ∀ b ∈ E.toList.map (·.born), b < clk := fun b hb => by
    obtain ⟨m, hm, rfl⟩ := List.mem_map.1 hb
    obtain ⟨i, hi⟩ := List.getElem?_of_mem hm
    exact h2 i m (by rw [← Array.getElem?_toList]; exact hi)
  exact ⟨r, E.toList.map (·.born), clk, by simp [hl], hp, hlt, R.heap.wrote hW hv ⟨E, rfl, hC, hl, hr, rfl, hp, hlt⟩, R.env, R.defers, R.size⟩
theorem Wk_close {mid r clk : Nat} {bs : List Nat} {es : List (AVal × AVal)} (hb : look h mid = some (.mapx r bs clk es)) : AWk nt e h e ((mid, .map es) :: h) := fun Pm F w0 pin ι a w R => by
  obtain ⟨v, hv, E, rfl, hC, hl, hr, h1, h2, h3⟩ := R.heap.blk mid _ hb
  have hW : Wrote w (.map (some r)) w := ⟨rfl, rfl, rfl, Nat.le_refl _, fun _ _ _ => rfl⟩
  refine ⟨ι, R.heap.wrote hW hv ⟨r, E, clk, rfl, hC, hl, hr, fun i j m m' hij hi hj => ?_, fun i m hi => ?_⟩, R.env, R.defers, R.size⟩
  · rw [← h1, List.pairwise_map, List.pairwise_iff_getElem] at h2
    have hi' := (Array.getElem?_eq_some_iff.1 hi)
    have hj' := (Array.getElem?_eq_some_iff.1 hj)
    have := h2 i j (by simpa using hi'.1) (by simpa using hj'.1) hij
    rw [Array.getElem_toList, Array.getElem_toList, hi'.2, hj'.2] at this
    exact this
  · refine h3 m.born ?_
    rw [← h1]
    exact List.mem_map.2 ⟨m, Array.mem_toList_iff.2 (Array.mem_of_getElem? hi), rfl⟩
end
section
variable {P : Program} {nt : Nat} {Q : Post} {e : Env} {h : Heap} {ops : Array Oper} {o : Oper} {rest : List Oper} {T : List Nat} {tab : TTab} {z : Bool}
theorem A_open {c : Code} {mid : Nat} {es : List (AVal × AVal)} (hb : look h mid = some (.map es)) (H : ∀ r bs clk, bs.length = es.length → bs.Pairwise (fun a b => a < b) → (∀ b ∈ bs, b < clk) → AWp z P nt c Q e ((mid, .mapx r bs clk es) :: h)) : AWp z P nt c Q e h :=
  fun lq Pm F w0 pin ι a w hz R => by
    obtain ⟨r, bs, clk, h1, h2, h3, R'⟩ := R.opened hb
    exact H r bs clk h1 h2 h3 lq Pm F w0 pin ι a w hz R'
theorem E_range {t : TypeId} {x : Operand} {d : Option Tmp} {id mid r clk : Nat} {bs : List Nat} {es : List (AVal × AVal)} {k v : TypeId} (TO : TabOk P tab) (ho : o.op = .range t x) (hdst : o.dst = d) (ht : tmap tab t = some (k, v)) (hx : aev e x = some (.mp mid)) (hm : look h mid = some (.mapx r bs clk es)) (hid : Nat.blt id 1000 = true) (hd : dstOk nt d = true) :
    AEff P nt T e h o (fun e' h' => e' = aput d (.ptr id 0) (killE id e) ∧ h' = (id, .it (.mapIter (some r) clk #[] clk)) :: killH id h) := fun Pm F w0 pin ι a w R K Qx hK => by
  obtain ⟨te, h1, h2⟩ := tmap_spec ht
  obtain ⟨vm, hvm, E, rfl, hC, _⟩ := R.heap.blk mid _ hm
  have hxv := aev_rel R.env hx
  have hxe : a.eval x = .map (some r) := by
    generalize a.eval x = u at hxv
    cases hxv with
    | mp _ _ h1 h2 => exact h2 _ hvm
  have hb : ∀ ι', ι' = upd ι id (some (.pointer (some ⟨w.heap.size, 0, none⟩))) → Ext w F ι (w.alloc (.mapIter (some r) clk #[] clk)) ι' → BRel (w.alloc (.mapIter (some r) clk #[] clk)) F ι' (.it (.mapIter (some r) clk #[] clk)) (.pointer (some ⟨w.heap.size, 0, none⟩)) := fun ι' _ _ => ⟨_, rfl, heap_new _ _⟩
  obtain ⟨hR, hCt⟩ := R.new (T := T) hid hd (.mapIter (some r) clk #[] clk) (.pointer (some ⟨w.heap.size, 0, none⟩)) (by simp [blockOf]) _ (.ptr id 0) hb fun ι' h1 => .ptr id 0 _ rfl fun v hv => by subst h1; simp [upd] at hv; subst hv; exact ⟨_, rfl, rfl⟩
  have hrun : (execOp a.eval o).run P w = .ok (.value (.pointer (some ⟨w.heap.size, 0, none⟩))) (w.alloc (.mapIter (some r) clk #[] clk)) := by
    have hu : P.underlying t = some (.map k v) := by
      obtain ⟨d, hd, _, hs⟩ := (TO t te h1).und
      rw [h2] at hs
      rw [hd, show d = .map k v from hs]
    simp only [execOp, ho, hxe]
    simp [run_range_map w t k v r E clk hu hC]
  unfold Oper.wp
  rw [hrun, Oper.upon_value, hdst]
  exact hK _ _ _ _ _ ⟨rfl, rfl⟩ hR hCt (put_defers _ _ _)
theorem O_range {t : TypeId} {x : Operand} {d mid r clk : Nat} {bs : List Nat} {es : List (AVal × AVal)} {k v : TypeId} (TO : TabOk P tab) (hw : awant ops e o = some true) (hdst : o.dst = some d) (hd : Nat.blt d nt = true) (hid : Nat.blt d 1000 = true) (ho : o.op = .range t x) (ht : tmap tab t = some (k, v)) (hx : aev e x = some (.mp mid)) (hm : look h mid = some (.mapx r bs clk es))
    (HK : AOps P nt ops Q rest ((d, .ptr d 0) :: killE d e) ((d, .it (.mapIter (some r) clk #[] clk)) :: killH d h)) : AOps P nt ops Q (o :: rest) e h :=
  O_eff (T := []) hw (E_range TO ho hdst ht hx hm hid hd) fun e' h' ⟨h1, h2⟩ => by subst h1 h2; exact HK
theorem it_val {Pm F : Nat → Prop} {w0 w : World} {pin ι : Nat → Option Value} {a : Act} (H : HRel Pm F w0 pin ι h w) (E : EnvRel w F ι e a) {x : Operand} {it : Nat} {ob : Obj} (hx : aev e x = some (.ptr it 0)) (hi : look h it = some (.it ob)) :
    ∃ r, ι it = some (.pointer (some ⟨r, 0, none⟩)) ∧ w.heap[r]? = some ob ∧ a.eval x = .pointer (some ⟨r, 0, none⟩) := by
  obtain ⟨v, hv, r, rfl, hr⟩ := H.blk it _ hi
  refine ⟨r, hv, hr, ?_⟩
  have hxv := aev_rel E hx
  generalize a.eval x = u at hxv
  cases hxv with
  | ptr _ _ _ h1 h2 =>
    obtain ⟨r', h3, h4⟩ := h2 _ hv
    cases h3
    exact h4
theorem E_next {x : Operand} {d : Option Tmp} {it mid r since c0 clk : Nat} {seen : Array Nat} {bs : List Nat} {es : List (AVal × AVal)} (ho : o.op = .next x false) (hdst : o.dst = d) (hx : aev e x = some (.ptr it 0)) (hi : look h it = some (.it (.mapIter (some r) since seen c0))) (hm : look h mid = some (.mapx r bs clk es))
    (hs : clk ≤ since) (hsc : since ≤ c0) (hd : dstOk nt d = true) (hT : T.contains it = true) :
    AEff P nt T e h o (fun e' h' => (e' = aput d (.tup [.d (.sc (.bool false))]) e ∧ h' = h ∧ ∀ b ∈ bs, seen.contains b = true) ∨
      ∃ (j : Nat) (p : AVal × AVal) (b : Nat), es[j]? = some p ∧ bs[j]? = some b ∧ seen.contains b = false ∧ e' = aput d (.tup [.d (.sc (.bool true)), p.1, p.2]) e ∧ h' = (it, .it (.mapIter (some r) since (seen.push b) clk)) :: h) := fun Pm F w0 pin ι a w R K Qx hK => by
  obtain ⟨ri, hvi, hri, hxe⟩ := it_val R.heap R.env hx hi
  obtain ⟨vm, hvm, E, rfl, hC, hl, hr, hbs, hp, hlt⟩ := R.heap.blk mid _ hm
  have hold : ∀ m ∈ E.toList, m.born < since := fun m hm => Nat.lt_of_lt_of_le (hlt m.born (by rw [← hbs]; exact List.mem_map.2 ⟨m, hm, rfl⟩)) hs
  unfold Oper.wp
  rcases run_next_at (P := P) w o.type ri r since c0 seen E clk hri hC hold hsc with ⟨h0, hrun⟩ | ⟨en, hen, w1, hw1, hrun⟩
  · have hrun2 : (execOp a.eval o).run P w = .ok (.value (.tuple #[.bool false])) w := by
      simp only [execOp, ho, hxe]
      simp [hrun]
    rw [hrun2, Oper.upon_value, hdst]
    refine hK ι _ _ _ w (.inl ⟨rfl, rfl, fun b hb => ?_⟩) (R.put hd (.tup _ _ rfl fun i c u h1 h2 => ?_)) ⟨CT.refl _ _ _, fun id _ v r h1 h2 _ => ⟨v, h1, h2⟩⟩ (put_defers _ _ _)
    · rw [← hbs] at hb
      obtain ⟨m, hm, rfl⟩ := List.mem_map.1 hb
      cases hc : seen.contains m.born with
      | true => rfl
      | false =>
        have : m ∈ (leftOf E seen).toList := by
          unfold leftOf
          rw [Array.toList_filter]
          exact List.mem_filter.2 ⟨hm, by rw [hc]; rfl⟩
        rw [Array.eq_empty_of_size_eq_zero h0] at this
        simp at this
    · match i with
      | 0 => simp at h1 h2; subst h1 h2; exact .d _ _ (.sc _ rfl)
      | i + 1 => simp at h1
  · obtain ⟨w', hw'⟩ : ∃ w', setBlock w1 ri (.mapIter (some r) since (seen.push en.born) clk) = w' := ⟨_, rfl⟩
    rw [hw'] at hrun
    have hrun2 : (execOp a.eval o).run P w = .ok (.value (.tuple #[.bool true, en.key, en.val])) w' := by
      simp only [execOp, ho, hxe]
      simp [hrun]
    rw [hrun2, Oper.upon_value, hdst]
    have hmem : en ∈ E.toList ∧ seen.contains en.born = false := by
      unfold leftOf at hen
      rw [Array.toList_filter] at hen
      have := List.mem_filter.1 hen
      exact ⟨this.1, by simpa using this.2⟩
    obtain ⟨j, hj⟩ := List.getElem?_of_mem hmem.1
    have hj2 : E[j]? = some en := by rw [← Array.getElem?_toList]; exact hj
    have hjl : j < es.length := by rw [← hl]; exact (Array.getElem?_eq_some_iff.1 hj2).1
    have h1w : w1.heap = w.heap ∧ w1.os = w.os ∧ w1.tape = w.tape ∧ w1.output = w.output := by rcases hw1 with rfl | rfl <;> exact ⟨rfl, rfl, rfl, rfl⟩
    have hlt' : ri < w.heap.size := (Array.getElem?_eq_some_iff.1 hri).1
    have hW : Wrote w (.pointer (some ⟨ri, 0, none⟩)) w' := by
      rw [← hw']
      refine ⟨h1w.2.1, h1w.2.2.1, h1w.2.2.2, by simp [setBlock, h1w.1], fun q hq hne => ?_⟩
      have : ri ≠ q := by rintro rfl; exact hne rfl
      simp [setBlock, h1w.1, Array.getElem?_setIfInBounds_ne this]
    have hnew : w'.heap[ri]? = some (.mapIter (some r) since (seen.push en.born) clk) := by
      rw [← hw']; simp [setBlock, h1w.1, hlt']
    have hB := (hr j es[j] en (List.getElem?_eq_getElem hjl) hj2)
    refine hK ι _ _ _ w' (.inr ⟨j, es[j], en.born, List.getElem?_eq_getElem hjl, by rw [← hbs, List.getElem?_map, hj]; rfl, hmem.2, rfl, rfl⟩) ⟨R.heap.wrote hW hvi ⟨ri, rfl, hnew⟩, (R.env.mono fun _ _ _ _ hv' => hv'.wrote hW hvi).aput hd R.size (.tup _ _ rfl fun i c u h1 h2 => ?_), by rw [put_defers]; exact R.defers.ext (hW.ext hvi), by rw [put_size]; exact R.size⟩ ⟨⟨hW.os, hW.tape, hW.output, hW.size, fun q hq hne => hW.mem q hq fun hb => hne it (List.contains_iff_mem.1 hT) _ hvi hb⟩, fun id _ v r h1 h2 _ => ⟨v, h1, h2⟩⟩ (put_defers _ _ _)
    match i with
    | 0 => simp at h1 h2; subst h1 h2; exact .d _ _ (.sc _ rfl)
    | 1 => simp at h1 h2; subst h1 h2; exact hB.1.wrote hW hvi
    | 2 => simp at h1 h2; subst h1 h2; exact hB.2.wrote hW hvi
    | i + 3 => simp at h1
theorem O_next {x : Operand} {d it mid r since c0 clk : Nat} {seen : Array Nat} {bs : List Nat} {es : List (AVal × AVal)} (hw : awant ops e o = some true) (hdst : o.dst = some d) (hd : Nat.blt d nt = true) (ho : o.op = .next x false) (hx : aev e x = some (.ptr it 0)) (hi : look h it = some (.it (.mapIter (some r) since seen c0))) (hm : look h mid = some (.mapx r bs clk es))
    (hs : clk ≤ since) (hsc : since ≤ c0) (H0 : (∀ b ∈ bs, seen.contains b = true) → AOps P nt ops Q rest ((d, .tup [.d (.sc (.bool false))]) :: e) h)
    (H1 : ∀ (j : Nat) (p : AVal × AVal) (b : Nat), es[j]? = some p → bs[j]? = some b → seen.contains b = false → AOps P nt ops Q rest ((d, .tup [.d (.sc (.bool true)), p.1, p.2]) :: e) ((it, .it (.mapIter (some r) since (seen.push b) clk)) :: h)) : AOps P nt ops Q (o :: rest) e h :=
  O_eff (T := [it]) hw (E_next (d := some d) ho hdst hx hi hm hs hsc hd (by simp)) fun e' h' hR => by
    rcases hR with ⟨h1, h2, h3⟩ | ⟨j, p, b, h1, h2, h3, h4, h5⟩
    · subst h1 h2; exact H0 h3
    · subst h4 h5; exact H1 j p b h1 h2 h3
theorem R_entry {x : Operand} {it mid r since clk j b : Nat} {seen : Array Nat} {bs : List Nat} {es : List (AVal × AVal)} {p : AVal × AVal} (ho : o.op = .entry x) (hx : aev e x = some (.ptr it 0)) (hi : look h it = some (.it (.mapIter (some r) since (seen.push b) clk))) (hm : look h mid = some (.mapx r bs clk es))
    (hp : es[j]? = some p) (hb : bs[j]? = some b) (hT1 : T.contains it = false) (hT2 : T.contains mid = false) : AYield P T e h o (.tup [p.1, p.2]) := fun Pm F w0 pin ι a w H E => by
  obtain ⟨ri, hvi, hri, hxe⟩ := it_val H E hx hi
  obtain ⟨vm, hvm, Ar, rfl, hC, hl, hr, hbs, hpw, hlt⟩ := H.blk mid _ hm
  have hj : j < Ar.size := by rw [hl]; exact (List.getElem?_eq_some_iff.1 hp).1
  have hj2 : Ar[j]? = some Ar[j] := Array.getElem?_eq_getElem hj
  have hborn : Ar[j].born = b := by
    rw [← hbs, List.getElem?_map, Array.getElem?_toList, hj2] at hb
    simpa using hb
  have hB := hr j p _ hp hj2
  refine ⟨.tuple #[Ar[j].key, Ar[j].val], .tup _ _ rfl fun i c u h1 h2 => ?_, fun w' hw' => ?_⟩
  · match i with
    | 0 => simp at h1 h2; subst h1 h2; exact hB.1
    | 1 => simp at h1 h2; subst h1 h2; exact hB.2
    | i + 2 => simp at h1
  · have keep : ∀ (id : Nat) (v : Value) (q : Nat), ι id = some v → blockOf v = some q → T.contains id = false → w'.heap[q]? = w.heap[q]? := fun id v q hv hq hn => hw'.mem q (H.lt hv hq) fun id2 h2 v2 hv2 hb2 => by
      have hne : id2 ≠ id := by rintro rfl; rw [List.contains_iff_mem.2 h2] at hn; cases hn
      exact H.inj id2 id v2 v q hne hv2 hv hb2 hq
    have g1 : w'.heap[ri]? = some (.mapIter (some r) since (seen.push Ar[j].born) clk) := by rw [keep it _ ri hvi rfl hT1, hborn]; exact hri
    have g2 : w'.heap[r]? = some (.map Ar clk) := by rw [keep mid _ r hvm rfl hT2]; exact hC
    have hnd : (Ar.toList.map (·.born)).Nodup := by rw [hbs]; exact hpw.imp fun h => Nat.ne_of_lt h
    have := run_entry_at (P := P) w' ri r since seen Ar clk Ar[j] g1 g2 (by simp) hnd
    simp only [execOp, ho, hxe]
    simp [this]

theorem E_callF {f : FuncId} {x : Operand} {caps : List AVal} {args : Array Operand} {ats : Array TypeId} {cs : List AVal} {d : Option Tmp} {c : AVal} (ho : o.op = .call { callee := .value x, args := args, argTypes := ats }) (hdst : o.dst = d) (hf : aev e x = some (.fn f caps)) (hx : aevs e args.toList = some cs)
    (H : ACall P f (cs ++ caps) [] (fun c' h' => c' = c ∧ h' = [])) (hd : dstOk nt d = true) (hc : ∀ j, c.has j = false) : AEff P nt T e h o (fun e' h' => e' = aput d c e ∧ h' = h) := fun Pm F w0 pin ι a w R K Qx hK => by
  have hfv := aev_rel R.env hf
  generalize hau : a.eval x = u at hfv
  cases hfv with
  | fn _ _ C hl hh =>
    unfold Oper.wp
    rw [run_callV H.1 ho hau, Oper.upon_enter, hdst]
    have hF : ∀ r, Fc F ι r → r < w.heap.size := fun r hr => hr.elim (fun h1 => Nat.lt_of_lt_of_le (R.heap.forb r h1) R.heap.size) fun ⟨id, v, h1, h2⟩ => R.heap.lt h1 h2
    have hA := args_of R.env hx
    have hA2 : ArgsRel w F ι (cs ++ caps) (args.map a.eval ++ C) := by
      refine ⟨by simp [hl]; exact by simpa using hA.1, fun i c u h1 h2 => ?_⟩
      have hAl : (args.map a.eval).size = cs.length := hA.1
      by_cases hi : i < cs.length
      · rw [List.getElem?_append_left hi] at h1
        rw [Array.getElem?_append_left (by omega)] at h2
        exact hA.2 i c u h1 h2
      · rw [List.getElem?_append_right (by omega)] at h1
        rw [Array.getElem?_append_right (by omega), hAl] at h2
        exact hh (i - cs.length) c u h1 h2
    refine (H.2 _ _ w _ _ _ w (HRel.none (Fc F ι) w hF) (args_c hA2)).mono ?_
    rintro y w' ⟨u, c', h', ι', rfl, ⟨rfl, rfl⟩, hH, hv⟩
    obtain ⟨ι2, hR, hC⟩ := R.called (T := T) hH hv (by rfl) (fun _ _ _ h => (by cases h)) (fun j hj => by rw [hc] at hj; cases hj) hd
    rw [List.map_nil, killEs_nil, killHs_nil, List.nil_append] at hR
    exact hK _ _ _ _ _ ⟨rfl, rfl⟩ hR hC (put_defers _ _ _)
theorem O_cF {f : FuncId} {x : Operand} {caps : List AVal} {args : Array Operand} {ats : Array TypeId} {cs : List AVal} {d : Nat} {c : AVal} (hw : awant ops e o = some true) (hdst : o.dst = some d) (hd : Nat.blt d nt = true) (ho : o.op = .call { callee := .value x, args := args, argTypes := ats }) (hf : aev e x = some (.fn f caps)) (hx : aevs e args.toList = some cs)
    (H : ACall P f (cs ++ caps) [] (fun c' h' => c' = c ∧ h' = [])) (hc : ∀ j, c.has j = false) (HK : AOps P nt ops Q rest ((d, c) :: e) h) : AOps P nt ops Q (o :: rest) e h :=
  O_eff (T := []) hw (E_callF (d := some d) ho hdst hf hx H hd hc) fun e' h' ⟨h1, h2⟩ => by subst h1 h2; exact HK
end
end Go.Proofs.Ytnnclkeoakjjkaa.Ab

namespace Go.Proofs.Ytnnclkeoakjjkaa.Ab
set_option linter.unusedVariables false
open Go.RowKit
def fn0 (f : FuncId) : AVal := .d (.sc (.func (.func f) #[] #[]))
section
variable {P : Program} {nt : Nat} {Q : Post} {e : Env} {h : Heap} {ops : Array Oper} {o : Oper} {rest : List Oper} {T : List Nat} {tab : TTab} {fuel i : Nat} {listed : Array Bool}
theorem Y_fn0 {f : FuncId} (ho : o.op = .makeFunc (.func f) #[] #[]) : AYield P T e h o (fn0 f) := yield_of _ fun w F ι a E =>
  ⟨.func (.func f) #[] #[], .d _ _ (.sc _ rfl), fun w' => by simp [execOp, ho, Instr.makeFunc]⟩
theorem E_callFd {f : FuncId} {x : Operand} {args : Array Operand} {ats : Array TypeId} {cs : List AVal} {d : Option Tmp} {c : AVal} (ho : o.op = .call { callee := .value x, args := args, argTypes := ats }) (hdst : o.dst = d) (hf : aev e x = some (fn0 f)) (hx : aevs e args.toList = some cs)
    (H : ACall P f cs [] (fun c' h' => c' = c ∧ h' = [])) (hd : dstOk nt d = true) (hc : ∀ j, c.has j = false) : AEff P nt T e h o (fun e' h' => e' = aput d c e ∧ h' = h) := fun Pm F w0 pin ι a w R K Qx hK => by
  have hfv := aev_rel R.env hf
  have hau : a.eval x = .func (.func f) #[] #[] := (sc_of hfv).1
  unfold Oper.wp
  rw [run_callV H.1 ho hau, Oper.upon_enter, hdst]
  have hF : ∀ r, Fc F ι r → r < w.heap.size := fun r hr => hr.elim (fun h1 => Nat.lt_of_lt_of_le (R.heap.forb r h1) R.heap.size) fun ⟨id, v, h1, h2⟩ => R.heap.lt h1 h2
  have hA := args_of R.env hx
  have hA2 : ArgsRel w F ι cs (args.map a.eval ++ #[]) := by simpa using hA
  refine (H.2 _ _ w _ _ _ w (HRel.none (Fc F ι) w hF) (args_c hA2)).mono ?_
  rintro y w' ⟨u, c', h', ι', rfl, ⟨rfl, rfl⟩, hH, hv⟩
  obtain ⟨ι2, hR, hC⟩ := R.called (T := T) hH hv (by rfl) (fun _ _ _ h => (by cases h)) (fun j hj => by rw [hc] at hj; cases hj) hd
  rw [List.map_nil, killEs_nil, killHs_nil, List.nil_append] at hR
  exact hK _ _ _ _ _ ⟨rfl, rfl⟩ hR hC (put_defers _ _ _)
theorem O_cFd {f : FuncId} {x : Operand} {args : Array Operand} {ats : Array TypeId} {cs : List AVal} {d : Nat} {c : AVal} (hw : awant ops e o = some true) (hdst : o.dst = some d) (hd : Nat.blt d nt = true) (ho : o.op = .call { callee := .value x, args := args, argTypes := ats }) (hf : aev e x = some (fn0 f)) (hx : aevs e args.toList = some cs)
    (H : ACall P f cs [] (fun c' h' => c' = c ∧ h' = [])) (hc : ∀ j, c.has j = false) (HK : AOps P nt ops Q rest ((d, c) :: e) h) : AOps P nt ops Q (o :: rest) e h :=
  O_eff (T := []) hw (E_callFd (d := some d) ho hdst hf hx H hd hc) fun e' h' ⟨h1, h2⟩ => by subst h1 h2; exact HK
theorem T_cFd {f : FuncId} {x : Operand} {args : Array Operand} {ats : Array TypeId} {cs : List AVal} {d : Nat} {c : AVal} (hi : ops[i]? = some o) (hw : awant ops e o = some true) (hdst : o.dst = some d) (hd : Nat.blt d nt = true) (ho : o.op = .call { callee := .value x, args := args, argTypes := ats }) (hf : aev e x = some (fn0 f)) (hx : aevs e args.toList = some cs)
    (H : ACall P f cs [] (fun c' h' => c' = c ∧ h' = [])) (hc : ∀ j, c.has j = false) (HK : AAny P nt ops Q T fuel (listed.setIfInBounds i true) ((d, c) :: e) h) : AAt P nt ops Q T fuel listed i e h :=
  T_eff hi hw (E_callFd (d := some d) ho hdst hf hx H hd hc) fun e' h' ⟨h1, h2⟩ => by subst h1 h2; exact HK
end
end Go.Proofs.Ytnnclkeoakjjkaa.Ab

namespace Go.Proofs.Ytnnclkeoakjjkaa.Ab
set_option linter.unusedVariables false
open Go.RowKit
section
variable {P : Program} {nt : Nat} {Q : Post} {e : Env} {h : Heap} {ops : Array Oper} {o : Oper} {rest : List Oper} {T : List Nat} {tab : TTab}
variable {κ ν : Type} [DecidableEq κ] {ek : κ → Value} {ok : κ → Prop} {ka : κ → AVal} {xa : ν → AVal}
theorem R_lkOutA {t K E id : Nat} {x y : Operand} {k : κ} {l : List (κ × ν)} {zv : Value} (c0 : AVal) (hc0 : ∀ w F ι, VRel w F ι c0 zv) (law : KeyLaw P K ek ok) (hka : ∀ k, valA (ka k) = some (ek k)) (hz : ∀ W, (zeroValue E).run P W = .ok zv W) (hk : ok k) (hl : ∀ p ∈ l, ok p.1) (hn : (l.map (·.1)).Nodup) (hg : aget l k = none)
    (TO : TabOk P tab) (ho : o.op = .lookup t x y true) (ht : tmap tab t = some (K, E)) (hx : aev e x = some (.mp id)) (hb : look h id = some (.map (ents ka xa l))) (hT : T.contains id = false) (hy : aev e y = some (ka k)) : AYield P T e h o (.tup [c0, .d (.sc (.bool false))]) := fun Pm F w0 pin ι a w H Er => by
  obtain ⟨te, ht, hs⟩ := tmap_spec ht
  obtain ⟨v, hv, hB⟩ := H.blk id _ hb
  obtain ⟨B, m, rfl, hm, hbes⟩ := map_is hka hn hB
  obtain ⟨d, hd, _, hh⟩ := (TO t te ht).und
  rw [hs] at hh
  cases hh
  have hxv := aev_rel Er hx
  have hkv := valA_rel (aev_rel Er hy) (hka k)
  have h1 := (hbes.aget k).2 hg
  have hxe := mp_eq hxv hv
  refine ⟨.tuple #[zv, .bool false], .tup _ _ rfl fun i c uu hi hu => ?_, fun w' hw' => ?_⟩
  · match i, hi, hu with
    | 0, hi, hu => cases hi; cases hu; exact hc0 _ _ _
    | 1, hi, hu => cases hi; cases hu; exact sc_rel rfl
  · have hm' := mapIs_same hm (ct_same H hw' hv rfl hT)
    have := hm'.lookup_ok law hd hz hk (fun p hp => by
      have : p.1 ∈ m.map (·.1) := List.mem_map.2 ⟨p, hp, rfl⟩
      rw [hbes.keys] at this
      obtain ⟨q, hq, he⟩ := List.mem_map.1 this
      rw [← he]; exact hl q hq)
    rw [h1] at this
    simp only [execOp, ho, hxe, hkv]
    simp only [Sem.run_bind, this]
    rfl
theorem O_upd {t K E id : Nat} {x y z : Operand} {k : κ} {l : List (κ × ν)} {q : ν} (law : KeyLaw P K ek ok) (hka : ∀ k, valA (ka k) = some (ek k)) (hkv : ∀ k w F ι, VRel w F ι (ka k) (ek k)) (hk : ok k) (hl : ∀ p ∈ l, ok p.1) (hn : (l.map (·.1)).Nodup)
    (TO : TabOk P tab) (hw : awant ops e o = some true) (hdst : o.dst = none) (ho : o.op = .mapUpdate t x y z) (ht : tmap tab t = some (K, E)) (hx : aev e x = some (.mp id)) (hb : look h id = some (.map (ents ka xa l))) (hy : aev e y = some (ka k)) (hq : aev e z = some (xa q))
    (HK : AOps P nt ops Q rest e ((id, .map (ents ka xa (Go.Proofs.Ytnnclkeoakjjkaa.aput l k q))) :: h)) : AOps P nt ops Q (o :: rest) e h := by
  obtain ⟨te, h1, h2⟩ := tmap_spec ht
  exact O_eff (T := [id]) hw (E_mapUpdate TO law hka hkv ho hdst h1 h2 hx hb hy hq hk hl hn rfl (by simp)) fun e' h' ⟨h3, h4⟩ => by subst h3 h4; exact HK
end
end Go.Proofs.Ytnnclkeoakjjkaa.Ab

namespace Go.Proofs.Ytnnclkeoakjjkaa.Ab
set_option linter.unusedVariables false
set_option maxRecDepth 100000
open Go.RowKit Go.Lib
set_option linter.unusedSimpArgs false
attribute [local irreducible] AWp AOps AQ AYield AEff ACall AWk AAny AAt AThen AIn APost NoPanic
theorem look_one' {a b p i : Nat} (h : look [(a, b)] p = some i) : p = a ∧ i = b := by
  by_cases h1 : a = p
  · subst h1; rw [look_cons_same] at h; cases h; exact ⟨rfl, rfl⟩
  · rw [look_cons_ne _ _ h1] at h; cases h
theorem ordR_srt (l : List Rte) : dedA (srt ordR l) = sortU ordR l := rfl
theorem sort_R (l : List Rte) (hl : l.length ≤ 2147483648) : ACall Try.prog 27 [rtesA l] [] (fun c h => c = .row 5 ∧ h = [(5, rteB (sortU ordR l))]) := by
  have h1 := clone_A l hl
  have h2 := sortR_A l hl
  have h3 := compact_A (srt ordR l) (by rw [srt_len]; exact hl)
  refine ACall_of tabOk Try.func27 rfl Try.ntmps27 (congrArg Array.toList Try.results27) (by kernel_rfl) rfl ?_
  repeat (first | refine A_seq ?_ | refine A_block ?_ | refine R_list ?_ | refine R_quiet rfl mixed (by kernel_rfl) ?_ | ((first | apply O_y rfl rfl rfl | apply Q_y rfl rfl rfl); (first | exact q_1 | exact q_2 | exact q_3 | exact q_4 | exact q_5 | exact q_6 | exact q_7 | exact q_8 | exact q_9 | exact q_10 | exact q_11 | exact q_12 | exact q_13 | exact q_14 | exact q_15 | exact q_16 | exact q_17 | exact q_18 | exact q_19 | exact q_20 | exact q_21 | exact q_22 | exact q_23 | exact q_24 | fail)) | refine O_nil ?_ | refine Q_nil ?_ | refine q_j ?_ | refine q_k ?_ | refine q_d ?_ | refine q_a ?_ | refine q_b ?_ | refine q_c ?_ | refine A_ct rfl ?_ | refine A_cf rfl ?_ | refine A_skip ?_ | refine A_exit ?_ | refine A_ret ?_ | refine q_l ?_ | refine q_m ?_ | refine q_n ?_ | refine q_h ?_ | refine q_o ?_ | refine q_e ?_ | refine q_f ?_ | refine q_g ?_ | fail)
  refine O_cRow rfl rfl rfl rfl rfl h1 rfl ?_
  repeat (first | refine A_seq ?_ | refine A_block ?_ | refine R_list ?_ | refine R_quiet rfl mixed (by kernel_rfl) ?_ | ((first | apply O_y rfl rfl rfl | apply Q_y rfl rfl rfl); (first | exact q_1 | exact q_2 | exact q_3 | exact q_4 | exact q_5 | exact q_6 | exact q_7 | exact q_8 | exact q_9 | exact q_10 | exact q_11 | exact q_12 | exact q_13 | exact q_14 | exact q_15 | exact q_16 | exact q_17 | exact q_18 | exact q_19 | exact q_20 | exact q_21 | exact q_22 | exact q_23 | exact q_24 | fail)) | refine O_nil ?_ | refine Q_nil ?_ | refine q_j ?_ | refine q_k ?_ | refine q_d ?_ | refine q_a ?_ | refine q_b ?_ | refine q_c ?_ | refine A_ct rfl ?_ | refine A_cf rfl ?_ | refine A_skip ?_ | refine A_exit ?_ | refine A_ret ?_ | refine q_l ?_ | refine q_m ?_ | refine q_n ?_ | refine q_h ?_ | refine q_o ?_ | refine q_e ?_ | refine q_f ?_ | refine q_g ?_ | fail)
  refine O_cP [(1000, 5)] (fun p p' i h1 h2 => by rw [(look_one' h1).1, (look_one' h2).1]) (fun p i h1 => by rw [(look_one' h1).1]; exact ⟨Nat.le_refl _, rfl, rfl⟩) h2 (fun c hc => by simp at hc; rcases hc with rfl | rfl <;> rfl) ⟨⟨5, _, rfl, rfl, rfl, trivial⟩, trivial⟩ rfl rfl rfl rfl rfl rfl ?_
  repeat (first | refine A_seq ?_ | refine A_block ?_ | refine R_list ?_ | refine R_quiet rfl mixed (by kernel_rfl) ?_ | ((first | apply O_y rfl rfl rfl | apply Q_y rfl rfl rfl); (first | exact q_1 | exact q_2 | exact q_3 | exact q_4 | exact q_5 | exact q_6 | exact q_7 | exact q_8 | exact q_9 | exact q_10 | exact q_11 | exact q_12 | exact q_13 | exact q_14 | exact q_15 | exact q_16 | exact q_17 | exact q_18 | exact q_19 | exact q_20 | exact q_21 | exact q_22 | exact q_23 | exact q_24 | fail)) | refine O_nil ?_ | refine Q_nil ?_ | refine q_j ?_ | refine q_k ?_ | refine q_d ?_ | refine q_a ?_ | refine q_b ?_ | refine q_c ?_ | refine A_ct rfl ?_ | refine A_cf rfl ?_ | refine A_skip ?_ | refine A_exit ?_ | refine A_ret ?_ | refine q_l ?_ | refine q_m ?_ | refine q_n ?_ | refine q_h ?_ | refine q_o ?_ | refine q_e ?_ | refine q_f ?_ | refine q_g ?_ | fail)
  refine O_cM rfl rfl rfl rfl rfl h3 rfl (fun c hc => by simp at hc; subst hc; rfl) rfl rfl ?_
  repeat (first | refine A_seq ?_ | refine A_block ?_ | refine R_list ?_ | refine R_quiet rfl mixed (by kernel_rfl) ?_ | ((first | apply O_y rfl rfl rfl | apply Q_y rfl rfl rfl); (first | exact q_1 | exact q_2 | exact q_3 | exact q_4 | exact q_5 | exact q_6 | exact q_7 | exact q_8 | exact q_9 | exact q_10 | exact q_11 | exact q_12 | exact q_13 | exact q_14 | exact q_15 | exact q_16 | exact q_17 | exact q_18 | exact q_19 | exact q_20 | exact q_21 | exact q_22 | exact q_23 | exact q_24 | fail)) | refine O_nil ?_ | refine Q_nil ?_ | refine q_j ?_ | refine q_k ?_ | refine q_d ?_ | refine q_a ?_ | refine q_b ?_ | refine q_c ?_ | refine A_ct rfl ?_ | refine A_cf rfl ?_ | refine A_skip ?_ | refine A_exit ?_ | refine A_ret ?_ | refine q_l ?_ | refine q_m ?_ | refine q_n ?_ | refine q_h ?_ | refine q_o ?_ | refine q_e ?_ | refine q_f ?_ | refine q_g ?_ | fail)
  exact X_retW AWk.refl rfl (h2 := [(5, rteB (sortU ordR l))]) ⟨rfl, trivial⟩ ⟨rfl, rfl⟩
def rteB1 (r : Rte) : ABlk := .var ((rteD r).map AVal.d)
end Go.Proofs.Ytnnclkeoakjjkaa.Ab

namespace Go.Proofs.Ytnnclkeoakjjkaa.Ab
set_option linter.unusedVariables false
set_option maxRecDepth 100000
open Go.RowKit Go.Lib
set_option linter.unusedSimpArgs false
attribute [local irreducible] AWp AOps AQ AYield AEff ACall AWk AAny AAt AThen AIn APost NoPanic
def rte0 : Rte := ⟨⟨0, 0⟩, 0, 0, 0, 0, [], 0, false⟩
theorem rteA_val (r : Rte) : valA (rteA r) = some (.agg (rteV r).toArray) := rfl
theorem rteA_rel (w : World) (F : Nat → Prop) (ι : Nat → Option Value) (r : Rte) : VRel w F ι (rteA r) (.agg (rteV r).toArray) := val_mk _ _ _ _ _ rfl rfl
theorem zeroRte (W : World) : (zeroValue 28).run Try.prog W = .ok (.agg (rteV rte0).toArray) W := by
  have h : tlook tab 28 = some _ := rfl
  obtain ⟨z, h1, h2, i, h3, h4, _⟩ := (tabOk _ _ h).zero W
  have h5 : (Try.prog.info? 28).bind (·.zero) = some (.agg (rteV rte0).toArray) := by kernel_rfl
  rw [h3] at h5
  simp only [Option.bind_some] at h5
  rw [h4] at h5
  cases h5
  exact h1
def bestB (l : List (Pfx × Rte)) : ABlk := .map (ents pfxA rteA l)
theorem kill_best (id : Nat) (l : List (Pfx × Rte)) : some (killB id (bestB l)) = some (bestB l) := by
  show some (ABlk.map ((l.map fun p => (pfxA p.1, rteA p.2)).map fun p => (killV id p.1, killV id p.2))) = _
  rw [List.map_map]
  rfl
theorem kill_best2 (i j : Nat) (l : List (Pfx × Rte)) : some (killB i (killB j (bestB l))) = some (bestB l) := by
  rw [Option.some.inj (kill_best j l)]; exact kill_best i l
theorem kill_best3 (i j m : Nat) (l : List (Pfx × Rte)) : some (killB i (killB j (killB m (bestB l)))) = some (bestB l) := by
  rw [Option.some.inj (kill_best m l)]; exact kill_best2 i j l
theorem take_snoc {α : Type} (l : List α) (k : Nat) (h : k < l.length) : l.take (k + 1) = l.take k ++ [l[k]] := List.take_succ_eq_append_getElem h
theorem filter_takeR (p : Rte → Bool) (l : List Rte) (k : Nat) (h : k < l.length) : (l.take (k + 1)).filter p = (l.take k).filter p ++ (if p l[k] then [l[k]] else []) := by
  rw [take_snoc l k h, List.filter_append]
  congr 1
  cases hp : p l[k] <;> simp [hp]
def okR (r : Rte) : Prop := (0 ≤ r.f ∧ r.f < 256) ∧ r.p.ok
end Go.Proofs.Ytnnclkeoakjjkaa.Ab

namespace Go.Proofs.Ytnnclkeoakjjkaa.Ab
set_option linter.unusedVariables false
open Go.RowKit
section
variable {P : Program} {nt : Nat} {Q : Post} {e : Env} {h : Heap} {ops : Array Oper} {o : Oper} {rest : List Oper} {T : List Nat} {tab : TTab} {fuel i : Nat} {listed : Array Bool}
theorem E_appendD {t el : TypeId} {te te' : TE} {d : Option Tmp} {x y : Operand} {n m : Nat} {cy : AVal} {cs ds : List Dat} (TO : TabOk P tab) (ho : o.op = .call { callee := .builtin .append, args := #[x, y], argTypes := #[t, t] }) (hdst : o.dst = d)
    (ht : tlook tab t = some te) (hs : te.sh = .sl el) (hel : tlook tab el = some te') (hk : Nat.blt 0 te'.size = true) (hk2 : Nat.beq te'.zero.length te'.size = true) (hb : Nat.ble te'.bytes 65536 = true)
    (hx : aev e x = some (.full cs n)) (hcs : cs.length = n * te'.size) (hy : aev e y = some cy) (S : Src h cy m ds) (hm : 0 < m) (hl : ds.length = m * te'.size) (hn : n + m ≤ 2147483648) (hd : dstOk nt d = true) :
    AEff P nt T e h o (fun e' h' => e' = aput d (.d (.sl (cs ++ ds) (n + m))) e ∧ h' = h) := fun Pm F w0 pin ι a w R K Qx hK => by
  have hk' : 0 < te'.size := by simp [Nat.blt] at hk; omega
  obtain ⟨news, hnl, hnr, hsrc⟩ := S.cells R.heap (aev_rel R.env hy)
  have hone : ∀ u ∈ news, u.oneCell' = true := fun u hu => by
    obtain ⟨i, hi⟩ := List.mem_iff_getElem?.1 hu
    have hlt : i < ds.length := by rw [← hnl]; exact (List.getElem?_eq_some_iff.1 hi).1
    exact (hnr i ds[i] u (List.getElem?_eq_getElem hlt) hi).one
  have hsrc' : ∃ b o' c', a.eval y = .slice (some ⟨b, o', none⟩) m c' ∧ ∀ (j : Nat) (x : Value), news[j]? = some x → w.cell? ⟨b, o' + j, none⟩ = some x := by
    rcases hsrc with ⟨_, h2, _⟩ | h1
    · omega
    · exact h1
  have hxv := aev_rel R.env hx
  obtain ⟨ux, hux⟩ : ∃ ux, a.eval x = ux := ⟨_, rfl⟩
  rw [hux] at hxv
  cases hxv with
  | full _ _ b hD =>
  obtain ⟨olds, hol, hor, hold⟩ : ∃ olds : List Value, olds.length = cs.length ∧ (∀ (i : Nat) (c : Dat) (u : Value), cs[i]? = some c → olds[i]? = some u → DRel w (FreeB F ι) c u) ∧ ((b = none ∧ n = 0) ∨ ∃ g o, b = some ⟨g, o, none⟩ ∧ ∀ (j : Nat) (x : Value), olds[j]? = some x → w.cell? ⟨g, o + j, none⟩ = some x) := by
    cases hD with
    | nil => exact ⟨[], rfl, by simp, .inl ⟨rfl, rfl⟩⟩
    | sl _ _ b o cap vs hn hl hf hc hr => exact ⟨vs, hl, hr, .inr ⟨b, o, rfl, hc⟩⟩
  obtain ⟨v', w', hr, hown', hg⟩ := run_appF (P := P) (ty := o.type) w (TO t te ht) hs (TO el te' hel) hk' (Nat.eq_of_beq_eq_true hk2) b n olds (by rw [hol, hcs]) hold (a.eval y) m news hm (by rw [hnl, hl]) hsrc' hone hn (Nat.le_of_ble_eq_true hb)
  have G : Grew w w' := ⟨hg.os, hg.tape, hg.output, hg.size, fun r hr1 => hg.block r hr1 (by simp)⟩
  have hrun : (execOp a.eval o).run P w = .ok (.value v') w' := by
    simp [execOp, ho, resolve, invoke, builtin, hux, hr]
  have hDR : DRel w' (FreeB F ι) (.sl (cs ++ ds) (n + m)) v' := by
    rcases hown'.2 with ⟨_, h0⟩ | ⟨g, cap, cur, rfl, hge, hg2, hnc, _⟩
    · omega
    · refine .sl _ _ g 0 cap (olds ++ news) hnc (by simp [hol, hnl]) (fun _ => ⟨fun hF => ?_, fun id v hv hb2 => ?_⟩) (fun i u hu => ?_) fun i c u h1 h2 => ?_
      · have := R.heap.forb g hF
        have := R.heap.size
        omega
      · have := R.heap.lt hv hb2
        omega
      · have := hown'.cells (g := g) rfl i u hu
        rwa [Addr.add_mid] at this
      · rw [List.getElem?_append] at h1 h2
        rw [hol] at h2
        split at h1
        · rename_i hlt; rw [if_pos hlt] at h2; exact (hor _ _ _ h1 h2).ext (fun r hr _ => G.mem r hr) fun _ _ hf => hf
        · rename_i hlt; rw [if_neg hlt] at h2; exact (hnr _ _ _ h1 h2).ext (fun r hr _ => G.mem r hr) fun _ _ hf => hf
  unfold Oper.wp
  rw [hrun, Oper.upon_value, hdst]
  exact hK ι _ _ _ w' ⟨rfl, rfl⟩ ((R.grew G).put hd (.d _ _ hDR)) ⟨G.ct T, fun id _ v r h1 h2 _ => ⟨v, h1, h2⟩⟩ (put_defers _ _ _)
theorem T_appD {t el k n m d : Nat} {x y : Operand} {cy : AVal} {cs ds : List Dat} (TO : TabOk P tab) (hi : ops[i]? = some o) (hw : awant ops e o = some true) (hdst : o.dst = some d) (hd : Nat.blt d nt = true) (ho : o.op = .call { callee := .builtin .append, args := #[x, y], argTypes := #[t, t] })
    (hel : telem tab t = some el) (hsz : tsize tab el = some k) (hok : (match tlook tab el with | some te => Nat.blt 0 te.size && Nat.beq te.zero.length te.size && Nat.ble te.bytes 65536 | none => false) = true)
    (hx : aev e x = some (.full cs n)) (hy : aev e y = some cy) (S : Src h cy m ds) (hcs : cs.length = n * k) (hm : 0 < m) (hl : ds.length = m * k) (hn : n + m ≤ 2147483648)
    (HK : AAny P nt ops Q T fuel (listed.setIfInBounds i true) ((d, .d (.sl (cs ++ ds) (n + m))) :: e) h) : AAt P nt ops Q T fuel listed i e h := by
  obtain ⟨te, h1, h2⟩ := telem_spec hel
  obtain ⟨te', h3, rfl⟩ := tsize_spec hsz
  rw [h3] at hok
  simp only [Bool.and_eq_true] at hok
  exact T_eff hi hw (E_appendD TO ho hdst h1 h2 h3 hok.1.1 hok.1.2 hok.2 hx hcs hy S hm hl hn hd) fun e' h' ⟨h4, h5⟩ => by subst h4 h5; exact HK
theorem O_appD {t el k n m d : Nat} {x y : Operand} {cy : AVal} {cs ds : List Dat} (TO : TabOk P tab) (hw : awant ops e o = some true) (hdst : o.dst = some d) (hd : Nat.blt d nt = true) (ho : o.op = .call { callee := .builtin .append, args := #[x, y], argTypes := #[t, t] })
    (hel : telem tab t = some el) (hsz : tsize tab el = some k) (hok : (match tlook tab el with | some te => Nat.blt 0 te.size && Nat.beq te.zero.length te.size && Nat.ble te.bytes 65536 | none => false) = true)
    (hx : aev e x = some (.full cs n)) (hy : aev e y = some cy) (S : Src h cy m ds) (hcs : cs.length = n * k) (hm : 0 < m) (hl : ds.length = m * k) (hn : n + m ≤ 2147483648)
    (HK : AOps P nt ops Q rest ((d, .d (.sl (cs ++ ds) (n + m))) :: e) h) : AOps P nt ops Q (o :: rest) e h := by
  obtain ⟨te, h1, h2⟩ := telem_spec hel
  obtain ⟨te', h3, rfl⟩ := tsize_spec hsz
  rw [h3] at hok
  simp only [Bool.and_eq_true] at hok
  exact O_eff (T := []) hw (E_appendD TO ho hdst h1 h2 h3 hok.1.1 hok.1.2 hok.2 hx hcs hy S hm hl hn hd) fun e' h' ⟨h4, h5⟩ => by subst h4 h5; exact HK
end
end Go.Proofs.Ytnnclkeoakjjkaa.Ab

/-
  Texts of a proof, one behind the other (part 22).
-/
import Derived.Test.YtmljmahlpcdhoaaPn1
import Derived.Test.YtmljmahlpcdhoaaPn2
import Derived.Test.YtmljmahlpcdhoaaPn4
import Derived.Test.YtmljmahlpcdhoaaPn17
import Derived.Test.YtmljmahlpcdhoaaPn19
import Derived.Test.YtmljmahlpcdhoaaPn20
set_option linter.unusedVariables false
set_option linter.unusedSimpArgs false
namespace Go.Proofs.Ytmljmahlpcdhoaa
set_option linter.unusedVariables false
set_option maxRecDepth 100000
open Go.RowKit Go.Lib Go.Shelf
def cI (x y : Int) : Int := x - y
def nrm (l : List Int) : List Int := sortU cI l
theorem nrm_eq (l : List Int) : dedA (l.mergeSort fun x y => decide (x ≤ y)) = nrm l := by
  unfold nrm sortU srt
  congr 2
  funext x y
  unfold cI
  rw [Bool.eq_iff_iff]; simp only [decide_eq_true_eq, Bool.not_eq_true', decide_eq_false_iff_not]; omega
theorem nrm_len (l : List Int) : (nrm l).length ≤ l.length := sortU_len l
namespace Ab
theorem u1_len (l : List Int) : (l.flatMap u1D).length = l.length := by rw [flat_len u1D_len, Nat.mul_one]
theorem uB_eq (l : List Int) : uR l.toArray = uB l := by
  unfold uR uB
  rw [List.size_toArray]
  congr 1
  induction l with
  | nil => rfl
  | cons x r ih => simp only [List.toList_toArray, List.map_cons, List.flatMap_cons] at ih ⊢; rw [ih]; rfl
theorem msort_eq (l : List Int) : uR (Go.Sort.sort Go.Sort.ltInt l.toArray) = uB (l.mergeSort fun x y => decide (x ≤ y)) := by
  rw [← uB_eq, ← Go.Sort.sortInt l, Array.toArray_toList]
theorem grow_A (n : Nat) (hn : n ≤ 2147483648) : ACall Try.prog 64 [.d (.sc (.slice none 0 0)), .d (.sc (.int .i64 (n : Int)))] [] (fun c h => c = .row 5 ∧ h = [(5, uB [])]) := by
  refine ⟨by kernel_rfl, fun Pm F w0 pin ι us w H HA => ?_⟩
  have hus : us = #[.slice none 0 0, .int .i64 (n : Int)] := by
    have h2 : VRel w F ι (.agg [.d (.sc (.slice none 0 0)), .d (.sc (.int .i64 (n : Int)))]) (.agg us) := .agg _ us HA.1 HA.2
    have h4 := valA_rel h2 (v := .agg #[.slice none 0 0, .int .i64 (n : Int)]) rfl
    injection h4
  subst hus
  have R0 : Rel Pm F w0 pin ι 1 [(0, .d (.sc (.slice none 0 0)))] [] { tmps := #[.slice none 0 0], defers := [] } w := by
    refine ⟨H, fun t c ht => ?_, MkOk.nil, by simp⟩
    by_cases h0 : 0 = t
    · subst h0
      rw [look_cons_same] at ht
      cases ht
      exact ⟨_, rfl, sc_rel rfl⟩
    · rw [look_cons_ne _ _ h0] at ht; cases ht
  by_cases h0 : n = 0
  · subst h0
    refine (Any8.slices_Grow_room Try.laysGrow none 0 0 0 w (Nat.le_refl _) (by omega) (by omega) (by omega)).mono ?_
    rintro x w' ⟨rfl, rfl⟩
    obtain ⟨ι', R1⟩ := Wk_nil 43 1 (nt := 1) (e := [(0, .d (.sc (.slice none 0 0)))]) (h := []) (t := 0) (id := 5) rfl rfl _ _ _ _ _ _ _ R0
    obtain ⟨u, hu1, hu2⟩ := R1.env 0 _ rfl
    cases hu1
    exact ⟨_, .row 5, _, ι', rfl, ⟨rfl, rfl⟩, R1.heap, hu2⟩
  · obtain ⟨te, hte⟩ : ∃ te, tlook tab 43 = some te := ⟨_, rfl⟩
    obtain ⟨z, hz1, hz2, i, hi1, hi2, hi3, hi4⟩ := (tabOk _ _ hte).zero w
    have hsz : te.size = 1 := by cases hte; rfl
    have hbt : te.bytes = 4 := by cases hte; rfl
    refine (Any8.slices_Grow_grow Try.laysGrow i z hi1 hi2 (by rw [hi3, hsz]; decide) none 0 0 n [] w (Nat.le_refl _) (by omega) (by rw [hi4, hbt]; omega) (by omega) (by simp) (fun _ => rfl) (fun a h => by cases h)).mono ?_
    rintro x w' ⟨rfl, rfl⟩
    have hg1 := grownCap_le_maxLen w (0 + n) 0 43 (by unfold maxLen; omega)
    have hg2 := grownCap_ge w (0 + n) 0 43
    obtain ⟨cap, hcap⟩ : ∃ cap, grownCap w (0 + n) 0 43 = cap := ⟨_, rfl⟩
    have hcap' : grownCap w (0 + n) 0 (Try.laysGrow_ren.t 25) = cap := hcap
    rw [hcap] at hg1 hg2
    rw [hcap']
    obtain ⟨C, hC⟩ : ∃ C, (#[] : Array Value) ++ Builtin.zeroCells z.cells (0 + n - 0) ++ Builtin.zeroCells z.cells (cap - (0 + n)) = C := ⟨_, rfl⟩
    have hzs : z.cells.size = 1 := by
      have := congrArg List.length hz2
      rw [Array.length_toList] at this
      rw [this]; cases hte; rfl
    have hCs : C.size = cap * 1 := by
      rw [← hC]
      simp only [Array.size_append, Builtin.zeroCells]
      simp [hzs]
      omega
    have hC2 : ([] : List Value).toArray ++ Builtin.zeroCells z.cells (0 + n - 0) ++ Builtin.zeroCells z.cells (cap - (0 + n)) = C := hC
    rw [hC2]
    have R2 := R0.grew (Grew.drew w)
    have hbr : ∀ ι', ι' = upd ι 5 (some (.slice (some ⟨w.drew.heap.size, 0, none⟩) 0 cap)) → Ext w.drew F ι (w.drew.alloc (.cells C 43)) ι' → BRel (w.drew.alloc (.cells C 43)) F ι' (uB []) (.slice (some ⟨w.drew.heap.size, 0, none⟩) 0 cap) := fun ι' h0 he =>
      ⟨[], ⟨rfl, .inr ⟨w.drew.heap.size, cap, C, rfl, Nat.zero_le _, heap_new _ _, Nat.zero_le _, hg1, hCs, by simp⟩⟩, rfl, by simp⟩
    obtain ⟨hR, _⟩ := R2.new (T := []) (id := 5) (d := none) rfl rfl (.cells C 43) (.slice (some ⟨w.drew.heap.size, 0, none⟩) 0 cap) (by simp [blockOf]) _ (.row 5) hbr fun ι' h1 => .row 5 _ rfl fun v hv => by subst h1; simp [upd] at hv; exact hv
    exact ⟨_, .row 5, _, _, rfl, ⟨rfl, rfl⟩, hR.heap, .row 5 _ rfl fun v hv => by simp [upd] at hv; exact hv⟩
set_option linter.unusedSimpArgs false
attribute [local irreducible] AWp AOps AQ AYield AEff ACall AWk AAny AAt AThen AIn APost NoPanic
theorem cloneU_A (l : List Int) (hl : l.length ≤ 2147483648) : ACall Try.prog 52 [usA l] [] (fun c h => c = .row 5 ∧ h = [(5, uB l)]) := by
  refine ACall_of tabOk Try.func52 rfl Try.ntmps52 (congrArg Array.toList Try.results52) (by kernel_rfl) rfl ?_
  have hfl : (l.flatMap u1D).length = l.length * 1 := flat_len u1D_len l
  repeat (first | refine A_seq ?_ | refine A_block ?_ | refine R_list ?_ | refine R_quiet rfl mixed (by kernel_rfl) ?_ | ((first | apply O_y rfl rfl rfl | apply Q_y rfl rfl rfl); (first | exact q_1 | exact q_2 | exact q_3 | exact q_4 | exact q_5 | exact q_6 | exact q_7 | exact q_8 | exact q_9 | exact q_10 | exact q_11 | exact q_12 | exact q_13 | exact q_14 | exact q_15 | exact q_16 | exact q_17 | exact q_18 | exact q_19 | exact q_20 | exact q_21 | exact q_22 | exact q_23 | exact q_24 | fail)) | refine O_nil ?_ | refine Q_nil ?_ | refine q_j ?_ | refine q_k ?_ | refine q_d ?_ | refine q_a ?_ | refine q_b ?_ | refine q_c ?_ | refine A_ct rfl ?_ | refine A_cf rfl ?_ | refine A_skip ?_ | refine A_exit ?_ | refine A_ret ?_ | refine q_l ?_ | refine q_m ?_ | refine q_n ?_ | refine q_h ?_ | refine q_o ?_ | refine q_e ?_ | refine q_f ?_ | refine q_g ?_ | (refine O_nilEq tabOk rfl rfl rfl rfl rfl rfl ?_; intro b hb))
  cases b with
  | true =>
    have : l = [] := List.eq_nil_of_length_eq_zero (hb rfl).2
    subst this
    repeat (first | refine A_seq ?_ | refine A_block ?_ | refine R_list ?_ | refine R_quiet rfl mixed (by kernel_rfl) ?_ | ((first | apply O_y rfl rfl rfl | apply Q_y rfl rfl rfl); (first | exact q_1 | exact q_2 | exact q_3 | exact q_4 | exact q_5 | exact q_6 | exact q_7 | exact q_8 | exact q_9 | exact q_10 | exact q_11 | exact q_12 | exact q_13 | exact q_14 | exact q_15 | exact q_16 | exact q_17 | exact q_18 | exact q_19 | exact q_20 | exact q_21 | exact q_22 | exact q_23 | exact q_24 | fail)) | refine O_nil ?_ | refine Q_nil ?_ | refine q_j ?_ | refine q_k ?_ | refine q_d ?_ | refine q_a ?_ | refine q_b ?_ | refine q_c ?_ | refine A_ct rfl ?_ | refine A_cf rfl ?_ | refine A_skip ?_ | refine A_exit ?_ | refine A_ret ?_ | refine q_l ?_ | refine q_m ?_ | refine q_n ?_ | refine q_h ?_ | refine q_o ?_ | refine q_e ?_ | refine q_f ?_ | refine q_g ?_ | fail)
    exact X_retW (Wk_nil 43 1 (t := 2) (id := 5) rfl rfl) rfl (h2 := [(5, uB [])]) ⟨rfl, trivial⟩ ⟨rfl, rfl⟩
  | false =>
    repeat (first | refine A_seq ?_ | refine A_block ?_ | refine R_list ?_ | refine R_quiet rfl mixed (by kernel_rfl) ?_ | ((first | apply O_y rfl rfl rfl | apply Q_y rfl rfl rfl); (first | exact q_1 | exact q_2 | exact q_3 | exact q_4 | exact q_5 | exact q_6 | exact q_7 | exact q_8 | exact q_9 | exact q_10 | exact q_11 | exact q_12 | exact q_13 | exact q_14 | exact q_15 | exact q_16 | exact q_17 | exact q_18 | exact q_19 | exact q_20 | exact q_21 | exact q_22 | exact q_23 | exact q_24 | fail)) | refine O_nil ?_ | refine Q_nil ?_ | refine q_j ?_ | refine q_k ?_ | refine q_d ?_ | refine q_a ?_ | refine q_b ?_ | refine q_c ?_ | refine A_ct rfl ?_ | refine A_cf rfl ?_ | refine A_skip ?_ | refine A_exit ?_ | refine A_ret ?_ | refine q_l ?_ | refine q_m ?_ | refine q_n ?_ | refine q_h ?_ | refine q_o ?_ | refine q_e ?_ | refine q_f ?_ | refine q_g ?_ | (first | refine O_slice0 tabOk rfl rfl rfl rfl rfl rfl rfl ?_ | (first | refine O_appR tabOk rfl rfl rfl rfl rfl rfl rfl rfl rfl rfl rfl (by first | exact Src.row rfl | exact Src.dat _ _ | exact Src.nil) hfl (by omega) ?_ | refine O_appN tabOk rfl rfl rfl rfl rfl rfl rfl rfl rfl rfl (by first | exact Src.row rfl | exact Src.dat _ _ | exact Src.nil) hfl (by omega) ?_)))
    exact X_retW AWk.refl rfl (h2 := [(5, uB l)]) ⟨by rw [Nat.zero_add]; rfl, trivial⟩ ⟨rfl, rfl⟩
theorem sortB_A (l : List Int) (hl : l.length ≤ 1000000000) : ACall Try.prog 55 [.row 1000] [(1000, uB l)] (fun c h => c = .tup [] ∧ h = [(1000, uB (l.mergeSort fun x y => decide (x ≤ y)))]) := by
  have := sortU_A l.toArray (by simpa using hl)
  rw [uB_eq, msort_eq] at this
  exact this
theorem normal_A (l : List Int) (hl : l.length ≤ 1000000000) : ACall Try.prog 30 [usA l] [] (fun c h => c = .row 5 ∧ h = [(5, uB (nrm l))]) := by
  have h1 := cloneU_A l (by omega)
  have h2 := sortB_A l hl
  have h3 := compactU_A (l.mergeSort fun x y => decide (x ≤ y)) (by rw [List.length_mergeSort]; omega)
  rw [nrm_eq] at h3
  refine ACall_of tabOk Try.func30 rfl Try.ntmps30 (congrArg Array.toList Try.results30) (by kernel_rfl) rfl ?_
  repeat (first | refine A_seq ?_ | refine A_block ?_ | refine R_list ?_ | refine R_quiet rfl mixed (by kernel_rfl) ?_ | ((first | apply O_y rfl rfl rfl | apply Q_y rfl rfl rfl); (first | exact q_1 | exact q_2 | exact q_3 | exact q_4 | exact q_5 | exact q_6 | exact q_7 | exact q_8 | exact q_9 | exact q_10 | exact q_11 | exact q_12 | exact q_13 | exact q_14 | exact q_15 | exact q_16 | exact q_17 | exact q_18 | exact q_19 | exact q_20 | exact q_21 | exact q_22 | exact q_23 | exact q_24 | fail)) | refine O_nil ?_ | refine Q_nil ?_ | refine q_j ?_ | refine q_k ?_ | refine q_d ?_ | refine q_a ?_ | refine q_b ?_ | refine q_c ?_ | refine A_ct rfl ?_ | refine A_cf rfl ?_ | refine A_skip ?_ | refine A_exit ?_ | refine A_ret ?_ | refine q_l ?_ | refine q_m ?_ | refine q_n ?_ | refine q_h ?_ | refine q_o ?_ | refine q_e ?_ | refine q_f ?_ | refine q_g ?_ | (refine O_cRow rfl rfl rfl rfl rfl h1 rfl ?_))
  refine O_cU 5 h2 rfl rfl rfl rfl rfl rfl rfl rfl ?_
  repeat (first | refine A_seq ?_ | refine A_block ?_ | refine R_list ?_ | refine R_quiet rfl mixed (by kernel_rfl) ?_ | ((first | apply O_y rfl rfl rfl | apply Q_y rfl rfl rfl); (first | exact q_1 | exact q_2 | exact q_3 | exact q_4 | exact q_5 | exact q_6 | exact q_7 | exact q_8 | exact q_9 | exact q_10 | exact q_11 | exact q_12 | exact q_13 | exact q_14 | exact q_15 | exact q_16 | exact q_17 | exact q_18 | exact q_19 | exact q_20 | exact q_21 | exact q_22 | exact q_23 | exact q_24 | fail)) | refine O_nil ?_ | refine Q_nil ?_ | refine q_j ?_ | refine q_k ?_ | refine q_d ?_ | refine q_a ?_ | refine q_b ?_ | refine q_c ?_ | refine A_ct rfl ?_ | refine A_cf rfl ?_ | refine A_skip ?_ | refine A_exit ?_ | refine A_ret ?_ | refine q_l ?_ | refine q_m ?_ | refine q_n ?_ | refine q_h ?_ | refine q_o ?_ | refine q_e ?_ | refine q_f ?_ | refine q_g ?_ | (refine O_cM rfl rfl rfl rfl rfl h3 rfl (by intro c hc; simp at hc; subst hc; rfl) rfl rfl ?_))
  exact X_retW AWk.refl rfl (h2 := [(5, uB (nrm l))]) ⟨rfl, trivial⟩ ⟨rfl, rfl⟩
end Ab
end Go.Proofs.Ytmljmahlpcdhoaa

namespace Go.Proofs.Ytmljmahlpcdhoaa.Ab
set_option linter.unusedVariables false
set_option maxRecDepth 100000
open Go.RowKit Go.Lib
set_option linter.unusedSimpArgs false
attribute [local irreducible] AWp AOps AQ AYield AEff ACall AWk AAny AAt AThen AIn APost NoPanic
def lstD (l : List Int) : List Dat := [usD l]
theorem lstD_len (l : List Int) : (lstD l).length = 1 := rfl
theorem flatten_take {α : Type} (L : List (List α)) (k : Nat) (h : k < L.length) : (L.take (k + 1)).flatten = (L.take k).flatten ++ L[k] := by
  rw [List.take_succ_eq_append_getElem h, List.flatten_append]; simp
theorem flatten_le {α : Type} (L : List (List α)) (k : Nat) : (L.take k).flatten.length ≤ L.flatten.length := by
  have : L.flatten = (L.take k).flatten ++ (L.drop k).flatten := by rw [← List.flatten_append, List.take_append_drop]
  rw [this, List.length_append]; omega
set_option maxHeartbeats 4000000 in
theorem concat_A (L : List (List Int)) (hn : L.length ≤ 1000000) (hL : L.flatten.length ≤ 1000000000) : ACall Try.prog 54 [.d (.sl (L.flatMap lstD) L.length)] [] (fun c h => c = .row 5 ∧ h = [(5, uB L.flatten)]) := by
  have hg := grow_A L.flatten.length (by omega)
  refine ACall_of tabOk Try.func54 rfl Try.ntmps54 (congrArg Array.toList Try.results54) (by kernel_rfl) rfl ?_
  repeat ((fail_if_success (refine stopL ?_)); (fail_if_success (refine stopC ?_)); first
    | refine A_seq ?_
    | refine A_block ?_
    | refine R_list ?_
    | refine R_quiet rfl mixed (by kernel_rfl) ?_
    | ((first | apply O_y rfl rfl rfl | apply Q_y rfl rfl rfl); (first | exact R_addN rfl rfl rfl | exact R_subN rfl rfl rfl | (first | exact q_1 | exact q_2 | exact q_3 | exact q_4 | exact q_5 | exact q_6 | exact q_7 | exact q_8 | exact q_9 | exact q_10 | exact q_11 | exact q_12 | exact q_13 | exact q_14 | exact q_15 | exact q_16 | exact q_17 | exact q_18 | exact q_19 | exact q_20 | exact q_21 | exact q_22 | exact q_23 | exact q_24 | fail)))
    | refine O_nil ?_
    | refine Q_nil ?_
    | refine q_j ?_
    | refine q_k ?_
    | refine q_d ?_
    | refine q_a ?_
    | refine q_b ?_
    | refine q_c ?_
    | refine A_ct rfl ?_
    | refine A_cf rfl ?_
    | refine A_skip ?_
    | refine A_exit ?_
    | refine A_ret ?_
    | refine q_l ?_
    | refine q_m ?_
    | refine q_n ?_
    | refine q_h ?_
    | refine q_o ?_
    | refine q_e ?_
    | refine q_f ?_
    | refine q_g ?_
    | fail)
  refine A_loopS (fun k : Nat => [(0, .d (.sl (L.flatMap lstD) L.length)), (3, intA ((L.take k).flatten.length : Int)), (9, .d (.sl (L.flatMap lstD) L.length)), (10, intA (L.length : Int)), (11, intA (k : Int))]) (fun _ => []) (fun k => k ≤ L.length) (fun k => L.length - k) 0 [(0, .d (.sl (L.flatMap lstD) L.length)), (3, intA (L.flatten.length : Int))] [] (Nat.zero_le _) (Wk_sel ⟨rfl, rfl, rfl, rfl, rfl, trivial⟩ trivial) ?_ ?_
  · intro k hk
    by_cases hkl : k < L.length
    · have hw := win_flat0 lstD_len L k 1 hkl (by decide)
      have h1 := flatten_le L k
      have h2 := flatten_le L (k + 1)
      have h3 := congrArg List.length (flatten_take L k hkl)
      rw [List.length_append] at h3
      repeat (first | refine A_seq ?_ | refine A_block ?_ | refine R_list ?_ | refine R_quiet rfl mixed (by kernel_rfl) ?_ | ((first | apply O_y rfl rfl rfl | apply Q_y rfl rfl rfl); (first | exact q_1 | exact q_2 | exact q_3 | exact q_4 | exact R_loadi tabOk rfl rfl rfl rfl hw rfl rfl | exact q_6 | exact q_7 | exact q_8 | exact q_9 | exact q_10 | exact q_11 | exact q_12 | exact q_13 | exact q_14 | exact q_15 | exact q_16 | exact q_17 | exact q_18 | exact q_19 | exact q_20 | exact q_21 | exact q_22 | exact q_23 | exact q_24 | (exact R_index tabOk rfl rfl rfl rfl rfl rfl hkl))) | refine O_nil ?_ | refine Q_nil ?_ | refine q_j ?_ | refine q_k ?_ | refine q_d ?_ | refine q_a ?_ | refine q_b ?_ | refine q_c ?_ | refine A_ct rfl ?_ | refine A_cf rfl ?_ | refine A_skip ?_ | refine A_exit ?_ | refine A_ret ?_ | refine q_l ?_ | refine q_m ?_ | refine q_n ?_ | refine q_h ?_ | refine q_o ?_ | refine q_e ?_ | refine q_f ?_ | refine q_g ?_ | fail)
      exact ⟨k + 1, by (try dsimp only); omega, by (try dsimp only); omega, Wk_sel ⟨rfl, intE (by omega), rfl, rfl, rfl, trivial⟩ trivial⟩
    · have hkk : k = L.length := by omega
      subst hkk
      repeat (first | refine A_seq ?_ | refine A_block ?_ | refine R_list ?_ | refine R_quiet rfl mixed (by kernel_rfl) ?_ | ((first | apply O_y rfl rfl rfl | apply Q_y rfl rfl rfl); (first | exact q_1 | exact q_2 | exact q_3 | exact q_4 | exact q_5 | exact q_6 | exact q_7 | exact q_8 | exact q_9 | exact q_10 | exact q_11 | exact q_12 | exact q_13 | exact q_14 | exact q_15 | exact q_16 | exact q_17 | exact q_18 | exact q_19 | exact q_20 | exact q_21 | exact q_22 | exact q_23 | exact q_24 | fail)) | refine O_nil ?_ | refine Q_nil ?_ | refine q_j ?_ | refine q_k ?_ | refine q_d ?_ | refine q_a ?_ | refine q_b ?_ | refine q_c ?_ | refine A_ct rfl ?_ | refine A_cf rfl ?_ | refine A_skip ?_ | refine A_exit ?_ | refine A_ret ?_ | refine q_l ?_ | refine q_m ?_ | refine q_n ?_ | refine q_h ?_ | refine q_o ?_ | refine q_e ?_ | refine q_f ?_ | refine q_g ?_ | fail)
      exact Wk_sel ⟨rfl, by rw [List.take_length]; rfl, trivial⟩ trivial
  ·
    repeat ((fail_if_success (refine stopL ?_)); (fail_if_success (refine stopC ?_)); first
      | refine A_seq ?_
      | refine A_block ?_
      | refine R_list ?_
      | refine R_quiet rfl mixed (by kernel_rfl) ?_
      | ((first | apply O_y rfl rfl rfl | apply Q_y rfl rfl rfl); (first | exact R_addN rfl rfl rfl | exact R_subN rfl rfl rfl | (first | exact q_1 | exact q_2 | exact q_3 | exact q_4 | exact q_5 | exact q_6 | exact q_7 | exact q_8 | exact q_9 | exact q_10 | exact q_11 | exact q_12 | exact q_13 | exact q_14 | exact q_15 | exact q_16 | exact q_17 | exact q_18 | exact q_19 | exact q_20 | exact q_21 | exact q_22 | exact q_23 | exact q_24 | fail)))
      | refine O_nil ?_
      | refine Q_nil ?_
      | refine q_j ?_
      | refine q_k ?_
      | refine q_d ?_
      | refine q_a ?_
      | refine q_b ?_
      | refine q_c ?_
      | refine A_ct rfl ?_
      | refine A_cf rfl ?_
      | refine A_skip ?_
      | refine A_exit ?_
      | refine A_ret ?_
      | refine q_l ?_
      | refine q_m ?_
      | refine q_n ?_
      | refine q_h ?_
      | refine q_o ?_
      | refine q_e ?_
      | refine q_f ?_
      | refine q_g ?_
      | (refine O_cRow rfl rfl rfl rfl rfl hg rfl ?_))
    refine A_loopS (fun k : Nat => [(6, .row 5), (25, .d (.sl (L.flatMap lstD) L.length)), (26, intA (L.length : Int)), (27, intA (k : Int))]) (fun k => [(5, uB (L.take k).flatten)]) (fun k => k ≤ L.length) (fun k => L.length - k) 0 [(6, .row 5)] [(5, uB L.flatten)] (Nat.zero_le _) (Wk_sel ⟨rfl, rfl, rfl, rfl, trivial⟩ ⟨rfl, trivial⟩) ?_ ?_
    · intro k hk
      by_cases hkl : k < L.length
      · have hw := win_flat0 lstD_len L k 1 hkl (by decide)
        have h1 := flatten_le L k
        have h2 := flatten_le L (k + 1)
        have h3 := congrArg List.length (flatten_take L k hkl)
        rw [List.length_append] at h3
        have hfl : (L[k].flatMap u1D).length = L[k].length * 1 := flat_len u1D_len _
        repeat (first | refine A_seq ?_ | refine A_block ?_ | refine R_list ?_ | refine R_quiet rfl mixed (by kernel_rfl) ?_ | ((first | apply O_y rfl rfl rfl | apply Q_y rfl rfl rfl); (first | exact q_1 | exact q_2 | exact q_3 | exact q_4 | exact R_loadi tabOk rfl rfl rfl rfl hw rfl rfl | exact q_6 | exact q_7 | exact q_8 | exact q_9 | exact q_10 | exact q_11 | exact q_12 | exact q_13 | exact q_14 | exact q_15 | exact q_16 | exact q_17 | exact q_18 | exact q_19 | exact q_20 | exact q_21 | exact q_22 | exact q_23 | exact q_24 | (exact R_index tabOk rfl rfl rfl rfl rfl rfl hkl))) | refine O_nil ?_ | refine Q_nil ?_ | refine q_j ?_ | refine q_k ?_ | refine q_d ?_ | refine q_a ?_ | refine q_b ?_ | refine q_c ?_ | refine A_ct rfl ?_ | refine A_cf rfl ?_ | refine A_skip ?_ | refine A_exit ?_ | refine A_ret ?_ | refine q_l ?_ | refine q_m ?_ | refine q_n ?_ | refine q_h ?_ | refine q_o ?_ | refine q_e ?_ | refine q_f ?_ | refine q_g ?_ | (first | refine O_appR tabOk rfl rfl rfl rfl rfl rfl rfl rfl rfl rfl rfl (by first | exact Src.row rfl | exact Src.dat _ _ | exact Src.nil) hfl (by omega) ?_ | refine O_appN tabOk rfl rfl rfl rfl rfl rfl rfl rfl rfl rfl (by first | exact Src.row rfl | exact Src.dat _ _ | exact Src.nil) hfl (by omega) ?_))
        exact ⟨k + 1, by (try dsimp only); omega, by (try dsimp only); omega, Wk_sel ⟨rfl, rfl, rfl, rfl, trivial⟩ ⟨row_eq h3.symm (by rw [flatten_take L k hkl, List.flatMap_append]) rfl, trivial⟩⟩
      · have hkk : k = L.length := by omega
        subst hkk
        repeat (first | refine A_seq ?_ | refine A_block ?_ | refine R_list ?_ | refine R_quiet rfl mixed (by kernel_rfl) ?_ | ((first | apply O_y rfl rfl rfl | apply Q_y rfl rfl rfl); (first | exact q_1 | exact q_2 | exact q_3 | exact q_4 | exact q_5 | exact q_6 | exact q_7 | exact q_8 | exact q_9 | exact q_10 | exact q_11 | exact q_12 | exact q_13 | exact q_14 | exact q_15 | exact q_16 | exact q_17 | exact q_18 | exact q_19 | exact q_20 | exact q_21 | exact q_22 | exact q_23 | exact q_24 | fail)) | refine O_nil ?_ | refine Q_nil ?_ | refine q_j ?_ | refine q_k ?_ | refine q_d ?_ | refine q_a ?_ | refine q_b ?_ | refine q_c ?_ | refine A_ct rfl ?_ | refine A_cf rfl ?_ | refine A_skip ?_ | refine A_exit ?_ | refine A_ret ?_ | refine q_l ?_ | refine q_m ?_ | refine q_n ?_ | refine q_h ?_ | refine q_o ?_ | refine q_e ?_ | refine q_f ?_ | refine q_g ?_ | fail)
        exact Wk_sel ⟨rfl, trivial⟩ ⟨by rw [List.take_length]; rfl, trivial⟩
    ·
      repeat (first | refine A_seq ?_ | refine A_block ?_ | refine R_list ?_ | refine R_quiet rfl mixed (by kernel_rfl) ?_ | ((first | apply O_y rfl rfl rfl | apply Q_y rfl rfl rfl); (first | exact q_1 | exact q_2 | exact q_3 | exact q_4 | exact q_5 | exact q_6 | exact q_7 | exact q_8 | exact q_9 | exact q_10 | exact q_11 | exact q_12 | exact q_13 | exact q_14 | exact q_15 | exact q_16 | exact q_17 | exact q_18 | exact q_19 | exact q_20 | exact q_21 | exact q_22 | exact q_23 | exact q_24 | fail)) | refine O_nil ?_ | refine Q_nil ?_ | refine q_j ?_ | refine q_k ?_ | refine q_d ?_ | refine q_a ?_ | refine q_b ?_ | refine q_c ?_ | refine A_ct rfl ?_ | refine A_cf rfl ?_ | refine A_skip ?_ | refine A_exit ?_ | refine A_ret ?_ | refine q_l ?_ | refine q_m ?_ | refine q_n ?_ | refine q_h ?_ | refine q_o ?_ | refine q_e ?_ | refine q_f ?_ | refine q_g ?_ | fail)
      exact X_retW AWk.refl rfl (h2 := [(5, uB L.flatten)]) ⟨rfl, trivial⟩ ⟨rfl, rfl⟩
theorem join_A (a b : List Int) (h : a.length + b.length ≤ 1000000000) : ACall Try.prog 29 [usA a, usA b] [] (fun c h => c = .row 5 ∧ h = [(5, uB (nrm (a ++ b)))]) := by
  have e1 : [a, b].flatten = a ++ b := by simp
  have h1 := concat_A [a, b] (by simp) (by rw [e1, List.length_append]; omega)
  rw [e1] at h1
  have h2 := normal_A (a ++ b) (by rw [List.length_append]; omega)
  refine ACall_of tabOk Try.func29 rfl Try.ntmps29 (congrArg Array.toList Try.results29) (by kernel_rfl) rfl ?_
  repeat (first | refine A_seq ?_ | refine A_block ?_ | refine R_list ?_ | refine R_quiet rfl mixed (by kernel_rfl) ?_ | ((first | apply O_y rfl rfl rfl | apply Q_y rfl rfl rfl); (first | exact q_1 | exact q_2 | exact q_3 | exact q_4 | exact q_5 | exact q_6 | exact q_7 | exact q_8 | exact q_9 | exact q_10 | exact q_11 | exact q_12 | exact q_13 | exact q_14 | exact q_15 | exact q_16 | exact q_17 | exact q_18 | exact q_19 | exact q_20 | exact q_21 | exact q_22 | exact q_23 | exact q_24 | fail)) | refine O_nil ?_ | refine Q_nil ?_ | refine q_j ?_ | refine q_k ?_ | refine q_d ?_ | refine q_a ?_ | refine q_b ?_ | refine q_c ?_ | refine A_ct rfl ?_ | refine A_cf rfl ?_ | refine A_skip ?_ | refine A_exit ?_ | refine A_ret ?_ | refine q_l ?_ | refine q_m ?_ | refine q_n ?_ | refine q_h ?_ | refine q_o ?_ | refine q_e ?_ | refine q_f ?_ | refine q_g ?_ | fail)
  refine O_weaken (Wk_freeze (id := 7) rfl) ?_
  refine O_cRow rfl rfl rfl rfl rfl h1 rfl ?_
  refine O_weaken (Wk_freeze (id := 5) rfl) ?_
  refine O_cRow rfl rfl rfl rfl rfl h2 rfl ?_
  repeat (first | refine A_seq ?_ | refine A_block ?_ | refine R_list ?_ | refine R_quiet rfl mixed (by kernel_rfl) ?_ | ((first | apply O_y rfl rfl rfl | apply Q_y rfl rfl rfl); (first | exact q_1 | exact q_2 | exact q_3 | exact q_4 | exact q_5 | exact q_6 | exact q_7 | exact q_8 | exact q_9 | exact q_10 | exact q_11 | exact q_12 | exact q_13 | exact q_14 | exact q_15 | exact q_16 | exact q_17 | exact q_18 | exact q_19 | exact q_20 | exact q_21 | exact q_22 | exact q_23 | exact q_24 | fail)) | refine O_nil ?_ | refine Q_nil ?_ | refine q_j ?_ | refine q_k ?_ | refine q_d ?_ | refine q_a ?_ | refine q_b ?_ | refine q_c ?_ | refine A_ct rfl ?_ | refine A_cf rfl ?_ | refine A_skip ?_ | refine A_exit ?_ | refine A_ret ?_ | refine q_l ?_ | refine q_m ?_ | refine q_n ?_ | refine q_h ?_ | refine q_o ?_ | refine q_e ?_ | refine q_f ?_ | refine q_g ?_ | fail)
  exact X_retW AWk.refl rfl (h2 := [(5, uB (nrm (a ++ b)))]) ⟨rfl, trivial⟩ ⟨rfl, rfl⟩
end Go.Proofs.Ytmljmahlpcdhoaa.Ab

namespace Go.Proofs.Ytmljmahlpcdhoaa.Ab
set_option linter.unusedVariables false
open Go.RowKit
section
variable {P : Program} {nt : Nat} {Q : Post} {e : Env} {h : Heap} {ops : Array Oper} {o : Oper} {T : List Nat} {fuel i : Nat} {listed : Array Bool}
theorem T_cRow {f : FuncId} {args : Array Operand} {ats : Array TypeId} {cs : List AVal} {d id el k n : Nat} {ds : List Dat} (hi : ops[i]? = some o) (hw : awant ops e o = some true) (hdst : o.dst = some d) (hd : Nat.blt d nt = true) (ho : o.op = .call { callee := .value (.func f), args := args, argTypes := ats }) (hx : aevs e args.toList = some cs)
    (H : ACall P f cs [] (fun c' h' => c' = .row id ∧ h' = [(id, .row el k n ds)])) (hid : Nat.blt id 1000 = true) (HK : AAny P nt ops Q T fuel (listed.setIfInBounds i true) ((d, .row id) :: killEs [id] e) ((id, .row el k n ds) :: killHs [id] h)) : AAt P nt ops Q T fuel listed i e h :=
  T_eff hi hw (E_callQ ho hdst hx H hd fun c' h' ⟨h1, h2⟩ => by
    subst h1 h2
    refine ⟨by simp [hid], fun j b i hb hh => ?_, fun j hj => ?_⟩
    · unfold look at hb
      cases hj : Nat.beq id j with
      | true => rw [hj] at hb; cases hb; simp [blkHas] at hh
      | false => rw [hj] at hb; cases hb
    · simp [AVal.has] at hj
      subst hj
      simp [look]) fun e' h' ⟨c, h2, ⟨h3, h4⟩, h5, h6⟩ => by subst h3 h4 h5 h6; exact HK
end
end Go.Proofs.Ytmljmahlpcdhoaa.Ab

namespace Go.Proofs.Ytmljmahlpcdhoaa.Ab
set_option linter.unusedVariables false
set_option maxRecDepth 100000
open Go.RowKit
section
variable {P : Program} {nt : Nat} {Q : Post} {e : Env} {h : Heap} {ops : Array Oper} {o : Oper} {rest : List Oper} {T : List Nat} {fuel i : Nat} {listed : Array Bool}
theorem ACall.wk {f : FuncId} {args : List AVal} {c0 c1 : AVal} {h0 h1 : Heap} (H : ACall P f args h (fun c h' => c = c0 ∧ h' = h0)) (hk : AWk 1 [(0, c0)] h0 [(0, c1)] h1) : ACall P f args h (fun c h' => c = c1 ∧ h' = h1) :=
  ⟨H.1, fun Pm F w0 pin ι us w a b => (H.2 Pm F w0 pin ι us w a b).mono fun x w' ⟨u, c, h', ι', h2, h3, h4, h5⟩ => by
    obtain ⟨rfl, rfl⟩ := h3
    have R0 : Rel Pm F w0 pin ι' 1 [(0, c)] h' { tmps := #[u], defers := [] } w' := by
      refine ⟨h4, fun t c' ht => ?_, MkOk.nil, by simp⟩
      by_cases h0 : 0 = t
      · subst h0
        rw [look_cons_same] at ht
        cases ht
        exact ⟨u, rfl, h5⟩
      · rw [look_cons_ne _ _ h0] at ht; cases ht
    obtain ⟨ι2, R1⟩ := hk _ _ _ _ _ _ _ R0
    obtain ⟨u', hu1, hu2⟩ := R1.env 0 _ rfl
    cases hu1
    exact ⟨u, c1, h1, ι2, h2, ⟨rfl, rfl⟩, R1.heap, hu2⟩⟩
theorem O_cN {f : FuncId} {args : Array Operand} {ats : Array TypeId} {cs : List AVal} {d : Nat} {c : AVal} {h1 : Heap} (hw : awant ops e o = some true) (hdst : o.dst = some d) (hd : Nat.blt d nt = true) (ho : o.op = .call { callee := .value (.func f), args := args, argTypes := ats }) (hx : aevs e args.toList = some cs)
    (H : ACall P f cs [] (fun c' h' => c' = c ∧ h' = h1)) (hids : (h1.map (·.1)).all (fun j => Nat.blt j 1000) = true) (hcl : ∀ id b j, look h1 id = some b → blkHas j b = true → (look h1 j).isSome = true) (hcc : ∀ j, c.has j = true → (look h1 j).isSome = true)
    (HK : AOps P nt ops Q rest ((d, c) :: killEs (h1.map (·.1)) e) (h1 ++ killHs (h1.map (·.1)) h)) : AOps P nt ops Q (o :: rest) e h :=
  O_eff (T := []) hw (E_callQ (d := some d) ho hdst hx H hd fun c' h' ⟨q1, q2⟩ => by subst q1 q2; exact ⟨hids, hcl, hcc⟩) fun e' h' ⟨c', h2, ⟨q1, q2⟩, q3, q4⟩ => by subst q1 q2 q3 q4; exact HK
end
end Go.Proofs.Ytmljmahlpcdhoaa.Ab

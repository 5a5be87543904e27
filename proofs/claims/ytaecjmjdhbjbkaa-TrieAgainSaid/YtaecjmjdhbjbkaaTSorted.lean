/-
  Tables by prefixes: the prefixes of which it is so, in order.
-/
import Derived.Test.YtaecjmjdhbjbkaaTSort
namespace Go.Proofs.Ytaecjmjdhbjbkaa.Ab
set_option linter.unusedVariables false
set_option maxRecDepth 100000
open Go.RowKit
set_option linter.unusedSimpArgs false
attribute [local irreducible] AWp AOps AQ AYield AEff ACall AWk AAny AAt AThen AIn APost NoPanic

theorem kill_mapx (id r clk : Nat) (bs : List Nat) (l : List (Pfx × Int)) : killB id (.mapx r bs clk (ents pfxA intA l)) = .mapx r bs clk (ents pfxA intA l) := by
  show ABlk.mapx r bs clk ((l.map fun p => (pfxA p.1, intA p.2)).map fun p => (killV id p.1, killV id p.2)) = _
  rw [List.map_map]
  rfl
/-- Whatever order they come in. -/
theorem sortP_perm {l l' : List Pfx} (h : l.Perm l') : sortP l = sortP l' := by
  have sorted : ∀ l : List Pfx, (sortP l).Pairwise fun x y => (!ltOf cmpP y x) = true := fun l => by
    refine List.pairwise_mergeSort (fun x y z h1 h2 => ?_) (fun x y => ?_) l
    · simp only [Bool.not_eq_true'] at *
      exact swoP.3 _ _ _ h2 h1
    · cases hc : ltOf cmpP y x with
      | false => simp [hc]
      | true =>
        have := cmpP_lt y x |>.1 hc
        have h2 : ltOf cmpP x y = false := (cmpP_lt_false x y).2 (by omega)
        simp [h2]
  refine List.Perm.eq_of_pairwise (le := fun x y => (!ltOf cmpP y x) = true) (fun x y _ _ h1 h2 => ?_) (sorted l) (sorted l') (((List.mergeSort_perm _ _).trans h).trans (List.mergeSort_perm _ _).symm)
  simp only [Bool.not_eq_true'] at h1 h2
  exact antiP x y h2 h1
/-- The prefixes that have come, of which it is so. -/
def come (m : List (Pfx × Int)) (is : Pfx → Bool) (js : List Nat) : List Pfx := (js.filterMap fun j => m[j]?.map (·.1)).filter is
theorem come_snoc (m : List (Pfx × Int)) (is : Pfx → Bool) (js : List Nat) (j : Nat) (p : Pfx × Int) (hp : m[j]? = some p) : come m is (js ++ [j]) = come m is js ++ (if is p.1 then [p.1] else []) := by
  unfold come
  rw [List.filterMap_append, List.filter_append]
  congr 1
  simp [hp]
  split <;> simp_all
theorem come_all (m : List (Pfx × Int)) (is : Pfx → Bool) (js : List Nat) (hn : js.Nodup) (hl : ∀ j ∈ js, j < m.length) (ha : ∀ j, j < m.length → j ∈ js) : (come m is js).Perm ((m.map (·.1)).filter is) := by
  have hp : js.Perm (List.range m.length) := by
    refine (List.perm_ext_iff_of_nodup hn List.nodup_range).2 fun j => ?_
    rw [List.mem_range]
    exact ⟨hl j, ha j⟩
  have h1 := (hp.filterMap fun j => m[j]?.map (·.1)).filter is
  have h2 : (List.range m.length).filterMap (fun j => m[j]?.map (·.1)) = m.map (·.1) := by
    clear h1 hp ha hl hn
    have : ∀ (m : List (Pfx × Int)) (k : Nat) (M : List (Pfx × Int)), (∀ j, M[k + j]? = m[j]?) → (List.range' k m.length).filterMap (fun j => M[j]?.map (·.1)) = m.map (·.1) := by
      intro m
      induction m with
      | nil => intro k M _; rfl
      | cons p m ih =>
        intro k M hM
        rw [List.length_cons, List.range'_succ, List.filterMap_cons]
        have h0 := hM 0
        simp at h0
        rw [h0]
        simp only [Option.map_some, List.map_cons]
        rw [ih (k + 1) M fun j => by have := hM (j + 1); rw [show k + 1 + j = k + (j + 1) by omega, this]; simp]
    rw [List.range_eq_range']
    exact this m 0 m fun j => by simp
  rw [h2] at h1
  exact h1
theorem kill_fn {id f : Nat} {caps : List AVal} (h : hasL id caps = false) : some (killV id (.fn f caps)) = some (AVal.fn f caps) := by
  unfold killV
  rw [show (AVal.fn f caps).has id = false from h]
  rfl
theorem kill_fn2 {i j f : Nat} {caps : List AVal} (h : hasL i caps = false) (h2 : hasL j caps = false) : some (killV i (killV j (.fn f caps))) = some (AVal.fn f caps) := by
  rw [Option.some.inj (kill_fn h2)]
  exact kill_fn h
theorem kill_mapx2 (i j r clk : Nat) (bs : List Nat) (l : List (Pfx × Int)) : some (killB i (killB j (.mapx r bs clk (ents pfxA intA l)))) = some (.mapx r bs clk (ents pfxA intA l)) := by
  rw [kill_mapx, kill_mapx]
theorem nodup_len {js : List Nat} {n : Nat} (hn : js.Nodup) (hl : ∀ j ∈ js, j < n) : js.length ≤ n := by
  have := hn.length_le_of_subset (l₂ := List.range n) fun j hj => List.mem_range.2 (hl j hj)
  simpa using this
def seenOf (bs js : List Nat) : Array Nat := (js.map fun j => bs.getD j 0).toArray
theorem seen_push (bs js : List Nat) (j b : Nat) (hb : bs[j]? = some b) : (seenOf bs js).push b = seenOf bs (js ++ [j]) := by
  unfold seenOf
  simp [hb]
theorem seen_has (bs js : List Nat) (hp : bs.Pairwise fun a b => a < b) (hl : ∀ j ∈ js, j < bs.length) (j b : Nat) (hb : bs[j]? = some b) : (seenOf bs js).contains b = true ↔ j ∈ js := by
  unfold seenOf
  rw [Array.contains_iff_mem]
  simp only [List.mem_toArray, List.mem_map]
  have hjl := (List.getElem?_eq_some_iff.1 hb)
  constructor
  · rintro ⟨i, hi, hib⟩
    have hil := hl i hi
    rw [show bs.getD i 0 = bs[i] by simp [List.getElem?_eq_getElem hil]] at hib
    have hpw := List.pairwise_iff_getElem.1 hp
    rcases Nat.lt_trichotomy i j with h1 | h1 | h1
    · have := hpw i j hil hjl.1 h1; rw [hjl.2] at this; omega
    · rw [← h1]; exact hi
    · have := hpw j i hjl.1 hil h1; rw [hjl.2] at this; omega
  · intro hj
    exact ⟨j, hj, by simp [hb]⟩
theorem look_one {a b p i : Nat} (h : look [(a, b)] p = some i) : p = a ∧ i = b := by
  by_cases hp : a = p
  · subst hp; rw [look_cons_same] at h; cases h; exact ⟨rfl, rfl⟩
  · rw [look_cons_ne _ _ hp] at h; cases h
set_option maxHeartbeats 4000000 in
theorem sorted_A (u : Nat → Int) (m : List (Pfx × Int)) (f : Nat) (caps : List AVal) (is : Pfx → Bool) (hcd : ∀ id, hasL id caps = false) (his : ∀ p ∈ m, ACall Try.prog f ([pfxA p.1] ++ caps) [] (fun c h => c = boolA (is p.1) ∧ h = [])) (hn : m.length ≤ 1000000) :
    ACall Try.prog 53 [.ptr 1000 0, .fn f caps] [(1000, tblB 1001 u), (1001, mapB m)] (fun c h => c = pfxsA (sortP ((m.map (·.1)).filter is)) ∧ h = [(1000, tblB 1001 u), (1001, mapB m)]) := by
  refine ACall_of tabOk Try.func53 rfl Try.ntmps53 (congrArg Array.toList Try.results53) (by kernel_rfl) rfl ?_
  refine A_open (mid := 1001) rfl fun r bs clk hbl hbp hbc => ?_
  repeat (first
    | refine A_seq ?_
    | refine A_block ?_
    | refine R_list ?_
    | refine R_quiet rfl mixed (by kernel_rfl) ?_
    | ((first | apply O_y rfl rfl rfl | apply Q_y rfl rfl rfl); (first | exact Y_move rfl rfl | exact Y_assign rfl rfl | exact R_index tabOk rfl rfl rfl rfl rfl rfl (by omega) | exact R_fieldi tabOk rfl rfl rfl | exact R_loadi tabOk rfl rfl rfl rfl rfl rfl rfl | exact R_len tabOk rfl rfl rfl | exact R_load tabOk rfl rfl rfl rfl rfl rfl rfl rfl rfl | exact R_field tabOk rfl rfl rfl rfl | exact Y_add rfl rfl rfl (by first | exact wrap_succ (by omega) | exact wrap_pred (by omega) (by omega) | exact wrap_i64 ⟨by omega, by omega⟩ | rfl) | exact Y_sub rfl rfl rfl (by first | exact wrap_succ (by omega) | exact wrap_pred (by omega) (by omega) | exact wrap_i64 ⟨by omega, by omega⟩ | rfl) | exact R_cmpT rfl rfl rfl rfl (by first | (simp only [decide_eq_true_eq, beq_iff_eq, bne_iff_ne, ne_eq]; done) | (simp only [decide_eq_true_eq, beq_iff_eq, bne_iff_ne, ne_eq]; omega)) | exact R_cmpF rfl rfl rfl rfl (by first | (simp only [decide_eq_false_iff_not, beq_eq_false_iff_ne, bne_eq_false_iff_eq, ne_eq]; done) | (simp only [decide_eq_false_iff_not, beq_eq_false_iff_ne, bne_eq_false_iff_eq, ne_eq]; omega)) | exact Y_ibin rfl rfl rfl rfl | exact Y_extract rfl rfl rfl | exact R_lenr tabOk rfl rfl rfl rfl | exact R_lenn tabOk rfl rfl rfl | exact R_indexr tabOk rfl rfl rfl rfl rfl rfl rfl (by omega) | exact R_fielde tabOk rfl rfl rfl rfl | exact R_loade tabOk rfl rfl rfl rfl rfl rfl rfl rfl rfl | exact Y_not rfl rfl | exact Y_pick_t rfl rfl (by first | rfl | assumption) rfl | exact Y_pick_f rfl rfl (by first | rfl | assumption) rfl | exact Y_pick_b rfl rfl rfl rfl | exact R_build tabOk rfl rfl rfl rfl rfl rfl | (first | exact R_pnil tabOk rfl rfl rfl rfl rfl | exact Y_nilCheck rfl rfl rfl)))
    | refine O_nil ?_
    | refine Q_nil ?_
    | refine X_then_normal ?_
    | refine X_in_normal ?_
    | refine O_box rfl rfl rfl rfl rfl rfl rfl ?_
    | refine O_alloc tabOk rfl rfl rfl rfl rfl rfl ?_
    | refine O_store tabOk rfl rfl rfl rfl rfl rfl rfl rfl rfl rfl rfl ?_
    | refine O_slice tabOk rfl rfl rfl rfl rfl rfl rfl rfl rfl rfl rfl ?_
    | refine A_condt rfl (by first | rfl | assumption | (first | (simp only [decide_eq_true_eq]; done) | (simp only [decide_eq_true_eq]; omega))) ?_
    | refine A_condf rfl (by first | rfl | assumption | (first | (simp only [decide_eq_false_iff_not]; done) | (simp only [decide_eq_false_iff_not]; omega))) ?_
    | refine A_skip ?_
    | refine A_exit ?_
    | refine A_ret ?_
    | refine X_then_exit ?_
    | refine X_then_ret ?_
    | refine X_in_same ?_
    | refine X_in_other rfl ?_
    | refine X_in_ret ?_
    | refine O_s rfl rfl rfl ?_
    | refine Q_s rfl rfl rfl ?_
    | refine O_sn rfl rfl ?_
    | (refine O_range tabOk rfl rfl rfl rfl rfl rfl rfl rfl ?_))
  refine A_weaken (Wk_sel (e1 := [(1, .fn f caps), (5, .d (.sc (.slice none 0 0))), (13, .ptr 13 0)]) (h1 := [(13, .it (.mapIter (some r) clk #[] clk)), (1001, .mapx r bs clk (ents pfxA intA m)), (1000, tblB 1001 u)]) ⟨kill_fn (hcd _), rfl, rfl, trivial⟩ ⟨rfl, congrArg some (kill_mapx _ _ _ _ _), rfl, trivial⟩) ?_
  refine A_weaken (Wk_nil 26 2 (t := 5) (id := 5) rfl rfl) ?_
  refine A_loop (fun _ : List Nat => [(1, .fn f caps), (5, .row 5), (13, .ptr 13 0)]) (fun js => [(5, .row 26 2 (come m is js).length ((come m is js).flatMap pfxD)), (13, .it (.mapIter (some r) clk (seenOf bs js) clk)), (1001, .mapx r bs clk (ents pfxA intA m)), (1000, tblB 1001 u)]) (fun js => js.Nodup ∧ ∀ j ∈ js, j < m.length) (fun js => m.length - js.length) [] ⟨.nil, by simp⟩ (Wk_sel ⟨kill_fn (hcd _), rfl, rfl, trivial⟩ ⟨rfl, rfl, congrArg some (kill_mapx _ _ _ _ _), rfl, trivial⟩) ?_
  rintro js ⟨hnd, hjl⟩
  dsimp only
  have hbm : bs.length = m.length := by rw [hbl]; simp [ents]
  have hbjl : ∀ j ∈ js, j < bs.length := fun j hj => by rw [hbm]; exact hjl j hj
  refine A_seq ?_
  refine R_list ?_
  refine O_next (mid := 1001) rfl rfl rfl rfl rfl rfl rfl (Nat.le_refl _) (Nat.le_refl _) (fun hall => ?_) (fun j p b hp hb hs => ?_)
  · have hper := come_all m is js hnd hjl fun j hj => (seen_has bs js hbp hbjl j bs[j] (List.getElem?_eq_getElem (by omega))).1 (hall _ (List.getElem_mem (by omega)))
    generalize come m is js = L at hper ⊢
    have hL : L.length ≤ 1000000 := by
      rw [hper.length_eq]
      exact Nat.le_trans (List.length_filter_le _ _) (by simpa using hn)
    rw [← sortP_perm hper]
    have hlen : (sortP L).length = L.length := List.length_mergeSort _
    repeat (first
      | refine A_seq ?_
      | refine A_block ?_
      | refine R_list ?_
      | refine R_quiet rfl mixed (by kernel_rfl) ?_
      | ((first | apply O_y rfl rfl rfl | apply Q_y rfl rfl rfl); (first | exact Y_move rfl rfl | exact Y_assign rfl rfl | exact R_index tabOk rfl rfl rfl rfl rfl rfl (by omega) | exact R_fieldi tabOk rfl rfl rfl | exact R_loadi tabOk rfl rfl rfl rfl rfl rfl rfl | exact R_len tabOk rfl rfl rfl | exact R_load tabOk rfl rfl rfl rfl rfl rfl rfl rfl rfl | exact R_field tabOk rfl rfl rfl rfl | exact Y_add rfl rfl rfl (by first | exact wrap_succ (by omega) | exact wrap_pred (by omega) (by omega) | exact wrap_i64 ⟨by omega, by omega⟩ | rfl) | exact Y_sub rfl rfl rfl (by first | exact wrap_succ (by omega) | exact wrap_pred (by omega) (by omega) | exact wrap_i64 ⟨by omega, by omega⟩ | rfl) | exact R_cmpT rfl rfl rfl rfl (by first | (simp only [decide_eq_true_eq, beq_iff_eq, bne_iff_ne, ne_eq]; done) | (simp only [decide_eq_true_eq, beq_iff_eq, bne_iff_ne, ne_eq]; omega)) | exact R_cmpF rfl rfl rfl rfl (by first | (simp only [decide_eq_false_iff_not, beq_eq_false_iff_ne, bne_eq_false_iff_eq, ne_eq]; done) | (simp only [decide_eq_false_iff_not, beq_eq_false_iff_ne, bne_eq_false_iff_eq, ne_eq]; omega)) | exact Y_ibin rfl rfl rfl rfl | exact Y_extract rfl rfl rfl | exact R_lenr tabOk rfl rfl rfl rfl | exact R_lenn tabOk rfl rfl rfl | exact R_indexr tabOk rfl rfl rfl rfl rfl rfl rfl (by omega) | exact R_fielde tabOk rfl rfl rfl rfl | exact R_loade tabOk rfl rfl rfl rfl rfl rfl rfl rfl rfl | exact Y_not rfl rfl | exact Y_pick_t rfl rfl (by first | rfl | assumption) rfl | exact Y_pick_f rfl rfl (by first | rfl | assumption) rfl | exact Y_pick_b rfl rfl rfl rfl | exact R_build tabOk rfl rfl rfl rfl rfl rfl | fail))
      | refine O_nil ?_
      | refine Q_nil ?_
      | refine X_then_normal ?_
      | refine X_in_normal ?_
      | refine O_box rfl rfl rfl rfl rfl rfl rfl ?_
      | refine O_alloc tabOk rfl rfl rfl rfl rfl rfl ?_
      | refine O_store tabOk rfl rfl rfl rfl rfl rfl rfl rfl rfl rfl rfl ?_
      | refine O_slice tabOk rfl rfl rfl rfl rfl rfl rfl rfl rfl rfl rfl ?_
      | refine A_condt rfl (by first | rfl | assumption | (first | (simp only [decide_eq_true_eq]; done) | (simp only [decide_eq_true_eq]; omega))) ?_
      | refine A_condf rfl (by first | rfl | assumption | (first | (simp only [decide_eq_false_iff_not]; done) | (simp only [decide_eq_false_iff_not]; omega))) ?_
      | refine A_skip ?_
      | refine A_exit ?_
      | refine A_ret ?_
      | refine X_then_exit ?_
      | refine X_then_ret ?_
      | refine X_in_same ?_
      | refine X_in_other rfl ?_
      | refine X_in_ret ?_
      | refine O_s rfl rfl rfl ?_
      | refine Q_s rfl rfl rfl ?_
      | refine O_sn rfl rfl ?_
      | fail)
    refine O_cP [(1000, 5)] (fun p p' i h1 h2 => by rw [(look_one h1).1, (look_one h2).1]) (fun p i h1 => by rw [(look_one h1).1]; exact ⟨Nat.le_refl _, rfl, rfl⟩) (sort_A L hL) (fun c hc => by simp at hc; rcases hc with rfl | rfl <;> rfl) ⟨⟨5, _, rfl, rfl, rfl, trivial⟩, trivial⟩ rfl rfl rfl rfl rfl rfl ?_
    repeat (first
      | refine A_seq ?_
      | refine A_block ?_
      | refine R_list ?_
      | refine R_quiet rfl mixed (by kernel_rfl) ?_
      | ((first | apply O_y rfl rfl rfl | apply Q_y rfl rfl rfl); (first | exact Y_move rfl rfl | exact Y_assign rfl rfl | exact R_index tabOk rfl rfl rfl rfl rfl rfl (by omega) | exact R_fieldi tabOk rfl rfl rfl | exact R_loadi tabOk rfl rfl rfl rfl rfl rfl rfl | exact R_len tabOk rfl rfl rfl | exact R_load tabOk rfl rfl rfl rfl rfl rfl rfl rfl rfl | exact R_field tabOk rfl rfl rfl rfl | exact Y_add rfl rfl rfl (by first | exact wrap_succ (by omega) | exact wrap_pred (by omega) (by omega) | exact wrap_i64 ⟨by omega, by omega⟩ | rfl) | exact Y_sub rfl rfl rfl (by first | exact wrap_succ (by omega) | exact wrap_pred (by omega) (by omega) | exact wrap_i64 ⟨by omega, by omega⟩ | rfl) | exact R_cmpT rfl rfl rfl rfl (by first | (simp only [decide_eq_true_eq, beq_iff_eq, bne_iff_ne, ne_eq]; done) | (simp only [decide_eq_true_eq, beq_iff_eq, bne_iff_ne, ne_eq]; omega)) | exact R_cmpF rfl rfl rfl rfl (by first | (simp only [decide_eq_false_iff_not, beq_eq_false_iff_ne, bne_eq_false_iff_eq, ne_eq]; done) | (simp only [decide_eq_false_iff_not, beq_eq_false_iff_ne, bne_eq_false_iff_eq, ne_eq]; omega)) | exact Y_ibin rfl rfl rfl rfl | exact Y_extract rfl rfl rfl | exact R_lenr tabOk rfl rfl rfl rfl | exact R_lenn tabOk rfl rfl rfl | exact R_indexr tabOk rfl rfl rfl rfl rfl rfl rfl (by omega) | exact R_fielde tabOk rfl rfl rfl rfl | exact R_loade tabOk rfl rfl rfl rfl rfl rfl rfl rfl rfl | exact Y_not rfl rfl | exact Y_pick_t rfl rfl (by first | rfl | assumption) rfl | exact Y_pick_f rfl rfl (by first | rfl | assumption) rfl | exact Y_pick_b rfl rfl rfl rfl | exact R_build tabOk rfl rfl rfl rfl rfl rfl | fail))
      | refine O_nil ?_
      | refine Q_nil ?_
      | refine X_then_normal ?_
      | refine X_in_normal ?_
      | refine O_box rfl rfl rfl rfl rfl rfl rfl ?_
      | refine O_alloc tabOk rfl rfl rfl rfl rfl rfl ?_
      | refine O_store tabOk rfl rfl rfl rfl rfl rfl rfl rfl rfl rfl rfl ?_
      | refine O_slice tabOk rfl rfl rfl rfl rfl rfl rfl rfl rfl rfl rfl ?_
      | refine A_condt rfl (by first | rfl | assumption | (first | (simp only [decide_eq_true_eq]; done) | (simp only [decide_eq_true_eq]; omega))) ?_
      | refine A_condf rfl (by first | rfl | assumption | (first | (simp only [decide_eq_false_iff_not]; done) | (simp only [decide_eq_false_iff_not]; omega))) ?_
      | refine A_skip ?_
      | refine A_exit ?_
      | refine A_ret ?_
      | refine X_then_exit ?_
      | refine X_then_ret ?_
      | refine X_in_same ?_
      | refine X_in_other rfl ?_
      | refine X_in_ret ?_
      | refine O_s rfl rfl rfl ?_
      | refine Q_s rfl rfl rfl ?_
      | refine O_sn rfl rfl ?_
      | fail)
    refine X_retW (((Wk_sel (e1 := [(4, .row 5)]) (h1 := [(5, .row 26 2 L.length ((sortP L).flatMap pfxD)), (1001, .mapx r bs clk (ents pfxA intA m)), (1000, tblB 1001 u)]) ⟨rfl, trivial⟩ ⟨rfl, rfl, rfl, trivial⟩).trans (Wk_close (mid := 1001) rfl)).trans (Wk_freeze (id := 5) rfl)) rfl (h2 := [(1000, tblB 1001 u), (1001, mapB m)]) ⟨rfl, freeze_map _ _ m, trivial⟩ ⟨?_, rfl⟩
    unfold pfxsA
    rw [hlen]
    rfl
  · obtain ⟨q, hq, rfl⟩ : ∃ q, m[j]? = some q ∧ p = (pfxA q.1, intA q.2) := by
      rw [ents, List.getElem?_map] at hp
      cases h1 : m[j]? with
      | none => simp [h1] at hp
      | some q => simp [h1] at hp; exact ⟨q, rfl, hp.symm⟩
    have hjm : j < m.length := (List.getElem?_eq_some_iff.1 hq).1
    have hnot : j ∉ js := fun h => by rw [(seen_has bs js hbp hbjl j b hb).2 h] at hs; cases hs
    have hq2 := his q (List.mem_of_getElem? hq)
    have hnd2 : (js ++ [j]).Nodup := List.nodup_append.2 ⟨hnd, by simp, by rintro a ha b hb rfl; simp at hb; subst hb; exact hnot ha⟩
    have hjl2 : ∀ i ∈ js ++ [j], i < m.length := fun i hi => by
      rcases List.mem_append.1 hi with h | h
      · exact hjl i h
      · simp at h; omega
    have hlen2 := nodup_len hnd2 hjl2
    rw [List.length_append] at hlen2
    simp at hlen2
    rw [seen_push bs js j b hb]
    have hcs := come_snoc m is js j q hq
    have hcl : (come m is js).length ≤ 1000000 := by
      have h1 : (come m is js).length ≤ js.length := Nat.le_trans (List.length_filter_le _ _) (List.length_filterMap_le _ _)
      omega
    cases hi : is q.1 with
    | true =>
      rw [hi] at hq2 hcs
      repeat (first
        | refine A_seq ?_
        | refine A_block ?_
        | refine R_list ?_
        | refine R_quiet rfl mixed (by kernel_rfl) ?_
        | ((first | apply O_y rfl rfl rfl | apply Q_y rfl rfl rfl); (first | exact Y_move rfl rfl | exact Y_assign rfl rfl | exact R_index tabOk rfl rfl rfl rfl rfl rfl (by omega) | exact R_fieldi tabOk rfl rfl rfl | exact R_loadi tabOk rfl rfl rfl rfl rfl rfl rfl | exact R_len tabOk rfl rfl rfl | exact R_load tabOk rfl rfl rfl rfl rfl rfl rfl rfl rfl | exact R_field tabOk rfl rfl rfl rfl | exact Y_add rfl rfl rfl (by first | exact wrap_succ (by omega) | exact wrap_pred (by omega) (by omega) | exact wrap_i64 ⟨by omega, by omega⟩ | rfl) | exact Y_sub rfl rfl rfl (by first | exact wrap_succ (by omega) | exact wrap_pred (by omega) (by omega) | exact wrap_i64 ⟨by omega, by omega⟩ | rfl) | exact R_cmpT rfl rfl rfl rfl (by first | (simp only [decide_eq_true_eq, beq_iff_eq, bne_iff_ne, ne_eq]; done) | (simp only [decide_eq_true_eq, beq_iff_eq, bne_iff_ne, ne_eq]; omega)) | exact R_cmpF rfl rfl rfl rfl (by first | (simp only [decide_eq_false_iff_not, beq_eq_false_iff_ne, bne_eq_false_iff_eq, ne_eq]; done) | (simp only [decide_eq_false_iff_not, beq_eq_false_iff_ne, bne_eq_false_iff_eq, ne_eq]; omega)) | exact Y_ibin rfl rfl rfl rfl | exact Y_extract rfl rfl rfl | exact R_lenr tabOk rfl rfl rfl rfl | exact R_lenn tabOk rfl rfl rfl | exact R_indexr tabOk rfl rfl rfl rfl rfl rfl rfl (by omega) | exact R_fielde tabOk rfl rfl rfl rfl | exact R_loade tabOk rfl rfl rfl rfl rfl rfl rfl rfl rfl | exact Y_not rfl rfl | exact Y_pick_t rfl rfl (by first | rfl | assumption) rfl | exact Y_pick_f rfl rfl (by first | rfl | assumption) rfl | exact Y_pick_b rfl rfl rfl rfl | exact R_build tabOk rfl rfl rfl rfl rfl rfl | (exact R_entry (mid := 1001) (p := (pfxA q.1, intA q.2)) rfl rfl (by rw [← seen_push bs js j b hb]; rfl) rfl hp hb rfl rfl)))
        | refine O_nil ?_
        | refine Q_nil ?_
        | refine X_then_normal ?_
        | refine X_in_normal ?_
        | refine O_box rfl rfl rfl rfl rfl rfl rfl ?_
        | refine O_alloc tabOk rfl rfl rfl rfl rfl rfl ?_
        | refine O_store tabOk rfl rfl rfl rfl rfl rfl rfl rfl rfl rfl rfl ?_
        | refine O_slice tabOk rfl rfl rfl rfl rfl rfl rfl rfl rfl rfl rfl ?_
        | refine A_condt rfl (by first | rfl | assumption | (first | (simp only [decide_eq_true_eq]; done) | (simp only [decide_eq_true_eq]; omega))) ?_
        | refine A_condf rfl (by first | rfl | assumption | (first | (simp only [decide_eq_false_iff_not]; done) | (simp only [decide_eq_false_iff_not]; omega))) ?_
        | refine A_skip ?_
        | refine A_exit ?_
        | refine A_ret ?_
        | refine X_then_exit ?_
        | refine X_then_ret ?_
        | refine X_in_same ?_
        | refine X_in_other rfl ?_
        | refine X_in_ret ?_
        | refine O_s rfl rfl rfl ?_
        | refine Q_s rfl rfl rfl ?_
        | refine O_sn rfl rfl ?_
        | fail)
      have hq3 : ACall Try.prog f ([pfxA q.1] ++ caps) [] (fun c h => c = boolA true ∧ h = []) := hq2
      refine O_weaken (Wk_sel (e1 := [(1, .fn f caps), (5, .row 5), (6, .ptr 6 0), (13, .ptr 13 0), (18, .fn f caps), (19, pfxA q.1)]) (h1 := [(6, .var [.d (.sc (.int .u32 q.1.a)), .d (.sc (.int .i64 q.1.b))]), (5, .row 26 2 (come m is js).length ((come m is js).flatMap pfxD)), (13, .it (.mapIter (some r) clk (seenOf bs (js ++ [j])) clk)), (1001, .mapx r bs clk (ents pfxA intA m)), (1000, tblB 1001 u)]) ⟨kill_fn (hcd _), rfl, rfl, rfl, kill_fn (hcd _), rfl, trivial⟩ ⟨rfl, rfl, rfl, congrArg some (kill_mapx _ _ _ _ _), rfl, trivial⟩) ?_
      refine O_cF rfl rfl rfl rfl rfl rfl hq3 (fun _ => rfl) ?_
      repeat (first
        | refine A_seq ?_
        | refine A_block ?_
        | refine R_list ?_
        | refine R_quiet rfl mixed (by kernel_rfl) ?_
        | ((first | apply O_y rfl rfl rfl | apply Q_y rfl rfl rfl); (first | exact Y_move rfl rfl | exact Y_assign rfl rfl | exact R_index tabOk rfl rfl rfl rfl rfl rfl (by omega) | exact R_fieldi tabOk rfl rfl rfl | exact R_loadi tabOk rfl rfl rfl rfl rfl rfl rfl | exact R_len tabOk rfl rfl rfl | exact R_load tabOk rfl rfl rfl rfl rfl rfl rfl rfl rfl | exact R_field tabOk rfl rfl rfl rfl | exact Y_add rfl rfl rfl (by first | exact wrap_succ (by omega) | exact wrap_pred (by omega) (by omega) | exact wrap_i64 ⟨by omega, by omega⟩ | rfl) | exact Y_sub rfl rfl rfl (by first | exact wrap_succ (by omega) | exact wrap_pred (by omega) (by omega) | exact wrap_i64 ⟨by omega, by omega⟩ | rfl) | exact R_cmpT rfl rfl rfl rfl (by first | (simp only [decide_eq_true_eq, beq_iff_eq, bne_iff_ne, ne_eq]; done) | (simp only [decide_eq_true_eq, beq_iff_eq, bne_iff_ne, ne_eq]; omega)) | exact R_cmpF rfl rfl rfl rfl (by first | (simp only [decide_eq_false_iff_not, beq_eq_false_iff_ne, bne_eq_false_iff_eq, ne_eq]; done) | (simp only [decide_eq_false_iff_not, beq_eq_false_iff_ne, bne_eq_false_iff_eq, ne_eq]; omega)) | exact Y_ibin rfl rfl rfl rfl | exact Y_extract rfl rfl rfl | exact R_lenr tabOk rfl rfl rfl rfl | exact R_lenn tabOk rfl rfl rfl | exact R_indexr tabOk rfl rfl rfl rfl rfl rfl rfl (by omega) | exact R_fielde tabOk rfl rfl rfl rfl | exact R_loade tabOk rfl rfl rfl rfl rfl rfl rfl rfl rfl | exact Y_not rfl rfl | exact Y_pick_t rfl rfl (by first | rfl | assumption) rfl | exact Y_pick_f rfl rfl (by first | rfl | assumption) rfl | exact Y_pick_b rfl rfl rfl rfl | exact R_build tabOk rfl rfl rfl rfl rfl rfl | fail))
        | refine O_nil ?_
        | refine Q_nil ?_
        | refine X_then_normal ?_
        | refine X_in_normal ?_
        | refine O_box rfl rfl rfl rfl rfl rfl rfl ?_
        | refine O_alloc tabOk rfl rfl rfl rfl rfl rfl ?_
        | refine O_store tabOk rfl rfl rfl rfl rfl rfl rfl rfl rfl rfl rfl ?_
        | refine O_slice tabOk rfl rfl rfl rfl rfl rfl rfl rfl rfl rfl rfl ?_
        | refine A_condt rfl (by first | rfl | assumption | (first | (simp only [decide_eq_true_eq]; done) | (simp only [decide_eq_true_eq]; omega))) ?_
        | refine A_condf rfl (by first | rfl | assumption | (first | (simp only [decide_eq_false_iff_not]; done) | (simp only [decide_eq_false_iff_not]; omega))) ?_
        | refine A_skip ?_
        | refine A_exit ?_
        | refine A_ret ?_
        | refine X_then_exit ?_
        | refine X_then_ret ?_
        | refine X_in_same ?_
        | refine X_in_other rfl ?_
        | refine X_in_ret ?_
        | refine O_s rfl rfl rfl ?_
        | refine Q_s rfl rfl rfl ?_
        | refine O_sn rfl rfl ?_
        | (first | refine O_appR tabOk rfl rfl rfl rfl rfl rfl rfl rfl rfl rfl rfl (by first | exact Src.row rfl | exact Src.dat _ _ | exact Src.nil) rfl (by omega) ?_ | refine O_appN tabOk rfl rfl rfl rfl rfl rfl rfl rfl rfl rfl (by first | exact Src.row rfl | exact Src.dat _ _ | exact Src.nil) rfl (by omega) ?_))
      exact ⟨js ++ [j], ⟨hnd2, hjl2⟩, by rw [List.length_append]; simp; omega, Wk_sel ⟨kill_fn2 (hcd _) (hcd _), rfl, rfl, trivial⟩ ⟨row_eq (by rw [hcs]; simp) (by rw [hcs, List.flatMap_append]; simp [pfxD]) rfl, rfl, kill_mapx2 _ _ _ _ _ _, rfl, trivial⟩⟩
    | false =>
      rw [hi] at hq2 hcs
      repeat (first
        | refine A_seq ?_
        | refine A_block ?_
        | refine R_list ?_
        | refine R_quiet rfl mixed (by kernel_rfl) ?_
        | ((first | apply O_y rfl rfl rfl | apply Q_y rfl rfl rfl); (first | exact Y_move rfl rfl | exact Y_assign rfl rfl | exact R_index tabOk rfl rfl rfl rfl rfl rfl (by omega) | exact R_fieldi tabOk rfl rfl rfl | exact R_loadi tabOk rfl rfl rfl rfl rfl rfl rfl | exact R_len tabOk rfl rfl rfl | exact R_load tabOk rfl rfl rfl rfl rfl rfl rfl rfl rfl | exact R_field tabOk rfl rfl rfl rfl | exact Y_add rfl rfl rfl (by first | exact wrap_succ (by omega) | exact wrap_pred (by omega) (by omega) | exact wrap_i64 ⟨by omega, by omega⟩ | rfl) | exact Y_sub rfl rfl rfl (by first | exact wrap_succ (by omega) | exact wrap_pred (by omega) (by omega) | exact wrap_i64 ⟨by omega, by omega⟩ | rfl) | exact R_cmpT rfl rfl rfl rfl (by first | (simp only [decide_eq_true_eq, beq_iff_eq, bne_iff_ne, ne_eq]; done) | (simp only [decide_eq_true_eq, beq_iff_eq, bne_iff_ne, ne_eq]; omega)) | exact R_cmpF rfl rfl rfl rfl (by first | (simp only [decide_eq_false_iff_not, beq_eq_false_iff_ne, bne_eq_false_iff_eq, ne_eq]; done) | (simp only [decide_eq_false_iff_not, beq_eq_false_iff_ne, bne_eq_false_iff_eq, ne_eq]; omega)) | exact Y_ibin rfl rfl rfl rfl | exact Y_extract rfl rfl rfl | exact R_lenr tabOk rfl rfl rfl rfl | exact R_lenn tabOk rfl rfl rfl | exact R_indexr tabOk rfl rfl rfl rfl rfl rfl rfl (by omega) | exact R_fielde tabOk rfl rfl rfl rfl | exact R_loade tabOk rfl rfl rfl rfl rfl rfl rfl rfl rfl | exact Y_not rfl rfl | exact Y_pick_t rfl rfl (by first | rfl | assumption) rfl | exact Y_pick_f rfl rfl (by first | rfl | assumption) rfl | exact Y_pick_b rfl rfl rfl rfl | exact R_build tabOk rfl rfl rfl rfl rfl rfl | (exact R_entry (mid := 1001) (p := (pfxA q.1, intA q.2)) rfl rfl (by rw [← seen_push bs js j b hb]; rfl) rfl hp hb rfl rfl)))
        | refine O_nil ?_
        | refine Q_nil ?_
        | refine X_then_normal ?_
        | refine X_in_normal ?_
        | refine O_box rfl rfl rfl rfl rfl rfl rfl ?_
        | refine O_alloc tabOk rfl rfl rfl rfl rfl rfl ?_
        | refine O_store tabOk rfl rfl rfl rfl rfl rfl rfl rfl rfl rfl rfl ?_
        | refine O_slice tabOk rfl rfl rfl rfl rfl rfl rfl rfl rfl rfl rfl ?_
        | refine A_condt rfl (by first | rfl | assumption | (first | (simp only [decide_eq_true_eq]; done) | (simp only [decide_eq_true_eq]; omega))) ?_
        | refine A_condf rfl (by first | rfl | assumption | (first | (simp only [decide_eq_false_iff_not]; done) | (simp only [decide_eq_false_iff_not]; omega))) ?_
        | refine A_skip ?_
        | refine A_exit ?_
        | refine A_ret ?_
        | refine X_then_exit ?_
        | refine X_then_ret ?_
        | refine X_in_same ?_
        | refine X_in_other rfl ?_
        | refine X_in_ret ?_
        | refine O_s rfl rfl rfl ?_
        | refine Q_s rfl rfl rfl ?_
        | refine O_sn rfl rfl ?_
        | fail)
      have hq3 : ACall Try.prog f ([pfxA q.1] ++ caps) [] (fun c h => c = boolA false ∧ h = []) := hq2
      refine O_weaken (Wk_sel (e1 := [(1, .fn f caps), (5, .row 5), (6, .ptr 6 0), (13, .ptr 13 0), (18, .fn f caps), (19, pfxA q.1)]) (h1 := [(6, .var [.d (.sc (.int .u32 q.1.a)), .d (.sc (.int .i64 q.1.b))]), (5, .row 26 2 (come m is js).length ((come m is js).flatMap pfxD)), (13, .it (.mapIter (some r) clk (seenOf bs (js ++ [j])) clk)), (1001, .mapx r bs clk (ents pfxA intA m)), (1000, tblB 1001 u)]) ⟨kill_fn (hcd _), rfl, rfl, rfl, kill_fn (hcd _), rfl, trivial⟩ ⟨rfl, rfl, rfl, congrArg some (kill_mapx _ _ _ _ _), rfl, trivial⟩) ?_
      refine O_cF rfl rfl rfl rfl rfl rfl hq3 (fun _ => rfl) ?_
      repeat (first
        | refine A_seq ?_
        | refine A_block ?_
        | refine R_list ?_
        | refine R_quiet rfl mixed (by kernel_rfl) ?_
        | ((first | apply O_y rfl rfl rfl | apply Q_y rfl rfl rfl); (first | exact Y_move rfl rfl | exact Y_assign rfl rfl | exact R_index tabOk rfl rfl rfl rfl rfl rfl (by omega) | exact R_fieldi tabOk rfl rfl rfl | exact R_loadi tabOk rfl rfl rfl rfl rfl rfl rfl | exact R_len tabOk rfl rfl rfl | exact R_load tabOk rfl rfl rfl rfl rfl rfl rfl rfl rfl | exact R_field tabOk rfl rfl rfl rfl | exact Y_add rfl rfl rfl (by first | exact wrap_succ (by omega) | exact wrap_pred (by omega) (by omega) | exact wrap_i64 ⟨by omega, by omega⟩ | rfl) | exact Y_sub rfl rfl rfl (by first | exact wrap_succ (by omega) | exact wrap_pred (by omega) (by omega) | exact wrap_i64 ⟨by omega, by omega⟩ | rfl) | exact R_cmpT rfl rfl rfl rfl (by first | (simp only [decide_eq_true_eq, beq_iff_eq, bne_iff_ne, ne_eq]; done) | (simp only [decide_eq_true_eq, beq_iff_eq, bne_iff_ne, ne_eq]; omega)) | exact R_cmpF rfl rfl rfl rfl (by first | (simp only [decide_eq_false_iff_not, beq_eq_false_iff_ne, bne_eq_false_iff_eq, ne_eq]; done) | (simp only [decide_eq_false_iff_not, beq_eq_false_iff_ne, bne_eq_false_iff_eq, ne_eq]; omega)) | exact Y_ibin rfl rfl rfl rfl | exact Y_extract rfl rfl rfl | exact R_lenr tabOk rfl rfl rfl rfl | exact R_lenn tabOk rfl rfl rfl | exact R_indexr tabOk rfl rfl rfl rfl rfl rfl rfl (by omega) | exact R_fielde tabOk rfl rfl rfl rfl | exact R_loade tabOk rfl rfl rfl rfl rfl rfl rfl rfl rfl | exact Y_not rfl rfl | exact Y_pick_t rfl rfl (by first | rfl | assumption) rfl | exact Y_pick_f rfl rfl (by first | rfl | assumption) rfl | exact Y_pick_b rfl rfl rfl rfl | exact R_build tabOk rfl rfl rfl rfl rfl rfl | fail))
        | refine O_nil ?_
        | refine Q_nil ?_
        | refine X_then_normal ?_
        | refine X_in_normal ?_
        | refine O_box rfl rfl rfl rfl rfl rfl rfl ?_
        | refine O_alloc tabOk rfl rfl rfl rfl rfl rfl ?_
        | refine O_store tabOk rfl rfl rfl rfl rfl rfl rfl rfl rfl rfl rfl ?_
        | refine O_slice tabOk rfl rfl rfl rfl rfl rfl rfl rfl rfl rfl rfl ?_
        | refine A_condt rfl (by first | rfl | assumption | (first | (simp only [decide_eq_true_eq]; done) | (simp only [decide_eq_true_eq]; omega))) ?_
        | refine A_condf rfl (by first | rfl | assumption | (first | (simp only [decide_eq_false_iff_not]; done) | (simp only [decide_eq_false_iff_not]; omega))) ?_
        | refine A_skip ?_
        | refine A_exit ?_
        | refine A_ret ?_
        | refine X_then_exit ?_
        | refine X_then_ret ?_
        | refine X_in_same ?_
        | refine X_in_other rfl ?_
        | refine X_in_ret ?_
        | refine O_s rfl rfl rfl ?_
        | refine Q_s rfl rfl rfl ?_
        | refine O_sn rfl rfl ?_
        | fail)
      exact ⟨js ++ [j], ⟨hnd2, hjl2⟩, by rw [List.length_append]; simp; omega, Wk_sel ⟨rfl, rfl, rfl, trivial⟩ ⟨row_eq (by rw [hcs]; simp) (by rw [hcs]; simp) rfl, rfl, rfl, rfl, trivial⟩⟩
end Go.Proofs.Ytaecjmjdhbjbkaa.Ab

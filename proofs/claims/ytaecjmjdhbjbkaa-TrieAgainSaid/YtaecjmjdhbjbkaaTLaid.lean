/-
  Tables by prefixes: the law's table of prefixes, each with its place.
-/
import Derived.Test.YtaecjmjdhbjbkaaTblAwake
namespace Go.Proofs.Ytaecjmjdhbjbkaa.Ab
set_option linter.unusedVariables false
set_option maxRecDepth 100000
open Go.RowKit
set_option linter.unusedSimpArgs false
attribute [local irreducible] AWp AOps AQ AYield AEff ACall AWk AAny AAt AThen AIn APost NoPanic

abbrev TS := (Nat → Int) × List (Pfx × Int)
def putS (s : TS) (p : Pfx) (v : Int) : TS := if chk p = 0 then (if (aget s.2 p).isSome then s.1 else bump s.1 p.b.toNat 1, Go.Proofs.Ytaecjmjdhbjbkaa.aput s.2 p v) else s
def laidS (l : List Pfx) : Nat → TS
  | 0 => (fun _ => 0, [])
  | k + 1 => match l[k]? with
    | some p => putS (laidS l k) p (k : Int)
    | none => laidS l k
/-- What such a table knows of the prefixes that were put. -/
structure TOk (s : TS) (k : Nat) : Prop where
  nd : (s.2.map (·.1)).Nodup
  good : ∀ p ∈ s.2, good p.1
  ok : ∀ p ∈ s.2, p.1.ok
  used : ∀ p ∈ s.2, 1 ≤ s.1 p.1.b.toNat
  ub : ∀ j, 0 ≤ s.1 j ∧ s.1 j ≤ k
  len : s.2.length ≤ k
theorem TOk.zero : TOk (fun _ => 0, []) 0 := ⟨.nil, by simp, by simp, by simp, fun _ => ⟨Int.le_refl _, Int.le_refl _⟩, Nat.le_refl _⟩
theorem TOk.put {s : TS} {k : Nat} (T : TOk s k) (p : Pfx) (v : Int) (hp : p.ok) : TOk (putS s p v) (k + 1) := by
  unfold putS
  by_cases hc : chk p = 0
  · rw [if_pos hc]
    have hg := (chk_eq p).1 hc
    have hmem : ∀ q ∈ Go.Proofs.Ytaecjmjdhbjbkaa.aput s.2 p v, q.1 = p ∨ q ∈ s.2 := fun q hq => by
      rcases (mem_aput T.nd).1 hq with h | h
      · exact .inl (by rw [h])
      · exact .inr h.2
    have hmono : ∀ j, s.1 j ≤ (if (aget s.2 p).isSome then s.1 else bump s.1 p.b.toNat 1) j := fun j => by
      split
      · exact Int.le_refl _
      · unfold bump; split <;> omega
    refine ⟨aput_nodup T.nd, fun q hq => ?_, fun q hq => ?_, fun q hq => ?_, fun j => ?_, ?_⟩
    · rcases hmem q hq with h | h
      · rw [h]; exact hg
      · exact T.good q h
    · rcases hmem q hq with h | h
      · rw [h]; exact hp
      · exact T.ok q h
    · rcases hmem q hq with h | h
      · rw [h]
        dsimp only
        split
        · rename_i hs
          obtain ⟨z, hz⟩ := Option.isSome_iff_exists.1 hs
          exact T.used _ (mem_of_aget hz)
        · have := (T.ub p.b.toNat).1
          unfold bump
          rw [if_pos rfl]
          omega
      · exact Int.le_trans (T.used q h) (hmono _)
    · have := T.ub j
      dsimp only
      split
      · exact ⟨this.1, by omega⟩
      · unfold bump; split <;> exact ⟨by omega, by omega⟩
    · dsimp only
      rw [aput_length]
      have := T.len
      split <;> omega
  · rw [if_neg hc]
    exact ⟨T.nd, T.good, T.ok, T.used, fun j => ⟨(T.ub j).1, by have := (T.ub j).2; omega⟩, by have := T.len; omega⟩
theorem laid_ok (l : List Pfx) (hl : ∀ p ∈ l, p.ok) : ∀ k, TOk (laidS l k) k
  | 0 => .zero
  | k + 1 => by
    rw [laidS]
    have ih := laid_ok l hl k
    cases h : l[k]? with
    | none =>
      show TOk (laidS l k) (k + 1)
      exact ⟨ih.nd, ih.good, ih.ok, ih.used, fun j => ⟨(ih.ub j).1, by have := (ih.ub j).2; omega⟩, by have := ih.len; omega⟩
    | some p => exact ih.put p k (hl p (List.mem_of_getElem? h))
theorem putS_get {s : TS} {k : Nat} (T : TOk s k) (p : Pfx) (v : Int) (hg : good p) (q : Pfx) : aget (putS s p v).2 q = if q = p then some v else aget s.2 q := by
  unfold putS
  rw [if_pos ((chk_eq p).2 hg)]
  exact aget_aput T.nd
theorem putS_bad (s : TS) (p : Pfx) (v : Int) (hg : ¬ good p) : putS s p v = s := by
  unfold putS
  rw [if_neg fun h => hg ((chk_eq p).1 h)]
/-- Each has the last place where it stands. -/
theorem laid_from (l : List Pfx) (hl : ∀ p ∈ l, p.ok) : ∀ k q z, aget (laidS l k).2 q = some z → ∃ i : Nat, i < k ∧ z = (i : Int) ∧ l[i]? = some q
  | 0, q, z, h => absurd (mem_of_aget h) (by simp [laidS])
  | k + 1, q, z, h => by
    rw [laidS] at h
    cases hk : l[k]? with
    | none =>
      rw [hk] at h
      have h : aget (laidS l k).2 q = some z := h
      obtain ⟨i, h1, h2, h3⟩ := laid_from l hl k q z h
      exact ⟨i, by omega, h2, h3⟩
    | some p =>
      rw [hk] at h
      have h : aget (putS (laidS l k) p (k : Int)).2 q = some z := h
      by_cases hg : good p
      · rw [putS_get (laid_ok l hl k) p _ hg] at h
        split at h
        · rename_i e
          cases h
          exact ⟨k, by omega, rfl, by rw [e]; exact hk⟩
        · obtain ⟨i, h1, h2, h3⟩ := laid_from l hl k q z h
          exact ⟨i, by omega, h2, h3⟩
      · rw [putS_bad _ _ _ hg] at h
        obtain ⟨i, h1, h2, h3⟩ := laid_from l hl k q z h
        exact ⟨i, by omega, h2, h3⟩
theorem laid_all (l : List Pfx) (hl : ∀ p ∈ l, p.ok) : ∀ k i q, i < k → l[i]? = some q → good q → ∃ z, aget (laidS l k).2 q = some z
  | 0, i, q, h, _, _ => by omega
  | k + 1, i, q, h, hq, hg => by
    rw [laidS]
    by_cases hik : i = k
    · subst hik
      rw [hq]
      exact ⟨(i : Int), by rw [putS_get (laid_ok l hl i) q _ hg, if_pos rfl]⟩
    · obtain ⟨z, hz⟩ := laid_all l hl k i q (by omega) hq hg
      cases hk : l[k]? with
      | none => exact ⟨z, hz⟩
      | some p =>
        by_cases hg2 : good p
        · by_cases e : q = p
          · exact ⟨(k : Int), by show aget (putS _ _ _).2 q = _; rw [putS_get (laid_ok l hl k) p _ hg2, if_pos e]⟩
          · exact ⟨z, by show aget (putS _ _ _).2 q = _; rw [putS_get (laid_ok l hl k) p _ hg2, if_neg e]; exact hz⟩
        · exact ⟨z, by show aget (putS _ _ _).2 q = _; rw [putS_bad _ _ _ hg2]; exact hz⟩

theorem putS_A (s : TS) (k : Nat) (T : TOk s k) (hk : k ≤ 1000000) (p : Pfx) (v : Int) (hp : p.ok) :
    ACall Try.prog 24 [.ptr 1000 0, pfxA p, intA v] [(1000, tblB 1001 s.1), (1001, mapB s.2)] (fun c h => c = intA (chk p) ∧ h = [(1000, tblB 1001 (putS s p v).1), (1001, mapB (putS s p v).2)]) :=
  (put_A s.1 s.2 p v hp T.nd fun j => ⟨(T.ub j).1, by have := (T.ub j).2; omega⟩).mono fun c h ⟨h1, h2⟩ => ⟨h1, by
    rw [h2]
    unfold putS
    split <;> rfl⟩
set_option maxHeartbeats 4000000 in
theorem laid_A (l : List Pfx) (hok : ∀ p ∈ l, p.ok) (hn : l.length ≤ 200) : ACall Try.prog 17 [pfxsA l] [] (fun c h => c = .ptr 3 0 ∧ h = [(3, tblB 902 (laidS l l.length).1), (902, mapB (laidS l l.length).2)]) := by
  refine ACall_of tabOk Try.func17 rfl Try.ntmps17 (congrArg Array.toList Try.results17) (by kernel_rfl) rfl ?_
  repeat (first
    | refine A_seq ?_
    | refine A_block ?_
    | refine R_list ?_
    | refine R_quiet rfl mixed (by kernel_rfl) ?_
    | ((first | apply O_y rfl rfl rfl | apply Q_y rfl rfl rfl); (first | exact Y_move rfl rfl | exact Y_assign rfl rfl | exact R_index tabOk rfl rfl rfl rfl rfl rfl (by omega) | exact R_fieldi tabOk rfl rfl rfl | exact R_loadi tabOk rfl rfl rfl rfl rfl rfl rfl | exact R_len tabOk rfl rfl rfl | exact R_load tabOk rfl rfl rfl rfl rfl rfl rfl rfl rfl | exact R_field tabOk rfl rfl rfl rfl | exact Y_add rfl rfl rfl (by first | exact wrap_succ (by omega) | exact wrap_pred (by omega) (by omega) | exact wrap_i64 ⟨by omega, by omega⟩ | rfl) | exact Y_sub rfl rfl rfl (by first | exact wrap_succ (by omega) | exact wrap_pred (by omega) (by omega) | exact wrap_i64 ⟨by omega, by omega⟩ | rfl) | exact R_cmpT rfl rfl rfl rfl (by first | (simp only [decide_eq_true_eq, beq_iff_eq, bne_iff_ne, ne_eq]; done) | (simp only [decide_eq_true_eq, beq_iff_eq, bne_iff_ne, ne_eq]; omega)) | exact R_cmpF rfl rfl rfl rfl (by first | (simp only [decide_eq_false_iff_not, beq_eq_false_iff_ne, bne_eq_false_iff_eq, ne_eq]; done) | (simp only [decide_eq_false_iff_not, beq_eq_false_iff_ne, bne_eq_false_iff_eq, ne_eq]; omega)) | exact Y_ibin rfl rfl rfl rfl | exact Y_extract rfl rfl rfl | exact R_lenr tabOk rfl rfl rfl rfl | exact R_lenn tabOk rfl rfl rfl | exact R_indexr tabOk rfl rfl rfl rfl rfl rfl rfl (by omega) | exact R_fielde tabOk rfl rfl rfl rfl | exact R_loade tabOk rfl rfl rfl rfl rfl rfl rfl rfl rfl | exact Y_not rfl rfl | exact Y_pick_t rfl rfl (by first | rfl | assumption) rfl | exact Y_pick_f rfl rfl (by first | rfl | assumption) rfl | exact Y_pick_b rfl rfl rfl rfl | exact R_build tabOk rfl rfl rfl rfl rfl rfl | fail))
    | refine O_nil ?_
    | refine Q_nil ?_
    | refine X_then_normal ?_
    | refine X_in_normal ?_
    | refine O_box rfl rfl rfl rfl rfl rfl rfl ?_
    | refine O_alloc tabOk rfl rfl rfl rfl rfl rfl ?_
    | refine O_store tabOk rfl rfl rfl rfl rfl rfl rfl rfl rfl rfl rfl ?_
    | refine O_slice tabOk rfl rfl rfl rfl rfl rfl rfl rfl rfl rfl rfl ?_
    | refine A_condt rfl (by first | rfl | assumption | (first | (simp only [decide_eq_true_eq]; done) | (simp only [decide_eq_true_eq]; omega))) ?_
    | refine A_condf rfl (by first | rfl | assumption | (first | (simp only [decide_eq_false_iff_not]; done) | (simp only [decide_eq_false_iff_not]; omega))) ?_
    | refine A_skip ?_
    | refine A_exit ?_
    | refine A_ret ?_
    | refine X_then_exit ?_
    | refine X_then_ret ?_
    | refine X_in_same ?_
    | refine X_in_other rfl ?_
    | refine X_in_ret ?_
    | refine O_s rfl rfl rfl ?_
    | refine Q_s rfl rfl rfl ?_
    | refine O_sn rfl rfl ?_
    | (refine O_cNew new_A rfl rfl rfl rfl rfl ?_))
  refine A_loop (fun k : Nat => [(0, pfxsA l), (3, .ptr 3 0), (4, intA (k : Int))]) (fun k => [(3, tblB 902 (laidS l k).1), (902, mapB (laidS l k).2)]) (fun k => k ≤ l.length) (fun k => l.length - k) 0 (by omega) (Wk_sel ⟨rfl, rfl, rfl, trivial⟩ ⟨rfl, rfl, trivial⟩) ?_
  intro k hk
  dsimp only
  by_cases hlt : k < l.length
  · have hput := putS_A (laidS l k) k (laid_ok l hok k) (by omega) l[k] (k : Int) (hok _ (List.getElem_mem hlt))
    have hst : laidS l (k + 1) = putS (laidS l k) l[k] (k : Int) := by rw [laidS, List.getElem?_eq_getElem hlt]
    repeat (first
      | refine A_seq ?_
      | refine A_block ?_
      | refine R_list ?_
      | refine R_quiet rfl mixed (by kernel_rfl) ?_
      | ((first | apply O_y rfl rfl rfl | apply Q_y rfl rfl rfl); (first | exact Y_move rfl rfl | exact Y_assign rfl rfl | exact R_index tabOk rfl rfl rfl rfl rfl rfl (by omega) | exact R_fieldi tabOk rfl rfl rfl | exact R_loadi tabOk rfl rfl rfl rfl (by first | exact win_flat0 pfxD_len l k _ hlt (by decide) | exact win_flat pfxD_len l k _ _ hlt (by decide) | exact win_flat2 pfxD_len l k _ _ _ hlt (by decide) | rfl) rfl rfl | exact R_len tabOk rfl rfl rfl | exact R_load tabOk rfl rfl rfl rfl rfl rfl rfl rfl rfl | exact R_field tabOk rfl rfl rfl rfl | exact Y_add rfl rfl rfl (by first | exact wrap_succ (by omega) | exact wrap_pred (by omega) (by omega) | exact wrap_i64 ⟨by omega, by omega⟩ | rfl) | exact Y_sub rfl rfl rfl (by first | exact wrap_succ (by omega) | exact wrap_pred (by omega) (by omega) | exact wrap_i64 ⟨by omega, by omega⟩ | rfl) | exact R_cmpT rfl rfl rfl rfl (by first | (simp only [decide_eq_true_eq, beq_iff_eq, bne_iff_ne, ne_eq]; done) | (simp only [decide_eq_true_eq, beq_iff_eq, bne_iff_ne, ne_eq]; omega)) | exact R_cmpF rfl rfl rfl rfl (by first | (simp only [decide_eq_false_iff_not, beq_eq_false_iff_ne, bne_eq_false_iff_eq, ne_eq]; done) | (simp only [decide_eq_false_iff_not, beq_eq_false_iff_ne, bne_eq_false_iff_eq, ne_eq]; omega)) | exact Y_ibin rfl rfl rfl rfl | exact Y_extract rfl rfl rfl | exact R_lenr tabOk rfl rfl rfl rfl | exact R_lenn tabOk rfl rfl rfl | exact R_indexr tabOk rfl rfl rfl rfl rfl rfl rfl (by omega) | exact R_fielde tabOk rfl rfl rfl rfl | exact R_loade tabOk rfl rfl rfl rfl rfl rfl rfl rfl rfl | exact Y_not rfl rfl | exact Y_pick_t rfl rfl (by first | rfl | assumption) rfl | exact Y_pick_f rfl rfl (by first | rfl | assumption) rfl | exact Y_pick_b rfl rfl rfl rfl | exact R_build tabOk rfl rfl rfl rfl rfl rfl | fail))
      | refine O_nil ?_
      | refine Q_nil ?_
      | refine X_then_normal ?_
      | refine X_in_normal ?_
      | refine O_box rfl rfl rfl rfl rfl rfl rfl ?_
      | refine O_alloc tabOk rfl rfl rfl rfl rfl rfl ?_
      | refine O_store tabOk rfl rfl rfl rfl rfl rfl rfl rfl rfl rfl rfl ?_
      | refine O_slice tabOk rfl rfl rfl rfl rfl rfl rfl rfl rfl rfl rfl ?_
      | refine A_condt rfl (by first | rfl | assumption | (first | (simp only [decide_eq_true_eq]; done) | (simp only [decide_eq_true_eq]; omega))) ?_
      | refine A_condf rfl (by first | rfl | assumption | (first | (simp only [decide_eq_false_iff_not]; done) | (simp only [decide_eq_false_iff_not]; omega))) ?_
      | refine A_skip ?_
      | refine A_exit ?_
      | refine A_ret ?_
      | refine X_then_exit ?_
      | refine X_then_ret ?_
      | refine X_in_same ?_
      | refine X_in_other rfl ?_
      | refine X_in_ret ?_
      | refine O_s rfl rfl rfl ?_
      | refine Q_s rfl rfl rfl ?_
      | refine O_sn rfl rfl ?_
      | (refine O_cTbl 3 902 (by omega) hput rfl rfl rfl rfl rfl rfl rfl rfl rfl ?_))
    exact ⟨k + 1, by omega, by omega, Wk_sel ⟨rfl, rfl, rfl, trivial⟩ ⟨by rw [hst]; rfl, by rw [hst]; rfl, trivial⟩⟩
  · have hkk : k = l.length := by omega
    subst hkk
    repeat (first
      | refine A_seq ?_
      | refine A_block ?_
      | refine R_list ?_
      | refine R_quiet rfl mixed (by kernel_rfl) ?_
      | ((first | apply O_y rfl rfl rfl | apply Q_y rfl rfl rfl); (first | exact Y_move rfl rfl | exact Y_assign rfl rfl | exact R_index tabOk rfl rfl rfl rfl rfl rfl (by omega) | exact R_fieldi tabOk rfl rfl rfl | exact R_loadi tabOk rfl rfl rfl rfl rfl rfl rfl | exact R_len tabOk rfl rfl rfl | exact R_load tabOk rfl rfl rfl rfl rfl rfl rfl rfl rfl | exact R_field tabOk rfl rfl rfl rfl | exact Y_add rfl rfl rfl (by first | exact wrap_succ (by omega) | exact wrap_pred (by omega) (by omega) | exact wrap_i64 ⟨by omega, by omega⟩ | rfl) | exact Y_sub rfl rfl rfl (by first | exact wrap_succ (by omega) | exact wrap_pred (by omega) (by omega) | exact wrap_i64 ⟨by omega, by omega⟩ | rfl) | exact R_cmpT rfl rfl rfl rfl (by first | (simp only [decide_eq_true_eq, beq_iff_eq, bne_iff_ne, ne_eq]; done) | (simp only [decide_eq_true_eq, beq_iff_eq, bne_iff_ne, ne_eq]; omega)) | exact R_cmpF rfl rfl rfl rfl (by first | (simp only [decide_eq_false_iff_not, beq_eq_false_iff_ne, bne_eq_false_iff_eq, ne_eq]; done) | (simp only [decide_eq_false_iff_not, beq_eq_false_iff_ne, bne_eq_false_iff_eq, ne_eq]; omega)) | exact Y_ibin rfl rfl rfl rfl | exact Y_extract rfl rfl rfl | exact R_lenr tabOk rfl rfl rfl rfl | exact R_lenn tabOk rfl rfl rfl | exact R_indexr tabOk rfl rfl rfl rfl rfl rfl rfl (by omega) | exact R_fielde tabOk rfl rfl rfl rfl | exact R_loade tabOk rfl rfl rfl rfl rfl rfl rfl rfl rfl | exact Y_not rfl rfl | exact Y_pick_t rfl rfl (by first | rfl | assumption) rfl | exact Y_pick_f rfl rfl (by first | rfl | assumption) rfl | exact Y_pick_b rfl rfl rfl rfl | exact R_build tabOk rfl rfl rfl rfl rfl rfl | fail))
      | refine O_nil ?_
      | refine Q_nil ?_
      | refine X_then_normal ?_
      | refine X_in_normal ?_
      | refine O_box rfl rfl rfl rfl rfl rfl rfl ?_
      | refine O_alloc tabOk rfl rfl rfl rfl rfl rfl ?_
      | refine O_store tabOk rfl rfl rfl rfl rfl rfl rfl rfl rfl rfl rfl ?_
      | refine O_slice tabOk rfl rfl rfl rfl rfl rfl rfl rfl rfl rfl rfl ?_
      | refine A_condt rfl (by first | rfl | assumption | (first | (simp only [decide_eq_true_eq]; done) | (simp only [decide_eq_true_eq]; omega))) ?_
      | refine A_condf rfl (by first | rfl | assumption | (first | (simp only [decide_eq_false_iff_not]; done) | (simp only [decide_eq_false_iff_not]; omega))) ?_
      | refine A_skip ?_
      | refine A_exit ?_
      | refine A_ret ?_
      | refine X_then_exit ?_
      | refine X_then_ret ?_
      | refine X_in_same ?_
      | refine X_in_other rfl ?_
      | refine X_in_ret ?_
      | refine O_s rfl rfl rfl ?_
      | refine Q_s rfl rfl rfl ?_
      | refine O_sn rfl rfl ?_
      | fail)
    exact X_retW AWk.refl rfl (h2 := [(3, tblB 902 (laidS l l.length).1), (902, mapB (laidS l l.length).2)]) ⟨rfl, rfl, trivial⟩ ⟨rfl, rfl⟩
end Go.Proofs.Ytaecjmjdhbjbkaa.Ab

/-
  The plain law of rows in order: Put.
-/
import Derived.Test.YtplgpbadpdmeeaaRefRows
import Derived.Test.YtplgpbadpdmeeaaSortP
namespace Go.Proofs.Ytplgpbadpdmeeaa
set_option linter.unusedVariables false
open Go.Sort

/-- In order, no prefix twice. -/
def Ord (l : List Row) : Prop := l.Pairwise fun x y => ltOf cmpP x.1 y.1 = true
theorem cmpP_zero (p q : Pfx) : cmpP p q = 0 ↔ p = q := by
  unfold cmpP
  split
  · rename_i h
    constructor
    · intro h2; omega
    · rintro rfl; omega
  · split
    · rename_i h; simp [h]
    · rename_i h; simp [h]
theorem cmpP_neg (p q : Pfx) : cmpP p q < 0 ↔ ltOf cmpP p q = true := by unfold ltOf; simp
theorem ltP_irrefl (p : Pfx) : ltOf cmpP p p = false := swoP.irrefl p
theorem ltP_trans {p q r : Pfx} (h1 : ltOf cmpP p q = true) (h2 : ltOf cmpP q r = true) : ltOf cmpP p r = true := swoP.trans p q r h1 h2
theorem ltP_tri (p q : Pfx) (h1 : ¬ cmpP p q < 0) (h2 : cmpP p q ≠ 0) : ltOf cmpP q p = true := by
  rw [cmpP_neg, Bool.not_eq_true] at h1
  rw [Ne, cmpP_zero] at h2
  cases h : ltOf cmpP q p
  · exact absurd (antiP p q h1 h) h2
  · rfl
/-- Put, by recursion. -/
def putRec (p : Pfx) (v : Int) : List Row → List Row
  | [] => [(p, v)]
  | x :: t => if cmpP p x.1 < 0 then (p, v) :: x :: t else if cmpP p x.1 = 0 then (p, v) :: t else x :: putRec p v t
theorem fold_done (p : Pfx) (v : Int) (t : List Row) : ∀ acc, (∀ y ∈ t, ltOf cmpP p y.1 = true) → t.foldl (putStep p v) (acc, true) = (acc ++ t, true) := by
  induction t with
  | nil => intro acc _; simp
  | cons x t ih =>
    intro acc h
    have hx := (cmpP_neg p x.1).2 (h x (by simp))
    rw [List.foldl_cons, putStep_eq _ _ _ _ _ _ rfl, if_neg (by omega), if_neg (by simp)]
    rw [Bool.true_or, ih _ (fun y hy => h y (by simp [hy]))]
    simp
theorem putStep_lt (p : Pfx) (v : Int) (xs : List Row) (x : Row) (h : cmpP p x.1 < 0) : putStep p v (xs, false) x = (xs ++ [(p, v)] ++ [x], true) := by
  rw [putStep_eq _ _ _ _ _ _ rfl]
  have h1 : cmpP p x.1 ≤ 0 := by omega
  have h2 : cmpP p x.1 ≠ 0 := by omega
  simp [h1, h2]
theorem putStep_zero (p : Pfx) (v : Int) (xs : List Row) (x : Row) (h : cmpP p x.1 = 0) : putStep p v (xs, false) x = (xs ++ [(p, v)], true) := by
  rw [putStep_eq _ _ _ _ _ _ rfl]
  simp [h]
theorem putStep_gt (p : Pfx) (v : Int) (xs : List Row) (x : Row) (h1 : ¬ cmpP p x.1 < 0) (h2 : ¬ cmpP p x.1 = 0) : putStep p v (xs, false) x = (xs ++ [x], false) := by
  rw [putStep_eq _ _ _ _ _ _ rfl]
  have h3 : ¬ cmpP p x.1 ≤ 0 := by omega
  simp [h2, h3]
theorem fold_rec (p : Pfx) (v : Int) (t : List Row) : ∀ acc, Ord t → (if (t.foldl (putStep p v) (acc, false)).2 then (t.foldl (putStep p v) (acc, false)).1 else (t.foldl (putStep p v) (acc, false)).1 ++ [(p, v)]) = acc ++ putRec p v t := by
  induction t with
  | nil => intro acc _; simp [putRec]
  | cons x t ih =>
    intro acc h
    have hp := List.pairwise_cons.1 h
    rw [List.foldl_cons]
    by_cases h1 : cmpP p x.1 < 0
    · have hl := (cmpP_neg _ _).1 h1
      have : ∀ y ∈ t, ltOf cmpP p y.1 = true := fun y hy => ltP_trans hl (hp.1 y hy)
      rw [putStep_lt _ _ _ _ h1, fold_done _ _ _ _ this]
      simp [putRec, h1]
    · by_cases h2 : cmpP p x.1 = 0
      · have he := (cmpP_zero _ _).1 h2
        have : ∀ y ∈ t, ltOf cmpP p y.1 = true := fun y hy => by rw [he]; exact hp.1 y hy
        rw [putStep_zero _ _ _ _ h2, fold_done _ _ _ _ this]
        simp [putRec, h2]
      · rw [putStep_gt _ _ _ _ h1 h2, ih (acc ++ [x]) hp.2]
        simp [putRec, h1, h2]
theorem putR_rec (l : List Row) (p : Pfx) (v : Int) (hp : chk p = 0) (hl : Ord l) : putR l p v = putRec p v l := by
  unfold putR putFold
  rw [if_pos hp]
  have := fold_rec p v l [] hl
  simpa using this
theorem putRec_mem (p : Pfx) (v : Int) (l : List Row) (hl : Ord l) (r : Row) : r ∈ putRec p v l ↔ r = (p, v) ∨ (r ∈ l ∧ r.1 ≠ p) := by
  induction l with
  | nil => simp [putRec]
  | cons x t ih =>
    have hp := List.pairwise_cons.1 hl
    unfold putRec
    split
    · rename_i h1
      have hl1 := (cmpP_neg _ _).1 h1
      constructor
      · intro h
        rcases List.mem_cons.1 h with rfl | h
        · exact .inl rfl
        · refine .inr ⟨h, ?_⟩
          intro hr
          rcases List.mem_cons.1 h with rfl | h
          · rw [hr, ltP_irrefl] at hl1; cases hl1
          · have := ltP_trans hl1 (hp.1 r h); rw [hr, ltP_irrefl] at this; cases this
      · rintro (rfl | ⟨h, _⟩)
        · simp
        · exact List.mem_cons_of_mem _ h
    · split
      · rename_i h1 h2
        have he := (cmpP_zero _ _).1 h2
        constructor
        · intro h
          rcases List.mem_cons.1 h with rfl | h
          · exact .inl rfl
          · refine .inr ⟨by simp [h], ?_⟩
            rintro hr
            have := hp.1 r h
            rw [hr, he, ltP_irrefl] at this; cases this
        · rintro (rfl | ⟨h, hn⟩)
          · simp
          · rcases List.mem_cons.1 h with rfl | h
            · exact absurd he.symm hn
            · exact List.mem_cons_of_mem _ h
      · rename_i h1 h2
        have hl1 := ltP_tri _ _ h1 h2
        rw [List.mem_cons, ih hp.2]
        constructor
        · rintro (rfl | rfl | ⟨h, hn⟩)
          · refine .inr ⟨by simp, ?_⟩
            intro hr; rw [hr, ltP_irrefl] at hl1; cases hl1
          · exact .inl rfl
          · exact .inr ⟨by simp [h], hn⟩
        · rintro (rfl | ⟨h, hn⟩)
          · exact .inr (.inl rfl)
          · rcases List.mem_cons.1 h with rfl | h
            · exact .inl rfl
            · exact .inr (.inr ⟨h, hn⟩)
theorem putRec_ord (p : Pfx) (v : Int) (l : List Row) (hl : Ord l) : Ord (putRec p v l) := by
  induction l with
  | nil => exact List.pairwise_singleton _ _
  | cons x t ih =>
    have hp := List.pairwise_cons.1 hl
    unfold putRec
    split
    · rename_i h1
      have hl1 := (cmpP_neg _ _).1 h1
      refine List.pairwise_cons.2 ⟨fun y hy => ?_, hl⟩
      rcases List.mem_cons.1 hy with rfl | hy
      · exact hl1
      · exact ltP_trans hl1 (hp.1 y hy)
    · split
      · rename_i h1 h2
        have he := (cmpP_zero _ _).1 h2
        exact List.pairwise_cons.2 ⟨fun y hy => by show ltOf cmpP p y.1 = true; rw [he]; exact hp.1 y hy, hp.2⟩
      · rename_i h1 h2
        have hl1 := ltP_tri _ _ h1 h2
        refine List.pairwise_cons.2 ⟨fun y hy => ?_, ih hp.2⟩
        rcases (putRec_mem p v t hp.2 y).1 hy with rfl | ⟨h, _⟩
        · exact hl1
        · exact hp.1 y h
theorem putR_ord (l : List Row) (p : Pfx) (v : Int) (hl : Ord l) : Ord (putR l p v) := by
  by_cases hp : chk p = 0
  · rw [putR_rec l p v hp hl]; exact putRec_ord p v l hl
  · unfold putR; rw [if_neg hp]; exact hl
theorem putR_mem (l : List Row) (p : Pfx) (v : Int) (hp : chk p = 0) (hl : Ord l) (r : Row) : r ∈ putR l p v ↔ r = (p, v) ∨ (r ∈ l ∧ r.1 ≠ p) := by
  rw [putR_rec l p v hp hl]; exact putRec_mem p v l hl r
end Go.Proofs.Ytplgpbadpdmeeaa

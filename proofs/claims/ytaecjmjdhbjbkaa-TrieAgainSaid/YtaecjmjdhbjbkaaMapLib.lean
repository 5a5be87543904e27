/-
  Maps whose keys are structs, made by the call: what a map's block holds as an ordered list of keys and values; look-up, store, delete, len, range over it.
-/
import Derived.Test.YtaecjmjdhbjbkaaBase
import Derived.Maps.Own
namespace Go.Proofs.Ytaecjmjdhbjbkaa
set_option linter.unusedVariables false
set_option linter.unusedSectionVars false
open Go.RowKit Go.Sort

section
variable {κ ν : Type} [DecidableEq κ]
/-- The place and the value of a key. -/
def mget : List (κ × ν) → κ → Option (Nat × ν)
  | [], _ => none
  | (k', v) :: r, k => if k = k' then some (0, v) else (mget r k).map fun x => (x.1 + 1, x.2)
def aget (l : List (κ × ν)) (k : κ) : Option ν := (mget l k).map (·.2)
def aput (l : List (κ × ν)) (k : κ) (v : ν) : List (κ × ν) := match mget l k with
  | some (i, _) => l.set i (k, v)
  | none => l ++ [(k, v)]
def adel (l : List (κ × ν)) (k : κ) : List (κ × ν) := match mget l k with
  | some (i, _) => l.eraseIdx i
  | none => l

theorem mget_some {l : List (κ × ν)} {k : κ} {i : Nat} {v : ν} (h : mget l k = some (i, v)) : l[i]? = some (k, v) := by
  induction l generalizing i with
  | nil => cases h
  | cons p r ih =>
    obtain ⟨k', v'⟩ := p
    unfold mget at h
    split at h
    · rename_i e
      injection h with h
      injection h with h1 h2
      subst h1 h2 e
      rfl
    · cases hr : mget r k with
      | none => simp [hr] at h
      | some x =>
        simp only [hr, Option.map_some, Option.some.injEq, Prod.mk.injEq] at h
        obtain ⟨rfl, rfl⟩ := h
        simpa using ih hr
theorem mget_none {l : List (κ × ν)} {k : κ} (h : mget l k = none) : ∀ p ∈ l, p.1 ≠ k := by
  induction l with
  | nil => intro p hp; cases hp
  | cons q r ih =>
    obtain ⟨k', v'⟩ := q
    unfold mget at h
    split at h
    · cases h
    · rename_i hne
      intro p hp
      rcases List.mem_cons.1 hp with rfl | hp
      · exact fun e => hne e.symm
      · exact ih (by simpa using h) p hp
theorem aget_none {l : List (κ × ν)} {k : κ} (h : aget l k = none) : ∀ p ∈ l, p.1 ≠ k := mget_none (by simpa [aget] using h)
theorem mem_of_aget {l : List (κ × ν)} {k : κ} {v : ν} (h : aget l k = some v) : (k, v) ∈ l := by
  unfold aget at h
  cases hm : mget l k with
  | none => simp [hm] at h
  | some x =>
    obtain ⟨i, u⟩ := x
    simp [hm] at h
    subst h
    exact List.mem_of_getElem? (mget_some hm)
theorem aget_of_mem {l : List (κ × ν)} (hn : (l.map (·.1)).Nodup) {k : κ} {v : ν} (h : (k, v) ∈ l) : aget l k = some v := by
  cases hg : aget l k with
  | none => exact absurd rfl (aget_none hg _ h)
  | some u =>
    have h2 := mem_of_aget hg
    have : ∀ {l : List (κ × ν)}, (l.map (·.1)).Nodup → ∀ {u v : ν}, (k, u) ∈ l → (k, v) ∈ l → u = v := by
      intro l
      induction l with
      | nil => intro _ u v h; cases h
      | cons p r ih =>
        intro hn u v hu hv
        rw [List.map_cons, List.nodup_cons] at hn
        rcases List.mem_cons.1 hu with hu | hu
        · rcases List.mem_cons.1 hv with hv | hv
          · rw [← hu] at hv; injection hv with _ h; exact h.symm
          · exact absurd (List.mem_map.2 ⟨_, hv, by rw [← hu]⟩) hn.1
        · rcases List.mem_cons.1 hv with hv | hv
          · exact absurd (List.mem_map.2 ⟨_, hu, by rw [← hv]⟩) hn.1
          · exact ih hn.2 hu hv
    rw [this hn h2 h]
theorem aput_length {l : List (κ × ν)} {k : κ} {v : ν} : (aput l k v).length = if (aget l k).isSome then l.length else l.length + 1 := by
  unfold aput aget
  cases h : mget l k <;> simp
theorem set_keys {l : List (κ × ν)} {k : κ} {u v : ν} {i : Nat} (h : l[i]? = some (k, u)) : (l.set i (k, v)).map (·.1) = l.map (·.1) := by
  apply List.ext_getElem?
  intro j
  rw [List.getElem?_map, List.getElem?_set, List.getElem?_map]
  split
  · rename_i e
    subst e
    obtain ⟨hlt, h2⟩ := List.getElem?_eq_some_iff.1 h
    simp [hlt, h2]
  · rfl
theorem aput_nodup {l : List (κ × ν)} {k : κ} {v : ν} (hn : (l.map (·.1)).Nodup) : ((aput l k v).map (·.1)).Nodup := by
  unfold aput
  cases h : mget l k with
  | some x => obtain ⟨i, u⟩ := x; simp only; rw [set_keys (mget_some h)]; exact hn
  | none =>
    simp only [List.map_append, List.map_cons, List.map_nil]
    rw [List.nodup_append]
    refine ⟨hn, by simp, ?_⟩
    intro a ha b hb
    simp at hb
    subst hb
    obtain ⟨p, hp, rfl⟩ := List.mem_map.1 ha
    exact mget_none h p hp
theorem adel_nodup {l : List (κ × ν)} {k : κ} (hn : (l.map (·.1)).Nodup) : ((adel l k).map (·.1)).Nodup := by
  unfold adel
  cases h : mget l k with
  | some x => obtain ⟨i, u⟩ := x; exact hn.sublist ((List.eraseIdx_sublist l i).map _)
  | none => exact hn
theorem mem_aput {l : List (κ × ν)} (hn : (l.map (·.1)).Nodup) {k : κ} {v : ν} {p : κ × ν} : p ∈ aput l k v ↔ p = (k, v) ∨ p.1 ≠ k ∧ p ∈ l := by
  have hnd := aput_nodup (k := k) (v := v) hn
  unfold aput at *
  cases h : mget l k with
  | none =>
    have hnone := mget_none h
    simp only [List.mem_append, List.mem_singleton]
    constructor
    · rintro (h1 | h1)
      · exact .inr ⟨hnone p h1, h1⟩
      · exact .inl h1
    · rintro (h1 | ⟨_, h1⟩)
      · exact .inr h1
      · exact .inl h1
  | some x =>
    obtain ⟨i, u⟩ := x
    have hi := mget_some h
    have hlt : i < l.length := (List.getElem?_eq_some_iff.1 hi).1
    simp only [h] at hnd
    simp only
    constructor
    · intro hp
      by_cases hk : p.1 = k
      · left
        have h1 : (k, v) ∈ l.set i (k, v) := List.mem_of_getElem? (i := i) (by rw [List.getElem?_set]; simp [hlt])
        have e1 := aget_of_mem hnd h1
        have e2 := aget_of_mem hnd (k := k) (v := p.2) (by rw [show (k, p.2) = p from by rw [← hk]]; exact hp)
        rw [e1] at e2
        injection e2 with e2
        rw [← hk, e2]
      · right
        refine ⟨hk, ?_⟩
        obtain ⟨j, hj⟩ := List.getElem?_of_mem hp
        rw [List.getElem?_set] at hj
        by_cases e : i = j
        · simp [e] at hj
          exact absurd (by rw [← hj.2]) hk
        · rw [if_neg e] at hj; exact List.mem_of_getElem? hj
    · rintro (h1 | ⟨hk, h1⟩)
      · subst h1
        exact List.mem_of_getElem? (i := i) (by rw [List.getElem?_set]; simp [hlt])
      · obtain ⟨j, hj⟩ := List.getElem?_of_mem h1
        refine List.mem_of_getElem? (i := j) ?_
        rw [List.getElem?_set]
        split
        · rename_i e
          subst e
          rw [hi] at hj
          injection hj with hj
          exact absurd (by rw [← hj]) hk
        · exact hj
theorem aget_iff {l : List (κ × ν)} (hn : (l.map (·.1)).Nodup) {k : κ} {v : ν} : aget l k = some v ↔ (k, v) ∈ l := ⟨mem_of_aget, aget_of_mem hn⟩
theorem aget_aput {l : List (κ × ν)} (hn : (l.map (·.1)).Nodup) {k k' : κ} {v : ν} : aget (aput l k v) k' = if k' = k then some v else aget l k' := by
  apply Option.ext
  intro u
  rw [aget_iff (aput_nodup hn), mem_aput hn]
  split
  · rename_i e
    subst e
    simp [eq_comm]
  · rename_i e
    rw [aget_iff hn]
    simp [e]
theorem mem_adel {l : List (κ × ν)} (hn : (l.map (·.1)).Nodup) {k : κ} {p : κ × ν} : p ∈ adel l k ↔ p.1 ≠ k ∧ p ∈ l := by
  unfold adel
  cases h : mget l k with
  | none => exact ⟨fun hp => ⟨mget_none h p hp, hp⟩, fun hp => hp.2⟩
  | some x =>
    obtain ⟨i, u⟩ := x
    have hi := mget_some h
    have hlt : i < l.length := (List.getElem?_eq_some_iff.1 hi).1
    simp only
    have hsub : ∀ q ∈ l.eraseIdx i, q ∈ l := fun q hq => (List.eraseIdx_sublist l i).subset hq
    constructor
    · intro hp
      refine ⟨?_, hsub p hp⟩
      intro hk
      obtain ⟨j, hj⟩ := List.getElem?_of_mem hp
      rw [List.getElem?_eraseIdx] at hj
      have hkeys : ∀ a b : Nat, a ≠ b → ∀ x y, l[a]? = some x → l[b]? = some y → x.1 ≠ y.1 := by
        intro a b hab x y hx hy e
        have h1 : (l.map (·.1))[a]? = some x.1 := by rw [List.getElem?_map, hx]; rfl
        have h2 : (l.map (·.1))[b]? = some x.1 := by rw [List.getElem?_map, hy, e]; rfl
        have la := (List.getElem?_eq_some_iff.1 h1).1
        exact hab ((List.getElem?_inj la hn).1 (h1.trans h2.symm))
      split at hj
      · exact hkeys j i (by omega) _ _ hj hi hk
      · exact hkeys (j + 1) i (by omega) _ _ hj hi hk
    · rintro ⟨hk, hp⟩
      obtain ⟨j, hj⟩ := List.getElem?_of_mem hp
      have hji : j ≠ i := by
        rintro rfl
        rw [hi] at hj
        injection hj with hj
        exact hk (by rw [← hj])
      by_cases hlt2 : j < i
      · exact List.mem_of_getElem? (i := j) (by rw [List.getElem?_eraseIdx, if_pos hlt2]; exact hj)
      · exact List.mem_of_getElem? (i := j - 1) (by rw [List.getElem?_eraseIdx, if_neg (by omega), show j - 1 + 1 = j by omega]; exact hj)
theorem aget_adel {l : List (κ × ν)} (hn : (l.map (·.1)).Nodup) {k k' : κ} : aget (adel l k) k' = if k' = k then none else aget l k' := by
  apply Option.ext
  intro u
  rw [aget_iff (adel_nodup hn), mem_adel hn]
  split
  · rename_i e
    subst e
    simp
  · rename_i e
    rw [aget_iff hn]
    simp [e]
end
end Go.Proofs.Ytaecjmjdhbjbkaa

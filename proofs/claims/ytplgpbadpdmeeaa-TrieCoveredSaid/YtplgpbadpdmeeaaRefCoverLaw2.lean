/-
  The plain law of the reference's Cover, second: prefixes put one by one.
-/
import Derived.Test.YtplgpbadpdmeeaaRefCoverLaw
namespace Go.Proofs.Ytplgpbadpdmeeaa
set_option linter.unusedVariables false
open Go.Sort

/-- Rows as the reference's Cover holds them: in order, fine, all numbers 0. -/
structure Held (rs : List Row) : Prop where
  ord : Ord rs
  fine : ∀ r ∈ rs, fine r.1
  zero : ∀ r ∈ rs, r.2 = 0
abbrev pf (rs : List Row) : List Pfx := rs.map (·.1)
theorem Held.nil : Held [] := ⟨List.Pairwise.nil, by simp, by simp⟩
theorem Held.ordP {rs : List Row} (h : Held rs) : OrdP (pf rs) := List.pairwise_map.2 h.ord
theorem Held.fineP {rs : List Row} (h : Held rs) : ∀ p ∈ pf rs, Go.Proofs.Ytplgpbadpdmeeaa.fine p := by
  intro p hp
  obtain ⟨r, hr, rfl⟩ := List.mem_map.1 hp
  exact h.fine r hr
theorem Held.rows {rs : List Row} (h : Held rs) : rs = (pf rs).map fun p => (p, 0) := by
  rw [List.map_map]
  conv => lhs; rw [← List.map_id rs]
  refine List.map_congr_left fun r hr => ?_
  have := h.zero r hr
  cases r; simp_all
theorem cov_pf (rs : List Row) (x : Int) : Cov (pf rs) x ↔ ∃ r ∈ rs, inB x r.1 = true := by unfold Cov pf; simp
theorem held_put (rs : List Row) (p : Pfx) (h : Held rs) (hp : p.ok) : Held (putR rs p 0) ∧ ∀ x, Cov (pf (putR rs p 0)) x ↔ (inB x p = true ∨ Cov (pf rs) x) := by
  by_cases hc : chk p = 0
  · have hm := fun r => putR_mem rs p 0 hc h.ord r
    have hg : Go.Proofs.Ytplgpbadpdmeeaa.fine p := ⟨hp, (chk_eq p).1 hc⟩
    refine ⟨⟨putR_ord rs p 0 h.ord, fun r hr => ?_, fun r hr => ?_⟩, fun x => ?_⟩
    · rcases (hm r).1 hr with rfl | ⟨hr, _⟩
      · exact hg
      · exact h.fine r hr
    · rcases (hm r).1 hr with rfl | ⟨hr, _⟩
      · rfl
      · exact h.zero r hr
    · rw [cov_pf, cov_pf]
      constructor
      · rintro ⟨r, hr, hx⟩
        rcases (hm r).1 hr with rfl | ⟨hr, _⟩
        · exact .inl hx
        · exact .inr ⟨r, hr, hx⟩
      · rintro (hx | ⟨r, hr, hx⟩)
        · exact ⟨(p, 0), (hm _).2 (.inl rfl), hx⟩
        · by_cases hq : r.1 = p
          · exact ⟨(p, 0), (hm _).2 (.inl rfl), by rw [← hq]; exact hx⟩
          · exact ⟨r, (hm _).2 (.inr ⟨hr, hq⟩), hx⟩
  · have e : putR rs p 0 = rs := by unfold putR; rw [if_neg hc]
    rw [e]
    refine ⟨h, fun x => ⟨.inr, ?_⟩⟩
    rintro (hx | hx)
    · exact absurd ((chk_eq p).2 (inB_good hx)) hc
    · exact hx
theorem held_ins (l : List Pfx) (hl : ∀ p ∈ l, p.ok) : ∀ s, Held s → Held (l.foldl (fun o p => putR o p 0) s) ∧ ∀ x, Cov (pf (l.foldl (fun o p => putR o p 0) s)) x ↔ (Cov l x ∨ Cov (pf s) x) := by
  induction l with
  | nil => intro s hs; exact ⟨hs, fun x => by simp [Cov]⟩
  | cons p l ih =>
    intro s hs
    have h1 := held_put s p hs (hl p (by simp))
    have h2 := ih (fun q hq => hl q (by simp [hq])) _ h1.1
    refine ⟨h2.1, fun x => ?_⟩
    rw [List.foldl_cons, h2.2 x, h1.2 x, cov_cons]
    constructor
    · rintro (h | h | h)
      · exact .inl (.inr h)
      · exact .inl (.inl h)
      · exact .inr h
    · rintro ((h | h) | h)
      · exact .inr (.inl h)
      · exact .inl h
      · exact .inr (.inr h)
theorem insL_held (l : List Pfx) (hl : ∀ p ∈ l, p.ok) : Held (insL l) ∧ ∀ x, Cov (pf (insL l)) x ↔ Cov l x := by
  have h := held_ins l hl [] Held.nil
  exact ⟨h.1, fun x => (h.2 x).trans (by simp [Cov])⟩
/-- A turn of the reference's Cover. -/
theorem turn_law {rs : List Row} (h : Held rs) : Held (insL (passGo (pf rs) rs.length 0).1) ∧ (∀ x, Cov (pf (insL (passGo (pf rs) rs.length 0).1)) x ↔ Cov (pf rs) x) ∧ ((passGo (pf rs) rs.length 0).2 = true → (insL (passGo (pf rs) rs.length 0).1).length < rs.length) ∧
    ((passGo (pf rs) rs.length 0).2 = false → (passGo (pf rs) rs.length 0).1 = pf rs ∧ Canon (pf rs)) := by
  have e : rs.length = (pf rs).length := by simp
  rw [e]
  obtain ⟨h1, h2, h3, h4, h5, h6⟩ := passGo_law h.ordP h.fineP (pf rs).length 0 (by omega)
  have hi := insL_held (passGo (pf rs) (pf rs).length 0).1 (fun p hp => (h1 p hp).1)
  refine ⟨hi.1, fun x => (hi.2 x).trans (pass_cov h.ordP h.fineP x), fun hb => ?_, fun hb => pass_canon h.ordP h.fineP hb⟩
  have := h5 hb
  have := insL_len (passGo (pf rs) (pf rs).length 0).1
  omega
end Go.Proofs.Ytplgpbadpdmeeaa

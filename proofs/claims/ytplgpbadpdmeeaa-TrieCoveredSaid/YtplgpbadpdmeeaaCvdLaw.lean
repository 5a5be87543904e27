/-
  TrieCovered's plain law: the counts over a cover, and how two of a cover stand.
-/
import Derived.Test.YtplgpbadpdmeeaaCoverLaw3
namespace Go.Proofs.Ytplgpbadpdmeeaa

theorem canon_at {c : List Pfx} (hc : Canon c) {i k : Nat} (h : i < k) (hk : k < c.length) : (c[i]'(by omega)).e ≤ (c[k]).a :=
  List.pairwise_iff_getElem.1 hc.apart i k (by omega) hk h

/-- How many of a row hold an address. -/
def cnt (x : Int) (c : List Pfx) : Nat := c.countP (inB x)

theorem cnt_le_one {c : List Pfx} (hf : ∀ p ∈ c, fine p) (ha : c.Pairwise fun p q => p.e ≤ q.a) (x : Int) : cnt x c ≤ 1 := by
  induction c with
  | nil => simp [cnt]
  | cons p c ih =>
    obtain ⟨h1, h2⟩ := List.pairwise_cons.1 ha
    unfold cnt at ih ⊢
    rw [List.countP_cons]
    by_cases hp : inB x p = true
    · have h0 : c.countP (inB x) = 0 := by
        rw [List.countP_eq_zero]
        intro q hq h3
        have e1 := (inB_e (hf p (by simp)).2).1 hp
        have e2 := (inB_e (hf q (by simp [hq])).2).1 h3
        have := h1 q hq
        omega
      rw [h0, if_pos hp]
      omega
    · rw [if_neg hp]
      have := ih (fun q hq => hf q (by simp [hq])) h2
      omega

theorem covered_count (l : List Pfx) (hl : ∀ p ∈ l, p.ok) (x : Int) : cnt x (coverT l) = if l.any (inB x) then 1 else 0 := by
  obtain ⟨hc, hx⟩ := coverT_canon l hl
  have h1 := cnt_le_one hc.fine hc.apart x
  have h2 := hx x
  unfold Cov at h2
  have h3 : 0 < cnt x (coverT l) ↔ ∃ p ∈ coverT l, inB x p = true := List.countP_pos_iff
  have h4 : l.any (inB x) = true ↔ ∃ p ∈ l, inB x p = true := by simp
  split
  · rename_i h; have := h3.2 (h2.2 (h4.1 h)); omega
  · rename_i h
    have : ¬ 0 < cnt x (coverT l) := fun h5 => h (h4.2 (h2.1 (h3.1 h5)))
    omega

theorem covered_pair (l : List Pfx) (hl : ∀ p ∈ l, p.ok) {i k : Nat} (h : i < k) (hk : k < (coverT l).length) :
    cmpP ((coverT l)[i]'(by omega)) (coverT l)[k] = -1 ∧ ¬ (((coverT l)[i]'(by omega)).b = (coverT l)[k].b ∧ (commonP ((coverT l)[i]'(by omega)) (coverT l)[k]).b = ((coverT l)[i]'(by omega)).b - 1) ∧
      withinB ((coverT l)[i]'(by omega)) (coverT l)[k] = false ∧ withinB (coverT l)[k] ((coverT l)[i]'(by omega)) = false := by
  obtain ⟨hc, _⟩ := coverT_canon l hl
  have ha := canon_at hc h hk
  have hp := hc.fine _ (List.getElem_mem (show i < (coverT l).length by omega))
  have hq := hc.fine _ (List.getElem_mem hk)
  have hn := hc.nosib _ (List.getElem_mem (show i < (coverT l).length by omega)) _ (List.getElem_mem hk)
  generalize (coverT l)[i] = p at *
  generalize (coverT l)[k] = q at *
  have e1 := e_pos p
  have e2 := e_pos q
  refine ⟨?_, fun h => hn (by omega) ⟨h.1, h.2⟩, ?_, ?_⟩
  · unfold cmpP
    rw [if_pos (by omega)]
  · unfold withinB
    have : inB p.a q = false := by
      rw [Bool.eq_false_iff]
      intro h
      have := (inB_e hq.2).1 h
      omega
    rw [this, Bool.and_false]
  · unfold withinB
    have : inB q.a p = false := by
      rw [Bool.eq_false_iff]
      intro h
      have := (inB_e hp.2).1 h
      omega
    rw [this, Bool.and_false]
end Go.Proofs.Ytplgpbadpdmeeaa

/-
  The plain law of covers, second: the stack's invariant, the cover's three words.
-/
import Derived.Test.YtplgpbadpdmeeaaCoverLaw
namespace Go.Proofs.Ytplgpbadpdmeeaa
set_option linter.unusedVariables false
open Go.Sort

/-- The stack, the last first: fine, apart, no halves side by side. -/
structure St (s : List Pfx) : Prop where
  fine : ∀ p ∈ s, fine p
  apart : s.Pairwise fun q p => p.e ≤ q.a
  nosib : ∀ (u v : List Pfx) (q p : Pfx), s = u ++ q :: p :: v → ¬ sib p q
def Cov (s : List Pfx) (x : Int) : Prop := ∃ p ∈ s, inB x p = true
theorem St.nil : St [] := ⟨by simp, List.Pairwise.nil, fun u v q p h => by simp at h⟩
theorem St.tail {q : Pfx} {s : List Pfx} (h : St (q :: s)) : St s :=
  ⟨fun p hp => h.fine p (by simp [hp]), (List.pairwise_cons.1 h.apart).2, fun u v a b hs => h.nosib (q :: u) v a b (by rw [hs]; rfl)⟩
theorem st_cons {q : Pfx} {s : List Pfx} (hs : St s) (hq : fine q) (ha : ∀ p ∈ s, p.e ≤ q.a) (hn : ∀ p t, s = p :: t → ¬ sib p q) : St (q :: s) := by
  refine ⟨fun p hp => ?_, List.pairwise_cons.2 ⟨ha, hs.apart⟩, fun u v a b h => ?_⟩
  · rcases List.mem_cons.1 hp with rfl | hp
    · exact hq
    · exact hs.fine p hp
  · cases u with
    | nil => simp at h; obtain ⟨rfl, h⟩ := h; exact hn b v h
    | cons c u => simp at h; obtain ⟨rfl, h⟩ := h; exact hs.nosib u v a b h
theorem e_pos (p : Pfx) : p.a < p.e := by unfold Pfx.e; have := sz_pos p.b; omega
theorem joinTo_st (s : List Pfx) : ∀ b, St s → fine b → (∀ p ∈ s, p.e ≤ b.a) → St (joinTo b s) ∧ (∀ x, Cov (joinTo b s) x ↔ (inB x b = true ∨ Cov s x)) ∧ (∀ p', lex b p' → (∀ q ∈ s, lex q p') → ∀ q ∈ joinTo b s, lex q p') := by
  induction s with
  | nil =>
    intro b hs hb ha
    refine ⟨st_cons hs hb (by simp) (by simp), fun x => by simp [Cov, joinTo], fun p' h _ q hq => ?_⟩
    simp [joinTo] at hq; subst hq; exact h
  | cons a t ih =>
    intro b hs hb ha
    have hfa := hs.fine a (by simp)
    have hab := ha a (by simp)
    have hpa := e_pos a
    by_cases hj : a.b = b.b ∧ (commonP a b).b = a.b - 1
    · have hw := sib_whole hfa hb hj (by omega)
      have hcf := commonP_fine a b hfa hb
      have hat := (List.pairwise_cons.1 hs.apart).1
      have h := ih (commonP a b) hs.tail hcf (fun p hp => by have := hat p hp; omega)
      have e : joinTo b (a :: t) = joinTo (commonP a b) t := by rw [joinTo, if_pos hj]
      rw [e]
      refine ⟨h.1, fun x => ?_, fun p' h1 h2 q hq => ?_⟩
      · rw [h.2.1 x]
        have k : inB x (commonP a b) = true ↔ (inB x a = true ∨ inB x b = true) := by
          rw [inB_e hcf.2, inB_e hfa.2, inB_e hb.2]
          have := e_pos b
          omega
        constructor
        · rintro (h5 | h5)
          · rcases k.1 h5 with h6 | h6
            · exact .inr ⟨a, by simp, h6⟩
            · exact .inl h6
          · obtain ⟨p, hp, hx⟩ := h5; exact .inr ⟨p, by simp [hp], hx⟩
        · rintro (h5 | ⟨p, hp, hx⟩)
          · exact .inl (k.2 (.inr h5))
          · rcases List.mem_cons.1 hp with rfl | hp
            · exact .inl (k.2 (.inl hx))
            · exact .inr ⟨p, hp, hx⟩
      · refine h.2.2 p' ?_ (fun q hq => h2 q (by simp [hq])) q hq
        have h3 := h2 a (by simp)
        have h4 := hj.2
        unfold lex at h3 ⊢
        omega
    · have e : joinTo b (a :: t) = b :: a :: t := by rw [joinTo, if_neg hj]
      rw [e]
      refine ⟨st_cons hs hb ha (fun p t' h => ?_), fun x => ?_, fun p' h1 h2 q hq => ?_⟩
      · simp at h; obtain ⟨rfl, _⟩ := h; exact hj
      · unfold Cov; simp
      · rcases List.mem_cons.1 hq with rfl | hq
        · exact h1
        · exact h2 q hq
theorem coverStep_st (s : List Pfx) (p : Pfx) (hs : St s) (hp : fine p) (hl : ∀ q ∈ s, lex q p) : St (coverStep s p) ∧ (∀ x, Cov (coverStep s p) x ↔ (inB x p = true ∨ Cov s x)) ∧ (∀ p', lex p p' → (∀ q ∈ s, lex q p') → ∀ q ∈ coverStep s p, lex q p') := by
  cases s with
  | nil => exact joinTo_st [] p hs hp (by simp)
  | cons q t =>
    cases hw : withinB p q
    · rw [← coverStep_no q t p hw]
      refine joinTo_st (q :: t) p hs hp ?_
      have h1 := apart_of hp.2 (hs.fine q (by simp)).2 (hl q (by simp)) hw
      have h2 := (List.pairwise_cons.1 hs.apart).1
      have h3 := e_pos q
      intro r hr
      rcases List.mem_cons.1 hr with rfl | hr
      · exact h1
      · have := h2 r hr; omega
    · rw [coverStep_yes q t p hw]
      refine ⟨hs, fun x => ⟨.inr, ?_⟩, fun p' _ h => h⟩
      rintro (hx | hx)
      · refine ⟨q, by simp, ?_⟩
        have hfq := hs.fine q (by simp)
        obtain ⟨_, hb, hi⟩ := withinB_iff.1 hw
        rw [inB_e hfq.2] at hi ⊢
        rw [inB_e hp.2] at hx
        rcases nested hp.2 hfq.2 hb with h | h | h <;> omega
      · exact hx
theorem coverFold_st (l : List Pfx) (hf : ∀ p ∈ l, fine p) (hso : l.Pairwise lex) : ∀ s, St s → (∀ q ∈ s, ∀ p ∈ l, lex q p) → St (l.foldl coverStep s) ∧ ∀ x, Cov (l.foldl coverStep s) x ↔ ((∃ p ∈ l, inB x p = true) ∨ Cov s x) := by
  induction l with
  | nil => intro s hs _; exact ⟨hs, fun x => by simp⟩
  | cons p l ih =>
    intro s hs hl
    have h1 := coverStep_st s p hs (hf p (by simp)) (fun q hq => hl q hq p (by simp))
    have hso' := List.pairwise_cons.1 hso
    have h2 := ih (fun q hq => hf q (by simp [hq])) hso'.2 (coverStep s p) h1.1 (fun q hq p' hp' => h1.2.2 p' (hso'.1 p' hp') (fun r hr => hl r hr p' (by simp [hp'])) q hq)
    refine ⟨h2.1, fun x => ?_⟩
    show Cov (List.foldl coverStep (coverStep s p) l) x ↔ _
    rw [h2.2 x, h1.2.1 x]
    constructor
    · rintro (⟨q, hq, hx⟩ | hx | hx)
      · exact .inl ⟨q, by simp [hq], hx⟩
      · exact .inl ⟨p, by simp, hx⟩
      · exact .inr hx
    · rintro (⟨q, hq, hx⟩ | hx)
      · rcases List.mem_cons.1 hq with rfl | hq
        · exact .inr (.inl hx)
        · exact .inl ⟨q, hq, hx⟩
      · exact .inr (.inr hx)
theorem sortP_lex (l : List Pfx) : (sortP l).Pairwise lex := by
  have h : (sortP l).Pairwise fun x y => (!ltOf cmpP y x) = true := by
    refine List.pairwise_mergeSort ?_ ?_ l
    · intro a b c h1 h2
      simp only [Bool.not_eq_true'] at *
      exact swoP.ntrans _ _ _ h2 h1
    · intro a b
      simp only [Bool.or_eq_true, Bool.not_eq_true']
      rw [cmpP_lt_false, cmpP_lt_false]; omega
  refine h.imp ?_
  intro a b h
  simp only [Bool.not_eq_true'] at h
  rw [cmpP_lt_false] at h
  unfold lex; omega

/-- A canonical cover: fine, in order and apart, no two halves of one. -/
structure Canon (c : List Pfx) : Prop where
  fine : ∀ p ∈ c, fine p
  apart : c.Pairwise fun p q => p.e ≤ q.a
  nosib : ∀ p ∈ c, ∀ q ∈ c, p.a < q.a → ¬ sib p q
theorem St.canon {s : List Pfx} (h : St s) : Canon s.reverse := by
  have hap : s.reverse.Pairwise fun p q => p.e ≤ q.a := List.pairwise_reverse.2 h.apart
  refine ⟨fun p hp => h.fine p (by simpa using hp), hap, ?_⟩
  intro p hp q hq hlt hs
  have hfp := h.fine p (by simpa using hp)
  have hfq := h.fine q (by simpa using hq)
  have hw := sib_whole hfp hfq hs hlt
  -- q stands right ahead of p in the stack
  have hp' : p ∈ s := by simpa using hp
  have hq' : q ∈ s := by simpa using hq
  obtain ⟨u, v, rfl⟩ := List.append_of_mem hq'
  have hpw := List.pairwise_append.1 h.apart
  have hqv := List.pairwise_cons.1 hpw.2.1
  have hpv : p ∈ v := by
    rcases List.mem_append.1 hp' with h1 | h1
    · have := hpw.2.2 p h1 q (by simp)
      have := e_pos q
      omega
    · rcases List.mem_cons.1 h1 with rfl | h1
      · omega
      · exact h1
  cases v with
  | nil => simp at hpv
  | cons m v =>
    rcases List.mem_cons.1 hpv with rfl | hpv
    · exact h.nosib u v q p rfl hs
    · have h1 := hqv.1 m (by simp)
      have h2 := (List.pairwise_cons.1 hqv.2).1 p hpv
      have h3 := e_pos m
      omega
theorem coverT_canon (l : List Pfx) (hl : ∀ p ∈ l, p.ok) : Canon (coverT l) ∧ ∀ x, Cov (coverT l) x ↔ Cov l x := by
  have hf : ∀ p ∈ sortP (goods l), fine p := by
    intro p hp9
    have := (List.mergeSort_perm _ _).mem_iff.1 hp9
    simp only [goods, List.mem_filter] at this
    exact ⟨hl p this.1, (chk_eq p).1 (by simpa using this.2)⟩
  have h := coverFold_st (sortP (goods l)) hf (sortP_lex _) [] St.nil (by simp)
  refine ⟨h.1.canon, fun x => ?_⟩
  have h2 := h.2 x
  have e : Cov (coverT l) x ↔ Cov ((sortP (goods l)).foldl coverStep []) x := by unfold Cov coverT coverS; simp
  rw [e, h2]
  constructor
  · rintro (⟨p, hp, hx⟩ | ⟨p, hp, _⟩)
    · have := (List.mergeSort_perm _ _).mem_iff.1 hp
      simp only [goods, List.mem_filter] at this
      exact ⟨p, this.1, hx⟩
    · simp at hp
  · rintro ⟨p, hp, hx⟩
    have hg := inB_good hx
    refine .inl ⟨p, (List.mergeSort_perm _ _).mem_iff.2 ?_, hx⟩
    simp only [goods, List.mem_filter]
    exact ⟨hp, by simp [(chk_eq p).2 hg]⟩
end Go.Proofs.Ytplgpbadpdmeeaa

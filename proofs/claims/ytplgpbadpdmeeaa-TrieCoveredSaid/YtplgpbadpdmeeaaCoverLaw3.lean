/-
  The plain law of covers, third: there is one canonical cover.
-/
import Derived.Test.YtplgpbadpdmeeaaCoverLaw2
namespace Go.Proofs.Ytplgpbadpdmeeaa
set_option linter.unusedVariables false
open Go.Sort

theorem sz_inj_le {m n : Int} (h : sz n ≤ sz m) (h1 : n ≤ 32) (h2 : m ≤ 32) : m ≤ n := by
  rcases Int.lt_or_le n m with h3 | h3
  · have e := sz_succ n (by omega)
    have := sz_mono (n + 1) m (by omega) h2
    have := sz_pos (n + 1)
    omega
  · exact h3
theorem covers_one (c : List Pfx) (hc : Canon c) (k : Nat) : ∀ q : Pfx, fine q → 32 - q.b = k → (∀ x, inB x q = true → Cov c x) → ∃ r ∈ c, r.a ≤ q.a ∧ q.e ≤ r.e := by
  induction k with
  | zero =>
    intro q hq hk h
    have hb : q.b = 32 := by omega
    obtain ⟨r, hr, hx⟩ := h q.a (by rw [inB_e hq.2]; exact ⟨Int.le_refl _, e_pos q⟩)
    rw [inB_e (hc.fine r hr).2] at hx
    refine ⟨r, hr, hx.1, ?_⟩
    unfold Pfx.e at *
    rw [hb, sz_32]; omega
  | succ k ih =>
    intro q hq hk h
    have g1 := hq.2.1
    have g2 := hq.2.2.1
    obtain ⟨n, hn⟩ := Int.eq_ofNat_of_zero_le g1
    have hn32 : n < 32 := by omega
    have hD : sz n = 2 * sz ((n : Int) + 1) := sz_succ n (by omega)
    have s0 := sz_pos ((n : Int) + 1)
    have hm : sz n ∣ q.a := by rw [← hn]; exact good_dvd hq.2
    have hm1 : sz ((n : Int) + 1) ∣ q.a := Int.dvd_trans (by rw [hD]; exact Int.dvd_mul_left _ _) hm
    have hle : q.a + sz n ≤ 4294967296 := by
      have h32 : sz n ∣ 4294967296 := by have := sz_dvd 0 n (by omega) (by omega); rwa [sz_0] at this
      exact mul_apart (sz_pos n) hm h32 hq.1.2.1
    have q0 := hq.1.1
    have f0 : fine ⟨q.a, (n : Int) + 1⟩ := ⟨⟨hq.1.1, hq.1.2.1, by show -9223372036854775808 ≤ (n : Int) + 1; omega, by show (n : Int) + 1 < _; omega⟩, by show (0 : Int) ≤ n + 1; omega, by show (n : Int) + 1 ≤ 32; omega, Int.emod_eq_zero_of_dvd hm1⟩
    have f1 : fine ⟨q.a + sz ((n : Int) + 1), (n : Int) + 1⟩ := ⟨⟨by show 0 ≤ q.a + sz ((n : Int) + 1); omega, by show q.a + sz ((n : Int) + 1) < 4294967296; omega, by show -9223372036854775808 ≤ (n : Int) + 1; omega, by show (n : Int) + 1 < _; omega⟩, by show (0 : Int) ≤ n + 1; omega, by show (n : Int) + 1 ≤ 32; omega, Int.emod_eq_zero_of_dvd (Int.dvd_add hm1 (Int.dvd_refl _))⟩
    have qe : q.e = q.a + sz n := by unfold Pfx.e; rw [hn]
    have i0 : ∀ x, inB x ⟨q.a, (n : Int) + 1⟩ = true → Cov c x := fun x hx => h x (by
      rw [inB_e f0.2] at hx; rw [inB_e hq.2, qe]; unfold Pfx.e at hx; dsimp only at hx; omega)
    have i1 : ∀ x, inB x ⟨q.a + sz ((n : Int) + 1), (n : Int) + 1⟩ = true → Cov c x := fun x hx => h x (by
      rw [inB_e f1.2] at hx; rw [inB_e hq.2, qe]; unfold Pfx.e at hx; dsimp only at hx; omega)
    obtain ⟨r0, hr0, a0, b0⟩ := ih _ f0 (by show 32 - ((n : Int) + 1) = k; omega) i0
    obtain ⟨r1, hr1, a1, b1⟩ := ih _ f1 (by show 32 - ((n : Int) + 1) = k; omega) i1
    have w0 := hc.fine r0 hr0
    have w1 := hc.fine r1 hr1
    have p0 : r0.b ≤ (n : Int) + 1 := sz_inj_le (by unfold Pfx.e at b0; dsimp only at a0 b0; omega) (by omega) w0.2.2.1
    have p1 : r1.b ≤ (n : Int) + 1 := sz_inj_le (by unfold Pfx.e at b1; dsimp only at a1 b1; omega) (by omega) w1.2.2.1
    rcases Int.lt_or_le r0.b ((n : Int) + 1) with c0 | c0
    · refine ⟨r0, hr0, ?_⟩
      rcases nested hq.2 w0.2 (by omega) with h5 | h5 | h5
      · exact h5
      · unfold Pfx.e at *; dsimp only at a0 b0; omega
      · unfold Pfx.e at *; dsimp only at a0 b0; omega
    · rcases Int.lt_or_le r1.b ((n : Int) + 1) with c1 | c1
      · refine ⟨r1, hr1, ?_⟩
        rcases nested hq.2 w1.2 (by omega) with h5 | h5 | h5
        · exact h5
        · unfold Pfx.e at *; dsimp only at a1 b1; omega
        · unfold Pfx.e at *; dsimp only at a1 b1; omega
      · exfalso
        have e0 : r0.b = (n : Int) + 1 := by omega
        have e1 : r1.b = (n : Int) + 1 := by omega
        have x0 : r0.a = q.a := by unfold Pfx.e at b0; dsimp only at a0 b0; rw [e0] at b0; omega
        have x1 : r1.a = q.a + sz ((n : Int) + 1) := by unfold Pfx.e at b1; dsimp only at a1 b1; rw [e1] at b1; omega
        exact hc.nosib r0 hr0 r1 hr1 (by omega) (sib_halves r0 r1 n hn32 w0 w1 e0 e1 (by rw [x0]; exact hm) (by rw [x0, x1]))
theorem canon_sub {c d : List Pfx} (hc : Canon c) (hd : Canon d) (h : ∀ x, Cov c x ↔ Cov d x) : ∀ p ∈ c, p ∈ d := by
  intro p hp
  have hf := hc.fine p hp
  obtain ⟨q, hq, h1, h2⟩ := covers_one d hd (32 - p.b).toNat p hf (by have := hf.2.2.1; omega) (fun x hx => (h x).1 ⟨p, hp, hx⟩)
  have hfq := hd.fine q hq
  obtain ⟨r, hr, h3, h4⟩ := covers_one c hc (32 - q.b).toNat q hfq (by have := hfq.2.2.1; omega) (fun x hx => (h x).2 ⟨q, hq, hx⟩)
  have hpr : p = r := by
    by_cases hne : p = r
    · exact hne
    · exfalso
      have h5 := e_pos p
      have h6 := e_pos r
      obtain ⟨i, hi, rfl⟩ := List.mem_iff_getElem.1 hp
      obtain ⟨j, hj, rfl⟩ := List.mem_iff_getElem.1 hr
      have hpw := List.pairwise_iff_getElem.1 hc.apart
      rcases Nat.lt_trichotomy i j with hij | rfl | hij
      · have := hpw i j hi hj hij; omega
      · exact hne rfl
      · have := hpw j i hj hi hij; omega
  subst hpr
  have e1 : p.a = q.a := by omega
  have e2 : p.e = q.e := by omega
  have e3 : sz p.b = sz q.b := by unfold Pfx.e at e2; omega
  have e4 : p.b = q.b := by
    have := sz_inj_le (m := p.b) (n := q.b) (by omega) hfq.2.2.1 hf.2.2.1
    have := sz_inj_le (m := q.b) (n := p.b) (by omega) hf.2.2.1 hfq.2.2.1
    omega
  have : p = q := by cases p; cases q; simp only [Pfx.mk.injEq]; exact ⟨e1, e4⟩
  rw [this]; exact hq
theorem canon_nodup {c : List Pfx} (hc : Canon c) : c.Nodup := by
  refine hc.apart.imp ?_
  rintro p q h rfl
  have := e_pos p
  omega
/-- There is one canonical cover. -/
theorem canon_unique {c d : List Pfx} (hc : Canon c) (hd : Canon d) (h : ∀ x, Cov c x ↔ Cov d x) : c = d := by
  have hperm : c.Perm d := (List.perm_ext_iff_of_nodup (canon_nodup hc) (canon_nodup hd)).2 fun p => ⟨canon_sub hc hd h p, canon_sub hd hc (fun x => (h x).symm) p⟩
  refine List.Perm.eq_of_pairwise (le := fun p q : Pfx => p.e ≤ q.a) ?_ hc.apart hd.apart hperm
  intro p q _ _ h1 h2
  have := e_pos p
  have := e_pos q
  omega
end Go.Proofs.Ytplgpbadpdmeeaa

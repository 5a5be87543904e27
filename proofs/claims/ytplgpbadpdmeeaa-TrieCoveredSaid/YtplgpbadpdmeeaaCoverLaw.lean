/-
  The plain law of covers: what Cover computes is canonical, and there is one canonical cover.
-/
import Derived.Test.YtplgpbadpdmeeaaCover
namespace Go.Proofs.Ytplgpbadpdmeeaa
set_option linter.unusedVariables false
open Go.Sort

def Pfx.e (p : Pfx) : Int := p.a + sz p.b
theorem mul_apart {d u v : Int} (hd : 0 < d) (hu : d ∣ u) (hv : d ∣ v) (h : u < v) : u + d ≤ v := by
  obtain ⟨x, rfl⟩ := hu
  obtain ⟨y, rfl⟩ := hv
  have h1 : x < y := Int.lt_of_mul_lt_mul_left h (by omega)
  have h2 : d * (x + 1) ≤ d * y := Int.mul_le_mul_of_nonneg_left (by omega) (by omega)
  rw [Int.mul_add] at h2; omega
theorem good_dvd {p : Pfx} (h : good p) : sz p.b ∣ p.a := Int.dvd_of_emod_eq_zero h.2.2
/-- Two prefixes are one in the other, or apart. -/
theorem nested {p q : Pfx} (hp : good p) (hq : good q) (h : q.b ≤ p.b) : (q.a ≤ p.a ∧ p.e ≤ q.e) ∨ p.e ≤ q.a ∨ q.e ≤ p.a := by
  have d1 := good_dvd hp
  have d2 := sz_dvd q.b p.b h hp.2.1
  have d3 := Int.dvd_trans d2 (good_dvd hq)
  have h0 := sz_pos p.b
  unfold Pfx.e
  rcases Int.lt_or_le p.a q.a with h1 | h1
  · right; left; exact mul_apart h0 d1 d3 h1
  · rcases Int.lt_or_le p.a (q.a + sz q.b) with h2 | h2
    · left; exact ⟨h1, mul_apart h0 d1 (Int.dvd_add d3 d2) h2⟩
    · right; right; exact h2
def lex (q p : Pfx) : Prop := q.a < p.a ∨ q.a = p.a ∧ q.b ≤ p.b
theorem apart_of {p q : Pfx} (hp : good p) (hq : good q) (hl : lex q p) (hw : withinB p q = false) : q.e ≤ p.a := by
  have hw' : ¬ (good p ∧ q.b ≤ p.b ∧ inB p.a q = true) := by rw [← withinB_iff, hw]; simp
  rcases Int.lt_or_le p.b q.b with h | h
  · have s1 := sz_pos q.b
    have s2 := sz_pos p.b
    rcases nested hq hp (by omega) with ⟨h1, _⟩ | h1 | h1
    · rcases hl with h2 | ⟨h2, h3⟩ <;> omega
    · exact h1
    · unfold Pfx.e at h1 ⊢
      rcases hl with h2 | ⟨h2, h3⟩ <;> omega
  · have : ¬ inB p.a q = true := fun hi => hw' ⟨hp, h, hi⟩
    rw [inB_iff] at this
    unfold Pfx.e
    rcases hl with h2 | ⟨h2, h3⟩
    · have : ¬ p.a < q.a + sz q.b := fun hx => this ⟨hq, by omega, hx⟩
      omega
    · have : ¬ p.a < q.a + sz q.b := fun hx => this ⟨hq, by omega, hx⟩
      omega
/-- Two halves of one. -/
def sib (p q : Pfx) : Prop := p.b = q.b ∧ (commonP p q).b = p.b - 1
instance (p q : Pfx) : Decidable (sib p q) := by unfold sib; infer_instance
theorem sib_whole {p q : Pfx} (hp : fine p) (hq : fine q) (hs : sib p q) (hl : p.a < q.a) : (commonP p q).a = p.a ∧ q.a = p.e ∧ (commonP p q).e = q.e := by
  obtain ⟨h1, h2⟩ := hs
  have hg := hp.2
  have hb0 := hg.1
  have hb1 := hg.2.1
  have hcb : ((cb (min p.b q.b).toNat p.a q.a : Nat) : Int) = p.b - 1 := h2
  have hsame := cb_same (min p.b q.b).toNat (by omega) p.a q.a ⟨hp.1.1, hp.1.2.1⟩ ⟨hq.1.1, hq.1.2.1⟩
  rw [hcb] at hsame
  have hD : sz (p.b - 1) = 2 * sz p.b := by have := sz_succ (p.b - 1) (by omega); rw [show p.b - 1 + 1 = p.b by omega] at this; exact this
  have s0 := sz_pos p.b
  have hca : (commonP p q).a = p.a / sz (p.b - 1) * sz (p.b - 1) := by
    show p.a / sz (cb (min p.b q.b).toNat p.a q.a : Nat) * sz (cb (min p.b q.b).toNat p.a q.a : Nat) = _
    rw [hcb]
  have m1 := Int.mul_ediv_add_emod p.a (sz (p.b - 1))
  have m2 := Int.mul_ediv_add_emod q.a (sz (p.b - 1))
  have l1 := Int.emod_nonneg p.a (show sz (p.b - 1) ≠ 0 by omega)
  have l2 := Int.emod_lt_of_pos q.a (show 0 < sz (p.b - 1) by omega)
  have l3 := Int.emod_lt_of_pos p.a (show 0 < sz (p.b - 1) by omega)
  have l4 := Int.emod_nonneg q.a (show sz (p.b - 1) ≠ 0 by omega)
  rw [← hsame] at m2
  have d1 : sz p.b ∣ p.a := good_dvd hg
  have d2 : sz p.b ∣ q.a := by rw [h1]; exact good_dvd hq.2
  have dD : sz p.b ∣ sz (p.b - 1) * (p.a / sz (p.b - 1)) := Int.dvd_trans (by rw [hD]; exact Int.dvd_mul_left _ _) (Int.dvd_mul_right _ _)
  obtain ⟨K, hK⟩ : ∃ K, sz (p.b - 1) * (p.a / sz (p.b - 1)) = K := ⟨_, rfl⟩
  rw [hK] at m1 m2 dD
  have a1 := mul_apart s0 d1 d2 hl
  have hpa : p.a = K := by
    rcases Int.lt_or_le K p.a with h | h
    · have := mul_apart s0 dD d1 h; omega
    · omega
  have hqa : q.a = p.a + sz p.b := by
    rcases Int.lt_or_le (p.a + sz p.b) q.a with h | h
    · have := mul_apart s0 (Int.dvd_add d1 (Int.dvd_refl _)) d2 h; omega
    · omega
  have hc2 : (commonP p q).a = p.a := by rw [hca, Int.mul_comm, hK, hpa]
  refine ⟨hc2, hqa, ?_⟩
  unfold Pfx.e
  rw [hc2, h2, hD, hqa, ← h1]; omega
/-- The two halves of a prefix are that. -/
theorem sib_halves (p q : Pfx) (n : Nat) (hn : n < 32) (hp : fine p) (hq : fine q) (h1 : p.b = n + 1) (h2 : q.b = n + 1) (hm : sz n ∣ p.a) (ha : q.a = p.a + sz (n + 1)) : sib p q := by
  refine ⟨by rw [h1, h2], ?_⟩
  have hD : sz n = 2 * sz (n + 1) := sz_succ n (by omega)
  have s0 := sz_pos ((n : Int) + 1)
  show ((cb (min p.b q.b).toNat p.a q.a : Nat) : Int) = p.b - 1
  have e : cb (min p.b q.b).toNat p.a q.a = n := by
    obtain ⟨k, hk⟩ := hm
    refine cb_eq _ (by omega) _ _ ⟨hp.1.1, hp.1.2.1⟩ ⟨hq.1.1, hq.1.2.1⟩ n (by omega) ?_ ?_
    · rw [ha, hk, Int.mul_ediv_cancel_left _ (by omega)]
      rw [Int.add_comm, Int.add_mul_ediv_left _ _ (by omega : sz (n : Int) ≠ 0), Int.ediv_eq_zero_of_lt (by omega) (by omega)]; omega
    · intro _
      rw [show (((n + 1 : Nat)) : Int) = (n : Int) + 1 by omega, ha]
      have : (p.a + sz ((n : Int) + 1)) / sz ((n : Int) + 1) = p.a / sz ((n : Int) + 1) + 1 := by
        have := Int.add_mul_ediv_left p.a 1 (by omega : sz ((n : Int) + 1) ≠ 0)
        rwa [Int.mul_one] at this
      omega
  rw [e, h1]; omega
theorem inB_e {x : Int} {p : Pfx} (h : good p) : inB x p = true ↔ p.a ≤ x ∧ x < p.e := by
  rw [inB_iff]; exact ⟨fun h => h.2, fun k => ⟨h, k⟩⟩
end Go.Proofs.Ytplgpbadpdmeeaa

/-
  The plain law of the reference's Cover: a pass keeps what is covered; where nothing turns it is canonical.
-/
import Derived.Test.YtplgpbadpdmeeaaRefCover
import Derived.Test.YtplgpbadpdmeeaaRefRowsLaw
import Derived.Test.YtplgpbadpdmeeaaCoverLaw3
namespace Go.Proofs.Ytplgpbadpdmeeaa
set_option linter.unusedVariables false
open Go.Sort

/-- In order, none twice. -/
def OrdP (l : List Pfx) : Prop := l.Pairwise fun x y => ltOf cmpP x y = true
abbrev gt (all : List Pfx) (i : Nat) : Pfx := all.getD i default
theorem gt_eq (all : List Pfx) (i : Nat) (h : i < all.length) : gt all i = all[i] := by simp [gt, List.getD, h]
theorem gt_mem (all : List Pfx) (i : Nat) (h : i < all.length) : gt all i ∈ all := by rw [gt_eq all i h]; simp
theorem ord_lt {all : List Pfx} (ho : OrdP all) {i j : Nat} (h : i < j) (hj : j < all.length) : ltOf cmpP (gt all i) (gt all j) = true := by
  rw [gt_eq all i (by omega), gt_eq all j hj]
  exact List.pairwise_iff_getElem.1 ho i j (by omega) hj h
theorem inner_iff (all : List Pfx) (i : Nat) : innerAt all i = true ↔ ∃ k, k < all.length ∧ k ≠ i ∧ withinB (gt all i) (gt all k) = true := by
  unfold innerAt innerTo
  rw [List.any_eq_true]
  constructor
  · rintro ⟨k, hk, h⟩
    simp only [Bool.and_eq_true, bne_iff_ne, ne_eq] at h
    exact ⟨k, by simpa using hk, h.1, h.2⟩
  · rintro ⟨k, hk, h1, h2⟩
    exact ⟨k, by simpa using hk, by simp only [Bool.and_eq_true, bne_iff_ne, ne_eq]; exact ⟨h1, h2⟩⟩
theorem sib_at (all : List Pfx) (i : Nat) : sibAt all i = true ↔ i + 1 < all.length ∧ (gt all i).b > 0 ∧ sib (gt all i) (gt all (i + 1)) := by
  unfold sibAt sib
  simp only [Bool.and_eq_true, decide_eq_true_iff]
  constructor
  · rintro ⟨⟨⟨h1, h2⟩, h3⟩, h4⟩; exact ⟨h1, h2, h3.symm, h4⟩
  · rintro ⟨h1, h2, h3, h4⟩; exact ⟨⟨⟨h1, h2⟩, h3.symm⟩, h4⟩
theorem sib_cov {p q : Pfx} (hp : fine p) (hq : fine q) (hs : sib p q) (hl : p.a < q.a) (x : Int) : inB x (commonP p q) = true ↔ inB x p = true ∨ inB x q = true := by
  have hw := sib_whole hp hq hs hl
  rw [inB_e (commonP_fine p q hp hq).2, inB_e hp.2, inB_e hq.2]
  have := e_pos p
  have := e_pos q
  omega
theorem next_a {all : List Pfx} (ho : OrdP all) {i : Nat} (h : i + 1 < all.length) (hb : (gt all i).b = (gt all (i + 1)).b) : (gt all i).a < (gt all (i + 1)).a := by
  have := (cmpP_lt _ _).1 (ord_lt ho (Nat.lt_add_one i) h)
  omega
theorem cov_cons (p : Pfx) (l : List Pfx) (x : Int) : Cov (p :: l) x ↔ inB x p = true ∨ Cov l x := by unfold Cov; simp
theorem passGo_law {all : List Pfx} (ho : OrdP all) (hf : ∀ p ∈ all, fine p) (n : Nat) : ∀ i, all.length - i ≤ n →
    (∀ p ∈ (passGo all n i).1, fine p) ∧ (∀ x, Cov (passGo all n i).1 x → Cov all x) ∧ (∀ j, i ≤ j → j < all.length → innerAt all j = false → ∀ x, inB x (gt all j) = true → Cov (passGo all n i).1 x) ∧
    ((passGo all n i).1.length ≤ all.length - i) ∧ ((passGo all n i).2 = true → (passGo all n i).1.length < all.length - i) ∧
    ((passGo all n i).2 = false → (passGo all n i).1 = all.drop i ∧ ∀ j, i ≤ j → j < all.length → innerAt all j = false ∧ sibAt all j = false) := by
  induction n with
  | zero =>
    intro i hi
    refine ⟨by simp [passGo], by simp [passGo, Cov], fun j h1 h2 => by omega, by simp [passGo], by simp [passGo], fun _ => ⟨?_, fun j h1 h2 => by omega⟩⟩
    rw [List.drop_of_length_le (by omega)]; rfl
  | succ n ih =>
    intro i hi
    by_cases hlt : i < all.length
    · have hfi := hf _ (gt_mem all i hlt)
      cases hin : innerAt all i
      · cases hsb : sibAt all i
        · have e : passGo all (n + 1) i = (gt all i :: (passGo all n (i + 1)).1, (passGo all n (i + 1)).2) := by rw [passGo, if_pos hlt, hin, hsb]; rfl
          rw [e]
          obtain ⟨h1, h2, h3, h4, h5, h6⟩ := ih (i + 1) (by omega)
          refine ⟨fun p hp => ?_, fun x hx => ?_, fun j hj1 hj2 hj3 x hx => ?_, by simp; omega, fun h => by have := h5 h; simp; omega, fun h => ?_⟩
          · rcases List.mem_cons.1 hp with rfl | hp
            · exact hfi
            · exact h1 p hp
          · rcases (cov_cons _ _ _).1 hx with hx | hx
            · exact ⟨_, gt_mem all i hlt, hx⟩
            · exact h2 x hx
          · refine (cov_cons _ _ _).2 ?_
            rcases Nat.eq_or_lt_of_le hj1 with rfl | hj
            · exact .inl hx
            · exact .inr (h3 j hj hj2 hj3 x hx)
          · obtain ⟨k1, k2⟩ := h6 h
            refine ⟨?_, fun j hj1 hj2 => ?_⟩
            · show gt all i :: (passGo all n (i + 1)).1 = _
              rw [k1, gt_eq all i hlt]; exact (List.drop_eq_getElem_cons hlt).symm
            · rcases Nat.eq_or_lt_of_le hj1 with rfl | hj
              · exact ⟨hin, hsb⟩
              · exact k2 j hj hj2
        · have e : passGo all (n + 1) i = (commonP (gt all i) (gt all (i + 1)) :: (passGo all n (i + 2)).1, true) := by rw [passGo, if_pos hlt, hin, hsb]; rfl
          rw [e]
          obtain ⟨s1, s2, s3⟩ := (sib_at all i).1 hsb
          have hfj := hf _ (gt_mem all (i + 1) s1)
          have hcov := sib_cov hfi hfj s3 (next_a ho s1 s3.1)
          obtain ⟨h1, h2, h3, h4, h5, h6⟩ := ih (i + 2) (by omega)
          refine ⟨fun p hp => ?_, fun x hx => ?_, fun j hj1 hj2 hj3 x hx => ?_, by simp; omega, fun h => by simp; omega, fun h => by simp at h⟩
          · rcases List.mem_cons.1 hp with rfl | hp
            · exact commonP_fine _ _ hfi hfj
            · exact h1 p hp
          · rcases (cov_cons _ _ _).1 hx with hx | hx
            · rcases (hcov x).1 hx with hx | hx
              · exact ⟨_, gt_mem all i hlt, hx⟩
              · exact ⟨_, gt_mem all (i + 1) s1, hx⟩
            · exact h2 x hx
          · refine (cov_cons _ _ _).2 ?_
            rcases Nat.eq_or_lt_of_le hj1 with rfl | hj
            · exact .inl ((hcov x).2 (.inl hx))
            · rcases Nat.eq_or_lt_of_le hj with rfl | hj
              · exact .inl ((hcov x).2 (.inr hx))
              · exact .inr (h3 j hj hj2 hj3 x hx)
      · have e : passGo all (n + 1) i = ((passGo all n (i + 1)).1, true) := by rw [passGo, if_pos hlt, hin]; rfl
        rw [e]
        obtain ⟨h1, h2, h3, h4, h5, h6⟩ := ih (i + 1) (by omega)
        refine ⟨h1, h2, fun j hj1 hj2 hj3 x hx => ?_, by dsimp only; omega, fun h => by dsimp only; omega, fun h => by simp at h⟩
        rcases Nat.eq_or_lt_of_le hj1 with rfl | hj
        · rw [hin] at hj3; cases hj3
        · exact h3 j hj hj2 hj3 x hx
    · have e : passGo all (n + 1) i = ([], false) := by rw [passGo, if_neg hlt]
      rw [e]
      refine ⟨by simp, by simp [Cov], fun j h1 h2 => by omega, by simp, by simp, fun _ => ⟨?_, fun j h1 h2 => by omega⟩⟩
      rw [List.drop_of_length_le (by omega)]
theorem within_le {p q : Pfx} (hp : fine p) (hq : fine q) (h : withinB p q = true) : q.b ≤ p.b ∧ q.a ≤ p.a ∧ p.e ≤ q.e := by
  obtain ⟨_, hb, hi⟩ := withinB_iff.1 h
  rw [inB_e hq.2] at hi
  have := e_pos p
  rcases nested hp.2 hq.2 hb with h | h | h
  · exact ⟨hb, h⟩
  · omega
  · omega
/-- Whatever is covered is covered by one that is in no other. -/
theorem outer_one {all : List Pfx} (ho : OrdP all) (hf : ∀ p ∈ all, fine p) (x : Int) (m : Nat) : ∀ j, j < all.length → (gt all j).b ≤ m → inB x (gt all j) = true → ∃ k, k < all.length ∧ innerAt all k = false ∧ inB x (gt all k) = true := by
  induction m with
  | zero => exact fun j hj hb hx => outer_step ho hf x j hj hx (fun k hk hlt => by have := (hf _ (gt_mem all k hk)).2.1; omega)
  | succ m ih => exact fun j hj hb hx => outer_step ho hf x j hj hx (fun k hk hlt hx => ih k hk (by omega) hx)
where
  outer_step {all : List Pfx} (ho : OrdP all) (hf : ∀ p ∈ all, fine p) (x : Int) (j : Nat) (hj : j < all.length) (hx : inB x (gt all j) = true)
      (h : ∀ k, k < all.length → (gt all k).b < (gt all j).b → inB x (gt all k) = true → ∃ k, k < all.length ∧ innerAt all k = false ∧ inB x (gt all k) = true) : ∃ k, k < all.length ∧ innerAt all k = false ∧ inB x (gt all k) = true := by
    cases hin : innerAt all j
    · exact ⟨j, hj, hin, hx⟩
    · obtain ⟨k, hk, hne, hw⟩ := (inner_iff all j).1 hin
      have fj := hf _ (gt_mem all j hj)
      have fk := hf _ (gt_mem all k hk)
      obtain ⟨h1, h2, h3⟩ := within_le fj fk hw
      have hxk : inB x (gt all k) = true := by
        rw [inB_e fj.2] at hx; rw [inB_e fk.2]; omega
      rcases Int.lt_or_eq_of_le h1 with h4 | h4
      · exact h k hk h4 hxk
      · exfalso
        unfold Pfx.e at h3
        rw [h4] at h3
        have ea : (gt all k).a = (gt all j).a := by omega
        rcases Nat.lt_or_gt_of_ne hne with h5 | h5
        · have := (cmpP_lt _ _).1 (ord_lt ho h5 hj); omega
        · have := (cmpP_lt _ _).1 (ord_lt ho h5 hk); omega
theorem pass_cov {all : List Pfx} (ho : OrdP all) (hf : ∀ p ∈ all, fine p) (x : Int) : Cov (passGo all all.length 0).1 x ↔ Cov all x := by
  obtain ⟨h1, h2, h3, h4, h5, h6⟩ := passGo_law ho hf all.length 0 (by omega)
  refine ⟨h2 x, ?_⟩
  rintro ⟨p, hp, hx⟩
  obtain ⟨j, hj, rfl⟩ := List.mem_iff_getElem.1 hp
  rw [← gt_eq all j hj] at hx
  obtain ⟨k, hk, hin, hx⟩ := outer_one ho hf x (gt all j).b.toNat j hj (by omega) hx
  exact h3 k (Nat.zero_le _) hk hin x hx
/-- Where nothing turns it is canonical. -/
theorem pass_canon {all : List Pfx} (ho : OrdP all) (hf : ∀ p ∈ all, fine p) (h : (passGo all all.length 0).2 = false) : (passGo all all.length 0).1 = all ∧ Canon all := by
  obtain ⟨-, -, -, -, -, h6⟩ := passGo_law ho hf all.length 0 (by omega)
  obtain ⟨k1, k2⟩ := h6 h
  have hap : ∀ i j, i < j → j < all.length → (gt all i).e ≤ (gt all j).a := by
    intro i j hij hj
    have fi := hf _ (gt_mem all i (by omega))
    have fj := hf _ (gt_mem all j hj)
    refine apart_of fj.2 fi.2 ?_ ?_
    · have := (cmpP_lt _ _).1 (ord_lt ho hij hj)
      unfold lex; omega
    · have := (k2 j (Nat.zero_le _) hj).1
      cases hw : withinB (gt all j) (gt all i)
      · rfl
      · have := (inner_iff all j).2 ⟨i, by omega, by omega, hw⟩
        simp_all
  refine ⟨by rw [k1]; rfl, hf, ?_, ?_⟩
  · rw [List.pairwise_iff_getElem]
    intro i j hi hj hij
    have := hap i j hij hj
    rwa [gt_eq all i hi, gt_eq all j hj] at this
  · intro p hp q hq hlt hs
    have hw := sib_whole (hf p hp) (hf q hq) hs hlt
    obtain ⟨i, hi, rfl⟩ := List.mem_iff_getElem.1 hp
    obtain ⟨j, hj, rfl⟩ := List.mem_iff_getElem.1 hq
    rw [← gt_eq all i hi, ← gt_eq all j hj] at *
    have hij : i < j := by
      rcases Nat.lt_trichotomy i j with h | rfl | h
      · exact h
      · omega
      · have := hap j i h hi; have := e_pos (gt all j); omega
    rcases Nat.lt_or_ge (i + 1) j with h2 | h2
    · have h3 := hap i (i + 1) (by omega) (by omega)
      have h4 := hap (i + 1) j h2 hj
      have := e_pos (gt all (i + 1))
      omega
    · have e9 : j = i + 1 := by omega
      subst e9
      have h3 := (k2 i (Nat.zero_le _) hi).2
      have h4 := (sib_at all i).2 ⟨hj, by have h5 := hs.2; have : (0 : Int) ≤ (commonP (gt all i) (gt all (i + 1))).b := Int.natCast_nonneg _; omega, hs⟩
      simp_all
end Go.Proofs.Ytplgpbadpdmeeaa

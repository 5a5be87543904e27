/-
  Texts of a proof, one behind the other (part 30).
-/
import Derived.Test.YtmljmahlpcdhoaaPn4
import Derived.Test.YtmljmahlpcdhoaaPn26
import Derived.Test.YtmljmahlpcdhoaaPn27
set_option linter.unusedVariables false
set_option linter.unusedSimpArgs false
namespace Go.Proofs.Ytmljmahlpcdhoaa
set_option linter.unusedVariables false
set_option maxRecDepth 100000
open Go.RowKit Go.Lib
structure OkN (d : Dvc) (l : List Sbj) : Prop where
  n : d.pols.length ≤ 1048576
  pc : ∀ p ∈ d.pols, p.cs.length ≤ 1048576
  cp : ∀ p ∈ d.pols, ∀ c ∈ p.cs, c.pre.length ≤ 1048576 ∧ c.sCom.length ≤ 1048576 ∧ ∀ n ∈ c.pre, 0 ≤ n ∧ n < 4294967296
  ep : ∀ x ∈ d.pls, ∀ e ∈ x.es, e.p.ok
  am : ∀ x ∈ d.cls, ∀ m ∈ x.ms, m.all.length ≤ 1048576
  dn : d.pls.length ≤ 1048576 ∧ d.cls.length ≤ 1048576 ∧ (∀ x ∈ d.pls, x.es.length ≤ 1048576) ∧ ∀ x ∈ d.cls, x.ms.length ≤ 1048576
  ln : l.length ≤ 1048576
  sb : ∀ s ∈ l, s.p.ok ∧ s.path.length ≤ 1048576 ∧ s.com.length ≤ 1048576 ∧ ∀ n ∈ s.path, 0 ≤ n ∧ n < 4294967296
def d1P (d : Dvc) (p : Pol) : Dvc := { d with pols := [p] }
def useU (us : List Bool) (i : Nat) : Bool := us.getD i false
def lessP (p : Pol) (us : List Bool) : Pol := ⟨[108, 101, 115, 115], keepU (useU us) 0 p.cs, p.dft⟩
def d2P (d : Dvc) (p : Pol) (us : List Bool) : Dvc := { d with pols := [p, lessP p us] }
theorem sum_bnd {α : Type} (f : α → Nat) (B : Nat) : ∀ l : List α, (∀ x ∈ l, f x ≤ B) → (l.map f).sum ≤ l.length * B
  | [], _ => by simp
  | x :: r, h => by
    have h1 := sum_bnd f B r fun y hy => h y (by simp [hy])
    have h2 := h x (by simp)
    simp only [List.map_cons, List.sum_cons, List.length_cons, Nat.succ_mul]
    omega
theorem wP_le : ∀ cs : List Cls, wP cs ≤ (cs.map clsN).sum ∧ wC cs ≤ (cs.map clsN).sum
  | [] => by simp [wP, wC]
  | c :: r => by
    have := wP_le r
    rw [wP_cons, wC_cons]
    simp only [List.map_cons, List.sum_cons, clsN]
    omega
theorem wP_keep (U : Nat → Bool) : ∀ (cs : List Cls) (i : Nat), wP (keepU U i cs) ≤ wP cs ∧ wC (keepU U i cs) ≤ wC cs
  | [], _ => by simp [keepU, wP, wC]
  | c :: r, i => by
    have := wP_keep U r (i + 1)
    unfold keepU
    split
    · rw [wP_cons, wC_cons, wP_cons, wC_cons]; omega
    · rw [wP_cons, wC_cons]; omega
theorem large_bnd {d : Dvc} {l : List Sbj} (h : OkN d l) {p : Pol} (hp : p ∈ d.pols) {s : Sbj} (hs : s ∈ l) : largeN (d1P d p) s ≤ 4611686018427387904 := by
  obtain ⟨h1, h2, h3, h4⟩ := h.dn
  obtain ⟨_, s1, s2, _⟩ := h.sb s hs
  have e1 := sum_bnd (fun x : PLst => x.es.length) 1048576 d.pls h3
  have e2 := sum_bnd (fun x : CLst => x.ms.length) 1048576 d.cls h4
  have e3 := sum_bnd clsN 2097152 p.cs fun c hc => by obtain ⟨a, b, _⟩ := h.cp p hp c hc; unfold clsN; omega
  have e4 := h.pc p hp
  have e5 := Nat.mul_le_mul_right 1048576 h1
  have e6 := Nat.mul_le_mul_right 1048576 h2
  have e7 := Nat.mul_le_mul_right 2097152 e4
  unfold largeN d1P
  simp only [List.map_cons, List.map_nil, List.sum_cons, List.sum_nil, polN]
  omega
theorem ok_large {d : Dvc} {l : List Sbj} (h : OkN d l) {p : Pol} (hp : p ∈ d.pols) {s : Sbj} (hs : s ∈ l) (hl : ¬ 600 < largeN (d1P d p) s) (us : List Bool) : OkA (d1P d p) s ∧ OkA (d2P d p us) s := by
  obtain ⟨h1, h2, h3, h4⟩ := h.dn
  obtain ⟨s0, s1, s2, s3⟩ := h.sb s hs
  obtain ⟨k1, k2⟩ := wP_le p.cs
  obtain ⟨k3, k4⟩ := wP_keep (useU us) p.cs 0
  have k5 := (keep_sub (useU us) p.cs 0).length_le
  unfold largeN d1P at hl
  simp only [List.map_cons, List.map_nil, List.sum_cons, List.sum_nil, polN] at hl
  have od : ∀ q : List Pol, OkD { d with pols := q } := fun q => ⟨by show d.pls.length ≤ _; omega, fun x hx => ⟨by have := h3 x hx; omega, h.ep x hx⟩, by show d.cls.length ≤ _; omega, fun x hx => ⟨by have := h4 x hx; omega, fun m hm => by have := h.am x hx m hm; omega⟩⟩
  have os : OkS s := ⟨s0, by omega, by omega, s3⟩
  have o1 : OkR s p.cs := ⟨s0, s3, fun c hc => (h.cp p hp c hc).2.2, by omega, by omega⟩
  have o2 : OkR s (lessP p us).cs := ⟨s0, s3, fun c hc => (h.cp p hp c ((keep_sub (useU us) p.cs 0).subset hc)).2.2, by show _ + wP (keepU (useU us) 0 p.cs) ≤ _; omega, by show _ + wC (keepU (useU us) 0 p.cs) ≤ _; omega⟩
  refine ⟨⟨od _, by show [p].length ≤ _; simp, os, fun q hq => ?_⟩, ⟨od _, by show [p, _].length ≤ _; simp, os, fun q hq => ?_⟩⟩
  · obtain rfl : q = p := by simpa [d1P] using hq
    exact ⟨by omega, o1⟩
  · have hq : q = p ∨ q = lessP p us := by simpa [d2P] using hq
    rcases hq with rfl | rfl
    · exact ⟨by omega, o1⟩
    · exact ⟨by show (keepU (useU us) 0 p.cs).length ≤ _; omega, o2⟩
theorem runL_len (d : Dvc) (cs : List Cls) (dft : Bool) : ∀ (r : List Cls) (i fr : Nat) (b : Int) (s : Sbj) (ms : List (Nat × Sbj)), (runL d cs dft r i fr b s ms).2.2.length ≤ ms.length + r.length := fun r => by
  induction r with
  | nil => intro i fr b s ms; exact Nat.le_refl _
  | cons c r ih =>
    intro i fr b s ms
    rw [runL, List.length_cons]
    split
    · have := ih (i + 1) fr b s ms; omega
    split
    · have := ih (i + 1) fr b s ms; omega
    split
    · show (ms ++ [_]).length ≤ _; simp
    split
    · split
      · show (ms ++ [_]).length ≤ _; simp
      · have := ih (i + 1) (skipJ cs c.jump (i + 1)) (i : Int) (setC c s) (ms ++ [(i, setC c s)]); simp at this ⊢; omega
    · have := ih (i + 1) fr b (setC c s) (ms ++ [(i, setC c s)]); simp at this ⊢; omega
theorem run_marks (d : Dvc) (p : Pol) (hR : Rise p.cs) (s : Sbj) : ∃ ok ms, runV (d1P d p) p.nm s = (ms, ok, 0) ∧ ms.length ≤ p.cs.length ∧ (∀ m ∈ ms, m.1 < p.cs.length) ∧ (p.nm ≠ [] → ms = (runP d p s).2.2) := by
  unfold runV
  by_cases hn : p.nm = []
  · rw [if_pos hn]
    exact ⟨_, _, rfl, Nat.zero_le _, by simp, fun h => absurd hn h⟩
  · rw [if_neg hn]
    have e : (d1P d p).pols.find? (fun q => decide (q.nm = p.nm)) = some p := by simp [d1P]
    rw [e]
    have e2 : runP (d1P d p) p s = runP d p s := runP_dev (d := d1P d p) (d' := d) (fun c s => rfl) p s
    dsimp only
    rw [e2]
    have := runL_len d p.cs p.dft p.cs 0 0 (-1) s []
    exact ⟨_, _, rfl, by show (runL d p.cs p.dft p.cs 0 0 (-1) s []).2.2.length ≤ _; simpa using this, runP_idx d p hR s, fun _ => rfl⟩
theorem nothing_law {d : Dvc} {p : Pol} (hR : Rise p.cs) (us : List Bool) {s : Sbj} (ho : OkA (d2P d p us) s) (h0 : p.nm ≠ []) (h1 : p.nm ≠ [108, 101, 115, 115]) (hU : ∀ m ∈ (runP d p s).2.2, useU us m.1 = true) :
    ∃ A ok, applyP (d2P d p us) p.nm s = (A, ok, 0) ∧ applyP (d2P d p us) [108, 101, 115, 115] s = (A, ok, 0) ∧ A.path.length ≤ 1000000000 ∧ A.com.length ≤ 1000000000 ∧ (ok = false ∨ (ok = true ∧ A.p = s.p ∧ (p.cs.any setsC = false → A = s))) := by
  have e1 : (d2P d p us).pols.find? (fun q => decide (q.nm = p.nm)) = some p := by simp [d2P]
  have e2 : (d2P d p us).pols.find? (fun q => decide (q.nm = [108, 101, 115, 115])) = some (lessP p us) := by simp [d2P, h1, lessP]
  have e3 : ∀ q : Pol, runP (d2P d p us) q s = runP d q s := fun q => runP_dev (d := d2P d p us) (d' := d) (fun c s => rfl) q s
  obtain ⟨t1, t2⟩ := runP_thin d p hR s (useU us) [108, 101, 115, 115] hU
  have e4 : applyP (d2P d p us) [108, 101, 115, 115] s = applyP (d2P d p us) p.nm s := by
    unfold applyP
    rw [if_neg h0, if_neg (by decide), e1, e2]
    dsimp only
    rw [e3, e3]
    rw [show (runP d (lessP p us) s).1 = (runP d p s).1 from t1, show lastS s (runP d (lessP p us) s).2.2 = lastS s (runP d p s).2.2 from t2]
  rw [e4]
  unfold applyP
  rw [if_neg h0, e1]
  dsimp only
  rw [e3]
  cases hk : (runP d p s).1
  · exact ⟨_, _, rfl, rfl, Nat.zero_le _, Nat.zero_le _, .inl rfl⟩
  · have hp := ho.op p (by simp [d2P])
    have hl : OkS (lastS s (runP d p s).2.2) := runL_ok d p.cs p.dft p.cs 0 0 (-1) s s [] hp.2 ho.os
    refine ⟨_, _, rfl, rfl, hl.path, hl.com, .inr ⟨rfl, runP_p d p hR s, fun ha => runP_stay d p hR s fun c hc => ?_⟩⟩
    have := List.any_eq_false.1 ha c hc
    simpa using this
end Go.Proofs.Ytmljmahlpcdhoaa

/-
  Texts of a proof, one behind the other (part 42).
-/
import Derived.Test.YtmljmahlpcdhoaaPc2
import Derived.Test.YtmljmahlpcdhoaaPc35
import Derived.Test.YtmljmahlpcdhoaaPc36
set_option linter.unusedVariables false
set_option linter.unusedSimpArgs false
namespace Go.Proofs.Ytmljmahlpcdhoaa
set_option linter.unusedVariables false
set_option maxRecDepth 100000
open Go.RowKit Go.Lib
structure OkN (d : Dvc) (l : List Sbj) : Prop where
  n : d.pols.length ≤ 1048576
  pc : ∀ p ∈ d.pols, p.cs.length ≤ 1048576
  cp : ∀ p ∈ d.pols, ∀ c ∈ p.cs, c.pre.length ≤ 1048576 ∧ c.sCom.length ≤ 1048576 ∧ ∀ n ∈ c.pre, 0 ≤ n ∧ n < 4294967296
  ep : ∀ x ∈ d.pls, ∀ e ∈ x.es, e.p.ok
  am : ∀ x ∈ d.cls, ∀ m ∈ x.ms, m.all.length ≤ 1048576
  dn : d.pls.length ≤ 1048576 ∧ d.cls.length ≤ 1048576 ∧ (∀ x ∈ d.pls, x.es.length ≤ 1048576) ∧ ∀ x ∈ d.cls, x.ms.length ≤ 1048576
  ln : l.length ≤ 1048576
  sb : ∀ s ∈ l, s.p.ok ∧ s.path.length ≤ 1048576 ∧ s.com.length ≤ 1048576 ∧ ∀ n ∈ s.path, 0 ≤ n ∧ n < 4294967296
def d1P (d : Dvc) (p : Pol) : Dvc := { d with pols := [p] }
def useU (us : List Bool) (i : Nat) : Bool := us.getD i false
def lessP (p : Pol) (us : List Bool) : Pol := ⟨[108, 101, 115, 115], keepU (useU us) 0 p.cs, p.dft⟩
def d2P (d : Dvc) (p : Pol) (us : List Bool) : Dvc := { d with pols := [p, lessP p us] }
theorem sum_bnd {α : Type} (f : α → Nat) (B : Nat) : ∀ l : List α, (∀ x ∈ l, f x ≤ B) → (l.map f).sum ≤ l.length * B
  | [], _ => by simp
  | x :: r, h => by
    have h1 := sum_bnd f B r fun y hy => h y (by simp [hy])
    have h2 := h x (by simp)
    simp only [List.map_cons, List.sum_cons, List.length_cons, Nat.succ_mul]
    omega
end Go.Proofs.Ytmljmahlpcdhoaa

/-
 Texts of a proof, one behind the other (part 40).
-/
import Derived.Test.YtoahnbmedcjpeaaGreatDoorMn3
import Derived.Test.YtoahnbmedcjpeaaGreatDoorMn35
import Derived.Test.YtoahnbmedcjpeaaGreatDoorMn37
set_option linter.unusedSimpArgs false
set_option linter.unusedVariables false
namespace Go.Proofs.YtoahnbmedcjpeaaGreatDoor.Ab
set_option maxRecDepth 100000
open Go.RowKit Go.Lib
attribute [local irreducible] AWp AOps AQ AYield AEff ACall AWk AAny AAt AThen AIn APost NoPanic
def nils (xs : List AVal) : List AVal := xs.map fun x => match x with
 | .d (.sc (.slice none 0 0)) => .d (.sl [] 0)
 | x => x
theorem zed {w : World} {F : Nat → Prop} {ι : Nat → Option Value} {xs : List AVal} {i : Nat} {c : AVal} {u : Value} (hc : (nils xs)[i]? = some c) (h : ∀ c0, xs[i]? = some c0 → VRel w F ι c0 u) : VRel w F ι c u := by
 unfold nils at hc
 rw [List.getElem?_map] at hc
 cases hx : xs[i]? with
 | none => rw [hx] at hc; cases hc
 | some c0 =>
  rw [hx] at hc
  have h0 := h c0 hx
  simp only [Option.map_some, Option.some.injEq] at hc
  split at hc
  ·subst hc; exact zfm _ _ _ _ h0
  ·subst hc; exact h0
theorem zcU {xs : List AVal} (w : World) (F : Nat → Prop) (ι : Nat → Option Value) (u : Value) (h : VRel w F ι (.agg xs) u) : VRel w F ι (.agg (nils xs)) u := by
 cases h with
 | agg _ C hl h => exact .agg _ C (by rw [hl]; simp [nils]) fun i c u hc hu => zed hc fun c0 h0 => h i c0 u h0 hu
theorem ziU {nt : Nat} {e : Env} {h : Heap} {b : Nat} {cs : List AVal} (hb : look h b = some (.var cs)) : AWk nt e h e ((b, .var (nils cs)) :: h) := by
 unfold AWk
 intro Pm F w0 pin ι a w R
 obtain ⟨v, hv, r, C, T, rfl, hC, hlC, hrr⟩ := R.heap.blk b _ hb
 have hW : Wrote w (.pointer (some ⟨r, 0, none⟩)) w := ⟨rfl, rfl, rfl, Nat.le_refl _, fun _ _ _ => rfl⟩
 have H2 := R.heap.wrote (b' := .var (nils cs)) hW hv ⟨r, C, T, rfl, hC, by rw [hlC]; simp [nils], fun j c u h1 h2 => zed h1 fun c0 h0 => hrr j c0 u h0 h2⟩
 exact ⟨_, H2, R.env, R.defers, R.size⟩
def ifA : Ifx := ⟨[101, 49], [114, 101, 100], 0, 0, false, [], [], 0, -1, 1, false⟩
def ifB : Ifx := ⟨[101, 48], [], 0, 0, false, [], [], 0, -1, 1, false⟩
def dvA : Dvc := ⟨[98], 1, [[114, 101, 100]], [ifA, ifB], [], [], [], [], [], [], [], []⟩
def dvB : Dvc := ⟨[97], 2, [], [], [], [⟨false, [102], 1⟩], [], [], [], [], [], []⟩
def dvC : Dvc := ⟨[97], 2, [], [], [], [], [], [], [], [], [], []⟩
theorem zay {α : Type} {p : α → Prop} : ∀ x ∈ ([] : List α), p x := fun _ h => by cases h
end Go.Proofs.YtoahnbmedcjpeaaGreatDoor.Ab

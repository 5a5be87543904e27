/-
 Texts of a proof, one behind the other (part 36).
-/
import Derived.Test.YtmmdkjanmegjdaaGreatRv4
import Derived.Test.YtmmdkjanmegjdaaGreatRv26
set_option linter.unusedSimpArgs false
set_option linter.unusedVariables false
namespace Go.Proofs.YtmmdkjanmegjdaaGreat
set_option maxRecDepth 100000
open Go.RowKit Go.Lib
def noneC (q a : Int) : Cls := ⟨q, a, [], [], -1, -1, -1, -1, -1, -1, [], false, [], 0, 0⟩
def awC1 : Cls := ⟨10, 1, [], [], -1, -1, -1, -1, 200, -1, [], false, [], 0, 30⟩
def awC2 : Cls := noneC 20 0
def awC3 : Cls := ⟨30, 2, [], [], -1, -1, -1, -1, -1, -1, [], false, [7], 0, 0⟩
def awP : Pol := ⟨[109], [awC1, awC2, awC3], false⟩
def awD : Dvc := ⟨[], 0, [], [], [], [], [], [], [], [awP], [], []⟩
def awS : Sbj := ⟨⟨0, 0⟩, 0, 0, 100, [], [], 0⟩
def awR : Sbj := ⟨⟨0, 0⟩, 0, 0, 200, [7], [], 0⟩
namespace Ab
def nils (xs : List AVal) : List AVal := xs.map fun x => match x with
 | .d (.sc (.slice none 0 0)) => .d (.sl [] 0)
 | x => x
theorem zgW {w : World} {F : Nat → Prop} {ι : Nat → Option Value} {xs : List AVal} {i : Nat} {c : AVal} {u : Value} (hc : (nils xs)[i]? = some c) (h : ∀ c0, xs[i]? = some c0 → VRel w F ι c0 u) : VRel w F ι c u := by
 unfold nils at hc
 rw [List.getElem?_map] at hc
 cases hx : xs[i]? with
 | none => rw [hx] at hc; cases hc
 | some c0 =>
  rw [hx] at hc
  have h0 := h c0 hx
  simp only [Option.map_some, Option.some.injEq] at hc
  split at hc
  ·subst hc; exact zdj _ _ _ _ h0
  ·subst hc; exact h0
theorem zkE {xs : List AVal} (w : World) (F : Nat → Prop) (ι : Nat → Option Value) (u : Value) (h : VRel w F ι (.agg xs) u) : VRel w F ι (.agg (nils xs)) u := by
 cases h with
 | agg _ C hl h => exact .agg _ C (by rw [hl]; simp [nils]) fun i c u hc hu => zgW hc fun c0 h0 => h i c0 u h0 hu
theorem zdI {nt : Nat} {e : Env} {h : Heap} {b : Nat} {cs : List AVal} (hb : look h b = some (.var cs)) : AWk nt e h e ((b, .var (nils cs)) :: h) := fun Pm F w0 pin ι a w R => by
 obtain ⟨v, hv, r, C, T, rfl, hC, hlC, hrr⟩ := R.heap.blk b _ hb
 have hW : Wrote w (.pointer (some ⟨r, 0, none⟩)) w := ⟨rfl, rfl, rfl, Nat.le_refl _, fun _ _ _ => rfl⟩
 have H2 := R.heap.wrote (b' := .var (nils cs)) hW hv ⟨r, C, T, rfl, hC, by rw [hlC]; simp [nils], fun j c u h1 h2 => zgW h1 fun c0 h0 => hrr j c0 u h0 h2⟩
 exact ⟨_, H2, R.env, R.defers, R.size⟩
attribute [local irreducible] AWp AOps AQ AYield AEff ACall AWk AAny AAt AThen AIn APost NoPanic
def noneX (q a : Int) : List AVal := [.d (iD q), .d (cD a), .d (sD []), .d (sD []), .d (iD (-1)), .d (iD (-1)), .d (iD (-1)), .d (iD (-1)), .d (iD (-1)), .d (iD (-1)), .d (.sc (.slice none 0 0)), .d (bD false), .d (.sc (.slice none 0 0)), .d (uD 0), .d (iD 0)]
def awX : List AVal := [.d (sD []), .d (cD 0), .d (.sc (.slice none 0 0)), .d (.sc (.slice none 0 0)), .d (.sc (.slice none 0 0)), .d (.sc (.slice none 0 0)), .d (.sc (.slice none 0 0)), .d (.sc (.slice none 0 0)), .d (.sc (.slice none 0 0)), .d (.sl (polD awP) 1), .d (.sc (.slice none 0 0)), .d (.sc (.slice none 0 0))]
def awY : List AVal := [.d (uD 0), .d (iD 0), .d (iD 0), .d (iD 0), .d (iD 100), .d (.sc (.slice none 0 0)), .d (.sc (.slice none 0 0)), .d (uD 0)]
end Ab
end Go.Proofs.YtmmdkjanmegjdaaGreat

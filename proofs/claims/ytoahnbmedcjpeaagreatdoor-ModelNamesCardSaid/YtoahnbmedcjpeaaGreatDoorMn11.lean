/-
 Texts of a proof, one behind the other (part 12).
-/
import Derived.Test.YtoahnbmedcjpeaaGreatDoorMn3
set_option linter.unusedVariables false
set_option linter.unusedSimpArgs false
namespace Go.Proofs.YtoahnbmedcjpeaaGreatDoor.St
section
variable {α : Type} {lt : α → α → Bool}
variable (lt) in
def bl (s : Nat) (l : List α) : List α := if h : s = 0 ∨ l.length ≤ s then stS lt l else stS lt (l.take s) ++ bl s (l.drop s)
termination_by l.length
decreasing_by rw [List.length_drop]; omega
theorem zbX {s : Nat} {l : List α} (h : l.length ≤ s) : bl lt s l = stS lt l := by rw [bl, dif_pos (Or.inr h)]
theorem zch {s : Nat} {l : List α} (hs : 0 < s) (h : s ≤ l.length) : bl lt s l = stS lt (l.take s) ++ bl lt s (l.drop s) := by
 by_cases h1 : l.length ≤ s
 ·rw [zbX h1, List.take_of_length_le h1, List.drop_eq_nil_of_le h1, zbX (by simp), stS, List.append_nil]
 ·rw [bl, dif_neg (by omega)]
theorem zkc (s : Nat) (l : List α) : (bl lt s l).length = l.length := by
 induction hn : l.length using Nat.strongRecOn generalizing l with
 | ind n ih =>
  by_cases h : s = 0 ∨ l.length ≤ s
  ·rw [bl, dif_pos h, zaL, hn]
  ·rw [bl, dif_neg h, List.length_append, zaL, ih (l.drop s).length (by rw [List.length_drop]; omega) _ rfl, List.length_take, List.length_drop]; omega
theorem zkb (W : Weak lt) {s : Nat} {l : List α} (hs : 0 < s) (h : 2 * s ≤ l.length) : bl lt s l = stS lt (l.take s) ++ (stS lt ((l.drop s).take s) ++ bl lt s (l.drop (2 * s))) ∧ mrg lt (stS lt (l.take s)) (stS lt ((l.drop s).take s)) = stS lt (l.take (2 * s)) := by
 constructor
 ·rw [zch hs (by omega), zch (l := l.drop s) hs (by rw [List.length_drop]; omega), List.drop_drop, show s + s = 2 * s by omega]
 ·rw [← zbA W, show 2 * s = s + s by omega, List.take_add]
theorem ziL (W : Weak lt) {s : Nat} {l : List α} (hs : 0 < s) (h : l.length < 2 * s) (h2 : s < l.length) : bl lt s l = stS lt (l.take s) ++ stS lt (l.drop s) ∧ mrg lt (stS lt (l.take s)) (stS lt (l.drop s)) = stS lt l := by
 constructor
 ·rw [zch hs (by omega), zbX (l := l.drop s) (by rw [List.length_drop]; omega)]
 ·rw [← zbA W, List.take_append_drop]
end
end Go.Proofs.YtoahnbmedcjpeaaGreatDoor.St

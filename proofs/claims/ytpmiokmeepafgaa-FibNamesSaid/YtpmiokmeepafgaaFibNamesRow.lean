/-
  FibNames holds: the kernel runs it.
-/
import Derived.Test.YtpmiokmeepafgaaFTab
import Derived.Test.YtpmiokmeepafgaaFrame
namespace Go.Proofs.Ytpmiokmeepafgaa
open Go.ChangeShapes Go.WideShapes Go.ChangeAt Go.RowKit
set_option linter.unusedVariables false
set_option maxRecDepth 100000

theorem fibNames_ran : Rn.runF Try.prog Ab.tab Rn.ft 400 3 [] = some (.bool true) := by kernel_rfl

theorem fibNames_walked : Walked 3 [] := by
  intro H enc W args ds ps hval hA _
  obtain ⟨h0, rfl, rfl⟩ := trodAll_nil hA
  obtain rfl : args = #[] := by cases args; simp_all
  refine (Rn.runs fibNames_ran W).mono ?_
  rintro x w' ⟨rfl, h1, h2, h3, h4, h5⟩
  exact ⟨rfl, h1, h2, h3, h4, fun k hk => h5 k hk⟩

theorem fibNames_lifted (os : Os) (started : os.Started) (H : Type) (enc : TypeId × Value → H) :
    ReturnsInHanded {} Try.checked os 3 .any (Rows.fibNamesSpec.pre6 enc Try.prog Try.f3 Rows.fibNamesRow.domain false) (Rows.fibNamesSpec.post enc Try.prog Try.f3 false true false false) := by
  refine law_lift (tb := 4) Try.func3 (by kernel_rfl) (by kernel_rfl) Try.underlying4 rfl (by kernel_rfl) ?_ ?_ ?_ os started H enc
    (ChangeSpec.witness6 (enc := enc) (C := Try.checked) false ⟨#[], #[], []⟩ 8 (by kernel_rfl) (by kernel_rfl) (by kernel_rfl) (by kernel_rfl))
  · intro H ds hl
    rw [show Try.f3.params = #[] from Try.params3] at hl
    match ds, hl with
    | [], _ => exact ⟨rfl, rfl, rfl⟩
  · rw [show Try.f3.params = #[] from Try.params3]
    intro t ht
    simp at ht
  · rw [show Try.f3.params = #[] from Try.params3]
    exact fibNames_walked

theorem fibNames_over : Rows.fibNamesRow.holds Try.pinned (OpenSpec.ofChange Rows.fibNamesSpec) :=
  OpenClaim.holds_of_wide 3 Try.f3 rfl rfl rfl rfl rfl rfl rfl ⟨rfl, rfl, rfl, rfl, rfl⟩ rfl rfl rfl rfl rfl (by kernel_rfl) Try.func3 (by kernel_rfl)
    (of_decide_eq_true (by kernel_rfl)) (by unfold Func.isWrapper; first | (rw [if_pos (by decide +kernel)]; kernel_rfl) | (rw [if_neg (by decide +kernel)]; exact ⟨rfl, rfl⟩))
    (fun os started H enc _ => fibNames_lifted os started H enc)

theorem fibNames_holds : Rows.FibNamesSaid := fibNames_over
#print axioms fibNames_holds
end Go.Proofs.Ytpmiokmeepafgaa

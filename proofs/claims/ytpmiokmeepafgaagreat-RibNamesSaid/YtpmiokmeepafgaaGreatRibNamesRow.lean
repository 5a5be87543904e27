/-
  RibNames holds: the kernel runs it.
-/
import Derived.Test.YtpmiokmeepafgaaGreatFTab
import Derived.Test.YtpmiokmeepafgaaGreatFrame
namespace Go.Proofs.YtpmiokmeepafgaaGreat
open Go.ChangeShapes Go.WideShapes Go.ChangeAt Go.RowKit
set_option linter.unusedVariables false
set_option maxRecDepth 100000

theorem ribNames_ran : Rn.runF Tryz.prog Ab.tab Rn.ft 400 3 [] = some (.bool true) := by kernel_rfl

theorem ribNames_walked : Walked 3 [] := by
  intro H enc W args ds ps hval hA _
  obtain ⟨h0, rfl, rfl⟩ := trodAll_nil hA
  obtain rfl : args = #[] := by cases args; simp_all
  refine (Rn.runs ribNames_ran W).mono ?_
  rintro x w' ⟨rfl, h1, h2, h3, h4, h5⟩
  exact ⟨rfl, h1, h2, h3, h4, fun k hk => h5 k hk⟩

theorem ribNames_lifted (os : Os) (started : os.Started) (H : Type) (enc : TypeId × Value → H) :
    ReturnsInHanded {} Tryz.checked os 3 .any (Rows.ribNamesSpec.pre6 enc Tryz.prog Tryz.f3 Rows.ribNamesRow.domain false) (Rows.ribNamesSpec.post enc Tryz.prog Tryz.f3 false true false false) := by
  refine law_lift (tb := 4) Tryz.func3 (by kernel_rfl) (by kernel_rfl) Tryz.underlying4 rfl (by kernel_rfl) ?_ ?_ ?_ os started H enc
    (ChangeSpec.witness6 (enc := enc) (C := Tryz.checked) false ⟨#[], #[], []⟩ 8 (by kernel_rfl) (by kernel_rfl) (by kernel_rfl) (by kernel_rfl))
  · intro H ds hl
    rw [show Tryz.f3.params = #[] from Tryz.params3] at hl
    match ds, hl with
    | [], _ => exact ⟨rfl, rfl, rfl⟩
  · rw [show Tryz.f3.params = #[] from Tryz.params3]
    intro t ht
    simp at ht
  · rw [show Tryz.f3.params = #[] from Tryz.params3]
    exact ribNames_walked

theorem ribNames_over : Rows.ribNamesRow.holds Tryz.pinned (OpenSpec.ofChange Rows.ribNamesSpec) :=
  OpenClaim.holds_of_wide 3 Tryz.f3 rfl rfl rfl rfl rfl rfl rfl ⟨rfl, rfl, rfl, rfl, rfl⟩ rfl rfl rfl rfl rfl (by kernel_rfl) Tryz.func3 (by kernel_rfl)
    (of_decide_eq_true (by kernel_rfl)) (by unfold Func.isWrapper; first | (rw [if_pos (by decide +kernel)]; kernel_rfl) | (rw [if_neg (by decide +kernel)]; exact ⟨rfl, rfl⟩))
    (fun os started H enc _ => ribNames_lifted os started H enc)

theorem ribNames_holds : Rows.RibNamesSaid := ribNames_over
#print axioms ribNames_holds
end Go.Proofs.YtpmiokmeepafgaaGreat

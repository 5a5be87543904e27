/-
  TrieNames holds: the kernel runs it.
-/
import Derived.Test.YtplgpbadpdmeeaaFTab
import Derived.Test.YtplgpbadpdmeeaaFrame
namespace Go.Proofs.Ytplgpbadpdmeeaa
open Go.ChangeShapes Go.WideShapes Go.ChangeAt Go.RowKit
set_option linter.unusedVariables false
set_option maxRecDepth 100000

theorem trieNames_ran : Rn.runF Try.prog Ab.tab Rn.ft 400 8 [] = some (.bool true) := by kernel_rfl

theorem trieNames_walked : Walked 8 [] := by
  intro H enc W args ds ps hval hA _
  obtain ⟨h0, rfl, rfl⟩ := trodAll_nil hA
  obtain rfl : args = #[] := by cases args; simp_all
  refine (Rn.runs trieNames_ran W).mono ?_
  rintro x w' ⟨rfl, h1, h2, h3, h4, h5⟩
  exact ⟨rfl, h1, h2, h3, h4, fun k hk => h5 k hk⟩

theorem trieNames_lifted (os : Os) (started : os.Started) (H : Type) (enc : TypeId × Value → H) :
    ReturnsInHanded {} Try.checked os 8 .any (Rows.trieNamesSpec.pre6 enc Try.prog Try.f8 Rows.trieNamesRow.domain false) (Rows.trieNamesSpec.post enc Try.prog Try.f8 false true false false) := by
  refine law_lift (tb := 4) Try.func8 (by kernel_rfl) (by kernel_rfl) Try.underlying4 rfl (by kernel_rfl) ?_ ?_ ?_ os started H enc
    (ChangeSpec.witness6 (enc := enc) (C := Try.checked) false ⟨#[], #[], []⟩ 8 (by kernel_rfl) (by kernel_rfl) (by kernel_rfl) (by kernel_rfl))
  · intro H ds hl
    rw [show Try.f8.params = #[] from Try.params8] at hl
    match ds, hl with
    | [], _ => exact ⟨rfl, rfl, rfl⟩
  · rw [show Try.f8.params = #[] from Try.params8]
    intro t ht
    simp at ht
  · rw [show Try.f8.params = #[] from Try.params8]
    exact trieNames_walked

theorem trieNames_over : Rows.trieNamesRow.holds Try.pinned (OpenSpec.ofChange Rows.trieNamesSpec) :=
  OpenClaim.holds_of_wide 8 Try.f8 rfl rfl rfl rfl rfl rfl rfl ⟨rfl, rfl, rfl, rfl, rfl⟩ rfl rfl rfl rfl rfl (by kernel_rfl) Try.func8 (by kernel_rfl)
    (of_decide_eq_true (by kernel_rfl)) (by unfold Func.isWrapper; first | (rw [if_pos (by decide +kernel)]; kernel_rfl) | (rw [if_neg (by decide +kernel)]; exact ⟨rfl, rfl⟩))
    (fun os started H enc _ => trieNames_lifted os started H enc)

theorem trieNames_holds : Rows.TrieNamesSaid := trieNames_over
#print axioms trieNames_holds
end Go.Proofs.Ytplgpbadpdmeeaa

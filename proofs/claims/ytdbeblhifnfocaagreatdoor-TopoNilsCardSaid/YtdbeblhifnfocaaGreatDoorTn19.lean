/-
  Texts of a proof, one behind the other (part 20).
-/
import Derived.Test.YtdbeblhifnfocaaGreatDoorRows
import Derived.Test.YtdbeblhifnfocaaGreatDoorTn16
set_option linter.unusedVariables false
set_option linter.unusedSimpArgs false
namespace Go.Proofs.YtdbeblhifnfocaaGreatDoor
open Go.ChangeShapes Go.WideShapes Go.ChangeAt Go.RowKit
set_option linter.unusedVariables false
set_option maxRecDepth 100000
theorem jf_maps : mapsRowed Tryz.prog = true := by kernel_rfl
theorem jf_stops : (Tryz.prog.stops == []) = true := by kernel_rfl
theorem jf_knobs : (Tryz.prog.stopKnobs == []) = true := by kernel_rfl
theorem jf_heard : Tryz.prog.stopsHeard = true := by kernel_rfl
theorem jf_enter : Tryz.prog.mayEnter = true := by kernel_rfl
theorem jf_lifted : (Rows.topoNilsRow.lifted == Tryz.prog.liftsFinal) = true := by kernel_rfl
theorem jf_keys : (Rows.topoNilsRow.plainKeys == Tryz.prog.plainKeys) = true := by kernel_rfl
theorem jf_place : (Rows.topoNilsRow.inPlace == Tryz.prog.inPlace 3) = true := by kernel_rfl
theorem jf_unfol : (Rows.topoNilsRow.unfollowed == Tryz.prog.unfollowed 3) = true := by kernel_rfl
theorem jf_rec : (Rows.topoNilsRow.recurses == Tryz.prog.recurses 3) = true := by kernel_rfl
theorem jf_named : (Rows.topoNilsRow.named == Tryz.prog.varsNamed 3) = true := by kernel_rfl
theorem jf_name : Tryz.prog.funcNamed Rows.topoNilsRow.func = some 3 := by kernel_rfl
theorem jf_all : joinedFacts Tryz.prog 3 Tryz.f3 (OpenSpec.ofChange Rows.topoNilsSpec).bare Rows.topoNilsRow = true := by
  unfold joinedFacts
  simp only [Bool.and_eq_true]
  repeat' (apply And.intro)
  · kernel_rfl
  · exact laid_
  · exact jf_maps
  · kernel_rfl
  · kernel_rfl
  · kernel_rfl
  · exact jf_stops
  · kernel_rfl
  · exact jf_knobs
  · exact jf_place
  · exact jf_unfol
  · exact jf_rec
  · exact jf_named
  · kernel_rfl
  · kernel_rfl
  · kernel_rfl
  · kernel_rfl
  · kernel_rfl
  · kernel_rfl
  · kernel_rfl
  · kernel_rfl
  · kernel_rfl
  · exact jf_keys
  · kernel_rfl
  · exact jf_heard
  · exact jf_enter
  · exact jf_lifted
  all_goals kernel_rfl
end Go.Proofs.YtdbeblhifnfocaaGreatDoor

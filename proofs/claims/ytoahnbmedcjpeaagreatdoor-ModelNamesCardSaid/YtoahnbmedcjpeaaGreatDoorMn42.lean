/-
 Texts of a proof, one behind the other (part 43).
-/
import Derived.Test.YtoahnbmedcjpeaaGreatDoorRows
import Derived.Test.YtoahnbmedcjpeaaGreatDoorMn1
import Derived.Test.YtoahnbmedcjpeaaGreatDoorMn3
set_option linter.unusedVariables false
set_option linter.unusedSimpArgs false
namespace Go.Proofs.YtoahnbmedcjpeaaGreatDoor
open Go.ChangeShapes Go.WideShapes Go.ChangeAt Go.RowKit
set_option maxRecDepth 100000
theorem zir : mapsRowed Tryz.prog = true := by kernel_rfl
theorem zg1 : (Tryz.prog.stops == []) = true := by kernel_rfl
theorem zg4 : (Tryz.prog.stopKnobs == []) = true := by kernel_rfl
theorem zg5 : Tryz.prog.stopsHeard = true := by kernel_rfl
theorem zg6 : Tryz.prog.mayEnter = true := by kernel_rfl
theorem zf2 : (Rows.modelNamesRow.lifted == Tryz.prog.liftsFinal) = true := by kernel_rfl
theorem zis : (Rows.modelNamesRow.plainKeys == Tryz.prog.plainKeys) = true := by kernel_rfl
theorem zg2 : (Rows.modelNamesRow.inPlace == Tryz.prog.inPlace 3) = true := by kernel_rfl
theorem zg0 : (Rows.modelNamesRow.unfollowed == Tryz.prog.unfollowed 3) = true := by kernel_rfl
theorem zjO : (Rows.modelNamesRow.recurses == Tryz.prog.recurses 3) = true := by kernel_rfl
theorem zg3 : (Rows.modelNamesRow.named == Tryz.prog.varsNamed 3) = true := by kernel_rfl
theorem ziq : Tryz.prog.funcNamed Rows.modelNamesRow.func = some 3 := by kernel_rfl
theorem zjP : joinedFacts Tryz.prog 3 Tryz.f3 (OpenSpec.ofChange Rows.modelNamesSpec).bare Rows.modelNamesRow = true := by
 unfold joinedFacts
 simp only [Bool.and_eq_true]
 repeat' (apply And.intro)
 ·kernel_rfl
 ·exact zjg
 ·exact zir
 ·kernel_rfl
 ·kernel_rfl
 ·kernel_rfl
 ·exact zg1
 ·kernel_rfl
 ·exact zg4
 ·exact zg2
 ·exact zg0
 ·exact zjO
 ·exact zg3
 ·kernel_rfl
 ·kernel_rfl
 ·kernel_rfl
 ·kernel_rfl
 ·kernel_rfl
 ·kernel_rfl
 ·kernel_rfl
 ·kernel_rfl
 ·kernel_rfl
 ·exact zis
 ·kernel_rfl
 ·exact zg5
 ·exact zg6
 ·exact zf2
 all_goals kernel_rfl
end Go.Proofs.YtoahnbmedcjpeaaGreatDoor

/-
 Texts of a proof, one behind the other (part 49).
-/
import Derived.Test.YtoahnbmedcjpeaaGreatDoorRows
import Derived.Test.YtoahnbmedcjpeaaGreatDoorMo1
import Derived.Test.YtoahnbmedcjpeaaGreatDoorMo3
set_option linter.unusedVariables false
set_option linter.unusedSimpArgs false
namespace Go.Proofs.YtoahnbmedcjpeaaGreatDoor
open Go.ChangeShapes Go.WideShapes Go.ChangeAt Go.RowKit
set_option maxRecDepth 100000
theorem zkt : mapsRowed Tryz.prog = true := by kernel_rfl
theorem ziV : (Tryz.prog.stops == []) = true := by kernel_rfl
theorem ziY : (Tryz.prog.stopKnobs == []) = true := by kernel_rfl
theorem ziZ : Tryz.prog.stopsHeard = true := by kernel_rfl
theorem zi0 : Tryz.prog.mayEnter = true := by kernel_rfl
theorem zhI : (Rows.modelOrderUptoRow.lifted == Tryz.prog.liftsFinal) = true := by kernel_rfl
theorem zku : (Rows.modelOrderUptoRow.plainKeys == Tryz.prog.plainKeys) = true := by kernel_rfl
theorem ziW : (Rows.modelOrderUptoRow.inPlace == Tryz.prog.inPlace 4) = true := by kernel_rfl
theorem ziU : (Rows.modelOrderUptoRow.unfollowed == Tryz.prog.unfollowed 4) = true := by kernel_rfl
theorem zmc : (Rows.modelOrderUptoRow.recurses == Tryz.prog.recurses 4) = true := by kernel_rfl
theorem ziX : (Rows.modelOrderUptoRow.named == Tryz.prog.varsNamed 4) = true := by kernel_rfl
theorem zks : Tryz.prog.funcNamed Rows.modelOrderUptoRow.func = some 4 := by kernel_rfl
theorem zmd : joinedFacts Tryz.prog 4 Tryz.f4 (Rows.OpenSpec.upto Rows.modelOrderSpec).bare Rows.modelOrderUptoRow = true := by
 unfold joinedFacts
 simp only [Bool.and_eq_true]
 repeat' (apply And.intro)
 ·kernel_rfl
 ·exact zlm
 ·exact zkt
 ·kernel_rfl
 ·kernel_rfl
 ·kernel_rfl
 ·exact ziV
 ·kernel_rfl
 ·exact ziY
 ·exact ziW
 ·exact ziU
 ·exact zmc
 ·exact ziX
 ·kernel_rfl
 ·kernel_rfl
 ·kernel_rfl
 ·kernel_rfl
 ·kernel_rfl
 ·kernel_rfl
 ·kernel_rfl
 ·kernel_rfl
 ·kernel_rfl
 ·exact zku
 ·kernel_rfl
 ·exact ziZ
 ·exact zi0
 ·exact zhI
 all_goals kernel_rfl
end Go.Proofs.YtoahnbmedcjpeaaGreatDoor

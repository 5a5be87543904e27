/-
 Texts of a proof, one behind the other (part 49).
-/
import Derived.Test.YtoahnbmedcjpeaaGreatDoorRows
import Derived.Test.YtoahnbmedcjpeaaGreatDoorMf1
import Derived.Test.YtoahnbmedcjpeaaGreatDoorMf3
set_option linter.unusedVariables false
set_option linter.unusedSimpArgs false
namespace Go.Proofs.YtoahnbmedcjpeaaGreatDoor
open Go.ChangeShapes Go.WideShapes Go.ChangeAt Go.RowKit
set_option maxRecDepth 100000
theorem zjB : mapsRowed Tryz.prog = true := by kernel_rfl
theorem zhN : (Tryz.prog.stops == []) = true := by kernel_rfl
theorem zhQ : (Tryz.prog.stopKnobs == []) = true := by kernel_rfl
theorem zhR : Tryz.prog.stopsHeard = true := by kernel_rfl
theorem zhS : Tryz.prog.mayEnter = true := by kernel_rfl
theorem zgB : (Rows.modelFormUptoRow.lifted == Tryz.prog.liftsFinal) = true := by kernel_rfl
theorem zjC : (Rows.modelFormUptoRow.plainKeys == Tryz.prog.plainKeys) = true := by kernel_rfl
theorem zhO : (Rows.modelFormUptoRow.inPlace == Tryz.prog.inPlace 7) = true := by kernel_rfl
theorem zhM : (Rows.modelFormUptoRow.unfollowed == Tryz.prog.unfollowed 7) = true := by kernel_rfl
theorem zlb : (Rows.modelFormUptoRow.recurses == Tryz.prog.recurses 7) = true := by kernel_rfl
theorem zhP : (Rows.modelFormUptoRow.named == Tryz.prog.varsNamed 7) = true := by kernel_rfl
theorem zjA : Tryz.prog.funcNamed Rows.modelFormUptoRow.func = some 7 := by kernel_rfl
theorem zlc : joinedFacts Tryz.prog 7 Tryz.f7 (Rows.OpenSpec.upto Rows.modelFormSpec).bare Rows.modelFormUptoRow = true := by
 unfold joinedFacts
 simp only [Bool.and_eq_true]
 repeat' (apply And.intro)
 ·kernel_rfl
 ·exact zkw
 ·exact zjB
 ·kernel_rfl
 ·kernel_rfl
 ·kernel_rfl
 ·exact zhN
 ·kernel_rfl
 ·exact zhQ
 ·exact zhO
 ·exact zhM
 ·exact zlb
 ·exact zhP
 ·kernel_rfl
 ·kernel_rfl
 ·kernel_rfl
 ·kernel_rfl
 ·kernel_rfl
 ·kernel_rfl
 ·kernel_rfl
 ·kernel_rfl
 ·kernel_rfl
 ·exact zjC
 ·kernel_rfl
 ·exact zhR
 ·exact zhS
 ·exact zgB
 all_goals kernel_rfl
end Go.Proofs.YtoahnbmedcjpeaaGreatDoor

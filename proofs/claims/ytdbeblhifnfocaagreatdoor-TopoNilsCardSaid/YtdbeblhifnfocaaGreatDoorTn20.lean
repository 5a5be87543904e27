/-
  TopoNils's card holds: without a snapshot there is nothing beside anything.
-/
import Derived.Test.YtdbeblhifnfocaaGreatDoorTn18
import Derived.Test.YtdbeblhifnfocaaGreatDoorTn19
set_option linter.unusedVariables false
set_option linter.unusedSimpArgs false
namespace Go.Proofs.YtdbeblhifnfocaaGreatDoor
open Go.ChangeShapes Go.WideShapes Go.ChangeAt Go.RowKit
set_option linter.unusedVariables false
set_option maxRecDepth 100000
theorem nils_said : Rows.TopoNilsSaid :=
  OpenClaim.holds_of_cond 3 Tryz.f3 rfl rfl rfl rfl rfl rfl rfl ⟨rfl, rfl, rfl, rfl, rfl⟩ rfl rfl rfl rfl rfl jf_name Tryz.func3 jf_all
    (of_decide_eq_true (by kernel_rfl)) (by unfold Func.isWrapper; first | (rw [if_pos (by decide +kernel)]; kernel_rfl) | (rw [if_neg (by decide +kernel)]; exact ⟨rfl, rfl⟩))
    (fun os started H enc _ F => by rw [OpenClaim.pre_eq_preRow]; exact nils_lifted os started H enc F)
theorem nils_plain (f : FuncId) (fn : Func) (hf : Tryz.pinned.checked.prog.funcNamed "waymark/waymarklaw17.TopoNils" = some f) (hfn : Tryz.pinned.checked.prog.funcs[f]? = some fn) :
    false = Tryz.pinned.checked.prog.looks [] ∧ ∀ (j : Nat) t, fn.params[j]? = some t → Tryz.pinned.checked.prog.wantsStandIn t = false := by
  obtain rfl : f = 3 := Option.some.inj ((show Tryz.prog.funcNamed "waymark/waymarklaw17.TopoNils" = some 3 by kernel_rfl).symm.trans hf) |>.symm
  obtain rfl : fn = Tryz.f3 := (Option.some.inj (Tryz.func3.symm.trans hfn)).symm
  refine ⟨by kernel_rfl, fun j t ht => ?_⟩
  rw [Tryz.params3] at ht
  simp at ht
theorem topoNils_holds : Rows.TopoNilsCardSaid :=
  Claim7.holds_tied_plain_at .later [] _ _ _ _ nils_said (fun _ h => by cases h) (by kernel_rfl) (fun _ h => by cases h) topoNils_row_tie rfl ⟨rfl, rfl⟩ (by kernel_rfl) rfl nils_plain (by kernel_rfl)
#print axioms topoNils_holds
end Go.Proofs.YtdbeblhifnfocaaGreatDoor

/-
 ModelForm's card holds, where what it reads is of bulk at most 1048576: a device has one form.
-/
import Derived.Test.YtoahnbmedcjpeaaGreatDoorMf3
import Derived.Test.YtoahnbmedcjpeaaGreatDoorMf47
import Derived.Test.YtoahnbmedcjpeaaGreatDoorMf48
set_option linter.unusedVariables false
set_option linter.unusedSimpArgs false
namespace Go.Proofs.YtoahnbmedcjpeaaGreatDoor
open Go.ChangeShapes Go.WideShapes Go.ChangeAt Go.RowKit
set_option maxRecDepth 100000
theorem zgE : Rows.ModelFormUptoSaid :=
 OpenClaim.holds_of_cond 7 Tryz.f7 rfl rfl rfl rfl rfl rfl rfl ⟨rfl, rfl, rfl, rfl, rfl⟩ rfl rfl rfl rfl rfl zjA Tryz.func7 zlc
  (of_decide_eq_true (by kernel_rfl)) (by unfold Func.isWrapper; first | (rw [if_pos (by decide +kernel)]; kernel_rfl) | (rw [if_neg (by decide +kernel)]; exact ⟨rfl, rfl⟩))
  (fun os started H enc _ F => by rw [OpenClaim.pre_eq_preRow]; exact ze0 os started H enc F)
theorem zfG (f : FuncId) (fn : Func) (hf : Tryz.pinned.checked.prog.funcNamed "waymark/waymarklaw12.ModelForm" = some f) (hfn : Tryz.pinned.checked.prog.funcs[f]? = some fn) :
  false = Tryz.pinned.checked.prog.looks [] ∧ ∀ (j : Nat) t, fn.params[j]? = some t → Tryz.pinned.checked.prog.wantsStandIn t = false := by
 obtain rfl : f = 7 := Option.some.inj ((show Tryz.prog.funcNamed "waymark/waymarklaw12.ModelForm" = some 7 by kernel_rfl).symm.trans hf) |>.symm
 obtain rfl : fn = Tryz.f7 := (Option.some.inj (Tryz.func7.symm.trans hfn)).symm
 refine ⟨by kernel_rfl, fun j t ht => ?_⟩
 rw [Tryz.params7] at ht
 obtain rfl : t = 33 := by simpa using Array.mem_of_getElem? ht
 exact (show Tryz.prog.wantsStandIn 33 = false by kernel_rfl)
theorem modelForm_holds : Rows.ModelFormUptoCardSaid :=
 Claim7.holds_tied_plain_at .later [] _ _ _ _ zgE (fun _ h => by cases h) (by kernel_rfl) (fun _ h => by cases h) modelFormUpto_row_tie rfl ⟨rfl, rfl⟩ (by kernel_rfl) rfl zfG (by kernel_rfl)
#print axioms modelForm_holds
end Go.Proofs.YtoahnbmedcjpeaaGreatDoor

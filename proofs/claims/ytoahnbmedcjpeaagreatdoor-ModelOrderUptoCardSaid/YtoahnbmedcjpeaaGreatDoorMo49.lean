/-
 ModelOrder's card holds, where what it reads is of bulk at most 1048576: in whatever order things stand it is the same snapshot.
-/
import Derived.Test.YtoahnbmedcjpeaaGreatDoorMo3
import Derived.Test.YtoahnbmedcjpeaaGreatDoorMo47
import Derived.Test.YtoahnbmedcjpeaaGreatDoorMo48
set_option linter.unusedVariables false
set_option linter.unusedSimpArgs false
namespace Go.Proofs.YtoahnbmedcjpeaaGreatDoor
open Go.ChangeShapes Go.WideShapes Go.ChangeAt Go.RowKit
set_option maxRecDepth 100000
theorem zgp : Rows.ModelOrderUptoSaid :=
 OpenClaim.holds_of_cond 4 Tryz.f4 rfl rfl rfl rfl rfl rfl rfl ⟨rfl, rfl, rfl, rfl, rfl⟩ rfl rfl rfl rfl rfl zks Tryz.func4 zmd
  (of_decide_eq_true (by kernel_rfl)) (by unfold Func.isWrapper; first | (rw [if_pos (by decide +kernel)]; kernel_rfl) | (rw [if_neg (by decide +kernel)]; exact ⟨rfl, rfl⟩))
  (fun os started H enc _ F => by rw [OpenClaim.pre_eq_preRow]; exact zeS os started H enc F)
theorem zfx (f : FuncId) (fn : Func) (hf : Tryz.pinned.checked.prog.funcNamed "waymark/waymarklaw12.ModelOrder" = some f) (hfn : Tryz.pinned.checked.prog.funcs[f]? = some fn) :
  false = Tryz.pinned.checked.prog.looks [] ∧ ∀ (j : Nat) t, fn.params[j]? = some t → Tryz.pinned.checked.prog.wantsStandIn t = false := by
 obtain rfl : f = 4 := Option.some.inj ((show Tryz.prog.funcNamed "waymark/waymarklaw12.ModelOrder" = some 4 by kernel_rfl).symm.trans hf) |>.symm
 obtain rfl : fn = Tryz.f4 := (Option.some.inj (Tryz.func4.symm.trans hfn)).symm
 refine ⟨by kernel_rfl, fun j t ht => ?_⟩
 rw [Tryz.params4] at ht
 have h := Array.mem_of_getElem? ht
 simp at h
 rcases h with rfl | rfl
 ·exact (show Tryz.prog.wantsStandIn 42 = false by kernel_rfl)
 ·exact (show Tryz.prog.wantsStandIn 3 = false by kernel_rfl)
theorem modelOrder_holds : Rows.ModelOrderUptoCardSaid :=
 Claim7.holds_tied_plain_at .later [] _ _ _ _ zgp (fun _ h => by cases h) (by kernel_rfl) (fun _ h => by cases h) modelOrderUpto_row_tie rfl ⟨rfl, rfl⟩ (by kernel_rfl) rfl zfx (by kernel_rfl)
#print axioms modelOrder_holds
end Go.Proofs.YtoahnbmedcjpeaaGreatDoor

/-
  Texts of a proof, one behind the other (part 7).
-/
import Derived.Shelf.Small.Strs
import Derived.Lib.Bytealg
import Derived.Test.YtdbeblhifnfocaaGreatDoorTn5
set_option linter.unusedVariables false
set_option linter.unusedSimpArgs false
namespace Go.Proofs.YtdbeblhifnfocaaGreatDoor.Rn
set_option linter.unusedVariables false
set_option maxRecDepth 100000
open Go.RowKit Go.Lib
def pfT (f : FuncId) (args : List V) : Option V := match Nat.beq f 52 with
  | true => match args with
    | [.sc (.string a), .sc (.string b)] => some (.sc (.int .i64 (Go.Lib.compareBytes a.data.toList b.data.toList)))
    | _ => none
  | false => none
theorem pfT_ok : PfOk Tryz.prog pfT := by
  intro f args v hv
  unfold pfT at hv
  split at hv
  · rename_i hf
    have hf := Nat.eq_of_beq_eq_true hf
    subst hf
    split at hv
    · rename_i a b
      cases hv
      refine ⟨by kernel_rfl, fun us w _ hA => ?_⟩
      obtain ⟨ι, hl, hA⟩ := hA
      obtain ⟨us⟩ := us
      match us, hl, hA with
      | [u1, u2], _, hA =>
        have r1 := hA 0 _ u1 rfl rfl
        have r2 := hA 1 _ u2 rfl rfl
        cases r1
        cases r2
        obtain ⟨⟨x⟩⟩ := a
        obtain ⟨⟨y⟩⟩ := b
        refine (Any.strings_Compare Tryz.laysCmpS ⟨⟨x⟩⟩ ⟨⟨y⟩⟩ w).mono ?_
        rintro e w' ⟨he, hw⟩
        exact ⟨_, he, fun ι => .sc _, by rw [hw], by rw [hw], by rw [hw], by rw [hw]; exact Nat.le_refl _, fun k hk => by rw [hw]⟩
    · cases hv
  · cases hv
end Go.Proofs.YtdbeblhifnfocaaGreatDoor.Rn

/-
  Texts of a proof, one behind the other (part 28).
-/
import Derived.Test.YtjmelcdgbnjefaaRc0
import Derived.Test.YtjmelcdgbnjefaaRc5
import Derived.Test.YtjmelcdgbnjefaaRc10
set_option linter.unusedVariables false
set_option linter.unusedSimpArgs false
namespace Go.Proofs.Ytjmelcdgbnjefaa.Ab
set_option linter.unusedVariables false
open Go.RowKit
section
variable {P : Program} {nt : Nat} {Q : Post} {e : Env} {h : Heap} {ops : Array Oper} {o : Oper} {T : List Nat} {fuel i : Nat} {listed : Array Bool}
theorem T_cRow {f : FuncId} {args : Array Operand} {ats : Array TypeId} {cs : List AVal} {d id el k n : Nat} {ds : List Dat} (hi : ops[i]? = some o) (hw : awant ops e o = some true) (hdst : o.dst = some d) (hd : Nat.blt d nt = true) (ho : o.op = .call { callee := .value (.func f), args := args, argTypes := ats }) (hx : aevs e args.toList = some cs)
    (H : ACall P f cs [] (fun c' h' => c' = .row id ∧ h' = [(id, .row el k n ds)])) (hid : Nat.blt id 1000 = true) (HK : AAny P nt ops Q T fuel (listed.setIfInBounds i true) ((d, .row id) :: killEs [id] e) ((id, .row el k n ds) :: killHs [id] h)) : AAt P nt ops Q T fuel listed i e h :=
  T_eff hi hw (E_callQ ho hdst hx H hd fun c' h' ⟨h1, h2⟩ => by
    subst h1 h2
    refine ⟨by simp [hid], fun j b i hb hh => ?_, fun j hj => ?_⟩
    · unfold look at hb
      cases hj : Nat.beq id j with
      | true => rw [hj] at hb; cases hb; simp [blkHas] at hh
      | false => rw [hj] at hb; cases hb
    · simp [AVal.has] at hj
      subst hj
      simp [look]) fun e' h' ⟨c, h2, ⟨h3, h4⟩, h5, h6⟩ => by subst h3 h4 h5 h6; exact HK
end
end Go.Proofs.Ytjmelcdgbnjefaa.Ab

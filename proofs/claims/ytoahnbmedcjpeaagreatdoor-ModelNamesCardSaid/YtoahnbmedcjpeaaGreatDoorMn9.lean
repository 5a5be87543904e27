/-
 Texts of a proof, one behind the other (part 10).
-/
import Derived.Test.YtoahnbmedcjpeaaGreatDoorMn1
import Derived.Test.YtoahnbmedcjpeaaGreatDoorMn3
set_option linter.unusedVariables false
set_option linter.unusedSimpArgs false
namespace Go.Proofs.YtoahnbmedcjpeaaGreatDoor.Ab
set_option maxRecDepth 100000
open Go.RowKit
section
variable {P : Program} {nt : Nat} {Q : Post} {e : Env} {h : Heap} {ops : Array Oper} {o : Oper} {rest : List Oper} {T : List Nat} {fuel i : Nat} {listed : Array Bool}
theorem O_cN {f : FuncId} {args : Array Operand} {ats : Array TypeId} {cs : List AVal} {d : Nat} {c : AVal} {h1 : Heap} (hw : awant ops e o = some true) (hdst : o.dst = some d) (hd : Nat.blt d nt = true) (ho : o.op = .call { callee := .value (.func f), args := args, argTypes := ats }) (hx : aevs e args.toList = some cs)
  (H : ACall P f cs [] (fun c' h' => c' = c ∧ h' = h1)) (hids : (h1.map (·.1)).all (fun j => Nat.blt j 1000) = true) (hcl : ∀ id b j, look h1 id = some b → blkHas j b = true → (look h1 j).isSome = true) (hcc : ∀ j, c.has j = true → (look h1 j).isSome = true)
  (HK : AOps P nt ops Q rest ((d, c) :: killEs (h1.map (·.1)) e) (h1 ++ killHs (h1.map (·.1)) h)) : AOps P nt ops Q (o :: rest) e h :=
 zax (T := []) hw (zcj (d := some d) ho hdst hx H hd fun c' h' ⟨q1, q2⟩ => by subst q1 q2; exact ⟨hids, hcl, hcc⟩) fun e' h' ⟨c', h2, ⟨q1, q2⟩, q3, q4⟩ => by subst q1 q2 q3 q4; exact HK
theorem T_cN {f : FuncId} {args : Array Operand} {ats : Array TypeId} {cs : List AVal} {d : Nat} {c : AVal} {h1 : Heap} (hi : ops[i]? = some o) (hw : awant ops e o = some true) (hdst : o.dst = some d) (hd : Nat.blt d nt = true) (ho : o.op = .call { callee := .value (.func f), args := args, argTypes := ats }) (hx : aevs e args.toList = some cs)
  (H : ACall P f cs [] (fun c' h' => c' = c ∧ h' = h1)) (hids : (h1.map (·.1)).all (fun j => Nat.blt j 1000) = true) (hcl : ∀ id b j, look h1 id = some b → blkHas j b = true → (look h1 j).isSome = true) (hcc : ∀ j, c.has j = true → (look h1 j).isSome = true)
  (HK : AAny P nt ops Q T fuel (listed.setIfInBounds i true) ((d, c) :: killEs (h1.map (·.1)) e) (h1 ++ killHs (h1.map (·.1)) h)) : AAt P nt ops Q T fuel listed i e h :=
 zbf hi hw (zcj (d := some d) ho hdst hx H hd fun c' h' ⟨q1, q2⟩ => by subst q1 q2; exact ⟨hids, hcl, hcc⟩) fun e' h' ⟨c', h2, ⟨q1, q2⟩, q3, q4⟩ => by subst q1 q2 q3 q4; exact HK
end
end Go.Proofs.YtoahnbmedcjpeaaGreatDoor.Ab

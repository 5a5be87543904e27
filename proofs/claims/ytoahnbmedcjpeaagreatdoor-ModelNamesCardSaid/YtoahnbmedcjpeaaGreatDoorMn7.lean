/-
 Texts of a proof, one behind the other (part 8).
-/
import Derived.Test.YtoahnbmedcjpeaaGreatDoorMn1
import Derived.Test.YtoahnbmedcjpeaaGreatDoorMn3
set_option linter.unusedVariables false
set_option linter.unusedSimpArgs false
namespace Go.Proofs.YtoahnbmedcjpeaaGreatDoor.Ab
open Go.RowKit
section
variable {P : Program} {nt : Nat} {Q : Post} {e : Env} {h : Heap} {ops : Array Oper} {o : Oper} {T : List Nat} {fuel i : Nat} {listed : Array Bool}
theorem zT {f : FuncId} {args : Array Operand} {ats : Array TypeId} {cs : List AVal} {d id el k n : Nat} {ds : List Dat} (hi : ops[i]? = some o) (hw : awant ops e o = some true) (hdst : o.dst = some d) (hd : Nat.blt d nt = true) (ho : o.op = .call { callee := .value (.func f), args := args, argTypes := ats }) (hx : aevs e args.toList = some cs)
  (H : ACall P f cs [] (fun c' h' => c' = .row id ∧ h' = [(id, .row el k n ds)])) (hid : Nat.blt id 1000 = true) (HK : AAny P nt ops Q T fuel (listed.setIfInBounds i true) ((d, .row id) :: killEs [id] e) ((id, .row el k n ds) :: killHs [id] h)) : AAt P nt ops Q T fuel listed i e h :=
 zbf hi hw (zcj ho hdst hx H hd fun c' h' ⟨h1, h2⟩ => by
  subst h1 h2
  refine ⟨by simp [hid], fun j b i hb hh => ?_, fun j hj => ?_⟩
  ·unfold look at hb
   cases hj : Nat.beq id j with
   | true => rw [hj] at hb; cases hb; simp [blkHas] at hh
   | false => rw [hj] at hb; cases hb
  ·simp [AVal.has] at hj
   subst hj
   simp [look]) fun e' h' ⟨c, h2, ⟨h3, h4⟩, h5, h6⟩ => by subst h3 h4 h5 h6; exact HK
end
end Go.Proofs.YtoahnbmedcjpeaaGreatDoor.Ab

namespace Go.Proofs.YtoahnbmedcjpeaaGreatDoor.Ab
open Go.RowKit
section
variable {P : Program} {nt : Nat} {Q : Post} {e : Env} {h : Heap} {ops : Array Oper} {T : List Nat} {fuel : Nat} {listed : Array Bool}
abbrev Net := Nat → Nat × Array Bool × Env × Heap
def AAnyN (P : Program) (nt : Nat) (ops : Array Oper) (Q : Post) (T : List Nat) (nd : Net) (k : Nat) : Prop := AAny P nt ops Q T (nd k).1 (nd k).2.1 (nd k).2.2.1 (nd k).2.2.2
theorem zh0 (nd : Net) (n : Nat) (h0 : AAnyN P nt ops Q T nd 0 → AAny P nt ops Q T fuel listed e h) (hn : 0 < n) (step : ∀ k, k < n → (∀ k', k < k' → k' < n → AAnyN P nt ops Q T nd k') → AAnyN P nt ops Q T nd k) : AAny P nt ops Q T fuel listed e h := by
 have key : ∀ m k, n - k ≤ m → k < n → AAnyN P nt ops Q T nd k := by
  intro m
  induction m with
  | zero => intro k h1 h2; omega
  | succ m ih => intro k h1 h2; exact step k h2 fun k' h3 h4 => ih k' (by omega) h4
 exact h0 (key n 0 (by omega) hn)
theorem N_to {nd : Net} (k : Nat) {f : Nat} {L : Array Bool} {E : Env} {G : Heap} (H : AAnyN P nt ops Q T nd k) (hk : nd k = (f, L, E, G)) (hf : fuel = f) (hl : listed = L) (he : Sub E e) (hh : Sub G h) : AAny P nt ops Q T fuel listed e h := by
 subst hf hl
 unfold AAnyN at H
 rw [hk] at H
 exact zdw (ziT he hh) H
theorem N_at {nd : Net} {k : Nat} {f : Nat} {L : Array Bool} {E : Env} {G : Heap} (hk : nd k = (f, L, E, G)) (H : AAny P nt ops Q T f L E G) : AAnyN P nt ops Q T nd k := by
 unfold AAnyN
 rw [hk]
 exact H
end
end Go.Proofs.YtoahnbmedcjpeaaGreatDoor.Ab

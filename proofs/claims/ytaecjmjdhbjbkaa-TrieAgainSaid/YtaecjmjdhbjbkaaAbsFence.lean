/-
  In whatever frame a walk is made: a function's, or a round's of a statement 'range over a function'.
-/
import Derived.WalkKit
import Derived.TacticsIn
import Derived.OrdersIn
import Derived.RangeFuncIn
import Derived.RangeFuncRecord
namespace Go.Proofs.Ytaecjmjdhbjbkaa.Ab
set_option linter.unusedVariables false
open Go
def Fq (l : Option Nat) : Fence := { Fence.wide with round := l }
/-- It defers no call. -/
def notDef (o : Oper) : Bool := match o.op with
  | .defer _ => false
  | _ => true
section
variable {P : Program} {l : Option Nat} {n : Nat}
theorem fq_depth (h : (Fq l).depth.isSome = true) : 1 ≤ n := by simp [Fq, Fence.wide] at h
theorem calls_fq {f : FuncId} {us : Array Value} {w : World} {R : Ending → World → Prop} (h : Calls P f us w R) : CallsIn (Fq l) n P f us w R := callsIn_wide (n := n) |>.2 h
theorem fq_calls {f : FuncId} {us : Array Value} {w : World} {R : Ending → World → Prop} (h : CallsIn (Fq l) n P f us w R) : Calls P f us w R := callsIn_wide (n := n) |>.1 h
theorem rows_fq {row : String} {us : Array Value} {w : World} {R : Value → World → Prop} (h : Rows P row us w R) : RowsIn (Fq l) n P row us w R :=
  fun c cs _ => let ⟨v, w', r, s⟩ := h c cs; ⟨v, w', r, stepsIn_wide.2 s⟩
theorem upon_fq {o : Oper} {a : Act} {K : Act → World → Prop} {Q : Exit → Act → World → Prop} {r : Result Next} (h : o.upon P a K Q r) : o.uponIn (Fq l) n P a K Q r := by
  cases r with
  | ok x w' =>
    cases x with
    | enter f args => exact ⟨fq_depth, (calls_fq h).mono fun e w2 he => by cases e <;> exact he⟩
    | row row args => exact ⟨fq_depth, rows_fq h⟩
    | value v => exact h
    | skip => exact h
    | defer d => exact h
    | _ => exact h.elim
  | halt x w' =>
    cases x with
    | panic v => exact h
    | _ => exact h.elim
theorem semAt_notDef {o : Oper} (hd : notDef o = true) (ρ : Operand → Value) : o.semAt l ρ = execOp ρ o := by
  unfold Oper.semAt
  cases l with
  | none => rfl
  | some l =>
    unfold notDef at hd
    cases ho : o.op <;> first | rfl | (rw [ho] at hd; cases hd)
theorem op_fq {o : Oper} {a : Act} {w : World} {K : Act → World → Prop} {Q : Exit → Act → World → Prop} (hd : notDef o = true) (h : o.wp P a w K Q) : o.wpIn (Fq l) n P a w K Q :=
  ⟨fun _ _ => trivial, by
    show o.uponIn (Fq l) n P a K Q ((o.semAt l a.eval).run P w)
    rw [semAt_notDef hd]
    exact upon_fq h⟩
theorem all_hd {α : Type} {p : α → Bool} {x : α} {r : List α} (h : (x :: r).all p = true) : p x = true := by simp at h; exact h.1
theorem all_tl {α : Type} {p : α → Bool} {x : α} {r : List α} (h : (x :: r).all p = true) : r.all p = true := by simp at h ⊢; exact h.2
theorem all_at {p : Oper → Bool} {ops : Array Oper} {i : Nat} {o : Oper} (h : ops.toList.all p = true) (hi : ops[i]? = some o) : p o = true :=
  List.all_eq_true.1 h o (Array.mem_toList_iff.2 (Array.mem_of_getElem? hi))
theorem wpOp_fq {ops : Array Oper} {Q : Exit → Act → World → Prop} {i : Nat} {K K' : Act → World → Prop} {a : Act} {w : World} (hno : ¬ LetsOut Q) (hd : ops.toList.all notDef = true) (hK : ∀ a w, K a w → K' a w) (h : wpOp P ops Q i K a w) : wpOpIn (Fq l) n P ops Q i K' a w := by
  unfold wpOp at h
  unfold wpOpIn
  split
  · rename_i ho; simp only [ho] at h; exact hK _ _ h
  · rename_i o ho
    simp only [ho] at h
    split
    · rename_i hw
      rw [if_pos hw] at h
      rcases h with h | ⟨_, h⟩
      · exact Oper.wpIn_mono hK (op_fq (all_at hd ho) h)
      · exact absurd h hno
    · rename_i hw
      rw [if_neg hw] at h
      exact ⟨fun _ _ => trivial, hK _ _ h⟩
theorem any_fq {ops : Array Oper} {md : Region.Mode} {Q : Exit → Act → World → Prop} (hno : ¬ LetsOut Q) (hd : ops.toList.all notDef = true) : ∀ (fuel : Nat) (listed : Array Bool) (a : Act) (w : World), wpAny P md ops Q fuel listed a w → wpAnyIn (Fq l) n P md ops Q fuel listed a w
  | 0, _, _, _, h => h
  | fuel + 1, _, _, _, h => ⟨h.1, fun i hi => wpOp_fq hno hd (fun a w h => any_fq hno hd fuel _ a w h) (h.2 i hi)⟩
end
end Go.Proofs.Ytaecjmjdhbjbkaa.Ab

/-
  Small words for all walks of this seat: what a call that only makes new memory hands back ('Ret'), how it is met inside a statement that draws its order, what stays readable.
-/
import Derived.WalkKit
import Derived.WalkSpells
import Derived.WalkLawsBesides
import Derived.Deep.QuietTactic
import Derived.BigQuiet
import Derived.Lib.Hide
import Derived.Lib.QuietBelow
namespace Go.Proofs.Ytaecjmjdhbjbkaa
open Go.RowKit Go.Sort

theorem ret_int {k : IntKind} {a b : Int} (h : a = b) : Ending.returned (.int k a) = .returned (.int k b) := by rw [h]
theorem ret_bool {a b : Bool} (h : a = b) : Ending.returned (.bool a) = .returned (.bool b) := by rw [h]

/-- The call hands back v; of what was there nothing has turned. -/
def Ret (w : World) (v : Value) (e : Ending) (w' : World) : Prop := e = .returned v ∧ Below w.heap.size w w'
/-- The call hands back v, and leaves the very world. -/
def RetS (w : World) (v : Value) (e : Ending) (w' : World) : Prop := e = .returned v ∧ w = w'

section
variable {P : Program} {f : FuncId} {args : Array Value} {w w' w1 : World} {v : Value}
theorem Ret.of_same (h : Calls P f args w (RetS w v)) : Calls P f args w (Ret w v) :=
  h.mono fun _ _ ⟨he, hw⟩ => ⟨he, hw ▸ Below.refl _ _⟩
/-- Met inside a statement that draws its order (the class: whatever lies above the world w). -/
theorem Ret.q {d : Nat} {os : Array Obj} (h : ∀ W, Below w.heap.size w W → Calls P f args W (Ret W v)) :
    Calls P f args (grow (redrawn w d) os) fun e w'' => e = .returned v ∧ ∃ p : Regrown, w'' = grow (redrawn w p.d) p.os :=
  Calls.regrown_of (h _ (below_regrown w d os))
theorem RetS.q {d : Nat} {os : Array Obj} (h : ∀ W, Below w.heap.size w W → Calls P f args W (RetS W v)) :
    Calls P f args (grow (redrawn w d) os) fun e w'' => e = .returned v ∧ ∃ p : Regrown, w'' = grow (redrawn w p.d) p.os :=
  Calls.regrown_of (Ret.of_same (h _ (below_regrown w d os)))
theorem Ret.q0 {d : Nat} {os : Array Obj} (h : ∀ W, Calls P f args W (Ret W v)) :
    Calls P f args (grow (redrawn w d) os) fun e w'' => e = .returned v ∧ ∃ p : Regrown, w'' = grow (redrawn w p.d) p.os :=
  Calls.regrown_of (h _)
theorem RetS.q0 {d : Nat} {os : Array Obj} (h : ∀ W, Calls P f args W (RetS W v)) :
    Calls P f args (grow (redrawn w d) os) fun e w'' => e = .returned v ∧ ∃ p : Regrown, w'' = grow (redrawn w p.d) p.os :=
  Calls.regrown_of (Ret.of_same (h _))
/-- .. where the walk's class is 'so many draws'. -/
theorem RetS.d {n : Nat} (h : Calls P f args (w.drewN n) (RetS (w.drewN n) v)) : Calls P f args (w.drewN n) fun e w'' => e = .returned v ∧ ∃ m, w'' = w.drewN m :=
  h.mono fun _ _ ⟨he, hm⟩ => ⟨he, n, hm.symm⟩
theorem RetS.dd {a n : Nat} (h : Calls P f args (w.drewN (a + n)) (RetS (w.drewN (a + n)) v)) : Calls P f args (w.drewN (a + n)) fun e w'' => e = .returned v ∧ ∃ m, w'' = w.drewN (a + m) :=
  h.mono fun _ _ ⟨he, hm⟩ => ⟨he, n, hm.symm⟩

theorem below_drewN {B : Nat} {a w : World} (h : Below B a w) (n : Nat) : Below B a (w.drewN n) := ⟨h.os, h.tape, h.output, h.size, h.block⟩
theorem below_of_regrown {w w' : World} (h : ∃ p : Regrown, w' = grow (redrawn w p.d) p.os) : Below w.heap.size w w' := by
  obtain ⟨p, rfl⟩ := h
  exact below_regrown w _ _
/-- Behind a call: all old cells and all old marks read as before. -/
theorem bcell {W w1 : World} (hb : Below W.heap.size W w1) : (∀ b o, b < W.heap.size → w1.cell? ⟨b, o, none⟩ = W.cell? ⟨b, o, none⟩) ∧ (∀ b o, b < W.heap.size → w1.frozen? ⟨b, o, none⟩ = W.frozen? ⟨b, o, none⟩) :=
  ⟨fun b o h => hb.cell (p := ⟨b, o, none⟩) h, fun b o h => hb.frozen (p := ⟨b, o, none⟩) h⟩
/-- A cell that is known stays known behind a call. -/
theorem kc {w w1 : World} (hb : Below w.heap.size w w1) {a : Addr} {v : Value} (h : w.cell? a = some v) : w1.cell? a = some v := by
  rw [hb.cell (block_lt_of_cell h)]; exact h
theorem below_trans {a b c : World} (h : Below a.heap.size a b) (k : Below b.heap.size b c) : Below a.heap.size a c := h.trans (k.mono h.size)

/-- A cell that is known, and may be written. -/
def Kn (w : World) (b o : Nat) (v : Value) : Prop := w.cell? ⟨b, o, none⟩ = some v ∧ w.frozen? ⟨b, o, none⟩ = false
theorem Kn.lt {b o : Nat} (h : Kn w b o v) : b < w.heap.size := block_lt_of_cell h.1
theorem Kn.keep {b o : Nat} (h : Kn w b o v) (hb : Below w.heap.size w w1) : Kn w1 b o v := ⟨kc hb h.1, (hb.frozen (p := ⟨b, o, none⟩) h.lt).trans h.2⟩
theorem Kn.cell {b o : Nat} (h : Kn w b o v) : w.cell? ⟨b, o, none⟩ = some v := h.1
theorem Kn.free {b o : Nat} (h : Kn w b o v) : w.frozen? ⟨b, o, none⟩ = false := h.2
/-- A new block's cells. -/
theorem Kn.new {cs : Array Value} {t : TypeId} {j : Nat} {u : Value} (h : cs[j]? = some u) : Kn (w.alloc (.cells cs t)) w.heap.size j u := by
  constructor
  · simp [World.cell?_alloc_at, h]
  · simp
theorem Kn.alloc {b o : Nat} (h : Kn w b o v) (x : Obj) : Kn (w.alloc x) b o v := by
  have hl := h.lt
  exact ⟨(World.cell?_alloc_lt w x ⟨b, o, none⟩ hl).trans h.1, (World.frozen?_alloc_old w x ⟨b, o, none⟩ (Nat.ne_of_lt hl)).trans h.2⟩
end

end Go.Proofs.Ytaecjmjdhbjbkaa

/-
  Texts of a proof, one behind the other (part 16).
-/
import Derived.WalkKit
import Derived.WalkSpells
import Derived.WalkLawsBesides
import Derived.Deep.QuietTactic
import Derived.BigQuiet
import Derived.Lib.Hide
import Derived.Lib.QuietBelow
import Derived.Test.YtdbeblhifnfocaaGreatDoorTn5
import Derived.Test.YtdbeblhifnfocaaGreatDoorTn6
import Derived.Test.YtdbeblhifnfocaaGreatDoorTn7
import Derived.Test.YtdbeblhifnfocaaGreatDoorTn9
import Derived.Test.YtdbeblhifnfocaaGreatDoorTn12
import Derived.Test.YtdbeblhifnfocaaGreatDoorTn13
import Derived.Test.YtdbeblhifnfocaaGreatDoorTn14
set_option linter.unusedVariables false
set_option linter.unusedSimpArgs false
namespace Go.Proofs.YtdbeblhifnfocaaGreatDoor.Rn
set_option linter.unusedVariables false
set_option maxRecDepth 100000
open Go.RowKit
def ent36 : Ent := ⟨8, [], 7, .nd (some (.cells [.sc (.string ⟨⟨[]⟩⟩), .sc (.string ⟨⟨[]⟩⟩), .sc (.int .u32 0), .sc (.int .i64 0), .sc (.bool false), .sc (.string ⟨⟨[]⟩⟩), .sc (.string ⟨⟨[]⟩⟩), .sc (.int .u8 0), .sc (.int .i64 0), .sc (.int .i64 0), .sc (.bool false)] false)) (.nd (some (.cells [.sc (.int .i64 0), .sc (.int .i64 0)] false)) (.nd (some (.map [] 0)) .nil .nil) (.nd (some (.cells [.sc (.slice none 0 0), .mp 3, .mp 4, .sc (.slice none 0 0)] false)) .nil .nil)) (.nd (some (.cells [.sc (.string ⟨⟨[]⟩⟩), .sc (.int .u8 0), .sc (.slice none 0 0), .sc (.slice none 0 0), .sc (.slice none 0 0), .sc (.slice none 0 0), .sc (.slice none 0 0), .sc (.slice none 0 0), .sc (.slice none 0 0), .sc (.slice none 0 0), .sc (.slice none 0 0), .sc (.slice none 0 0)] false)) (.nd (some (.map [] 0)) .nil .nil) (.nd none .nil .nil)), 0, (.sc (.bool true), 7, .nd (some (.cells [.sc (.string ⟨⟨[]⟩⟩), .sc (.string ⟨⟨[]⟩⟩), .sc (.int .u32 0), .sc (.int .i64 0), .sc (.bool false), .sc (.string ⟨⟨[]⟩⟩), .sc (.string ⟨⟨[]⟩⟩), .sc (.int .u8 0), .sc (.int .i64 0), .sc (.int .i64 0), .sc (.bool false)] false)) (.nd (some (.cells [.sc (.int .i64 0), .sc (.int .i64 0)] false)) (.nd (some (.map [] 0)) .nil .nil) (.nd (some (.cells [.sc (.slice none 0 0), .mp 3, .mp 4, .sc (.slice none 0 0)] false)) .nil .nil)) (.nd (some (.cells [.sc (.string ⟨⟨[]⟩⟩), .sc (.int .u8 0), .sc (.slice none 0 0), .sc (.slice none 0 0), .sc (.slice none 0 0), .sc (.slice none 0 0), .sc (.slice none 0 0), .sc (.slice none 0 0), .sc (.slice none 0 0), .sc (.slice none 0 0), .sc (.slice none 0 0), .sc (.slice none 0 0)] false)) (.nd (some (.map [] 0)) .nil .nil) (.nd none .nil .nil)), 0)⟩
theorem ok36 : EntOk Go.Proofs.Tryz.prog ent36 := entOk_is (T := [ent2, ent5, ent13, ent21, ent26, ent27, ent28, ent29, ent30, ent31, ent32, ent35]) (pf := pfT) (fuel := 1500) (D := []) Ab.tabOk ftOk Ab.mixed pfT_ok ent36 (by kernel_rfl) (by kernel_rfl) (ents_cons ok2 (ents_cons ok5 (ents_cons ok13 (ents_cons ok21 (ents_cons ok26 (ents_cons ok27 (ents_cons ok28 (ents_cons ok29 (ents_cons ok30 (ents_cons ok31 (ents_cons ok32 (ents_cons ok35 ents_nil))))))))))))
theorem topoNils_ran (w : World) : Calls Go.Proofs.Tryz.prog 3 #[] w fun x w' => x = .returned (.bool true) ∧ w'.os = w.os ∧ w'.tape = w.tape ∧ w'.output = w.output ∧ w.heap.size ≤ w'.heap.size ∧ ∀ k, k < w.heap.size → w'.heap[k]? = w.heap[k]? :=
  runO_true (T := [ent2, ent5, ent13, ent21, ent26, ent27, ent28, ent29, ent30, ent31, ent32, ent36]) (pf := pfT) (fuel := 1500) Ab.tabOk ftOk Ab.mixed (ents_cons ok2 (ents_cons ok5 (ents_cons ok13 (ents_cons ok21 (ents_cons ok26 (ents_cons ok27 (ents_cons ok28 (ents_cons ok29 (ents_cons ok30 (ents_cons ok31 (ents_cons ok32 (ents_cons ok36 ents_nil)))))))))))) pfT_ok (by kernel_rfl) w
end Go.Proofs.YtdbeblhifnfocaaGreatDoor.Rn



namespace Go.Proofs.YtdbeblhifnfocaaGreatDoor
open Go.RowKit Go.Sort

def Ret (w : World) (v : Value) (e : Ending) (w' : World) : Prop := e = .returned v ∧ Below w.heap.size w w'
def RetS (w : World) (v : Value) (e : Ending) (w' : World) : Prop := e = .returned v ∧ w = w'

section
variable {P : Program} {f : FuncId} {args : Array Value} {w w' w1 : World} {v : Value}
theorem Ret.of_same (h : Calls P f args w (RetS w v)) : Calls P f args w (Ret w v) :=
  h.mono fun _ _ ⟨he, hw⟩ => ⟨he, hw ▸ Below.refl _ _⟩
theorem Ret.q {d : Nat} {os : Array Obj} (h : ∀ W, Below w.heap.size w W → Calls P f args W (Ret W v)) :
    Calls P f args (grow (redrawn w d) os) fun e w'' => e = .returned v ∧ ∃ p : Regrown, w'' = grow (redrawn w p.d) p.os :=
  Calls.regrown_of (h _ (below_regrown w d os))
theorem RetS.q {d : Nat} {os : Array Obj} (h : ∀ W, Below w.heap.size w W → Calls P f args W (RetS W v)) :
    Calls P f args (grow (redrawn w d) os) fun e w'' => e = .returned v ∧ ∃ p : Regrown, w'' = grow (redrawn w p.d) p.os :=
  Calls.regrown_of (Ret.of_same (h _ (below_regrown w d os)))
theorem RetS.d {n : Nat} (h : Calls P f args (w.drewN n) (RetS (w.drewN n) v)) : Calls P f args (w.drewN n) fun e w'' => e = .returned v ∧ ∃ m, w'' = w.drewN m :=
  h.mono fun _ _ ⟨he, hm⟩ => ⟨he, n, hm.symm⟩
theorem RetS.dd {a n : Nat} (h : Calls P f args (w.drewN (a + n)) (RetS (w.drewN (a + n)) v)) : Calls P f args (w.drewN (a + n)) fun e w'' => e = .returned v ∧ ∃ m, w'' = w.drewN (a + m) :=
  h.mono fun _ _ ⟨he, hm⟩ => ⟨he, n, hm.symm⟩

theorem kc {w w1 : World} (hb : Below w.heap.size w w1) {a : Addr} {v : Value} (h : w.cell? a = some v) : w1.cell? a = some v := by
  rw [hb.cell (block_lt_of_cell h)]; exact h
def Kn (w : World) (b o : Nat) (v : Value) : Prop := w.cell? ⟨b, o, none⟩ = some v ∧ w.frozen? ⟨b, o, none⟩ = false
theorem Kn.lt {b o : Nat} (h : Kn w b o v) : b < w.heap.size := block_lt_of_cell h.1
theorem Kn.keep {b o : Nat} (h : Kn w b o v) (hb : Below w.heap.size w w1) : Kn w1 b o v := ⟨kc hb h.1, (hb.frozen (p := ⟨b, o, none⟩) h.lt).trans h.2⟩
theorem Kn.cell {b o : Nat} (h : Kn w b o v) : w.cell? ⟨b, o, none⟩ = some v := h.1
theorem Kn.free {b o : Nat} (h : Kn w b o v) : w.frozen? ⟨b, o, none⟩ = false := h.2
theorem Kn.new {cs : Array Value} {t : TypeId} {j : Nat} {u : Value} (h : cs[j]? = some u) : Kn (w.alloc (.cells cs t)) w.heap.size j u := by
  constructor
  · simp [World.cell?_alloc_at, h]
  · simp
theorem Kn.alloc {b o : Nat} (h : Kn w b o v) (x : Obj) : Kn (w.alloc x) b o v := by
  have hl := h.lt
  exact ⟨(World.cell?_alloc_lt w x ⟨b, o, none⟩ hl).trans h.1, (World.frozen?_alloc_old w x ⟨b, o, none⟩ (Nat.ne_of_lt hl)).trans h.2⟩
end

end Go.Proofs.YtdbeblhifnfocaaGreatDoor

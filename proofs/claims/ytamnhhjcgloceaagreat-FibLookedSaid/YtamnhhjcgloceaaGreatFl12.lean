/-
  Texts of a proof, one behind the other (part 13).
-/
import Derived.Deep.AppendSrc
import Derived.Room.AppendAny
import Derived.Laws.BytesString
import Derived.Scope
import Derived.RangeFuncRecord
import Derived.RangeFuncIn
import Derived.Orders
import Derived.Test.YtamnhhjcgloceaaGreatFl11
set_option linter.unusedVariables false
set_option linter.unusedSimpArgs false
namespace Go.Proofs.YtamnhhjcgloceaaGreat.Rn
set_option linter.unusedVariables false
open Go.RowKit
open Go.Proofs.YtamnhhjcgloceaaGreat.Ab (TE TTab tlook TabOk TFacts win setW setW_get win_get Sh)

inductive Tr (α : Type) where
  | nil
  | nd (v : Option α) (l r : Tr α)
def Tr.get {α : Type} : Tr α → Nat → Option α
  | .nil, _ => none
  | .nd v l r, k => cond (Nat.beq k 0) v (cond (Nat.beq (k % 2) 1) (l.get (k / 2)) (r.get (k / 2 - 1)))
def Tr.put {α : Type} (v : Option α) : Nat → Tr α → Nat → Tr α
  | 0, _, _ => .nil
  | f + 1, .nil, k => cond (Nat.beq k 0) (.nd v .nil .nil) (cond (Nat.beq (k % 2) 1) (.nd none (Tr.put v f .nil (k / 2)) .nil) (.nd none .nil (Tr.put v f .nil (k / 2 - 1))))
  | f + 1, .nd u l r, k => cond (Nat.beq k 0) (.nd v l r) (cond (Nat.beq (k % 2) 1) (.nd u (Tr.put v f l (k / 2)) r) (.nd u l (Tr.put v f r (k / 2 - 1))))
def Tr.set {α : Type} (t : Tr α) (k : Nat) (v : α) : Tr α := Tr.put (some v) (k + 1) t k
def Tr.del {α : Type} (t : Tr α) (k : Nat) : Tr α := Tr.put none (k + 1) t k
theorem beq_dec (a b : Nat) : Nat.beq a b = decide (a = b) := by
  by_cases h : a = b
  · subst h; simp
  · have := Ab.beq_no h; rw [this]; simp [h]
theorem Tr.get_put {α : Type} {v : Option α} : ∀ {f : Nat} {t : Tr α} {k j : Nat}, k < f → (Tr.put v f t k).get j = if j = k then v else t.get j := by
  intro f
  induction f with
  | zero => intro t k j h; omega
  | succ f ih =>
    intro t k j h
    have key : ∀ (u : Option α) (l r : Tr α), (cond (Nat.beq k 0) (.nd v l r) (cond (Nat.beq (k % 2) 1) (.nd u (Tr.put v f l (k / 2)) r) (.nd u l (Tr.put v f r (k / 2 - 1)))) : Tr α).get j = if j = k then v else (Tr.nd u l r).get j := by
      intro u l r
      simp only [beq_dec]
      by_cases hk : k = 0
      · subst hk
        simp only [decide_true, cond_true]
        rw [Tr.get, Tr.get]
        simp only [beq_dec]
        by_cases hj : j = 0
        · subst hj; simp
        · simp only [hj, decide_false, cond_false, if_false]
      · simp only [hk, decide_false, cond_false]
        by_cases hk2 : k % 2 = 1
        · simp only [hk2, decide_true, cond_true]
          rw [Tr.get, Tr.get]
          simp only [beq_dec]
          by_cases hj : j = 0
          · subst hj; rw [if_neg (by omega)]; rfl
          · simp only [hj, decide_false, cond_false]
            by_cases hj2 : j % 2 = 1
            · simp only [hj2, decide_true, cond_true]
              rw [ih (by omega)]
              by_cases hjk : j = k
              · rw [if_pos (by omega), if_pos hjk]
              · rw [if_neg (by omega), if_neg hjk]
            · simp only [hj2, decide_false, cond_false]
              rw [if_neg (by omega)]
        · simp only [hk2, decide_false, cond_false]
          rw [Tr.get, Tr.get]
          simp only [beq_dec]
          by_cases hj : j = 0
          · subst hj; rw [if_neg (by omega)]; rfl
          · simp only [hj, decide_false, cond_false]
            by_cases hj2 : j % 2 = 1
            · simp only [hj2, decide_true, cond_true]
              rw [if_neg (by omega)]
            · simp only [hj2, decide_false, cond_false]
              rw [ih (by omega)]
              by_cases hjk : j = k
              · rw [if_pos (by omega), if_pos hjk]
              · rw [if_neg (by omega), if_neg hjk]
    cases t with
    | nd u l r => exact key u l r
    | nil =>
      have h1 := key none .nil .nil
      have h2 : (Tr.nd none .nil .nil : Tr α).get j = none := by
        rw [Tr.get]
        simp only [beq_dec]
        by_cases hj : j = 0
        · simp [hj]
        · simp only [hj, decide_false, cond_false]
          by_cases hj2 : j % 2 = 1 <;> simp [hj2, Tr.get]
      rw [h2] at h1
      exact h1
theorem Tr.get_set {α : Type} (t : Tr α) (k j : Nat) (v : α) : (t.set k v).get j = if j = k then some v else t.get j := Tr.get_put (by omega)
theorem Tr.get_del {α : Type} (t : Tr α) (k j : Nat) : (t.del k).get j = if j = k then none else t.get j := Tr.get_put (by omega)

inductive V where
  | sc (v : Value)
  | ptr (id off : Nat)
  | sl (id off len k : Nat) (cap : Option Nat)
  | emp
  | mp (id : Nat)
  | fn (f : FuncId) (caps : List V)
  | ifc (t : TypeId) (v : V)
  | agg (cs : List V)
  | tup (cs : List V)
inductive B where
  | cells (cs : List V) (more : Bool)
  | map (es : List (V × V × Nat)) (clk : Nat)
  | sit (s : ByteArray) (pos : Nat)
  | mit (m : Option Nat) (since : Nat) (seen : List Nat) (stepped : Nat)
abbrev Hp := Tr B
abbrev Ev := Tr V
abbrev Io := Nat → Option (Nat × Nat)

inductive VRel (ι : Io) : V → Value → Prop where
  | sc (v : Value) : VRel ι (.sc v) v
  | ptr (id off r m : Nat) (h : ι id = some (r, m)) : VRel ι (.ptr id off) (.pointer (some ⟨r, off, none⟩))
  | sl (id off len k c r m : Nat) (h : ι id = some (r, m)) : VRel ι (.sl id off len k (some c)) (.slice (some ⟨r, off, none⟩) len c)
  | slu (id off len k c r m : Nat) (h : ι id = some (r, m)) (hc : off + c * k = m) (hl : len ≤ c) : VRel ι (.sl id off len k none) (.slice (some ⟨r, off, none⟩) len c)
  | emp (r o c : Nat) : VRel ι .emp (.slice (some ⟨r, o, none⟩) 0 c)
  | mp (id r m : Nat) (h : ι id = some (r, m)) : VRel ι (.mp id) (.map (some r))
  | fn (f : FuncId) (caps : List V) (C : Array Value) (hl : C.size = caps.length) (h : ∀ (i : Nat) (c : V) (u : Value), caps[i]? = some c → C[i]? = some u → VRel ι c u) : VRel ι (.fn f caps) (.func (.func f) #[] C)
  | ifc (t : TypeId) (v : V) (u : Value) (h : VRel ι v u) : VRel ι (.ifc t v) (.iface t u)
  | agg (cs : List V) (C : Array Value) (hl : C.size = cs.length) (h : ∀ (i : Nat) (c : V) (u : Value), cs[i]? = some c → C[i]? = some u → VRel ι c u) : VRel ι (.agg cs) (.agg C)
  | tup (cs : List V) (C : Array Value) (hl : C.size = cs.length) (h : ∀ (i : Nat) (c : V) (u : Value), cs[i]? = some c → C[i]? = some u → VRel ι c u) : VRel ι (.tup cs) (.tuple C)

def Io.le (ι ι' : Io) : Prop := ∀ id x, ι id = some x → ι' id = some x
theorem VRel.mono {ι ι' : Io} (hl : Io.le ι ι') {c : V} {u : Value} (h : VRel ι c u) : VRel ι' c u := by
  induction h with
  | sc v => exact .sc v
  | ptr id off r m h => exact .ptr id off r m (hl _ _ h)
  | sl id off len k c r m h => exact .sl id off len k c r m (hl _ _ h)
  | slu id off len k c r m h hc hl2 => exact .slu id off len k c r m (hl _ _ h) hc hl2
  | emp r o c => exact .emp r o c
  | mp id r m h => exact .mp id r m (hl _ _ h)
  | fn f caps C hs h ih => exact .fn f caps C hs ih
  | ifc t v u h ih => exact .ifc t v u ih
  | agg cs C hs h ih => exact .agg cs C hs ih
  | tup cs C hs h ih => exact .tup cs C hs ih

def LRel (ι : Io) (cs : List V) (us : List Value) : Prop := us.length = cs.length ∧ ∀ (i : Nat) (c : V) (u : Value), cs[i]? = some c → us[i]? = some u → VRel ι c u
theorem LRel.mono {ι ι' : Io} (hl : Io.le ι ι') {cs : List V} {us : List Value} (h : LRel ι cs us) : LRel ι' cs us := ⟨h.1, fun i c u a b => (h.2 i c u a b).mono hl⟩
theorem LRel.nil {ι : Io} : LRel ι [] [] := ⟨rfl, by simp⟩
theorem LRel.cons {ι : Io} {c : V} {u : Value} {cs : List V} {us : List Value} (h1 : VRel ι c u) (h : LRel ι cs us) : LRel ι (c :: cs) (u :: us) := by
  refine ⟨by simp [h.1], fun i c' u' a b => ?_⟩
  cases i with
  | zero => simp at a b; subst a b; exact h1
  | succ i => exact h.2 i c' u' (by simpa using a) (by simpa using b)
theorem LRel.head {ι : Io} {c : V} {cs : List V} {us : List Value} (h : LRel ι (c :: cs) us) : ∃ u vs, us = u :: vs ∧ VRel ι c u ∧ LRel ι cs vs := by
  cases us with
  | nil => have := h.1; simp at this
  | cons u vs => exact ⟨u, vs, rfl, h.2 0 c u rfl rfl, by have := h.1; simpa using this, fun i c' u' a b => h.2 (i + 1) c' u' (by simpa using a) (by simpa using b)⟩
theorem LRel.append {ι : Io} {cs ds : List V} {us vs : List Value} (h1 : LRel ι cs us) (h2 : LRel ι ds vs) : LRel ι (cs ++ ds) (us ++ vs) := by
  refine ⟨by simp [h1.1, h2.1], fun i c u hc hu => ?_⟩
  rw [List.getElem?_append] at hc hu
  rw [h1.1] at hu
  split at hc
  · rename_i hl; rw [if_pos hl] at hu; exact h1.2 _ _ _ hc hu
  · rename_i hl; rw [if_neg hl] at hu; exact h2.2 _ _ _ hc hu
theorem LRel.take {ι : Io} {cs : List V} {us : List Value} (h : LRel ι cs us) (n : Nat) : LRel ι (cs.take n) (us.take n) := by
  refine ⟨by simp [h.1], fun i c u hc hu => ?_⟩
  rw [List.getElem?_take] at hc hu
  split at hc
  · rename_i hl; rw [if_pos hl] at hu; exact h.2 _ _ _ hc hu
  · cases hc
theorem LRel.drop {ι : Io} {cs : List V} {us : List Value} (h : LRel ι cs us) (n : Nat) : LRel ι (cs.drop n) (us.drop n) := by
  refine ⟨by simp [h.1], fun i c u hc hu => ?_⟩
  rw [List.getElem?_drop] at hc hu
  exact h.2 _ _ _ hc hu
theorem LRel.win {ι : Io} {cs : List V} {us : List Value} (h : LRel ι cs us) (o n : Nat) : LRel ι (win cs o n) (win us o n) := (h.drop o).take n
theorem LRel.setW {ι : Io} {cs ds : List V} {us vs : List Value} (h1 : LRel ι cs us) (h2 : LRel ι ds vs) (o : Nat) : LRel ι (setW cs o ds) (setW us o vs) := by
  unfold Ab.setW
  rw [h2.1]
  exact ((h1.take o).append h2).append (h1.drop _)
theorem LRel.scs {ι : Io} (us : List Value) : LRel ι (us.map .sc) us := ⟨by simp, fun i c u hc hu => by rw [List.getElem?_map, hu] at hc; cases hc; exact .sc u⟩
theorem VRel.agg' {ι : Io} {cs : List V} {C : Array Value} (h : LRel ι cs C.toList) : VRel ι (.agg cs) (.agg C) := .agg cs C (by simpa using h.1) fun i c u a b => h.2 i c u a (by simpa using b)
theorem VRel.tup' {ι : Io} {cs : List V} {C : Array Value} (h : LRel ι cs C.toList) : VRel ι (.tup cs) (.tuple C) := .tup cs C (by simpa using h.1) fun i c u a b => h.2 i c u a (by simpa using b)
theorem VRel.fn' {ι : Io} {f : FuncId} {cs : List V} {C : Array Value} (h : LRel ι cs C.toList) : VRel ι (.fn f cs) (.func (.func f) #[] C) := .fn f cs C (by simpa using h.1) fun i c u a b => h.2 i c u a (by simpa using b)

def EntRel (ι : Io) (es : List (V × V × Nat)) (E : List MapEntry) : Prop := E.length = es.length ∧ ∀ (i : Nat) (p : V × V × Nat) (m : MapEntry), es[i]? = some p → E[i]? = some m → VRel ι p.1 m.key ∧ VRel ι p.2.1 m.val ∧ m.born = p.2.2
def BRel (ι : Io) (w : World) : B → Nat → Nat → Prop
  | .cells cs more, r, m => ∃ C t fz, w.heap[r]? = some (.cells C t fz) ∧ (∀ j, j < m → ¬ (fz.1 ≤ j ∧ j < fz.2)) ∧ C.size = m ∧ cs.length ≤ m ∧ (more = false → m = cs.length) ∧ LRel ι cs (C.toList.take cs.length)
  | .map es clk, r, _ => ∃ E, w.heap[r]? = some (.map E clk) ∧ EntRel ι es E.toList
  | .sit s pos, r, _ => w.heap[r]? = some (.stringIter s pos)
  | .mit mm since seen st, r, _ => ∃ rm, w.heap[r]? = some (.mapIter rm since seen.toArray st) ∧ match mm with
      | none => rm = none
      | some id => ∃ r2 m2, ι id = some (r2, m2) ∧ rm = some r2
theorem BRel.lt {ι : Io} {w : World} {b : B} {r m : Nat} (h : BRel ι w b r m) : r < w.heap.size := by
  cases b with
  | cells => obtain ⟨C, t, fz, h, _⟩ := h; exact (Array.getElem?_eq_some_iff.1 h).1
  | map => obtain ⟨E, h, _⟩ := h; exact (Array.getElem?_eq_some_iff.1 h).1
  | sit => exact (Array.getElem?_eq_some_iff.1 h).1
  | mit => obtain ⟨rm, h, _⟩ := h; exact (Array.getElem?_eq_some_iff.1 h).1
theorem BRel.mono {ι ι' : Io} {w w' : World} (hl : Io.le ι ι') {b : B} {r m : Nat} (h : BRel ι w b r m) (hw : w'.heap[r]? = w.heap[r]?) : BRel ι' w' b r m := by
  cases b with
  | cells => obtain ⟨C, t, fz, h, h0, h1, h2, h3, h4⟩ := h; exact ⟨C, t, fz, hw.trans h, h0, h1, h2, h3, h4.mono hl⟩
  | map => obtain ⟨E, h, h1, h2⟩ := h; exact ⟨E, hw.trans h, h1, fun i p m a b => ⟨(h2 i p m a b).1.mono hl, (h2 i p m a b).2.1.mono hl, (h2 i p m a b).2.2⟩⟩
  | sit => exact hw.trans h
  | mit mm =>
    obtain ⟨rm, h, h1⟩ := h
    refine ⟨rm, hw.trans h, ?_⟩
    cases mm with
    | none => exact h1
    | some id => obtain ⟨r2, m2, h2, h3⟩ := h1; exact ⟨r2, m2, hl _ _ h2, h3⟩

theorem VRel.back {ι ι' : Io} (hl : Io.le ι ι') {c : V} {u u' : Value} (h : VRel ι c u) : VRel ι' c u' → VRel ι c u' := by
  have arr : ∀ {cs : List V} {C C' : Array Value}, C.size = cs.length → (∀ (i : Nat) (c : V) (u : Value), cs[i]? = some c → C[i]? = some u → ∀ u', VRel ι' c u' → VRel ι c u') → (∀ (i : Nat) (c : V) (u : Value), cs[i]? = some c → C'[i]? = some u → VRel ι' c u) → ∀ (i : Nat) (c : V) (u : Value), cs[i]? = some c → C'[i]? = some u → VRel ι c u := fun {cs C C'} hs ih h2 i c u hc hu => by
    have hlt : i < C.size := by rw [hs]; exact (List.getElem?_eq_some_iff.1 hc).1
    exact ih i c C[i] hc (Array.getElem?_eq_getElem hlt) u (h2 i c u hc hu)
  induction h generalizing u' with
  | sc v => intro h2; cases h2; exact .sc v
  | ptr id off r m h => intro h2; cases h2 with | ptr _ _ r' m' h' => rw [hl _ _ h] at h'; cases h'; exact .ptr id off r m h
  | sl id off len k c r m h => intro h2; cases h2 with | sl _ _ _ _ _ r' m' h' => rw [hl _ _ h] at h'; cases h'; exact .sl id off len k c r m h
  | slu id off len k c r m h hc hl2 => intro h2; cases h2 with | slu _ _ _ _ c' r' m' h' h1 h3 => rw [hl _ _ h] at h'; cases h'; exact .slu id off len k c' r m h h1 h3
  | emp r o c => intro h2; cases h2 with | emp r' o' c' => exact .emp r' o' c'
  | mp id r m h => intro h2; cases h2 with | mp _ r' m' h' => rw [hl _ _ h] at h'; cases h'; exact .mp id r m h
  | fn f caps C hs h ih => intro h2; cases h2 with | fn _ _ C' hs' h' => exact .fn f caps C' hs' (arr hs (fun i c u a b u' => ih i c u a b) h')
  | ifc t v u h ih => intro h2; cases h2 with | ifc _ _ u2 h' => exact .ifc t v u2 (ih h')
  | agg cs C hs h ih => intro h2; cases h2 with | agg _ C' hs' h' => exact .agg cs C' hs' (arr hs (fun i c u a b u' => ih i c u a b) h')
  | tup cs C hs h ih => intro h2; cases h2 with | tup _ C' hs' h' => exact .tup cs C' hs' (arr hs (fun i c u a b u' => ih i c u a b) h')
theorem LRel.back {ι ι' : Io} (hl : Io.le ι ι') {cs : List V} {us us' : List Value} (h : LRel ι cs us) (h2 : LRel ι' cs us') : LRel ι cs us' := ⟨h2.1, fun i c u hc hu => by
  have hlt : i < us.length := by rw [h.1]; exact (List.getElem?_eq_some_iff.1 hc).1
  exact (h.2 i c us[i] hc (List.getElem?_eq_getElem hlt)).back hl (h2.2 i c u hc hu)⟩
theorem BRel.back {ι ι' : Io} (hl : Io.le ι ι') {w w' : World} {b : B} {r m : Nat} (h : BRel ι w b r m) (h2 : BRel ι' w' b r m) : BRel ι w' b r m := by
  cases b with
  | cells cs more =>
    obtain ⟨C, t, fz, _, _, _, _, _, h5⟩ := h
    obtain ⟨C', t', fz', g1, g2, g3, g4, g6, g5⟩ := h2
    exact ⟨C', t', fz', g1, g2, g3, g4, g6, h5.back hl g5⟩
  | map es clk =>
    obtain ⟨E, _, h1, h3⟩ := h
    obtain ⟨E', g0, g1, g3⟩ := h2
    refine ⟨E', g0, g1, fun i p m' a b => ?_⟩
    have hlt : i < E.toList.length := by rw [h1]; exact (List.getElem?_eq_some_iff.1 a).1
    have q1 := h3 i p E.toList[i] a (List.getElem?_eq_getElem hlt)
    have q2 := g3 i p m' a b
    exact ⟨q1.1.back hl q2.1, q1.2.1.back hl q2.2.1, q2.2.2⟩
  | sit s pos => exact h2
  | mit mm since seen st =>
    obtain ⟨rm, _, h1⟩ := h
    obtain ⟨rm', g0, g1⟩ := h2
    refine ⟨rm', g0, ?_⟩
    cases mm with
    | none => exact g1
    | some id =>
      obtain ⟨r2, m2, q1, q2⟩ := h1
      obtain ⟨r3, m3, q3, q4⟩ := g1
      rw [hl _ _ q1] at q3
      cases q3
      exact ⟨r2, m2, q1, q4⟩

abbrev Gm := Nat → Option B
structure HRel (ι : Io) (g : Gm) (w : World) : Prop where
  blk : ∀ id b, g id = some b → ∃ r m, ι id = some (r, m) ∧ BRel ι w b r m
  inj : ∀ i j b b' r m m', g i = some b → g j = some b' → ι i = some (r, m) → ι j = some (r, m') → i = j
def ERel (ι : Io) (e : Ev) (a : Act) : Prop := ∀ t c, e.get t = some c → ∃ u, a.tmps[t]? = some u ∧ VRel ι c u
structure Ex (n n' : Nat) (ι : Io) (g : Gm) (w : World) (ι' : Io) (g' : Gm) (w' : World) : Prop where
  os : w'.os = w.os
  tape : w'.tape = w.tape
  output : w'.output = w.output
  size : w.heap.size ≤ w'.heap.size
  le : n ≤ n'
  same : ∀ id, ¬ (n ≤ id ∧ id < n') → ι' id = ι id
  mem : ∀ r, r < w.heap.size → (∀ id b m, g id = some b → ι id ≠ some (r, m)) → w'.heap[r]? = w.heap[r]?
  old : ∀ id b r m, g' id = some b → ι' id = some (r, m) → r < w.heap.size → ∃ j b' m', g j = some b' ∧ ι j = some (r, m')
def Free (ι : Io) (n n' : Nat) : Prop := ∀ id, n ≤ id → ι id = none
theorem Ex.io {n n' : Nat} {ι ι' : Io} {g g' : Gm} {w w' : World} (h : Ex n n' ι g w ι' g' w') (hf : Free ι n n') : Io.le ι ι' := fun id x hx => by
  by_cases hid : n ≤ id ∧ id < n'
  · rw [hf id hid.1] at hx; cases hx
  · rw [h.same id hid]; exact hx
theorem Ex.refl (n : Nat) (ι : Io) (g : Gm) (w : World) : Ex n n ι g w ι g w := ⟨rfl, rfl, rfl, Nat.le_refl _, Nat.le_refl _, fun _ _ => rfl, fun _ _ _ => rfl, fun id b r m h1 h2 _ => ⟨id, b, m, h1, h2⟩⟩
theorem Ex.trans {n n1 n2 : Nat} {ι ι1 ι2 : Io} {g g1 g2 : Gm} {w w1 w2 : World} (a : Ex n n1 ι g w ι1 g1 w1) (b : Ex n1 n2 ι1 g1 w1 ι2 g2 w2) : Ex n n2 ι g w ι2 g2 w2 := by
  refine ⟨b.os.trans a.os, b.tape.trans a.tape, b.output.trans a.output, Nat.le_trans a.size b.size, Nat.le_trans a.le b.le, fun id hid => ?_, fun r hr hn => ?_, fun id c r m h1 h2 h3 => ?_⟩
  · have := a.le; have := b.le
    rw [b.same id (by omega), a.same id (by omega)]
  · rw [b.mem r (Nat.lt_of_lt_of_le hr a.size) fun id c m h1 h2 => ?_, a.mem r hr hn]
    obtain ⟨j, b', m', h3, h4⟩ := a.old id c r m h1 h2 hr
    exact hn j b' m' h3 h4
  · obtain ⟨j, b', m', h4, h5⟩ := b.old id c r m h1 h2 (Nat.lt_of_lt_of_le h3 a.size)
    exact a.old j b' r m' h4 h5 h3
theorem Free.left {ι : Io} {n n1 n2 : Nat} (h : Free ι n n2) (hl : n1 ≤ n2) : Free ι n n1 := h
theorem Free.right {n n1 n2 : Nat} {ι ι1 : Io} {g g1 : Gm} {w w1 : World} (h : Free ι n n2) (a : Ex n n1 ι g w ι1 g1 w1) : Free ι1 n1 n2 := fun id h1 => by
  have := a.le
  rw [a.same id (by omega)]; exact h id (by omega)
theorem ERel.mono {ι ι' : Io} (hl : Io.le ι ι') {e : Ev} {a : Act} (h : ERel ι e a) : ERel ι' e a := fun t c hc => let ⟨u, h1, h2⟩ := h t c hc; ⟨u, h1, h2.mono hl⟩
theorem ERel.put {ι : Io} {e : Ev} {a : Act} (h : ERel ι e a) {t : Nat} (ht : t < a.tmps.size) {c : V} {u : Value} (hc : VRel ι c u) : ERel ι (e.set t c) (a.put (some t) u) := fun s c' hs => by
  rw [Tr.get_set] at hs
  split at hs
  · rename_i h1; subst h1; cases hs; exact ⟨u, by simp [Act.put, ht], hc⟩
  · rename_i h1
    obtain ⟨u', h3, h4⟩ := h s c' hs
    exact ⟨u', by simp [Act.put, Array.getElem?_setIfInBounds_ne (Ne.symm h1), h3], h4⟩

section
variable {ι : Io} {g : Gm} {w w' : World}
theorem HRel.grow (H : HRel ι g w) (hmem : ∀ r, r < w.heap.size → w'.heap[r]? = w.heap[r]?) : HRel ι g w' :=
  ⟨fun id b hb => let ⟨r, m, h1, h2⟩ := H.blk id b hb; ⟨r, m, h1, h2.mono (fun _ _ h => h) (hmem r h2.lt)⟩, H.inj⟩
def upd (g : Gm) (id : Nat) (b : B) : Gm := fun j => if j = id then some b else g j
def updI (ι : Io) (id r m : Nat) : Io := fun j => if j = id then some (r, m) else ι j
theorem get_set_upd (h : Hp) (id : Nat) (b : B) : (h.set id b).get = upd h.get id b := by
  funext j; rw [Tr.get_set]; rfl
theorem HRel.sub {g' : Gm} (H : HRel ι g w) (hs : ∀ id b, g' id = some b → g id = some b) : HRel ι g' w :=
  ⟨fun id b hb => H.blk id b (hs id b hb), fun i j b b' r m m' h1 h2 h3 h4 => H.inj i j b b' r m m' (hs i b h1) (hs j b' h2) h3 h4⟩
theorem Ex.sub {n n' : Nat} {ι' : Io} {g1 g2 : Gm} (h : Ex n n' ι g w ι' g1 w') (hs : ∀ id b, g2 id = some b → g1 id = some b) : Ex n n' ι g w ι' g2 w' :=
  ⟨h.os, h.tape, h.output, h.size, h.le, h.same, h.mem, fun id b r m h1 h2 h3 => h.old id b r m (hs id b h1) h2 h3⟩
theorem le_updI {id r m : Nat} (h0 : ι id = none) : Io.le ι (updI ι id r m) := fun j x hx => by
  unfold updI
  split
  · rename_i he; subst he; rw [h0] at hx; cases hx
  · exact hx
theorem HRel.new (H : HRel ι g w) {id m : Nat} (h0 : ι id = none) (hs : w.heap.size < w'.heap.size) (hmem : ∀ r, r < w.heap.size → w'.heap[r]? = w.heap[r]?) {b : B} (hb : BRel (updI ι id w.heap.size m) w' b w.heap.size m) : HRel (updI ι id w.heap.size m) (upd g id b) w' := by
  refine ⟨fun j c hj => ?_, fun i j b1 b2 r m1 m2 h1 h2 h3 h4 => ?_⟩
  · unfold upd at hj
    split at hj
    · rename_i he; subst he; cases hj; exact ⟨_, _, by simp [updI], hb⟩
    · rename_i he
      obtain ⟨r, m', h1, h2⟩ := H.blk j c hj
      exact ⟨r, m', by simp [updI, he, h1], h2.mono (le_updI h0) (hmem r h2.lt)⟩
  · have lt : ∀ k b r m, g k = some b → ι k = some (r, m) → r < w.heap.size := fun k b r m hk hι => by
      obtain ⟨r', m', h5, h6⟩ := H.blk k b hk
      rw [hι] at h5; cases h5; exact h6.lt
    unfold upd at h1 h2
    unfold updI at h3 h4
    split at h1 <;> split at h2
    · omega
    · rename_i e1 e2; rw [if_pos e1] at h3; rw [if_neg e2] at h4; cases h3; have := lt _ _ _ _ h2 h4; omega
    · rename_i e1 e2; rw [if_neg e1] at h3; rw [if_pos e2] at h4; cases h4; have := lt _ _ _ _ h1 h3; omega
    · rename_i e1 e2; rw [if_neg e1] at h3; rw [if_neg e2] at h4; exact H.inj i j b1 b2 r m1 m2 h1 h2 h3 h4
theorem Ex.new {id m : Nat} {b : B} (ho : w'.os = w.os) (ht : w'.tape = w.tape) (hou : w'.output = w.output) (hs : w.heap.size ≤ w'.heap.size) (hmem : ∀ r, r < w.heap.size → w'.heap[r]? = w.heap[r]?) : Ex id (id + 1) ι g w (updI ι id w.heap.size m) (upd g id b) w' := by
  refine ⟨ho, ht, hou, hs, by omega, fun j hj => ?_, fun r hr _ => hmem r hr, fun j c r m' h1 h2 h3 => ?_⟩
  · unfold updI; rw [if_neg (by omega)]
  · unfold upd at h1
    unfold updI at h2
    split at h1
    · rename_i he; rw [if_pos he] at h2; cases h2; omega
    · rename_i he; rw [if_neg he] at h2; exact ⟨j, c, m', h1, h2⟩
theorem HRel.wrote (H : HRel ι g w) {id r m : Nat} {b b' : B} (hg : g id = some b) (hi : ι id = some (r, m)) (hmem : ∀ r', r' ≠ r → w'.heap[r']? = w.heap[r']?) (hb : BRel ι w' b' r m) : HRel ι (upd g id b') w' := by
  refine ⟨fun j c hj => ?_, fun i j b1 b2 r1 m1 m2 h1 h2 h3 h4 => ?_⟩
  · unfold upd at hj
    split at hj
    · rename_i he; subst he; cases hj; exact ⟨r, m, hi, hb⟩
    · rename_i he
      obtain ⟨r', m', h1, h2⟩ := H.blk j c hj
      refine ⟨r', m', h1, h2.mono (fun _ _ h => h) (hmem r' ?_)⟩
      rintro rfl
      exact he (H.inj j id c b r' m' m hj hg h1 hi)
  · have := H.inj i j
    unfold upd at h1 h2
    have f : ∀ k b0, (if k = id then some b' else g k) = some b0 → ∃ b1, g k = some b1 := fun k b0 h => by
      split at h
      · rename_i he; subst he; exact ⟨b, hg⟩
      · exact ⟨b0, h⟩
    obtain ⟨c1, e1⟩ := f i b1 h1
    obtain ⟨c2, e2⟩ := f j b2 h2
    exact H.inj i j c1 c2 r1 m1 m2 e1 e2 h3 h4
theorem Ex.wrote {n id r m : Nat} {b b' : B} (hg : g id = some b) (hi : ι id = some (r, m)) (ho : w'.os = w.os) (ht : w'.tape = w.tape) (hou : w'.output = w.output) (hs : w.heap.size ≤ w'.heap.size) (hmem : ∀ r', r' ≠ r → w'.heap[r']? = w.heap[r']?) : Ex n n ι g w ι (upd g id b') w' := by
  refine ⟨ho, ht, hou, hs, Nat.le_refl _, fun _ _ => rfl, fun r' hr hn => hmem r' ?_, fun j c r' m' h1 h2 h3 => ?_⟩
  · rintro rfl; exact hn id b m hg hi
  · unfold upd at h1
    split at h1
    · rename_i he; subst he; exact ⟨j, b, m', hg, h2⟩
    · exact ⟨j, c, m', h1, h2⟩
end

def pv {α : Type} (P : Program) : Sem α → Option α
  | .pure a => some a
  | .program k => pv P (k P)
  | .mark _ k => pv P k
  | _ => none
theorem pv_run {α : Type} {P : Program} {s : Sem α} {a : α} (h : pv P s = some a) (w : World) : s.run P w = .ok a w := by
  induction s with
  | pure b => cases h; rfl
  | program k ih => exact ih P h
  | mark m k ih => exact ih h
  | _ => cases h

mutual
def tv : V → Option Value
  | .sc v => some v
  | .agg cs => match tvs cs with
    | some l => some (.agg l.toArray)
    | none => none
  | .tup cs => match tvs cs with
    | some l => some (.tuple l.toArray)
    | none => none
  | .ifc t v => match tv v with
    | some u => some (.iface t u)
    | none => none
  | .fn f cs => match tvs cs with
    | some l => some (.func (.func f) #[] l.toArray)
    | none => none
  | _ => none
def tvs : List V → Option (List Value)
  | [] => some []
  | c :: r => match tv c with
    | some v => match tvs r with
      | some l => some (v :: l)
      | none => none
    | none => none
end
theorem tvs_get {cs : List V} {l : List Value} (h : tvs cs = some l) : l.length = cs.length ∧ ∀ (i : Nat) (c : V) (v : Value), cs[i]? = some c → l[i]? = some v → tv c = some v := by
  induction cs generalizing l with
  | nil => cases h; exact ⟨rfl, by simp⟩
  | cons c r ih =>
    rw [tvs] at h
    cases hc : tv c with
    | none => simp [hc] at h
    | some v =>
      cases hr : tvs r with
      | none => simp [hc, hr] at h
      | some l' =>
        simp [hc, hr] at h
        subst h
        obtain ⟨h1, h2⟩ := ih hr
        refine ⟨by simp [h1], fun i c' v' h3 h4 => ?_⟩
        cases i with
        | zero => simp at h3 h4; subst h3 h4; exact hc
        | succ i => exact h2 i c' v' (by simpa using h3) (by simpa using h4)
theorem arr_eq {cs : List V} {l : List Value} {C : Array Value} (h : tvs cs = some l) (hl : C.size = cs.length) (hr : ∀ (i : Nat) (c : V) (u : Value), cs[i]? = some c → C[i]? = some u → ∀ v, tv c = some v → u = v) : C = l.toArray := by
  obtain ⟨h1, h2⟩ := tvs_get h
  apply Array.ext
  · simp [hl, h1]
  · intro i h3 h4
    have h5 : i < cs.length := by omega
    have h6 : i < l.length := by omega
    have := hr i cs[i] C[i] (List.getElem?_eq_getElem h5) (Array.getElem?_eq_getElem h3) _ (h2 i cs[i] l[i] (List.getElem?_eq_getElem h5) (List.getElem?_eq_getElem h6))
    simpa using this
theorem tv_rel {ι : Io} {c : V} {u : Value} (h : VRel ι c u) : ∀ v, tv c = some v → u = v := by
  induction h with
  | sc v => intro v' h; cases h; rfl
  | fn f caps C hl h ih =>
    intro v hv
    rw [tv] at hv
    cases hc : tvs caps with
    | none => simp [hc] at hv
    | some l => simp [hc] at hv; subst hv; rw [arr_eq hc hl ih]
  | agg cs C hl h ih =>
    intro v hv
    rw [tv] at hv
    cases hc : tvs cs with
    | none => simp [hc] at hv
    | some l => simp [hc] at hv; subst hv; rw [arr_eq hc hl ih]
  | tup cs C hl h ih =>
    intro v hv
    rw [tv] at hv
    cases hc : tvs cs with
    | none => simp [hc] at hv
    | some l => simp [hc] at hv; subst hv; rw [arr_eq hc hl ih]
  | ifc t c u h ih =>
    intro v hv
    rw [tv] at hv
    cases hc : tv c with
    | none => simp [hc] at hv
    | some l => simp [hc] at hv; subst hv; rw [ih _ hc]
  | _ => intro v hv; cases hv
def one : V → Bool
  | .sc v => v.oneCell'
  | .agg _ => false
  | .tup _ => false
  | _ => true
theorem one_rel {ι : Io} {c : V} {u : Value} (h : VRel ι c u) (h1 : one c = true) : u.oneCell' = true := by
  cases h <;> first | exact h1 | rfl | cases h1
def cellsV : V → List V
  | .agg cs => cs
  | .sc v => v.cells.toList.map .sc
  | c => [c]
theorem cells_rel {ι : Io} {c : V} {u : Value} (h : VRel ι c u) : LRel ι (cellsV c) u.cells.toList := by
  have single : ∀ {c : V} {u : Value}, VRel ι c u → LRel ι [c] [u] := fun h => LRel.cons h .nil
  cases h with
  | sc v => exact LRel.scs _
  | agg cs C hl h => exact ⟨(by simpa using hl : C.toList.length = cs.length), fun i c u a b => h i c u a (by simpa [Value.cells] using b)⟩
  | ptr id off r m h => exact single (.ptr id off r m h)
  | sl id off len k c r m h => exact single (.sl id off len k c r m h)
  | slu id off len k c r m h hc hl => exact single (.slu id off len k c r m h hc hl)
  | emp r o c => exact single (.emp r o c)
  | mp id r m h => exact single (.mp id r m h)
  | fn f caps C hl h => exact single (.fn f caps C hl h)
  | ifc t v u h => exact single (.ifc t v u h)
  | tup cs C hl h => exact single (.tup cs C hl h)
theorem all_one {ι : Io} {cs : List V} {us : List Value} (h : LRel ι cs us) (h1 : cs.all one = true) : ∀ u ∈ us, u.oneCell' = true := fun u hu => by
  obtain ⟨i, hi⟩ := List.mem_iff_getElem?.1 hu
  have hlt : i < cs.length := by rw [← h.1]; exact (List.getElem?_eq_some_iff.1 hi).1
  exact one_rel (h.2 i cs[i] u (List.getElem?_eq_getElem hlt) hi) (List.all_eq_true.1 h1 _ (List.getElem_mem hlt))

def ev (e : Ev) : Operand → Option V
  | .tmp t => e.get t
  | .const v => some (.sc v)
  | .func f => some (.fn f [])
  | .global g => some (.sc (.pointer (some ⟨g, 0, none⟩)))
theorem ev_rel {ι : Io} {e : Ev} {a : Act} (E : ERel ι e a) {x : Operand} {c : V} (h : ev e x = some c) : VRel ι c (a.eval x) := by
  cases x with
  | tmp t => obtain ⟨u, h1, h2⟩ := E t c h; simpa [Act.eval, h1] using h2
  | const v => cases h; exact .sc v
  | func f => cases h; exact .fn f [] #[] rfl (by simp)
  | global g => cases h; exact .sc _
def evs (e : Ev) : List Operand → Option (List V)
  | [] => some []
  | x :: r => match ev e x with
    | some c => match evs e r with
      | some cs => some (c :: cs)
      | none => none
    | none => none
theorem evs_rel {ι : Io} {e : Ev} {a : Act} (E : ERel ι e a) {l : List Operand} {cs : List V} (h : evs e l = some cs) : LRel ι cs (l.map a.eval) := by
  induction l generalizing cs with
  | nil => cases h; exact .nil
  | cons x r ih =>
    rw [evs] at h
    cases hx : ev e x with
    | none => simp [hx] at h
    | some c =>
      cases hr : evs e r with
      | none => simp [hx, hr] at h
      | some cs' => simp [hx, hr] at h; subst h; exact LRel.cons (ev_rel E hx) (ih hr)
end Go.Proofs.YtamnhhjcgloceaaGreat.Rn

namespace Go.Proofs.YtamnhhjcgloceaaGreat.Rn
set_option linter.unusedVariables false
open Go.RowKit
open Go.Proofs.YtamnhhjcgloceaaGreat.Ab (TE TTab tlook TabOk TFacts win setW setW_get win_get Sh)

abbrev R := Option (V × Nat × Hp × Nat)
structure Syn (n : Nat) (h : Hp) (lo : Nat) (n' : Nat) (h' : Hp) (lo' : Nat) : Prop where
  le : n ≤ n'
  low : lo' ≤ lo
  lon : lo ≤ n → lo' ≤ n'
  same : lo ≤ n → ∀ id, id < lo' → h'.get id = h.get id
  bd : (∀ id b, h.get id = some b → id < n) → ∀ id b, h'.get id = some b → id < n'
  nn : ∀ id, id < n → h.get id = none → h'.get id = none
theorem Syn.refl (n : Nat) (h : Hp) (lo : Nat) : Syn n h lo n h lo := ⟨Nat.le_refl _, Nat.le_refl _, fun h => h, fun _ _ _ => rfl, fun h => h, fun _ _ h => h⟩
theorem Syn.trans {n n1 n2 lo lo1 lo2 : Nat} {h h1 h2 : Hp} (a : Syn n h lo n1 h1 lo1) (b : Syn n1 h1 lo1 n2 h2 lo2) : Syn n h lo n2 h2 lo2 :=
  ⟨Nat.le_trans a.le b.le, Nat.le_trans b.low a.low, fun h => b.lon (a.lon h), fun h id hid => (b.same (a.lon h) id hid).trans (a.same h id (Nat.lt_of_lt_of_le hid b.low)), fun h => b.bd (a.bd h), fun id hid hn => b.nn id (Nat.lt_of_lt_of_le hid a.le) (a.nn id hid hn)⟩
theorem Syn.new (n : Nat) (h : Hp) (lo : Nat) (b : B) : Syn n h lo (n + 1) (h.set n b) lo := by
  refine ⟨by omega, Nat.le_refl _, fun h => by omega, fun hl id hid => ?_, fun hb id c hc => ?_, fun id hid hn => ?_⟩
  · rw [Tr.get_set, if_neg (by omega)]
  · rw [Tr.get_set] at hc
    split at hc
    · omega
    · have := hb id c hc; omega
  · rw [Tr.get_set, if_neg (by omega)]; exact hn
def lmin (a b : Nat) : Nat := cond (Nat.ble a b) a b
theorem lmin_l (a b : Nat) : lmin a b ≤ a := by
  unfold lmin
  cases h : Nat.ble a b with
  | true => exact Nat.le_refl _
  | false => have : ¬ a ≤ b := fun h2 => by rw [Nat.ble_eq_true_of_le h2] at h; cases h
             rw [cond_false]; omega
theorem lmin_r (a b : Nat) : lmin a b ≤ b := by
  unfold lmin
  cases h : Nat.ble a b with
  | true => exact Nat.le_of_ble_eq_true h
  | false => exact Nat.le_refl _
theorem Syn.wrote (n : Nat) {h : Hp} (lo : Nat) {id : Nat} {b b' : B} (hg : h.get id = some b) : Syn n h lo n (h.set id b') (lmin id lo) := by
  have := lmin_l id lo; have := lmin_r id lo
  refine ⟨by omega, by omega, fun h => by omega, fun hl j hj => ?_, fun hb j c hc => ?_, fun j hj hn => ?_⟩
  · rw [Tr.get_set, if_neg (by omega)]
  · rw [Tr.get_set] at hc
    split at hc
    · rename_i he; subst he; exact hb j b hg
    · exact hb j c hc
  · rw [Tr.get_set, if_neg (by rintro rfl; rw [hg] at hn; cases hn)]; exact hn

structure Pre (ι : Io) (n n' : Nat) (h : Hp) (e : Ev) (a : Act) (w : World) : Prop where
  heap : HRel ι h.get w
  env : ERel ι e a
  free : Free ι n n'
def Wp (P : Program) (o : Oper) (e : Ev) (n : Nat) (h : Hp) (v : V) (n' : Nat) (h' : Hp) : Prop :=
  ∀ ι a w, Pre ι n n' h e a w → ∀ (K : Act → World → Prop) (Q : Exit → Act → World → Prop),
    (∀ ι' u w', VRel ι' v u → HRel ι' h'.get w' → Ex n n' ι h.get w ι' h'.get w' → K (a.put o.dst u) w') → o.wp P a w K Q
def Good (P : Program) (o : Oper) (e : Ev) (n : Nat) (h : Hp) (lo : Nat) (r : V × Nat × Hp × Nat) : Prop := Syn n h lo r.2.1 r.2.2.1 r.2.2.2 ∧ Wp P o e n h r.1 r.2.1 r.2.2.1

section
variable {P : Program} {tab : TTab} {o : Oper} {e : Ev} {n : Nat} {h : Hp} {lo : Nat}
theorem good_value {v : V} (H : ∀ ι a w, HRel ι h.get w → ERel ι e a → ∃ u, VRel ι v u ∧ (execOp a.eval o).run P w = .ok (.value u) w) : Good P o e n h lo (v, n, h, lo) :=
  ⟨Syn.refl _ _ _, fun ι a w pre K Q hK => by
    obtain ⟨u, h1, h2⟩ := H ι a w pre.heap pre.env
    unfold Oper.wp
    rw [h2, Oper.upon_value]
    exact hK ι u w h1 pre.heap (Ex.refl _ _ _ _)⟩
theorem good_new {v : V} {b : B} (H : ∀ ι a w, HRel ι h.get w → ERel ι e a → ι n = none → ∃ u x w' m, (execOp a.eval o).run P w = .ok (.value u) w' ∧ w'.os = w.os ∧ w'.tape = w.tape ∧ w'.output = w.output ∧ w.heap.size < w'.heap.size ∧ (∀ r, r < w.heap.size → w'.heap[r]? = w.heap[r]?) ∧ w'.heap[w.heap.size]? = some x ∧
      (∀ ι', Io.le ι ι' → ι' n = some (w.heap.size, m) → VRel ι' v u ∧ BRel ι' w' b w.heap.size m)) : Good P o e n h lo (v, n + 1, h.set n b, lo) :=
  ⟨Syn.new _ _ _ _, fun ι a w pre K Q hK => by
    have h0 := pre.free n (Nat.le_refl _)
    obtain ⟨u, x, w', m, h1, h2, h3, h4, h5, h6, h7, h8⟩ := H ι a w pre.heap pre.env h0
    obtain ⟨h9, h10⟩ := h8 (updI ι n w.heap.size m) (le_updI h0) (by simp [updI])
    unfold Oper.wp
    rw [h1, Oper.upon_value]
    refine hK (updI ι n w.heap.size m) u w' h9 ?_ ?_
    · rw [get_set_upd]; exact pre.heap.new h0 h5 h6 h10
    · rw [get_set_upd]; exact Ex.new h2 h3 h4 (by omega) h6⟩
theorem good_write {v : V} {id : Nat} {b b' : B} (hg : h.get id = some b) (H : ∀ ι a w r m, HRel ι h.get w → ERel ι e a → ι id = some (r, m) → BRel ι w b r m → ∃ u w', ((execOp a.eval o).run P w = .ok (.value u) w' ∨ (u = undef ∧ (execOp a.eval o).run P w = .ok .skip w')) ∧ VRel ι v u ∧ w'.os = w.os ∧ w'.tape = w.tape ∧ w'.output = w.output ∧ w.heap.size ≤ w'.heap.size ∧
      (∀ r', r' ≠ r → w'.heap[r']? = w.heap[r']?) ∧ BRel ι w' b' r m) : Good P o e n h lo (v, n, h.set id b', lmin id lo) :=
  ⟨Syn.wrote _ _ hg, fun ι a w pre K Q hK => by
    obtain ⟨r, m, hi, hb⟩ := pre.heap.blk id b hg
    obtain ⟨u, w', h1, hv, h2, h3, h4, h5, h6, h7⟩ := H ι a w r m pre.heap pre.env hi hb
    have fin : K (a.put o.dst u) w' := by
      refine hK ι u w' hv ?_ ?_
      · rw [get_set_upd]; exact pre.heap.wrote hg hi h6 h7
      · rw [get_set_upd]; exact Ex.wrote hg hi h2 h3 h4 h5 h6
    unfold Oper.wp
    rcases h1 with h1 | ⟨h0, h1⟩
    · rw [h1, Oper.upon_value]; exact fin
    · subst h0; rw [h1, Oper.upon_skip]; exact fin⟩

def vOf (v : V) : Value := match tv v with | some x => x | none => undef
def rho (e : Ev) (x : Operand) : Value := match ev e x with | some v => vOf v | none => undef
def dataOps (e : Ev) : List Operand → Bool
  | [] => true
  | x :: r => match ev e x with
    | some v => match tv v with
      | some _ => dataOps e r
      | none => false
    | none => false
theorem dataOps_rel {ι : Io} {a : Act} (E : ERel ι e a) {l : List Operand} (hd : dataOps e l = true) : ∀ x ∈ l, a.eval x = rho e x := by
  induction l with
  | nil => intro x hx; cases hx
  | cons y r ih =>
    intro x hx
    rw [dataOps] at hd
    cases hy : ev e y with
    | none => simp [hy] at hd
    | some v =>
      cases hv : tv v with
      | none => simp [hy, hv] at hd
      | some u =>
        simp only [hy, hv] at hd
        rcases List.mem_cons.1 hx with rfl | hx
        · rw [tv_rel (ev_rel E hy) _ hv]; simp [rho, hy, vOf, hv]
        · exact ih hd x hx
def gen (P : Program) (e : Ev) (o : Oper) : Option V := match o.op with
  | .select _ _ => none
  | _ => cond (dataOps e o.op.operands.toList) (match pv P (execOp (rho e) o) with
    | some (.value u) => some (.sc u)
    | _ => none) none
theorem gen_good {v : V} (hg : gen P e o = some v) : Good P o e n h lo (v, n, h, lo) := by
  refine good_value fun ι a w H E => ?_
  have hsel : ∀ cs b, o.op ≠ .select cs b := fun cs b ho => by rw [gen, ho] at hg; cases hg
  have hg' : cond (dataOps e o.op.operands.toList) (match pv P (execOp (rho e) o) with
    | some (.value u) => some (V.sc u)
    | _ => none) none = some v := by
    unfold gen at hg
    split at hg
    · cases hg
    · exact hg
  cases hd : dataOps e o.op.operands.toList with
  | false => rw [hd] at hg'; cases hg'
  | true =>
    rw [hd, cond_true] at hg'
    cases hp : pv P (execOp (rho e) o) with
    | none => rw [hp] at hg'; cases hg'
    | some nx =>
      cases nx <;> simp [hp] at hg'
      rename_i u
      subst hg'
      refine ⟨u, .sc u, ?_⟩
      rw [execOp_congr o hsel fun x hx => dataOps_rel E hd x (by simpa using hx)]
      exact pv_run hp w

theorem good_move {x : Operand} {v : V} (ho : o.op = .move x ∨ o.op = .assign x) (hx : ev e x = some v) : Good P o e n h lo (v, n, h, lo) :=
  good_value fun ι a w H E => ⟨a.eval x, ev_rel E hx, by rcases ho with ho | ho <;> simp [execOp, ho]⟩
theorem good_pick {x y z : Operand} {b : Bool} {v : V} (ho : o.op = .pick x y z) (hx : ev e x = some (.sc (.bool b))) (hy : ev e (cond b y z) = some v) : Good P o e n h lo (v, n, h, lo) :=
  good_value fun ι a w H E => ⟨a.eval (cond b y z), ev_rel E hy, by
    have := tv_rel (ev_rel E hx) _ rfl
    cases b <;> simp [execOp, ho, this, asBool]⟩
theorem good_extract {x : Operand} {i : Nat} {cs : List V} {v : V} (ho : o.op = .extract x i) (hx : ev e x = some (.tup cs)) (hi : cs[i]? = some v) : Good P o e n h lo (v, n, h, lo) :=
  good_value fun ι a w H E => by
    have hv := ev_rel E hx
    generalize hu : a.eval x = u at hv
    cases hv with
    | tup _ C hl hh =>
      have hlt : i < C.size := by rw [hl]; exact (List.getElem?_eq_some_iff.1 hi).1
      exact ⟨C[i], hh i v C[i] hi (Array.getElem?_eq_getElem hlt), by simp [execOp, ho, hu, Instr.extract, hlt]⟩
def whole (te : TE) (cs : List V) : Option V := cond (Nat.beq cs.length te.size) (cond te.agg (some (.agg cs)) (match cs with | [c] => some c | _ => none)) none
theorem part_good {t : TypeId} {te : TE} {cs : List V} {C : Array Value} {off : Nat} {v : V} {ι : Io} (Fa : TFacts P t te) (hl : LRel ι cs C.toList) (hw : whole te (win cs off te.size) = some v) (w : World) : ∃ u, VRel ι v u ∧ (part t C off).run P w = .ok u w := by
  unfold whole at hw
  have hlr := hl.win off te.size
  cases hb : Nat.beq (win cs off te.size).length te.size with
  | false => rw [hb] at hw; cases hw
  | true =>
    rw [hb, cond_true] at hw
    have hs := Nat.eq_of_beq_eq_true hb
    cases ha : te.agg with
    | true =>
      rw [ha] at hw
      cases hw
      refine ⟨.agg (C.extract off (off + te.size)), VRel.agg' ?_, ?_⟩
      · have : (C.extract off (off + te.size)).toList = win C.toList off te.size := by
          simp [Ab.win, List.extract_eq_take_drop]
        rw [this]; exact hlr
      · unfold part
        rw [Sem.run_bind, Fa.run_agg, Result.andThen_ok, ha, if_pos rfl, Sem.run_bind, Fa.size, Result.andThen_ok]; rfl
    | false =>
      rw [ha, cond_false] at hw
      split at hw
      · rename_i c hc
        cases hw
        rw [hc] at hlr
        obtain ⟨u, vs, h1, h2, h3⟩ := hlr.head
        have hu : C[off]? = some u := by
          have := win_get (cs := C.toList) h1 (j := 0) (c := u) rfl
          simpa using this
        refine ⟨u, h2, ?_⟩
        unfold part
        rw [Sem.run_bind, Fa.run_agg, Result.andThen_ok, ha]
        simp [hu]
      · cases hw
theorem good_field {t : TypeId} {x : Operand} {f off ft : Nat} {te te' : TE} {fs : List (Nat × TypeId)} {cs : List V} {v : V} (TO : TabOk P tab) (ho : o.op = .field t x f) (ht : tlook tab t = some te) (hs : te.sh = .st fs) (hf : fs[f]? = some (off, ft)) (hft : tlook tab ft = some te')
    (hx : ev e x = some (.agg cs)) (hw : whole te' (win cs off te'.size) = some v) : Good P o e n h lo (v, n, h, lo) :=
  good_value fun ι a w H E => by
    have hv := ev_rel E hx
    generalize hu : a.eval x = u at hv
    cases hv with
    | agg _ C hl hh =>
      obtain ⟨u, h1, h2⟩ := part_good (ι := ι) (TO ft te' hft) (cs := cs) (C := C) (off := off) ⟨by simpa using hl, fun i c u a b => hh i c u a (by simpa using b)⟩ hw w
      obtain ⟨FF, hu2, hF⟩ := (TO t te ht).struct hs
      rw [← hF, List.getElem?_map] at hf
      cases hfi : FF[f]? with
      | none => simp [hfi] at hf
      | some fl =>
        simp [hfi] at hf
        obtain ⟨rfl, rfl⟩ := hf
        exact ⟨u, h1, by simp [execOp, ho, hu, Instr.field, run_underlying hu2, hfi, asAgg, h2]⟩
theorem good_nilCheck {x : Operand} {v : V} (ho : o.op = .nilCheck x) (hx : ev e x = some v) (hv : (match v with | .ptr _ _ => true | .fn _ _ => true | _ => false) = true) : Good P o e n h lo (v, n, h, lo) :=
  good_value fun ι a w H E => by
    have hr := ev_rel E hx
    refine ⟨a.eval x, hr, ?_⟩
    generalize hu : a.eval x = u at hr
    cases hr <;> simp at hv <;> (simp only [execOp, ho, hu]; rfl)
def nilOf : V → Option Value
  | .ptr _ _ => some (.pointer none)
  | .sl _ _ _ _ _ => some (.slice none 0 0)
  | .emp => some (.slice none 0 0)
  | .mp _ => some (.map none)
  | .fn _ _ => some .nilFunc
  | .ifc _ _ => some .nilIface
  | _ => none
def isNil : Value → Bool
  | .pointer none => true
  | .slice none 0 0 => true
  | .map none => true
  | .nilFunc => true
  | .nilIface => true
  | _ => false
def fits : V → Value → Option TypeDesc → Bool
  | .ptr _ _, .pointer none, some (.pointer _) => true
  | .sl _ _ _ _ _, .slice none 0 0, some (.slice _) => true
  | .emp, .slice none 0 0, some (.slice _) => true
  | .mp _, .map none, some (.map _ _) => true
  | .fn _ _, .nilFunc, some (.func _ _ _) => true
  | .ifc _ _, .nilIface, some (.interface _) => true
  | _, _, _ => false
theorem fits_shape {ι : Io} {v : V} {y c : Value} {d : TypeDesc} (hv : VRel ι v y) (hf : fits v c (some d) = true) :
    (∃ a el, y = .pointer (some a) ∧ c = .pointer none ∧ d = .pointer el) ∨ (∃ a l k el, y = .slice (some a) l k ∧ c = .slice none 0 0 ∧ d = .slice el) ∨ (∃ r k el, y = .map (some r) ∧ c = .map none ∧ d = .map k el) ∨
    (∃ f C p q b, y = .func f #[] C ∧ c = .nilFunc ∧ d = .func p q b) ∨ (∃ tt u ms, y = .iface tt u ∧ c = .nilIface ∧ d = .interface ms) := by
  unfold fits at hf
  split at hf
  · rename_i h1; cases h1; cases hv; exact .inl ⟨_, _, rfl, rfl, rfl⟩
  · rename_i h1; cases h1; cases hv <;> exact .inr (.inl ⟨_, _, _, _, rfl, rfl, rfl⟩)
  · rename_i h1; cases h1; cases hv; exact .inr (.inl ⟨_, _, _, _, rfl, rfl, rfl⟩)
  · rename_i h1; cases h1; cases hv; exact .inr (.inr (.inl ⟨_, _, _, rfl, rfl, rfl⟩))
  · rename_i h1; cases h1; cases hv; exact .inr (.inr (.inr (.inl ⟨_, _, _, _, _, rfl, rfl, rfl⟩)))
  · rename_i h1; cases h1; cases hv; exact .inr (.inr (.inr (.inr ⟨_, _, _, rfl, rfl, rfl⟩)))
  · cases hf
theorem eqn_ptr (w : World) {t el : TypeId} (dd : Nat) (hd : P.underlying t = some (.pointer el)) (a : Addr) : (Op.equalIn (dd + 1) t (.pointer (some a)) (.pointer none)).run P w = .ok false w := by unfold Op.equalIn; simp [run_underlying hd]
theorem eqn_sl (w : World) {t el : TypeId} (dd : Nat) (hd : P.underlying t = some (.slice el)) (a : Addr) (l k : Nat) : (Op.equalIn (dd + 1) t (.slice (some a) l k) (.slice none 0 0)).run P w = .ok false w := by unfold Op.equalIn; simp [run_underlying hd]
theorem eqn_map (w : World) {t k el : TypeId} (dd : Nat) (hd : P.underlying t = some (.map k el)) (a : Nat) : (Op.equalIn (dd + 1) t (.map (some a)) (.map none)).run P w = .ok false w := by unfold Op.equalIn; simp [run_underlying hd]
theorem eqn_fn (w : World) {t : TypeId} {p q b} (dd : Nat) (hd : P.underlying t = some (.func p q b)) (f C) : (Op.equalIn (dd + 1) t (.func f #[] C) .nilFunc).run P w = .ok false w := by unfold Op.equalIn; simp [run_underlying hd]
theorem eqn_ifc (w : World) {t : TypeId} {ms} (dd : Nat) (hd : P.underlying t = some (.interface ms)) (f C) : (Op.equalIn (dd + 1) t (.iface f C) .nilIface).run P w = .ok false w := by unfold Op.equalIn; simp [run_underlying hd]
end
end Go.Proofs.YtamnhhjcgloceaaGreat.Rn

namespace Go.Proofs.YtamnhhjcgloceaaGreat.Rn
set_option linter.unusedVariables false
open Go.RowKit
open Go.Proofs.YtamnhhjcgloceaaGreat.Ab (TE TTab tlook TabOk TFacts win setW setW_get win_get Sh)

theorem setCells_spec {r : Nat} {t : TypeId} {fz : Nat × Nat} : ∀ (vs : List Value) (o : Nat) (C : Array Value) (w : World), w.heap[r]? = some (.cells C t fz) → o + vs.length ≤ C.size →
    (w.setCells r o vs).heap[r]? = some (.cells (setW C.toList o vs).toArray t fz) ∧ (∀ r', r' ≠ r → (w.setCells r o vs).heap[r']? = w.heap[r']?) ∧ (w.setCells r o vs).heap.size = w.heap.size ∧
    (w.setCells r o vs).os = w.os ∧ (w.setCells r o vs).tape = w.tape ∧ (w.setCells r o vs).output = w.output
  | [], o, C, w, hg, hl => by
    refine ⟨?_, fun _ _ => rfl, rfl, rfl, rfl, rfl⟩
    have : setW C.toList o ([] : List Value) = C.toList := by simp [Ab.setW]
    rw [this]; simpa [World.setCells] using hg
  | v :: vs, o, C, w, hg, hl => by
    have h1 : (w.setCell ⟨r, o, none⟩ v).heap[r]? = some (.cells (C.setIfInBounds o v) t fz) := by simp [World.setCell, Array.getElem?_modify, hg]
    obtain ⟨h2, h3, h4, h5, h6, h7⟩ := setCells_spec vs (o + 1) (C.setIfInBounds o v) _ h1 (by simp at hl ⊢; omega)
    rw [World.setCells]
    refine ⟨?_, fun r' hr => ?_, ?_, h5, h6, h7⟩
    · rw [h2]
      congr 2
      have : setW (C.setIfInBounds o v).toList (o + 1) vs = setW C.toList o (v :: vs) := by
        apply List.ext_getElem?
        intro i
        simp at hl
        rw [setW_get (by simp; omega), setW_get (by simp; omega)]
        simp only [List.length_cons, Array.toList_setIfInBounds]
        by_cases h8 : o + 1 ≤ i ∧ i < o + 1 + vs.length
        · rw [if_pos h8, if_pos (by omega), show i - o = (i - (o + 1)) + 1 by omega, List.getElem?_cons_succ]
        · rw [if_neg h8]
          by_cases h9 : i = o
          · subst h9
            rw [if_pos (by omega), Nat.sub_self]
            rw [List.getElem?_set_self (by simp; omega)]
            rfl
          · rw [if_neg (by omega), List.getElem?_set_ne (by omega)]
      rw [this]
    · rw [h3 r' hr]
      simp [World.setCell, Array.getElem?_modify, Ne.symm hr]
    · rw [h4]; simp [World.setCell]
section
variable {P : Program} {tab : TTab} {o : Oper} {e : Ev} {n : Nat} {h : Hp} {lo : Nat}
theorem ptr_inv {ι : Io} {id off : Nat} {u : Value} (hv : VRel ι (.ptr id off) u) {r m : Nat} (hi : ι id = some (r, m)) : u = .pointer (some ⟨r, off, none⟩) := by
  cases hv with
  | ptr _ _ r' m' h' => rw [hi] at h'; cases h'; rfl
theorem whole_len {te : TE} {cs : List V} {v : V} (hw : whole te cs = some v) : cs.length = te.size := by
  unfold whole at hw
  cases hb : Nat.beq cs.length te.size with
  | false => rw [hb] at hw; cases hw
  | true => exact Nat.eq_of_beq_eq_true hb
theorem good_load {t : TypeId} {x : Operand} {te : TE} {id off : Nat} {cs : List V} {more : Bool} {v : V} (TO : TabOk P tab) (ho : o.op = .load t x) (ht : tlook tab t = some te) (hx : ev e x = some (.ptr id off)) (hb : h.get id = some (.cells cs more))
    (hw : whole te (win cs off te.size) = some v) : Good P o e n h lo (v, n, h, lo) :=
  good_value fun ι a w H E => by
    obtain ⟨r, m, hi, C, tt, fz, hC, hfz, hsz, hle, hmo, hl⟩ := H.blk id _ hb
    have hau := ptr_inv (ev_rel E hx) hi
    have hwl := whole_len hw
    have hrel : LRel ι (win cs off te.size) (win (C.toList.take cs.length) off te.size) := hl.win off te.size
    have hvl : (win (C.toList.take cs.length) off te.size).length = te.size := by rw [hrel.1, hwl]
    obtain ⟨W, hW⟩ : ∃ W, win (C.toList.take cs.length) off te.size = W := ⟨_, rfl⟩
    rw [hW] at hvl hrel
    have hcell : ∀ (j : Nat) (u : Value), W[j]? = some u → w.cell? ⟨r, off + j, none⟩ = some u := fun j u hj => by
      have h6 := win_get hW hj
      rw [List.getElem?_take] at h6
      split at h6
      · simp [World.cell?, hC]; simpa using h6
      · cases h6
    have hrun := Ab.run_loadVar w (TO t te ht) r off _ hvl hcell
    unfold whole at hw
    rw [hwl, beq_dec, decide_eq_true rfl, cond_true] at hw
    cases ha : te.agg with
    | true =>
      rw [ha] at hw hrun
      cases hw
      exact ⟨.agg W.toArray, VRel.agg' (by simpa using hrel), by simp [execOp, ho, hau, Instr.loadAt, Instr.sureAddr, hrun]⟩
    | false =>
      rw [ha, cond_false] at hw
      split at hw
      · rename_i c hc
        cases hw
        rw [hc] at hrel
        obtain ⟨u, vs, h1, h2, h3⟩ := hrel.head
        subst h1
        rw [ha] at hrun
        exact ⟨u, h2, by simp [execOp, ho, hau, Instr.loadAt, Instr.sureAddr, hrun]⟩
      · cases hw
theorem brel_set {ι : Io} {w : World} {r m : Nat} {C : Array Value} {t : TypeId} {fz : Nat × Nat} {cs xs : List V} {more : Bool} {vs : List Value} {off : Nat} (hC : w.heap[r]? = some (.cells C t fz)) (hfz : ∀ j, j < m → ¬ (fz.1 ≤ j ∧ j < fz.2)) (hsz : C.size = m) (hle : cs.length ≤ m) (hmo : more = false → m = cs.length)
    (hl : LRel ι cs (C.toList.take cs.length)) (hx : LRel ι xs vs) (hoff : off + xs.length ≤ cs.length) : BRel ι (w.setCells r off vs) (.cells (setW cs off xs) more) r m := by
  obtain ⟨h1, h2, h3, h4⟩ := setCells_spec vs off C w hC (by rw [hx.1, hsz]; omega)
  have hlen : (setW cs off xs).length = cs.length := by simp [Ab.setW]; omega
  refine ⟨_, t, fz, h1, hfz, ?_, by rw [hlen]; exact hle, fun h => by rw [hlen]; exact hmo h, ?_⟩
  · have := hx.1
    simp [Ab.setW]; omega
  · have := hl.setW hx off
    rw [hlen]
    have e1 : (setW C.toList off vs).take cs.length = setW (C.toList.take cs.length) off vs := by
      apply List.ext_getElem?
      intro i
      have hx1 := hx.1
      rw [List.getElem?_take, setW_get (by simp; omega), setW_get (by simp; omega)]
      by_cases hi : i < cs.length
      · rw [if_pos hi, List.getElem?_take, if_pos hi]
      · rw [if_neg hi, if_neg (by omega), List.getElem?_take, if_neg hi]
    simpa [e1] using this
theorem run_storeV {w : World} {r m off : Nat} {C : Array Value} {t : TypeId} {fz : Nat × Nat} (hC : w.heap[r]? = some (.cells C t fz)) (hfz : ∀ j, j < m → ¬ (fz.1 ≤ j ∧ j < fz.2)) (hsz : C.size = m) (vs : List Value) (hl : off + vs.length ≤ m) (h1 : ∀ u ∈ vs, u.oneCell' = true) :
    (storeCells ⟨r, off, none⟩ vs).run P w = .ok () (w.setCells r off vs) := by
  have := run_storeCells_cells (P := P) r off vs 0 w (fun j hj => ?_) (fun j hj => ?_) h1
  · simpa using this
  · have : off + 0 + j < C.size := by omega
    simp [World.cell?, hC]; omega
  · have := hfz (off + 0 + j) (by omega)
    simp only [World.frozen?, hC]
    simpa using this
theorem good_store {t : TypeId} {x y : Operand} {te : TE} {id off : Nat} {cs : List V} {more : Bool} {v : V} (TO : TabOk P tab) (ho : o.op = .store t x y) (ht : tlook tab t = some te) (hx : ev e x = some (.ptr id off)) (hb : h.get id = some (.cells cs more)) (hy : ev e y = some v)
    (h1 : (cellsV v).all one = true) (hs : Nat.beq (cellsV v).length te.size = true) (hle : Nat.ble (off + te.size) cs.length = true) : Good P o e n h lo (.sc undef, n, h.set id (.cells (setW cs off (cellsV v)) more), lmin id lo) :=
  good_write hb fun ι a w r m H E hi hB => by
    obtain ⟨C, tt, fz, hC, hfz, hsz, hle2, hmo, hl⟩ := hB
    have hau := ptr_inv (ev_rel E hx) hi
    have hyr := cells_rel (ev_rel E hy)
    have hs := Nat.eq_of_beq_eq_true hs
    have hle := Nat.le_of_ble_eq_true hle
    have hrun := run_storeV (P := P) (off := off) hC hfz hsz (a.eval y).cells.toList (by rw [hyr.1]; omega) (all_one hyr h1)
    obtain ⟨g1, g2, g3, g4, g5, g6⟩ := setCells_spec (a.eval y).cells.toList off C w hC (by rw [hyr.1]; omega)
    refine ⟨undef, _, .inr ⟨rfl, ?_⟩, .sc _, g4, g5, g6, by rw [g3]; exact Nat.le_refl _, g2, brel_set hC hfz hsz hle2 hmo hl hyr (by omega)⟩
    have e1 : (a.eval y).cells.size = te.size := by rw [← Array.length_toList, hyr.1]; exact hs
    simp [execOp, ho, Instr.storeAt, Instr.sureAddr, hau, storeVar, (TO t te ht).size, e1, hrun]
theorem good_fieldAddr {t : TypeId} {x : Operand} {f off ft id o1 : Nat} {te te' : TE} {fs : List (Nat × TypeId)} {b : B} (TO : TabOk P tab) (ho : o.op = .fieldAddr t x f) (ht : tlook tab t = some te) (hs : te.sh = .st fs) (hf : fs[f]? = some (off, ft))
    (hft : tlook tab ft = some te') (hz : Nat.beq te'.size 0 = false) (hx : ev e x = some (.ptr id o1)) (hb : h.get id = some b) : Good P o e n h lo (.ptr id (o1 + off), n, h, lo) :=
  good_value fun ι a w H E => by
    obtain ⟨r, m, hi, _⟩ := H.blk id _ hb
    have hau := ptr_inv (ev_rel E hx) hi
    exact ⟨_, .ptr id (o1 + off) r m hi, by simp [execOp, ho, hau, Ab.run_fieldAt w (TO t te ht) hs hf (TO ft te' hft) hz]⟩
theorem good_indexAddr {t : TypeId} {x y : Operand} {te te' : TE} {el : TypeId} {id off len k : Nat} {cap : Option Nat} {q : IntKind} {i : Int} (TO : TabOk P tab) (ho : o.op = .indexAddr t x y) (ht : tlook tab t = some te) (hs : te.sh = .sl el)
    (hel : tlook tab el = some te') (hx : ev e x = some (.sl id off len k cap)) (hy : ev e y = some (.sc (.int q i))) (hi : 0 ≤ i ∧ i < len) : Good P o e n h lo (.ptr id (off + i.toNat * te'.size), n, h, lo) :=
  good_value fun ι a w H E => by
    have hv := ev_rel E hx
    have hk := tv_rel (ev_rel E hy) _ rfl
    have hu := (TO t te ht).slice hs
    generalize hau : a.eval x = u at hv
    cases hv with
    | sl _ _ _ _ c r m h1 => exact ⟨_, .ptr id _ r m h1, by simp [execOp, ho, hau, hk, Ab.run_indexAt w hu (TO el te' hel) r off len c q i hi]⟩
    | slu _ _ _ _ c r m h1 => exact ⟨_, .ptr id _ r m h1, by simp [execOp, ho, hau, hk, Ab.run_indexAt w hu (TO el te' hel) r off len c q i hi]⟩
theorem good_indexArr {t : TypeId} {x y : Operand} {te te' : TE} {el N : Nat} {id off : Nat} {b : B} {q : IntKind} {i : Int} (TO : TabOk P tab) (ho : o.op = .indexAddr t x y) (ht : tlook tab t = some te) (hs : te.sh = .ar N el)
    (hel : tlook tab el = some te') (hx : ev e x = some (.ptr id off)) (hb : h.get id = some b) (hy : ev e y = some (.sc (.int q i))) (hi : 0 ≤ i ∧ i < N) : Good P o e n h lo (.ptr id (off + i.toNat * te'.size), n, h, lo) :=
  good_value fun ι a w H E => by
    obtain ⟨r, m, hri, _⟩ := H.blk id _ hb
    have hau := ptr_inv (ev_rel E hx) hri
    have hk := tv_rel (ev_rel E hy) _ rfl
    obtain ⟨d, hd, _, hh⟩ := (TO t te ht).und
    rw [hs] at hh
    cases hh
    exact ⟨_, .ptr id _ r m hri, by simp [execOp, ho, hau, hk, Instr.indexAt, asIntOf, run_underlying hd, Instr.sureAddr, hi, (TO el te' hel).size, Addr.add_mid]⟩
theorem good_index {t : TypeId} {x y : Operand} {te te' : TE} {el N : Nat} {cs : List V} {q : IntKind} {i : Int} {v : V} (TO : TabOk P tab) (ho : o.op = .index t x y) (ht : tlook tab t = some te) (hs : te.sh = .ar N el)
    (hel : tlook tab el = some te') (hx : ev e x = some (.agg cs)) (hy : ev e y = some (.sc (.int q i))) (hi : 0 ≤ i ∧ i < N) (hw : whole te' (win cs (i.toNat * te'.size) te'.size) = some v) : Good P o e n h lo (v, n, h, lo) :=
  good_value fun ι a w H E => by
    have hv := ev_rel E hx
    have hk := tv_rel (ev_rel E hy) _ rfl
    obtain ⟨d, hd, _, hh⟩ := (TO t te ht).und
    rw [hs] at hh
    cases hh
    generalize hau : a.eval x = u at hv
    cases hv with
    | agg _ C hl hr =>
      obtain ⟨u, h1, h2⟩ := part_good (ι := ι) (TO el te' hel) (cs := cs) (C := C) (off := i.toNat * te'.size) ⟨by simpa using hl, fun i c u a b => hr i c u a (by simpa using b)⟩ hw w
      exact ⟨u, h1, by simp [execOp, ho, hau, hk, Instr.index, asIntOf, run_underlying hd, hi, (TO el te' hel).size, h2]⟩

theorem alloc_facts (w : World) (x : Obj) : (w.alloc x).os = w.os ∧ (w.alloc x).tape = w.tape ∧ (w.alloc x).output = w.output ∧ w.heap.size < (w.alloc x).heap.size ∧ (∀ r, r < w.heap.size → (w.alloc x).heap[r]? = w.heap[r]?) ∧ (w.alloc x).heap[w.heap.size]? = some x :=
  ⟨rfl, rfl, rfl, by simp, fun r hr => Below.heap_alloc w x r hr, heap_alloc_new w x⟩
theorem brel_new {ι : Io} {w : World} {r : Nat} {C : Array Value} {t : TypeId} {cs : List V} (hC : w.heap[r]? = some (.cells C t (0, 0))) (hl : LRel ι cs C.toList) : BRel ι w (.cells cs false) r C.size :=
  ⟨C, t, (0, 0), hC, fun j _ h => by dsimp only at h; omega, rfl, by rw [← hl.1]; simp, fun _ => by rw [← hl.1]; simp, by rw [← hl.1, List.take_length]; exact hl⟩
theorem good_alloc {t : TypeId} {te : TE} (TO : TabOk P tab) (ho : o.op = .alloc t) (ht : tlook tab t = some te) : Good P o e n h lo (.ptr n 0, n + 1, h.set n (.cells (te.zero.map .sc) false), lo) :=
  good_new fun ι a w H E h0 => by
    obtain ⟨z, hz1, hz2, _⟩ := (TO t te ht).zero w
    obtain ⟨f1, f2, f3, f4, f5, f6⟩ := alloc_facts w (.cells z.cells t)
    refine ⟨.pointer (some ⟨w.heap.size, 0, none⟩), _, w.alloc (.cells z.cells t), z.cells.size, by simp [execOp, ho, Instr.alloc, hz1, newVar, newRow, newObj, Sem.run], f1, f2, f3, f4, f5, f6, fun ι' hle hi => ⟨.ptr n 0 _ _ hi, brel_new f6 ?_⟩⟩
    rw [← hz2]; exact LRel.scs _
theorem good_box {t : TypeId} {x : Operand} {v : V} (ho : o.op = .box t x) (hx : ev e x = some v) : Good P o e n h lo (.ptr n 0, n + 1, h.set n (.cells (cellsV v) false), lo) :=
  good_new fun ι a w H E h0 => by
    have hv := cells_rel (ev_rel E hx)
    obtain ⟨f1, f2, f3, f4, f5, f6⟩ := alloc_facts w (.cells (a.eval x).cells t)
    exact ⟨.pointer (some ⟨w.heap.size, 0, none⟩), _, w.alloc (.cells (a.eval x).cells t), (a.eval x).cells.size, by simp [execOp, ho, Instr.box, newVar, newRow, newObj, Sem.run], f1, f2, f3, f4, f5, f6, fun ι' hle hi => ⟨.ptr n 0 _ _ hi, brel_new f6 (hv.mono hle)⟩⟩

def vfill (place : Nat → Option (Nat × Nat)) (cells : List V) : List (Nat × V) → Option (List V)
  | [] => some cells
  | (i, c) :: r => match place i with
    | some (off, size) => cond (Nat.beq (cellsV c).length size && Nat.ble (off + (cellsV c).length) cells.length) (vfill place (setW cells off (cellsV c)) r) none
    | none => none
def vparts (e : Ev) : List (Nat × Operand) → Option (List (Nat × V))
  | [] => some []
  | (i, x) :: r => match ev e x with
    | some c => match vparts e r with
      | some l => some ((i, c) :: l)
      | none => none
    | none => none
theorem vfill_rel {ι : Io} {a : Act} (E : ERel ι e a) (place : Nat → Option (Nat × Nat)) : ∀ (l : List (Nat × Operand)) (al : List (Nat × V)) (cells : List V) (C : Array Value) (xs : List V),
    vparts e l = some al → vfill place cells al = some xs → LRel ι cells C.toList → ∃ C', Instr.fill place C (l.map fun p => (p.1, a.eval p.2)) = some C' ∧ LRel ι xs C'.toList
  | [], al, cells, C, xs, h1, h2, h3 => by cases h1; cases h2; exact ⟨C, rfl, h3⟩
  | (i, x) :: l, al, cells, C, xs, h1, h2, h3 => by
    rw [vparts] at h1
    cases hx : ev e x with
    | none => simp [hx] at h1
    | some c =>
      cases hr : vparts e l with
      | none => simp [hx, hr] at h1
      | some al' =>
        simp [hx, hr] at h1
        subst h1
        rw [vfill] at h2
        cases hp : place i with
        | none => simp [hp] at h2
        | some q =>
          obtain ⟨off, size⟩ := q
          simp only [hp] at h2
          cases hb : Nat.beq (cellsV c).length size && Nat.ble (off + (cellsV c).length) cells.length with
          | false => rw [hb] at h2; cases h2
          | true =>
            rw [hb, cond_true] at h2
            simp only [Bool.and_eq_true] at hb
            have hs := Nat.eq_of_beq_eq_true hb.1
            have hl := Nat.le_of_ble_eq_true hb.2
            have hc := cells_rel (ev_rel E hx)
            have hcl : (a.eval x).cells.toList.length = (cellsV c).length := hc.1
            obtain ⟨f1, f2⟩ := Ab.foldl_set off (a.eval x).cells.toList 0 C
            have h31 := h3.1
            have hstep : (((a.eval x).cells.toList.zipIdx 0).foldl (fun cs (c, j) => cs.setIfInBounds (off + j) c) C).toList = setW C.toList off (a.eval x).cells.toList := by
              apply List.ext_getElem?
              intro j
              rw [Array.getElem?_toList, f2, setW_get (by rw [hcl, h31]; exact hl), hcl]
              simp only [Nat.add_zero]
              by_cases hin : off ≤ j ∧ j < off + (cellsV c).length
              · rw [if_pos (by simp at h31; omega), if_pos hin]
              · rw [if_neg (by omega), if_neg hin, Array.getElem?_toList]
            obtain ⟨C', g1, g2⟩ := vfill_rel E place l al' (setW cells off (cellsV c)) (((a.eval x).cells.toList.zipIdx 0).foldl (fun cs (c, j) => cs.setIfInBounds (off + j) c) C) xs hr h2 (by rw [hstep]; exact h3.setW hc off)
            refine ⟨C', ?_, g2⟩
            rw [← g1]
            simp only [List.map_cons, Instr.fill, hp]
            rw [if_neg (by rw [← Array.length_toList, hcl, hs]; simp; simp at h31; omega)]
            congr 1
            rw [← Array.foldl_toList]
            congr 1
            simp [Array.toList_zipIdx]
theorem good_build {t : TypeId} {ps : Array (Nat × Operand)} {te : TE} {fs : List (Nat × TypeId)} {al : List (Nat × V)} {xs : List V} (TO : TabOk P tab) (ho : o.op = .build t ps) (ht : tlook tab t = some te) (hs : te.sh = .st fs) (hfs : fs.all (fun f => (tlook tab f.2).isSome) = true)
    (hal : vparts e ps.toList = some al) (hf : vfill (Ab.stPlace tab fs) (te.zero.map .sc) al = some xs) : Good P o e n h lo (.agg xs, n, h, lo) :=
  good_value fun ι a w H E => by
    obtain ⟨FF, hu, hF⟩ := (TO t te ht).struct hs
    obtain ⟨z, _, hz2, i, hi, hz3, _⟩ := (TO t te ht).zero w
    obtain ⟨C', g1, g2⟩ := vfill_rel E (Ab.stPlace tab fs) ps.toList al _ z.cells xs hal hf (by rw [← hz2]; exact LRel.scs _)
    refine ⟨.agg C', VRel.agg' g2, ?_⟩
    have hplaces : (FF.mapM (m := Sem) fun f => Prod.mk f.offset <$> sizeOf f.type).run P w = .ok (FF.map fun f => (f.offset, P.cellsOf f.type)) w := by
      rw [Array.mapM_eq_mapM_toList]
      have : ∀ (l : List Field), (∀ f ∈ l, (tlook tab f.type).isSome = true) → (l.mapM (m := Sem) fun f => Prod.mk f.offset <$> sizeOf f.type).run P w = .ok (l.map fun f => (f.offset, P.cellsOf f.type)) w := by
        intro l
        induction l with
        | nil => intro _; rfl
        | cons f l ih =>
          intro hl
          obtain ⟨te', hte'⟩ := Option.isSome_iff_exists.1 (hl f (by simp))
          have h1 := (TO _ _ hte').size w
          have h2 := ih fun g hg => hl g (by simp [hg])
          rw [List.mapM_cons]
          simp [h1, h2, (TO _ _ hte').cellsOf]
      have h1 := this FF.toList fun f hf => by
        have := List.all_eq_true.1 hfs (f.offset, f.type) (by rw [← hF]; exact List.mem_map.2 ⟨f, hf, rfl⟩)
        exact this
      simp [h1, ← Array.toList_map]
    have hpl : (fun i => (FF.map fun f => (f.offset, P.cellsOf f.type))[i]?) = Ab.stPlace tab fs := by
      funext i
      unfold Ab.stPlace
      rw [← hF, List.getElem?_map, Array.getElem?_toList, Array.getElem?_map]
      cases hfi : FF[i]? with
      | none => rfl
      | some f =>
        have := List.all_eq_true.1 hfs (f.offset, f.type) (by rw [← hF]; exact List.mem_map.2 ⟨f, Array.mem_toList_iff.2 (Array.mem_of_getElem? hfi), rfl⟩)
        obtain ⟨te', hte'⟩ := Option.isSome_iff_exists.1 this
        dsimp only at hte'
        simp [hte', (TO _ _ hte').cellsOf]
    have hfill : Instr.fill (fun x => Option.map (fun f => (f.offset, P.cellsOf f.type)) FF[x]?) z.cells (ps.toList.map fun p => (p.1, a.eval p.2)) = some C' := by
      rw [← g1, ← hpl]; congr 1; funext x; rw [Array.getElem?_map]
    have hzero : (zeroValue t).run P w = .ok z w := by simp [zeroValue, typeInfo, hi, hz3]
    simp only [execOp, ho]
    simp [Instr.build, hzero, run_underlying hu, hplaces, hfill]
theorem good_buildArr {t el N : TypeId} {ps : Array (Nat × Operand)} {te te' : TE} {al : List (Nat × V)} {xs : List V} (TO : TabOk P tab) (ho : o.op = .build t ps) (ht : tlook tab t = some te) (hs : te.sh = .ar N el) (hel : tlook tab el = some te')
    (hal : vparts e ps.toList = some al) (hf : vfill (fun i => some (i * te'.size, te'.size)) (te.zero.map .sc) al = some xs) : Good P o e n h lo (.agg xs, n, h, lo) :=
  good_value fun ι a w H E => by
    obtain ⟨d, hd, _, hh⟩ := (TO t te ht).und
    rw [hs] at hh
    cases hh
    obtain ⟨z, _, hz2, i, hi, hz3, _⟩ := (TO t te ht).zero w
    obtain ⟨C', g1, g2⟩ := vfill_rel E (fun i => some (i * te'.size, te'.size)) ps.toList al _ z.cells xs hal hf (by rw [← hz2]; exact LRel.scs _)
    refine ⟨.agg C', VRel.agg' g2, ?_⟩
    have hzero : (zeroValue t).run P w = .ok z w := by simp [zeroValue, typeInfo, hi, hz3]
    simp only [execOp, ho]
    simp [Instr.build, hzero, run_underlying hd, (TO el te' hel).size, g1]
def zs (te : TE) (k : Nat) : List Value := (List.range (k * te.size)).map fun j => te.zero.getD (j % te.size) undef
theorem zs_eq {te : TE} {z : Value} (hz : z.cells.toList = te.zero) (hk : te.zero.length = te.size) (k : Nat) : ((Array.range (k * te.size)).map (fun j => z.cells[j % z.cells.size]!)).toList = zs te k := by
  have hzl : z.cells.size = te.size := by rw [← Array.length_toList, hz, hk]
  unfold zs
  rw [Array.toList_map, Array.toList_range]
  apply List.map_congr_left
  intro j hj
  have hj := List.mem_range.1 hj
  have hk : 0 < te.size := by rcases Nat.eq_zero_or_pos te.size with h | h; · rw [h] at hj; simp at hj
                              · exact h
  have hlt : j % te.size < z.cells.size := by rw [hzl]; exact Nat.mod_lt _ hk
  rw [hzl, getElem!_pos z.cells _ hlt, ← hz]
  simp [List.getD, hlt]
theorem good_buildSlice {t el : TypeId} {ps : Array (Nat × Operand)} {len : Nat} {te te' : TE} {al : List (Nat × V)} {xs : List V} (TO : TabOk P tab) (ho : o.op = .buildSlice t len ps) (ht : tlook tab t = some te) (hs : te.sh = .sl el)
    (hel : tlook tab el = some te') (hk2 : Nat.beq te'.zero.length te'.size = true) (hlen : Nat.blt (len * te'.size) 16777216 = true) (hal : vparts e ps.toList = some al)
    (hf : vfill (fun i => some (i * te'.size, te'.size)) ((zs te' len).map .sc) al = some xs) : Good P o e n h lo (.sl n 0 len te'.size (some len), n + 1, h.set n (.cells xs false), lo) :=
  good_new fun ι a w H E h0 => by
    have hu := (TO t te ht).slice hs
    obtain ⟨z, hz1, hz2, _⟩ := (TO el te' hel).zero w
    have hk2 := Nat.eq_of_beq_eq_true hk2
    have hlen : len * te'.size < 16777216 := by simp [Nat.blt] at hlen; omega
    have hzl : z.cells.size = te'.size := by rw [← Array.length_toList, hz2, hk2]
    obtain ⟨C', g1, g2⟩ := vfill_rel E (fun i => some (i * te'.size, te'.size)) ps.toList al _ ((Array.range (len * te'.size)).map (fun j => z.cells[j % z.cells.size]!)) xs hal hf (by rw [zs_eq hz2 hk2]; exact LRel.scs _)
    obtain ⟨f1, f2, f3, f4, f5, f6⟩ := alloc_facts w (.cells C' el)
    refine ⟨.slice (some ⟨w.heap.size, 0, none⟩) len len, _, w.alloc (.cells C' el), C'.size, ?_, f1, f2, f3, f4, f5, f6, fun ι' hle hi => ⟨.sl n 0 len te'.size len _ _ hi, brel_new f6 (g2.mono hle)⟩⟩
    simp only [execOp, ho]
    have hn : ¬ (16777216 < len * te'.size) := by omega
    by_cases h00 : len * te'.size = 0
    · have hr0 : Array.range (len * te'.size) = #[] := Array.eq_empty_of_size_eq_zero (by simpa using h00)
      rw [hr0, Array.map_empty] at g1
      simp [Instr.buildSlice, run_underlying hu, (TO el te' hel).size, hn]
      rw [if_pos h00]
      simp only [Sem.run_pure, Result.andThen_ok, hr0, Array.map_empty]
      have g1' : Instr.fill (fun i => some (i * te'.size, te'.size)) #[] (List.map (fun x => (x.fst, a.eval x.snd)) ps.toList) = some C' := g1
      simp [g1', newRow, newObj, Sem.run]
    · simp [Instr.buildSlice, run_underlying hu, (TO el te' hel).size, hz1, hn]
      rw [if_neg h00]
      rw [show Instr.fill (fun i => some (i * te'.size, te'.size)) _ _ = some C' from g1]
      simp [newRow, newObj, Sem.run]
end
end Go.Proofs.YtamnhhjcgloceaaGreat.Rn

namespace Go.Proofs.YtamnhhjcgloceaaGreat.Rn
set_option linter.unusedVariables false
open Go.RowKit
open Go.Proofs.YtamnhhjcgloceaaGreat.Ab (TE TTab tlook TabOk TFacts win setW setW_get win_get Sh)

theorem blt_lt {a b : Nat} (h : Nat.blt a b = true) : a < b := Nat.le_of_ble_eq_true h
theorem blt_ge {a b : Nat} (h : Nat.blt a b = false) : b ≤ a := by
  rcases Nat.lt_or_ge a b with h1 | h1
  · have : Nat.blt a b = true := Nat.ble_eq_true_of_le h1
    rw [this] at h; cases h
  · exact h1
def bnd (e : Ev) : Option Operand → Option (Option Nat)
  | none => some none
  | some x => match ev e x with
    | some (.sc (.int _ i)) => cond (decide (0 ≤ i)) (some (some i.toNat)) none
    | _ => none
def BRl (b : Option Nat) (v : Option Value) : Prop := match b with
  | none => v = none
  | some l => ∃ q, v = some (.int q (l : Int))
theorem bnd_rel {ι : Io} {e : Ev} {a : Act} (E : ERel ι e a) {x : Option Operand} {b : Option Nat} (h : bnd e x = some b) : BRl b (x.map a.eval) := by
  unfold bnd at h
  split at h
  · cases h; rfl
  · rename_i x
    split at h
    · rename_i q i hx
      cases hi : decide (0 ≤ i) with
      | false => rw [hi] at h; cases h
      | true =>
        rw [hi] at h
        cases h
        refine ⟨q, ?_⟩
        have := of_decide_eq_true hi
        rw [Option.map_some, tv_rel (ev_rel E hx) _ rfl, Int.toNat_of_nonneg this]
    · cases h
def cutV (id off len k : Nat) (cap : Option Nat) (l h m : Option Nat) : Option V :=
  let lv := l.getD 0
  let hv := h.getD len
  match cap, m with
  | some c, none => cond (Nat.ble lv hv && Nat.ble hv c) (some (.sl id (cond (Nat.beq c lv) off (off + lv * k)) (hv - lv) k (some (c - lv)))) none
  | some c, some mv => cond (Nat.ble lv hv && Nat.ble hv mv && Nat.ble mv c && h.isSome) (some (.sl id (cond (Nat.beq mv lv) off (off + lv * k)) (hv - lv) k (some (mv - lv)))) none
  | none, none => cond (Nat.ble lv hv && Nat.ble hv len) (cond (Nat.beq lv 0) (some (.sl id off hv k none)) (cond (Nat.blt lv hv) (some (.sl id (off + lv * k) (hv - lv) k none)) (some .emp))) none
  | none, some mv => cond (Nat.ble lv hv && Nat.ble hv mv && Nat.ble mv len && h.isSome) (some (.sl id (cond (Nat.beq mv lv) off (off + lv * k)) (hv - lv) k (some (mv - lv)))) none
section
variable {P : Program} {tab : TTab} {o : Oper} {e : Ev} {n : Nat} {h : Hp} {lo : Nat}
theorem run_bound {w : World} {q : IntKind} {l y : Nat} {code : BoundsCode} (hl : l ≤ y) : (Instr.sliceBound (.int q (l : Int)) y code).run P w = .ok l w := by
  have h1 : (0 : Int) ≤ (l : Int) ∧ (l : Int) ≤ (y : Int) := by omega
  simp only [Instr.sliceBound, asIntOf, Sem.run_bind, Sem.run_pure, Result.andThen_ok]
  rw [if_pos h1]
  simp
theorem run_bounds {w : World} {isS : Bool} {len c : Nat} {lv hv mv : Option Value} {l h m : Option Nat} (hl : BRl l lv) (hh : BRl h hv) (hm : BRl m mv) (h1 : l.getD 0 ≤ h.getD len) (h2 : h.getD len ≤ m.getD c ∨ h = none) (h3 : m.getD c ≤ c) (h4 : m.isSome = true → h.isSome = true) :
    (Instr.sliceBounds isS len c lv hv mv).run P w = .ok (l.getD 0, h.getD len, m.getD c) w := by
  unfold Instr.sliceBounds
  cases m with
  | none =>
    have : mv = none := hm
    subst this
    cases h with
    | none =>
      have : hv = none := hh
      subst this
      cases l with
      | none => have : lv = none := hl; subst this; simp
      | some l => obtain ⟨q, rfl⟩ := hl; simp at h1; simp [run_bound h1]
    | some hx =>
      obtain ⟨q2, rfl⟩ := hh
      have h2' : hx ≤ c := by rcases h2 with h2 | h2; · simpa using h2
                              · cases h2
      cases l with
      | none => have : lv = none := hl; subst this; simp [run_bound h2']
      | some l => obtain ⟨q, rfl⟩ := hl; simp at h1; simp [run_bound h1, run_bound h2']
  | some mx =>
    obtain ⟨q3, rfl⟩ := hm
    cases h with
    | none => simp at h4
    | some hx =>
      obtain ⟨q2, rfl⟩ := hh
      have h2' : hx ≤ mx := by rcases h2 with h2 | h2; · simpa using h2
                               · cases h2
      have h3' : mx ≤ c := by simpa using h3
      cases l with
      | none => have : lv = none := hl; subst this; simp [run_bound h2', run_bound h3']
      | some l => obtain ⟨q, rfl⟩ := hl; simp at h1; simp [run_bound h1, run_bound h2', run_bound h3']
theorem run_cut {w : World} {t el : TypeId} {te te' : TE} (Ft : TFacts P t te) (hs : te.sh = .sl el) (Fe : TFacts P el te') {r off len c : Nat} {lv hv mv : Option Value} {l h m : Option Nat} (hl : BRl l lv) (hh : BRl h hv) (hm : BRl m mv) (h1 : l.getD 0 ≤ h.getD len) (h2 : h.getD len ≤ m.getD c ∨ h = none) (h3 : m.getD c ≤ c) (h4 : m.isSome = true → h.isSome = true) :
    (Instr.sliceAt t (.slice (some ⟨r, off, none⟩) len c) lv hv mv).run P w = .ok (.slice (some (if m.getD c = l.getD 0 then ⟨r, off, none⟩ else ⟨r, off + l.getD 0 * te'.size, none⟩)) (h.getD len - l.getD 0) (m.getD c - l.getD 0)) w := by
  have hu := Ft.slice hs
  have hb := run_bounds (P := P) (w := w) (isS := true) hl hh hm h1 h2 h3 h4
  simp only [Instr.sliceAt, Instr.slice, Sem.run_bind, run_underlying hu, Result.andThen_ok, hb, Fe.size, Sem.run_pure]
  congr 2
  split <;> simp [Addr.add_mid]
theorem good_cut {t el : TypeId} {x : Operand} {lo' hi mx : Option Operand} {te te' : TE} {id off len k : Nat} {cap : Option Nat} {l hh m : Option Nat} {v : V} (TO : TabOk P tab) (ho : o.op = .slice t x lo' hi mx) (ht : tlook tab t = some te) (hs : te.sh = .sl el)
    (hel : tlook tab el = some te') (hk : Nat.beq te'.size k = true) (hx : ev e x = some (.sl id off len k cap)) (h1 : bnd e lo' = some l) (h2 : bnd e hi = some hh) (h3 : bnd e mx = some m) (hv : cutV id off len k cap l hh m = some v) : Good P o e n h lo (v, n, h, lo) :=
  good_value fun ι a w H E => by
    have hr := ev_rel E hx
    have b1 := bnd_rel E h1
    have b2 := bnd_rel E h2
    have b3 := bnd_rel E h3
    have hk := Nat.eq_of_beq_eq_true hk
    subst hk
    generalize hau : a.eval x = u at hr
    have run : ∀ r c, a.eval x = .slice (some ⟨r, off, none⟩) len c → l.getD 0 ≤ hh.getD len → (hh.getD len ≤ m.getD c ∨ hh = none) → m.getD c ≤ c → (m.isSome = true → hh.isSome = true) →
        (execOp a.eval o).run P w = .ok (.value (.slice (some (if m.getD c = l.getD 0 then ⟨r, off, none⟩ else ⟨r, off + l.getD 0 * te'.size, none⟩)) (hh.getD len - l.getD 0) (m.getD c - l.getD 0))) w := fun r c hau g1 g2 g3 g4 => by
      have := run_cut (w := w) (r := r) (off := off) (TO t te ht) hs (TO el te' hel) b1 b2 b3 g1 g2 g3 g4
      simp only [execOp, ho, hau]
      simp [this]
    unfold cutV at hv
    cases cap with
    | some c =>
      cases hr with
      | sl _ _ _ _ _ r mm hi =>
        cases m with
        | none =>
          dsimp only at hv
          cases hb : Nat.ble (l.getD 0) (hh.getD len) && Nat.ble (hh.getD len) c with
          | false => rw [hb] at hv; cases hv
          | true =>
            rw [hb, cond_true] at hv
            cases hv
            simp only [Bool.and_eq_true, Nat.ble_eq] at hb
            refine ⟨_, ?_, run r c hau hb.1 (.inl (by simpa using hb.2)) (by simp) (by simp)⟩
            simp only [Option.getD_none, beq_dec]
            by_cases hc : c = l.getD 0
            · rw [if_pos hc, decide_eq_true hc]; exact .sl id off _ _ _ r mm hi
            · rw [if_neg hc, decide_eq_false hc]; exact .sl id _ _ _ _ r mm hi
        | some mv =>
          dsimp only at hv
          cases hb : Nat.ble (l.getD 0) (hh.getD len) && Nat.ble (hh.getD len) mv && Nat.ble mv c && hh.isSome with
          | false => rw [hb] at hv; cases hv
          | true =>
            rw [hb, cond_true] at hv
            cases hv
            simp only [Bool.and_eq_true, Nat.ble_eq] at hb
            refine ⟨_, ?_, run r c hau hb.1.1.1 (.inl (by simpa using hb.1.1.2)) (by simpa using hb.1.2) (fun _ => hb.2)⟩
            simp only [Option.getD_some, beq_dec]
            by_cases hc : mv = l.getD 0
            · rw [if_pos hc, decide_eq_true hc]; exact .sl id off _ _ _ r mm hi
            · rw [if_neg hc, decide_eq_false hc]; exact .sl id _ _ _ _ r mm hi
    | none =>
      cases hr with
      | slu _ _ _ _ c r mm hi hcm hlc =>
        cases m with
        | none =>
          dsimp only at hv
          cases hb : Nat.ble (l.getD 0) (hh.getD len) && Nat.ble (hh.getD len) len with
          | false => rw [hb] at hv; cases hv
          | true =>
            rw [hb, cond_true] at hv
            simp only [Bool.and_eq_true, Nat.ble_eq] at hb
            have hrun := run r c hau hb.1 (.inl (by simp; omega)) (by simp) (by simp)
            simp only [Option.getD_none] at hrun
            refine ⟨_, ?_, hrun⟩
            simp only [beq_dec] at hv
            by_cases h0 : l.getD 0 = 0
            · rw [decide_eq_true h0, cond_true] at hv
              cases hv
              rw [h0]
              have : (if c = 0 then (⟨r, off, none⟩ : Addr) else ⟨r, off + 0 * te'.size, none⟩) = ⟨r, off, none⟩ := by split <;> simp
              rw [this]
              exact .slu id off _ _ _ r mm hi (by simpa using hcm) (by omega)
            · rw [decide_eq_false h0, cond_false] at hv
              cases hlt : Nat.blt (l.getD 0) (hh.getD len) with
              | true =>
                rw [hlt, cond_true] at hv
                cases hv
                have hlt : l.getD 0 < hh.getD len := blt_lt hlt
                rw [if_neg (by omega)]
                refine .slu id _ _ _ _ r mm hi ?_ ?_
                · rw [← hcm, Nat.add_assoc, ← Nat.add_mul]
                  congr 2
                  omega
                · omega
              | false =>
                rw [hlt, cond_false] at hv
                cases hv
                have hlt := blt_ge hlt
                rw [show hh.getD len - l.getD 0 = 0 by omega]
                split
                · exact .emp r _ _
                · exact .emp r _ _
        | some mv =>
          dsimp only at hv
          cases hb : Nat.ble (l.getD 0) (hh.getD len) && Nat.ble (hh.getD len) mv && Nat.ble mv len && hh.isSome with
          | false => rw [hb] at hv; cases hv
          | true =>
            rw [hb, cond_true] at hv
            cases hv
            simp only [Bool.and_eq_true, Nat.ble_eq] at hb
            refine ⟨_, ?_, run r c hau hb.1.1.1 (.inl (by simpa using hb.1.1.2)) (by simp; omega) (fun _ => hb.2)⟩
            simp only [Option.getD_some, beq_dec]
            by_cases hc : mv = l.getD 0
            · rw [if_pos hc, decide_eq_true hc]; exact .sl id off _ _ _ r mm hi
            · rw [if_neg hc, decide_eq_false hc]; exact .sl id _ _ _ _ r mm hi
theorem good_cutArr {t el N : TypeId} {x : Operand} {lo' hi mx : Option Operand} {te te' : TE} {id off : Nat} {b : B} {l hh m : Option Nat} {v : V} (TO : TabOk P tab) (ho : o.op = .slice t x lo' hi mx) (ht : tlook tab t = some te) (hs : te.sh = .ar N el)
    (hel : tlook tab el = some te') (hx : ev e x = some (.ptr id off)) (hb : h.get id = some b) (h1 : bnd e lo' = some l) (h2 : bnd e hi = some hh) (h3 : bnd e mx = some m) (hv : cutV id off N te'.size (some N) l hh m = some v) : Good P o e n h lo (v, n, h, lo) :=
  good_value fun ι a w H E => by
    obtain ⟨r, mm, hi, _⟩ := H.blk id _ hb
    have hau := ptr_inv (ev_rel E hx) hi
    have b1 := bnd_rel E h1
    have b2 := bnd_rel E h2
    have b3 := bnd_rel E h3
    obtain ⟨d, hd, _, hdd⟩ := (TO t te ht).und
    rw [hs] at hdd
    cases hdd
    have run : l.getD 0 ≤ hh.getD N → (hh.getD N ≤ m.getD N ∨ hh = none) → m.getD N ≤ N → (m.isSome = true → hh.isSome = true) →
        (execOp a.eval o).run P w = .ok (.value (.slice (some (if m.getD N = l.getD 0 then ⟨r, off, none⟩ else ⟨r, off + l.getD 0 * te'.size, none⟩)) (hh.getD N - l.getD 0) (m.getD N - l.getD 0))) w := fun g1 g2 g3 g4 => by
      have hbs := run_bounds (P := P) (w := w) (isS := false) b1 b2 b3 g1 g2 g3 g4
      simp only [execOp, ho, hau, Instr.sliceAt, Instr.sureAddr, Sem.run_bind, run_underlying hd, Sem.run_pure, Result.andThen_ok, hbs, (TO el te' hel).size]
      congr 3
      split <;> simp [Addr.add_mid]
    unfold cutV at hv
    cases m with
    | none =>
      dsimp only at hv
      cases hb : Nat.ble (l.getD 0) (hh.getD N) && Nat.ble (hh.getD N) N with
      | false => rw [hb] at hv; cases hv
      | true =>
        rw [hb, cond_true] at hv
        cases hv
        simp only [Bool.and_eq_true, Nat.ble_eq] at hb
        refine ⟨_, ?_, run hb.1 (.inl (by simpa using hb.2)) (by simp) (by simp)⟩
        simp only [Option.getD_none, beq_dec]
        by_cases hc : N = l.getD 0
        · rw [if_pos hc, decide_eq_true hc]; exact .sl id off _ _ _ r mm hi
        · rw [if_neg hc, decide_eq_false hc]; exact .sl id _ _ _ _ r mm hi
    | some mv =>
      dsimp only at hv
      cases hb : Nat.ble (l.getD 0) (hh.getD N) && Nat.ble (hh.getD N) mv && Nat.ble mv N && hh.isSome with
      | false => rw [hb] at hv; cases hv
      | true =>
        rw [hb, cond_true] at hv
        cases hv
        simp only [Bool.and_eq_true, Nat.ble_eq] at hb
        refine ⟨_, ?_, run hb.1.1.1 (.inl (by simpa using hb.1.1.2)) (by simpa using hb.1.2) (fun _ => hb.2)⟩
        simp only [Option.getD_some, beq_dec]
        by_cases hc : mv = l.getD 0
        · rw [if_pos hc, decide_eq_true hc]; exact .sl id off _ _ _ r mm hi
        · rw [if_neg hc, decide_eq_false hc]; exact .sl id _ _ _ _ r mm hi

def lenV (h : Hp) : V → Option Nat
  | .sl _ _ len _ _ => some len
  | .emp => some 0
  | .mp id => match h.get id with
    | some (.map es _) => some es.length
    | _ => none
  | _ => none
def lenFits : V → Option TypeDesc → Bool
  | .sl _ _ _ _ _, some (.slice _) => true
  | .emp, some (.slice _) => true
  | .mp _, some (.map _ _) => true
  | _, _ => false
theorem good_len {t : TypeId} {x : Operand} {v : V} {k : Nat} (ho : o.op = .call { callee := .builtin .len, args := #[x], argTypes := #[t] }) (hx : ev e x = some v) (hf : lenFits v (P.underlying t) = true) (hl : lenV h v = some k) : Good P o e n h lo (.sc (.int .i64 (k : Int)), n, h, lo) :=
  good_value fun ι a w H E => by
    refine ⟨.int .i64 k, .sc _, ?_⟩
    have hv := ev_rel E hx
    cases hd : P.underlying t with
    | none => rw [hd] at hf; unfold lenFits at hf; split at hf <;> simp_all
    | some d =>
      rw [hd] at hf
      unfold lenFits at hf
      generalize hau : a.eval x = u at hv
      split at hf
      · rename_i h2; cases h2; cases hl; cases hv <;> simp [execOp, ho, resolve, invoke, builtin, hau, Builtin.len_, run_underlying hd, goInt]
      · rename_i h2; cases h2; cases hl; cases hv; simp [execOp, ho, resolve, invoke, builtin, hau, Builtin.len_, run_underlying hd, goInt]
      · rename_i h2
        cases h2
        rw [lenV] at hl
        split at hl
        · rename_i es clk hb
          cases hl
          obtain ⟨r, m, hi, E', hE, hEl, _⟩ := H.blk _ _ hb
          cases hv with
          | mp _ r' m' h' =>
            rw [hi] at h'
            cases h'
            have hsz : E'.size = es.length := by simpa using hEl
            have hobj : (getObj r).run P w = .ok (.map E' clk) w := by simp [getObj, Sem.run, hE]
            simp [execOp, ho, resolve, invoke, builtin, hau, Builtin.len_, run_underlying hd, hobj, goInt, hsz]
        · cases hl
      · cases hf
theorem good_cap {t : TypeId} {x : Operand} {id off len k c : Nat} (ho : o.op = .call { callee := .builtin .cap, args := #[x], argTypes := #[t] }) (hx : ev e x = some (.sl id off len k (some c))) (hf : lenFits (.sl id off len k (some c)) (P.underlying t) = true) : Good P o e n h lo (.sc (.int .i64 (c : Int)), n, h, lo) :=
  good_value fun ι a w H E => by
    refine ⟨.int .i64 c, .sc _, ?_⟩
    have hv := ev_rel E hx
    cases hd : P.underlying t with
    | none => rw [hd] at hf; cases hf
    | some d =>
      rw [hd] at hf
      generalize hau : a.eval x = u at hv
      cases d <;> simp [lenFits] at hf
      cases hv
      simp [execOp, ho, resolve, invoke, builtin, hau, Builtin.cap_, run_underlying hd, goInt]
theorem good_makeFunc {f : FuncId} {caps : Array Operand} {cs : List V} (ho : o.op = .makeFunc (.func f) #[] caps) (hc : evs e caps.toList = some cs) : Good P o e n h lo (.fn f cs, n, h, lo) :=
  good_value fun ι a w H E => ⟨.func (.func f) #[] (caps.map a.eval), VRel.fn' (by have := evs_rel E hc; simpa using this), by simp [execOp, ho, Instr.makeFunc]⟩
def noIface : Option TypeDesc → Bool
  | some (.interface _) => false
  | some _ => true
  | none => false
theorem good_makeIface {t : TypeId} {x : Operand} {v : V} (ho : o.op = .makeInterface t x) (hx : ev e x = some v) (hd : noIface (P.underlying t) = true) : Good P o e n h lo (.ifc t v, n, h, lo) :=
  good_value fun ι a w H E => by
    refine ⟨.iface t (a.eval x), .ifc t v _ (ev_rel E hx), ?_⟩
    cases hu : P.underlying t with
    | none => rw [hu] at hd; cases hd
    | some d =>
      rw [hu] at hd
      simp only [execOp, ho, Instr.makeInterface, Sem.run_bind, run_underlying hu, Result.andThen_ok]
      cases d <;> first | (simp [noIface] at hd; done) | simp
theorem good_makeSlice {t el : TypeId} {x y : Operand} {te te' : TE} {q1 q2 : IntKind} {l c : Nat} (TO : TabOk P tab) (ho : o.op = .makeSlice t x y) (ht : tlook tab t = some te) (hs : te.sh = .sl el) (hel : tlook tab el = some te') (hk2 : Nat.beq te'.zero.length te'.size = true)
    (hx : ev e x = some (.sc (.int q1 (l : Int)))) (hy : ev e y = some (.sc (.int q2 (c : Int)))) (hlc : Nat.ble l c = true) (hcb : Nat.ble c 1000000 = true) (hb : Nat.ble te'.bytes 65536 = true) :
    Good P o e n h lo (.sl n 0 l te'.size (some c), n + 1, h.set n (.cells ((zs te' c).map .sc) false), lo) :=
  good_new fun ι a w H E h0 => by
    have hu := (TO t te ht).slice hs
    obtain ⟨z, hz1, hz2, i, hi1, hi2, hi3, hi4⟩ := (TO el te' hel).zero w
    have hk2 := Nat.eq_of_beq_eq_true hk2
    have hlc := Nat.le_of_ble_eq_true hlc
    have hcb := Nat.le_of_ble_eq_true hcb
    have hb := Nat.le_of_ble_eq_true hb
    have e1 := tv_rel (ev_rel E hx) _ rfl
    have e2 := tv_rel (ev_rel E hy) _ rfl
    have w1 : IntKind.i64.wrap (l : Int) = (l : Int) := Ab.wrap_i64 ⟨by omega, by omega⟩
    have w2 : IntKind.i64.wrap (c : Int) = (c : Int) := Ab.wrap_i64 ⟨by omega, by omega⟩
    have hbc : te'.bytes * c ≤ 65536 * 1000000 := Nat.mul_le_mul hb hcb
    have hbc2 : (te'.bytes : Int) * (c : Int) ≤ 281474976710656 := by
      have : ((te'.bytes * c : Nat) : Int) ≤ 65536000000 := by omega
      rw [Int.natCast_mul] at this; omega
    have hti : (typeInfo el).run P w = .ok i w := by simp [typeInfo, hi1]
    obtain ⟨C, hC⟩ : ∃ C, (Array.range (c * te'.size)).map (fun j => z.cells[j % z.cells.size]!) = C := ⟨_, rfl⟩
    have hCl : C.toList = zs te' c := by rw [← hC]; exact zs_eq hz2 hk2 c
    obtain ⟨f1, f2, f3, f4, f5, f6⟩ := alloc_facts w (.cells C el)
    refine ⟨.slice (some ⟨w.heap.size, 0, none⟩) l c, _, w.alloc (.cells C el), C.size, ?_, f1, f2, f3, f4, f5, f6, fun ι' hle hi => ⟨.sl n 0 l te'.size c _ _ hi, brel_new f6 (by rw [hCl]; exact LRel.scs _)⟩⟩
    have n1 : ¬ ((decide ((c : Int) < 0) || decide ((te'.bytes : Int) * (c : Int) > 2 ^ 48)) = true ∨ (l : Int) < 0 ∨ (l : Int) > (c : Int)) := by
      rintro (h1 | h1 | h1)
      · simp only [Bool.or_eq_true, decide_eq_true_eq] at h1
        omega
      · omega
      · omega
    simp only [execOp, ho, e1, e2]
    simp only [Instr.makeSlice, Sem.run_bind, run_underlying hu, Result.andThen_ok, asInt, asIntOf, Sem.run_pure, hti, hi4, w1, w2]
    rw [if_neg (by simpa using n1)]
    simp only [Sem.run_bind, run_askRoom, Result.andThen_ok, (TO el te' hel).size, Int.toNat_natCast, Sem.run_pure]
    by_cases h00 : c * te'.size = 0
    · rw [if_pos h00]
      have hr0 : Array.range (c * te'.size) = #[] := Array.eq_empty_of_size_eq_zero (by simpa using h00)
      have hC0 : C = #[] := by rw [← hC, hr0, Array.map_empty]
      simp [hr0, newRow, newObj, Sem.run, hC0]
    · rw [if_neg h00]
      simp [hz1, hC, newRow, newObj, Sem.run]
end
end Go.Proofs.YtamnhhjcgloceaaGreat.Rn

namespace Go.Proofs.YtamnhhjcgloceaaGreat.Rn
set_option linter.unusedVariables false
open Go.RowKit
open Go.Proofs.YtamnhhjcgloceaaGreat.Ab (TE TTab tlook TabOk TFacts win setW setW_get win_get Sh)

def srcV (h : Hp) (size : Nat) : V → Option (Nat × List V)
  | .sl id off len k _ => match h.get id with
    | some (.cells cs _) => cond (Nat.beq k size && Nat.beq (win cs off (len * k)).length (len * k) && (win cs off (len * k)).all one) (some (len, win cs off (len * k))) none
    | _ => none
  | .emp => some (0, [])
  | .sc (.slice none 0 0) => some (0, [])
  | .sc (.string s) => cond (Nat.beq size 1) (some (s.size, (byteCells s).map .sc)) none
  | _ => none
def srcFits : V → Option TypeDesc → Bool
  | .sl _ _ _ _ _, some (.slice _) => true
  | .emp, some (.slice _) => true
  | .sc (.slice none 0 0), some (.slice _) => true
  | .sc (.string _), some .string => true
  | _, _ => false
section
variable {P : Program} {tab : TTab} {o : Oper} {e : Ev} {n : Nat} {h : Hp} {lo : Nat}
theorem sl_inv {ι : Io} {id off len k : Nat} {cap : Option Nat} {u : Value} (hv : VRel ι (.sl id off len k cap) u) {r m : Nat} (hi : ι id = some (r, m)) : ∃ c, u = .slice (some ⟨r, off, none⟩) len c ∧ (∀ c0, cap = some c0 → c = c0) ∧ (cap = none → off + c * k = m ∧ len ≤ c) := by
  cases hv with
  | sl _ _ _ _ c r' m' h' => rw [hi] at h'; cases h'; exact ⟨c, rfl, fun c0 h => by cases h; rfl, fun h => by cases h⟩
  | slu _ _ _ _ c r' m' h' h1 h2 => rw [hi] at h'; cases h'; exact ⟨c, rfl, fun c0 h => (by cases h), fun _ => ⟨h1, h2⟩⟩
theorem cells_win {ι : Io} {w : World} {r m off l : Nat} {cs : List V} {more : Bool} (hB : BRel ι w (.cells cs more) r m) (hl : (win cs off l).length = l) : ∃ vs, vs.length = l ∧ LRel ι (win cs off l) vs ∧ ∀ (j : Nat) (u : Value), vs[j]? = some u → w.cell? ⟨r, off + j, none⟩ = some u := by
  obtain ⟨C, tt, fz, hC, hfz, hsz, hle, hmo, hr⟩ := hB
  have hrel := hr.win off l
  refine ⟨_, by rw [hrel.1, hl], hrel, fun j u hj => ?_⟩
  have h6 := win_get rfl hj
  rw [List.getElem?_take] at h6
  split at h6
  · simp [World.cell?, hC]; simpa using h6
  · cases h6
theorem src_good {ι : Io} {w : World} {size m : Nat} {x : V} {u : Value} {W : List V} {tx : TypeId} (H : HRel ι h.get w) (hv : VRel ι x u) (hs : srcV h size x = some (m, W)) (hf : srcFits x (P.underlying tx) = true) : ∃ news, LRel ι W news ∧ Src P size tx u m news w := by
  cases hd : P.underlying tx with
  | none => rw [hd] at hf; unfold srcFits at hf; split at hf <;> simp_all
  | some d =>
    rw [hd] at hf
    unfold srcFits at hf
    split at hf
    · rename_i id off len k cap el h2
      cases h2
      rw [srcV] at hs
      split at hs
      · rename_i cs more hb
        cases hc : Nat.beq k size && Nat.beq (win cs off (len * k)).length (len * k) && (win cs off (len * k)).all one with
        | false => rw [hc] at hs; cases hs
        | true =>
          rw [hc, cond_true] at hs
          cases hs
          simp only [Bool.and_eq_true] at hc
          have hk := Nat.eq_of_beq_eq_true hc.1.1
          subst hk
          obtain ⟨r, mm, hi, hB⟩ := H.blk _ _ hb
          obtain ⟨c, rfl, _, _⟩ := sl_inv hv hi
          obtain ⟨vs, h3, h4, h5⟩ := cells_win hB (Nat.eq_of_beq_eq_true hc.1.2)
          exact ⟨vs, h4, Src.ofSlice w hd ⟨r, _, none⟩ _ c vs h3 (fun j u hj => by rw [Addr.add_mid]; exact h5 j u hj) (all_one h4 hc.2)⟩
      · cases hs
    · rename_i h2
      cases h2
      cases hs
      cases hv with
      | emp r o c => exact ⟨[], .nil, Src.ofSlice w hd ⟨r, o, none⟩ 0 c [] (by simp) (by simp) (by simp)⟩
    · rename_i h2
      cases h2
      cases hs
      cases hv
      exact ⟨[], .nil, Src.ofNil w hd 0⟩
    · rename_i s h2
      cases h2
      rw [srcV] at hs
      cases hc : Nat.beq size 1 with
      | false => rw [hc] at hs; cases hs
      | true =>
        rw [hc, cond_true] at hs
        cases hs
        have := Nat.eq_of_beq_eq_true hc
        subst this
        cases hv
        exact ⟨byteCells s, LRel.scs _, Src.ofString w hd s⟩
    · cases hf
theorem grow_run {w : World} {t tx el : TypeId} {te te' : TE} (Ft : TFacts P t te) (hs : te.sh = .sl el) (Fe : TFacts P el te') (hk2 : te'.zero.length = te'.size) {base : Option Addr} {len c m : Nat} {olds news : List Value} {u : Value} {ty : TypeId}
    (hol : olds.length = len * te'.size) (hold : (Builtin.firstCells te'.size len (.slice base len c)).run P w.drew = .ok olds.toArray w.drew) (S : Src P te'.size tx u m news w) (hg : c < len + m) (hb : (len + m) * te'.bytes ≤ 140737488355328) (hn : len + m ≤ 1000000000) :
    ∃ w' gc C, (Builtin.append_ #[t, tx] ty #[.slice base len c, u]).run P w = .ok (.slice (some ⟨w.heap.size, 0, none⟩) (len + m) gc) w' ∧ w'.os = w.os ∧ w'.tape = w.tape ∧ w'.output = w.output ∧ w.heap.size < w'.heap.size ∧ (∀ r, r < w.heap.size → w'.heap[r]? = w.heap[r]?) ∧
      w'.heap[w.heap.size]? = some (.cells C el (0, 0)) ∧ C.size = gc * te'.size ∧ len + m ≤ gc ∧ C.toList.take (olds.length + news.length) = olds ++ news := by
  have hu := Ft.slice hs
  obtain ⟨z, _, hz2, i, hi1, hi2, hi3, hi4⟩ := Fe.zero w
  rw [← hi3] at hold S hol
  have hr := run_append_grow_src (P := P) w t tx ty el i z hu hi1 hi2 base len c olds hold u m news S hg (by omega) (growslice_fits (by omega) (by rw [hi4]; exact hb))
  have hge := grownCap_ge w (len + m) c el
  obtain ⟨f1, f2, f3, f4, f5, f6⟩ := alloc_facts w.drew (.cells ((olds ++ news).toArray ++ Builtin.zeroCells z.cells (grownCap w (len + m) c el - (len + m))) el)
  refine ⟨_, _, _, hr, f1, f2, f3, f4, f5, f6, ?_, hge, ?_⟩
  · have hzs : z.cells.size = te'.size := by rw [← Array.length_toList, hz2, hk2]
    have hnl := S.newsLen
    simp only [Array.size_append, List.size_toArray, List.length_append, size_zeroCells, hol, hnl, hzs, hi3, ← Nat.add_mul]
    congr 1
    omega
  · rw [← List.length_append, Array.toList_append]
    exact List.take_left
def appR (te' : TE) (n : Nat) (h : Hp) (lo : Nat) (s : V) (m : Nat) (W : List V) : R := match s with
  | .sc (.slice none 0 0) => cond (Nat.beq m 0) (some (s, n, h, lo)) (cond (Nat.ble (m * te'.bytes) 140737488355328 && Nat.ble m 1000000000) (some (.sl n 0 m te'.size none, n + 1, h.set n (.cells W true), lo)) none)
  | .sl id off len k cap => cond (Nat.beq k te'.size && (Nat.ble ((len + m) * te'.bytes) 140737488355328 && Nat.ble (len + m) 1000000000)) (match h.get id with
    | some (.cells cs more) => match cap with
      | some c => cond (Nat.beq m 0 && Nat.ble len c) (some (s, n, h, lo)) (cond (Nat.ble (len + m) c)
          (cond (Nat.ble (off + len * k + W.length) cs.length) (some (.sl id off (len + m) k (some c), n, h.set id (.cells (setW cs (off + len * k) W) more), lmin id lo)) none)
          (cond (Nat.beq (win cs off (len * k)).length (len * k)) (some (.sl n 0 (len + m) k none, n + 1, h.set n (.cells (win cs off (len * k) ++ W) true), lo)) none))
      | none => cond (Nat.beq m 0) (some (s, n, h, lo)) (cond (Nat.beq off 0 && Nat.beq cs.length (len * k) && more) (some (.sl n 0 (len + m) k none, n + 1, (h.del id).set n (.cells (cs ++ W) true), lmin id lo)) none)
    | _ => none) none
  | _ => none
theorem src_zero {size : Nat} {tx : TypeId} {u : Value} {news : List Value} {w : World} (S : Src P size tx u 0 news w) : news = [] := List.eq_nil_of_length_eq_zero (by simpa using S.newsLen)
theorem app_zero {t tx el ty : TypeId} {te te' : TE} {w : World} (Ft : TFacts P t te) (hs : te.sh = .sl el) (Fe : TFacts P el te') {base : Option Addr} {len c : Nat} {u : Value} {news : List Value} (S : Src P te'.size tx u 0 news w) (hl : len ≤ c) : (Builtin.append_ #[t, tx] ty #[.slice base len c, u]).run P w = .ok (.slice base len c) w := by
  have hu := Ft.slice hs
  have := src_zero S
  subst this
  rcases S.kind with ⟨e', hk⟩ | hk <;> cases base <;> simp [Builtin.append_, run_underlying hu, run_underlying hk, Fe.size, S.len, hl, S.cells, storeCells]
theorem good_append {t tx el : TypeId} {x y : Operand} {te te' : TE} {s v : V} {m : Nat} {W : List V} {r : V × Nat × Hp × Nat} (TO : TabOk P tab) (ho : o.op = .call { callee := .builtin .append, args := #[x, y], argTypes := #[t, tx] }) (ht : tlook tab t = some te) (hs : te.sh = .sl el) (hel : tlook tab el = some te') (hk2 : Nat.beq te'.zero.length te'.size = true)
    (hx : ev e x = some s) (hy : ev e y = some v) (hsrc : srcV h te'.size v = some (m, W)) (hf : srcFits v (P.underlying tx) = true) (hr : appR te' n h lo s m W = some r) : Good P o e n h lo r := by
  have hk2 := Nat.eq_of_beq_eq_true hk2
  have run : ∀ (a : Act) (w w' : World) (u' : Value), (Builtin.append_ #[t, tx] o.type #[a.eval x, a.eval y]).run P w = .ok u' w' → (execOp a.eval o).run P w = .ok (.value u') w' := fun a w w' u' hh => by
    simp [execOp, ho, resolve, invoke, builtin, hh]
  have zero : m = 0 → (∀ ι a w, HRel ι h.get w → ERel ι e a → ∃ base len c, a.eval x = .slice base len c ∧ len ≤ c) → Good P o e n h lo (s, n, h, lo) := fun hm hh => by
    subst hm
    refine good_value fun ι a w H E => ?_
    obtain ⟨base, len, c, h1, h2⟩ := hh ι a w H E
    obtain ⟨news, h3, S⟩ := src_good H (ev_rel E hy) hsrc hf
    refine ⟨a.eval x, ev_rel E hx, run a w w _ ?_⟩
    rw [h1]
    exact app_zero (TO t te ht) hs (TO el te' hel) S h2
  unfold appR at hr
  split at hr
  · -- nil
    cases hm : Nat.beq m 0 with
    | true =>
      rw [hm] at hr
      cases hr
      exact zero (Nat.eq_of_beq_eq_true hm) fun ι a w H E => ⟨none, 0, 0, tv_rel (ev_rel E hx) _ rfl, Nat.le_refl _⟩
    | false =>
      rw [hm, cond_false] at hr
      have hm := Ab.of_beq_no hm
      cases hb : Nat.ble (m * te'.bytes) 140737488355328 && Nat.ble m 1000000000 with
      | false => rw [hb] at hr; cases hr
      | true =>
        rw [hb] at hr
        cases hr
        simp only [Bool.and_eq_true, Nat.ble_eq] at hb
        refine good_new fun ι a w H E h0 => ?_
        obtain ⟨news, h3, S⟩ := src_good H (ev_rel E hy) hsrc hf
        have e1 := tv_rel (ev_rel E hx) _ rfl
        obtain ⟨w', gc, C, g1, g2, g3, g4, g5, g6, g7, g8, g9, g10⟩ := grow_run (base := none) (len := 0) (c := 0) (olds := []) (ty := o.type) (TO t te ht) hs (TO el te' hel) hk2 (by simp) (run_firstCells_none w.drew te'.size 0 0 0) S (by omega) (by simpa using hb.1) (by omega)
        refine ⟨_, _, w', gc * te'.size, run a w w' _ (by rw [e1]; exact g1), g2, g3, g4, g5, g6, g7, fun ι' hle hi => ⟨?_, ?_⟩⟩
        · rw [Nat.zero_add]; exact .slu n 0 m te'.size gc _ _ hi (by omega) (by omega)
        · have hwl : W.length ≤ gc * te'.size := by
            rw [← h3.1, S.newsLen]; exact Nat.mul_le_mul_right _ (by omega)
          refine ⟨C, el, (0, 0), g7, fun j _ hj => by dsimp only at hj; omega, g8, hwl, (fun hh => by cases hh), ?_⟩
          simp only [List.length_nil, Nat.zero_add, List.nil_append] at g10
          rw [← h3.1, g10]
          exact h3.mono hle
  · rename_i id off len k cap
    cases hb0 : Nat.beq k te'.size && (Nat.ble ((len + m) * te'.bytes) 140737488355328 && Nat.ble (len + m) 1000000000) with
    | false => rw [hb0] at hr; cases hr
    | true =>
      rw [hb0, cond_true] at hr
      simp only [Bool.and_eq_true, Nat.ble_eq] at hb0
      obtain ⟨hk, hb1, hb2⟩ := hb0
      have hk := Nat.eq_of_beq_eq_true hk
      subst hk
      split at hr
      · rename_i cs more hb
        cases cap with
        | some c =>
          dsimp only at hr
          cases hz : Nat.beq m 0 && Nat.ble len c with
          | true =>
            rw [hz] at hr
            cases hr
            simp only [Bool.and_eq_true, Nat.ble_eq] at hz
            refine zero (Nat.eq_of_beq_eq_true hz.1) fun ι a w H E => ?_
            obtain ⟨rr, mm, hi, _⟩ := H.blk _ _ hb
            obtain ⟨c', h1, h2, _⟩ := sl_inv (ev_rel E hx) hi
            have := h2 c rfl
            subst this
            exact ⟨_, _, _, h1, hz.2⟩
          | false =>
            rw [hz, cond_false] at hr
            cases hroom : Nat.ble (len + m) c with
            | true =>
              rw [hroom, cond_true] at hr
              cases hfit : Nat.ble (off + len * te'.size + W.length) cs.length with
              | false => rw [hfit] at hr; cases hr
              | true =>
                rw [hfit] at hr
                cases hr
                have hfit := Nat.le_of_ble_eq_true hfit
                have hroom := Nat.le_of_ble_eq_true hroom
                refine good_write hb fun ι a w rr mm H E hi hB => ?_
                obtain ⟨c', h1, h2, _⟩ := sl_inv (ev_rel E hx) hi
                have := h2 c rfl
                subst this
                obtain ⟨news, h3, S⟩ := src_good H (ev_rel E hy) hsrc hf
                obtain ⟨C, tt, fz, hC, hfz, hsz, hle2, hmo, hl⟩ := hB
                have hst := run_storeV (P := P) (off := off + len * te'.size) hC hfz hsz news (by rw [h3.1]; omega) S.one
                obtain ⟨g1, g2, g3, g4, g5, g6⟩ := setCells_spec news (off + len * te'.size) C w hC (by rw [h3.1]; omega)
                have hu := (TO t te ht).slice hs
                refine ⟨.slice (some ⟨rr, off, none⟩) (len + m) c', w.setCells rr (off + len * te'.size) news, .inl (run a w _ _ ?_), .sl id off (len + m) te'.size c' rr mm hi, g4, g5, g6, by rw [g3]; exact Nat.le_refl _, g2, brel_set hC hfz hsz hle2 hmo hl h3 (by omega)⟩
                rw [h1]
                rcases S.kind with ⟨e', hk⟩ | hk <;> simp [Builtin.append_, run_underlying hu, run_underlying hk, (TO el te' hel).size, S.len, hroom, S.cells, Addr.add_mid, hst]
            | false =>
              rw [hroom, cond_false] at hr
              have hnr : c < len + m := by
                rcases Nat.lt_or_ge c (len + m) with h1 | h1
                · exact h1
                · rw [Nat.ble_eq_true_of_le h1] at hroom; cases hroom
              cases hwn : Nat.beq (win cs off (len * te'.size)).length (len * te'.size) with
              | false => rw [hwn] at hr; cases hr
              | true =>
                rw [hwn] at hr
                cases hr
                have hwn := Nat.eq_of_beq_eq_true hwn
                refine good_new fun ι a w H E h0 => ?_
                obtain ⟨rr, mm, hi, hB⟩ := H.blk _ _ hb
                obtain ⟨c', h1, h2, _⟩ := sl_inv (ev_rel E hx) hi
                have := h2 c rfl
                subst this
                obtain ⟨news, h3, S⟩ := src_good H (ev_rel E hy) hsrc hf
                obtain ⟨olds, q1, q2, q3⟩ := cells_win hB hwn
                obtain ⟨w', gc, C, g1, g2, g3, g4, g5, g6, g7, g8, g9, g10⟩ := grow_run (ty := o.type) (TO t te ht) hs (TO el te' hel) hk2 q1 (run_firstCells_some w.drew te'.size len ⟨rr, off, none⟩ len c' olds q1 (fun j u hj => by rw [Addr.add_mid]; exact q3 j u hj)) S hnr hb1 hb2
                refine ⟨_, _, w', gc * te'.size, run a w w' _ (by rw [h1]; exact g1), g2, g3, g4, g5, g6, g7, fun ι' hle hi => ⟨.slu n 0 _ te'.size gc _ _ hi (by omega) g9, ?_⟩⟩
                have hwl : (win cs off (len * te'.size) ++ W).length ≤ gc * te'.size := by
                  rw [List.length_append, ← h3.1, S.newsLen, hwn, ← Nat.add_mul]; exact Nat.mul_le_mul_right _ g9
                refine ⟨C, el, (0, 0), g7, fun j _ hj => by dsimp only at hj; omega, g8, hwl, (fun hh => by cases hh), ?_⟩
                rw [List.length_append, ← q2.1, ← h3.1, g10]
                exact (q2.append h3).mono hle
        | none =>
          dsimp only at hr
          cases hz : Nat.beq m 0 with
          | true =>
            rw [hz] at hr
            cases hr
            refine zero (Nat.eq_of_beq_eq_true hz) fun ι a w H E => ?_
            obtain ⟨rr, mm, hi, _⟩ := H.blk _ _ hb
            obtain ⟨c', h1, _, h2⟩ := sl_inv (ev_rel E hx) hi
            exact ⟨_, _, _, h1, (h2 rfl).2⟩
          | false =>
            rw [hz, cond_false] at hr
            cases hc : Nat.beq off 0 && Nat.beq cs.length (len * te'.size) && more with
            | false => rw [hc] at hr; cases hr
            | true =>
              rw [hc] at hr
              cases hr
              simp only [Bool.and_eq_true] at hc
              obtain ⟨⟨hc1, hc2⟩, hmore⟩ := hc
              have hc1 := Nat.eq_of_beq_eq_true hc1
              have hc2 := Nat.eq_of_beq_eq_true hc2
              subst hc1 hmore
              refine ⟨?_, fun ι a w pre K Q hK => ?_⟩
              · have := lmin_l id lo; have := lmin_r id lo
                refine ⟨by dsimp only; omega, by dsimp only; omega, fun h => by dsimp only; omega, fun hl j hj => ?_, fun hbd j b hj => ?_, fun j hj hn => ?_⟩
                · dsimp only at hj ⊢; rw [Tr.get_set, if_neg (by omega), Tr.get_del, if_neg (by omega)]
                · dsimp only at hj ⊢
                  rw [Tr.get_set] at hj
                  split at hj
                  · omega
                  · rw [Tr.get_del] at hj
                    split at hj
                    · cases hj
                    · have := hbd j b hj; omega
                · dsimp only
                  rw [Tr.get_set, if_neg (by omega), Tr.get_del]
                  split
                  · rfl
                  · exact hn
              · have H := pre.heap
                have E := pre.env
                have h0 := pre.free n (Nat.le_refl _)
                obtain ⟨rr, mm, hi, hB⟩ := H.blk _ _ hb
                obtain ⟨c', h1, _, h2⟩ := sl_inv (ev_rel E hx) hi
                obtain ⟨h2, h2'⟩ := h2 rfl
                obtain ⟨news, h3, S⟩ := src_good H (ev_rel E hy) hsrc hf
                have hwin : win cs 0 (len * te'.size) = cs := by unfold Ab.win; rw [List.drop_zero, ← hc2, List.take_length]
                have hne : id ≠ n := fun hh => by rw [hh, h0] at hi; cases hi
                have eget : ((h.del id).set n (.cells (cs ++ W) true)).get = fun j => if j = n then some (.cells (cs ++ W) true) else if j = id then none else h.get j := by
                  funext j; rw [Tr.get_set]; split
                  · rfl
                  · rw [Tr.get_del]
                -- the state behind it, wherever the row lies
                have fin : ∀ (r2 gc : Nat) (w' : World), (Builtin.append_ #[t, tx] o.type #[a.eval x, a.eval y]).run P w = .ok (.slice (some ⟨r2, 0, none⟩) (len + m) gc) w' → w'.os = w.os → w'.tape = w.tape → w'.output = w.output → w.heap.size ≤ w'.heap.size → (∀ r', r' < w.heap.size → r' ≠ rr → w'.heap[r']? = w.heap[r']?) →
                    (r2 = rr ∨ w.heap.size ≤ r2) → len + m ≤ gc → (∀ ι', Io.le ι ι' → BRel ι' w' (.cells (cs ++ W) true) r2 (gc * te'.size)) → K (a.put o.dst (.slice (some ⟨r2, 0, none⟩) (len + m) gc)) w' := fun r2 gc w' q1 q2 q3 q4 q5 q6 q7 q8 q9 => by
                  have hle := le_updI (ι := ι) (id := n) (r := r2) (m := gc * te'.size) h0
                  refine hK (updI ι n r2 (gc * te'.size)) _ w' (.slu n 0 _ te'.size gc r2 (gc * te'.size) (by simp [updI]) (by omega) q8) ?_ ?_
                  · dsimp only
                    rw [eget]
                    have live : ∀ j b, j ≠ n → j ≠ id → h.get j = some b → ∃ r m, ι j = some (r, m) ∧ BRel ι w b r m ∧ r ≠ rr := fun j b j1 j2 jb => by
                      obtain ⟨r, m, s1, s2⟩ := H.blk j b jb
                      refine ⟨r, m, s1, s2, ?_⟩
                      rintro rfl
                      exact j2 (H.inj j id b _ r m mm jb hb s1 hi)
                    refine ⟨fun j b hj => ?_, fun i j b1 b2 r m1 m2 s1 s2 s3 s4 => ?_⟩
                    · try dsimp only at hj
                      split at hj
                      · rename_i hjn; subst hjn; cases hj; exact ⟨r2, _, by simp [updI], q9 _ hle⟩
                      · rename_i hjn
                        split at hj
                        · cases hj
                        · rename_i hji
                          obtain ⟨r, m, s1, s2, s3⟩ := live j b hjn hji hj
                          exact ⟨r, m, by simp [updI, hjn, s1], s2.mono hle (q6 r s2.lt s3)⟩
                    · try dsimp only at s1 s2
                      unfold updI at s3 s4
                      split at s1 <;> split at s2
                      · omega
                      · rename_i e1 e2
                        split at s2
                        · cases s2
                        · rename_i e3
                          rw [if_pos e1] at s3; rw [if_neg e2] at s4
                          cases s3
                          obtain ⟨r', m', u1, u2, u3⟩ := live j b2 e2 e3 s2
                          rw [s4] at u1; cases u1
                          have := u2.lt
                          rcases q7 with q7 | q7
                          · exact absurd q7 u3
                          · omega
                      · rename_i e1 e2
                        split at s1
                        · cases s1
                        · rename_i e3
                          rw [if_neg e1] at s3; rw [if_pos e2] at s4
                          cases s4
                          obtain ⟨r', m', u1, u2, u3⟩ := live i b1 e1 e3 s1
                          rw [s3] at u1; cases u1
                          have := u2.lt
                          rcases q7 with q7 | q7
                          · exact absurd q7 u3
                          · omega
                      · rename_i e1 e2
                        split at s1
                        · cases s1
                        · split at s2
                          · cases s2
                          · rw [if_neg e1] at s3; rw [if_neg e2] at s4
                            exact H.inj i j b1 b2 r m1 m2 s1 s2 s3 s4
                  · dsimp only
                    rw [eget]
                    refine ⟨q2, q3, q4, q5, by omega, fun j hj => by unfold updI; rw [if_neg (by omega)], fun r' hr' hn => q6 r' hr' ?_, fun j b r m s1 s2 s3 => ?_⟩
                    · rintro rfl; exact hn id _ mm hb hi
                    · try dsimp only at s1
                      unfold updI at s2
                      split at s1
                      · rename_i hjn
                        rw [if_pos hjn] at s2
                        cases s2
                        rcases q7 with q7 | q7
                        · subst q7; exact ⟨id, _, mm, hb, hi⟩
                        · omega
                      · rename_i hjn
                        split at s1
                        · cases s1
                        · rw [if_neg hjn] at s2; exact ⟨j, b, m, s1, s2⟩
                have hwl : ∀ gc, len + m ≤ gc → (cs ++ W).length ≤ gc * te'.size := fun gc hg => by
                  rw [List.length_append, ← h3.1, S.newsLen, hc2, ← Nat.add_mul]; exact Nat.mul_le_mul_right _ hg
                unfold Oper.wp
                by_cases hroom : len + m ≤ c'
                · obtain ⟨C, tt, fz, hC, hfz, hsz, hle2, hmo, hl⟩ := hB
                  have hmc : mm = c' * te'.size := by omega
                  have hnl : len * te'.size + news.length ≤ C.size := by rw [S.newsLen, hsz, hmc, ← Nat.add_mul]; exact Nat.mul_le_mul_right _ hroom
                  have hst := run_storeV (P := P) (off := len * te'.size) hC hfz hsz news (by omega) S.one
                  obtain ⟨g1, g2, g3, g4, g5, g6⟩ := setCells_spec news (len * te'.size) C w hC hnl
                  have hu := (TO t te ht).slice hs
                  have hrun : (Builtin.append_ #[t, tx] o.type #[a.eval x, a.eval y]).run P w = .ok (.slice (some ⟨rr, 0, none⟩) (len + m) c') (w.setCells rr (len * te'.size) news) := by
                    rw [h1]
                    rcases S.kind with ⟨e', hk⟩ | hk <;> simp [Builtin.append_, run_underlying hu, run_underlying hk, (TO el te' hel).size, S.len, hroom, S.cells, Addr.add_mid, hst]
                  rw [run a w _ _ hrun, Oper.upon_value]
                  refine fin rr c' _ hrun g4 g5 g6 (by rw [g3]; exact Nat.le_refl _) (fun r' _ h' => g2 r' h') (.inl rfl) hroom fun ι' hle => ⟨_, tt, fz, g1, by rw [← hmc]; exact hfz, ?_, hwl c' hroom, (fun hh => by cases hh), ?_⟩
                  · simp [Ab.setW]; omega
                  · have e5 : (setW C.toList (len * te'.size) news).take (cs ++ W).length = C.toList.take cs.length ++ news := by
                      unfold Ab.setW
                      rw [List.length_append, hc2, ← h3.1]
                      have : (C.toList.take (len * te'.size)).length = len * te'.size := by rw [List.length_take]; simp; omega
                      rw [List.take_append_of_le_length (by rw [List.length_append, this]; exact Nat.le_refl _), List.take_of_length_le (by rw [List.length_append, this]; exact Nat.le_refl _)]
                    rw [List.toList_toArray, e5]
                    exact ((hl.append h3)).mono hle
                · obtain ⟨olds, q1, q2, q3⟩ := cells_win hB (by rw [hwin]; exact hc2)
                  obtain ⟨w', gc, C, g1, g2, g3, g4, g5, g6, g7, g8, g9, g10⟩ := grow_run (ty := o.type) (TO t te ht) hs (TO el te' hel) hk2 q1 (run_firstCells_some w.drew te'.size len ⟨rr, 0, none⟩ len c' olds q1 (fun j u hj => by rw [Addr.add_mid]; exact q3 j u hj)) S (by omega) hb1 hb2
                  rw [← h1] at g1
                  rw [run a w _ _ g1, Oper.upon_value]
                  refine fin _ gc w' g1 g2 g3 g4 (by omega) (fun r' hr' _ => g6 r' hr') (.inr (Nat.le_refl _)) g9 fun ι' hle => ⟨C, el, (0, 0), g7, fun j _ hj => by dsimp only at hj; omega, g8, hwl gc g9, (fun hh => by cases hh), ?_⟩
                  rw [List.length_append, ← h3.1]
                  have hq : cs.length = olds.length := by rw [hc2, q1]
                  rw [hq, g10]
                  rw [hwin] at q2
                  exact (q2.append h3).mono hle
      · cases hr
  · cases hr
end
end Go.Proofs.YtamnhhjcgloceaaGreat.Rn

namespace Go.Proofs.YtamnhhjcgloceaaGreat.Rn
set_option linter.unusedVariables false
open Go.RowKit
open Go.Proofs.YtamnhhjcgloceaaGreat.Ab (TE TTab tlook TabOk TFacts win setW setW_get win_get Sh)

theorem pv_bind {P : Program} {α β : Type} : ∀ (s : Sem α) (f : α → Sem β), pv P (s >>= f) = (pv P s).bind fun a => pv P (f a)
  | .pure a, f => rfl
  | .program k, f => pv_bind (k P) f
  | .mark m k, f => pv_bind k f
  | .load _ _ _, f => rfl
  | .store _ _ _ _, f => rfl
  | .new _ _, f => rfl
  | .shape _ _, f => rfl
  | .freeze _ _ _, f => rfl
  | .frozen _ _, f => rfl
  | .getObj _ _, f => rfl
  | .setObj _ _ _, f => rfl
  | .choose _ _, f => rfl
  | .sys _ _, f => rfl
  | .halt _, f => rfl
theorem pv_bind_some {P : Program} {α β : Type} {s : Sem α} {f : α → Sem β} {b : β} (h : pv P (s >>= f) = some b) : ∃ a, pv P s = some a ∧ pv P (f a) = some b := by
  rw [pv_bind] at h
  cases hs : pv P s with
  | none => rw [hs] at h; cases h
  | some a => rw [hs] at h; exact ⟨a, rfl, h⟩

def SameKeys (E L : List MapEntry) : Prop := E.length = L.length ∧ ∀ (i : Nat) (a b : MapEntry), E[i]? = some a → L[i]? = some b → a.key = b.key
theorem SameKeys.tail {a b : MapEntry} {E L : List MapEntry} (h : SameKeys (a :: E) (b :: L)) : a.key = b.key ∧ SameKeys E L := ⟨h.2 0 a b rfl rfl, by have := h.1; simpa using this, fun i a' b' h1 h2 => h.2 (i + 1) a' b' (by simpa using h1) (by simpa using h2)⟩
def FoundAs (E : List MapEntry) (i : Nat) (r r' : Option (Nat × Value)) : Prop := match r with
  | none => r' = none
  | some p => ∃ m, i ≤ p.1 ∧ E[p.1 - i]? = some m ∧ r' = some (p.1, m.val)
theorem FoundAs.succ {E : List MapEntry} {a : MapEntry} {i : Nat} {r r' : Option (Nat × Value)} (h : FoundAs E (i + 1) r r') : FoundAs (a :: E) i r r' := by
  cases r with
  | none => exact h
  | some p =>
    obtain ⟨m, h1, h2, h3⟩ := h
    refine ⟨m, by omega, ?_, h3⟩
    rw [show p.1 - i = (p.1 - (i + 1)) + 1 by omega, List.getElem?_cons_succ]
    exact h2
theorem findNow_sim {kind : TypeDesc} {kv : Value} : ∀ {E L : List MapEntry} {i : Nat}, SameKeys E L → match Instr.findNow kind kv L i with
    | none => Instr.findNow kind kv E i = none
    | some r => ∃ r', Instr.findNow kind kv E i = some r' ∧ FoundAs E i r r'
  | [], [], i, _ => ⟨none, rfl, rfl⟩
  | [], _ :: _, i, h => by have := h.1; simp at this
  | _ :: _, [], i, h => by have := h.1; simp at this
  | a :: E, b :: L, i, h => by
    obtain ⟨h1, h2⟩ := h.tail
    have ih := findNow_sim (kind := kind) (kv := kv) (i := i + 1) h2
    rw [Instr.findNow, Instr.findNow, h1]
    cases hs : Instr.sameNow kind kv b.key with
    | none => rfl
    | some x =>
      cases x with
      | true => exact ⟨_, rfl, a, Nat.le_refl _, by simp, rfl⟩
      | false =>
        dsimp only
        cases hf : Instr.findNow kind kv L (i + 1) with
        | none => rw [hf] at ih; exact ih
        | some r =>
          rw [hf] at ih
          obtain ⟨r', h3, h4⟩ := ih
          exact ⟨r', h3, h4.succ⟩
theorem findAsking_sim {P : Program} {K : TypeId} {kv : Value} : ∀ {E L : List MapEntry} {i : Nat} {r : Option (Nat × Value)}, SameKeys E L → pv P (Instr.findAsking K kv L i) = some r → ∀ w, ∃ r', (Instr.findAsking K kv E i).run P w = .ok r' w ∧ FoundAs E i r r'
  | [], [], i, r, _, hp, w => by cases hp; exact ⟨none, rfl, rfl⟩
  | [], _ :: _, i, r, h, _, _ => by have := h.1; simp at this
  | _ :: _, [], i, r, h, _, _ => by have := h.1; simp at this
  | a :: E, b :: L, i, r, h, hp, w => by
    obtain ⟨h1, h2⟩ := h.tail
    rw [Instr.findAsking] at hp ⊢
    obtain ⟨x, hx, hp⟩ := pv_bind_some hp
    rw [h1, Sem.run_bind, pv_run hx, Result.andThen_ok]
    cases x with
    | true => cases hp; exact ⟨_, rfl, a, Nat.le_refl _, by simp, rfl⟩
    | false =>
      obtain ⟨r', h3, h4⟩ := findAsking_sim (i := i + 1) h2 hp w
      exact ⟨r', h3, h4.succ⟩
theorem findKey_sim {P : Program} {K : TypeId} {kv : Value} {E L : List MapEntry} {r : Option (Nat × Value)} (h : SameKeys E L) (hp : pv P (Instr.findKey K kv L) = some r) (w : World) : ∃ r', (Instr.findKey K kv E).run P w = .ok r' w ∧ FoundAs E 0 r r' := by
  unfold Instr.findKey at hp ⊢
  obtain ⟨d, hd, hp⟩ := pv_bind_some hp
  rw [Sem.run_bind, pv_run hd, Result.andThen_ok]
  have hs := findNow_sim (kind := d) (kv := kv) (i := 0) h
  cases hf : Instr.findNow d kv L 0 with
  | none =>
    rw [hf] at hs hp
    dsimp only at hs hp
    rw [hs]
    exact findAsking_sim h hp w
  | some r0 =>
    rw [hf] at hs hp
    cases hp
    obtain ⟨r', h3, h4⟩ := hs
    rw [h3]
    exact ⟨r', rfl, h4⟩
def entsK : List (V × V × Nat) → Option (List MapEntry)
  | [] => some []
  | p :: r => match tv p.1 with
    | some k => match entsK r with
      | some l => some (⟨k, .bool false, p.2.2⟩ :: l)
      | none => none
    | none => none
theorem EntRel.tail {ι : Io} {p : V × V × Nat} {es : List (V × V × Nat)} {E : List MapEntry} (h : EntRel ι (p :: es) E) : ∃ m E', E = m :: E' ∧ (VRel ι p.1 m.key ∧ VRel ι p.2.1 m.val ∧ m.born = p.2.2) ∧ EntRel ι es E' := by
  cases E with
  | nil => have := h.1; simp at this
  | cons m E' => exact ⟨m, E', rfl, h.2 0 p m rfl rfl, by have := h.1; simpa using this, fun i q m' a b => h.2 (i + 1) q m' (by simpa using a) (by simpa using b)⟩
theorem EntRel.cons {ι : Io} {p : V × V × Nat} {es : List (V × V × Nat)} {m : MapEntry} {E : List MapEntry} (h1 : VRel ι p.1 m.key ∧ VRel ι p.2.1 m.val ∧ m.born = p.2.2) (h : EntRel ι es E) : EntRel ι (p :: es) (m :: E) := by
  refine ⟨by simp [h.1], fun i q m' a b => ?_⟩
  cases i with
  | zero => simp at a b; subst a b; exact h1
  | succ i => exact h.2 i q m' (by simpa using a) (by simpa using b)
theorem EntRel.snoc {ι : Io} {p : V × V × Nat} {es : List (V × V × Nat)} {m : MapEntry} {E : List MapEntry} (h1 : VRel ι p.1 m.key ∧ VRel ι p.2.1 m.val ∧ m.born = p.2.2) (h : EntRel ι es E) : EntRel ι (es ++ [p]) (E ++ [m]) := by
  induction es generalizing E with
  | nil =>
    have : E = [] := List.length_eq_zero_iff.1 h.1
    subst this
    exact EntRel.cons h1 ⟨rfl, by simp⟩
  | cons q es ih =>
    obtain ⟨m', E', rfl, h2, h3⟩ := h.tail
    exact EntRel.cons h2 (ih h3)
theorem EntRel.mono {ι ι' : Io} (hl : Io.le ι ι') {es : List (V × V × Nat)} {E : List MapEntry} (h : EntRel ι es E) : EntRel ι' es E := ⟨h.1, fun i p m a b => ⟨(h.2 i p m a b).1.mono hl, (h.2 i p m a b).2.1.mono hl, (h.2 i p m a b).2.2⟩⟩
theorem entsK_rel {ι : Io} {es : List (V × V × Nat)} {E : List MapEntry} {L : List MapEntry} (h : EntRel ι es E) (hl : entsK es = some L) : SameKeys E L := by
  induction es generalizing E L with
  | nil =>
    cases hl
    have : E = [] := List.length_eq_zero_iff.1 h.1
    subst this
    exact ⟨rfl, by simp⟩
  | cons p es ih =>
    obtain ⟨m, E', rfl, h2, h3⟩ := h.tail
    rw [entsK] at hl
    cases hk : tv p.1 with
    | none => rw [hk] at hl; cases hl
    | some k =>
      cases hr : entsK es with
      | none => rw [hk, hr] at hl; cases hl
      | some L' =>
        rw [hk, hr] at hl
        cases hl
        have := ih h3 hr
        refine ⟨by simp [this.1], fun i a b ha hb => ?_⟩
        cases i with
        | zero => simp at ha hb; subst ha hb; exact tv_rel h2.1 _ hk
        | succ i => exact this.2 i a b (by simpa using ha) (by simpa using hb)
theorem EntRel.get {ι : Io} {es : List (V × V × Nat)} {E : List MapEntry} (h : EntRel ι es E) {i : Nat} {m : MapEntry} (hm : E[i]? = some m) : ∃ p, es[i]? = some p ∧ VRel ι p.1 m.key ∧ VRel ι p.2.1 m.val ∧ m.born = p.2.2 := by
  have hlt : i < es.length := by rw [← h.1]; exact (List.getElem?_eq_some_iff.1 hm).1
  exact ⟨es[i], List.getElem?_eq_getElem hlt, h.2 i _ m (List.getElem?_eq_getElem hlt) hm⟩
theorem EntRel.setAt {ι : Io} {es : List (V × V × Nat)} {E : List MapEntry} (h : EntRel ι es E) (i : Nat) {q : V × V × Nat} {m : MapEntry} (hq : VRel ι q.1 m.key ∧ VRel ι q.2.1 m.val ∧ m.born = q.2.2) : EntRel ι (es.set i q) (E.set i m) := by
  refine ⟨by simp [h.1], fun j p m' a b => ?_⟩
  rw [List.getElem?_set] at a b
  split at a
  · rename_i hij
    rw [if_pos hij] at b
    split at a
    · cases a
      rw [if_pos (by rw [h.1]; assumption)] at b
      cases b; exact hq
    · cases a
  · rename_i hij
    rw [if_neg hij] at b
    exact h.2 j p m' a b
theorem EntRel.eraseAt {ι : Io} {es : List (V × V × Nat)} {E : List MapEntry} (h : EntRel ι es E) (i : Nat) : EntRel ι (es.eraseIdx i) (E.eraseIdx i) := by
  induction es generalizing E i with
  | nil =>
    have : E = [] := List.length_eq_zero_iff.1 h.1
    subst this
    exact h
  | cons p es ih =>
    obtain ⟨m, E', rfl, h2, h3⟩ := h.tail
    cases i with
    | zero => exact h3
    | succ i => exact EntRel.cons h2 (ih h3 i)

section
variable {P : Program} {tab : TTab} {o : Oper} {e : Ev} {n : Nat} {h : Hp} {lo : Nat}
def place (P : Program) (K : TypeId) (kv : Value) (chk : Bool) (es : List (V × V × Nat)) : Option (Option Nat) :=
  match pv P (Instr.checkKey chk 10000 K kv) with
  | some () => match entsK es with
    | some L => match pv P (Instr.findKey K kv L) with
      | some r => some (r.map (·.1))
      | none => none
    | none => none
  | none => none
theorem place_run {ι : Io} {K : TypeId} {kv : Value} {chk : Bool} {es : List (V × V × Nat)} {E : Array MapEntry} {r : Option Nat} (h : EntRel ι es E.toList) (hp : place P K kv chk es = some r) (w : World) : (Instr.checkKey chk 10000 K kv).run P w = .ok () w ∧ ∃ r', (Instr.findKey K kv E.toList).run P w = .ok r' w ∧ match r with
    | none => r' = none
    | some i => ∃ m, E[i]? = some m ∧ r' = some (i, m.val) := by
  unfold place at hp
  cases hc : pv P (Instr.checkKey chk 10000 K kv) with
  | none => rw [hc] at hp; cases hp
  | some u =>
    rw [hc] at hp
    cases hl : entsK es with
    | none => rw [hl] at hp; cases hp
    | some L =>
      cases hf : pv P (Instr.findKey K kv L) with
      | none => rw [hl] at hp; dsimp only at hp; rw [hf] at hp; cases hp
      | some q =>
        rw [hl] at hp; dsimp only at hp; rw [hf] at hp
        cases hp
        obtain ⟨r', h1, h2⟩ := findKey_sim (entsK_rel h hl) hf w
        refine ⟨pv_run hc w, r', h1, ?_⟩
        cases q with
        | none => exact h2
        | some p => obtain ⟨m, _, h3, h4⟩ := h2; exact ⟨m, by simpa using h3, h4⟩
def nrm : V → V
  | .sc (.agg C) => .agg (C.toList.map .sc)
  | .sc (.tuple C) => .tup (C.toList.map .sc)
  | v => v
theorem nrm_rel {ι : Io} {v : V} {u : Value} (h : VRel ι v u) : VRel ι (nrm v) u := by
  unfold nrm
  split
  · cases h; exact VRel.agg' (LRel.scs _)
  · cases h; exact VRel.tup' (LRel.scs _)
  · exact h
theorem mp_inv {ι : Io} {id : Nat} {u : Value} (hv : VRel ι (.mp id) u) {r m : Nat} (hi : ι id = some (r, m)) : u = .map (some r) := by
  cases hv with
  | mp _ r' m' h' => rw [hi] at h'; cases h'; rfl
theorem getObj_map {w : World} {r : Nat} {E : Array MapEntry} {clk : Nat} (hE : w.heap[r]? = some (.map E clk)) : (getObj r).run P w = .ok (.map E clk) w := by simp [getObj, Sem.run, hE]
theorem empties {ι : Io} {es : List (V × V × Nat)} {E : Array MapEntry} (h : EntRel ι es E.toList) : E.isEmpty = es.isEmpty := by
  have := h.1
  cases es with
  | nil => have h0 : E = #[] := by simpa using this
           subst h0; rfl
  | cons p r =>
    have h0 : E.size = r.length + 1 := by simpa using this
    simp [Array.isEmpty, h0]
def atV (P : Program) (El : TypeId) (es : List (V × V × Nat)) (r : Option Nat) : Option V := match r with
  | some i => match es[i]? with | some p => some p.2.1 | none => none
  | none => match pv P (zeroValue El) with | some z => some (nrm (.sc z)) | none => none
def entV (P : Program) (El : TypeId) (es : List (V × V × Nat)) (clk : Nat) (r : Option Nat) : Option (V × Nat) := match r with
  | some i => match es[i]? with | some p => some (p.2.1, p.2.2) | none => none
  | none => match pv P (zeroValue El) with | some z => some (nrm (.sc z), clk) | none => none
def delV (es : List (V × V × Nat)) (r : Option Nat) : List (V × V × Nat) := match r with | some i => es.eraseIdx i | none => es
theorem good_lookup {t K El : TypeId} {x y : Operand} {ok : Bool} {te : TE} {id clk : Nat} {es : List (V × V × Nat)} {k : V} {kv : Value} {v : V} {r : Option Nat} (TO : TabOk P tab) (ho : o.op = .lookup t x y ok) (ht : tlook tab t = some te) (hs : te.sh = .mp K El) (hx : ev e x = some (.mp id)) (hb : h.get id = some (.map es clk))
    (hy : ev e y = some k) (hk : tv k = some kv) (hp : place P K kv es.isEmpty es = some r) (hv : atV P El es r = some v) :
    Good P o e n h lo (cond ok (.tup [v, .sc (.bool r.isSome)]) v, n, h, lo) :=
  good_value fun ι a w H E => by
    obtain ⟨d, hd, _, hh⟩ := (TO t te ht).und
    rw [hs] at hh
    cases hh
    obtain ⟨rr, m, hi, EE, hE, hrel⟩ := H.blk _ _ hb
    have e1 := mp_inv (ev_rel E hx) hi
    have e2 := tv_rel (ev_rel E hy) _ hk
    obtain ⟨h1, r', h2, h3⟩ := place_run hrel hp w
    have hem := empties hrel
    have key : ∃ u, VRel ι v u ∧ (Instr.lookup t (.map (some rr)) kv ok).run P w = .ok (if ok then .tuple #[u, .bool r.isSome] else u) w := by
      unfold Instr.lookup
      unfold atV at hv
      simp only [Sem.run_bind, run_underlying hd, Result.andThen_ok, getObj_map hE, Sem.run_pure, hem, h1, h2]
      cases r with
      | some i =>
        obtain ⟨mm, h4, rfl⟩ := h3
        obtain ⟨p, h5, h6, h7, h8⟩ := hrel.get (by simpa using h4)
        simp only [h5] at hv
        cases hv
        exact ⟨mm.val, h7, by simp⟩
      | none =>
        have h3 : r' = none := h3
        subst h3
        dsimp only at hv
        cases hz : pv P (zeroValue El) with
        | none => rw [hz] at hv; cases hv
        | some z =>
          rw [hz] at hv
          cases hv
          exact ⟨z, nrm_rel (.sc z), by simp [pv_run hz w]⟩
    obtain ⟨u, g1, hrun⟩ := key
    cases ok with
    | true =>
      refine ⟨.tuple #[u, .bool r.isSome], VRel.tup' (LRel.cons g1 (LRel.cons (.sc _) .nil)), ?_⟩
      simp only [execOp, ho, e1, e2]
      simp [hrun]
    | false =>
      refine ⟨u, g1, ?_⟩
      simp only [execOp, ho, e1, e2]
      simp [hrun]
theorem good_makeMap {t : TypeId} (ho : o.op = .makeMap t none) : Good P o e n h lo (.mp n, n + 1, h.set n (.map [] 0), lo) :=
  good_new fun ι a w H E h0 => by
    obtain ⟨f1, f2, f3, f4, f5, f6⟩ := alloc_facts w (.map #[] 0)
    exact ⟨.map (some w.heap.size), _, w.alloc (.map #[] 0), 0, by simp [execOp, ho, Instr.makeMap, newObj, Sem.run], f1, f2, f3, f4, f5, f6, fun ι' hle hi => ⟨.mp n _ _ hi, #[], f6, rfl, by simp⟩⟩
theorem setBlock_facts {w : World} {r : Nat} {E : Array MapEntry} {clk : Nat} (hE : w.heap[r]? = some (.map E clk)) (x : Obj) : (setObj r x).run P w = .ok () { w with heap := w.heap.setIfInBounds r x } ∧ ({ w with heap := w.heap.setIfInBounds r x } : World).heap[r]? = some x ∧ (∀ r', r' ≠ r → ({ w with heap := w.heap.setIfInBounds r x } : World).heap[r']? = w.heap[r']?) ∧ w.heap.size ≤ ({ w with heap := w.heap.setIfInBounds r x } : World).heap.size := by
  have hlt : r < w.heap.size := (Array.getElem?_eq_some_iff.1 hE).1
  exact ⟨by simp [setObj, Sem.run, hE], by simp [hlt], fun r' hr => by simp [Array.getElem?_setIfInBounds_ne (Ne.symm hr)], by simp⟩
def putV (es : List (V × V × Nat)) (clk : Nat) (k v : V) (r : Option Nat) : List (V × V × Nat) × Nat := match r with
  | some i => (es.set i (k, v, match es[i]? with | some p => p.2.2 | none => 0), clk)
  | none => (es ++ [(k, v, clk)], clk + 1)
def keyStays (es : List (V × V × Nat)) (kv : Value) (r : Option Nat) : Bool := match r with
  | none => true
  | some i => match es[i]? with
    | some p => match tv p.1 with
      | some k0 => Instr.sameBits 10000 k0 kv
      | none => false
    | none => false
theorem modify_list (E : Array MapEntry) (i : Nat) (g : MapEntry → MapEntry) {m : MapEntry} (h : E[i]? = some m) : (E.modify i g).toList = E.toList.set i (g m) := by
  apply List.ext_getElem?
  intro j
  rw [Array.toList_modify, List.getElem?_modify, List.getElem?_set]
  by_cases hij : i = j
  · subst hij
    obtain ⟨hlt, hm⟩ := Array.getElem?_eq_some_iff.1 h
    simp [hlt, hm]
  · simp [hij]
theorem good_mapUpdate {t K El : TypeId} {x y z : Operand} {te : TE} {id clk : Nat} {es : List (V × V × Nat)} {k v : V} {kv : Value} {r : Option Nat} (TO : TabOk P tab) (ho : o.op = .mapUpdate t x y z ∨ o.op = .insert t x y z) (ht : tlook tab t = some te) (hs : te.sh = .mp K El) (hx : ev e x = some (.mp id)) (hb : h.get id = some (.map es clk))
    (hy : ev e y = some k) (hz : ev e z = some v) (hk : tv k = some kv) (hp : place P K kv false es = some r) (hst : keyStays es kv r = true) :
    Good P o e n h lo (.sc undef, n, h.set id (.map (putV es clk k v r).1 (putV es clk k v r).2), lmin id lo) :=
  good_write hb fun ι a w rr m H E hi hB => by
    obtain ⟨d, hd, _, hh⟩ := (TO t te ht).und
    rw [hs] at hh
    cases hh
    obtain ⟨EE, hE, hrel⟩ := hB
    have e1 := mp_inv (ev_rel E hx) hi
    have e2 := tv_rel (ev_rel E hy) _ hk
    obtain ⟨h1, r', h2, h3⟩ := place_run hrel hp w
    have key : ∃ E', (Instr.mapUpdate t (.map (some rr)) kv (a.eval z)).run P w = .ok () { w with heap := w.heap.setIfInBounds rr (.map E' (putV es clk k v r).2) } ∧ EntRel ι (putV es clk k v r).1 E'.toList := by
      cases r with
      | none =>
        have h3 : r' = none := h3
        subst h3
        refine ⟨EE.push ⟨kv, a.eval z, clk⟩, ?_, ?_⟩
        · obtain ⟨f1, _⟩ := setBlock_facts (P := P) hE (.map (EE.push ⟨kv, a.eval z, clk⟩) (clk + 1))
          simp [Instr.mapUpdate, run_underlying hd, getObj_map hE, h1, h2, f1, putV]
        · rw [Array.toList_push]
          exact EntRel.snoc ⟨by rw [← e2]; exact ev_rel E hy, ev_rel E hz, rfl⟩ hrel
      | some i =>
        obtain ⟨mm, h4, rfl⟩ := h3
        obtain ⟨p, h5, h6, h7, h8⟩ := hrel.get (by simpa using h4)
        simp only [keyStays, h5] at hst
        cases hk0 : tv p.1 with
        | none => rw [hk0] at hst; cases hst
        | some k0 =>
          rw [hk0] at hst
          have e3 := tv_rel h6 _ hk0
          refine ⟨EE.modify i fun q => { q with key := kv, val := a.eval z }, ?_, ?_⟩
          · obtain ⟨f1, _⟩ := setBlock_facts (P := P) hE (.map (EE.modify i fun q => { q with key := kv, val := a.eval z }) clk)
            simp [Instr.mapUpdate, run_underlying hd, getObj_map hE, h1, h2, h4, e3, Instr.keyThatStays, hst, f1, putV]
          · rw [modify_list EE i _ h4]
            simp only [putV, h5]
            exact hrel.setAt i ⟨by rw [← e2]; exact ev_rel E hy, ev_rel E hz, h8⟩
    obtain ⟨E', g1, g2⟩ := key
    obtain ⟨f1, f2, f3, f4⟩ := setBlock_facts (P := P) hE (.map E' (putV es clk k v r).2)
    refine ⟨undef, { w with heap := w.heap.setIfInBounds rr (.map E' (putV es clk k v r).2) }, .inr ⟨rfl, ?_⟩, .sc _, rfl, rfl, rfl, f4, f3, E', f2, g2⟩
    rcases ho with ho | ho <;> (simp only [execOp, ho, e1, e2]; simp [g1])
theorem good_mapEntry {t K El : TypeId} {x y : Operand} {te : TE} {id clk : Nat} {es : List (V × V × Nat)} {k v : V} {kv : Value} {r : Option Nat} {bn : Nat} (TO : TabOk P tab) (ho : o.op = .mapEntry t x y) (ht : tlook tab t = some te) (hs : te.sh = .mp K El) (hx : ev e x = some (.mp id)) (hb : h.get id = some (.map es clk))
    (hy : ev e y = some k) (hk : tv k = some kv) (hp : place P K kv false es = some r) (hst : keyStays es kv r = true) (hv : entV P El es clk r = some (v, bn)) :
    Good P o e n h lo (.tup [v, .sc (.int .i64 (bn : Int))], n, h.set id (.map (putV es clk k v r).1 (putV es clk k v r).2), lmin id lo) :=
  good_write hb fun ι a w rr m H E hi hB => by
    obtain ⟨d, hd, _, hh⟩ := (TO t te ht).und
    rw [hs] at hh
    cases hh
    obtain ⟨EE, hE, hrel⟩ := hB
    have e1 := mp_inv (ev_rel E hx) hi
    have e2 := tv_rel (ev_rel E hy) _ hk
    obtain ⟨h1, r', h2, h3⟩ := place_run hrel hp w
    unfold entV at hv
    have key : ∃ E' u, VRel ι v u ∧ (Instr.mapEntry t (.map (some rr)) kv).run P w = .ok (.tuple #[u, goInt bn]) { w with heap := w.heap.setIfInBounds rr (.map E' (putV es clk k v r).2) } ∧ EntRel ι (putV es clk k v r).1 E'.toList := by
      cases r with
      | none =>
        have h3 : r' = none := h3
        subst h3
        dsimp only at hv
        cases hz : pv P (zeroValue El) with
        | none => rw [hz] at hv; cases hv
        | some z =>
          rw [hz] at hv
          cases hv
          refine ⟨EE.push ⟨kv, z, clk⟩, z, nrm_rel (.sc z), ?_, ?_⟩
          · obtain ⟨f1, _⟩ := setBlock_facts (P := P) hE (.map (EE.push ⟨kv, z, clk⟩) (clk + 1))
            simp [Instr.mapEntry, run_underlying hd, getObj_map hE, h1, h2, pv_run hz, f1, putV]
          · rw [Array.toList_push]
            exact EntRel.snoc ⟨by rw [← e2]; exact ev_rel E hy, nrm_rel (.sc z), rfl⟩ hrel
      | some i =>
        obtain ⟨mm, h4, rfl⟩ := h3
        obtain ⟨p, h5, h6, h7, h8⟩ := hrel.get (by simpa using h4)
        simp only [keyStays, h5] at hst
        simp only [h5] at hv
        cases hv
        cases hk0 : tv p.1 with
        | none => rw [hk0] at hst; cases hst
        | some k0 =>
          rw [hk0] at hst
          have e3 := tv_rel h6 _ hk0
          refine ⟨EE.modify i fun q => { q with key := kv }, mm.val, h7, ?_, ?_⟩
          · obtain ⟨f1, _⟩ := setBlock_facts (P := P) hE (.map (EE.modify i fun q => { q with key := kv }) clk)
            simp [Instr.mapEntry, run_underlying hd, getObj_map hE, h1, h2, h4, e3, Instr.keyThatStays, hst, f1, putV, h8]
          · rw [modify_list EE i _ h4]
            simp only [putV, h5]
            exact hrel.setAt i ⟨by rw [← e2]; exact ev_rel E hy, h7, h8⟩
    obtain ⟨E', u, g0, g1, g2⟩ := key
    obtain ⟨f1, f2, f3, f4⟩ := setBlock_facts (P := P) hE (.map E' (putV es clk k v r).2)
    refine ⟨.tuple #[u, goInt bn], { w with heap := w.heap.setIfInBounds rr (.map E' (putV es clk k v r).2) }, .inl ?_, VRel.tup' (LRel.cons g0 (LRel.cons (.sc _) .nil)), rfl, rfl, rfl, f4, f3, E', f2, g2⟩
    simp only [execOp, ho, e1, e2]; simp [g1]
def stampAt : List (V × V × Nat) → Nat → Nat → Option Nat
  | [], _, _ => none
  | p :: r, b, i => cond (Nat.beq p.2.2 b) (some i) (stampAt r b (i + 1))
theorem stampAt_spec {ι : Io} {es : List (V × V × Nat)} {E : List MapEntry} (h : EntRel ι es E) {b i j : Nat} (hs : stampAt es b i = some j) : i ≤ j ∧ E.findIdx? (fun e => (e.born : Int) == (b : Int)) = some (j - i) ∧ ∃ p, es[j - i]? = some p := by
  induction es generalizing E i with
  | nil => cases hs
  | cons p es ih =>
    obtain ⟨m, E', rfl, h2, h3⟩ := h.tail
    rw [stampAt, beq_dec] at hs
    rw [List.findIdx?_cons]
    by_cases hb : p.2.2 = b
    · rw [decide_eq_true hb] at hs
      cases hs
      refine ⟨Nat.le_refl _, ?_, p, by simp⟩
      rw [if_pos (by rw [h2.2.2, hb]; simp)]
      simp
    · rw [decide_eq_false hb] at hs
      obtain ⟨h4, h5, p', h6⟩ := ih h3 hs
      refine ⟨by omega, ?_, p', by rw [show j - i = (j - (i + 1)) + 1 by omega, List.getElem?_cons_succ]; exact h6⟩
      rw [if_neg (by rw [h2.2.2]; simp; omega), h5]
      simp; omega
theorem good_entryStore {t : TypeId} {x y z : Operand} {id clk b j : Nat} {es : List (V × V × Nat)} {q : IntKind} {v : V} {p : V × V × Nat} (ho : o.op = .entryStore t x y z) (hx : ev e x = some (.mp id)) (hb : h.get id = some (.map es clk)) (hy : ev e y = some (.sc (.int q (b : Int)))) (hz : ev e z = some v)
    (hj : stampAt es b 0 = some j) (hpj : es[j]? = some p) : Good P o e n h lo (.sc undef, n, h.set id (.map (es.set j (p.1, v, p.2.2)) clk), lmin id lo) :=
  good_write hb fun ι a w rr m H E hi hB => by
    obtain ⟨EE, hE, hrel⟩ := hB
    have e1 := mp_inv (ev_rel E hx) hi
    have e2 := tv_rel (ev_rel E hy) _ rfl
    obtain ⟨_, h2, p', h3⟩ := stampAt_spec hrel hj
    rw [Nat.sub_zero] at h2 h3
    rw [hpj] at h3; cases h3
    have hfi : EE.findIdx? (fun e => (e.born : Int) == (b : Int)) = some j := by rw [← h2, ← List.findIdx?_toArray]
    have hlt : j < EE.toList.length := by rw [hrel.1]; exact (List.getElem?_eq_some_iff.1 hpj).1
    obtain ⟨p2, h4, h5⟩ := hrel.get (List.getElem?_eq_getElem hlt)
    rw [hpj] at h4; cases h4
    have hget : EE[j]? = some EE.toList[j] := by rw [← Array.getElem?_toList]; exact List.getElem?_eq_getElem hlt
    obtain ⟨f1, f2, f3, f4⟩ := setBlock_facts (P := P) hE (.map (EE.modify j fun q => { q with val := a.eval z }) clk)
    refine ⟨undef, { w with heap := w.heap.setIfInBounds rr (.map (EE.modify j fun q => { q with val := a.eval z }) clk) }, .inr ⟨rfl, ?_⟩, .sc _, rfl, rfl, rfl, f4, f3, _, f2, ?_⟩
    · simp only [execOp, ho, e1, e2]
      simp [Instr.entryStore, getObj_map hE, asInt, asIntOf, hfi, f1]
    · rw [modify_list EE j _ hget]
      exact hrel.setAt j ⟨h5.1, ev_rel E hz, h5.2.2⟩
theorem good_delete {t tk K El : TypeId} {x y : Operand} {te : TE} {id clk : Nat} {es : List (V × V × Nat)} {k : V} {kv : Value} {r : Option Nat} (TO : TabOk P tab) (ho : o.op = .call { callee := .builtin .delete, args := #[x, y], argTypes := #[t, tk] }) (ht : tlook tab t = some te) (hs : te.sh = .mp K El) (hx : ev e x = some (.mp id)) (hb : h.get id = some (.map es clk))
    (hy : ev e y = some k) (hk : tv k = some kv) (hp : place P K kv es.isEmpty es = some r) : Good P o e n h lo (.sc (.tuple #[]), n, h.set id (.map (delV es r) clk), lmin id lo) :=
  good_write hb fun ι a w rr m H E hi hB => by
    obtain ⟨d, hd, _, hh⟩ := (TO t te ht).und
    rw [hs] at hh
    cases hh
    obtain ⟨EE, hE, hrel⟩ := hB
    have e1 := mp_inv (ev_rel E hx) hi
    have e2 := tv_rel (ev_rel E hy) _ hk
    obtain ⟨h1, r', h2, h3⟩ := place_run hrel hp w
    have hem := empties hrel
    cases r with
    | none =>
      have h3 : r' = none := h3
      subst h3
      obtain ⟨f1, f2, f3, f4⟩ := setBlock_facts (P := P) hE (.map EE clk)
      refine ⟨.tuple #[], { w with heap := w.heap.setIfInBounds rr (.map EE clk) }, .inl ?_, .sc _, rfl, rfl, rfl, f4, f3, _, f2, hrel⟩
      simp only [execOp, ho]
      simp [resolve, invoke, builtin, e1, e2, Builtin.delete_, run_underlying hd, getObj_map hE, hem, h1, h2, f1]
    | some i =>
      obtain ⟨mm, h4, rfl⟩ := h3
      have hlt : i < EE.size := (Array.getElem?_eq_some_iff.1 h4).1
      obtain ⟨f1, f2, f3, f4⟩ := setBlock_facts (P := P) hE (.map (EE.eraseIdxIfInBounds i) clk)
      refine ⟨.tuple #[], { w with heap := w.heap.setIfInBounds rr (.map (EE.eraseIdxIfInBounds i) clk) }, .inl ?_, .sc _, rfl, rfl, rfl, f4, f3, _, f2, ?_⟩
      · simp only [execOp, ho]
        simp [resolve, invoke, builtin, e1, e2, Builtin.delete_, run_underlying hd, getObj_map hE, hem, h1, h2, f1]
      · have : (EE.eraseIdxIfInBounds i).toList = EE.toList.eraseIdx i := by
          simp [Array.eraseIdxIfInBounds, hlt]
        rw [this]
        exact hrel.eraseAt i
end
end Go.Proofs.YtamnhhjcgloceaaGreat.Rn

namespace Go.Proofs.YtamnhhjcgloceaaGreat.Rn
set_option linter.unusedVariables false
open Go.RowKit
open Go.Proofs.YtamnhhjcgloceaaGreat.Ab (TE TTab tlook TabOk TFacts win setW setW_get win_get Sh)

section
variable {P : Program} {tab : TTab} {o : Oper} {e : Ev} {n : Nat} {h : Hp} {lo : Nat}
theorem good_rangeStr {t : TypeId} {x : Operand} {s : ByteArray} (ho : o.op = .range t x) (hd : P.underlying t = some .string) (hx : ev e x = some (.sc (.string s))) : Good P o e n h lo (.ptr n 0, n + 1, h.set n (.sit s 0), lo) :=
  good_new fun ι a w H E h0 => by
    obtain ⟨f1, f2, f3, f4, f5, f6⟩ := alloc_facts w (.stringIter s 0)
    have e1 := tv_rel (ev_rel E hx) _ rfl
    exact ⟨.pointer (some ⟨w.heap.size, 0, none⟩), _, w.alloc (.stringIter s 0), 0, by simp [execOp, ho, e1, Instr.range, run_underlying hd, newObj, Sem.run], f1, f2, f3, f4, f5, f6, fun ι' hle hi => ⟨.ptr n 0 _ _ hi, f6⟩⟩
theorem good_rangeNil {t K El : TypeId} {x : Operand} (ho : o.op = .range t x) (hd : P.underlying t = some (.map K El)) (hx : ev e x = some (.sc (.map none))) : Good P o e n h lo (.ptr n 0, n + 1, h.set n (.mit none 0 [] 0), lo) :=
  good_new fun ι a w H E h0 => by
    obtain ⟨f1, f2, f3, f4, f5, f6⟩ := alloc_facts w (.mapIter none 0 #[] 0)
    have e1 := tv_rel (ev_rel E hx) _ rfl
    exact ⟨.pointer (some ⟨w.heap.size, 0, none⟩), _, w.alloc (.mapIter none 0 #[] 0), 0, by simp [execOp, ho, e1, Instr.range, run_underlying hd, newObj, Sem.run], f1, f2, f3, f4, f5, f6, fun ι' hle hi => ⟨.ptr n 0 _ _ hi, none, f6, rfl⟩⟩
theorem good_rangeMap {t K El : TypeId} {x : Operand} {id clk : Nat} {es : List (V × V × Nat)} (ho : o.op = .range t x) (hd : P.underlying t = some (.map K El)) (hx : ev e x = some (.mp id)) (hb : h.get id = some (.map es clk)) : Good P o e n h lo (.ptr n 0, n + 1, h.set n (.mit (some id) clk [] clk), lo) :=
  good_new fun ι a w H E h0 => by
    obtain ⟨rr, m, hi, EE, hE, hrel⟩ := H.blk _ _ hb
    obtain ⟨f1, f2, f3, f4, f5, f6⟩ := alloc_facts w (.mapIter (some rr) clk #[] clk)
    have e1 := mp_inv (ev_rel E hx) hi
    exact ⟨.pointer (some ⟨w.heap.size, 0, none⟩), _, w.alloc (.mapIter (some rr) clk #[] clk), 0, by simp [execOp, ho, e1, Instr.range, run_underlying hd, getObj_map hE, newObj, Sem.run], f1, f2, f3, f4, f5, f6, fun ι' hle hi' => ⟨.ptr n 0 _ _ hi', some rr, f6, rr, m, hle _ _ hi, rfl⟩⟩
theorem good_nextStr {x : Operand} {id pos : Nat} {s : ByteArray} (ho : o.op = .next x true) (hx : ev e x = some (.ptr id 0)) (hb : h.get id = some (.sit s pos)) (hp : Nat.blt pos s.size = true) :
    Good P o e n h lo (.tup [.sc (.bool true), .sc (.int .i64 (pos : Int)), .sc (.int .i32 (Utf8.decode s pos).1)], n, h.set id (.sit s (pos + (Utf8.decode s pos).2)), lmin id lo) :=
  good_write hb fun ι a w rr m H E hi hB => by
    have hB : w.heap[rr]? = some (.stringIter s pos) := hB
    have hau := ptr_inv (ev_rel E hx) hi
    have hp := blt_lt hp
    have hlt : rr < w.heap.size := (Array.getElem?_eq_some_iff.1 hB).1
    have g1 : (getObj rr).run P w = .ok (.stringIter s pos) w := by simp [getObj, Sem.run, hB]
    have g2 : (setObj rr (.stringIter s (pos + (Utf8.decode s pos).2))).run P w = .ok () { w with heap := w.heap.setIfInBounds rr (.stringIter s (pos + (Utf8.decode s pos).2)) } := by simp [setObj, Sem.run, hB]
    refine ⟨.tuple #[.bool true, goInt pos, .int .i32 (Utf8.decode s pos).1], { w with heap := w.heap.setIfInBounds rr (.stringIter s (pos + (Utf8.decode s pos).2)) }, .inl ?_, VRel.tup' (LRel.cons (.sc _) (LRel.cons (.sc _) (LRel.cons (.sc _) .nil))), rfl, rfl, rfl, by simp, fun r' hr => by simp [Array.getElem?_setIfInBounds_ne (Ne.symm hr)], ?_⟩
    · simp only [execOp, ho, hau]
      simp [Instr.next, g1, hp, g2]
    · show ({ w with heap := w.heap.setIfInBounds rr (.stringIter s (pos + (Utf8.decode s pos).2)) } : World).heap[rr]? = _
      simp [hlt]
theorem good_nextStrEnd {x : Operand} {id pos : Nat} {s : ByteArray} (ho : o.op = .next x true) (hx : ev e x = some (.ptr id 0)) (hb : h.get id = some (.sit s pos)) (hp : Nat.blt pos s.size = false) :
    Good P o e n h lo (.tup [.sc (.bool false)], n, h, lo) :=
  good_value fun ι a w H E => by
    obtain ⟨rr, m, hi, hB⟩ := H.blk _ _ hb
    have hB : w.heap[rr]? = some (.stringIter s pos) := hB
    have hau := ptr_inv (ev_rel E hx) hi
    have hp := blt_ge hp
    have g1 : (getObj rr).run P w = .ok (.stringIter s pos) w := by simp [getObj, Sem.run, hB]
    refine ⟨.tuple #[.bool false], VRel.tup' (LRel.cons (.sc _) .nil), ?_⟩
    simp only [execOp, ho, hau]
    have : ¬ pos < s.size := by omega
    simp [Instr.next, g1, this]
theorem good_nextNil {x : Operand} {id since st : Nat} {seen : List Nat} (ho : o.op = .next x false) (hx : ev e x = some (.ptr id 0)) (hb : h.get id = some (.mit none since seen st)) :
    Good P o e n h lo (.tup [.sc (.bool false)], n, h, lo) :=
  good_value fun ι a w H E => by
    obtain ⟨rr, m, hi, rm, hB, hm⟩ := H.blk _ _ hb
    have hm : rm = none := hm
    subst hm
    have hau := ptr_inv (ev_rel E hx) hi
    have g1 : (getObj rr).run P w = .ok (.mapIter none since seen.toArray st) w := by simp [getObj, Sem.run, hB]
    refine ⟨.tuple #[.bool false], VRel.tup' (LRel.cons (.sc _) .nil), ?_⟩
    simp only [execOp, ho, hau]
    simp [Instr.next, g1]
def leftV (es : List (V × V × Nat)) (seen : List Nat) : List (V × V × Nat) := es.filter fun p => !seen.contains p.2.2
theorem filter_rel {ι : Io} {q : V × V × Nat → Bool} {q' : MapEntry → Bool} : ∀ {es : List (V × V × Nat)} {E : List MapEntry}, EntRel ι es E → (∀ p m, m.born = p.2.2 → q p = q' m) → EntRel ι (es.filter q) (E.filter q')
  | [], E, h, _ => by
    have : E = [] := List.length_eq_zero_iff.1 h.1
    subst this
    exact h
  | p :: es, E, h, hq => by
    obtain ⟨m, E', rfl, h2, h3⟩ := h.tail
    have ih := filter_rel h3 hq
    rw [List.filter_cons, List.filter_cons, hq p m h2.2.2]
    split
    · exact EntRel.cons h2 ih
    · exact ih
theorem all_rel {ι : Io} {q : V × V × Nat → Bool} {q' : MapEntry → Bool} : ∀ {es : List (V × V × Nat)} {E : List MapEntry}, EntRel ι es E → (∀ p m, m.born = p.2.2 → q p = q' m) → E.all q' = es.all q
  | [], E, h, _ => by
    have : E = [] := List.length_eq_zero_iff.1 h.1
    subst this
    rfl
  | p :: es, E, h, hq => by
    obtain ⟨m, E', rfl, h2, h3⟩ := h.tail
    rw [List.all_cons, List.all_cons, hq p m h2.2.2, all_rel h3 hq]
def stepOk (es : List (V × V × Nat)) (seen : List Nat) (last since : Nat) : Bool := !(!seen.isEmpty && !es.isEmpty && es.all fun p => decide (p.2.2 ≥ last)) && (leftV es seen).all fun p => decide (p.2.2 < since)
theorem next_run {ι : Io} {w : World} {rr rm since clk st : Nat} {seen : List Nat} {es : List (V × V × Nat)} {EE : Array MapEntry} (hB : w.heap[rr]? = some (.mapIter (some rm) since seen.toArray st)) (hE : w.heap[rm]? = some (.map EE clk)) (hrel : EntRel ι es EE.toList) (hok : stepOk es seen st since = true) {ty : TypeId} :
    (leftV es seen = [] → (Instr.next (.pointer (some ⟨rr, 0, none⟩)) false ty).run P w = .ok (.tuple #[.bool false]) w) ∧
    (∀ p, leftV es seen = [p] → ∃ m : MapEntry, (VRel ι p.1 m.key ∧ VRel ι p.2.1 m.val ∧ m.born = p.2.2) ∧ (Instr.next (.pointer (some ⟨rr, 0, none⟩)) false ty).run P w = .ok (.tuple #[.bool true, m.key, m.val]) { w with heap := w.heap.setIfInBounds rr (.mapIter (some rm) since (seen ++ [p.2.2]).toArray clk) }) := by
  have g1 : (getObj rr).run P w = .ok (.mapIter (some rm) since seen.toArray st) w := by simp [getObj, Sem.run, hB]
  have g2 : (getObj rm).run P w = .ok (.map EE clk) w := getObj_map hE
  unfold stepOk at hok
  simp only [Bool.and_eq_true] at hok
  have hall := all_rel (q := fun p => decide (p.2.2 ≥ st)) (q' := fun m => decide (m.born ≥ st)) hrel fun p m hm => by rw [hm]
  have hem : EE.isEmpty = es.isEmpty := empties hrel
  have hno : (!seen.toArray.isEmpty && !EE.isEmpty && EE.all (·.born ≥ st)) = false := by
    have e1 : EE.all (fun m => decide (m.born ≥ st)) = es.all fun p => decide (p.2.2 ≥ st) := by rw [← hall, Array.all_toList]
    have e2 : seen.toArray.isEmpty = seen.isEmpty := by cases seen <;> rfl
    rw [e1, hem, e2]
    simpa only [Bool.not_eq_true'] using hok.1
  have hl := filter_rel (q := fun p => !seen.contains p.2.2) (q' := fun m => !seen.toArray.contains m.born) hrel fun p m hm => by rw [hm]; simp
  have hl : EntRel ι (leftV es seen) (EE.filter fun m => !seen.toArray.contains m.born).toList := by rw [Array.toList_filter]; exact hl
  have hl2 := filter_rel (q := fun p => decide (p.2.2 < since)) (q' := fun m => decide (m.born < since)) hl fun p m hm => by rw [hm]
  have hl3 := filter_rel (q := fun p => decide (p.2.2 ≥ since)) (q' := fun m => decide (m.born ≥ since)) hl fun p m hm => by rw [hm]
  have h4 : (leftV es seen).filter (fun p => decide (p.2.2 < since)) = leftV es seen := List.filter_eq_self.2 fun p hp => by have := List.all_eq_true.1 hok.2 p hp; simpa using this
  have h5 : (leftV es seen).filter (fun p => decide (p.2.2 ≥ since)) = [] := List.filter_eq_nil_iff.2 fun p hp => by have := List.all_eq_true.1 hok.2 p hp; simp at this ⊢; omega
  rw [h4] at hl2
  rw [h5] at hl3
  have hnew : ((EE.filter fun m => !seen.toArray.contains m.born).filter fun m => decide (m.born ≥ since)) = #[] := by
    apply Array.toList_inj.1
    rw [Array.toList_filter]
    exact List.length_eq_zero_iff.1 hl3.1
  constructor
  · intro h0
    rw [h0] at hl2
    have hold : ((EE.filter fun m => !seen.toArray.contains m.born).filter fun m => decide (m.born < since)) = #[] := by
      apply Array.toList_inj.1
      rw [Array.toList_filter]
      exact List.length_eq_zero_iff.1 hl2.1
    simp only [Instr.next, Sem.run_bind, g1, Result.andThen_ok, g2]
    simp only [hno, hold, hnew]
    simp [Question.forced]
  · intro p hp
    rw [hp] at hl2
    obtain ⟨m, E', h6, h7, h8⟩ := hl2.tail
    have : E' = [] := List.length_eq_zero_iff.1 h8.1
    subst this
    have hold : ((EE.filter fun m => !seen.toArray.contains m.born).filter fun m => decide (m.born < since)) = #[m] := by
      apply Array.toList_inj.1
      rw [Array.toList_filter, h6]
    refine ⟨m, h7, ?_⟩
    have g3 : (setObj rr (.mapIter (some rm) since (seen ++ [p.2.2]).toArray clk)).run P w = .ok () { w with heap := w.heap.setIfInBounds rr (.mapIter (some rm) since (seen ++ [p.2.2]).toArray clk) } := by simp only [setObj, Sem.run, hB]
    simp only [Instr.next, Sem.run_bind, g1, Result.andThen_ok, g2]
    simp only [hno, hold, hnew]
    simp [Question.forced, g3, h7.2.2]
theorem good_nextMapEnd {x : Operand} {id since st mid clk : Nat} {seen : List Nat} {es : List (V × V × Nat)} (ho : o.op = .next x false) (hx : ev e x = some (.ptr id 0)) (hb : h.get id = some (.mit (some mid) since seen st)) (hm : h.get mid = some (.map es clk)) (hok : stepOk es seen st since = true) (hl : leftV es seen = []) :
    Good P o e n h lo (.tup [.sc (.bool false)], n, h, lo) :=
  good_value fun ι a w H E => by
    obtain ⟨rr, m, hi, rm, hB, r2, m2, hi2, rfl⟩ := H.blk _ _ hb
    obtain ⟨rr2, m3, hi3, EE, hE, hrel⟩ := H.blk _ _ hm
    rw [hi2] at hi3
    cases hi3
    have hau := ptr_inv (ev_rel E hx) hi
    refine ⟨.tuple #[.bool false], VRel.tup' (LRel.cons (.sc _) .nil), ?_⟩
    have := (next_run (P := P) hB hE hrel hok (ty := o.type)).1 hl
    simp only [execOp, ho, hau]
    simp [this]
theorem good_nextMap {x : Operand} {id since st mid clk : Nat} {seen : List Nat} {es : List (V × V × Nat)} {p : V × V × Nat} (ho : o.op = .next x false) (hx : ev e x = some (.ptr id 0)) (hb : h.get id = some (.mit (some mid) since seen st)) (hm : h.get mid = some (.map es clk)) (hok : stepOk es seen st since = true) (hl : leftV es seen = [p]) :
    Good P o e n h lo (.tup [.sc (.bool true), p.1, p.2.1], n, h.set id (.mit (some mid) since (seen ++ [p.2.2]) clk), lmin id lo) :=
  good_write hb fun ι a w rr m H E hi hB => by
    obtain ⟨rm, hB, r2, m2, hi2, rfl⟩ := hB
    obtain ⟨rr2, m3, hi3, EE, hE, hrel⟩ := H.blk _ _ hm
    rw [hi2] at hi3
    cases hi3
    have hau := ptr_inv (ev_rel E hx) hi
    have hlt : rr < w.heap.size := (Array.getElem?_eq_some_iff.1 hB).1
    obtain ⟨mm, h1, h2⟩ := (next_run (P := P) hB hE hrel hok (ty := o.type)).2 p hl
    refine ⟨.tuple #[.bool true, mm.key, mm.val], { w with heap := w.heap.setIfInBounds rr (.mapIter (some r2) since (seen ++ [p.2.2]).toArray clk) }, .inl ?_, VRel.tup' (LRel.cons (.sc _) (LRel.cons h1.1 (LRel.cons h1.2.1 .nil))), rfl, rfl, rfl, by simp, fun r' hr => by simp [Array.getElem?_setIfInBounds_ne (Ne.symm hr)], some r2, ?_, r2, m2, hi2, rfl⟩
    · simp only [execOp, ho, hau]
      simp [h2]
    · simp [hlt]

theorem good_copy {t tx el : TypeId} {x y : Operand} {te te' : TE} {id off len k m : Nat} {cap : Option Nat} {cs : List V} {more : Bool} {v : V} {W : List V} (TO : TabOk P tab) (ho : o.op = .call { callee := .builtin .copy, args := #[x, y], argTypes := #[t, tx] }) (ht : tlook tab t = some te) (hs : te.sh = .sl el) (hel : tlook tab el = some te') (hk : Nat.beq k te'.size = true)
    (hx : ev e x = some (.sl id off len k cap)) (hb : h.get id = some (.cells cs more)) (hy : ev e y = some v) (hsrc : srcV h te'.size v = some (m, W)) (hf : srcFits v (P.underlying tx) = true) (hwl : Nat.beq W.length (m * te'.size) = true) (hfit : Nat.ble (off + len * te'.size) cs.length = true) :
    Good P o e n h lo (.sc (.int .i64 ((Nat.min m len : Nat) : Int)), n, h.set id (.cells (setW cs off (W.take (Nat.min m len * te'.size))) more), lmin id lo) :=
  good_write hb fun ι a w rr mm H E hi hB => by
    have hk := Nat.eq_of_beq_eq_true hk
    subst hk
    have hwl := Nat.eq_of_beq_eq_true hwl
    have hfit := Nat.le_of_ble_eq_true hfit
    obtain ⟨c, h1, _, _⟩ := sl_inv (ev_rel E hx) hi
    obtain ⟨news, h3, S⟩ := src_good H (ev_rel E hy) hsrc hf
    obtain ⟨C, tt, fz, hC, hfz, hsz, hle2, hmo, hl⟩ := hB
    have hu := (TO t te ht).slice hs
    have hmin : Nat.min m len * te'.size ≤ m * te'.size := Nat.mul_le_mul_right _ (Nat.min_le_left _ _)
    have hmin2 : Nat.min m len * te'.size ≤ len * te'.size := Nat.mul_le_mul_right _ (Nat.min_le_right _ _)
    have hnl : (news.take (Nat.min m len * te'.size)).length = Nat.min m len * te'.size := by rw [List.length_take, h3.1, hwl]; omega
    have hrelT := h3.take (Nat.min m len * te'.size)
    have hWl : (W.take (Nat.min m len * te'.size)).length = Nat.min m len * te'.size := by rw [← hrelT.1, hnl]
    have hone : ∀ u ∈ news.take (Nat.min m len * te'.size), u.oneCell' = true := fun u hu => S.one u (List.mem_of_mem_take hu)
    have hst := run_storeV (P := P) (off := off) hC hfz hsz (news.take (Nat.min m len * te'.size)) (by rw [hnl]; omega) hone
    obtain ⟨g1, g2, g3, g4, g5, g6⟩ := setCells_spec (news.take (Nat.min m len * te'.size)) off C w hC (by rw [hnl]; omega)
    -- the first cells of the source
    have hfc : (Builtin.firstCells te'.size (Nat.min m len) (a.eval y)).run P w = .ok (news.take (Nat.min m len * te'.size)).toArray w := by
      have hyv := ev_rel E hy
      unfold srcV at hsrc
      split at hsrc
      · rename_i id2 off2 len2 k2 cap2
        split at hsrc
        · rename_i cs2 more2 hb2
          cases hc : Nat.beq k2 te'.size && Nat.beq (win cs2 off2 (len2 * k2)).length (len2 * k2) && (win cs2 off2 (len2 * k2)).all one with
          | false => rw [hc] at hsrc; cases hsrc
          | true =>
            rw [hc, cond_true] at hsrc
            cases hsrc
            simp only [Bool.and_eq_true] at hc
            have hk2 := Nat.eq_of_beq_eq_true hc.1.1
            subst hk2
            obtain ⟨r2, m2, hi2, hB2⟩ := H.blk _ _ hb2
            obtain ⟨c2, e2, _, _⟩ := sl_inv hyv hi2
            have hsl : news = (Builtin.firstCells te'.size m (.slice (some ⟨r2, off2, none⟩) m c2) |>.run P w |> fun r => match r with | .ok x _ => x.toList | _ => []) := by
              have := S.cells
              rw [e2] at this
              rw [this]
            obtain ⟨vs, q1, q2, q3⟩ := cells_win hB2 (Nat.eq_of_beq_eq_true hc.1.2)
            have hfull := run_firstCells_some (P := P) w te'.size m ⟨r2, off2, none⟩ m c2 vs q1 (fun j u hj => by rw [Addr.add_mid]; exact q3 j u hj)
            rw [hfull] at hsl
            have hsl : news = vs := by simpa using hsl
            subst hsl
            rw [e2]
            exact run_firstCells_some (P := P) w te'.size (Nat.min m len) ⟨r2, off2, none⟩ m c2 _ hnl (fun j u hj => by
              rw [Addr.add_mid]
              rw [List.getElem?_take] at hj
              split at hj
              · exact q3 j u hj
              · cases hj)
        · cases hsrc
      · cases hsrc
        have h0 : Nat.min 0 len = 0 := Nat.zero_min _
        obtain ⟨uy, huy⟩ : ∃ uy, a.eval y = uy := ⟨_, rfl⟩
        rw [huy] at hyv ⊢
        cases hyv
        rw [h0]
        simp [Builtin.firstCells, loadCells, loadCellsFrom]
      · cases hsrc
        have h0 : Nat.min 0 len = 0 := Nat.zero_min _
        have e2 := tv_rel hyv _ rfl
        rw [h0, e2]
        simp [Builtin.firstCells]
      · rename_i s
        cases hc : Nat.beq te'.size 1 with
        | false => rw [hc] at hsrc; cases hsrc
        | true =>
          rw [hc, cond_true] at hsrc
          cases hsrc
          have hsz1 := Nat.eq_of_beq_eq_true hc
          have e2 := tv_rel hyv _ rfl
          have := S.cells
          rw [e2] at this ⊢
          have hnews : news = byteCells s := by
            have h9 : (Builtin.firstCells te'.size s.size (.string s)).run P w = .ok (byteCells s).toArray w := by
              have := firstCells_string (P := P) s w
              simpa [Builtin.firstCells] using this
            rw [h9] at this
            simpa using this.symm
          rw [hnews, hsz1, Nat.mul_one]
          simp [Builtin.firstCells, byteCells]
          apply Array.ext'
          simp [List.map_take]
      · cases hsrc
    refine ⟨.int .i64 ((Nat.min m len : Nat) : Int), w.setCells rr off (news.take (Nat.min m len * te'.size)), .inl ?_, .sc _, g4, g5, g6, by rw [g3]; exact Nat.le_refl _, g2, brel_set hC hfz hsz hle2 hmo hl hrelT (by omega)⟩
    simp only [execOp, ho]
    simp [resolve, invoke, builtin, h1, Builtin.copy_, run_underlying hu, (TO el te' hel).size, S.len, hfc, hst, goInt]
end
end Go.Proofs.YtamnhhjcgloceaaGreat.Rn

namespace Go.Proofs.YtamnhhjcgloceaaGreat.Rn
set_option linter.unusedVariables false
open Go.RowKit
open Go.Proofs.YtamnhhjcgloceaaGreat.Ab (TE TTab tlook TabOk TFacts win setW setW_get win_get Sh)

def u8s : List V → Option (List Int)
  | [] => some []
  | .sc (.int .u8 n) :: r => match u8s r with
    | some l => some (n :: l)
    | none => none
  | _ :: _ => none
theorem u8s_get : ∀ {l : List V} {ns : List Int}, u8s l = some ns → ∀ (j : Nat) (v : Value), (ns.map (Value.int .u8))[j]? = some v → l[j]? = some (.sc v)
  | [], ns, h, j, v, hj => by cases h; simp at hj
  | c :: l, ns, h, j, v, hj => by
    unfold u8s at h
    split at h
    · rename_i h1; cases h1
    · rename_i n r h1
      cases h1
      split at h
      · rename_i m hm
        cases h
        cases j with
        | zero => simp at hj ⊢; rw [hj]
        | succ j => simp at hj ⊢; exact u8s_get hm j v (by simpa using hj)
      · cases h
    · cases h
def strOf (ns : List Int) : ByteArray := ns.foldl (fun r n => r.push (UInt8.ofNat n.toNat)) ByteArray.empty
section
variable {P : Program} {e : Ev} {n : Nat} {h : Hp} {lo : Nat} {o : Oper}
theorem good_convBS {src dst el : TypeId} {x : Operand} {id off len k : Nat} {cap : Option Nat} {cs : List V} {more : Bool} {ns : List Int} (ho : o.op = .convert src dst x) (hs : P.underlying src = some (.slice el)) (hd : P.underlying dst = some .string) (he : P.underlying el = some (.int .u8)) (hx : ev e x = some (.sl id off len k cap))
    (hb : h.get id = some (.cells cs more)) (hn : u8s (win cs off len) = some ns) (hl : Nat.beq ns.length len = true) : Good P o e n h lo (.sc (.string (strOf ns)), n, h, lo) :=
  good_value fun ι a w H E => by
    refine ⟨.string (strOf ns), .sc _, ?_⟩
    obtain ⟨r, m, hi, C, tt, fz, hC, hfz, hsz, hle, hmo, hlr⟩ := H.blk id _ hb
    have hv := ev_rel E hx
    generalize hau : a.eval x = u at hv
    obtain ⟨c, rfl⟩ : ∃ c, u = .slice (some ⟨r, off, none⟩) len c := by
      cases hv with
      | sl _ _ _ _ c r' m' h' => rw [hi] at h'; cases h'; exact ⟨c, rfl⟩
      | slu _ _ _ _ c r' m' h' _ _ => rw [hi] at h'; cases h'; exact ⟨c, rfl⟩
    have hcell : ∀ (j : Nat) (v : Value), (ns.map (Value.int .u8))[j]? = some v → w.cell? (Addr.add ⟨r, off, none⟩ j) = some v := fun j v hj => by
      have h1 := win_get rfl (u8s_get hn j v hj)
      have hlt := (List.getElem?_eq_some_iff.1 h1).1
      obtain ⟨y, h2⟩ : ∃ y, (C.toList.take cs.length)[off + j]? = some y := ⟨_, List.getElem?_eq_getElem (by rw [hlr.1]; exact hlt)⟩
      have h3 := hlr.2 _ _ _ h1 h2
      have hy := tv_rel h3 v rfl
      subst hy
      rw [List.getElem?_take, if_pos hlt] at h2
      rw [Addr.add_mid]
      simp [World.cell?, hC]
      simpa using h2
    have hrun := run_loadCells_list (P := P) (w := w) ⟨r, off, none⟩ (ns.map (Value.int .u8)) hcell
    rw [List.length_map, Nat.eq_of_beq_eq_true hl] at hrun
    have h5 := run_bytesToString (P := P) w ⟨r, off, none⟩ len c ns hrun
    simp only [execOp, ho, hau]
    have h6 := run_convert_bytes_string (P := P) w src dst el (some ⟨r, off, none⟩) len c hs he hd
    rw [h5] at h6
    simp [h6, strOf]
end
end Go.Proofs.YtamnhhjcgloceaaGreat.Rn

namespace Go.Proofs.YtamnhhjcgloceaaGreat.Rn
set_option linter.unusedVariables false
open Go.RowKit
open Go.Proofs.YtamnhhjcgloceaaGreat.Ab (TE TTab tlook TabOk TFacts win setW setW_get win_get Sh)

section
variable (P : Program) (tab : TTab) (e : Ev) (n : Nat) (h : Hp) (lo : Nat) (o : Oper)
def rGen : R := match gen P e o with
  | some v => some (nrm v, n, h, lo)
  | none => none
def rMove (x : Operand) : R := match ev e x with
  | some v => some (v, n, h, lo)
  | none => none
def rPick (x y z : Operand) : R := match ev e x with
  | some (.sc (.bool b)) => match ev e (cond b y z) with
    | some v => some (v, n, h, lo)
    | none => none
  | _ => none
def rExtract (x : Operand) (i : Nat) : R := match ev e x with
  | some (.tup cs) => match cs[i]? with
    | some v => some (v, n, h, lo)
    | none => none
  | _ => none
def rField (t : TypeId) (x : Operand) (f : Nat) : R := match ev e x with
  | some (.agg cs) => match tlook tab t with
    | some te => match te.sh with
      | .st fs => match fs[f]? with
        | some q => match tlook tab q.2 with
          | some te' => match whole te' (win cs q.1 te'.size) with
            | some v => some (v, n, h, lo)
            | none => none
          | none => none
        | none => none
      | _ => none
    | none => none
  | _ => none
def isPF : V → Bool
  | .ptr _ _ => true
  | .fn _ _ => true
  | _ => false
def rNilCheck (x : Operand) : R := match ev e x with
  | some v => match isPF v with
    | true => some (v, n, h, lo)
    | false => rGen P e n h lo o
  | none => none
def rBin (op : BinOp) (t : TypeId) (x y : Operand) : R := match ev e x, ev e y with
  | some (.sc (.int k a)), some (.sc (.int k' b)) => match decide (k = k') with
    | true => match Ab.ibin op k a b with
      | some r => some (.sc r, n, h, lo)
      | none => rGen P e n h lo o
    | false => rGen P e n h lo o
  | some v, some (.sc c) => match fits v c (P.underlying t) with
    | true => match op with
      | .eql => some (.sc (.bool false), n, h, lo)
      | .neq => some (.sc (.bool true), n, h, lo)
      | _ => none
    | false => rGen P e n h lo o
  | some v, some w => rGen P e n h lo o
  | _, _ => none
def rLoad (t : TypeId) (x : Operand) : R := match ev e x with
  | some (.ptr id off) => match tlook tab t with
    | some te => match h.get id with
      | some (.cells cs _) => match whole te (win cs off te.size) with
        | some v => some (v, n, h, lo)
        | none => none
      | _ => none
    | none => none
  | _ => none
def rStore (t : TypeId) (x y : Operand) : R := match ev e x with
  | some (.ptr id off) => match tlook tab t with
    | some te => match h.get id with
      | some (.cells cs more) => match ev e y with
        | some v => match (cellsV v).all one && Nat.beq (cellsV v).length te.size && Nat.ble (off + te.size) cs.length with
          | true => some (.sc undef, n, h.set id (.cells (setW cs off (cellsV v)) more), lmin id lo)
          | false => none
        | none => none
      | _ => none
    | none => none
  | _ => none
def rFieldAddr (t : TypeId) (x : Operand) (f : Nat) : R := match ev e x with
  | some (.ptr id off) => match tlook tab t with
    | some te => match te.sh with
      | .st fs => match fs[f]? with
        | some q => match tlook tab q.2 with
          | some te' => match Nat.beq te'.size 0 with
            | false => match h.get id with
              | some _ => some (.ptr id (off + q.1), n, h, lo)
              | none => none
            | true => none
          | none => none
        | none => none
      | _ => none
    | none => none
  | _ => none
def rIndexAddr (t : TypeId) (x y : Operand) : R := match ev e x, ev e y with
  | some (.sl id off len k cap), some (.sc (.int q i)) => match tlook tab t with
    | some te => match te.sh with
      | .sl el => match tlook tab el with
        | some te' => match decide (0 ≤ i ∧ i < (len : Int)) with
          | true => some (.ptr id (off + i.toNat * te'.size), n, h, lo)
          | false => none
        | none => none
      | _ => none
    | none => none
  | some (.ptr id off), some (.sc (.int q i)) => match tlook tab t with
    | some te => match te.sh with
      | .ar N el => match tlook tab el with
        | some te' => match decide (0 ≤ i ∧ i < (N : Int)) with
          | true => match h.get id with
            | some _ => some (.ptr id (off + i.toNat * te'.size), n, h, lo)
            | none => none
          | false => none
        | none => none
      | _ => none
    | none => none
  | _, _ => none
def rIndex (t : TypeId) (x y : Operand) : R := match ev e x, ev e y with
  | some (.agg cs), some (.sc (.int q i)) => match tlook tab t with
    | some te => match te.sh with
      | .ar N el => match tlook tab el with
        | some te' => match decide (0 ≤ i ∧ i < (N : Int)) with
          | true => match whole te' (win cs (i.toNat * te'.size) te'.size) with
            | some v => some (v, n, h, lo)
            | none => none
          | false => none
        | none => none
      | _ => none
    | none => none
  | some _, some _ => rGen P e n h lo o
  | _, _ => none
def rAlloc (t : TypeId) : R := match tlook tab t with
  | some te => some (.ptr n 0, n + 1, h.set n (.cells (te.zero.map .sc) false), lo)
  | none => none
def rBox (x : Operand) : R := match ev e x with
  | some v => some (.ptr n 0, n + 1, h.set n (.cells (cellsV v) false), lo)
  | none => none
def rBuild (t : TypeId) (ps : Array (Nat × Operand)) : R := match tlook tab t with
  | some te => match vparts e ps.toList with
    | some al => match te.sh with
      | .st fs => match fs.all (fun f => (tlook tab f.2).isSome) with
        | true => match vfill (Ab.stPlace tab fs) (te.zero.map .sc) al with
          | some xs => some (.agg xs, n, h, lo)
          | none => none
        | false => none
      | .ar N el => match tlook tab el with
        | some te' => match vfill (fun i => some (i * te'.size, te'.size)) (te.zero.map .sc) al with
          | some xs => some (.agg xs, n, h, lo)
          | none => none
        | none => none
      | _ => none
    | none => none
  | none => none
def rBuildSlice (t : TypeId) (len : Nat) (ps : Array (Nat × Operand)) : R := match tlook tab t with
  | some te => match te.sh with
    | .sl el => match tlook tab el with
      | some te' => match vparts e ps.toList with
        | some al => match Nat.beq te'.zero.length te'.size && Nat.blt (len * te'.size) 16777216 with
          | true => match vfill (fun i => some (i * te'.size, te'.size)) ((zs te' len).map .sc) al with
            | some xs => some (.sl n 0 len te'.size (some len), n + 1, h.set n (.cells xs false), lo)
            | none => none
          | false => none
        | none => none
      | none => none
    | _ => none
  | none => none
def rMakeSlice (t : TypeId) (x y : Operand) : R := match ev e x, ev e y with
  | some (.sc (.int q1 l)), some (.sc (.int q2 c)) => match tlook tab t with
    | some te => match te.sh with
      | .sl el => match tlook tab el with
        | some te' => match decide (0 ≤ l ∧ 0 ≤ c) && Nat.beq te'.zero.length te'.size && Nat.ble l.toNat c.toNat && Nat.ble c.toNat 1000000 && Nat.ble te'.bytes 65536 with
          | true => some (.sl n 0 l.toNat te'.size (some c.toNat), n + 1, h.set n (.cells ((zs te' c.toNat).map .sc) false), lo)
          | false => none
        | none => none
      | _ => none
    | none => none
  | _, _ => none
def rSlice (t : TypeId) (x : Operand) (lw hi mx : Option Operand) : R := match ev e x with
  | some (.sl id off len k cap) => match tlook tab t with
    | some te => match te.sh with
      | .sl el => match tlook tab el with
        | some te' => match Nat.beq te'.size k with
          | true => match bnd e lw, bnd e hi, bnd e mx with
            | some l, some hh, some m => match cutV id off len k cap l hh m with
              | some v => some (v, n, h, lo)
              | none => none
            | _, _, _ => none
          | false => none
        | none => none
      | _ => none
    | none => none
  | some (.ptr id off) => match tlook tab t with
    | some te => match te.sh with
      | .ar N el => match tlook tab el with
        | some te' => match h.get id with
          | some _ => match bnd e lw, bnd e hi, bnd e mx with
            | some l, some hh, some m => match cutV id off N te'.size (some N) l hh m with
              | some v => some (v, n, h, lo)
              | none => none
            | _, _, _ => none
          | none => none
        | none => none
      | _ => none
    | none => none
  | some _ => rGen P e n h lo o
  | none => none
def rLookup (t : TypeId) (x y : Operand) (ok : Bool) : R := match ev e x with
  | some (.mp id) => match tlook tab t with
    | some te => match te.sh with
      | .mp K El => match h.get id with
        | some (.map es _) => match ev e y with
          | some k => match tv k with
            | some kv => match place P K kv es.isEmpty es with
              | some r => match atV P El es r with
                | some v => some (cond ok (.tup [v, .sc (.bool r.isSome)]) v, n, h, lo)
                | none => none
              | none => none
            | none => none
          | none => none
        | _ => none
      | _ => none
    | none => none
  | some _ => rGen P e n h lo o
  | none => none
def rMapUpdate (t : TypeId) (x y z : Operand) : R := match ev e x with
  | some (.mp id) => match tlook tab t with
    | some te => match te.sh with
      | .mp K El => match h.get id with
        | some (.map es clk) => match ev e y, ev e z with
          | some k, some v => match tv k with
            | some kv => match place P K kv false es with
              | some r => match keyStays es kv r with
                | true => some (.sc undef, n, h.set id (.map (putV es clk k v r).1 (putV es clk k v r).2), lmin id lo)
                | false => none
              | none => none
            | none => none
          | _, _ => none
        | _ => none
      | _ => none
    | none => none
  | _ => none
def rMapEntry (t : TypeId) (x y : Operand) : R := match ev e x with
  | some (.mp id) => match tlook tab t with
    | some te => match te.sh with
      | .mp K El => match h.get id with
        | some (.map es clk) => match ev e y with
          | some k => match tv k with
            | some kv => match place P K kv false es with
              | some r => match keyStays es kv r with
                | true => match entV P El es clk r with
                  | some q => some (.tup [q.1, .sc (.int .i64 (q.2 : Int))], n, h.set id (.map (putV es clk k q.1 r).1 (putV es clk k q.1 r).2), lmin id lo)
                  | none => none
                | false => none
              | none => none
            | none => none
          | none => none
        | _ => none
      | _ => none
    | none => none
  | _ => none
def rEntryStore (x y z : Operand) : R := match ev e x with
  | some (.mp id) => match h.get id with
    | some (.map es clk) => match ev e y, ev e z with
      | some (.sc (.int q b)), some v => match decide (0 ≤ b) with
        | true => match stampAt es b.toNat 0 with
          | some j => match es[j]? with
            | some p => some (.sc undef, n, h.set id (.map (es.set j (p.1, v, p.2.2)) clk), lmin id lo)
            | none => none
          | none => none
        | false => none
      | _, _ => none
    | _ => none
  | _ => none
def isStr : Option TypeDesc → Bool
  | some .string => true
  | _ => false
def isMapD : Option TypeDesc → Bool
  | some (.map _ _) => true
  | _ => false
def rRange (t : TypeId) (x : Operand) : R := match ev e x with
  | some (.sc (.string s)) => match isStr (P.underlying t) with
    | true => some (.ptr n 0, n + 1, h.set n (.sit s 0), lo)
    | false => none
  | some (.sc (.map none)) => match isMapD (P.underlying t) with
    | true => some (.ptr n 0, n + 1, h.set n (.mit none 0 [] 0), lo)
    | false => none
  | some (.mp id) => match isMapD (P.underlying t) with
    | true => match h.get id with
      | some (.map _ clk) => some (.ptr n 0, n + 1, h.set n (.mit (some id) clk [] clk), lo)
      | _ => none
    | false => none
  | _ => none
def rNext (x : Operand) (isS : Bool) : R := match ev e x with
  | some (.ptr id 0) => match h.get id with
    | some (.sit s pos) => match isS with
      | true => match Nat.blt pos s.size with
        | true => some (.tup [.sc (.bool true), .sc (.int .i64 (pos : Int)), .sc (.int .i32 (Utf8.decode s pos).1)], n, h.set id (.sit s (pos + (Utf8.decode s pos).2)), lmin id lo)
        | false => some (.tup [.sc (.bool false)], n, h, lo)
      | false => none
    | some (.mit none _ _ _) => match isS with
      | true => none
      | false => some (.tup [.sc (.bool false)], n, h, lo)
    | some (.mit (some mid) since seen st) => match isS with
      | true => none
      | false => match h.get mid with
        | some (.map es clk) => match stepOk es seen st since with
          | true => match leftV es seen with
            | [] => some (.tup [.sc (.bool false)], n, h, lo)
            | [p] => some (.tup [.sc (.bool true), p.1, p.2.1], n, h.set id (.mit (some mid) since (seen ++ [p.2.2]) clk), lmin id lo)
            | _ => none
          | false => none
        | _ => none
    | _ => none
  | _ => none
def rMakeFunc (fn : Fn) (first caps : Array Operand) : R := match fn, first.toList with
  | .func f, [] => match evs e caps.toList with
    | some cs => some (.fn f cs, n, h, lo)
    | none => none
  | _, _ => none
def rMakeIface (t : TypeId) (x : Operand) : R := match ev e x with
  | some v => match noIface (P.underlying t) with
    | true => some (.ifc t v, n, h, lo)
    | false => none
  | none => none
def rLen (t : TypeId) (x : Operand) : R := match ev e x with
  | some v => match lenFits v (P.underlying t) with
    | true => match lenV h v with
      | some k => some (.sc (.int .i64 (k : Int)), n, h, lo)
      | none => none
    | false => rGen P e n h lo o
  | none => none
def rConv (src dst : TypeId) (x : Operand) : R := match ev e x with
  | some (.sl id off len _ _) => match P.underlying src, P.underlying dst with
    | some (.slice el), some .string => match P.underlying el with
      | some (.int .u8) => match h.get id with
        | some (.cells cs _) => match u8s (win cs off len) with
          | some ns => match Nat.beq ns.length len with
            | true => some (nrm (.sc (.string (strOf ns))), n, h, lo)
            | false => none
          | none => none
        | _ => none
      | _ => none
    | _, _ => none
  | some _ => rGen P e n h lo o
  | none => none
def rCap (t : TypeId) (x : Operand) : R := match ev e x with
  | some (.sl id off len k (some c)) => match lenFits (.sl id off len k (some c)) (P.underlying t) with
    | true => some (.sc (.int .i64 (c : Int)), n, h, lo)
    | false => none
  | some (.sl _ _ _ _ none) => none
  | some _ => rGen P e n h lo o
  | none => none
def rAppend (t tx : TypeId) (x y : Operand) : R := match ev e x, ev e y with
  | some s, some v => match tlook tab t with
    | some te => match te.sh with
      | .sl el => match tlook tab el with
        | some te' => match Nat.beq te'.zero.length te'.size && srcFits v (P.underlying tx) with
          | true => match srcV h te'.size v with
            | some q => appR te' n h lo s q.1 q.2
            | none => none
          | false => none
        | none => none
      | _ => none
    | none => none
  | _, _ => none
def rCopy (t tx : TypeId) (x y : Operand) : R := match ev e x, ev e y with
  | some (.sl id off len k cap), some v => match tlook tab t with
    | some te => match te.sh with
      | .sl el => match tlook tab el with
        | some te' => match h.get id with
          | some (.cells cs more) => match srcV h te'.size v with
            | some q => match Nat.beq k te'.size && srcFits v (P.underlying tx) && Nat.beq q.2.length (q.1 * te'.size) && Nat.ble (off + len * te'.size) cs.length with
              | true => some (.sc (.int .i64 ((Nat.min q.1 len : Nat) : Int)), n, h.set id (.cells (setW cs off (q.2.take (Nat.min q.1 len * te'.size))) more), lmin id lo)
              | false => none
            | none => none
          | _ => none
        | none => none
      | _ => none
    | none => none
  | _, _ => none
def rDelete (t : TypeId) (x y : Operand) : R := match ev e x with
  | some (.mp id) => match tlook tab t with
    | some te => match te.sh with
      | .mp K El => match h.get id with
        | some (.map es clk) => match ev e y with
          | some k => match tv k with
            | some kv => match place P K kv es.isEmpty es with
              | some r => some (.sc (.tuple #[]), n, h.set id (.map (delV es r) clk), lmin id lo)
              | none => none
            | none => none
          | none => none
        | _ => none
      | _ => none
    | none => none
  | _ => none
def rCall (call : FuncId → List V → Nat → Hp → Nat → R) (known : FuncId → Bool) (c : Call) : R := match c.callee with
  | .builtin b => match b, c.args.toList, c.argTypes.toList with
    | .len, [x], [t] => rLen P e n h lo o t x
    | .cap, [x], [t] => rCap P e n h lo o t x
    | .append, [x, y], [t, tx] => rAppend P tab e n h lo t tx x y
    | .copy, [x, y], [t, tx] => rCopy P tab e n h lo t tx x y
    | .delete, [x, y], [t, tk] => rDelete P tab e n h lo t x y
    | _, _, _ => rGen P e n h lo o
  | .value f => match ev e f with
    | some (.fn g caps) => match known g with
      | true => match evs e c.args.toList with
        | some cs => call g (cs ++ caps) n h lo
        | none => none
      | false => rGen P e n h lo o
    | _ => none
  | .invoke _ _ => rGen P e n h lo o
def rop (call : FuncId → List V → Nat → Hp → Nat → R) (known : FuncId → Bool) : R := match o.op with
  | .move x => rMove e n h lo x
  | .assign x => rMove e n h lo x
  | .pick x y z => rPick e n h lo x y z
  | .extract x i => rExtract e n h lo x i
  | .field t x f => rField tab e n h lo t x f
  | .nilCheck x => rNilCheck P e n h lo o x
  | .binOp op t x y _ => rBin P e n h lo o op t x y
  | .load t x => rLoad tab e n h lo t x
  | .store t x y => rStore tab e n h lo t x y
  | .fieldAddr t x f => rFieldAddr tab e n h lo t x f
  | .indexAddr t x y => rIndexAddr tab e n h lo t x y
  | .index t x y => rIndex P tab e n h lo o t x y
  | .alloc t => rAlloc tab n h lo t
  | .box _ x => rBox e n h lo x
  | .build t ps => rBuild tab e n h lo t ps
  | .buildSlice t len ps => rBuildSlice tab e n h lo t len ps
  | .makeSlice t x y => rMakeSlice tab e n h lo t x y
  | .slice t x a b c => rSlice P tab e n h lo o t x a b c
  | .lookup t x y ok => rLookup P tab e n h lo o t x y ok
  | .mapUpdate t x y z => rMapUpdate P tab e n h lo t x y z
  | .insert t x y z => rMapUpdate P tab e n h lo t x y z
  | .mapEntry t x y => rMapEntry P tab e n h lo t x y
  | .entryStore _ x y z => rEntryStore e n h lo x y z
  | .makeMap _ none => some (.mp n, n + 1, h.set n (.map [] 0), lo)
  | .range t x => rRange P e n h lo t x
  | .next x s => rNext e n h lo x s
  | .makeFunc fn first caps => rMakeFunc e n h lo fn first caps
  | .makeInterface t x => rMakeIface P e n h lo t x
  | .convert src dst x => rConv P e n h lo o src dst x
  | .call c => rCall P tab e n h lo o call known c
  | _ => rGen P e n h lo o
end

section
variable {P : Program} {tab : TTab} {e : Ev} {n : Nat} {h : Hp} {lo : Nat} {o : Oper} {r : V × Nat × Hp × Nat}
theorem rGen_good (hr : rGen P e n h lo o = some r) : Good P o e n h lo r := by
  unfold rGen at hr
  split at hr
  · rename_i v hg
    cases hr
    have := gen_good (n := n) (h := h) (lo := lo) hg
    refine ⟨this.1, fun ι a w pre K Q hK => this.2 ι a w ⟨pre.heap, pre.env, pre.free⟩ K Q fun ι' u w' h1 => hK ι' u w' (nrm_rel h1)⟩
  · cases hr
theorem rMove_good {x : Operand} (ho : o.op = .move x ∨ o.op = .assign x) (hr : rMove e n h lo x = some r) : Good P o e n h lo r := by
  unfold rMove at hr
  split at hr
  · rename_i v hx; cases hr; exact good_move ho hx
  · cases hr
theorem rPick_good {x y z : Operand} (ho : o.op = .pick x y z) (hr : rPick e n h lo x y z = some r) : Good P o e n h lo r := by
  unfold rPick at hr
  split at hr
  · rename_i b hx
    split at hr
    · rename_i v hy; cases hr; exact good_pick ho hx hy
    · cases hr
  · cases hr
theorem rExtract_good {x : Operand} {i : Nat} (ho : o.op = .extract x i) (hr : rExtract e n h lo x i = some r) : Good P o e n h lo r := by
  unfold rExtract at hr
  split at hr
  · rename_i cs hx
    split at hr
    · rename_i v hy; cases hr; exact good_extract ho hx hy
    · cases hr
  · cases hr
theorem rField_good {t : TypeId} {x : Operand} {f : Nat} (TO : TabOk P tab) (ho : o.op = .field t x f) (hr : rField tab e n h lo t x f = some r) : Good P o e n h lo r := by
  unfold rField at hr
  split at hr
  · rename_i cs hx
    split at hr
    · rename_i te ht
      split at hr
      · rename_i fs hs
        split at hr
        · rename_i q hf
          split at hr
          · rename_i te' hft
            split at hr
            · rename_i v hw; cases hr; exact good_field TO ho ht hs hf hft hx hw
            · cases hr
          · cases hr
        · cases hr
      · cases hr
    · cases hr
  · cases hr
theorem rNilCheck_good {x : Operand} (ho : o.op = .nilCheck x) (hr : rNilCheck P e n h lo o x = some r) : Good P o e n h lo r := by
  unfold rNilCheck at hr
  split at hr
  · rename_i v hx
    split at hr
    · rename_i hv; cases hr; exact good_nilCheck ho hx (by cases v <;> first | rfl | cases hv)
    · exact rGen_good hr
  · cases hr
theorem good_ibin {op : BinOp} {t u : TypeId} {x y : Operand} {k : IntKind} {a b : Int} {z : Value} (ho : o.op = .binOp op t x y u) (hx : ev e x = some (.sc (.int k a))) (hy : ev e y = some (.sc (.int k b))) (hz : Ab.ibin op k a b = some z) : Good P o e n h lo (.sc z, n, h, lo) :=
  good_value fun ι ac w H E => ⟨z, .sc z, by
    simp only [execOp, ho, tv_rel (ev_rel E hx) _ rfl, tv_rel (ev_rel E hy) _ rfl]
    cases op <;> simp [Ab.ibin] at hz <;> subst hz <;> simp [eqGuard, binOp, Op.intArith, Op.intCmp]⟩
theorem good_nil2 {op : BinOp} {t u : TypeId} {x y : Operand} {c : Value} {v : V} {q : Bool} (ho : o.op = .binOp op t x y u) (hx : ev e x = some v) (hy : ev e y = some (.sc c)) (hf : fits v c (P.underlying t) = true) (hr : (match op with | .eql => some false | .neq => some true | _ => none) = some q) : Good P o e n h lo (.sc (.bool q), n, h, lo) :=
  good_value fun ι a w H E => by
    have hv := ev_rel E hx
    refine ⟨.bool q, .sc _, ?_⟩
    have ev := tv_rel (ev_rel E hy) _ rfl
    cases hd : P.underlying t with
    | none => rw [hd] at hf; unfold fits at hf; split at hf <;> simp_all
    | some d =>
      rw [hd] at hf
      have e9 : Op.maxDepth = 9999 + 1 := rfl
      rcases fits_shape hv hf with ⟨q, el, h1, h2, h3⟩ | ⟨q, l, k, el, h1, h2, h3⟩ | ⟨q, k, el, h1, h2, h3⟩ | ⟨f, C, p1, p2, p3, h1, h2, h3⟩ | ⟨tt, y, ms, h1, h2, h3⟩
      · subst h2 h3
        have key := eqn_ptr w 9999 hd q
        cases op <;> simp at hr <;> subst hr <;> simp only [execOp, ho, h1, ev, eqGuard, binOp, Op.equal] <;> rw [e9] <;> simp [key]
      · subst h2 h3
        have key := eqn_sl w 9999 hd q l k
        cases op <;> simp at hr <;> subst hr <;> simp only [execOp, ho, h1, ev, eqGuard, binOp, Op.equal] <;> rw [e9] <;> simp [key]
      · subst h2 h3
        have key := eqn_map w 9999 hd q
        cases op <;> simp at hr <;> subst hr <;> simp only [execOp, ho, h1, ev, eqGuard, binOp, Op.equal] <;> rw [e9] <;> simp [key]
      · subst h2 h3
        have key := eqn_fn w 9999 hd f C
        cases op <;> simp at hr <;> subst hr <;> simp only [execOp, ho, h1, ev, eqGuard, binOp, Op.equal] <;> rw [e9] <;> simp [key]
      · subst h2 h3
        have key := eqn_ifc w 9999 hd tt y
        cases op <;> simp at hr <;> subst hr <;> simp only [execOp, ho, h1, ev, eqGuard, binOp, Op.equal] <;> rw [e9] <;> simp [key]
theorem rBin_good {op : BinOp} {t u : TypeId} {x y : Operand} (ho : o.op = .binOp op t x y u) (hr : rBin P e n h lo o op t x y = some r) : Good P o e n h lo r := by
  unfold rBin at hr
  split at hr
  · rename_i k a k' b hx hy
    split at hr
    · rename_i hk
      have hk := of_decide_eq_true hk
      subst hk
      split at hr
      · rename_i z hz; cases hr; exact good_ibin ho hx hy hz
      · exact rGen_good hr
    · exact rGen_good hr
  · rename_i v c _ hx hy
    split at hr
    · rename_i hf
      split at hr
      · cases hr; exact good_nil2 ho hx hy hf rfl
      · cases hr; exact good_nil2 ho hx hy hf rfl
      · cases hr
    · exact rGen_good hr
  · exact rGen_good hr
  · cases hr
theorem rLoad_good {t : TypeId} {x : Operand} (TO : TabOk P tab) (ho : o.op = .load t x) (hr : rLoad tab e n h lo t x = some r) : Good P o e n h lo r := by
  unfold rLoad at hr
  split at hr
  · rename_i id off hx
    split at hr
    · rename_i te ht
      split at hr
      · rename_i cs more hb
        split at hr
        · rename_i v hw; cases hr; exact good_load TO ho ht hx hb hw
        · cases hr
      · cases hr
    · cases hr
  · cases hr
theorem rStore_good {t : TypeId} {x y : Operand} (TO : TabOk P tab) (ho : o.op = .store t x y) (hr : rStore tab e n h lo t x y = some r) : Good P o e n h lo r := by
  unfold rStore at hr
  split at hr
  · rename_i id off hx
    split at hr
    · rename_i te ht
      split at hr
      · rename_i cs more hb
        split at hr
        · rename_i v hy
          split at hr
          · rename_i hc
            cases hr
            simp only [Bool.and_eq_true] at hc
            exact good_store TO ho ht hx hb hy hc.1.1 hc.1.2 hc.2
          · cases hr
        · cases hr
      · cases hr
    · cases hr
  · cases hr
theorem rFieldAddr_good {t : TypeId} {x : Operand} {f : Nat} (TO : TabOk P tab) (ho : o.op = .fieldAddr t x f) (hr : rFieldAddr tab e n h lo t x f = some r) : Good P o e n h lo r := by
  unfold rFieldAddr at hr
  split at hr
  · rename_i id off hx
    split at hr
    · rename_i te ht
      split at hr
      · rename_i fs hs
        split at hr
        · rename_i q hf
          split at hr
          · rename_i te' hft
            split at hr
            · rename_i hz
              split at hr
              · rename_i b hb; cases hr; exact good_fieldAddr TO ho ht hs hf hft hz hx hb
              · cases hr
            · cases hr
          · cases hr
        · cases hr
      · cases hr
    · cases hr
  · cases hr
theorem rIndexAddr_good {t : TypeId} {x y : Operand} (TO : TabOk P tab) (ho : o.op = .indexAddr t x y) (hr : rIndexAddr tab e n h lo t x y = some r) : Good P o e n h lo r := by
  unfold rIndexAddr at hr
  split at hr
  · rename_i id off len k cap q i hx hy
    split at hr
    · rename_i te ht
      split at hr
      · rename_i el hs
        split at hr
        · rename_i te' hel
          split at hr
          · rename_i hi; cases hr; exact good_indexAddr TO ho ht hs hel hx hy (of_decide_eq_true hi)
          · cases hr
        · cases hr
      · cases hr
    · cases hr
  · rename_i id off q i hx hy
    split at hr
    · rename_i te ht
      split at hr
      · rename_i N el hs
        split at hr
        · rename_i te' hel
          split at hr
          · rename_i hi
            split at hr
            · rename_i b hb; cases hr; exact good_indexArr TO ho ht hs hel hx hb hy (of_decide_eq_true hi)
            · cases hr
          · cases hr
        · cases hr
      · cases hr
    · cases hr
  · cases hr
theorem rIndex_good {t : TypeId} {x y : Operand} (TO : TabOk P tab) (ho : o.op = .index t x y) (hr : rIndex P tab e n h lo o t x y = some r) : Good P o e n h lo r := by
  unfold rIndex at hr
  split at hr
  · rename_i cs q i hx hy
    split at hr
    · rename_i te ht
      split at hr
      · rename_i N el hs
        split at hr
        · rename_i te' hel
          split at hr
          · rename_i hi
            split at hr
            · rename_i v hw; cases hr; exact good_index TO ho ht hs hel hx hy (of_decide_eq_true hi) hw
            · cases hr
          · cases hr
        · cases hr
      · cases hr
    · cases hr
  · exact rGen_good hr
  · cases hr
theorem rAlloc_good {t : TypeId} (TO : TabOk P tab) (ho : o.op = .alloc t) (hr : rAlloc tab n h lo t = some r) : Good P o e n h lo r := by
  unfold rAlloc at hr
  split at hr
  · rename_i te ht; cases hr; exact good_alloc TO ho ht
  · cases hr
theorem rBox_good {t : TypeId} {x : Operand} (ho : o.op = .box t x) (hr : rBox e n h lo x = some r) : Good P o e n h lo r := by
  unfold rBox at hr
  split at hr
  · rename_i v hx; cases hr; exact good_box ho hx
  · cases hr
theorem rBuild_good {t : TypeId} {ps : Array (Nat × Operand)} (TO : TabOk P tab) (ho : o.op = .build t ps) (hr : rBuild tab e n h lo t ps = some r) : Good P o e n h lo r := by
  unfold rBuild at hr
  split at hr
  · rename_i te ht
    split at hr
    · rename_i al hal
      split at hr
      · rename_i fs hs
        split at hr
        · rename_i hfs
          split at hr
          · rename_i xs hf; cases hr; exact good_build TO ho ht hs hfs hal hf
          · cases hr
        · cases hr
      · rename_i N el hs
        split at hr
        · rename_i te' hel
          split at hr
          · rename_i xs hf; cases hr; exact good_buildArr TO ho ht hs hel hal hf
          · cases hr
        · cases hr
      · cases hr
    · cases hr
  · cases hr
theorem rBuildSlice_good {t : TypeId} {len : Nat} {ps : Array (Nat × Operand)} (TO : TabOk P tab) (ho : o.op = .buildSlice t len ps) (hr : rBuildSlice tab e n h lo t len ps = some r) : Good P o e n h lo r := by
  unfold rBuildSlice at hr
  split at hr
  · rename_i te ht
    split at hr
    · rename_i el hs
      split at hr
      · rename_i te' hel
        split at hr
        · rename_i al hal
          split at hr
          · rename_i hc
            split at hr
            · rename_i xs hf
              cases hr
              simp only [Bool.and_eq_true] at hc
              exact good_buildSlice TO ho ht hs hel hc.1 hc.2 hal hf
            · cases hr
          · cases hr
        · cases hr
      · cases hr
    · cases hr
  · cases hr
theorem rMakeSlice_good {t : TypeId} {x y : Operand} (TO : TabOk P tab) (ho : o.op = .makeSlice t x y) (hr : rMakeSlice tab e n h lo t x y = some r) : Good P o e n h lo r := by
  unfold rMakeSlice at hr
  split at hr
  · rename_i q1 l q2 c hx hy
    split at hr
    · rename_i te ht
      split at hr
      · rename_i el hs
        split at hr
        · rename_i te' hel
          split at hr
          · rename_i hc
            cases hr
            simp only [Bool.and_eq_true, decide_eq_true_eq] at hc
            obtain ⟨⟨⟨⟨⟨h1, h2⟩, h3⟩, h4⟩, h5⟩, h6⟩ := hc
            refine good_makeSlice (q1 := q1) (q2 := q2) TO ho ht hs hel h3 ?_ ?_ h4 h5 h6
            · rw [hx, Int.toNat_of_nonneg h1]
            · rw [hy, Int.toNat_of_nonneg h2]
          · cases hr
        · cases hr
      · cases hr
    · cases hr
  · cases hr
theorem rSlice_good {t : TypeId} {x : Operand} {lw hi mx : Option Operand} (TO : TabOk P tab) (ho : o.op = .slice t x lw hi mx) (hr : rSlice P tab e n h lo o t x lw hi mx = some r) : Good P o e n h lo r := by
  unfold rSlice at hr
  split at hr
  · rename_i id off len k cap hx
    split at hr
    · rename_i te ht
      split at hr
      · rename_i el hs
        split at hr
        · rename_i te' hel
          split at hr
          · rename_i hk
            split at hr
            · rename_i l hh m h1 h2 h3
              split at hr
              · rename_i v hv; cases hr; exact good_cut TO ho ht hs hel hk hx h1 h2 h3 hv
              · cases hr
            · cases hr
          · cases hr
        · cases hr
      · cases hr
    · cases hr
  · rename_i id off hx
    split at hr
    · rename_i te ht
      split at hr
      · rename_i N el hs
        split at hr
        · rename_i te' hel
          split at hr
          · rename_i b hb
            split at hr
            · rename_i l hh m h1 h2 h3
              split at hr
              · rename_i v hv; cases hr; exact good_cutArr TO ho ht hs hel hx hb h1 h2 h3 hv
              · cases hr
            · cases hr
          · cases hr
        · cases hr
      · cases hr
    · cases hr
  · exact rGen_good hr
  · cases hr
theorem rLookup_good {t : TypeId} {x y : Operand} {ok : Bool} (TO : TabOk P tab) (ho : o.op = .lookup t x y ok) (hr : rLookup P tab e n h lo o t x y ok = some r) : Good P o e n h lo r := by
  unfold rLookup at hr
  split at hr
  · rename_i id hx
    split at hr
    · rename_i te ht
      split at hr
      · rename_i K El hs
        split at hr
        · rename_i es clk hb
          split at hr
          · rename_i k hy
            split at hr
            · rename_i kv hk
              split at hr
              · rename_i q hp
                split at hr
                · rename_i v hv; cases hr; exact good_lookup TO ho ht hs hx hb hy hk hp hv
                · cases hr
              · cases hr
            · cases hr
          · cases hr
        · cases hr
      · cases hr
    · cases hr
  · exact rGen_good hr
  · cases hr
theorem rMapUpdate_good {t : TypeId} {x y z : Operand} (TO : TabOk P tab) (ho : o.op = .mapUpdate t x y z ∨ o.op = .insert t x y z) (hr : rMapUpdate P tab e n h lo t x y z = some r) : Good P o e n h lo r := by
  unfold rMapUpdate at hr
  split at hr
  · rename_i id hx
    split at hr
    · rename_i te ht
      split at hr
      · rename_i K El hs
        split at hr
        · rename_i es clk hb
          split at hr
          · rename_i k v hy hz
            split at hr
            · rename_i kv hk
              split at hr
              · rename_i q hp
                split at hr
                · rename_i hst; cases hr; exact good_mapUpdate TO ho ht hs hx hb hy hz hk hp hst
                · cases hr
              · cases hr
            · cases hr
          · cases hr
        · cases hr
      · cases hr
    · cases hr
  · cases hr
theorem rMapEntry_good {t : TypeId} {x y : Operand} (TO : TabOk P tab) (ho : o.op = .mapEntry t x y) (hr : rMapEntry P tab e n h lo t x y = some r) : Good P o e n h lo r := by
  unfold rMapEntry at hr
  split at hr
  · rename_i id hx
    split at hr
    · rename_i te ht
      split at hr
      · rename_i K El hs
        split at hr
        · rename_i es clk hb
          split at hr
          · rename_i k hy
            split at hr
            · rename_i kv hk
              split at hr
              · rename_i q hp
                split at hr
                · rename_i hst
                  split at hr
                  · rename_i v hv; cases hr; exact good_mapEntry TO ho ht hs hx hb hy hk hp hst hv
                  · cases hr
                · cases hr
              · cases hr
            · cases hr
          · cases hr
        · cases hr
      · cases hr
    · cases hr
  · cases hr
theorem rEntryStore_good {t : TypeId} {x y z : Operand} (ho : o.op = .entryStore t x y z) (hr : rEntryStore e n h lo x y z = some r) : Good P o e n h lo r := by
  unfold rEntryStore at hr
  split at hr
  · rename_i id hx
    split at hr
    · rename_i es clk hb
      split at hr
      · rename_i q b v hy hz
        split at hr
        · rename_i hb0
          have hb0 := of_decide_eq_true hb0
          split at hr
          · rename_i j hj
            split at hr
            · rename_i p hp
              cases hr
              exact good_entryStore (q := q) ho hx hb (by rw [hy, Int.toNat_of_nonneg hb0]) hz hj hp
            · cases hr
          · cases hr
        · cases hr
      · cases hr
    · cases hr
  · cases hr
theorem isMapD_spec {d : Option TypeDesc} (hd : isMapD d = true) : ∃ K El, d = some (.map K El) := by
  unfold isMapD at hd; split at hd
  · exact ⟨_, _, rfl⟩
  · cases hd
theorem rRange_good {t : TypeId} {x : Operand} (ho : o.op = .range t x) (hr : rRange P e n h lo t x = some r) : Good P o e n h lo r := by
  unfold rRange at hr
  split at hr
  · rename_i s hx
    split at hr
    · rename_i hd
      cases hr
      refine good_rangeStr ho ?_ hx
      cases hu : P.underlying t with
      | none => rw [hu] at hd; cases hd
      | some d => rw [hu] at hd; cases d <;> first | rfl | cases hd
    · cases hr
  · rename_i hx
    split at hr
    · rename_i hd; cases hr; obtain ⟨K, El, hu⟩ := isMapD_spec hd; exact good_rangeNil ho hu hx
    · cases hr
  · rename_i id hx
    split at hr
    · rename_i hd
      split at hr
      · rename_i es clk hb; cases hr; obtain ⟨K, El, hu⟩ := isMapD_spec hd; exact good_rangeMap ho hu hx hb
      · cases hr
    · cases hr
  · cases hr
theorem rNext_good {x : Operand} {s : Bool} (ho : o.op = .next x s) (hr : rNext e n h lo x s = some r) : Good P o e n h lo r := by
  unfold rNext at hr
  split at hr
  · rename_i id hx
    split at hr
    · rename_i st pos hb
      split at hr
      · split at hr
        · rename_i hp; cases hr; exact good_nextStr ho hx hb hp
        · rename_i hp; cases hr; exact good_nextStrEnd ho hx hb hp
      · cases hr
    · rename_i since seen st hb
      split at hr
      · cases hr
      · cases hr; exact good_nextNil ho hx hb
    · rename_i mid since seen st hb
      split at hr
      · cases hr
      · split at hr
        · rename_i es clk hm
          split at hr
          · rename_i hok
            split at hr
            · rename_i hl; cases hr; exact good_nextMapEnd ho hx hb hm hok hl
            · rename_i p hl; cases hr; exact good_nextMap ho hx hb hm hok hl
            · cases hr
          · cases hr
        · cases hr
    · cases hr
  · cases hr
theorem rMakeFunc_good {fn : Fn} {first caps : Array Operand} (ho : o.op = .makeFunc fn first caps) (hr : rMakeFunc e n h lo fn first caps = some r) : Good P o e n h lo r := by
  unfold rMakeFunc at hr
  split at hr
  · rename_i f hf
    have : first = #[] := by apply Array.toList_inj.1; simpa using hf
    subst this
    split at hr
    · rename_i cs hc; cases hr; exact good_makeFunc ho hc
    · cases hr
  · cases hr
theorem rMakeIface_good {t : TypeId} {x : Operand} (ho : o.op = .makeInterface t x) (hr : rMakeIface P e n h lo t x = some r) : Good P o e n h lo r := by
  unfold rMakeIface at hr
  split at hr
  · rename_i v hx
    split at hr
    · rename_i hd; cases hr; exact good_makeIface ho hx hd
    · cases hr
  · cases hr
theorem rLen_good {t : TypeId} {x : Operand} (ho : o.op = .call { callee := .builtin .len, args := #[x], argTypes := #[t] }) (hr : rLen P e n h lo o t x = some r) : Good P o e n h lo r := by
  unfold rLen at hr
  split at hr
  · rename_i v hx
    split at hr
    · rename_i hf
      split at hr
      · rename_i k hl; cases hr; exact good_len ho hx hf hl
      · cases hr
    · exact rGen_good hr
  · cases hr
theorem rConv_good {src dst : TypeId} {x : Operand} (ho : o.op = .convert src dst x) (hr : rConv P e n h lo o src dst x = some r) : Good P o e n h lo r := by
  unfold rConv at hr
  split at hr
  · rename_i id off len _ _ hx
    split at hr
    · rename_i el hs hd
      split at hr
      · rename_i he
        split at hr
        · rename_i cs more hb
          split at hr
          · rename_i ns hn
            split at hr
            · rename_i hl
              cases hr
              have := good_convBS (n := n) (lo := lo) ho hs hd he hx hb hn hl
              exact ⟨this.1, fun ι a w pre K Q hK => this.2 ι a w ⟨pre.heap, pre.env, pre.free⟩ K Q fun ι' u w' h1 => hK ι' u w' (nrm_rel h1)⟩
            · cases hr
          · cases hr
        · cases hr
      · cases hr
    · cases hr
  · exact rGen_good hr
  · cases hr
theorem rCap_good {t : TypeId} {x : Operand} (ho : o.op = .call { callee := .builtin .cap, args := #[x], argTypes := #[t] }) (hr : rCap P e n h lo o t x = some r) : Good P o e n h lo r := by
  unfold rCap at hr
  split at hr
  · rename_i id off len k c hx
    split at hr
    · rename_i hf; cases hr; exact good_cap ho hx hf
    · cases hr
  · cases hr
  · exact rGen_good hr
  · cases hr
theorem rAppend_good {t tx : TypeId} {x y : Operand} (TO : TabOk P tab) (ho : o.op = .call { callee := .builtin .append, args := #[x, y], argTypes := #[t, tx] }) (hr : rAppend P tab e n h lo t tx x y = some r) : Good P o e n h lo r := by
  unfold rAppend at hr
  split at hr
  · rename_i s v hx hy
    split at hr
    · rename_i te ht
      split at hr
      · rename_i el hs
        split at hr
        · rename_i te' hel
          split at hr
          · rename_i hc
            simp only [Bool.and_eq_true] at hc
            split at hr
            · rename_i q hq; exact good_append TO ho ht hs hel hc.1 hx hy hq hc.2 hr
            · cases hr
          · cases hr
        · cases hr
      · cases hr
    · cases hr
  · cases hr
theorem rCopy_good {t tx : TypeId} {x y : Operand} (TO : TabOk P tab) (ho : o.op = .call { callee := .builtin .copy, args := #[x, y], argTypes := #[t, tx] }) (hr : rCopy P tab e n h lo t tx x y = some r) : Good P o e n h lo r := by
  unfold rCopy at hr
  split at hr
  · rename_i id off len k cap v hx hy
    split at hr
    · rename_i te ht
      split at hr
      · rename_i el hs
        split at hr
        · rename_i te' hel
          split at hr
          · rename_i cs more hb
            split at hr
            · rename_i q hq
              split at hr
              · rename_i hc
                cases hr
                simp only [Bool.and_eq_true] at hc
                exact good_copy TO ho ht hs hel hc.1.1.1 hx hb hy hq hc.1.1.2 hc.1.2 hc.2
              · cases hr
            · cases hr
          · cases hr
        · cases hr
      · cases hr
    · cases hr
  · cases hr
theorem rDelete_good {t tk : TypeId} {x y : Operand} (TO : TabOk P tab) (ho : o.op = .call { callee := .builtin .delete, args := #[x, y], argTypes := #[t, tk] }) (hr : rDelete P tab e n h lo t x y = some r) : Good P o e n h lo r := by
  unfold rDelete at hr
  split at hr
  · rename_i id hx
    split at hr
    · rename_i te ht
      split at hr
      · rename_i K El hs
        split at hr
        · rename_i es clk hb
          split at hr
          · rename_i k hy
            split at hr
            · rename_i kv hk
              split at hr
              · rename_i q hp; cases hr; exact good_delete TO ho ht hs hx hb hy hk hp
              · cases hr
            · cases hr
          · cases hr
        · cases hr
      · cases hr
    · cases hr
  · cases hr

def Ends (ι : Io) (n : Nat) (h : Hp) (w : World) (r : V × Nat × Hp × Nat) : Ending → World → Prop := fun x w' => ∃ u ι', x = .returned u ∧ VRel ι' r.1 u ∧ HRel ι' r.2.2.1.get w' ∧ Ex n r.2.1 ι h.get w ι' r.2.2.1.get w'
def CallOk (P : Program) (call : FuncId → List V → Nat → Hp → Nat → R) : Prop := ∀ f args n h lo r, call f args n h lo = some r → Ab.isGo P f = true ∧ Syn n h lo r.2.1 r.2.2.1 r.2.2.2 ∧
  ∀ ι (us : Array Value) w, HRel ι h.get w → LRel ι args us.toList → Free ι n r.2.1 → Calls P f us w (Ends ι n h w r)
theorem good_call {call : FuncId → List V → Nat → Hp → Nat → R} (CO : CallOk P call) {c : Call} {f : Operand} {g : FuncId} {caps cs : List V} (ho : o.op = .call c) (hf : c.callee = .value f) (hx : ev e f = some (.fn g caps)) (ha : evs e c.args.toList = some cs) (hr : call g (cs ++ caps) n h lo = some r) : Good P o e n h lo r := by
  obtain ⟨h1, h2, h3⟩ := CO _ _ _ _ _ _ hr
  refine ⟨h2, fun ι a w pre K Q hK => ?_⟩
  have hv := ev_rel pre.env hx
  have hargs := evs_rel pre.env ha
  unfold Oper.wp
  generalize hau : a.eval f = u at hv
  cases hv with
  | fn _ _ C hl hh =>
    have hcs : LRel ι caps C.toList := ⟨by simpa using hl, fun i c u a b => hh i c u a (by simpa using b)⟩
    have hrun : (execOp a.eval o).run P w = .ok (.enter g (c.args.map a.eval ++ C)) w := by
      simp [execOp, ho, resolve, hf, hau, Deferred.ofValue, invoke, Ab.run_isGo h1]
    rw [hrun, Oper.upon_enter]
    refine (h3 ι (c.args.map a.eval ++ C) w pre.heap (by rw [Array.toList_append, Array.toList_map]; exact hargs.append hcs) pre.free).mono ?_
    rintro x w' ⟨u, ι', rfl, g1, g2, g3⟩
    exact hK ι' u w' g1 g2 g3
theorem arr1 {α : Type} {A : Array α} {x : α} (h : A.toList = [x]) : A = #[x] := by apply Array.toList_inj.1; simpa using h
theorem arr2 {α : Type} {A : Array α} {x y : α} (h : A.toList = [x, y]) : A = #[x, y] := by apply Array.toList_inj.1; simpa using h
theorem rCall_good {call : FuncId → List V → Nat → Hp → Nat → R} {known : FuncId → Bool} (TO : TabOk P tab) (CO : CallOk P call) {c : Call} (ho : o.op = .call c) (hr : rCall P tab e n h lo o call known c = some r) : Good P o e n h lo r := by
  obtain ⟨cal, args, ats⟩ := c
  unfold rCall at hr
  split at hr
  · rename_i b hb
    have hb : cal = .builtin b := hb
    subst hb
    dsimp only at hr
    split at hr
    · rename_i h1 h2; rw [arr1 h1, arr1 h2] at ho; exact rLen_good ho hr
    · rename_i h1 h2; rw [arr1 h1, arr1 h2] at ho; exact rCap_good ho hr
    · rename_i h1 h2; rw [arr2 h1, arr2 h2] at ho; exact rAppend_good TO ho hr
    · rename_i h1 h2; rw [arr2 h1, arr2 h2] at ho; exact rCopy_good TO ho hr
    · rename_i h1 h2; rw [arr2 h1, arr2 h2] at ho; exact rDelete_good TO ho hr
    · exact rGen_good hr
  · rename_i f hf
    split at hr
    · rename_i g caps hx
      split at hr
      · split at hr
        · rename_i cs ha; exact good_call CO ho hf hx ha hr
        · cases hr
      · exact rGen_good hr
    · cases hr
  · exact rGen_good hr
theorem rop_good {call : FuncId → List V → Nat → Hp → Nat → R} {known : FuncId → Bool} (TO : TabOk P tab) (CO : CallOk P call) (hr : rop P tab e n h lo o call known = some r) : Good P o e n h lo r := by
  unfold rop at hr
  split at hr
  · rename_i ho; exact rMove_good (.inl ho) hr
  · rename_i ho; exact rMove_good (.inr ho) hr
  · rename_i ho; exact rPick_good ho hr
  · rename_i ho; exact rExtract_good ho hr
  · rename_i ho; exact rField_good TO ho hr
  · rename_i ho; exact rNilCheck_good ho hr
  · rename_i ho; exact rBin_good ho hr
  · rename_i ho; exact rLoad_good TO ho hr
  · rename_i ho; exact rStore_good TO ho hr
  · rename_i ho; exact rFieldAddr_good TO ho hr
  · rename_i ho; exact rIndexAddr_good TO ho hr
  · rename_i ho; exact rIndex_good TO ho hr
  · rename_i ho; exact rAlloc_good TO ho hr
  · rename_i ho; exact rBox_good ho hr
  · rename_i ho; exact rBuild_good TO ho hr
  · rename_i ho; exact rBuildSlice_good TO ho hr
  · rename_i ho; exact rMakeSlice_good TO ho hr
  · rename_i ho; exact rSlice_good TO ho hr
  · rename_i ho; exact rLookup_good TO ho hr
  · rename_i ho; exact rMapUpdate_good TO (.inl ho) hr
  · rename_i ho; exact rMapUpdate_good TO (.inr ho) hr
  · rename_i ho; exact rMapEntry_good TO ho hr
  · rename_i ho; exact rEntryStore_good ho hr
  · rename_i ho; cases hr; exact good_makeMap ho
  · rename_i ho; exact rRange_good ho hr
  · rename_i ho; exact rNext_good ho hr
  · rename_i ho; exact rMakeFunc_good ho hr
  · rename_i ho; exact rMakeIface_good ho hr
  · rename_i ho; exact rConv_good ho hr
  · rename_i ho; exact rCall_good TO CO ho hr
  · exact rGen_good hr
end
end Go.Proofs.YtamnhhjcgloceaaGreat.Rn

namespace Go.Proofs.YtamnhhjcgloceaaGreat.Rn
set_option linter.unusedVariables false
open Go.RowKit
open Go.Proofs.YtamnhhjcgloceaaGreat.Ab (TE TTab tlook TabOk TFacts win setW setW_get win_get Sh)

inductive X where
  | normal
  | exit (id : Nat)
  | goto (l : Nat)
  | ret
def X.to : X → Exit
  | .normal => .normal
  | .exit id => .exit id
  | .goto l => .goto l
  | .ret => .ret
structure St where
  e : Ev
  n : Nat
  h : Hp
  lo : Nat
abbrev RC := Option (X × St)

def putE (nt : Nat) (d : Option Tmp) (v : V) (e : Ev) : Option Ev := match d with
  | some t => match Nat.blt t nt with
    | true => some (e.set t v)
    | false => none
  | none => some e
def wantV (ops : Array Oper) (e : Ev) (o : Oper) : Option Bool := match o.guard with
  | none => some true
  | some (j, b) => match ((ops[j]?).bind (·.dst)).bind e.get with
    | some (.sc (.bool c)) => some (c == b)
    | some (.sc (.tuple _)) => some false
    | _ => none
structure Marks (z : Nat) (ι : Io) (g : Gm) (w : World) (ds : List Deferred) : Prop where
  all : ∀ d ∈ ds, ∃ r, d = { target := .collected r, args := #[] } ∧ z ≤ r ∧ w.heap[r]? = some (.deferred (some [])) ∧ ∀ id b m, g id = some b → ι id ≠ some (r, m)
  apart : ds.Pairwise fun a b => a ≠ b
  low : z ≤ w.heap.size
theorem Marks.nil {z : Nat} {ι : Io} {g : Gm} {w : World} (h : z ≤ w.heap.size) : Marks z ι g w [] := ⟨by simp, .nil, h⟩
theorem Marks.ex {z n n' : Nat} {ι ι' : Io} {g g' : Gm} {w w' : World} {ds : List Deferred} (M : Marks z ι g w ds) (E : Ex n n' ι g w ι' g' w') : Marks z ι' g' w' ds :=
  ⟨fun d hd => by
    obtain ⟨r, h1, h2, h3, h4⟩ := M.all d hd
    have hlt : r < w.heap.size := (Array.getElem?_eq_some_iff.1 h3).1
    refine ⟨r, h1, h2, by rw [E.mem r hlt h4]; exact h3, fun id b m hb hi => ?_⟩
    obtain ⟨j, b', m', h5, h6⟩ := E.old id b r m hb hi hlt
    exact h4 j b' m' h5 h6, M.apart, Nat.le_trans M.low E.size⟩
structure Rl (z : Nat) (ι : Io) (nt : Nat) (e : Ev) (g : Gm) (a : Act) (w : World) : Prop where
  heap : HRel ι g w
  env : ERel ι e a
  defers : Marks z ι g w a.defers
  size : nt ≤ a.tmps.size
section
variable {P : Program} {tab : TTab} {ops : Array Oper} {o : Oper} {e : Ev} {n : Nat} {h : Hp} {lo nt : Nat}
theorem wantV_rel {ι : Io} {a : Act} (E : ERel ι e a) {b : Bool} (hw : wantV ops e o = some b) : Region.wanted o (yielded ops a.tmps) = b := by
  unfold wantV at hw
  unfold Region.wanted
  split at hw
  · rename_i hg; cases hw; rw [hg]
  · rename_i j want hg
    rw [hg]
    show (yielded ops a.tmps j == some want) = b
    unfold yielded
    cases hd : (ops[j]?).bind (·.dst) with
    | none => simp [hd] at hw
    | some t =>
      simp only [hd, Option.bind_some] at hw
      split at hw
      · rename_i c hl
        obtain ⟨u, hu, hv⟩ := E t _ hl
        cases hw
        cases hv
        simp [hu]
      · rename_i c hl
        obtain ⟨u, hu, hv⟩ := E t _ hl
        cases hw
        cases hv
        simp [hu]
      · cases hw
theorem putE_rel {z : Nat} {ι : Io} {g : Gm} {a : Act} {w : World} (R : Rl z ι nt e g a w) {d : Option Tmp} {v : V} {u : Value} {e' : Ev} (hv : VRel ι v u) (hp : putE nt d v e = some e') : Rl z ι nt e' g (a.put d u) w := by
  unfold putE at hp
  refine ⟨R.heap, ?_, by rw [Ab.put_defers]; exact R.defers, by rw [Ab.put_size]; exact R.size⟩
  split at hp
  · rename_i t
    split at hp
    · rename_i ht; cases hp; exact R.env.put (Nat.lt_of_lt_of_le (blt_lt ht) R.size) hv
    · cases hp
  · cases hp; exact R.env

variable (P tab) in
def rops (call : FuncId → List V → Nat → Hp → Nat → R) (known : FuncId → Bool) (ops : Array Oper) (nt : Nat) : List Oper → St → Option St
  | [], s => some s
  | o :: rest, s => match wantV ops s.e o with
    | some true => match rop P tab s.e s.n s.h s.lo o call known with
      | some r => match putE nt o.dst r.1 s.e with
        | some e' => rops call known ops nt rest ⟨e', r.2.1, r.2.2.1, r.2.2.2⟩
        | none => none
      | none => none
    | some false => match putE nt o.dst (.sc undef) s.e with
      | some e' => rops call known ops nt rest ⟨e', s.n, s.h, s.lo⟩
      | none => none
    | none => none
def CPost (z nt : Nat) (x : X) (s s' : St) (ι : Io) (w : World) : Exit → Act → World → Prop := fun x' a' w' => x' = x.to ∧ ∃ ι', Rl z ι' nt s'.e s'.h.get a' w' ∧ Ex s.n s'.n ι s.h.get w ι' s'.h.get w'
abbrev SynS (s s' : St) : Prop := Syn s.n s.h s.lo s'.n s'.h s'.lo
theorem rops_good {call : FuncId → List V → Nat → Hp → Nat → R} {known : FuncId → Bool} (TO : TabOk P tab) (CO : CallOk P call) : ∀ (l : List Oper) (s s' : St), rops P tab call known ops nt l s = some s' →
    SynS s s' ∧ ∀ {z : Nat} ι a w, Rl z ι nt s.e s.h.get a w → Free ι s.n s'.n → ∀ Q : Exit → Act → World → Prop, (∀ x a' w', CPost z nt .normal s s' ι w x a' w' → Q x a' w') → wpList P ops Q l a w
  | [], s, s', hr => by
    cases hr
    exact ⟨Syn.refl _ _ _, fun ι a w R hf Q hQ => wpList_nil (hQ _ _ _ ⟨rfl, ι, R, Ex.refl _ _ _ _⟩)⟩
  | o :: rest, s, s', hr => by
    rw [rops] at hr
    split at hr
    · rename_i hw
      split at hr
      · rename_i r hop
        split at hr
        · rename_i e' hp
          obtain ⟨g1, g2⟩ := rop_good TO CO hop
          obtain ⟨h1, h2⟩ := rops_good TO CO rest _ s' hr
          refine ⟨g1.trans h1, fun ι a w R hf Q hQ => wpList_step fun K hK => ?_⟩
          rw [wantV_rel R.env hw, if_pos rfl]
          have hle : r.2.1 ≤ s'.n := h1.le
          refine g2 ι a w ⟨R.heap, R.env, hf.left hle⟩ K _ fun ι' u w' hv hH hE => hK _ _ ?_
          have hio := hE.io (hf.left hle)
          have R' : Rl _ ι' nt s.e r.2.2.1.get a w' := ⟨hH, R.env.mono hio, R.defers.ex hE, R.size⟩
          refine h2 ι' _ w' (putE_rel R' hv hp) (hf.right hE) Q fun x a' w2 ⟨hx, ι2, R2, E2⟩ => hQ x a' w2 ⟨hx, ι2, R2, hE.trans E2⟩
        · cases hr
      · cases hr
    · rename_i hw
      split at hr
      · rename_i e' hp
        obtain ⟨h1, h2⟩ := rops_good TO CO rest _ s' hr
        refine ⟨h1, fun ι a w R hf Q hQ => wpList_step fun K hK => ?_⟩
        rw [wantV_rel R.env hw]
        exact hK _ _ (h2 ι _ w (putE_rel R (.sc _) hp) hf Q hQ)
      · cases hr
    · cases hr

def LoopWp (P : Program) (c : Code) (Q : Exit → Act → World → Prop) (a : Act) (w : World) : Prop :=
  ∀ (b : Frame) (k : List Item) (cs : List Frame), ∃ x a' w', Q x a' w' ∧ Arrives P (lone (b.at a (.inLoop c :: k)) cs w) b k cs x a' w'
theorem loop_unroll {c : Code} {Q : Exit → Act → World → Prop} {a : Act} {w : World} (H : c.wp P (Exit.then (LoopWp P c Q) Q) a w) : (Code.loop c).wp P Q a w ∧ LoopWp P c Q a w := by
  have key : ∀ (b : Frame) (k : List Item) (cs : List Frame), ∃ x a' w', Q x a' w' ∧ Arrives P (lone (b.at a (.code c :: .inLoop c :: k)) cs w) b k cs x a' w' := by
    intro b k cs
    obtain ⟨x, a1, w1, hq, harr⟩ := H b (.inLoop c :: k) cs
    cases x with
    | normal =>
      obtain ⟨x2, a2, w2, hq2, harr2⟩ := hq b k cs
      exact ⟨x2, a2, w2, hq2, .of_steps harr harr2⟩
    | exit id => exact ⟨_, a1, w1, hq, .pass (x := .inLoop c) rfl (fun _ _ => .inl (by simp)) harr⟩
    | goto l => exact ⟨_, a1, w1, hq, .pass (x := .inLoop c) rfl (fun _ _ => .inl (by simp)) harr⟩
    | ret => exact ⟨_, a1, w1, hq, .pass (x := .inLoop c) rfl (fun _ _ => .inl (by simp)) harr⟩
    | panic ch => exact ⟨_, a1, w1, hq, .pass (x := .inLoop c) rfl (fun _ _ => .inl (by simp)) harr⟩
    | outgrown => exact ⟨_, a1, w1, hq, .pass (x := .inLoop c) rfl (fun _ _ => .inl (by simp)) harr⟩
  refine ⟨fun b k cs => ?_, fun b k cs => ?_⟩
  · obtain ⟨x, a', w', hq, harr⟩ := key b k cs
    exact ⟨x, a', w', hq, .of_steps (.one step_loop) harr⟩
  · obtain ⟨x, a', w', hq, harr⟩ := key b k cs
    exact ⟨x, a', w', hq, .of_steps (.one step_inLoop) harr⟩
def ScopeWp (P : Program) (c r : Code) (Q : Exit → Act → World → Prop) (a : Act) (w : World) : Prop :=
  ∀ (b : Frame) (k : List Item) (cs : List Frame), ∃ x a' w', Q x a' w' ∧ Arrives P (lone (b.at a (.code r :: .inScope c :: k)) cs w) b k cs x a' w'
def inSc (P : Program) (c : Code) (Q : Exit → Act → World → Prop) : Exit → Act → World → Prop
  | .goto l, a, w => match findLabel c l with
    | some rest => ScopeWp P c rest Q a w
    | none => Q (.goto l) a w
  | x, a, w => Q x a w
theorem scope_pass {c r : Code} {Q : Exit → Act → World → Prop} {a : Act} {w : World} (H : r.wp P (inSc P c Q) a w) : ScopeWp P c r Q a w := by
  intro b k cs
  obtain ⟨x, a1, w1, hq, harr⟩ := H b (.inScope c :: k) cs
  cases x with
  | normal => exact ⟨.normal, a1, w1, hq, Steps.trans harr (.one step_inScope)⟩
  | exit id => exact ⟨.exit id, a1, w1, hq, fun k' hk => harr k' (by simp [exitTo, hk])⟩
  | goto l =>
    cases hf : findLabel c l with
    | none => exact ⟨.goto l, a1, w1, by simpa [inSc, hf] using hq, fun k' hk => harr k' (by simp [gotoIn, hf, hk])⟩
    | some rest =>
      have h1 : ScopeWp P c rest Q a1 w1 := by simpa [inSc, hf] using hq
      obtain ⟨x2, a2, w2, hq2, harr2⟩ := h1 b k cs
      exact ⟨x2, a2, w2, hq2, .of_steps (harr _ (by simp [gotoIn, hf])) harr2⟩
  | ret => exact ⟨_, a1, w1, hq, harr⟩
  | panic ch => exact ⟨_, a1, w1, hq, harr⟩
  | outgrown => exact ⟨_, a1, w1, hq, harr⟩
theorem wp_scope_all {c : Code} {Q : Exit → Act → World → Prop} {a : Act} {w : World} (H : ScopeWp P c c Q a w) : (Code.scope c).wp P Q a w := by
  intro b k cs
  obtain ⟨x, a', w', hq, harr⟩ := H b k cs
  exact ⟨x, a', w', hq, .of_steps (.one step_scope) harr⟩
def Sound (P : Program) (nt : Nat) (c : Code) (s : St) (x : X) (s' : St) : Prop := SynS s s' ∧ ∀ {z : Nat} ι a w, Rl z ι nt s.e s.h.get a w → Free ι s.n s'.n →
  c.wp P (CPost z nt x s s' ι w) a w ∧ ∀ c', c = .loop c' → LoopWp P c' (CPost z nt x s s' ι w) a w
def IhOk (P : Program) (ih : Nat → Code → St → RC) : Prop := ∀ nt c s x s', ih nt c s = some (x, s') → Sound P nt c s x s'

def CallOkG (P : Program) (j : Nat) (call : FuncId → List V → Nat → Hp → Nat → R) : Prop := ∀ f args n h lo r, call f args n h lo = some r → Ab.isGo P f = true ∧ Syn n h lo r.2.1 r.2.2.1 r.2.2.2 ∧
  ∀ ι (us : Array Value) w, HRel ι h.get w → us.size = args.length + j → LRel ι args (us.toList.drop j) → Free ι n r.2.1 → Calls P f us w (Ends ι n h w r)
theorem HRel.keep {ι : Io} {g : Gm} {w w' : World} (H : HRel ι g w) (hk : ∀ id b r m, g id = some b → ι id = some (r, m) → w'.heap[r]? = w.heap[r]?) : HRel ι g w' :=
  ⟨fun id b hb => by obtain ⟨r, m, h1, h2⟩ := H.blk id b hb; exact ⟨r, m, h1, h2.mono (fun _ _ h => h) (hk id b r m hb h1)⟩, H.inj⟩
theorem HRel.lt {ι : Io} {g : Gm} {w : World} (H : HRel ι g w) {id : Nat} {b : B} {r m : Nat} (hb : g id = some b) (hi : ι id = some (r, m)) : r < w.heap.size := by
  obtain ⟨r', m', h1, h2⟩ := H.blk id b hb
  rw [hi] at h1
  cases h1
  exact h2.lt
theorem rangeFunc_none {ry : FuncId → List V → Nat → Hp → Nat → R} (YO : CallOkG P 1 ry) {z nt : Nat} {s : St} {g : Operand} {ps : Array Tmp} {asg bd : Code} {f : FuncId} {caps : List V} (hx : ev s.e g = some (.fn f caps)) {r : V × Nat × Hp × Nat} (hr : ry f caps s.n s.h s.lo = some r) (ι : Io) (a : Act) (w : World) (R : Rl z ι nt s.e s.h.get a w) (hf : Free ι s.n r.2.1) :
    (Code.rangeFunc g ps asg bd).wp P (CPost z nt .normal s ⟨s.e, r.2.1, r.2.2.1, r.2.2.2⟩ ι w) a w := by
  obtain ⟨hgo, hsyn, hcall⟩ := YO _ _ _ _ _ _ hr
  have hv := ev_rel R.env hx
  generalize hau : a.eval g = u at hv
  cases hv with
  | fn _ _ C hl hh =>
    refine wpIn_wide.1 (wpIn_rangeFunc (F := Fence.wide) (n := 0) fun fn hfn => ?_)
    obtain ⟨rec, hrec⟩ : ∃ rec : LoopState → Loop, rec = fun st => { state := st, pending := none, fn, tmps := a.tmps, params := ps, assign := asg, body := bd, defers := w.heap.size } := ⟨_, rfl⟩
    obtain ⟨W1, hW1⟩ : ∃ W1, (w.alloc (.deferred (some []))).alloc (.loop (rec .ready)) = W1 := ⟨_, rfl⟩
    have hs1 : W1.heap.size = w.heap.size + 2 := by rw [← hW1, World.size_alloc, World.size_alloc]
    have hL1 : W1.heap[w.heap.size + 1]? = some (.loop (rec .ready)) := by
      rw [← hW1]; have := World.alloc_heap_new (w.alloc (.deferred (some []))) (.loop (rec .ready)); rwa [World.size_alloc] at this
    have hK1 : W1.heap[w.heap.size]? = some (.deferred (some [])) := by
      rw [← hW1]; exact (Below.heap_alloc _ _ _ (by simp)).trans (World.alloc_heap_new w _)
    have hkeep1 : ∀ q, q < w.heap.size → W1.heap[q]? = w.heap[q]? := fun q hq => by
      rw [← hW1]; exact (Below.heap_alloc _ _ _ (by rw [World.size_alloc]; omega)).trans (Below.heap_alloc _ _ _ hq)
    have hsame1 : W1.os = w.os ∧ W1.tape = w.tape ∧ W1.output = w.output := by rw [← hW1]; exact ⟨rfl, rfl, rfl⟩
    have H1 : HRel ι s.h.get W1 := R.heap.keep fun id b q m hb hi => hkeep1 q (R.heap.lt hb hi)
    have hC : LRel ι caps C.toList := ⟨by simpa using hl, fun i c u a b => hh i c u a (by simpa using b)⟩
    obtain ⟨us, hus⟩ : ∃ us : Array Value, #[.func (.yield (w.heap.size + 1)) #[] #[]] ++ C = us := ⟨_, rfl⟩
    have huL : us.toList = .func (.yield (w.heap.size + 1)) #[] #[] :: C.toList := by rw [← hus]; simp
    have hc := hcall ι us W1 H1 (by rw [← hus]; simp [hl]; omega) (by rw [huL]; exact hC) hf
    refine ⟨w.heap.size + 1, [{ target := .collected w.heap.size, args := #[] }], W1, { target := .fn (.func f) C, args := #[.func (.yield (w.heap.size + 1)) #[] #[]] }, W1, f, us, W1, ?_, ?_, fun _ _ => trivial, ?_, (fun h => by cases h), callsIn_wide.2 (hc.mono ?_)⟩
    · rw [← hW1, hrec]; exact run_enterLoop_outer _ _ _ _ _
    · simp only [resolve, hau]
      simp [go_sem]
    · rw [← hus]; simp [invoke, Ab.run_isGo hgo]
    · rintro x w3 ⟨u, ι', rfl, hu, H3, E3⟩
      -- which blocks live then
      have live : ∀ id b q m, r.2.2.1.get id = some b → ι' id = some (q, m) → q ≠ w.heap.size + 1 ∧ q ≠ w.heap.size := fun id b q m hb hi => by
        by_cases hq : q < W1.heap.size
        · obtain ⟨j, b', m', h1, h2⟩ := E3.old id b q m hb hi hq
          have := R.heap.lt h1 h2
          omega
        · omega
      have old : ∀ id b q m, s.h.get id = some b → ι id = some (q, m) → q < w.heap.size := fun id b q m hb hi => R.heap.lt hb hi
      have hL3 : w3.heap[w.heap.size + 1]? = some (.loop (rec .ready)) := by
        rw [E3.mem _ (by omega) fun id b m hb hi => by have := old _ _ _ _ hb hi; omega]; exact hL1
      have hK3 : w3.heap[w.heap.size]? = some (.deferred (some [])) := by
        rw [E3.mem _ (by omega) fun id b m hb hi => by have := old _ _ _ _ hb hi; omega]; exact hK1
      obtain ⟨w4, hw4⟩ : ∃ w4, w3.putObj (w.heap.size + 1) (.loop { rec .ready with state := .exhausted }) = w4 := ⟨_, rfl⟩
      have hput : ∀ q, q ≠ w.heap.size + 1 → w4.heap[q]? = w3.heap[q]? := fun q hq => by rw [← hw4]; exact World.putObj_heap_other (by omega)
      have hs4 : w4.heap.size = w3.heap.size := by rw [← hw4]; simp
      have hsame4 : w4.os = w3.os ∧ w4.tape = w3.tape ∧ w4.output = w3.output := by rw [← hw4]; exact ⟨rfl, rfl, rfl⟩
      have E : Ex s.n r.2.1 ι s.h.get w ι' r.2.2.1.get w4 :=
        ⟨hsame4.1.trans (E3.os.trans hsame1.1), hsame4.2.1.trans (E3.tape.trans hsame1.2.1), hsame4.2.2.trans (E3.output.trans hsame1.2.2), by have := E3.size; omega, E3.le, E3.same,
          fun q hq hn => by rw [hput q (by omega), E3.mem q (by omega) hn, hkeep1 q hq],
          fun id b q m hb hi hq => E3.old id b q m hb hi (by omega)⟩
      have M := R.defers.ex E
      refine ⟨none, w4, ?_, rfl, ι', ⟨H3.keep fun id b q m hb hi => hput q (live _ _ _ _ hb hi).1, R.env.mono (E.io hf), ?_, R.size⟩, E⟩
      · rw [← hw4]
        have := run_endLoop (P := P) hL3 (by rw [hrec]; simp)
        rw [this, hrec]
      · refine ⟨fun d hd => ?_, List.pairwise_cons.2 ⟨fun d hd => ?_, M.apart⟩, M.low⟩
        · rcases List.mem_cons.1 hd with rfl | hd
          · refine ⟨w.heap.size, rfl, R.defers.low, by rw [hput _ (by omega)]; exact hK3, fun id b m hb hi => (live _ _ _ _ hb hi).2 rfl⟩
          · exact M.all d hd
        · obtain ⟨q, h1, _, h3, _⟩ := R.defers.all d hd
          rw [h1]
          intro h
          cases h
          exact absurd (Array.getElem?_eq_some_iff.1 h3).1 (by omega)
def sgo (ih : Nat → Code → St → RC) (nt : Nat) (c : Code) (m : Nat) : Code → St → RC := Nat.rec (fun _ _ => none) (fun _ go r s => match ih nt r s with
  | some (.goto l, s1) => match findLabel c l with
    | some rest => go rest s1
    | none => some (.goto l, s1)
  | q => q) m
def rstep (rg : Nat → Array Oper → St → Option St) (dr : Nat → Array Oper → St → Option St) (ry : FuncId → List V → Nat → Hp → Nat → R) (ih : Nat → Code → St → RC) (nt : Nat) (c : Code) (s : St) : RC := match c with
  | .skip => some (.normal, s)
  | .label _ => some (.normal, s)
  | .exit id => some (.exit id, s)
  | .ret => some (.ret, s)
  | .goto l => some (.goto l, s)
  | .scope a => sgo ih nt a 400 a s
  | .seq a b => match ih nt a s with
    | some (.normal, s1) => ih nt b s1
    | r => r
  | .cond x a b => match ev s.e x with
    | some (.sc (.bool true)) => ih nt a s
    | some (.sc (.bool false)) => ih nt b s
    | _ => none
  | .block id a => match ih nt a s with
    | some (.exit j, s1) => match Nat.beq j id with
      | true => some (.normal, s1)
      | false => some (.exit j, s1)
    | r => r
  | .loop a => match ih nt a s with
    | some (.normal, s1) => ih nt (.loop a) s1
    | r => r
  | .region _ ops false => match rg nt ops s with
    | some s1 => some (.normal, s1)
    | none => none
  | .region _ ops true => match dr nt ops s with
    | some s1 => some (.normal, s1)
    | none => none
  | .rangeFunc g _ _ _ => match ev s.e g with
    | some (.fn f caps) => match ry f caps s.n s.h s.lo with
      | some r => some (.normal, ⟨s.e, r.2.1, r.2.2.1, r.2.2.2⟩)
      | none => none
    | _ => none
  | _ => none
theorem cpost_trans {z : Nat} {s s1 s2 : St} {ι ι1 : Io} {w w1 : World} {x : X} {x' : Exit} {a' : Act} {w' : World} (hE : Ex s.n s1.n ι s.h.get w ι1 s1.h.get w1) (h : CPost z nt x s1 s2 ι1 w1 x' a' w') : CPost z nt x s s2 ι w x' a' w' := by
  obtain ⟨h1, ι2, R, E⟩ := h
  exact ⟨h1, ι2, R, hE.trans E⟩
def RegOk (P : Program) (dr : Nat → Array Oper → St → Option St) (b : Bool) : Prop := ∀ nt ops s s', dr nt ops s = some s' → SynS s s' ∧ ∀ {z : Nat} id ι a w, Rl z ι nt s.e s.h.get a w → Free ι s.n s'.n → (Code.region id ops b).wp P (CPost z nt .normal s s' ι w) a w
theorem sgo_good {ih : Nat → Code → St → RC} (IO : IhOk P ih) {c : Code} : ∀ (m : Nat) (r : Code) (s : St) (x : X) (s' : St), sgo ih nt c m r s = some (x, s') → SynS s s' ∧ ∀ {z : Nat} ι a w, Rl z ι nt s.e s.h.get a w → Free ι s.n s'.n → ScopeWp P c r (CPost z nt x s s' ι w) a w
  | 0, r, s, x, s', h => by cases h
  | m + 1, r, s, x, s', h => by
    have h : (match ih nt r s with
      | some (.goto l, s1) => match findLabel c l with
        | some rest => sgo ih nt c m rest s1
        | none => some (.goto l, s1)
      | q => q) = some (x, s') := h
    cases h1 : ih nt r s with
    | none => rw [h1] at h; cases h
    | some q =>
      obtain ⟨x1, s1⟩ := q
      obtain ⟨g1, g2⟩ := IO _ _ _ _ _ h1
      rw [h1] at h
      have plain : ∀ {x : X}, (∀ l, x ≠ .goto l) → IhOk P ih → (∀ {z : Nat} ι a w, Rl z ι nt s.e s.h.get a w → Free ι s.n s1.n → r.wp P (CPost z nt x s s1 ι w) a w) → ∀ {z : Nat} ι a w, Rl z ι nt s.e s.h.get a w → Free ι s.n s1.n → ScopeWp P c r (CPost z nt x s s1 ι w) a w := fun {x} hx _ H {z} ι a w R hf => scope_pass (wp_mono (H ι a w R hf) fun x' a' w' hq => by
        obtain ⟨rfl, hq⟩ := hq
        cases x with
        | normal => exact ⟨rfl, hq⟩
        | exit j => exact ⟨rfl, hq⟩
        | ret => exact ⟨rfl, hq⟩
        | goto l => exact absurd rfl (hx l))
      cases x1 with
      | normal => cases h; exact ⟨g1, plain (fun _ h => by cases h) IO fun ι a w R hf => (g2 ι a w R hf).1⟩
      | exit j => cases h; exact ⟨g1, plain (fun _ h => by cases h) IO fun ι a w R hf => (g2 ι a w R hf).1⟩
      | ret => cases h; exact ⟨g1, plain (fun _ h => by cases h) IO fun ι a w R hf => (g2 ι a w R hf).1⟩
      | goto l =>
        dsimp only at h
        cases hf : findLabel c l with
        | none =>
          rw [hf] at h
          cases h
          refine ⟨g1, fun ι a w R hfr => scope_pass (wp_mono (g2 ι a w R hfr).1 fun x' a' w' hq => ?_)⟩
          obtain ⟨rfl, hq⟩ := hq
          show inSc P c _ (.goto l) a' w'
          simp only [inSc, hf]
          exact ⟨rfl, hq⟩
        | some rest =>
          rw [hf] at h
          obtain ⟨g3, g4⟩ := sgo_good IO m rest s1 x s' h
          refine ⟨g1.trans g3, fun ι a w R hfr => scope_pass (wp_mono (g2 ι a w R (hfr.left g3.le)).1 fun x' a' w' hq => ?_)⟩
          obtain ⟨rfl, ι1, R1, E1⟩ := hq
          show inSc P c _ (.goto l) a' w'
          simp only [inSc, hf]
          intro b k cs
          obtain ⟨x2, a2, w2, h2, h3⟩ := g4 ι1 a' w' R1 (hfr.right E1) b k cs
          exact ⟨x2, a2, w2, cpost_trans E1 h2, h3⟩
theorem rstep_good {rg dr : Nat → Array Oper → St → Option St} {ry : FuncId → List V → Nat → Hp → Nat → R} {ih : Nat → Code → St → RC} (RO : RegOk P rg false) (DO : RegOk P dr true) (YO : CallOkG P 1 ry) (IO : IhOk P ih) : IhOk P (rstep rg dr ry ih) := by
  intro nt c s x s' hr
  have plain : ∀ {c : Code} {s : St} {x : X} {s' : St}, (∀ c', c ≠ .loop c') → (SynS s s' ∧ ∀ {z : Nat} ι a w, Rl z ι nt s.e s.h.get a w → Free ι s.n s'.n → c.wp P (CPost z nt x s s' ι w) a w) → Sound P nt c s x s' := fun hc h => ⟨h.1, fun ι a w R hf => ⟨h.2 ι a w R hf, fun c' h' => absurd h' (hc c')⟩⟩
  cases c with
  | skip => cases hr; exact plain (fun _ h => by cases h) ⟨Syn.refl _ _ _, fun ι a w R hf => wp_skip ⟨rfl, ι, R, Ex.refl _ _ _ _⟩⟩
  | label l => cases hr; exact plain (fun _ h => by cases h) ⟨Syn.refl _ _ _, fun ι a w R hf => wp_label ⟨rfl, ι, R, Ex.refl _ _ _ _⟩⟩
  | exit id => cases hr; exact plain (fun _ h => by cases h) ⟨Syn.refl _ _ _, fun ι a w R hf => wp_exit ⟨rfl, ι, R, Ex.refl _ _ _ _⟩⟩
  | ret => cases hr; exact plain (fun _ h => by cases h) ⟨Syn.refl _ _ _, fun ι a w R hf => wp_ret ⟨rfl, ι, R, Ex.refl _ _ _ _⟩⟩
  | goto l => cases hr; exact plain (fun _ h => by cases h) ⟨Syn.refl _ _ _, fun ι a w R hf => wp_goto ⟨rfl, ι, R, Ex.refl _ _ _ _⟩⟩
  | scope c1 =>
    refine plain (fun _ h => by cases h) ?_
    obtain ⟨g1, g2⟩ := sgo_good IO 400 c1 s x s' hr
    exact ⟨g1, fun ι a w R hf => wp_scope_all (g2 ι a w R hf)⟩
  | seq c1 c2 =>
    refine plain (fun _ h => by cases h) ?_
    rw [rstep] at hr
    cases h1 : ih nt c1 s with
    | none => rw [h1] at hr; cases hr
    | some q =>
      obtain ⟨x1, s1⟩ := q
      obtain ⟨g1, g2⟩ := IO _ _ _ _ _ h1
      rw [h1] at hr
      cases x1 with
      | normal =>
        dsimp only at hr
        obtain ⟨g3, g4⟩ := IO _ _ _ _ _ hr
        refine ⟨g1.trans g3, fun ι a w R hf => wp_seq (wp_mono (g2 ι a w R (hf.left g3.le)).1 fun x' a' w' hq => ?_)⟩
        obtain ⟨rfl, ι1, R1, E1⟩ := hq
        exact wp_mono (g4 ι1 a' w' R1 (hf.right E1)).1 fun x2 a2 w2 h2 => cpost_trans E1 h2
      | exit j => cases hr; exact ⟨g1, fun ι a w R hf => wp_seq (wp_mono (g2 ι a w R hf).1 fun x' a' w' hq => by obtain ⟨rfl, hq⟩ := hq; exact ⟨rfl, hq⟩)⟩
      | ret => cases hr; exact ⟨g1, fun ι a w R hf => wp_seq (wp_mono (g2 ι a w R hf).1 fun x' a' w' hq => by obtain ⟨rfl, hq⟩ := hq; exact ⟨rfl, hq⟩)⟩
      | goto l => cases hr; exact ⟨g1, fun ι a w R hf => wp_seq (wp_mono (g2 ι a w R hf).1 fun x' a' w' hq => by obtain ⟨rfl, hq⟩ := hq; exact ⟨rfl, hq⟩)⟩
  | cond c a b =>
    refine plain (fun _ h => by cases h) ?_
    rw [rstep] at hr
    split at hr
    · rename_i hc
      obtain ⟨g1, g2⟩ := IO _ _ _ _ _ hr
      exact ⟨g1, fun ι ac w R hf => wp_cond_true (tv_rel (ev_rel R.env hc) _ rfl) (g2 ι ac w R hf).1⟩
    · rename_i hc
      obtain ⟨g1, g2⟩ := IO _ _ _ _ _ hr
      exact ⟨g1, fun ι ac w R hf => wp_cond_false (tv_rel (ev_rel R.env hc) _ rfl) (g2 ι ac w R hf).1⟩
    · cases hr
  | block id c1 =>
    refine plain (fun _ h => by cases h) ?_
    rw [rstep] at hr
    cases h1 : ih nt c1 s with
    | none => rw [h1] at hr; cases hr
    | some q =>
      obtain ⟨x1, s1⟩ := q
      obtain ⟨g1, g2⟩ := IO _ _ _ _ _ h1
      rw [h1] at hr
      cases x1 with
      | normal => cases hr; exact ⟨g1, fun ι a w R hf => wp_block (wp_mono (g2 ι a w R hf).1 fun x' a' w' hq => by obtain ⟨rfl, hq⟩ := hq; exact ⟨rfl, hq⟩)⟩
      | ret => cases hr; exact ⟨g1, fun ι a w R hf => wp_block (wp_mono (g2 ι a w R hf).1 fun x' a' w' hq => by obtain ⟨rfl, hq⟩ := hq; exact ⟨rfl, hq⟩)⟩
      | goto l => cases hr; exact ⟨g1, fun ι a w R hf => wp_block (wp_mono (g2 ι a w R hf).1 fun x' a' w' hq => by obtain ⟨rfl, hq⟩ := hq; exact ⟨rfl, hq⟩)⟩
      | exit j =>
        dsimp only at hr
        split at hr
        · rename_i hj
          cases hr
          have hj := Nat.eq_of_beq_eq_true hj
          subst hj
          refine ⟨g1, fun ι a w R hf => wp_block (wp_mono (g2 ι a w R hf).1 fun x' a' w' hq => ?_)⟩
          obtain ⟨rfl, hq⟩ := hq
          show if j = j then _ else _
          rw [if_pos rfl]
          exact ⟨rfl, hq⟩
        · rename_i hj
          cases hr
          refine ⟨g1, fun ι a w R hf => wp_block (wp_mono (g2 ι a w R hf).1 fun x' a' w' hq => ?_)⟩
          obtain ⟨rfl, hq⟩ := hq
          show if j = id then _ else _
          rw [if_neg (Ab.of_beq_no hj)]
          exact ⟨rfl, hq⟩
  | loop c1 =>
    rw [rstep] at hr
    cases h1 : ih nt c1 s with
    | none => rw [h1] at hr; cases hr
    | some q =>
      obtain ⟨x1, s1⟩ := q
      obtain ⟨g1, g2⟩ := IO _ _ _ _ _ h1
      rw [h1] at hr
      have two : ∀ {Q : Exit → Act → World → Prop} {a : Act} {w : World}, c1.wp P (Exit.then (LoopWp P c1 Q) Q) a w → (Code.loop c1).wp P Q a w ∧ ∀ c', Code.loop c1 = .loop c' → LoopWp P c' Q a w := fun H => ⟨(loop_unroll H).1, fun c' h => by cases h; exact (loop_unroll H).2⟩
      cases x1 with
      | normal =>
        dsimp only at hr
        obtain ⟨g3, g4⟩ := IO _ _ _ _ _ hr
        refine ⟨g1.trans g3, fun ι a w R hf => two (wp_mono (g2 ι a w R (hf.left g3.le)).1 fun x' a' w' hq => ?_)⟩
        obtain ⟨rfl, ι1, R1, E1⟩ := hq
        have := (g4 ι1 a' w' R1 (hf.right E1)).2 c1 rfl
        intro b k cs
        obtain ⟨x2, a2, w2, h2, h3⟩ := this b k cs
        exact ⟨x2, a2, w2, cpost_trans E1 h2, h3⟩
      | exit j => cases hr; exact ⟨g1, fun ι a w R hf => two (wp_mono (g2 ι a w R hf).1 fun x' a' w' hq => by obtain ⟨rfl, hq⟩ := hq; exact ⟨rfl, hq⟩)⟩
      | ret => cases hr; exact ⟨g1, fun ι a w R hf => two (wp_mono (g2 ι a w R hf).1 fun x' a' w' hq => by obtain ⟨rfl, hq⟩ := hq; exact ⟨rfl, hq⟩)⟩
      | goto l => cases hr; exact ⟨g1, fun ι a w R hf => two (wp_mono (g2 ι a w R hf).1 fun x' a' w' hq => by obtain ⟨rfl, hq⟩ := hq; exact ⟨rfl, hq⟩)⟩
  | region id ops b =>
    refine plain (fun _ h => by cases h) ?_
    cases b with
    | false =>
      rw [rstep] at hr
      split at hr
      · rename_i s1 h1
        cases hr
        obtain ⟨g1, g2⟩ := RO _ _ _ _ h1
        exact ⟨g1, fun ι a w R hf => g2 id ι a w R hf⟩
      · cases hr
    | true =>
      rw [rstep] at hr
      split at hr
      · rename_i s1 h1
        cases hr
        obtain ⟨g1, g2⟩ := DO _ _ _ _ h1
        exact ⟨g1, fun ι a w R hf => g2 id ι a w R hf⟩
      · cases hr
  | rangeFunc g ps asg bd =>
    refine plain (fun _ h => by cases h) ?_
    rw [rstep] at hr
    split at hr
    · rename_i f caps hx
      split at hr
      · rename_i r h1
        cases hr
        exact ⟨(YO _ _ _ _ _ _ h1).2.1, fun ι a w R hf => rangeFunc_none YO hx h1 ι a w R hf⟩
      · cases hr
    · cases hr
  | _ => cases hr

theorem tv_back {ι : Io} {c : V} {u : Value} (h : tv c = some u) : VRel ι c u := by
  have lists : ∀ (cs : List V), (∀ c ∈ cs, ∀ u, tv c = some u → VRel ι c u) → ∀ l, tvs cs = some l → LRel ι cs l := by
    intro cs
    induction cs with
    | nil => intro _ l hl; cases hl; exact .nil
    | cons c r ih =>
      intro hc l hl
      rw [tvs] at hl
      cases h1 : tv c with
      | none => rw [h1] at hl; cases hl
      | some v =>
        cases h2 : tvs r with
        | none => rw [h1, h2] at hl; cases hl
        | some l' => rw [h1, h2] at hl; cases hl; exact LRel.cons (hc c (by simp) v h1) (ih (fun c' h' => hc c' (by simp [h'])) l' h2)
  match c, h with
  | .sc v, h => cases h; exact .sc _
  | .agg cs, h =>
    rw [tv] at h
    cases hc : tvs cs with
    | none => rw [hc] at h; cases h
    | some l => rw [hc] at h; cases h; exact VRel.agg' (by simpa using lists cs (fun c hm u hu => tv_back hu) l hc)
  | .tup cs, h =>
    rw [tv] at h
    cases hc : tvs cs with
    | none => rw [hc] at h; cases h
    | some l => rw [hc] at h; cases h; exact VRel.tup' (by simpa using lists cs (fun c hm u hu => tv_back hu) l hc)
  | .fn f cs, h =>
    rw [tv] at h
    cases hc : tvs cs with
    | none => rw [hc] at h; cases h
    | some l => rw [hc] at h; cases h; exact VRel.fn' (by simpa using lists cs (fun c hm u hu => tv_back hu) l hc)
  | .ifc t v, h =>
    rw [tv] at h
    cases hc : tv v with
    | none => rw [hc] at h; cases h
    | some l => rw [hc] at h; cases h; exact .ifc t v l (tv_back hc)
termination_by SizeOf.sizeOf c
inductive FT where
  | leaf
  | node (k : Nat) (f : Func) (l r : FT)
def flook : FT → Nat → Option Func
  | .leaf, _ => none
  | .node k f l r, t => cond (Nat.beq t k) (some f) (cond (Nat.blt t k) (flook l t) (flook r t))
def FOk (P : Program) (ft : FT) : Prop := ∀ f fn, flook ft f = some fn → P.funcs[f]? = some fn ∧ Ab.isGo P f = true
theorem FOk.leaf (P : Program) : FOk P .leaf := fun _ _ h => by cases h
theorem FOk.node {P : Program} {l r : FT} {k : Nat} {f : Func} (h1 : P.funcs[k]? = some f) (h2 : Ab.isGo P k = true) (hl : FOk P l) (hr : FOk P r) : FOk P (.node k f l r) := fun t fn ht => by
  rw [flook] at ht
  cases hb : Nat.beq t k with
  | true => rw [hb] at ht; cases ht; rw [Nat.eq_of_beq_eq_true hb]; exact ⟨h1, h2⟩
  | false =>
    rw [hb, cond_false] at ht
    cases hc : Nat.blt t k with
    | true => rw [hc] at ht; exact hl t fn ht
    | false => rw [hc] at ht; exact hr t fn ht
def mkE : List V → Nat → Ev → Ev
  | [], _, e => e
  | v :: r, i, e => mkE r (i + 1) (e.set i v)
theorem mkE_get : ∀ (l : List V) (i : Nat) (e : Ev) (t : Nat) (c : V), (mkE l i e).get t = some c → (i ≤ t ∧ l[t - i]? = some c) ∨ e.get t = some c
  | [], i, e, t, c, h => .inr h
  | v :: r, i, e, t, c, h => by
    rw [mkE] at h
    rcases mkE_get r (i + 1) _ t c h with ⟨h1, h2⟩ | h1
    · refine .inl ⟨by omega, ?_⟩
      rw [show t - i = (t - (i + 1)) + 1 by omega]; simpa using h2
    · rw [Tr.get_set] at h1
      split at h1
      · rename_i ht; cases h1; exact .inl ⟨by omega, by rw [ht, Nat.sub_self]; rfl⟩
      · exact .inr h1
def resOne (tab : TTab) (s : St) : ResultVar → Option V
  | .tmp t => s.e.get t
  | .cell a t => match s.e.get a with
    | some (.ptr id off) => match tlook tab t with
      | some te => match s.h.get id with
        | some (.cells cs _) => whole te (win cs off te.size)
        | _ => none
      | none => none
    | _ => none
def resAll (tab : TTab) (s : St) : List ResultVar → Option (List V)
  | [] => some []
  | r :: l => match resOne tab s r with
    | some v => match resAll tab s l with
      | some vs => some (v :: vs)
      | none => none
    | none => none
def resV (tab : TTab) (s : St) (l : List ResultVar) : Option V := match resAll tab s l with
  | some [v] => some v
  | some vs => some (.tup vs)
  | none => none
theorem resOne_rel {z : Nat} {ι : Io} {s : St} {a : Act} {w : World} {nt : Nat} (TO : TabOk P tab) (R : Rl z ι nt s.e s.h.get a w) {r : ResultVar} {v : V} (hr : resOne tab s r = some v) : ∃ u, VRel ι v u ∧ (match r with
      | .tmp t => (pure (a.tmps.getD t undef) : Sem Value)
      | .cell s t => do loadVar t (← asAddr (a.tmps.getD s undef))).run P w = .ok u w := by
  cases r with
  | tmp t =>
    obtain ⟨u, hu, hv⟩ := R.env t v hr
    exact ⟨u, hv, by simp [hu]⟩
  | cell sl t =>
    rw [resOne] at hr
    split at hr
    · rename_i id off hx
      split at hr
      · rename_i te ht
        split at hr
        · rename_i cs more hb
          -- as a load
          let o : Oper := { dst := none, op := .load t (.tmp sl), type := t, pos := default, after := #[], guard := none }
          have hg := good_load (P := P) (n := 0) (lo := 0) (o := o) (e := s.e) (h := s.h) TO rfl ht (x := .tmp sl) hx hb hr
          obtain ⟨u, hu, hv⟩ := R.env sl _ hx
          obtain ⟨r, m, hi, C, tt, fz, hC, hfz, hsz, hle, hmo, hl⟩ := R.heap.blk _ _ hb
          have hau := ptr_inv hv hi
          subst hau
          have hwl := whole_len hr
          have hrel : LRel ι (win cs off te.size) (win (C.toList.take cs.length) off te.size) := hl.win off te.size
          have hvl : (win (C.toList.take cs.length) off te.size).length = te.size := by rw [hrel.1, hwl]
          obtain ⟨W, hW⟩ : ∃ W, win (C.toList.take cs.length) off te.size = W := ⟨_, rfl⟩
          rw [hW] at hvl hrel
          have hcell : ∀ (j : Nat) (u : Value), W[j]? = some u → w.cell? ⟨r, off + j, none⟩ = some u := fun j u hj => by
            have h6 := win_get hW hj
            rw [List.getElem?_take] at h6
            split at h6
            · simp [World.cell?, hC]; simpa using h6
            · cases h6
          have hrun := Ab.run_loadVar w (TO t te ht) r off _ hvl hcell
          unfold whole at hr
          rw [hwl, beq_dec, decide_eq_true rfl, cond_true] at hr
          cases ha : te.agg with
          | true =>
            rw [ha] at hr hrun
            cases hr
            exact ⟨.agg W.toArray, VRel.agg' (by simpa using hrel), by simp [hu, asAddr, hrun]⟩
          | false =>
            rw [ha, cond_false] at hr
            split at hr
            · rename_i c hc
              cases hr
              rw [hc] at hrel
              obtain ⟨u, vs, h1, h2, h3⟩ := hrel.head
              subst h1
              rw [ha] at hrun
              exact ⟨u, h2, by simp [hu, asAddr, hrun]⟩
            · cases hr
        · cases hr
      · cases hr
    · cases hr
theorem resV_rel {z : Nat} {ι : Io} {s : St} {a : Act} {w : World} {nt : Nat} (TO : TabOk P tab) (R : Rl z ι nt s.e s.h.get a w) {fn : Func} {v : V} (hr : resV tab s fn.results.toList = some v) : ∃ u, VRel ι v u ∧ (results fn a.tmps).run P w = .ok u w := by
  let g : ResultVar → Sem Value := fun
    | .tmp t => pure (a.tmps.getD t undef)
    | .cell s t => do loadVar t (← asAddr (a.tmps.getD s undef))
  have hg : results fn a.tmps = (do
      let vs ← fn.results.mapM g
      pure (if h : vs.size = 1 then vs[0] else .tuple vs)) := rfl
  have key : ∀ (rs : List ResultVar) (vs : List V), resAll tab s rs = some vs → ∃ us : List Value, LRel ι vs us ∧ (rs.mapM g).run P w = .ok us w := by
    intro rs
    induction rs with
    | nil => intro vs h; cases h; exact ⟨[], .nil, rfl⟩
    | cons r rs ih =>
      intro vs hm
      rw [resAll] at hm
      split at hm
      · rename_i v1 h1
        split at hm
        · rename_i vs1 h2
          cases hm
          obtain ⟨us, h3, h5⟩ := ih vs1 h2
          obtain ⟨u, h6, h7⟩ := resOne_rel TO R h1
          refine ⟨u :: us, LRel.cons h6 h3, ?_⟩
          rw [List.mapM_cons]
          have h7' : (g r).run P w = .ok u w := by cases r <;> exact h7
          simp [h7', h5]
        · cases hm
      · cases hm
  have gen : ∀ (vs : List V), resAll tab s fn.results.toList = some vs → ∃ us : List Value, LRel ι vs us ∧ (results fn a.tmps).run P w = .ok (if h : us.toArray.size = 1 then us.toArray[0] else .tuple us.toArray) w := by
    intro vs hm
    obtain ⟨us, h1, h3⟩ := key _ vs hm
    refine ⟨us, h1, ?_⟩
    rw [hg, Array.mapM_eq_mapM_toList]
    simp [h3]
  unfold resV at hr
  split at hr
  · rename_i v1 h1
    cases hr
    obtain ⟨us, h2, h3⟩ := gen _ h1
    obtain ⟨u, vs, rfl, h4, h5⟩ := h2.head
    have : vs = [] := List.length_eq_zero_iff.1 h5.1
    subst this
    exact ⟨u, h4, by simpa using h3⟩
  · rename_i vs hne h1
    cases hr
    obtain ⟨us, h2, h3⟩ := gen _ h1
    refine ⟨.tuple us.toArray, VRel.tup' (by simpa using h2), ?_⟩
    rw [h3, dif_neg]
    intro h4
    have h5 : us.length = 1 := by simpa using h4
    rw [h2.1] at h5
    obtain ⟨v0, hv0⟩ := List.length_eq_one_iff.1 h5
    exact hne v0 hv0
  · cases hr
def isEnd : X → Bool
  | .normal => true
  | .ret => true
  | _ => false
def rcallG (tab : TTab) (ft : FT) (ih : Nat → Code → St → RC) (j : Nat) (f : FuncId) (args : List V) (n : Nat) (h : Hp) (lo : Nat) : R := match flook ft f with
  | some fn => match fn.body with
    | some c => match Nat.ble (args.length + j) fn.ntmps with
      | true => match ih fn.ntmps c ⟨mkE args j .nil, n, h, n⟩ with
        | some (x, s') => match isEnd x with
          | true => match resV tab s' fn.results.toList with
            | some v => match Nat.ble n s'.lo && (tv v).isSome with
              | true => some (v, n, h, lo)
              | false => some (v, s'.n, s'.h, lmin s'.lo lo)
            | none => none
          | false => none
        | none => none
      | false => none
    | none => none
  | none => none
theorem rcallG_good {j : Nat} {ft : FT} {ih : Nat → Code → St → RC} (TO : TabOk P tab) (FO : FOk P ft) (IO : IhOk P ih) : CallOkG P j (rcallG tab ft ih j) := by
  intro f args n h lo r hr
  unfold rcallG at hr
  split at hr
  · rename_i fn hfn
    obtain ⟨hf, hgo⟩ := FO f fn hfn
    refine ⟨hgo, ?_⟩
    split at hr
    · rename_i c hb
      split at hr
      · rename_i hle
        have hle := Nat.le_of_ble_eq_true hle
        split at hr
        · rename_i x s' hc
          split at hr
          · rename_i hx
            split at hr
            · rename_i v hv
              obtain ⟨g1, g2⟩ := IO _ _ _ _ _ hc
              -- the walk through the body
              have walk : ∀ ι (us : Array Value) w, HRel ι h.get w → us.size = args.length + j → LRel ι args (us.toList.drop j) → Free ι n s'.n → Calls P f us w (fun y w' => ∃ u ι', y = .returned u ∧ VRel ι' v u ∧ HRel ι' s'.h.get w' ∧ Ex n s'.n ι h.get w ι' s'.h.get w') := fun ι us w H hul A hfr => by
                refine callsIn_wide.1 (callsIn_of_wp_marks (n := 0) hf hb trivial (wpIn_wide.2 ?_))
                have R : Rl w.heap.size ι fn.ntmps (mkE args j .nil) h.get { tmps := us ++ Array.replicate (fn.ntmps - us.size) undef, defers := [] } w := by
                  refine ⟨H, fun t c0 ht => ?_, Marks.nil (Nat.le_refl _), ?_⟩
                  · rcases mkE_get _ _ _ _ _ ht with ⟨hjt, h2⟩ | h2
                    · have hlt : t < us.size := by rw [hul]; have := (List.getElem?_eq_some_iff.1 h2).1; omega
                      refine ⟨us[t], ?_, A.2 (t - j) c0 _ h2 (by rw [List.getElem?_drop, Nat.add_sub_cancel' hjt]; simp [hlt])⟩
                      show (us ++ _)[t]? = _
                      rw [Array.getElem?_append_left hlt, Array.getElem?_eq_getElem hlt]
                    · cases h2
                  · show fn.ntmps ≤ (us ++ _).size
                    simp; omega
                refine wp_mono (g2 ι _ w R hfr).1 ?_
                rintro x' a' w' ⟨rfl, ι', R', E'⟩
                have fin : LeavesInM Fence.wide 0 P fn a'.tmps (fun y w' => ∃ u ι', y = .returned u ∧ VRel ι' v u ∧ HRel ι' s'.h.get w' ∧ Ex n s'.n ι h.get w ι' s'.h.get w') a'.defers .returning w' := by
                  refine leave_marks _ w' (fun d hd => by obtain ⟨r, h1, _, h3, _⟩ := R'.defers.all d hd; exact ⟨r, h1, h3⟩) R'.defers.apart fun w2 k1 k2 k3 k4 k5 => ?_
                  have keep : ∀ id b r m, s'.h.get id = some b → ι' id = some (r, m) → w2.heap[r]? = w'.heap[r]? := fun id b r m hb hi => k5 r fun d hd hd2 => by
                    obtain ⟨q, q1, _, _, q4⟩ := R'.defers.all d hd
                    rw [q1] at hd2
                    cases hd2
                    exact q4 id b m hb hi
                  have H2 : HRel ι' s'.h.get w2 := ⟨fun id b hb => by obtain ⟨r, m, h1, h2⟩ := R'.heap.blk id b hb; exact ⟨r, m, h1, h2.mono (fun _ _ h => h) (keep id b r m hb h1)⟩, R'.heap.inj⟩
                  have R2 : Rl 0 ι' fn.ntmps s'.e s'.h.get { a' with defers := [] } w2 := ⟨H2, R'.env, Marks.nil (Nat.zero_le _), R'.size⟩
                  obtain ⟨u, hu, hrun⟩ := resV_rel TO R2 hv
                  refine ⟨u, hrun, u, ι', rfl, hu, H2, ?_⟩
                  refine ⟨k1.trans E'.os, k2.trans E'.tape, k3.trans E'.output, by rw [k4]; exact E'.size, E'.le, E'.same, fun r hr hn => ?_, E'.old⟩
                  rw [k5 r (fun d hd hd2 => by obtain ⟨q, q1, q2, _⟩ := R'.defers.all d hd; rw [q1] at hd2; cases hd2; omega)]
                  exact E'.mem r hr hn
                cases x with
                | normal => exact fin
                | ret => exact fin
                | exit j => cases hx
                | goto l => cases hx
              split at hr
              · rename_i hq
                cases hr
                simp only [Bool.and_eq_true, Nat.ble_eq] at hq
                refine ⟨Syn.refl _ _ _, fun ι us w H hul A hfr => (walk ι us w H hul A hfr).mono ?_⟩
                rintro y w' ⟨u, ι', rfl, q1, q2, q3⟩
                have hio := q3.io hfr
                have hkeep : ∀ id b, h.get id = some b → s'.h.get id = some b := fun id b hb => by
                  obtain ⟨r, m, hi, _⟩ := H.blk id b hb
                  have hlt : id < n := by
                    rcases Nat.lt_or_ge id n with h1 | h1
                    · exact h1
                    · rw [hfr id h1] at hi; cases hi
                  rw [g1.same (Nat.le_refl _) id (by omega)]
                  exact hb
                obtain ⟨vv, hvv⟩ := Option.isSome_iff_exists.1 hq.2
                have huv := tv_rel q1 _ hvv
                subst huv
                refine ⟨u, ι, rfl, tv_back hvv, ⟨fun id b hb => ?_, H.inj⟩, q3.os, q3.tape, q3.output, q3.size, Nat.le_refl _, fun _ _ => rfl, q3.mem, fun id b r m hb hi _ => ⟨id, b, m, hb, hi⟩⟩
                obtain ⟨r, m, hi, hB⟩ := H.blk id b hb
                obtain ⟨r', m', hi', hB'⟩ := q2.blk id b (hkeep id b hb)
                rw [hio _ _ hi] at hi'
                cases hi'
                exact ⟨r, m, hi, hB.back hio hB'⟩
              · cases hr
                refine ⟨?_, fun ι us w H hul A hfr => walk ι us w H hul A hfr⟩
                have := lmin_l s'.lo lo
                have := lmin_r s'.lo lo
                refine ⟨g1.le, by dsimp only; omega, fun h1 => ?_, fun h1 id hid => g1.same (Nat.le_refl _) id (by dsimp only at hid; omega), g1.bd, g1.nn⟩
                have := g1.lon (Nat.le_refl _)
                dsimp only at this ⊢
                omega
            · cases hr
          · cases hr
        · cases hr
      · cases hr
    · cases hr
  · cases hr
def rcall (tab : TTab) (ft : FT) (ih : Nat → Code → St → RC) (f : FuncId) (args : List V) (n : Nat) (h : Hp) (lo : Nat) : R := rcallG tab ft ih 0 f args n h lo
theorem rcall_good {ft : FT} {ih : Nat → Code → St → RC} (TO : TabOk P tab) (FO : FOk P ft) (IO : IhOk P ih) : CallOk P (rcall tab ft ih) := by
  intro f args n h lo r hr
  obtain ⟨h1, h2, h3⟩ := rcallG_good (j := 0) TO FO IO f args n h lo r hr
  exact ⟨h1, h2, fun ι us w H A hf => h3 ι us w H (by rw [← A.1]; simp) (by simpa using A) hf⟩
end
end Go.Proofs.YtamnhhjcgloceaaGreat.Rn

namespace Go.Proofs.YtamnhhjcgloceaaGreat.Rn
set_option linter.unusedVariables false
open Go.RowKit
open Go.Proofs.YtamnhhjcgloceaaGreat.Ab (TE TTab tlook TabOk TFacts win setW setW_get win_get Sh)

structure Rec where
  msk : Nat
  dst : Option Tmp
  v : V
  dl : List (Nat × Option B)
  rd : List Nat
  lk : List Nat
  n : Nat
  n' : Nat
def lookD : List (Nat × Option B) → Nat → Option (Option B)
  | [], _ => none
  | p :: r, id => cond (Nat.beq p.1 id) (some p.2) (lookD r id)
def HR (g0 : Gm) (S : Nat → Bool) : List Rec → Gm
  | [], id => g0 id
  | r :: rest, id => match S rest.length with
    | true => match lookD r.dl id with
      | some x => x
      | none => HR g0 S rest id
    | false => HR g0 S rest id
def ER (e0 : Nat → Option V) (S : Nat → Bool) : List Rec → Nat → Option V
  | [], t => e0 t
  | r :: rest, t => match S rest.length with
    | true => match r.dst with
      | some d => match Nat.beq d t with
        | true => some r.v
        | false => ER e0 S rest t
      | none => ER e0 S rest t
    | false => ER e0 S rest t
def NR (n0 : Nat) (S : Nat → Bool) : List Rec → Nat → Nat
  | [], _ => n0
  | r :: rest, id => match S rest.length with
    | true => match lookD r.dl id with
      | some _ => r.n'
      | none => NR n0 S rest id
    | false => NR n0 S rest id
def MR (n0 : Nat) (S : Nat → Bool) : List Rec → Nat → Nat
  | [], _ => n0
  | r :: rest, t => match S rest.length with
    | true => match r.dst with
      | some d => match Nat.beq d t with
        | true => r.n'
        | false => MR n0 S rest t
      | none => MR n0 S rest t
    | false => MR n0 S rest t
def Io.cut (ι : Io) (N : Nat) : Io := fun id => if id < N then ι id else none
theorem cut_le (ι : Io) (N : Nat) : Io.le (ι.cut N) ι := fun id x h => by unfold Io.cut at h; split at h; exact h; cases h
theorem cut_mono {ι ι' : Io} {N M : Nat} (h : N ≤ M) (hl : Io.le ι ι') : Io.le (ι.cut N) (ι'.cut M) := fun id x hx => by
  unfold Io.cut at hx ⊢
  split at hx
  · rw [if_pos (by omega)]; exact hl _ _ hx
  · cases hx
def tb (m : Nat) (j : Nat) : Bool := Nat.testBit m j
def apart (r q : Rec) : Prop := (∀ id x, lookD r.dl id = some x → id ∉ q.rd) ∧ (∀ id x, lookD q.dl id = some x → id ∉ r.rd) ∧ (∀ d, r.dst = some d → d ∉ q.lk) ∧ (∀ d, q.dst = some d → d ∉ r.lk)
structure RecOk (P : Program) (ops : Array Oper) (g0 : Gm) (e0 : Nat → Option V) (n0 : Nat) (nt : Nat) (rest : List Rec) (r : Rec) : Prop where
  op : ∃ o, ops[rest.length]? = some o ∧ o.dst = r.dst ∧ ∃ ej : Ev, (∀ t c, ej.get t = some c → t ∈ r.lk ∧ ER e0 (tb r.msk) rest t = some c) ∧
      ((wantV ops ej o = some false ∧ r.v = .sc undef ∧ r.dl = [] ∧ r.n' = r.n) ∨
       (wantV ops ej o = some true ∧ ∃ hin hout : Hp, Wp P o ej r.n hin r.v r.n' hout ∧ (∀ id b, hin.get id = some b → id ∈ r.rd ∧ HR g0 (tb r.msk) rest id = some b) ∧ (∀ id, hout.get id = match lookD r.dl id with | some x => x | none => hin.get id) ∧
        (∀ id x, lookD r.dl id = some x → id ∈ r.rd ∨ (r.n ≤ id ∧ id < r.n')) ∧ (∀ id, id < r.n → hin.get id = none → hout.get id = none)))
  waits : ∀ j, tb r.msk j = true → j < rest.length ∧ ∃ o, ops[rest.length]? = some o ∧ ∃ ed ∈ o.after, Region.binds .any ed = true ∧ (j = ed.on ∨ ∃ q rest', (∃ pre, rest = pre ++ q :: rest') ∧ rest'.length = ed.on ∧ tb q.msk j = true)
  dsts : ∀ d, r.dst = some d → d < nt ∧ ∀ q ∈ rest, q.dst ≠ some d
  nums : (match rest with | [] => n0 | q :: _ => q.n') = r.n ∧ r.n ≤ r.n'
  free : ∀ pre q rest', rest = pre ++ q :: rest' → tb r.msk rest'.length = false → apart r q
def AllOk (P : Program) (ops : Array Oper) (g0 : Gm) (e0 : Nat → Option V) (n0 nt : Nat) : List Rec → Prop
  | [] => True
  | r :: rest => RecOk P ops g0 e0 n0 nt rest r ∧ AllOk P ops g0 e0 n0 nt rest
def lastN (n0 : Nat) : List Rec → Nat
  | [] => n0
  | q :: _ => q.n'

section
variable {P : Program} {ops : Array Oper} {g0 : Gm} {e0 : Nat → Option V} {n0 nt : Nat}
theorem AllOk.tail {pre rest : List Rec} (h : AllOk P ops g0 e0 n0 nt (pre ++ rest)) : AllOk P ops g0 e0 n0 nt rest := by
  induction pre with
  | nil => exact h
  | cons r pre ih => exact ih h.2
theorem AllOk.at {pre rest : List Rec} {r : Rec} (h : AllOk P ops g0 e0 n0 nt (pre ++ r :: rest)) : RecOk P ops g0 e0 n0 nt rest r := (AllOk.tail h).1
theorem RecOk.num {rest : List Rec} {r : Rec} (h : RecOk P ops g0 e0 n0 nt rest r) : lastN n0 rest = r.n := by
  have := h.nums.1
  cases rest <;> exact this
theorem nums_le : ∀ {R : List Rec}, AllOk P ops g0 e0 n0 nt R → n0 ≤ lastN n0 R ∧ ∀ q ∈ R, n0 ≤ q.n ∧ q.n ≤ q.n' ∧ q.n' ≤ lastN n0 R
  | [], _ => ⟨Nat.le_refl _, by simp⟩
  | r :: rest, h => by
    obtain ⟨h1, h2⟩ := nums_le h.2
    have h3 := h.1.num
    have h4 := h.1.nums.2
    refine ⟨by show n0 ≤ r.n'; omega, fun q hq => ?_⟩
    rcases List.mem_cons.1 hq with rfl | hq
    · exact ⟨by omega, h4, Nat.le_refl _⟩
    · obtain ⟨g1, g2, g3⟩ := h2 q hq
      exact ⟨g1, g2, by show q.n' ≤ r.n'; omega⟩
theorem nums_apart {pre mid rest : List Rec} {r q : Rec} (h : AllOk P ops g0 e0 n0 nt (pre ++ r :: (mid ++ q :: rest))) : q.n' ≤ r.n := by
  have h1 := h.at.num
  have h2 := (nums_le (AllOk.tail (pre := pre ++ [r]) (by simpa using h))).2 q (by simp)
  omega
def Closed (R : List Rec) (L : Nat → Bool) : Prop := ∀ pre r rest, R = pre ++ r :: rest → L rest.length = true → ∀ j, tb r.msk j = true → L j = true

theorem hr_pre {L : Nat → Bool} {id : Nat} {rest : List Rec} : ∀ {pre : List Rec}, (∀ p1 q p2, pre = p1 ++ q :: p2 → L (p2 ++ rest).length = true → lookD q.dl id = none) → HR g0 L (pre ++ rest) id = HR g0 L rest id ∧ NR n0 L (pre ++ rest) id = NR n0 L rest id
  | [], _ => ⟨rfl, rfl⟩
  | q :: pre, h => by
    obtain ⟨h1, h2⟩ := hr_pre (pre := pre) fun p1 q' p2 hp hl => h (q :: p1) q' p2 (by rw [hp]; rfl) hl
    have h3 := h [] q pre rfl
    rw [List.cons_append, HR, NR]
    cases hl : L (pre ++ rest).length with
    | false => exact ⟨h1, h2⟩
    | true => rw [h3 hl]; exact ⟨h1, h2⟩
theorem hr_anc {L : Nat → Bool} {m : Nat} {id : Nat} : ∀ {rest : List Rec}, (∀ j, j < rest.length → tb m j = true → L j = true) → (∀ p1 q p2, rest = p1 ++ q :: p2 → tb m p2.length = false → lookD q.dl id = none) → HR g0 L rest id = HR g0 (tb m) rest id ∧ NR n0 L rest id = NR n0 (tb m) rest id
  | [], _, _ => ⟨rfl, rfl⟩
  | q :: rest, h1, h2 => by
    obtain ⟨h3, h4⟩ := hr_anc (rest := rest) (L := L) (m := m) (id := id) (fun j hj => h1 j (by simp; omega)) fun p1 q' p2 hp hl => h2 (q :: p1) q' p2 (by rw [hp]; rfl) hl
    rw [HR, HR, NR, NR]
    cases hm : tb m rest.length with
    | true => rw [h1 rest.length (by simp) hm, h3, h4]; exact ⟨rfl, rfl⟩
    | false =>
      have := h2 [] q rest rfl hm
      rw [this]
      cases L rest.length <;> exact ⟨h3, h4⟩
theorem nr_le {S : Nat → Bool} {id : Nat} : ∀ {R : List Rec}, AllOk P ops g0 e0 n0 nt R → NR n0 S R id ≤ lastN n0 R
  | [], _ => Nat.le_refl _
  | r :: rest, h => by
    have h1 := nr_le (S := S) (id := id) h.2
    have h3 := h.1.num
    have h4 := h.1.nums.2
    have h5 : lastN n0 (r :: rest) = r.n' := rfl
    rw [NR, h5]
    split
    · split <;> omega
    · omega
theorem looks {pre rest : List Rec} {r : Rec} {L : Nat → Bool} (h : AllOk P ops g0 e0 n0 nt (pre ++ r :: rest)) (hc : Closed (pre ++ r :: rest) L) (hi : L rest.length = false) (hm : ∀ j, tb r.msk j = true → L j = true) {id : Nat} {b : B} (hrd : id ∈ r.rd) (hb : HR g0 (tb r.msk) rest id = some b) :
    HR g0 L (pre ++ r :: rest) id = some b ∧ NR n0 L (pre ++ r :: rest) id ≤ r.n := by
  have hr := h.at
  have h1 := hr_pre (g0 := g0) (n0 := n0) (L := L) (id := id) (pre := pre) (rest := r :: rest) fun p1 q p2 hp hl => by
    have hq : RecOk P ops g0 e0 n0 nt (p2 ++ r :: rest) q := AllOk.at (pre := p1) (by rw [hp] at h; simpa using h)
    cases hd : lookD q.dl id with
    | none => rfl
    | some x =>
      exfalso
      cases ht : tb q.msk rest.length with
      | true => have := hc p1 q (p2 ++ r :: rest) (by rw [hp]; simp) hl _ ht; rw [hi] at this; cases this
      | false => exact (hq.free p2 r rest rfl ht).1 id x hd hrd
  have h2 := hr_anc (g0 := g0) (n0 := n0) (L := L) (m := r.msk) (id := id) (rest := rest) (fun j _ hj => hm j hj) fun p1 q p2 hp hl => by
    cases hd : lookD q.dl id with
    | none => rfl
    | some x => exact absurd hrd ((hr.free p1 q p2 hp hl).2.1 id x hd)
  have h3 : HR g0 L (r :: rest) id = HR g0 L rest id ∧ NR n0 L (r :: rest) id = NR n0 L rest id := by rw [HR, NR, hi]; exact ⟨rfl, rfl⟩
  refine ⟨by rw [h1.1, h3.1, h2.1, hb], ?_⟩
  rw [h1.2, h3.2, h2.2, ← hr.num]
  exact nr_le (AllOk.tail (pre := pre ++ [r]) (by simpa using h))
theorem er_pre {L : Nat → Bool} {t : Nat} {rest : List Rec} : ∀ {pre : List Rec}, (∀ p1 q p2, pre = p1 ++ q :: p2 → L (p2 ++ rest).length = true → q.dst ≠ some t) → ER e0 L (pre ++ rest) t = ER e0 L rest t ∧ MR n0 L (pre ++ rest) t = MR n0 L rest t
  | [], _ => ⟨rfl, rfl⟩
  | q :: pre, h => by
    obtain ⟨h1, h2⟩ := er_pre (pre := pre) fun p1 q' p2 hp hl => h (q :: p1) q' p2 (by rw [hp]; rfl) hl
    have h3 := h [] q pre rfl
    rw [List.cons_append, ER, MR]
    cases hl : L (pre ++ rest).length with
    | false => exact ⟨h1, h2⟩
    | true =>
      cases hd : q.dst with
      | none => exact ⟨h1, h2⟩
      | some d =>
        have : Nat.beq d t = false := Ab.beq_no (by rintro rfl; exact h3 hl hd)
        dsimp only
        rw [this]; exact ⟨h1, h2⟩
theorem er_anc {L : Nat → Bool} {m : Nat} {t : Nat} : ∀ {rest : List Rec}, (∀ j, j < rest.length → tb m j = true → L j = true) → (∀ p1 q p2, rest = p1 ++ q :: p2 → tb m p2.length = false → q.dst ≠ some t) → ER e0 L rest t = ER e0 (tb m) rest t ∧ MR n0 L rest t = MR n0 (tb m) rest t
  | [], _, _ => ⟨rfl, rfl⟩
  | q :: rest, h1, h2 => by
    obtain ⟨h3, h4⟩ := er_anc (rest := rest) (L := L) (m := m) (t := t) (fun j hj => h1 j (by simp; omega)) fun p1 q' p2 hp hl => h2 (q :: p1) q' p2 (by rw [hp]; rfl) hl
    rw [ER, ER, MR, MR]
    cases hm : tb m rest.length with
    | true => rw [h1 rest.length (by simp) hm, h3, h4]; exact ⟨rfl, rfl⟩
    | false =>
      have hq := h2 [] q rest rfl hm
      have : ∀ d, q.dst = some d → Nat.beq d t = false := fun d hd => Ab.beq_no (by rintro rfl; exact hq hd)
      cases L rest.length with
      | false => exact ⟨h3, h4⟩
      | true =>
        cases hd : q.dst with
        | none => exact ⟨h3, h4⟩
        | some d => dsimp only; rw [this d hd]; exact ⟨h3, h4⟩
theorem mr_le {S : Nat → Bool} {t : Nat} : ∀ {R : List Rec}, AllOk P ops g0 e0 n0 nt R → MR n0 S R t ≤ lastN n0 R
  | [], _ => Nat.le_refl _
  | r :: rest, h => by
    have h1 := mr_le (S := S) (t := t) h.2
    have h3 := h.1.num
    have h4 := h.1.nums.2
    have h5 : lastN n0 (r :: rest) = r.n' := rfl
    rw [MR, h5]
    split
    · split
      · split <;> omega
      · omega
    · omega
theorem slots {pre rest : List Rec} {r : Rec} {L : Nat → Bool} (h : AllOk P ops g0 e0 n0 nt (pre ++ r :: rest)) (hc : Closed (pre ++ r :: rest) L) (hi : L rest.length = false) (hm : ∀ j, tb r.msk j = true → L j = true) {t : Nat} {c : V} (hlk : t ∈ r.lk) (hb : ER e0 (tb r.msk) rest t = some c) :
    ER e0 L (pre ++ r :: rest) t = some c ∧ MR n0 L (pre ++ r :: rest) t ≤ r.n := by
  have hr := h.at
  have h1 := er_pre (e0 := e0) (n0 := n0) (L := L) (t := t) (pre := pre) (rest := r :: rest) fun p1 q p2 hp hl hd => by
    have hq : RecOk P ops g0 e0 n0 nt (p2 ++ r :: rest) q := AllOk.at (pre := p1) (by rw [hp] at h; simpa using h)
    cases ht : tb q.msk rest.length with
    | true => have := hc p1 q (p2 ++ r :: rest) (by rw [hp]; simp) hl _ ht; rw [hi] at this; cases this
    | false => exact (hq.free p2 r rest rfl ht).2.2.1 t hd hlk
  have h2 := er_anc (e0 := e0) (n0 := n0) (L := L) (m := r.msk) (t := t) (rest := rest) (fun j _ hj => hm j hj) fun p1 q p2 hp hl hd => (hr.free p1 q p2 hp hl).2.2.2 t hd hlk
  have h3 : ER e0 L (r :: rest) t = ER e0 L rest t ∧ MR n0 L (r :: rest) t = MR n0 L rest t := by rw [ER, MR, hi]; exact ⟨rfl, rfl⟩
  refine ⟨by rw [h1.1, h3.1, h2.1, hb], ?_⟩
  rw [h1.2, h3.2, h2.2, ← hr.num]
  exact mr_le (AllOk.tail (pre := pre ++ [r]) (by simpa using h))

def ins (L : Nat → Bool) (i : Nat) : Nat → Bool := fun j => Nat.beq j i || L j
theorem ins_self (L : Nat → Bool) (i : Nat) : ins L i i = true := by simp [ins]
theorem ins_ne {L : Nat → Bool} {i j : Nat} (h : j ≠ i) : ins L i j = L j := by simp [ins, Ab.beq_no h]
theorem hr_ins_rest {L : Nat → Bool} {i : Nat} {id : Nat} : ∀ {rest : List Rec}, rest.length ≤ i → HR g0 (ins L i) rest id = HR g0 L rest id ∧ NR n0 (ins L i) rest id = NR n0 L rest id ∧ ER e0 (ins L i) rest id = ER e0 L rest id ∧ MR n0 (ins L i) rest id = MR n0 L rest id
  | [], _ => ⟨rfl, rfl, rfl, rfl⟩
  | q :: rest, h => by
    have h : rest.length + 1 ≤ i := h
    obtain ⟨h1, h2, h3, h4⟩ := hr_ins_rest (L := L) (i := i) (id := id) (rest := rest) (by omega)
    rw [HR, HR, NR, NR, ER, ER, MR, MR, ins_ne (show rest.length ≠ i by omega), h1, h2, h3, h4]
    exact ⟨rfl, rfl, rfl, rfl⟩
theorem hr_ins_pre {L : Nat → Bool} {id : Nat} {r : Rec} {rest : List Rec} : ∀ {pre : List Rec}, (HR g0 (ins L rest.length) (r :: rest) id = HR g0 L (r :: rest) id → HR g0 (ins L rest.length) (pre ++ r :: rest) id = HR g0 L (pre ++ r :: rest) id) ∧ (NR n0 (ins L rest.length) (r :: rest) id = NR n0 L (r :: rest) id → NR n0 (ins L rest.length) (pre ++ r :: rest) id = NR n0 L (pre ++ r :: rest) id) ∧
    (ER e0 (ins L rest.length) (r :: rest) id = ER e0 L (r :: rest) id → ER e0 (ins L rest.length) (pre ++ r :: rest) id = ER e0 L (pre ++ r :: rest) id) ∧ (MR n0 (ins L rest.length) (r :: rest) id = MR n0 L (r :: rest) id → MR n0 (ins L rest.length) (pre ++ r :: rest) id = MR n0 L (pre ++ r :: rest) id)
  | [] => ⟨fun h => h, fun h => h, fun h => h, fun h => h⟩
  | q :: pre => by
    obtain ⟨h1, h2, h3, h4⟩ := hr_ins_pre (L := L) (id := id) (r := r) (rest := rest) (pre := pre)
    have hne : (pre ++ r :: rest).length ≠ rest.length := by simp; omega
    refine ⟨fun h => ?_, fun h => ?_, fun h => ?_, fun h => ?_⟩
    · rw [List.cons_append, HR, HR, ins_ne hne, h1 h]
    · rw [List.cons_append, NR, NR, ins_ne hne, h2 h]
    · rw [List.cons_append, ER, ER, ins_ne hne, h3 h]
    · rw [List.cons_append, MR, MR, ins_ne hne, h4 h]
theorem ins_same {pre rest : List Rec} {r : Rec} {L : Nat → Bool} (hi : L rest.length = false) {id : Nat} (hd : lookD r.dl id = none) : HR g0 (ins L rest.length) (pre ++ r :: rest) id = HR g0 L (pre ++ r :: rest) id ∧ NR n0 (ins L rest.length) (pre ++ r :: rest) id = NR n0 L (pre ++ r :: rest) id := by
  obtain ⟨h1, h2, _⟩ := hr_ins_pre (g0 := g0) (n0 := n0) (e0 := fun _ => none) (L := L) (id := id) (r := r) (rest := rest) (pre := pre)
  obtain ⟨g1, g2, _⟩ := hr_ins_rest (g0 := g0) (n0 := n0) (e0 := fun _ => none) (L := L) (i := rest.length) (id := id) (rest := rest) (Nat.le_refl _)
  refine ⟨h1 ?_, h2 ?_⟩
  · rw [HR, HR, ins_self, hi, hd, g1]
  · rw [NR, NR, ins_self, hi, hd, g2]
theorem ins_new {pre rest : List Rec} {r : Rec} {L : Nat → Bool} (h : AllOk P ops g0 e0 n0 nt (pre ++ r :: rest)) (hc : Closed (pre ++ r :: rest) L) (hi : L rest.length = false) {id : Nat} {x : Option B} (hd : lookD r.dl id = some x) : HR g0 (ins L rest.length) (pre ++ r :: rest) id = x ∧ NR n0 (ins L rest.length) (pre ++ r :: rest) id = r.n' := by
  have h1 := hr_pre (g0 := g0) (n0 := n0) (L := ins L rest.length) (id := id) (pre := pre) (rest := r :: rest) fun p1 q p2 hp hl => by
    have hq : RecOk P ops g0 e0 n0 nt (p2 ++ r :: rest) q := AllOk.at (pre := p1) (by rw [hp] at h; simpa using h)
    rw [ins_ne (by simp; omega)] at hl
    have hno : tb q.msk rest.length = false := by
      cases ht : tb q.msk rest.length with
      | false => rfl
      | true => have := hc p1 q (p2 ++ r :: rest) (by rw [hp]; simp) hl _ ht; rw [hi] at this; cases this
    have hap := hq.free p2 r rest rfl hno
    cases hd2 : lookD q.dl id with
    | none => rfl
    | some y =>
      exfalso
      -- it changes id: it looks at it, or made it
      obtain ⟨o, _, _, ej, _, hcase⟩ := hq.op
      have hq2 : id ∈ q.rd ∨ (q.n ≤ id ∧ id < q.n') := by
        rcases hcase with ⟨_, _, hnil, _⟩ | ⟨_, hin, hout, _, _, _, hrd, _⟩
        · rw [hnil] at hd2; cases hd2
        · exact hrd id y hd2
      rcases hq2 with hq2 | hq2
      · exact hap.2.1 id x hd hq2
      · obtain ⟨o', _, _, ej', _, hcase'⟩ := h.at.op
        have hr2 : id ∈ r.rd ∨ (r.n ≤ id ∧ id < r.n') := by
          rcases hcase' with ⟨_, _, hnil, _⟩ | ⟨_, hin, hout, _, _, _, hrd, _⟩
          · rw [hnil] at hd; cases hd
          · exact hrd id x hd
        rcases hr2 with hr2 | hr2
        · exact hap.1 id y hd2 hr2
        · have := nums_apart (pre := p1) (mid := p2) (rest := rest) (r := q) (q := r) (by rw [hp] at h; simpa using h)
          omega
  rw [h1.1, h1.2, HR, NR, ins_self, hd]
  exact ⟨rfl, rfl⟩
theorem ins_slot {pre rest : List Rec} {r : Rec} {L : Nat → Bool} (h : AllOk P ops g0 e0 n0 nt (pre ++ r :: rest)) (hi : L rest.length = false) {t : Nat} : (r.dst = some t → ER e0 (ins L rest.length) (pre ++ r :: rest) t = some r.v ∧ MR n0 (ins L rest.length) (pre ++ r :: rest) t = r.n') ∧ (r.dst ≠ some t → ER e0 (ins L rest.length) (pre ++ r :: rest) t = ER e0 L (pre ++ r :: rest) t ∧ MR n0 (ins L rest.length) (pre ++ r :: rest) t = MR n0 L (pre ++ r :: rest) t) := by
  obtain ⟨_, _, g3, g4⟩ := hr_ins_rest (g0 := g0) (n0 := n0) (e0 := e0) (L := L) (i := rest.length) (id := t) (rest := rest) (Nat.le_refl _)
  refine ⟨fun hd => ?_, fun hd => ?_⟩
  · have h1 := er_pre (e0 := e0) (n0 := n0) (L := ins L rest.length) (t := t) (pre := pre) (rest := r :: rest) fun p1 q p2 hp hl hdq => by
      have hq : RecOk P ops g0 e0 n0 nt (p2 ++ r :: rest) q := AllOk.at (pre := p1) (by rw [hp] at h; simpa using h)
      exact (hq.dsts t hdq).2 r (by simp) hd
    rw [h1.1, h1.2, ER, MR, ins_self, hd]
    dsimp only
    rw [Ab.beq_yes]
    exact ⟨rfl, rfl⟩
  · obtain ⟨_, _, h3, h4⟩ := hr_ins_pre (g0 := g0) (n0 := n0) (e0 := e0) (L := L) (id := t) (r := r) (rest := rest) (pre := pre)
    refine ⟨h3 ?_, h4 ?_⟩
    · rw [ER, ER, ins_self, hi, g3]
      cases hdd : r.dst with
      | none => rfl
      | some d => dsimp only; rw [Ab.beq_no (by rintro rfl; exact hd hdd)]
    · rw [MR, MR, ins_self, hi, g4]
      cases hdd : r.dst with
      | none => rfl
      | some d => dsimp only; rw [Ab.beq_no (by rintro rfl; exact hd hdd)]
end
end Go.Proofs.YtamnhhjcgloceaaGreat.Rn

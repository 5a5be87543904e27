/-
  A runner of closed code: what a call computes, reckoned over numbered blocks of its own, capacities left open; the relation of such a state with the machine's.
-/
import Derived.Test.YtplgpbadpdmeeaaAbsEff
import Derived.Deep.AppendSrc
import Derived.Room.AppendAny
namespace Go.Proofs.Ytplgpbadpdmeeaa.Rn
set_option linter.unusedVariables false
open Go.RowKit
open Go.Proofs.Ytplgpbadpdmeeaa.Ab (TE TTab tlook TabOk TFacts win setW setW_get win_get Sh)

/-! ### A tree of numbered things -/
inductive Tr (α : Type) where
  | nil
  | nd (v : Option α) (l r : Tr α)
def Tr.get {α : Type} : Tr α → Nat → Option α
  | .nil, _ => none
  | .nd v l r, k => cond (Nat.beq k 0) v (cond (Nat.beq (k % 2) 1) (l.get (k / 2)) (r.get (k / 2 - 1)))
def Tr.put {α : Type} (v : Option α) : Nat → Tr α → Nat → Tr α
  | 0, _, _ => .nil
  | f + 1, .nil, k => cond (Nat.beq k 0) (.nd v .nil .nil) (cond (Nat.beq (k % 2) 1) (.nd none (Tr.put v f .nil (k / 2)) .nil) (.nd none .nil (Tr.put v f .nil (k / 2 - 1))))
  | f + 1, .nd u l r, k => cond (Nat.beq k 0) (.nd v l r) (cond (Nat.beq (k % 2) 1) (.nd u (Tr.put v f l (k / 2)) r) (.nd u l (Tr.put v f r (k / 2 - 1))))
def Tr.set {α : Type} (t : Tr α) (k : Nat) (v : α) : Tr α := Tr.put (some v) (k + 1) t k
def Tr.del {α : Type} (t : Tr α) (k : Nat) : Tr α := Tr.put none (k + 1) t k
theorem beq_dec (a b : Nat) : Nat.beq a b = decide (a = b) := by
  by_cases h : a = b
  · subst h; simp
  · have := Ab.beq_no h; rw [this]; simp [h]
theorem Tr.get_put {α : Type} {v : Option α} : ∀ {f : Nat} {t : Tr α} {k j : Nat}, k < f → (Tr.put v f t k).get j = if j = k then v else t.get j := by
  intro f
  induction f with
  | zero => intro t k j h; omega
  | succ f ih =>
    intro t k j h
    have key : ∀ (u : Option α) (l r : Tr α), (cond (Nat.beq k 0) (.nd v l r) (cond (Nat.beq (k % 2) 1) (.nd u (Tr.put v f l (k / 2)) r) (.nd u l (Tr.put v f r (k / 2 - 1)))) : Tr α).get j = if j = k then v else (Tr.nd u l r).get j := by
      intro u l r
      simp only [beq_dec]
      by_cases hk : k = 0
      · subst hk
        simp only [decide_true, cond_true]
        rw [Tr.get, Tr.get]
        simp only [beq_dec]
        by_cases hj : j = 0
        · subst hj; simp
        · simp only [hj, decide_false, cond_false, if_false]
      · simp only [hk, decide_false, cond_false]
        by_cases hk2 : k % 2 = 1
        · simp only [hk2, decide_true, cond_true]
          rw [Tr.get, Tr.get]
          simp only [beq_dec]
          by_cases hj : j = 0
          · subst hj; rw [if_neg (by omega)]; rfl
          · simp only [hj, decide_false, cond_false]
            by_cases hj2 : j % 2 = 1
            · simp only [hj2, decide_true, cond_true]
              rw [ih (by omega)]
              by_cases hjk : j = k
              · rw [if_pos (by omega), if_pos hjk]
              · rw [if_neg (by omega), if_neg hjk]
            · simp only [hj2, decide_false, cond_false]
              rw [if_neg (by omega)]
        · simp only [hk2, decide_false, cond_false]
          rw [Tr.get, Tr.get]
          simp only [beq_dec]
          by_cases hj : j = 0
          · subst hj; rw [if_neg (by omega)]; rfl
          · simp only [hj, decide_false, cond_false]
            by_cases hj2 : j % 2 = 1
            · simp only [hj2, decide_true, cond_true]
              rw [if_neg (by omega)]
            · simp only [hj2, decide_false, cond_false]
              rw [ih (by omega)]
              by_cases hjk : j = k
              · rw [if_pos (by omega), if_pos hjk]
              · rw [if_neg (by omega), if_neg hjk]
    cases t with
    | nd u l r => exact key u l r
    | nil =>
      have h1 := key none .nil .nil
      have h2 : (Tr.nd none .nil .nil : Tr α).get j = none := by
        rw [Tr.get]
        simp only [beq_dec]
        by_cases hj : j = 0
        · simp [hj]
        · simp only [hj, decide_false, cond_false]
          by_cases hj2 : j % 2 = 1 <;> simp [hj2, Tr.get]
      rw [h2] at h1
      exact h1
theorem Tr.get_set {α : Type} (t : Tr α) (k j : Nat) (v : α) : (t.set k v).get j = if j = k then some v else t.get j := Tr.get_put (by omega)
theorem Tr.get_del {α : Type} (t : Tr α) (k j : Nat) : (t.del k).get j = if j = k then none else t.get j := Tr.get_put (by omega)

/-! ### Values and blocks -/
inductive V where
  | sc (v : Value)
  | ptr (id off : Nat)
  | sl (id off len k : Nat) (cap : Option Nat)
  | emp
  | mp (id : Nat)
  | fn (f : FuncId) (caps : List V)
  | ifc (t : TypeId) (v : V)
  | agg (cs : List V)
  | tup (cs : List V)
inductive B where
  | cells (cs : List V) (more : Bool)
  | map (es : List (V × V × Nat)) (clk : Nat)
  | sit (s : ByteArray) (pos : Nat)
  | mit (m : Option Nat) (since : Nat) (seen : List Nat) (stepped : Nat)
abbrev Hp := Tr B
abbrev Ev := Tr V
/-- Which real block each number stands for, and how many cells that has. -/
abbrev Io := Nat → Option (Nat × Nat)

inductive VRel (ι : Io) : V → Value → Prop where
  | sc (v : Value) : VRel ι (.sc v) v
  | ptr (id off r m : Nat) (h : ι id = some (r, m)) : VRel ι (.ptr id off) (.pointer (some ⟨r, off, none⟩))
  | sl (id off len k c r m : Nat) (h : ι id = some (r, m)) : VRel ι (.sl id off len k (some c)) (.slice (some ⟨r, off, none⟩) len c)
  | slu (id off len k c r m : Nat) (h : ι id = some (r, m)) (hc : off + c * k = m) (hl : len ≤ c) : VRel ι (.sl id off len k none) (.slice (some ⟨r, off, none⟩) len c)
  | emp (r o c : Nat) : VRel ι .emp (.slice (some ⟨r, o, none⟩) 0 c)
  | mp (id r m : Nat) (h : ι id = some (r, m)) : VRel ι (.mp id) (.map (some r))
  | fn (f : FuncId) (caps : List V) (C : Array Value) (hl : C.size = caps.length) (h : ∀ (i : Nat) (c : V) (u : Value), caps[i]? = some c → C[i]? = some u → VRel ι c u) : VRel ι (.fn f caps) (.func (.func f) #[] C)
  | ifc (t : TypeId) (v : V) (u : Value) (h : VRel ι v u) : VRel ι (.ifc t v) (.iface t u)
  | agg (cs : List V) (C : Array Value) (hl : C.size = cs.length) (h : ∀ (i : Nat) (c : V) (u : Value), cs[i]? = some c → C[i]? = some u → VRel ι c u) : VRel ι (.agg cs) (.agg C)
  | tup (cs : List V) (C : Array Value) (hl : C.size = cs.length) (h : ∀ (i : Nat) (c : V) (u : Value), cs[i]? = some c → C[i]? = some u → VRel ι c u) : VRel ι (.tup cs) (.tuple C)

def Io.le (ι ι' : Io) : Prop := ∀ id x, ι id = some x → ι' id = some x
theorem VRel.mono {ι ι' : Io} (hl : Io.le ι ι') {c : V} {u : Value} (h : VRel ι c u) : VRel ι' c u := by
  induction h with
  | sc v => exact .sc v
  | ptr id off r m h => exact .ptr id off r m (hl _ _ h)
  | sl id off len k c r m h => exact .sl id off len k c r m (hl _ _ h)
  | slu id off len k c r m h hc hl2 => exact .slu id off len k c r m (hl _ _ h) hc hl2
  | emp r o c => exact .emp r o c
  | mp id r m h => exact .mp id r m (hl _ _ h)
  | fn f caps C hs h ih => exact .fn f caps C hs ih
  | ifc t v u h ih => exact .ifc t v u ih
  | agg cs C hs h ih => exact .agg cs C hs ih
  | tup cs C hs h ih => exact .tup cs C hs ih

/-- Values beside one another. -/
def LRel (ι : Io) (cs : List V) (us : List Value) : Prop := us.length = cs.length ∧ ∀ (i : Nat) (c : V) (u : Value), cs[i]? = some c → us[i]? = some u → VRel ι c u
theorem LRel.mono {ι ι' : Io} (hl : Io.le ι ι') {cs : List V} {us : List Value} (h : LRel ι cs us) : LRel ι' cs us := ⟨h.1, fun i c u a b => (h.2 i c u a b).mono hl⟩
theorem LRel.nil {ι : Io} : LRel ι [] [] := ⟨rfl, by simp⟩
theorem LRel.cons {ι : Io} {c : V} {u : Value} {cs : List V} {us : List Value} (h1 : VRel ι c u) (h : LRel ι cs us) : LRel ι (c :: cs) (u :: us) := by
  refine ⟨by simp [h.1], fun i c' u' a b => ?_⟩
  cases i with
  | zero => simp at a b; subst a b; exact h1
  | succ i => exact h.2 i c' u' (by simpa using a) (by simpa using b)
theorem LRel.head {ι : Io} {c : V} {cs : List V} {us : List Value} (h : LRel ι (c :: cs) us) : ∃ u vs, us = u :: vs ∧ VRel ι c u ∧ LRel ι cs vs := by
  cases us with
  | nil => have := h.1; simp at this
  | cons u vs => exact ⟨u, vs, rfl, h.2 0 c u rfl rfl, by have := h.1; simpa using this, fun i c' u' a b => h.2 (i + 1) c' u' (by simpa using a) (by simpa using b)⟩
theorem LRel.append {ι : Io} {cs ds : List V} {us vs : List Value} (h1 : LRel ι cs us) (h2 : LRel ι ds vs) : LRel ι (cs ++ ds) (us ++ vs) := by
  refine ⟨by simp [h1.1, h2.1], fun i c u hc hu => ?_⟩
  rw [List.getElem?_append] at hc hu
  rw [h1.1] at hu
  split at hc
  · rename_i hl; rw [if_pos hl] at hu; exact h1.2 _ _ _ hc hu
  · rename_i hl; rw [if_neg hl] at hu; exact h2.2 _ _ _ hc hu
theorem LRel.take {ι : Io} {cs : List V} {us : List Value} (h : LRel ι cs us) (n : Nat) : LRel ι (cs.take n) (us.take n) := by
  refine ⟨by simp [h.1], fun i c u hc hu => ?_⟩
  rw [List.getElem?_take] at hc hu
  split at hc
  · rename_i hl; rw [if_pos hl] at hu; exact h.2 _ _ _ hc hu
  · cases hc
theorem LRel.drop {ι : Io} {cs : List V} {us : List Value} (h : LRel ι cs us) (n : Nat) : LRel ι (cs.drop n) (us.drop n) := by
  refine ⟨by simp [h.1], fun i c u hc hu => ?_⟩
  rw [List.getElem?_drop] at hc hu
  exact h.2 _ _ _ hc hu
theorem LRel.win {ι : Io} {cs : List V} {us : List Value} (h : LRel ι cs us) (o n : Nat) : LRel ι (win cs o n) (win us o n) := (h.drop o).take n
theorem LRel.setW {ι : Io} {cs ds : List V} {us vs : List Value} (h1 : LRel ι cs us) (h2 : LRel ι ds vs) (o : Nat) : LRel ι (setW cs o ds) (setW us o vs) := by
  unfold Ab.setW
  rw [h2.1]
  exact ((h1.take o).append h2).append (h1.drop _)
theorem LRel.scs {ι : Io} (us : List Value) : LRel ι (us.map .sc) us := ⟨by simp, fun i c u hc hu => by rw [List.getElem?_map, hu] at hc; cases hc; exact .sc u⟩
theorem VRel.agg' {ι : Io} {cs : List V} {C : Array Value} (h : LRel ι cs C.toList) : VRel ι (.agg cs) (.agg C) := .agg cs C (by simpa using h.1) fun i c u a b => h.2 i c u a (by simpa using b)
theorem VRel.tup' {ι : Io} {cs : List V} {C : Array Value} (h : LRel ι cs C.toList) : VRel ι (.tup cs) (.tuple C) := .tup cs C (by simpa using h.1) fun i c u a b => h.2 i c u a (by simpa using b)
theorem VRel.fn' {ι : Io} {f : FuncId} {cs : List V} {C : Array Value} (h : LRel ι cs C.toList) : VRel ι (.fn f cs) (.func (.func f) #[] C) := .fn f cs C (by simpa using h.1) fun i c u a b => h.2 i c u a (by simpa using b)

def EntRel (ι : Io) (es : List (V × V × Nat)) (E : List MapEntry) : Prop := E.length = es.length ∧ ∀ (i : Nat) (p : V × V × Nat) (m : MapEntry), es[i]? = some p → E[i]? = some m → VRel ι p.1 m.key ∧ VRel ι p.2.1 m.val ∧ m.born = p.2.2
def BRel (ι : Io) (w : World) : B → Nat → Nat → Prop
  | .cells cs more, r, m => ∃ C t fz, w.heap[r]? = some (.cells C t fz) ∧ (∀ j, j < m → ¬ (fz.1 ≤ j ∧ j < fz.2)) ∧ C.size = m ∧ cs.length ≤ m ∧ (more = false → m = cs.length) ∧ LRel ι cs (C.toList.take cs.length)
  | .map es clk, r, _ => ∃ E, w.heap[r]? = some (.map E clk) ∧ EntRel ι es E.toList
  | .sit s pos, r, _ => w.heap[r]? = some (.stringIter s pos)
  | .mit mm since seen st, r, _ => ∃ rm, w.heap[r]? = some (.mapIter rm since seen.toArray st) ∧ match mm with
      | none => rm = none
      | some id => ∃ r2 m2, ι id = some (r2, m2) ∧ rm = some r2
theorem BRel.lt {ι : Io} {w : World} {b : B} {r m : Nat} (h : BRel ι w b r m) : r < w.heap.size := by
  cases b with
  | cells => obtain ⟨C, t, fz, h, _⟩ := h; exact (Array.getElem?_eq_some_iff.1 h).1
  | map => obtain ⟨E, h, _⟩ := h; exact (Array.getElem?_eq_some_iff.1 h).1
  | sit => exact (Array.getElem?_eq_some_iff.1 h).1
  | mit => obtain ⟨rm, h, _⟩ := h; exact (Array.getElem?_eq_some_iff.1 h).1
theorem BRel.mono {ι ι' : Io} {w w' : World} (hl : Io.le ι ι') {b : B} {r m : Nat} (h : BRel ι w b r m) (hw : w'.heap[r]? = w.heap[r]?) : BRel ι' w' b r m := by
  cases b with
  | cells => obtain ⟨C, t, fz, h, h0, h1, h2, h3, h4⟩ := h; exact ⟨C, t, fz, hw.trans h, h0, h1, h2, h3, h4.mono hl⟩
  | map => obtain ⟨E, h, h1, h2⟩ := h; exact ⟨E, hw.trans h, h1, fun i p m a b => ⟨(h2 i p m a b).1.mono hl, (h2 i p m a b).2.1.mono hl, (h2 i p m a b).2.2⟩⟩
  | sit => exact hw.trans h
  | mit mm =>
    obtain ⟨rm, h, h1⟩ := h
    refine ⟨rm, hw.trans h, ?_⟩
    cases mm with
    | none => exact h1
    | some id => obtain ⟨r2, m2, h2, h3⟩ := h1; exact ⟨r2, m2, hl _ _ h2, h3⟩

/-- What was told by one, seen again by a later one. -/
theorem VRel.back {ι ι' : Io} (hl : Io.le ι ι') {c : V} {u u' : Value} (h : VRel ι c u) : VRel ι' c u' → VRel ι c u' := by
  have arr : ∀ {cs : List V} {C C' : Array Value}, C.size = cs.length → (∀ (i : Nat) (c : V) (u : Value), cs[i]? = some c → C[i]? = some u → ∀ u', VRel ι' c u' → VRel ι c u') → (∀ (i : Nat) (c : V) (u : Value), cs[i]? = some c → C'[i]? = some u → VRel ι' c u) → ∀ (i : Nat) (c : V) (u : Value), cs[i]? = some c → C'[i]? = some u → VRel ι c u := fun {cs C C'} hs ih h2 i c u hc hu => by
    have hlt : i < C.size := by rw [hs]; exact (List.getElem?_eq_some_iff.1 hc).1
    exact ih i c C[i] hc (Array.getElem?_eq_getElem hlt) u (h2 i c u hc hu)
  induction h generalizing u' with
  | sc v => intro h2; cases h2; exact .sc v
  | ptr id off r m h => intro h2; cases h2 with | ptr _ _ r' m' h' => rw [hl _ _ h] at h'; cases h'; exact .ptr id off r m h
  | sl id off len k c r m h => intro h2; cases h2 with | sl _ _ _ _ _ r' m' h' => rw [hl _ _ h] at h'; cases h'; exact .sl id off len k c r m h
  | slu id off len k c r m h hc hl2 => intro h2; cases h2 with | slu _ _ _ _ c' r' m' h' h1 h3 => rw [hl _ _ h] at h'; cases h'; exact .slu id off len k c' r m h h1 h3
  | emp r o c => intro h2; cases h2 with | emp r' o' c' => exact .emp r' o' c'
  | mp id r m h => intro h2; cases h2 with | mp _ r' m' h' => rw [hl _ _ h] at h'; cases h'; exact .mp id r m h
  | fn f caps C hs h ih => intro h2; cases h2 with | fn _ _ C' hs' h' => exact .fn f caps C' hs' (arr hs (fun i c u a b u' => ih i c u a b) h')
  | ifc t v u h ih => intro h2; cases h2 with | ifc _ _ u2 h' => exact .ifc t v u2 (ih h')
  | agg cs C hs h ih => intro h2; cases h2 with | agg _ C' hs' h' => exact .agg cs C' hs' (arr hs (fun i c u a b u' => ih i c u a b) h')
  | tup cs C hs h ih => intro h2; cases h2 with | tup _ C' hs' h' => exact .tup cs C' hs' (arr hs (fun i c u a b u' => ih i c u a b) h')
theorem LRel.back {ι ι' : Io} (hl : Io.le ι ι') {cs : List V} {us us' : List Value} (h : LRel ι cs us) (h2 : LRel ι' cs us') : LRel ι cs us' := ⟨h2.1, fun i c u hc hu => by
  have hlt : i < us.length := by rw [h.1]; exact (List.getElem?_eq_some_iff.1 hc).1
  exact (h.2 i c us[i] hc (List.getElem?_eq_getElem hlt)).back hl (h2.2 i c u hc hu)⟩
theorem BRel.back {ι ι' : Io} (hl : Io.le ι ι') {w w' : World} {b : B} {r m : Nat} (h : BRel ι w b r m) (h2 : BRel ι' w' b r m) : BRel ι w' b r m := by
  cases b with
  | cells cs more =>
    obtain ⟨C, t, fz, _, _, _, _, _, h5⟩ := h
    obtain ⟨C', t', fz', g1, g2, g3, g4, g6, g5⟩ := h2
    exact ⟨C', t', fz', g1, g2, g3, g4, g6, h5.back hl g5⟩
  | map es clk =>
    obtain ⟨E, _, h1, h3⟩ := h
    obtain ⟨E', g0, g1, g3⟩ := h2
    refine ⟨E', g0, g1, fun i p m' a b => ?_⟩
    have hlt : i < E.toList.length := by rw [h1]; exact (List.getElem?_eq_some_iff.1 a).1
    have q1 := h3 i p E.toList[i] a (List.getElem?_eq_getElem hlt)
    have q2 := g3 i p m' a b
    exact ⟨q1.1.back hl q2.1, q1.2.1.back hl q2.2.1, q2.2.2⟩
  | sit s pos => exact h2
  | mit mm since seen st =>
    obtain ⟨rm, _, h1⟩ := h
    obtain ⟨rm', g0, g1⟩ := h2
    refine ⟨rm', g0, ?_⟩
    cases mm with
    | none => exact g1
    | some id =>
      obtain ⟨r2, m2, q1, q2⟩ := h1
      obtain ⟨r3, m3, q3, q4⟩ := g1
      rw [hl _ _ q1] at q3
      cases q3
      exact ⟨r2, m2, q1, q4⟩

/-! ### States -/
/-- The blocks, as a map. -/
abbrev Gm := Nat → Option B
structure HRel (ι : Io) (g : Gm) (w : World) : Prop where
  blk : ∀ id b, g id = some b → ∃ r m, ι id = some (r, m) ∧ BRel ι w b r m
  inj : ∀ i j b b' r m m', g i = some b → g j = some b' → ι i = some (r, m) → ι j = some (r, m') → i = j
def ERel (ι : Io) (e : Ev) (a : Act) : Prop := ∀ t c, e.get t = some c → ∃ u, a.tmps[t]? = some u ∧ VRel ι c u
/-- What happened: numbers from n to n' were given; no block but those of g was touched; what lives afterwards lived, or is new. -/
structure Ex (n n' : Nat) (ι : Io) (g : Gm) (w : World) (ι' : Io) (g' : Gm) (w' : World) : Prop where
  os : w'.os = w.os
  tape : w'.tape = w.tape
  output : w'.output = w.output
  size : w.heap.size ≤ w'.heap.size
  le : n ≤ n'
  same : ∀ id, ¬ (n ≤ id ∧ id < n') → ι' id = ι id
  mem : ∀ r, r < w.heap.size → (∀ id b m, g id = some b → ι id ≠ some (r, m)) → w'.heap[r]? = w.heap[r]?
  old : ∀ id b r m, g' id = some b → ι' id = some (r, m) → r < w.heap.size → ∃ j b' m', g j = some b' ∧ ι j = some (r, m')
/-- No number from n on is given. -/
def Free (ι : Io) (n n' : Nat) : Prop := ∀ id, n ≤ id → ι id = none
theorem Ex.io {n n' : Nat} {ι ι' : Io} {g g' : Gm} {w w' : World} (h : Ex n n' ι g w ι' g' w') (hf : Free ι n n') : Io.le ι ι' := fun id x hx => by
  by_cases hid : n ≤ id ∧ id < n'
  · rw [hf id hid.1] at hx; cases hx
  · rw [h.same id hid]; exact hx
theorem Ex.refl (n : Nat) (ι : Io) (g : Gm) (w : World) : Ex n n ι g w ι g w := ⟨rfl, rfl, rfl, Nat.le_refl _, Nat.le_refl _, fun _ _ => rfl, fun _ _ _ => rfl, fun id b r m h1 h2 _ => ⟨id, b, m, h1, h2⟩⟩
theorem Ex.trans {n n1 n2 : Nat} {ι ι1 ι2 : Io} {g g1 g2 : Gm} {w w1 w2 : World} (a : Ex n n1 ι g w ι1 g1 w1) (b : Ex n1 n2 ι1 g1 w1 ι2 g2 w2) : Ex n n2 ι g w ι2 g2 w2 := by
  refine ⟨b.os.trans a.os, b.tape.trans a.tape, b.output.trans a.output, Nat.le_trans a.size b.size, Nat.le_trans a.le b.le, fun id hid => ?_, fun r hr hn => ?_, fun id c r m h1 h2 h3 => ?_⟩
  · have := a.le; have := b.le
    rw [b.same id (by omega), a.same id (by omega)]
  · rw [b.mem r (Nat.lt_of_lt_of_le hr a.size) fun id c m h1 h2 => ?_, a.mem r hr hn]
    obtain ⟨j, b', m', h3, h4⟩ := a.old id c r m h1 h2 hr
    exact hn j b' m' h3 h4
  · obtain ⟨j, b', m', h4, h5⟩ := b.old id c r m h1 h2 (Nat.lt_of_lt_of_le h3 a.size)
    exact a.old j b' r m' h4 h5 h3
theorem Free.left {ι : Io} {n n1 n2 : Nat} (h : Free ι n n2) (hl : n1 ≤ n2) : Free ι n n1 := h
theorem Free.right {n n1 n2 : Nat} {ι ι1 : Io} {g g1 : Gm} {w w1 : World} (h : Free ι n n2) (a : Ex n n1 ι g w ι1 g1 w1) : Free ι1 n1 n2 := fun id h1 => by
  have := a.le
  rw [a.same id (by omega)]; exact h id (by omega)
theorem ERel.mono {ι ι' : Io} (hl : Io.le ι ι') {e : Ev} {a : Act} (h : ERel ι e a) : ERel ι' e a := fun t c hc => let ⟨u, h1, h2⟩ := h t c hc; ⟨u, h1, h2.mono hl⟩
theorem ERel.put {ι : Io} {e : Ev} {a : Act} (h : ERel ι e a) {t : Nat} (ht : t < a.tmps.size) {c : V} {u : Value} (hc : VRel ι c u) : ERel ι (e.set t c) (a.put (some t) u) := fun s c' hs => by
  rw [Tr.get_set] at hs
  split at hs
  · rename_i h1; subst h1; cases hs; exact ⟨u, by simp [Act.put, ht], hc⟩
  · rename_i h1
    obtain ⟨u', h3, h4⟩ := h s c' hs
    exact ⟨u', by simp [Act.put, Array.getElem?_setIfInBounds_ne (Ne.symm h1), h3], h4⟩

/-! ### What steps do to states -/
section
variable {ι : Io} {g : Gm} {w w' : World}
/-- A step that only grows what is there, or draws. -/
theorem HRel.grow (H : HRel ι g w) (hmem : ∀ r, r < w.heap.size → w'.heap[r]? = w.heap[r]?) : HRel ι g w' :=
  ⟨fun id b hb => let ⟨r, m, h1, h2⟩ := H.blk id b hb; ⟨r, m, h1, h2.mono (fun _ _ h => h) (hmem r h2.lt)⟩, H.inj⟩
def upd (g : Gm) (id : Nat) (b : B) : Gm := fun j => if j = id then some b else g j
def updI (ι : Io) (id r m : Nat) : Io := fun j => if j = id then some (r, m) else ι j
theorem get_set_upd (h : Hp) (id : Nat) (b : B) : (h.set id b).get = upd h.get id b := by
  funext j; rw [Tr.get_set]; rfl
/-- Fewer blocks are known. -/
theorem HRel.sub {g' : Gm} (H : HRel ι g w) (hs : ∀ id b, g' id = some b → g id = some b) : HRel ι g' w :=
  ⟨fun id b hb => H.blk id b (hs id b hb), fun i j b b' r m m' h1 h2 h3 h4 => H.inj i j b b' r m m' (hs i b h1) (hs j b' h2) h3 h4⟩
theorem Ex.sub {n n' : Nat} {ι' : Io} {g1 g2 : Gm} (h : Ex n n' ι g w ι' g1 w') (hs : ∀ id b, g2 id = some b → g1 id = some b) : Ex n n' ι g w ι' g2 w' :=
  ⟨h.os, h.tape, h.output, h.size, h.le, h.same, h.mem, fun id b r m h1 h2 h3 => h.old id b r m (hs id b h1) h2 h3⟩
theorem le_updI {id r m : Nat} (h0 : ι id = none) : Io.le ι (updI ι id r m) := fun j x hx => by
  unfold updI
  split
  · rename_i he; subst he; rw [h0] at hx; cases hx
  · exact hx
/-- A new block. -/
theorem HRel.new (H : HRel ι g w) {id m : Nat} (h0 : ι id = none) (hs : w.heap.size < w'.heap.size) (hmem : ∀ r, r < w.heap.size → w'.heap[r]? = w.heap[r]?) {b : B} (hb : BRel (updI ι id w.heap.size m) w' b w.heap.size m) : HRel (updI ι id w.heap.size m) (upd g id b) w' := by
  refine ⟨fun j c hj => ?_, fun i j b1 b2 r m1 m2 h1 h2 h3 h4 => ?_⟩
  · unfold upd at hj
    split at hj
    · rename_i he; subst he; cases hj; exact ⟨_, _, by simp [updI], hb⟩
    · rename_i he
      obtain ⟨r, m', h1, h2⟩ := H.blk j c hj
      exact ⟨r, m', by simp [updI, he, h1], h2.mono (le_updI h0) (hmem r h2.lt)⟩
  · have lt : ∀ k b r m, g k = some b → ι k = some (r, m) → r < w.heap.size := fun k b r m hk hι => by
      obtain ⟨r', m', h5, h6⟩ := H.blk k b hk
      rw [hι] at h5; cases h5; exact h6.lt
    unfold upd at h1 h2
    unfold updI at h3 h4
    split at h1 <;> split at h2
    · omega
    · rename_i e1 e2; rw [if_pos e1] at h3; rw [if_neg e2] at h4; cases h3; have := lt _ _ _ _ h2 h4; omega
    · rename_i e1 e2; rw [if_neg e1] at h3; rw [if_pos e2] at h4; cases h4; have := lt _ _ _ _ h1 h3; omega
    · rename_i e1 e2; rw [if_neg e1] at h3; rw [if_neg e2] at h4; exact H.inj i j b1 b2 r m1 m2 h1 h2 h3 h4
theorem Ex.new {id m : Nat} {b : B} (ho : w'.os = w.os) (ht : w'.tape = w.tape) (hou : w'.output = w.output) (hs : w.heap.size ≤ w'.heap.size) (hmem : ∀ r, r < w.heap.size → w'.heap[r]? = w.heap[r]?) : Ex id (id + 1) ι g w (updI ι id w.heap.size m) (upd g id b) w' := by
  refine ⟨ho, ht, hou, hs, by omega, fun j hj => ?_, fun r hr _ => hmem r hr, fun j c r m' h1 h2 h3 => ?_⟩
  · unfold updI; rw [if_neg (by omega)]
  · unfold upd at h1
    unfold updI at h2
    split at h1
    · rename_i he; rw [if_pos he] at h2; cases h2; omega
    · rename_i he; rw [if_neg he] at h2; exact ⟨j, c, m', h1, h2⟩
/-- A block is written. -/
theorem HRel.wrote (H : HRel ι g w) {id r m : Nat} {b b' : B} (hg : g id = some b) (hi : ι id = some (r, m)) (hmem : ∀ r', r' ≠ r → w'.heap[r']? = w.heap[r']?) (hb : BRel ι w' b' r m) : HRel ι (upd g id b') w' := by
  refine ⟨fun j c hj => ?_, fun i j b1 b2 r1 m1 m2 h1 h2 h3 h4 => ?_⟩
  · unfold upd at hj
    split at hj
    · rename_i he; subst he; cases hj; exact ⟨r, m, hi, hb⟩
    · rename_i he
      obtain ⟨r', m', h1, h2⟩ := H.blk j c hj
      refine ⟨r', m', h1, h2.mono (fun _ _ h => h) (hmem r' ?_)⟩
      rintro rfl
      exact he (H.inj j id c b r' m' m hj hg h1 hi)
  · have := H.inj i j
    unfold upd at h1 h2
    have f : ∀ k b0, (if k = id then some b' else g k) = some b0 → ∃ b1, g k = some b1 := fun k b0 h => by
      split at h
      · rename_i he; subst he; exact ⟨b, hg⟩
      · exact ⟨b0, h⟩
    obtain ⟨c1, e1⟩ := f i b1 h1
    obtain ⟨c2, e2⟩ := f j b2 h2
    exact H.inj i j c1 c2 r1 m1 m2 e1 e2 h3 h4
theorem Ex.wrote {n id r m : Nat} {b b' : B} (hg : g id = some b) (hi : ι id = some (r, m)) (ho : w'.os = w.os) (ht : w'.tape = w.tape) (hou : w'.output = w.output) (hs : w.heap.size ≤ w'.heap.size) (hmem : ∀ r', r' ≠ r → w'.heap[r']? = w.heap[r']?) : Ex n n ι g w ι (upd g id b') w' := by
  refine ⟨ho, ht, hou, hs, Nat.le_refl _, fun _ _ => rfl, fun r' hr hn => hmem r' ?_, fun j c r' m' h1 h2 h3 => ?_⟩
  · rintro rfl; exact hn id b m hg hi
  · unfold upd at h1
    split at h1
    · rename_i he; subst he; exact ⟨j, b, m', hg, h2⟩
    · exact ⟨j, c, m', h1, h2⟩
end

/-! ### What needs no memory -/
def pv {α : Type} (P : Program) : Sem α → Option α
  | .pure a => some a
  | .program k => pv P (k P)
  | .mark _ k => pv P k
  | _ => none
theorem pv_run {α : Type} {P : Program} {s : Sem α} {a : α} (h : pv P s = some a) (w : World) : s.run P w = .ok a w := by
  induction s with
  | pure b => cases h; rfl
  | program k ih => exact ih P h
  | mark m k ih => exact ih h
  | _ => cases h

/-! The value of what holds no block of one's own. -/
mutual
def tv : V → Option Value
  | .sc v => some v
  | .agg cs => match tvs cs with
    | some l => some (.agg l.toArray)
    | none => none
  | .tup cs => match tvs cs with
    | some l => some (.tuple l.toArray)
    | none => none
  | .ifc t v => match tv v with
    | some u => some (.iface t u)
    | none => none
  | .fn f cs => match tvs cs with
    | some l => some (.func (.func f) #[] l.toArray)
    | none => none
  | _ => none
def tvs : List V → Option (List Value)
  | [] => some []
  | c :: r => match tv c with
    | some v => match tvs r with
      | some l => some (v :: l)
      | none => none
    | none => none
end
theorem tvs_get {cs : List V} {l : List Value} (h : tvs cs = some l) : l.length = cs.length ∧ ∀ (i : Nat) (c : V) (v : Value), cs[i]? = some c → l[i]? = some v → tv c = some v := by
  induction cs generalizing l with
  | nil => cases h; exact ⟨rfl, by simp⟩
  | cons c r ih =>
    rw [tvs] at h
    cases hc : tv c with
    | none => simp [hc] at h
    | some v =>
      cases hr : tvs r with
      | none => simp [hc, hr] at h
      | some l' =>
        simp [hc, hr] at h
        subst h
        obtain ⟨h1, h2⟩ := ih hr
        refine ⟨by simp [h1], fun i c' v' h3 h4 => ?_⟩
        cases i with
        | zero => simp at h3 h4; subst h3 h4; exact hc
        | succ i => exact h2 i c' v' (by simpa using h3) (by simpa using h4)
theorem arr_eq {cs : List V} {l : List Value} {C : Array Value} (h : tvs cs = some l) (hl : C.size = cs.length) (hr : ∀ (i : Nat) (c : V) (u : Value), cs[i]? = some c → C[i]? = some u → ∀ v, tv c = some v → u = v) : C = l.toArray := by
  obtain ⟨h1, h2⟩ := tvs_get h
  apply Array.ext
  · simp [hl, h1]
  · intro i h3 h4
    have h5 : i < cs.length := by omega
    have h6 : i < l.length := by omega
    have := hr i cs[i] C[i] (List.getElem?_eq_getElem h5) (Array.getElem?_eq_getElem h3) _ (h2 i cs[i] l[i] (List.getElem?_eq_getElem h5) (List.getElem?_eq_getElem h6))
    simpa using this
theorem tv_rel {ι : Io} {c : V} {u : Value} (h : VRel ι c u) : ∀ v, tv c = some v → u = v := by
  induction h with
  | sc v => intro v' h; cases h; rfl
  | fn f caps C hl h ih =>
    intro v hv
    rw [tv] at hv
    cases hc : tvs caps with
    | none => simp [hc] at hv
    | some l => simp [hc] at hv; subst hv; rw [arr_eq hc hl ih]
  | agg cs C hl h ih =>
    intro v hv
    rw [tv] at hv
    cases hc : tvs cs with
    | none => simp [hc] at hv
    | some l => simp [hc] at hv; subst hv; rw [arr_eq hc hl ih]
  | tup cs C hl h ih =>
    intro v hv
    rw [tv] at hv
    cases hc : tvs cs with
    | none => simp [hc] at hv
    | some l => simp [hc] at hv; subst hv; rw [arr_eq hc hl ih]
  | ifc t c u h ih =>
    intro v hv
    rw [tv] at hv
    cases hc : tv c with
    | none => simp [hc] at hv
    | some l => simp [hc] at hv; subst hv; rw [ih _ hc]
  | _ => intro v hv; cases hv
theorem tvs_rel {ι : Io} {cs : List V} {us : List Value} (h : LRel ι cs us) {l : List Value} (hl : tvs cs = some l) : us = l := by
  have := arr_eq (C := us.toArray) hl (by simpa using h.1) fun i c u a b v hv => tv_rel (h.2 i c u a (by simpa using b)) v hv
  simpa using congrArg Array.toList this

/-! Its cells; may each be stored? -/
def one : V → Bool
  | .sc v => v.oneCell'
  | .agg _ => false
  | .tup _ => false
  | _ => true
theorem one_rel {ι : Io} {c : V} {u : Value} (h : VRel ι c u) (h1 : one c = true) : u.oneCell' = true := by
  cases h <;> first | exact h1 | rfl | cases h1
def cellsV : V → List V
  | .agg cs => cs
  | .sc v => v.cells.toList.map .sc
  | c => [c]
theorem cells_rel {ι : Io} {c : V} {u : Value} (h : VRel ι c u) : LRel ι (cellsV c) u.cells.toList := by
  have single : ∀ {c : V} {u : Value}, VRel ι c u → LRel ι [c] [u] := fun h => LRel.cons h .nil
  cases h with
  | sc v => exact LRel.scs _
  | agg cs C hl h => exact ⟨(by simpa using hl : C.toList.length = cs.length), fun i c u a b => h i c u a (by simpa [Value.cells] using b)⟩
  | ptr id off r m h => exact single (.ptr id off r m h)
  | sl id off len k c r m h => exact single (.sl id off len k c r m h)
  | slu id off len k c r m h hc hl => exact single (.slu id off len k c r m h hc hl)
  | emp r o c => exact single (.emp r o c)
  | mp id r m h => exact single (.mp id r m h)
  | fn f caps C hl h => exact single (.fn f caps C hl h)
  | ifc t v u h => exact single (.ifc t v u h)
  | tup cs C hl h => exact single (.tup cs C hl h)
theorem all_one {ι : Io} {cs : List V} {us : List Value} (h : LRel ι cs us) (h1 : cs.all one = true) : ∀ u ∈ us, u.oneCell' = true := fun u hu => by
  obtain ⟨i, hi⟩ := List.mem_iff_getElem?.1 hu
  have hlt : i < cs.length := by rw [← h.1]; exact (List.getElem?_eq_some_iff.1 hi).1
  exact one_rel (h.2 i cs[i] u (List.getElem?_eq_getElem hlt) hi) (List.all_eq_true.1 h1 _ (List.getElem_mem hlt))

/-! ### Operands -/
def ev (e : Ev) : Operand → Option V
  | .tmp t => e.get t
  | .const v => some (.sc v)
  | .func f => some (.fn f [])
  | .global g => some (.sc (.pointer (some ⟨g, 0, none⟩)))
theorem ev_rel {ι : Io} {e : Ev} {a : Act} (E : ERel ι e a) {x : Operand} {c : V} (h : ev e x = some c) : VRel ι c (a.eval x) := by
  cases x with
  | tmp t => obtain ⟨u, h1, h2⟩ := E t c h; simpa [Act.eval, h1] using h2
  | const v => cases h; exact .sc v
  | func f => cases h; exact .fn f [] #[] rfl (by simp)
  | global g => cases h; exact .sc _
def evs (e : Ev) : List Operand → Option (List V)
  | [] => some []
  | x :: r => match ev e x with
    | some c => match evs e r with
      | some cs => some (c :: cs)
      | none => none
    | none => none
theorem evs_rel {ι : Io} {e : Ev} {a : Act} (E : ERel ι e a) {l : List Operand} {cs : List V} (h : evs e l = some cs) : LRel ι cs (l.map a.eval) := by
  induction l generalizing cs with
  | nil => cases h; exact .nil
  | cons x r ih =>
    rw [evs] at h
    cases hx : ev e x with
    | none => simp [hx] at h
    | some c =>
      cases hr : evs e r with
      | none => simp [hx, hr] at h
      | some cs' => simp [hx, hr] at h; subst h; exact LRel.cons (ev_rel E hx) (ih hr)
end Go.Proofs.Ytplgpbadpdmeeaa.Rn

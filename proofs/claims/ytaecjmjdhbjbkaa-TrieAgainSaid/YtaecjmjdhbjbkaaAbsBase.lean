/-
  An abstract state for walks: values and blocks by names of our own, so that neither addresses nor draws nor capacities stand in a proof. What it means for a real state to be as an abstract one says; how such a relation is kept.
-/
import Derived.WalkKit
import Derived.WalkSpells
import Derived.WalkLawsBesides
import Derived.Deep.AppendLies
import Derived.Deep.Quiet
import Derived.OrdersHeld
import Derived.KernelRfl
namespace Go.Proofs.Ytaecjmjdhbjbkaa.Ab
set_option linter.unusedVariables false
open Go.RowKit

/-- Data that never turns: a plain cell, or a slice that is read alone (its cells, its length). -/
inductive Dat where
  | sc (v : Value)
  | sl (cs : List Dat) (n : Nat)
  /-- .. one of n elements that can be made longer, up to m. -/
  | cut (cs : List Dat) (n m : Nat)

/-- An abstract value. A block of one's own goes by a number ('id'). -/
inductive AVal where
  | top
  | und
  | d (x : Dat)
  | agg (cs : List AVal)
  | tup (cs : List AVal)
  | ptr (id off : Nat)
  | eptr (id off : Nat)
  | iptr (cs : List Dat) (off : Nat)
  | row (id : Nat)
  | mp (id : Nat)
  | fn (f : FuncId) (caps : List AVal)
  /-- n elements of a row of one's own, from a cell on -/
  | srow (id off n : Nat)
  /-- a slice that is read alone, and has no room behind its length -/
  | full (cs : List Dat) (n : Nat)

mutual
def AVal.has (id : Nat) : AVal → Bool
  | .agg cs => hasL id cs
  | .tup cs => hasL id cs
  | .fn _ cs => hasL id cs
  | .ptr j _ => j == id
  | .eptr j _ => j == id
  | .row j => j == id
  | .mp j => j == id
  | .srow j _ _ => j == id
  | _ => false
def hasL (id : Nat) : List AVal → Bool
  | [] => false
  | c :: r => c.has id || hasL id r
end

theorem hasL_mem {id : Nat} {cs : List AVal} (h : hasL id cs = false) {i : Nat} {c : AVal} (hi : cs[i]? = some c) : c.has id = false := by
  induction cs generalizing i with
  | nil => simp at hi
  | cons a r ih =>
    rw [hasL, Bool.or_eq_false_iff] at h
    cases i with
    | zero => simp at hi; subst hi; exact h.1
    | succ i => exact ih h.2 (by simpa using hi)

inductive ABlk where
  | var (cs : List AVal)
  | row (e : TypeId) (k n : Nat) (cs : List Dat)
  | map (es : List (AVal × AVal))
  /-- .. of which it is known where it lies, when each entry was laid, and how late it is. -/
  | mapx (r : Nat) (bs : List Nat) (clk : Nat) (es : List (AVal × AVal))
  /-- a thing without cells, as it is -/
  | it (o : Obj)

/-- The block that a handle names. -/
def blockOf : Value → Option Nat
  | .pointer (some a) => some a.block
  | .slice (some a) _ _ => some a.block
  | .map (some r) => some r
  | _ => none

/-- Not a block of one's own, nor one of those (F) that are not to be met. -/
def FreeB (F : Nat → Prop) (ι : Nat → Option Value) (r : Nat) : Prop := ¬ F r ∧ ∀ id v, ι id = some v → blockOf v ≠ some r

inductive DRel (w : World) (Fr : Nat → Prop) : Dat → Value → Prop where
  | sc (v : Value) (h : v.oneCell' = true) : DRel w Fr (.sc v) v
  | nil : DRel w Fr (.sl [] 0) (.slice none 0 0)
  | sl (cs : List Dat) (n b o cap : Nat) (vs : List Value) (hn : n ≤ cap) (hl : vs.length = cs.length) (hf : vs ≠ [] → Fr b)
      (hc : ∀ (i : Nat) (u : Value), vs[i]? = some u → w.cell? ⟨b, o + i, none⟩ = some u)
      (hr : ∀ (i : Nat) (c : Dat) (u : Value), cs[i]? = some c → vs[i]? = some u → DRel w Fr c u) : DRel w Fr (.sl cs n) (.slice (some ⟨b, o, none⟩) n cap)
  | cut (cs : List Dat) (n m b o cap : Nat) (vs : List Value) (hn : n ≤ m) (hm : m ≤ cap) (hl : vs.length = cs.length) (hf : vs ≠ [] → Fr b)
      (hc : ∀ (i : Nat) (u : Value), vs[i]? = some u → w.cell? ⟨b, o + i, none⟩ = some u)
      (hr : ∀ (i : Nat) (c : Dat) (u : Value), cs[i]? = some c → vs[i]? = some u → DRel w Fr c u) : DRel w Fr (.cut cs n m) (.slice (some ⟨b, o, none⟩) n cap)

inductive VRel (w : World) (F : Nat → Prop) (ι : Nat → Option Value) : AVal → Value → Prop where
  | top (u : Value) : VRel w F ι .top u
  | und : VRel w F ι .und undef
  | d (x : Dat) (u : Value) (h : DRel w (FreeB F ι) x u) : VRel w F ι (.d x) u
  | agg (cs : List AVal) (C : Array Value) (hl : C.size = cs.length) (h : ∀ (i : Nat) (c : AVal) (u : Value), cs[i]? = some c → C[i]? = some u → VRel w F ι c u) : VRel w F ι (.agg cs) (.agg C)
  | tup (cs : List AVal) (C : Array Value) (hl : C.size = cs.length) (h : ∀ (i : Nat) (c : AVal) (u : Value), cs[i]? = some c → C[i]? = some u → VRel w F ι c u) : VRel w F ι (.tup cs) (.tuple C)
  | ptr (id off : Nat) (u : Value) (h1 : u.oneCell' = true) (h : ∀ v, ι id = some v → ∃ r, v = .pointer (some ⟨r, 0, none⟩) ∧ u = .pointer (some ⟨r, off, none⟩)) : VRel w F ι (.ptr id off) u
  | eptr (id off : Nat) (u : Value) (h1 : u.oneCell' = true) (h : ∀ v, ι id = some v → ∃ g n cap, v = .slice (some ⟨g, 0, none⟩) n cap ∧ u = .pointer (some ⟨g, off, none⟩)) : VRel w F ι (.eptr id off) u
  | iptr (cs : List Dat) (off b o : Nat) (vs : List Value) (hl : vs.length = cs.length) (hf : vs ≠ [] → FreeB F ι b)
      (hc : ∀ (i : Nat) (u : Value), vs[i]? = some u → w.cell? ⟨b, o + i, none⟩ = some u)
      (hr : ∀ (i : Nat) (c : Dat) (u : Value), cs[i]? = some c → vs[i]? = some u → DRel w (FreeB F ι) c u) : VRel w F ι (.iptr cs off) (.pointer (some ⟨b, o + off, none⟩))
  | row (id : Nat) (u : Value) (h1 : u.oneCell' = true) (h : ∀ v, ι id = some v → u = v) : VRel w F ι (.row id) u
  | mp (id : Nat) (u : Value) (h1 : u.oneCell' = true) (h : ∀ v, ι id = some v → u = v) : VRel w F ι (.mp id) u
  | fn (f : FuncId) (caps : List AVal) (C : Array Value) (hl : C.size = caps.length) (h : ∀ (i : Nat) (c : AVal) (u : Value), caps[i]? = some c → C[i]? = some u → VRel w F ι c u) : VRel w F ι (.fn f caps) (.func (.func f) #[] C)
  | srow (id off n : Nat) (u : Value) (h1 : u.oneCell' = true) (h : ∀ v, ι id = some v → ∃ b' c', u = .slice b' n c' ∧ n ≤ c' ∧ (0 < n → ∃ g N cap, v = .slice (some ⟨g, 0, none⟩) N cap ∧ b' = some ⟨g, off, none⟩)) : VRel w F ι (.srow id off n) u
  | full (cs : List Dat) (n : Nat) (b : Option Addr) (h : DRel w (FreeB F ι) (.sl cs n) (.slice b n n)) : VRel w F ι (.full cs n) (.slice b n n)

theorem cell_lt {w : World} {b o : Nat} {s : Option Nat} {v : Value} (h : w.cell? ⟨b, o, s⟩ = some v) : b < w.heap.size := World.block_lt_of_cell? w ⟨b, o, s⟩ h
theorem cell_of_same {w w' : World} {b o : Nat} {v : Value} (h : w'.heap[b]? = w.heap[b]?) (hc : w.cell? ⟨b, o, none⟩ = some v) : w'.cell? ⟨b, o, none⟩ = some v := by
  rw [World.cell?_of_block (a := ⟨b, o, none⟩) h]; exact hc

theorem DRel.ext {w w' : World} {Fr Fr' : Nat → Prop} {x : Dat} {u : Value} (h : DRel w Fr x u) (hw : ∀ r, r < w.heap.size → Fr r → w'.heap[r]? = w.heap[r]?)
    (hf : ∀ r, r < w.heap.size → Fr r → Fr' r) : DRel w' Fr' x u := by
  induction h with
  | sc v h => exact .sc v h
  | nil => exact .nil
  | sl cs n b o cap vs hn hl hfr hc hr ih =>
    have key : ∀ (i : Nat) (u : Value), vs[i]? = some u → b < w.heap.size ∧ Fr b := fun i u hu =>
      ⟨cell_lt (hc i u hu), hfr (by rintro rfl; simp at hu)⟩
    refine .sl cs n b o cap vs hn hl (fun hne => ?_) (fun i u hu => ?_) ih
    · cases vs with
      | nil => exact absurd rfl hne
      | cons a t => have := key 0 a rfl; exact hf b this.1 this.2
    · have := key i u hu
      exact cell_of_same (hw b this.1 this.2) (hc i u hu)
  | cut cs n m b o cap vs hn hm hl hfr hc hr ih =>
    have key : ∀ (i : Nat) (u : Value), vs[i]? = some u → b < w.heap.size ∧ Fr b := fun i u hu =>
      ⟨cell_lt (hc i u hu), hfr (by rintro rfl; simp at hu)⟩
    refine .cut cs n m b o cap vs hn hm hl (fun hne => ?_) (fun i u hu => ?_) ih
    · cases vs with
      | nil => exact absurd rfl hne
      | cons a t => have := key 0 a rfl; exact hf b this.1 this.2
    · have := key i u hu
      exact cell_of_same (hw b this.1 this.2) (hc i u hu)

/-- What is asked of a step so that values stay as they are. -/
structure Ext (w : World) (F : Nat → Prop) (ι : Nat → Option Value) (w' : World) (ι' : Nat → Option Value) : Prop where
  mem : ∀ r, r < w.heap.size → FreeB F ι r → w'.heap[r]? = w.heap[r]?
  free : ∀ r, r < w.heap.size → FreeB F ι r → FreeB F ι' r

structure ExtF (w : World) (F : Nat → Prop) (ι : Nat → Option Value) (w' : World) (F' : Nat → Prop) (ι' : Nat → Option Value) : Prop where
  mem : ∀ r, r < w.heap.size → FreeB F ι r → w'.heap[r]? = w.heap[r]?
  free : ∀ r, r < w.heap.size → FreeB F ι r → FreeB F' ι' r

theorem VRel.extF {w w' : World} {F F' : Nat → Prop} {ι ι' : Nat → Option Value} {c : AVal} {u : Value} (h : VRel w F ι c u) (he : ExtF w F ι w' F' ι')
    (hid : ∀ id v, c.has id = true → ι' id = some v → ι id = some v) : VRel w' F' ι' c u := by
  induction h with
  | top u => exact .top u
  | und => exact .und
  | d x u h => exact .d x u (h.ext he.mem he.free)
  | agg cs C hl h ih =>
    refine .agg cs C hl fun i c u hc hu => ih i c u hc hu fun id v hh => hid id v ?_
    rw [AVal.has]
    cases h' : hasL id cs with
    | false => exact absurd hh (by rw [hasL_mem h' hc]; simp)
    | true => rfl
  | tup cs C hl h ih =>
    refine .tup cs C hl fun i c u hc hu => ih i c u hc hu fun id v hh => hid id v ?_
    rw [AVal.has]
    cases h' : hasL id cs with
    | false => exact absurd hh (by rw [hasL_mem h' hc]; simp)
    | true => rfl
  | ptr id off u h1 h => exact .ptr id off u h1 fun v hv => h v (hid id v (by simp [AVal.has]) hv)
  | eptr id off u h1 h => exact .eptr id off u h1 fun v hv => h v (hid id v (by simp [AVal.has]) hv)
  | iptr cs off b o vs hl hf hc hr =>
    have key : ∀ (i : Nat) (u : Value), vs[i]? = some u → b < w.heap.size := fun i u hu => cell_lt (hc i u hu)
    have kf : ∀ (i : Nat) (u : Value), vs[i]? = some u → FreeB F ι b := fun i u hu => hf (by rintro rfl; simp at hu)
    refine .iptr cs off b o vs hl (fun hne => ?_) (fun i u hu => cell_of_same (he.mem b (key i u hu) (kf i u hu)) (hc i u hu)) fun i c u h1 h2 => (hr i c u h1 h2).ext he.mem he.free
    cases vs with
    | nil => exact absurd rfl hne
    | cons a t => exact he.free b (key 0 a rfl) (kf 0 a rfl)
  | row id u h1 h => exact .row id u h1 fun v hv => h v (hid id v (by simp [AVal.has]) hv)
  | mp id u h1 h => exact .mp id u h1 fun v hv => h v (hid id v (by simp [AVal.has]) hv)
  | fn f caps C hl h ih =>
    refine .fn f caps C hl fun i c u hc hu => ih i c u hc hu fun id v hh => hid id v ?_
    rw [AVal.has]
    cases h' : hasL id caps with
    | false => exact absurd hh (by rw [hasL_mem h' hc]; simp)
    | true => rfl
  | srow id off n u h1 h => exact .srow id off n u h1 fun v hv => h v (hid id v (by simp [AVal.has]) hv)
  | full cs n b h => exact .full cs n b (h.ext he.mem he.free)

theorem VRel.ext {w w' : World} {F : Nat → Prop} {ι ι' : Nat → Option Value} {c : AVal} {u : Value} (h : VRel w F ι c u) (he : Ext w F ι w' ι')
    (hid : ∀ id v, c.has id = true → ι' id = some v → ι id = some v) : VRel w' F ι' c u := h.extF ⟨he.mem, he.free⟩ hid

/-! ### Blocks, heaps, frames -/
abbrev Env := List (Nat × AVal)
abbrev Heap := List (Nat × ABlk)
theorem beq_no {s t : Nat} (h : s ≠ t) : Nat.beq s t = false := by
  cases hb : Nat.beq s t
  · rfl
  · exact absurd (Nat.eq_of_beq_eq_true hb) h
theorem beq_yes (t : Nat) : Nat.beq t t = true := by simp
theorem of_beq_no {s t : Nat} (h : Nat.beq s t = false) : s ≠ t := by
  rintro rfl; rw [beq_yes] at h; cases h
def look {α : Type} : List (Nat × α) → Nat → Option α
  | [], _ => none
  | (k, c) :: r, t => cond (Nat.beq k t) (some c) (look r t)
theorem look_cons_same {α : Type} (t : Nat) (c : α) (l : List (Nat × α)) : look ((t, c) :: l) t = some c := by simp [look]
theorem look_cons_ne {α : Type} {t s : Nat} (c : α) (l : List (Nat × α)) (h : s ≠ t) : look ((s, c) :: l) t = look l t := by
  simp [look, beq_no h]

def BRel (w : World) (F : Nat → Prop) (ι : Nat → Option Value) : ABlk → Value → Prop
  | .var cs, v => ∃ r C T, v = .pointer (some ⟨r, 0, none⟩) ∧ w.heap[r]? = some (.cells C T (0, 0)) ∧ C.size = cs.length ∧ ∀ (i : Nat) (c : AVal) (u : Value), cs[i]? = some c → C[i]? = some u → VRel w F ι c u
  | .row e k n cs, v => ∃ xs, w.ownsRow 0 e k v n xs ∧ xs.length = cs.length ∧ ∀ (i : Nat) (c : Dat) (u : Value), cs[i]? = some c → xs[i]? = some u → DRel w (FreeB F ι) c u
  | .it o, v => ∃ r, v = .pointer (some ⟨r, 0, none⟩) ∧ w.heap[r]? = some o
  | .mapx r bs clk es, v => ∃ E, v = .map (some r) ∧ w.heap[r]? = some (.map E clk) ∧ E.size = es.length ∧ (∀ (i : Nat) (p : AVal × AVal) (m : MapEntry), es[i]? = some p → E[i]? = some m → VRel w F ι p.1 m.key ∧ VRel w F ι p.2 m.val) ∧
      E.toList.map (·.born) = bs ∧ bs.Pairwise (fun a b => a < b) ∧ ∀ b ∈ bs, b < clk
  | .map es, v => ∃ r E clk, v = .map (some r) ∧ w.heap[r]? = some (.map E clk) ∧ E.size = es.length ∧ (∀ (i : Nat) (p : AVal × AVal) (m : MapEntry), es[i]? = some p → E[i]? = some m → VRel w F ι p.1 m.key ∧ VRel w F ι p.2 m.val) ∧
      (∀ (i j : Nat) (m m' : MapEntry), i < j → E[i]? = some m → E[j]? = some m' → m.born < m'.born) ∧ ∀ (i : Nat) (m : MapEntry), E[i]? = some m → m.born < clk

theorem BRel.lt {w : World} {F : Nat → Prop} {ι : Nat → Option Value} {b : ABlk} {v : Value} (h : BRel w F ι b v) {r : Nat} (hr : blockOf v = some r) : r < w.heap.size := by
  cases b with
  | var cs => obtain ⟨r', C, T, rfl, hc, _⟩ := h; simp [blockOf] at hr; subst hr; exact (Array.getElem?_eq_some_iff.1 hc).1
  | row e k n cs =>
    obtain ⟨xs, hown, _⟩ := h
    refine (hown.lt r ?_).2
    cases v <;> simp [blockOf] at hr <;> first | (rename_i a _ _; cases a <;> simp_all [Value.ownBlock]) | (rcases hown.2 with ⟨h1, _⟩ | ⟨_, _, _, h1, _⟩ <;> cases h1)
  | map es => obtain ⟨r', E, clk, rfl, hc, _⟩ := h; simp [blockOf] at hr; subst hr; exact (Array.getElem?_eq_some_iff.1 hc).1
  | mapx r0 bs0 clk0 es => obtain ⟨E, rfl, hc, _⟩ := h; simp [blockOf] at hr; subst hr; exact (Array.getElem?_eq_some_iff.1 hc).1
  | it o => obtain ⟨r', rfl, hc⟩ := h; simp [blockOf] at hr; subst hr; exact (Array.getElem?_eq_some_iff.1 hc).1

theorem BRel.ext {w w' : World} {F : Nat → Prop} {ι ι' : Nat → Option Value} {b : ABlk} {v : Value} (h : BRel w F ι b v) (he : Ext w F ι w' ι')
    (hid : ∀ id v, ι' id = some v → ι id = some v) (hs : ∀ r, blockOf v = some r → w'.heap[r]? = w.heap[r]?) : BRel w' F ι' b v := by
  cases b with
  | var cs =>
    obtain ⟨r, C, T, rfl, hc, hl, h⟩ := h
    exact ⟨r, C, T, rfl, (hs r rfl).trans hc, hl, fun i c u h1 h2 => (h i c u h1 h2).ext he fun id v _ => hid id v⟩
  | row e k n cs =>
    obtain ⟨xs, hown, hl, h⟩ := h
    refine ⟨xs, ⟨hown.1, ?_⟩, hl, fun i c u h1 h2 => (h i c u h1 h2).ext he.mem he.free⟩
    rcases hown.2 with h1 | ⟨g, cap, cur, rfl, hb, hg, rest⟩
    · exact .inl h1
    · exact .inr ⟨g, cap, cur, rfl, hb, (hs g rfl).trans hg, rest⟩
  | map es =>
    obtain ⟨r, E, clk, rfl, hc, hl, h, h3⟩ := h
    exact ⟨r, E, clk, rfl, (hs r rfl).trans hc, hl, fun i p m h1 h2 => ⟨(h i p m h1 h2).1.ext he fun id v _ => hid id v, (h i p m h1 h2).2.ext he fun id v _ => hid id v⟩, h3⟩
  | mapx r0 bs0 clk0 es =>
    obtain ⟨E, rfl, hc, hl, h, h3⟩ := h
    exact ⟨E, rfl, (hs _ rfl).trans hc, hl, fun i p m h1 h2 => ⟨(h i p m h1 h2).1.ext he fun id v _ => hid id v, (h i p m h1 h2).2.ext he fun id v _ => hid id v⟩, h3⟩
  | it o => obtain ⟨r, rfl, hc⟩ := h; exact ⟨r, rfl, (hs r rfl).trans hc⟩

/-- What stands in a slot that names the block is forgotten. -/
def killV (id : Nat) (c : AVal) : AVal := cond (c.has id) .top c
def killE (id : Nat) : Env → Env
  | [] => []
  | (k, c) :: r => (k, killV id c) :: killE id r
def killB (id : Nat) : ABlk → ABlk
  | .var cs => .var (cs.map (killV id))
  | .row e k n cs => .row e k n cs
  | .map es => .map (es.map fun p => (killV id p.1, killV id p.2))
  | .mapx r bs clk es => .mapx r bs clk (es.map fun p => (killV id p.1, killV id p.2))
  | .it o => .it o
def killH (id : Nat) : Heap → Heap
  | [] => []
  | (k, b) :: r => cond (Nat.beq k id) (killH id r) ((k, killB id b) :: killH id r)

theorem look_killE (id : Nat) (e : Env) (t : Nat) : look (killE id e) t = (look e t).map (killV id) := by
  induction e with
  | nil => rfl
  | cons p r ih =>
    show cond _ _ _ = Option.map _ (cond _ _ _)
    cases Nat.beq p.1 t
    · exact ih
    · rfl
theorem look_killH (id : Nat) (h : Heap) (t : Nat) : look (killH id h) t = if t = id then none else (look h t).map (killB id) := by
  induction h with
  | nil => simp [killH, look]
  | cons p r ih =>
    show look (cond _ _ _) t = _
    cases hb : Nat.beq p.1 id
    · have hne : p.1 ≠ id := of_beq_no hb
      by_cases hpt : p.1 = t
      · rw [cond_false, ← hpt, look_cons_same, if_neg (by omega)]
        show _ = Option.map _ (cond _ _ _)
        rw [beq_yes]; rfl
      · rw [cond_false, look_cons_ne _ _ hpt, ih]
        split
        · rfl
        · show _ = Option.map _ (cond _ _ _)
          rw [beq_no hpt]; rfl
    · have he : p.1 = id := Nat.eq_of_beq_eq_true hb
      rw [cond_true, ih]
      split
      · rfl
      · show _ = Option.map _ (cond _ _ _)
        rw [beq_no (by omega)]; rfl

def upd (ι : Nat → Option Value) (id : Nat) (v : Option Value) : Nat → Option Value := fun j => if j = id then v else ι j

/-- The heap h, at world w; w0: the world at the call; Pm: the blocks of before that may be written. -/
structure HRel (Pm F : Nat → Prop) (w0 : World) (pin : Nat → Option Value) (ι : Nat → Option Value) (h : Heap) (w : World) : Prop where
  blk : ∀ id b, look h id = some b → ∃ v, ι id = some v ∧ BRel w F ι b v
  dom : ∀ id v, ι id = some v → ∃ b, look h id = some b
  inj : ∀ i j v v' r, i ≠ j → ι i = some v → ι j = some v' → blockOf v = some r → blockOf v' ≠ some r
  pm : ∀ i v r, ι i = some v → blockOf v = some r → Pm r
  os : w.os = w0.os
  tape : w.tape = w0.tape
  output : w.output = w0.output
  size : w0.heap.size ≤ w.heap.size
  keep : ∀ r, r < w0.heap.size → ¬ Pm r → w.heap[r]? = w0.heap[r]?
  fresh : ∀ r, w0.heap.size ≤ r → Pm r
  pinned : ∀ id v, 1000 ≤ id → ι id = some v → pin id = some v
  nf : ∀ i v r, ι i = some v → blockOf v = some r → ¬ F r
  forb : ∀ r, F r → r < w0.heap.size

section
variable {Pm F : Nat → Prop} {w0 w w' : World} {pin ι ι' : Nat → Option Value} {h h' : Heap}
theorem HRel.lt (H : HRel Pm F w0 pin ι h w) {i : Nat} {v : Value} {r : Nat} (hi : ι i = some v) (hr : blockOf v = some r) : r < w.heap.size := by
  obtain ⟨b, hb⟩ := H.dom i v hi
  obtain ⟨v', hv', hB⟩ := H.blk i b hb
  rw [hi] at hv'; cases hv'
  exact hB.lt hr

theorem killV_has (id : Nat) (c : AVal) : (killV id c).has id = false := by
  unfold killV
  cases h : c.has id <;> simp [AVal.has, h]

/-- Values behind a step that touched the block id alone. -/
theorem VRel.killed {id : Nat} {v' : Option Value} {c : AVal} {u : Value} (hc : VRel w F ι c u) (he : Ext w F ι w' (upd ι id v')) : VRel w' F (upd ι id v') (killV id c) u := by
  unfold killV
  cases hh : c.has id with
  | true => exact .top u
  | false =>
    refine hc.ext he fun j v hj hv => ?_
    unfold upd at hv
    split at hv
    · rename_i he; subst he; rw [hh] at hj; cases hj
    · exact hv

theorem BRel.killed {id : Nat} {v' : Option Value} {b : ABlk} {v : Value} (hb : BRel w F ι b v) (he : Ext w F ι w' (upd ι id v')) (hs : ∀ r, blockOf v = some r → w'.heap[r]? = w.heap[r]?) : BRel w' F (upd ι id v') (killB id b) v := by
  cases b with
  | var cs =>
    obtain ⟨r, C, T, rfl, hc, hl, h⟩ := hb
    refine ⟨r, C, T, rfl, (hs r rfl).trans hc, by simpa using hl, fun i c u h1 h2 => ?_⟩
    rw [List.getElem?_map] at h1
    cases hi : cs[i]? with
    | none => simp [hi] at h1
    | some c' => simp [hi] at h1; subst h1; exact (h i c' u hi h2).killed he
  | row e k n cs =>
    obtain ⟨xs, hown, hl, h⟩ := hb
    refine ⟨xs, ⟨hown.1, ?_⟩, hl, fun i c u h1 h2 => (h i c u h1 h2).ext he.mem he.free⟩
    rcases hown.2 with h1 | ⟨g, cap, cur, rfl, hb, hg, rest⟩
    · exact .inl h1
    · exact .inr ⟨g, cap, cur, rfl, hb, (hs g rfl).trans hg, rest⟩
  | map es =>
    obtain ⟨r, E, clk, rfl, hc, hl, h, h3⟩ := hb
    refine ⟨r, E, clk, rfl, (hs r rfl).trans hc, by simpa using hl, fun i p m h1 h2 => ?_, h3⟩
    rw [List.getElem?_map] at h1
    cases hi : es[i]? with
    | none => simp [hi] at h1
    | some p' => simp [hi] at h1; subst h1; exact ⟨(h i p' m hi h2).1.killed he, (h i p' m hi h2).2.killed he⟩
  | mapx r0 bs0 clk0 es =>
    obtain ⟨E, rfl, hc, hl, h, h3⟩ := hb
    refine ⟨E, rfl, (hs _ rfl).trans hc, by simpa using hl, fun i p m h1 h2 => ?_, h3⟩
    rw [List.getElem?_map] at h1
    cases hi : es[i]? with
    | none => simp [hi] at h1
    | some p' => simp [hi] at h1; subst h1; exact ⟨(h i p' m hi h2).1.killed he, (h i p' m hi h2).2.killed he⟩
  | it o => obtain ⟨r, rfl, hc⟩ := hb; exact ⟨r, rfl, (hs r rfl).trans hc⟩

/-- A step that makes the block id, or lays it anew under another handle. -/
structure Touch (w : World) (ι : Nat → Option Value) (id : Nat) (v' : Value) (w' : World) : Prop where
  os : w'.os = w.os
  tape : w'.tape = w.tape
  output : w'.output = w.output
  size : w.heap.size ≤ w'.heap.size
  mem : ∀ r, r < w.heap.size → (∀ v, ι id = some v → blockOf v ≠ some r) → w'.heap[r]? = w.heap[r]?
  blk : ∀ r, blockOf v' = some r → w.heap.size ≤ r ∨ ∃ v, ι id = some v ∧ blockOf v = some r
theorem Touch.ext {id : Nat} {v' : Value} (T : Touch w ι id v' w') : Ext w F ι w' (upd ι id (some v')) := by
  refine ⟨fun r hr hf => T.mem r hr fun v hv => hf.2 id v hv, fun r hr hf => ⟨hf.1, fun j v hj => ?_⟩⟩
  unfold upd at hj
  split at hj
  · cases hj
    intro hb
    rcases T.blk r hb with h1 | ⟨v2, h1, h2⟩
    · omega
    · exact hf.2 id v2 h1 h2
  · exact hf.2 j v hj
theorem HRel.touch (H : HRel Pm F w0 pin ι h w) {id : Nat} {v' : Value} {b' : ABlk} (T : Touch w ι id v' w') (hpin : id < 1000 ∨ ι id = some v')
    (hb : BRel w' F (upd ι id (some v')) b' v') : HRel Pm F w0 pin (upd ι id (some v')) ((id, b') :: killH id h) w' := by
  have he := T.ext (F := F)
  have hsame : ∀ j v r, j ≠ id → ι j = some v → blockOf v = some r → w'.heap[r]? = w.heap[r]? := fun j v r hj hv hr =>
    T.mem r (H.lt hv hr) fun v2 hv2 => H.inj j id v v2 r hj hv hv2 hr
  refine ⟨?_, ?_, ?_, ?_, T.os.trans H.os, T.tape.trans H.tape, T.output.trans H.output, Nat.le_trans H.size T.size, ?_, H.fresh, ?_, ?_, H.forb⟩
  · intro j b hj
    by_cases hji : id = j
    · subst hji
      rw [look_cons_same] at hj
      cases hj
      exact ⟨v', by simp [upd], hb⟩
    · rw [look_cons_ne _ _ hji, look_killH, if_neg (by omega)] at hj
      cases hl : look h j with
      | none => simp [hl] at hj
      | some b0 =>
        simp [hl] at hj
        subst hj
        obtain ⟨v, hv, hB⟩ := H.blk j b0 hl
        exact ⟨v, by simp [upd, Ne.symm hji, hv], hB.killed he fun r hr => hsame j v r (Ne.symm hji) hv hr⟩
  · intro j v hj
    by_cases hji : id = j
    · subst hji; exact ⟨b', look_cons_same _ _ _⟩
    · have hj' : ι j = some v := by simpa [upd, Ne.symm hji] using hj
      obtain ⟨b, hb⟩ := H.dom j v hj'
      exact ⟨killB id b, by rw [look_cons_ne _ _ hji, look_killH, if_neg (by omega), hb]; rfl⟩
  · intro i j v v2 r hij hi hj hr hr2
    have old : ∀ k u, k ≠ id → upd ι id (some v') k = some u → ι k = some u := fun k u hk hu => by simpa [upd, hk] using hu
    have cross : ∀ k u, k ≠ id → ι k = some u → blockOf u = some r → blockOf v' ≠ some r := fun k u hk hu hr hr' => by
      rcases T.blk r hr' with h1 | ⟨v3, h1, h2⟩
      · have := H.lt hu hr; omega
      · exact H.inj k id u v3 r hk hu h1 hr h2
    by_cases h1 : i = id
    · subst h1
      have : v = v' := by simpa [upd] using hi.symm
      subst this
      exact cross j v2 (Ne.symm hij) (old j v2 (Ne.symm hij) hj) hr2 hr
    · by_cases h2 : j = id
      · subst h2
        have : v2 = v' := by simpa [upd] using hj.symm
        subst this
        exact cross i v h1 (old i v h1 hi) hr hr2
      · exact H.inj i j v v2 r hij (old i v h1 hi) (old j v2 h2 hj) hr hr2
  · intro i v r hi hr
    by_cases h1 : i = id
    · subst h1
      have : v = v' := by simpa [upd] using hi.symm
      subst this
      rcases T.blk r hr with h2 | ⟨v3, h2, h3⟩
      · exact H.fresh r (Nat.le_trans H.size h2)
      · exact H.pm i v3 r h2 h3
    · exact H.pm i v r (by simpa [upd, h1] using hi) hr
  · intro r hr hn
    rw [T.mem r (Nat.lt_of_lt_of_le hr H.size) fun v hv hb => hn (H.pm id v r hv hb)]
    exact H.keep r hr hn
  · intro j v hj hv
    by_cases h1 : j = id
    · subst h1
      have : v = v' := by simpa [upd] using hv.symm
      subst this
      rcases hpin with h2 | h2
      · omega
      · exact H.pinned j v hj h2
    · exact H.pinned j v hj (by simpa [upd, h1] using hv)
  · intro i v r hi hr hF
    by_cases h1 : i = id
    · subst h1
      have : v = v' := by simpa [upd] using hi.symm
      subst this
      rcases T.blk r hr with h2 | ⟨v3, h2, h3⟩
      · have := H.forb r hF; have := H.size; omega
      · exact H.nf i v3 r h2 h3 hF
    · exact H.nf i v r (by simpa [upd, h1] using hi) hr hF

/-- A step that writes into the block id, under the handle that it has. -/
structure Wrote (w : World) (v : Value) (w' : World) : Prop where
  os : w'.os = w.os
  tape : w'.tape = w.tape
  output : w'.output = w.output
  size : w.heap.size ≤ w'.heap.size
  mem : ∀ r, r < w.heap.size → blockOf v ≠ some r → w'.heap[r]? = w.heap[r]?
theorem Wrote.ext {id : Nat} {v : Value} (T : Wrote w v w') (hv : ι id = some v) : Ext w F ι w' ι :=
  ⟨fun r hr hf => T.mem r hr (hf.2 id v hv), fun r _ hf => hf⟩
theorem VRel.wrote {id : Nat} {v : Value} (T : Wrote w v w') (hv : ι id = some v) {c : AVal} {u : Value} (hc : VRel w F ι c u) : VRel w' F ι c u := hc.ext (T.ext hv) fun _ _ _ h => h
theorem HRel.wrote (H : HRel Pm F w0 pin ι h w) {id : Nat} {v : Value} {b' : ABlk} (T : Wrote w v w') (hv : ι id = some v) (hb : BRel w' F ι b' v) : HRel Pm F w0 pin ι ((id, b') :: h) w' := by
  have he := T.ext (F := F) hv
  have hsame : ∀ j v' r, j ≠ id → ι j = some v' → blockOf v' = some r → w'.heap[r]? = w.heap[r]? := fun j v' r hj hv' hr =>
    T.mem r (H.lt hv' hr) (H.inj j id v' v r hj hv' hv hr)
  refine ⟨?_, ?_, H.inj, H.pm, T.os.trans H.os, T.tape.trans H.tape, T.output.trans H.output, Nat.le_trans H.size T.size, ?_, H.fresh, H.pinned, H.nf, H.forb⟩
  · intro j b hj
    by_cases hji : id = j
    · subst hji
      rw [look_cons_same] at hj
      cases hj
      exact ⟨v, hv, hb⟩
    · rw [look_cons_ne _ _ hji] at hj
      obtain ⟨v', hv', hB⟩ := H.blk j b hj
      exact ⟨v', hv', hB.ext he (fun _ _ h => h) fun r hr => hsame j v' r (Ne.symm hji) hv' hr⟩
  · intro j v' hj
    by_cases hji : id = j
    · subst hji; exact ⟨b', look_cons_same _ _ _⟩
    · obtain ⟨b, hb⟩ := H.dom j v' hj
      exact ⟨b, by rw [look_cons_ne _ _ hji]; exact hb⟩
  · intro r hr hn
    rw [T.mem r (Nat.lt_of_lt_of_le hr H.size) fun hb => hn (H.pm id v r hv hb)]
    exact H.keep r hr hn

/-- A step that makes new memory alone (or nothing), of which nothing is said. -/
structure Grew (w w' : World) : Prop where
  os : w'.os = w.os
  tape : w'.tape = w.tape
  output : w'.output = w.output
  size : w.heap.size ≤ w'.heap.size
  mem : ∀ r, r < w.heap.size → w'.heap[r]? = w.heap[r]?
theorem Grew.refl (w : World) : Grew w w := ⟨rfl, rfl, rfl, Nat.le_refl _, fun _ _ => rfl⟩
theorem Grew.drew (w : World) : Grew w { w with drawn := w.drawn + 1 } := ⟨rfl, rfl, rfl, Nat.le_refl _, fun _ _ => rfl⟩
theorem Grew.trans {w1 w2 w3 : World} (a : Grew w1 w2) (b : Grew w2 w3) : Grew w1 w3 :=
  ⟨b.os.trans a.os, b.tape.trans a.tape, b.output.trans a.output, Nat.le_trans a.size b.size, fun r hr => (b.mem r (Nat.lt_of_lt_of_le hr a.size)).trans (a.mem r hr)⟩
theorem Grew.of_below {w w' : World} (h : Below w.heap.size w w') : Grew w w' := ⟨h.os, h.tape, h.output, h.size, h.block⟩
theorem Grew.below {w w' : World} (h : Grew w w') : Below w.heap.size w w' := ⟨h.os, h.tape, h.output, h.size, h.mem⟩
theorem Grew.ext (G : Grew w w') : Ext w F ι w' ι := ⟨fun r hr _ => G.mem r hr, fun r _ hf => hf⟩
theorem VRel.grew (G : Grew w w') {c : AVal} {u : Value} (hc : VRel w F ι c u) : VRel w' F ι c u := hc.ext G.ext fun _ _ _ h => h
theorem HRel.grew (H : HRel Pm F w0 pin ι h w) (G : Grew w w') : HRel Pm F w0 pin ι h w' := by
  refine ⟨?_, H.dom, H.inj, H.pm, G.os.trans H.os, G.tape.trans H.tape, G.output.trans H.output, Nat.le_trans H.size G.size, ?_, H.fresh, H.pinned, H.nf, H.forb⟩
  · intro j b hj
    obtain ⟨v, hv, hB⟩ := H.blk j b hj
    exact ⟨v, hv, hB.ext G.ext (fun _ _ h => h) fun r hr => G.mem r (hB.lt hr)⟩
  · intro r hr hn
    rw [G.mem r (Nat.lt_of_lt_of_le hr H.size)]; exact H.keep r hr hn

/-- Blocks are forgotten. -/
def only (h' : Heap) (ι : Nat → Option Value) : Nat → Option Value := fun id => if (look h' id).isSome then ι id else none
theorem only_some {h' : Heap} {ι : Nat → Option Value} {id : Nat} {v : Value} (hv : only h' ι id = some v) : ι id = some v := by
  unfold only at hv; split at hv
  · exact hv
  · cases hv
theorem only_ext (w : World) (F : Nat → Prop) (h' : Heap) (ι : Nat → Option Value) : Ext w F ι w (only h' ι) := ⟨fun _ _ _ => rfl, fun r _ hf => ⟨hf.1, fun id v hv => hf.2 id v (only_some hv)⟩⟩
theorem VRel.only {c : AVal} {u : Value} (hc : VRel w F ι c u) (h' : Heap) : VRel w F (only h' ι) c u := hc.ext (only_ext w F h' ι) fun _ _ _ hv => only_some hv
theorem HRel.only (H : HRel Pm F w0 pin ι h w) (hs : ∀ id b, look h' id = some b → look h id = some b) : HRel Pm F w0 pin (only h' ι) h' w := by
  refine ⟨?_, ?_, fun i j v v' r hij hi hj => H.inj i j v v' r hij (only_some hi) (only_some hj), fun i v r hi => H.pm i v r (only_some hi), H.os, H.tape, H.output, H.size, H.keep, H.fresh, fun id v h1 hv => H.pinned id v h1 (only_some hv), fun i v r hi => H.nf i v r (only_some hi), H.forb⟩
  · intro j b hj
    obtain ⟨v, hv, hB⟩ := H.blk j b (hs j b hj)
    exact ⟨v, by simp [Ab.only, hj, hv], hB.ext (only_ext w F h' ι) (fun _ _ h => only_some h) fun _ _ => rfl⟩
  · intro j v hj
    unfold Ab.only at hj
    split at hj
    · rename_i hs; exact Option.isSome_iff_exists.1 hs
    · cases hj
end

/-- The slots. -/
def EnvRel (w : World) (F : Nat → Prop) (ι : Nat → Option Value) (e : Env) (a : Act) : Prop := ∀ t c, look e t = some c → ∃ u, a.tmps[t]? = some u ∧ VRel w F ι c u
/-- The marks that statements 'range over a function' have left on the activation: each one's block is empty, one that may be written (B), and nobody's. -/
def markOf (r : Nat) : Deferred := { target := .collected r, args := #[] }
structure MkOk (B : Nat → Prop) (w : World) (F : Nat → Prop) (ι : Nat → Option Value) (ds : List Deferred) : Prop where
  all : ∀ d ∈ ds, ∃ r, d = markOf r ∧ B r ∧ w.heap[r]? = some (.deferred (some [])) ∧ FreeB F ι r
  apart : ds.Pairwise fun a b => a ≠ b
theorem MkOk.nil {B : Nat → Prop} {w : World} {F : Nat → Prop} {ι : Nat → Option Value} : MkOk B w F ι [] := ⟨by simp, .nil⟩
theorem MkOk.ext {B : Nat → Prop} {w w' : World} {F : Nat → Prop} {ι ι' : Nat → Option Value} {ds : List Deferred} (M : MkOk B w F ι ds) (he : Ext w F ι w' ι') : MkOk B w' F ι' ds :=
  ⟨fun d hd => by
    obtain ⟨r, h1, h2, h3, h4⟩ := M.all d hd
    have hlt : r < w.heap.size := (Array.getElem?_eq_some_iff.1 h3).1
    exact ⟨r, h1, h2, by rw [he.mem r hlt h4]; exact h3, he.free r hlt h4⟩, M.apart⟩
structure Rel (Pm F : Nat → Prop) (w0 : World) (pin : Nat → Option Value) (ι : Nat → Option Value) (nt : Nat) (e : Env) (h : Heap) (a : Act) (w : World) : Prop where
  heap : HRel Pm F w0 pin ι h w
  env : EnvRel w F ι e a
  defers : MkOk Pm w F ι a.defers
  size : nt ≤ a.tmps.size
end Go.Proofs.Ytaecjmjdhbjbkaa.Ab

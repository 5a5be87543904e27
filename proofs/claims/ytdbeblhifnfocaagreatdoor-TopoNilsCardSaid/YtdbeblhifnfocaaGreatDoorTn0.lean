/-
  Texts of a proof, one behind the other (part 1).
-/
import Derived.WalkKit
import Derived.WalkSpells
import Derived.WalkLawsBesides
import Derived.Deep.AppendLies
import Derived.Deep.Quiet
import Derived.OrdersHeld
import Derived.KernelRfl
import Derived.TacticsIn
import Derived.OrdersIn
import Derived.RangeFuncIn
import Derived.RangeFuncRecord
import Derived.Deep.MidRow
import Derived.Laws.Wrap64
import Derived.Laws.Build
import Derived.Laws.CopyRow
import Derived.Deep.AppendSrc
import Derived.Room.AppendAny
set_option linter.unusedVariables false
set_option linter.unusedSimpArgs false
namespace Go.Proofs.YtdbeblhifnfocaaGreatDoor.Ab
set_option linter.unusedVariables false
def gN : Nat := 4
def pow10L : List Int := [1, 10, 100, 1000, 10000, 100000, 1000000, 10000000, 100000000, 1000000000, 10000000000, 100000000000, 1000000000000, 10000000000000, 100000000000000, 1000000000000000, 10000000000000000, 100000000000000000, 1000000000000000000, 10000000000000000000]
structure GlobOk (w : World) : Prop where
  size : gN ≤ w.heap.size
  max : ∃ m t fr, w.heap[0]? = some (.cells #[.int .i64 m] t fr)
  tab : ∃ t fr, w.heap[1]? = some (.cells (pow10L.map (Value.int .u64 ·)).toArray t fr)
theorem GlobOk.keep {w w' : World} (h : GlobOk w) (hs : w.heap.size ≤ w'.heap.size) (hk : ∀ r, r < gN → w'.heap[r]? = w.heap[r]?) : GlobOk w' :=
  ⟨Nat.le_trans h.size hs, by rw [hk 0 (by decide)]; exact h.max, by rw [hk 1 (by decide)]; exact h.tab⟩
end Go.Proofs.YtdbeblhifnfocaaGreatDoor.Ab

namespace Go.Proofs.YtdbeblhifnfocaaGreatDoor.Ab
set_option linter.unusedVariables false
open Go.RowKit

inductive Dat where
  | sc (v : Value)
  | sl (cs : List Dat) (n : Nat)
  /-- .. one of n elements that can be made longer, up to m. -/
  | cut (cs : List Dat) (n m : Nat)

inductive AVal where
  | top
  | und
  | d (x : Dat)
  | agg (cs : List AVal)
  | tup (cs : List AVal)
  | ptr (id off : Nat)
  | eptr (id off : Nat)
  | iptr (cs : List Dat) (off : Nat)
  | row (id : Nat)
  | mp (id : Nat)
  | fn (f : FuncId) (caps : List AVal)
  /-- n elements of a row of one's own, from a cell on -/
  | srow (id off n : Nat)
  /-- a slice that is read alone, and has no room behind its length -/
  | full (cs : List Dat) (n : Nat)

mutual
def AVal.has (id : Nat) : AVal → Bool
  | .agg cs => hasL id cs
  | .tup cs => hasL id cs
  | .fn _ cs => hasL id cs
  | .ptr j _ => j == id
  | .eptr j _ => j == id
  | .row j => j == id
  | .mp j => j == id
  | .srow j _ _ => j == id
  | _ => false
def hasL (id : Nat) : List AVal → Bool
  | [] => false
  | c :: r => c.has id || hasL id r
end

theorem hasL_mem {id : Nat} {cs : List AVal} (h : hasL id cs = false) {i : Nat} {c : AVal} (hi : cs[i]? = some c) : c.has id = false := by
  induction cs generalizing i with
  | nil => simp at hi
  | cons a r ih =>
    rw [hasL, Bool.or_eq_false_iff] at h
    cases i with
    | zero => simp at hi; subst hi; exact h.1
    | succ i => exact ih h.2 (by simpa using hi)

inductive ABlk where
  | var (cs : List AVal)
  | row (e : TypeId) (k n : Nat) (cs : List Dat)
  /-- A row whose cells may name other blocks of one's own. -/
  | rowA (e : TypeId) (k n : Nat) (cs : List AVal)
  | map (es : List (AVal × AVal))
  /-- .. of which it is known where it lies, when each entry was laid, and how late it is. -/
  | mapx (r : Nat) (bs : List Nat) (clk : Nat) (es : List (AVal × AVal))
  /-- a thing without cells, as it is -/
  | it (o : Obj)
  /-- a row of one's own whose handle is known (of no elements: whatever handle of no room) -/
  | rowx (hv : Value) (e : TypeId) (k n : Nat) (cs : List Dat)

def blockOf : Value → Option Nat
  | .pointer (some a) => some a.block
  | .slice (some a) _ _ => some a.block
  | .map (some r) => some r
  | _ => none

def FreeB (F : Nat → Prop) (ι : Nat → Option Value) (r : Nat) : Prop := ¬ F r ∧ ∀ id v, ι id = some v → blockOf v ≠ some r

inductive DRel (w : World) (Fr : Nat → Prop) : Dat → Value → Prop where
  | sc (v : Value) (h : v.oneCell' = true) : DRel w Fr (.sc v) v
  | nil : DRel w Fr (.sl [] 0) (.slice none 0 0)
  | emp (a : Addr) : DRel w Fr (.sl [] 0) (.slice (some a) 0 0)
  | sl (cs : List Dat) (n b o cap : Nat) (vs : List Value) (hn : n ≤ cap) (hl : vs.length = cs.length) (hf : vs ≠ [] → Fr b)
      (hc : ∀ (i : Nat) (u : Value), vs[i]? = some u → w.cell? ⟨b, o + i, none⟩ = some u)
      (hr : ∀ (i : Nat) (c : Dat) (u : Value), cs[i]? = some c → vs[i]? = some u → DRel w Fr c u) : DRel w Fr (.sl cs n) (.slice (some ⟨b, o, none⟩) n cap)
  | cut (cs : List Dat) (n m b o cap : Nat) (vs : List Value) (hn : n ≤ m) (hm : m ≤ cap) (hl : vs.length = cs.length) (hf : vs ≠ [] → Fr b)
      (hc : ∀ (i : Nat) (u : Value), vs[i]? = some u → w.cell? ⟨b, o + i, none⟩ = some u)
      (hr : ∀ (i : Nat) (c : Dat) (u : Value), cs[i]? = some c → vs[i]? = some u → DRel w Fr c u) : DRel w Fr (.cut cs n m) (.slice (some ⟨b, o, none⟩) n cap)

inductive VRel (w : World) (F : Nat → Prop) (ι : Nat → Option Value) : AVal → Value → Prop where
  | top (u : Value) : VRel w F ι .top u
  | und : VRel w F ι .und undef
  | d (x : Dat) (u : Value) (h : DRel w (FreeB F ι) x u) : VRel w F ι (.d x) u
  | agg (cs : List AVal) (C : Array Value) (hl : C.size = cs.length) (h : ∀ (i : Nat) (c : AVal) (u : Value), cs[i]? = some c → C[i]? = some u → VRel w F ι c u) : VRel w F ι (.agg cs) (.agg C)
  | tup (cs : List AVal) (C : Array Value) (hl : C.size = cs.length) (h : ∀ (i : Nat) (c : AVal) (u : Value), cs[i]? = some c → C[i]? = some u → VRel w F ι c u) : VRel w F ι (.tup cs) (.tuple C)
  | ptr (id off : Nat) (u : Value) (h1 : u.oneCell' = true) (h : ∀ v, ι id = some v → ∃ r, v = .pointer (some ⟨r, 0, none⟩) ∧ u = .pointer (some ⟨r, off, none⟩)) : VRel w F ι (.ptr id off) u
  | eptr (id off : Nat) (u : Value) (h1 : u.oneCell' = true) (h : ∀ v, ι id = some v → ∃ g n cap, v = .slice (some ⟨g, 0, none⟩) n cap ∧ u = .pointer (some ⟨g, off, none⟩)) : VRel w F ι (.eptr id off) u
  | iptr (cs : List Dat) (off b o : Nat) (vs : List Value) (hl : vs.length = cs.length) (hf : vs ≠ [] → FreeB F ι b)
      (hc : ∀ (i : Nat) (u : Value), vs[i]? = some u → w.cell? ⟨b, o + i, none⟩ = some u)
      (hr : ∀ (i : Nat) (c : Dat) (u : Value), cs[i]? = some c → vs[i]? = some u → DRel w (FreeB F ι) c u) : VRel w F ι (.iptr cs off) (.pointer (some ⟨b, o + off, none⟩))
  | row (id : Nat) (u : Value) (h1 : u.oneCell' = true) (h : ∀ v, ι id = some v → u = v) : VRel w F ι (.row id) u
  | mp (id : Nat) (u : Value) (h1 : u.oneCell' = true) (h : ∀ v, ι id = some v → u = v) : VRel w F ι (.mp id) u
  | fn (f : FuncId) (caps : List AVal) (C : Array Value) (hl : C.size = caps.length) (h : ∀ (i : Nat) (c : AVal) (u : Value), caps[i]? = some c → C[i]? = some u → VRel w F ι c u) : VRel w F ι (.fn f caps) (.func (.func f) #[] C)
  | srow (id off n : Nat) (u : Value) (h1 : u.oneCell' = true) (h : ∀ v, ι id = some v → ∃ b' c', u = .slice b' n c' ∧ n ≤ c' ∧ (0 < n → ∃ g N cap, v = .slice (some ⟨g, 0, none⟩) N cap ∧ b' = some ⟨g, off, none⟩)) : VRel w F ι (.srow id off n) u
  | full (cs : List Dat) (n : Nat) (b : Option Addr) (h : DRel w (FreeB F ι) (.sl cs n) (.slice b n n)) : VRel w F ι (.full cs n) (.slice b n n)

theorem cell_lt {w : World} {b o : Nat} {s : Option Nat} {v : Value} (h : w.cell? ⟨b, o, s⟩ = some v) : b < w.heap.size := World.block_lt_of_cell? w ⟨b, o, s⟩ h
theorem cell_of_same {w w' : World} {b o : Nat} {v : Value} (h : w'.heap[b]? = w.heap[b]?) (hc : w.cell? ⟨b, o, none⟩ = some v) : w'.cell? ⟨b, o, none⟩ = some v := by
  rw [World.cell?_of_block (a := ⟨b, o, none⟩) h]; exact hc

theorem DRel.ext {w w' : World} {Fr Fr' : Nat → Prop} {x : Dat} {u : Value} (h : DRel w Fr x u) (hw : ∀ r, r < w.heap.size → Fr r → w'.heap[r]? = w.heap[r]?)
    (hf : ∀ r, r < w.heap.size → Fr r → Fr' r) : DRel w' Fr' x u := by
  induction h with
  | sc v h => exact .sc v h
  | nil => exact .nil
  | emp a => exact .emp a
  | sl cs n b o cap vs hn hl hfr hc hr ih =>
    have key : ∀ (i : Nat) (u : Value), vs[i]? = some u → b < w.heap.size ∧ Fr b := fun i u hu =>
      ⟨cell_lt (hc i u hu), hfr (by rintro rfl; simp at hu)⟩
    refine .sl cs n b o cap vs hn hl (fun hne => ?_) (fun i u hu => ?_) ih
    · cases vs with
      | nil => exact absurd rfl hne
      | cons a t => have := key 0 a rfl; exact hf b this.1 this.2
    · have := key i u hu
      exact cell_of_same (hw b this.1 this.2) (hc i u hu)
  | cut cs n m b o cap vs hn hm hl hfr hc hr ih =>
    have key : ∀ (i : Nat) (u : Value), vs[i]? = some u → b < w.heap.size ∧ Fr b := fun i u hu =>
      ⟨cell_lt (hc i u hu), hfr (by rintro rfl; simp at hu)⟩
    refine .cut cs n m b o cap vs hn hm hl (fun hne => ?_) (fun i u hu => ?_) ih
    · cases vs with
      | nil => exact absurd rfl hne
      | cons a t => have := key 0 a rfl; exact hf b this.1 this.2
    · have := key i u hu
      exact cell_of_same (hw b this.1 this.2) (hc i u hu)

structure Ext (w : World) (F : Nat → Prop) (ι : Nat → Option Value) (w' : World) (ι' : Nat → Option Value) : Prop where
  mem : ∀ r, r < w.heap.size → FreeB F ι r → w'.heap[r]? = w.heap[r]?
  free : ∀ r, r < w.heap.size → FreeB F ι r → FreeB F ι' r

structure ExtF (w : World) (F : Nat → Prop) (ι : Nat → Option Value) (w' : World) (F' : Nat → Prop) (ι' : Nat → Option Value) : Prop where
  mem : ∀ r, r < w.heap.size → FreeB F ι r → w'.heap[r]? = w.heap[r]?
  free : ∀ r, r < w.heap.size → FreeB F ι r → FreeB F' ι' r

theorem VRel.extF {w w' : World} {F F' : Nat → Prop} {ι ι' : Nat → Option Value} {c : AVal} {u : Value} (h : VRel w F ι c u) (he : ExtF w F ι w' F' ι')
    (hid : ∀ id v, c.has id = true → ι' id = some v → ι id = some v) : VRel w' F' ι' c u := by
  induction h with
  | top u => exact .top u
  | und => exact .und
  | d x u h => exact .d x u (h.ext he.mem he.free)
  | agg cs C hl h ih =>
    refine .agg cs C hl fun i c u hc hu => ih i c u hc hu fun id v hh => hid id v ?_
    rw [AVal.has]
    cases h' : hasL id cs with
    | false => exact absurd hh (by rw [hasL_mem h' hc]; simp)
    | true => rfl
  | tup cs C hl h ih =>
    refine .tup cs C hl fun i c u hc hu => ih i c u hc hu fun id v hh => hid id v ?_
    rw [AVal.has]
    cases h' : hasL id cs with
    | false => exact absurd hh (by rw [hasL_mem h' hc]; simp)
    | true => rfl
  | ptr id off u h1 h => exact .ptr id off u h1 fun v hv => h v (hid id v (by simp [AVal.has]) hv)
  | eptr id off u h1 h => exact .eptr id off u h1 fun v hv => h v (hid id v (by simp [AVal.has]) hv)
  | iptr cs off b o vs hl hf hc hr =>
    have key : ∀ (i : Nat) (u : Value), vs[i]? = some u → b < w.heap.size := fun i u hu => cell_lt (hc i u hu)
    have kf : ∀ (i : Nat) (u : Value), vs[i]? = some u → FreeB F ι b := fun i u hu => hf (by rintro rfl; simp at hu)
    refine .iptr cs off b o vs hl (fun hne => ?_) (fun i u hu => cell_of_same (he.mem b (key i u hu) (kf i u hu)) (hc i u hu)) fun i c u h1 h2 => (hr i c u h1 h2).ext he.mem he.free
    cases vs with
    | nil => exact absurd rfl hne
    | cons a t => exact he.free b (key 0 a rfl) (kf 0 a rfl)
  | row id u h1 h => exact .row id u h1 fun v hv => h v (hid id v (by simp [AVal.has]) hv)
  | mp id u h1 h => exact .mp id u h1 fun v hv => h v (hid id v (by simp [AVal.has]) hv)
  | fn f caps C hl h ih =>
    refine .fn f caps C hl fun i c u hc hu => ih i c u hc hu fun id v hh => hid id v ?_
    rw [AVal.has]
    cases h' : hasL id caps with
    | false => exact absurd hh (by rw [hasL_mem h' hc]; simp)
    | true => rfl
  | srow id off n u h1 h => exact .srow id off n u h1 fun v hv => h v (hid id v (by simp [AVal.has]) hv)
  | full cs n b h => exact .full cs n b (h.ext he.mem he.free)

theorem VRel.ext {w w' : World} {F : Nat → Prop} {ι ι' : Nat → Option Value} {c : AVal} {u : Value} (h : VRel w F ι c u) (he : Ext w F ι w' ι')
    (hid : ∀ id v, c.has id = true → ι' id = some v → ι id = some v) : VRel w' F ι' c u := h.extF ⟨he.mem, he.free⟩ hid

abbrev Env := List (Nat × AVal)
abbrev Heap := List (Nat × ABlk)
theorem beq_no {s t : Nat} (h : s ≠ t) : Nat.beq s t = false := by
  cases hb : Nat.beq s t
  · rfl
  · exact absurd (Nat.eq_of_beq_eq_true hb) h
theorem beq_yes (t : Nat) : Nat.beq t t = true := by simp
theorem of_beq_no {s t : Nat} (h : Nat.beq s t = false) : s ≠ t := by
  rintro rfl; rw [beq_yes] at h; cases h
def look {α : Type} : List (Nat × α) → Nat → Option α
  | [], _ => none
  | (k, c) :: r, t => cond (Nat.beq k t) (some c) (look r t)
theorem look_cons_same {α : Type} (t : Nat) (c : α) (l : List (Nat × α)) : look ((t, c) :: l) t = some c := by simp [look]
theorem look_cons_ne {α : Type} {t s : Nat} (c : α) (l : List (Nat × α)) (h : s ≠ t) : look ((s, c) :: l) t = look l t := by
  simp [look, beq_no h]

def RowR (w : World) (F : Nat → Prop) (ι : Nat → Option Value) (e : TypeId) (k n : Nat) (cs : List Dat) (v : Value) : Prop :=
  ∃ xs, w.ownsRow 0 e k v n xs ∧ xs.length = cs.length ∧ ∀ (i : Nat) (c : Dat) (u : Value), cs[i]? = some c → xs[i]? = some u → DRel w (FreeB F ι) c u
theorem RowR.lt {w : World} {F : Nat → Prop} {ι : Nat → Option Value} {e : TypeId} {k n : Nat} {cs : List Dat} {v : Value} (h : RowR w F ι e k n cs v) {r : Nat} (hr : blockOf v = some r) : r < w.heap.size := by
  obtain ⟨xs, hown, _⟩ := h
  refine (hown.lt r ?_).2
  cases v <;> simp [blockOf] at hr <;> first | (rename_i a _ _; cases a <;> simp_all [Value.ownBlock]) | (rcases hown.2 with ⟨h1, _⟩ | ⟨_, _, _, h1, _⟩ <;> cases h1)
theorem RowR.via {w w' : World} {F F' : Nat → Prop} {ι ι' : Nat → Option Value} {e : TypeId} {k n : Nat} {cs : List Dat} {v : Value} (h : RowR w F ι e k n cs v)
    (hD : ∀ c u, DRel w (FreeB F ι) c u → DRel w' (FreeB F' ι') c u) (hs : ∀ r, blockOf v = some r → w'.heap[r]? = w.heap[r]?) : RowR w' F' ι' e k n cs v := by
  obtain ⟨xs, hown, hl, h⟩ := h
  refine ⟨xs, ⟨hown.1, ?_⟩, hl, fun i c u h1 h2 => hD _ _ (h i c u h1 h2)⟩
  rcases hown.2 with h1 | ⟨g, cap, cur, rfl, hb, hg, rest⟩
  · exact .inl h1
  · exact .inr ⟨g, cap, cur, rfl, hb, (hs g rfl).trans hg, rest⟩

def BRel (w : World) (F : Nat → Prop) (ι : Nat → Option Value) : ABlk → Value → Prop
  | .var cs, v => ∃ r C T, v = .pointer (some ⟨r, 0, none⟩) ∧ w.heap[r]? = some (.cells C T (0, 0)) ∧ C.size = cs.length ∧ ∀ (i : Nat) (c : AVal) (u : Value), cs[i]? = some c → C[i]? = some u → VRel w F ι c u
  | .row e k n cs, v => ∃ xs, w.ownsRow 0 e k v n xs ∧ xs.length = cs.length ∧ ∀ (i : Nat) (c : Dat) (u : Value), cs[i]? = some c → xs[i]? = some u → DRel w (FreeB F ι) c u
  | .rowA e k n cs, v => ∃ xs, w.ownsRow 0 e k v n xs ∧ xs.length = cs.length ∧ ∀ (i : Nat) (c : AVal) (u : Value), cs[i]? = some c → xs[i]? = some u → VRel w F ι c u
  | .it o, v => ∃ r, v = .pointer (some ⟨r, 0, none⟩) ∧ w.heap[r]? = some o
  | .rowx hv e k n cs, v => v = hv ∧ RowR w F ι e k n cs v
  | .mapx r bs clk es, v => ∃ E, v = .map (some r) ∧ w.heap[r]? = some (.map E clk) ∧ E.size = es.length ∧ (∀ (i : Nat) (p : AVal × AVal) (m : MapEntry), es[i]? = some p → E[i]? = some m → VRel w F ι p.1 m.key ∧ VRel w F ι p.2 m.val) ∧
      E.toList.map (·.born) = bs ∧ bs.Pairwise (fun a b => a < b) ∧ ∀ b ∈ bs, b < clk
  | .map es, v => ∃ r E clk, v = .map (some r) ∧ w.heap[r]? = some (.map E clk) ∧ E.size = es.length ∧ (∀ (i : Nat) (p : AVal × AVal) (m : MapEntry), es[i]? = some p → E[i]? = some m → VRel w F ι p.1 m.key ∧ VRel w F ι p.2 m.val) ∧
      (∀ (i j : Nat) (m m' : MapEntry), i < j → E[i]? = some m → E[j]? = some m' → m.born < m'.born) ∧ ∀ (i : Nat) (m : MapEntry), E[i]? = some m → m.born < clk

theorem BRel.viaX {w w' : World} {F F' : Nat → Prop} {ι ι' : Nat → Option Value} {hv : Value} {e : TypeId} {k n : Nat} {cs : List Dat} {v : Value} (h : BRel w F ι (.rowx hv e k n cs) v)
    (hD : ∀ c u, DRel w (FreeB F ι) c u → DRel w' (FreeB F' ι') c u) (hs : ∀ r, blockOf v = some r → w'.heap[r]? = w.heap[r]?) : BRel w' F' ι' (.rowx hv e k n cs) v :=
  ⟨h.1, h.2.via hD hs⟩

theorem BRel.lt {w : World} {F : Nat → Prop} {ι : Nat → Option Value} {b : ABlk} {v : Value} (h : BRel w F ι b v) {r : Nat} (hr : blockOf v = some r) : r < w.heap.size := by
  cases b with
  | var cs => obtain ⟨r', C, T, rfl, hc, _⟩ := h; simp [blockOf] at hr; subst hr; exact (Array.getElem?_eq_some_iff.1 hc).1
  | row e k n cs =>
    obtain ⟨xs, hown, _⟩ := h
    refine (hown.lt r ?_).2
    cases v <;> simp [blockOf] at hr <;> first | (rename_i a _ _; cases a <;> simp_all [Value.ownBlock]) | (rcases hown.2 with ⟨h1, _⟩ | ⟨_, _, _, h1, _⟩ <;> cases h1)
  | rowA e k n cs =>
    obtain ⟨xs, hown, _⟩ := h
    refine (hown.lt r ?_).2
    cases v <;> simp [blockOf] at hr <;> first | (rename_i a _ _; cases a <;> simp_all [Value.ownBlock]) | (rcases hown.2 with ⟨h1, _⟩ | ⟨_, _, _, h1, _⟩ <;> cases h1)
  | map es => obtain ⟨r', E, clk, rfl, hc, _⟩ := h; simp [blockOf] at hr; subst hr; exact (Array.getElem?_eq_some_iff.1 hc).1
  | mapx r0 bs0 clk0 es => obtain ⟨E, rfl, hc, _⟩ := h; simp [blockOf] at hr; subst hr; exact (Array.getElem?_eq_some_iff.1 hc).1
  | rowx hv e k n cs =>
    exact h.2.lt hr
  | it o => obtain ⟨r', rfl, hc⟩ := h; simp [blockOf] at hr; subst hr; exact (Array.getElem?_eq_some_iff.1 hc).1

theorem BRel.ext {w w' : World} {F : Nat → Prop} {ι ι' : Nat → Option Value} {b : ABlk} {v : Value} (h : BRel w F ι b v) (he : Ext w F ι w' ι')
    (hid : ∀ id v, ι' id = some v → ι id = some v) (hs : ∀ r, blockOf v = some r → w'.heap[r]? = w.heap[r]?) : BRel w' F ι' b v := by
  cases b with
  | var cs =>
    obtain ⟨r, C, T, rfl, hc, hl, h⟩ := h
    exact ⟨r, C, T, rfl, (hs r rfl).trans hc, hl, fun i c u h1 h2 => (h i c u h1 h2).ext he fun id v _ => hid id v⟩
  | row e k n cs =>
    obtain ⟨xs, hown, hl, h⟩ := h
    refine ⟨xs, ⟨hown.1, ?_⟩, hl, fun i c u h1 h2 => (h i c u h1 h2).ext he.mem he.free⟩
    rcases hown.2 with h1 | ⟨g, cap, cur, rfl, hb, hg, rest⟩
    · exact .inl h1
    · exact .inr ⟨g, cap, cur, rfl, hb, (hs g rfl).trans hg, rest⟩
  | rowA e k n cs =>
    obtain ⟨xs, hown, hl, h⟩ := h
    refine ⟨xs, ⟨hown.1, ?_⟩, hl, fun i c u h1 h2 => (h i c u h1 h2).ext he fun id v _ => hid id v⟩
    rcases hown.2 with h1 | ⟨g, cap, cur, rfl, hb, hg, rest⟩
    · exact .inl h1
    · exact .inr ⟨g, cap, cur, rfl, hb, (hs g rfl).trans hg, rest⟩
  | map es =>
    obtain ⟨r, E, clk, rfl, hc, hl, h, h3⟩ := h
    exact ⟨r, E, clk, rfl, (hs r rfl).trans hc, hl, fun i p m h1 h2 => ⟨(h i p m h1 h2).1.ext he fun id v _ => hid id v, (h i p m h1 h2).2.ext he fun id v _ => hid id v⟩, h3⟩
  | mapx r0 bs0 clk0 es =>
    obtain ⟨E, rfl, hc, hl, h, h3⟩ := h
    exact ⟨E, rfl, (hs _ rfl).trans hc, hl, fun i p m h1 h2 => ⟨(h i p m h1 h2).1.ext he fun id v _ => hid id v, (h i p m h1 h2).2.ext he fun id v _ => hid id v⟩, h3⟩
  | rowx hv e k n cs => exact h.viaX (fun c u h => h.ext he.mem he.free) hs
  | it o => obtain ⟨r, rfl, hc⟩ := h; exact ⟨r, rfl, (hs r rfl).trans hc⟩

def killV (id : Nat) (c : AVal) : AVal := cond (c.has id) .top c
def killE (id : Nat) : Env → Env
  | [] => []
  | (k, c) :: r => (k, killV id c) :: killE id r
def killB (id : Nat) : ABlk → ABlk
  | .var cs => .var (cs.map (killV id))
  | .row e k n cs => .row e k n cs
  | .rowA e k n cs => .rowA e k n (cs.map (killV id))
  | .map es => .map (es.map fun p => (killV id p.1, killV id p.2))
  | .mapx r bs clk es => .mapx r bs clk (es.map fun p => (killV id p.1, killV id p.2))
  | .it o => .it o
  | .rowx hv e k n cs => .rowx hv e k n cs
def killH (id : Nat) : Heap → Heap
  | [] => []
  | (k, b) :: r => cond (Nat.beq k id) (killH id r) ((k, killB id b) :: killH id r)

theorem look_killE (id : Nat) (e : Env) (t : Nat) : look (killE id e) t = (look e t).map (killV id) := by
  induction e with
  | nil => rfl
  | cons p r ih =>
    show cond _ _ _ = Option.map _ (cond _ _ _)
    cases Nat.beq p.1 t
    · exact ih
    · rfl
theorem look_killH (id : Nat) (h : Heap) (t : Nat) : look (killH id h) t = if t = id then none else (look h t).map (killB id) := by
  induction h with
  | nil => simp [killH, look]
  | cons p r ih =>
    show look (cond _ _ _) t = _
    cases hb : Nat.beq p.1 id
    · have hne : p.1 ≠ id := of_beq_no hb
      by_cases hpt : p.1 = t
      · rw [cond_false, ← hpt, look_cons_same, if_neg (by omega)]
        show _ = Option.map _ (cond _ _ _)
        rw [beq_yes]; rfl
      · rw [cond_false, look_cons_ne _ _ hpt, ih]
        split
        · rfl
        · show _ = Option.map _ (cond _ _ _)
          rw [beq_no hpt]; rfl
    · have he : p.1 = id := Nat.eq_of_beq_eq_true hb
      rw [cond_true, ih]
      split
      · rfl
      · show _ = Option.map _ (cond _ _ _)
        rw [beq_no (by omega)]; rfl

def upd (ι : Nat → Option Value) (id : Nat) (v : Option Value) : Nat → Option Value := fun j => if j = id then v else ι j

structure FreshOk (Pm : Nat → Prop) (w0 : World) : Prop where
  go : ∀ r, w0.heap.size ≤ r → Pm r
  low : ∀ r, r < gN → ¬ Pm r
  glob : GlobOk w0
instance {Pm : Nat → Prop} {w0 : World} : CoeFun (FreshOk Pm w0) fun _ => ∀ r, w0.heap.size ≤ r → Pm r := ⟨FreshOk.go⟩
structure HRel (Pm F : Nat → Prop) (w0 : World) (pin : Nat → Option Value) (ι : Nat → Option Value) (h : Heap) (w : World) : Prop where
  blk : ∀ id b, look h id = some b → ∃ v, ι id = some v ∧ BRel w F ι b v
  dom : ∀ id v, ι id = some v → ∃ b, look h id = some b
  inj : ∀ i j v v' r, i ≠ j → ι i = some v → ι j = some v' → blockOf v = some r → blockOf v' ≠ some r
  pm : ∀ i v r, ι i = some v → blockOf v = some r → Pm r
  os : w.os = w0.os
  tape : w.tape = w0.tape
  output : w.output = w0.output
  size : w0.heap.size ≤ w.heap.size
  keep : ∀ r, r < w0.heap.size → ¬ Pm r → w.heap[r]? = w0.heap[r]?
  fresh : FreshOk Pm w0
  pinned : ∀ id v, 1000 ≤ id → ι id = some v → pin id = some v
  nf : ∀ i v r, ι i = some v → blockOf v = some r → ¬ F r
  forb : ∀ r, F r → r < w0.heap.size

section
variable {Pm F : Nat → Prop} {w0 w w' : World} {pin ι ι' : Nat → Option Value} {h h' : Heap}
theorem HRel.glob (H : HRel Pm F w0 pin ι h w) : GlobOk w := H.fresh.glob.keep H.size fun r hr => H.keep r (Nat.lt_of_lt_of_le hr H.fresh.glob.size) (H.fresh.low r hr)
theorem HRel.lt (H : HRel Pm F w0 pin ι h w) {i : Nat} {v : Value} {r : Nat} (hi : ι i = some v) (hr : blockOf v = some r) : r < w.heap.size := by
  obtain ⟨b, hb⟩ := H.dom i v hi
  obtain ⟨v', hv', hB⟩ := H.blk i b hb
  rw [hi] at hv'; cases hv'
  exact hB.lt hr

theorem VRel.killed {id : Nat} {v' : Option Value} {c : AVal} {u : Value} (hc : VRel w F ι c u) (he : Ext w F ι w' (upd ι id v')) : VRel w' F (upd ι id v') (killV id c) u := by
  unfold killV
  cases hh : c.has id with
  | true => exact .top u
  | false =>
    refine hc.ext he fun j v hj hv => ?_
    unfold upd at hv
    split at hv
    · rename_i he; subst he; rw [hh] at hj; cases hj
    · exact hv

theorem BRel.killed {id : Nat} {v' : Option Value} {b : ABlk} {v : Value} (hb : BRel w F ι b v) (he : Ext w F ι w' (upd ι id v')) (hs : ∀ r, blockOf v = some r → w'.heap[r]? = w.heap[r]?) : BRel w' F (upd ι id v') (killB id b) v := by
  cases b with
  | var cs =>
    obtain ⟨r, C, T, rfl, hc, hl, h⟩ := hb
    refine ⟨r, C, T, rfl, (hs r rfl).trans hc, by simpa using hl, fun i c u h1 h2 => ?_⟩
    rw [List.getElem?_map] at h1
    cases hi : cs[i]? with
    | none => simp [hi] at h1
    | some c' => simp [hi] at h1; subst h1; exact (h i c' u hi h2).killed he
  | row e k n cs =>
    obtain ⟨xs, hown, hl, h⟩ := hb
    refine ⟨xs, ⟨hown.1, ?_⟩, hl, fun i c u h1 h2 => (h i c u h1 h2).ext he.mem he.free⟩
    rcases hown.2 with h1 | ⟨g, cap, cur, rfl, hb, hg, rest⟩
    · exact .inl h1
    · exact .inr ⟨g, cap, cur, rfl, hb, (hs g rfl).trans hg, rest⟩
  | rowA e k n cs =>
    obtain ⟨xs, hown, hl, h⟩ := hb
    refine ⟨xs, ⟨hown.1, ?_⟩, by simpa using hl, fun i c u h1 h2 => ?_⟩
    · rcases hown.2 with h1 | ⟨g, cap, cur, rfl, hb, hg, rest⟩
      · exact .inl h1
      · exact .inr ⟨g, cap, cur, rfl, hb, (hs g rfl).trans hg, rest⟩
    · rw [List.getElem?_map] at h1
      cases hi : cs[i]? with
      | none => simp [hi] at h1
      | some c' => simp [hi] at h1; subst h1; exact (h i c' u hi h2).killed he
  | map es =>
    obtain ⟨r, E, clk, rfl, hc, hl, h, h3⟩ := hb
    refine ⟨r, E, clk, rfl, (hs r rfl).trans hc, by simpa using hl, fun i p m h1 h2 => ?_, h3⟩
    rw [List.getElem?_map] at h1
    cases hi : es[i]? with
    | none => simp [hi] at h1
    | some p' => simp [hi] at h1; subst h1; exact ⟨(h i p' m hi h2).1.killed he, (h i p' m hi h2).2.killed he⟩
  | mapx r0 bs0 clk0 es =>
    obtain ⟨E, rfl, hc, hl, h, h3⟩ := hb
    refine ⟨E, rfl, (hs _ rfl).trans hc, by simpa using hl, fun i p m h1 h2 => ?_, h3⟩
    rw [List.getElem?_map] at h1
    cases hi : es[i]? with
    | none => simp [hi] at h1
    | some p' => simp [hi] at h1; subst h1; exact ⟨(h i p' m hi h2).1.killed he, (h i p' m hi h2).2.killed he⟩
  | rowx hv e k n cs => exact hb.viaX (fun c u h => h.ext he.mem he.free) hs
  | it o => obtain ⟨r, rfl, hc⟩ := hb; exact ⟨r, rfl, (hs r rfl).trans hc⟩

structure Touch (w : World) (ι : Nat → Option Value) (id : Nat) (v' : Value) (w' : World) : Prop where
  os : w'.os = w.os
  tape : w'.tape = w.tape
  output : w'.output = w.output
  size : w.heap.size ≤ w'.heap.size
  mem : ∀ r, r < w.heap.size → (∀ v, ι id = some v → blockOf v ≠ some r) → w'.heap[r]? = w.heap[r]?
  blk : ∀ r, blockOf v' = some r → w.heap.size ≤ r ∨ ∃ v, ι id = some v ∧ blockOf v = some r
theorem Touch.ext {id : Nat} {v' : Value} (T : Touch w ι id v' w') : Ext w F ι w' (upd ι id (some v')) := by
  refine ⟨fun r hr hf => T.mem r hr fun v hv => hf.2 id v hv, fun r hr hf => ⟨hf.1, fun j v hj => ?_⟩⟩
  unfold upd at hj
  split at hj
  · cases hj
    intro hb
    rcases T.blk r hb with h1 | ⟨v2, h1, h2⟩
    · omega
    · exact hf.2 id v2 h1 h2
  · exact hf.2 j v hj
theorem HRel.touch (H : HRel Pm F w0 pin ι h w) {id : Nat} {v' : Value} {b' : ABlk} (T : Touch w ι id v' w') (hpin : id < 1000 ∨ ι id = some v')
    (hb : BRel w' F (upd ι id (some v')) b' v') : HRel Pm F w0 pin (upd ι id (some v')) ((id, b') :: killH id h) w' := by
  have he := T.ext (F := F)
  have hsame : ∀ j v r, j ≠ id → ι j = some v → blockOf v = some r → w'.heap[r]? = w.heap[r]? := fun j v r hj hv hr =>
    T.mem r (H.lt hv hr) fun v2 hv2 => H.inj j id v v2 r hj hv hv2 hr
  refine ⟨?_, ?_, ?_, ?_, T.os.trans H.os, T.tape.trans H.tape, T.output.trans H.output, Nat.le_trans H.size T.size, ?_, H.fresh, ?_, ?_, H.forb⟩
  · intro j b hj
    by_cases hji : id = j
    · subst hji
      rw [look_cons_same] at hj
      cases hj
      exact ⟨v', by simp [upd], hb⟩
    · rw [look_cons_ne _ _ hji, look_killH, if_neg (by omega)] at hj
      cases hl : look h j with
      | none => simp [hl] at hj
      | some b0 =>
        simp [hl] at hj
        subst hj
        obtain ⟨v, hv, hB⟩ := H.blk j b0 hl
        exact ⟨v, by simp [upd, Ne.symm hji, hv], hB.killed he fun r hr => hsame j v r (Ne.symm hji) hv hr⟩
  · intro j v hj
    by_cases hji : id = j
    · subst hji; exact ⟨b', look_cons_same _ _ _⟩
    · have hj' : ι j = some v := by simpa [upd, Ne.symm hji] using hj
      obtain ⟨b, hb⟩ := H.dom j v hj'
      exact ⟨killB id b, by rw [look_cons_ne _ _ hji, look_killH, if_neg (by omega), hb]; rfl⟩
  · intro i j v v2 r hij hi hj hr hr2
    have old : ∀ k u, k ≠ id → upd ι id (some v') k = some u → ι k = some u := fun k u hk hu => by simpa [upd, hk] using hu
    have cross : ∀ k u, k ≠ id → ι k = some u → blockOf u = some r → blockOf v' ≠ some r := fun k u hk hu hr hr' => by
      rcases T.blk r hr' with h1 | ⟨v3, h1, h2⟩
      · have := H.lt hu hr; omega
      · exact H.inj k id u v3 r hk hu h1 hr h2
    by_cases h1 : i = id
    · subst h1
      have : v = v' := by simpa [upd] using hi.symm
      subst this
      exact cross j v2 (Ne.symm hij) (old j v2 (Ne.symm hij) hj) hr2 hr
    · by_cases h2 : j = id
      · subst h2
        have : v2 = v' := by simpa [upd] using hj.symm
        subst this
        exact cross i v h1 (old i v h1 hi) hr hr2
      · exact H.inj i j v v2 r hij (old i v h1 hi) (old j v2 h2 hj) hr hr2
  · intro i v r hi hr
    by_cases h1 : i = id
    · subst h1
      have : v = v' := by simpa [upd] using hi.symm
      subst this
      rcases T.blk r hr with h2 | ⟨v3, h2, h3⟩
      · exact H.fresh r (Nat.le_trans H.size h2)
      · exact H.pm i v3 r h2 h3
    · exact H.pm i v r (by simpa [upd, h1] using hi) hr
  · intro r hr hn
    rw [T.mem r (Nat.lt_of_lt_of_le hr H.size) fun v hv hb => hn (H.pm id v r hv hb)]
    exact H.keep r hr hn
  · intro j v hj hv
    by_cases h1 : j = id
    · subst h1
      have : v = v' := by simpa [upd] using hv.symm
      subst this
      rcases hpin with h2 | h2
      · omega
      · exact H.pinned j v hj h2
    · exact H.pinned j v hj (by simpa [upd, h1] using hv)
  · intro i v r hi hr hF
    by_cases h1 : i = id
    · subst h1
      have : v = v' := by simpa [upd] using hi.symm
      subst this
      rcases T.blk r hr with h2 | ⟨v3, h2, h3⟩
      · have := H.forb r hF; have := H.size; omega
      · exact H.nf i v3 r h2 h3 hF
    · exact H.nf i v r (by simpa [upd, h1] using hi) hr hF

structure Wrote (w : World) (v : Value) (w' : World) : Prop where
  os : w'.os = w.os
  tape : w'.tape = w.tape
  output : w'.output = w.output
  size : w.heap.size ≤ w'.heap.size
  mem : ∀ r, r < w.heap.size → blockOf v ≠ some r → w'.heap[r]? = w.heap[r]?
theorem Wrote.ext {id : Nat} {v : Value} (T : Wrote w v w') (hv : ι id = some v) : Ext w F ι w' ι :=
  ⟨fun r hr hf => T.mem r hr (hf.2 id v hv), fun r _ hf => hf⟩
theorem VRel.wrote {id : Nat} {v : Value} (T : Wrote w v w') (hv : ι id = some v) {c : AVal} {u : Value} (hc : VRel w F ι c u) : VRel w' F ι c u := hc.ext (T.ext hv) fun _ _ _ h => h
theorem HRel.wrote (H : HRel Pm F w0 pin ι h w) {id : Nat} {v : Value} {b' : ABlk} (T : Wrote w v w') (hv : ι id = some v) (hb : BRel w' F ι b' v) : HRel Pm F w0 pin ι ((id, b') :: h) w' := by
  have he := T.ext (F := F) hv
  have hsame : ∀ j v' r, j ≠ id → ι j = some v' → blockOf v' = some r → w'.heap[r]? = w.heap[r]? := fun j v' r hj hv' hr =>
    T.mem r (H.lt hv' hr) (H.inj j id v' v r hj hv' hv hr)
  refine ⟨?_, ?_, H.inj, H.pm, T.os.trans H.os, T.tape.trans H.tape, T.output.trans H.output, Nat.le_trans H.size T.size, ?_, H.fresh, H.pinned, H.nf, H.forb⟩
  · intro j b hj
    by_cases hji : id = j
    · subst hji
      rw [look_cons_same] at hj
      cases hj
      exact ⟨v, hv, hb⟩
    · rw [look_cons_ne _ _ hji] at hj
      obtain ⟨v', hv', hB⟩ := H.blk j b hj
      exact ⟨v', hv', hB.ext he (fun _ _ h => h) fun r hr => hsame j v' r (Ne.symm hji) hv' hr⟩
  · intro j v' hj
    by_cases hji : id = j
    · subst hji; exact ⟨b', look_cons_same _ _ _⟩
    · obtain ⟨b, hb⟩ := H.dom j v' hj
      exact ⟨b, by rw [look_cons_ne _ _ hji]; exact hb⟩
  · intro r hr hn
    rw [T.mem r (Nat.lt_of_lt_of_le hr H.size) fun hb => hn (H.pm id v r hv hb)]
    exact H.keep r hr hn

structure Grew (w w' : World) : Prop where
  os : w'.os = w.os
  tape : w'.tape = w.tape
  output : w'.output = w.output
  size : w.heap.size ≤ w'.heap.size
  mem : ∀ r, r < w.heap.size → w'.heap[r]? = w.heap[r]?
theorem Grew.refl (w : World) : Grew w w := ⟨rfl, rfl, rfl, Nat.le_refl _, fun _ _ => rfl⟩
theorem Grew.drew (w : World) : Grew w { w with drawn := w.drawn + 1 } := ⟨rfl, rfl, rfl, Nat.le_refl _, fun _ _ => rfl⟩
theorem Grew.trans {w1 w2 w3 : World} (a : Grew w1 w2) (b : Grew w2 w3) : Grew w1 w3 :=
  ⟨b.os.trans a.os, b.tape.trans a.tape, b.output.trans a.output, Nat.le_trans a.size b.size, fun r hr => (b.mem r (Nat.lt_of_lt_of_le hr a.size)).trans (a.mem r hr)⟩
theorem Grew.ext (G : Grew w w') : Ext w F ι w' ι := ⟨fun r hr _ => G.mem r hr, fun r _ hf => hf⟩
def only (h' : Heap) (ι : Nat → Option Value) : Nat → Option Value := fun id => if (look h' id).isSome then ι id else none
theorem only_some {h' : Heap} {ι : Nat → Option Value} {id : Nat} {v : Value} (hv : only h' ι id = some v) : ι id = some v := by
  unfold only at hv; split at hv
  · exact hv
  · cases hv
theorem only_ext (w : World) (F : Nat → Prop) (h' : Heap) (ι : Nat → Option Value) : Ext w F ι w (only h' ι) := ⟨fun _ _ _ => rfl, fun r _ hf => ⟨hf.1, fun id v hv => hf.2 id v (only_some hv)⟩⟩
theorem VRel.only {c : AVal} {u : Value} (hc : VRel w F ι c u) (h' : Heap) : VRel w F (only h' ι) c u := hc.ext (only_ext w F h' ι) fun _ _ _ hv => only_some hv
theorem HRel.only (H : HRel Pm F w0 pin ι h w) (hs : ∀ id b, look h' id = some b → look h id = some b) : HRel Pm F w0 pin (only h' ι) h' w := by
  refine ⟨?_, ?_, fun i j v v' r hij hi hj => H.inj i j v v' r hij (only_some hi) (only_some hj), fun i v r hi => H.pm i v r (only_some hi), H.os, H.tape, H.output, H.size, H.keep, H.fresh, fun id v h1 hv => H.pinned id v h1 (only_some hv), fun i v r hi => H.nf i v r (only_some hi), H.forb⟩
  · intro j b hj
    obtain ⟨v, hv, hB⟩ := H.blk j b (hs j b hj)
    exact ⟨v, by simp [Ab.only, hj, hv], hB.ext (only_ext w F h' ι) (fun _ _ h => only_some h) fun _ _ => rfl⟩
  · intro j v hj
    unfold Ab.only at hj
    split at hj
    · rename_i hs; exact Option.isSome_iff_exists.1 hs
    · cases hj
end

def EnvRel (w : World) (F : Nat → Prop) (ι : Nat → Option Value) (e : Env) (a : Act) : Prop := ∀ t c, look e t = some c → ∃ u, a.tmps[t]? = some u ∧ VRel w F ι c u
def markOf (r : Nat) : Deferred := { target := .collected r, args := #[] }
structure MkOk (B : Nat → Prop) (w : World) (F : Nat → Prop) (ι : Nat → Option Value) (ds : List Deferred) : Prop where
  all : ∀ d ∈ ds, ∃ r, d = markOf r ∧ B r ∧ w.heap[r]? = some (.deferred (some [])) ∧ FreeB F ι r
  apart : ds.Pairwise fun a b => a ≠ b
theorem MkOk.nil {B : Nat → Prop} {w : World} {F : Nat → Prop} {ι : Nat → Option Value} : MkOk B w F ι [] := ⟨by simp, .nil⟩
theorem MkOk.ext {B : Nat → Prop} {w w' : World} {F : Nat → Prop} {ι ι' : Nat → Option Value} {ds : List Deferred} (M : MkOk B w F ι ds) (he : Ext w F ι w' ι') : MkOk B w' F ι' ds :=
  ⟨fun d hd => by
    obtain ⟨r, h1, h2, h3, h4⟩ := M.all d hd
    have hlt : r < w.heap.size := (Array.getElem?_eq_some_iff.1 h3).1
    exact ⟨r, h1, h2, by rw [he.mem r hlt h4]; exact h3, he.free r hlt h4⟩, M.apart⟩
structure Rel (Pm F : Nat → Prop) (w0 : World) (pin : Nat → Option Value) (ι : Nat → Option Value) (nt : Nat) (e : Env) (h : Heap) (a : Act) (w : World) : Prop where
  heap : HRel Pm F w0 pin ι h w
  env : EnvRel w F ι e a
  defers : MkOk Pm w F ι a.defers
  size : nt ≤ a.tmps.size
end Go.Proofs.YtdbeblhifnfocaaGreatDoor.Ab

namespace Go.Proofs.YtdbeblhifnfocaaGreatDoor.Ab
set_option linter.unusedVariables false
open Go
def Fq (l : Option Nat) : Fence := { Fence.wide with round := l }
def notDef (o : Oper) : Bool := match o.op with
  | .defer _ => false
  | _ => true
section
variable {P : Program} {l : Option Nat} {n : Nat}
end
end Go.Proofs.YtdbeblhifnfocaaGreatDoor.Ab

namespace Go.Proofs.YtdbeblhifnfocaaGreatDoor.Ab
set_option linter.unusedVariables false
open Go.RowKit

inductive Sh where
  | sl (e : TypeId)
  | st (fs : List (Nat × TypeId))
  | ar (n : Nat) (e : TypeId)
  | mp (k e : TypeId)
  | pt (e : TypeId)
  | it (k : IntKind)
  | bo
  | str
  | fu
  | other
structure TE where
  size : Nat
  bytes : Nat
  agg : Bool
  zero : List Value
  sh : Sh
def isAggD : TypeDesc → Bool
  | .struct _ => true
  | .array _ _ => true
  | _ => false
def ShOk : Sh → TypeDesc → Prop
  | .sl e, d => d = .slice e
  | .st fs, d => ∃ F, d = .struct F ∧ F.toList.map (fun f => (f.offset, f.type)) = fs ∧ F.toList.all (fun f => f.name != "_") = true
  | .ar n e, d => d = .array n e
  | .mp k e, d => d = .map k e
  | .pt e, d => d = .pointer e
  | .it k, d => d = .int k
  | .bo, d => d = .bool
  | .str, d => d = .string
  | .fu, d => ∃ a b c, d = .func a b c
  | .other, _ => True
structure TFacts (P : Program) (t : TypeId) (te : TE) : Prop where
  info : (P.info? t).map (fun i => (i.size, i.bytes, i.zero.map (·.cells.toList))) = some (te.size, te.bytes, some te.zero)
  und : ∃ d, P.underlying t = some d ∧ isAggD d = te.agg ∧ ShOk te.sh d
inductive TTab where
  | leaf
  | node (k : Nat) (v : TE) (l r : TTab)
def tlook : TTab → Nat → Option TE
  | .leaf, _ => none
  | .node k v l r, t => cond (Nat.beq t k) (some v) (cond (Nat.blt t k) (tlook l t) (tlook r t))
def TTab.all (p : Nat → TE → Bool) : TTab → Bool
  | .leaf => true
  | .node k v l r => p k v && l.all p && r.all p
def TabOk (P : Program) (tab : TTab) : Prop := ∀ t te, tlook tab t = some te → TFacts P t te
theorem TabOk.leaf (P : Program) : TabOk P .leaf := fun _ _ h => by cases h
theorem TabOk.node {P : Program} {l r : TTab} {k : Nat} {v : TE} (h1 : TFacts P k v) (hl : TabOk P l) (hr : TabOk P r) : TabOk P (.node k v l r) := fun s se hs => by
  rw [tlook] at hs
  cases hb : Nat.beq s k with
  | true => rw [hb] at hs; cases hs; rw [Nat.eq_of_beq_eq_true hb]; exact h1
  | false =>
    rw [hb, cond_false] at hs
    cases hc : Nat.blt s k with
    | true => rw [hc] at hs; exact hl s se hs
    | false => rw [hc] at hs; exact hr s se hs
section
variable {P : Program} {t : TypeId} {te : TE} (w : World)
theorem TFacts.size (T : TFacts P t te) : (sizeOf t).run P w = .ok te.size w := by
  have h := T.info
  cases hi : P.info? t with
  | none => simp [hi] at h
  | some i => simp [hi] at h; simp [sizeOf, typeInfo, hi, h.1]
theorem TFacts.run_agg (T : TFacts P t te) : (isAgg t).run P w = .ok te.agg w := by
  obtain ⟨d, hd, ha, _⟩ := T.und
  unfold isAgg
  rw [Sem.run_bind, run_underlying hd, Result.andThen_ok, ← ha]
  cases d <;> rfl
theorem TFacts.cellsOf (T : TFacts P t te) : P.cellsOf t = te.size := by
  have h := T.info
  cases hi : P.info? t with
  | none => simp [hi] at h
  | some i => simp [hi] at h; simp [Program.cellsOf, hi, h.1]
theorem TFacts.zero (T : TFacts P t te) : ∃ z, (zeroValue t).run P w = .ok z w ∧ z.cells.toList = te.zero ∧ ∃ i, P.info? t = some i ∧ i.zero = some z ∧ i.size = te.size ∧ i.bytes = te.bytes := by
  have h := T.info
  cases hi : P.info? t with
  | none => simp [hi] at h
  | some i =>
    simp [hi] at h
    obtain ⟨h1, h2, z, h3, h4⟩ := h
    exact ⟨z, by simp [zeroValue, typeInfo, hi, h3], h4, i, rfl, h3, h1, h2⟩
end

def aconst1 (v : Value) : AVal := if v.oneCell' then .d (.sc v) else .top
def aconst (v : Value) : AVal := match v with
  | .agg C => .agg (C.toList.map aconst1)
  | v => aconst1 v
def aev (e : Env) : Operand → Option AVal
  | .tmp t => look e t
  | .const v => some (aconst v)
  | .func f => some (.fn f [])
  | .global _ => none
section
variable {w : World} {F : Nat → Prop} {ι : Nat → Option Value} {e : Env} {a : Act}
theorem EnvRel.put (H : EnvRel w F ι e a) {t : Nat} (ht : t < a.tmps.size) {c : AVal} {u : Value} (hc : VRel w F ι c u) : EnvRel w F ι ((t, c) :: e) (a.put (some t) u) := by
  intro s c' hs
  by_cases hts : t = s
  · subst hts
    rw [look_cons_same] at hs; cases hs
    exact ⟨u, by simp [Act.put, ht], hc⟩
  · rw [look_cons_ne _ _ hts] at hs
    obtain ⟨u', hu', hv'⟩ := H s c' hs
    exact ⟨u', by simp [Act.put, Array.getElem?_setIfInBounds_ne hts, hu'], hv'⟩
theorem EnvRel.mono {w' : World} {ι' : Nat → Option Value} (H : EnvRel w F ι e a) (h : ∀ t c u, look e t = some c → VRel w F ι c u → VRel w' F ι' c u) : EnvRel w' F ι' e a :=
  fun t c ht => let ⟨u, hu, hv⟩ := H t c ht; ⟨u, hu, h t c u ht hv⟩
theorem EnvRel.killed {w' : World} {id : Nat} {v' : Option Value} (H : EnvRel w F ι e a) (he : Ext w F ι w' (upd ι id v')) : EnvRel w' F (upd ι id v') (killE id e) a := by
  intro t c ht
  rw [look_killE] at ht
  cases hl : look e t with
  | none => simp [hl] at ht
  | some c0 =>
    simp [hl] at ht
    subst ht
    obtain ⟨u, hu, hv⟩ := H t c0 hl
    exact ⟨u, hu, hv.killed he⟩
end
def aput (dst : Option Tmp) (c : AVal) (e : Env) : Env := match dst with
  | some t => (t, c) :: e
  | none => e
def dstOk (nt : Nat) : Option Tmp → Bool
  | some t => Nat.blt t nt
  | none => true

section
variable {Pm F : Nat → Prop} {w0 w w' : World} {pin ι : Nat → Option Value} {nt : Nat} {e : Env} {h : Heap} {a : Act}
theorem dst_lt {t : Nat} (h : dstOk nt (some t) = true) : t < nt := by simp [dstOk, Nat.blt] at h; omega
theorem put_size (a : Act) (d : Option Tmp) (v : Value) : (a.put d v).tmps.size = a.tmps.size := by cases d <;> simp [Act.put]
theorem put_defers (a : Act) (d : Option Tmp) (v : Value) : (a.put d v).defers = a.defers := by cases d <;> rfl
theorem EnvRel.aput (H : EnvRel w F ι e a) {d : Option Tmp} (hd : dstOk nt d = true) (hs : nt ≤ a.tmps.size) {c : AVal} {u : Value} (hc : VRel w F ι c u) : EnvRel w F ι (aput d c e) (a.put d u) := by
  cases d with
  | none => exact H
  | some t => exact H.put (Nat.lt_of_lt_of_le (dst_lt hd) hs) hc
theorem Rel.put (R : Rel Pm F w0 pin ι nt e h a w) {d : Option Tmp} (hd : dstOk nt d = true) {c : AVal} {u : Value} (hc : VRel w F ι c u) : Rel Pm F w0 pin ι nt (aput d c e) h (a.put d u) w :=
  ⟨R.heap, R.env.aput hd R.size hc, by rw [put_defers]; exact R.defers, by rw [put_size]; exact R.size⟩
end

abbrev Post := Exit → Env → Heap → Prop
def real (Pm F : Nat → Prop) (w0 : World) (pin : Nat → Option Value) (nt : Nat) (Q : Post) : Exit → Act → World → Prop := fun x a w => ∃ ι e h, Q x e h ∧ Rel Pm F w0 pin ι nt e h a w
def AWp (z : Bool) (P : Program) (nt : Nat) (c : Code) (Q : Post) (e : Env) (h : Heap) : Prop :=
  ∀ lq Pm F w0 pin ι a w, (z = true → lq = none) → Rel Pm F w0 pin ι nt e h a w → c.wpIn (Fq lq) 0 P (real Pm F w0 pin nt Q) a w
def AThen (K : Env → Heap → Prop) (Q : Post) : Post
  | .normal, e, h => K e h
  | x, e, h => Q x e h
def AIn (id : Nat) (Q : Post) : Post
  | .exit j, e, h => cond (Nat.beq j id) (Q .normal e h) (Q (.exit j) e h)
  | x, e, h => Q x e h
def AWk (nt : Nat) (e : Env) (h : Heap) (e' : Env) (h' : Heap) : Prop :=
  ∀ Pm F w0 pin ι a w, Rel Pm F w0 pin ι nt e h a w → ∃ ι', Rel Pm F w0 pin ι' nt e' h' a w

section
variable {P : Program} {nt : Nat} {Q : Post} {e : Env} {h : Heap} {z : Bool}
theorem AWp.mono {c : Code} {Q' : Post} (H : AWp z P nt c Q e h) (hq : ∀ x e h, Q x e h → Q' x e h) : AWp z P nt c Q' e h :=
  fun lq Pm F w0 pin ι a w hz R => wpIn_mono (H lq Pm F w0 pin ι a w hz R) fun x a w ⟨ι, e, h, q, r⟩ => ⟨ι, e, h, hq _ _ _ q, r⟩
theorem AWp.fn {c : Code} (H : AWp z P nt c Q e h) : AWp true P nt c Q e h := fun lq Pm F w0 pin ι a w hz R => H lq Pm F w0 pin ι a w (fun _ => hz rfl) R
theorem least_ex (p : Nat → Prop) (h : ∃ n, p n) : ∃ m, p m ∧ ∀ k, p k → m ≤ k := by
  obtain ⟨n, hn⟩ := h
  induction n using Nat.strongRecOn with
  | _ n ih =>
    by_cases hk : ∃ k, k < n ∧ p k
    · obtain ⟨k, hk, hp⟩ := hk; exact ih k hk hp
    · exact ⟨n, hn, fun k hp => Nat.le_of_not_lt fun hlt => hk ⟨k, hlt, hp⟩⟩
open Classical in
noncomputable def least (p : Nat → Prop) : Nat := if h : ∃ n, p n then Classical.choose (least_ex p h) else 0
end

def awant (ops : Array Oper) (e : Env) (o : Oper) : Option Bool :=
  match o.guard with
  | none => some true
  | some (j, b) => match ((ops[j]?).bind (·.dst)).bind (look e) with
    | some (.d (.sc (.bool c))) => some (c == b)
    | some .und => some false
    | _ => none
structure CT (T : List Nat) (ι : Nat → Option Value) (w w' : World) : Prop where
  os : w'.os = w.os
  tape : w'.tape = w.tape
  output : w'.output = w.output
  size : w.heap.size ≤ w'.heap.size
  mem : ∀ r, r < w.heap.size → (∀ id ∈ T, ∀ v, ι id = some v → blockOf v ≠ some r) → w'.heap[r]? = w.heap[r]?
theorem CT.refl (T : List Nat) (ι : Nat → Option Value) (w : World) : CT T ι w w := ⟨rfl, rfl, rfl, Nat.le_refl _, fun _ _ _ => rfl⟩
theorem Grew.ct {ι : Nat → Option Value} {w w' : World} (h : Grew w w') (T : List Nat) : CT T ι w w' := ⟨h.os, h.tape, h.output, h.size, fun r hr _ => h.mem r hr⟩

def Old (ι : Nat → Option Value) (w : World) (ι' : Nat → Option Value) : Prop := ∀ id v r, ι' id = some v → blockOf v = some r → r < w.heap.size → ∃ v0, ι id = some v0 ∧ blockOf v0 = some r
theorem Old.refl (ι : Nat → Option Value) (w : World) : Old ι w ι := fun _ v _ h1 h2 _ => ⟨v, h1, h2⟩
structure CTo (T : List Nat) (ι : Nat → Option Value) (w : World) (ι' : Nat → Option Value) (w' : World) : Prop where
  ct : CT T ι w w'
  old : ∀ id ∈ T, ∀ v r, ι' id = some v → blockOf v = some r → r < w.heap.size → ∃ v0, ι id = some v0 ∧ blockOf v0 = some r
theorem CTo.trans {T : List Nat} {ι ι' : Nat → Option Value} {w w' w2 : World} (h : CTo T ι w ι' w') (k : CT T ι' w' w2) : CT T ι w w2 :=
  ⟨k.os.trans h.ct.os, k.tape.trans h.ct.tape, k.output.trans h.ct.output, Nat.le_trans h.ct.size k.size, fun r hr hn => by
    rw [k.mem r (Nat.lt_of_lt_of_le hr h.ct.size) fun id hid v hv hb => ?_]
    · exact h.ct.mem r hr hn
    · obtain ⟨v0, h1, h2⟩ := h.old id hid v r hv hb hr
      exact hn id hid v0 h1 h2⟩
def AYield (P : Program) (T : List Nat) (e : Env) (h : Heap) (o : Oper) (c : AVal) : Prop :=
  ∀ Pm F w0 pin ι a w, HRel Pm F w0 pin ι h w → EnvRel w F ι e a → ∃ v, VRel w F ι c v ∧ ∀ w', CT T ι w w' → (execOp a.eval o).run P w' = .ok (.value v) w'
def AEff (P : Program) (nt : Nat) (T : List Nat) (e : Env) (h : Heap) (o : Oper) (R : Env → Heap → Prop) : Prop :=
  ∀ Pm F w0 pin ι a w, Rel Pm F w0 pin ι nt e h a w → ∀ (K : Act → World → Prop) (Qx : Exit → Act → World → Prop),
    (∀ ι' e' h' a' w', R e' h' → Rel Pm F w0 pin ι' nt e' h' a' w' → CTo T ι w ι' w' → a'.defers = a.defers → K a' w') → o.wp P a w K Qx
def AOps (P : Program) (nt : Nat) (ops : Array Oper) (Q : Post) (l : List Oper) (e : Env) (h : Heap) : Prop :=
  l.all notDef = true → ∀ lq Pm F w0 pin ι a w, Rel Pm F w0 pin ι nt e h a w → wpListIn (Fq lq) 0 P ops (real Pm F w0 pin nt Q) l a w

section
variable {P : Program} {nt : Nat} {Q : Post} {e : Env} {h : Heap} {ops : Array Oper} {o : Oper} {rest : List Oper} {z : Bool}
def AQ (P : Program) (nt : Nat) (ops : Array Oper) (Q : Post) (l : List Oper) (e : Env) (h : Heap) : Prop :=
  ∀ Pm F w0 pin ι a w, Rel Pm F w0 pin ι nt e h a w → wpQuiet P ops (CT [] ι w) (fun a' => ∃ e', Q .normal e' h ∧ EnvRel w F ι e' a' ∧ MkOk Pm w F ι a'.defers ∧ nt ≤ a'.tmps.size) l a
end

def ArgsRel (w : World) (F : Nat → Prop) (ι : Nat → Option Value) (cs : List AVal) (us : Array Value) : Prop := us.size = cs.length ∧ ∀ (i : Nat) (c : AVal) (u : Value), cs[i]? = some c → us[i]? = some u → VRel w F ι c u
def isGo (P : Program) (f : FuncId) : Bool := match P.funcs[f]? with
  | some fn => fn.body.isSome && !(fn.name == "runtime.NumGoroutine")
  | none => false
theorem run_isGo {P : Program} {f : FuncId} (h : isGo P f = true) (args : Array Value) (w : World) : (callFunc f args).run P w = .ok (.enter f args) w := by
  unfold isGo at h
  cases hf : P.funcs[f]? with
  | none => simp [hf] at h
  | some fn =>
    simp [hf] at h
    obtain ⟨h1, h2⟩ := h
    simp [callFunc, program, Sem.run, hf, h2]
    intro h3
    rw [h3] at h1; cases h1
def ACall (P : Program) (f : FuncId) (args : List AVal) (h : Heap) (Q : AVal → Heap → Prop) : Prop :=
  isGo P f = true ∧ ∀ Pm F w0 pin ι us w, HRel Pm F w0 pin ι h w → ArgsRel w F ι args us → Calls P f us w fun x w' => ∃ u c h' ι', x = .returned u ∧ Q c h' ∧ HRel Pm F w0 pin ι' h' w' ∧ VRel w' F ι' c u
theorem ACall.mono {P : Program} {f : FuncId} {args : List AVal} {h : Heap} {Q Q' : AVal → Heap → Prop} (H : ACall P f args h Q) (hq : ∀ c h, Q c h → Q' c h) : ACall P f args h Q' :=
  ⟨H.1, fun Pm F w0 pin ι us w a b => (H.2 Pm F w0 pin ι us w a b).mono fun _ _ ⟨u, c, h', ι', h1, h2, h3, h4⟩ => ⟨u, c, h', ι', h1, hq _ _ h2, h3, h4⟩⟩

def aresOne (tab : TTab) (e : Env) (h : Heap) : ResultVar → Option AVal
  | .tmp t => look e t
  | .cell s t => match look e s, tlook tab t with
    | some (.ptr id 0), some te => match look h id with
      | some (.var cs) => cond te.agg (cond (Nat.beq cs.length te.size) (some (.agg cs)) none) cs[0]?
      | _ => none
    | _, _ => none
def ares (tab : TTab) (e : Env) (h : Heap) (rs : List ResultVar) : Option AVal :=
  match rs with
  | [r] => aresOne tab e h r
  | rs => (rs.mapM (aresOne tab e h)).map .tup
def argsEnv (args : List AVal) (i : Nat := 0) : Env := match args with
  | [] => []
  | c :: r => (i, c) :: argsEnv r (i + 1)
end Go.Proofs.YtdbeblhifnfocaaGreatDoor.Ab

namespace Go.Proofs.YtdbeblhifnfocaaGreatDoor.Ab
set_option linter.unusedVariables false
open Go.RowKit

def aevs (e : Env) : List Operand → Option (List AVal)
  | [] => some []
  | x :: r => match aev e x, aevs e r with
    | some c, some cs => some (c :: cs)
    | _, _ => none
section
variable {P : Program} {T : List Nat} {e : Env} {h : Heap} {o : Oper}
theorem sc_of {w : World} {F : Nat → Prop} {ι : Nat → Option Value} {v u : Value} (h : VRel w F ι (.d (.sc v)) u) : u = v ∧ v.oneCell' = true := by
  cases h with
  | d _ _ h => cases h with
    | sc _ h => exact ⟨rfl, h⟩
def ibin (op : BinOp) (k : IntKind) (a b : Int) : Option Value := match op with
  | .add => some (.int k (k.wrap (a + b)))
  | .sub => some (.int k (k.wrap (a - b)))
  | .mul => some (.int k (k.wrap (a * b)))
  | .eql => some (.bool (a == b))
  | .neq => some (.bool (a != b))
  | .lss => some (.bool (decide (a < b)))
  | .leq => some (.bool (decide (a ≤ b)))
  | .gtr => some (.bool (decide (a > b)))
  | .geq => some (.bool (decide (a ≥ b)))
  | _ => none
theorem wrap_in {k : IntKind} {n : Int} (h1 : k.min ≤ n) (h2 : n ≤ k.max) : k.wrap n = n := by
  cases k <;> simp [IntKind.min, IntKind.max, IntKind.signed, IntKind.bits, IntKind.wrap] at * <;> omega
theorem wrap_i64 {n : Int} (h : -9223372036854775808 ≤ n ∧ n ≤ 9223372036854775807) : IntKind.i64.wrap n = n := wrap_in (by simp [IntKind.min, IntKind.signed, IntKind.bits]; omega) (by simp [IntKind.max, IntKind.signed, IntKind.bits]; omega)
end

section
variable {P : Program} {T : List Nat} {e : Env} {h : Heap} {o : Oper} {tab : TTab}
theorem TFacts.slice {t : TypeId} {te : TE} {el : TypeId} (F : TFacts P t te) (hs : te.sh = .sl el) : P.underlying t = some (.slice el) := by
  obtain ⟨d, hd, _, h⟩ := F.und
  rw [hs] at h; cases h; exact hd
theorem run_indexAt {t el : TypeId} {te' : TE} (w' : World) (hu : P.underlying t = some (.slice el)) (hel : TFacts P el te') (b off n cap : Nat) (k : IntKind) (i : Int) (hi : 0 ≤ i ∧ i < n) :
    (Instr.indexAt t (.slice (some ⟨b, off, none⟩) n cap) (.int k i)).run P w' = .ok (.pointer (some ⟨b, off + i.toNat * te'.size, none⟩)) w' := by
  simp [Instr.indexAt, run_underlying hu, asIntOf, hi, hel.size, Addr.add_mid]
theorem TFacts.struct {t : TypeId} {te : TE} {fs : List (Nat × TypeId)} (Fa : TFacts P t te) (hs : te.sh = .st fs) : ∃ F, P.underlying t = some (.struct F) ∧ F.toList.map (fun f => (f.offset, f.type)) = fs := by
  obtain ⟨d, hd, _, h⟩ := Fa.und
  rw [hs] at h
  obtain ⟨F, rfl, hF, _⟩ := h
  exact ⟨F, hd, hF⟩
theorem run_fieldAt {t : TypeId} {te te' : TE} {fs : List (Nat × TypeId)} {f off ft : Nat} (w' : World) (Fa : TFacts P t te) (hs : te.sh = .st fs) (hf : fs[f]? = some (off, ft)) (Fb : TFacts P ft te') (hz : Nat.beq te'.size 0 = false) (b o : Nat) :
    (Instr.fieldAt t (.pointer (some ⟨b, o, none⟩)) f).run P w' = .ok (.pointer (some ⟨b, o + off, none⟩)) w' := by
  obtain ⟨F, hu, hF⟩ := Fa.struct hs
  have hz := of_beq_no hz
  subst hF
  rw [List.getElem?_map] at hf
  cases hfi : F[f]? with
  | none => simp [hfi] at hf
  | some fl =>
    simp [hfi] at hf
    obtain ⟨rfl, rfl⟩ := hf
    simp [Instr.fieldAt, run_underlying hu, hfi, Instr.sureAddr, fieldPlace, Fb.size, hz, Addr.add_mid]
theorem run_loadVar {t : TypeId} {te : TE} (w' : World) (Fa : TFacts P t te) (b o : Nat) (vs : List Value) (hl : vs.length = te.size) (hc : ∀ (j : Nat) (u : Value), vs[j]? = some u → w'.cell? ⟨b, o + j, none⟩ = some u) :
    (loadVar t ⟨b, o, none⟩).run P w' = match te.agg, vs with
      | true, vs => .ok (.agg vs.toArray) w'
      | false, v :: _ => .ok v w'
      | false, [] => (loadVar t ⟨b, o, none⟩).run P w' := by
  cases ha : te.agg with
  | true =>
    simp only [loadVar, Sem.run_bind, Fa.run_agg, Result.andThen_ok, ha, if_true, Fa.size]
    rw [← hl, run_loadCells_list (P := P) w' ⟨b, o, none⟩ vs (fun j v hv => by rw [Addr.add_mid]; exact hc j v hv)]
    simp
  | false =>
    cases vs with
    | nil => rfl
    | cons v r =>
      have := hc 0 v rfl
      rw [Nat.add_zero] at this
      simp [loadVar, Fa.run_agg, ha, load, Sem.run, this]
def win {α : Type} (cs : List α) (off k : Nat) : List α := (cs.drop off).take k
theorem win_get {α : Type} {cs xs : List α} {off k : Nat} (hw : win cs off k = xs) {j : Nat} {c : α} (hj : xs[j]? = some c) : cs[off + j]? = some c := by
  subst hw
  unfold win at hj
  rw [List.getElem?_take] at hj
  split at hj
  · rwa [List.getElem?_drop] at hj
  · cases hj
end
end Go.Proofs.YtdbeblhifnfocaaGreatDoor.Ab

namespace Go.Proofs.YtdbeblhifnfocaaGreatDoor.Ab
set_option linter.unusedVariables false
open Go.RowKit

def cellsA : AVal → Option (List AVal)
  | .agg cs => some cs
  | .top => none
  | .und => none
  | .tup _ => none
  | c => some [c]
theorem one_of {w : World} {F : Nat → Prop} {ι : Nat → Option Value} {c : AVal} {u : Value} (h : VRel w F ι c u) (hc : cellsA c = some [c]) : u.oneCell' = true := by
  cases h with
  | top => cases hc
  | und => cases hc
  | d _ _ hd => cases hd <;> first | assumption | rfl
  | agg cs C hl h =>
    cases cs with
    | nil => cases hc
    | cons a r => injection hc with hc; injection hc with h1 h2; exfalso; have := congrArg SizeOf.sizeOf h1; simp at this; omega
  | tup => cases hc
  | ptr _ _ _ h1 _ => exact h1
  | eptr _ _ _ h1 _ => exact h1
  | iptr => rfl
  | row _ _ h1 _ => exact h1
  | mp _ _ h1 _ => exact h1
  | fn => rfl
  | srow _ _ _ _ h1 _ => exact h1
  | full => rfl
def plainC : AVal → Bool
  | .agg _ => false
  | .top => false
  | .und => false
  | .tup _ => false
  | _ => true
theorem cells_rel {w : World} {F : Nat → Prop} {ι : Nat → Option Value} {c : AVal} {u : Value} (h : VRel w F ι c u) {cs : List AVal} (hc : cellsA c = some cs) :
    u.cells.size = cs.length ∧ ∀ (i : Nat) (c : AVal) (v : Value), cs[i]? = some c → u.cells[i]? = some v → VRel w F ι c v := by
  have one : cellsA c = some [c] → (∀ C, u ≠ .agg C) → u.cells.size = cs.length ∧ ∀ (i : Nat) (c : AVal) (v : Value), cs[i]? = some c → u.cells[i]? = some v → VRel w F ι c v := fun h1 h2 => by
    rw [h1] at hc; cases hc
    have : u.cells = #[u] := by cases u <;> first | rfl | exact absurd rfl (h2 _)
    rw [this]
    refine ⟨rfl, fun i c' v h3 h4 => ?_⟩
    cases i with
    | zero => simp at h3 h4; subst h3 h4; exact h
    | succ i => simp at h3
  have agg1 : u.oneCell' = true → ∀ C, u ≠ .agg C := fun h1 C h2 => by subst h2; cases h1
  cases h with
  | top => cases hc
  | und => cases hc
  | d _ _ hd => exact one rfl (agg1 (one_of (.d _ _ hd) rfl))
  | agg cs' C hl hh =>
    cases hc
    exact ⟨hl, hh⟩
  | tup => cases hc
  | ptr _ _ _ h1 _ => exact one rfl (agg1 h1)
  | eptr _ _ _ h1 _ => exact one rfl (agg1 h1)
  | iptr => exact one rfl (by simp)
  | row _ _ h1 _ => exact one rfl (agg1 h1)
  | mp _ _ h1 _ => exact one rfl (agg1 h1)
  | fn => exact one rfl (by simp)
  | srow _ _ _ _ h1 _ => exact one rfl (agg1 h1)
  | full => exact one rfl (by simp)

section
variable {P : Program} {nt : Nat} {T : List Nat} {e : Env} {h : Heap} {o : Oper} {tab : TTab}

theorem grew_alloc (w : World) (x : Obj) : Grew w (w.alloc x) := ⟨rfl, rfl, rfl, by simp, fun r hr => Below.heap_alloc w x r hr⟩
theorem Rel.new {Pm F : Nat → Prop} {w0 w : World} {pin ι : Nat → Option Value} {a : Act} (R : Rel Pm F w0 pin ι nt e h a w) {id : Nat} (hid : Nat.blt id 1000 = true) {d : Option Tmp} (hd : dstOk nt d = true) (x : Obj) (v : Value) (hv : ∀ r, blockOf v = some r → r = w.heap.size)
    (b : ABlk) (c : AVal) (hb : ∀ ι', ι' = upd ι id (some v) → Ext w F ι (w.alloc x) ι' → BRel (w.alloc x) F ι' b v) (hc : ∀ ι', ι' = upd ι id (some v) → VRel (w.alloc x) F ι' c v) :
    Rel Pm F w0 pin (upd ι id (some v)) nt (aput d c (killE id e)) ((id, b) :: killH id h) (a.put d v) (w.alloc x) ∧ CTo T ι w (upd ι id (some v)) (w.alloc x) := by
  have G := grew_alloc w x
  have TT : Touch w ι id v (w.alloc x) := ⟨G.os, G.tape, G.output, G.size, fun r hr _ => G.mem r hr, fun r hr => .inl (by rw [hv r hr]; exact Nat.le_refl _)⟩
  have hid : id < 1000 := by simp [Nat.blt] at hid; omega
  refine ⟨⟨R.heap.touch TT (.inl hid) (hb _ rfl TT.ext), ?_, by rw [put_defers]; exact R.defers.ext TT.ext, by rw [put_size]; exact R.size⟩, G.ct T, fun j _ u r hj hr hlt => ?_⟩
  · exact (R.env.killed TT.ext).aput hd R.size (hc _ rfl)
  · unfold upd at hj
    split at hj
    · cases hj; rw [hv r hr] at hlt; omega
    · exact ⟨u, hj, hr⟩

def setW {α : Type} (cs : List α) (off : Nat) (xs : List α) : List α := cs.take off ++ xs ++ cs.drop (off + xs.length)
theorem setW_get {α : Type} {cs xs : List α} {off i : Nat} (hl : off + xs.length ≤ cs.length) : (setW cs off xs)[i]? = if off ≤ i ∧ i < off + xs.length then xs[i - off]? else cs[i]? := by
  unfold setW
  rw [List.append_assoc, List.getElem?_append, List.length_take, Nat.min_eq_left (by omega)]
  by_cases h1 : i < off
  · rw [if_pos h1, if_neg (by omega), List.getElem?_take, if_pos h1]
  · rw [if_neg h1, List.getElem?_append]
    by_cases h2 : i - off < xs.length
    · rw [if_pos h2, if_pos (by omega)]
    · rw [if_neg h2, if_neg (by omega), List.getElem?_drop]
      congr 1
      omega
def afill (place : Nat → Option (Nat × Nat)) (cells : List AVal) : List (Nat × AVal) → Option (List AVal)
  | [] => some cells
  | (i, c) :: r => match place i, cellsA c with
    | some (off, size), some xs => cond (Nat.beq xs.length size && Nat.ble (off + xs.length) cells.length) (afill place (setW cells off xs) r) none
    | _, _ => none
def dat0 : AVal → AVal
  | .fn f [] => .d (.sc (.func (.func f) #[] #[]))
  | c => c
def aparts (e : Env) : List (Nat × Operand) → Option (List (Nat × AVal))
  | [] => some []
  | (i, x) :: r => match aev e x, aparts e r with
    | some c, some l => some ((i, dat0 c) :: l)
    | _, _ => none
theorem foldl_set (off : Nat) : ∀ (xs : List Value) (k : Nat) (C : Array Value), ((xs.zipIdx k).foldl (fun cs (c, j) => cs.setIfInBounds (off + j) c) C).size = C.size ∧
    ∀ i : Nat, ((xs.zipIdx k).foldl (fun cs (c, j) => cs.setIfInBounds (off + j) c) C)[i]? = if off + k ≤ i ∧ i < off + k + xs.length ∧ i < C.size then xs[i - (off + k)]? else C[i]?
  | [], k, C => ⟨rfl, fun i => by rw [if_neg (by simp; omega)]; rfl⟩
  | x :: xs, k, C => by
    obtain ⟨h1, h2⟩ := foldl_set off xs (k + 1) (C.setIfInBounds (off + k) x)
    rw [List.zipIdx_cons, List.foldl_cons]
    refine ⟨by rw [h1]; simp, fun i => ?_⟩
    rw [h2]
    simp only [Array.size_setIfInBounds, List.length_cons]
    by_cases hi : i = off + k
    · subst hi
      rw [if_neg (by omega), Array.getElem?_setIfInBounds_self]
      by_cases hs : off + k < C.size
      · rw [if_pos hs, if_pos (by omega)]; simp
      · rw [if_neg hs, if_neg (by omega), Array.getElem?_eq_none (by omega)]
    · rw [Array.getElem?_setIfInBounds_ne (by omega)]
      by_cases h3 : off + (k + 1) ≤ i ∧ i < off + (k + 1) + xs.length ∧ i < C.size
      · rw [if_pos h3, if_pos (by omega), show i - (off + k) = (i - (off + (k + 1))) + 1 by omega, List.getElem?_cons_succ]
      · rw [if_neg h3, if_neg (by omega)]
def stPlace (tab : TTab) (fs : List (Nat × TypeId)) (i : Nat) : Option (Nat × Nat) := match fs[i]? with
  | some (off, t) => match tlook tab t with
    | some te => some (off, te.size)
    | none => none
  | none => none
end
end Go.Proofs.YtdbeblhifnfocaaGreatDoor.Ab

namespace Go.Proofs.YtdbeblhifnfocaaGreatDoor.Rn
set_option linter.unusedVariables false
open Go.RowKit
open Go.Proofs.YtdbeblhifnfocaaGreatDoor.Ab (TE TTab tlook TabOk TFacts win setW setW_get win_get Sh)

inductive Tr (α : Type) where
  | nil
  | nd (v : Option α) (l r : Tr α)
def Tr.get {α : Type} : Tr α → Nat → Option α
  | .nil, _ => none
  | .nd v l r, k => cond (Nat.beq k 0) v (cond (Nat.beq (k % 2) 1) (l.get (k / 2)) (r.get (k / 2 - 1)))
def Tr.put {α : Type} (v : Option α) : Nat → Tr α → Nat → Tr α
  | 0, _, _ => .nil
  | f + 1, .nil, k => cond (Nat.beq k 0) (.nd v .nil .nil) (cond (Nat.beq (k % 2) 1) (.nd none (Tr.put v f .nil (k / 2)) .nil) (.nd none .nil (Tr.put v f .nil (k / 2 - 1))))
  | f + 1, .nd u l r, k => cond (Nat.beq k 0) (.nd v l r) (cond (Nat.beq (k % 2) 1) (.nd u (Tr.put v f l (k / 2)) r) (.nd u l (Tr.put v f r (k / 2 - 1))))
def Tr.set {α : Type} (t : Tr α) (k : Nat) (v : α) : Tr α := Tr.put (some v) (k + 1) t k
def Tr.del {α : Type} (t : Tr α) (k : Nat) : Tr α := Tr.put none (k + 1) t k
theorem beq_dec (a b : Nat) : Nat.beq a b = decide (a = b) := by
  by_cases h : a = b
  · subst h; simp
  · have := Ab.beq_no h; rw [this]; simp [h]
theorem Tr.get_put {α : Type} {v : Option α} : ∀ {f : Nat} {t : Tr α} {k j : Nat}, k < f → (Tr.put v f t k).get j = if j = k then v else t.get j := by
  intro f
  induction f with
  | zero => intro t k j h; omega
  | succ f ih =>
    intro t k j h
    have key : ∀ (u : Option α) (l r : Tr α), (cond (Nat.beq k 0) (.nd v l r) (cond (Nat.beq (k % 2) 1) (.nd u (Tr.put v f l (k / 2)) r) (.nd u l (Tr.put v f r (k / 2 - 1)))) : Tr α).get j = if j = k then v else (Tr.nd u l r).get j := by
      intro u l r
      simp only [beq_dec]
      by_cases hk : k = 0
      · subst hk
        simp only [decide_true, cond_true]
        rw [Tr.get, Tr.get]
        simp only [beq_dec]
        by_cases hj : j = 0
        · subst hj; simp
        · simp only [hj, decide_false, cond_false, if_false]
      · simp only [hk, decide_false, cond_false]
        by_cases hk2 : k % 2 = 1
        · simp only [hk2, decide_true, cond_true]
          rw [Tr.get, Tr.get]
          simp only [beq_dec]
          by_cases hj : j = 0
          · subst hj; rw [if_neg (by omega)]; rfl
          · simp only [hj, decide_false, cond_false]
            by_cases hj2 : j % 2 = 1
            · simp only [hj2, decide_true, cond_true]
              rw [ih (by omega)]
              by_cases hjk : j = k
              · rw [if_pos (by omega), if_pos hjk]
              · rw [if_neg (by omega), if_neg hjk]
            · simp only [hj2, decide_false, cond_false]
              rw [if_neg (by omega)]
        · simp only [hk2, decide_false, cond_false]
          rw [Tr.get, Tr.get]
          simp only [beq_dec]
          by_cases hj : j = 0
          · subst hj; rw [if_neg (by omega)]; rfl
          · simp only [hj, decide_false, cond_false]
            by_cases hj2 : j % 2 = 1
            · simp only [hj2, decide_true, cond_true]
              rw [if_neg (by omega)]
            · simp only [hj2, decide_false, cond_false]
              rw [ih (by omega)]
              by_cases hjk : j = k
              · rw [if_pos (by omega), if_pos hjk]
              · rw [if_neg (by omega), if_neg hjk]
    cases t with
    | nd u l r => exact key u l r
    | nil =>
      have h1 := key none .nil .nil
      have h2 : (Tr.nd none .nil .nil : Tr α).get j = none := by
        rw [Tr.get]
        simp only [beq_dec]
        by_cases hj : j = 0
        · simp [hj]
        · simp only [hj, decide_false, cond_false]
          by_cases hj2 : j % 2 = 1 <;> simp [hj2, Tr.get]
      rw [h2] at h1
      exact h1
theorem Tr.get_set {α : Type} (t : Tr α) (k j : Nat) (v : α) : (t.set k v).get j = if j = k then some v else t.get j := Tr.get_put (by omega)
theorem Tr.get_del {α : Type} (t : Tr α) (k j : Nat) : (t.del k).get j = if j = k then none else t.get j := Tr.get_put (by omega)

inductive V where
  | sc (v : Value)
  | ptr (id off : Nat)
  | sl (id off len k : Nat) (cap : Option Nat)
  | emp
  | mp (id : Nat)
  | fn (f : FuncId) (caps : List V)
  | ifc (t : TypeId) (v : V)
  | agg (cs : List V)
  | tup (cs : List V)
inductive B where
  | cells (cs : List V) (more : Bool)
  | map (es : List (V × V × Nat)) (clk : Nat)
  | sit (s : ByteArray) (pos : Nat)
  | mit (m : Option Nat) (since : Nat) (seen : List Nat) (stepped : Nat)
abbrev Hp := Tr B
abbrev Ev := Tr V
abbrev Io := Nat → Option (Nat × Nat)

inductive VRel (ι : Io) : V → Value → Prop where
  | sc (v : Value) : VRel ι (.sc v) v
  | ptr (id off r m : Nat) (h : ι id = some (r, m)) : VRel ι (.ptr id off) (.pointer (some ⟨r, off, none⟩))
  | sl (id off len k c r m : Nat) (h : ι id = some (r, m)) : VRel ι (.sl id off len k (some c)) (.slice (some ⟨r, off, none⟩) len c)
  | slu (id off len k c r m : Nat) (h : ι id = some (r, m)) (hc : off + c * k = m) (hl : len ≤ c) : VRel ι (.sl id off len k none) (.slice (some ⟨r, off, none⟩) len c)
  | emp (r o c : Nat) : VRel ι .emp (.slice (some ⟨r, o, none⟩) 0 c)
  | mp (id r m : Nat) (h : ι id = some (r, m)) : VRel ι (.mp id) (.map (some r))
  | fn (f : FuncId) (caps : List V) (C : Array Value) (hl : C.size = caps.length) (h : ∀ (i : Nat) (c : V) (u : Value), caps[i]? = some c → C[i]? = some u → VRel ι c u) : VRel ι (.fn f caps) (.func (.func f) #[] C)
  | ifc (t : TypeId) (v : V) (u : Value) (h : VRel ι v u) : VRel ι (.ifc t v) (.iface t u)
  | agg (cs : List V) (C : Array Value) (hl : C.size = cs.length) (h : ∀ (i : Nat) (c : V) (u : Value), cs[i]? = some c → C[i]? = some u → VRel ι c u) : VRel ι (.agg cs) (.agg C)
  | tup (cs : List V) (C : Array Value) (hl : C.size = cs.length) (h : ∀ (i : Nat) (c : V) (u : Value), cs[i]? = some c → C[i]? = some u → VRel ι c u) : VRel ι (.tup cs) (.tuple C)

def Io.le (ι ι' : Io) : Prop := ∀ id x, ι id = some x → ι' id = some x
theorem VRel.mono {ι ι' : Io} (hl : Io.le ι ι') {c : V} {u : Value} (h : VRel ι c u) : VRel ι' c u := by
  induction h with
  | sc v => exact .sc v
  | ptr id off r m h => exact .ptr id off r m (hl _ _ h)
  | sl id off len k c r m h => exact .sl id off len k c r m (hl _ _ h)
  | slu id off len k c r m h hc hl2 => exact .slu id off len k c r m (hl _ _ h) hc hl2
  | emp r o c => exact .emp r o c
  | mp id r m h => exact .mp id r m (hl _ _ h)
  | fn f caps C hs h ih => exact .fn f caps C hs ih
  | ifc t v u h ih => exact .ifc t v u ih
  | agg cs C hs h ih => exact .agg cs C hs ih
  | tup cs C hs h ih => exact .tup cs C hs ih

def LRel (ι : Io) (cs : List V) (us : List Value) : Prop := us.length = cs.length ∧ ∀ (i : Nat) (c : V) (u : Value), cs[i]? = some c → us[i]? = some u → VRel ι c u
theorem LRel.mono {ι ι' : Io} (hl : Io.le ι ι') {cs : List V} {us : List Value} (h : LRel ι cs us) : LRel ι' cs us := ⟨h.1, fun i c u a b => (h.2 i c u a b).mono hl⟩
theorem LRel.nil {ι : Io} : LRel ι [] [] := ⟨rfl, by simp⟩
theorem LRel.cons {ι : Io} {c : V} {u : Value} {cs : List V} {us : List Value} (h1 : VRel ι c u) (h : LRel ι cs us) : LRel ι (c :: cs) (u :: us) := by
  refine ⟨by simp [h.1], fun i c' u' a b => ?_⟩
  cases i with
  | zero => simp at a b; subst a b; exact h1
  | succ i => exact h.2 i c' u' (by simpa using a) (by simpa using b)
theorem LRel.head {ι : Io} {c : V} {cs : List V} {us : List Value} (h : LRel ι (c :: cs) us) : ∃ u vs, us = u :: vs ∧ VRel ι c u ∧ LRel ι cs vs := by
  cases us with
  | nil => have := h.1; simp at this
  | cons u vs => exact ⟨u, vs, rfl, h.2 0 c u rfl rfl, by have := h.1; simpa using this, fun i c' u' a b => h.2 (i + 1) c' u' (by simpa using a) (by simpa using b)⟩
theorem LRel.append {ι : Io} {cs ds : List V} {us vs : List Value} (h1 : LRel ι cs us) (h2 : LRel ι ds vs) : LRel ι (cs ++ ds) (us ++ vs) := by
  refine ⟨by simp [h1.1, h2.1], fun i c u hc hu => ?_⟩
  rw [List.getElem?_append] at hc hu
  rw [h1.1] at hu
  split at hc
  · rename_i hl; rw [if_pos hl] at hu; exact h1.2 _ _ _ hc hu
  · rename_i hl; rw [if_neg hl] at hu; exact h2.2 _ _ _ hc hu
theorem LRel.take {ι : Io} {cs : List V} {us : List Value} (h : LRel ι cs us) (n : Nat) : LRel ι (cs.take n) (us.take n) := by
  refine ⟨by simp [h.1], fun i c u hc hu => ?_⟩
  rw [List.getElem?_take] at hc hu
  split at hc
  · rename_i hl; rw [if_pos hl] at hu; exact h.2 _ _ _ hc hu
  · cases hc
theorem LRel.drop {ι : Io} {cs : List V} {us : List Value} (h : LRel ι cs us) (n : Nat) : LRel ι (cs.drop n) (us.drop n) := by
  refine ⟨by simp [h.1], fun i c u hc hu => ?_⟩
  rw [List.getElem?_drop] at hc hu
  exact h.2 _ _ _ hc hu
theorem LRel.win {ι : Io} {cs : List V} {us : List Value} (h : LRel ι cs us) (o n : Nat) : LRel ι (win cs o n) (win us o n) := (h.drop o).take n
theorem LRel.setW {ι : Io} {cs ds : List V} {us vs : List Value} (h1 : LRel ι cs us) (h2 : LRel ι ds vs) (o : Nat) : LRel ι (setW cs o ds) (setW us o vs) := by
  unfold Ab.setW
  rw [h2.1]
  exact ((h1.take o).append h2).append (h1.drop _)
theorem LRel.scs {ι : Io} (us : List Value) : LRel ι (us.map .sc) us := ⟨by simp, fun i c u hc hu => by rw [List.getElem?_map, hu] at hc; cases hc; exact .sc u⟩
theorem VRel.agg' {ι : Io} {cs : List V} {C : Array Value} (h : LRel ι cs C.toList) : VRel ι (.agg cs) (.agg C) := .agg cs C (by simpa using h.1) fun i c u a b => h.2 i c u a (by simpa using b)
theorem VRel.tup' {ι : Io} {cs : List V} {C : Array Value} (h : LRel ι cs C.toList) : VRel ι (.tup cs) (.tuple C) := .tup cs C (by simpa using h.1) fun i c u a b => h.2 i c u a (by simpa using b)
theorem VRel.fn' {ι : Io} {f : FuncId} {cs : List V} {C : Array Value} (h : LRel ι cs C.toList) : VRel ι (.fn f cs) (.func (.func f) #[] C) := .fn f cs C (by simpa using h.1) fun i c u a b => h.2 i c u a (by simpa using b)

def EntRel (ι : Io) (es : List (V × V × Nat)) (E : List MapEntry) : Prop := E.length = es.length ∧ ∀ (i : Nat) (p : V × V × Nat) (m : MapEntry), es[i]? = some p → E[i]? = some m → VRel ι p.1 m.key ∧ VRel ι p.2.1 m.val ∧ m.born = p.2.2
def BRel (ι : Io) (w : World) : B → Nat → Nat → Prop
  | .cells cs more, r, m => ∃ C t fz, w.heap[r]? = some (.cells C t fz) ∧ (∀ j, j < m → ¬ (fz.1 ≤ j ∧ j < fz.2)) ∧ C.size = m ∧ cs.length ≤ m ∧ (more = false → m = cs.length) ∧ LRel ι cs (C.toList.take cs.length)
  | .map es clk, r, _ => ∃ E, w.heap[r]? = some (.map E clk) ∧ EntRel ι es E.toList
  | .sit s pos, r, _ => w.heap[r]? = some (.stringIter s pos)
  | .mit mm since seen st, r, _ => ∃ rm, w.heap[r]? = some (.mapIter rm since seen.toArray st) ∧ match mm with
      | none => rm = none
      | some id => ∃ r2 m2, ι id = some (r2, m2) ∧ rm = some r2
theorem BRel.lt {ι : Io} {w : World} {b : B} {r m : Nat} (h : BRel ι w b r m) : r < w.heap.size := by
  cases b with
  | cells => obtain ⟨C, t, fz, h, _⟩ := h; exact (Array.getElem?_eq_some_iff.1 h).1
  | map => obtain ⟨E, h, _⟩ := h; exact (Array.getElem?_eq_some_iff.1 h).1
  | sit => exact (Array.getElem?_eq_some_iff.1 h).1
  | mit => obtain ⟨rm, h, _⟩ := h; exact (Array.getElem?_eq_some_iff.1 h).1
theorem BRel.mono {ι ι' : Io} {w w' : World} (hl : Io.le ι ι') {b : B} {r m : Nat} (h : BRel ι w b r m) (hw : w'.heap[r]? = w.heap[r]?) : BRel ι' w' b r m := by
  cases b with
  | cells => obtain ⟨C, t, fz, h, h0, h1, h2, h3, h4⟩ := h; exact ⟨C, t, fz, hw.trans h, h0, h1, h2, h3, h4.mono hl⟩
  | map => obtain ⟨E, h, h1, h2⟩ := h; exact ⟨E, hw.trans h, h1, fun i p m a b => ⟨(h2 i p m a b).1.mono hl, (h2 i p m a b).2.1.mono hl, (h2 i p m a b).2.2⟩⟩
  | sit => exact hw.trans h
  | mit mm =>
    obtain ⟨rm, h, h1⟩ := h
    refine ⟨rm, hw.trans h, ?_⟩
    cases mm with
    | none => exact h1
    | some id => obtain ⟨r2, m2, h2, h3⟩ := h1; exact ⟨r2, m2, hl _ _ h2, h3⟩

theorem VRel.back {ι ι' : Io} (hl : Io.le ι ι') {c : V} {u u' : Value} (h : VRel ι c u) : VRel ι' c u' → VRel ι c u' := by
  have arr : ∀ {cs : List V} {C C' : Array Value}, C.size = cs.length → (∀ (i : Nat) (c : V) (u : Value), cs[i]? = some c → C[i]? = some u → ∀ u', VRel ι' c u' → VRel ι c u') → (∀ (i : Nat) (c : V) (u : Value), cs[i]? = some c → C'[i]? = some u → VRel ι' c u) → ∀ (i : Nat) (c : V) (u : Value), cs[i]? = some c → C'[i]? = some u → VRel ι c u := fun {cs C C'} hs ih h2 i c u hc hu => by
    have hlt : i < C.size := by rw [hs]; exact (List.getElem?_eq_some_iff.1 hc).1
    exact ih i c C[i] hc (Array.getElem?_eq_getElem hlt) u (h2 i c u hc hu)
  induction h generalizing u' with
  | sc v => intro h2; cases h2; exact .sc v
  | ptr id off r m h => intro h2; cases h2 with | ptr _ _ r' m' h' => rw [hl _ _ h] at h'; cases h'; exact .ptr id off r m h
  | sl id off len k c r m h => intro h2; cases h2 with | sl _ _ _ _ _ r' m' h' => rw [hl _ _ h] at h'; cases h'; exact .sl id off len k c r m h
  | slu id off len k c r m h hc hl2 => intro h2; cases h2 with | slu _ _ _ _ c' r' m' h' h1 h3 => rw [hl _ _ h] at h'; cases h'; exact .slu id off len k c' r m h h1 h3
  | emp r o c => intro h2; cases h2 with | emp r' o' c' => exact .emp r' o' c'
  | mp id r m h => intro h2; cases h2 with | mp _ r' m' h' => rw [hl _ _ h] at h'; cases h'; exact .mp id r m h
  | fn f caps C hs h ih => intro h2; cases h2 with | fn _ _ C' hs' h' => exact .fn f caps C' hs' (arr hs (fun i c u a b u' => ih i c u a b) h')
  | ifc t v u h ih => intro h2; cases h2 with | ifc _ _ u2 h' => exact .ifc t v u2 (ih h')
  | agg cs C hs h ih => intro h2; cases h2 with | agg _ C' hs' h' => exact .agg cs C' hs' (arr hs (fun i c u a b u' => ih i c u a b) h')
  | tup cs C hs h ih => intro h2; cases h2 with | tup _ C' hs' h' => exact .tup cs C' hs' (arr hs (fun i c u a b u' => ih i c u a b) h')
theorem LRel.back {ι ι' : Io} (hl : Io.le ι ι') {cs : List V} {us us' : List Value} (h : LRel ι cs us) (h2 : LRel ι' cs us') : LRel ι cs us' := ⟨h2.1, fun i c u hc hu => by
  have hlt : i < us.length := by rw [h.1]; exact (List.getElem?_eq_some_iff.1 hc).1
  exact (h.2 i c us[i] hc (List.getElem?_eq_getElem hlt)).back hl (h2.2 i c u hc hu)⟩
theorem BRel.back {ι ι' : Io} (hl : Io.le ι ι') {w w' : World} {b : B} {r m : Nat} (h : BRel ι w b r m) (h2 : BRel ι' w' b r m) : BRel ι w' b r m := by
  cases b with
  | cells cs more =>
    obtain ⟨C, t, fz, _, _, _, _, _, h5⟩ := h
    obtain ⟨C', t', fz', g1, g2, g3, g4, g6, g5⟩ := h2
    exact ⟨C', t', fz', g1, g2, g3, g4, g6, h5.back hl g5⟩
  | map es clk =>
    obtain ⟨E, _, h1, h3⟩ := h
    obtain ⟨E', g0, g1, g3⟩ := h2
    refine ⟨E', g0, g1, fun i p m' a b => ?_⟩
    have hlt : i < E.toList.length := by rw [h1]; exact (List.getElem?_eq_some_iff.1 a).1
    have q1 := h3 i p E.toList[i] a (List.getElem?_eq_getElem hlt)
    have q2 := g3 i p m' a b
    exact ⟨q1.1.back hl q2.1, q1.2.1.back hl q2.2.1, q2.2.2⟩
  | sit s pos => exact h2
  | mit mm since seen st =>
    obtain ⟨rm, _, h1⟩ := h
    obtain ⟨rm', g0, g1⟩ := h2
    refine ⟨rm', g0, ?_⟩
    cases mm with
    | none => exact g1
    | some id =>
      obtain ⟨r2, m2, q1, q2⟩ := h1
      obtain ⟨r3, m3, q3, q4⟩ := g1
      rw [hl _ _ q1] at q3
      cases q3
      exact ⟨r2, m2, q1, q4⟩

abbrev Gm := Nat → Option B
structure HRel (ι : Io) (g : Gm) (w : World) : Prop where
  blk : ∀ id b, g id = some b → ∃ r m, ι id = some (r, m) ∧ BRel ι w b r m
  inj : ∀ i j b b' r m m', g i = some b → g j = some b' → ι i = some (r, m) → ι j = some (r, m') → i = j
def ERel (ι : Io) (e : Ev) (a : Act) : Prop := ∀ t c, e.get t = some c → ∃ u, a.tmps[t]? = some u ∧ VRel ι c u
structure Ex (n n' : Nat) (ι : Io) (g : Gm) (w : World) (ι' : Io) (g' : Gm) (w' : World) : Prop where
  os : w'.os = w.os
  tape : w'.tape = w.tape
  output : w'.output = w.output
  size : w.heap.size ≤ w'.heap.size
  le : n ≤ n'
  same : ∀ id, ¬ (n ≤ id ∧ id < n') → ι' id = ι id
  mem : ∀ r, r < w.heap.size → (∀ id b m, g id = some b → ι id ≠ some (r, m)) → w'.heap[r]? = w.heap[r]?
  old : ∀ id b r m, g' id = some b → ι' id = some (r, m) → r < w.heap.size → ∃ j b' m', g j = some b' ∧ ι j = some (r, m')
def Free (ι : Io) (n n' : Nat) : Prop := ∀ id, n ≤ id → ι id = none
theorem Ex.io {n n' : Nat} {ι ι' : Io} {g g' : Gm} {w w' : World} (h : Ex n n' ι g w ι' g' w') (hf : Free ι n n') : Io.le ι ι' := fun id x hx => by
  by_cases hid : n ≤ id ∧ id < n'
  · rw [hf id hid.1] at hx; cases hx
  · rw [h.same id hid]; exact hx
theorem Ex.refl (n : Nat) (ι : Io) (g : Gm) (w : World) : Ex n n ι g w ι g w := ⟨rfl, rfl, rfl, Nat.le_refl _, Nat.le_refl _, fun _ _ => rfl, fun _ _ _ => rfl, fun id b r m h1 h2 _ => ⟨id, b, m, h1, h2⟩⟩
theorem Ex.trans {n n1 n2 : Nat} {ι ι1 ι2 : Io} {g g1 g2 : Gm} {w w1 w2 : World} (a : Ex n n1 ι g w ι1 g1 w1) (b : Ex n1 n2 ι1 g1 w1 ι2 g2 w2) : Ex n n2 ι g w ι2 g2 w2 := by
  refine ⟨b.os.trans a.os, b.tape.trans a.tape, b.output.trans a.output, Nat.le_trans a.size b.size, Nat.le_trans a.le b.le, fun id hid => ?_, fun r hr hn => ?_, fun id c r m h1 h2 h3 => ?_⟩
  · have := a.le; have := b.le
    rw [b.same id (by omega), a.same id (by omega)]
  · rw [b.mem r (Nat.lt_of_lt_of_le hr a.size) fun id c m h1 h2 => ?_, a.mem r hr hn]
    obtain ⟨j, b', m', h3, h4⟩ := a.old id c r m h1 h2 hr
    exact hn j b' m' h3 h4
  · obtain ⟨j, b', m', h4, h5⟩ := b.old id c r m h1 h2 (Nat.lt_of_lt_of_le h3 a.size)
    exact a.old j b' r m' h4 h5 h3
theorem Free.left {ι : Io} {n n1 n2 : Nat} (h : Free ι n n2) (hl : n1 ≤ n2) : Free ι n n1 := h
theorem Free.right {n n1 n2 : Nat} {ι ι1 : Io} {g g1 : Gm} {w w1 : World} (h : Free ι n n2) (a : Ex n n1 ι g w ι1 g1 w1) : Free ι1 n1 n2 := fun id h1 => by
  have := a.le
  rw [a.same id (by omega)]; exact h id (by omega)
theorem ERel.mono {ι ι' : Io} (hl : Io.le ι ι') {e : Ev} {a : Act} (h : ERel ι e a) : ERel ι' e a := fun t c hc => let ⟨u, h1, h2⟩ := h t c hc; ⟨u, h1, h2.mono hl⟩
theorem ERel.put {ι : Io} {e : Ev} {a : Act} (h : ERel ι e a) {t : Nat} (ht : t < a.tmps.size) {c : V} {u : Value} (hc : VRel ι c u) : ERel ι (e.set t c) (a.put (some t) u) := fun s c' hs => by
  rw [Tr.get_set] at hs
  split at hs
  · rename_i h1; subst h1; cases hs; exact ⟨u, by simp [Act.put, ht], hc⟩
  · rename_i h1
    obtain ⟨u', h3, h4⟩ := h s c' hs
    exact ⟨u', by simp [Act.put, Array.getElem?_setIfInBounds_ne (Ne.symm h1), h3], h4⟩

section
variable {ι : Io} {g : Gm} {w w' : World}
theorem HRel.grow (H : HRel ι g w) (hmem : ∀ r, r < w.heap.size → w'.heap[r]? = w.heap[r]?) : HRel ι g w' :=
  ⟨fun id b hb => let ⟨r, m, h1, h2⟩ := H.blk id b hb; ⟨r, m, h1, h2.mono (fun _ _ h => h) (hmem r h2.lt)⟩, H.inj⟩
def upd (g : Gm) (id : Nat) (b : B) : Gm := fun j => if j = id then some b else g j
def updI (ι : Io) (id r m : Nat) : Io := fun j => if j = id then some (r, m) else ι j
theorem get_set_upd (h : Hp) (id : Nat) (b : B) : (h.set id b).get = upd h.get id b := by
  funext j; rw [Tr.get_set]; rfl
theorem HRel.sub {g' : Gm} (H : HRel ι g w) (hs : ∀ id b, g' id = some b → g id = some b) : HRel ι g' w :=
  ⟨fun id b hb => H.blk id b (hs id b hb), fun i j b b' r m m' h1 h2 h3 h4 => H.inj i j b b' r m m' (hs i b h1) (hs j b' h2) h3 h4⟩
theorem Ex.sub {n n' : Nat} {ι' : Io} {g1 g2 : Gm} (h : Ex n n' ι g w ι' g1 w') (hs : ∀ id b, g2 id = some b → g1 id = some b) : Ex n n' ι g w ι' g2 w' :=
  ⟨h.os, h.tape, h.output, h.size, h.le, h.same, h.mem, fun id b r m h1 h2 h3 => h.old id b r m (hs id b h1) h2 h3⟩
theorem le_updI {id r m : Nat} (h0 : ι id = none) : Io.le ι (updI ι id r m) := fun j x hx => by
  unfold updI
  split
  · rename_i he; subst he; rw [h0] at hx; cases hx
  · exact hx
theorem HRel.new (H : HRel ι g w) {id m : Nat} (h0 : ι id = none) (hs : w.heap.size < w'.heap.size) (hmem : ∀ r, r < w.heap.size → w'.heap[r]? = w.heap[r]?) {b : B} (hb : BRel (updI ι id w.heap.size m) w' b w.heap.size m) : HRel (updI ι id w.heap.size m) (upd g id b) w' := by
  refine ⟨fun j c hj => ?_, fun i j b1 b2 r m1 m2 h1 h2 h3 h4 => ?_⟩
  · unfold upd at hj
    split at hj
    · rename_i he; subst he; cases hj; exact ⟨_, _, by simp [updI], hb⟩
    · rename_i he
      obtain ⟨r, m', h1, h2⟩ := H.blk j c hj
      exact ⟨r, m', by simp [updI, he, h1], h2.mono (le_updI h0) (hmem r h2.lt)⟩
  · have lt : ∀ k b r m, g k = some b → ι k = some (r, m) → r < w.heap.size := fun k b r m hk hι => by
      obtain ⟨r', m', h5, h6⟩ := H.blk k b hk
      rw [hι] at h5; cases h5; exact h6.lt
    unfold upd at h1 h2
    unfold updI at h3 h4
    split at h1 <;> split at h2
    · omega
    · rename_i e1 e2; rw [if_pos e1] at h3; rw [if_neg e2] at h4; cases h3; have := lt _ _ _ _ h2 h4; omega
    · rename_i e1 e2; rw [if_neg e1] at h3; rw [if_pos e2] at h4; cases h4; have := lt _ _ _ _ h1 h3; omega
    · rename_i e1 e2; rw [if_neg e1] at h3; rw [if_neg e2] at h4; exact H.inj i j b1 b2 r m1 m2 h1 h2 h3 h4
theorem Ex.new {id m : Nat} {b : B} (ho : w'.os = w.os) (ht : w'.tape = w.tape) (hou : w'.output = w.output) (hs : w.heap.size ≤ w'.heap.size) (hmem : ∀ r, r < w.heap.size → w'.heap[r]? = w.heap[r]?) : Ex id (id + 1) ι g w (updI ι id w.heap.size m) (upd g id b) w' := by
  refine ⟨ho, ht, hou, hs, by omega, fun j hj => ?_, fun r hr _ => hmem r hr, fun j c r m' h1 h2 h3 => ?_⟩
  · unfold updI; rw [if_neg (by omega)]
  · unfold upd at h1
    unfold updI at h2
    split at h1
    · rename_i he; rw [if_pos he] at h2; cases h2; omega
    · rename_i he; rw [if_neg he] at h2; exact ⟨j, c, m', h1, h2⟩
theorem HRel.wrote (H : HRel ι g w) {id r m : Nat} {b b' : B} (hg : g id = some b) (hi : ι id = some (r, m)) (hmem : ∀ r', r' ≠ r → w'.heap[r']? = w.heap[r']?) (hb : BRel ι w' b' r m) : HRel ι (upd g id b') w' := by
  refine ⟨fun j c hj => ?_, fun i j b1 b2 r1 m1 m2 h1 h2 h3 h4 => ?_⟩
  · unfold upd at hj
    split at hj
    · rename_i he; subst he; cases hj; exact ⟨r, m, hi, hb⟩
    · rename_i he
      obtain ⟨r', m', h1, h2⟩ := H.blk j c hj
      refine ⟨r', m', h1, h2.mono (fun _ _ h => h) (hmem r' ?_)⟩
      rintro rfl
      exact he (H.inj j id c b r' m' m hj hg h1 hi)
  · have := H.inj i j
    unfold upd at h1 h2
    have f : ∀ k b0, (if k = id then some b' else g k) = some b0 → ∃ b1, g k = some b1 := fun k b0 h => by
      split at h
      · rename_i he; subst he; exact ⟨b, hg⟩
      · exact ⟨b0, h⟩
    obtain ⟨c1, e1⟩ := f i b1 h1
    obtain ⟨c2, e2⟩ := f j b2 h2
    exact H.inj i j c1 c2 r1 m1 m2 e1 e2 h3 h4
theorem Ex.wrote {n id r m : Nat} {b b' : B} (hg : g id = some b) (hi : ι id = some (r, m)) (ho : w'.os = w.os) (ht : w'.tape = w.tape) (hou : w'.output = w.output) (hs : w.heap.size ≤ w'.heap.size) (hmem : ∀ r', r' ≠ r → w'.heap[r']? = w.heap[r']?) : Ex n n ι g w ι (upd g id b') w' := by
  refine ⟨ho, ht, hou, hs, Nat.le_refl _, fun _ _ => rfl, fun r' hr hn => hmem r' ?_, fun j c r' m' h1 h2 h3 => ?_⟩
  · rintro rfl; exact hn id b m hg hi
  · unfold upd at h1
    split at h1
    · rename_i he; subst he; exact ⟨j, b, m', hg, h2⟩
    · exact ⟨j, c, m', h1, h2⟩
end

def pv {α : Type} (P : Program) : Sem α → Option α
  | .pure a => some a
  | .program k => pv P (k P)
  | .mark _ k => pv P k
  | _ => none
theorem pv_run {α : Type} {P : Program} {s : Sem α} {a : α} (h : pv P s = some a) (w : World) : s.run P w = .ok a w := by
  induction s with
  | pure b => cases h; rfl
  | program k ih => exact ih P h
  | mark m k ih => exact ih h
  | _ => cases h

mutual
def tv : V → Option Value
  | .sc v => some v
  | .agg cs => match tvs cs with
    | some l => some (.agg l.toArray)
    | none => none
  | .tup cs => match tvs cs with
    | some l => some (.tuple l.toArray)
    | none => none
  | .ifc t v => match tv v with
    | some u => some (.iface t u)
    | none => none
  | .fn f cs => match tvs cs with
    | some l => some (.func (.func f) #[] l.toArray)
    | none => none
  | _ => none
def tvs : List V → Option (List Value)
  | [] => some []
  | c :: r => match tv c with
    | some v => match tvs r with
      | some l => some (v :: l)
      | none => none
    | none => none
end
theorem tvs_get {cs : List V} {l : List Value} (h : tvs cs = some l) : l.length = cs.length ∧ ∀ (i : Nat) (c : V) (v : Value), cs[i]? = some c → l[i]? = some v → tv c = some v := by
  induction cs generalizing l with
  | nil => cases h; exact ⟨rfl, by simp⟩
  | cons c r ih =>
    rw [tvs] at h
    cases hc : tv c with
    | none => simp [hc] at h
    | some v =>
      cases hr : tvs r with
      | none => simp [hc, hr] at h
      | some l' =>
        simp [hc, hr] at h
        subst h
        obtain ⟨h1, h2⟩ := ih hr
        refine ⟨by simp [h1], fun i c' v' h3 h4 => ?_⟩
        cases i with
        | zero => simp at h3 h4; subst h3 h4; exact hc
        | succ i => exact h2 i c' v' (by simpa using h3) (by simpa using h4)
theorem arr_eq {cs : List V} {l : List Value} {C : Array Value} (h : tvs cs = some l) (hl : C.size = cs.length) (hr : ∀ (i : Nat) (c : V) (u : Value), cs[i]? = some c → C[i]? = some u → ∀ v, tv c = some v → u = v) : C = l.toArray := by
  obtain ⟨h1, h2⟩ := tvs_get h
  apply Array.ext
  · simp [hl, h1]
  · intro i h3 h4
    have h5 : i < cs.length := by omega
    have h6 : i < l.length := by omega
    have := hr i cs[i] C[i] (List.getElem?_eq_getElem h5) (Array.getElem?_eq_getElem h3) _ (h2 i cs[i] l[i] (List.getElem?_eq_getElem h5) (List.getElem?_eq_getElem h6))
    simpa using this
theorem tv_rel {ι : Io} {c : V} {u : Value} (h : VRel ι c u) : ∀ v, tv c = some v → u = v := by
  induction h with
  | sc v => intro v' h; cases h; rfl
  | fn f caps C hl h ih =>
    intro v hv
    rw [tv] at hv
    cases hc : tvs caps with
    | none => simp [hc] at hv
    | some l => simp [hc] at hv; subst hv; rw [arr_eq hc hl ih]
  | agg cs C hl h ih =>
    intro v hv
    rw [tv] at hv
    cases hc : tvs cs with
    | none => simp [hc] at hv
    | some l => simp [hc] at hv; subst hv; rw [arr_eq hc hl ih]
  | tup cs C hl h ih =>
    intro v hv
    rw [tv] at hv
    cases hc : tvs cs with
    | none => simp [hc] at hv
    | some l => simp [hc] at hv; subst hv; rw [arr_eq hc hl ih]
  | ifc t c u h ih =>
    intro v hv
    rw [tv] at hv
    cases hc : tv c with
    | none => simp [hc] at hv
    | some l => simp [hc] at hv; subst hv; rw [ih _ hc]
  | _ => intro v hv; cases hv
def one : V → Bool
  | .sc v => v.oneCell'
  | .agg _ => false
  | .tup _ => false
  | _ => true
theorem one_rel {ι : Io} {c : V} {u : Value} (h : VRel ι c u) (h1 : one c = true) : u.oneCell' = true := by
  cases h <;> first | exact h1 | rfl | cases h1
def cellsV : V → List V
  | .agg cs => cs
  | .sc v => v.cells.toList.map .sc
  | c => [c]
theorem cells_rel {ι : Io} {c : V} {u : Value} (h : VRel ι c u) : LRel ι (cellsV c) u.cells.toList := by
  have single : ∀ {c : V} {u : Value}, VRel ι c u → LRel ι [c] [u] := fun h => LRel.cons h .nil
  cases h with
  | sc v => exact LRel.scs _
  | agg cs C hl h => exact ⟨(by simpa using hl : C.toList.length = cs.length), fun i c u a b => h i c u a (by simpa [Value.cells] using b)⟩
  | ptr id off r m h => exact single (.ptr id off r m h)
  | sl id off len k c r m h => exact single (.sl id off len k c r m h)
  | slu id off len k c r m h hc hl => exact single (.slu id off len k c r m h hc hl)
  | emp r o c => exact single (.emp r o c)
  | mp id r m h => exact single (.mp id r m h)
  | fn f caps C hl h => exact single (.fn f caps C hl h)
  | ifc t v u h => exact single (.ifc t v u h)
  | tup cs C hl h => exact single (.tup cs C hl h)
theorem all_one {ι : Io} {cs : List V} {us : List Value} (h : LRel ι cs us) (h1 : cs.all one = true) : ∀ u ∈ us, u.oneCell' = true := fun u hu => by
  obtain ⟨i, hi⟩ := List.mem_iff_getElem?.1 hu
  have hlt : i < cs.length := by rw [← h.1]; exact (List.getElem?_eq_some_iff.1 hi).1
  exact one_rel (h.2 i cs[i] u (List.getElem?_eq_getElem hlt) hi) (List.all_eq_true.1 h1 _ (List.getElem_mem hlt))

def ev (e : Ev) : Operand → Option V
  | .tmp t => e.get t
  | .const v => some (.sc v)
  | .func f => some (.fn f [])
  | .global g => some (.sc (.pointer (some ⟨g, 0, none⟩)))
theorem ev_rel {ι : Io} {e : Ev} {a : Act} (E : ERel ι e a) {x : Operand} {c : V} (h : ev e x = some c) : VRel ι c (a.eval x) := by
  cases x with
  | tmp t => obtain ⟨u, h1, h2⟩ := E t c h; simpa [Act.eval, h1] using h2
  | const v => cases h; exact .sc v
  | func f => cases h; exact .fn f [] #[] rfl (by simp)
  | global g => cases h; exact .sc _
def evs (e : Ev) : List Operand → Option (List V)
  | [] => some []
  | x :: r => match ev e x with
    | some c => match evs e r with
      | some cs => some (c :: cs)
      | none => none
    | none => none
theorem evs_rel {ι : Io} {e : Ev} {a : Act} (E : ERel ι e a) {l : List Operand} {cs : List V} (h : evs e l = some cs) : LRel ι cs (l.map a.eval) := by
  induction l generalizing cs with
  | nil => cases h; exact .nil
  | cons x r ih =>
    rw [evs] at h
    cases hx : ev e x with
    | none => simp [hx] at h
    | some c =>
      cases hr : evs e r with
      | none => simp [hx, hr] at h
      | some cs' => simp [hx, hr] at h; subst h; exact LRel.cons (ev_rel E hx) (ih hr)
end Go.Proofs.YtdbeblhifnfocaaGreatDoor.Rn

namespace Go.Proofs.YtdbeblhifnfocaaGreatDoor.Rn
set_option linter.unusedVariables false
open Go.RowKit
open Go.Proofs.YtdbeblhifnfocaaGreatDoor.Ab (TE TTab tlook TabOk TFacts win setW setW_get win_get Sh)

abbrev R := Option (V × Nat × Hp × Nat)
structure Syn (n : Nat) (h : Hp) (lo : Nat) (n' : Nat) (h' : Hp) (lo' : Nat) : Prop where
  le : n ≤ n'
  low : lo' ≤ lo
  lon : lo ≤ n → lo' ≤ n'
  same : lo ≤ n → ∀ id, id < lo' → h'.get id = h.get id
  bd : (∀ id b, h.get id = some b → id < n) → ∀ id b, h'.get id = some b → id < n'
  nn : ∀ id, id < n → h.get id = none → h'.get id = none
theorem Syn.refl (n : Nat) (h : Hp) (lo : Nat) : Syn n h lo n h lo := ⟨Nat.le_refl _, Nat.le_refl _, fun h => h, fun _ _ _ => rfl, fun h => h, fun _ _ h => h⟩
theorem Syn.trans {n n1 n2 lo lo1 lo2 : Nat} {h h1 h2 : Hp} (a : Syn n h lo n1 h1 lo1) (b : Syn n1 h1 lo1 n2 h2 lo2) : Syn n h lo n2 h2 lo2 :=
  ⟨Nat.le_trans a.le b.le, Nat.le_trans b.low a.low, fun h => b.lon (a.lon h), fun h id hid => (b.same (a.lon h) id hid).trans (a.same h id (Nat.lt_of_lt_of_le hid b.low)), fun h => b.bd (a.bd h), fun id hid hn => b.nn id (Nat.lt_of_lt_of_le hid a.le) (a.nn id hid hn)⟩
theorem Syn.new (n : Nat) (h : Hp) (lo : Nat) (b : B) : Syn n h lo (n + 1) (h.set n b) lo := by
  refine ⟨by omega, Nat.le_refl _, fun h => by omega, fun hl id hid => ?_, fun hb id c hc => ?_, fun id hid hn => ?_⟩
  · rw [Tr.get_set, if_neg (by omega)]
  · rw [Tr.get_set] at hc
    split at hc
    · omega
    · have := hb id c hc; omega
  · rw [Tr.get_set, if_neg (by omega)]; exact hn
def lmin (a b : Nat) : Nat := cond (Nat.ble a b) a b
theorem lmin_l (a b : Nat) : lmin a b ≤ a := by
  unfold lmin
  cases h : Nat.ble a b with
  | true => exact Nat.le_refl _
  | false => have : ¬ a ≤ b := fun h2 => by rw [Nat.ble_eq_true_of_le h2] at h; cases h
             rw [cond_false]; omega
theorem lmin_r (a b : Nat) : lmin a b ≤ b := by
  unfold lmin
  cases h : Nat.ble a b with
  | true => exact Nat.le_of_ble_eq_true h
  | false => exact Nat.le_refl _
theorem Syn.wrote (n : Nat) {h : Hp} (lo : Nat) {id : Nat} {b b' : B} (hg : h.get id = some b) : Syn n h lo n (h.set id b') (lmin id lo) := by
  have := lmin_l id lo; have := lmin_r id lo
  refine ⟨by omega, by omega, fun h => by omega, fun hl j hj => ?_, fun hb j c hc => ?_, fun j hj hn => ?_⟩
  · rw [Tr.get_set, if_neg (by omega)]
  · rw [Tr.get_set] at hc
    split at hc
    · rename_i he; subst he; exact hb j b hg
    · exact hb j c hc
  · rw [Tr.get_set, if_neg (by rintro rfl; rw [hg] at hn; cases hn)]; exact hn

structure Pre (ι : Io) (n n' : Nat) (h : Hp) (e : Ev) (a : Act) (w : World) : Prop where
  heap : HRel ι h.get w
  env : ERel ι e a
  free : Free ι n n'
def Wp (P : Program) (o : Oper) (e : Ev) (n : Nat) (h : Hp) (v : V) (n' : Nat) (h' : Hp) : Prop :=
  ∀ ι a w, Pre ι n n' h e a w → ∀ (K : Act → World → Prop) (Q : Exit → Act → World → Prop),
    (∀ ι' u w', VRel ι' v u → HRel ι' h'.get w' → Ex n n' ι h.get w ι' h'.get w' → K (a.put o.dst u) w') → o.wp P a w K Q
def Good (P : Program) (o : Oper) (e : Ev) (n : Nat) (h : Hp) (lo : Nat) (r : V × Nat × Hp × Nat) : Prop := Syn n h lo r.2.1 r.2.2.1 r.2.2.2 ∧ Wp P o e n h r.1 r.2.1 r.2.2.1

section
variable {P : Program} {tab : TTab} {o : Oper} {e : Ev} {n : Nat} {h : Hp} {lo : Nat}
theorem good_value {v : V} (H : ∀ ι a w, HRel ι h.get w → ERel ι e a → ∃ u, VRel ι v u ∧ (execOp a.eval o).run P w = .ok (.value u) w) : Good P o e n h lo (v, n, h, lo) :=
  ⟨Syn.refl _ _ _, fun ι a w pre K Q hK => by
    obtain ⟨u, h1, h2⟩ := H ι a w pre.heap pre.env
    unfold Oper.wp
    rw [h2, Oper.upon_value]
    exact hK ι u w h1 pre.heap (Ex.refl _ _ _ _)⟩
theorem good_new {v : V} {b : B} (H : ∀ ι a w, HRel ι h.get w → ERel ι e a → ι n = none → ∃ u x w' m, (execOp a.eval o).run P w = .ok (.value u) w' ∧ w'.os = w.os ∧ w'.tape = w.tape ∧ w'.output = w.output ∧ w.heap.size < w'.heap.size ∧ (∀ r, r < w.heap.size → w'.heap[r]? = w.heap[r]?) ∧ w'.heap[w.heap.size]? = some x ∧
      (∀ ι', Io.le ι ι' → ι' n = some (w.heap.size, m) → VRel ι' v u ∧ BRel ι' w' b w.heap.size m)) : Good P o e n h lo (v, n + 1, h.set n b, lo) :=
  ⟨Syn.new _ _ _ _, fun ι a w pre K Q hK => by
    have h0 := pre.free n (Nat.le_refl _)
    obtain ⟨u, x, w', m, h1, h2, h3, h4, h5, h6, h7, h8⟩ := H ι a w pre.heap pre.env h0
    obtain ⟨h9, h10⟩ := h8 (updI ι n w.heap.size m) (le_updI h0) (by simp [updI])
    unfold Oper.wp
    rw [h1, Oper.upon_value]
    refine hK (updI ι n w.heap.size m) u w' h9 ?_ ?_
    · rw [get_set_upd]; exact pre.heap.new h0 h5 h6 h10
    · rw [get_set_upd]; exact Ex.new h2 h3 h4 (by omega) h6⟩
theorem good_write {v : V} {id : Nat} {b b' : B} (hg : h.get id = some b) (H : ∀ ι a w r m, HRel ι h.get w → ERel ι e a → ι id = some (r, m) → BRel ι w b r m → ∃ u w', ((execOp a.eval o).run P w = .ok (.value u) w' ∨ (u = undef ∧ (execOp a.eval o).run P w = .ok .skip w')) ∧ VRel ι v u ∧ w'.os = w.os ∧ w'.tape = w.tape ∧ w'.output = w.output ∧ w.heap.size ≤ w'.heap.size ∧
      (∀ r', r' ≠ r → w'.heap[r']? = w.heap[r']?) ∧ BRel ι w' b' r m) : Good P o e n h lo (v, n, h.set id b', lmin id lo) :=
  ⟨Syn.wrote _ _ hg, fun ι a w pre K Q hK => by
    obtain ⟨r, m, hi, hb⟩ := pre.heap.blk id b hg
    obtain ⟨u, w', h1, hv, h2, h3, h4, h5, h6, h7⟩ := H ι a w r m pre.heap pre.env hi hb
    have fin : K (a.put o.dst u) w' := by
      refine hK ι u w' hv ?_ ?_
      · rw [get_set_upd]; exact pre.heap.wrote hg hi h6 h7
      · rw [get_set_upd]; exact Ex.wrote hg hi h2 h3 h4 h5 h6
    unfold Oper.wp
    rcases h1 with h1 | ⟨h0, h1⟩
    · rw [h1, Oper.upon_value]; exact fin
    · subst h0; rw [h1, Oper.upon_skip]; exact fin⟩

def vOf (v : V) : Value := match tv v with | some x => x | none => undef
def rho (e : Ev) (x : Operand) : Value := match ev e x with | some v => vOf v | none => undef
def dataOps (e : Ev) : List Operand → Bool
  | [] => true
  | x :: r => match ev e x with
    | some v => match tv v with
      | some _ => dataOps e r
      | none => false
    | none => false
theorem dataOps_rel {ι : Io} {a : Act} (E : ERel ι e a) {l : List Operand} (hd : dataOps e l = true) : ∀ x ∈ l, a.eval x = rho e x := by
  induction l with
  | nil => intro x hx; cases hx
  | cons y r ih =>
    intro x hx
    rw [dataOps] at hd
    cases hy : ev e y with
    | none => simp [hy] at hd
    | some v =>
      cases hv : tv v with
      | none => simp [hy, hv] at hd
      | some u =>
        simp only [hy, hv] at hd
        rcases List.mem_cons.1 hx with rfl | hx
        · rw [tv_rel (ev_rel E hy) _ hv]; simp [rho, hy, vOf, hv]
        · exact ih hd x hx
def gen (P : Program) (e : Ev) (o : Oper) : Option V := match o.op with
  | .select _ _ => none
  | _ => cond (dataOps e o.op.operands.toList) (match pv P (execOp (rho e) o) with
    | some (.value u) => some (.sc u)
    | _ => none) none
theorem gen_good {v : V} (hg : gen P e o = some v) : Good P o e n h lo (v, n, h, lo) := by
  refine good_value fun ι a w H E => ?_
  have hsel : ∀ cs b, o.op ≠ .select cs b := fun cs b ho => by rw [gen, ho] at hg; cases hg
  have hg' : cond (dataOps e o.op.operands.toList) (match pv P (execOp (rho e) o) with
    | some (.value u) => some (V.sc u)
    | _ => none) none = some v := by
    unfold gen at hg
    split at hg
    · cases hg
    · exact hg
  cases hd : dataOps e o.op.operands.toList with
  | false => rw [hd] at hg'; cases hg'
  | true =>
    rw [hd, cond_true] at hg'
    cases hp : pv P (execOp (rho e) o) with
    | none => rw [hp] at hg'; cases hg'
    | some nx =>
      cases nx <;> simp [hp] at hg'
      rename_i u
      subst hg'
      refine ⟨u, .sc u, ?_⟩
      rw [execOp_congr o hsel fun x hx => dataOps_rel E hd x (by simpa using hx)]
      exact pv_run hp w

theorem good_move {x : Operand} {v : V} (ho : o.op = .move x ∨ o.op = .assign x) (hx : ev e x = some v) : Good P o e n h lo (v, n, h, lo) :=
  good_value fun ι a w H E => ⟨a.eval x, ev_rel E hx, by rcases ho with ho | ho <;> simp [execOp, ho]⟩
theorem good_pick {x y z : Operand} {b : Bool} {v : V} (ho : o.op = .pick x y z) (hx : ev e x = some (.sc (.bool b))) (hy : ev e (cond b y z) = some v) : Good P o e n h lo (v, n, h, lo) :=
  good_value fun ι a w H E => ⟨a.eval (cond b y z), ev_rel E hy, by
    have := tv_rel (ev_rel E hx) _ rfl
    cases b <;> simp [execOp, ho, this, asBool]⟩
theorem good_extract {x : Operand} {i : Nat} {cs : List V} {v : V} (ho : o.op = .extract x i) (hx : ev e x = some (.tup cs)) (hi : cs[i]? = some v) : Good P o e n h lo (v, n, h, lo) :=
  good_value fun ι a w H E => by
    have hv := ev_rel E hx
    generalize hu : a.eval x = u at hv
    cases hv with
    | tup _ C hl hh =>
      have hlt : i < C.size := by rw [hl]; exact (List.getElem?_eq_some_iff.1 hi).1
      exact ⟨C[i], hh i v C[i] hi (Array.getElem?_eq_getElem hlt), by simp [execOp, ho, hu, Instr.extract, hlt]⟩
def whole (te : TE) (cs : List V) : Option V := cond (Nat.beq cs.length te.size) (cond te.agg (some (.agg cs)) (match cs with | [c] => some c | _ => none)) none
theorem part_good {t : TypeId} {te : TE} {cs : List V} {C : Array Value} {off : Nat} {v : V} {ι : Io} (Fa : TFacts P t te) (hl : LRel ι cs C.toList) (hw : whole te (win cs off te.size) = some v) (w : World) : ∃ u, VRel ι v u ∧ (part t C off).run P w = .ok u w := by
  unfold whole at hw
  have hlr := hl.win off te.size
  cases hb : Nat.beq (win cs off te.size).length te.size with
  | false => rw [hb] at hw; cases hw
  | true =>
    rw [hb, cond_true] at hw
    have hs := Nat.eq_of_beq_eq_true hb
    cases ha : te.agg with
    | true =>
      rw [ha] at hw
      cases hw
      refine ⟨.agg (C.extract off (off + te.size)), VRel.agg' ?_, ?_⟩
      · have : (C.extract off (off + te.size)).toList = win C.toList off te.size := by
          simp [Ab.win, List.extract_eq_take_drop]
        rw [this]; exact hlr
      · unfold part
        rw [Sem.run_bind, Fa.run_agg, Result.andThen_ok, ha, if_pos rfl, Sem.run_bind, Fa.size, Result.andThen_ok]; rfl
    | false =>
      rw [ha, cond_false] at hw
      split at hw
      · rename_i c hc
        cases hw
        rw [hc] at hlr
        obtain ⟨u, vs, h1, h2, h3⟩ := hlr.head
        have hu : C[off]? = some u := by
          have := win_get (cs := C.toList) h1 (j := 0) (c := u) rfl
          simpa using this
        refine ⟨u, h2, ?_⟩
        unfold part
        rw [Sem.run_bind, Fa.run_agg, Result.andThen_ok, ha]
        simp [hu]
      · cases hw
theorem good_field {t : TypeId} {x : Operand} {f off ft : Nat} {te te' : TE} {fs : List (Nat × TypeId)} {cs : List V} {v : V} (TO : TabOk P tab) (ho : o.op = .field t x f) (ht : tlook tab t = some te) (hs : te.sh = .st fs) (hf : fs[f]? = some (off, ft)) (hft : tlook tab ft = some te')
    (hx : ev e x = some (.agg cs)) (hw : whole te' (win cs off te'.size) = some v) : Good P o e n h lo (v, n, h, lo) :=
  good_value fun ι a w H E => by
    have hv := ev_rel E hx
    generalize hu : a.eval x = u at hv
    cases hv with
    | agg _ C hl hh =>
      obtain ⟨u, h1, h2⟩ := part_good (ι := ι) (TO ft te' hft) (cs := cs) (C := C) (off := off) ⟨by simpa using hl, fun i c u a b => hh i c u a (by simpa using b)⟩ hw w
      obtain ⟨FF, hu2, hF⟩ := (TO t te ht).struct hs
      rw [← hF, List.getElem?_map] at hf
      cases hfi : FF[f]? with
      | none => simp [hfi] at hf
      | some fl =>
        simp [hfi] at hf
        obtain ⟨rfl, rfl⟩ := hf
        exact ⟨u, h1, by simp [execOp, ho, hu, Instr.field, run_underlying hu2, hfi, asAgg, h2]⟩
theorem good_nilCheck {x : Operand} {v : V} (ho : o.op = .nilCheck x) (hx : ev e x = some v) (hv : (match v with | .ptr _ _ => true | .fn _ _ => true | _ => false) = true) : Good P o e n h lo (v, n, h, lo) :=
  good_value fun ι a w H E => by
    have hr := ev_rel E hx
    refine ⟨a.eval x, hr, ?_⟩
    generalize hu : a.eval x = u at hr
    cases hr <;> simp at hv <;> (simp only [execOp, ho, hu]; rfl)
def nilOf : V → Option Value
  | .ptr _ _ => some (.pointer none)
  | .sl _ _ _ _ _ => some (.slice none 0 0)
  | .emp => some (.slice none 0 0)
  | .mp _ => some (.map none)
  | .fn _ _ => some .nilFunc
  | .ifc _ _ => some .nilIface
  | _ => none
def isNil : Value → Bool
  | .pointer none => true
  | .slice none 0 0 => true
  | .map none => true
  | .nilFunc => true
  | .nilIface => true
  | _ => false
def fits : V → Value → Option TypeDesc → Bool
  | .ptr _ _, .pointer none, some (.pointer _) => true
  | .sl _ _ _ _ _, .slice none 0 0, some (.slice _) => true
  | .emp, .slice none 0 0, some (.slice _) => true
  | .mp _, .map none, some (.map _ _) => true
  | .fn _ _, .nilFunc, some (.func _ _ _) => true
  | .ifc _ _, .nilIface, some (.interface _) => true
  | _, _, _ => false
theorem fits_shape {ι : Io} {v : V} {y c : Value} {d : TypeDesc} (hv : VRel ι v y) (hf : fits v c (some d) = true) :
    (∃ a el, y = .pointer (some a) ∧ c = .pointer none ∧ d = .pointer el) ∨ (∃ a l k el, y = .slice (some a) l k ∧ c = .slice none 0 0 ∧ d = .slice el) ∨ (∃ r k el, y = .map (some r) ∧ c = .map none ∧ d = .map k el) ∨
    (∃ f C p q b, y = .func f #[] C ∧ c = .nilFunc ∧ d = .func p q b) ∨ (∃ tt u ms, y = .iface tt u ∧ c = .nilIface ∧ d = .interface ms) := by
  unfold fits at hf
  split at hf
  · rename_i h1; cases h1; cases hv; exact .inl ⟨_, _, rfl, rfl, rfl⟩
  · rename_i h1; cases h1; cases hv <;> exact .inr (.inl ⟨_, _, _, _, rfl, rfl, rfl⟩)
  · rename_i h1; cases h1; cases hv; exact .inr (.inl ⟨_, _, _, _, rfl, rfl, rfl⟩)
  · rename_i h1; cases h1; cases hv; exact .inr (.inr (.inl ⟨_, _, _, rfl, rfl, rfl⟩))
  · rename_i h1; cases h1; cases hv; exact .inr (.inr (.inr (.inl ⟨_, _, _, _, _, rfl, rfl, rfl⟩)))
  · rename_i h1; cases h1; cases hv; exact .inr (.inr (.inr (.inr ⟨_, _, _, rfl, rfl, rfl⟩)))
  · cases hf
theorem eqn_ptr (w : World) {t el : TypeId} (dd : Nat) (hd : P.underlying t = some (.pointer el)) (a : Addr) : (Op.equalIn (dd + 1) t (.pointer (some a)) (.pointer none)).run P w = .ok false w := by unfold Op.equalIn; simp [run_underlying hd]
theorem eqn_sl (w : World) {t el : TypeId} (dd : Nat) (hd : P.underlying t = some (.slice el)) (a : Addr) (l k : Nat) : (Op.equalIn (dd + 1) t (.slice (some a) l k) (.slice none 0 0)).run P w = .ok false w := by unfold Op.equalIn; simp [run_underlying hd]
theorem eqn_map (w : World) {t k el : TypeId} (dd : Nat) (hd : P.underlying t = some (.map k el)) (a : Nat) : (Op.equalIn (dd + 1) t (.map (some a)) (.map none)).run P w = .ok false w := by unfold Op.equalIn; simp [run_underlying hd]
theorem eqn_fn (w : World) {t : TypeId} {p q b} (dd : Nat) (hd : P.underlying t = some (.func p q b)) (f C) : (Op.equalIn (dd + 1) t (.func f #[] C) .nilFunc).run P w = .ok false w := by unfold Op.equalIn; simp [run_underlying hd]
theorem eqn_ifc (w : World) {t : TypeId} {ms} (dd : Nat) (hd : P.underlying t = some (.interface ms)) (f C) : (Op.equalIn (dd + 1) t (.iface f C) .nilIface).run P w = .ok false w := by unfold Op.equalIn; simp [run_underlying hd]
end
end Go.Proofs.YtdbeblhifnfocaaGreatDoor.Rn

namespace Go.Proofs.YtdbeblhifnfocaaGreatDoor.Rn
set_option linter.unusedVariables false
open Go.RowKit
open Go.Proofs.YtdbeblhifnfocaaGreatDoor.Ab (TE TTab tlook TabOk TFacts win setW setW_get win_get Sh)

theorem setCells_spec {r : Nat} {t : TypeId} {fz : Nat × Nat} : ∀ (vs : List Value) (o : Nat) (C : Array Value) (w : World), w.heap[r]? = some (.cells C t fz) → o + vs.length ≤ C.size →
    (w.setCells r o vs).heap[r]? = some (.cells (setW C.toList o vs).toArray t fz) ∧ (∀ r', r' ≠ r → (w.setCells r o vs).heap[r']? = w.heap[r']?) ∧ (w.setCells r o vs).heap.size = w.heap.size ∧
    (w.setCells r o vs).os = w.os ∧ (w.setCells r o vs).tape = w.tape ∧ (w.setCells r o vs).output = w.output
  | [], o, C, w, hg, hl => by
    refine ⟨?_, fun _ _ => rfl, rfl, rfl, rfl, rfl⟩
    have : setW C.toList o ([] : List Value) = C.toList := by simp [Ab.setW]
    rw [this]; simpa [World.setCells] using hg
  | v :: vs, o, C, w, hg, hl => by
    have h1 : (w.setCell ⟨r, o, none⟩ v).heap[r]? = some (.cells (C.setIfInBounds o v) t fz) := by simp [World.setCell, Array.getElem?_modify, hg]
    obtain ⟨h2, h3, h4, h5, h6, h7⟩ := setCells_spec vs (o + 1) (C.setIfInBounds o v) _ h1 (by simp at hl ⊢; omega)
    rw [World.setCells]
    refine ⟨?_, fun r' hr => ?_, ?_, h5, h6, h7⟩
    · rw [h2]
      congr 2
      have : setW (C.setIfInBounds o v).toList (o + 1) vs = setW C.toList o (v :: vs) := by
        apply List.ext_getElem?
        intro i
        simp at hl
        rw [setW_get (by simp; omega), setW_get (by simp; omega)]
        simp only [List.length_cons, Array.toList_setIfInBounds]
        by_cases h8 : o + 1 ≤ i ∧ i < o + 1 + vs.length
        · rw [if_pos h8, if_pos (by omega), show i - o = (i - (o + 1)) + 1 by omega, List.getElem?_cons_succ]
        · rw [if_neg h8]
          by_cases h9 : i = o
          · subst h9
            rw [if_pos (by omega), Nat.sub_self]
            rw [List.getElem?_set_self (by simp; omega)]
            rfl
          · rw [if_neg (by omega), List.getElem?_set_ne (by omega)]
      rw [this]
    · rw [h3 r' hr]
      simp [World.setCell, Array.getElem?_modify, Ne.symm hr]
    · rw [h4]; simp [World.setCell]
section
variable {P : Program} {tab : TTab} {o : Oper} {e : Ev} {n : Nat} {h : Hp} {lo : Nat}
theorem ptr_inv {ι : Io} {id off : Nat} {u : Value} (hv : VRel ι (.ptr id off) u) {r m : Nat} (hi : ι id = some (r, m)) : u = .pointer (some ⟨r, off, none⟩) := by
  cases hv with
  | ptr _ _ r' m' h' => rw [hi] at h'; cases h'; rfl
theorem whole_len {te : TE} {cs : List V} {v : V} (hw : whole te cs = some v) : cs.length = te.size := by
  unfold whole at hw
  cases hb : Nat.beq cs.length te.size with
  | false => rw [hb] at hw; cases hw
  | true => exact Nat.eq_of_beq_eq_true hb
theorem good_load {t : TypeId} {x : Operand} {te : TE} {id off : Nat} {cs : List V} {more : Bool} {v : V} (TO : TabOk P tab) (ho : o.op = .load t x) (ht : tlook tab t = some te) (hx : ev e x = some (.ptr id off)) (hb : h.get id = some (.cells cs more))
    (hw : whole te (win cs off te.size) = some v) : Good P o e n h lo (v, n, h, lo) :=
  good_value fun ι a w H E => by
    obtain ⟨r, m, hi, C, tt, fz, hC, hfz, hsz, hle, hmo, hl⟩ := H.blk id _ hb
    have hau := ptr_inv (ev_rel E hx) hi
    have hwl := whole_len hw
    have hrel : LRel ι (win cs off te.size) (win (C.toList.take cs.length) off te.size) := hl.win off te.size
    have hvl : (win (C.toList.take cs.length) off te.size).length = te.size := by rw [hrel.1, hwl]
    obtain ⟨W, hW⟩ : ∃ W, win (C.toList.take cs.length) off te.size = W := ⟨_, rfl⟩
    rw [hW] at hvl hrel
    have hcell : ∀ (j : Nat) (u : Value), W[j]? = some u → w.cell? ⟨r, off + j, none⟩ = some u := fun j u hj => by
      have h6 := win_get hW hj
      rw [List.getElem?_take] at h6
      split at h6
      · simp [World.cell?, hC]; simpa using h6
      · cases h6
    have hrun := Ab.run_loadVar w (TO t te ht) r off _ hvl hcell
    unfold whole at hw
    rw [hwl, beq_dec, decide_eq_true rfl, cond_true] at hw
    cases ha : te.agg with
    | true =>
      rw [ha] at hw hrun
      cases hw
      exact ⟨.agg W.toArray, VRel.agg' (by simpa using hrel), by simp [execOp, ho, hau, Instr.loadAt, Instr.sureAddr, hrun]⟩
    | false =>
      rw [ha, cond_false] at hw
      split at hw
      · rename_i c hc
        cases hw
        rw [hc] at hrel
        obtain ⟨u, vs, h1, h2, h3⟩ := hrel.head
        subst h1
        rw [ha] at hrun
        exact ⟨u, h2, by simp [execOp, ho, hau, Instr.loadAt, Instr.sureAddr, hrun]⟩
      · cases hw
theorem brel_set {ι : Io} {w : World} {r m : Nat} {C : Array Value} {t : TypeId} {fz : Nat × Nat} {cs xs : List V} {more : Bool} {vs : List Value} {off : Nat} (hC : w.heap[r]? = some (.cells C t fz)) (hfz : ∀ j, j < m → ¬ (fz.1 ≤ j ∧ j < fz.2)) (hsz : C.size = m) (hle : cs.length ≤ m) (hmo : more = false → m = cs.length)
    (hl : LRel ι cs (C.toList.take cs.length)) (hx : LRel ι xs vs) (hoff : off + xs.length ≤ cs.length) : BRel ι (w.setCells r off vs) (.cells (setW cs off xs) more) r m := by
  obtain ⟨h1, h2, h3, h4⟩ := setCells_spec vs off C w hC (by rw [hx.1, hsz]; omega)
  have hlen : (setW cs off xs).length = cs.length := by simp [Ab.setW]; omega
  refine ⟨_, t, fz, h1, hfz, ?_, by rw [hlen]; exact hle, fun h => by rw [hlen]; exact hmo h, ?_⟩
  · have := hx.1
    simp [Ab.setW]; omega
  · have := hl.setW hx off
    rw [hlen]
    have e1 : (setW C.toList off vs).take cs.length = setW (C.toList.take cs.length) off vs := by
      apply List.ext_getElem?
      intro i
      have hx1 := hx.1
      rw [List.getElem?_take, setW_get (by simp; omega), setW_get (by simp; omega)]
      by_cases hi : i < cs.length
      · rw [if_pos hi, List.getElem?_take, if_pos hi]
      · rw [if_neg hi, if_neg (by omega), List.getElem?_take, if_neg hi]
    simpa [e1] using this
theorem run_storeV {w : World} {r m off : Nat} {C : Array Value} {t : TypeId} {fz : Nat × Nat} (hC : w.heap[r]? = some (.cells C t fz)) (hfz : ∀ j, j < m → ¬ (fz.1 ≤ j ∧ j < fz.2)) (hsz : C.size = m) (vs : List Value) (hl : off + vs.length ≤ m) (h1 : ∀ u ∈ vs, u.oneCell' = true) :
    (storeCells ⟨r, off, none⟩ vs).run P w = .ok () (w.setCells r off vs) := by
  have := run_storeCells_cells (P := P) r off vs 0 w (fun j hj => ?_) (fun j hj => ?_) h1
  · simpa using this
  · have : off + 0 + j < C.size := by omega
    simp [World.cell?, hC]; omega
  · have := hfz (off + 0 + j) (by omega)
    simp only [World.frozen?, hC]
    simpa using this
theorem good_store {t : TypeId} {x y : Operand} {te : TE} {id off : Nat} {cs : List V} {more : Bool} {v : V} (TO : TabOk P tab) (ho : o.op = .store t x y) (ht : tlook tab t = some te) (hx : ev e x = some (.ptr id off)) (hb : h.get id = some (.cells cs more)) (hy : ev e y = some v)
    (h1 : (cellsV v).all one = true) (hs : Nat.beq (cellsV v).length te.size = true) (hle : Nat.ble (off + te.size) cs.length = true) : Good P o e n h lo (.sc undef, n, h.set id (.cells (setW cs off (cellsV v)) more), lmin id lo) :=
  good_write hb fun ι a w r m H E hi hB => by
    obtain ⟨C, tt, fz, hC, hfz, hsz, hle2, hmo, hl⟩ := hB
    have hau := ptr_inv (ev_rel E hx) hi
    have hyr := cells_rel (ev_rel E hy)
    have hs := Nat.eq_of_beq_eq_true hs
    have hle := Nat.le_of_ble_eq_true hle
    have hrun := run_storeV (P := P) (off := off) hC hfz hsz (a.eval y).cells.toList (by rw [hyr.1]; omega) (all_one hyr h1)
    obtain ⟨g1, g2, g3, g4, g5, g6⟩ := setCells_spec (a.eval y).cells.toList off C w hC (by rw [hyr.1]; omega)
    refine ⟨undef, _, .inr ⟨rfl, ?_⟩, .sc _, g4, g5, g6, by rw [g3]; exact Nat.le_refl _, g2, brel_set hC hfz hsz hle2 hmo hl hyr (by omega)⟩
    have e1 : (a.eval y).cells.size = te.size := by rw [← Array.length_toList, hyr.1]; exact hs
    simp [execOp, ho, Instr.storeAt, Instr.sureAddr, hau, storeVar, (TO t te ht).size, e1, hrun]
theorem good_fieldAddr {t : TypeId} {x : Operand} {f off ft id o1 : Nat} {te te' : TE} {fs : List (Nat × TypeId)} {b : B} (TO : TabOk P tab) (ho : o.op = .fieldAddr t x f) (ht : tlook tab t = some te) (hs : te.sh = .st fs) (hf : fs[f]? = some (off, ft))
    (hft : tlook tab ft = some te') (hz : Nat.beq te'.size 0 = false) (hx : ev e x = some (.ptr id o1)) (hb : h.get id = some b) : Good P o e n h lo (.ptr id (o1 + off), n, h, lo) :=
  good_value fun ι a w H E => by
    obtain ⟨r, m, hi, _⟩ := H.blk id _ hb
    have hau := ptr_inv (ev_rel E hx) hi
    exact ⟨_, .ptr id (o1 + off) r m hi, by simp [execOp, ho, hau, Ab.run_fieldAt w (TO t te ht) hs hf (TO ft te' hft) hz]⟩
theorem good_indexAddr {t : TypeId} {x y : Operand} {te te' : TE} {el : TypeId} {id off len k : Nat} {cap : Option Nat} {q : IntKind} {i : Int} (TO : TabOk P tab) (ho : o.op = .indexAddr t x y) (ht : tlook tab t = some te) (hs : te.sh = .sl el)
    (hel : tlook tab el = some te') (hx : ev e x = some (.sl id off len k cap)) (hy : ev e y = some (.sc (.int q i))) (hi : 0 ≤ i ∧ i < len) : Good P o e n h lo (.ptr id (off + i.toNat * te'.size), n, h, lo) :=
  good_value fun ι a w H E => by
    have hv := ev_rel E hx
    have hk := tv_rel (ev_rel E hy) _ rfl
    have hu := (TO t te ht).slice hs
    generalize hau : a.eval x = u at hv
    cases hv with
    | sl _ _ _ _ c r m h1 => exact ⟨_, .ptr id _ r m h1, by simp [execOp, ho, hau, hk, Ab.run_indexAt w hu (TO el te' hel) r off len c q i hi]⟩
    | slu _ _ _ _ c r m h1 => exact ⟨_, .ptr id _ r m h1, by simp [execOp, ho, hau, hk, Ab.run_indexAt w hu (TO el te' hel) r off len c q i hi]⟩
theorem good_indexArr {t : TypeId} {x y : Operand} {te te' : TE} {el N : Nat} {id off : Nat} {b : B} {q : IntKind} {i : Int} (TO : TabOk P tab) (ho : o.op = .indexAddr t x y) (ht : tlook tab t = some te) (hs : te.sh = .ar N el)
    (hel : tlook tab el = some te') (hx : ev e x = some (.ptr id off)) (hb : h.get id = some b) (hy : ev e y = some (.sc (.int q i))) (hi : 0 ≤ i ∧ i < N) : Good P o e n h lo (.ptr id (off + i.toNat * te'.size), n, h, lo) :=
  good_value fun ι a w H E => by
    obtain ⟨r, m, hri, _⟩ := H.blk id _ hb
    have hau := ptr_inv (ev_rel E hx) hri
    have hk := tv_rel (ev_rel E hy) _ rfl
    obtain ⟨d, hd, _, hh⟩ := (TO t te ht).und
    rw [hs] at hh
    cases hh
    exact ⟨_, .ptr id _ r m hri, by simp [execOp, ho, hau, hk, Instr.indexAt, asIntOf, run_underlying hd, Instr.sureAddr, hi, (TO el te' hel).size, Addr.add_mid]⟩
theorem good_index {t : TypeId} {x y : Operand} {te te' : TE} {el N : Nat} {cs : List V} {q : IntKind} {i : Int} {v : V} (TO : TabOk P tab) (ho : o.op = .index t x y) (ht : tlook tab t = some te) (hs : te.sh = .ar N el)
    (hel : tlook tab el = some te') (hx : ev e x = some (.agg cs)) (hy : ev e y = some (.sc (.int q i))) (hi : 0 ≤ i ∧ i < N) (hw : whole te' (win cs (i.toNat * te'.size) te'.size) = some v) : Good P o e n h lo (v, n, h, lo) :=
  good_value fun ι a w H E => by
    have hv := ev_rel E hx
    have hk := tv_rel (ev_rel E hy) _ rfl
    obtain ⟨d, hd, _, hh⟩ := (TO t te ht).und
    rw [hs] at hh
    cases hh
    generalize hau : a.eval x = u at hv
    cases hv with
    | agg _ C hl hr =>
      obtain ⟨u, h1, h2⟩ := part_good (ι := ι) (TO el te' hel) (cs := cs) (C := C) (off := i.toNat * te'.size) ⟨by simpa using hl, fun i c u a b => hr i c u a (by simpa using b)⟩ hw w
      exact ⟨u, h1, by simp [execOp, ho, hau, hk, Instr.index, asIntOf, run_underlying hd, hi, (TO el te' hel).size, h2]⟩

theorem alloc_facts (w : World) (x : Obj) : (w.alloc x).os = w.os ∧ (w.alloc x).tape = w.tape ∧ (w.alloc x).output = w.output ∧ w.heap.size < (w.alloc x).heap.size ∧ (∀ r, r < w.heap.size → (w.alloc x).heap[r]? = w.heap[r]?) ∧ (w.alloc x).heap[w.heap.size]? = some x :=
  ⟨rfl, rfl, rfl, by simp, fun r hr => Below.heap_alloc w x r hr, heap_alloc_new w x⟩
theorem brel_new {ι : Io} {w : World} {r : Nat} {C : Array Value} {t : TypeId} {cs : List V} (hC : w.heap[r]? = some (.cells C t (0, 0))) (hl : LRel ι cs C.toList) : BRel ι w (.cells cs false) r C.size :=
  ⟨C, t, (0, 0), hC, fun j _ h => by dsimp only at h; omega, rfl, by rw [← hl.1]; simp, fun _ => by rw [← hl.1]; simp, by rw [← hl.1, List.take_length]; exact hl⟩
theorem good_alloc {t : TypeId} {te : TE} (TO : TabOk P tab) (ho : o.op = .alloc t) (ht : tlook tab t = some te) : Good P o e n h lo (.ptr n 0, n + 1, h.set n (.cells (te.zero.map .sc) false), lo) :=
  good_new fun ι a w H E h0 => by
    obtain ⟨z, hz1, hz2, _⟩ := (TO t te ht).zero w
    obtain ⟨f1, f2, f3, f4, f5, f6⟩ := alloc_facts w (.cells z.cells t)
    refine ⟨.pointer (some ⟨w.heap.size, 0, none⟩), _, w.alloc (.cells z.cells t), z.cells.size, by simp [execOp, ho, Instr.alloc, hz1, newVar, newRow, newObj, Sem.run], f1, f2, f3, f4, f5, f6, fun ι' hle hi => ⟨.ptr n 0 _ _ hi, brel_new f6 ?_⟩⟩
    rw [← hz2]; exact LRel.scs _
theorem good_box {t : TypeId} {x : Operand} {v : V} (ho : o.op = .box t x) (hx : ev e x = some v) : Good P o e n h lo (.ptr n 0, n + 1, h.set n (.cells (cellsV v) false), lo) :=
  good_new fun ι a w H E h0 => by
    have hv := cells_rel (ev_rel E hx)
    obtain ⟨f1, f2, f3, f4, f5, f6⟩ := alloc_facts w (.cells (a.eval x).cells t)
    exact ⟨.pointer (some ⟨w.heap.size, 0, none⟩), _, w.alloc (.cells (a.eval x).cells t), (a.eval x).cells.size, by simp [execOp, ho, Instr.box, newVar, newRow, newObj, Sem.run], f1, f2, f3, f4, f5, f6, fun ι' hle hi => ⟨.ptr n 0 _ _ hi, brel_new f6 (hv.mono hle)⟩⟩

def vfill (place : Nat → Option (Nat × Nat)) (cells : List V) : List (Nat × V) → Option (List V)
  | [] => some cells
  | (i, c) :: r => match place i with
    | some (off, size) => cond (Nat.beq (cellsV c).length size && Nat.ble (off + (cellsV c).length) cells.length) (vfill place (setW cells off (cellsV c)) r) none
    | none => none
def vparts (e : Ev) : List (Nat × Operand) → Option (List (Nat × V))
  | [] => some []
  | (i, x) :: r => match ev e x with
    | some c => match vparts e r with
      | some l => some ((i, c) :: l)
      | none => none
    | none => none
theorem vfill_rel {ι : Io} {a : Act} (E : ERel ι e a) (place : Nat → Option (Nat × Nat)) : ∀ (l : List (Nat × Operand)) (al : List (Nat × V)) (cells : List V) (C : Array Value) (xs : List V),
    vparts e l = some al → vfill place cells al = some xs → LRel ι cells C.toList → ∃ C', Instr.fill place C (l.map fun p => (p.1, a.eval p.2)) = some C' ∧ LRel ι xs C'.toList
  | [], al, cells, C, xs, h1, h2, h3 => by cases h1; cases h2; exact ⟨C, rfl, h3⟩
  | (i, x) :: l, al, cells, C, xs, h1, h2, h3 => by
    rw [vparts] at h1
    cases hx : ev e x with
    | none => simp [hx] at h1
    | some c =>
      cases hr : vparts e l with
      | none => simp [hx, hr] at h1
      | some al' =>
        simp [hx, hr] at h1
        subst h1
        rw [vfill] at h2
        cases hp : place i with
        | none => simp [hp] at h2
        | some q =>
          obtain ⟨off, size⟩ := q
          simp only [hp] at h2
          cases hb : Nat.beq (cellsV c).length size && Nat.ble (off + (cellsV c).length) cells.length with
          | false => rw [hb] at h2; cases h2
          | true =>
            rw [hb, cond_true] at h2
            simp only [Bool.and_eq_true] at hb
            have hs := Nat.eq_of_beq_eq_true hb.1
            have hl := Nat.le_of_ble_eq_true hb.2
            have hc := cells_rel (ev_rel E hx)
            have hcl : (a.eval x).cells.toList.length = (cellsV c).length := hc.1
            obtain ⟨f1, f2⟩ := Ab.foldl_set off (a.eval x).cells.toList 0 C
            have h31 := h3.1
            have hstep : (((a.eval x).cells.toList.zipIdx 0).foldl (fun cs (c, j) => cs.setIfInBounds (off + j) c) C).toList = setW C.toList off (a.eval x).cells.toList := by
              apply List.ext_getElem?
              intro j
              rw [Array.getElem?_toList, f2, setW_get (by rw [hcl, h31]; exact hl), hcl]
              simp only [Nat.add_zero]
              by_cases hin : off ≤ j ∧ j < off + (cellsV c).length
              · rw [if_pos (by simp at h31; omega), if_pos hin]
              · rw [if_neg (by omega), if_neg hin, Array.getElem?_toList]
            obtain ⟨C', g1, g2⟩ := vfill_rel E place l al' (setW cells off (cellsV c)) (((a.eval x).cells.toList.zipIdx 0).foldl (fun cs (c, j) => cs.setIfInBounds (off + j) c) C) xs hr h2 (by rw [hstep]; exact h3.setW hc off)
            refine ⟨C', ?_, g2⟩
            rw [← g1]
            simp only [List.map_cons, Instr.fill, hp]
            rw [if_neg (by rw [← Array.length_toList, hcl, hs]; simp; simp at h31; omega)]
            congr 1
            rw [← Array.foldl_toList]
            congr 1
            simp [Array.toList_zipIdx]
theorem good_build {t : TypeId} {ps : Array (Nat × Operand)} {te : TE} {fs : List (Nat × TypeId)} {al : List (Nat × V)} {xs : List V} (TO : TabOk P tab) (ho : o.op = .build t ps) (ht : tlook tab t = some te) (hs : te.sh = .st fs) (hfs : fs.all (fun f => (tlook tab f.2).isSome) = true)
    (hal : vparts e ps.toList = some al) (hf : vfill (Ab.stPlace tab fs) (te.zero.map .sc) al = some xs) : Good P o e n h lo (.agg xs, n, h, lo) :=
  good_value fun ι a w H E => by
    obtain ⟨FF, hu, hF⟩ := (TO t te ht).struct hs
    obtain ⟨z, _, hz2, i, hi, hz3, _⟩ := (TO t te ht).zero w
    obtain ⟨C', g1, g2⟩ := vfill_rel E (Ab.stPlace tab fs) ps.toList al _ z.cells xs hal hf (by rw [← hz2]; exact LRel.scs _)
    refine ⟨.agg C', VRel.agg' g2, ?_⟩
    have hplaces : (FF.mapM (m := Sem) fun f => Prod.mk f.offset <$> sizeOf f.type).run P w = .ok (FF.map fun f => (f.offset, P.cellsOf f.type)) w := by
      rw [Array.mapM_eq_mapM_toList]
      have : ∀ (l : List Field), (∀ f ∈ l, (tlook tab f.type).isSome = true) → (l.mapM (m := Sem) fun f => Prod.mk f.offset <$> sizeOf f.type).run P w = .ok (l.map fun f => (f.offset, P.cellsOf f.type)) w := by
        intro l
        induction l with
        | nil => intro _; rfl
        | cons f l ih =>
          intro hl
          obtain ⟨te', hte'⟩ := Option.isSome_iff_exists.1 (hl f (by simp))
          have h1 := (TO _ _ hte').size w
          have h2 := ih fun g hg => hl g (by simp [hg])
          rw [List.mapM_cons]
          simp [h1, h2, (TO _ _ hte').cellsOf]
      have h1 := this FF.toList fun f hf => by
        have := List.all_eq_true.1 hfs (f.offset, f.type) (by rw [← hF]; exact List.mem_map.2 ⟨f, hf, rfl⟩)
        exact this
      simp [h1, ← Array.toList_map]
    have hpl : (fun i => (FF.map fun f => (f.offset, P.cellsOf f.type))[i]?) = Ab.stPlace tab fs := by
      funext i
      unfold Ab.stPlace
      rw [← hF, List.getElem?_map, Array.getElem?_toList, Array.getElem?_map]
      cases hfi : FF[i]? with
      | none => rfl
      | some f =>
        have := List.all_eq_true.1 hfs (f.offset, f.type) (by rw [← hF]; exact List.mem_map.2 ⟨f, Array.mem_toList_iff.2 (Array.mem_of_getElem? hfi), rfl⟩)
        obtain ⟨te', hte'⟩ := Option.isSome_iff_exists.1 this
        dsimp only at hte'
        simp [hte', (TO _ _ hte').cellsOf]
    have hfill : Instr.fill (fun x => Option.map (fun f => (f.offset, P.cellsOf f.type)) FF[x]?) z.cells (ps.toList.map fun p => (p.1, a.eval p.2)) = some C' := by
      rw [← g1, ← hpl]; congr 1; funext x; rw [Array.getElem?_map]
    have hzero : (zeroValue t).run P w = .ok z w := by simp [zeroValue, typeInfo, hi, hz3]
    simp only [execOp, ho]
    simp [Instr.build, hzero, run_underlying hu, hplaces, hfill]
theorem good_buildArr {t el N : TypeId} {ps : Array (Nat × Operand)} {te te' : TE} {al : List (Nat × V)} {xs : List V} (TO : TabOk P tab) (ho : o.op = .build t ps) (ht : tlook tab t = some te) (hs : te.sh = .ar N el) (hel : tlook tab el = some te')
    (hal : vparts e ps.toList = some al) (hf : vfill (fun i => some (i * te'.size, te'.size)) (te.zero.map .sc) al = some xs) : Good P o e n h lo (.agg xs, n, h, lo) :=
  good_value fun ι a w H E => by
    obtain ⟨d, hd, _, hh⟩ := (TO t te ht).und
    rw [hs] at hh
    cases hh
    obtain ⟨z, _, hz2, i, hi, hz3, _⟩ := (TO t te ht).zero w
    obtain ⟨C', g1, g2⟩ := vfill_rel E (fun i => some (i * te'.size, te'.size)) ps.toList al _ z.cells xs hal hf (by rw [← hz2]; exact LRel.scs _)
    refine ⟨.agg C', VRel.agg' g2, ?_⟩
    have hzero : (zeroValue t).run P w = .ok z w := by simp [zeroValue, typeInfo, hi, hz3]
    simp only [execOp, ho]
    simp [Instr.build, hzero, run_underlying hd, (TO el te' hel).size, g1]
def zs (te : TE) (k : Nat) : List Value := (List.range (k * te.size)).map fun j => te.zero.getD (j % te.size) undef
theorem zs_eq {te : TE} {z : Value} (hz : z.cells.toList = te.zero) (hk : te.zero.length = te.size) (k : Nat) : ((Array.range (k * te.size)).map (fun j => z.cells[j % z.cells.size]!)).toList = zs te k := by
  have hzl : z.cells.size = te.size := by rw [← Array.length_toList, hz, hk]
  unfold zs
  rw [Array.toList_map, Array.toList_range]
  apply List.map_congr_left
  intro j hj
  have hj := List.mem_range.1 hj
  have hk : 0 < te.size := by rcases Nat.eq_zero_or_pos te.size with h | h; · rw [h] at hj; simp at hj
                              · exact h
  have hlt : j % te.size < z.cells.size := by rw [hzl]; exact Nat.mod_lt _ hk
  rw [hzl, getElem!_pos z.cells _ hlt, ← hz]
  simp [List.getD, hlt]
theorem good_buildSlice {t el : TypeId} {ps : Array (Nat × Operand)} {len : Nat} {te te' : TE} {al : List (Nat × V)} {xs : List V} (TO : TabOk P tab) (ho : o.op = .buildSlice t len ps) (ht : tlook tab t = some te) (hs : te.sh = .sl el)
    (hel : tlook tab el = some te') (hk2 : Nat.beq te'.zero.length te'.size = true) (hlen : Nat.blt (len * te'.size) 16777216 = true) (hal : vparts e ps.toList = some al)
    (hf : vfill (fun i => some (i * te'.size, te'.size)) ((zs te' len).map .sc) al = some xs) : Good P o e n h lo (.sl n 0 len te'.size (some len), n + 1, h.set n (.cells xs false), lo) :=
  good_new fun ι a w H E h0 => by
    have hu := (TO t te ht).slice hs
    obtain ⟨z, hz1, hz2, _⟩ := (TO el te' hel).zero w
    have hk2 := Nat.eq_of_beq_eq_true hk2
    have hlen : len * te'.size < 16777216 := by simp [Nat.blt] at hlen; omega
    have hzl : z.cells.size = te'.size := by rw [← Array.length_toList, hz2, hk2]
    obtain ⟨C', g1, g2⟩ := vfill_rel E (fun i => some (i * te'.size, te'.size)) ps.toList al _ ((Array.range (len * te'.size)).map (fun j => z.cells[j % z.cells.size]!)) xs hal hf (by rw [zs_eq hz2 hk2]; exact LRel.scs _)
    obtain ⟨f1, f2, f3, f4, f5, f6⟩ := alloc_facts w (.cells C' el)
    refine ⟨.slice (some ⟨w.heap.size, 0, none⟩) len len, _, w.alloc (.cells C' el), C'.size, ?_, f1, f2, f3, f4, f5, f6, fun ι' hle hi => ⟨.sl n 0 len te'.size len _ _ hi, brel_new f6 (g2.mono hle)⟩⟩
    simp only [execOp, ho]
    have hn : ¬ (16777216 < len * te'.size) := by omega
    by_cases h00 : len * te'.size = 0
    · have hr0 : Array.range (len * te'.size) = #[] := Array.eq_empty_of_size_eq_zero (by simpa using h00)
      rw [hr0, Array.map_empty] at g1
      simp [Instr.buildSlice, run_underlying hu, (TO el te' hel).size, hn]
      rw [if_pos h00]
      simp only [Sem.run_pure, Result.andThen_ok, hr0, Array.map_empty]
      have g1' : Instr.fill (fun i => some (i * te'.size, te'.size)) #[] (List.map (fun x => (x.fst, a.eval x.snd)) ps.toList) = some C' := g1
      simp [g1', newRow, newObj, Sem.run]
    · simp [Instr.buildSlice, run_underlying hu, (TO el te' hel).size, hz1, hn]
      rw [if_neg h00]
      rw [show Instr.fill (fun i => some (i * te'.size, te'.size)) _ _ = some C' from g1]
      simp [newRow, newObj, Sem.run]
end
end Go.Proofs.YtdbeblhifnfocaaGreatDoor.Rn

namespace Go.Proofs.YtdbeblhifnfocaaGreatDoor.Rn
set_option linter.unusedVariables false
open Go.RowKit
open Go.Proofs.YtdbeblhifnfocaaGreatDoor.Ab (TE TTab tlook TabOk TFacts win setW setW_get win_get Sh)

theorem blt_lt {a b : Nat} (h : Nat.blt a b = true) : a < b := Nat.le_of_ble_eq_true h
theorem blt_ge {a b : Nat} (h : Nat.blt a b = false) : b ≤ a := by
  rcases Nat.lt_or_ge a b with h1 | h1
  · have : Nat.blt a b = true := Nat.ble_eq_true_of_le h1
    rw [this] at h; cases h
  · exact h1
def bnd (e : Ev) : Option Operand → Option (Option Nat)
  | none => some none
  | some x => match ev e x with
    | some (.sc (.int _ i)) => cond (decide (0 ≤ i)) (some (some i.toNat)) none
    | _ => none
def BRl (b : Option Nat) (v : Option Value) : Prop := match b with
  | none => v = none
  | some l => ∃ q, v = some (.int q (l : Int))
theorem bnd_rel {ι : Io} {e : Ev} {a : Act} (E : ERel ι e a) {x : Option Operand} {b : Option Nat} (h : bnd e x = some b) : BRl b (x.map a.eval) := by
  unfold bnd at h
  split at h
  · cases h; rfl
  · rename_i x
    split at h
    · rename_i q i hx
      cases hi : decide (0 ≤ i) with
      | false => rw [hi] at h; cases h
      | true =>
        rw [hi] at h
        cases h
        refine ⟨q, ?_⟩
        have := of_decide_eq_true hi
        rw [Option.map_some, tv_rel (ev_rel E hx) _ rfl, Int.toNat_of_nonneg this]
    · cases h
def cutV (id off len k : Nat) (cap : Option Nat) (l h m : Option Nat) : Option V :=
  let lv := l.getD 0
  let hv := h.getD len
  match cap, m with
  | some c, none => cond (Nat.ble lv hv && Nat.ble hv c) (some (.sl id (cond (Nat.beq c lv) off (off + lv * k)) (hv - lv) k (some (c - lv)))) none
  | some c, some mv => cond (Nat.ble lv hv && Nat.ble hv mv && Nat.ble mv c && h.isSome) (some (.sl id (cond (Nat.beq mv lv) off (off + lv * k)) (hv - lv) k (some (mv - lv)))) none
  | none, none => cond (Nat.ble lv hv && Nat.ble hv len) (cond (Nat.beq lv 0) (some (.sl id off hv k none)) (cond (Nat.blt lv hv) (some (.sl id (off + lv * k) (hv - lv) k none)) (some .emp))) none
  | none, some mv => cond (Nat.ble lv hv && Nat.ble hv mv && Nat.ble mv len && h.isSome) (some (.sl id (cond (Nat.beq mv lv) off (off + lv * k)) (hv - lv) k (some (mv - lv)))) none
section
variable {P : Program} {tab : TTab} {o : Oper} {e : Ev} {n : Nat} {h : Hp} {lo : Nat}
theorem run_bound {w : World} {q : IntKind} {l y : Nat} {code : BoundsCode} (hl : l ≤ y) : (Instr.sliceBound (.int q (l : Int)) y code).run P w = .ok l w := by
  have h1 : (0 : Int) ≤ (l : Int) ∧ (l : Int) ≤ (y : Int) := by omega
  simp only [Instr.sliceBound, asIntOf, Sem.run_bind, Sem.run_pure, Result.andThen_ok]
  rw [if_pos h1]
  simp
theorem run_bounds {w : World} {isS : Bool} {len c : Nat} {lv hv mv : Option Value} {l h m : Option Nat} (hl : BRl l lv) (hh : BRl h hv) (hm : BRl m mv) (h1 : l.getD 0 ≤ h.getD len) (h2 : h.getD len ≤ m.getD c ∨ h = none) (h3 : m.getD c ≤ c) (h4 : m.isSome = true → h.isSome = true) :
    (Instr.sliceBounds isS len c lv hv mv).run P w = .ok (l.getD 0, h.getD len, m.getD c) w := by
  unfold Instr.sliceBounds
  cases m with
  | none =>
    have : mv = none := hm
    subst this
    cases h with
    | none =>
      have : hv = none := hh
      subst this
      cases l with
      | none => have : lv = none := hl; subst this; simp
      | some l => obtain ⟨q, rfl⟩ := hl; simp at h1; simp [run_bound h1]
    | some hx =>
      obtain ⟨q2, rfl⟩ := hh
      have h2' : hx ≤ c := by rcases h2 with h2 | h2; · simpa using h2
                              · cases h2
      cases l with
      | none => have : lv = none := hl; subst this; simp [run_bound h2']
      | some l => obtain ⟨q, rfl⟩ := hl; simp at h1; simp [run_bound h1, run_bound h2']
  | some mx =>
    obtain ⟨q3, rfl⟩ := hm
    cases h with
    | none => simp at h4
    | some hx =>
      obtain ⟨q2, rfl⟩ := hh
      have h2' : hx ≤ mx := by rcases h2 with h2 | h2; · simpa using h2
                               · cases h2
      have h3' : mx ≤ c := by simpa using h3
      cases l with
      | none => have : lv = none := hl; subst this; simp [run_bound h2', run_bound h3']
      | some l => obtain ⟨q, rfl⟩ := hl; simp at h1; simp [run_bound h1, run_bound h2', run_bound h3']
theorem run_cut {w : World} {t el : TypeId} {te te' : TE} (Ft : TFacts P t te) (hs : te.sh = .sl el) (Fe : TFacts P el te') {r off len c : Nat} {lv hv mv : Option Value} {l h m : Option Nat} (hl : BRl l lv) (hh : BRl h hv) (hm : BRl m mv) (h1 : l.getD 0 ≤ h.getD len) (h2 : h.getD len ≤ m.getD c ∨ h = none) (h3 : m.getD c ≤ c) (h4 : m.isSome = true → h.isSome = true) :
    (Instr.sliceAt t (.slice (some ⟨r, off, none⟩) len c) lv hv mv).run P w = .ok (.slice (some (if m.getD c = l.getD 0 then ⟨r, off, none⟩ else ⟨r, off + l.getD 0 * te'.size, none⟩)) (h.getD len - l.getD 0) (m.getD c - l.getD 0)) w := by
  have hu := Ft.slice hs
  have hb := run_bounds (P := P) (w := w) (isS := true) hl hh hm h1 h2 h3 h4
  simp only [Instr.sliceAt, Instr.slice, Sem.run_bind, run_underlying hu, Result.andThen_ok, hb, Fe.size, Sem.run_pure]
  congr 2
  split <;> simp [Addr.add_mid]
theorem good_cut {t el : TypeId} {x : Operand} {lo' hi mx : Option Operand} {te te' : TE} {id off len k : Nat} {cap : Option Nat} {l hh m : Option Nat} {v : V} (TO : TabOk P tab) (ho : o.op = .slice t x lo' hi mx) (ht : tlook tab t = some te) (hs : te.sh = .sl el)
    (hel : tlook tab el = some te') (hk : Nat.beq te'.size k = true) (hx : ev e x = some (.sl id off len k cap)) (h1 : bnd e lo' = some l) (h2 : bnd e hi = some hh) (h3 : bnd e mx = some m) (hv : cutV id off len k cap l hh m = some v) : Good P o e n h lo (v, n, h, lo) :=
  good_value fun ι a w H E => by
    have hr := ev_rel E hx
    have b1 := bnd_rel E h1
    have b2 := bnd_rel E h2
    have b3 := bnd_rel E h3
    have hk := Nat.eq_of_beq_eq_true hk
    subst hk
    generalize hau : a.eval x = u at hr
    have run : ∀ r c, a.eval x = .slice (some ⟨r, off, none⟩) len c → l.getD 0 ≤ hh.getD len → (hh.getD len ≤ m.getD c ∨ hh = none) → m.getD c ≤ c → (m.isSome = true → hh.isSome = true) →
        (execOp a.eval o).run P w = .ok (.value (.slice (some (if m.getD c = l.getD 0 then ⟨r, off, none⟩ else ⟨r, off + l.getD 0 * te'.size, none⟩)) (hh.getD len - l.getD 0) (m.getD c - l.getD 0))) w := fun r c hau g1 g2 g3 g4 => by
      have := run_cut (w := w) (r := r) (off := off) (TO t te ht) hs (TO el te' hel) b1 b2 b3 g1 g2 g3 g4
      simp only [execOp, ho, hau]
      simp [this]
    unfold cutV at hv
    cases cap with
    | some c =>
      cases hr with
      | sl _ _ _ _ _ r mm hi =>
        cases m with
        | none =>
          dsimp only at hv
          cases hb : Nat.ble (l.getD 0) (hh.getD len) && Nat.ble (hh.getD len) c with
          | false => rw [hb] at hv; cases hv
          | true =>
            rw [hb, cond_true] at hv
            cases hv
            simp only [Bool.and_eq_true, Nat.ble_eq] at hb
            refine ⟨_, ?_, run r c hau hb.1 (.inl (by simpa using hb.2)) (by simp) (by simp)⟩
            simp only [Option.getD_none, beq_dec]
            by_cases hc : c = l.getD 0
            · rw [if_pos hc, decide_eq_true hc]; exact .sl id off _ _ _ r mm hi
            · rw [if_neg hc, decide_eq_false hc]; exact .sl id _ _ _ _ r mm hi
        | some mv =>
          dsimp only at hv
          cases hb : Nat.ble (l.getD 0) (hh.getD len) && Nat.ble (hh.getD len) mv && Nat.ble mv c && hh.isSome with
          | false => rw [hb] at hv; cases hv
          | true =>
            rw [hb, cond_true] at hv
            cases hv
            simp only [Bool.and_eq_true, Nat.ble_eq] at hb
            refine ⟨_, ?_, run r c hau hb.1.1.1 (.inl (by simpa using hb.1.1.2)) (by simpa using hb.1.2) (fun _ => hb.2)⟩
            simp only [Option.getD_some, beq_dec]
            by_cases hc : mv = l.getD 0
            · rw [if_pos hc, decide_eq_true hc]; exact .sl id off _ _ _ r mm hi
            · rw [if_neg hc, decide_eq_false hc]; exact .sl id _ _ _ _ r mm hi
    | none =>
      cases hr with
      | slu _ _ _ _ c r mm hi hcm hlc =>
        cases m with
        | none =>
          dsimp only at hv
          cases hb : Nat.ble (l.getD 0) (hh.getD len) && Nat.ble (hh.getD len) len with
          | false => rw [hb] at hv; cases hv
          | true =>
            rw [hb, cond_true] at hv
            simp only [Bool.and_eq_true, Nat.ble_eq] at hb
            have hrun := run r c hau hb.1 (.inl (by simp; omega)) (by simp) (by simp)
            simp only [Option.getD_none] at hrun
            refine ⟨_, ?_, hrun⟩
            simp only [beq_dec] at hv
            by_cases h0 : l.getD 0 = 0
            · rw [decide_eq_true h0, cond_true] at hv
              cases hv
              rw [h0]
              have : (if c = 0 then (⟨r, off, none⟩ : Addr) else ⟨r, off + 0 * te'.size, none⟩) = ⟨r, off, none⟩ := by split <;> simp
              rw [this]
              exact .slu id off _ _ _ r mm hi (by simpa using hcm) (by omega)
            · rw [decide_eq_false h0, cond_false] at hv
              cases hlt : Nat.blt (l.getD 0) (hh.getD len) with
              | true =>
                rw [hlt, cond_true] at hv
                cases hv
                have hlt : l.getD 0 < hh.getD len := blt_lt hlt
                rw [if_neg (by omega)]
                refine .slu id _ _ _ _ r mm hi ?_ ?_
                · rw [← hcm, Nat.add_assoc, ← Nat.add_mul]
                  congr 2
                  omega
                · omega
              | false =>
                rw [hlt, cond_false] at hv
                cases hv
                have hlt := blt_ge hlt
                rw [show hh.getD len - l.getD 0 = 0 by omega]
                split
                · exact .emp r _ _
                · exact .emp r _ _
        | some mv =>
          dsimp only at hv
          cases hb : Nat.ble (l.getD 0) (hh.getD len) && Nat.ble (hh.getD len) mv && Nat.ble mv len && hh.isSome with
          | false => rw [hb] at hv; cases hv
          | true =>
            rw [hb, cond_true] at hv
            cases hv
            simp only [Bool.and_eq_true, Nat.ble_eq] at hb
            refine ⟨_, ?_, run r c hau hb.1.1.1 (.inl (by simpa using hb.1.1.2)) (by simp; omega) (fun _ => hb.2)⟩
            simp only [Option.getD_some, beq_dec]
            by_cases hc : mv = l.getD 0
            · rw [if_pos hc, decide_eq_true hc]; exact .sl id off _ _ _ r mm hi
            · rw [if_neg hc, decide_eq_false hc]; exact .sl id _ _ _ _ r mm hi
theorem good_cutArr {t el N : TypeId} {x : Operand} {lo' hi mx : Option Operand} {te te' : TE} {id off : Nat} {b : B} {l hh m : Option Nat} {v : V} (TO : TabOk P tab) (ho : o.op = .slice t x lo' hi mx) (ht : tlook tab t = some te) (hs : te.sh = .ar N el)
    (hel : tlook tab el = some te') (hx : ev e x = some (.ptr id off)) (hb : h.get id = some b) (h1 : bnd e lo' = some l) (h2 : bnd e hi = some hh) (h3 : bnd e mx = some m) (hv : cutV id off N te'.size (some N) l hh m = some v) : Good P o e n h lo (v, n, h, lo) :=
  good_value fun ι a w H E => by
    obtain ⟨r, mm, hi, _⟩ := H.blk id _ hb
    have hau := ptr_inv (ev_rel E hx) hi
    have b1 := bnd_rel E h1
    have b2 := bnd_rel E h2
    have b3 := bnd_rel E h3
    obtain ⟨d, hd, _, hdd⟩ := (TO t te ht).und
    rw [hs] at hdd
    cases hdd
    have run : l.getD 0 ≤ hh.getD N → (hh.getD N ≤ m.getD N ∨ hh = none) → m.getD N ≤ N → (m.isSome = true → hh.isSome = true) →
        (execOp a.eval o).run P w = .ok (.value (.slice (some (if m.getD N = l.getD 0 then ⟨r, off, none⟩ else ⟨r, off + l.getD 0 * te'.size, none⟩)) (hh.getD N - l.getD 0) (m.getD N - l.getD 0))) w := fun g1 g2 g3 g4 => by
      have hbs := run_bounds (P := P) (w := w) (isS := false) b1 b2 b3 g1 g2 g3 g4
      simp only [execOp, ho, hau, Instr.sliceAt, Instr.sureAddr, Sem.run_bind, run_underlying hd, Sem.run_pure, Result.andThen_ok, hbs, (TO el te' hel).size]
      congr 3
      split <;> simp [Addr.add_mid]
    unfold cutV at hv
    cases m with
    | none =>
      dsimp only at hv
      cases hb : Nat.ble (l.getD 0) (hh.getD N) && Nat.ble (hh.getD N) N with
      | false => rw [hb] at hv; cases hv
      | true =>
        rw [hb, cond_true] at hv
        cases hv
        simp only [Bool.and_eq_true, Nat.ble_eq] at hb
        refine ⟨_, ?_, run hb.1 (.inl (by simpa using hb.2)) (by simp) (by simp)⟩
        simp only [Option.getD_none, beq_dec]
        by_cases hc : N = l.getD 0
        · rw [if_pos hc, decide_eq_true hc]; exact .sl id off _ _ _ r mm hi
        · rw [if_neg hc, decide_eq_false hc]; exact .sl id _ _ _ _ r mm hi
    | some mv =>
      dsimp only at hv
      cases hb : Nat.ble (l.getD 0) (hh.getD N) && Nat.ble (hh.getD N) mv && Nat.ble mv N && hh.isSome with
      | false => rw [hb] at hv; cases hv
      | true =>
        rw [hb, cond_true] at hv
        cases hv
        simp only [Bool.and_eq_true, Nat.ble_eq] at hb
        refine ⟨_, ?_, run hb.1.1.1 (.inl (by simpa using hb.1.1.2)) (by simpa using hb.1.2) (fun _ => hb.2)⟩
        simp only [Option.getD_some, beq_dec]
        by_cases hc : mv = l.getD 0
        · rw [if_pos hc, decide_eq_true hc]; exact .sl id off _ _ _ r mm hi
        · rw [if_neg hc, decide_eq_false hc]; exact .sl id _ _ _ _ r mm hi

def lenV (h : Hp) : V → Option Nat
  | .sl _ _ len _ _ => some len
  | .emp => some 0
  | .mp id => match h.get id with
    | some (.map es _) => some es.length
    | _ => none
  | _ => none
def lenFits : V → Option TypeDesc → Bool
  | .sl _ _ _ _ _, some (.slice _) => true
  | .emp, some (.slice _) => true
  | .mp _, some (.map _ _) => true
  | _, _ => false
theorem good_len {t : TypeId} {x : Operand} {v : V} {k : Nat} (ho : o.op = .call { callee := .builtin .len, args := #[x], argTypes := #[t] }) (hx : ev e x = some v) (hf : lenFits v (P.underlying t) = true) (hl : lenV h v = some k) : Good P o e n h lo (.sc (.int .i64 (k : Int)), n, h, lo) :=
  good_value fun ι a w H E => by
    refine ⟨.int .i64 k, .sc _, ?_⟩
    have hv := ev_rel E hx
    cases hd : P.underlying t with
    | none => rw [hd] at hf; unfold lenFits at hf; split at hf <;> simp_all
    | some d =>
      rw [hd] at hf
      unfold lenFits at hf
      generalize hau : a.eval x = u at hv
      split at hf
      · rename_i h2; cases h2; cases hl; cases hv <;> simp [execOp, ho, resolve, invoke, builtin, hau, Builtin.len_, run_underlying hd, goInt]
      · rename_i h2; cases h2; cases hl; cases hv; simp [execOp, ho, resolve, invoke, builtin, hau, Builtin.len_, run_underlying hd, goInt]
      · rename_i h2
        cases h2
        rw [lenV] at hl
        split at hl
        · rename_i es clk hb
          cases hl
          obtain ⟨r, m, hi, E', hE, hEl, _⟩ := H.blk _ _ hb
          cases hv with
          | mp _ r' m' h' =>
            rw [hi] at h'
            cases h'
            have hsz : E'.size = es.length := by simpa using hEl
            have hobj : (getObj r).run P w = .ok (.map E' clk) w := by simp [getObj, Sem.run, hE]
            simp [execOp, ho, resolve, invoke, builtin, hau, Builtin.len_, run_underlying hd, hobj, goInt, hsz]
        · cases hl
      · cases hf
theorem good_cap {t : TypeId} {x : Operand} {id off len k c : Nat} (ho : o.op = .call { callee := .builtin .cap, args := #[x], argTypes := #[t] }) (hx : ev e x = some (.sl id off len k (some c))) (hf : lenFits (.sl id off len k (some c)) (P.underlying t) = true) : Good P o e n h lo (.sc (.int .i64 (c : Int)), n, h, lo) :=
  good_value fun ι a w H E => by
    refine ⟨.int .i64 c, .sc _, ?_⟩
    have hv := ev_rel E hx
    cases hd : P.underlying t with
    | none => rw [hd] at hf; cases hf
    | some d =>
      rw [hd] at hf
      generalize hau : a.eval x = u at hv
      cases d <;> simp [lenFits] at hf
      cases hv
      simp [execOp, ho, resolve, invoke, builtin, hau, Builtin.cap_, run_underlying hd, goInt]
theorem good_makeFunc {f : FuncId} {caps : Array Operand} {cs : List V} (ho : o.op = .makeFunc (.func f) #[] caps) (hc : evs e caps.toList = some cs) : Good P o e n h lo (.fn f cs, n, h, lo) :=
  good_value fun ι a w H E => ⟨.func (.func f) #[] (caps.map a.eval), VRel.fn' (by have := evs_rel E hc; simpa using this), by simp [execOp, ho, Instr.makeFunc]⟩
def noIface : Option TypeDesc → Bool
  | some (.interface _) => false
  | some _ => true
  | none => false
theorem good_makeIface {t : TypeId} {x : Operand} {v : V} (ho : o.op = .makeInterface t x) (hx : ev e x = some v) (hd : noIface (P.underlying t) = true) : Good P o e n h lo (.ifc t v, n, h, lo) :=
  good_value fun ι a w H E => by
    refine ⟨.iface t (a.eval x), .ifc t v _ (ev_rel E hx), ?_⟩
    cases hu : P.underlying t with
    | none => rw [hu] at hd; cases hd
    | some d =>
      rw [hu] at hd
      simp only [execOp, ho, Instr.makeInterface, Sem.run_bind, run_underlying hu, Result.andThen_ok]
      cases d <;> first | (simp [noIface] at hd; done) | simp
theorem good_makeSlice {t el : TypeId} {x y : Operand} {te te' : TE} {q1 q2 : IntKind} {l c : Nat} (TO : TabOk P tab) (ho : o.op = .makeSlice t x y) (ht : tlook tab t = some te) (hs : te.sh = .sl el) (hel : tlook tab el = some te') (hk2 : Nat.beq te'.zero.length te'.size = true)
    (hx : ev e x = some (.sc (.int q1 (l : Int)))) (hy : ev e y = some (.sc (.int q2 (c : Int)))) (hlc : Nat.ble l c = true) (hcb : Nat.ble c 1000000 = true) (hb : Nat.ble te'.bytes 65536 = true) :
    Good P o e n h lo (.sl n 0 l te'.size (some c), n + 1, h.set n (.cells ((zs te' c).map .sc) false), lo) :=
  good_new fun ι a w H E h0 => by
    have hu := (TO t te ht).slice hs
    obtain ⟨z, hz1, hz2, i, hi1, hi2, hi3, hi4⟩ := (TO el te' hel).zero w
    have hk2 := Nat.eq_of_beq_eq_true hk2
    have hlc := Nat.le_of_ble_eq_true hlc
    have hcb := Nat.le_of_ble_eq_true hcb
    have hb := Nat.le_of_ble_eq_true hb
    have e1 := tv_rel (ev_rel E hx) _ rfl
    have e2 := tv_rel (ev_rel E hy) _ rfl
    have w1 : IntKind.i64.wrap (l : Int) = (l : Int) := Ab.wrap_i64 ⟨by omega, by omega⟩
    have w2 : IntKind.i64.wrap (c : Int) = (c : Int) := Ab.wrap_i64 ⟨by omega, by omega⟩
    have hbc : te'.bytes * c ≤ 65536 * 1000000 := Nat.mul_le_mul hb hcb
    have hbc2 : (te'.bytes : Int) * (c : Int) ≤ 281474976710656 := by
      have : ((te'.bytes * c : Nat) : Int) ≤ 65536000000 := by omega
      rw [Int.natCast_mul] at this; omega
    have hti : (typeInfo el).run P w = .ok i w := by simp [typeInfo, hi1]
    obtain ⟨C, hC⟩ : ∃ C, (Array.range (c * te'.size)).map (fun j => z.cells[j % z.cells.size]!) = C := ⟨_, rfl⟩
    have hCl : C.toList = zs te' c := by rw [← hC]; exact zs_eq hz2 hk2 c
    obtain ⟨f1, f2, f3, f4, f5, f6⟩ := alloc_facts w (.cells C el)
    refine ⟨.slice (some ⟨w.heap.size, 0, none⟩) l c, _, w.alloc (.cells C el), C.size, ?_, f1, f2, f3, f4, f5, f6, fun ι' hle hi => ⟨.sl n 0 l te'.size c _ _ hi, brel_new f6 (by rw [hCl]; exact LRel.scs _)⟩⟩
    have n1 : ¬ ((decide ((c : Int) < 0) || decide ((te'.bytes : Int) * (c : Int) > 2 ^ 48)) = true ∨ (l : Int) < 0 ∨ (l : Int) > (c : Int)) := by
      rintro (h1 | h1 | h1)
      · simp only [Bool.or_eq_true, decide_eq_true_eq] at h1
        omega
      · omega
      · omega
    simp only [execOp, ho, e1, e2]
    simp only [Instr.makeSlice, Sem.run_bind, run_underlying hu, Result.andThen_ok, asInt, asIntOf, Sem.run_pure, hti, hi4, w1, w2]
    rw [if_neg (by simpa using n1)]
    simp only [Sem.run_bind, run_askRoom, Result.andThen_ok, (TO el te' hel).size, Int.toNat_natCast, Sem.run_pure]
    by_cases h00 : c * te'.size = 0
    · rw [if_pos h00]
      have hr0 : Array.range (c * te'.size) = #[] := Array.eq_empty_of_size_eq_zero (by simpa using h00)
      have hC0 : C = #[] := by rw [← hC, hr0, Array.map_empty]
      simp [hr0, newRow, newObj, Sem.run, hC0]
    · rw [if_neg h00]
      simp [hz1, hC, newRow, newObj, Sem.run]
end
end Go.Proofs.YtdbeblhifnfocaaGreatDoor.Rn

namespace Go.Proofs.YtdbeblhifnfocaaGreatDoor.Rn
set_option linter.unusedVariables false
open Go.RowKit
open Go.Proofs.YtdbeblhifnfocaaGreatDoor.Ab (TE TTab tlook TabOk TFacts win setW setW_get win_get Sh)

def srcV (h : Hp) (size : Nat) : V → Option (Nat × List V)
  | .sl id off len k _ => match h.get id with
    | some (.cells cs _) => cond (Nat.beq k size && Nat.beq (win cs off (len * k)).length (len * k) && (win cs off (len * k)).all one) (some (len, win cs off (len * k))) none
    | _ => none
  | .emp => some (0, [])
  | .sc (.slice none 0 0) => some (0, [])
  | .sc (.string s) => cond (Nat.beq size 1) (some (s.size, (byteCells s).map .sc)) none
  | _ => none
def srcFits : V → Option TypeDesc → Bool
  | .sl _ _ _ _ _, some (.slice _) => true
  | .emp, some (.slice _) => true
  | .sc (.slice none 0 0), some (.slice _) => true
  | .sc (.string _), some .string => true
  | _, _ => false
section
variable {P : Program} {tab : TTab} {o : Oper} {e : Ev} {n : Nat} {h : Hp} {lo : Nat}
theorem sl_inv {ι : Io} {id off len k : Nat} {cap : Option Nat} {u : Value} (hv : VRel ι (.sl id off len k cap) u) {r m : Nat} (hi : ι id = some (r, m)) : ∃ c, u = .slice (some ⟨r, off, none⟩) len c ∧ (∀ c0, cap = some c0 → c = c0) ∧ (cap = none → off + c * k = m ∧ len ≤ c) := by
  cases hv with
  | sl _ _ _ _ c r' m' h' => rw [hi] at h'; cases h'; exact ⟨c, rfl, fun c0 h => by cases h; rfl, fun h => by cases h⟩
  | slu _ _ _ _ c r' m' h' h1 h2 => rw [hi] at h'; cases h'; exact ⟨c, rfl, fun c0 h => (by cases h), fun _ => ⟨h1, h2⟩⟩
theorem cells_win {ι : Io} {w : World} {r m off l : Nat} {cs : List V} {more : Bool} (hB : BRel ι w (.cells cs more) r m) (hl : (win cs off l).length = l) : ∃ vs, vs.length = l ∧ LRel ι (win cs off l) vs ∧ ∀ (j : Nat) (u : Value), vs[j]? = some u → w.cell? ⟨r, off + j, none⟩ = some u := by
  obtain ⟨C, tt, fz, hC, hfz, hsz, hle, hmo, hr⟩ := hB
  have hrel := hr.win off l
  refine ⟨_, by rw [hrel.1, hl], hrel, fun j u hj => ?_⟩
  have h6 := win_get rfl hj
  rw [List.getElem?_take] at h6
  split at h6
  · simp [World.cell?, hC]; simpa using h6
  · cases h6
theorem src_good {ι : Io} {w : World} {size m : Nat} {x : V} {u : Value} {W : List V} {tx : TypeId} (H : HRel ι h.get w) (hv : VRel ι x u) (hs : srcV h size x = some (m, W)) (hf : srcFits x (P.underlying tx) = true) : ∃ news, LRel ι W news ∧ Src P size tx u m news w := by
  cases hd : P.underlying tx with
  | none => rw [hd] at hf; unfold srcFits at hf; split at hf <;> simp_all
  | some d =>
    rw [hd] at hf
    unfold srcFits at hf
    split at hf
    · rename_i id off len k cap el h2
      cases h2
      rw [srcV] at hs
      split at hs
      · rename_i cs more hb
        cases hc : Nat.beq k size && Nat.beq (win cs off (len * k)).length (len * k) && (win cs off (len * k)).all one with
        | false => rw [hc] at hs; cases hs
        | true =>
          rw [hc, cond_true] at hs
          cases hs
          simp only [Bool.and_eq_true] at hc
          have hk := Nat.eq_of_beq_eq_true hc.1.1
          subst hk
          obtain ⟨r, mm, hi, hB⟩ := H.blk _ _ hb
          obtain ⟨c, rfl, _, _⟩ := sl_inv hv hi
          obtain ⟨vs, h3, h4, h5⟩ := cells_win hB (Nat.eq_of_beq_eq_true hc.1.2)
          exact ⟨vs, h4, Src.ofSlice w hd ⟨r, _, none⟩ _ c vs h3 (fun j u hj => by rw [Addr.add_mid]; exact h5 j u hj) (all_one h4 hc.2)⟩
      · cases hs
    · rename_i h2
      cases h2
      cases hs
      cases hv with
      | emp r o c => exact ⟨[], .nil, Src.ofSlice w hd ⟨r, o, none⟩ 0 c [] (by simp) (by simp) (by simp)⟩
    · rename_i h2
      cases h2
      cases hs
      cases hv
      exact ⟨[], .nil, Src.ofNil w hd 0⟩
    · rename_i s h2
      cases h2
      rw [srcV] at hs
      cases hc : Nat.beq size 1 with
      | false => rw [hc] at hs; cases hs
      | true =>
        rw [hc, cond_true] at hs
        cases hs
        have := Nat.eq_of_beq_eq_true hc
        subst this
        cases hv
        exact ⟨byteCells s, LRel.scs _, Src.ofString w hd s⟩
    · cases hf
theorem grow_run {w : World} {t tx el : TypeId} {te te' : TE} (Ft : TFacts P t te) (hs : te.sh = .sl el) (Fe : TFacts P el te') (hk2 : te'.zero.length = te'.size) {base : Option Addr} {len c m : Nat} {olds news : List Value} {u : Value} {ty : TypeId}
    (hol : olds.length = len * te'.size) (hold : (Builtin.firstCells te'.size len (.slice base len c)).run P w.drew = .ok olds.toArray w.drew) (S : Src P te'.size tx u m news w) (hg : c < len + m) (hb : (len + m) * te'.bytes ≤ 140737488355328) (hn : len + m ≤ 1000000000) :
    ∃ w' gc C, (Builtin.append_ #[t, tx] ty #[.slice base len c, u]).run P w = .ok (.slice (some ⟨w.heap.size, 0, none⟩) (len + m) gc) w' ∧ w'.os = w.os ∧ w'.tape = w.tape ∧ w'.output = w.output ∧ w.heap.size < w'.heap.size ∧ (∀ r, r < w.heap.size → w'.heap[r]? = w.heap[r]?) ∧
      w'.heap[w.heap.size]? = some (.cells C el (0, 0)) ∧ C.size = gc * te'.size ∧ len + m ≤ gc ∧ C.toList.take (olds.length + news.length) = olds ++ news := by
  have hu := Ft.slice hs
  obtain ⟨z, _, hz2, i, hi1, hi2, hi3, hi4⟩ := Fe.zero w
  rw [← hi3] at hold S hol
  have hr := run_append_grow_src (P := P) w t tx ty el i z hu hi1 hi2 base len c olds hold u m news S hg (by omega) (growslice_fits (by omega) (by rw [hi4]; exact hb))
  have hge := grownCap_ge w (len + m) c el
  obtain ⟨f1, f2, f3, f4, f5, f6⟩ := alloc_facts w.drew (.cells ((olds ++ news).toArray ++ Builtin.zeroCells z.cells (grownCap w (len + m) c el - (len + m))) el)
  refine ⟨_, _, _, hr, f1, f2, f3, f4, f5, f6, ?_, hge, ?_⟩
  · have hzs : z.cells.size = te'.size := by rw [← Array.length_toList, hz2, hk2]
    have hnl := S.newsLen
    simp only [Array.size_append, List.size_toArray, List.length_append, size_zeroCells, hol, hnl, hzs, hi3, ← Nat.add_mul]
    congr 1
    omega
  · rw [← List.length_append, Array.toList_append]
    exact List.take_left
def appR (te' : TE) (n : Nat) (h : Hp) (lo : Nat) (s : V) (m : Nat) (W : List V) : R := match s with
  | .sc (.slice none 0 0) => cond (Nat.beq m 0) (some (s, n, h, lo)) (cond (Nat.ble (m * te'.bytes) 140737488355328 && Nat.ble m 1000000000) (some (.sl n 0 m te'.size none, n + 1, h.set n (.cells W true), lo)) none)
  | .sl id off len k cap => cond (Nat.beq k te'.size && (Nat.ble ((len + m) * te'.bytes) 140737488355328 && Nat.ble (len + m) 1000000000)) (match h.get id with
    | some (.cells cs more) => match cap with
      | some c => cond (Nat.beq m 0 && Nat.ble len c) (some (s, n, h, lo)) (cond (Nat.ble (len + m) c)
          (cond (Nat.ble (off + len * k + W.length) cs.length) (some (.sl id off (len + m) k (some c), n, h.set id (.cells (setW cs (off + len * k) W) more), lmin id lo)) none)
          (cond (Nat.beq (win cs off (len * k)).length (len * k)) (some (.sl n 0 (len + m) k none, n + 1, h.set n (.cells (win cs off (len * k) ++ W) true), lo)) none))
      | none => cond (Nat.beq m 0) (some (s, n, h, lo)) (cond (Nat.beq off 0 && Nat.beq cs.length (len * k) && more) (some (.sl n 0 (len + m) k none, n + 1, (h.del id).set n (.cells (cs ++ W) true), lmin id lo)) none)
    | _ => none) none
  | _ => none
theorem src_zero {size : Nat} {tx : TypeId} {u : Value} {news : List Value} {w : World} (S : Src P size tx u 0 news w) : news = [] := List.eq_nil_of_length_eq_zero (by simpa using S.newsLen)
theorem app_zero {t tx el ty : TypeId} {te te' : TE} {w : World} (Ft : TFacts P t te) (hs : te.sh = .sl el) (Fe : TFacts P el te') {base : Option Addr} {len c : Nat} {u : Value} {news : List Value} (S : Src P te'.size tx u 0 news w) (hl : len ≤ c) : (Builtin.append_ #[t, tx] ty #[.slice base len c, u]).run P w = .ok (.slice base len c) w := by
  have hu := Ft.slice hs
  have := src_zero S
  subst this
  rcases S.kind with ⟨e', hk⟩ | hk <;> cases base <;> simp [Builtin.append_, run_underlying hu, run_underlying hk, Fe.size, S.len, hl, S.cells, storeCells]
theorem good_append {t tx el : TypeId} {x y : Operand} {te te' : TE} {s v : V} {m : Nat} {W : List V} {r : V × Nat × Hp × Nat} (TO : TabOk P tab) (ho : o.op = .call { callee := .builtin .append, args := #[x, y], argTypes := #[t, tx] }) (ht : tlook tab t = some te) (hs : te.sh = .sl el) (hel : tlook tab el = some te') (hk2 : Nat.beq te'.zero.length te'.size = true)
    (hx : ev e x = some s) (hy : ev e y = some v) (hsrc : srcV h te'.size v = some (m, W)) (hf : srcFits v (P.underlying tx) = true) (hr : appR te' n h lo s m W = some r) : Good P o e n h lo r := by
  have hk2 := Nat.eq_of_beq_eq_true hk2
  have run : ∀ (a : Act) (w w' : World) (u' : Value), (Builtin.append_ #[t, tx] o.type #[a.eval x, a.eval y]).run P w = .ok u' w' → (execOp a.eval o).run P w = .ok (.value u') w' := fun a w w' u' hh => by
    simp [execOp, ho, resolve, invoke, builtin, hh]
  have zero : m = 0 → (∀ ι a w, HRel ι h.get w → ERel ι e a → ∃ base len c, a.eval x = .slice base len c ∧ len ≤ c) → Good P o e n h lo (s, n, h, lo) := fun hm hh => by
    subst hm
    refine good_value fun ι a w H E => ?_
    obtain ⟨base, len, c, h1, h2⟩ := hh ι a w H E
    obtain ⟨news, h3, S⟩ := src_good H (ev_rel E hy) hsrc hf
    refine ⟨a.eval x, ev_rel E hx, run a w w _ ?_⟩
    rw [h1]
    exact app_zero (TO t te ht) hs (TO el te' hel) S h2
  unfold appR at hr
  split at hr
  · -- nil
    cases hm : Nat.beq m 0 with
    | true =>
      rw [hm] at hr
      cases hr
      exact zero (Nat.eq_of_beq_eq_true hm) fun ι a w H E => ⟨none, 0, 0, tv_rel (ev_rel E hx) _ rfl, Nat.le_refl _⟩
    | false =>
      rw [hm, cond_false] at hr
      have hm := Ab.of_beq_no hm
      cases hb : Nat.ble (m * te'.bytes) 140737488355328 && Nat.ble m 1000000000 with
      | false => rw [hb] at hr; cases hr
      | true =>
        rw [hb] at hr
        cases hr
        simp only [Bool.and_eq_true, Nat.ble_eq] at hb
        refine good_new fun ι a w H E h0 => ?_
        obtain ⟨news, h3, S⟩ := src_good H (ev_rel E hy) hsrc hf
        have e1 := tv_rel (ev_rel E hx) _ rfl
        obtain ⟨w', gc, C, g1, g2, g3, g4, g5, g6, g7, g8, g9, g10⟩ := grow_run (base := none) (len := 0) (c := 0) (olds := []) (ty := o.type) (TO t te ht) hs (TO el te' hel) hk2 (by simp) (run_firstCells_none w.drew te'.size 0 0 0) S (by omega) (by simpa using hb.1) (by omega)
        refine ⟨_, _, w', gc * te'.size, run a w w' _ (by rw [e1]; exact g1), g2, g3, g4, g5, g6, g7, fun ι' hle hi => ⟨?_, ?_⟩⟩
        · rw [Nat.zero_add]; exact .slu n 0 m te'.size gc _ _ hi (by omega) (by omega)
        · have hwl : W.length ≤ gc * te'.size := by
            rw [← h3.1, S.newsLen]; exact Nat.mul_le_mul_right _ (by omega)
          refine ⟨C, el, (0, 0), g7, fun j _ hj => by dsimp only at hj; omega, g8, hwl, (fun hh => by cases hh), ?_⟩
          simp only [List.length_nil, Nat.zero_add, List.nil_append] at g10
          rw [← h3.1, g10]
          exact h3.mono hle
  · rename_i id off len k cap
    cases hb0 : Nat.beq k te'.size && (Nat.ble ((len + m) * te'.bytes) 140737488355328 && Nat.ble (len + m) 1000000000) with
    | false => rw [hb0] at hr; cases hr
    | true =>
      rw [hb0, cond_true] at hr
      simp only [Bool.and_eq_true, Nat.ble_eq] at hb0
      obtain ⟨hk, hb1, hb2⟩ := hb0
      have hk := Nat.eq_of_beq_eq_true hk
      subst hk
      split at hr
      · rename_i cs more hb
        cases cap with
        | some c =>
          dsimp only at hr
          cases hz : Nat.beq m 0 && Nat.ble len c with
          | true =>
            rw [hz] at hr
            cases hr
            simp only [Bool.and_eq_true, Nat.ble_eq] at hz
            refine zero (Nat.eq_of_beq_eq_true hz.1) fun ι a w H E => ?_
            obtain ⟨rr, mm, hi, _⟩ := H.blk _ _ hb
            obtain ⟨c', h1, h2, _⟩ := sl_inv (ev_rel E hx) hi
            have := h2 c rfl
            subst this
            exact ⟨_, _, _, h1, hz.2⟩
          | false =>
            rw [hz, cond_false] at hr
            cases hroom : Nat.ble (len + m) c with
            | true =>
              rw [hroom, cond_true] at hr
              cases hfit : Nat.ble (off + len * te'.size + W.length) cs.length with
              | false => rw [hfit] at hr; cases hr
              | true =>
                rw [hfit] at hr
                cases hr
                have hfit := Nat.le_of_ble_eq_true hfit
                have hroom := Nat.le_of_ble_eq_true hroom
                refine good_write hb fun ι a w rr mm H E hi hB => ?_
                obtain ⟨c', h1, h2, _⟩ := sl_inv (ev_rel E hx) hi
                have := h2 c rfl
                subst this
                obtain ⟨news, h3, S⟩ := src_good H (ev_rel E hy) hsrc hf
                obtain ⟨C, tt, fz, hC, hfz, hsz, hle2, hmo, hl⟩ := hB
                have hst := run_storeV (P := P) (off := off + len * te'.size) hC hfz hsz news (by rw [h3.1]; omega) S.one
                obtain ⟨g1, g2, g3, g4, g5, g6⟩ := setCells_spec news (off + len * te'.size) C w hC (by rw [h3.1]; omega)
                have hu := (TO t te ht).slice hs
                refine ⟨.slice (some ⟨rr, off, none⟩) (len + m) c', w.setCells rr (off + len * te'.size) news, .inl (run a w _ _ ?_), .sl id off (len + m) te'.size c' rr mm hi, g4, g5, g6, by rw [g3]; exact Nat.le_refl _, g2, brel_set hC hfz hsz hle2 hmo hl h3 (by omega)⟩
                rw [h1]
                rcases S.kind with ⟨e', hk⟩ | hk <;> simp [Builtin.append_, run_underlying hu, run_underlying hk, (TO el te' hel).size, S.len, hroom, S.cells, Addr.add_mid, hst]
            | false =>
              rw [hroom, cond_false] at hr
              have hnr : c < len + m := by
                rcases Nat.lt_or_ge c (len + m) with h1 | h1
                · exact h1
                · rw [Nat.ble_eq_true_of_le h1] at hroom; cases hroom
              cases hwn : Nat.beq (win cs off (len * te'.size)).length (len * te'.size) with
              | false => rw [hwn] at hr; cases hr
              | true =>
                rw [hwn] at hr
                cases hr
                have hwn := Nat.eq_of_beq_eq_true hwn
                refine good_new fun ι a w H E h0 => ?_
                obtain ⟨rr, mm, hi, hB⟩ := H.blk _ _ hb
                obtain ⟨c', h1, h2, _⟩ := sl_inv (ev_rel E hx) hi
                have := h2 c rfl
                subst this
                obtain ⟨news, h3, S⟩ := src_good H (ev_rel E hy) hsrc hf
                obtain ⟨olds, q1, q2, q3⟩ := cells_win hB hwn
                obtain ⟨w', gc, C, g1, g2, g3, g4, g5, g6, g7, g8, g9, g10⟩ := grow_run (ty := o.type) (TO t te ht) hs (TO el te' hel) hk2 q1 (run_firstCells_some w.drew te'.size len ⟨rr, off, none⟩ len c' olds q1 (fun j u hj => by rw [Addr.add_mid]; exact q3 j u hj)) S hnr hb1 hb2
                refine ⟨_, _, w', gc * te'.size, run a w w' _ (by rw [h1]; exact g1), g2, g3, g4, g5, g6, g7, fun ι' hle hi => ⟨.slu n 0 _ te'.size gc _ _ hi (by omega) g9, ?_⟩⟩
                have hwl : (win cs off (len * te'.size) ++ W).length ≤ gc * te'.size := by
                  rw [List.length_append, ← h3.1, S.newsLen, hwn, ← Nat.add_mul]; exact Nat.mul_le_mul_right _ g9
                refine ⟨C, el, (0, 0), g7, fun j _ hj => by dsimp only at hj; omega, g8, hwl, (fun hh => by cases hh), ?_⟩
                rw [List.length_append, ← q2.1, ← h3.1, g10]
                exact (q2.append h3).mono hle
        | none =>
          dsimp only at hr
          cases hz : Nat.beq m 0 with
          | true =>
            rw [hz] at hr
            cases hr
            refine zero (Nat.eq_of_beq_eq_true hz) fun ι a w H E => ?_
            obtain ⟨rr, mm, hi, _⟩ := H.blk _ _ hb
            obtain ⟨c', h1, _, h2⟩ := sl_inv (ev_rel E hx) hi
            exact ⟨_, _, _, h1, (h2 rfl).2⟩
          | false =>
            rw [hz, cond_false] at hr
            cases hc : Nat.beq off 0 && Nat.beq cs.length (len * te'.size) && more with
            | false => rw [hc] at hr; cases hr
            | true =>
              rw [hc] at hr
              cases hr
              simp only [Bool.and_eq_true] at hc
              obtain ⟨⟨hc1, hc2⟩, hmore⟩ := hc
              have hc1 := Nat.eq_of_beq_eq_true hc1
              have hc2 := Nat.eq_of_beq_eq_true hc2
              subst hc1 hmore
              refine ⟨?_, fun ι a w pre K Q hK => ?_⟩
              · have := lmin_l id lo; have := lmin_r id lo
                refine ⟨by dsimp only; omega, by dsimp only; omega, fun h => by dsimp only; omega, fun hl j hj => ?_, fun hbd j b hj => ?_, fun j hj hn => ?_⟩
                · dsimp only at hj ⊢; rw [Tr.get_set, if_neg (by omega), Tr.get_del, if_neg (by omega)]
                · dsimp only at hj ⊢
                  rw [Tr.get_set] at hj
                  split at hj
                  · omega
                  · rw [Tr.get_del] at hj
                    split at hj
                    · cases hj
                    · have := hbd j b hj; omega
                · dsimp only
                  rw [Tr.get_set, if_neg (by omega), Tr.get_del]
                  split
                  · rfl
                  · exact hn
              · have H := pre.heap
                have E := pre.env
                have h0 := pre.free n (Nat.le_refl _)
                obtain ⟨rr, mm, hi, hB⟩ := H.blk _ _ hb
                obtain ⟨c', h1, _, h2⟩ := sl_inv (ev_rel E hx) hi
                obtain ⟨h2, h2'⟩ := h2 rfl
                obtain ⟨news, h3, S⟩ := src_good H (ev_rel E hy) hsrc hf
                have hwin : win cs 0 (len * te'.size) = cs := by unfold Ab.win; rw [List.drop_zero, ← hc2, List.take_length]
                have hne : id ≠ n := fun hh => by rw [hh, h0] at hi; cases hi
                have eget : ((h.del id).set n (.cells (cs ++ W) true)).get = fun j => if j = n then some (.cells (cs ++ W) true) else if j = id then none else h.get j := by
                  funext j; rw [Tr.get_set]; split
                  · rfl
                  · rw [Tr.get_del]
                -- the state behind it, wherever the row lies
                have fin : ∀ (r2 gc : Nat) (w' : World), (Builtin.append_ #[t, tx] o.type #[a.eval x, a.eval y]).run P w = .ok (.slice (some ⟨r2, 0, none⟩) (len + m) gc) w' → w'.os = w.os → w'.tape = w.tape → w'.output = w.output → w.heap.size ≤ w'.heap.size → (∀ r', r' < w.heap.size → r' ≠ rr → w'.heap[r']? = w.heap[r']?) →
                    (r2 = rr ∨ w.heap.size ≤ r2) → len + m ≤ gc → (∀ ι', Io.le ι ι' → BRel ι' w' (.cells (cs ++ W) true) r2 (gc * te'.size)) → K (a.put o.dst (.slice (some ⟨r2, 0, none⟩) (len + m) gc)) w' := fun r2 gc w' q1 q2 q3 q4 q5 q6 q7 q8 q9 => by
                  have hle := le_updI (ι := ι) (id := n) (r := r2) (m := gc * te'.size) h0
                  refine hK (updI ι n r2 (gc * te'.size)) _ w' (.slu n 0 _ te'.size gc r2 (gc * te'.size) (by simp [updI]) (by omega) q8) ?_ ?_
                  · dsimp only
                    rw [eget]
                    have live : ∀ j b, j ≠ n → j ≠ id → h.get j = some b → ∃ r m, ι j = some (r, m) ∧ BRel ι w b r m ∧ r ≠ rr := fun j b j1 j2 jb => by
                      obtain ⟨r, m, s1, s2⟩ := H.blk j b jb
                      refine ⟨r, m, s1, s2, ?_⟩
                      rintro rfl
                      exact j2 (H.inj j id b _ r m mm jb hb s1 hi)
                    refine ⟨fun j b hj => ?_, fun i j b1 b2 r m1 m2 s1 s2 s3 s4 => ?_⟩
                    · try dsimp only at hj
                      split at hj
                      · rename_i hjn; subst hjn; cases hj; exact ⟨r2, _, by simp [updI], q9 _ hle⟩
                      · rename_i hjn
                        split at hj
                        · cases hj
                        · rename_i hji
                          obtain ⟨r, m, s1, s2, s3⟩ := live j b hjn hji hj
                          exact ⟨r, m, by simp [updI, hjn, s1], s2.mono hle (q6 r s2.lt s3)⟩
                    · try dsimp only at s1 s2
                      unfold updI at s3 s4
                      split at s1 <;> split at s2
                      · omega
                      · rename_i e1 e2
                        split at s2
                        · cases s2
                        · rename_i e3
                          rw [if_pos e1] at s3; rw [if_neg e2] at s4
                          cases s3
                          obtain ⟨r', m', u1, u2, u3⟩ := live j b2 e2 e3 s2
                          rw [s4] at u1; cases u1
                          have := u2.lt
                          rcases q7 with q7 | q7
                          · exact absurd q7 u3
                          · omega
                      · rename_i e1 e2
                        split at s1
                        · cases s1
                        · rename_i e3
                          rw [if_neg e1] at s3; rw [if_pos e2] at s4
                          cases s4
                          obtain ⟨r', m', u1, u2, u3⟩ := live i b1 e1 e3 s1
                          rw [s3] at u1; cases u1
                          have := u2.lt
                          rcases q7 with q7 | q7
                          · exact absurd q7 u3
                          · omega
                      · rename_i e1 e2
                        split at s1
                        · cases s1
                        · split at s2
                          · cases s2
                          · rw [if_neg e1] at s3; rw [if_neg e2] at s4
                            exact H.inj i j b1 b2 r m1 m2 s1 s2 s3 s4
                  · dsimp only
                    rw [eget]
                    refine ⟨q2, q3, q4, q5, by omega, fun j hj => by unfold updI; rw [if_neg (by omega)], fun r' hr' hn => q6 r' hr' ?_, fun j b r m s1 s2 s3 => ?_⟩
                    · rintro rfl; exact hn id _ mm hb hi
                    · try dsimp only at s1
                      unfold updI at s2
                      split at s1
                      · rename_i hjn
                        rw [if_pos hjn] at s2
                        cases s2
                        rcases q7 with q7 | q7
                        · subst q7; exact ⟨id, _, mm, hb, hi⟩
                        · omega
                      · rename_i hjn
                        split at s1
                        · cases s1
                        · rw [if_neg hjn] at s2; exact ⟨j, b, m, s1, s2⟩
                have hwl : ∀ gc, len + m ≤ gc → (cs ++ W).length ≤ gc * te'.size := fun gc hg => by
                  rw [List.length_append, ← h3.1, S.newsLen, hc2, ← Nat.add_mul]; exact Nat.mul_le_mul_right _ hg
                unfold Oper.wp
                by_cases hroom : len + m ≤ c'
                · obtain ⟨C, tt, fz, hC, hfz, hsz, hle2, hmo, hl⟩ := hB
                  have hmc : mm = c' * te'.size := by omega
                  have hnl : len * te'.size + news.length ≤ C.size := by rw [S.newsLen, hsz, hmc, ← Nat.add_mul]; exact Nat.mul_le_mul_right _ hroom
                  have hst := run_storeV (P := P) (off := len * te'.size) hC hfz hsz news (by omega) S.one
                  obtain ⟨g1, g2, g3, g4, g5, g6⟩ := setCells_spec news (len * te'.size) C w hC hnl
                  have hu := (TO t te ht).slice hs
                  have hrun : (Builtin.append_ #[t, tx] o.type #[a.eval x, a.eval y]).run P w = .ok (.slice (some ⟨rr, 0, none⟩) (len + m) c') (w.setCells rr (len * te'.size) news) := by
                    rw [h1]
                    rcases S.kind with ⟨e', hk⟩ | hk <;> simp [Builtin.append_, run_underlying hu, run_underlying hk, (TO el te' hel).size, S.len, hroom, S.cells, Addr.add_mid, hst]
                  rw [run a w _ _ hrun, Oper.upon_value]
                  refine fin rr c' _ hrun g4 g5 g6 (by rw [g3]; exact Nat.le_refl _) (fun r' _ h' => g2 r' h') (.inl rfl) hroom fun ι' hle => ⟨_, tt, fz, g1, by rw [← hmc]; exact hfz, ?_, hwl c' hroom, (fun hh => by cases hh), ?_⟩
                  · simp [Ab.setW]; omega
                  · have e5 : (setW C.toList (len * te'.size) news).take (cs ++ W).length = C.toList.take cs.length ++ news := by
                      unfold Ab.setW
                      rw [List.length_append, hc2, ← h3.1]
                      have : (C.toList.take (len * te'.size)).length = len * te'.size := by rw [List.length_take]; simp; omega
                      rw [List.take_append_of_le_length (by rw [List.length_append, this]; exact Nat.le_refl _), List.take_of_length_le (by rw [List.length_append, this]; exact Nat.le_refl _)]
                    rw [List.toList_toArray, e5]
                    exact ((hl.append h3)).mono hle
                · obtain ⟨olds, q1, q2, q3⟩ := cells_win hB (by rw [hwin]; exact hc2)
                  obtain ⟨w', gc, C, g1, g2, g3, g4, g5, g6, g7, g8, g9, g10⟩ := grow_run (ty := o.type) (TO t te ht) hs (TO el te' hel) hk2 q1 (run_firstCells_some w.drew te'.size len ⟨rr, 0, none⟩ len c' olds q1 (fun j u hj => by rw [Addr.add_mid]; exact q3 j u hj)) S (by omega) hb1 hb2
                  rw [← h1] at g1
                  rw [run a w _ _ g1, Oper.upon_value]
                  refine fin _ gc w' g1 g2 g3 g4 (by omega) (fun r' hr' _ => g6 r' hr') (.inr (Nat.le_refl _)) g9 fun ι' hle => ⟨C, el, (0, 0), g7, fun j _ hj => by dsimp only at hj; omega, g8, hwl gc g9, (fun hh => by cases hh), ?_⟩
                  rw [List.length_append, ← h3.1]
                  have hq : cs.length = olds.length := by rw [hc2, q1]
                  rw [hq, g10]
                  rw [hwin] at q2
                  exact (q2.append h3).mono hle
      · cases hr
  · cases hr
end
end Go.Proofs.YtdbeblhifnfocaaGreatDoor.Rn

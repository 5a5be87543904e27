/-
 Texts of a proof, one behind the other (part 1).
-/
import Derived.WalkKit
import Derived.WalkSpells
import Derived.WalkLawsBesides
import Derived.Deep.AppendLies
import Derived.Deep.Quiet
import Derived.OrdersHeld
import Derived.KernelRfl
import Derived.TacticsIn
import Derived.OrdersIn
import Derived.RangeFuncIn
import Derived.RangeFuncRecord
import Derived.Deep.MidRow
import Derived.Laws.Wrap64
import Derived.Laws.Build
import Derived.Laws.CopyRow
import Derived.Maps.AppendAt
import Derived.Laws.AppendOwnNone
import Derived.RangeFuncLeaves
set_option linter.unusedVariables false
set_option linter.unusedSimpArgs false
namespace Go.Proofs.YtoahnbmedcjpeaaGreatDoor.Ab
def gN : Nat := 4
def pow10L : List Int := [1, 10, 100, 1000, 10000, 100000, 1000000, 10000000, 100000000, 1000000000, 10000000000, 100000000000, 1000000000000, 10000000000000, 100000000000000, 1000000000000000, 10000000000000000, 100000000000000000, 1000000000000000000, 10000000000000000000]
structure GlobOk (w : World) : Prop where
 size : gN ≤ w.heap.size
 max : ∃ m t fr, w.heap[0]? = some (.cells #[.int .i64 m] t fr)
 tab : ∃ t fr, w.heap[1]? = some (.cells (pow10L.map (Value.int .u64 ·)).toArray t fr)
theorem GlobOk.keep {w w' : World} (h : GlobOk w) (hs : w.heap.size ≤ w'.heap.size) (hk : ∀ r, r < gN → w'.heap[r]? = w.heap[r]?) : GlobOk w' :=
 ⟨Nat.le_trans h.size hs, by rw [hk 0 (by decide)]; exact h.max, by rw [hk 1 (by decide)]; exact h.tab⟩
end Go.Proofs.YtoahnbmedcjpeaaGreatDoor.Ab

namespace Go.Proofs.YtoahnbmedcjpeaaGreatDoor.Ab
open Go.RowKit

inductive Dat where
 | sc (v : Value)
 | sl (cs : List Dat) (n : Nat)
 /-- .. one of n elements that can be made longer, up to m. -/
 | cut (cs : List Dat) (n m : Nat)

inductive AVal where
 | top
 | und
 | d (x : Dat)
 | agg (cs : List AVal)
 | tup (cs : List AVal)
 | ptr (id off : Nat)
 | eptr (id off : Nat)
 | iptr (cs : List Dat) (off : Nat)
 | row (id : Nat)
 | mp (id : Nat)
 | fn (f : FuncId) (caps : List AVal)
 /-- n elements of a row of one's own, from a cell on -/
 | srow (id off n : Nat)
 /-- a slice that is read alone, and has no room behind its length -/
 | full (cs : List Dat) (n : Nat)

mutual
def AVal.has (id : Nat) : AVal → Bool
 | .agg cs => hasL id cs
 | .tup cs => hasL id cs
 | .fn _ cs => hasL id cs
 | .ptr j _ => j == id
 | .eptr j _ => j == id
 | .row j => j == id
 | .mp j => j == id
 | .srow j _ _ => j == id
 | _ => false
def hasL (id : Nat) : List AVal → Bool
 | [] => false
 | c :: r => c.has id || hasL id r
end

theorem zbs {id : Nat} {cs : List AVal} (h : hasL id cs = false) {i : Nat} {c : AVal} (hi : cs[i]? = some c) : c.has id = false := by
 induction cs generalizing i with
 | nil => simp at hi
 | cons a r ih =>
  rw [hasL, Bool.or_eq_false_iff] at h
  cases i with
  | zero => simp at hi; subst hi; exact h.1
  | succ i => exact ih h.2 (by simpa using hi)

inductive ABlk where
 | var (cs : List AVal)
 | row (e : TypeId) (k n : Nat) (cs : List Dat)
 /-- A row whose cells may name other blocks of one's own. -/
 | rowA (e : TypeId) (k n : Nat) (cs : List AVal)
 | map (es : List (AVal × AVal))
 /-- .. of which it is known where it lies, when each entry was laid, and how late it is. -/
 | mapx (r : Nat) (bs : List Nat) (clk : Nat) (es : List (AVal × AVal))
 /-- a thing without cells, as it is -/
 | it (o : Obj)
 /-- a row of one's own whose handle is known (of no elements: whatever handle of no room) -/
 | rowx (hv : Value) (e : TypeId) (k n : Nat) (cs : List Dat)

def blockOf : Value → Option Nat
 | .pointer (some a) => some a.block
 | .slice (some a) _ _ => some a.block
 | .map (some r) => some r
 | _ => none

def FreeB (F : Nat → Prop) (ι : Nat → Option Value) (r : Nat) : Prop := ¬ F r ∧ ∀ id v, ι id = some v → blockOf v ≠ some r

inductive DRel (w : World) (Fr : Nat → Prop) : Dat → Value → Prop where
 | sc (v : Value) (h : v.oneCell' = true) : DRel w Fr (.sc v) v
 | nil : DRel w Fr (.sl [] 0) (.slice none 0 0)
 | emp (a : Addr) : DRel w Fr (.sl [] 0) (.slice (some a) 0 0)
 | sl (cs : List Dat) (n b o cap : Nat) (vs : List Value) (hn : n ≤ cap) (hl : vs.length = cs.length) (hf : vs ≠ [] → Fr b)
   (hc : ∀ (i : Nat) (u : Value), vs[i]? = some u → w.cell? ⟨b, o + i, none⟩ = some u)
   (hr : ∀ (i : Nat) (c : Dat) (u : Value), cs[i]? = some c → vs[i]? = some u → DRel w Fr c u) : DRel w Fr (.sl cs n) (.slice (some ⟨b, o, none⟩) n cap)
 | cut (cs : List Dat) (n m b o cap : Nat) (vs : List Value) (hn : n ≤ m) (hm : m ≤ cap) (hl : vs.length = cs.length) (hf : vs ≠ [] → Fr b)
   (hc : ∀ (i : Nat) (u : Value), vs[i]? = some u → w.cell? ⟨b, o + i, none⟩ = some u)
   (hr : ∀ (i : Nat) (c : Dat) (u : Value), cs[i]? = some c → vs[i]? = some u → DRel w Fr c u) : DRel w Fr (.cut cs n m) (.slice (some ⟨b, o, none⟩) n cap)

inductive VRel (w : World) (F : Nat → Prop) (ι : Nat → Option Value) : AVal → Value → Prop where
 | top (u : Value) : VRel w F ι .top u
 | und : VRel w F ι .und undef
 | d (x : Dat) (u : Value) (h : DRel w (FreeB F ι) x u) : VRel w F ι (.d x) u
 | agg (cs : List AVal) (C : Array Value) (hl : C.size = cs.length) (h : ∀ (i : Nat) (c : AVal) (u : Value), cs[i]? = some c → C[i]? = some u → VRel w F ι c u) : VRel w F ι (.agg cs) (.agg C)
 | tup (cs : List AVal) (C : Array Value) (hl : C.size = cs.length) (h : ∀ (i : Nat) (c : AVal) (u : Value), cs[i]? = some c → C[i]? = some u → VRel w F ι c u) : VRel w F ι (.tup cs) (.tuple C)
 | ptr (id off : Nat) (u : Value) (h1 : u.oneCell' = true) (h : ∀ v, ι id = some v → ∃ r, v = .pointer (some ⟨r, 0, none⟩) ∧ u = .pointer (some ⟨r, off, none⟩)) : VRel w F ι (.ptr id off) u
 | eptr (id off : Nat) (u : Value) (h1 : u.oneCell' = true) (h : ∀ v, ι id = some v → ∃ g n cap, v = .slice (some ⟨g, 0, none⟩) n cap ∧ u = .pointer (some ⟨g, off, none⟩)) : VRel w F ι (.eptr id off) u
 | iptr (cs : List Dat) (off b o : Nat) (vs : List Value) (hl : vs.length = cs.length) (hf : vs ≠ [] → FreeB F ι b)
   (hc : ∀ (i : Nat) (u : Value), vs[i]? = some u → w.cell? ⟨b, o + i, none⟩ = some u)
   (hr : ∀ (i : Nat) (c : Dat) (u : Value), cs[i]? = some c → vs[i]? = some u → DRel w (FreeB F ι) c u) : VRel w F ι (.iptr cs off) (.pointer (some ⟨b, o + off, none⟩))
 | row (id : Nat) (u : Value) (h1 : u.oneCell' = true) (h : ∀ v, ι id = some v → u = v) : VRel w F ι (.row id) u
 | mp (id : Nat) (u : Value) (h1 : u.oneCell' = true) (h : ∀ v, ι id = some v → u = v) : VRel w F ι (.mp id) u
 | fn (f : FuncId) (caps : List AVal) (C : Array Value) (hl : C.size = caps.length) (h : ∀ (i : Nat) (c : AVal) (u : Value), caps[i]? = some c → C[i]? = some u → VRel w F ι c u) : VRel w F ι (.fn f caps) (.func (.func f) #[] C)
 | srow (id off n : Nat) (u : Value) (h1 : u.oneCell' = true) (h : ∀ v, ι id = some v → ∃ b' c', u = .slice b' n c' ∧ n ≤ c' ∧ (0 < n → ∃ g N cap, v = .slice (some ⟨g, 0, none⟩) N cap ∧ b' = some ⟨g, off, none⟩)) : VRel w F ι (.srow id off n) u
 | full (cs : List Dat) (n : Nat) (b : Option Addr) (h : DRel w (FreeB F ι) (.sl cs n) (.slice b n n)) : VRel w F ι (.full cs n) (.slice b n n)

theorem zcg {w : World} {b o : Nat} {s : Option Nat} {v : Value} (h : w.cell? ⟨b, o, s⟩ = some v) : b < w.heap.size := World.block_lt_of_cell? w ⟨b, o, s⟩ h
theorem z7 {w w' : World} {b o : Nat} {v : Value} (h : w'.heap[b]? = w.heap[b]?) (hc : w.cell? ⟨b, o, none⟩ = some v) : w'.cell? ⟨b, o, none⟩ = some v := by
 rw [World.cell?_of_block (a := ⟨b, o, none⟩) h]; exact hc

theorem DRel.ext {w w' : World} {Fr Fr' : Nat → Prop} {x : Dat} {u : Value} (h : DRel w Fr x u) (hw : ∀ r, r < w.heap.size → Fr r → w'.heap[r]? = w.heap[r]?)
  (hf : ∀ r, r < w.heap.size → Fr r → Fr' r) : DRel w' Fr' x u := by
 induction h with
 | sc v h => exact .sc v h
 | nil => exact .nil
 | emp a => exact .emp a
 | sl cs n b o cap vs hn hl hfr hc hr ih =>
  have key : ∀ (i : Nat) (u : Value), vs[i]? = some u → b < w.heap.size ∧ Fr b := fun i u hu =>
   ⟨zcg (hc i u hu), hfr (by rintro rfl; simp at hu)⟩
  refine .sl cs n b o cap vs hn hl (fun hne => ?_) (fun i u hu => ?_) ih
  ·cases vs with
   | nil => exact absurd rfl hne
   | cons a t => have := key 0 a rfl; exact hf b this.1 this.2
  ·have := key i u hu
   exact z7 (hw b this.1 this.2) (hc i u hu)
 | cut cs n m b o cap vs hn hm hl hfr hc hr ih =>
  have key : ∀ (i : Nat) (u : Value), vs[i]? = some u → b < w.heap.size ∧ Fr b := fun i u hu =>
   ⟨zcg (hc i u hu), hfr (by rintro rfl; simp at hu)⟩
  refine .cut cs n m b o cap vs hn hm hl (fun hne => ?_) (fun i u hu => ?_) ih
  ·cases vs with
   | nil => exact absurd rfl hne
   | cons a t => have := key 0 a rfl; exact hf b this.1 this.2
  ·have := key i u hu
   exact z7 (hw b this.1 this.2) (hc i u hu)

structure Ext (w : World) (F : Nat → Prop) (ι : Nat → Option Value) (w' : World) (ι' : Nat → Option Value) : Prop where
 mem : ∀ r, r < w.heap.size → FreeB F ι r → w'.heap[r]? = w.heap[r]?
 free : ∀ r, r < w.heap.size → FreeB F ι r → FreeB F ι' r

structure ExtF (w : World) (F : Nat → Prop) (ι : Nat → Option Value) (w' : World) (F' : Nat → Prop) (ι' : Nat → Option Value) : Prop where
 mem : ∀ r, r < w.heap.size → FreeB F ι r → w'.heap[r]? = w.heap[r]?
 free : ∀ r, r < w.heap.size → FreeB F ι r → FreeB F' ι' r

theorem VRel.extF {w w' : World} {F F' : Nat → Prop} {ι ι' : Nat → Option Value} {c : AVal} {u : Value} (h : VRel w F ι c u) (he : ExtF w F ι w' F' ι')
  (hid : ∀ id v, c.has id = true → ι' id = some v → ι id = some v) : VRel w' F' ι' c u := by
 induction h with
 | top u => exact .top u
 | und => exact .und
 | d x u h => exact .d x u (h.ext he.mem he.free)
 | agg cs C hl h ih =>
  refine .agg cs C hl fun i c u hc hu => ih i c u hc hu fun id v hh => hid id v ?_
  rw [AVal.has]
  cases h' : hasL id cs with
  | false => exact absurd hh (by rw [zbs h' hc]; simp)
  | true => rfl
 | tup cs C hl h ih =>
  refine .tup cs C hl fun i c u hc hu => ih i c u hc hu fun id v hh => hid id v ?_
  rw [AVal.has]
  cases h' : hasL id cs with
  | false => exact absurd hh (by rw [zbs h' hc]; simp)
  | true => rfl
 | ptr id off u h1 h => exact .ptr id off u h1 fun v hv => h v (hid id v (by simp [AVal.has]) hv)
 | eptr id off u h1 h => exact .eptr id off u h1 fun v hv => h v (hid id v (by simp [AVal.has]) hv)
 | iptr cs off b o vs hl hf hc hr =>
  have key : ∀ (i : Nat) (u : Value), vs[i]? = some u → b < w.heap.size := fun i u hu => zcg (hc i u hu)
  have kf : ∀ (i : Nat) (u : Value), vs[i]? = some u → FreeB F ι b := fun i u hu => hf (by rintro rfl; simp at hu)
  refine .iptr cs off b o vs hl (fun hne => ?_) (fun i u hu => z7 (he.mem b (key i u hu) (kf i u hu)) (hc i u hu)) fun i c u h1 h2 => (hr i c u h1 h2).ext he.mem he.free
  cases vs with
  | nil => exact absurd rfl hne
  | cons a t => exact he.free b (key 0 a rfl) (kf 0 a rfl)
 | row id u h1 h => exact .row id u h1 fun v hv => h v (hid id v (by simp [AVal.has]) hv)
 | mp id u h1 h => exact .mp id u h1 fun v hv => h v (hid id v (by simp [AVal.has]) hv)
 | fn f caps C hl h ih =>
  refine .fn f caps C hl fun i c u hc hu => ih i c u hc hu fun id v hh => hid id v ?_
  rw [AVal.has]
  cases h' : hasL id caps with
  | false => exact absurd hh (by rw [zbs h' hc]; simp)
  | true => rfl
 | srow id off n u h1 h => exact .srow id off n u h1 fun v hv => h v (hid id v (by simp [AVal.has]) hv)
 | full cs n b h => exact .full cs n b (h.ext he.mem he.free)

theorem VRel.ext {w w' : World} {F : Nat → Prop} {ι ι' : Nat → Option Value} {c : AVal} {u : Value} (h : VRel w F ι c u) (he : Ext w F ι w' ι')
  (hid : ∀ id v, c.has id = true → ι' id = some v → ι id = some v) : VRel w' F ι' c u := h.extF ⟨he.mem, he.free⟩ hid

abbrev Env := List (Nat × AVal)
abbrev Heap := List (Nat × ABlk)
theorem zc9 {s t : Nat} (h : s ≠ t) : Nat.beq s t = false := by
 cases hb : Nat.beq s t
 ·rfl
 ·exact absurd (Nat.eq_of_beq_eq_true hb) h
theorem zci (t : Nat) : Nat.beq t t = true := by simp
theorem zaO {s t : Nat} (h : Nat.beq s t = false) : s ≠ t := by
 rintro rfl; rw [zci] at h; cases h
def look {α : Type} : List (Nat × α) → Nat → Option α
 | [], _ => none
 | (k, c) :: r, t => cond (Nat.beq k t) (some c) (look r t)
theorem zb {α : Type} (t : Nat) (c : α) (l : List (Nat × α)) : look ((t, c) :: l) t = some c := by simp [look]
theorem zd {α : Type} {t s : Nat} (c : α) (l : List (Nat × α)) (h : s ≠ t) : look ((s, c) :: l) t = look l t := by
 simp [look, zc9 h]

def RowR (w : World) (F : Nat → Prop) (ι : Nat → Option Value) (e : TypeId) (k n : Nat) (cs : List Dat) (v : Value) : Prop :=
 ∃ xs, w.ownsRow 0 e k v n xs ∧ xs.length = cs.length ∧ ∀ (i : Nat) (c : Dat) (u : Value), cs[i]? = some c → xs[i]? = some u → DRel w (FreeB F ι) c u
theorem RowR.lt {w : World} {F : Nat → Prop} {ι : Nat → Option Value} {e : TypeId} {k n : Nat} {cs : List Dat} {v : Value} (h : RowR w F ι e k n cs v) {r : Nat} (hr : blockOf v = some r) : r < w.heap.size := by
 obtain ⟨xs, hown, _⟩ := h
 refine (hown.lt r ?_).2
 cases v <;> simp [blockOf] at hr <;> first | (rename_i a _ _; cases a <;> simp_all [Value.ownBlock]) | (rcases hown.2 with ⟨h1, _⟩ | ⟨_, _, _, h1, _⟩ <;> cases h1)
theorem RowR.via {w w' : World} {F F' : Nat → Prop} {ι ι' : Nat → Option Value} {e : TypeId} {k n : Nat} {cs : List Dat} {v : Value} (h : RowR w F ι e k n cs v)
  (hD : ∀ c u, DRel w (FreeB F ι) c u → DRel w' (FreeB F' ι') c u) (hs : ∀ r, blockOf v = some r → w'.heap[r]? = w.heap[r]?) : RowR w' F' ι' e k n cs v := by
 obtain ⟨xs, hown, hl, h⟩ := h
 refine ⟨xs, ⟨hown.1, ?_⟩, hl, fun i c u h1 h2 => hD _ _ (h i c u h1 h2)⟩
 rcases hown.2 with h1 | ⟨g, cap, cur, rfl, hb, hg, rest⟩
 ·exact .inl h1
 ·exact .inr ⟨g, cap, cur, rfl, hb, (hs g rfl).trans hg, rest⟩

def BRel (w : World) (F : Nat → Prop) (ι : Nat → Option Value) : ABlk → Value → Prop
 | .var cs, v => ∃ r C T, v = .pointer (some ⟨r, 0, none⟩) ∧ w.heap[r]? = some (.cells C T (0, 0)) ∧ C.size = cs.length ∧ ∀ (i : Nat) (c : AVal) (u : Value), cs[i]? = some c → C[i]? = some u → VRel w F ι c u
 | .row e k n cs, v => ∃ xs, w.ownsRow 0 e k v n xs ∧ xs.length = cs.length ∧ ∀ (i : Nat) (c : Dat) (u : Value), cs[i]? = some c → xs[i]? = some u → DRel w (FreeB F ι) c u
 | .rowA e k n cs, v => ∃ xs, w.ownsRow 0 e k v n xs ∧ xs.length = cs.length ∧ ∀ (i : Nat) (c : AVal) (u : Value), cs[i]? = some c → xs[i]? = some u → VRel w F ι c u
 | .it o, v => ∃ r, v = .pointer (some ⟨r, 0, none⟩) ∧ w.heap[r]? = some o
 | .rowx hv e k n cs, v => v = hv ∧ RowR w F ι e k n cs v
 | .mapx r bs clk es, v => ∃ E, v = .map (some r) ∧ w.heap[r]? = some (.map E clk) ∧ E.size = es.length ∧ (∀ (i : Nat) (p : AVal × AVal) (m : MapEntry), es[i]? = some p → E[i]? = some m → VRel w F ι p.1 m.key ∧ VRel w F ι p.2 m.val) ∧
   E.toList.map (·.born) = bs ∧ bs.Pairwise (fun a b => a < b) ∧ ∀ b ∈ bs, b < clk
 | .map es, v => ∃ r E clk, v = .map (some r) ∧ w.heap[r]? = some (.map E clk) ∧ E.size = es.length ∧ (∀ (i : Nat) (p : AVal × AVal) (m : MapEntry), es[i]? = some p → E[i]? = some m → VRel w F ι p.1 m.key ∧ VRel w F ι p.2 m.val) ∧
   (∀ (i j : Nat) (m m' : MapEntry), i < j → E[i]? = some m → E[j]? = some m' → m.born < m'.born) ∧ ∀ (i : Nat) (m : MapEntry), E[i]? = some m → m.born < clk

theorem BRel.viaX {w w' : World} {F F' : Nat → Prop} {ι ι' : Nat → Option Value} {hv : Value} {e : TypeId} {k n : Nat} {cs : List Dat} {v : Value} (h : BRel w F ι (.rowx hv e k n cs) v)
  (hD : ∀ c u, DRel w (FreeB F ι) c u → DRel w' (FreeB F' ι') c u) (hs : ∀ r, blockOf v = some r → w'.heap[r]? = w.heap[r]?) : BRel w' F' ι' (.rowx hv e k n cs) v :=
 ⟨h.1, h.2.via hD hs⟩

theorem BRel.lt {w : World} {F : Nat → Prop} {ι : Nat → Option Value} {b : ABlk} {v : Value} (h : BRel w F ι b v) {r : Nat} (hr : blockOf v = some r) : r < w.heap.size := by
 cases b with
 | var cs => obtain ⟨r', C, T, rfl, hc, _⟩ := h; simp [blockOf] at hr; subst hr; exact (Array.getElem?_eq_some_iff.1 hc).1
 | row e k n cs =>
  obtain ⟨xs, hown, _⟩ := h
  refine (hown.lt r ?_).2
  cases v <;> simp [blockOf] at hr <;> first | (rename_i a _ _; cases a <;> simp_all [Value.ownBlock]) | (rcases hown.2 with ⟨h1, _⟩ | ⟨_, _, _, h1, _⟩ <;> cases h1)
 | rowA e k n cs =>
  obtain ⟨xs, hown, _⟩ := h
  refine (hown.lt r ?_).2
  cases v <;> simp [blockOf] at hr <;> first | (rename_i a _ _; cases a <;> simp_all [Value.ownBlock]) | (rcases hown.2 with ⟨h1, _⟩ | ⟨_, _, _, h1, _⟩ <;> cases h1)
 | map es => obtain ⟨r', E, clk, rfl, hc, _⟩ := h; simp [blockOf] at hr; subst hr; exact (Array.getElem?_eq_some_iff.1 hc).1
 | mapx r0 bs0 clk0 es => obtain ⟨E, rfl, hc, _⟩ := h; simp [blockOf] at hr; subst hr; exact (Array.getElem?_eq_some_iff.1 hc).1
 | rowx hv e k n cs =>
  exact h.2.lt hr
 | it o => obtain ⟨r', rfl, hc⟩ := h; simp [blockOf] at hr; subst hr; exact (Array.getElem?_eq_some_iff.1 hc).1

theorem BRel.ext {w w' : World} {F : Nat → Prop} {ι ι' : Nat → Option Value} {b : ABlk} {v : Value} (h : BRel w F ι b v) (he : Ext w F ι w' ι')
  (hid : ∀ id v, ι' id = some v → ι id = some v) (hs : ∀ r, blockOf v = some r → w'.heap[r]? = w.heap[r]?) : BRel w' F ι' b v := by
 cases b with
 | var cs =>
  obtain ⟨r, C, T, rfl, hc, hl, h⟩ := h
  exact ⟨r, C, T, rfl, (hs r rfl).trans hc, hl, fun i c u h1 h2 => (h i c u h1 h2).ext he fun id v _ => hid id v⟩
 | row e k n cs =>
  obtain ⟨xs, hown, hl, h⟩ := h
  refine ⟨xs, ⟨hown.1, ?_⟩, hl, fun i c u h1 h2 => (h i c u h1 h2).ext he.mem he.free⟩
  rcases hown.2 with h1 | ⟨g, cap, cur, rfl, hb, hg, rest⟩
  ·exact .inl h1
  ·exact .inr ⟨g, cap, cur, rfl, hb, (hs g rfl).trans hg, rest⟩
 | rowA e k n cs =>
  obtain ⟨xs, hown, hl, h⟩ := h
  refine ⟨xs, ⟨hown.1, ?_⟩, hl, fun i c u h1 h2 => (h i c u h1 h2).ext he fun id v _ => hid id v⟩
  rcases hown.2 with h1 | ⟨g, cap, cur, rfl, hb, hg, rest⟩
  ·exact .inl h1
  ·exact .inr ⟨g, cap, cur, rfl, hb, (hs g rfl).trans hg, rest⟩
 | map es =>
  obtain ⟨r, E, clk, rfl, hc, hl, h, h3⟩ := h
  exact ⟨r, E, clk, rfl, (hs r rfl).trans hc, hl, fun i p m h1 h2 => ⟨(h i p m h1 h2).1.ext he fun id v _ => hid id v, (h i p m h1 h2).2.ext he fun id v _ => hid id v⟩, h3⟩
 | mapx r0 bs0 clk0 es =>
  obtain ⟨E, rfl, hc, hl, h, h3⟩ := h
  exact ⟨E, rfl, (hs _ rfl).trans hc, hl, fun i p m h1 h2 => ⟨(h i p m h1 h2).1.ext he fun id v _ => hid id v, (h i p m h1 h2).2.ext he fun id v _ => hid id v⟩, h3⟩
 | rowx hv e k n cs => exact h.viaX (fun c u h => h.ext he.mem he.free) hs
 | it o => obtain ⟨r, rfl, hc⟩ := h; exact ⟨r, rfl, (hs r rfl).trans hc⟩

def killV (id : Nat) (c : AVal) : AVal := cond (c.has id) .top c
def killE (id : Nat) : Env → Env
 | [] => []
 | (k, c) :: r => (k, killV id c) :: killE id r
def killB (id : Nat) : ABlk → ABlk
 | .var cs => .var (cs.map (killV id))
 | .row e k n cs => .row e k n cs
 | .rowA e k n cs => .rowA e k n (cs.map (killV id))
 | .map es => .map (es.map fun p => (killV id p.1, killV id p.2))
 | .mapx r bs clk es => .mapx r bs clk (es.map fun p => (killV id p.1, killV id p.2))
 | .it o => .it o
 | .rowx hv e k n cs => .rowx hv e k n cs
def killH (id : Nat) : Heap → Heap
 | [] => []
 | (k, b) :: r => cond (Nat.beq k id) (killH id r) ((k, killB id b) :: killH id r)

theorem zeW (id : Nat) (e : Env) (t : Nat) : look (killE id e) t = (look e t).map (killV id) := by
 induction e with
 | nil => rfl
 | cons p r ih =>
  show cond _ _ _ = Option.map _ (cond _ _ _)
  cases Nat.beq p.1 t
  ·exact ih
  ·rfl
theorem zc0 (id : Nat) (h : Heap) (t : Nat) : look (killH id h) t = if t = id then none else (look h t).map (killB id) := by
 induction h with
 | nil => simp [killH, look]
 | cons p r ih =>
  show look (cond _ _ _) t = _
  cases hb : Nat.beq p.1 id
  ·have hne : p.1 ≠ id := zaO hb
   by_cases hpt : p.1 = t
   ·rw [cond_false, ← hpt, zb, if_neg (by omega)]
    show _ = Option.map _ (cond _ _ _)
    rw [zci]; rfl
   ·rw [cond_false, zd _ _ hpt, ih]
    split
    ·rfl
    ·show _ = Option.map _ (cond _ _ _)
     rw [zc9 hpt]; rfl
  ·have he : p.1 = id := Nat.eq_of_beq_eq_true hb
   rw [cond_true, ih]
   split
   ·rfl
   ·show _ = Option.map _ (cond _ _ _)
    rw [zc9 (by omega)]; rfl

def upd (ι : Nat → Option Value) (id : Nat) (v : Option Value) : Nat → Option Value := fun j => if j = id then v else ι j

structure FreshOk (Pm : Nat → Prop) (w0 : World) : Prop where
 go : ∀ r, w0.heap.size ≤ r → Pm r
 low : ∀ r, r < gN → ¬ Pm r
 glob : GlobOk w0
instance {Pm : Nat → Prop} {w0 : World} : CoeFun (FreshOk Pm w0) fun _ => ∀ r, w0.heap.size ≤ r → Pm r := ⟨FreshOk.go⟩
structure HRel (Pm F : Nat → Prop) (w0 : World) (pin : Nat → Option Value) (ι : Nat → Option Value) (h : Heap) (w : World) : Prop where
 blk : ∀ id b, look h id = some b → ∃ v, ι id = some v ∧ BRel w F ι b v
 dom : ∀ id v, ι id = some v → ∃ b, look h id = some b
 inj : ∀ i j v v' r, i ≠ j → ι i = some v → ι j = some v' → blockOf v = some r → blockOf v' ≠ some r
 pm : ∀ i v r, ι i = some v → blockOf v = some r → Pm r
 os : w.os = w0.os
 tape : w.tape = w0.tape
 output : w.output = w0.output
 size : w0.heap.size ≤ w.heap.size
 keep : ∀ r, r < w0.heap.size → ¬ Pm r → w.heap[r]? = w0.heap[r]?
 fresh : FreshOk Pm w0
 pinned : ∀ id v, 1000 ≤ id → ι id = some v → pin id = some v
 nf : ∀ i v r, ι i = some v → blockOf v = some r → ¬ F r
 forb : ∀ r, F r → r < w0.heap.size

section
variable {Pm F : Nat → Prop} {w0 w w' : World} {pin ι ι' : Nat → Option Value} {h h' : Heap}
theorem HRel.glob (H : HRel Pm F w0 pin ι h w) : GlobOk w := H.fresh.glob.keep H.size fun r hr => H.keep r (Nat.lt_of_lt_of_le hr H.fresh.glob.size) (H.fresh.low r hr)
theorem HRel.lowL (H : HRel Pm F w0 pin ι h w) {Pm' : Nat → Prop} (hp : ∀ r, Pm' r → w.heap.size ≤ r ∨ ∃ i v, ι i = some v ∧ blockOf v = some r) (hf : ∀ r, w.heap.size ≤ r → Pm' r) : FreshOk Pm' w :=
 ⟨hf, fun r hr h => by
  rcases hp r h with h1 | ⟨i, v, h1, h2⟩
  ·have := H.glob.size; omega
  ·exact H.fresh.low r hr (H.pm i v r h1 h2), H.glob⟩
theorem HRel.lt (H : HRel Pm F w0 pin ι h w) {i : Nat} {v : Value} {r : Nat} (hi : ι i = some v) (hr : blockOf v = some r) : r < w.heap.size := by
 obtain ⟨b, hb⟩ := H.dom i v hi
 obtain ⟨v', hv', hB⟩ := H.blk i b hb
 rw [hi] at hv'; cases hv'
 exact hB.lt hr

theorem VRel.killed {id : Nat} {v' : Option Value} {c : AVal} {u : Value} (hc : VRel w F ι c u) (he : Ext w F ι w' (upd ι id v')) : VRel w' F (upd ι id v') (killV id c) u := by
 unfold killV
 cases hh : c.has id with
 | true => exact .top u
 | false =>
  refine hc.ext he fun j v hj hv => ?_
  unfold upd at hv
  split at hv
  ·rename_i he; subst he; rw [hh] at hj; cases hj
  ·exact hv

theorem BRel.killed {id : Nat} {v' : Option Value} {b : ABlk} {v : Value} (hb : BRel w F ι b v) (he : Ext w F ι w' (upd ι id v')) (hs : ∀ r, blockOf v = some r → w'.heap[r]? = w.heap[r]?) : BRel w' F (upd ι id v') (killB id b) v := by
 cases b with
 | var cs =>
  obtain ⟨r, C, T, rfl, hc, hl, h⟩ := hb
  refine ⟨r, C, T, rfl, (hs r rfl).trans hc, by simpa using hl, fun i c u h1 h2 => ?_⟩
  rw [List.getElem?_map] at h1
  cases hi : cs[i]? with
  | none => simp [hi] at h1
  | some c' => simp [hi] at h1; subst h1; exact (h i c' u hi h2).killed he
 | row e k n cs =>
  obtain ⟨xs, hown, hl, h⟩ := hb
  refine ⟨xs, ⟨hown.1, ?_⟩, hl, fun i c u h1 h2 => (h i c u h1 h2).ext he.mem he.free⟩
  rcases hown.2 with h1 | ⟨g, cap, cur, rfl, hb, hg, rest⟩
  ·exact .inl h1
  ·exact .inr ⟨g, cap, cur, rfl, hb, (hs g rfl).trans hg, rest⟩
 | rowA e k n cs =>
  obtain ⟨xs, hown, hl, h⟩ := hb
  refine ⟨xs, ⟨hown.1, ?_⟩, by simpa using hl, fun i c u h1 h2 => ?_⟩
  ·rcases hown.2 with h1 | ⟨g, cap, cur, rfl, hb, hg, rest⟩
   ·exact .inl h1
   ·exact .inr ⟨g, cap, cur, rfl, hb, (hs g rfl).trans hg, rest⟩
  ·rw [List.getElem?_map] at h1
   cases hi : cs[i]? with
   | none => simp [hi] at h1
   | some c' => simp [hi] at h1; subst h1; exact (h i c' u hi h2).killed he
 | map es =>
  obtain ⟨r, E, clk, rfl, hc, hl, h, h3⟩ := hb
  refine ⟨r, E, clk, rfl, (hs r rfl).trans hc, by simpa using hl, fun i p m h1 h2 => ?_, h3⟩
  rw [List.getElem?_map] at h1
  cases hi : es[i]? with
  | none => simp [hi] at h1
  | some p' => simp [hi] at h1; subst h1; exact ⟨(h i p' m hi h2).1.killed he, (h i p' m hi h2).2.killed he⟩
 | mapx r0 bs0 clk0 es =>
  obtain ⟨E, rfl, hc, hl, h, h3⟩ := hb
  refine ⟨E, rfl, (hs _ rfl).trans hc, by simpa using hl, fun i p m h1 h2 => ?_, h3⟩
  rw [List.getElem?_map] at h1
  cases hi : es[i]? with
  | none => simp [hi] at h1
  | some p' => simp [hi] at h1; subst h1; exact ⟨(h i p' m hi h2).1.killed he, (h i p' m hi h2).2.killed he⟩
 | rowx hv e k n cs => exact hb.viaX (fun c u h => h.ext he.mem he.free) hs
 | it o => obtain ⟨r, rfl, hc⟩ := hb; exact ⟨r, rfl, (hs r rfl).trans hc⟩

structure Touch (w : World) (ι : Nat → Option Value) (id : Nat) (v' : Value) (w' : World) : Prop where
 os : w'.os = w.os
 tape : w'.tape = w.tape
 output : w'.output = w.output
 size : w.heap.size ≤ w'.heap.size
 mem : ∀ r, r < w.heap.size → (∀ v, ι id = some v → blockOf v ≠ some r) → w'.heap[r]? = w.heap[r]?
 blk : ∀ r, blockOf v' = some r → w.heap.size ≤ r ∨ ∃ v, ι id = some v ∧ blockOf v = some r
theorem Touch.ext {id : Nat} {v' : Value} (T : Touch w ι id v' w') : Ext w F ι w' (upd ι id (some v')) := by
 refine ⟨fun r hr hf => T.mem r hr fun v hv => hf.2 id v hv, fun r hr hf => ⟨hf.1, fun j v hj => ?_⟩⟩
 unfold upd at hj
 split at hj
 ·cases hj
  intro hb
  rcases T.blk r hb with h1 | ⟨v2, h1, h2⟩
  ·omega
  ·exact hf.2 id v2 h1 h2
 ·exact hf.2 j v hj
theorem HRel.touch (H : HRel Pm F w0 pin ι h w) {id : Nat} {v' : Value} {b' : ABlk} (T : Touch w ι id v' w') (hpin : id < 1000 ∨ ι id = some v')
  (hb : BRel w' F (upd ι id (some v')) b' v') : HRel Pm F w0 pin (upd ι id (some v')) ((id, b') :: killH id h) w' := by
 have he := T.ext (F := F)
 have hsame : ∀ j v r, j ≠ id → ι j = some v → blockOf v = some r → w'.heap[r]? = w.heap[r]? := fun j v r hj hv hr =>
  T.mem r (H.lt hv hr) fun v2 hv2 => H.inj j id v v2 r hj hv hv2 hr
 refine ⟨?_, ?_, ?_, ?_, T.os.trans H.os, T.tape.trans H.tape, T.output.trans H.output, Nat.le_trans H.size T.size, ?_, H.fresh, ?_, ?_, H.forb⟩
 ·intro j b hj
  by_cases hji : id = j
  ·subst hji
   rw [zb] at hj
   cases hj
   exact ⟨v', by simp [upd], hb⟩
  ·rw [zd _ _ hji, zc0, if_neg (by omega)] at hj
   cases hl : look h j with
   | none => simp [hl] at hj
   | some b0 =>
    simp [hl] at hj
    subst hj
    obtain ⟨v, hv, hB⟩ := H.blk j b0 hl
    exact ⟨v, by simp [upd, Ne.symm hji, hv], hB.killed he fun r hr => hsame j v r (Ne.symm hji) hv hr⟩
 ·intro j v hj
  by_cases hji : id = j
  ·subst hji; exact ⟨b', zb _ _ _⟩
  ·have hj' : ι j = some v := by simpa [upd, Ne.symm hji] using hj
   obtain ⟨b, hb⟩ := H.dom j v hj'
   exact ⟨killB id b, by rw [zd _ _ hji, zc0, if_neg (by omega), hb]; rfl⟩
 ·intro i j v v2 r hij hi hj hr hr2
  have old : ∀ k u, k ≠ id → upd ι id (some v') k = some u → ι k = some u := fun k u hk hu => by simpa [upd, hk] using hu
  have cross : ∀ k u, k ≠ id → ι k = some u → blockOf u = some r → blockOf v' ≠ some r := fun k u hk hu hr hr' => by
   rcases T.blk r hr' with h1 | ⟨v3, h1, h2⟩
   ·have := H.lt hu hr; omega
   ·exact H.inj k id u v3 r hk hu h1 hr h2
  by_cases h1 : i = id
  ·subst h1
   have : v = v' := by simpa [upd] using hi.symm
   subst this
   exact cross j v2 (Ne.symm hij) (old j v2 (Ne.symm hij) hj) hr2 hr
  ·by_cases h2 : j = id
   ·subst h2
    have : v2 = v' := by simpa [upd] using hj.symm
    subst this
    exact cross i v h1 (old i v h1 hi) hr hr2
   ·exact H.inj i j v v2 r hij (old i v h1 hi) (old j v2 h2 hj) hr hr2
 ·intro i v r hi hr
  by_cases h1 : i = id
  ·subst h1
   have : v = v' := by simpa [upd] using hi.symm
   subst this
   rcases T.blk r hr with h2 | ⟨v3, h2, h3⟩
   ·exact H.fresh r (Nat.le_trans H.size h2)
   ·exact H.pm i v3 r h2 h3
  ·exact H.pm i v r (by simpa [upd, h1] using hi) hr
 ·intro r hr hn
  rw [T.mem r (Nat.lt_of_lt_of_le hr H.size) fun v hv hb => hn (H.pm id v r hv hb)]
  exact H.keep r hr hn
 ·intro j v hj hv
  by_cases h1 : j = id
  ·subst h1
   have : v = v' := by simpa [upd] using hv.symm
   subst this
   rcases hpin with h2 | h2
   ·omega
   ·exact H.pinned j v hj h2
  ·exact H.pinned j v hj (by simpa [upd, h1] using hv)
 ·intro i v r hi hr hF
  by_cases h1 : i = id
  ·subst h1
   have : v = v' := by simpa [upd] using hi.symm
   subst this
   rcases T.blk r hr with h2 | ⟨v3, h2, h3⟩
   ·have := H.forb r hF; have := H.size; omega
   ·exact H.nf i v3 r h2 h3 hF
  ·exact H.nf i v r (by simpa [upd, h1] using hi) hr hF

structure Wrote (w : World) (v : Value) (w' : World) : Prop where
 os : w'.os = w.os
 tape : w'.tape = w.tape
 output : w'.output = w.output
 size : w.heap.size ≤ w'.heap.size
 mem : ∀ r, r < w.heap.size → blockOf v ≠ some r → w'.heap[r]? = w.heap[r]?
theorem Wrote.ext {id : Nat} {v : Value} (T : Wrote w v w') (hv : ι id = some v) : Ext w F ι w' ι :=
 ⟨fun r hr hf => T.mem r hr (hf.2 id v hv), fun r _ hf => hf⟩
theorem VRel.wrote {id : Nat} {v : Value} (T : Wrote w v w') (hv : ι id = some v) {c : AVal} {u : Value} (hc : VRel w F ι c u) : VRel w' F ι c u := hc.ext (T.ext hv) fun _ _ _ h => h
theorem HRel.wrote (H : HRel Pm F w0 pin ι h w) {id : Nat} {v : Value} {b' : ABlk} (T : Wrote w v w') (hv : ι id = some v) (hb : BRel w' F ι b' v) : HRel Pm F w0 pin ι ((id, b') :: h) w' := by
 have he := T.ext (F := F) hv
 have hsame : ∀ j v' r, j ≠ id → ι j = some v' → blockOf v' = some r → w'.heap[r]? = w.heap[r]? := fun j v' r hj hv' hr =>
  T.mem r (H.lt hv' hr) (H.inj j id v' v r hj hv' hv hr)
 refine ⟨?_, ?_, H.inj, H.pm, T.os.trans H.os, T.tape.trans H.tape, T.output.trans H.output, Nat.le_trans H.size T.size, ?_, H.fresh, H.pinned, H.nf, H.forb⟩
 ·intro j b hj
  by_cases hji : id = j
  ·subst hji
   rw [zb] at hj
   cases hj
   exact ⟨v, hv, hb⟩
  ·rw [zd _ _ hji] at hj
   obtain ⟨v', hv', hB⟩ := H.blk j b hj
   exact ⟨v', hv', hB.ext he (fun _ _ h => h) fun r hr => hsame j v' r (Ne.symm hji) hv' hr⟩
 ·intro j v' hj
  by_cases hji : id = j
  ·subst hji; exact ⟨b', zb _ _ _⟩
  ·obtain ⟨b, hb⟩ := H.dom j v' hj
   exact ⟨b, by rw [zd _ _ hji]; exact hb⟩
 ·intro r hr hn
  rw [T.mem r (Nat.lt_of_lt_of_le hr H.size) fun hb => hn (H.pm id v r hv hb)]
  exact H.keep r hr hn

structure Grew (w w' : World) : Prop where
 os : w'.os = w.os
 tape : w'.tape = w.tape
 output : w'.output = w.output
 size : w.heap.size ≤ w'.heap.size
 mem : ∀ r, r < w.heap.size → w'.heap[r]? = w.heap[r]?
theorem Grew.refl (w : World) : Grew w w := ⟨rfl, rfl, rfl, Nat.le_refl _, fun _ _ => rfl⟩
theorem Grew.drew (w : World) : Grew w { w with drawn := w.drawn + 1 } := ⟨rfl, rfl, rfl, Nat.le_refl _, fun _ _ => rfl⟩
theorem Grew.trans {w1 w2 w3 : World} (a : Grew w1 w2) (b : Grew w2 w3) : Grew w1 w3 :=
 ⟨b.os.trans a.os, b.tape.trans a.tape, b.output.trans a.output, Nat.le_trans a.size b.size, fun r hr => (b.mem r (Nat.lt_of_lt_of_le hr a.size)).trans (a.mem r hr)⟩
theorem Grew.of_below {w w' : World} (h : Below w.heap.size w w') : Grew w w' := ⟨h.os, h.tape, h.output, h.size, h.block⟩
theorem Grew.below {w w' : World} (h : Grew w w') : Below w.heap.size w w' := ⟨h.os, h.tape, h.output, h.size, h.mem⟩
theorem Grew.ext (G : Grew w w') : Ext w F ι w' ι := ⟨fun r hr _ => G.mem r hr, fun r _ hf => hf⟩
theorem VRel.grew (G : Grew w w') {c : AVal} {u : Value} (hc : VRel w F ι c u) : VRel w' F ι c u := hc.ext G.ext fun _ _ _ h => h
theorem HRel.grew (H : HRel Pm F w0 pin ι h w) (G : Grew w w') : HRel Pm F w0 pin ι h w' := by
 refine ⟨?_, H.dom, H.inj, H.pm, G.os.trans H.os, G.tape.trans H.tape, G.output.trans H.output, Nat.le_trans H.size G.size, ?_, H.fresh, H.pinned, H.nf, H.forb⟩
 ·intro j b hj
  obtain ⟨v, hv, hB⟩ := H.blk j b hj
  exact ⟨v, hv, hB.ext G.ext (fun _ _ h => h) fun r hr => G.mem r (hB.lt hr)⟩
 ·intro r hr hn
  rw [G.mem r (Nat.lt_of_lt_of_le hr H.size)]; exact H.keep r hr hn

def only (h' : Heap) (ι : Nat → Option Value) : Nat → Option Value := fun id => if (look h' id).isSome then ι id else none
theorem zag {h' : Heap} {ι : Nat → Option Value} {id : Nat} {v : Value} (hv : only h' ι id = some v) : ι id = some v := by
 unfold only at hv; split at hv
 ·exact hv
 ·cases hv
theorem zb4 (w : World) (F : Nat → Prop) (h' : Heap) (ι : Nat → Option Value) : Ext w F ι w (only h' ι) := ⟨fun _ _ _ => rfl, fun r _ hf => ⟨hf.1, fun id v hv => hf.2 id v (zag hv)⟩⟩
theorem VRel.only {c : AVal} {u : Value} (hc : VRel w F ι c u) (h' : Heap) : VRel w F (only h' ι) c u := hc.ext (zb4 w F h' ι) fun _ _ _ hv => zag hv
theorem HRel.only (H : HRel Pm F w0 pin ι h w) (hs : ∀ id b, look h' id = some b → look h id = some b) : HRel Pm F w0 pin (only h' ι) h' w := by
 refine ⟨?_, ?_, fun i j v v' r hij hi hj => H.inj i j v v' r hij (zag hi) (zag hj), fun i v r hi => H.pm i v r (zag hi), H.os, H.tape, H.output, H.size, H.keep, H.fresh, fun id v h1 hv => H.pinned id v h1 (zag hv), fun i v r hi => H.nf i v r (zag hi), H.forb⟩
 ·intro j b hj
  obtain ⟨v, hv, hB⟩ := H.blk j b (hs j b hj)
  exact ⟨v, by simp [Ab.only, hj, hv], hB.ext (zb4 w F h' ι) (fun _ _ h => zag h) fun _ _ => rfl⟩
 ·intro j v hj
  unfold Ab.only at hj
  split at hj
  ·rename_i hs; exact Option.isSome_iff_exists.1 hs
  ·cases hj
end

def EnvRel (w : World) (F : Nat → Prop) (ι : Nat → Option Value) (e : Env) (a : Act) : Prop := ∀ t c, look e t = some c → ∃ u, a.tmps[t]? = some u ∧ VRel w F ι c u
def markOf (r : Nat) : Deferred := { target := .collected r, args := #[] }
structure MkOk (B : Nat → Prop) (w : World) (F : Nat → Prop) (ι : Nat → Option Value) (ds : List Deferred) : Prop where
 all : ∀ d ∈ ds, ∃ r, d = markOf r ∧ B r ∧ w.heap[r]? = some (.deferred (some [])) ∧ FreeB F ι r
 apart : ds.Pairwise fun a b => a ≠ b
theorem MkOk.nil {B : Nat → Prop} {w : World} {F : Nat → Prop} {ι : Nat → Option Value} : MkOk B w F ι [] := ⟨by simp, .nil⟩
theorem MkOk.ext {B : Nat → Prop} {w w' : World} {F : Nat → Prop} {ι ι' : Nat → Option Value} {ds : List Deferred} (M : MkOk B w F ι ds) (he : Ext w F ι w' ι') : MkOk B w' F ι' ds :=
 ⟨fun d hd => by
  obtain ⟨r, h1, h2, h3, h4⟩ := M.all d hd
  have hlt : r < w.heap.size := (Array.getElem?_eq_some_iff.1 h3).1
  exact ⟨r, h1, h2, by rw [he.mem r hlt h4]; exact h3, he.free r hlt h4⟩, M.apart⟩
structure Rel (Pm F : Nat → Prop) (w0 : World) (pin : Nat → Option Value) (ι : Nat → Option Value) (nt : Nat) (e : Env) (h : Heap) (a : Act) (w : World) : Prop where
 heap : HRel Pm F w0 pin ι h w
 env : EnvRel w F ι e a
 defers : MkOk Pm w F ι a.defers
 size : nt ≤ a.tmps.size
end Go.Proofs.YtoahnbmedcjpeaaGreatDoor.Ab

namespace Go.Proofs.YtoahnbmedcjpeaaGreatDoor.Ab
open Go
def Fq (l : Option Nat) : Fence := { Fence.wide with round := l }
def notDef (o : Oper) : Bool := match o.op with
 | .defer _ => false
 | _ => true
section
variable {P : Program} {l : Option Nat} {n : Nat}
theorem zep (h : (Fq l).depth.isSome = true) : 1 ≤ n := by simp [Fq, Fence.wide] at h
theorem zhu {f : FuncId} {us : Array Value} {w : World} {R : Ending → World → Prop} (h : Calls P f us w R) : CallsIn (Fq l) n P f us w R := callsIn_wide (n := n) |>.2 h
theorem zhb {f : FuncId} {us : Array Value} {w : World} {R : Ending → World → Prop} (h : CallsIn (Fq l) n P f us w R) : Calls P f us w R := callsIn_wide (n := n) |>.1 h
theorem zih {row : String} {us : Array Value} {w : World} {R : Value → World → Prop} (h : Rows P row us w R) : RowsIn (Fq l) n P row us w R :=
 fun c cs _ => let ⟨v, w', r, s⟩ := h c cs; ⟨v, w', r, stepsIn_wide.2 s⟩
theorem zh7 {o : Oper} {a : Act} {K : Act → World → Prop} {Q : Exit → Act → World → Prop} {r : Result Next} (h : o.upon P a K Q r) : o.uponIn (Fq l) n P a K Q r := by
 cases r with
 | ok x w' =>
  cases x with
  | enter f args => exact ⟨zep, (zhu h).mono fun e w2 he => by cases e <;> exact he⟩
  | row row args => exact ⟨zep, zih h⟩
  | value v => exact h
  | skip => exact h
  | defer d => exact h
  | _ => exact h.elim
 | halt x w' =>
  cases x with
  | panic v => exact h
  | _ => exact h.elim
theorem zdB {o : Oper} (hd : notDef o = true) (ρ : Operand → Value) : o.semAt l ρ = execOp ρ o := by
 unfold Oper.semAt
 cases l with
 | none => rfl
 | some l =>
  unfold notDef at hd
  cases ho : o.op <;> first | rfl | (rw [ho] at hd; cases hd)
theorem zgL {o : Oper} {a : Act} {w : World} {K : Act → World → Prop} {Q : Exit → Act → World → Prop} (hd : notDef o = true) (h : o.wp P a w K Q) : o.wpIn (Fq l) n P a w K Q :=
 ⟨fun _ _ => trivial, by
  show o.uponIn (Fq l) n P a K Q ((o.semAt l a.eval).run P w)
  rw [zdB hd]
  exact zh7 h⟩
theorem zhE {α : Type} {p : α → Bool} {x : α} {r : List α} (h : (x :: r).all p = true) : p x = true := by simp at h; exact h.1
theorem zfa {α : Type} {p : α → Bool} {x : α} {r : List α} (h : (x :: r).all p = true) : r.all p = true := by simp at h ⊢; exact h.2
theorem zkg {p : Oper → Bool} {ops : Array Oper} {i : Nat} {o : Oper} (h : ops.toList.all p = true) (hi : ops[i]? = some o) : p o = true :=
 List.all_eq_true.1 h o (Array.mem_toList_iff.2 (Array.mem_of_getElem? hi))
theorem zh4 {ops : Array Oper} {Q : Exit → Act → World → Prop} {i : Nat} {K K' : Act → World → Prop} {a : Act} {w : World} (hno : ¬ LetsOut Q) (hd : ops.toList.all notDef = true) (hK : ∀ a w, K a w → K' a w) (h : wpOp P ops Q i K a w) : wpOpIn (Fq l) n P ops Q i K' a w := by
 unfold wpOp at h
 unfold wpOpIn
 split
 ·rename_i ho; simp only [ho] at h; exact hK _ _ h
 ·rename_i o ho
  simp only [ho] at h
  split
  ·rename_i hw
   rw [if_pos hw] at h
   rcases h with h | ⟨_, h⟩
   ·exact Oper.wpIn_mono hK (zgL (zkg hd ho) h)
   ·exact absurd h hno
  ·rename_i hw
   rw [if_neg hw] at h
   exact ⟨fun _ _ => trivial, hK _ _ h⟩
theorem ze9 {ops : Array Oper} {md : Region.Mode} {Q : Exit → Act → World → Prop} (hno : ¬ LetsOut Q) (hd : ops.toList.all notDef = true) : ∀ (fuel : Nat) (listed : Array Bool) (a : Act) (w : World), wpAny P md ops Q fuel listed a w → wpAnyIn (Fq l) n P md ops Q fuel listed a w
 | 0, _, _, _, h => h
 | fuel + 1, _, _, _, h => ⟨h.1, fun i hi => zh4 hno hd (fun a w h => ze9 hno hd fuel _ a w h) (h.2 i hi)⟩
end
end Go.Proofs.YtoahnbmedcjpeaaGreatDoor.Ab

namespace Go.Proofs.YtoahnbmedcjpeaaGreatDoor.Ab
open Go.RowKit

inductive Sh where
 | sl (e : TypeId)
 | st (fs : List (Nat × TypeId))
 | ar (n : Nat) (e : TypeId)
 | mp (k e : TypeId)
 | pt (e : TypeId)
 | it (k : IntKind)
 | bo
 | str
 | fu
 | other
structure TE where
 size : Nat
 bytes : Nat
 agg : Bool
 zero : List Value
 sh : Sh
def isAggD : TypeDesc → Bool
 | .struct _ => true
 | .array _ _ => true
 | _ => false
def ShOk : Sh → TypeDesc → Prop
 | .sl e, d => d = .slice e
 | .st fs, d => ∃ F, d = .struct F ∧ F.toList.map (fun f => (f.offset, f.type)) = fs ∧ F.toList.all (fun f => f.name != "_") = true
 | .ar n e, d => d = .array n e
 | .mp k e, d => d = .map k e
 | .pt e, d => d = .pointer e
 | .it k, d => d = .int k
 | .bo, d => d = .bool
 | .str, d => d = .string
 | .fu, d => ∃ a b c, d = .func a b c
 | .other, _ => True
structure TFacts (P : Program) (t : TypeId) (te : TE) : Prop where
 info : (P.info? t).map (fun i => (i.size, i.bytes, i.zero.map (·.cells.toList))) = some (te.size, te.bytes, some te.zero)
 und : ∃ d, P.underlying t = some d ∧ isAggD d = te.agg ∧ ShOk te.sh d
inductive TTab where
 | leaf
 | node (k : Nat) (v : TE) (l r : TTab)
def tlook : TTab → Nat → Option TE
 | .leaf, _ => none
 | .node k v l r, t => cond (Nat.beq t k) (some v) (cond (Nat.blt t k) (tlook l t) (tlook r t))
def TTab.all (p : Nat → TE → Bool) : TTab → Bool
 | .leaf => true
 | .node k v l r => p k v && l.all p && r.all p
theorem TTab.of_all {p : Nat → TE → Bool} {tab : TTab} (h : tab.all p = true) {t : Nat} {te : TE} (ht : tlook tab t = some te) : p t te = true := by
 induction tab with
 | leaf => cases ht
 | node k v l r ihl ihr =>
  simp only [TTab.all, Bool.and_eq_true] at h
  rw [tlook] at ht
  cases hb : Nat.beq t k with
  | true => rw [hb] at ht; cases ht; rw [Nat.eq_of_beq_eq_true hb]; exact h.1.1
  | false =>
   rw [hb, cond_false] at ht
   cases hc : Nat.blt t k with
   | true => rw [hc] at ht; exact ihl h.1.2 ht
   | false => rw [hc] at ht; exact ihr h.2 ht
def TabOk (P : Program) (tab : TTab) : Prop := ∀ t te, tlook tab t = some te → TFacts P t te
theorem TabOk.leaf (P : Program) : TabOk P .leaf := fun _ _ h => by cases h
theorem TabOk.node {P : Program} {l r : TTab} {k : Nat} {v : TE} (h1 : TFacts P k v) (hl : TabOk P l) (hr : TabOk P r) : TabOk P (.node k v l r) := fun s se hs => by
 rw [tlook] at hs
 cases hb : Nat.beq s k with
 | true => rw [hb] at hs; cases hs; rw [Nat.eq_of_beq_eq_true hb]; exact h1
 | false =>
  rw [hb, cond_false] at hs
  cases hc : Nat.blt s k with
  | true => rw [hc] at hs; exact hl s se hs
  | false => rw [hc] at hs; exact hr s se hs
section
variable {P : Program} {t : TypeId} {te : TE} (w : World)
theorem TFacts.size (T : TFacts P t te) : (sizeOf t).run P w = .ok te.size w := by
 have h := T.info
 cases hi : P.info? t with
 | none => simp [hi] at h
 | some i => simp [hi] at h; simp [sizeOf, typeInfo, hi, h.1]
theorem TFacts.run_agg (T : TFacts P t te) : (isAgg t).run P w = .ok te.agg w := by
 obtain ⟨d, hd, ha, _⟩ := T.und
 unfold isAgg
 rw [Sem.run_bind, run_underlying hd, Result.andThen_ok, ← ha]
 cases d <;> rfl
theorem TFacts.cellsOf (T : TFacts P t te) : P.cellsOf t = te.size := by
 have h := T.info
 cases hi : P.info? t with
 | none => simp [hi] at h
 | some i => simp [hi] at h; simp [Program.cellsOf, hi, h.1]
theorem TFacts.zero (T : TFacts P t te) : ∃ z, (zeroValue t).run P w = .ok z w ∧ z.cells.toList = te.zero ∧ ∃ i, P.info? t = some i ∧ i.zero = some z ∧ i.size = te.size ∧ i.bytes = te.bytes := by
 have h := T.info
 cases hi : P.info? t with
 | none => simp [hi] at h
 | some i =>
  simp [hi] at h
  obtain ⟨h1, h2, z, h3, h4⟩ := h
  exact ⟨z, by simp [zeroValue, typeInfo, hi, h3], h4, i, rfl, h3, h1, h2⟩
end

def aconst1 (v : Value) : AVal := if v.oneCell' then .d (.sc v) else .top
def aconst (v : Value) : AVal := match v with
 | .agg C => .agg (C.toList.map aconst1)
 | v => aconst1 v
def aev (e : Env) : Operand → Option AVal
 | .tmp t => look e t
 | .const v => some (aconst v)
 | .func f => some (.fn f [])
 | .global _ => none
section
variable {w : World} {F : Nat → Prop} {ι : Nat → Option Value} {e : Env} {a : Act}
theorem zcC (v : Value) : VRel w F ι (aconst1 v) v := by
 unfold aconst1
 split
 ·rename_i h; exact .d _ _ (.sc v h)
 ·exact .top v
theorem zfc (v : Value) : VRel w F ι (aconst v) v := by
 unfold aconst
 split
 ·rename_i C
  refine .agg _ _ (by simp) fun i c u hc hu => ?_
  rw [List.getElem?_map, Array.getElem?_toList, hu] at hc
  cases hc
  exact zcC u
 ·exact zcC v
theorem zm (H : EnvRel w F ι e a) {x : Operand} {c : AVal} (h : aev e x = some c) : VRel w F ι c (a.eval x) := by
 cases x with
 | tmp t => obtain ⟨u, hu, hv⟩ := H t c h; simpa [Act.eval, hu] using hv
 | const v => cases h; exact zfc v
 | func f => cases h; exact .fn f [] #[] rfl (by simp)
 | global g => cases h
theorem EnvRel.put (H : EnvRel w F ι e a) {t : Nat} (ht : t < a.tmps.size) {c : AVal} {u : Value} (hc : VRel w F ι c u) : EnvRel w F ι ((t, c) :: e) (a.put (some t) u) := by
 intro s c' hs
 by_cases hts : t = s
 ·subst hts
  rw [zb] at hs; cases hs
  exact ⟨u, by simp [Act.put, ht], hc⟩
 ·rw [zd _ _ hts] at hs
  obtain ⟨u', hu', hv'⟩ := H s c' hs
  exact ⟨u', by simp [Act.put, Array.getElem?_setIfInBounds_ne hts, hu'], hv'⟩
theorem EnvRel.mono {w' : World} {ι' : Nat → Option Value} (H : EnvRel w F ι e a) (h : ∀ t c u, look e t = some c → VRel w F ι c u → VRel w' F ι' c u) : EnvRel w' F ι' e a :=
 fun t c ht => let ⟨u, hu, hv⟩ := H t c ht; ⟨u, hu, h t c u ht hv⟩
theorem EnvRel.killed {w' : World} {id : Nat} {v' : Option Value} (H : EnvRel w F ι e a) (he : Ext w F ι w' (upd ι id v')) : EnvRel w' F (upd ι id v') (killE id e) a := by
 intro t c ht
 rw [zeW] at ht
 cases hl : look e t with
 | none => simp [hl] at ht
 | some c0 =>
  simp [hl] at ht
  subst ht
  obtain ⟨u, hu, hv⟩ := H t c0 hl
  exact ⟨u, hu, hv.killed he⟩
end
def aput (dst : Option Tmp) (c : AVal) (e : Env) : Env := match dst with
 | some t => (t, c) :: e
 | none => e
def dstOk (nt : Nat) : Option Tmp → Bool
 | some t => Nat.blt t nt
 | none => true

section
variable {Pm F : Nat → Prop} {w0 w w' : World} {pin ι : Nat → Option Value} {nt : Nat} {e : Env} {h : Heap} {a : Act}
theorem zj4 {t : Nat} (h : dstOk nt (some t) = true) : t < nt := by simp [dstOk, Nat.blt] at h; omega
theorem zaD (a : Act) (d : Option Tmp) (v : Value) : (a.put d v).tmps.size = a.tmps.size := by cases d <;> simp [Act.put]
theorem zx (a : Act) (d : Option Tmp) (v : Value) : (a.put d v).defers = a.defers := by cases d <;> rfl
theorem EnvRel.aput (H : EnvRel w F ι e a) {d : Option Tmp} (hd : dstOk nt d = true) (hs : nt ≤ a.tmps.size) {c : AVal} {u : Value} (hc : VRel w F ι c u) : EnvRel w F ι (aput d c e) (a.put d u) := by
 cases d with
 | none => exact H
 | some t => exact H.put (Nat.lt_of_lt_of_le (zj4 hd) hs) hc
theorem Rel.put (R : Rel Pm F w0 pin ι nt e h a w) {d : Option Tmp} (hd : dstOk nt d = true) {c : AVal} {u : Value} (hc : VRel w F ι c u) : Rel Pm F w0 pin ι nt (aput d c e) h (a.put d u) w :=
 ⟨R.heap, R.env.aput hd R.size hc, by rw [zx]; exact R.defers, by rw [zaD]; exact R.size⟩
theorem Rel.grew (R : Rel Pm F w0 pin ι nt e h a w) (G : Grew w w') : Rel Pm F w0 pin ι nt e h a w' :=
 ⟨R.heap.grew G, R.env.mono fun _ _ _ _ hv => hv.grew G, R.defers.ext G.ext, R.size⟩
end

abbrev Post := Exit → Env → Heap → Prop
def real (Pm F : Nat → Prop) (w0 : World) (pin : Nat → Option Value) (nt : Nat) (Q : Post) : Exit → Act → World → Prop := fun x a w => ∃ ι e h, Q x e h ∧ Rel Pm F w0 pin ι nt e h a w
def AWp (z : Bool) (P : Program) (nt : Nat) (c : Code) (Q : Post) (e : Env) (h : Heap) : Prop :=
 ∀ lq Pm F w0 pin ι a w, (z = true → lq = none) → Rel Pm F w0 pin ι nt e h a w → c.wpIn (Fq lq) 0 P (real Pm F w0 pin nt Q) a w
def AThen (K : Env → Heap → Prop) (Q : Post) : Post
 | .normal, e, h => K e h
 | x, e, h => Q x e h
def AIn (id : Nat) (Q : Post) : Post
 | .exit j, e, h => cond (Nat.beq j id) (Q .normal e h) (Q (.exit j) e h)
 | x, e, h => Q x e h
def AWk (nt : Nat) (e : Env) (h : Heap) (e' : Env) (h' : Heap) : Prop :=
 ∀ Pm F w0 pin ι a w, Rel Pm F w0 pin ι nt e h a w → ∃ ι', Rel Pm F w0 pin ι' nt e' h' a w

section
variable {P : Program} {nt : Nat} {Q : Post} {e : Env} {h : Heap} {z : Bool}
theorem AWp.mono {c : Code} {Q' : Post} (H : AWp z P nt c Q e h) (hq : ∀ x e h, Q x e h → Q' x e h) : AWp z P nt c Q' e h :=
 fun lq Pm F w0 pin ι a w hz R => wpIn_mono (H lq Pm F w0 pin ι a w hz R) fun x a w ⟨ι, e, h, q, r⟩ => ⟨ι, e, h, hq _ _ _ q, r⟩
theorem AWp.fn {c : Code} (H : AWp z P nt c Q e h) : AWp true P nt c Q e h := fun lq Pm F w0 pin ι a w hz R => H lq Pm F w0 pin ι a w (fun _ => hz rfl) R
theorem zf {c : Code} {e' : Env} {h' : Heap} (hk : AWk nt e h e' h') (H : AWp z P nt c Q e' h') : AWp z P nt c Q e h :=
 fun lq Pm F w0 pin ι a w hz R => let ⟨ι', R'⟩ := hk Pm F w0 pin ι a w R; H lq Pm F w0 pin ι' a w hz R'
theorem zz (H : Q .normal e h) : AWp z P nt .skip Q e h := fun _ _ _ _ _ ι _ _ _ R => wpIn_skip ⟨ι, e, h, H, R⟩
theorem zA {id : Nat} (H : Q (.exit id) e h) : AWp z P nt (.exit id) Q e h := fun _ _ _ _ _ ι _ _ _ R => wpIn_exit ⟨ι, e, h, H, R⟩
theorem zS (H : Q .ret e h) : AWp z P nt .ret Q e h := fun _ _ _ _ _ ι _ _ _ R => wpIn_ret ⟨ι, e, h, H, R⟩
theorem zn {x y : Code} (H : AWp z P nt x (AThen (AWp z P nt y Q) Q) e h) : AWp z P nt (.seq x y) Q e h := fun lq Pm F w0 pin ι a w hz R =>
 wpIn_seq (wpIn_mono (H lq Pm F w0 pin ι a w hz R) fun ex a' w' ⟨ι', e', h', q, r⟩ => by
  cases ex
  case normal => exact q lq Pm F w0 pin ι' a' w' hz r
  all_goals exact ⟨ι', e', h', q, r⟩)
theorem zp {id : Nat} {c : Code} (H : AWp z P nt c (AIn id Q) e h) : AWp z P nt (.block id c) Q e h := fun lq Pm F w0 pin ι a w hz R =>
 wpIn_block (wpIn_mono (H lq Pm F w0 pin ι a w hz R) fun ex a' w' ⟨ι', e', h', q, r⟩ => by
  cases ex
  case exit =>
   rename_i j _
   unfold Exit.inBlock
   show if j = id then _ else _
   by_cases hj : j = id
   ·subst hj
    rw [if_pos rfl]
    have : Q .normal e' h' := by have q' : cond (Nat.beq j j) _ _ := q; rwa [zci] at q'
    exact ⟨ι', e', h', this, r⟩
   ·rw [if_neg hj]
    have : Q (.exit j) e' h' := by have q' : cond (Nat.beq j id) _ _ := q; rwa [zc9 hj] at q'
    exact ⟨ι', e', h', this, r⟩
  all_goals exact ⟨ι', e', h', q, r⟩)
theorem zU {c : Operand} {x y : Code} {b : Bool} (hc : aev e c = some (.d (.sc (.bool b)))) (ht : b = true → AWp z P nt x Q e h) (hf : b = false → AWp z P nt y Q e h) : AWp z P nt (.cond c x y) Q e h := fun lq Pm F w0 pin ι a w hz R => by
 have hv := zm R.env hc
 have hb : a.eval c = .bool b := by
  generalize a.eval c = u at hv
  cases hv with
  | d _ _ hd => cases hd; rfl
 exact wpIn_cond_split hb (fun h1 => ht h1 lq Pm F w0 pin ι a w hz R) (fun h1 => hf h1 lq Pm F w0 pin ι a w hz R)
theorem zfM {c : Operand} {x y : Code} {b : Bool} (hc : aev e c = some (.d (.sc (.bool b)))) (hb : b = true) (ht : AWp z P nt x Q e h) : AWp z P nt (.cond c x y) Q e h :=
 zU hc (fun _ => ht) (fun h => by rw [hb] at h; cases h)
theorem zfN {c : Operand} {x y : Code} {b : Bool} (hc : aev e c = some (.d (.sc (.bool b)))) (hb : b = false) (ht : AWp z P nt y Q e h) : AWp z P nt (.cond c x y) Q e h :=
 zU hc (fun h => by rw [hb] at h; cases h) (fun _ => ht)

theorem zek (p : Nat → Prop) (h : ∃ n, p n) : ∃ m, p m ∧ ∀ k, p k → m ≤ k := by
 obtain ⟨n, hn⟩ := h
 induction n using Nat.strongRecOn with
 | _ n ih =>
  by_cases hk : ∃ k, k < n ∧ p k
  ·obtain ⟨k, hk, hp⟩ := hk; exact ih k hk hp
  ·exact ⟨n, hn, fun k hp => Nat.le_of_not_lt fun hlt => hk ⟨k, hlt, hp⟩⟩
open Classical in
noncomputable def least (p : Nat → Prop) : Nat := if h : ∃ n, p n then Classical.choose (zek p h) else 0
theorem zc2 {p : Nat → Prop} (h : ∃ n, p n) : p (least p) ∧ ∀ k, p k → least p ≤ k := by
 unfold least; rw [dif_pos h]; exact Classical.choose_spec (zek p h)
theorem zw {c : Code} {α : Type} (E : α → Env) (H : α → Heap) (Φ : α → Prop) (μ : α → Nat) (x0 : α) (h0 : Φ x0) (hk : AWk nt e h (E x0) (H x0))
  (round : ∀ x, Φ x → AWp z P nt c (AThen (fun e' h' => ∃ y, Φ y ∧ μ y < μ x ∧ AWk nt e' h' (E y) (H y)) Q) (E x) (H x)) : AWp z P nt (.loop c) Q e h := fun lq Pm F w0 pin ι a w hz R => by
 let S : Act → World → Nat → Prop := fun a w n => ∃ x, Φ x ∧ μ x = n ∧ ∃ ι, Rel Pm F w0 pin ι nt (E x) (H x) a w
 refine wpIn_loop (fun a w => ∃ n, S a w n) (fun a w => least (S a w)) ?_ fun a w hI => ?_
 ·obtain ⟨ι', R'⟩ := hk Pm F w0 pin ι a w R
  exact ⟨μ x0, x0, h0, rfl, ι', R'⟩
 ·obtain ⟨x, hx, hμ, ι', R'⟩ := (zc2 hI).1
  refine wpIn_mono (round x hx lq Pm F w0 pin ι' a w hz R') fun ex a' w' ⟨ι2, e2, h2, q, r⟩ => ?_
  cases ex
  case normal =>
   obtain ⟨y, hy, hlt, hk2⟩ := q
   obtain ⟨ι3, R3⟩ := hk2 Pm F w0 pin ι2 a' w' r
   have hS : S a' w' (μ y) := ⟨y, hy, rfl, ι3, R3⟩
   refine ⟨⟨_, hS⟩, ?_⟩
   show least (S a' w') < least (S a w)
   have : least (S a' w') ≤ μ y := (zc2 ⟨_, hS⟩).2 _ hS
   omega
  all_goals exact ⟨ι2, e2, h2, q, r⟩
end

def awant (ops : Array Oper) (e : Env) (o : Oper) : Option Bool :=
 match o.guard with
 | none => some true
 | some (j, b) => match ((ops[j]?).bind (·.dst)).bind (look e) with
  | some (.d (.sc (.bool c))) => some (c == b)
  | some .und => some false
  | _ => none
theorem zab {w : World} {F : Nat → Prop} {ι : Nat → Option Value} {e : Env} {a : Act} (H : EnvRel w F ι e a) {ops : Array Oper} {o : Oper} {b : Bool} (h : awant ops e o = some b) : Region.wanted o (yielded ops a.tmps) = b := by
 unfold awant at h
 unfold Region.wanted
 split at h
 ·rename_i hg; cases h; rw [hg]
 ·rename_i j want hg
  rw [hg]
  show (yielded ops a.tmps j == some want) = b
  unfold yielded
  cases hd : (ops[j]?).bind (·.dst) with
  | none => simp [hd] at h
  | some t =>
   simp only [hd, Option.bind_some] at h
   split at h
   ·rename_i c hl
    obtain ⟨u, hu, hv⟩ := H t _ hl
    cases h
    cases hv with
    | d _ _ hx => cases hx; simp [hu]
   ·rename_i hl
    obtain ⟨u, hu, hv⟩ := H t _ hl
    cases h
    cases hv
    simp [hu, undef]
   ·cases h

structure CT (T : List Nat) (ι : Nat → Option Value) (w w' : World) : Prop where
 os : w'.os = w.os
 tape : w'.tape = w.tape
 output : w'.output = w.output
 size : w.heap.size ≤ w'.heap.size
 mem : ∀ r, r < w.heap.size → (∀ id ∈ T, ∀ v, ι id = some v → blockOf v ≠ some r) → w'.heap[r]? = w.heap[r]?
theorem CT.refl (T : List Nat) (ι : Nat → Option Value) (w : World) : CT T ι w w := ⟨rfl, rfl, rfl, Nat.le_refl _, fun _ _ _ => rfl⟩
theorem CT.grew {ι : Nat → Option Value} {w w' : World} (h : CT [] ι w w') : Grew w w' := ⟨h.os, h.tape, h.output, h.size, fun r hr => h.mem r hr (by simp)⟩
theorem Grew.ct {ι : Nat → Option Value} {w w' : World} (h : Grew w w') (T : List Nat) : CT T ι w w' := ⟨h.os, h.tape, h.output, h.size, fun r hr _ => h.mem r hr⟩

def Old (ι : Nat → Option Value) (w : World) (ι' : Nat → Option Value) : Prop := ∀ id v r, ι' id = some v → blockOf v = some r → r < w.heap.size → ∃ v0, ι id = some v0 ∧ blockOf v0 = some r
theorem Old.refl (ι : Nat → Option Value) (w : World) : Old ι w ι := fun _ v _ h1 h2 _ => ⟨v, h1, h2⟩
structure CTo (T : List Nat) (ι : Nat → Option Value) (w : World) (ι' : Nat → Option Value) (w' : World) : Prop where
 ct : CT T ι w w'
 old : ∀ id ∈ T, ∀ v r, ι' id = some v → blockOf v = some r → r < w.heap.size → ∃ v0, ι id = some v0 ∧ blockOf v0 = some r
theorem CTo.trans {T : List Nat} {ι ι' : Nat → Option Value} {w w' w2 : World} (h : CTo T ι w ι' w') (k : CT T ι' w' w2) : CT T ι w w2 :=
 ⟨k.os.trans h.ct.os, k.tape.trans h.ct.tape, k.output.trans h.ct.output, Nat.le_trans h.ct.size k.size, fun r hr hn => by
  rw [k.mem r (Nat.lt_of_lt_of_le hr h.ct.size) fun id hid v hv hb => ?_]
  ·exact h.ct.mem r hr hn
  ·obtain ⟨v0, h1, h2⟩ := h.old id hid v r hv hb hr
   exact hn id hid v0 h1 h2⟩
def AYield (P : Program) (T : List Nat) (e : Env) (h : Heap) (o : Oper) (c : AVal) : Prop :=
 ∀ Pm F w0 pin ι a w, HRel Pm F w0 pin ι h w → EnvRel w F ι e a → ∃ v, VRel w F ι c v ∧ ∀ w', CT T ι w w' → (execOp a.eval o).run P w' = .ok (.value v) w'
def AEff (P : Program) (nt : Nat) (T : List Nat) (e : Env) (h : Heap) (o : Oper) (R : Env → Heap → Prop) : Prop :=
 ∀ Pm F w0 pin ι a w, Rel Pm F w0 pin ι nt e h a w → ∀ (K : Act → World → Prop) (Qx : Exit → Act → World → Prop),
  (∀ ι' e' h' a' w', R e' h' → Rel Pm F w0 pin ι' nt e' h' a' w' → CTo T ι w ι' w' → a'.defers = a.defers → K a' w') → o.wp P a w K Qx
def AOps (P : Program) (nt : Nat) (ops : Array Oper) (Q : Post) (l : List Oper) (e : Env) (h : Heap) : Prop :=
 l.all notDef = true → ∀ lq Pm F w0 pin ι a w, Rel Pm F w0 pin ι nt e h a w → wpListIn (Fq lq) 0 P ops (real Pm F w0 pin nt Q) l a w

section
variable {P : Program} {nt : Nat} {Q : Post} {e : Env} {h : Heap} {ops : Array Oper} {o : Oper} {rest : List Oper} {z : Bool}
theorem zh2 {id : Nat} (hnd : ops.toList.all notDef = true) (H : AOps P nt ops Q ops.toList e h) : AWp z P nt (.region id ops false) Q e h :=
 fun lq Pm F w0 pin ι a w hz R => wpIn_region_list (H hnd lq Pm F w0 pin ι a w R)
theorem zi (H : Q .normal e h) : AOps P nt ops Q [] e h := fun _ _ _ _ _ _ ι _ _ R => wpListIn_nil ⟨ι, e, h, H, R⟩
theorem zhZ (hw : awant ops e o = some false) (hd : dstOk nt o.dst = true) (H : AOps P nt ops Q rest (aput o.dst .und e) h) : AOps P nt ops Q (o :: rest) e h := fun hnd lq Pm F w0 pin ι a w R =>
 wpListIn_step fun K hK => by
  rw [zab R.env hw]
  exact ⟨fun _ _ => trivial, hK _ _ (H (zfa hnd) lq Pm F w0 pin ι _ w (R.put hd .und))⟩
theorem zi2 {c : AVal} (hw : awant ops e o = some true) (hd : dstOk nt o.dst = true) (hy : AYield P [] e h o c) (H : AOps P nt ops Q rest (aput o.dst c e) h) : AOps P nt ops Q (o :: rest) e h := fun hnd lq Pm F w0 pin ι a w R =>
 wpListIn_step fun K hK => by
  rw [zab R.env hw, if_pos rfl]
  obtain ⟨v, hv, hr⟩ := hy Pm F w0 pin ι a w R.heap R.env
  refine zgL (zhE hnd) ?_
  unfold Oper.wp
  rw [hr w (CT.refl _ _ _), Oper.upon_value]
  exact hK _ _ (H (zfa hnd) lq Pm F w0 pin ι _ w (R.put hd hv))
theorem zax {T : List Nat} {R : Env → Heap → Prop} (hw : awant ops e o = some true) (hy : AEff P nt T e h o R) (H : ∀ e' h', R e' h' → AOps P nt ops Q rest e' h') : AOps P nt ops Q (o :: rest) e h := fun hnd lq Pm F w0 pin ι a w Rl =>
 wpListIn_step fun K hK => by
  rw [zab Rl.env hw, if_pos rfl]
  exact zgL (zhE hnd) (hy Pm F w0 pin ι a w Rl K _ fun ι' e' h' a' w' hR hRel _ _ => hK _ _ (H e' h' hR (zfa hnd) lq Pm F w0 pin ι' a' w' hRel))

def AQ (P : Program) (nt : Nat) (ops : Array Oper) (Q : Post) (l : List Oper) (e : Env) (h : Heap) : Prop :=
 ∀ Pm F w0 pin ι a w, Rel Pm F w0 pin ι nt e h a w → wpQuiet P ops (CT [] ι w) (fun a' => ∃ e', Q .normal e' h ∧ EnvRel w F ι e' a' ∧ MkOk Pm w F ι a'.defers ∧ nt ≤ a'.tmps.size) l a
theorem zjc {id : Nat} (hnd : ops.toList.all notDef = true) (hm : P.follows .mixedOrders = true) (hB : Region.lexB .any ops = true) (H : AQ P nt ops Q ops.toList e h) : AWp z P nt (.region id ops true) Q e h := fun lq Pm F w0 pin ι a w hz R => by
 have h1 := H Pm F w0 pin ι a w R
 let Q1 : Exit → Act → World → Prop := fun x a w => x = .normal ∧ real Pm F w0 pin nt Q .normal a w
 have hno : ¬ LetsOut Q1 := fun ⟨_, _, h, _⟩ => by cases h
 suffices hq : wpQuiet P ops (CT [] ι w) (fun a' => ∀ w', CT [] ι w w' → real Pm F w0 pin nt Q .normal a' w') ops.toList a by
  simp only [Region.lexB, Bool.and_eq_true] at hB
  have h2 := wpAnyQ_lex (C := CT [] ι w) (md := .any) hB.1 ops.toList 0 (Array.replicate ops.size false) a (by simp) (by simpa using hB.2) hq
  have h3 : wpAny P .any ops Q1 ops.size (Array.replicate ops.size false) a { w with drawn := w.drawn + 1 } := wpAny_of_quiet (Q := fun a' => ∀ w', CT [] ι w w' → real Pm F w0 pin nt Q .normal a' w') (fun _ w' hw' h => ⟨rfl, h w' hw'⟩) _ _ _ _ ((Grew.drew w).ct []) (by simpa using h2)
  exact wpIn_mono (wpIn_region_any hm (ze9 hno hnd _ _ _ _ h3)) fun x a w ⟨h4, h5⟩ => by subst h4; exact h5
 have key : ∀ (l : List Oper) (a : Act) (K K' : Act → Prop), (∀ a, K a → K' a) → wpQuiet P ops (CT [] ι w) K l a → wpQuiet P ops (CT [] ι w) K' l a := by
  intro l
  induction l with
  | nil => intro a K K' hk h; exact hk a h
  | cons o l ih =>
   intro a K K' hk h
   unfold wpQuiet at h ⊢
   split
   ·rename_i hw; rw [if_pos hw] at h
    obtain ⟨v, h2, h3⟩ := h
    exact ⟨v, h2, ih _ K K' hk h3⟩
   ·rename_i hw; rw [if_neg hw] at h; exact ih _ K K' hk h
 refine key _ _ _ _ (fun a' ⟨e', hq, he, hd, hs⟩ w' hw' => ?_) h1
 exact ⟨ι, e', h, hq, R.heap.grew hw'.grew, he.mono fun _ _ _ _ hv => hv.grew hw'.grew, hd.ext hw'.grew.ext, hs⟩
theorem zk (H : Q .normal e h) : AQ P nt ops Q [] e h := fun _ _ _ _ ι _ _ R => wpQuiet_nil ⟨e, H, R.env, R.defers, R.size⟩
theorem zkq (hw : awant ops e o = some false) (hd : dstOk nt o.dst = true) (H : AQ P nt ops Q rest (aput o.dst .und e) h) : AQ P nt ops Q (o :: rest) e h := fun Pm F w0 pin ι a w R =>
 wpQuiet_step fun K hK => by
  rw [zab R.env hw]
  exact hK _ (H Pm F w0 pin ι _ w (R.put hd .und))
theorem zi1 {c : AVal} (hw : awant ops e o = some true) (hd : dstOk nt o.dst = true) (hy : AYield P [] e h o c) (H : AQ P nt ops Q rest (aput o.dst c e) h) : AQ P nt ops Q (o :: rest) e h := fun Pm F w0 pin ι a w R =>
 wpQuiet_step fun K hK => by
  rw [zab R.env hw, if_pos rfl]
  obtain ⟨v, hv, hr⟩ := hy Pm F w0 pin ι a w R.heap R.env
  refine ⟨v, fun w' hw' => ?_, hK _ (H Pm F w0 pin ι _ w (R.put hd hv))⟩
  unfold Oper.quietAt
  rw [hr w' hw']
  exact ⟨rfl, rfl⟩
end

def ArgsRel (w : World) (F : Nat → Prop) (ι : Nat → Option Value) (cs : List AVal) (us : Array Value) : Prop := us.size = cs.length ∧ ∀ (i : Nat) (c : AVal) (u : Value), cs[i]? = some c → us[i]? = some u → VRel w F ι c u
def isGo (P : Program) (f : FuncId) : Bool := match P.funcs[f]? with
 | some fn => fn.body.isSome && !(fn.name == "runtime.NumGoroutine")
 | none => false
theorem zd7 {P : Program} {f : FuncId} (h : isGo P f = true) (args : Array Value) (w : World) : (callFunc f args).run P w = .ok (.enter f args) w := by
 unfold isGo at h
 cases hf : P.funcs[f]? with
 | none => simp [hf] at h
 | some fn =>
  simp [hf] at h
  obtain ⟨h1, h2⟩ := h
  simp [callFunc, program, Sem.run, hf, h2]
  intro h3
  rw [h3] at h1; cases h1
def ACall (P : Program) (f : FuncId) (args : List AVal) (h : Heap) (Q : AVal → Heap → Prop) : Prop :=
 isGo P f = true ∧ ∀ Pm F w0 pin ι us w, HRel Pm F w0 pin ι h w → ArgsRel w F ι args us → Calls P f us w fun x w' => ∃ u c h' ι', x = .returned u ∧ Q c h' ∧ HRel Pm F w0 pin ι' h' w' ∧ VRel w' F ι' c u
theorem ACall.mono {P : Program} {f : FuncId} {args : List AVal} {h : Heap} {Q Q' : AVal → Heap → Prop} (H : ACall P f args h Q) (hq : ∀ c h, Q c h → Q' c h) : ACall P f args h Q' :=
 ⟨H.1, fun Pm F w0 pin ι us w a b => (H.2 Pm F w0 pin ι us w a b).mono fun _ _ ⟨u, c, h', ι', h1, h2, h3, h4⟩ => ⟨u, c, h', ι', h1, hq _ _ h2, h3, h4⟩⟩

def aresOne (tab : TTab) (e : Env) (h : Heap) : ResultVar → Option AVal
 | .tmp t => look e t
 | .cell s t => match look e s, tlook tab t with
  | some (.ptr id 0), some te => match look h id with
   | some (.var cs) => cond te.agg (cond (Nat.beq cs.length te.size) (some (.agg cs)) none) cs[0]?
   | _ => none
  | _, _ => none
def ares (tab : TTab) (e : Env) (h : Heap) (rs : List ResultVar) : Option AVal :=
 match rs with
 | [r] => aresOne tab e h r
 | rs => (rs.mapM (aresOne tab e h)).map .tup
def argsEnv (args : List AVal) (i : Nat := 0) : Env := match args with
 | [] => []
 | c :: r => (i, c) :: argsEnv r (i + 1)
theorem zdI (args : List AVal) (i t : Nat) (c : AVal) (h : look (argsEnv args i) t = some c) : i ≤ t ∧ args[t - i]? = some c := by
 induction args generalizing i with
 | nil => cases h
 | cons a r ih =>
  rw [argsEnv] at h
  by_cases e : i = t
  ·subst e; rw [zb] at h; cases h; simp
  ·rw [zd _ _ e] at h
   obtain ⟨h1, h2⟩ := ih (i + 1) h
   refine ⟨by omega, ?_⟩
   rw [show t - i = (t - (i + 1)) + 1 by omega]
   simpa using h2
end Go.Proofs.YtoahnbmedcjpeaaGreatDoor.Ab

namespace Go.Proofs.YtoahnbmedcjpeaaGreatDoor.Ab
open Go.RowKit

def aevs (e : Env) : List Operand → Option (List AVal)
 | [] => some []
 | x :: r => match aev e x, aevs e r with
  | some c, some cs => some (c :: cs)
  | _, _ => none
theorem zeA {w : World} {F : Nat → Prop} {ι : Nat → Option Value} {e : Env} {a : Act} (E : EnvRel w F ι e a) {l : List Operand} {cs : List AVal} (h : aevs e l = some cs) :
  l.length = cs.length ∧ ∀ (i : Nat) (c : AVal) (u : Value), cs[i]? = some c → (l.map a.eval)[i]? = some u → VRel w F ι c u := by
 induction l generalizing cs with
 | nil => cases h; exact ⟨rfl, by simp⟩
 | cons x r ih =>
  rw [aevs] at h
  cases hx : aev e x with
  | none => simp [hx] at h
  | some c =>
   cases hr : aevs e r with
   | none => simp [hx, hr] at h
   | some cs' =>
    simp [hx, hr] at h
    subst h
    obtain ⟨h1, h2⟩ := ih hr
    refine ⟨by simp [h1], fun i c' u hc hu => ?_⟩
    cases i with
    | zero => simp at hc hu; subst hc hu; exact zm E hx
    | succ i => exact h2 i c' u (by simpa using hc) (by simpa using hu)
section
variable {P : Program} {T : List Nat} {e : Env} {h : Heap} {o : Oper}
theorem zE (c : AVal) (H : ∀ w F ι a, EnvRel w F ι e a → ∃ v, VRel w F ι c v ∧ ∀ w', (execOp a.eval o).run P w' = .ok (.value v) w') : AYield P T e h o c :=
 fun Pm F w0 pin ι a w _ E => let ⟨v, h1, h2⟩ := H w F ι a E; ⟨v, h1, fun w' _ => h2 w'⟩
theorem zL {w : World} {F : Nat → Prop} {ι : Nat → Option Value} {v u : Value} (h : VRel w F ι (.d (.sc v)) u) : u = v ∧ v.oneCell' = true := by
 cases h with
 | d _ _ h => cases h with
  | sc _ h => exact ⟨rfl, h⟩
theorem zQ {w : World} {F : Nat → Prop} {ι : Nat → Option Value} {v : Value} (h : v.oneCell' = true) : VRel w F ι (.d (.sc v)) v := .d _ _ (.sc v h)

theorem zkh {x : Operand} {c : AVal} (ho : o.op = .move x) (hx : aev e x = some c) : AYield P T e h o c := zE c fun w F ι a E => ⟨a.eval x, zm E hx, fun w' => by simp [execOp, ho]⟩
theorem zhI {x : Operand} {c : AVal} (ho : o.op = .assign x) (hx : aev e x = some c) : AYield P T e h o c := zE c fun w F ι a E => ⟨a.eval x, zm E hx, fun w' => by simp [execOp, ho]⟩
theorem zeC {x y z : Operand} {b : Bool} {c : AVal} (ho : o.op = .pick x y z) (hx : aev e x = some (.d (.sc (.bool b)))) (hb : b = true) (hy : aev e y = some c) : AYield P T e h o c := zE c fun w F ι a E =>
 ⟨a.eval y, zm E hy, fun w' => by simp [execOp, ho, (zL (zm E hx)).1, asBool, hb]⟩
theorem zeD {x y z : Operand} {b : Bool} {c : AVal} (ho : o.op = .pick x y z) (hx : aev e x = some (.d (.sc (.bool b)))) (hb : b = false) (hz : aev e z = some c) : AYield P T e h o c := zE c fun w F ι a E =>
 ⟨a.eval z, zm E hz, fun w' => by simp [execOp, ho, (zL (zm E hx)).1, asBool, hb]⟩
theorem zhF {x y z : Operand} {b p q : Bool} (ho : o.op = .pick x y z) (hx : aev e x = some (.d (.sc (.bool b)))) (hy : aev e y = some (.d (.sc (.bool p)))) (hz : aev e z = some (.d (.sc (.bool q)))) :
  AYield P T e h o (.d (.sc (.bool (cond b p q)))) := zE _ fun w F ι a E =>
 ⟨.bool (cond b p q), zQ rfl, fun w' => by
  simp only [execOp, ho, (zL (zm E hx)).1, (zL (zm E hy)).1, (zL (zm E hz)).1, asBool]
  cases b <;> simp⟩

def ibin (op : BinOp) (k : IntKind) (a b : Int) : Option Value := match op with
 | .add => some (.int k (k.wrap (a + b)))
 | .sub => some (.int k (k.wrap (a - b)))
 | .mul => some (.int k (k.wrap (a * b)))
 | .eql => some (.bool (a == b))
 | .neq => some (.bool (a != b))
 | .lss => some (.bool (decide (a < b)))
 | .leq => some (.bool (decide (a ≤ b)))
 | .gtr => some (.bool (decide (a > b)))
 | .geq => some (.bool (decide (a ≥ b)))
 | _ => none
theorem zg8 {op : BinOp} {k : IntKind} {a b : Int} {r : Value} (h : ibin op k a b = some r) : r.oneCell' = true := by
 cases op <;> simp [ibin] at h <;> subst h <;> rfl
theorem zct {op : BinOp} {t u : TypeId} {x y : Operand} {k : IntKind} {a b : Int} {r : Value} (ho : o.op = .binOp op t x y u) (hx : aev e x = some (.d (.sc (.int k a)))) (hy : aev e y = some (.d (.sc (.int k b))))
  (hr : ibin op k a b = some r) : AYield P T e h o (.d (.sc r)) := zE _ fun w F ι ac E =>
 ⟨r, zQ (zg8 hr), fun w' => by
  simp only [execOp, ho, (zL (zm E hx)).1, (zL (zm E hy)).1]
  cases op <;> simp [ibin] at hr <;> subst hr <;> simp [eqGuard, binOp, Op.intArith, Op.intCmp]⟩
theorem zjj {t u : TypeId} {x y : Operand} {k : IntKind} {a b r : Int} (ho : o.op = .binOp .add t x y u) (hx : aev e x = some (.d (.sc (.int k a)))) (hy : aev e y = some (.d (.sc (.int k b))))
  (hr : k.wrap (a + b) = r) : AYield P T e h o (.d (.sc (.int k r))) := zct ho hx hy (by rw [← hr]; rfl)
theorem zjh {t u : TypeId} {x y : Operand} {k : IntKind} {a b r : Int} (ho : o.op = .binOp .sub t x y u) (hx : aev e x = some (.d (.sc (.int k a)))) (hy : aev e y = some (.d (.sc (.int k b))))
  (hr : k.wrap (a - b) = r) : AYield P T e h o (.d (.sc (.int k r))) := zct ho hx hy (by rw [← hr]; rfl)
theorem zkU {t u : TypeId} {x y : Operand} {k : IntKind} {a b r : Int} (ho : o.op = .binOp .mul t x y u) (hx : aev e x = some (.d (.sc (.int k a)))) (hy : aev e y = some (.d (.sc (.int k b))))
  (hr : k.wrap (a * b) = r) : AYield P T e h o (.d (.sc (.int k r))) := zct ho hx hy (by rw [← hr]; rfl)
theorem zh3 {k : IntKind} {n : Int} (h1 : k.min ≤ n) (h2 : n ≤ k.max) : k.wrap n = n := by
 cases k <;> simp [IntKind.min, IntKind.max, IntKind.signed, IntKind.bits, IntKind.wrap] at * <;> omega
theorem zaC {n : Int} (h : -9223372036854775808 ≤ n ∧ n ≤ 9223372036854775807) : IntKind.i64.wrap n = n := zh3 (by simp [IntKind.min, IntKind.signed, IntKind.bits]; omega) (by simp [IntKind.max, IntKind.signed, IntKind.bits]; omega)
theorem zkT {t : TypeId} {x : Operand} {b : Bool} (ho : o.op = .unOp .not t x) (hx : aev e x = some (.d (.sc (.bool b)))) : AYield P T e h o (.d (.sc (.bool !b))) := zE _ fun w F ι a E =>
 ⟨.bool !b, zQ rfl, fun w' => by simp [execOp, ho, (zL (zm E hx)).1, Op.unary]⟩
theorem zfg {tab : TTab} (TO : TabOk P tab) {t t' : TypeId} {x : Operand} {k k' : IntKind} {b r : Int} {te te' : TE} (ho : o.op = .convert t t' x) (hx : aev e x = some (.d (.sc (.int k b))))
  (h1 : tlook tab t = some te) (h2 : tlook tab t' = some te') (h3 : te'.sh = .it k') (hr : k'.wrap b = r) : AYield P T e h o (.d (.sc (.int k' r))) := zE _ fun w F ι a E =>
 ⟨.int k' r, zQ rfl, fun w' => by
  obtain ⟨d, hd, _, _⟩ := (TO t te h1).und
  obtain ⟨d', hd', _, hs⟩ := (TO t' te' h2).und
  rw [h3] at hs
  cases hs
  simp [execOp, ho, (zL (zm E hx)).1, convert, run_underlying hd, run_underlying hd', Conv.intToInt, ← hr]⟩
theorem zgr {x : Operand} {i : Nat} {cs : List AVal} {c : AVal} (ho : o.op = .extract x i) (hx : aev e x = some (.tup cs)) (hi : cs[i]? = some c) : AYield P T e h o c := zE _ fun w F ι a E => by
 have hv := zm E hx
 generalize hu : a.eval x = u at hv
 cases hv with
 | tup _ C hl hh =>
  have hlt : i < C.size := by rw [hl]; exact (List.getElem?_eq_some_iff.1 hi).1
  refine ⟨C[i], hh i c C[i] hi (Array.getElem?_eq_getElem hlt), fun w' => ?_⟩
  simp [execOp, ho, hu, Instr.extract, hlt]
theorem zK {f : FuncId} {caps : Array Operand} {cs : List AVal} (ho : o.op = .makeFunc (.func f) #[] caps) (hc : aevs e caps.toList = some cs) : AYield P T e h o (.fn f cs) := zE _ fun w F ι a E => by
 have hr := zeA E hc
 exact ⟨.func (.func f) #[] (caps.map a.eval), .fn f cs _ (by simpa using hr.1) (fun i c u h1 h2 => hr.2 i c u h1 (by simpa [← Array.getElem?_toList] using h2)), fun w' => by simp [execOp, ho, Instr.makeFunc]⟩
end

section
variable {P : Program} {T : List Nat} {e : Env} {h : Heap} {o : Oper} {tab : TTab}
theorem TFacts.slice {t : TypeId} {te : TE} {el : TypeId} (F : TFacts P t te) (hs : te.sh = .sl el) : P.underlying t = some (.slice el) := by
 obtain ⟨d, hd, _, h⟩ := F.und
 rw [hs] at h; cases h; exact hd
theorem zcc {w w' : World} {Pm F : Nat → Prop} {w0 : World} {pin ι : Nat → Option Value} (H : HRel Pm F w0 pin ι h w) (C : CT T ι w w') {id : Nat} {v : Value} {r : Nat} (hi : ι id = some v) (hr : blockOf v = some r) (hT : T.contains id = false) : w'.heap[r]? = w.heap[r]? := by
 refine C.mem r (H.lt hi hr) fun j hj v' hv' => ?_
 refine H.inj id j v v' r ?_ hi hv' hr
 rintro rfl
 have := List.contains_iff_mem.2 hj
 rw [this] at hT; cases hT
theorem zfz {w w' : World} {F : Nat → Prop} {ι : Nat → Option Value} (C : CT T ι w w') {r : Nat} (hr : r < w.heap.size) (hf : FreeB F ι r) : w'.heap[r]? = w.heap[r]? := C.mem r hr fun j _ v' hv' => hf.2 j v' hv'

theorem zhG {t : TypeId} {x : Operand} {te : TE} {el : TypeId} {cs : List Dat} {n : Nat} (TO : TabOk P tab) (ho : o.op = .call { callee := .builtin .len, args := #[x], argTypes := #[t] }) (ht : tlook tab t = some te) (hs : te.sh = .sl el)
  (hx : aev e x = some (.d (.sl cs n))) : AYield P T e h o (.d (.sc (.int .i64 (n : Int)))) := zE _ fun w F ι a E => by
 refine ⟨.int .i64 n, zQ rfl, fun w' => ?_⟩
 have hv := zm E hx
 have hu := (TO t te ht).slice hs
 have key : ∃ b c, a.eval x = .slice b n c := by
  generalize a.eval x = u at hv
  cases hv with
  | d _ _ hd => cases hd <;> exact ⟨_, _, rfl⟩
 obtain ⟨b, c, hk⟩ := key
 simp [execOp, ho, resolve, invoke, builtin, hk, Builtin.len_, run_underlying hu, goInt]
theorem zgq {t : TypeId} {x : Operand} {te : TE} {el : TypeId} (TO : TabOk P tab) (ho : o.op = .call { callee := .builtin .len, args := #[x], argTypes := #[t] }) (ht : tlook tab t = some te) (hs : te.sh = .sl el)
  (hx : aev e x = some (.d (.sc (.slice none 0 0)))) : AYield P T e h o (.d (.sc (.int .i64 0))) := zE _ fun w F ι a E => by
 refine ⟨.int .i64 0, zQ rfl, fun w' => ?_⟩
 have hk := (zL (zm E hx)).1
 have hu := (TO t te ht).slice hs
 simp [execOp, ho, resolve, invoke, builtin, hk, Builtin.len_, run_underlying hu, goInt]
theorem zgp {t : TypeId} {x : Operand} {te : TE} {el el' : TypeId} {id k n : Nat} {cs : List Dat} (TO : TabOk P tab) (ho : o.op = .call { callee := .builtin .len, args := #[x], argTypes := #[t] }) (ht : tlook tab t = some te) (hs : te.sh = .sl el)
  (hx : aev e x = some (.row id)) (hb : look h id = some (.row el' k n cs)) : AYield P T e h o (.d (.sc (.int .i64 (n : Int)))) := fun Pm F w0 pin ι a w H E => by
 refine ⟨.int .i64 n, zQ rfl, fun w' _ => ?_⟩
 obtain ⟨v, hv, xs, hown, _⟩ := H.blk id _ hb
 have hr := zm E hx
 have hu := (TO t te ht).slice hs
 have key : ∃ b c, a.eval x = .slice b n c := by
  generalize a.eval x = u at hr
  cases hr with
  | row _ _ h1 h2 =>
   rw [h2 v hv]
   rcases hown.2 with ⟨h3, h4⟩ | ⟨g, cap, cur, h3, _⟩
   ·subst h4; exact ⟨_, _, h3⟩
   ·exact ⟨_, _, h3⟩
 obtain ⟨b, c, hk⟩ := key
 simp [execOp, ho, resolve, invoke, builtin, hk, Builtin.len_, run_underlying hu, goInt]

theorem zbn {t el : TypeId} {te' : TE} (w' : World) (hu : P.underlying t = some (.slice el)) (hel : TFacts P el te') (b off n cap : Nat) (k : IntKind) (i : Int) (hi : 0 ≤ i ∧ i < n) :
  (Instr.indexAt t (.slice (some ⟨b, off, none⟩) n cap) (.int k i)).run P w' = .ok (.pointer (some ⟨b, off + i.toNat * te'.size, none⟩)) w' := by
 simp [Instr.indexAt, run_underlying hu, asIntOf, hi, hel.size, Addr.add_mid]
theorem zff {t : TypeId} {x y : Operand} {te te' : TE} {el : TypeId} {cs : List Dat} {n : Nat} {k : IntKind} {i : Int} (TO : TabOk P tab) (ho : o.op = .indexAddr t x y) (ht : tlook tab t = some te) (hs : te.sh = .sl el)
  (hel : tlook tab el = some te') (hx : aev e x = some (.d (.sl cs n))) (hy : aev e y = some (.d (.sc (.int k i)))) (hi : 0 ≤ i ∧ i < n) : AYield P T e h o (.iptr cs (i.toNat * te'.size)) := zE _ fun w F ι a E => by
 have hv := zm E hx
 have hk := (zL (zm E hy)).1
 have hu := (TO t te ht).slice hs
 generalize hau : a.eval x = u at hv
 cases hv with
 | d _ _ hd =>
  cases hd with
  | nil => exact absurd hi (by simp)
  | emp _ => exact absurd hi (by simp)
  | sl _ _ b off cap vs hn hl hf hc hr =>
   exact ⟨_, .iptr cs _ b off vs hl hf hc hr, fun w' => by simp [execOp, ho, hau, hk, zbn w' hu (TO el te' hel) b off n cap k i hi]⟩
theorem zeG {t : TypeId} {x y : Operand} {te te' : TE} {el el' : TypeId} {id kk n : Nat} {cs : List Dat} {k : IntKind} {i : Int} (TO : TabOk P tab) (ho : o.op = .indexAddr t x y) (ht : tlook tab t = some te) (hs : te.sh = .sl el)
  (hel : tlook tab el = some te') (hx : aev e x = some (.row id)) (hb : look h id = some (.row el' kk n cs)) (hy : aev e y = some (.d (.sc (.int k i)))) (hi : 0 ≤ i ∧ i < n) : AYield P T e h o (.eptr id (i.toNat * te'.size)) := fun Pm F w0 pin ι a w H E => by
 obtain ⟨v, hv, xs, hown, _⟩ := H.blk id _ hb
 have hr := zm E hx
 have hk := (zL (zm E hy)).1
 have hu := (TO t te ht).slice hs
 generalize hau : a.eval x = u at hr
 cases hr with
 | row _ _ h1 h2 =>
  have h3 := h2 v hv
  subst h3
  rcases hown.2 with ⟨_, h4⟩ | ⟨g, cap, cur, h3, _⟩
  ·subst h4; exact absurd hi (by simp)
  ·subst h3
   refine ⟨.pointer (some ⟨g, i.toNat * te'.size, none⟩), .eptr id _ _ rfl fun v' hv' => ?_, fun w' _ => ?_⟩
   ·rw [hv] at hv'; cases hv'; exact ⟨g, n, cap, rfl, rfl⟩
   ·simp [execOp, ho, hau, hk, zbn w' hu (TO el te' hel) g 0 n cap k i hi]

theorem TFacts.struct {t : TypeId} {te : TE} {fs : List (Nat × TypeId)} (Fa : TFacts P t te) (hs : te.sh = .st fs) : ∃ F, P.underlying t = some (.struct F) ∧ F.toList.map (fun f => (f.offset, f.type)) = fs := by
 obtain ⟨d, hd, _, h⟩ := Fa.und
 rw [hs] at h
 obtain ⟨F, rfl, hF, _⟩ := h
 exact ⟨F, hd, hF⟩
theorem zbo {t : TypeId} {te te' : TE} {fs : List (Nat × TypeId)} {f off ft : Nat} (w' : World) (Fa : TFacts P t te) (hs : te.sh = .st fs) (hf : fs[f]? = some (off, ft)) (Fb : TFacts P ft te') (hz : Nat.beq te'.size 0 = false) (b o : Nat) :
  (Instr.fieldAt t (.pointer (some ⟨b, o, none⟩)) f).run P w' = .ok (.pointer (some ⟨b, o + off, none⟩)) w' := by
 obtain ⟨F, hu, hF⟩ := Fa.struct hs
 have hz := zaO hz
 subst hF
 rw [List.getElem?_map] at hf
 cases hfi : F[f]? with
 | none => simp [hfi] at hf
 | some fl =>
  simp [hfi] at hf
  obtain ⟨rfl, rfl⟩ := hf
  simp [Instr.fieldAt, run_underlying hu, hfi, Instr.sureAddr, fieldPlace, Fb.size, hz, Addr.add_mid]
theorem zeH {t : TypeId} {x : Operand} {f off ft id o1 : Nat} {te te' : TE} {fs : List (Nat × TypeId)} (TO : TabOk P tab) (ho : o.op = .fieldAddr t x f) (ht : tlook tab t = some te) (hs : te.sh = .st fs) (hf : fs[f]? = some (off, ft))
  (hft : tlook tab ft = some te') (hz : Nat.beq te'.size 0 = false) (hx : aev e x = some (.ptr id o1)) (hb : (look h id).isSome = true) : AYield P T e h o (.ptr id (o1 + off)) := fun Pm F w0 pin ι a w H E => by
 obtain ⟨b, hb⟩ := Option.isSome_iff_exists.1 hb
 obtain ⟨v, hv, _⟩ := H.blk id _ hb
 have hr := zm E hx
 generalize hau : a.eval x = u at hr
 cases hr with
 | ptr _ _ _ h1 h2 =>
  obtain ⟨r, rfl, rfl⟩ := h2 v hv
  refine ⟨_, .ptr id (o1 + off) (.pointer (some ⟨r, o1 + off, none⟩)) rfl fun v' hv' => ?_, fun w' _ => ?_⟩
  ·rw [hv] at hv'; cases hv'; exact ⟨r, rfl, rfl⟩
  ·simp [execOp, ho, hau, zbo w' (TO t te ht) hs hf (TO ft te' hft) hz]
theorem zdQ {t : TypeId} {x : Operand} {f off ft id o1 : Nat} {te te' : TE} {fs : List (Nat × TypeId)} (TO : TabOk P tab) (ho : o.op = .fieldAddr t x f) (ht : tlook tab t = some te) (hs : te.sh = .st fs) (hf : fs[f]? = some (off, ft))
  (hft : tlook tab ft = some te') (hz : Nat.beq te'.size 0 = false) (hx : aev e x = some (.eptr id o1)) (hb : (look h id).isSome = true) : AYield P T e h o (.eptr id (o1 + off)) := fun Pm F w0 pin ι a w H E => by
 obtain ⟨b, hb⟩ := Option.isSome_iff_exists.1 hb
 obtain ⟨v, hv, _⟩ := H.blk id _ hb
 have hr := zm E hx
 generalize hau : a.eval x = u at hr
 cases hr with
 | eptr _ _ _ h1 h2 =>
  obtain ⟨r, n, cap, rfl, rfl⟩ := h2 v hv
  refine ⟨_, .eptr id (o1 + off) (.pointer (some ⟨r, o1 + off, none⟩)) rfl fun v' hv' => ?_, fun w' _ => ?_⟩
  ·rw [hv] at hv'; cases hv'; exact ⟨r, n, cap, rfl, rfl⟩
  ·simp [execOp, ho, hau, zbo w' (TO t te ht) hs hf (TO ft te' hft) hz]
theorem zdP {t : TypeId} {x : Operand} {f off ft o1 : Nat} {cs : List Dat} {te te' : TE} {fs : List (Nat × TypeId)} (TO : TabOk P tab) (ho : o.op = .fieldAddr t x f) (ht : tlook tab t = some te) (hs : te.sh = .st fs) (hf : fs[f]? = some (off, ft))
  (hft : tlook tab ft = some te') (hz : Nat.beq te'.size 0 = false) (hx : aev e x = some (.iptr cs o1)) : AYield P T e h o (.iptr cs (o1 + off)) := zE _ fun w F ι a E => by
 have hr := zm E hx
 generalize hau : a.eval x = u at hr
 cases hr with
 | iptr _ _ b o vs hl hfr hc hrr =>
  refine ⟨.pointer (some ⟨b, o + (o1 + off), none⟩), .iptr cs _ b o vs hl hfr hc hrr, fun w' => ?_⟩
  simp [execOp, ho, hau, zbo w' (TO t te ht) hs hf (TO ft te' hft) hz, Nat.add_assoc]

theorem zbm {t : TypeId} {te : TE} (w' : World) (Fa : TFacts P t te) (b o : Nat) (vs : List Value) (hl : vs.length = te.size) (hc : ∀ (j : Nat) (u : Value), vs[j]? = some u → w'.cell? ⟨b, o + j, none⟩ = some u) :
  (loadVar t ⟨b, o, none⟩).run P w' = match te.agg, vs with
   | true, vs => .ok (.agg vs.toArray) w'
   | false, v :: _ => .ok v w'
   | false, [] => (loadVar t ⟨b, o, none⟩).run P w' := by
 cases ha : te.agg with
 | true =>
  simp only [loadVar, Sem.run_bind, Fa.run_agg, Result.andThen_ok, ha, if_true, Fa.size]
  rw [← hl, run_loadCells_list (P := P) w' ⟨b, o, none⟩ vs (fun j v hv => by rw [Addr.add_mid]; exact hc j v hv)]
  simp
 | false =>
  cases vs with
  | nil => rfl
  | cons v r =>
   have := hc 0 v rfl
   rw [Nat.add_zero] at this
   simp [loadVar, Fa.run_agg, ha, load, Sem.run, this]
def win {α : Type} (cs : List α) (off k : Nat) : List α := (cs.drop off).take k
theorem zaf {α : Type} {cs xs : List α} {off k : Nat} (hw : win cs off k = xs) {j : Nat} {c : α} (hj : xs[j]? = some c) : cs[off + j]? = some c := by
 subst hw
 unfold win at hj
 rw [List.getElem?_take] at hj
 split at hj
 ·rwa [List.getElem?_drop] at hj
 ·cases hj
theorem zcG {t : TypeId} {te : TE} {x : Operand} {a : Act} {b o1 : Nat} (ho : o.op = .load t x) (Fa : TFacts P t te) (hau : a.eval x = .pointer (some ⟨b, o1, none⟩)) {w F ι} {cs : List AVal} {vs : List Value} (hl : vs.length = te.size) (hlc : cs.length = vs.length)
  (hr : ∀ (j : Nat) (c : AVal) (u : Value), cs[j]? = some c → vs[j]? = some u → VRel w F ι c u) {c : AVal} (hcc : cond te.agg (some (.agg cs)) cs.head? = some c) (C : World → Prop)
  (hc : ∀ w', C w' → ∀ (j : Nat) (u : Value), vs[j]? = some u → w'.cell? ⟨b, o1 + j, none⟩ = some u) : ∃ v, VRel w F ι c v ∧ ∀ w', C w' → (execOp a.eval o).run P w' = .ok (.value v) w' := by
 cases ha : te.agg with
 | true =>
  rw [ha] at hcc
  cases hcc
  refine ⟨.agg vs.toArray, .agg cs _ (by simpa using hlc.symm) fun i c u h1 h2 => hr i c u h1 (by simpa using h2), fun w' hw' => ?_⟩
  have := zbm w' Fa b o1 vs hl (hc w' hw')
  rw [ha] at this
  simp [execOp, ho, hau, Instr.loadAt, Instr.sureAddr, this]
 | false =>
  rw [ha, cond_false] at hcc
  cases cs with
  | nil => cases hcc
  | cons c0 r =>
   cases hcc
   cases vs with
   | nil => simp at hlc
   | cons v rv =>
    refine ⟨v, hr 0 _ _ rfl rfl, fun w' hw' => ?_⟩
    have := zbm w' Fa b o1 (v :: rv) hl (hc w' hw')
    rw [ha] at this
    simp [execOp, ho, hau, Instr.loadAt, Instr.sureAddr, this]
theorem zfd {t : TypeId} {x : Operand} {te : TE} {id o1 : Nat} {cs xs : List AVal} {c : AVal} (TO : TabOk P tab) (ho : o.op = .load t x) (ht : tlook tab t = some te) (hx : aev e x = some (.ptr id o1)) (hb : look h id = some (.var cs))
  (hT : T.contains id = false) (hw : win cs o1 te.size = xs) (hl : Nat.beq xs.length te.size = true) (hc : cond te.agg (some (.agg xs)) xs.head? = some c) : AYield P T e h o c := fun Pm F w0 pin ι a w H E => by
 obtain ⟨v, hv, r, C, TT, rfl, hC, hlC, hr⟩ := H.blk id _ hb
 have hrel := zm E hx
 have hl := Nat.eq_of_beq_eq_true hl
 generalize hau : a.eval x = u at hrel
 cases hrel with
 | ptr _ _ _ h1 h2 =>
  obtain ⟨r', h3, rfl⟩ := h2 _ hv
  cases h3
  have hcs : ∀ j, j < xs.length → o1 + j < C.size := fun j hj => by
   have := zaf hw (List.getElem?_eq_getElem hj)
   rw [hlC]; exact (List.getElem?_eq_some_iff.1 this).1
  have hvl : (win C.toList o1 te.size).length = xs.length := by
   subst hw; simp [win, hlC]
  refine zcG (vs := win C.toList o1 te.size) ho (TO t te ht) hau (by rw [hvl, hl]) (by rw [hvl]) (fun j c u h4 h5 => hr (o1 + j) c u (zaf hw h4) ?_) hc (CT T ι w) fun w' hw' j u hj => ?_
  ·have := zaf rfl h5; simpa using this
  ·have h6 := zaf rfl hj
   rw [Array.getElem?_toList] at h6
   have h7 := zcc H hw' hv rfl hT
   simp [World.cell?, h7, hC, h6]
theorem zeF {t : TypeId} {x : Operand} {te : TE} {id o1 : Nat} {el k n : Nat} {cs : List Dat} {xs : List AVal} {c : AVal} (TO : TabOk P tab) (ho : o.op = .load t x) (ht : tlook tab t = some te) (hx : aev e x = some (.eptr id o1)) (hb : look h id = some (.row el k n cs))
  (hT : T.contains id = false) (hw : (win cs o1 te.size).map AVal.d = xs) (hl : Nat.beq xs.length te.size = true) (hc : cond te.agg (some (.agg xs)) xs.head? = some c) : AYield P T e h o c := fun Pm F w0 pin ι a w H E => by
 obtain ⟨v, hv, ys, hown, hly, hr⟩ := H.blk id _ hb
 have hrel := zm E hx
 have hl := Nat.eq_of_beq_eq_true hl
 generalize hau : a.eval x = u at hrel
 cases hrel with
 | eptr _ _ _ h1 h2 =>
  obtain ⟨g, n', cap, h3, rfl⟩ := h2 _ hv
  subst h3
  have hvl : (win ys o1 te.size).length = xs.length := by
   subst hw; simp [win, hly]
  refine zcG (vs := win ys o1 te.size) ho (TO t te ht) hau (by rw [hvl, hl]) (by rw [hvl]) (fun j c u h4 h5 => ?_) hc (CT T ι w) fun w' hw' j u hj => ?_
  ·subst hw
   rw [List.getElem?_map] at h4
   cases h6 : (win cs o1 te.size)[j]? with
   | none => simp [h6] at h4
   | some d => simp [h6] at h4; subst h4; exact .d _ _ (hr (o1 + j) d u (zaf rfl h6) (zaf rfl h5))
  ·have h6 := zaf rfl hj
   have h7 := zcc H hw' hv rfl hT
   have h8 := hown.cells (g := g) rfl (o1 + j) u h6
   rw [Addr.add_mid, Nat.zero_add] at h8
   exact z7 h7 h8
theorem zeE {t : TypeId} {x : Operand} {te : TE} {o1 : Nat} {cs : List Dat} {xs : List Dat} {c : AVal} (TO : TabOk P tab) (ho : o.op = .load t x) (ht : tlook tab t = some te) (hx : aev e x = some (.iptr cs o1))
  (hw : win cs o1 te.size = xs) (hl : Nat.beq xs.length te.size = true) (hc : cond te.agg (some (.agg (xs.map AVal.d))) (xs.map AVal.d).head? = some c) : AYield P T e h o c := fun Pm F w0 pin ι a w H E => by
 have hrel := zm E hx
 have hl := Nat.eq_of_beq_eq_true hl
 generalize hau : a.eval x = u at hrel
 cases hrel with
 | iptr _ _ b o2 vs hlv hfr hcv hr =>
  have hvl : (win vs o1 te.size).length = xs.length := by
   subst hw; simp [win, hlv]
  have hcell : ∀ (j : Nat) (u : Value), (win vs o1 te.size)[j]? = some u → w.cell? ⟨b, o2 + (o1 + j), none⟩ = some u := fun j u hj => hcv _ u (zaf rfl hj)
  refine zcG (vs := win vs o1 te.size) ho (TO t te ht) hau (by rw [hvl, hl]) (by simp [hvl]) (fun j c u h4 h5 => ?_) hc (CT T ι w) fun w' hw' j u hj => ?_
  ·subst hw
   rw [List.getElem?_map] at h4
   cases h6 : (win cs o1 te.size)[j]? with
   | none => simp [h6] at h4
   | some d => simp [h6] at h4; subst h4; exact .d _ _ (hr (o1 + j) d u (zaf rfl h6) (zaf rfl h5))
  ·have h8 := hcell j u hj
   rw [Nat.add_assoc]
   refine z7 (zfz hw' (zcg h8) (hfr ?_)) h8
   rintro rfl
   simp [win] at hj
end
end Go.Proofs.YtoahnbmedcjpeaaGreatDoor.Ab

namespace Go.Proofs.YtoahnbmedcjpeaaGreatDoor.Ab
open Go.RowKit

def cellsA : AVal → Option (List AVal)
 | .agg cs => some cs
 | .top => none
 | .und => none
 | .tup _ => none
 | c => some [c]
theorem zgM {w : World} {F : Nat → Prop} {ι : Nat → Option Value} {c : AVal} {u : Value} (h : VRel w F ι c u) (hc : cellsA c = some [c]) : u.oneCell' = true := by
 cases h with
 | top => cases hc
 | und => cases hc
 | d _ _ hd => cases hd <;> first | assumption | rfl
 | agg cs C hl h =>
  cases cs with
  | nil => cases hc
  | cons a r => injection hc with hc; injection hc with h1 h2; exfalso; have := congrArg SizeOf.sizeOf h1; simp at this; omega
 | tup => cases hc
 | ptr _ _ _ h1 _ => exact h1
 | eptr _ _ _ h1 _ => exact h1
 | iptr => rfl
 | row _ _ h1 _ => exact h1
 | mp _ _ h1 _ => exact h1
 | fn => rfl
 | srow _ _ _ _ h1 _ => exact h1
 | full => rfl
def plainC : AVal → Bool
 | .agg _ => false
 | .top => false
 | .und => false
 | .tup _ => false
 | _ => true
theorem zdL {c : AVal} (h : plainC c = true) : cellsA c = some [c] := by cases c <;> simp [plainC] at h <;> rfl
theorem zbL {w : World} {F : Nat → Prop} {ι : Nat → Option Value} {c : AVal} {u : Value} (h : VRel w F ι c u) {cs : List AVal} (hc : cellsA c = some cs) :
  u.cells.size = cs.length ∧ ∀ (i : Nat) (c : AVal) (v : Value), cs[i]? = some c → u.cells[i]? = some v → VRel w F ι c v := by
 have one : cellsA c = some [c] → (∀ C, u ≠ .agg C) → u.cells.size = cs.length ∧ ∀ (i : Nat) (c : AVal) (v : Value), cs[i]? = some c → u.cells[i]? = some v → VRel w F ι c v := fun h1 h2 => by
  rw [h1] at hc; cases hc
  have : u.cells = #[u] := by cases u <;> first | rfl | exact absurd rfl (h2 _)
  rw [this]
  refine ⟨rfl, fun i c' v h3 h4 => ?_⟩
  cases i with
  | zero => simp at h3 h4; subst h3 h4; exact h
  | succ i => simp at h3
 have agg1 : u.oneCell' = true → ∀ C, u ≠ .agg C := fun h1 C h2 => by subst h2; cases h1
 cases h with
 | top => cases hc
 | und => cases hc
 | d _ _ hd => exact one rfl (agg1 (zgM (.d _ _ hd) rfl))
 | agg cs' C hl hh =>
  cases hc
  exact ⟨hl, hh⟩
 | tup => cases hc
 | ptr _ _ _ h1 _ => exact one rfl (agg1 h1)
 | eptr _ _ _ h1 _ => exact one rfl (agg1 h1)
 | iptr => exact one rfl (by simp)
 | row _ _ h1 _ => exact one rfl (agg1 h1)
 | mp _ _ h1 _ => exact one rfl (agg1 h1)
 | fn => exact one rfl (by simp)
 | srow _ _ _ _ h1 _ => exact one rfl (agg1 h1)
 | full => exact one rfl (by simp)

section
variable {P : Program} {nt : Nat} {T : List Nat} {e : Env} {h : Heap} {o : Oper} {tab : TTab}

theorem zeY (w : World) (x : Obj) : Grew w (w.alloc x) := ⟨rfl, rfl, rfl, by simp, fun r hr => Below.heap_alloc w x r hr⟩
theorem Rel.new {Pm F : Nat → Prop} {w0 w : World} {pin ι : Nat → Option Value} {a : Act} (R : Rel Pm F w0 pin ι nt e h a w) {id : Nat} (hid : Nat.blt id 1000 = true) {d : Option Tmp} (hd : dstOk nt d = true) (x : Obj) (v : Value) (hv : ∀ r, blockOf v = some r → r = w.heap.size)
  (b : ABlk) (c : AVal) (hb : ∀ ι', ι' = upd ι id (some v) → Ext w F ι (w.alloc x) ι' → BRel (w.alloc x) F ι' b v) (hc : ∀ ι', ι' = upd ι id (some v) → VRel (w.alloc x) F ι' c v) :
  Rel Pm F w0 pin (upd ι id (some v)) nt (aput d c (killE id e)) ((id, b) :: killH id h) (a.put d v) (w.alloc x) ∧ CTo T ι w (upd ι id (some v)) (w.alloc x) := by
 have G := zeY w x
 have TT : Touch w ι id v (w.alloc x) := ⟨G.os, G.tape, G.output, G.size, fun r hr _ => G.mem r hr, fun r hr => .inl (by rw [hv r hr]; exact Nat.le_refl _)⟩
 have hid : id < 1000 := by simp [Nat.blt] at hid; omega
 refine ⟨⟨R.heap.touch TT (.inl hid) (hb _ rfl TT.ext), ?_, by rw [zx]; exact R.defers.ext TT.ext, by rw [zaD]; exact R.size⟩, G.ct T, fun j _ u r hj hr hlt => ?_⟩
 ·exact (R.env.killed TT.ext).aput hd R.size (hc _ rfl)
 ·unfold upd at hj
  split at hj
  ·cases hj; rw [hv r hr] at hlt; omega
  ·exact ⟨u, hj, hr⟩

theorem za5 (w : World) (x : Obj) : (w.alloc x).heap[w.heap.size]? = some x := heap_alloc_new w x
theorem zfL {t : TypeId} {te : TE} {d : Option Tmp} {id : Nat} (TO : TabOk P tab) (ho : o.op = .alloc t) (hdst : o.dst = d) (ht : tlook tab t = some te) (hid : Nat.blt id 1000 = true) (hd : dstOk nt d = true) (hz : te.zero.all (·.oneCell') = true) :
  AEff P nt T e h o (fun e' h' => e' = aput d (.ptr id 0) (killE id e) ∧ h' = (id, .var (te.zero.map fun v => .d (.sc v))) :: killH id h) := fun Pm F w0 pin ι a w R K Qx hK => by
 obtain ⟨z, hz1, hz2, _⟩ := (TO t te ht).zero w
 have hb : ∀ ι', ι' = upd ι id (some (.pointer (some ⟨w.heap.size, 0, none⟩))) → Ext w F ι (w.alloc (.cells z.cells t)) ι' → BRel (w.alloc (.cells z.cells t)) F ι' (.var (te.zero.map fun v => .d (.sc v))) (.pointer (some ⟨w.heap.size, 0, none⟩)) := by
  intro ι' _ _
  refine ⟨_, z.cells, t, rfl, za5 _ _, by simp [← hz2], fun i c u h1 h2 => ?_⟩
  rw [List.getElem?_map, ← hz2, Array.getElem?_toList, h2] at h1
  cases h1
  refine zQ ?_
  exact List.all_eq_true.1 hz u (by rw [← hz2]; exact List.mem_of_getElem? (by rw [Array.getElem?_toList]; exact h2))
 obtain ⟨hR, hC⟩ := R.new (T := T) hid hd (.cells z.cells t) (.pointer (some ⟨w.heap.size, 0, none⟩)) (by simp [blockOf]) _ (.ptr id 0) hb fun ι' h1 => .ptr id 0 _ rfl fun v hv => by subst h1; simp [upd] at hv; subst hv; exact ⟨_, rfl, rfl⟩
 have hrun : (execOp a.eval o).run P w = .ok (.value (.pointer (some ⟨w.heap.size, 0, none⟩))) (w.alloc (.cells z.cells t)) := by
  simp [execOp, ho, Instr.alloc, hz1, newVar, newRow, newObj, Sem.run]
 unfold Oper.wp
 rw [hrun, Oper.upon_value, hdst]
 exact hK _ _ _ _ _ ⟨rfl, rfl⟩ hR hC (zx _ _ _)
theorem zjq {t : TypeId} {x : Operand} {d : Option Tmp} {id : Nat} {c : AVal} {cs : List AVal} (ho : o.op = .box t x) (hdst : o.dst = d) (hx : aev e x = some c) (hcs : cellsA c = some cs) (hid : Nat.blt id 1000 = true) (hd : dstOk nt d = true) :
  AEff P nt T e h o (fun e' h' => e' = aput d (.ptr id 0) (killE id e) ∧ h' = (id, .var (cs.map (killV id))) :: killH id h) := fun Pm F w0 pin ι a w R K Qx hK => by
 have hv := zm R.env hx
 obtain ⟨hsz, hcr⟩ := zbL hv hcs
 have hb : ∀ ι', ι' = upd ι id (some (.pointer (some ⟨w.heap.size, 0, none⟩))) → Ext w F ι (w.alloc (.cells (a.eval x).cells t)) ι' → BRel (w.alloc (.cells (a.eval x).cells t)) F ι' (.var (cs.map (killV id))) (.pointer (some ⟨w.heap.size, 0, none⟩)) := by
  intro ι' h0 he
  refine ⟨_, _, t, rfl, za5 _ _, by simpa using hsz, fun i c' u h1 h2 => ?_⟩
  rw [List.getElem?_map] at h1
  cases h3 : cs[i]? with
  | none => simp [h3] at h1
  | some c0 => simp [h3] at h1; subst h1; subst h0; exact (hcr i c0 u h3 h2).killed he
 obtain ⟨hR, hC⟩ := R.new (T := T) hid hd (.cells (a.eval x).cells t) (.pointer (some ⟨w.heap.size, 0, none⟩)) (by simp [blockOf]) _ (.ptr id 0) hb fun ι' h1 => .ptr id 0 _ rfl fun v hv => by subst h1; simp [upd] at hv; subst hv; exact ⟨_, rfl, rfl⟩
 have hrun : (execOp a.eval o).run P w = .ok (.value (.pointer (some ⟨w.heap.size, 0, none⟩))) (w.alloc (.cells (a.eval x).cells t)) := by
  simp [execOp, ho, Instr.box, newVar, newRow, newObj, Sem.run]
 unfold Oper.wp
 rw [hrun, Oper.upon_value, hdst]
 exact hK _ _ _ _ _ ⟨rfl, rfl⟩ hR hC (zx _ _ _)

def setW {α : Type} (cs : List α) (off : Nat) (xs : List α) : List α := cs.take off ++ xs ++ cs.drop (off + xs.length)
theorem zbl {α : Type} {cs xs : List α} {off i : Nat} (hl : off + xs.length ≤ cs.length) : (setW cs off xs)[i]? = if off ≤ i ∧ i < off + xs.length then xs[i - off]? else cs[i]? := by
 unfold setW
 rw [List.append_assoc, List.getElem?_append, List.length_take, Nat.min_eq_left (by omega)]
 by_cases h1 : i < off
 ·rw [if_pos h1, if_neg (by omega), List.getElem?_take, if_pos h1]
 ·rw [if_neg h1, List.getElem?_append]
  by_cases h2 : i - off < xs.length
  ·rw [if_pos h2, if_pos (by omega)]
  ·rw [if_neg h2, if_neg (by omega), List.getElem?_drop]
   congr 1
   omega
theorem zbZ {w : World} {g : Nat} {C C' : Array Value} {tt : TypeId} (hg : w.heap[g]? = some (.cells C tt (0, 0))) {v : Value} (hv : blockOf v = some g) : Wrote w v (w.setRow g C') ∧ (w.setRow g C').heap[g]? = some (.cells C' tt (0, 0)) := by
 have h1 := setRow_heap w g C C' tt (0, 0) hg
 refine ⟨⟨rfl, rfl, rfl, by simp [World.setRow], fun r hr hne => ?_⟩, h1⟩
 have : g ≠ r := by rintro rfl; exact hne hv
 simp [World.setRow, Array.getElem?_modify, this]
theorem zb2 {t : TypeId} {te : TE} {w : World} (Fa : TFacts P t te) {g off : Nat} {C : Array Value} {tt : TypeId} (hg : w.heap[g]? = some (.cells C tt (0, 0))) (v : Value) (hs : v.cells.size = te.size) (hl : off + te.size ≤ C.size) (h1 : ∀ u ∈ v.cells.toList, u.oneCell' = true) :
  (storeVar t ⟨g, off, none⟩ v).run P w = .ok () (w.setRow g (setW C.toList off v.cells.toList).toArray) := by
 have := run_storeCells_at (P := P) g off tt v.cells.toList 0 C w hg (by simpa [hs] using hl) h1
 simp [storeVar, Fa.size, hs, this, setW]
theorem zcD {t : TypeId} {x y : Operand} {d : Option Tmp} {te : TE} {id off : Nat} {cs xs ys : List AVal} {c : AVal} (TO : TabOk P tab) (ho : o.op = .store t x y) (hdst : o.dst = d) (ht : tlook tab t = some te) (hx : aev e x = some (.ptr id off)) (hb : look h id = some (.var cs))
  (hy : aev e y = some c) (hcs : cellsA c = some xs) (hp : xs.all plainC = true) (hl : Nat.beq xs.length te.size = true) (hle : Nat.ble (off + te.size) cs.length = true) (hys : setW cs off xs = ys) (hd : dstOk nt d = true) (hT : T.contains id = true) :
  AEff P nt T e h o (fun e' h' => e' = aput d .und e ∧ h' = (id, .var ys) :: h) := fun Pm F w0 pin ι a w R K Qx hK => by
 obtain ⟨v, hv, g, C, tt, rfl, hC, hlC, hr⟩ := R.heap.blk id _ hb
 have hrel := zm R.env hx
 have hyr := zm R.env hy
 obtain ⟨hsz, hcr⟩ := zbL hyr hcs
 have hl := Nat.eq_of_beq_eq_true hl
 have hle := Nat.le_of_ble_eq_true hle
 generalize hau : a.eval x = u at hrel
 cases hrel with
 | ptr _ _ _ h1 h2 =>
  obtain ⟨r', h3, rfl⟩ := h2 _ hv
  cases h3
  have hone : ∀ u ∈ (a.eval y).cells.toList, u.oneCell' = true := fun u hu => by
   obtain ⟨i, hi⟩ := List.mem_iff_getElem?.1 hu
   have hlt : i < xs.length := by rw [← hsz, ← Array.length_toList]; exact (List.getElem?_eq_some_iff.1 hi).1
   exact zgM (hcr i xs[i] u (List.getElem?_eq_getElem hlt) (by simpa using hi)) (zdL (List.all_eq_true.1 hp _ (List.getElem_mem hlt)))
  have hrun := zb2 (w := w) (TO t te ht) hC (a.eval y) (by rw [hsz, hl]) (by rw [hlC]; exact hle) hone (off := off)
  obtain ⟨hW, hnew⟩ := zbZ (C' := (setW C.toList off (a.eval y).cells.toList).toArray) hC (v := .pointer (some ⟨g, 0, none⟩)) rfl
  have hlen : (a.eval y).cells.toList.length = xs.length := by simpa using hsz
  unfold Oper.wp
  have hrun2 : (execOp a.eval o).run P w = .ok .skip (w.setRow g (setW C.toList off (a.eval y).cells.toList).toArray) := by
   simp [execOp, ho, Instr.storeAt, Instr.sureAddr, hau, hrun]
  rw [hrun2, Oper.upon_skip, hdst]
  refine hK ι _ _ _ _ ⟨rfl, rfl⟩ ?_ ?_ (zx _ _ _)
  ·refine ⟨R.heap.wrote hW hv ⟨g, _, tt, rfl, hnew, ?_, fun i c' u h4 h5 => ?_⟩, (R.env.mono fun _ _ _ _ hv' => hv'.wrote hW hv).aput hd R.size .und, by rw [zx]; exact R.defers.ext (hW.ext hv), by rw [zaD]; exact R.size⟩
   ·subst hys
    have e1 := hlC
    simp [setW, hsz]
    omega
   ·subst hys
    rw [zbl (by omega)] at h4
    rw [List.getElem?_toArray, zbl (by rw [hlen]; simp; omega), hlen] at h5
    split at h4
    ·rename_i hin
     rw [if_pos hin] at h5
     exact (hcr _ _ _ h4 (by simpa using h5)).wrote hW hv
    ·rename_i hin
     rw [if_neg hin] at h5
     exact (hr _ _ _ h4 (by simpa using h5)).wrote hW hv
  ·exact ⟨⟨hW.os, hW.tape, hW.output, hW.size, fun r hr hne => hW.mem r hr fun hb => hne id (List.contains_iff_mem.1 hT) _ hv hb⟩, fun j _ u r hj hr _ => ⟨u, hj, hr⟩⟩

def afill (place : Nat → Option (Nat × Nat)) (cells : List AVal) : List (Nat × AVal) → Option (List AVal)
 | [] => some cells
 | (i, c) :: r => match place i, cellsA c with
  | some (off, size), some xs => cond (Nat.beq xs.length size && Nat.ble (off + xs.length) cells.length) (afill place (setW cells off xs) r) none
  | _, _ => none
def dat0 : AVal → AVal
 | .fn f [] => .d (.sc (.func (.func f) #[] #[]))
 | c => c
theorem zhg {w : World} {F : Nat → Prop} {ι : Nat → Option Value} {c : AVal} {u : Value} (h : VRel w F ι c u) : VRel w F ι (dat0 c) u := by
 cases h with
 | fn f cs C hl hh =>
  cases cs with
  | nil =>
   have : C = #[] := Array.eq_empty_of_size_eq_zero hl
   subst this
   exact .d _ _ (.sc _ rfl)
  | cons c cs => exact .fn f (c :: cs) C hl hh
 | _ => constructor <;> assumption
def aparts (e : Env) : List (Nat × Operand) → Option (List (Nat × AVal))
 | [] => some []
 | (i, x) :: r => match aev e x, aparts e r with
  | some c, some l => some ((i, dat0 c) :: l)
  | _, _ => none
theorem zdt (off : Nat) : ∀ (xs : List Value) (k : Nat) (C : Array Value), ((xs.zipIdx k).foldl (fun cs (c, j) => cs.setIfInBounds (off + j) c) C).size = C.size ∧
  ∀ i : Nat, ((xs.zipIdx k).foldl (fun cs (c, j) => cs.setIfInBounds (off + j) c) C)[i]? = if off + k ≤ i ∧ i < off + k + xs.length ∧ i < C.size then xs[i - (off + k)]? else C[i]?
 | [], k, C => ⟨rfl, fun i => by rw [if_neg (by simp; omega)]; rfl⟩
 | x :: xs, k, C => by
  obtain ⟨h1, h2⟩ := zdt off xs (k + 1) (C.setIfInBounds (off + k) x)
  rw [List.zipIdx_cons, List.foldl_cons]
  refine ⟨by rw [h1]; simp, fun i => ?_⟩
  rw [h2]
  simp only [Array.size_setIfInBounds, List.length_cons]
  by_cases hi : i = off + k
  ·subst hi
   rw [if_neg (by omega), Array.getElem?_setIfInBounds_self]
   by_cases hs : off + k < C.size
   ·rw [if_pos hs, if_pos (by omega)]; simp
   ·rw [if_neg hs, if_neg (by omega), Array.getElem?_eq_none (by omega)]
  ·rw [Array.getElem?_setIfInBounds_ne (by omega)]
   by_cases h3 : off + (k + 1) ≤ i ∧ i < off + (k + 1) + xs.length ∧ i < C.size
   ·rw [if_pos h3, if_pos (by omega), show i - (off + k) = (i - (off + (k + 1))) + 1 by omega, List.getElem?_cons_succ]
   ·rw [if_neg h3, if_neg (by omega)]
theorem zbM {w : World} {F : Nat → Prop} {ι : Nat → Option Value} {a : Act} (E : EnvRel w F ι e a) (place : Nat → Option (Nat × Nat)) : ∀ (l : List (Nat × Operand)) (al : List (Nat × AVal)) (cells : List AVal) (C : Array Value) (xs : List AVal),
  aparts e l = some al → afill place cells al = some xs → C.size = cells.length → (∀ (i : Nat) (c : AVal) (u : Value), cells[i]? = some c → C[i]? = some u → VRel w F ι c u) →
  ∃ C', Instr.fill place C (l.map fun p => (p.1, a.eval p.2)) = some C' ∧ C'.size = xs.length ∧ ∀ (i : Nat) (c : AVal) (u : Value), xs[i]? = some c → C'[i]? = some u → VRel w F ι c u
 | [], al, cells, C, xs, h1, h2, h3, h4 => by
  cases h1; cases h2; exact ⟨C, rfl, h3, h4⟩
 | (i, x) :: l, al, cells, C, xs, h1, h2, h3, h4 => by
  rw [aparts] at h1
  cases hx : aev e x with
  | none => simp [hx] at h1
  | some c =>
   cases hr : aparts e l with
   | none => simp [hx, hr] at h1
   | some al' =>
    simp [hx, hr] at h1
    subst h1
    have hd := zhg (zm E hx)
    generalize dat0 c = c at h2 hd
    rw [afill] at h2
    cases hp : place i with
    | none => simp [hp] at h2
    | some q =>
     obtain ⟨off, size⟩ := q
     cases hc : cellsA c with
     | none => simp [hp, hc] at h2
     | some ys =>
      simp only [hp, hc] at h2
      cases hb : Nat.beq ys.length size && Nat.ble (off + ys.length) cells.length with
      | false => rw [hb] at h2; cases h2
      | true =>
       rw [hb, cond_true] at h2
       simp only [Bool.and_eq_true] at hb
       have hs := Nat.eq_of_beq_eq_true hb.1
       have hl := Nat.le_of_ble_eq_true hb.2
       obtain ⟨hsz, hcr⟩ := zbL hd hc
       obtain ⟨f1, f2⟩ := zdt off (a.eval x).cells.toList 0 C
       have hcl : (a.eval x).cells.toList.length = ys.length := by simpa using hsz
       obtain ⟨C', g1, g2, g3⟩ := zbM E place l al' (setW cells off ys) (((a.eval x).cells.toList.zipIdx 0).foldl (fun cs (c, j) => cs.setIfInBounds (off + j) c) C) xs hr h2 (by rw [f1, h3]; simp [setW]; omega) fun j c' u h5 h6 => by
        rw [f2, hcl] at h6
        rw [zbl hl] at h5
        by_cases hin : off ≤ j ∧ j < off + ys.length
        ·rw [if_pos hin] at h5
         rw [if_pos (by omega)] at h6
         exact hcr _ _ _ h5 (by simpa using h6)
        ·rw [if_neg hin] at h5
         rw [if_neg (by omega)] at h6
         exact h4 _ _ _ h5 h6
       refine ⟨C', ?_, g2, g3⟩
       rw [← g1]
       simp only [List.map_cons, Instr.fill, hp]
       rw [if_neg (by rw [hsz, h3]; simp; omega)]
       congr 1
       rw [← Array.foldl_toList]
       congr 1
       simp [Array.toList_zipIdx]
def stPlace (tab : TTab) (fs : List (Nat × TypeId)) (i : Nat) : Option (Nat × Nat) := match fs[i]? with
 | some (off, t) => match tlook tab t with
  | some te => some (off, te.size)
  | none => none
 | none => none
theorem ziS {t : TypeId} {ps : Array (Nat × Operand)} {te : TE} {fs : List (Nat × TypeId)} {al : List (Nat × AVal)} {xs : List AVal} (TO : TabOk P tab) (ho : o.op = .build t ps) (ht : tlook tab t = some te) (hs : te.sh = .st fs) (hfs : fs.all (fun f => (tlook tab f.2).isSome) = true)
  (hz : te.zero.all (·.oneCell') = true) (hal : aparts e ps.toList = some al) (hf : afill (stPlace tab fs) (te.zero.map fun v => .d (.sc v)) al = some xs) : AYield P T e h o (.agg xs) := zE _ fun w F ι a E => by
 obtain ⟨FF, hu, hF⟩ := (TO t te ht).struct hs
 obtain ⟨z, _, hz2, i, hi, hz3, _⟩ := (TO t te ht).zero w
 obtain ⟨C', g1, g2, g3⟩ := zbM E (stPlace tab fs) ps.toList al _ z.cells xs hal hf (by simp [← hz2]) fun i c u h1 h2 => by
  rw [List.getElem?_map, ← hz2, Array.getElem?_toList, h2] at h1
  cases h1
  exact zQ (List.all_eq_true.1 hz u (by rw [← hz2]; exact List.mem_of_getElem? (by rw [Array.getElem?_toList]; exact h2)))
 refine ⟨.agg C', .agg xs C' g2 g3, fun w' => ?_⟩
 have hplaces : ∀ w' : World, (FF.mapM (m := Sem) fun f => Prod.mk f.offset <$> sizeOf f.type).run P w' = .ok (FF.map fun f => (f.offset, P.cellsOf f.type)) w' := by
  intro w'
  rw [Array.mapM_eq_mapM_toList]
  have : ∀ (l : List Field), (∀ f ∈ l, (tlook tab f.type).isSome = true) → (l.mapM (m := Sem) fun f => Prod.mk f.offset <$> sizeOf f.type).run P w' = .ok (l.map fun f => (f.offset, P.cellsOf f.type)) w' := by
   intro l
   induction l with
   | nil => intro _; rfl
   | cons f l ih =>
    intro hl
    obtain ⟨te', hte'⟩ := Option.isSome_iff_exists.1 (hl f (by simp))
    have h1 := (TO _ _ hte').size w'
    have h2 := ih fun g hg => hl g (by simp [hg])
    rw [List.mapM_cons]
    simp [h1, h2, (TO _ _ hte').cellsOf]
  have h1 := this FF.toList fun f hf => by
   have := List.all_eq_true.1 hfs (f.offset, f.type) (by rw [← hF]; exact List.mem_map.2 ⟨f, hf, rfl⟩)
   exact this
  simp [h1, ← Array.toList_map]
 have hpl : (fun i => (FF.map fun f => (f.offset, P.cellsOf f.type))[i]?) = stPlace tab fs := by
  funext i
  unfold stPlace
  rw [← hF, List.getElem?_map, Array.getElem?_toList, Array.getElem?_map]
  cases hfi : FF[i]? with
  | none => rfl
  | some f =>
   have := List.all_eq_true.1 hfs (f.offset, f.type) (by rw [← hF]; exact List.mem_map.2 ⟨f, Array.mem_toList_iff.2 (Array.mem_of_getElem? hfi), rfl⟩)
   obtain ⟨te', hte'⟩ := Option.isSome_iff_exists.1 this
   dsimp only at hte'
   simp [hte', (TO _ _ hte').cellsOf]
 have hfill : Instr.fill (fun x => Option.map (fun f => (f.offset, P.cellsOf f.type)) FF[x]?) z.cells (ps.toList.map fun p => (p.1, a.eval p.2)) = some C' := by
  rw [← g1, ← hpl]; congr 1; funext x; rw [Array.getElem?_map]
 have hzero : (zeroValue t).run P w' = .ok z w' := by simp [zeroValue, typeInfo, hi, hz3]
 simp only [execOp, ho]
 simp [Instr.build, hzero, run_underlying hu, hplaces, hfill]

theorem zck {t el : TypeId} {ps : Array (Nat × Operand)} {len : Nat} {te te' : TE} {d : Option Tmp} {id : Nat} {al : List (Nat × AVal)} {xs : List AVal} {ds : List Dat} (TO : TabOk P tab) (ho : o.op = .buildSlice t len ps) (hdst : o.dst = d) (ht : tlook tab t = some te) (hs : te.sh = .sl el)
  (hel : tlook tab el = some te') (hz : te'.zero.all (·.oneCell') = true) (hk : Nat.blt 0 te'.size = true) (hk2 : Nat.beq te'.zero.length te'.size = true) (hlen : Nat.blt (len * te'.size) 16777216 = true) (hpos : Nat.blt 0 len = true) (hal : aparts e ps.toList = some al)
  (hf : afill (fun i => some (i * te'.size, te'.size)) ((List.range (len * te'.size)).map fun j => match te'.zero[j % te'.size]? with | some v => .d (.sc v) | none => .top) al = some xs) (hds : xs = ds.map AVal.d) (hid : Nat.blt id 1000 = true) (hd : dstOk nt d = true) :
  AEff P nt T e h o (fun e' h' => e' = aput d (.row id) (killE id e) ∧ h' = (id, .row el te'.size len ds) :: killH id h) := fun Pm F w0 pin ι a w R K Qx hK => by
 have hu := (TO t te ht).slice hs
 obtain ⟨z, hz1, hz2, _⟩ := (TO el te' hel).zero w
 have hzl : z.cells.size = te'.size := by rw [← Array.length_toList, hz2]; exact Nat.eq_of_beq_eq_true hk2
 have hk : 0 < te'.size := by simp [Nat.blt] at hk; omega
 have hlen : len * te'.size < 16777216 := by simp [Nat.blt] at hlen; omega
 have hpos : 0 < len := by simp [Nat.blt] at hpos; omega
 let C0 : Array Value := (Array.range (len * te'.size)).map (z.cells[· % z.cells.size]!)
 have hget : ∀ j, j < len * te'.size → C0[j]? = te'.zero[j % te'.size]? ∧ ∃ v, te'.zero[j % te'.size]? = some v ∧ v.oneCell' = true := by
  intro j hj
  have hlt : j % te'.size < z.cells.size := by rw [hzl]; exact Nat.mod_lt _ hk
  have e1 : te'.zero[j % te'.size]? = some z.cells[j % te'.size] := by rw [← hz2, Array.getElem?_toList, Array.getElem?_eq_getElem hlt]
  refine ⟨?_, z.cells[j % te'.size], e1, List.all_eq_true.1 hz _ (List.mem_of_getElem? e1)⟩
  rw [e1]
  have hlt2 : j % z.cells.size < z.cells.size := by rw [hzl] at hlt ⊢; exact hlt
  simp only [C0, Array.getElem?_map]
  rw [Array.getElem?_range]
  simp only [hj, if_true, Option.map_some]
  rw [getElem!_pos z.cells _ hlt2]
  simp only [hzl]
 obtain ⟨C', g1, g2, g3⟩ := zbM R.env (fun i => some (i * te'.size, te'.size)) ps.toList al _ C0 xs hal hf (by simp [C0]) fun j c u h1 h2 => by
  have hj : j < len * te'.size := by have := (Array.getElem?_eq_some_iff.1 h2).1; simpa [C0] using this
  obtain ⟨e1, v, e2, e3⟩ := hget j hj
  rw [List.getElem?_map, List.getElem?_range hj] at h1
  simp only [Option.map_some, e2] at h1
  cases h1
  rw [e1, e2] at h2
  cases h2
  exact zQ e3
 have hxl : xs.length = len * te'.size := by
  have : ∀ (al : List (Nat × AVal)) (cells xs : List AVal) (place : Nat → Option (Nat × Nat)), afill place cells al = some xs → xs.length = cells.length := by
   intro al
   induction al with
   | nil => intro cells xs place h; cases h; rfl
   | cons p r ih =>
    intro cells xs place h
    obtain ⟨i, c⟩ := p
    rw [afill] at h
    split at h
    ·rename_i off size ys _ _
     cases hb : Nat.beq ys.length size && Nat.ble (off + ys.length) cells.length with
     | false => rw [hb] at h; cases h
     | true =>
      rw [hb] at h
      have := ih _ _ _ h
      have hl := Nat.le_of_ble_eq_true (by simp only [Bool.and_eq_true] at hb; exact hb.2)
      rw [this]; simp [setW]; omega
    ·cases h
  rw [this al _ xs _ hf]; simp
 have hb : ∀ ι', ι' = upd ι id (some (.slice (some ⟨w.heap.size, 0, none⟩) len len)) → Ext w F ι (w.alloc (.cells C' el)) ι' → BRel (w.alloc (.cells C' el)) F ι' (.row el te'.size len ds) (.slice (some ⟨w.heap.size, 0, none⟩) len len) := by
  intro ι' h0 he
  have hsz : C'.size = len * te'.size := by rw [g2, hxl]
  refine ⟨C'.toList, ⟨by simp [hsz], .inr ⟨w.heap.size, len, C', rfl, Nat.zero_le _, za5 _ _, Nat.le_refl _, ?_, hsz, ?_⟩⟩, ?_, ?_⟩
  ·have := Nat.le_mul_of_pos_right len hk
   unfold maxLen; omega
  ·rw [List.take_of_length_le (by simp [hsz])]
  ·subst hds; simpa using g2
  ·intro i c u h1 h2
   subst hds
   have := g3 i (.d c) u (by rw [List.getElem?_map, h1]; rfl) (by simpa using h2)
   cases this with
   | d _ _ hd => exact hd.ext he.mem he.free
 obtain ⟨hR, hC⟩ := R.new (T := T) hid hd (.cells C' el) (.slice (some ⟨w.heap.size, 0, none⟩) len len) (by simp [blockOf]) _ (.row id) hb fun ι' h1 => .row id _ rfl fun v hv => by subst h1; simp [upd] at hv; exact hv
 have hrun : (execOp a.eval o).run P w = .ok (.value (.slice (some ⟨w.heap.size, 0, none⟩) len len)) (w.alloc (.cells C' el)) := by
  have hfill : Instr.fill (fun i => some (i * te'.size, te'.size)) C0 (ps.map fun p => (p.1, a.eval p.2)).toList = some C' := by rw [Array.toList_map]; exact g1
  simp only [execOp, ho]
  have h0 : ¬ (len = 0 ∨ te'.size = 0) := by omega
  rw [Array.toList_map] at hfill
  have hn : ¬ (16777216 < len * te'.size) := by omega
  simp [Instr.buildSlice, run_underlying hu, (TO el te' hel).size, hz1, hn]
  rw [show Instr.fill (fun i => some (i * te'.size, te'.size)) _ _ = some C' from hfill]
  simp [newRow, newObj, Sem.run]
  intro h9
  rcases Nat.mul_eq_zero.1 h9 with h9 | h9 <;> omega
 unfold Oper.wp
 rw [hrun, Oper.upon_value, hdst]
 exact hK _ _ _ _ _ ⟨rfl, rfl⟩ hR hC (zx _ _ _)
end
end Go.Proofs.YtoahnbmedcjpeaaGreatDoor.Ab

namespace Go.Proofs.YtoahnbmedcjpeaaGreatDoor.Ab
open Go.RowKit

section
variable {P : Program} {nt : Nat} {T : List Nat} {e : Env} {h : Heap} {o : Oper} {tab : TTab}

theorem DRel.one {w : World} {Fr : Nat → Prop} {d : Dat} {u : Value} (h : DRel w Fr d u) : u.oneCell' = true := by cases h <;> first | assumption | rfl
inductive Src (h : Heap) : AVal → Nat → List Dat → Prop where
 | row {id el k m : Nat} {ds : List Dat} (hb : look h id = some (.row el k m ds)) : Src h (.row id) m ds
 | dat (ds : List Dat) (m : Nat) : Src h (.d (.sl ds m)) m ds
 | nil : Src h (.d (.sc (.slice none 0 0))) 0 []
theorem Src.cells {Pm F : Nat → Prop} {w0 w : World} {pin ι : Nat → Option Value} (H : HRel Pm F w0 pin ι h w) {c : AVal} {m : Nat} {ds : List Dat} (S : Src h c m ds) {u : Value} (hv : VRel w F ι c u) :
  ∃ news : List Value, news.length = ds.length ∧ (∀ (i : Nat) (d : Dat) (x : Value), ds[i]? = some d → news[i]? = some x → DRel w (FreeB F ι) d x) ∧
   ((u = .slice none 0 0 ∧ m = 0 ∧ ds = []) ∨ ((∃ ea, u = .slice (some ea) 0 0) ∧ m = 0 ∧ ds = []) ∨ ∃ b o' c', u = .slice (some ⟨b, o', none⟩) m c' ∧ ∀ (j : Nat) (x : Value), news[j]? = some x → w.cell? ⟨b, o' + j, none⟩ = some x) := by
 cases S with
 | row hb =>
  obtain ⟨v, hv', xs, hown, hl, hr⟩ := H.blk _ _ hb
  refine ⟨xs, hl, hr, ?_⟩
  cases hv with
  | row _ _ h1 h2 =>
   have := h2 v hv'
   subst this
   rcases hown.2 with ⟨h3, h4⟩ | ⟨g, cap, cur, h3, _⟩
   ·left
    refine ⟨h3, h4, ?_⟩
    have := hown.1
    subst h4
    simp at this
    subst this
    cases ds with
    | nil => rfl
    | cons _ _ => simp at hl
   ·right; right
    refine ⟨g, 0, cap, h3, fun j x hj => ?_⟩
    have := hown.cells (g := g) (by rw [h3]; rfl) j x hj
    rwa [Addr.add_mid] at this
 | dat =>
  cases hv with
  | d _ _ hd =>
   cases hd with
   | nil => exact ⟨[], rfl, by simp, .inl ⟨rfl, rfl, rfl⟩⟩
   | emp ea => exact ⟨[], rfl, by simp, .inr (.inl ⟨⟨ea, rfl⟩, rfl, rfl⟩)⟩
   | sl _ _ b o' cap vs hn hl hf hc hr => exact ⟨vs, hl, hr, .inr (.inr ⟨b, o', cap, rfl, hc⟩)⟩
 | nil =>
  obtain ⟨rfl, _⟩ := zL hv
  exact ⟨[], rfl, by simp, .inl ⟨rfl, rfl, rfl⟩⟩

theorem zgF {t el : TypeId} {te te' : TE} {ty : TypeId} (w : World) (Ft : TFacts P t te) (hs : te.sh = .sl el) (Fe : TFacts P el te') (hk : 0 < te'.size) (hk2 : te'.zero.length = te'.size) (v : Value) (n : Nat) (xs : List Value) (hown : w.ownsRow 0 el te'.size v n xs) (u : Value) (m : Nat) (news : List Value)
  (hl : news.length = m * te'.size) (hu : (u = .slice none 0 0 ∧ m = 0) ∨ ((∃ ea, u = .slice (some ea) 0 0) ∧ m = 0) ∨ ∃ b o' c', u = .slice (some ⟨b, o', none⟩) m c' ∧ ∀ (j : Nat) (x : Value), news[j]? = some x → w.cell? ⟨b, o' + j, none⟩ = some x)
  (h1 : ∀ x ∈ news, x.oneCell' = true) (hml : n + m ≤ maxLen) (hbb : (n + m) * te'.bytes ≤ 140737488355328) :
  ∃ v' w', (Builtin.append_ #[t, t] ty #[v, u]).run P w = .ok v' w' ∧ w'.ownsRow 0 el te'.size v' (n + m) (xs ++ news) ∧ w.grownBy w' v.ownBlock ∧ (v'.ownBlock = v.ownBlock ∨ v'.ownBlock = some w.heap.size) := by
 have hut := Ft.slice hs
 obtain ⟨z, _, hz2, i, hi, hz3, hsz, hby⟩ := Fe.zero w
 have hzs : z.cells.size = te'.size := by rw [← Array.length_toList, hz2, hk2]
 rcases hu with ⟨rfl, rfl⟩ | ⟨⟨ea, rfl⟩, rfl⟩ | ⟨b, o', c', rfl, hc⟩
 ·have hnn : news = [] := by simpa using hl
  subst hnn
  refine ⟨v, w, ?_, by simpa using hown, ⟨rfl, rfl, rfl, Nat.le_refl _, fun _ _ _ => rfl⟩, .inl rfl⟩
  exact run_append_owned_none (P := P) (w := w) 0 t ty el i te'.size hut hi v n xs hown
 ·have hnn : news = [] := by simpa using hl
  subst hnn
  obtain ⟨v', w', hr, h2, h3, _, h5⟩ := run_append_own_at (P := P) w 0 t ty el i z te'.size te'.bytes hut hi hz3 hsz hby hzs hk v n xs hown ea 0 0 [] hl
   (fun j x hj => by simp at hj) h1 hml hbb (Nat.zero_le _)
  exact ⟨v', w', hr, h2, h3, h5⟩
 ·obtain ⟨v', w', hr, h2, h3, _, h5⟩ := run_append_own_at (P := P) w 0 t ty el i z te'.size te'.bytes hut hi hz3 hsz hby hzs hk v n xs hown ⟨b, o', none⟩ m c' news hl
   (fun j x hj => by rw [Addr.add_mid]; exact hc j x hj) h1 hml hbb (Nat.zero_le _)
  exact ⟨v', w', hr, h2, h3, h5⟩

theorem za2 {w : World} {base n k : Nat} {el : TypeId} {v : Value} {xs : List Value} (h : w.ownsRow base el k v n xs) : blockOf v = v.ownBlock := by
 rcases h.2 with ⟨rfl, _⟩ | ⟨g, cap, cur, rfl, _⟩ <;> rfl
theorem zin {w : World} {base n k : Nat} {el : TypeId} {v : Value} {xs : List Value} (h : w.ownsRow base el k v n xs) : v.oneCell' = true := by
 rcases h.2 with ⟨rfl, _⟩ | ⟨g, cap, cur, rfl, _⟩ <;> rfl

inductive Dst (h : Heap) (el k : Nat) (rid : Nat) : AVal → Nat → List Dat → Prop where
 | row {n : Nat} {cs : List Dat} (hb : look h rid = some (.row el k n cs)) : Dst h el k rid (.row rid) n cs
 | nil : Dst h el k rid (.d (.sc (.slice none 0 0))) 0 []
theorem zgu {t el : TypeId} {te te' : TE} {d : Option Tmp} {x y : Operand} {rid n m : Nat} {cx cy : AVal} {cs ds : List Dat} (TO : TabOk P tab) (ho : o.op = .call { callee := .builtin .append, args := #[x, y], argTypes := #[t, t] }) (hdst : o.dst = d)
  (ht : tlook tab t = some te) (hs : te.sh = .sl el) (hel : tlook tab el = some te') (hk : Nat.blt 0 te'.size = true) (hk2 : Nat.beq te'.zero.length te'.size = true)
  (hx : aev e x = some cx) (hy : aev e y = some cy) (D : Dst h el te'.size rid cx n cs) (S : Src h cy m ds) (hl : ds.length = m * te'.size) (hml : n + m ≤ maxLen) (hbb : (n + m) * te'.bytes ≤ 140737488355328) (hid : Nat.blt rid 1000 = true) (hd : dstOk nt d = true) (hT : T.contains rid = true) :
  AEff P nt T e h o (fun e' h' => e' = aput d (.row rid) (killE rid e) ∧ h' = (rid, .row el te'.size (n + m) (cs ++ ds)) :: killH rid h) := fun Pm F w0 pin ι a w R K Qx hK => by
 have hid' : rid < 1000 := by simp [Nat.blt] at hid; omega
 have hk' : 0 < te'.size := by simp [Nat.blt] at hk; omega
 obtain ⟨news, hnl, hnr, hsrc⟩ := S.cells R.heap (zm R.env hy)
 have hDst : ∃ xs, w.ownsRow 0 el te'.size (a.eval x) n xs ∧ xs.length = cs.length ∧ (∀ (i : Nat) (c : Dat) (u : Value), cs[i]? = some c → xs[i]? = some u → DRel w (FreeB F ι) c u) ∧
   (∀ r, blockOf (a.eval x) = some r → ∃ v, ι rid = some v ∧ blockOf v = some r) := by
  have hv := zm R.env hx
  cases D with
  | row hb =>
   obtain ⟨v, hv', xs, hown, hl, hr⟩ := R.heap.blk _ _ hb
   generalize a.eval x = u at hv
   cases hv with
   | row _ _ h1 h2 =>
    have := h2 v hv'
    subst this
    exact ⟨xs, hown, hl, hr, fun r hr => ⟨_, hv', hr⟩⟩
  | nil =>
   rw [(zL hv).1]
   exact ⟨[], World.ownsRow_nil _ _ _ _, rfl, by simp, by simp [blockOf]⟩
 obtain ⟨xs, hown, hxl, hxr, hblk⟩ := hDst
 have hone : ∀ u ∈ news, u.oneCell' = true := fun u hu => by
  obtain ⟨i, hi⟩ := List.mem_iff_getElem?.1 hu
  have hlt : i < ds.length := by rw [← hnl]; exact (List.getElem?_eq_some_iff.1 hi).1
  exact (hnr i ds[i] u (List.getElem?_eq_getElem hlt) hi).one
 obtain ⟨v', w', hr, hown', hg, hbl⟩ := zgF (P := P) (ty := o.type) w (TO t te ht) hs (TO el te' hel) hk' (Nat.eq_of_beq_eq_true hk2) (a.eval x) n xs hown (a.eval y) m news (by rw [hnl, hl])
  (by rcases hsrc with ⟨h1, h2, _⟩ | ⟨h1, h2, _⟩ | h1; exact .inl ⟨h1, h2⟩; exact .inr (.inl ⟨h1, h2⟩); exact .inr (.inr h1)) hone hml hbb
 have hmem : ∀ r, r < w.heap.size → (∀ v, ι rid = some v → blockOf v ≠ some r) → w'.heap[r]? = w.heap[r]? := fun r hr1 hr2 => by
  refine hg.block r hr1 fun he => ?_
  rw [← za2 hown] at he
  obtain ⟨v, h1, h2⟩ := hblk r he.symm
  exact hr2 v h1 h2
 have TT : Touch w ι rid v' w' := ⟨hg.os, hg.tape, hg.output, hg.size, hmem, fun r hr1 => by
  rw [za2 hown'] at hr1
  rcases hbl with h1 | h1
  ·rw [h1, ← za2 hown] at hr1
   exact .inr (hblk r hr1)
  ·rw [h1] at hr1; cases hr1; exact .inl (Nat.le_refl _)⟩
 have hrun : (execOp a.eval o).run P w = .ok (.value v') w' := by
  simp [execOp, ho, resolve, invoke, builtin, hr]
 unfold Oper.wp
 rw [hrun, Oper.upon_value, hdst]
 refine hK _ _ _ _ _ ⟨rfl, rfl⟩ ⟨R.heap.touch TT (.inl hid') ⟨xs ++ news, hown', by simp [hxl, hnl], fun i c u h1 h2 => ?_⟩, (R.env.killed TT.ext).aput hd R.size (.row rid _ (zin hown') fun v hv => by simp [upd] at hv; exact hv), by rw [zx]; exact R.defers.ext TT.ext, by rw [zaD]; exact R.size⟩ ?_ (zx _ _ _)
 ·rw [List.getElem?_append] at h1 h2
  rw [hxl] at h2
  split at h1
  ·rename_i hlt; rw [if_pos hlt] at h2; exact (hxr _ _ _ h1 h2).ext TT.ext.mem TT.ext.free
  ·rename_i hlt; rw [if_neg hlt] at h2; exact (hnr _ _ _ h1 h2).ext TT.ext.mem TT.ext.free
 ·refine ⟨⟨hg.os, hg.tape, hg.output, hg.size, fun r hr1 hne => hmem r hr1 fun v hv => hne rid (List.contains_iff_mem.1 hT) v hv⟩, fun j _ u r hj hr1 hlt => ?_⟩
  unfold upd at hj
  split at hj
  ·rename_i hjr
   cases hj
   subst hjr
   rw [za2 hown'] at hr1
   rcases hbl with h1 | h1
   ·rw [h1, ← za2 hown] at hr1; exact hblk r hr1
   ·rw [h1] at hr1; cases hr1; omega
  ·exact ⟨u, hj, hr1⟩
end

def hasAny (ids : List Nat) (c : AVal) : Bool := ids.any fun id => c.has id
def killVs (ids : List Nat) (c : AVal) : AVal := cond (hasAny ids c) .top c
def killEs (ids : List Nat) : Env → Env
 | [] => []
 | (k, c) :: r => (k, killVs ids c) :: killEs ids r
def killBs (ids : List Nat) : ABlk → ABlk
 | .var cs => .var (cs.map (killVs ids))
 | .row e k n cs => .row e k n cs
 | .rowA e k n cs => .rowA e k n (cs.map (killVs ids))
 | .map es => .map (es.map fun p => (killVs ids p.1, killVs ids p.2))
 | .mapx r bs clk es => .mapx r bs clk (es.map fun p => (killVs ids p.1, killVs ids p.2))
 | .it o => .it o
 | .rowx hv e k n cs => .rowx hv e k n cs
def killHs (ids : List Nat) : Heap → Heap
 | [] => []
 | (k, b) :: r => cond (ids.contains k) (killHs ids r) ((k, killBs ids b) :: killHs ids r)
theorem zeh (ids : List Nat) (e : Env) (t : Nat) : look (killEs ids e) t = (look e t).map (killVs ids) := by
 induction e with
 | nil => rfl
 | cons p r ih =>
  show cond _ _ _ = Option.map _ (cond _ _ _)
  cases Nat.beq p.1 t
  ·exact ih
  ·rfl
theorem zcx (ids : List Nat) (h : Heap) (t : Nat) : look (killHs ids h) t = if ids.contains t then none else (look h t).map (killBs ids) := by
 induction h with
 | nil => simp [killHs, look]
 | cons p r ih =>
  show look (cond _ _ _) t = _
  by_cases hpt : p.1 = t
  ·cases hc : ids.contains p.1
   ·rw [cond_false, ← hpt, zb, hc]
    show _ = Option.map _ (cond _ _ _)
    rw [zci]; rfl
   ·rw [cond_true, ih, ← hpt, hc]; rfl
  ·have e1 : look (p :: r) t = look r t := zd _ _ hpt
   rw [e1]
   cases hc : ids.contains p.1
   ·rw [cond_false, zd _ _ hpt, ih]
   ·rw [cond_true, ih]
theorem zat {α : Type} (l m : List (Nat × α)) (t : Nat) : look (l ++ m) t = match look l t with
  | some c => some c
  | none => look m t := by
 induction l with
 | nil => rfl
 | cons p r ih =>
  by_cases hp : p.1 = t
  ·have e1 : look (p :: r) t = some p.2 := by rw [← hp]; exact zb _ _ _
   have e2 : look (p :: r ++ m) t = some p.2 := by rw [← hp]; exact zb _ _ _
   rw [e1, e2]
  ·have e1 : look (p :: r) t = look r t := zd _ _ hp
   have e2 : look (p :: r ++ m) t = look (r ++ m) t := zd _ _ hp
   rw [e1, e2, ih]
theorem zaA {α : Type} (l : List (Nat × α)) (t : Nat) : (l.map (·.1)).contains t = (look l t).isSome := by
 induction l with
 | nil => rfl
 | cons p r ih =>
  by_cases h : p.1 = t
  ·subst h
   have : look (p :: r) p.1 = some p.2 := zb _ _ _
   simp [this]
  ·have e1 : look (p :: r) t = look r t := zd _ _ h
   rw [e1, ← ih]
   simp [Ne.symm h]
def blkHas (id : Nat) : ABlk → Bool
 | .var cs => hasL id cs
 | .row _ _ _ _ => false
 | .rowA _ _ _ cs => hasL id cs
 | .map es => es.any fun p => p.1.has id || p.2.has id
 | .mapx _ _ _ es => es.any fun p => p.1.has id || p.2.has id
 | .it _ => false
 | .rowx _ _ _ _ _ => false

section
variable {P : Program} {nt : Nat} {T : List Nat} {e : Env} {h : Heap} {o : Oper} {tab : TTab}
theorem za1 {f : FuncId} {args : Array Operand} {ats : Array TypeId} {a : Act} {w : World} (hg : isGo P f = true) (ho : o.op = .call { callee := .value (.func f), args := args, argTypes := ats }) :
  (execOp a.eval o).run P w = .ok (.enter f (args.map a.eval)) w := by
 simp [execOp, ho, resolve, Act.eval, Deferred.ofValue, invoke, zd7 hg]
theorem zbD {f : FuncId} {x : Operand} {args : Array Operand} {ats : Array TypeId} {a : Act} {w : World} {C : Array Value} (hg : isGo P f = true) (ho : o.op = .call { callee := .value x, args := args, argTypes := ats }) (hx : a.eval x = .func (.func f) #[] C) :
  (execOp a.eval o).run P w = .ok (.enter f (args.map a.eval ++ C)) w := by
 simp [execOp, ho, resolve, hx, Deferred.ofValue, invoke, zd7 hg]
def Fc (F : Nat → Prop) (ι : Nat → Option Value) : Nat → Prop := fun r => F r ∨ ∃ id v, ι id = some v ∧ blockOf v = some r
theorem zi7 {F : Nat → Prop} {ι : Nat → Option Value} {r : Nat} (hf : FreeB F ι r) (ι' : Nat → Option Value) (h0 : ∀ id, ι' id = none) : FreeB (Fc F ι) ι' r :=
 ⟨fun hc => hc.elim hf.1 fun ⟨id, v, h1, h2⟩ => hf.2 id v h1 h2, fun id v hv => by rw [h0] at hv; cases hv⟩
theorem zfx {F : Nat → Prop} {ι ι' : Nat → Option Value} {r : Nat} (hf : FreeB (Fc F ι) ι' r) : FreeB F ι r := ⟨fun h => hf.1 (.inl h), fun id v h1 h2 => hf.1 (.inr ⟨id, v, h1, h2⟩)⟩
theorem HRel.none (F : Nat → Prop) (w : World) (hF : ∀ r, F r → r < w.heap.size) (hg : GlobOk w) : HRel (fun r => w.heap.size ≤ r) F w (fun _ => none) (fun _ => none) [] w :=
 ⟨fun _ _ h => (by cases h), fun _ _ h => (by cases h), fun _ _ _ _ _ _ h => (by cases h), fun _ _ _ h => (by cases h), rfl, rfl, rfl, Nat.le_refl _, fun _ _ _ => rfl, ⟨fun _ h => h, fun r h1 h2 => (by have := hg.size; have h2 : w.heap.size ≤ r := h2; omega), hg⟩, fun _ _ _ h => (by cases h), fun _ _ _ h => (by cases h), hF⟩
theorem zdc {w : World} {F : Nat → Prop} {ι : Nat → Option Value} {cs : List AVal} {us : Array Value} (H : ArgsRel w F ι cs us) : ArgsRel w (Fc F ι) (fun _ => none) cs us :=
 ⟨H.1, fun i c u h1 h2 => (H.2 i c u h1 h2).extF ⟨fun _ _ _ => rfl, fun r _ hf => zi7 hf _ fun _ => rfl⟩ fun _ _ _ h => by cases h⟩
theorem HRel.grewC {F : Nat → Prop} {w w' : World} {pin ι' : Nat → Option Value} {h' : Heap} (H : HRel (fun r => w.heap.size ≤ r) F w pin ι' h' w') : Grew w w' :=
 ⟨H.os, H.tape, H.output, H.size, fun r hr => H.keep r hr (by omega)⟩
theorem zaM {w : World} {F : Nat → Prop} {ι : Nat → Option Value} {a : Act} (E : EnvRel w F ι e a) {args : Array Operand} {cs : List AVal} (h : aevs e args.toList = some cs) : ArgsRel w F ι cs (args.map a.eval) := by
 have := zeA E h
 refine ⟨by simpa using this.1, fun i c u h1 h2 => this.2 i c u h1 ?_⟩
 rw [← Array.toList_map, Array.getElem?_toList]; exact h2
theorem zev {w : World} {F : Nat → Prop} {ι : Nat → Option Value} {cs ds : List AVal} {us C : Array Value} (h1 : ArgsRel w F ι cs us) (h2 : ArgsRel w F ι ds C) : ArgsRel w F ι (cs ++ ds) (us ++ C) := by
 refine ⟨by simp [h1.1, h2.1], fun i c u hc hu => ?_⟩
 rw [List.getElem?_append] at hc
 rw [Array.getElem?_append, h1.1] at hu
 split at hc
 ·rename_i hl; rw [if_pos hl] at hu; exact h1.2 _ _ _ hc hu
 ·rename_i hl; rw [if_neg hl] at hu; exact h2.2 _ _ _ hc hu

theorem Rel.called {Pm F : Nat → Prop} {w0 w w' : World} {pin ι ι' : Nat → Option Value} {a : Act} (R : Rel Pm F w0 pin ι nt e h a w) {h' : Heap} {c : AVal} {u : Value} (H : HRel (fun r => w.heap.size ≤ r) (Fc F ι) w (fun _ => none) ι' h' w') (hc : VRel w' (Fc F ι) ι' c u)
  (hids : (h'.map (·.1)).all (fun j => Nat.blt j 1000) = true) (hcl : ∀ id b j, look h' id = some b → blkHas j b = true → (look h' j).isSome = true) (hcc : ∀ j, c.has j = true → (look h' j).isSome = true) {d : Option Tmp} (hd : dstOk nt d = true) :
  ∃ ι2, Rel Pm F w0 pin ι2 nt (aput d c (killEs (h'.map (·.1)) e)) (h' ++ killHs (h'.map (·.1)) h) (a.put d u) w' ∧ CTo T ι w ι2 w' := by
 have G := H.grewC
 let ι2 : Nat → Option Value := fun id => if (look h' id).isSome then ι' id else ι id
 have new : ∀ id v r, (look h' id).isSome = true → ι' id = some v → blockOf v = some r → w.heap.size ≤ r := fun id v r _ hv hr => H.pm id v r hv hr
 have e1 : Ext w F ι w' ι2 := ⟨fun r hr _ => G.mem r hr, fun r hr hf => ⟨hf.1, fun id v hv hb => by
  simp only [ι2] at hv
  split at hv
  ·rename_i hs; have := new id v r hs hv hb; omega
  ·exact hf.2 id v hv hb⟩⟩
 have e2 : ExtF w' (Fc F ι) ι' w' F ι2 := ⟨fun _ _ _ => rfl, fun r hr hf => ⟨(zfx hf).1, fun id v hv hb => by
  simp only [ι2] at hv
  split at hv
  ·exact hf.2 id v hv hb
  ·exact (zfx hf).2 id v hv hb⟩⟩
 have vk : ∀ c0 u0, VRel w F ι c0 u0 → VRel w' F ι2 (killVs (h'.map (·.1)) c0) u0 := fun c0 u0 hv => by
  unfold killVs
  cases hh : hasAny (h'.map (·.1)) c0 with
  | true => exact .top _
  | false =>
   refine hv.ext e1 fun id v hi hv2 => ?_
   simp only [ι2] at hv2
   split at hv2
   ·rename_i hs
    rw [← zaA] at hs
    have := List.any_eq_false.1 hh id (List.contains_iff_mem.1 hs)
    rw [hi] at this; exact absurd rfl this
   ·exact hv2
 refine ⟨ι2, ⟨⟨?_, ?_, ?_, ?_, G.os.trans R.heap.os, G.tape.trans R.heap.tape, G.output.trans R.heap.output, Nat.le_trans R.heap.size G.size, ?_, R.heap.fresh, ?_, ?_, R.heap.forb⟩, ?_, by rw [zx]; exact R.defers.ext e1, by rw [zaD]; exact R.size⟩, G.ct T, fun j _ v r hj hr hlt => by
  simp only [ι2] at hj
  split at hj
  ·rename_i hs; have := new j v r hs hj hr; omega
  ·exact ⟨v, hj, hr⟩⟩
 ·intro id b hb
  rw [zat] at hb
  cases hl : look h' id with
  | some b' =>
   rw [hl] at hb
   cases hb
   obtain ⟨v, hv, hB⟩ := H.blk id b hl
   refine ⟨v, by simp [ι2, hl, hv], ?_⟩
   have hid : ∀ j v, blkHas j b = true → ι2 j = some v → ι' j = some v := fun j v hj hv => by
    simpa [ι2, hcl id b j hl hj] using hv
   cases b with
   | var cs =>
    obtain ⟨r, C, tt, h1, h2, h3, h4⟩ := hB
    refine ⟨r, C, tt, h1, h2, h3, fun i c u h5 h6 => (h4 i c u h5 h6).extF e2 fun j v hj hv => hid j v ?_ hv⟩
    show hasL j cs = true
    cases hh : hasL j cs with
    | true => rfl
    | false => rw [zbs hh h5] at hj; cases hj
   | row el k n cs =>
    obtain ⟨xs, hown, h3, h4⟩ := hB
    exact ⟨xs, hown, h3, fun i c u h5 h6 => (h4 i c u h5 h6).ext (fun _ _ _ => rfl) e2.free⟩
   | rowA el k n cs =>
    obtain ⟨xs, hown, h3, h4⟩ := hB
    refine ⟨xs, hown, h3, fun i c u h5 h6 => (h4 i c u h5 h6).extF e2 fun j v hj hv => hid j v ?_ hv⟩
    show hasL j cs = true
    cases hh : hasL j cs with
    | true => rfl
    | false => rw [zbs hh h5] at hj; cases hj
   | map es =>
    obtain ⟨r, E, clk, h1, h2, h3, h4, h5⟩ := hB
    refine ⟨r, E, clk, h1, h2, h3, fun i p m h6 h7 => ⟨(h4 i p m h6 h7).1.extF e2 fun j v hj hv => hid j v ?_ hv, (h4 i p m h6 h7).2.extF e2 fun j v hj hv => hid j v ?_ hv⟩, h5⟩
    ·exact List.any_eq_true.2 ⟨p, List.mem_of_getElem? h6, by simp [hj]⟩
    ·exact List.any_eq_true.2 ⟨p, List.mem_of_getElem? h6, by simp [hj]⟩
   | mapx r0 bs0 clk0 es =>
    obtain ⟨E, h1, h2, h3, h4, h5⟩ := hB
    refine ⟨E, h1, h2, h3, fun i p m h6 h7 => ⟨(h4 i p m h6 h7).1.extF e2 fun j v hj hv => hid j v ?_ hv, (h4 i p m h6 h7).2.extF e2 fun j v hj hv => hid j v ?_ hv⟩, h5⟩
    ·exact List.any_eq_true.2 ⟨p, List.mem_of_getElem? h6, by simp [hj]⟩
    ·exact List.any_eq_true.2 ⟨p, List.mem_of_getElem? h6, by simp [hj]⟩
   | rowx hv el k n cs => exact hB.viaX (fun c u h => h.ext (fun _ _ _ => rfl) e2.free) fun _ _ => rfl
   | it o => exact hB
  | none =>
   rw [hl] at hb
   rw [zcx, zaA, hl] at hb
   simp only [Option.isSome_none, Bool.false_eq_true, if_false] at hb
   cases hl2 : look h id with
   | none => simp [hl2] at hb
   | some b0 =>
    simp [hl2] at hb
    subst hb
    obtain ⟨v, hv, hB⟩ := R.heap.blk id b0 hl2
    refine ⟨v, by simp [ι2, hl, hv], ?_⟩
    have hsame : ∀ r, blockOf v = some r → w'.heap[r]? = w.heap[r]? := fun r hr => G.mem r (hB.lt hr)
    cases b0 with
    | var cs =>
     obtain ⟨r, C, tt, rfl, h2, h3, h4⟩ := hB
     refine ⟨r, C, tt, rfl, (hsame r rfl).trans h2, by simpa using h3, fun i c u h5 h6 => ?_⟩
     rw [List.getElem?_map] at h5
     cases h7 : cs[i]? with
     | none => simp [h7] at h5
     | some c0 => simp [h7] at h5; subst h5; exact vk _ _ (h4 i c0 u h7 h6)
    | row el k n cs =>
     obtain ⟨xs, hown, h3, h4⟩ := hB
     refine ⟨xs, ⟨hown.1, ?_⟩, h3, fun i c u h5 h6 => (h4 i c u h5 h6).ext e1.mem e1.free⟩
     rcases hown.2 with h8 | ⟨g, cap, cur, rfl, hb, hg, rest⟩
     ·exact .inl h8
     ·exact .inr ⟨g, cap, cur, rfl, hb, (hsame g rfl).trans hg, rest⟩
    | rowA el k n cs =>
     obtain ⟨xs, hown, h3, h4⟩ := hB
     refine ⟨xs, ⟨hown.1, ?_⟩, by simpa using h3, fun i c u h5 h6 => ?_⟩
     ·rcases hown.2 with h8 | ⟨g, cap, cur, rfl, hb, hg, rest⟩
      ·exact .inl h8
      ·exact .inr ⟨g, cap, cur, rfl, hb, (hsame g rfl).trans hg, rest⟩
     ·rw [List.getElem?_map] at h5
      cases h7 : cs[i]? with
      | none => simp [h7] at h5
      | some c0 => simp [h7] at h5; subst h5; exact vk _ _ (h4 i c0 u h7 h6)
    | map es =>
     obtain ⟨r, E, clk, rfl, h2, h3, h4, h5⟩ := hB
     refine ⟨r, E, clk, rfl, (hsame r rfl).trans h2, by simpa using h3, fun i p m h6 h7 => ?_, h5⟩
     rw [List.getElem?_map] at h6
     cases h8 : es[i]? with
     | none => simp [h8] at h6
     | some p0 => simp [h8] at h6; subst h6; exact ⟨vk _ _ (h4 i p0 m h8 h7).1, vk _ _ (h4 i p0 m h8 h7).2⟩
    | mapx r0 bs0 clk0 es =>
     obtain ⟨E, rfl, h2, h3, h4, h5⟩ := hB
     refine ⟨E, rfl, (hsame _ rfl).trans h2, by simpa using h3, fun i p m h6 h7 => ?_, h5⟩
     rw [List.getElem?_map] at h6
     cases h8 : es[i]? with
     | none => simp [h8] at h6
     | some p0 => simp [h8] at h6; subst h6; exact ⟨vk _ _ (h4 i p0 m h8 h7).1, vk _ _ (h4 i p0 m h8 h7).2⟩
    | rowx hv el k n cs => exact hB.viaX (fun c u h => h.ext e1.mem e1.free) hsame
    | it o => obtain ⟨r, rfl, h2⟩ := hB; exact ⟨r, rfl, (hsame r rfl).trans h2⟩
 ·intro id v hv
  rw [zat]
  cases hl : look h' id with
  | some b => exact ⟨b, rfl⟩
  | none =>
   have hv' : ι id = some v := by simpa [ι2, hl] using hv
   obtain ⟨b, hb⟩ := R.heap.dom id v hv'
   exact ⟨killBs _ b, by
    show look (killHs _ h) id = _
    rw [zcx, zaA, hl, hb]; rfl⟩
 ·intro i j v v' r hij hi hj hr hr'
  simp only [ι2] at hi hj
  split at hi
  ·rename_i h1
   split at hj
   ·exact H.inj i j v v' r hij hi hj hr hr'
   ·have := new i v r h1 hi hr; have := R.heap.lt hj hr'; omega
  ·split at hj
   ·rename_i h2
    have := new j v' r h2 hj hr'; have := R.heap.lt hi hr; omega
   ·exact R.heap.inj i j v v' r hij hi hj hr hr'
 ·intro id v r hv hr
  simp only [ι2] at hv
  split at hv
  ·rename_i h1; exact R.heap.fresh r (Nat.le_trans R.heap.size (new id v r h1 hv hr))
  ·exact R.heap.pm id v r hv hr
 ·intro r hr hn
  rw [G.mem r (Nat.lt_of_lt_of_le hr R.heap.size)]; exact R.heap.keep r hr hn
 ·intro id v h1 hv
  simp only [ι2] at hv
  split at hv
  ·rename_i h2
   rw [← zaA] at h2
   have := List.all_eq_true.1 hids id (List.contains_iff_mem.1 h2)
   simp [Nat.blt] at this; omega
  ·exact R.heap.pinned id v h1 hv
 ·intro id v r hv hr hF
  simp only [ι2] at hv
  split at hv
  ·rename_i h1
   have := new id v r h1 hv hr; have := R.heap.forb r hF; have := R.heap.size; omega
  ·exact R.heap.nf id v r hv hr hF
 ·refine EnvRel.aput (fun t c0 ht => ?_) hd R.size (hc.extF e2 fun j v hj hv => by simpa [ι2, hcc j hj] using hv)
  rw [zeh] at ht
  cases hl : look e t with
  | none => simp [hl] at ht
  | some c1 =>
   simp [hl] at ht
   subst ht
   obtain ⟨u0, hu0, hv0⟩ := R.env t c1 hl
   exact ⟨u0, hu0, vk _ _ hv0⟩
end
end Go.Proofs.YtoahnbmedcjpeaaGreatDoor.Ab

namespace Go.Proofs.YtoahnbmedcjpeaaGreatDoor.Rn
open Go
theorem zgE {P : Program} {w : World} {r : Nat} (hr : w.heap[r]? = some (.deferred (some []))) : (Instr.takeDeferred r).run P w = .ok [] ({ w with heap := w.heap.setIfInBounds r (.deferred none) }) := by
 simp [Instr.takeDeferred, getObj, setObj, Sem.run, hr]
theorem leave_marks {P : Program} {F : Fence} {n : Nat} {fn : Func} {tmps : Array Value} {R : Ending → World → Prop} : ∀ (ds : List Deferred) (w : World), (∀ d ∈ ds, ∃ r, d = ({ target := .collected r, args := #[] } : Deferred) ∧ w.heap[r]? = some (.deferred (some []))) → ds.Pairwise (fun a b => a ≠ b) →
  (∀ w', w'.os = w.os → w'.tape = w.tape → w'.output = w.output → w'.heap.size = w.heap.size → (∀ r, (∀ d ∈ ds, d ≠ ({ target := .collected r, args := #[] } : Deferred)) → w'.heap[r]? = w.heap[r]?) → ∃ v, (results fn tmps).run P w' = .ok v w' ∧ R (.returned v) w') → LeavesInM F n P fn tmps R ds .returning w
 | [], w, _, _, h => by
  unfold LeavesInM LeavesIn
  exact h w rfl rfl rfl rfl fun _ _ => rfl
 | d :: ds, w, ha, hp, h => by
  obtain ⟨r, rfl, hr⟩ := ha d (by simp)
  obtain ⟨hp1, hp2⟩ := List.pairwise_cons.1 hp
  unfold LeavesInM
  have hput : ∀ q, q ≠ r → ({ w with heap := w.heap.setIfInBounds r (.deferred none) } : World).heap[q]? = w.heap[q]? := fun q hq => by simp [Array.getElem?_setIfInBounds_ne (Ne.symm hq)]
  refine ⟨by simp, .inl ⟨r, { w with heap := w.heap.setIfInBounds r (.deferred none) }, rfl, zgE hr, leave_marks ds _ (fun d hd => ?_) hp2 fun w' h1 h2 h3 h4 h5 => ?_⟩⟩
  ·obtain ⟨q, rfl, hq⟩ := ha d (by simp [hd])
   refine ⟨q, rfl, ?_⟩
   rw [hput q (by rintro rfl; exact hp1 _ hd rfl)]
   exact hq
  ·refine h w' h1 h2 h3 (h4.trans (by simp)) fun q hq => ?_
   rw [h5 q (fun d hd => hq d (by simp [hd])), hput q (by rintro rfl; exact hq _ (by simp) rfl)]
end Go.Proofs.YtoahnbmedcjpeaaGreatDoor.Rn

namespace Go.Proofs.YtoahnbmedcjpeaaGreatDoor.Ab
open Go.RowKit

section
variable {nt : Nat} {e e1 e2 : Env} {h h1 h2 : Heap}
theorem AWk.refl : AWk nt e h e h := fun _ _ _ _ ι _ _ R => ⟨ι, R⟩
theorem AWk.trans (a : AWk nt e h e1 h1) (b : AWk nt e1 h1 e2 h2) : AWk nt e h e2 h2 := fun Pm F w0 pin ι a' w R => let ⟨ι', R'⟩ := a Pm F w0 pin ι a' w R; b Pm F w0 pin ι' a' w R'
def Sub {α : Type} : List (Nat × α) → List (Nat × α) → Prop
 | [], _ => True
 | (k, c) :: r, l => look l k = some c ∧ Sub r l
theorem Sub.look {α : Type} {m l : List (Nat × α)} (hs : Sub m l) {t : Nat} {c : α} (ht : Ab.look m t = some c) : Ab.look l t = some c := by
 induction m with
 | nil => cases ht
 | cons p r ih =>
  by_cases hp : p.1 = t
  ·have e1 : Ab.look (p :: r) t = some p.2 := by rw [← hp]; exact zb _ _ _
   rw [e1] at ht; cases ht; rw [← hp]; exact hs.1
  ·have e1 : Ab.look (p :: r) t = Ab.look r t := zd _ _ hp
   rw [e1] at ht; exact ih hs.2 ht
theorem zq (he : Sub e1 e) (hh : Sub h1 h) : AWk nt e h e1 h1 := fun Pm F w0 pin ι a w R =>
 ⟨only h1 ι, R.heap.only fun id b hb => hh.look hb, fun t c ht => let ⟨u, hu, hv⟩ := R.env t c (he.look ht); ⟨u, hu, hv.only h1⟩, R.defers.ext (zb4 w F h1 ι), R.size⟩
theorem z8 {t : Nat} {c c' : AVal} (ht : look e t = some c) (hc : ∀ w F ι u, VRel w F ι c u → VRel w F ι c' u) : AWk nt e h ((t, c') :: e) h := fun Pm F w0 pin ι a w R =>
 ⟨ι, R.heap, fun s c2 hs => by
  by_cases hts : t = s
  ·subst hts
   rw [zb] at hs; cases hs
   obtain ⟨u, hu, hv⟩ := R.env t c ht
   exact ⟨u, hu, hc _ _ _ _ hv⟩
  ·rw [zd _ _ hts] at hs; exact R.env s c2 hs, R.defers, R.size⟩
theorem zfm (w F ι u) (h : VRel w F ι (.d (.sc (.slice none 0 0))) u) : VRel w F ι (.d (.sl [] 0)) u := by
 rw [(zL h).1]; exact .d _ _ .nil
theorem z6 {t id : Nat} (el k : Nat) (ht : look e t = some (.d (.sc (.slice none 0 0)))) (hid : Nat.blt id 1000 = true) : AWk nt e h ((t, .row id) :: killE id e) ((id, .row el k 0 []) :: killH id h) := fun Pm F w0 pin ι a w R => by
 have hid' : id < 1000 := by simp [Nat.blt] at hid; omega
 have TT : Touch w ι id (.slice none 0 0) w := ⟨rfl, rfl, rfl, Nat.le_refl _, fun _ _ _ => rfl, fun r hr => by cases hr⟩
 refine ⟨_, R.heap.touch TT (.inl hid') ⟨[], World.ownsRow_nil _ _ _ _, rfl, by simp⟩, fun s c hs => ?_, R.defers.ext TT.ext, R.size⟩
 by_cases hts : t = s
 ·subst hts
  rw [zb] at hs; cases hs
  obtain ⟨u, hu, hv⟩ := R.env t _ ht
  exact ⟨u, hu, .row id u (by rw [(zL hv).1]; rfl) fun v hv' => by simp [upd] at hv'; rw [(zL hv).1, hv']⟩
 ·rw [zd _ _ hts] at hs
  exact (R.env.killed TT.ext) s c hs
mutual
def frV (id : Nat) (x : Dat) : AVal → AVal
 | .row j => cond (Nat.beq j id) (.d x) (.row j)
 | .srow j o n => cond (Nat.beq j id) .top (.srow j o n)
 | .agg cs => .agg (frL id x cs)
 | .tup cs => .tup (frL id x cs)
 | .fn f cs => .fn f (frL id x cs)
 | c => c
def frL (id : Nat) (x : Dat) : List AVal → List AVal
 | [] => []
 | c :: r => frV id x c :: frL id x r
end
theorem zcb (id : Nat) (x : Dat) (cs : List AVal) (i : Nat) : (frL id x cs)[i]? = (cs[i]?).map (frV id x) := by
 induction cs generalizing i with
 | nil => rfl
 | cons c r ih =>
  rw [frL]
  cases i with
  | zero => rfl
  | succ i => simpa using ih i
theorem zca (id : Nat) (x : Dat) (cs : List AVal) : (frL id x cs).length = cs.length := by
 induction cs with
 | nil => rfl
 | cons c r ih => rw [frL]; simp [ih]
def frB (id : Nat) (x : Dat) : ABlk → ABlk
 | .var cs => .var (frL id x cs)
 | .row e k n cs => .row e k n cs
 | .rowA e k n cs => .rowA e k n (frL id x cs)
 | .map es => .map (es.map fun p => (frV id x p.1, frV id x p.2))
 | .mapx r bs clk es => .mapx r bs clk (es.map fun p => (frV id x p.1, frV id x p.2))
 | .it o => .it o
 | .rowx hv e k n cs => .rowx hv e k n cs
def frE (id : Nat) (x : Dat) : Env → Env
 | [] => []
 | (k, c) :: r => (k, frV id x c) :: frE id x r
def frH (id : Nat) (x : Dat) : Heap → Heap
 | [] => []
 | (k, b) :: r => cond (Nat.beq k id) (frH id x r) ((k, frB id x b) :: frH id x r)
theorem zgW (id : Nat) (x : Dat) (e : Env) (t : Nat) : look (frE id x e) t = (look e t).map (frV id x) := by
 induction e with
 | nil => rfl
 | cons p r ih =>
  show cond _ _ _ = Option.map _ (cond _ _ _)
  cases Nat.beq p.1 t
  ·exact ih
  ·rfl
theorem zej (id : Nat) (x : Dat) (h : Heap) (t : Nat) : look (frH id x h) t = if t = id then none else (look h t).map (frB id x) := by
 induction h with
 | nil => simp [frH, look]
 | cons p r ih =>
  show look (cond _ _ _) t = _
  by_cases hpt : p.1 = t
  ·cases hc : Nat.beq p.1 id
   ·have := zaO hc
    have e1 : look (p :: r) t = some p.2 := by rw [← hpt]; exact zb _ _ _
    rw [cond_false, e1, if_neg (by omega), ← hpt, zb]; rfl
   ·have := Nat.eq_of_beq_eq_true hc
    rw [cond_true, ih, if_pos (by omega), if_pos (by omega)]
  ·have e1 : look (p :: r) t = look r t := zd _ _ hpt
   rw [e1]
   cases hc : Nat.beq p.1 id
   ·rw [cond_false, zd _ _ hpt, ih]
   ·rw [cond_true, ih]
def AWkS (nt : Nat) (e : Env) (h : Heap) (e' : Env) (h' : Heap) : Prop :=
 ∀ Pm F w0 pin ι a w, Rel Pm F w0 pin ι nt e h a w → ∃ ι', (∀ j u, ι' j = some u → ι j = some u) ∧ Rel Pm F w0 pin ι' nt e' h' a w
theorem zfi {id el k n : Nat} {cs : List Dat} (hb : look h id = some (.row el k n cs)) : AWkS nt e h (frE id (.sl cs n) e) (frH id (.sl cs n) h) := fun Pm F w0 pin ι a w R => by
 obtain ⟨v, hv, xs, hown, hl, hr⟩ := R.heap.blk id _ hb
 let ι' : Nat → Option Value := fun j => if j = id then none else ι j
 have hs : ∀ j u, ι' j = some u → j ≠ id ∧ ι j = some u := fun j u hj => by
  simp only [ι'] at hj
  split at hj
  ·cases hj
  ·exact ⟨by assumption, hj⟩
 have he : Ext w F ι w ι' := ⟨fun _ _ _ => rfl, fun r _ hf => ⟨hf.1, fun j u hj => hf.2 j u (hs j u hj).2⟩⟩
 have hD : DRel w (FreeB F ι') (.sl cs n) v := by
  rcases hown.2 with ⟨rfl, h0⟩ | ⟨g, cap, cur, rfl, _, hg, hnc, _⟩
  ·have h1 := hown.1
   subst h0
   have : cs = [] := by cases cs with
    | nil => rfl
    | cons _ _ => simp at hl h1; rw [h1] at hl; simp at hl
   subst this
   exact .nil
  ·refine .sl cs n g 0 cap xs hnc hl (fun _ => ⟨R.heap.nf id _ g hv rfl, fun j u hj hb => ?_⟩) (fun i u hu => ?_) fun i c u h1 h2 => (hr i c u h1 h2).ext he.mem he.free
   ·obtain ⟨h1, h2⟩ := hs j u hj
    exact R.heap.inj j id u _ g h1 h2 hv hb rfl
   ·have := hown.cells (g := g) rfl i u hu
    rwa [Addr.add_mid] at this
 have vk : ∀ c u, VRel w F ι c u → VRel w F ι' (frV id (.sl cs n) c) u := by
  intro c u hc
  induction hc with
  | top u => exact .top u
  | und => exact .und
  | d x u hd => exact .d x u (hd.ext he.mem he.free)
  | agg cs C hl h ih =>
   refine .agg _ C (by rw [zca]; exact hl) fun i c u h1 h2 => ?_
   rw [zcb] at h1
   cases h3 : cs[i]? with
   | none => simp [h3] at h1
   | some c0 => simp [h3] at h1; subst h1; exact ih i c0 u h3 h2
  | tup cs C hl h ih =>
   refine .tup _ C (by rw [zca]; exact hl) fun i c u h1 h2 => ?_
   rw [zcb] at h1
   cases h3 : cs[i]? with
   | none => simp [h3] at h1
   | some c0 => simp [h3] at h1; subst h1; exact ih i c0 u h3 h2
  | ptr j off u h1 h => exact .ptr j off u h1 fun v hv => h v (hs j v hv).2
  | eptr j off u h1 h => exact .eptr j off u h1 fun v hv => h v (hs j v hv).2
  | iptr cs off b o' vs hl hf hc hr => exact (VRel.iptr cs off b o' vs hl hf hc hr : VRel w F ι _ _).ext he fun j v _ hv => (hs j v hv).2
  | row j u h1 h =>
   rw [frV]
   cases hj : Nat.beq j id with
   | true =>
    have := Nat.eq_of_beq_eq_true hj
    subst this
    rw [cond_true, h v hv]
    exact .d _ _ hD
   | false => exact .row j u h1 fun v hv => h v (hs j v hv).2
  | mp j u h1 h => exact .mp j u h1 fun v hv => h v (hs j v hv).2
  | srow j off n u h1 h =>
   rw [frV]
   cases hj : Nat.beq j id with
   | true => exact .top u
   | false => exact .srow j off n u h1 fun v hv => h v (hs j v hv).2
  | full cs n b h => exact .full cs n b (h.ext he.mem he.free)
  | fn f cs C hl h ih =>
   refine .fn f _ C (by rw [zca]; exact hl) fun i c u h1 h2 => ?_
   rw [zcb] at h1
   cases h3 : cs[i]? with
   | none => simp [h3] at h1
   | some c0 => simp [h3] at h1; subst h1; exact ih i c0 u h3 h2
 refine ⟨ι', fun j u hj => (hs j u hj).2, ⟨?_, ?_, fun i j v v' r hij hi hj => R.heap.inj i j v v' r hij (hs i v hi).2 (hs j v' hj).2, fun i v r hi => R.heap.pm i v r (hs i v hi).2, R.heap.os, R.heap.tape, R.heap.output, R.heap.size, R.heap.keep, R.heap.fresh, fun i v h1 hi => R.heap.pinned i v h1 (hs i v hi).2, fun i v r hi => R.heap.nf i v r (hs i v hi).2, R.heap.forb⟩, ?_, R.defers.ext he, R.size⟩
 ·intro j b hj
  rw [zej] at hj
  split at hj
  ·cases hj
  ·rename_i hji
   cases hl2 : look h j with
   | none => simp [hl2] at hj
   | some b0 =>
    simp [hl2] at hj
    subst hj
    obtain ⟨v2, hv2, hB⟩ := R.heap.blk j b0 hl2
    refine ⟨v2, by simp [ι', hji, hv2], ?_⟩
    cases b0 with
    | var ds =>
     obtain ⟨r, C, tt, rfl, h3, h4, h5⟩ := hB
     refine ⟨r, C, tt, rfl, h3, by rw [zca]; exact h4, fun i c u h6 h7 => ?_⟩
     rw [zcb] at h6
     cases h8 : ds[i]? with
     | none => simp [h8] at h6
     | some c0 => simp [h8] at h6; subst h6; exact vk _ _ (h5 i c0 u h8 h7)
    | row el2 k2 n2 ds =>
     obtain ⟨ys, hown2, h4, h5⟩ := hB
     exact ⟨ys, hown2, h4, fun i c u h6 h7 => (h5 i c u h6 h7).ext he.mem he.free⟩
    | rowA el2 k2 n2 ds =>
     obtain ⟨ys, hown2, h4, h5⟩ := hB
     refine ⟨ys, hown2, by rw [zca]; exact h4, fun i c u h6 h7 => ?_⟩
     rw [zcb] at h6
     cases h8 : ds[i]? with
     | none => simp [h8] at h6
     | some c0 => simp [h8] at h6; subst h6; exact vk _ _ (h5 i c0 u h8 h7)
    | map es =>
     obtain ⟨r, E, clk, rfl, h3, h4, h5, h6⟩ := hB
     refine ⟨r, E, clk, rfl, h3, by simpa using h4, fun i p m h7 h8 => ?_, h6⟩
     rw [List.getElem?_map] at h7
     cases h9 : es[i]? with
     | none => simp [h9] at h7
     | some p0 => simp [h9] at h7; subst h7; exact ⟨vk _ _ (h5 i p0 m h9 h8).1, vk _ _ (h5 i p0 m h9 h8).2⟩
    | mapx r0 bs0 clk0 es =>
     obtain ⟨E, rfl, h3, h4, h5, h6⟩ := hB
     refine ⟨E, rfl, h3, by simpa using h4, fun i p m h7 h8 => ?_, h6⟩
     rw [List.getElem?_map] at h7
     cases h9 : es[i]? with
     | none => simp [h9] at h7
     | some p0 => simp [h9] at h7; subst h7; exact ⟨vk _ _ (h5 i p0 m h9 h8).1, vk _ _ (h5 i p0 m h9 h8).2⟩
    | rowx hv el2 k2 n2 ds => exact hB.viaX (fun c u h => h.ext he.mem he.free) fun _ _ => rfl
    | it o => exact hB
 ·intro j u hj
  obtain ⟨h1, h2⟩ := hs j u hj
  obtain ⟨b, hb⟩ := R.heap.dom j u h2
  exact ⟨frB id _ b, by rw [zej, if_neg h1, hb]; rfl⟩
 ·intro t c ht
  rw [zgW] at ht
  cases hl2 : look e t with
  | none => simp [hl2] at ht
  | some c0 =>
   simp [hl2] at ht
   subst ht
   obtain ⟨u, hu, hv2⟩ := R.env t c0 hl2
   exact ⟨u, hu, vk _ _ hv2⟩
theorem zy {id el k n : Nat} {cs : List Dat} (hb : look h id = some (.row el k n cs)) : AWk nt e h (frE id (.sl cs n) e) (frH id (.sl cs n) h) := fun Pm F w0 pin ι a w R =>
 let ⟨ι', _, R'⟩ := zfi hb Pm F w0 pin ι a w R; ⟨ι', R'⟩
end

section
variable {P : Program} {nt : Nat} {T : List Nat} {e : Env} {h : Heap} {o : Oper} {tab : TTab}
theorem zcj {f : FuncId} {args : Array Operand} {ats : Array TypeId} {cs : List AVal} {d : Option Tmp} {Q : AVal → Heap → Prop} (ho : o.op = .call { callee := .value (.func f), args := args, argTypes := ats }) (hdst : o.dst = d) (hx : aevs e args.toList = some cs)
  (H : ACall P f cs [] Q) (hd : dstOk nt d = true) (hq : ∀ c h', Q c h' → (h'.map (·.1)).all (fun j => Nat.blt j 1000) = true ∧ (∀ id b j, look h' id = some b → blkHas j b = true → (look h' j).isSome = true) ∧ ∀ j, c.has j = true → (look h' j).isSome = true) :
  AEff P nt T e h o (fun e' h2 => ∃ c h', Q c h' ∧ e' = aput d c (killEs (h'.map (·.1)) e) ∧ h2 = h' ++ killHs (h'.map (·.1)) h) := fun Pm F w0 pin ι a w R K Qx hK => by
 unfold Oper.wp
 rw [za1 H.1 ho, Oper.upon_enter, hdst]
 have hF : ∀ r, Fc F ι r → r < w.heap.size := fun r hr => hr.elim (fun h1 => Nat.lt_of_lt_of_le (R.heap.forb r h1) R.heap.size) fun ⟨id, v, h1, h2⟩ => R.heap.lt h1 h2
 refine (H.2 _ _ w _ _ _ w (HRel.none (Fc F ι) w hF R.heap.glob) (zdc (zaM R.env hx))).mono ?_
 rintro x w' ⟨u, c, h', ι', rfl, hQ, hH, hv⟩
 obtain ⟨h1, h2, h3⟩ := hq c h' hQ
 obtain ⟨ι2, hR, hC⟩ := R.called (T := T) hH hv h1 h2 h3 hd
 exact hK _ _ _ _ _ ⟨c, h', hQ, rfl, rfl⟩ hR hC (zx _ _ _)
theorem zc4 (e : Env) : killEs [] e = e := by
 induction e with
 | nil => rfl
 | cons p r ih => show (p.1, killVs [] p.2) :: killEs [] r = _; rw [ih]; rfl
theorem zc3 (h : Heap) : killHs [] h = h := by
 have kv : ∀ c, killVs [] c = c := fun c => rfl
 induction h with
 | nil => rfl
 | cons p r ih =>
  show (p.1, killBs [] p.2) :: killHs [] r = _
  rw [ih]
  obtain ⟨j, b⟩ := p
  cases b with
  | var cs => show (j, ABlk.var (cs.map (killVs []))) :: r = _; rw [List.map_congr_left (fun c _ => kv c)]; simp
  | row => rfl
  | rowA el k n cs => show (j, ABlk.rowA el k n (cs.map (killVs []))) :: r = _; rw [List.map_congr_left (fun c _ => kv c)]; simp
  | map es => show (j, ABlk.map (es.map fun p => (killVs [] p.1, killVs [] p.2))) :: r = _; rw [show es.map (fun p => (killVs [] p.1, killVs [] p.2)) = es from (List.map_congr_left (g := id) (fun _ _ => rfl)).trans (List.map_id es)]
  | mapx r0 bs0 clk0 es => show (j, ABlk.mapx r0 bs0 clk0 (es.map fun p => (killVs [] p.1, killVs [] p.2))) :: r = _; rw [show es.map (fun p => (killVs [] p.1, killVs [] p.2)) = es from (List.map_congr_left (g := id) (fun _ _ => rfl)).trans (List.map_id es)]
  | rowx => rfl
  | it o => rfl
theorem zfK {f : FuncId} {args : Array Operand} {ats : Array TypeId} {cs : List AVal} {d : Option Tmp} {c : AVal} (ho : o.op = .call { callee := .value (.func f), args := args, argTypes := ats }) (hdst : o.dst = d) (hx : aevs e args.toList = some cs)
  (H : ACall P f cs [] (fun c' h' => c' = c ∧ h' = [])) (hd : dstOk nt d = true) (hc : ∀ j, c.has j = false) : AEff P nt T e h o (fun e' h' => e' = aput d c e ∧ h' = h) := fun Pm F w0 pin ι a w R K Qx hK =>
 zcj (T := T) ho hdst hx H hd (fun c' h' ⟨h1, h2⟩ => by subst h1 h2; exact ⟨rfl, fun _ _ _ h => (by cases h), fun j hj => by rw [hc] at hj; cases hj⟩) Pm F w0 pin ι a w R K Qx
  fun ι' e' h' a' w' ⟨c', h2, ⟨h3, h4⟩, h5, h6⟩ => by
   subst h3 h4
   rw [List.map_nil, zc4] at h5
   rw [List.map_nil, zc3, List.nil_append] at h6
   exact hK ι' e' h' a' w' ⟨h5, h6⟩
mutual
def valA : AVal → Option Value
 | .d (.sc v) => some v
 | .agg cs => match valL cs with
  | some l => some (.agg l.toArray)
  | none => none
 | .tup cs => match valL cs with
  | some l => some (.tuple l.toArray)
  | none => none
 | _ => none
def valL : List AVal → Option (List Value)
 | [] => some []
 | c :: r => match valA c, valL r with
  | some v, some l => some (v :: l)
  | _, _ => none
end
theorem zdZ {cs : List AVal} {l : List Value} (h : valL cs = some l) : l.length = cs.length ∧ ∀ (i : Nat) (c : AVal) (v : Value), cs[i]? = some c → l[i]? = some v → valA c = some v := by
 induction cs generalizing l with
 | nil => cases h; exact ⟨rfl, by simp⟩
 | cons c r ih =>
  rw [valL] at h
  cases hc : valA c with
  | none => simp [hc] at h
  | some v =>
   cases hr : valL r with
   | none => simp [hc, hr] at h
   | some l' =>
    simp [hc, hr] at h
    subst h
    obtain ⟨h1, h2⟩ := ih hr
    refine ⟨by simp [h1], fun i c' v' h3 h4 => ?_⟩
    cases i with
    | zero => simp at h3 h4; subst h3 h4; exact hc
    | succ i => exact h2 i c' v' (by simpa using h3) (by simpa using h4)
theorem zaa {w : World} {F : Nat → Prop} {ι : Nat → Option Value} {c : AVal} {u v : Value} (h : VRel w F ι c u) (hv : valA c = some v) : u = v := by
 induction h generalizing v with
 | d x u hd => cases hd <;> simp [valA] at hv; exact hv
 | agg cs C hl h ih =>
  rw [valA] at hv
  cases hc : valL cs with
  | none => simp [hc] at hv
  | some l =>
   simp [hc] at hv
   subst hv
   obtain ⟨h1, h2⟩ := zdZ hc
   congr 1
   apply Array.ext
   ·simp [hl, h1]
   ·intro i h3 h4
    have h5 : i < cs.length := by omega
    have h6 : i < l.length := by omega
    have := ih i cs[i] C[i] (List.getElem?_eq_getElem h5) (Array.getElem?_eq_getElem h3) (h2 i cs[i] l[i] (List.getElem?_eq_getElem h5) (List.getElem?_eq_getElem h6))
    simpa using this
 | tup cs C hl h ih =>
  rw [valA] at hv
  cases hc : valL cs with
  | none => simp [hc] at hv
  | some l =>
   simp [hc] at hv
   subst hv
   obtain ⟨h1, h2⟩ := zdZ hc
   congr 1
   apply Array.ext
   ·simp [hl, h1]
   ·intro i h3 h4
    have h5 : i < cs.length := by omega
    have h6 : i < l.length := by omega
    have := ih i cs[i] C[i] (List.getElem?_eq_getElem h5) (Array.getElem?_eq_getElem h3) (h2 i cs[i] l[i] (List.getElem?_eq_getElem h5) (List.getElem?_eq_getElem h6))
    simpa using this
 | _ => simp [valA] at hv
theorem zkr {Q : Post} {ops : Array Oper} {rest : List Oper} {f : FuncId} {args : Array Operand} {ats : Array TypeId} {cs : List AVal} {c : AVal} {v : Value} (ho : o.op = .call { callee := .value (.func f), args := args, argTypes := ats }) (hx : aevs e args.toList = some cs)
  (hw : awant ops e o = some true) (hd : dstOk nt o.dst = true) (H : ACall P f cs [] (fun c' h' => c' = c ∧ h' = [])) (hc : valA c = some v) (hrel : ∀ w F ι, VRel w F ι c v)
  (HK : AQ P nt ops Q rest (aput o.dst c e) h) : AQ P nt ops Q (o :: rest) e h := fun Pm F w0 pin ι a w R =>
 wpQuiet_step fun K hK => by
  rw [zab R.env hw, if_pos rfl]
  refine ⟨v, fun w' hw' => ?_, hK _ (HK Pm F w0 pin ι _ w (R.put hd (hrel _ _ _)))⟩
  unfold Oper.quietAt
  rw [za1 H.1 ho]
  refine ⟨rfl, ?_⟩
  have R' := R.grew hw'.grew
  have hF : ∀ r, Fc F ι r → r < w'.heap.size := fun r hr => hr.elim (fun h1 => Nat.lt_of_lt_of_le (R'.heap.forb r h1) R'.heap.size) fun ⟨id, v, h1, h2⟩ => R'.heap.lt h1 h2
  refine (H.2 _ _ w' _ _ _ w' (HRel.none (Fc F ι) w' hF R'.heap.glob) (zdc (zaM R'.env hx))).mono ?_
  rintro x w2 ⟨u, c', h', ι', rfl, ⟨rfl, rfl⟩, hH, hv⟩
  refine ⟨by rw [zaa hv hc], ?_⟩
  exact (hw'.grew.trans hH.grewC).ct []

def AOut (nt : Nat) (tab : TTab) (rs : List ResultVar) (Q : AVal → Heap → Prop) (e : Env) (h : Heap) : Prop := ∃ e' h' v h2, AWk nt e h e' h' ∧ ares tab e' h' rs = some v ∧ Sub h2 h' ∧ Q v h2
def APost (nt : Nat) (tab : TTab) (rs : List ResultVar) (Q : AVal → Heap → Prop) : Post := fun x e h => match x with
 | .normal => AOut nt tab rs Q e h
 | .ret => AOut nt tab rs Q e h
 | _ => False
theorem zew {Pm F : Nat → Prop} {w0 w : World} {pin ι : Nat → Option Value} {a : Act} (TO : TabOk P tab) (R : Rel Pm F w0 pin ι nt e h a w) {r : ResultVar} {c : AVal} (hr : aresOne tab e h r = some c) :
  ∃ u, VRel w F ι c u ∧ (match r with
   | .tmp t => (pure (a.tmps.getD t undef) : Sem Value)
   | .cell s t => do loadVar t (← asAddr (a.tmps.getD s undef))).run P w = .ok u w := by
 cases r with
 | tmp t =>
  obtain ⟨u, hu, hv⟩ := R.env t c hr
  exact ⟨u, hv, by simp [hu]⟩
 | cell s t =>
  rw [aresOne] at hr
  split at hr
  ·rename_i id te hs ht
   split at hr
   ·rename_i cs hb
    obtain ⟨u, hu, hv⟩ := R.env s _ hs
    obtain ⟨v, hvι, g, C, tt, rfl, hC, hlC, hrr⟩ := R.heap.blk id _ hb
    cases hv with
    | ptr _ _ _ h1 h2 =>
     obtain ⟨g', h3, rfl⟩ := h2 _ hvι
     cases h3
     have hcell : ∀ (j : Nat) (u : Value), C.toList[j]? = some u → w.cell? ⟨g, 0 + j, none⟩ = some u := fun j u hj => by
      rw [Nat.zero_add]; simp [World.cell?, hC]; simpa using hj
     cases ha : te.agg with
     | true =>
      rw [ha, cond_true] at hr
      cases hb2 : Nat.beq cs.length te.size with
      | false => rw [hb2] at hr; cases hr
      | true =>
       rw [hb2] at hr
       cases hr
       have hl := Nat.eq_of_beq_eq_true hb2
       refine ⟨.agg C, .agg cs C hlC fun i c u h4 h5 => hrr i c u h4 h5, ?_⟩
       have := zbm (P := P) w (TO t te ht) g 0 C.toList (by simp [hlC, hl]) hcell
       rw [ha] at this
       simp [hu, asAddr, this]
     | false =>
      rw [ha, cond_false] at hr
      have h0 : 0 < C.size := by rw [hlC]; exact (List.getElem?_eq_some_iff.1 hr).1
      refine ⟨C[0], hrr 0 c _ hr (Array.getElem?_eq_getElem h0), ?_⟩
      have h6 := hcell 0 C[0] (by rw [Array.getElem?_toList]; exact Array.getElem?_eq_getElem h0)
      simp [hu, asAddr, loadVar, (TO t te ht).run_agg, ha, load, Sem.run]
      rw [Nat.add_zero] at h6
      rw [h6]
   ·cases hr
  ·cases hr
theorem zhD {Pm F : Nat → Prop} {w0 w : World} {pin ι : Nat → Option Value} {a : Act} (TO : TabOk P tab) (R : Rel Pm F w0 pin ι nt e h a w) {fn : Func} {rs : List ResultVar} (hrs : fn.results.toList = rs) {c : AVal} (hr : ares tab e h rs = some c) :
  ∃ u, VRel w F ι c u ∧ (results fn a.tmps).run P w = .ok u w := by
 let g : ResultVar → Sem Value := fun
  | .tmp t => pure (a.tmps.getD t undef)
  | .cell s t => do loadVar t (← asAddr (a.tmps.getD s undef))
 have hg : results fn a.tmps = (do
   let vs ← fn.results.mapM g
   pure (if h : vs.size = 1 then vs[0] else .tuple vs)) := rfl
 have key : ∀ (rs : List ResultVar) (cs : List AVal), rs.mapM (aresOne tab e h) = some cs → ∃ us : List Value, us.length = cs.length ∧ (∀ (i : Nat) (c : AVal) (u : Value), cs[i]? = some c → us[i]? = some u → VRel w F ι c u) ∧ (rs.mapM g).run P w = .ok us w := by
  intro rs
  induction rs with
  | nil => intro cs h; simp at h; subst h; exact ⟨[], rfl, by simp, rfl⟩
  | cons r rs ih =>
   intro cs hm
   rw [List.mapM_cons] at hm
   cases h1 : aresOne tab e h r with
   | none => simp [h1] at hm
   | some c1 =>
    cases h2 : rs.mapM (aresOne tab e h) with
    | none => simp [h1, h2] at hm
    | some cs1 =>
     simp [h1, h2] at hm
     subst hm
     obtain ⟨us, h3, h4, h5⟩ := ih cs1 h2
     obtain ⟨u, h6, h7⟩ := zew TO R h1
     refine ⟨u :: us, by simp [h3], fun i c u' h8 h9 => ?_, ?_⟩
     ·cases i with
      | zero => simp at h8 h9; subst h8 h9; exact h6
      | succ i => exact h4 i c u' (by simpa using h8) (by simpa using h9)
     ·rw [List.mapM_cons]
      have h7' : (g r).run P w = .ok u w := by cases r <;> exact h7
      simp [h7', h5]
 have gen : ∀ (cs : List AVal), rs.mapM (aresOne tab e h) = some cs → ∃ us : List Value, us.length = cs.length ∧ (∀ (i : Nat) (c : AVal) (u : Value), cs[i]? = some c → us[i]? = some u → VRel w F ι c u) ∧ (results fn a.tmps).run P w = .ok (if h : us.toArray.size = 1 then us.toArray[0] else .tuple us.toArray) w := by
  intro cs hm
  obtain ⟨us, h1, h2, h3⟩ := key rs cs hm
  refine ⟨us, h1, h2, ?_⟩
  rw [hg, Array.mapM_eq_mapM_toList, hrs]
  simp [h3]
 match rs, hrs, hr, gen with
 | [r], hrs, hr, gen =>
  have hr' : aresOne tab e h r = some c := hr
  obtain ⟨us, h1, h2, h3⟩ := gen [c] (by simp [hr'])
  match us, h1, h2, h3 with
  | [u], _, h2, h3 => exact ⟨u, h2 0 c u rfl rfl, by simpa using h3⟩
 | [], hrs, hr, gen =>
  have hr' : c = .tup [] := by have : some (AVal.tup []) = some c := hr; exact (Option.some.inj this).symm
  subst hr'
  obtain ⟨us, h1, h2, h3⟩ := gen [] (by simp)
  have : us = [] := by simpa using h1
  subst this
  exact ⟨_, .tup [] #[] rfl (by simp), by simpa using h3⟩
 | r1 :: r2 :: rs, hrs, hr, gen =>
  have hr' : ((r1 :: r2 :: rs).mapM (aresOne tab e h)).map AVal.tup = some c := hr
  cases hm : (r1 :: r2 :: rs).mapM (aresOne tab e h) with
  | none => rw [hm] at hr'; cases hr'
  | some cs =>
   rw [hm] at hr'
   cases hr'
   obtain ⟨us, h1, h2, h3⟩ := gen cs hm
   have hlen : cs.length = rs.length + 2 := by
    have : ∀ (l : List ResultVar) (cs : List AVal), l.mapM (aresOne tab e h) = some cs → cs.length = l.length := by
     intro l
     induction l with
     | nil => intro cs h; simp at h; subst h; rfl
     | cons r l ih =>
      intro cs hm
      rw [List.mapM_cons] at hm
      cases h1 : aresOne tab e h r with
      | none => simp [h1] at hm
      | some c1 =>
       cases h2 : l.mapM (aresOne tab e h) with
       | none => simp [h1, h2] at hm
       | some cs1 => simp [h1, h2] at hm; subst hm; simp [ih cs1 h2]
    simpa using this _ _ hm
   refine ⟨.tuple us.toArray, .tup cs _ (by simpa using h1) fun i c u h4 h5 => h2 i c u h4 (by simpa using h5), ?_⟩
   rw [h3, dif_neg (by simp [h1, hlen])]
theorem DRel.forbid {w : World} {Fr M : Nat → Prop} (hM : ∀ r, M r → ∀ o v, w.cell? ⟨r, o, none⟩ ≠ some v) {x : Dat} {u : Value} (h : DRel w Fr x u) : DRel w (fun r => Fr r ∧ ¬ M r) x u := by
 induction h with
 | sc v h => exact .sc v h
 | nil => exact .nil
 | emp a => exact .emp a
 | sl cs n b o cap vs hn hl hf hc hr ih =>
  refine .sl cs n b o cap vs hn hl (fun hne => ⟨hf hne, fun hm => ?_⟩) hc ih
  cases vs with
  | nil => exact hne rfl
  | cons v r => exact hM b hm _ v (hc 0 v rfl)
 | cut cs n m b o cap vs hn hm hl hf hc hr ih =>
  refine .cut cs n m b o cap vs hn hm hl (fun hne => ⟨hf hne, fun hm => ?_⟩) hc ih
  cases vs with
  | nil => exact hne rfl
  | cons v r => exact hM b hm _ v (hc 0 v rfl)
theorem DRel.imp {w : World} {Fr Fr' : Nat → Prop} {x : Dat} {u : Value} (h : DRel w Fr x u) (hf : ∀ r, Fr r → Fr' r) : DRel w Fr' x u := h.ext (fun _ _ _ => rfl) fun r _ => hf r
theorem VRel.forbid {w : World} {F M : Nat → Prop} {ι : Nat → Option Value} (hM : ∀ r, M r → ∀ o v, w.cell? ⟨r, o, none⟩ ≠ some v) {c : AVal} {u : Value} (h : VRel w F ι c u) : VRel w (fun r => F r ∨ M r) ι c u := by
 have hfr : ∀ r, FreeB F ι r ∧ ¬ M r → FreeB (fun r => F r ∨ M r) ι r := fun r h => ⟨fun hc => hc.elim h.1.1 h.2, h.1.2⟩
 induction h with
 | top u => exact .top u
 | und => exact .und
 | d x u h => exact .d x u ((h.forbid hM).imp hfr)
 | agg cs C hl h ih => exact .agg cs C hl ih
 | tup cs C hl h ih => exact .tup cs C hl ih
 | ptr id off u h1 h => exact .ptr id off u h1 h
 | eptr id off u h1 h => exact .eptr id off u h1 h
 | iptr cs off b o vs hl hf hc hr =>
  refine .iptr cs off b o vs hl (fun hne => hfr b ⟨hf hne, fun hm => ?_⟩) hc fun i c u h1 h2 => ((hr i c u h1 h2).forbid hM).imp hfr
  cases vs with
  | nil => exact hne rfl
  | cons v r => exact hM b hm _ v (hc 0 v rfl)
 | row id u h1 h => exact .row id u h1 h
 | mp id u h1 h => exact .mp id u h1 h
 | fn f caps C hl h ih => exact .fn f caps C hl ih
 | srow id off n u h1 h => exact .srow id off n u h1 h
 | full cs n b h => exact .full cs n b ((h.forbid hM).imp hfr)
theorem BRel.via {w w' : World} {F F' : Nat → Prop} {ι ι' : Nat → Option Value} {b : ABlk} {v : Value} (h : BRel w F ι b v) (hV : ∀ c u, VRel w F ι c u → VRel w' F' ι' c u) (hD : ∀ c u, DRel w (FreeB F ι) c u → DRel w' (FreeB F' ι') c u)
  (hs : ∀ r, blockOf v = some r → w'.heap[r]? = w.heap[r]?) : BRel w' F' ι' b v := by
 cases b with
 | var cs =>
  obtain ⟨r, C, T, rfl, hc, hl, h⟩ := h
  exact ⟨r, C, T, rfl, (hs r rfl).trans hc, hl, fun i c u h1 h2 => hV _ _ (h i c u h1 h2)⟩
 | row e k n cs =>
  obtain ⟨xs, hown, hl, h⟩ := h
  refine ⟨xs, ⟨hown.1, ?_⟩, hl, fun i c u h1 h2 => hD _ _ (h i c u h1 h2)⟩
  rcases hown.2 with h1 | ⟨g, cap, cur, rfl, hb, hg, rest⟩
  ·exact .inl h1
  ·exact .inr ⟨g, cap, cur, rfl, hb, (hs g rfl).trans hg, rest⟩
 | rowA e k n cs =>
  obtain ⟨xs, hown, hl, h⟩ := h
  refine ⟨xs, ⟨hown.1, ?_⟩, hl, fun i c u h1 h2 => hV _ _ (h i c u h1 h2)⟩
  rcases hown.2 with h1 | ⟨g, cap, cur, rfl, hb, hg, rest⟩
  ·exact .inl h1
  ·exact .inr ⟨g, cap, cur, rfl, hb, (hs g rfl).trans hg, rest⟩
 | map es =>
  obtain ⟨r, E, clk, rfl, hc, hl, h, h3⟩ := h
  exact ⟨r, E, clk, rfl, (hs r rfl).trans hc, hl, fun i p m h1 h2 => ⟨hV _ _ (h i p m h1 h2).1, hV _ _ (h i p m h1 h2).2⟩, h3⟩
 | mapx r0 bs0 clk0 es =>
  obtain ⟨E, rfl, hc, hl, h, h3⟩ := h
  exact ⟨E, rfl, (hs _ rfl).trans hc, hl, fun i p m h1 h2 => ⟨hV _ _ (h i p m h1 h2).1, hV _ _ (h i p m h1 h2).2⟩, h3⟩
 | rowx hv e k n cs => exact h.viaX hD hs
 | it o => obtain ⟨r, rfl, hc⟩ := h; exact ⟨r, rfl, (hs r rfl).trans hc⟩
theorem ExtM.go {w w' : World} {F M : Nat → Prop} {ι : Nat → Option Value} (hM : ∀ r, M r → ∀ o v, w.cell? ⟨r, o, none⟩ ≠ some v) (hk : ∀ r, ¬ M r → w'.heap[r]? = w.heap[r]?) :
    (∀ c u, VRel w F ι c u → VRel w' F ι c u) ∧ ∀ c u, DRel w (FreeB F ι) c u → DRel w' (FreeB F ι) c u :=
  ⟨fun c u h => (h.forbid hM).extF ⟨fun r _ hf => hk r fun hm => hf.1 (.inr hm), fun r _ hf => ⟨fun h => hf.1 (.inl h), hf.2⟩⟩ fun _ _ _ h => h,
   fun c u h => (h.forbid hM).ext (fun r _ hf => hk r hf.2) fun r _ hf => hf.1⟩
theorem HRel.laid {Pm F M : Nat → Prop} {w0 w w' : World} {pin ι : Nat → Option Value} {h : Heap} (H : HRel Pm F w0 pin ι h w) (hM : ∀ r, M r → ∀ o v, w.cell? ⟨r, o, Option.none⟩ ≠ some v) (hn : ∀ r, M r → Pm r ∧ FreeB F ι r)
  (hk : ∀ r, ¬ M r → w'.heap[r]? = w.heap[r]?) (k1 : w'.os = w.os) (k2 : w'.tape = w.tape) (k3 : w'.output = w.output) (k4 : w.heap.size ≤ w'.heap.size) : HRel Pm F w0 pin ι h w' := by
 obtain ⟨hV, hD⟩ := ExtM.go (F := F) (ι := ι) hM hk
 refine ⟨fun id b hb => ?_, H.dom, H.inj, H.pm, k1.trans H.os, k2.trans H.tape, k3.trans H.output, Nat.le_trans H.size k4, fun r hr hp => ?_, H.fresh, H.pinned, H.nf, H.forb⟩
 ·obtain ⟨v, hv, hB⟩ := H.blk id b hb
  exact ⟨v, hv, hB.via hV hD fun r hr => hk r fun hm => (hn r hm).2.2 id v hv hr⟩
 ·rw [hk r fun hm => hp (hn r hm).1]
  exact H.keep r hr hp
theorem Rel.left {Pm F : Nat → Prop} {w0 w w' : World} {pin ι : Nat → Option Value} {a : Act} (R : Rel Pm F w0 pin ι nt e h a w) (k1 : w'.os = w.os) (k2 : w'.tape = w.tape) (k3 : w'.output = w.output) (k4 : w'.heap.size = w.heap.size)
  (k5 : ∀ r, (∀ d ∈ a.defers, d ≠ ({ target := .collected r, args := #[] } : Deferred)) → w'.heap[r]? = w.heap[r]?) : Rel Pm F w0 pin ι nt e h { a with defers := [] } w' := by
 let M : Nat → Prop := fun r => markOf r ∈ a.defers
 have hm : ∀ r, M r → w.heap[r]? = some (.deferred (some [])) ∧ Pm r ∧ FreeB F ι r := fun r hr => by
  obtain ⟨q, h1, h2, h3, h4⟩ := R.defers.all _ hr
  have : q = r := by simp [markOf] at h1; exact h1.symm
  subst this
  exact ⟨h3, h2, h4⟩
 have hM : ∀ r, M r → ∀ o v, w.cell? ⟨r, o, none⟩ ≠ some v := fun r hr o v hc => by simp [World.cell?, (hm r hr).1] at hc
 have hk : ∀ r, ¬ M r → w'.heap[r]? = w.heap[r]? := fun r hr => k5 r fun d hd h => hr (by show markOf r ∈ _; rw [markOf, ← h]; exact hd)
 refine ⟨R.heap.laid hM (fun r hr => (hm r hr).2) hk k1 k2 k3 (by omega), R.env.mono fun _ c u _ hv => (ExtM.go hM hk).1 c u hv, MkOk.nil, R.size⟩
theorem zc {f : FuncId} {fn : Func} {c : Code} {rs : List ResultVar} {args : List AVal} {Q : AVal → Heap → Prop} (TO : TabOk P tab) (hf : P.funcs[f]? = some fn) (hb : fn.body = some c) (hn : fn.ntmps = nt) (hr : fn.results.toList = rs) (hgo : isGo P f = true) (hle : Nat.ble args.length nt = true)
  (H : AWp true P nt c (APost nt tab rs Q) (argsEnv args) h) : ACall P f args h Q := ⟨hgo, fun Pm F w0 pin ι us w HH HA => by
 have hle := Nat.le_of_ble_eq_true hle
 refine zhb (l := none) (n := 0) (callsIn_of_wp_marks (F := Fq none) (n := 0) hf hb trivial ?_)
 have R : Rel Pm F w0 pin ι nt (argsEnv args) h { tmps := us ++ Array.replicate (fn.ntmps - us.size) undef, defers := [] } w := by
  refine ⟨HH, fun t c ht => ?_, MkOk.nil, ?_⟩
  ·obtain ⟨_, h2⟩ := zdI args 0 t c ht
   rw [Nat.sub_zero] at h2
   have hlt : t < us.size := by rw [HA.1]; exact (List.getElem?_eq_some_iff.1 h2).1
   refine ⟨us[t], ?_, HA.2 t c _ h2 (Array.getElem?_eq_getElem hlt)⟩
   show (us ++ _)[t]? = _
   rw [Array.getElem?_append_left hlt, Array.getElem?_eq_getElem hlt]
  ·show nt ≤ (us ++ _).size
   have := HA.1
   simp; omega
 refine wpIn_mono (H none Pm F w0 pin ι _ w (fun _ => rfl) R) ?_
 rintro x a' w' ⟨ι', e', h', hq, R'⟩
 have fin : AOut nt tab rs Q e' h' → LeavesInM (Fq none) 0 P fn a'.tmps (fun x w' => ∃ u c h' ι', x = .returned u ∧ Q c h' ∧ HRel Pm F w0 pin ι' h' w' ∧ VRel w' F ι' c u) a'.defers .returning w' := by
  rintro ⟨e2, h2, v, h3, hk, hv, hs, hQ⟩
  obtain ⟨ι2, R2⟩ := hk Pm F w0 pin ι' a' w' R'
  refine Rn.leave_marks _ w' (fun d hd => by obtain ⟨r, h1, _, h3, _⟩ := R2.defers.all d hd; exact ⟨r, h1, h3⟩) R2.defers.apart fun w2 k1 k2 k3 k4 k5 => ?_
  have R3 := R2.left k1 k2 k3 k4 k5
  obtain ⟨u, hu, hrun⟩ := zhD TO R3 hr hv
  exact ⟨u, hrun, u, v, h3, only h3 ι2, rfl, hQ, R3.heap.only fun id b hb => hs.look hb, hu.only h3⟩
 cases x with
 | normal => exact fin hq
 | ret => exact fin hq
 | _ => exact hq.elim⟩
end
end Go.Proofs.YtoahnbmedcjpeaaGreatDoor.Ab

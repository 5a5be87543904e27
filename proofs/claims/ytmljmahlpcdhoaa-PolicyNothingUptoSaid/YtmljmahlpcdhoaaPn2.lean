/-
  Texts of a proof, one behind the other (part 3).
-/
import Derived.Maps.RangeRun
import Derived.Laws.StructEq
import Derived.Test.YtmljmahlpcdhoaaRows
import Derived.ProofKit
import Derived.SizedLaws
import Derived.JoinedCond
import Derived.Deep.CondSized
import Derived.Test.YtmljmahlpcdhoaaPn1
set_option linter.unusedVariables false
set_option linter.unusedSimpArgs false
namespace Go.Proofs.Ytmljmahlpcdhoaa
set_option linter.unusedVariables false
set_option linter.unusedSectionVars false
open Go.RowKit Go.Sort Go.ChangeMaps

structure KeyLaw (P : Program) (K : TypeId) {κ : Type} [DecidableEq κ] (ek : κ → Value) (ok : κ → Prop) : Prop where
  check : ∀ b k w, ok k → (Instr.checkKey b 10000 K (ek k)).run P w = .ok () w
  find : ∀ (k : κ) (es : List MapEntry) (l : List (κ × Value)), ok k → (∀ p ∈ l, ok p.1) → es.map (fun e => (e.key, e.val)) = l.map (fun p => (ek p.1, p.2)) → ∀ w, (Instr.findKey K (ek k) es).run P w = .ok (mget l k) w
  bits : ∀ a, ok a → Instr.sameBits 10000 (ek a) (ek a) = true

section
variable {P : Program} {κ ν : Type} [DecidableEq κ] {ek : κ → Value} {ev : ν → Value} {w w' : World} {B : Nat} {l : List (κ × ν)}

def MapIs (ek : κ → Value) (ev : ν → Value) (w : World) (B : Nat) (l : List (κ × ν)) : Prop :=
  ∃ es clock, w.heap[B]? = some (.map es clock) ∧ es.toList.map (fun e => (e.key, e.val)) = l.map (fun p => (ek p.1, ev p.2)) ∧ (∀ e ∈ es.toList, e.born < clock) ∧ (es.toList.map (·.born)).Pairwise (· < ·) ∧ (l.map (·.1)).Nodup

theorem MapIs.nodup (h : MapIs ek ev w B l) : (l.map (·.1)).Nodup := by obtain ⟨_, _, _, _, _, _, h⟩ := h; exact h
theorem MapIs.lt (h : MapIs ek ev w B l) : B < w.heap.size := by
  obtain ⟨_, _, h, _⟩ := h
  exact (Array.getElem?_eq_some_iff.1 h).1
theorem MapIs.of_block (h : MapIs ek ev w B l) (hb : w'.heap[B]? = w.heap[B]?) : MapIs ek ev w' B l := by
  obtain ⟨es, clock, h1, h2⟩ := h
  exact ⟨es, clock, hb.trans h1, h2⟩
theorem MapIs.keep (h : MapIs ek ev w B l) (hb : Below w.heap.size w w') : MapIs ek ev w' B l := h.of_block (hb.block B h.lt)
theorem MapIs.grown {row : Option Nat} (h : MapIs ek ev w B l) (hg : w.grownBy w' row) (hr : some B ≠ row) : MapIs ek ev w' B l := h.of_block (hg.block B h.lt hr)
theorem MapIs.alloc (h : MapIs ek ev w B l) (o : Obj) : MapIs ek ev (w.alloc o) B l := h.of_block (Below.heap_alloc w o B h.lt)
theorem MapIs.drew (h : MapIs ek ev w B l) : MapIs ek ev w.drew B l := h
theorem MapIs.drewN (h : MapIs ek ev w B l) (n : Nat) : MapIs ek ev (w.drewN n) B l := h
theorem MapIs.setCell (h : MapIs ek ev w B l) (a : Addr) (u : Value) : MapIs ek ev (w.setCell a u) B l := by
  obtain ⟨es, clock, h1, h2⟩ := h
  refine ⟨es, clock, ?_, h2⟩
  by_cases e : B = a.block
  · simp only [World.setCell, Array.getElem?_modify]
    rw [if_pos e.symm, h1]; rfl
  · rw [Below.heap_setCell w a u B e]; exact h1
theorem MapIs.made (w : World) : MapIs ek ev (w.alloc (.map #[] 0)) w.heap.size [] :=
  ⟨#[], 0, heap_alloc_new w _, rfl, by simp, by simp, by simp⟩
theorem MapIs.find {K : TypeId} {ok : κ → Prop} (h : MapIs ek ev w B l) (law : KeyLaw P K ek ok) {k : κ} (hk : ok k) (hl : ∀ p ∈ l, ok p.1) :
    ∃ es clock, w.heap[B]? = some (.map es clock) ∧ (∀ W, (Instr.findKey K (ek k) es.toList).run P W = .ok ((mget l k).map fun x => (x.1, ev x.2)) W) ∧ (∀ b W, (Instr.checkKey b 10000 K (ek k)).run P W = .ok () W) := by
  obtain ⟨es, clock, h1, h2, _⟩ := h
  refine ⟨es, clock, h1, fun W => ?_, fun b W => law.check b k W hk⟩
  have e : es.toList.map (fun e => (e.key, e.val)) = (l.map (fun p => (p.1, ev p.2))).map (fun p => (ek p.1, p.2)) := by rw [h2, List.map_map]; rfl
  rw [law.find k es.toList (l.map (fun p => (p.1, ev p.2))) hk (by intro p hp; obtain ⟨q, hq, rfl⟩ := List.mem_map.1 hp; exact hl q hq) e W]
  congr 1
  have : ∀ l : List (κ × ν), mget (l.map fun p => (p.1, ev p.2)) k = (mget l k).map fun x => (x.1, ev x.2) := by
    intro l
    induction l with
    | nil => rfl
    | cons p r ih =>
      obtain ⟨k', v⟩ := p
      simp only [List.map_cons, mget]
      split
      · rfl
      · rw [ih]; cases mget r k <;> rfl
  exact this l

theorem MapIs.lookup {T K E : TypeId} {ok : κ → Prop} (h : MapIs ek ev w B l) (law : KeyLaw P K ek ok) (hT : P.underlying T = some (.map K E)) {z : Value} (hz : ∀ W, (zeroValue E).run P W = .ok z W) {k : κ} (hk : ok k) (hl : ∀ p ∈ l, ok p.1) :
    (Instr.lookup T (.map (some B)) (ek k) false).run P w = .ok (((aget l k).map ev).getD z) w := by
  obtain ⟨es, clock, h1, hf, hc⟩ := h.find law hk hl
  simp only [Instr.lookup, Sem.run_bind, run_underlying hT, Result.andThen_ok, MapKept.run_getObj_map h1, Sem.run_pure, hc, hf]
  unfold aget
  cases mget l k with
  | none => simp [hz]
  | some x => simp

theorem setBlock_grown {es : Array MapEntry} {clock : Nat} (hb : w.heap[B]? = some (.map es clock)) (o : Obj) : w.grownBy (setBlock w B o) (some B) :=
  ⟨rfl, rfl, rfl, by simp [setBlock], fun k hk hne => heap_setBlock_other hb o (fun e => hne (by rw [e]))⟩
theorem map_eraseIdx' {α β : Type} (f : α → β) : ∀ (l : List α) (i : Nat), (l.eraseIdx i).map f = (l.map f).eraseIdx i
  | [], _ => by simp
  | a :: r, 0 => by simp
  | a :: r, i + 1 => by simp [map_eraseIdx' f r i]
theorem MapIs.delete {T K E ty : TypeId} {ok : κ → Prop} {tk : TypeId} (h : MapIs ek ev w B l) (law : KeyLaw P K ek ok) (hT : P.underlying T = some (.map K E)) {k : κ} (hk : ok k) (hl : ∀ p ∈ l, ok p.1) :
    ∃ w', (Builtin.delete_ #[T, tk] ty #[.map (some B), ek k]).run P w = .ok (.tuple #[]) w' ∧ MapIs ek ev w' B (adel l k) ∧ w.grownBy w' (some B) ∧ w'.heap.size = w.heap.size := by
  have hn := adel_nodup (k := k) h.nodup
  obtain ⟨es, clock, h1, hf, hc⟩ := h.find law hk hl
  obtain ⟨es', clock', h1', h2, h3, h4, h5⟩ := h
  rw [h1] at h1'
  injection h1' with h1'
  injection h1' with e1 e2
  subst e1 e2
  have hg1 : (#[T, tk] : Array TypeId)[0]? = some T := rfl
  have hg2 : (#[Value.map (some B), ek k] : Array Value)[0]? = some (.map (some B)) := rfl
  have hg3 : (#[Value.map (some B), ek k] : Array Value)[1]? = some (ek k) := rfl
  simp only [Builtin.delete_, hg1, hg2, hg3, Sem.run_bind, run_underlying hT, Result.andThen_ok, MapKept.run_getObj_map h1, hc, hf]
  unfold adel at *
  cases hm : mget l k with
  | none =>
    simp only [Option.map_none]
    refine ⟨setBlock w B (.map es clock), by rw [Sem.run_bind, MapKept.run_setObj_map _ h1]; rfl, ?_, setBlock_grown h1 _, by simp [setBlock]⟩
    exact ⟨_, _, heap_setBlock_same h1 _, h2, h3, h4, h5⟩
  | some x =>
    obtain ⟨i, u⟩ := x
    simp only [Option.map_some]
    refine ⟨setBlock w B (.map (es.eraseIdxIfInBounds i) clock), by rw [Sem.run_bind, MapKept.run_setObj_map _ h1]; rfl, ?_, setBlock_grown h1 _, by simp [setBlock]⟩
    have he : (es.eraseIdxIfInBounds i).toList = es.toList.eraseIdx i := by simp
    refine ⟨_, _, heap_setBlock_same h1 _, ?_, ?_, ?_, by simpa [hm] using hn⟩
    · rw [he, map_eraseIdx', h2, map_eraseIdx']
    · rw [he]
      intro e hem
      exact h3 e ((List.eraseIdx_sublist _ _).subset hem)
    · rw [he]
      exact h4.sublist ((List.eraseIdx_sublist _ _).map _)

theorem MapIs.size (h : MapIs ek ev w B l) : ∃ es clock, w.heap[B]? = some (.map es clock) ∧ es.size = l.length := by
  obtain ⟨es, clock, h1, h2, _⟩ := h
  refine ⟨es, clock, h1, ?_⟩
  have := congrArg List.length h2
  simpa using this
end
end Go.Proofs.Ytmljmahlpcdhoaa

namespace Go.Proofs.Ytmljmahlpcdhoaa.Ab
set_option linter.unusedVariables false
open Go.RowKit

section
variable {P : Program} {nt : Nat} {Q : Post} {e : Env} {h : Heap} {o : Oper} {T : List Nat} {tab : TTab}
theorem ptr_some {Pm F : Nat → Prop} {w0 w : World} {pin ι : Nat → Option Value} {h : Heap} (H : HRel Pm F w0 pin ι h w) {id o1 : Nat} {u : Value} (hb : (look h id).isSome = true) (hv : VRel w F ι (.ptr id o1) u) : ∃ r, ι id = some (.pointer (some ⟨r, 0, none⟩)) ∧ u = .pointer (some ⟨r, o1, none⟩) := by
  obtain ⟨b, hb⟩ := Option.isSome_iff_exists.1 hb
  obtain ⟨v, hv2, _⟩ := H.blk id _ hb
  cases hv with
  | ptr _ _ _ h1 h2 =>
    obtain ⟨r, rfl, rfl⟩ := h2 v hv2
    exact ⟨r, hv2, rfl⟩
theorem Y_nilCheck {x : Operand} {id o1 : Nat} (ho : o.op = .nilCheck x) (hx : aev e x = some (.ptr id o1)) (hb : (look h id).isSome = true) : AYield P T e h o (.ptr id o1) := fun Pm F w0 pin ι a w H E => by
  have hv := aev_rel E hx
  obtain ⟨r, h1, h2⟩ := ptr_some H hb hv
  refine ⟨a.eval x, hv, fun w' _ => ?_⟩
  simp only [execOp, ho, h2]
  rfl
variable {κ ν : Type} {ek : κ → Value} {ok : κ → Prop} {ka : κ → AVal} {xa : ν → AVal}
def ents (ka : κ → AVal) (xa : ν → AVal) (l : List (κ × ν)) : List (AVal × AVal) := l.map fun p => (ka p.1, xa p.2)
def Beside (w : World) (F : Nat → Prop) (ι : Nat → Option Value) (xa : ν → AVal) : List (κ × ν) → List (κ × Value) → Prop
  | [], [] => True
  | p :: l, q :: m => q.1 = p.1 ∧ VRel w F ι (xa p.2) q.2 ∧ Beside w F ι xa l m
  | _, _ => False
theorem Beside.keys {w : World} {F : Nat → Prop} {ι : Nat → Option Value} {l : List (κ × ν)} {m : List (κ × Value)} (h : Beside w F ι xa l m) : m.map (·.1) = l.map (·.1) := by
  induction l generalizing m with
  | nil => cases m with
    | nil => rfl
    | cons q m => cases h
  | cons p l ih => cases m with
    | nil => cases h
    | cons q m => rw [List.map_cons, List.map_cons, h.1, ih h.2.2]
theorem Beside.mget [DecidableEq κ] {w : World} {F : Nat → Prop} {ι : Nat → Option Value} {l : List (κ × ν)} {m : List (κ × Value)} (h : Beside w F ι xa l m) (k : κ) :
    (∀ i x, mget l k = some (i, x) → ∃ u, mget m k = some (i, u) ∧ VRel w F ι (xa x) u) ∧ (mget l k = none → mget m k = none) := by
  induction l generalizing m with
  | nil => cases m with
    | nil => exact ⟨fun i x h => (by cases h), fun _ => rfl⟩
    | cons q m => cases h
  | cons p l ih => cases m with
    | nil => cases h
    | cons q m =>
      obtain ⟨k1, x1⟩ := p
      obtain ⟨k2, u2⟩ := q
      obtain ⟨h1, h2, h3⟩ := h
      dsimp only at h1 h2
      subst h1
      obtain ⟨i1, i2⟩ := ih h3
      unfold Go.Proofs.Ytmljmahlpcdhoaa.mget
      split
      · exact ⟨fun i x hx => (by cases hx; exact ⟨u2, rfl, h2⟩), fun hx => (by cases hx)⟩
      · refine ⟨fun i x hx => ?_, fun hx => ?_⟩
        · cases hm : Go.Proofs.Ytmljmahlpcdhoaa.mget l k with
          | none => rw [hm] at hx; cases hx
          | some y =>
            rw [hm] at hx
            cases hx
            obtain ⟨u, h5, h6⟩ := i1 y.1 y.2 hm
            exact ⟨u, by rw [h5]; rfl, h6⟩
        · cases hm : Go.Proofs.Ytmljmahlpcdhoaa.mget l k with
          | none => rw [i2 hm]; rfl
          | some y => rw [hm] at hx; cases hx
theorem Beside.aget [DecidableEq κ] {w : World} {F : Nat → Prop} {ι : Nat → Option Value} {l : List (κ × ν)} {m : List (κ × Value)} (h : Beside w F ι xa l m) (k : κ) :
    (∀ x, aget l k = some x → ∃ u, aget m k = some u ∧ VRel w F ι (xa x) u) ∧ (aget l k = none → aget m k = none) := by
  obtain ⟨h1, h2⟩ := h.mget k
  unfold Go.Proofs.Ytmljmahlpcdhoaa.aget
  refine ⟨fun x hx => ?_, fun hx => ?_⟩
  · cases hm : Go.Proofs.Ytmljmahlpcdhoaa.mget l k with
    | none => rw [hm] at hx; cases hx
    | some y =>
      rw [hm] at hx
      cases hx
      obtain ⟨u, h5, h6⟩ := h1 y.1 y.2 hm
      exact ⟨u, by rw [h5]; rfl, h6⟩
  · cases hm : Go.Proofs.Ytmljmahlpcdhoaa.mget l k with
    | none => rw [h2 hm]; rfl
    | some y => rw [hm] at hx; cases hx
theorem Beside.wrote {w w' : World} {F : Nat → Prop} {ι : Nat → Option Value} {id : Nat} {v : Value} (hW : Wrote w v w') (hv : ι id = some v) : ∀ {l : List (κ × ν)} {m : List (κ × Value)}, Beside w F ι xa l m → Beside w' F ι xa l m
  | [], [], _ => trivial
  | p :: l, q :: m, h => ⟨h.1, h.2.1.wrote hW hv, Beside.wrote hW hv h.2.2⟩
  | [], _ :: _, h => h.elim
  | _ :: _, [], h => h.elim
theorem Beside.snoc {w : World} {F : Nat → Prop} {ι : Nat → Option Value} {k : κ} {z : ν} {u : Value} (hz : VRel w F ι (xa z) u) : ∀ {l : List (κ × ν)} {m : List (κ × Value)}, Beside w F ι xa l m → Beside w F ι xa (l ++ [(k, z)]) (m ++ [(k, u)])
  | [], [], _ => ⟨rfl, hz, trivial⟩
  | p :: l, q :: m, h => ⟨h.1, h.2.1, Beside.snoc hz h.2.2⟩
  | [], _ :: _, h => h.elim
  | _ :: _, [], h => h.elim
theorem Beside.set {w : World} {F : Nat → Prop} {ι : Nat → Option Value} {k : κ} {z : ν} {u : Value} (hz : VRel w F ι (xa z) u) : ∀ (i : Nat) {l : List (κ × ν)} {m : List (κ × Value)}, Beside w F ι xa l m → Beside w F ι xa (l.set i (k, z)) (m.set i (k, u))
  | _, [], [], _ => trivial
  | 0, p :: l, q :: m, h => ⟨rfl, hz, h.2.2⟩
  | i + 1, p :: l, q :: m, h => ⟨h.1, h.2.1, Beside.set hz i h.2.2⟩
  | _, [], _ :: _, h => h.elim
  | _, _ :: _, [], h => h.elim
theorem Beside.erase {w : World} {F : Nat → Prop} {ι : Nat → Option Value} : ∀ (i : Nat) {l : List (κ × ν)} {m : List (κ × Value)}, Beside w F ι xa l m → Beside w F ι xa (l.eraseIdx i) (m.eraseIdx i)
  | _, [], [], _ => trivial
  | 0, p :: l, q :: m, h => h.2.2
  | i + 1, p :: l, q :: m, h => ⟨h.1, h.2.1, Beside.erase i h.2.2⟩
  | _, [], _ :: _, h => h.elim
  | _, _ :: _, [], h => h.elim
theorem Beside.aput [DecidableEq κ] {w : World} {F : Nat → Prop} {ι : Nat → Option Value} {k : κ} {z : ν} {u : Value} (hz : VRel w F ι (xa z) u) {l : List (κ × ν)} {m : List (κ × Value)} (h : Beside w F ι xa l m) : Beside w F ι xa (Go.Proofs.Ytmljmahlpcdhoaa.aput l k z) (Go.Proofs.Ytmljmahlpcdhoaa.aput m k u) := by
  obtain ⟨h1, h2⟩ := h.mget k
  unfold Go.Proofs.Ytmljmahlpcdhoaa.aput
  cases hm : Go.Proofs.Ytmljmahlpcdhoaa.mget l k with
  | none => rw [h2 hm]; exact Beside.snoc hz h
  | some y =>
    obtain ⟨i, x⟩ := y
    obtain ⟨u', h5, _⟩ := h1 i x hm
    rw [h5]
    exact Beside.set hz i h
theorem Beside.adel [DecidableEq κ] {w : World} {F : Nat → Prop} {ι : Nat → Option Value} {k : κ} {l : List (κ × ν)} {m : List (κ × Value)} (h : Beside w F ι xa l m) : Beside w F ι xa (Go.Proofs.Ytmljmahlpcdhoaa.adel l k) (Go.Proofs.Ytmljmahlpcdhoaa.adel m k) := by
  obtain ⟨h1, h2⟩ := h.mget k
  unfold Go.Proofs.Ytmljmahlpcdhoaa.adel
  cases hm : Go.Proofs.Ytmljmahlpcdhoaa.mget l k with
  | none => rw [h2 hm]; exact h
  | some y =>
    obtain ⟨i, x⟩ := y
    obtain ⟨u', h5, _⟩ := h1 i x hm
    rw [h5]
    exact Beside.erase i h
end
end Go.Proofs.Ytmljmahlpcdhoaa.Ab

namespace Go.Proofs.Ytmljmahlpcdhoaa.Ab
set_option linter.unusedVariables false
open Go.RowKit

def tmap (tab : TTab) (t : Nat) : Option (Nat × Nat) := match tlook tab t with
  | some te => match te.sh with | .mp k e => some (k, e) | _ => none
  | none => none
def tarr (tab : TTab) (t : Nat) : Option (Nat × Nat) := match tlook tab t with
  | some te => match te.sh with | .ar n e => some (n, e) | _ => none
  | none => none
def tptr (tab : TTab) (t : Nat) : Option Nat := match tlook tab t with
  | some te => match te.sh with | .pt e => some e | _ => none
  | none => none
section
variable {P : Program} {nt : Nat} {Q : Post} {e : Env} {h : Heap} {o : Oper} {ops : Array Oper} {rest : List Oper} {T : List Nat} {tab : TTab}
variable {κ ν : Type} [DecidableEq κ] {ek : κ → Value} {ok : κ → Prop} {ka : κ → AVal} {xa : ν → AVal}
theorem O_cP {f : FuncId} {args : Array Operand} {ats : Array TypeId} {cs0 cs : List AVal} {h0 h1 : Heap} {c : AVal} {d : Nat} (ρ : List (Nat × Nat)) (hinj : ∀ p p' i, look ρ p = some i → look ρ p' = some i → p = p') (hdom : ∀ p i, look ρ p = some i → 1000 ≤ p ∧ (look h0 p).isSome = true ∧ (look h1 p).isSome = true)
    (H : ACall P f cs h0 (fun c' h' => c' = c ∧ h' = h1)) (hok : ∀ c ∈ cs, okV ρ c = true) (hl : Lent ρ h h0) (hw : awant ops e o = some true) (hdst : o.dst = some d) (hd : Nat.blt d nt = true) (ho : o.op = .call { callee := .value (.func f), args := args, argTypes := ats }) (hx : aevs e args.toList = some cs0)
    (hcs : cs.map (renV ρ) = cs0) (HK : AOps P nt ops Q rest ((d, renV ρ c) :: e) (renH ρ h1 ++ h)) : AOps P nt ops Q (o :: rest) e h :=
  O_eff (T := ρ.map (·.2)) hw (E_callP ρ ho hdst hx hcs hok hl (fun p i hp => ⟨(hdom p i hp).1, (hdom p i hp).2.1⟩) hinj H hd (fun p i hp => by
    have : ∀ (ρ : List (Nat × Nat)), look ρ p = some i → i ∈ ρ.map (·.2) := by
      intro ρ
      induction ρ with
      | nil => intro h; cases h
      | cons q r ih =>
        obtain ⟨a, b⟩ := q
        intro h
        by_cases ha : a = p
        · subst ha; rw [look_cons_same] at h; cases h; simp
        · rw [look_cons_ne _ _ ha] at h; have := ih h; simp at this ⊢; exact .inr this
    exact List.contains_iff_mem.2 (this ρ hp)) (fun c' h' ⟨h3, h4⟩ p i hp => by subst h4; exact (hdom p i hp).2.2)) fun e' h' ⟨c', h2, ⟨h3, h4⟩, h5, h6⟩ => by subst h3 h4 h5 h6; exact HK
end
end Go.Proofs.Ytmljmahlpcdhoaa.Ab

namespace Go.Proofs.Ytmljmahlpcdhoaa.Ab
set_option linter.unusedVariables false
open Go.RowKit
open Go.ChangeMaps (setBlock)

section
variable {nt : Nat} {e : Env} {h : Heap}
end
section
variable {P : Program} {nt : Nat} {Q : Post} {e : Env} {h : Heap} {ops : Array Oper} {o : Oper} {rest : List Oper} {T : List Nat} {tab : TTab} {z : Bool}
theorem E_callF {f : FuncId} {x : Operand} {caps : List AVal} {args : Array Operand} {ats : Array TypeId} {cs : List AVal} {d : Option Tmp} {c : AVal} (ho : o.op = .call { callee := .value x, args := args, argTypes := ats }) (hdst : o.dst = d) (hf : aev e x = some (.fn f caps)) (hx : aevs e args.toList = some cs)
    (H : ACall P f (cs ++ caps) [] (fun c' h' => c' = c ∧ h' = [])) (hd : dstOk nt d = true) (hc : ∀ j, c.has j = false) : AEff P nt T e h o (fun e' h' => e' = aput d c e ∧ h' = h) := fun Pm F w0 pin ι a w R K Qx hK => by
  have hfv := aev_rel R.env hf
  generalize hau : a.eval x = u at hfv
  cases hfv with
  | fn _ _ C hl hh =>
    unfold Oper.wp
    rw [run_callV H.1 ho hau, Oper.upon_enter, hdst]
    have hF : ∀ r, Fc F ι r → r < w.heap.size := fun r hr => hr.elim (fun h1 => Nat.lt_of_lt_of_le (R.heap.forb r h1) R.heap.size) fun ⟨id, v, h1, h2⟩ => R.heap.lt h1 h2
    have hA := args_of R.env hx
    have hA2 : ArgsRel w F ι (cs ++ caps) (args.map a.eval ++ C) := by
      refine ⟨by simp [hl]; exact by simpa using hA.1, fun i c u h1 h2 => ?_⟩
      have hAl : (args.map a.eval).size = cs.length := hA.1
      by_cases hi : i < cs.length
      · rw [List.getElem?_append_left hi] at h1
        rw [Array.getElem?_append_left (by omega)] at h2
        exact hA.2 i c u h1 h2
      · rw [List.getElem?_append_right (by omega)] at h1
        rw [Array.getElem?_append_right (by omega), hAl] at h2
        exact hh (i - cs.length) c u h1 h2
    refine (H.2 _ _ w _ _ _ w (HRel.none (Fc F ι) w hF) (args_c hA2)).mono ?_
    rintro y w' ⟨u, c', h', ι', rfl, ⟨rfl, rfl⟩, hH, hv⟩
    obtain ⟨ι2, hR, hC⟩ := R.called (T := T) hH hv (by rfl) (fun _ _ _ h => (by cases h)) (fun j hj => by rw [hc] at hj; cases hj) hd
    rw [List.map_nil, killEs_nil, killHs_nil, List.nil_append] at hR
    exact hK _ _ _ _ _ ⟨rfl, rfl⟩ hR hC (put_defers _ _ _)
theorem O_cF {f : FuncId} {x : Operand} {caps : List AVal} {args : Array Operand} {ats : Array TypeId} {cs : List AVal} {d : Nat} {c : AVal} (hw : awant ops e o = some true) (hdst : o.dst = some d) (hd : Nat.blt d nt = true) (ho : o.op = .call { callee := .value x, args := args, argTypes := ats }) (hf : aev e x = some (.fn f caps)) (hx : aevs e args.toList = some cs)
    (H : ACall P f (cs ++ caps) [] (fun c' h' => c' = c ∧ h' = [])) (hc : ∀ j, c.has j = false) (HK : AOps P nt ops Q rest ((d, c) :: e) h) : AOps P nt ops Q (o :: rest) e h :=
  O_eff (T := []) hw (E_callF (d := some d) ho hdst hf hx H hd hc) fun e' h' ⟨h1, h2⟩ => by subst h1 h2; exact HK
end
end Go.Proofs.Ytmljmahlpcdhoaa.Ab

namespace Go.Proofs.Ytmljmahlpcdhoaa.Ab
set_option linter.unusedVariables false
open Go.RowKit
section
variable {nt : Nat} {e : Env} {h : Heap}
theorem Wk_nilC {b id i : Nat} {cs : List AVal} (el k : Nat) (hb : look h b = some (.var cs)) (hi : cs[i]? = some (.d (.sc (.slice none 0 0)))) (hid : Nat.blt id 1000 = true) (hne : Nat.beq b id = false) :
    AWk nt e h (killE id e) ((b, .var ((cs.map (killV id)).set i (.row id))) :: (id, .row el k 0 []) :: killH id h) := fun Pm F w0 pin ι a w R => by
  have hid' : id < 1000 := by simp [Nat.blt] at hid; omega
  have hne' := of_beq_no hne
  have TT : Touch w ι id (.slice none 0 0) w := ⟨rfl, rfl, rfl, Nat.le_refl _, fun _ _ _ => rfl, fun r hr => by cases hr⟩
  have H1 := R.heap.touch TT (.inl hid') (b' := .row el k 0 []) ⟨[], World.ownsRow_nil _ _ _ _, rfl, by simp⟩
  obtain ⟨v, hv, r, C, T, rfl, hC, hlC, hrr⟩ := R.heap.blk b _ hb
  have hv1 : upd ι id (some (.slice none 0 0)) b = some (.pointer (some ⟨r, 0, none⟩)) := by simp [upd, hne', hv]
  have hW : Wrote w (.pointer (some ⟨r, 0, none⟩)) w := ⟨rfl, rfl, rfl, Nat.le_refl _, fun _ _ _ => rfl⟩
  have H2 := H1.wrote (b' := .var ((cs.map (killV id)).set i (.row id))) hW hv1 ⟨r, C, T, rfl, hC, by rw [List.length_set, List.length_map]; exact hlC, fun j c u h1 h2 => by
    rw [List.getElem?_set] at h1
    by_cases hij : i = j
    · subst hij
      rw [if_pos rfl] at h1
      split at h1
      · cases h1
        have h3 := hrr i _ u hi h2
        refine .row id u (by rw [(sc_of h3).1]; rfl) fun v' hv' => ?_
        simp [upd] at hv'
        rw [(sc_of h3).1, hv']
      · cases h1
    · rw [if_neg hij, List.getElem?_map] at h1
      cases hc : cs[j]? with
      | none => rw [hc] at h1; cases h1
      | some c0 => rw [hc] at h1; cases h1; exact (hrr j c0 u hc h2).killed TT.ext⟩
  exact ⟨_, H2, R.env.killed TT.ext, R.defers.ext TT.ext, R.size⟩
theorem Wk_seeC {b i : Nat} {cs : List AVal} (hb : look h b = some (.var cs)) (hi : cs[i]? = some (.d (.sc (.slice none 0 0)))) : AWk nt e h e ((b, .var (cs.set i (.d (.sl [] 0)))) :: h) := fun Pm F w0 pin ι a w R => by
  obtain ⟨v, hv, r, C, T, rfl, hC, hlC, hrr⟩ := R.heap.blk b _ hb
  have hW : Wrote w (.pointer (some ⟨r, 0, none⟩)) w := ⟨rfl, rfl, rfl, Nat.le_refl _, fun _ _ _ => rfl⟩
  have H2 := R.heap.wrote (b' := .var (cs.set i (.d (.sl [] 0)))) hW hv ⟨r, C, T, rfl, hC, by rw [List.length_set]; exact hlC, fun j c u h1 h2 => by
    rw [List.getElem?_set] at h1
    by_cases hij : i = j
    · subst hij
      rw [if_pos rfl] at h1
      split at h1
      · cases h1; exact see_nil _ _ _ _ (hrr i _ u hi h2)
      · cases h1
    · rw [if_neg hij] at h1; exact hrr j c u h1 h2⟩
  exact ⟨_, H2, R.env, R.defers, R.size⟩
end
end Go.Proofs.Ytmljmahlpcdhoaa.Ab

namespace Go.Proofs.Ytmljmahlpcdhoaa.Ab
set_option linter.unusedVariables false
open Go.RowKit
def tbytes (tab : TTab) (t : Nat) : Option Nat := match tlook tab t with
  | some ⟨_, b, _, _, _⟩ => some b
  | none => none
section
variable {P : Program} {nt : Nat} {Q : Post} {K : Env → Heap → Prop} {e : Env} {h : Heap} {ops : Array Oper} {o : Oper} {rest : List Oper} {T : List Nat} {tab : TTab} {fuel i : Nat} {listed : Array Bool}
theorem N_weakenS {e' : Env} {h' : Heap} (hk : AWkS nt e h e' h') (H : AAny P nt ops Q T fuel listed e' h') : AAny P nt ops Q T fuel listed e h := fun Pm F w0 pin ι a w R => by
  obtain ⟨ι', hs, R'⟩ := hk Pm F w0 pin ι a w R
  refine wpAnyH_mono (fun w2 h2 => ?_) _ _ _ _ (H Pm F w0 pin ι' a w R')
  exact ⟨h2.os, h2.tape, h2.output, h2.size, fun r hr hn => h2.mem r hr fun j hj v hv => hn j hj v (hs j v hv)⟩
def ptReady (ops : Array Oper) (listed : Array Bool) (i : Nat) : Bool := Nat.blt i ops.size && !listed.getD i true && ((ops[i]?).map (·.after.all fun e => !Region.binds .any e || listed.getD e.on false)).getD false
def freeB (ops : Array Oper) (i : Nat) : Bool := match ops[i]? with
  | none => false
  | some oi => (List.range ops.size).all fun j => j == i || oi.after.any (fun e => Region.binds .any e && e.on == j) || match ops[j]? with
      | some oj => oj.after.any (fun e => Region.binds .any e && e.on == i) || oi.apart ops oj
      | none => true
theorem N_listed {l2 : Array Bool} (hl : listed = l2) (H : AAny P nt ops Q T fuel l2 e h) : AAny P nt ops Q T fuel listed e h := by subst hl; exact H
end
end Go.Proofs.Ytmljmahlpcdhoaa.Ab

namespace Go.Proofs.Ytmljmahlpcdhoaa
open Go.ChangeShapes Go.WideShapes Go.ChangeAt Go.RowKit
set_option linter.unusedVariables false
set_option maxRecDepth 100000

theorem own_ : ownKnob Try.prog.godebug = none := by kernel_rfl
theorem laid_ : laidOutB Try.prog = true := by kernel_rfl

theorem trodAll_stays {H : Type} {enc : TypeId × Value → H} {P : Program} (hl : laidOutB P = true) {W W' : World} (hb : Below W.heap.size W W') :
    ∀ (ts : List TypeId) (vs : List Value) (ds : List (DataW H)) (ps : List MemPlace), (∀ t ∈ ts, P.readableRec t = true ∧ t < P.types.size) → (∀ x ∈ ps, x.block < W.heap.size) →
      DataW.TrodAll enc P W 0 (fun _ => true) true ts vs ds ps → DataW.TrodAll enc P W' 0 (fun b => decide (b < W.heap.size)) true ts vs ds ps
  | [], vs, ds, ps, _, _, h => by
    obtain ⟨rfl, rfl, rfl⟩ := trodAll_nil h
    exact trodAll_mk0
  | t :: ts, vs, ds, ps, hr, hlt, h => by
    obtain ⟨v, vs', d, ds', p, q, rfl, rfl, rfl, h1, h2⟩ := trodAll_cons h
    have hr0 := hr t (by simp)
    exact ⟨p, q, Below.trod hl hr0.1 hr0.2 h1 hb (fun x hx => hlt x (by simp [hx])), trodAll_stays hl hb ts vs' ds' q (fun t' h' => hr t' (by simp [h'])) (fun x hx => hlt x (by simp [hx])) h2, rfl⟩

theorem law_post {H : Type} {enc : TypeId × Value → H} {P : Program} {f : Func} {s : ChangeSpec} {W W' : World} {args : Array Value} {ds gs : List (DataW H)} {before : List MemPlace} {tb : TypeId}
    (hrt : f.resultTypes = #[tb]) (hub : P.underlying tb = some .bool) (hv : s.vars = []) (hres : (s.fn H (ds ++ gs)).results = [.lit (.bool true)]) (hargs : (s.fn H (ds ++ gs)).args = ds) (hvs : (s.fn H (ds ++ gs)).vars = [])
    (hl : laidOutB P = true) (hr : ∀ t ∈ f.params.toList, P.readableRec t = true ∧ t < P.types.size)
    (hW : DataW.Whole enc P f.params.toList s.vars false W args.toList ds gs before) (hb : Below W.heap.size W W') : s.post enc P f false true false false W args (.bool true) W' := by
  have hlt := hW.lt
  obtain ⟨p, q, hA, hV, hps, hfz, hnd⟩ := id hW
  rw [hv] at hV
  obtain ⟨hg, hq⟩ := trodVars_none hV
  subst hq
  rw [List.append_nil] at hps
  subst hps
  refine ⟨ds, gs, before, [], before, [], hW, ?_, ?_, ?_, hb.frame _, fun h => by cases h⟩
  · rw [hres, hrt]
    exact trodAll_mk1 ⟨1, by simp [DataW.trod, hub, Value.cells]⟩
  · rw [hargs]
    exact trodAll_stays hl hb _ _ _ _ hr hlt hA
  · rw [hv, hvs]; exact rfl

def Walked (k : FuncId) (params : List TypeId) : Prop :=
  ∀ (H : Type) (enc : TypeId × Value → H) (W : World) (args : Array Value) (ds : List (DataW H)) (ps : List MemPlace), (∀ (j : Nat) t v, params[j]? = some t → args[j]? = some v → ∃ base, Value.okWide Try.prog W .any base t v) →
    DataW.TrodAll enc Try.prog W 0 (fun _ => true) true params args.toList ds ps → (DataW.weightsEach Try.prog params ds).all (· ≤ reachBytes) = true → Calls Try.prog k args W (Ret W (.bool true))

section
variable {H : Type} {enc : TypeId × Value → H} {P : Program} {w : World} {base : Nat} {spare : Nat → Bool} {held : Bool} {fuel : Nat}
theorem int_bounds {k : IntKind} {n : Int} (h : (Lit.int k n).wf = true) : k.min ≤ n ∧ n ≤ k.max := by
  simpa [Lit.wf] using h
end
end Go.Proofs.Ytmljmahlpcdhoaa

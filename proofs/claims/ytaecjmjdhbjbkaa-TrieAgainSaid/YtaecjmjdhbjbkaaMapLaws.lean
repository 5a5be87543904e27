/-
  Maps whose keys are structs: what the model's operations do to a map's block, told as an ordered list of keys and values.
-/
import Derived.Test.YtaecjmjdhbjbkaaMapLib
import Derived.Maps.RangeRun
import Derived.Laws.StructEq
namespace Go.Proofs.Ytaecjmjdhbjbkaa
set_option linter.unusedVariables false
set_option linter.unusedSectionVars false
open Go.RowKit Go.Sort Go.ChangeMaps

/-- What the model must say of a key's type. -/
structure KeyLaw (P : Program) (K : TypeId) {κ : Type} [DecidableEq κ] (ek : κ → Value) (ok : κ → Prop) : Prop where
  check : ∀ b k w, ok k → (Instr.checkKey b 10000 K (ek k)).run P w = .ok () w
  find : ∀ (k : κ) (es : List MapEntry) (l : List (κ × Value)), ok k → (∀ p ∈ l, ok p.1) → es.map (fun e => (e.key, e.val)) = l.map (fun p => (ek p.1, p.2)) → ∀ w, (Instr.findKey K (ek k) es).run P w = .ok (mget l k) w
  bits : ∀ a, ok a → Instr.sameBits 10000 (ek a) (ek a) = true

theorem KeyLaw.of_agg {P : Program} {K : TypeId} {κ : Type} [DecidableEq κ] {ek : κ → Value} {ok : κ → Prop} {fs : Array Field} (hd : P.underlying K = some (.struct fs)) (hagg : ∀ k, ∃ cs, ek k = .agg cs)
    (check : ∀ b k w, ok k → (Instr.checkKey b 10000 K (ek k)).run P w = .ok () w) (eql : ∀ a b w, ok a → ok b → (Op.equal K (ek a) (ek b)).run P w = .ok (decide (a = b)) w)
    (bits : ∀ a, ok a → Instr.sameBits 10000 (ek a) (ek a) = true) : KeyLaw P K ek ok where
  check := check
  bits := bits
  find := by
    intro k es l hk hl he w
    have ask : ∀ (es : List MapEntry) (l : List (κ × Value)) (i : Nat), (∀ p ∈ l, ok p.1) → es.map (fun e => (e.key, e.val)) = l.map (fun p => (ek p.1, p.2)) →
        (Instr.findAsking K (ek k) es i).run P w = .ok ((mget l k).map fun x => (i + x.1, x.2)) w := by
      intro es
      induction es with
      | nil =>
        intro l i _ h
        cases l with
        | nil => rfl
        | cons p r => simp at h
      | cons e es ih =>
        intro l i hl h
        cases l with
        | nil => simp at h
        | cons p r =>
          obtain ⟨k', v⟩ := p
          simp only [List.map_cons, List.cons.injEq, Prod.mk.injEq] at h
          obtain ⟨⟨h1, h2⟩, h3⟩ := h
          unfold Instr.findAsking
          rw [Sem.run_bind, h1, eql k k' w hk (hl (k', v) (by simp))]
          simp only [Result.andThen_ok]
          unfold mget
          by_cases e : k = k'
          · simp [e, h2]
          · simp only [e, decide_false, Bool.false_eq_true, if_false]
            rw [ih r (i + 1) (fun p hp => hl p (by simp [hp])) h3]
            cases mget r k with
            | none => rfl
            | some x => simp; omega
    unfold Instr.findKey
    rw [Sem.run_bind, run_underlying hd]
    simp only [Result.andThen_ok]
    cases es with
    | nil =>
      cases l with
      | nil => simp [Instr.findNow, mget]
      | cons p r => simp at he
    | cons e es =>
      obtain ⟨cs, hcs⟩ := hagg k
      have hn : Instr.findNow (.struct fs) (ek k) (e :: es) 0 = none := by
        unfold Instr.findNow
        rw [hcs]
        cases e.key <;> rfl
      rw [hn]
      simp only
      rw [ask (e :: es) l 0 hl he]
      cases mget l k with
      | none => rfl
      | some x => simp

section
variable {P : Program} {κ ν : Type} [DecidableEq κ] {ek : κ → Value} {ev : ν → Value} {w w' : World} {B : Nat} {l : List (κ × ν)}

/-- Block B is a map that holds just these keys and values, laid in this order. -/
def MapIs (ek : κ → Value) (ev : ν → Value) (w : World) (B : Nat) (l : List (κ × ν)) : Prop :=
  ∃ es clock, w.heap[B]? = some (.map es clock) ∧ es.toList.map (fun e => (e.key, e.val)) = l.map (fun p => (ek p.1, ev p.2)) ∧ (∀ e ∈ es.toList, e.born < clock) ∧ (es.toList.map (·.born)).Pairwise (· < ·) ∧ (l.map (·.1)).Nodup

theorem MapIs.nodup (h : MapIs ek ev w B l) : (l.map (·.1)).Nodup := by obtain ⟨_, _, _, _, _, _, h⟩ := h; exact h
theorem MapIs.lt (h : MapIs ek ev w B l) : B < w.heap.size := by
  obtain ⟨_, _, h, _⟩ := h
  exact (Array.getElem?_eq_some_iff.1 h).1
theorem MapIs.of_block (h : MapIs ek ev w B l) (hb : w'.heap[B]? = w.heap[B]?) : MapIs ek ev w' B l := by
  obtain ⟨es, clock, h1, h2⟩ := h
  exact ⟨es, clock, hb.trans h1, h2⟩
theorem MapIs.keep (h : MapIs ek ev w B l) (hb : Below w.heap.size w w') : MapIs ek ev w' B l := h.of_block (hb.block B h.lt)
theorem MapIs.grown {row : Option Nat} (h : MapIs ek ev w B l) (hg : w.grownBy w' row) (hr : some B ≠ row) : MapIs ek ev w' B l := h.of_block (hg.block B h.lt hr)
theorem MapIs.alloc (h : MapIs ek ev w B l) (o : Obj) : MapIs ek ev (w.alloc o) B l := h.of_block (Below.heap_alloc w o B h.lt)
theorem MapIs.drew (h : MapIs ek ev w B l) : MapIs ek ev w.drew B l := h
theorem MapIs.drewN (h : MapIs ek ev w B l) (n : Nat) : MapIs ek ev (w.drewN n) B l := h
theorem MapIs.setCell (h : MapIs ek ev w B l) (a : Addr) (u : Value) : MapIs ek ev (w.setCell a u) B l := by
  obtain ⟨es, clock, h1, h2⟩ := h
  refine ⟨es, clock, ?_, h2⟩
  by_cases e : B = a.block
  · simp only [World.setCell, Array.getElem?_modify]
    rw [if_pos e.symm, h1]; rfl
  · rw [Below.heap_setCell w a u B e]; exact h1
theorem MapIs.made (w : World) : MapIs ek ev (w.alloc (.map #[] 0)) w.heap.size [] :=
  ⟨#[], 0, heap_alloc_new w _, rfl, by simp, by simp, by simp⟩
theorem MapIs.ne_cells (h : MapIs ek ev w B l) {b o : Nat} {v : Value} (hc : w.cell? ⟨b, o, none⟩ = some v) : b ≠ B := by
  rintro rfl
  obtain ⟨es, clock, h1, _⟩ := h
  simp [World.cell?, h1] at hc

theorem MapIs.find {K : TypeId} {ok : κ → Prop} (h : MapIs ek ev w B l) (law : KeyLaw P K ek ok) {k : κ} (hk : ok k) (hl : ∀ p ∈ l, ok p.1) :
    ∃ es clock, w.heap[B]? = some (.map es clock) ∧ (∀ W, (Instr.findKey K (ek k) es.toList).run P W = .ok ((mget l k).map fun x => (x.1, ev x.2)) W) ∧ (∀ b W, (Instr.checkKey b 10000 K (ek k)).run P W = .ok () W) := by
  obtain ⟨es, clock, h1, h2, _⟩ := h
  refine ⟨es, clock, h1, fun W => ?_, fun b W => law.check b k W hk⟩
  have e : es.toList.map (fun e => (e.key, e.val)) = (l.map (fun p => (p.1, ev p.2))).map (fun p => (ek p.1, p.2)) := by rw [h2, List.map_map]; rfl
  rw [law.find k es.toList (l.map (fun p => (p.1, ev p.2))) hk (by intro p hp; obtain ⟨q, hq, rfl⟩ := List.mem_map.1 hp; exact hl q hq) e W]
  congr 1
  have : ∀ l : List (κ × ν), mget (l.map fun p => (p.1, ev p.2)) k = (mget l k).map fun x => (x.1, ev x.2) := by
    intro l
    induction l with
    | nil => rfl
    | cons p r ih =>
      obtain ⟨k', v⟩ := p
      simp only [List.map_cons, mget]
      split
      · rfl
      · rw [ih]; cases mget r k <;> rfl
  exact this l

/-- 'v, ok := m[k]'. -/
theorem MapIs.lookup_ok {T K E : TypeId} {ok : κ → Prop} (h : MapIs ek ev w B l) (law : KeyLaw P K ek ok) (hT : P.underlying T = some (.map K E)) {z : Value} (hz : ∀ W, (zeroValue E).run P W = .ok z W) {k : κ} (hk : ok k) (hl : ∀ p ∈ l, ok p.1) :
    (Instr.lookup T (.map (some B)) (ek k) true).run P w = .ok (.tuple #[((aget l k).map ev).getD z, .bool (aget l k).isSome]) w := by
  obtain ⟨es, clock, h1, hf, hc⟩ := h.find law hk hl
  simp only [Instr.lookup, Sem.run_bind, run_underlying hT, Result.andThen_ok, MapKept.run_getObj_map h1, Sem.run_pure, hc, hf]
  unfold aget
  cases mget l k with
  | none => simp [hz]
  | some x => simp
/-- 'm[k]'. -/
theorem MapIs.lookup {T K E : TypeId} {ok : κ → Prop} (h : MapIs ek ev w B l) (law : KeyLaw P K ek ok) (hT : P.underlying T = some (.map K E)) {z : Value} (hz : ∀ W, (zeroValue E).run P W = .ok z W) {k : κ} (hk : ok k) (hl : ∀ p ∈ l, ok p.1) :
    (Instr.lookup T (.map (some B)) (ek k) false).run P w = .ok (((aget l k).map ev).getD z) w := by
  obtain ⟨es, clock, h1, hf, hc⟩ := h.find law hk hl
  simp only [Instr.lookup, Sem.run_bind, run_underlying hT, Result.andThen_ok, MapKept.run_getObj_map h1, Sem.run_pure, hc, hf]
  unfold aget
  cases mget l k with
  | none => simp [hz]
  | some x => simp

theorem setBlock_grown {es : Array MapEntry} {clock : Nat} (hb : w.heap[B]? = some (.map es clock)) (o : Obj) : w.grownBy (setBlock w B o) (some B) :=
  ⟨rfl, rfl, rfl, by simp [setBlock], fun k hk hne => heap_setBlock_other hb o (fun e => hne (by rw [e]))⟩
theorem modify_map {es : Array MapEntry} {i : Nat} (g : MapEntry → MapEntry) : (es.modify i g).toList = es.toList.modify i g := by simp
theorem list_modify_set {α : Type} (l : List α) (i : Nat) (g : α → α) {x : α} (h : l[i]? = some x) : l.modify i g = l.set i (g x) := by
  apply List.ext_getElem?
  intro j
  rw [List.getElem?_modify, List.getElem?_set]
  by_cases e : i = j
  · subst e
    obtain ⟨hlt, h2⟩ := List.getElem?_eq_some_iff.1 h
    simp [hlt, h2]
  · simp [e]

/-- 'm[k] = v'. -/
theorem MapIs.update {T K E : TypeId} {ok : κ → Prop} (h : MapIs ek ev w B l) (law : KeyLaw P K ek ok) (hT : P.underlying T = some (.map K E)) {k : κ} (hk : ok k) (hl : ∀ p ∈ l, ok p.1) (v : ν) :
    ∃ w', (Instr.mapUpdate T (.map (some B)) (ek k) (ev v)).run P w = .ok () w' ∧ MapIs ek ev w' B (aput l k v) ∧ w.grownBy w' (some B) ∧ w'.heap.size = w.heap.size := by
  have hn := aput_nodup (k := k) (v := v) h.nodup
  obtain ⟨es, clock, h1, hf, hc⟩ := h.find law hk hl
  obtain ⟨es', clock', h1', h2, h3, h4, h5⟩ := h
  rw [h1] at h1'
  injection h1' with h1'
  injection h1' with e1 e2
  subst e1 e2
  simp only [Instr.mapUpdate, Sem.run_bind, run_underlying hT, Result.andThen_ok, MapKept.run_getObj_map h1, hc, hf]
  unfold aput at *
  cases hm : mget l k with
  | none =>
    simp only [Option.map_none]
    refine ⟨setBlock w B (.map (es.push { key := ek k, val := ev v, born := clock }) (clock + 1)), by rw [MapKept.run_setObj_map _ h1]; rfl, ?_, setBlock_grown h1 _, by simp [setBlock]⟩
    refine ⟨_, _, heap_setBlock_same h1 _, ?_, ?_, ?_, by simpa [hm] using hn⟩
    · simp [h2]
    · intro e he
      simp at he
      rcases he with he | rfl
      · have := h3 e (by simpa using he); omega
      · simp
    · simp only [Array.toList_push, List.map_append, List.map_cons, List.map_nil]
      rw [List.pairwise_append]
      refine ⟨h4, by simp, ?_⟩
      intro a ha b hb
      simp at hb
      subst hb
      obtain ⟨e, he, rfl⟩ := List.mem_map.1 ha
      have := h3 e he
      omega
  | some x =>
    obtain ⟨i, u⟩ := x
    simp only [Option.map_some]
    have hi := mget_some hm
    have hie : (es.toList.map (fun e => (e.key, e.val)))[i]? = some (ek k, ev u) := by rw [h2, List.getElem?_map, hi]; rfl
    rw [List.getElem?_map] at hie
    cases hee : es.toList[i]? with
    | none => simp [hee] at hie
    | some e0 =>
      simp only [hee, Option.map_some, Option.some.injEq, Prod.mk.injEq] at hie
      have hes : es[i]? = some e0 := by rw [← Array.getElem?_toList]; exact hee
      have hstay : (Instr.keyThatStays (((es[i]?).map (·.key)).getD (ek k)) (ek k)).run P w = .ok (ek k) w := by
        rw [hes]
        simp only [Option.map_some, Option.getD_some, hie.1, Instr.keyThatStays, law.bits k hk, if_true, Sem.run_pure]
      rw [Sem.run_bind, hstay]
      simp only [Result.andThen_ok]
      refine ⟨setBlock w B (.map (es.modify i fun e => { e with key := ek k, val := ev v }) clock), by rw [MapKept.run_setObj_map _ h1]; rfl, ?_, setBlock_grown h1 _, by simp [setBlock]⟩
      have hmod : (es.modify i fun e => { e with key := ek k, val := ev v }).toList = es.toList.set i { e0 with key := ek k, val := ev v } := by
        rw [modify_map, list_modify_set _ _ _ hee]
      refine ⟨_, _, heap_setBlock_same h1 _, ?_, ?_, ?_, by simpa [hm] using hn⟩
      · rw [hmod, List.map_set, h2, List.map_set]
      · rw [hmod]
        intro e he
        obtain ⟨j, hj⟩ := List.getElem?_of_mem he
        rw [List.getElem?_set] at hj
        by_cases e2 : i = j
        · subst e2
          have hlt := (List.getElem?_eq_some_iff.1 hee).1
          simp at hlt
          simp [hlt] at hj
          subst hj
          exact h3 e0 (List.mem_of_getElem? hee)
        · rw [if_neg e2] at hj
          exact h3 e (List.mem_of_getElem? hj)
      · rw [hmod, List.map_set]
        have : (es.toList.map (·.born)).set i e0.born = es.toList.map (·.born) := by
          apply List.ext_getElem?
          intro j
          rw [List.getElem?_set]
          by_cases e2 : i = j
          · subst e2
            have hlt := (List.getElem?_eq_some_iff.1 hee).1
            simp at hlt
            obtain ⟨_, h9⟩ := Array.getElem?_eq_some_iff.1 hes
            simp [hlt, h9]
          · rw [if_neg e2]
        simpa [this] using h4

theorem map_eraseIdx' {α β : Type} (f : α → β) : ∀ (l : List α) (i : Nat), (l.eraseIdx i).map f = (l.map f).eraseIdx i
  | [], _ => by simp
  | a :: r, 0 => by simp
  | a :: r, i + 1 => by simp [map_eraseIdx' f r i]
/-- 'delete(m, k)'. -/
theorem MapIs.delete {T K E ty : TypeId} {ok : κ → Prop} {tk : TypeId} (h : MapIs ek ev w B l) (law : KeyLaw P K ek ok) (hT : P.underlying T = some (.map K E)) {k : κ} (hk : ok k) (hl : ∀ p ∈ l, ok p.1) :
    ∃ w', (Builtin.delete_ #[T, tk] ty #[.map (some B), ek k]).run P w = .ok (.tuple #[]) w' ∧ MapIs ek ev w' B (adel l k) ∧ w.grownBy w' (some B) ∧ w'.heap.size = w.heap.size := by
  have hn := adel_nodup (k := k) h.nodup
  obtain ⟨es, clock, h1, hf, hc⟩ := h.find law hk hl
  obtain ⟨es', clock', h1', h2, h3, h4, h5⟩ := h
  rw [h1] at h1'
  injection h1' with h1'
  injection h1' with e1 e2
  subst e1 e2
  have hg1 : (#[T, tk] : Array TypeId)[0]? = some T := rfl
  have hg2 : (#[Value.map (some B), ek k] : Array Value)[0]? = some (.map (some B)) := rfl
  have hg3 : (#[Value.map (some B), ek k] : Array Value)[1]? = some (ek k) := rfl
  simp only [Builtin.delete_, hg1, hg2, hg3, Sem.run_bind, run_underlying hT, Result.andThen_ok, MapKept.run_getObj_map h1, hc, hf]
  unfold adel at *
  cases hm : mget l k with
  | none =>
    simp only [Option.map_none]
    refine ⟨setBlock w B (.map es clock), by rw [Sem.run_bind, MapKept.run_setObj_map _ h1]; rfl, ?_, setBlock_grown h1 _, by simp [setBlock]⟩
    exact ⟨_, _, heap_setBlock_same h1 _, h2, h3, h4, h5⟩
  | some x =>
    obtain ⟨i, u⟩ := x
    simp only [Option.map_some]
    refine ⟨setBlock w B (.map (es.eraseIdxIfInBounds i) clock), by rw [Sem.run_bind, MapKept.run_setObj_map _ h1]; rfl, ?_, setBlock_grown h1 _, by simp [setBlock]⟩
    have he : (es.eraseIdxIfInBounds i).toList = es.toList.eraseIdx i := by simp
    refine ⟨_, _, heap_setBlock_same h1 _, ?_, ?_, ?_, by simpa [hm] using hn⟩
    · rw [he, map_eraseIdx', h2, map_eraseIdx']
    · rw [he]
      intro e hem
      exact h3 e ((List.eraseIdx_sublist _ _).subset hem)
    · rw [he]
      exact h4.sublist ((List.eraseIdx_sublist _ _).map _)

/-- 'len(m)'. -/
theorem MapIs.size (h : MapIs ek ev w B l) : ∃ es clock, w.heap[B]? = some (.map es clock) ∧ es.size = l.length := by
  obtain ⟨es, clock, h1, h2, _⟩ := h
  refine ⟨es, clock, h1, ?_⟩
  have := congrArg List.length h2
  simpa using this
end
end Go.Proofs.Ytaecjmjdhbjbkaa

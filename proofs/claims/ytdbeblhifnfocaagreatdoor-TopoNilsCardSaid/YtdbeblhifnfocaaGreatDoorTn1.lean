/-
  Texts of a proof, one behind the other (part 2).
-/
import Derived.Laws.BytesString
import Derived.Lib.ConvBytes
import Derived.Test.YtdbeblhifnfocaaGreatDoorTn0
set_option linter.unusedVariables false
set_option linter.unusedSimpArgs false
namespace Go.Proofs.YtdbeblhifnfocaaGreatDoor.Rn
set_option linter.unusedVariables false
open Go.RowKit
open Go.Proofs.YtdbeblhifnfocaaGreatDoor.Ab (TE TTab tlook TabOk TFacts win setW setW_get win_get Sh)

theorem pv_bind {P : Program} {α β : Type} : ∀ (s : Sem α) (f : α → Sem β), pv P (s >>= f) = (pv P s).bind fun a => pv P (f a)
  | .pure a, f => rfl
  | .program k, f => pv_bind (k P) f
  | .mark m k, f => pv_bind k f
  | .load _ _ _, f => rfl
  | .store _ _ _ _, f => rfl
  | .new _ _, f => rfl
  | .shape _ _, f => rfl
  | .freeze _ _ _, f => rfl
  | .frozen _ _, f => rfl
  | .getObj _ _, f => rfl
  | .setObj _ _ _, f => rfl
  | .choose _ _, f => rfl
  | .sys _ _, f => rfl
  | .halt _, f => rfl
theorem pv_bind_some {P : Program} {α β : Type} {s : Sem α} {f : α → Sem β} {b : β} (h : pv P (s >>= f) = some b) : ∃ a, pv P s = some a ∧ pv P (f a) = some b := by
  rw [pv_bind] at h
  cases hs : pv P s with
  | none => rw [hs] at h; cases h
  | some a => rw [hs] at h; exact ⟨a, rfl, h⟩

def SameKeys (E L : List MapEntry) : Prop := E.length = L.length ∧ ∀ (i : Nat) (a b : MapEntry), E[i]? = some a → L[i]? = some b → a.key = b.key
theorem SameKeys.tail {a b : MapEntry} {E L : List MapEntry} (h : SameKeys (a :: E) (b :: L)) : a.key = b.key ∧ SameKeys E L := ⟨h.2 0 a b rfl rfl, by have := h.1; simpa using this, fun i a' b' h1 h2 => h.2 (i + 1) a' b' (by simpa using h1) (by simpa using h2)⟩
def FoundAs (E : List MapEntry) (i : Nat) (r r' : Option (Nat × Value)) : Prop := match r with
  | none => r' = none
  | some p => ∃ m, i ≤ p.1 ∧ E[p.1 - i]? = some m ∧ r' = some (p.1, m.val)
theorem FoundAs.succ {E : List MapEntry} {a : MapEntry} {i : Nat} {r r' : Option (Nat × Value)} (h : FoundAs E (i + 1) r r') : FoundAs (a :: E) i r r' := by
  cases r with
  | none => exact h
  | some p =>
    obtain ⟨m, h1, h2, h3⟩ := h
    refine ⟨m, by omega, ?_, h3⟩
    rw [show p.1 - i = (p.1 - (i + 1)) + 1 by omega, List.getElem?_cons_succ]
    exact h2
theorem findNow_sim {kind : TypeDesc} {kv : Value} : ∀ {E L : List MapEntry} {i : Nat}, SameKeys E L → match Instr.findNow kind kv L i with
    | none => Instr.findNow kind kv E i = none
    | some r => ∃ r', Instr.findNow kind kv E i = some r' ∧ FoundAs E i r r'
  | [], [], i, _ => ⟨none, rfl, rfl⟩
  | [], _ :: _, i, h => by have := h.1; simp at this
  | _ :: _, [], i, h => by have := h.1; simp at this
  | a :: E, b :: L, i, h => by
    obtain ⟨h1, h2⟩ := h.tail
    have ih := findNow_sim (kind := kind) (kv := kv) (i := i + 1) h2
    rw [Instr.findNow, Instr.findNow, h1]
    cases hs : Instr.sameNow kind kv b.key with
    | none => rfl
    | some x =>
      cases x with
      | true => exact ⟨_, rfl, a, Nat.le_refl _, by simp, rfl⟩
      | false =>
        dsimp only
        cases hf : Instr.findNow kind kv L (i + 1) with
        | none => rw [hf] at ih; exact ih
        | some r =>
          rw [hf] at ih
          obtain ⟨r', h3, h4⟩ := ih
          exact ⟨r', h3, h4.succ⟩
theorem findAsking_sim {P : Program} {K : TypeId} {kv : Value} : ∀ {E L : List MapEntry} {i : Nat} {r : Option (Nat × Value)}, SameKeys E L → pv P (Instr.findAsking K kv L i) = some r → ∀ w, ∃ r', (Instr.findAsking K kv E i).run P w = .ok r' w ∧ FoundAs E i r r'
  | [], [], i, r, _, hp, w => by cases hp; exact ⟨none, rfl, rfl⟩
  | [], _ :: _, i, r, h, _, _ => by have := h.1; simp at this
  | _ :: _, [], i, r, h, _, _ => by have := h.1; simp at this
  | a :: E, b :: L, i, r, h, hp, w => by
    obtain ⟨h1, h2⟩ := h.tail
    rw [Instr.findAsking] at hp ⊢
    obtain ⟨x, hx, hp⟩ := pv_bind_some hp
    rw [h1, Sem.run_bind, pv_run hx, Result.andThen_ok]
    cases x with
    | true => cases hp; exact ⟨_, rfl, a, Nat.le_refl _, by simp, rfl⟩
    | false =>
      obtain ⟨r', h3, h4⟩ := findAsking_sim (i := i + 1) h2 hp w
      exact ⟨r', h3, h4.succ⟩
theorem findKey_sim {P : Program} {K : TypeId} {kv : Value} {E L : List MapEntry} {r : Option (Nat × Value)} (h : SameKeys E L) (hp : pv P (Instr.findKey K kv L) = some r) (w : World) : ∃ r', (Instr.findKey K kv E).run P w = .ok r' w ∧ FoundAs E 0 r r' := by
  unfold Instr.findKey at hp ⊢
  obtain ⟨d, hd, hp⟩ := pv_bind_some hp
  rw [Sem.run_bind, pv_run hd, Result.andThen_ok]
  have hs := findNow_sim (kind := d) (kv := kv) (i := 0) h
  cases hf : Instr.findNow d kv L 0 with
  | none =>
    rw [hf] at hs hp
    dsimp only at hs hp
    rw [hs]
    exact findAsking_sim h hp w
  | some r0 =>
    rw [hf] at hs hp
    cases hp
    obtain ⟨r', h3, h4⟩ := hs
    rw [h3]
    exact ⟨r', rfl, h4⟩
def entsK : List (V × V × Nat) → Option (List MapEntry)
  | [] => some []
  | p :: r => match tv p.1 with
    | some k => match entsK r with
      | some l => some (⟨k, .bool false, p.2.2⟩ :: l)
      | none => none
    | none => none
theorem EntRel.tail {ι : Io} {p : V × V × Nat} {es : List (V × V × Nat)} {E : List MapEntry} (h : EntRel ι (p :: es) E) : ∃ m E', E = m :: E' ∧ (VRel ι p.1 m.key ∧ VRel ι p.2.1 m.val ∧ m.born = p.2.2) ∧ EntRel ι es E' := by
  cases E with
  | nil => have := h.1; simp at this
  | cons m E' => exact ⟨m, E', rfl, h.2 0 p m rfl rfl, by have := h.1; simpa using this, fun i q m' a b => h.2 (i + 1) q m' (by simpa using a) (by simpa using b)⟩
theorem EntRel.cons {ι : Io} {p : V × V × Nat} {es : List (V × V × Nat)} {m : MapEntry} {E : List MapEntry} (h1 : VRel ι p.1 m.key ∧ VRel ι p.2.1 m.val ∧ m.born = p.2.2) (h : EntRel ι es E) : EntRel ι (p :: es) (m :: E) := by
  refine ⟨by simp [h.1], fun i q m' a b => ?_⟩
  cases i with
  | zero => simp at a b; subst a b; exact h1
  | succ i => exact h.2 i q m' (by simpa using a) (by simpa using b)
theorem EntRel.snoc {ι : Io} {p : V × V × Nat} {es : List (V × V × Nat)} {m : MapEntry} {E : List MapEntry} (h1 : VRel ι p.1 m.key ∧ VRel ι p.2.1 m.val ∧ m.born = p.2.2) (h : EntRel ι es E) : EntRel ι (es ++ [p]) (E ++ [m]) := by
  induction es generalizing E with
  | nil =>
    have : E = [] := List.length_eq_zero_iff.1 h.1
    subst this
    exact EntRel.cons h1 ⟨rfl, by simp⟩
  | cons q es ih =>
    obtain ⟨m', E', rfl, h2, h3⟩ := h.tail
    exact EntRel.cons h2 (ih h3)
theorem EntRel.mono {ι ι' : Io} (hl : Io.le ι ι') {es : List (V × V × Nat)} {E : List MapEntry} (h : EntRel ι es E) : EntRel ι' es E := ⟨h.1, fun i p m a b => ⟨(h.2 i p m a b).1.mono hl, (h.2 i p m a b).2.1.mono hl, (h.2 i p m a b).2.2⟩⟩
theorem entsK_rel {ι : Io} {es : List (V × V × Nat)} {E : List MapEntry} {L : List MapEntry} (h : EntRel ι es E) (hl : entsK es = some L) : SameKeys E L := by
  induction es generalizing E L with
  | nil =>
    cases hl
    have : E = [] := List.length_eq_zero_iff.1 h.1
    subst this
    exact ⟨rfl, by simp⟩
  | cons p es ih =>
    obtain ⟨m, E', rfl, h2, h3⟩ := h.tail
    rw [entsK] at hl
    cases hk : tv p.1 with
    | none => rw [hk] at hl; cases hl
    | some k =>
      cases hr : entsK es with
      | none => rw [hk, hr] at hl; cases hl
      | some L' =>
        rw [hk, hr] at hl
        cases hl
        have := ih h3 hr
        refine ⟨by simp [this.1], fun i a b ha hb => ?_⟩
        cases i with
        | zero => simp at ha hb; subst ha hb; exact tv_rel h2.1 _ hk
        | succ i => exact this.2 i a b (by simpa using ha) (by simpa using hb)
theorem EntRel.get {ι : Io} {es : List (V × V × Nat)} {E : List MapEntry} (h : EntRel ι es E) {i : Nat} {m : MapEntry} (hm : E[i]? = some m) : ∃ p, es[i]? = some p ∧ VRel ι p.1 m.key ∧ VRel ι p.2.1 m.val ∧ m.born = p.2.2 := by
  have hlt : i < es.length := by rw [← h.1]; exact (List.getElem?_eq_some_iff.1 hm).1
  exact ⟨es[i], List.getElem?_eq_getElem hlt, h.2 i _ m (List.getElem?_eq_getElem hlt) hm⟩
theorem EntRel.setAt {ι : Io} {es : List (V × V × Nat)} {E : List MapEntry} (h : EntRel ι es E) (i : Nat) {q : V × V × Nat} {m : MapEntry} (hq : VRel ι q.1 m.key ∧ VRel ι q.2.1 m.val ∧ m.born = q.2.2) : EntRel ι (es.set i q) (E.set i m) := by
  refine ⟨by simp [h.1], fun j p m' a b => ?_⟩
  rw [List.getElem?_set] at a b
  split at a
  · rename_i hij
    rw [if_pos hij] at b
    split at a
    · cases a
      rw [if_pos (by rw [h.1]; assumption)] at b
      cases b; exact hq
    · cases a
  · rename_i hij
    rw [if_neg hij] at b
    exact h.2 j p m' a b
theorem EntRel.eraseAt {ι : Io} {es : List (V × V × Nat)} {E : List MapEntry} (h : EntRel ι es E) (i : Nat) : EntRel ι (es.eraseIdx i) (E.eraseIdx i) := by
  induction es generalizing E i with
  | nil =>
    have : E = [] := List.length_eq_zero_iff.1 h.1
    subst this
    exact h
  | cons p es ih =>
    obtain ⟨m, E', rfl, h2, h3⟩ := h.tail
    cases i with
    | zero => exact h3
    | succ i => exact EntRel.cons h2 (ih h3 i)

section
variable {P : Program} {tab : TTab} {o : Oper} {e : Ev} {n : Nat} {h : Hp} {lo : Nat}
def place (P : Program) (K : TypeId) (kv : Value) (chk : Bool) (es : List (V × V × Nat)) : Option (Option Nat) :=
  match pv P (Instr.checkKey chk 10000 K kv) with
  | some () => match entsK es with
    | some L => match pv P (Instr.findKey K kv L) with
      | some r => some (r.map (·.1))
      | none => none
    | none => none
  | none => none
theorem place_run {ι : Io} {K : TypeId} {kv : Value} {chk : Bool} {es : List (V × V × Nat)} {E : Array MapEntry} {r : Option Nat} (h : EntRel ι es E.toList) (hp : place P K kv chk es = some r) (w : World) : (Instr.checkKey chk 10000 K kv).run P w = .ok () w ∧ ∃ r', (Instr.findKey K kv E.toList).run P w = .ok r' w ∧ match r with
    | none => r' = none
    | some i => ∃ m, E[i]? = some m ∧ r' = some (i, m.val) := by
  unfold place at hp
  cases hc : pv P (Instr.checkKey chk 10000 K kv) with
  | none => rw [hc] at hp; cases hp
  | some u =>
    rw [hc] at hp
    cases hl : entsK es with
    | none => rw [hl] at hp; cases hp
    | some L =>
      cases hf : pv P (Instr.findKey K kv L) with
      | none => rw [hl] at hp; dsimp only at hp; rw [hf] at hp; cases hp
      | some q =>
        rw [hl] at hp; dsimp only at hp; rw [hf] at hp
        cases hp
        obtain ⟨r', h1, h2⟩ := findKey_sim (entsK_rel h hl) hf w
        refine ⟨pv_run hc w, r', h1, ?_⟩
        cases q with
        | none => exact h2
        | some p => obtain ⟨m, _, h3, h4⟩ := h2; exact ⟨m, by simpa using h3, h4⟩
def nrm : V → V
  | .sc (.agg C) => .agg (C.toList.map .sc)
  | .sc (.tuple C) => .tup (C.toList.map .sc)
  | v => v
theorem nrm_rel {ι : Io} {v : V} {u : Value} (h : VRel ι v u) : VRel ι (nrm v) u := by
  unfold nrm
  split
  · cases h; exact VRel.agg' (LRel.scs _)
  · cases h; exact VRel.tup' (LRel.scs _)
  · exact h
theorem mp_inv {ι : Io} {id : Nat} {u : Value} (hv : VRel ι (.mp id) u) {r m : Nat} (hi : ι id = some (r, m)) : u = .map (some r) := by
  cases hv with
  | mp _ r' m' h' => rw [hi] at h'; cases h'; rfl
theorem getObj_map {w : World} {r : Nat} {E : Array MapEntry} {clk : Nat} (hE : w.heap[r]? = some (.map E clk)) : (getObj r).run P w = .ok (.map E clk) w := by simp [getObj, Sem.run, hE]
theorem empties {ι : Io} {es : List (V × V × Nat)} {E : Array MapEntry} (h : EntRel ι es E.toList) : E.isEmpty = es.isEmpty := by
  have := h.1
  cases es with
  | nil => have h0 : E = #[] := by simpa using this
           subst h0; rfl
  | cons p r =>
    have h0 : E.size = r.length + 1 := by simpa using this
    simp [Array.isEmpty, h0]
def atV (P : Program) (El : TypeId) (es : List (V × V × Nat)) (r : Option Nat) : Option V := match r with
  | some i => match es[i]? with | some p => some p.2.1 | none => none
  | none => match pv P (zeroValue El) with | some z => some (nrm (.sc z)) | none => none
def entV (P : Program) (El : TypeId) (es : List (V × V × Nat)) (clk : Nat) (r : Option Nat) : Option (V × Nat) := match r with
  | some i => match es[i]? with | some p => some (p.2.1, p.2.2) | none => none
  | none => match pv P (zeroValue El) with | some z => some (nrm (.sc z), clk) | none => none
def delV (es : List (V × V × Nat)) (r : Option Nat) : List (V × V × Nat) := match r with | some i => es.eraseIdx i | none => es
theorem good_lookup {t K El : TypeId} {x y : Operand} {ok : Bool} {te : TE} {id clk : Nat} {es : List (V × V × Nat)} {k : V} {kv : Value} {v : V} {r : Option Nat} (TO : TabOk P tab) (ho : o.op = .lookup t x y ok) (ht : tlook tab t = some te) (hs : te.sh = .mp K El) (hx : ev e x = some (.mp id)) (hb : h.get id = some (.map es clk))
    (hy : ev e y = some k) (hk : tv k = some kv) (hp : place P K kv es.isEmpty es = some r) (hv : atV P El es r = some v) :
    Good P o e n h lo (cond ok (.tup [v, .sc (.bool r.isSome)]) v, n, h, lo) :=
  good_value fun ι a w H E => by
    obtain ⟨d, hd, _, hh⟩ := (TO t te ht).und
    rw [hs] at hh
    cases hh
    obtain ⟨rr, m, hi, EE, hE, hrel⟩ := H.blk _ _ hb
    have e1 := mp_inv (ev_rel E hx) hi
    have e2 := tv_rel (ev_rel E hy) _ hk
    obtain ⟨h1, r', h2, h3⟩ := place_run hrel hp w
    have hem := empties hrel
    have key : ∃ u, VRel ι v u ∧ (Instr.lookup t (.map (some rr)) kv ok).run P w = .ok (if ok then .tuple #[u, .bool r.isSome] else u) w := by
      unfold Instr.lookup
      unfold atV at hv
      simp only [Sem.run_bind, run_underlying hd, Result.andThen_ok, getObj_map hE, Sem.run_pure, hem, h1, h2]
      cases r with
      | some i =>
        obtain ⟨mm, h4, rfl⟩ := h3
        obtain ⟨p, h5, h6, h7, h8⟩ := hrel.get (by simpa using h4)
        simp only [h5] at hv
        cases hv
        exact ⟨mm.val, h7, by simp⟩
      | none =>
        have h3 : r' = none := h3
        subst h3
        dsimp only at hv
        cases hz : pv P (zeroValue El) with
        | none => rw [hz] at hv; cases hv
        | some z =>
          rw [hz] at hv
          cases hv
          exact ⟨z, nrm_rel (.sc z), by simp [pv_run hz w]⟩
    obtain ⟨u, g1, hrun⟩ := key
    cases ok with
    | true =>
      refine ⟨.tuple #[u, .bool r.isSome], VRel.tup' (LRel.cons g1 (LRel.cons (.sc _) .nil)), ?_⟩
      simp only [execOp, ho, e1, e2]
      simp [hrun]
    | false =>
      refine ⟨u, g1, ?_⟩
      simp only [execOp, ho, e1, e2]
      simp [hrun]
theorem good_makeMap {t : TypeId} (ho : o.op = .makeMap t none) : Good P o e n h lo (.mp n, n + 1, h.set n (.map [] 0), lo) :=
  good_new fun ι a w H E h0 => by
    obtain ⟨f1, f2, f3, f4, f5, f6⟩ := alloc_facts w (.map #[] 0)
    exact ⟨.map (some w.heap.size), _, w.alloc (.map #[] 0), 0, by simp [execOp, ho, Instr.makeMap, newObj, Sem.run], f1, f2, f3, f4, f5, f6, fun ι' hle hi => ⟨.mp n _ _ hi, #[], f6, rfl, by simp⟩⟩
theorem setBlock_facts {w : World} {r : Nat} {E : Array MapEntry} {clk : Nat} (hE : w.heap[r]? = some (.map E clk)) (x : Obj) : (setObj r x).run P w = .ok () { w with heap := w.heap.setIfInBounds r x } ∧ ({ w with heap := w.heap.setIfInBounds r x } : World).heap[r]? = some x ∧ (∀ r', r' ≠ r → ({ w with heap := w.heap.setIfInBounds r x } : World).heap[r']? = w.heap[r']?) ∧ w.heap.size ≤ ({ w with heap := w.heap.setIfInBounds r x } : World).heap.size := by
  have hlt : r < w.heap.size := (Array.getElem?_eq_some_iff.1 hE).1
  exact ⟨by simp [setObj, Sem.run, hE], by simp [hlt], fun r' hr => by simp [Array.getElem?_setIfInBounds_ne (Ne.symm hr)], by simp⟩
def putV (es : List (V × V × Nat)) (clk : Nat) (k v : V) (r : Option Nat) : List (V × V × Nat) × Nat := match r with
  | some i => (es.set i (k, v, match es[i]? with | some p => p.2.2 | none => 0), clk)
  | none => (es ++ [(k, v, clk)], clk + 1)
def keyStays (es : List (V × V × Nat)) (kv : Value) (r : Option Nat) : Bool := match r with
  | none => true
  | some i => match es[i]? with
    | some p => match tv p.1 with
      | some k0 => Instr.sameBits 10000 k0 kv
      | none => false
    | none => false
theorem modify_list (E : Array MapEntry) (i : Nat) (g : MapEntry → MapEntry) {m : MapEntry} (h : E[i]? = some m) : (E.modify i g).toList = E.toList.set i (g m) := by
  apply List.ext_getElem?
  intro j
  rw [Array.toList_modify, List.getElem?_modify, List.getElem?_set]
  by_cases hij : i = j
  · subst hij
    obtain ⟨hlt, hm⟩ := Array.getElem?_eq_some_iff.1 h
    simp [hlt, hm]
  · simp [hij]
theorem good_mapUpdate {t K El : TypeId} {x y z : Operand} {te : TE} {id clk : Nat} {es : List (V × V × Nat)} {k v : V} {kv : Value} {r : Option Nat} (TO : TabOk P tab) (ho : o.op = .mapUpdate t x y z ∨ o.op = .insert t x y z) (ht : tlook tab t = some te) (hs : te.sh = .mp K El) (hx : ev e x = some (.mp id)) (hb : h.get id = some (.map es clk))
    (hy : ev e y = some k) (hz : ev e z = some v) (hk : tv k = some kv) (hp : place P K kv false es = some r) (hst : keyStays es kv r = true) :
    Good P o e n h lo (.sc undef, n, h.set id (.map (putV es clk k v r).1 (putV es clk k v r).2), lmin id lo) :=
  good_write hb fun ι a w rr m H E hi hB => by
    obtain ⟨d, hd, _, hh⟩ := (TO t te ht).und
    rw [hs] at hh
    cases hh
    obtain ⟨EE, hE, hrel⟩ := hB
    have e1 := mp_inv (ev_rel E hx) hi
    have e2 := tv_rel (ev_rel E hy) _ hk
    obtain ⟨h1, r', h2, h3⟩ := place_run hrel hp w
    have key : ∃ E', (Instr.mapUpdate t (.map (some rr)) kv (a.eval z)).run P w = .ok () { w with heap := w.heap.setIfInBounds rr (.map E' (putV es clk k v r).2) } ∧ EntRel ι (putV es clk k v r).1 E'.toList := by
      cases r with
      | none =>
        have h3 : r' = none := h3
        subst h3
        refine ⟨EE.push ⟨kv, a.eval z, clk⟩, ?_, ?_⟩
        · obtain ⟨f1, _⟩ := setBlock_facts (P := P) hE (.map (EE.push ⟨kv, a.eval z, clk⟩) (clk + 1))
          simp [Instr.mapUpdate, run_underlying hd, getObj_map hE, h1, h2, f1, putV]
        · rw [Array.toList_push]
          exact EntRel.snoc ⟨by rw [← e2]; exact ev_rel E hy, ev_rel E hz, rfl⟩ hrel
      | some i =>
        obtain ⟨mm, h4, rfl⟩ := h3
        obtain ⟨p, h5, h6, h7, h8⟩ := hrel.get (by simpa using h4)
        simp only [keyStays, h5] at hst
        cases hk0 : tv p.1 with
        | none => rw [hk0] at hst; cases hst
        | some k0 =>
          rw [hk0] at hst
          have e3 := tv_rel h6 _ hk0
          refine ⟨EE.modify i fun q => { q with key := kv, val := a.eval z }, ?_, ?_⟩
          · obtain ⟨f1, _⟩ := setBlock_facts (P := P) hE (.map (EE.modify i fun q => { q with key := kv, val := a.eval z }) clk)
            simp [Instr.mapUpdate, run_underlying hd, getObj_map hE, h1, h2, h4, e3, Instr.keyThatStays, hst, f1, putV]
          · rw [modify_list EE i _ h4]
            simp only [putV, h5]
            exact hrel.setAt i ⟨by rw [← e2]; exact ev_rel E hy, ev_rel E hz, h8⟩
    obtain ⟨E', g1, g2⟩ := key
    obtain ⟨f1, f2, f3, f4⟩ := setBlock_facts (P := P) hE (.map E' (putV es clk k v r).2)
    refine ⟨undef, { w with heap := w.heap.setIfInBounds rr (.map E' (putV es clk k v r).2) }, .inr ⟨rfl, ?_⟩, .sc _, rfl, rfl, rfl, f4, f3, E', f2, g2⟩
    rcases ho with ho | ho <;> (simp only [execOp, ho, e1, e2]; simp [g1])
theorem good_mapEntry {t K El : TypeId} {x y : Operand} {te : TE} {id clk : Nat} {es : List (V × V × Nat)} {k v : V} {kv : Value} {r : Option Nat} {bn : Nat} (TO : TabOk P tab) (ho : o.op = .mapEntry t x y) (ht : tlook tab t = some te) (hs : te.sh = .mp K El) (hx : ev e x = some (.mp id)) (hb : h.get id = some (.map es clk))
    (hy : ev e y = some k) (hk : tv k = some kv) (hp : place P K kv false es = some r) (hst : keyStays es kv r = true) (hv : entV P El es clk r = some (v, bn)) :
    Good P o e n h lo (.tup [v, .sc (.int .i64 (bn : Int))], n, h.set id (.map (putV es clk k v r).1 (putV es clk k v r).2), lmin id lo) :=
  good_write hb fun ι a w rr m H E hi hB => by
    obtain ⟨d, hd, _, hh⟩ := (TO t te ht).und
    rw [hs] at hh
    cases hh
    obtain ⟨EE, hE, hrel⟩ := hB
    have e1 := mp_inv (ev_rel E hx) hi
    have e2 := tv_rel (ev_rel E hy) _ hk
    obtain ⟨h1, r', h2, h3⟩ := place_run hrel hp w
    unfold entV at hv
    have key : ∃ E' u, VRel ι v u ∧ (Instr.mapEntry t (.map (some rr)) kv).run P w = .ok (.tuple #[u, goInt bn]) { w with heap := w.heap.setIfInBounds rr (.map E' (putV es clk k v r).2) } ∧ EntRel ι (putV es clk k v r).1 E'.toList := by
      cases r with
      | none =>
        have h3 : r' = none := h3
        subst h3
        dsimp only at hv
        cases hz : pv P (zeroValue El) with
        | none => rw [hz] at hv; cases hv
        | some z =>
          rw [hz] at hv
          cases hv
          refine ⟨EE.push ⟨kv, z, clk⟩, z, nrm_rel (.sc z), ?_, ?_⟩
          · obtain ⟨f1, _⟩ := setBlock_facts (P := P) hE (.map (EE.push ⟨kv, z, clk⟩) (clk + 1))
            simp [Instr.mapEntry, run_underlying hd, getObj_map hE, h1, h2, pv_run hz, f1, putV]
          · rw [Array.toList_push]
            exact EntRel.snoc ⟨by rw [← e2]; exact ev_rel E hy, nrm_rel (.sc z), rfl⟩ hrel
      | some i =>
        obtain ⟨mm, h4, rfl⟩ := h3
        obtain ⟨p, h5, h6, h7, h8⟩ := hrel.get (by simpa using h4)
        simp only [keyStays, h5] at hst
        simp only [h5] at hv
        cases hv
        cases hk0 : tv p.1 with
        | none => rw [hk0] at hst; cases hst
        | some k0 =>
          rw [hk0] at hst
          have e3 := tv_rel h6 _ hk0
          refine ⟨EE.modify i fun q => { q with key := kv }, mm.val, h7, ?_, ?_⟩
          · obtain ⟨f1, _⟩ := setBlock_facts (P := P) hE (.map (EE.modify i fun q => { q with key := kv }) clk)
            simp [Instr.mapEntry, run_underlying hd, getObj_map hE, h1, h2, h4, e3, Instr.keyThatStays, hst, f1, putV, h8]
          · rw [modify_list EE i _ h4]
            simp only [putV, h5]
            exact hrel.setAt i ⟨by rw [← e2]; exact ev_rel E hy, h7, h8⟩
    obtain ⟨E', u, g0, g1, g2⟩ := key
    obtain ⟨f1, f2, f3, f4⟩ := setBlock_facts (P := P) hE (.map E' (putV es clk k v r).2)
    refine ⟨.tuple #[u, goInt bn], { w with heap := w.heap.setIfInBounds rr (.map E' (putV es clk k v r).2) }, .inl ?_, VRel.tup' (LRel.cons g0 (LRel.cons (.sc _) .nil)), rfl, rfl, rfl, f4, f3, E', f2, g2⟩
    simp only [execOp, ho, e1, e2]; simp [g1]
def stampAt : List (V × V × Nat) → Nat → Nat → Option Nat
  | [], _, _ => none
  | p :: r, b, i => cond (Nat.beq p.2.2 b) (some i) (stampAt r b (i + 1))
theorem stampAt_spec {ι : Io} {es : List (V × V × Nat)} {E : List MapEntry} (h : EntRel ι es E) {b i j : Nat} (hs : stampAt es b i = some j) : i ≤ j ∧ E.findIdx? (fun e => (e.born : Int) == (b : Int)) = some (j - i) ∧ ∃ p, es[j - i]? = some p := by
  induction es generalizing E i with
  | nil => cases hs
  | cons p es ih =>
    obtain ⟨m, E', rfl, h2, h3⟩ := h.tail
    rw [stampAt, beq_dec] at hs
    rw [List.findIdx?_cons]
    by_cases hb : p.2.2 = b
    · rw [decide_eq_true hb] at hs
      cases hs
      refine ⟨Nat.le_refl _, ?_, p, by simp⟩
      rw [if_pos (by rw [h2.2.2, hb]; simp)]
      simp
    · rw [decide_eq_false hb] at hs
      obtain ⟨h4, h5, p', h6⟩ := ih h3 hs
      refine ⟨by omega, ?_, p', by rw [show j - i = (j - (i + 1)) + 1 by omega, List.getElem?_cons_succ]; exact h6⟩
      rw [if_neg (by rw [h2.2.2]; simp; omega), h5]
      simp; omega
theorem good_entryStore {t : TypeId} {x y z : Operand} {id clk b j : Nat} {es : List (V × V × Nat)} {q : IntKind} {v : V} {p : V × V × Nat} (ho : o.op = .entryStore t x y z) (hx : ev e x = some (.mp id)) (hb : h.get id = some (.map es clk)) (hy : ev e y = some (.sc (.int q (b : Int)))) (hz : ev e z = some v)
    (hj : stampAt es b 0 = some j) (hpj : es[j]? = some p) : Good P o e n h lo (.sc undef, n, h.set id (.map (es.set j (p.1, v, p.2.2)) clk), lmin id lo) :=
  good_write hb fun ι a w rr m H E hi hB => by
    obtain ⟨EE, hE, hrel⟩ := hB
    have e1 := mp_inv (ev_rel E hx) hi
    have e2 := tv_rel (ev_rel E hy) _ rfl
    obtain ⟨_, h2, p', h3⟩ := stampAt_spec hrel hj
    rw [Nat.sub_zero] at h2 h3
    rw [hpj] at h3; cases h3
    have hfi : EE.findIdx? (fun e => (e.born : Int) == (b : Int)) = some j := by rw [← h2, ← List.findIdx?_toArray]
    have hlt : j < EE.toList.length := by rw [hrel.1]; exact (List.getElem?_eq_some_iff.1 hpj).1
    obtain ⟨p2, h4, h5⟩ := hrel.get (List.getElem?_eq_getElem hlt)
    rw [hpj] at h4; cases h4
    have hget : EE[j]? = some EE.toList[j] := by rw [← Array.getElem?_toList]; exact List.getElem?_eq_getElem hlt
    obtain ⟨f1, f2, f3, f4⟩ := setBlock_facts (P := P) hE (.map (EE.modify j fun q => { q with val := a.eval z }) clk)
    refine ⟨undef, { w with heap := w.heap.setIfInBounds rr (.map (EE.modify j fun q => { q with val := a.eval z }) clk) }, .inr ⟨rfl, ?_⟩, .sc _, rfl, rfl, rfl, f4, f3, _, f2, ?_⟩
    · simp only [execOp, ho, e1, e2]
      simp [Instr.entryStore, getObj_map hE, asInt, asIntOf, hfi, f1]
    · rw [modify_list EE j _ hget]
      exact hrel.setAt j ⟨h5.1, ev_rel E hz, h5.2.2⟩
theorem good_delete {t tk K El : TypeId} {x y : Operand} {te : TE} {id clk : Nat} {es : List (V × V × Nat)} {k : V} {kv : Value} {r : Option Nat} (TO : TabOk P tab) (ho : o.op = .call { callee := .builtin .delete, args := #[x, y], argTypes := #[t, tk] }) (ht : tlook tab t = some te) (hs : te.sh = .mp K El) (hx : ev e x = some (.mp id)) (hb : h.get id = some (.map es clk))
    (hy : ev e y = some k) (hk : tv k = some kv) (hp : place P K kv es.isEmpty es = some r) : Good P o e n h lo (.sc (.tuple #[]), n, h.set id (.map (delV es r) clk), lmin id lo) :=
  good_write hb fun ι a w rr m H E hi hB => by
    obtain ⟨d, hd, _, hh⟩ := (TO t te ht).und
    rw [hs] at hh
    cases hh
    obtain ⟨EE, hE, hrel⟩ := hB
    have e1 := mp_inv (ev_rel E hx) hi
    have e2 := tv_rel (ev_rel E hy) _ hk
    obtain ⟨h1, r', h2, h3⟩ := place_run hrel hp w
    have hem := empties hrel
    cases r with
    | none =>
      have h3 : r' = none := h3
      subst h3
      obtain ⟨f1, f2, f3, f4⟩ := setBlock_facts (P := P) hE (.map EE clk)
      refine ⟨.tuple #[], { w with heap := w.heap.setIfInBounds rr (.map EE clk) }, .inl ?_, .sc _, rfl, rfl, rfl, f4, f3, _, f2, hrel⟩
      simp only [execOp, ho]
      simp [resolve, invoke, builtin, e1, e2, Builtin.delete_, run_underlying hd, getObj_map hE, hem, h1, h2, f1]
    | some i =>
      obtain ⟨mm, h4, rfl⟩ := h3
      have hlt : i < EE.size := (Array.getElem?_eq_some_iff.1 h4).1
      obtain ⟨f1, f2, f3, f4⟩ := setBlock_facts (P := P) hE (.map (EE.eraseIdxIfInBounds i) clk)
      refine ⟨.tuple #[], { w with heap := w.heap.setIfInBounds rr (.map (EE.eraseIdxIfInBounds i) clk) }, .inl ?_, .sc _, rfl, rfl, rfl, f4, f3, _, f2, ?_⟩
      · simp only [execOp, ho]
        simp [resolve, invoke, builtin, e1, e2, Builtin.delete_, run_underlying hd, getObj_map hE, hem, h1, h2, f1]
      · have : (EE.eraseIdxIfInBounds i).toList = EE.toList.eraseIdx i := by
          simp [Array.eraseIdxIfInBounds, hlt]
        rw [this]
        exact hrel.eraseAt i
end
end Go.Proofs.YtdbeblhifnfocaaGreatDoor.Rn

namespace Go.Proofs.YtdbeblhifnfocaaGreatDoor.Rn
set_option linter.unusedVariables false
open Go.RowKit
open Go.Proofs.YtdbeblhifnfocaaGreatDoor.Ab (TE TTab tlook TabOk TFacts win setW setW_get win_get Sh)

section
variable {P : Program} {tab : TTab} {o : Oper} {e : Ev} {n : Nat} {h : Hp} {lo : Nat}
theorem good_rangeStr {t : TypeId} {x : Operand} {s : ByteArray} (ho : o.op = .range t x) (hd : P.underlying t = some .string) (hx : ev e x = some (.sc (.string s))) : Good P o e n h lo (.ptr n 0, n + 1, h.set n (.sit s 0), lo) :=
  good_new fun ι a w H E h0 => by
    obtain ⟨f1, f2, f3, f4, f5, f6⟩ := alloc_facts w (.stringIter s 0)
    have e1 := tv_rel (ev_rel E hx) _ rfl
    exact ⟨.pointer (some ⟨w.heap.size, 0, none⟩), _, w.alloc (.stringIter s 0), 0, by simp [execOp, ho, e1, Instr.range, run_underlying hd, newObj, Sem.run], f1, f2, f3, f4, f5, f6, fun ι' hle hi => ⟨.ptr n 0 _ _ hi, f6⟩⟩
theorem good_rangeNil {t K El : TypeId} {x : Operand} (ho : o.op = .range t x) (hd : P.underlying t = some (.map K El)) (hx : ev e x = some (.sc (.map none))) : Good P o e n h lo (.ptr n 0, n + 1, h.set n (.mit none 0 [] 0), lo) :=
  good_new fun ι a w H E h0 => by
    obtain ⟨f1, f2, f3, f4, f5, f6⟩ := alloc_facts w (.mapIter none 0 #[] 0)
    have e1 := tv_rel (ev_rel E hx) _ rfl
    exact ⟨.pointer (some ⟨w.heap.size, 0, none⟩), _, w.alloc (.mapIter none 0 #[] 0), 0, by simp [execOp, ho, e1, Instr.range, run_underlying hd, newObj, Sem.run], f1, f2, f3, f4, f5, f6, fun ι' hle hi => ⟨.ptr n 0 _ _ hi, none, f6, rfl⟩⟩
theorem good_rangeMap {t K El : TypeId} {x : Operand} {id clk : Nat} {es : List (V × V × Nat)} (ho : o.op = .range t x) (hd : P.underlying t = some (.map K El)) (hx : ev e x = some (.mp id)) (hb : h.get id = some (.map es clk)) : Good P o e n h lo (.ptr n 0, n + 1, h.set n (.mit (some id) clk [] clk), lo) :=
  good_new fun ι a w H E h0 => by
    obtain ⟨rr, m, hi, EE, hE, hrel⟩ := H.blk _ _ hb
    obtain ⟨f1, f2, f3, f4, f5, f6⟩ := alloc_facts w (.mapIter (some rr) clk #[] clk)
    have e1 := mp_inv (ev_rel E hx) hi
    exact ⟨.pointer (some ⟨w.heap.size, 0, none⟩), _, w.alloc (.mapIter (some rr) clk #[] clk), 0, by simp [execOp, ho, e1, Instr.range, run_underlying hd, getObj_map hE, newObj, Sem.run], f1, f2, f3, f4, f5, f6, fun ι' hle hi' => ⟨.ptr n 0 _ _ hi', some rr, f6, rr, m, hle _ _ hi, rfl⟩⟩
theorem good_nextStr {x : Operand} {id pos : Nat} {s : ByteArray} (ho : o.op = .next x true) (hx : ev e x = some (.ptr id 0)) (hb : h.get id = some (.sit s pos)) (hp : Nat.blt pos s.size = true) :
    Good P o e n h lo (.tup [.sc (.bool true), .sc (.int .i64 (pos : Int)), .sc (.int .i32 (Utf8.decode s pos).1)], n, h.set id (.sit s (pos + (Utf8.decode s pos).2)), lmin id lo) :=
  good_write hb fun ι a w rr m H E hi hB => by
    have hB : w.heap[rr]? = some (.stringIter s pos) := hB
    have hau := ptr_inv (ev_rel E hx) hi
    have hp := blt_lt hp
    have hlt : rr < w.heap.size := (Array.getElem?_eq_some_iff.1 hB).1
    have g1 : (getObj rr).run P w = .ok (.stringIter s pos) w := by simp [getObj, Sem.run, hB]
    have g2 : (setObj rr (.stringIter s (pos + (Utf8.decode s pos).2))).run P w = .ok () { w with heap := w.heap.setIfInBounds rr (.stringIter s (pos + (Utf8.decode s pos).2)) } := by simp [setObj, Sem.run, hB]
    refine ⟨.tuple #[.bool true, goInt pos, .int .i32 (Utf8.decode s pos).1], { w with heap := w.heap.setIfInBounds rr (.stringIter s (pos + (Utf8.decode s pos).2)) }, .inl ?_, VRel.tup' (LRel.cons (.sc _) (LRel.cons (.sc _) (LRel.cons (.sc _) .nil))), rfl, rfl, rfl, by simp, fun r' hr => by simp [Array.getElem?_setIfInBounds_ne (Ne.symm hr)], ?_⟩
    · simp only [execOp, ho, hau]
      simp [Instr.next, g1, hp, g2]
    · show ({ w with heap := w.heap.setIfInBounds rr (.stringIter s (pos + (Utf8.decode s pos).2)) } : World).heap[rr]? = _
      simp [hlt]
theorem good_nextStrEnd {x : Operand} {id pos : Nat} {s : ByteArray} (ho : o.op = .next x true) (hx : ev e x = some (.ptr id 0)) (hb : h.get id = some (.sit s pos)) (hp : Nat.blt pos s.size = false) :
    Good P o e n h lo (.tup [.sc (.bool false)], n, h, lo) :=
  good_value fun ι a w H E => by
    obtain ⟨rr, m, hi, hB⟩ := H.blk _ _ hb
    have hB : w.heap[rr]? = some (.stringIter s pos) := hB
    have hau := ptr_inv (ev_rel E hx) hi
    have hp := blt_ge hp
    have g1 : (getObj rr).run P w = .ok (.stringIter s pos) w := by simp [getObj, Sem.run, hB]
    refine ⟨.tuple #[.bool false], VRel.tup' (LRel.cons (.sc _) .nil), ?_⟩
    simp only [execOp, ho, hau]
    have : ¬ pos < s.size := by omega
    simp [Instr.next, g1, this]
theorem good_nextNil {x : Operand} {id since st : Nat} {seen : List Nat} (ho : o.op = .next x false) (hx : ev e x = some (.ptr id 0)) (hb : h.get id = some (.mit none since seen st)) :
    Good P o e n h lo (.tup [.sc (.bool false)], n, h, lo) :=
  good_value fun ι a w H E => by
    obtain ⟨rr, m, hi, rm, hB, hm⟩ := H.blk _ _ hb
    have hm : rm = none := hm
    subst hm
    have hau := ptr_inv (ev_rel E hx) hi
    have g1 : (getObj rr).run P w = .ok (.mapIter none since seen.toArray st) w := by simp [getObj, Sem.run, hB]
    refine ⟨.tuple #[.bool false], VRel.tup' (LRel.cons (.sc _) .nil), ?_⟩
    simp only [execOp, ho, hau]
    simp [Instr.next, g1]
def leftV (es : List (V × V × Nat)) (seen : List Nat) : List (V × V × Nat) := es.filter fun p => !seen.contains p.2.2
theorem filter_rel {ι : Io} {q : V × V × Nat → Bool} {q' : MapEntry → Bool} : ∀ {es : List (V × V × Nat)} {E : List MapEntry}, EntRel ι es E → (∀ p m, m.born = p.2.2 → q p = q' m) → EntRel ι (es.filter q) (E.filter q')
  | [], E, h, _ => by
    have : E = [] := List.length_eq_zero_iff.1 h.1
    subst this
    exact h
  | p :: es, E, h, hq => by
    obtain ⟨m, E', rfl, h2, h3⟩ := h.tail
    have ih := filter_rel h3 hq
    rw [List.filter_cons, List.filter_cons, hq p m h2.2.2]
    split
    · exact EntRel.cons h2 ih
    · exact ih
theorem all_rel {ι : Io} {q : V × V × Nat → Bool} {q' : MapEntry → Bool} : ∀ {es : List (V × V × Nat)} {E : List MapEntry}, EntRel ι es E → (∀ p m, m.born = p.2.2 → q p = q' m) → E.all q' = es.all q
  | [], E, h, _ => by
    have : E = [] := List.length_eq_zero_iff.1 h.1
    subst this
    rfl
  | p :: es, E, h, hq => by
    obtain ⟨m, E', rfl, h2, h3⟩ := h.tail
    rw [List.all_cons, List.all_cons, hq p m h2.2.2, all_rel h3 hq]
def stepOk (es : List (V × V × Nat)) (seen : List Nat) (last since : Nat) : Bool := !(!seen.isEmpty && !es.isEmpty && es.all fun p => decide (p.2.2 ≥ last)) && (leftV es seen).all fun p => decide (p.2.2 < since)
theorem next_run {ι : Io} {w : World} {rr rm since clk st : Nat} {seen : List Nat} {es : List (V × V × Nat)} {EE : Array MapEntry} (hB : w.heap[rr]? = some (.mapIter (some rm) since seen.toArray st)) (hE : w.heap[rm]? = some (.map EE clk)) (hrel : EntRel ι es EE.toList) (hok : stepOk es seen st since = true) {ty : TypeId} :
    (leftV es seen = [] → (Instr.next (.pointer (some ⟨rr, 0, none⟩)) false ty).run P w = .ok (.tuple #[.bool false]) w) ∧
    (∀ p, leftV es seen = [p] → ∃ m : MapEntry, (VRel ι p.1 m.key ∧ VRel ι p.2.1 m.val ∧ m.born = p.2.2) ∧ (Instr.next (.pointer (some ⟨rr, 0, none⟩)) false ty).run P w = .ok (.tuple #[.bool true, m.key, m.val]) { w with heap := w.heap.setIfInBounds rr (.mapIter (some rm) since (seen ++ [p.2.2]).toArray clk) }) := by
  have g1 : (getObj rr).run P w = .ok (.mapIter (some rm) since seen.toArray st) w := by simp [getObj, Sem.run, hB]
  have g2 : (getObj rm).run P w = .ok (.map EE clk) w := getObj_map hE
  unfold stepOk at hok
  simp only [Bool.and_eq_true] at hok
  have hall := all_rel (q := fun p => decide (p.2.2 ≥ st)) (q' := fun m => decide (m.born ≥ st)) hrel fun p m hm => by rw [hm]
  have hem : EE.isEmpty = es.isEmpty := empties hrel
  have hno : (!seen.toArray.isEmpty && !EE.isEmpty && EE.all (·.born ≥ st)) = false := by
    have e1 : EE.all (fun m => decide (m.born ≥ st)) = es.all fun p => decide (p.2.2 ≥ st) := by rw [← hall, Array.all_toList]
    have e2 : seen.toArray.isEmpty = seen.isEmpty := by cases seen <;> rfl
    rw [e1, hem, e2]
    simpa only [Bool.not_eq_true'] using hok.1
  have hl := filter_rel (q := fun p => !seen.contains p.2.2) (q' := fun m => !seen.toArray.contains m.born) hrel fun p m hm => by rw [hm]; simp
  have hl : EntRel ι (leftV es seen) (EE.filter fun m => !seen.toArray.contains m.born).toList := by rw [Array.toList_filter]; exact hl
  have hl2 := filter_rel (q := fun p => decide (p.2.2 < since)) (q' := fun m => decide (m.born < since)) hl fun p m hm => by rw [hm]
  have hl3 := filter_rel (q := fun p => decide (p.2.2 ≥ since)) (q' := fun m => decide (m.born ≥ since)) hl fun p m hm => by rw [hm]
  have h4 : (leftV es seen).filter (fun p => decide (p.2.2 < since)) = leftV es seen := List.filter_eq_self.2 fun p hp => by have := List.all_eq_true.1 hok.2 p hp; simpa using this
  have h5 : (leftV es seen).filter (fun p => decide (p.2.2 ≥ since)) = [] := List.filter_eq_nil_iff.2 fun p hp => by have := List.all_eq_true.1 hok.2 p hp; simp at this ⊢; omega
  rw [h4] at hl2
  rw [h5] at hl3
  have hnew : ((EE.filter fun m => !seen.toArray.contains m.born).filter fun m => decide (m.born ≥ since)) = #[] := by
    apply Array.toList_inj.1
    rw [Array.toList_filter]
    exact List.length_eq_zero_iff.1 hl3.1
  constructor
  · intro h0
    rw [h0] at hl2
    have hold : ((EE.filter fun m => !seen.toArray.contains m.born).filter fun m => decide (m.born < since)) = #[] := by
      apply Array.toList_inj.1
      rw [Array.toList_filter]
      exact List.length_eq_zero_iff.1 hl2.1
    simp only [Instr.next, Sem.run_bind, g1, Result.andThen_ok, g2]
    simp only [hno, hold, hnew]
    simp [Question.forced]
  · intro p hp
    rw [hp] at hl2
    obtain ⟨m, E', h6, h7, h8⟩ := hl2.tail
    have : E' = [] := List.length_eq_zero_iff.1 h8.1
    subst this
    have hold : ((EE.filter fun m => !seen.toArray.contains m.born).filter fun m => decide (m.born < since)) = #[m] := by
      apply Array.toList_inj.1
      rw [Array.toList_filter, h6]
    refine ⟨m, h7, ?_⟩
    have g3 : (setObj rr (.mapIter (some rm) since (seen ++ [p.2.2]).toArray clk)).run P w = .ok () { w with heap := w.heap.setIfInBounds rr (.mapIter (some rm) since (seen ++ [p.2.2]).toArray clk) } := by simp only [setObj, Sem.run, hB]
    simp only [Instr.next, Sem.run_bind, g1, Result.andThen_ok, g2]
    simp only [hno, hold, hnew]
    simp [Question.forced, g3, h7.2.2]
theorem good_nextMapEnd {x : Operand} {id since st mid clk : Nat} {seen : List Nat} {es : List (V × V × Nat)} (ho : o.op = .next x false) (hx : ev e x = some (.ptr id 0)) (hb : h.get id = some (.mit (some mid) since seen st)) (hm : h.get mid = some (.map es clk)) (hok : stepOk es seen st since = true) (hl : leftV es seen = []) :
    Good P o e n h lo (.tup [.sc (.bool false)], n, h, lo) :=
  good_value fun ι a w H E => by
    obtain ⟨rr, m, hi, rm, hB, r2, m2, hi2, rfl⟩ := H.blk _ _ hb
    obtain ⟨rr2, m3, hi3, EE, hE, hrel⟩ := H.blk _ _ hm
    rw [hi2] at hi3
    cases hi3
    have hau := ptr_inv (ev_rel E hx) hi
    refine ⟨.tuple #[.bool false], VRel.tup' (LRel.cons (.sc _) .nil), ?_⟩
    have := (next_run (P := P) hB hE hrel hok (ty := o.type)).1 hl
    simp only [execOp, ho, hau]
    simp [this]
theorem good_nextMap {x : Operand} {id since st mid clk : Nat} {seen : List Nat} {es : List (V × V × Nat)} {p : V × V × Nat} (ho : o.op = .next x false) (hx : ev e x = some (.ptr id 0)) (hb : h.get id = some (.mit (some mid) since seen st)) (hm : h.get mid = some (.map es clk)) (hok : stepOk es seen st since = true) (hl : leftV es seen = [p]) :
    Good P o e n h lo (.tup [.sc (.bool true), p.1, p.2.1], n, h.set id (.mit (some mid) since (seen ++ [p.2.2]) clk), lmin id lo) :=
  good_write hb fun ι a w rr m H E hi hB => by
    obtain ⟨rm, hB, r2, m2, hi2, rfl⟩ := hB
    obtain ⟨rr2, m3, hi3, EE, hE, hrel⟩ := H.blk _ _ hm
    rw [hi2] at hi3
    cases hi3
    have hau := ptr_inv (ev_rel E hx) hi
    have hlt : rr < w.heap.size := (Array.getElem?_eq_some_iff.1 hB).1
    obtain ⟨mm, h1, h2⟩ := (next_run (P := P) hB hE hrel hok (ty := o.type)).2 p hl
    refine ⟨.tuple #[.bool true, mm.key, mm.val], { w with heap := w.heap.setIfInBounds rr (.mapIter (some r2) since (seen ++ [p.2.2]).toArray clk) }, .inl ?_, VRel.tup' (LRel.cons (.sc _) (LRel.cons h1.1 (LRel.cons h1.2.1 .nil))), rfl, rfl, rfl, by simp, fun r' hr => by simp [Array.getElem?_setIfInBounds_ne (Ne.symm hr)], some r2, ?_, r2, m2, hi2, rfl⟩
    · simp only [execOp, ho, hau]
      simp [h2]
    · simp [hlt]

theorem good_copy {t tx el : TypeId} {x y : Operand} {te te' : TE} {id off len k m : Nat} {cap : Option Nat} {cs : List V} {more : Bool} {v : V} {W : List V} (TO : TabOk P tab) (ho : o.op = .call { callee := .builtin .copy, args := #[x, y], argTypes := #[t, tx] }) (ht : tlook tab t = some te) (hs : te.sh = .sl el) (hel : tlook tab el = some te') (hk : Nat.beq k te'.size = true)
    (hx : ev e x = some (.sl id off len k cap)) (hb : h.get id = some (.cells cs more)) (hy : ev e y = some v) (hsrc : srcV h te'.size v = some (m, W)) (hf : srcFits v (P.underlying tx) = true) (hwl : Nat.beq W.length (m * te'.size) = true) (hfit : Nat.ble (off + len * te'.size) cs.length = true) :
    Good P o e n h lo (.sc (.int .i64 ((Nat.min m len : Nat) : Int)), n, h.set id (.cells (setW cs off (W.take (Nat.min m len * te'.size))) more), lmin id lo) :=
  good_write hb fun ι a w rr mm H E hi hB => by
    have hk := Nat.eq_of_beq_eq_true hk
    subst hk
    have hwl := Nat.eq_of_beq_eq_true hwl
    have hfit := Nat.le_of_ble_eq_true hfit
    obtain ⟨c, h1, _, _⟩ := sl_inv (ev_rel E hx) hi
    obtain ⟨news, h3, S⟩ := src_good H (ev_rel E hy) hsrc hf
    obtain ⟨C, tt, fz, hC, hfz, hsz, hle2, hmo, hl⟩ := hB
    have hu := (TO t te ht).slice hs
    have hmin : Nat.min m len * te'.size ≤ m * te'.size := Nat.mul_le_mul_right _ (Nat.min_le_left _ _)
    have hmin2 : Nat.min m len * te'.size ≤ len * te'.size := Nat.mul_le_mul_right _ (Nat.min_le_right _ _)
    have hnl : (news.take (Nat.min m len * te'.size)).length = Nat.min m len * te'.size := by rw [List.length_take, h3.1, hwl]; omega
    have hrelT := h3.take (Nat.min m len * te'.size)
    have hWl : (W.take (Nat.min m len * te'.size)).length = Nat.min m len * te'.size := by rw [← hrelT.1, hnl]
    have hone : ∀ u ∈ news.take (Nat.min m len * te'.size), u.oneCell' = true := fun u hu => S.one u (List.mem_of_mem_take hu)
    have hst := run_storeV (P := P) (off := off) hC hfz hsz (news.take (Nat.min m len * te'.size)) (by rw [hnl]; omega) hone
    obtain ⟨g1, g2, g3, g4, g5, g6⟩ := setCells_spec (news.take (Nat.min m len * te'.size)) off C w hC (by rw [hnl]; omega)
    -- the first cells of the source
    have hfc : (Builtin.firstCells te'.size (Nat.min m len) (a.eval y)).run P w = .ok (news.take (Nat.min m len * te'.size)).toArray w := by
      have hyv := ev_rel E hy
      unfold srcV at hsrc
      split at hsrc
      · rename_i id2 off2 len2 k2 cap2
        split at hsrc
        · rename_i cs2 more2 hb2
          cases hc : Nat.beq k2 te'.size && Nat.beq (win cs2 off2 (len2 * k2)).length (len2 * k2) && (win cs2 off2 (len2 * k2)).all one with
          | false => rw [hc] at hsrc; cases hsrc
          | true =>
            rw [hc, cond_true] at hsrc
            cases hsrc
            simp only [Bool.and_eq_true] at hc
            have hk2 := Nat.eq_of_beq_eq_true hc.1.1
            subst hk2
            obtain ⟨r2, m2, hi2, hB2⟩ := H.blk _ _ hb2
            obtain ⟨c2, e2, _, _⟩ := sl_inv hyv hi2
            have hsl : news = (Builtin.firstCells te'.size m (.slice (some ⟨r2, off2, none⟩) m c2) |>.run P w |> fun r => match r with | .ok x _ => x.toList | _ => []) := by
              have := S.cells
              rw [e2] at this
              rw [this]
            obtain ⟨vs, q1, q2, q3⟩ := cells_win hB2 (Nat.eq_of_beq_eq_true hc.1.2)
            have hfull := run_firstCells_some (P := P) w te'.size m ⟨r2, off2, none⟩ m c2 vs q1 (fun j u hj => by rw [Addr.add_mid]; exact q3 j u hj)
            rw [hfull] at hsl
            have hsl : news = vs := by simpa using hsl
            subst hsl
            rw [e2]
            exact run_firstCells_some (P := P) w te'.size (Nat.min m len) ⟨r2, off2, none⟩ m c2 _ hnl (fun j u hj => by
              rw [Addr.add_mid]
              rw [List.getElem?_take] at hj
              split at hj
              · exact q3 j u hj
              · cases hj)
        · cases hsrc
      · cases hsrc
        have h0 : Nat.min 0 len = 0 := Nat.zero_min _
        obtain ⟨uy, huy⟩ : ∃ uy, a.eval y = uy := ⟨_, rfl⟩
        rw [huy] at hyv ⊢
        cases hyv
        rw [h0]
        simp [Builtin.firstCells, loadCells, loadCellsFrom]
      · cases hsrc
        have h0 : Nat.min 0 len = 0 := Nat.zero_min _
        have e2 := tv_rel hyv _ rfl
        rw [h0, e2]
        simp [Builtin.firstCells]
      · rename_i s
        cases hc : Nat.beq te'.size 1 with
        | false => rw [hc] at hsrc; cases hsrc
        | true =>
          rw [hc, cond_true] at hsrc
          cases hsrc
          have hsz1 := Nat.eq_of_beq_eq_true hc
          have e2 := tv_rel hyv _ rfl
          have := S.cells
          rw [e2] at this ⊢
          have hnews : news = byteCells s := by
            have h9 : (Builtin.firstCells te'.size s.size (.string s)).run P w = .ok (byteCells s).toArray w := by
              have := firstCells_string (P := P) s w
              simpa [Builtin.firstCells] using this
            rw [h9] at this
            simpa using this.symm
          rw [hnews, hsz1, Nat.mul_one]
          simp [Builtin.firstCells, byteCells]
          apply Array.ext'
          simp [List.map_take]
      · cases hsrc
    refine ⟨.int .i64 ((Nat.min m len : Nat) : Int), w.setCells rr off (news.take (Nat.min m len * te'.size)), .inl ?_, .sc _, g4, g5, g6, by rw [g3]; exact Nat.le_refl _, g2, brel_set hC hfz hsz hle2 hmo hl hrelT (by omega)⟩
    simp only [execOp, ho]
    simp [resolve, invoke, builtin, h1, Builtin.copy_, run_underlying hu, (TO el te' hel).size, S.len, hfc, hst, goInt]
end
end Go.Proofs.YtdbeblhifnfocaaGreatDoor.Rn

namespace Go.Proofs.YtdbeblhifnfocaaGreatDoor.Rn
set_option linter.unusedVariables false
open Go.RowKit
open Go.Proofs.YtdbeblhifnfocaaGreatDoor.Ab (TE TTab tlook TabOk TFacts win setW setW_get win_get Sh)

def u8s : List V → Option (List Int)
  | [] => some []
  | .sc (.int .u8 n) :: r => match u8s r with
    | some l => some (n :: l)
    | none => none
  | _ :: _ => none
theorem u8s_get : ∀ {l : List V} {ns : List Int}, u8s l = some ns → ∀ (j : Nat) (v : Value), (ns.map (Value.int .u8))[j]? = some v → l[j]? = some (.sc v)
  | [], ns, h, j, v, hj => by cases h; simp at hj
  | c :: l, ns, h, j, v, hj => by
    unfold u8s at h
    split at h
    · rename_i h1; cases h1
    · rename_i n r h1
      cases h1
      split at h
      · rename_i m hm
        cases h
        cases j with
        | zero => simp at hj ⊢; rw [hj]
        | succ j => simp at hj ⊢; exact u8s_get hm j v (by simpa using hj)
      · cases h
    · cases h
def strOf (ns : List Int) : ByteArray := ns.foldl (fun r n => r.push (UInt8.ofNat n.toNat)) ByteArray.empty
section
variable {P : Program} {e : Ev} {n : Nat} {h : Hp} {lo : Nat} {o : Oper}
theorem good_convBS {src dst el : TypeId} {x : Operand} {id off len k : Nat} {cap : Option Nat} {cs : List V} {more : Bool} {ns : List Int} (ho : o.op = .convert src dst x) (hs : P.underlying src = some (.slice el)) (hd : P.underlying dst = some .string) (he : P.underlying el = some (.int .u8)) (hx : ev e x = some (.sl id off len k cap))
    (hb : h.get id = some (.cells cs more)) (hn : u8s (win cs off len) = some ns) (hl : Nat.beq ns.length len = true) : Good P o e n h lo (.sc (.string (strOf ns)), n, h, lo) :=
  good_value fun ι a w H E => by
    refine ⟨.string (strOf ns), .sc _, ?_⟩
    obtain ⟨r, m, hi, C, tt, fz, hC, hfz, hsz, hle, hmo, hlr⟩ := H.blk id _ hb
    have hv := ev_rel E hx
    generalize hau : a.eval x = u at hv
    obtain ⟨c, rfl⟩ : ∃ c, u = .slice (some ⟨r, off, none⟩) len c := by
      cases hv with
      | sl _ _ _ _ c r' m' h' => rw [hi] at h'; cases h'; exact ⟨c, rfl⟩
      | slu _ _ _ _ c r' m' h' _ _ => rw [hi] at h'; cases h'; exact ⟨c, rfl⟩
    have hcell : ∀ (j : Nat) (v : Value), (ns.map (Value.int .u8))[j]? = some v → w.cell? (Addr.add ⟨r, off, none⟩ j) = some v := fun j v hj => by
      have h1 := win_get rfl (u8s_get hn j v hj)
      have hlt := (List.getElem?_eq_some_iff.1 h1).1
      obtain ⟨y, h2⟩ : ∃ y, (C.toList.take cs.length)[off + j]? = some y := ⟨_, List.getElem?_eq_getElem (by rw [hlr.1]; exact hlt)⟩
      have h3 := hlr.2 _ _ _ h1 h2
      have hy := tv_rel h3 v rfl
      subst hy
      rw [List.getElem?_take, if_pos hlt] at h2
      rw [Addr.add_mid]
      simp [World.cell?, hC]
      simpa using h2
    have hrun := run_loadCells_list (P := P) (w := w) ⟨r, off, none⟩ (ns.map (Value.int .u8)) hcell
    rw [List.length_map, Nat.eq_of_beq_eq_true hl] at hrun
    have h5 := run_bytesToString (P := P) w ⟨r, off, none⟩ len c ns hrun
    simp only [execOp, ho, hau]
    have h6 := run_convert_bytes_string (P := P) w src dst el (some ⟨r, off, none⟩) len c hs he hd
    rw [h5] at h6
    simp [h6, strOf]
end
end Go.Proofs.YtdbeblhifnfocaaGreatDoor.Rn

namespace Go.Proofs.YtdbeblhifnfocaaGreatDoor.Rn
set_option linter.unusedVariables false
open Go.RowKit
open Go.Proofs.YtdbeblhifnfocaaGreatDoor.Ab (TE TTab tlook TabOk TFacts win setW setW_get win_get Sh)
def bytesV (s : ByteArray) : List Value := s.data.toList.map fun b => Value.int .u8 b.toNat
section
variable {P : Program} {e : Ev} {n : Nat} {h : Hp} {lo : Nat} {o : Oper}
theorem good_convSB {src dst el : TypeId} {x : Operand} {s : ByteArray} {u : TypeDesc} (ho : o.op = .convert src dst x) (hs : P.underlying src = some u) (hd : P.underlying dst = some (.slice el)) (he : P.underlying el = some (.int .u8)) (hx : ev e x = some (.sc (.string s))) :
    Good P o e n h lo (.sl n 0 s.size 1 none, n + 1, h.set n (.cells ((bytesV s).map .sc) true), lo) :=
  good_new fun ι a w H E h0 => by
    have e1 := tv_rel (ev_rel E hx) _ rfl
    have hrun := Go.Lib.run_convert_string_bytes (P := P) w src dst el s hs hd he
    have hcap : s.size ≤ grownCap w s.size 0 el := grownCap_ge w s.size 0 el
    have hbl : (bytesV s).length = s.size := by unfold bytesV; rw [List.length_map, Array.length_toList]; rfl
    have hcs : (Go.Lib.bytesCells w el s).size = grownCap w s.size 0 el := by
      simp [Go.Lib.bytesCells]
      have : s.data.size = s.size := rfl
      omega
    refine ⟨.slice (some ⟨w.heap.size, 0, none⟩) s.size (grownCap w s.size 0 el), _, Go.Lib.bytesWorld w el s, grownCap w s.size 0 el, by simp only [execOp, ho, e1]; simp [hrun], rfl, rfl, rfl, by rw [Go.Lib.bytesWorld_size]; omega, fun r hr => Go.Lib.bytesWorld_at_old w el s r hr, Go.Lib.bytesWorld_at_new w el s, fun ι' hle hi => ⟨.slu n 0 s.size 1 _ _ _ hi (by omega) hcap, Go.Lib.bytesCells w el s, el, _, Go.Lib.bytesWorld_at_new w el s, fun j hj hj2 => by dsimp only at hj2; omega, hcs, by rw [List.length_map, hbl]; exact hcap, (fun hh => by cases hh), ?_⟩⟩
    have ht : (Go.Lib.bytesCells w el s).toList.take ((bytesV s).map V.sc).length = bytesV s := by
      rw [List.length_map]
      show List.take (bytesV s).length ((s.data.map fun b : UInt8 => Value.int .u8 b.toNat) ++ Array.replicate (grownCap w s.size 0 el - s.size) (Value.int .u8 0)).toList = _
      rw [Array.toList_append, Array.toList_map]
      exact List.take_left
    rw [ht]
    exact LRel.scs _
end
end Go.Proofs.YtdbeblhifnfocaaGreatDoor.Rn

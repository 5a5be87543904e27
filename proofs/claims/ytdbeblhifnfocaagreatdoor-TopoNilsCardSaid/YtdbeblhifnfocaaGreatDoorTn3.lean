/-
  Texts of a proof, one behind the other (part 4).
-/
import Derived.Scope
import Derived.RangeFuncRecord
import Derived.RangeFuncIn
import Derived.Orders
import Derived.Test.YtdbeblhifnfocaaGreatDoorTn2
set_option linter.unusedVariables false
set_option linter.unusedSimpArgs false
namespace Go.Proofs.YtdbeblhifnfocaaGreatDoor.Rn
set_option linter.unusedVariables false
open Go.RowKit
open Go.Proofs.YtdbeblhifnfocaaGreatDoor.Ab (TE TTab tlook TabOk TFacts win setW setW_get win_get Sh)

inductive X where
  | normal
  | exit (id : Nat)
  | goto (l : Nat)
  | ret
def X.to : X → Exit
  | .normal => .normal
  | .exit id => .exit id
  | .goto l => .goto l
  | .ret => .ret
structure St where
  e : Ev
  n : Nat
  h : Hp
  lo : Nat
abbrev RC := Option (X × St)

def putE (nt : Nat) (d : Option Tmp) (v : V) (e : Ev) : Option Ev := match d with
  | some t => match Nat.blt t nt with
    | true => some (e.set t v)
    | false => none
  | none => some e
def wantV (ops : Array Oper) (e : Ev) (o : Oper) : Option Bool := match o.guard with
  | none => some true
  | some (j, b) => match ((ops[j]?).bind (·.dst)).bind e.get with
    | some (.sc (.bool c)) => some (c == b)
    | some (.sc (.tuple _)) => some false
    | _ => none
structure Marks (z : Nat) (ι : Io) (g : Gm) (w : World) (ds : List Deferred) : Prop where
  all : ∀ d ∈ ds, ∃ r, d = { target := .collected r, args := #[] } ∧ z ≤ r ∧ w.heap[r]? = some (.deferred (some [])) ∧ ∀ id b m, g id = some b → ι id ≠ some (r, m)
  apart : ds.Pairwise fun a b => a ≠ b
  low : z ≤ w.heap.size
theorem Marks.nil {z : Nat} {ι : Io} {g : Gm} {w : World} (h : z ≤ w.heap.size) : Marks z ι g w [] := ⟨by simp, .nil, h⟩
theorem Marks.ex {z n n' : Nat} {ι ι' : Io} {g g' : Gm} {w w' : World} {ds : List Deferred} (M : Marks z ι g w ds) (E : Ex n n' ι g w ι' g' w') : Marks z ι' g' w' ds :=
  ⟨fun d hd => by
    obtain ⟨r, h1, h2, h3, h4⟩ := M.all d hd
    have hlt : r < w.heap.size := (Array.getElem?_eq_some_iff.1 h3).1
    refine ⟨r, h1, h2, by rw [E.mem r hlt h4]; exact h3, fun id b m hb hi => ?_⟩
    obtain ⟨j, b', m', h5, h6⟩ := E.old id b r m hb hi hlt
    exact h4 j b' m' h5 h6, M.apart, Nat.le_trans M.low E.size⟩
structure Rl (z : Nat) (ι : Io) (nt : Nat) (e : Ev) (g : Gm) (a : Act) (w : World) : Prop where
  heap : HRel ι g w
  env : ERel ι e a
  defers : Marks z ι g w a.defers
  size : nt ≤ a.tmps.size
section
variable {P : Program} {tab : TTab} {ops : Array Oper} {o : Oper} {e : Ev} {n : Nat} {h : Hp} {lo nt : Nat}
theorem wantV_rel {ι : Io} {a : Act} (E : ERel ι e a) {b : Bool} (hw : wantV ops e o = some b) : Region.wanted o (yielded ops a.tmps) = b := by
  unfold wantV at hw
  unfold Region.wanted
  split at hw
  · rename_i hg; cases hw; rw [hg]
  · rename_i j want hg
    rw [hg]
    show (yielded ops a.tmps j == some want) = b
    unfold yielded
    cases hd : (ops[j]?).bind (·.dst) with
    | none => simp [hd] at hw
    | some t =>
      simp only [hd, Option.bind_some] at hw
      split at hw
      · rename_i c hl
        obtain ⟨u, hu, hv⟩ := E t _ hl
        cases hw
        cases hv
        simp [hu]
      · rename_i c hl
        obtain ⟨u, hu, hv⟩ := E t _ hl
        cases hw
        cases hv
        simp [hu]
      · cases hw
theorem putE_rel {z : Nat} {ι : Io} {g : Gm} {a : Act} {w : World} (R : Rl z ι nt e g a w) {d : Option Tmp} {v : V} {u : Value} {e' : Ev} (hv : VRel ι v u) (hp : putE nt d v e = some e') : Rl z ι nt e' g (a.put d u) w := by
  unfold putE at hp
  refine ⟨R.heap, ?_, by rw [Ab.put_defers]; exact R.defers, by rw [Ab.put_size]; exact R.size⟩
  split at hp
  · rename_i t
    split at hp
    · rename_i ht; cases hp; exact R.env.put (Nat.lt_of_lt_of_le (blt_lt ht) R.size) hv
    · cases hp
  · cases hp; exact R.env

variable (P tab) in
def rops (call : FuncId → List V → Nat → Hp → Nat → R) (known : FuncId → Bool) (ops : Array Oper) (nt : Nat) : List Oper → St → Option St
  | [], s => some s
  | o :: rest, s => match wantV ops s.e o with
    | some true => match rop P tab s.e s.n s.h s.lo o call known with
      | some r => match putE nt o.dst r.1 s.e with
        | some e' => rops call known ops nt rest ⟨e', r.2.1, r.2.2.1, r.2.2.2⟩
        | none => none
      | none => none
    | some false => match putE nt o.dst (.sc undef) s.e with
      | some e' => rops call known ops nt rest ⟨e', s.n, s.h, s.lo⟩
      | none => none
    | none => none
def CPost (z nt : Nat) (x : X) (s s' : St) (ι : Io) (w : World) : Exit → Act → World → Prop := fun x' a' w' => x' = x.to ∧ ∃ ι', Rl z ι' nt s'.e s'.h.get a' w' ∧ Ex s.n s'.n ι s.h.get w ι' s'.h.get w'
abbrev SynS (s s' : St) : Prop := Syn s.n s.h s.lo s'.n s'.h s'.lo
theorem rops_good {call : FuncId → List V → Nat → Hp → Nat → R} {known : FuncId → Bool} (TO : TabOk P tab) (CO : CallOk P call) : ∀ (l : List Oper) (s s' : St), rops P tab call known ops nt l s = some s' →
    SynS s s' ∧ ∀ {z : Nat} ι a w, Rl z ι nt s.e s.h.get a w → Free ι s.n s'.n → ∀ Q : Exit → Act → World → Prop, (∀ x a' w', CPost z nt .normal s s' ι w x a' w' → Q x a' w') → wpList P ops Q l a w
  | [], s, s', hr => by
    cases hr
    exact ⟨Syn.refl _ _ _, fun ι a w R hf Q hQ => wpList_nil (hQ _ _ _ ⟨rfl, ι, R, Ex.refl _ _ _ _⟩)⟩
  | o :: rest, s, s', hr => by
    rw [rops] at hr
    split at hr
    · rename_i hw
      split at hr
      · rename_i r hop
        split at hr
        · rename_i e' hp
          obtain ⟨g1, g2⟩ := rop_good TO CO hop
          obtain ⟨h1, h2⟩ := rops_good TO CO rest _ s' hr
          refine ⟨g1.trans h1, fun ι a w R hf Q hQ => wpList_step fun K hK => ?_⟩
          rw [wantV_rel R.env hw, if_pos rfl]
          have hle : r.2.1 ≤ s'.n := h1.le
          refine g2 ι a w ⟨R.heap, R.env, hf.left hle⟩ K _ fun ι' u w' hv hH hE => hK _ _ ?_
          have hio := hE.io (hf.left hle)
          have R' : Rl _ ι' nt s.e r.2.2.1.get a w' := ⟨hH, R.env.mono hio, R.defers.ex hE, R.size⟩
          refine h2 ι' _ w' (putE_rel R' hv hp) (hf.right hE) Q fun x a' w2 ⟨hx, ι2, R2, E2⟩ => hQ x a' w2 ⟨hx, ι2, R2, hE.trans E2⟩
        · cases hr
      · cases hr
    · rename_i hw
      split at hr
      · rename_i e' hp
        obtain ⟨h1, h2⟩ := rops_good TO CO rest _ s' hr
        refine ⟨h1, fun ι a w R hf Q hQ => wpList_step fun K hK => ?_⟩
        rw [wantV_rel R.env hw]
        exact hK _ _ (h2 ι _ w (putE_rel R (.sc _) hp) hf Q hQ)
      · cases hr
    · cases hr

def LoopWp (P : Program) (c : Code) (Q : Exit → Act → World → Prop) (a : Act) (w : World) : Prop :=
  ∀ (b : Frame) (k : List Item) (cs : List Frame), ∃ x a' w', Q x a' w' ∧ Arrives P (lone (b.at a (.inLoop c :: k)) cs w) b k cs x a' w'
theorem loop_unroll {c : Code} {Q : Exit → Act → World → Prop} {a : Act} {w : World} (H : c.wp P (Exit.then (LoopWp P c Q) Q) a w) : (Code.loop c).wp P Q a w ∧ LoopWp P c Q a w := by
  have key : ∀ (b : Frame) (k : List Item) (cs : List Frame), ∃ x a' w', Q x a' w' ∧ Arrives P (lone (b.at a (.code c :: .inLoop c :: k)) cs w) b k cs x a' w' := by
    intro b k cs
    obtain ⟨x, a1, w1, hq, harr⟩ := H b (.inLoop c :: k) cs
    cases x with
    | normal =>
      obtain ⟨x2, a2, w2, hq2, harr2⟩ := hq b k cs
      exact ⟨x2, a2, w2, hq2, .of_steps harr harr2⟩
    | exit id => exact ⟨_, a1, w1, hq, .pass (x := .inLoop c) rfl (fun _ _ => .inl (by simp)) harr⟩
    | goto l => exact ⟨_, a1, w1, hq, .pass (x := .inLoop c) rfl (fun _ _ => .inl (by simp)) harr⟩
    | ret => exact ⟨_, a1, w1, hq, .pass (x := .inLoop c) rfl (fun _ _ => .inl (by simp)) harr⟩
    | panic ch => exact ⟨_, a1, w1, hq, .pass (x := .inLoop c) rfl (fun _ _ => .inl (by simp)) harr⟩
    | outgrown => exact ⟨_, a1, w1, hq, .pass (x := .inLoop c) rfl (fun _ _ => .inl (by simp)) harr⟩
  refine ⟨fun b k cs => ?_, fun b k cs => ?_⟩
  · obtain ⟨x, a', w', hq, harr⟩ := key b k cs
    exact ⟨x, a', w', hq, .of_steps (.one step_loop) harr⟩
  · obtain ⟨x, a', w', hq, harr⟩ := key b k cs
    exact ⟨x, a', w', hq, .of_steps (.one step_inLoop) harr⟩
def ScopeWp (P : Program) (c r : Code) (Q : Exit → Act → World → Prop) (a : Act) (w : World) : Prop :=
  ∀ (b : Frame) (k : List Item) (cs : List Frame), ∃ x a' w', Q x a' w' ∧ Arrives P (lone (b.at a (.code r :: .inScope c :: k)) cs w) b k cs x a' w'
def inSc (P : Program) (c : Code) (Q : Exit → Act → World → Prop) : Exit → Act → World → Prop
  | .goto l, a, w => match findLabel c l with
    | some rest => ScopeWp P c rest Q a w
    | none => Q (.goto l) a w
  | x, a, w => Q x a w
theorem scope_pass {c r : Code} {Q : Exit → Act → World → Prop} {a : Act} {w : World} (H : r.wp P (inSc P c Q) a w) : ScopeWp P c r Q a w := by
  intro b k cs
  obtain ⟨x, a1, w1, hq, harr⟩ := H b (.inScope c :: k) cs
  cases x with
  | normal => exact ⟨.normal, a1, w1, hq, Steps.trans harr (.one step_inScope)⟩
  | exit id => exact ⟨.exit id, a1, w1, hq, fun k' hk => harr k' (by simp [exitTo, hk])⟩
  | goto l =>
    cases hf : findLabel c l with
    | none => exact ⟨.goto l, a1, w1, by simpa [inSc, hf] using hq, fun k' hk => harr k' (by simp [gotoIn, hf, hk])⟩
    | some rest =>
      have h1 : ScopeWp P c rest Q a1 w1 := by simpa [inSc, hf] using hq
      obtain ⟨x2, a2, w2, hq2, harr2⟩ := h1 b k cs
      exact ⟨x2, a2, w2, hq2, .of_steps (harr _ (by simp [gotoIn, hf])) harr2⟩
  | ret => exact ⟨_, a1, w1, hq, harr⟩
  | panic ch => exact ⟨_, a1, w1, hq, harr⟩
  | outgrown => exact ⟨_, a1, w1, hq, harr⟩
theorem wp_scope_all {c : Code} {Q : Exit → Act → World → Prop} {a : Act} {w : World} (H : ScopeWp P c c Q a w) : (Code.scope c).wp P Q a w := by
  intro b k cs
  obtain ⟨x, a', w', hq, harr⟩ := H b k cs
  exact ⟨x, a', w', hq, .of_steps (.one step_scope) harr⟩
def Sound (P : Program) (nt : Nat) (c : Code) (s : St) (x : X) (s' : St) : Prop := SynS s s' ∧ ∀ {z : Nat} ι a w, Rl z ι nt s.e s.h.get a w → Free ι s.n s'.n →
  c.wp P (CPost z nt x s s' ι w) a w ∧ ∀ c', c = .loop c' → LoopWp P c' (CPost z nt x s s' ι w) a w
def IhOk (P : Program) (ih : Nat → Code → St → RC) : Prop := ∀ nt c s x s', ih nt c s = some (x, s') → Sound P nt c s x s'

def CallOkG (P : Program) (j : Nat) (call : FuncId → List V → Nat → Hp → Nat → R) : Prop := ∀ f args n h lo r, call f args n h lo = some r → Ab.isGo P f = true ∧ Syn n h lo r.2.1 r.2.2.1 r.2.2.2 ∧
  ∀ ι (us : Array Value) w, HRel ι h.get w → us.size = args.length + j → LRel ι args (us.toList.drop j) → Free ι n r.2.1 → Calls P f us w (Ends ι n h w r)
theorem HRel.keep {ι : Io} {g : Gm} {w w' : World} (H : HRel ι g w) (hk : ∀ id b r m, g id = some b → ι id = some (r, m) → w'.heap[r]? = w.heap[r]?) : HRel ι g w' :=
  ⟨fun id b hb => by obtain ⟨r, m, h1, h2⟩ := H.blk id b hb; exact ⟨r, m, h1, h2.mono (fun _ _ h => h) (hk id b r m hb h1)⟩, H.inj⟩
theorem HRel.lt {ι : Io} {g : Gm} {w : World} (H : HRel ι g w) {id : Nat} {b : B} {r m : Nat} (hb : g id = some b) (hi : ι id = some (r, m)) : r < w.heap.size := by
  obtain ⟨r', m', h1, h2⟩ := H.blk id b hb
  rw [hi] at h1
  cases h1
  exact h2.lt
theorem rangeFunc_none {ry : FuncId → List V → Nat → Hp → Nat → R} (YO : CallOkG P 1 ry) {z nt : Nat} {s : St} {g : Operand} {ps : Array Tmp} {asg bd : Code} {f : FuncId} {caps : List V} (hx : ev s.e g = some (.fn f caps)) {r : V × Nat × Hp × Nat} (hr : ry f caps s.n s.h s.lo = some r) (ι : Io) (a : Act) (w : World) (R : Rl z ι nt s.e s.h.get a w) (hf : Free ι s.n r.2.1) :
    (Code.rangeFunc g ps asg bd).wp P (CPost z nt .normal s ⟨s.e, r.2.1, r.2.2.1, r.2.2.2⟩ ι w) a w := by
  obtain ⟨hgo, hsyn, hcall⟩ := YO _ _ _ _ _ _ hr
  have hv := ev_rel R.env hx
  generalize hau : a.eval g = u at hv
  cases hv with
  | fn _ _ C hl hh =>
    refine wpIn_wide.1 (wpIn_rangeFunc (F := Fence.wide) (n := 0) fun fn hfn => ?_)
    obtain ⟨rec, hrec⟩ : ∃ rec : LoopState → Loop, rec = fun st => { state := st, pending := none, fn, tmps := a.tmps, params := ps, assign := asg, body := bd, defers := w.heap.size } := ⟨_, rfl⟩
    obtain ⟨W1, hW1⟩ : ∃ W1, (w.alloc (.deferred (some []))).alloc (.loop (rec .ready)) = W1 := ⟨_, rfl⟩
    have hs1 : W1.heap.size = w.heap.size + 2 := by rw [← hW1, World.size_alloc, World.size_alloc]
    have hL1 : W1.heap[w.heap.size + 1]? = some (.loop (rec .ready)) := by
      rw [← hW1]; have := World.alloc_heap_new (w.alloc (.deferred (some []))) (.loop (rec .ready)); rwa [World.size_alloc] at this
    have hK1 : W1.heap[w.heap.size]? = some (.deferred (some [])) := by
      rw [← hW1]; exact (Below.heap_alloc _ _ _ (by simp)).trans (World.alloc_heap_new w _)
    have hkeep1 : ∀ q, q < w.heap.size → W1.heap[q]? = w.heap[q]? := fun q hq => by
      rw [← hW1]; exact (Below.heap_alloc _ _ _ (by rw [World.size_alloc]; omega)).trans (Below.heap_alloc _ _ _ hq)
    have hsame1 : W1.os = w.os ∧ W1.tape = w.tape ∧ W1.output = w.output := by rw [← hW1]; exact ⟨rfl, rfl, rfl⟩
    have H1 : HRel ι s.h.get W1 := R.heap.keep fun id b q m hb hi => hkeep1 q (R.heap.lt hb hi)
    have hC : LRel ι caps C.toList := ⟨by simpa using hl, fun i c u a b => hh i c u a (by simpa using b)⟩
    obtain ⟨us, hus⟩ : ∃ us : Array Value, #[.func (.yield (w.heap.size + 1)) #[] #[]] ++ C = us := ⟨_, rfl⟩
    have huL : us.toList = .func (.yield (w.heap.size + 1)) #[] #[] :: C.toList := by rw [← hus]; simp
    have hc := hcall ι us W1 H1 (by rw [← hus]; simp [hl]; omega) (by rw [huL]; exact hC) hf
    refine ⟨w.heap.size + 1, [{ target := .collected w.heap.size, args := #[] }], W1, { target := .fn (.func f) C, args := #[.func (.yield (w.heap.size + 1)) #[] #[]] }, W1, f, us, W1, ?_, ?_, fun _ _ => trivial, ?_, (fun h => by cases h), callsIn_wide.2 (hc.mono ?_)⟩
    · rw [← hW1, hrec]; exact run_enterLoop_outer _ _ _ _ _
    · simp only [resolve, hau]
      simp [go_sem]
    · rw [← hus]; simp [invoke, Ab.run_isGo hgo]
    · rintro x w3 ⟨u, ι', rfl, hu, H3, E3⟩
      -- which blocks live then
      have live : ∀ id b q m, r.2.2.1.get id = some b → ι' id = some (q, m) → q ≠ w.heap.size + 1 ∧ q ≠ w.heap.size := fun id b q m hb hi => by
        by_cases hq : q < W1.heap.size
        · obtain ⟨j, b', m', h1, h2⟩ := E3.old id b q m hb hi hq
          have := R.heap.lt h1 h2
          omega
        · omega
      have old : ∀ id b q m, s.h.get id = some b → ι id = some (q, m) → q < w.heap.size := fun id b q m hb hi => R.heap.lt hb hi
      have hL3 : w3.heap[w.heap.size + 1]? = some (.loop (rec .ready)) := by
        rw [E3.mem _ (by omega) fun id b m hb hi => by have := old _ _ _ _ hb hi; omega]; exact hL1
      have hK3 : w3.heap[w.heap.size]? = some (.deferred (some [])) := by
        rw [E3.mem _ (by omega) fun id b m hb hi => by have := old _ _ _ _ hb hi; omega]; exact hK1
      obtain ⟨w4, hw4⟩ : ∃ w4, w3.putObj (w.heap.size + 1) (.loop { rec .ready with state := .exhausted }) = w4 := ⟨_, rfl⟩
      have hput : ∀ q, q ≠ w.heap.size + 1 → w4.heap[q]? = w3.heap[q]? := fun q hq => by rw [← hw4]; exact World.putObj_heap_other (by omega)
      have hs4 : w4.heap.size = w3.heap.size := by rw [← hw4]; simp
      have hsame4 : w4.os = w3.os ∧ w4.tape = w3.tape ∧ w4.output = w3.output := by rw [← hw4]; exact ⟨rfl, rfl, rfl⟩
      have E : Ex s.n r.2.1 ι s.h.get w ι' r.2.2.1.get w4 :=
        ⟨hsame4.1.trans (E3.os.trans hsame1.1), hsame4.2.1.trans (E3.tape.trans hsame1.2.1), hsame4.2.2.trans (E3.output.trans hsame1.2.2), by have := E3.size; omega, E3.le, E3.same,
          fun q hq hn => by rw [hput q (by omega), E3.mem q (by omega) hn, hkeep1 q hq],
          fun id b q m hb hi hq => E3.old id b q m hb hi (by omega)⟩
      have M := R.defers.ex E
      refine ⟨none, w4, ?_, rfl, ι', ⟨H3.keep fun id b q m hb hi => hput q (live _ _ _ _ hb hi).1, R.env.mono (E.io hf), ?_, R.size⟩, E⟩
      · rw [← hw4]
        have := run_endLoop (P := P) hL3 (by rw [hrec]; simp)
        rw [this, hrec]
      · refine ⟨fun d hd => ?_, List.pairwise_cons.2 ⟨fun d hd => ?_, M.apart⟩, M.low⟩
        · rcases List.mem_cons.1 hd with rfl | hd
          · refine ⟨w.heap.size, rfl, R.defers.low, by rw [hput _ (by omega)]; exact hK3, fun id b m hb hi => (live _ _ _ _ hb hi).2 rfl⟩
          · exact M.all d hd
        · obtain ⟨q, h1, _, h3, _⟩ := R.defers.all d hd
          rw [h1]
          intro h
          cases h
          exact absurd (Array.getElem?_eq_some_iff.1 h3).1 (by omega)
def sgo (ih : Nat → Code → St → RC) (nt : Nat) (c : Code) (m : Nat) : Code → St → RC := Nat.rec (fun _ _ => none) (fun _ go r s => match ih nt r s with
  | some (.goto l, s1) => match findLabel c l with
    | some rest => go rest s1
    | none => some (.goto l, s1)
  | q => q) m
def rstep (rg : Nat → Array Oper → St → Option St) (dr : Nat → Array Oper → St → Option St) (ry : FuncId → List V → Nat → Hp → Nat → R) (ih : Nat → Code → St → RC) (nt : Nat) (c : Code) (s : St) : RC := match c with
  | .skip => some (.normal, s)
  | .label _ => some (.normal, s)
  | .exit id => some (.exit id, s)
  | .ret => some (.ret, s)
  | .goto l => some (.goto l, s)
  | .scope a => sgo ih nt a 400 a s
  | .seq a b => match ih nt a s with
    | some (.normal, s1) => ih nt b s1
    | r => r
  | .cond x a b => match ev s.e x with
    | some (.sc (.bool true)) => ih nt a s
    | some (.sc (.bool false)) => ih nt b s
    | _ => none
  | .block id a => match ih nt a s with
    | some (.exit j, s1) => match Nat.beq j id with
      | true => some (.normal, s1)
      | false => some (.exit j, s1)
    | r => r
  | .loop a => match ih nt a s with
    | some (.normal, s1) => ih nt (.loop a) s1
    | r => r
  | .region _ ops false => match rg nt ops s with
    | some s1 => some (.normal, s1)
    | none => none
  | .region _ ops true => match dr nt ops s with
    | some s1 => some (.normal, s1)
    | none => none
  | .rangeFunc g _ _ _ => match ev s.e g with
    | some (.fn f caps) => match ry f caps s.n s.h s.lo with
      | some r => some (.normal, ⟨s.e, r.2.1, r.2.2.1, r.2.2.2⟩)
      | none => none
    | _ => none
  | _ => none
theorem cpost_trans {z : Nat} {s s1 s2 : St} {ι ι1 : Io} {w w1 : World} {x : X} {x' : Exit} {a' : Act} {w' : World} (hE : Ex s.n s1.n ι s.h.get w ι1 s1.h.get w1) (h : CPost z nt x s1 s2 ι1 w1 x' a' w') : CPost z nt x s s2 ι w x' a' w' := by
  obtain ⟨h1, ι2, R, E⟩ := h
  exact ⟨h1, ι2, R, hE.trans E⟩
def RegOk (P : Program) (dr : Nat → Array Oper → St → Option St) (b : Bool) : Prop := ∀ nt ops s s', dr nt ops s = some s' → SynS s s' ∧ ∀ {z : Nat} id ι a w, Rl z ι nt s.e s.h.get a w → Free ι s.n s'.n → (Code.region id ops b).wp P (CPost z nt .normal s s' ι w) a w
theorem sgo_good {ih : Nat → Code → St → RC} (IO : IhOk P ih) {c : Code} : ∀ (m : Nat) (r : Code) (s : St) (x : X) (s' : St), sgo ih nt c m r s = some (x, s') → SynS s s' ∧ ∀ {z : Nat} ι a w, Rl z ι nt s.e s.h.get a w → Free ι s.n s'.n → ScopeWp P c r (CPost z nt x s s' ι w) a w
  | 0, r, s, x, s', h => by cases h
  | m + 1, r, s, x, s', h => by
    have h : (match ih nt r s with
      | some (.goto l, s1) => match findLabel c l with
        | some rest => sgo ih nt c m rest s1
        | none => some (.goto l, s1)
      | q => q) = some (x, s') := h
    cases h1 : ih nt r s with
    | none => rw [h1] at h; cases h
    | some q =>
      obtain ⟨x1, s1⟩ := q
      obtain ⟨g1, g2⟩ := IO _ _ _ _ _ h1
      rw [h1] at h
      have plain : ∀ {x : X}, (∀ l, x ≠ .goto l) → IhOk P ih → (∀ {z : Nat} ι a w, Rl z ι nt s.e s.h.get a w → Free ι s.n s1.n → r.wp P (CPost z nt x s s1 ι w) a w) → ∀ {z : Nat} ι a w, Rl z ι nt s.e s.h.get a w → Free ι s.n s1.n → ScopeWp P c r (CPost z nt x s s1 ι w) a w := fun {x} hx _ H {z} ι a w R hf => scope_pass (wp_mono (H ι a w R hf) fun x' a' w' hq => by
        obtain ⟨rfl, hq⟩ := hq
        cases x with
        | normal => exact ⟨rfl, hq⟩
        | exit j => exact ⟨rfl, hq⟩
        | ret => exact ⟨rfl, hq⟩
        | goto l => exact absurd rfl (hx l))
      cases x1 with
      | normal => cases h; exact ⟨g1, plain (fun _ h => by cases h) IO fun ι a w R hf => (g2 ι a w R hf).1⟩
      | exit j => cases h; exact ⟨g1, plain (fun _ h => by cases h) IO fun ι a w R hf => (g2 ι a w R hf).1⟩
      | ret => cases h; exact ⟨g1, plain (fun _ h => by cases h) IO fun ι a w R hf => (g2 ι a w R hf).1⟩
      | goto l =>
        dsimp only at h
        cases hf : findLabel c l with
        | none =>
          rw [hf] at h
          cases h
          refine ⟨g1, fun ι a w R hfr => scope_pass (wp_mono (g2 ι a w R hfr).1 fun x' a' w' hq => ?_)⟩
          obtain ⟨rfl, hq⟩ := hq
          show inSc P c _ (.goto l) a' w'
          simp only [inSc, hf]
          exact ⟨rfl, hq⟩
        | some rest =>
          rw [hf] at h
          obtain ⟨g3, g4⟩ := sgo_good IO m rest s1 x s' h
          refine ⟨g1.trans g3, fun ι a w R hfr => scope_pass (wp_mono (g2 ι a w R (hfr.left g3.le)).1 fun x' a' w' hq => ?_)⟩
          obtain ⟨rfl, ι1, R1, E1⟩ := hq
          show inSc P c _ (.goto l) a' w'
          simp only [inSc, hf]
          intro b k cs
          obtain ⟨x2, a2, w2, h2, h3⟩ := g4 ι1 a' w' R1 (hfr.right E1) b k cs
          exact ⟨x2, a2, w2, cpost_trans E1 h2, h3⟩
theorem rstep_good {rg dr : Nat → Array Oper → St → Option St} {ry : FuncId → List V → Nat → Hp → Nat → R} {ih : Nat → Code → St → RC} (RO : RegOk P rg false) (DO : RegOk P dr true) (YO : CallOkG P 1 ry) (IO : IhOk P ih) : IhOk P (rstep rg dr ry ih) := by
  intro nt c s x s' hr
  have plain : ∀ {c : Code} {s : St} {x : X} {s' : St}, (∀ c', c ≠ .loop c') → (SynS s s' ∧ ∀ {z : Nat} ι a w, Rl z ι nt s.e s.h.get a w → Free ι s.n s'.n → c.wp P (CPost z nt x s s' ι w) a w) → Sound P nt c s x s' := fun hc h => ⟨h.1, fun ι a w R hf => ⟨h.2 ι a w R hf, fun c' h' => absurd h' (hc c')⟩⟩
  cases c with
  | skip => cases hr; exact plain (fun _ h => by cases h) ⟨Syn.refl _ _ _, fun ι a w R hf => wp_skip ⟨rfl, ι, R, Ex.refl _ _ _ _⟩⟩
  | label l => cases hr; exact plain (fun _ h => by cases h) ⟨Syn.refl _ _ _, fun ι a w R hf => wp_label ⟨rfl, ι, R, Ex.refl _ _ _ _⟩⟩
  | exit id => cases hr; exact plain (fun _ h => by cases h) ⟨Syn.refl _ _ _, fun ι a w R hf => wp_exit ⟨rfl, ι, R, Ex.refl _ _ _ _⟩⟩
  | ret => cases hr; exact plain (fun _ h => by cases h) ⟨Syn.refl _ _ _, fun ι a w R hf => wp_ret ⟨rfl, ι, R, Ex.refl _ _ _ _⟩⟩
  | goto l => cases hr; exact plain (fun _ h => by cases h) ⟨Syn.refl _ _ _, fun ι a w R hf => wp_goto ⟨rfl, ι, R, Ex.refl _ _ _ _⟩⟩
  | scope c1 =>
    refine plain (fun _ h => by cases h) ?_
    obtain ⟨g1, g2⟩ := sgo_good IO 400 c1 s x s' hr
    exact ⟨g1, fun ι a w R hf => wp_scope_all (g2 ι a w R hf)⟩
  | seq c1 c2 =>
    refine plain (fun _ h => by cases h) ?_
    rw [rstep] at hr
    cases h1 : ih nt c1 s with
    | none => rw [h1] at hr; cases hr
    | some q =>
      obtain ⟨x1, s1⟩ := q
      obtain ⟨g1, g2⟩ := IO _ _ _ _ _ h1
      rw [h1] at hr
      cases x1 with
      | normal =>
        dsimp only at hr
        obtain ⟨g3, g4⟩ := IO _ _ _ _ _ hr
        refine ⟨g1.trans g3, fun ι a w R hf => wp_seq (wp_mono (g2 ι a w R (hf.left g3.le)).1 fun x' a' w' hq => ?_)⟩
        obtain ⟨rfl, ι1, R1, E1⟩ := hq
        exact wp_mono (g4 ι1 a' w' R1 (hf.right E1)).1 fun x2 a2 w2 h2 => cpost_trans E1 h2
      | exit j => cases hr; exact ⟨g1, fun ι a w R hf => wp_seq (wp_mono (g2 ι a w R hf).1 fun x' a' w' hq => by obtain ⟨rfl, hq⟩ := hq; exact ⟨rfl, hq⟩)⟩
      | ret => cases hr; exact ⟨g1, fun ι a w R hf => wp_seq (wp_mono (g2 ι a w R hf).1 fun x' a' w' hq => by obtain ⟨rfl, hq⟩ := hq; exact ⟨rfl, hq⟩)⟩
      | goto l => cases hr; exact ⟨g1, fun ι a w R hf => wp_seq (wp_mono (g2 ι a w R hf).1 fun x' a' w' hq => by obtain ⟨rfl, hq⟩ := hq; exact ⟨rfl, hq⟩)⟩
  | cond c a b =>
    refine plain (fun _ h => by cases h) ?_
    rw [rstep] at hr
    split at hr
    · rename_i hc
      obtain ⟨g1, g2⟩ := IO _ _ _ _ _ hr
      exact ⟨g1, fun ι ac w R hf => wp_cond_true (tv_rel (ev_rel R.env hc) _ rfl) (g2 ι ac w R hf).1⟩
    · rename_i hc
      obtain ⟨g1, g2⟩ := IO _ _ _ _ _ hr
      exact ⟨g1, fun ι ac w R hf => wp_cond_false (tv_rel (ev_rel R.env hc) _ rfl) (g2 ι ac w R hf).1⟩
    · cases hr
  | block id c1 =>
    refine plain (fun _ h => by cases h) ?_
    rw [rstep] at hr
    cases h1 : ih nt c1 s with
    | none => rw [h1] at hr; cases hr
    | some q =>
      obtain ⟨x1, s1⟩ := q
      obtain ⟨g1, g2⟩ := IO _ _ _ _ _ h1
      rw [h1] at hr
      cases x1 with
      | normal => cases hr; exact ⟨g1, fun ι a w R hf => wp_block (wp_mono (g2 ι a w R hf).1 fun x' a' w' hq => by obtain ⟨rfl, hq⟩ := hq; exact ⟨rfl, hq⟩)⟩
      | ret => cases hr; exact ⟨g1, fun ι a w R hf => wp_block (wp_mono (g2 ι a w R hf).1 fun x' a' w' hq => by obtain ⟨rfl, hq⟩ := hq; exact ⟨rfl, hq⟩)⟩
      | goto l => cases hr; exact ⟨g1, fun ι a w R hf => wp_block (wp_mono (g2 ι a w R hf).1 fun x' a' w' hq => by obtain ⟨rfl, hq⟩ := hq; exact ⟨rfl, hq⟩)⟩
      | exit j =>
        dsimp only at hr
        split at hr
        · rename_i hj
          cases hr
          have hj := Nat.eq_of_beq_eq_true hj
          subst hj
          refine ⟨g1, fun ι a w R hf => wp_block (wp_mono (g2 ι a w R hf).1 fun x' a' w' hq => ?_)⟩
          obtain ⟨rfl, hq⟩ := hq
          show if j = j then _ else _
          rw [if_pos rfl]
          exact ⟨rfl, hq⟩
        · rename_i hj
          cases hr
          refine ⟨g1, fun ι a w R hf => wp_block (wp_mono (g2 ι a w R hf).1 fun x' a' w' hq => ?_)⟩
          obtain ⟨rfl, hq⟩ := hq
          show if j = id then _ else _
          rw [if_neg (Ab.of_beq_no hj)]
          exact ⟨rfl, hq⟩
  | loop c1 =>
    rw [rstep] at hr
    cases h1 : ih nt c1 s with
    | none => rw [h1] at hr; cases hr
    | some q =>
      obtain ⟨x1, s1⟩ := q
      obtain ⟨g1, g2⟩ := IO _ _ _ _ _ h1
      rw [h1] at hr
      have two : ∀ {Q : Exit → Act → World → Prop} {a : Act} {w : World}, c1.wp P (Exit.then (LoopWp P c1 Q) Q) a w → (Code.loop c1).wp P Q a w ∧ ∀ c', Code.loop c1 = .loop c' → LoopWp P c' Q a w := fun H => ⟨(loop_unroll H).1, fun c' h => by cases h; exact (loop_unroll H).2⟩
      cases x1 with
      | normal =>
        dsimp only at hr
        obtain ⟨g3, g4⟩ := IO _ _ _ _ _ hr
        refine ⟨g1.trans g3, fun ι a w R hf => two (wp_mono (g2 ι a w R (hf.left g3.le)).1 fun x' a' w' hq => ?_)⟩
        obtain ⟨rfl, ι1, R1, E1⟩ := hq
        have := (g4 ι1 a' w' R1 (hf.right E1)).2 c1 rfl
        intro b k cs
        obtain ⟨x2, a2, w2, h2, h3⟩ := this b k cs
        exact ⟨x2, a2, w2, cpost_trans E1 h2, h3⟩
      | exit j => cases hr; exact ⟨g1, fun ι a w R hf => two (wp_mono (g2 ι a w R hf).1 fun x' a' w' hq => by obtain ⟨rfl, hq⟩ := hq; exact ⟨rfl, hq⟩)⟩
      | ret => cases hr; exact ⟨g1, fun ι a w R hf => two (wp_mono (g2 ι a w R hf).1 fun x' a' w' hq => by obtain ⟨rfl, hq⟩ := hq; exact ⟨rfl, hq⟩)⟩
      | goto l => cases hr; exact ⟨g1, fun ι a w R hf => two (wp_mono (g2 ι a w R hf).1 fun x' a' w' hq => by obtain ⟨rfl, hq⟩ := hq; exact ⟨rfl, hq⟩)⟩
  | region id ops b =>
    refine plain (fun _ h => by cases h) ?_
    cases b with
    | false =>
      rw [rstep] at hr
      split at hr
      · rename_i s1 h1
        cases hr
        obtain ⟨g1, g2⟩ := RO _ _ _ _ h1
        exact ⟨g1, fun ι a w R hf => g2 id ι a w R hf⟩
      · cases hr
    | true =>
      rw [rstep] at hr
      split at hr
      · rename_i s1 h1
        cases hr
        obtain ⟨g1, g2⟩ := DO _ _ _ _ h1
        exact ⟨g1, fun ι a w R hf => g2 id ι a w R hf⟩
      · cases hr
  | rangeFunc g ps asg bd =>
    refine plain (fun _ h => by cases h) ?_
    rw [rstep] at hr
    split at hr
    · rename_i f caps hx
      split at hr
      · rename_i r h1
        cases hr
        exact ⟨(YO _ _ _ _ _ _ h1).2.1, fun ι a w R hf => rangeFunc_none YO hx h1 ι a w R hf⟩
      · cases hr
    · cases hr
  | _ => cases hr

theorem tv_back {ι : Io} {c : V} {u : Value} (h : tv c = some u) : VRel ι c u := by
  have lists : ∀ (cs : List V), (∀ c ∈ cs, ∀ u, tv c = some u → VRel ι c u) → ∀ l, tvs cs = some l → LRel ι cs l := by
    intro cs
    induction cs with
    | nil => intro _ l hl; cases hl; exact .nil
    | cons c r ih =>
      intro hc l hl
      rw [tvs] at hl
      cases h1 : tv c with
      | none => rw [h1] at hl; cases hl
      | some v =>
        cases h2 : tvs r with
        | none => rw [h1, h2] at hl; cases hl
        | some l' => rw [h1, h2] at hl; cases hl; exact LRel.cons (hc c (by simp) v h1) (ih (fun c' h' => hc c' (by simp [h'])) l' h2)
  match c, h with
  | .sc v, h => cases h; exact .sc _
  | .agg cs, h =>
    rw [tv] at h
    cases hc : tvs cs with
    | none => rw [hc] at h; cases h
    | some l => rw [hc] at h; cases h; exact VRel.agg' (by simpa using lists cs (fun c hm u hu => tv_back hu) l hc)
  | .tup cs, h =>
    rw [tv] at h
    cases hc : tvs cs with
    | none => rw [hc] at h; cases h
    | some l => rw [hc] at h; cases h; exact VRel.tup' (by simpa using lists cs (fun c hm u hu => tv_back hu) l hc)
  | .fn f cs, h =>
    rw [tv] at h
    cases hc : tvs cs with
    | none => rw [hc] at h; cases h
    | some l => rw [hc] at h; cases h; exact VRel.fn' (by simpa using lists cs (fun c hm u hu => tv_back hu) l hc)
  | .ifc t v, h =>
    rw [tv] at h
    cases hc : tv v with
    | none => rw [hc] at h; cases h
    | some l => rw [hc] at h; cases h; exact .ifc t v l (tv_back hc)
termination_by SizeOf.sizeOf c
inductive FT where
  | leaf
  | node (k : Nat) (f : Func) (l r : FT)
def flook : FT → Nat → Option Func
  | .leaf, _ => none
  | .node k f l r, t => cond (Nat.beq t k) (some f) (cond (Nat.blt t k) (flook l t) (flook r t))
def FOk (P : Program) (ft : FT) : Prop := ∀ f fn, flook ft f = some fn → P.funcs[f]? = some fn ∧ Ab.isGo P f = true
theorem FOk.leaf (P : Program) : FOk P .leaf := fun _ _ h => by cases h
theorem FOk.node {P : Program} {l r : FT} {k : Nat} {f : Func} (h1 : P.funcs[k]? = some f) (h2 : Ab.isGo P k = true) (hl : FOk P l) (hr : FOk P r) : FOk P (.node k f l r) := fun t fn ht => by
  rw [flook] at ht
  cases hb : Nat.beq t k with
  | true => rw [hb] at ht; cases ht; rw [Nat.eq_of_beq_eq_true hb]; exact ⟨h1, h2⟩
  | false =>
    rw [hb, cond_false] at ht
    cases hc : Nat.blt t k with
    | true => rw [hc] at ht; exact hl t fn ht
    | false => rw [hc] at ht; exact hr t fn ht
def mkE : List V → Nat → Ev → Ev
  | [], _, e => e
  | v :: r, i, e => mkE r (i + 1) (e.set i v)
theorem mkE_get : ∀ (l : List V) (i : Nat) (e : Ev) (t : Nat) (c : V), (mkE l i e).get t = some c → (i ≤ t ∧ l[t - i]? = some c) ∨ e.get t = some c
  | [], i, e, t, c, h => .inr h
  | v :: r, i, e, t, c, h => by
    rw [mkE] at h
    rcases mkE_get r (i + 1) _ t c h with ⟨h1, h2⟩ | h1
    · refine .inl ⟨by omega, ?_⟩
      rw [show t - i = (t - (i + 1)) + 1 by omega]; simpa using h2
    · rw [Tr.get_set] at h1
      split at h1
      · rename_i ht; cases h1; exact .inl ⟨by omega, by rw [ht, Nat.sub_self]; rfl⟩
      · exact .inr h1
def resOne (tab : TTab) (s : St) : ResultVar → Option V
  | .tmp t => s.e.get t
  | .cell a t => match s.e.get a with
    | some (.ptr id off) => match tlook tab t with
      | some te => match s.h.get id with
        | some (.cells cs _) => whole te (win cs off te.size)
        | _ => none
      | none => none
    | _ => none
def resAll (tab : TTab) (s : St) : List ResultVar → Option (List V)
  | [] => some []
  | r :: l => match resOne tab s r with
    | some v => match resAll tab s l with
      | some vs => some (v :: vs)
      | none => none
    | none => none
def resV (tab : TTab) (s : St) (l : List ResultVar) : Option V := match resAll tab s l with
  | some [v] => some v
  | some vs => some (.tup vs)
  | none => none
theorem resOne_rel {z : Nat} {ι : Io} {s : St} {a : Act} {w : World} {nt : Nat} (TO : TabOk P tab) (R : Rl z ι nt s.e s.h.get a w) {r : ResultVar} {v : V} (hr : resOne tab s r = some v) : ∃ u, VRel ι v u ∧ (match r with
      | .tmp t => (pure (a.tmps.getD t undef) : Sem Value)
      | .cell s t => do loadVar t (← asAddr (a.tmps.getD s undef))).run P w = .ok u w := by
  cases r with
  | tmp t =>
    obtain ⟨u, hu, hv⟩ := R.env t v hr
    exact ⟨u, hv, by simp [hu]⟩
  | cell sl t =>
    rw [resOne] at hr
    split at hr
    · rename_i id off hx
      split at hr
      · rename_i te ht
        split at hr
        · rename_i cs more hb
          -- as a load
          let o : Oper := { dst := none, op := .load t (.tmp sl), type := t, pos := default, after := #[], guard := none }
          have hg := good_load (P := P) (n := 0) (lo := 0) (o := o) (e := s.e) (h := s.h) TO rfl ht (x := .tmp sl) hx hb hr
          obtain ⟨u, hu, hv⟩ := R.env sl _ hx
          obtain ⟨r, m, hi, C, tt, fz, hC, hfz, hsz, hle, hmo, hl⟩ := R.heap.blk _ _ hb
          have hau := ptr_inv hv hi
          subst hau
          have hwl := whole_len hr
          have hrel : LRel ι (win cs off te.size) (win (C.toList.take cs.length) off te.size) := hl.win off te.size
          have hvl : (win (C.toList.take cs.length) off te.size).length = te.size := by rw [hrel.1, hwl]
          obtain ⟨W, hW⟩ : ∃ W, win (C.toList.take cs.length) off te.size = W := ⟨_, rfl⟩
          rw [hW] at hvl hrel
          have hcell : ∀ (j : Nat) (u : Value), W[j]? = some u → w.cell? ⟨r, off + j, none⟩ = some u := fun j u hj => by
            have h6 := win_get hW hj
            rw [List.getElem?_take] at h6
            split at h6
            · simp [World.cell?, hC]; simpa using h6
            · cases h6
          have hrun := Ab.run_loadVar w (TO t te ht) r off _ hvl hcell
          unfold whole at hr
          rw [hwl, beq_dec, decide_eq_true rfl, cond_true] at hr
          cases ha : te.agg with
          | true =>
            rw [ha] at hr hrun
            cases hr
            exact ⟨.agg W.toArray, VRel.agg' (by simpa using hrel), by simp [hu, asAddr, hrun]⟩
          | false =>
            rw [ha, cond_false] at hr
            split at hr
            · rename_i c hc
              cases hr
              rw [hc] at hrel
              obtain ⟨u, vs, h1, h2, h3⟩ := hrel.head
              subst h1
              rw [ha] at hrun
              exact ⟨u, h2, by simp [hu, asAddr, hrun]⟩
            · cases hr
        · cases hr
      · cases hr
    · cases hr
theorem resV_rel {z : Nat} {ι : Io} {s : St} {a : Act} {w : World} {nt : Nat} (TO : TabOk P tab) (R : Rl z ι nt s.e s.h.get a w) {fn : Func} {v : V} (hr : resV tab s fn.results.toList = some v) : ∃ u, VRel ι v u ∧ (results fn a.tmps).run P w = .ok u w := by
  let g : ResultVar → Sem Value := fun
    | .tmp t => pure (a.tmps.getD t undef)
    | .cell s t => do loadVar t (← asAddr (a.tmps.getD s undef))
  have hg : results fn a.tmps = (do
      let vs ← fn.results.mapM g
      pure (if h : vs.size = 1 then vs[0] else .tuple vs)) := rfl
  have key : ∀ (rs : List ResultVar) (vs : List V), resAll tab s rs = some vs → ∃ us : List Value, LRel ι vs us ∧ (rs.mapM g).run P w = .ok us w := by
    intro rs
    induction rs with
    | nil => intro vs h; cases h; exact ⟨[], .nil, rfl⟩
    | cons r rs ih =>
      intro vs hm
      rw [resAll] at hm
      split at hm
      · rename_i v1 h1
        split at hm
        · rename_i vs1 h2
          cases hm
          obtain ⟨us, h3, h5⟩ := ih vs1 h2
          obtain ⟨u, h6, h7⟩ := resOne_rel TO R h1
          refine ⟨u :: us, LRel.cons h6 h3, ?_⟩
          rw [List.mapM_cons]
          have h7' : (g r).run P w = .ok u w := by cases r <;> exact h7
          simp [h7', h5]
        · cases hm
      · cases hm
  have gen : ∀ (vs : List V), resAll tab s fn.results.toList = some vs → ∃ us : List Value, LRel ι vs us ∧ (results fn a.tmps).run P w = .ok (if h : us.toArray.size = 1 then us.toArray[0] else .tuple us.toArray) w := by
    intro vs hm
    obtain ⟨us, h1, h3⟩ := key _ vs hm
    refine ⟨us, h1, ?_⟩
    rw [hg, Array.mapM_eq_mapM_toList]
    simp [h3]
  unfold resV at hr
  split at hr
  · rename_i v1 h1
    cases hr
    obtain ⟨us, h2, h3⟩ := gen _ h1
    obtain ⟨u, vs, rfl, h4, h5⟩ := h2.head
    have : vs = [] := List.length_eq_zero_iff.1 h5.1
    subst this
    exact ⟨u, h4, by simpa using h3⟩
  · rename_i vs hne h1
    cases hr
    obtain ⟨us, h2, h3⟩ := gen _ h1
    refine ⟨.tuple us.toArray, VRel.tup' (by simpa using h2), ?_⟩
    rw [h3, dif_neg]
    intro h4
    have h5 : us.length = 1 := by simpa using h4
    rw [h2.1] at h5
    obtain ⟨v0, hv0⟩ := List.length_eq_one_iff.1 h5
    exact hne v0 hv0
  · cases hr
def isEnd : X → Bool
  | .normal => true
  | .ret => true
  | _ => false
def rcallG (tab : TTab) (ft : FT) (ih : Nat → Code → St → RC) (j : Nat) (f : FuncId) (args : List V) (n : Nat) (h : Hp) (lo : Nat) : R := match flook ft f with
  | some fn => match fn.body with
    | some c => match Nat.ble (args.length + j) fn.ntmps with
      | true => match ih fn.ntmps c ⟨mkE args j .nil, n, h, n⟩ with
        | some (x, s') => match isEnd x with
          | true => match resV tab s' fn.results.toList with
            | some v => match Nat.ble n s'.lo && (tv v).isSome with
              | true => some (v, n, h, lo)
              | false => some (v, s'.n, s'.h, lmin s'.lo lo)
            | none => none
          | false => none
        | none => none
      | false => none
    | none => none
  | none => none
theorem rcallG_good {j : Nat} {ft : FT} {ih : Nat → Code → St → RC} (TO : TabOk P tab) (FO : FOk P ft) (IO : IhOk P ih) : CallOkG P j (rcallG tab ft ih j) := by
  intro f args n h lo r hr
  unfold rcallG at hr
  split at hr
  · rename_i fn hfn
    obtain ⟨hf, hgo⟩ := FO f fn hfn
    refine ⟨hgo, ?_⟩
    split at hr
    · rename_i c hb
      split at hr
      · rename_i hle
        have hle := Nat.le_of_ble_eq_true hle
        split at hr
        · rename_i x s' hc
          split at hr
          · rename_i hx
            split at hr
            · rename_i v hv
              obtain ⟨g1, g2⟩ := IO _ _ _ _ _ hc
              -- the walk through the body
              have walk : ∀ ι (us : Array Value) w, HRel ι h.get w → us.size = args.length + j → LRel ι args (us.toList.drop j) → Free ι n s'.n → Calls P f us w (fun y w' => ∃ u ι', y = .returned u ∧ VRel ι' v u ∧ HRel ι' s'.h.get w' ∧ Ex n s'.n ι h.get w ι' s'.h.get w') := fun ι us w H hul A hfr => by
                refine callsIn_wide.1 (callsIn_of_wp_marks (n := 0) hf hb trivial (wpIn_wide.2 ?_))
                have R : Rl w.heap.size ι fn.ntmps (mkE args j .nil) h.get { tmps := us ++ Array.replicate (fn.ntmps - us.size) undef, defers := [] } w := by
                  refine ⟨H, fun t c0 ht => ?_, Marks.nil (Nat.le_refl _), ?_⟩
                  · rcases mkE_get _ _ _ _ _ ht with ⟨hjt, h2⟩ | h2
                    · have hlt : t < us.size := by rw [hul]; have := (List.getElem?_eq_some_iff.1 h2).1; omega
                      refine ⟨us[t], ?_, A.2 (t - j) c0 _ h2 (by rw [List.getElem?_drop, Nat.add_sub_cancel' hjt]; simp [hlt])⟩
                      show (us ++ _)[t]? = _
                      rw [Array.getElem?_append_left hlt, Array.getElem?_eq_getElem hlt]
                    · cases h2
                  · show fn.ntmps ≤ (us ++ _).size
                    simp; omega
                refine wp_mono (g2 ι _ w R hfr).1 ?_
                rintro x' a' w' ⟨rfl, ι', R', E'⟩
                have fin : LeavesInM Fence.wide 0 P fn a'.tmps (fun y w' => ∃ u ι', y = .returned u ∧ VRel ι' v u ∧ HRel ι' s'.h.get w' ∧ Ex n s'.n ι h.get w ι' s'.h.get w') a'.defers .returning w' := by
                  refine leave_marks _ w' (fun d hd => by obtain ⟨r, h1, _, h3, _⟩ := R'.defers.all d hd; exact ⟨r, h1, h3⟩) R'.defers.apart fun w2 k1 k2 k3 k4 k5 => ?_
                  have keep : ∀ id b r m, s'.h.get id = some b → ι' id = some (r, m) → w2.heap[r]? = w'.heap[r]? := fun id b r m hb hi => k5 r fun d hd hd2 => by
                    obtain ⟨q, q1, _, _, q4⟩ := R'.defers.all d hd
                    rw [q1] at hd2
                    cases hd2
                    exact q4 id b m hb hi
                  have H2 : HRel ι' s'.h.get w2 := ⟨fun id b hb => by obtain ⟨r, m, h1, h2⟩ := R'.heap.blk id b hb; exact ⟨r, m, h1, h2.mono (fun _ _ h => h) (keep id b r m hb h1)⟩, R'.heap.inj⟩
                  have R2 : Rl 0 ι' fn.ntmps s'.e s'.h.get { a' with defers := [] } w2 := ⟨H2, R'.env, Marks.nil (Nat.zero_le _), R'.size⟩
                  obtain ⟨u, hu, hrun⟩ := resV_rel TO R2 hv
                  refine ⟨u, hrun, u, ι', rfl, hu, H2, ?_⟩
                  refine ⟨k1.trans E'.os, k2.trans E'.tape, k3.trans E'.output, by rw [k4]; exact E'.size, E'.le, E'.same, fun r hr hn => ?_, E'.old⟩
                  rw [k5 r (fun d hd hd2 => by obtain ⟨q, q1, q2, _⟩ := R'.defers.all d hd; rw [q1] at hd2; cases hd2; omega)]
                  exact E'.mem r hr hn
                cases x with
                | normal => exact fin
                | ret => exact fin
                | exit j => cases hx
                | goto l => cases hx
              split at hr
              · rename_i hq
                cases hr
                simp only [Bool.and_eq_true, Nat.ble_eq] at hq
                refine ⟨Syn.refl _ _ _, fun ι us w H hul A hfr => (walk ι us w H hul A hfr).mono ?_⟩
                rintro y w' ⟨u, ι', rfl, q1, q2, q3⟩
                have hio := q3.io hfr
                have hkeep : ∀ id b, h.get id = some b → s'.h.get id = some b := fun id b hb => by
                  obtain ⟨r, m, hi, _⟩ := H.blk id b hb
                  have hlt : id < n := by
                    rcases Nat.lt_or_ge id n with h1 | h1
                    · exact h1
                    · rw [hfr id h1] at hi; cases hi
                  rw [g1.same (Nat.le_refl _) id (by omega)]
                  exact hb
                obtain ⟨vv, hvv⟩ := Option.isSome_iff_exists.1 hq.2
                have huv := tv_rel q1 _ hvv
                subst huv
                refine ⟨u, ι, rfl, tv_back hvv, ⟨fun id b hb => ?_, H.inj⟩, q3.os, q3.tape, q3.output, q3.size, Nat.le_refl _, fun _ _ => rfl, q3.mem, fun id b r m hb hi _ => ⟨id, b, m, hb, hi⟩⟩
                obtain ⟨r, m, hi, hB⟩ := H.blk id b hb
                obtain ⟨r', m', hi', hB'⟩ := q2.blk id b (hkeep id b hb)
                rw [hio _ _ hi] at hi'
                cases hi'
                exact ⟨r, m, hi, hB.back hio hB'⟩
              · cases hr
                refine ⟨?_, fun ι us w H hul A hfr => walk ι us w H hul A hfr⟩
                have := lmin_l s'.lo lo
                have := lmin_r s'.lo lo
                refine ⟨g1.le, by dsimp only; omega, fun h1 => ?_, fun h1 id hid => g1.same (Nat.le_refl _) id (by dsimp only at hid; omega), g1.bd, g1.nn⟩
                have := g1.lon (Nat.le_refl _)
                dsimp only at this ⊢
                omega
            · cases hr
          · cases hr
        · cases hr
      · cases hr
    · cases hr
  · cases hr
def rcall (tab : TTab) (ft : FT) (ih : Nat → Code → St → RC) (f : FuncId) (args : List V) (n : Nat) (h : Hp) (lo : Nat) : R := rcallG tab ft ih 0 f args n h lo
theorem rcall_good {ft : FT} {ih : Nat → Code → St → RC} (TO : TabOk P tab) (FO : FOk P ft) (IO : IhOk P ih) : CallOk P (rcall tab ft ih) := by
  intro f args n h lo r hr
  obtain ⟨h1, h2, h3⟩ := rcallG_good (j := 0) TO FO IO f args n h lo r hr
  exact ⟨h1, h2, fun ι us w H A hf => h3 ι us w H (by rw [← A.1]; simp) (by simpa using A) hf⟩
end
end Go.Proofs.YtdbeblhifnfocaaGreatDoor.Rn

namespace Go.Proofs.YtdbeblhifnfocaaGreatDoor.Rn
set_option linter.unusedVariables false
open Go.RowKit
open Go.Proofs.YtdbeblhifnfocaaGreatDoor.Ab (TE TTab tlook TabOk TFacts win setW setW_get win_get Sh)

structure Rec where
  msk : Nat
  dst : Option Tmp
  v : V
  dl : List (Nat × Option B)
  rd : List Nat
  lk : List Nat
  n : Nat
  n' : Nat
def lookD : List (Nat × Option B) → Nat → Option (Option B)
  | [], _ => none
  | p :: r, id => cond (Nat.beq p.1 id) (some p.2) (lookD r id)
def HR (g0 : Gm) (S : Nat → Bool) : List Rec → Gm
  | [], id => g0 id
  | r :: rest, id => match S rest.length with
    | true => match lookD r.dl id with
      | some x => x
      | none => HR g0 S rest id
    | false => HR g0 S rest id
def ER (e0 : Nat → Option V) (S : Nat → Bool) : List Rec → Nat → Option V
  | [], t => e0 t
  | r :: rest, t => match S rest.length with
    | true => match r.dst with
      | some d => match Nat.beq d t with
        | true => some r.v
        | false => ER e0 S rest t
      | none => ER e0 S rest t
    | false => ER e0 S rest t
def NR (n0 : Nat) (S : Nat → Bool) : List Rec → Nat → Nat
  | [], _ => n0
  | r :: rest, id => match S rest.length with
    | true => match lookD r.dl id with
      | some _ => r.n'
      | none => NR n0 S rest id
    | false => NR n0 S rest id
def MR (n0 : Nat) (S : Nat → Bool) : List Rec → Nat → Nat
  | [], _ => n0
  | r :: rest, t => match S rest.length with
    | true => match r.dst with
      | some d => match Nat.beq d t with
        | true => r.n'
        | false => MR n0 S rest t
      | none => MR n0 S rest t
    | false => MR n0 S rest t
def Io.cut (ι : Io) (N : Nat) : Io := fun id => if id < N then ι id else none
theorem cut_le (ι : Io) (N : Nat) : Io.le (ι.cut N) ι := fun id x h => by unfold Io.cut at h; split at h; exact h; cases h
theorem cut_mono {ι ι' : Io} {N M : Nat} (h : N ≤ M) (hl : Io.le ι ι') : Io.le (ι.cut N) (ι'.cut M) := fun id x hx => by
  unfold Io.cut at hx ⊢
  split at hx
  · rw [if_pos (by omega)]; exact hl _ _ hx
  · cases hx
def tb (m : Nat) (j : Nat) : Bool := Nat.testBit m j
def apart (r q : Rec) : Prop := (∀ id x, lookD r.dl id = some x → id ∉ q.rd) ∧ (∀ id x, lookD q.dl id = some x → id ∉ r.rd) ∧ (∀ d, r.dst = some d → d ∉ q.lk) ∧ (∀ d, q.dst = some d → d ∉ r.lk)
structure RecOk (P : Program) (ops : Array Oper) (g0 : Gm) (e0 : Nat → Option V) (n0 : Nat) (nt : Nat) (rest : List Rec) (r : Rec) : Prop where
  op : ∃ o, ops[rest.length]? = some o ∧ o.dst = r.dst ∧ ∃ ej : Ev, (∀ t c, ej.get t = some c → t ∈ r.lk ∧ ER e0 (tb r.msk) rest t = some c) ∧
      ((wantV ops ej o = some false ∧ r.v = .sc undef ∧ r.dl = [] ∧ r.n' = r.n) ∨
       (wantV ops ej o = some true ∧ ∃ hin hout : Hp, Wp P o ej r.n hin r.v r.n' hout ∧ (∀ id b, hin.get id = some b → id ∈ r.rd ∧ HR g0 (tb r.msk) rest id = some b) ∧ (∀ id, hout.get id = match lookD r.dl id with | some x => x | none => hin.get id) ∧
        (∀ id x, lookD r.dl id = some x → id ∈ r.rd ∨ (r.n ≤ id ∧ id < r.n')) ∧ (∀ id, id < r.n → hin.get id = none → hout.get id = none)))
  waits : ∀ j, tb r.msk j = true → j < rest.length ∧ ∃ o, ops[rest.length]? = some o ∧ ∃ ed ∈ o.after, Region.binds .any ed = true ∧ (j = ed.on ∨ ∃ q rest', (∃ pre, rest = pre ++ q :: rest') ∧ rest'.length = ed.on ∧ tb q.msk j = true)
  dsts : ∀ d, r.dst = some d → d < nt ∧ ∀ q ∈ rest, q.dst ≠ some d
  nums : (match rest with | [] => n0 | q :: _ => q.n') = r.n ∧ r.n ≤ r.n'
  free : ∀ pre q rest', rest = pre ++ q :: rest' → tb r.msk rest'.length = false → apart r q
def AllOk (P : Program) (ops : Array Oper) (g0 : Gm) (e0 : Nat → Option V) (n0 nt : Nat) : List Rec → Prop
  | [] => True
  | r :: rest => RecOk P ops g0 e0 n0 nt rest r ∧ AllOk P ops g0 e0 n0 nt rest
def lastN (n0 : Nat) : List Rec → Nat
  | [] => n0
  | q :: _ => q.n'

section
variable {P : Program} {ops : Array Oper} {g0 : Gm} {e0 : Nat → Option V} {n0 nt : Nat}
theorem AllOk.tail {pre rest : List Rec} (h : AllOk P ops g0 e0 n0 nt (pre ++ rest)) : AllOk P ops g0 e0 n0 nt rest := by
  induction pre with
  | nil => exact h
  | cons r pre ih => exact ih h.2
theorem AllOk.at {pre rest : List Rec} {r : Rec} (h : AllOk P ops g0 e0 n0 nt (pre ++ r :: rest)) : RecOk P ops g0 e0 n0 nt rest r := (AllOk.tail h).1
theorem RecOk.num {rest : List Rec} {r : Rec} (h : RecOk P ops g0 e0 n0 nt rest r) : lastN n0 rest = r.n := by
  have := h.nums.1
  cases rest <;> exact this
theorem nums_le : ∀ {R : List Rec}, AllOk P ops g0 e0 n0 nt R → n0 ≤ lastN n0 R ∧ ∀ q ∈ R, n0 ≤ q.n ∧ q.n ≤ q.n' ∧ q.n' ≤ lastN n0 R
  | [], _ => ⟨Nat.le_refl _, by simp⟩
  | r :: rest, h => by
    obtain ⟨h1, h2⟩ := nums_le h.2
    have h3 := h.1.num
    have h4 := h.1.nums.2
    refine ⟨by show n0 ≤ r.n'; omega, fun q hq => ?_⟩
    rcases List.mem_cons.1 hq with rfl | hq
    · exact ⟨by omega, h4, Nat.le_refl _⟩
    · obtain ⟨g1, g2, g3⟩ := h2 q hq
      exact ⟨g1, g2, by show q.n' ≤ r.n'; omega⟩
theorem nums_apart {pre mid rest : List Rec} {r q : Rec} (h : AllOk P ops g0 e0 n0 nt (pre ++ r :: (mid ++ q :: rest))) : q.n' ≤ r.n := by
  have h1 := h.at.num
  have h2 := (nums_le (AllOk.tail (pre := pre ++ [r]) (by simpa using h))).2 q (by simp)
  omega
def Closed (R : List Rec) (L : Nat → Bool) : Prop := ∀ pre r rest, R = pre ++ r :: rest → L rest.length = true → ∀ j, tb r.msk j = true → L j = true

theorem hr_pre {L : Nat → Bool} {id : Nat} {rest : List Rec} : ∀ {pre : List Rec}, (∀ p1 q p2, pre = p1 ++ q :: p2 → L (p2 ++ rest).length = true → lookD q.dl id = none) → HR g0 L (pre ++ rest) id = HR g0 L rest id ∧ NR n0 L (pre ++ rest) id = NR n0 L rest id
  | [], _ => ⟨rfl, rfl⟩
  | q :: pre, h => by
    obtain ⟨h1, h2⟩ := hr_pre (pre := pre) fun p1 q' p2 hp hl => h (q :: p1) q' p2 (by rw [hp]; rfl) hl
    have h3 := h [] q pre rfl
    rw [List.cons_append, HR, NR]
    cases hl : L (pre ++ rest).length with
    | false => exact ⟨h1, h2⟩
    | true => rw [h3 hl]; exact ⟨h1, h2⟩
theorem hr_anc {L : Nat → Bool} {m : Nat} {id : Nat} : ∀ {rest : List Rec}, (∀ j, j < rest.length → tb m j = true → L j = true) → (∀ p1 q p2, rest = p1 ++ q :: p2 → tb m p2.length = false → lookD q.dl id = none) → HR g0 L rest id = HR g0 (tb m) rest id ∧ NR n0 L rest id = NR n0 (tb m) rest id
  | [], _, _ => ⟨rfl, rfl⟩
  | q :: rest, h1, h2 => by
    obtain ⟨h3, h4⟩ := hr_anc (rest := rest) (L := L) (m := m) (id := id) (fun j hj => h1 j (by simp; omega)) fun p1 q' p2 hp hl => h2 (q :: p1) q' p2 (by rw [hp]; rfl) hl
    rw [HR, HR, NR, NR]
    cases hm : tb m rest.length with
    | true => rw [h1 rest.length (by simp) hm, h3, h4]; exact ⟨rfl, rfl⟩
    | false =>
      have := h2 [] q rest rfl hm
      rw [this]
      cases L rest.length <;> exact ⟨h3, h4⟩
theorem nr_le {S : Nat → Bool} {id : Nat} : ∀ {R : List Rec}, AllOk P ops g0 e0 n0 nt R → NR n0 S R id ≤ lastN n0 R
  | [], _ => Nat.le_refl _
  | r :: rest, h => by
    have h1 := nr_le (S := S) (id := id) h.2
    have h3 := h.1.num
    have h4 := h.1.nums.2
    have h5 : lastN n0 (r :: rest) = r.n' := rfl
    rw [NR, h5]
    split
    · split <;> omega
    · omega
theorem looks {pre rest : List Rec} {r : Rec} {L : Nat → Bool} (h : AllOk P ops g0 e0 n0 nt (pre ++ r :: rest)) (hc : Closed (pre ++ r :: rest) L) (hi : L rest.length = false) (hm : ∀ j, tb r.msk j = true → L j = true) {id : Nat} {b : B} (hrd : id ∈ r.rd) (hb : HR g0 (tb r.msk) rest id = some b) :
    HR g0 L (pre ++ r :: rest) id = some b ∧ NR n0 L (pre ++ r :: rest) id ≤ r.n := by
  have hr := h.at
  have h1 := hr_pre (g0 := g0) (n0 := n0) (L := L) (id := id) (pre := pre) (rest := r :: rest) fun p1 q p2 hp hl => by
    have hq : RecOk P ops g0 e0 n0 nt (p2 ++ r :: rest) q := AllOk.at (pre := p1) (by rw [hp] at h; simpa using h)
    cases hd : lookD q.dl id with
    | none => rfl
    | some x =>
      exfalso
      cases ht : tb q.msk rest.length with
      | true => have := hc p1 q (p2 ++ r :: rest) (by rw [hp]; simp) hl _ ht; rw [hi] at this; cases this
      | false => exact (hq.free p2 r rest rfl ht).1 id x hd hrd
  have h2 := hr_anc (g0 := g0) (n0 := n0) (L := L) (m := r.msk) (id := id) (rest := rest) (fun j _ hj => hm j hj) fun p1 q p2 hp hl => by
    cases hd : lookD q.dl id with
    | none => rfl
    | some x => exact absurd hrd ((hr.free p1 q p2 hp hl).2.1 id x hd)
  have h3 : HR g0 L (r :: rest) id = HR g0 L rest id ∧ NR n0 L (r :: rest) id = NR n0 L rest id := by rw [HR, NR, hi]; exact ⟨rfl, rfl⟩
  refine ⟨by rw [h1.1, h3.1, h2.1, hb], ?_⟩
  rw [h1.2, h3.2, h2.2, ← hr.num]
  exact nr_le (AllOk.tail (pre := pre ++ [r]) (by simpa using h))
theorem er_pre {L : Nat → Bool} {t : Nat} {rest : List Rec} : ∀ {pre : List Rec}, (∀ p1 q p2, pre = p1 ++ q :: p2 → L (p2 ++ rest).length = true → q.dst ≠ some t) → ER e0 L (pre ++ rest) t = ER e0 L rest t ∧ MR n0 L (pre ++ rest) t = MR n0 L rest t
  | [], _ => ⟨rfl, rfl⟩
  | q :: pre, h => by
    obtain ⟨h1, h2⟩ := er_pre (pre := pre) fun p1 q' p2 hp hl => h (q :: p1) q' p2 (by rw [hp]; rfl) hl
    have h3 := h [] q pre rfl
    rw [List.cons_append, ER, MR]
    cases hl : L (pre ++ rest).length with
    | false => exact ⟨h1, h2⟩
    | true =>
      cases hd : q.dst with
      | none => exact ⟨h1, h2⟩
      | some d =>
        have : Nat.beq d t = false := Ab.beq_no (by rintro rfl; exact h3 hl hd)
        dsimp only
        rw [this]; exact ⟨h1, h2⟩
theorem er_anc {L : Nat → Bool} {m : Nat} {t : Nat} : ∀ {rest : List Rec}, (∀ j, j < rest.length → tb m j = true → L j = true) → (∀ p1 q p2, rest = p1 ++ q :: p2 → tb m p2.length = false → q.dst ≠ some t) → ER e0 L rest t = ER e0 (tb m) rest t ∧ MR n0 L rest t = MR n0 (tb m) rest t
  | [], _, _ => ⟨rfl, rfl⟩
  | q :: rest, h1, h2 => by
    obtain ⟨h3, h4⟩ := er_anc (rest := rest) (L := L) (m := m) (t := t) (fun j hj => h1 j (by simp; omega)) fun p1 q' p2 hp hl => h2 (q :: p1) q' p2 (by rw [hp]; rfl) hl
    rw [ER, ER, MR, MR]
    cases hm : tb m rest.length with
    | true => rw [h1 rest.length (by simp) hm, h3, h4]; exact ⟨rfl, rfl⟩
    | false =>
      have hq := h2 [] q rest rfl hm
      have : ∀ d, q.dst = some d → Nat.beq d t = false := fun d hd => Ab.beq_no (by rintro rfl; exact hq hd)
      cases L rest.length with
      | false => exact ⟨h3, h4⟩
      | true =>
        cases hd : q.dst with
        | none => exact ⟨h3, h4⟩
        | some d => dsimp only; rw [this d hd]; exact ⟨h3, h4⟩
theorem mr_le {S : Nat → Bool} {t : Nat} : ∀ {R : List Rec}, AllOk P ops g0 e0 n0 nt R → MR n0 S R t ≤ lastN n0 R
  | [], _ => Nat.le_refl _
  | r :: rest, h => by
    have h1 := mr_le (S := S) (t := t) h.2
    have h3 := h.1.num
    have h4 := h.1.nums.2
    have h5 : lastN n0 (r :: rest) = r.n' := rfl
    rw [MR, h5]
    split
    · split
      · split <;> omega
      · omega
    · omega
theorem slots {pre rest : List Rec} {r : Rec} {L : Nat → Bool} (h : AllOk P ops g0 e0 n0 nt (pre ++ r :: rest)) (hc : Closed (pre ++ r :: rest) L) (hi : L rest.length = false) (hm : ∀ j, tb r.msk j = true → L j = true) {t : Nat} {c : V} (hlk : t ∈ r.lk) (hb : ER e0 (tb r.msk) rest t = some c) :
    ER e0 L (pre ++ r :: rest) t = some c ∧ MR n0 L (pre ++ r :: rest) t ≤ r.n := by
  have hr := h.at
  have h1 := er_pre (e0 := e0) (n0 := n0) (L := L) (t := t) (pre := pre) (rest := r :: rest) fun p1 q p2 hp hl hd => by
    have hq : RecOk P ops g0 e0 n0 nt (p2 ++ r :: rest) q := AllOk.at (pre := p1) (by rw [hp] at h; simpa using h)
    cases ht : tb q.msk rest.length with
    | true => have := hc p1 q (p2 ++ r :: rest) (by rw [hp]; simp) hl _ ht; rw [hi] at this; cases this
    | false => exact (hq.free p2 r rest rfl ht).2.2.1 t hd hlk
  have h2 := er_anc (e0 := e0) (n0 := n0) (L := L) (m := r.msk) (t := t) (rest := rest) (fun j _ hj => hm j hj) fun p1 q p2 hp hl hd => (hr.free p1 q p2 hp hl).2.2.2 t hd hlk
  have h3 : ER e0 L (r :: rest) t = ER e0 L rest t ∧ MR n0 L (r :: rest) t = MR n0 L rest t := by rw [ER, MR, hi]; exact ⟨rfl, rfl⟩
  refine ⟨by rw [h1.1, h3.1, h2.1, hb], ?_⟩
  rw [h1.2, h3.2, h2.2, ← hr.num]
  exact mr_le (AllOk.tail (pre := pre ++ [r]) (by simpa using h))

def ins (L : Nat → Bool) (i : Nat) : Nat → Bool := fun j => Nat.beq j i || L j
theorem ins_self (L : Nat → Bool) (i : Nat) : ins L i i = true := by simp [ins]
theorem ins_ne {L : Nat → Bool} {i j : Nat} (h : j ≠ i) : ins L i j = L j := by simp [ins, Ab.beq_no h]
theorem hr_ins_rest {L : Nat → Bool} {i : Nat} {id : Nat} : ∀ {rest : List Rec}, rest.length ≤ i → HR g0 (ins L i) rest id = HR g0 L rest id ∧ NR n0 (ins L i) rest id = NR n0 L rest id ∧ ER e0 (ins L i) rest id = ER e0 L rest id ∧ MR n0 (ins L i) rest id = MR n0 L rest id
  | [], _ => ⟨rfl, rfl, rfl, rfl⟩
  | q :: rest, h => by
    have h : rest.length + 1 ≤ i := h
    obtain ⟨h1, h2, h3, h4⟩ := hr_ins_rest (L := L) (i := i) (id := id) (rest := rest) (by omega)
    rw [HR, HR, NR, NR, ER, ER, MR, MR, ins_ne (show rest.length ≠ i by omega), h1, h2, h3, h4]
    exact ⟨rfl, rfl, rfl, rfl⟩
theorem hr_ins_pre {L : Nat → Bool} {id : Nat} {r : Rec} {rest : List Rec} : ∀ {pre : List Rec}, (HR g0 (ins L rest.length) (r :: rest) id = HR g0 L (r :: rest) id → HR g0 (ins L rest.length) (pre ++ r :: rest) id = HR g0 L (pre ++ r :: rest) id) ∧ (NR n0 (ins L rest.length) (r :: rest) id = NR n0 L (r :: rest) id → NR n0 (ins L rest.length) (pre ++ r :: rest) id = NR n0 L (pre ++ r :: rest) id) ∧
    (ER e0 (ins L rest.length) (r :: rest) id = ER e0 L (r :: rest) id → ER e0 (ins L rest.length) (pre ++ r :: rest) id = ER e0 L (pre ++ r :: rest) id) ∧ (MR n0 (ins L rest.length) (r :: rest) id = MR n0 L (r :: rest) id → MR n0 (ins L rest.length) (pre ++ r :: rest) id = MR n0 L (pre ++ r :: rest) id)
  | [] => ⟨fun h => h, fun h => h, fun h => h, fun h => h⟩
  | q :: pre => by
    obtain ⟨h1, h2, h3, h4⟩ := hr_ins_pre (L := L) (id := id) (r := r) (rest := rest) (pre := pre)
    have hne : (pre ++ r :: rest).length ≠ rest.length := by simp; omega
    refine ⟨fun h => ?_, fun h => ?_, fun h => ?_, fun h => ?_⟩
    · rw [List.cons_append, HR, HR, ins_ne hne, h1 h]
    · rw [List.cons_append, NR, NR, ins_ne hne, h2 h]
    · rw [List.cons_append, ER, ER, ins_ne hne, h3 h]
    · rw [List.cons_append, MR, MR, ins_ne hne, h4 h]
theorem ins_same {pre rest : List Rec} {r : Rec} {L : Nat → Bool} (hi : L rest.length = false) {id : Nat} (hd : lookD r.dl id = none) : HR g0 (ins L rest.length) (pre ++ r :: rest) id = HR g0 L (pre ++ r :: rest) id ∧ NR n0 (ins L rest.length) (pre ++ r :: rest) id = NR n0 L (pre ++ r :: rest) id := by
  obtain ⟨h1, h2, _⟩ := hr_ins_pre (g0 := g0) (n0 := n0) (e0 := fun _ => none) (L := L) (id := id) (r := r) (rest := rest) (pre := pre)
  obtain ⟨g1, g2, _⟩ := hr_ins_rest (g0 := g0) (n0 := n0) (e0 := fun _ => none) (L := L) (i := rest.length) (id := id) (rest := rest) (Nat.le_refl _)
  refine ⟨h1 ?_, h2 ?_⟩
  · rw [HR, HR, ins_self, hi, hd, g1]
  · rw [NR, NR, ins_self, hi, hd, g2]
theorem ins_new {pre rest : List Rec} {r : Rec} {L : Nat → Bool} (h : AllOk P ops g0 e0 n0 nt (pre ++ r :: rest)) (hc : Closed (pre ++ r :: rest) L) (hi : L rest.length = false) {id : Nat} {x : Option B} (hd : lookD r.dl id = some x) : HR g0 (ins L rest.length) (pre ++ r :: rest) id = x ∧ NR n0 (ins L rest.length) (pre ++ r :: rest) id = r.n' := by
  have h1 := hr_pre (g0 := g0) (n0 := n0) (L := ins L rest.length) (id := id) (pre := pre) (rest := r :: rest) fun p1 q p2 hp hl => by
    have hq : RecOk P ops g0 e0 n0 nt (p2 ++ r :: rest) q := AllOk.at (pre := p1) (by rw [hp] at h; simpa using h)
    rw [ins_ne (by simp; omega)] at hl
    have hno : tb q.msk rest.length = false := by
      cases ht : tb q.msk rest.length with
      | false => rfl
      | true => have := hc p1 q (p2 ++ r :: rest) (by rw [hp]; simp) hl _ ht; rw [hi] at this; cases this
    have hap := hq.free p2 r rest rfl hno
    cases hd2 : lookD q.dl id with
    | none => rfl
    | some y =>
      exfalso
      -- it changes id: it looks at it, or made it
      obtain ⟨o, _, _, ej, _, hcase⟩ := hq.op
      have hq2 : id ∈ q.rd ∨ (q.n ≤ id ∧ id < q.n') := by
        rcases hcase with ⟨_, _, hnil, _⟩ | ⟨_, hin, hout, _, _, _, hrd, _⟩
        · rw [hnil] at hd2; cases hd2
        · exact hrd id y hd2
      rcases hq2 with hq2 | hq2
      · exact hap.2.1 id x hd hq2
      · obtain ⟨o', _, _, ej', _, hcase'⟩ := h.at.op
        have hr2 : id ∈ r.rd ∨ (r.n ≤ id ∧ id < r.n') := by
          rcases hcase' with ⟨_, _, hnil, _⟩ | ⟨_, hin, hout, _, _, _, hrd, _⟩
          · rw [hnil] at hd; cases hd
          · exact hrd id x hd
        rcases hr2 with hr2 | hr2
        · exact hap.1 id y hd2 hr2
        · have := nums_apart (pre := p1) (mid := p2) (rest := rest) (r := q) (q := r) (by rw [hp] at h; simpa using h)
          omega
  rw [h1.1, h1.2, HR, NR, ins_self, hd]
  exact ⟨rfl, rfl⟩
theorem ins_slot {pre rest : List Rec} {r : Rec} {L : Nat → Bool} (h : AllOk P ops g0 e0 n0 nt (pre ++ r :: rest)) (hi : L rest.length = false) {t : Nat} : (r.dst = some t → ER e0 (ins L rest.length) (pre ++ r :: rest) t = some r.v ∧ MR n0 (ins L rest.length) (pre ++ r :: rest) t = r.n') ∧ (r.dst ≠ some t → ER e0 (ins L rest.length) (pre ++ r :: rest) t = ER e0 L (pre ++ r :: rest) t ∧ MR n0 (ins L rest.length) (pre ++ r :: rest) t = MR n0 L (pre ++ r :: rest) t) := by
  obtain ⟨_, _, g3, g4⟩ := hr_ins_rest (g0 := g0) (n0 := n0) (e0 := e0) (L := L) (i := rest.length) (id := t) (rest := rest) (Nat.le_refl _)
  refine ⟨fun hd => ?_, fun hd => ?_⟩
  · have h1 := er_pre (e0 := e0) (n0 := n0) (L := ins L rest.length) (t := t) (pre := pre) (rest := r :: rest) fun p1 q p2 hp hl hdq => by
      have hq : RecOk P ops g0 e0 n0 nt (p2 ++ r :: rest) q := AllOk.at (pre := p1) (by rw [hp] at h; simpa using h)
      exact (hq.dsts t hdq).2 r (by simp) hd
    rw [h1.1, h1.2, ER, MR, ins_self, hd]
    dsimp only
    rw [Ab.beq_yes]
    exact ⟨rfl, rfl⟩
  · obtain ⟨_, _, h3, h4⟩ := hr_ins_pre (g0 := g0) (n0 := n0) (e0 := e0) (L := L) (id := t) (r := r) (rest := rest) (pre := pre)
    refine ⟨h3 ?_, h4 ?_⟩
    · rw [ER, ER, ins_self, hi, g3]
      cases hdd : r.dst with
      | none => rfl
      | some d => dsimp only; rw [Ab.beq_no (by rintro rfl; exact hd hdd)]
    · rw [MR, MR, ins_self, hi, g4]
      cases hdd : r.dst with
      | none => rfl
      | some d => dsimp only; rw [Ab.beq_no (by rintro rfl; exact hd hdd)]
end
end Go.Proofs.YtdbeblhifnfocaaGreatDoor.Rn

namespace Go.Proofs.YtdbeblhifnfocaaGreatDoor.Rn
set_option linter.unusedVariables false
open Go.RowKit
open Go.Proofs.YtdbeblhifnfocaaGreatDoor.Ab (TE TTab tlook TabOk TFacts win setW setW_get win_get Sh)

structure Mid (Df : List Deferred) (n0 nt : Nat) (g0 : Gm) (e0 : Nat → Option V) (R : List Rec) (L : Nat → Bool) (ι0 : Io) (w0 : World) (ι : Io) (a : Act) (w : World) : Prop where
  blk : ∀ id b, HR g0 L R id = some b → ∃ r m, ι id = some (r, m) ∧ id < NR n0 L R id ∧ BRel (ι.cut (NR n0 L R id)) w b r m
  inj : ∀ i j b b' r m m', HR g0 L R i = some b → HR g0 L R j = some b' → ι i = some (r, m) → ι j = some (r, m') → i = j
  env : ∀ t v, ER e0 L R t = some v → ∃ u, a.tmps[t]? = some u ∧ VRel (ι.cut (MR n0 L R t)) v u
  sup : ∀ id, ι id ≠ none → id < n0 ∨ ∃ pre r rest, R = pre ++ r :: rest ∧ L rest.length = true ∧ r.n ≤ id ∧ id < r.n'
  ex : Ex n0 (lastN n0 R) ι0 g0 w0 ι (HR g0 L R) w
  defers : a.defers = Df
  size : nt ≤ a.tmps.size
theorem cut_get {ι : Io} {N id : Nat} (h : id < N) : ι.cut N id = ι id := by unfold Io.cut; rw [if_pos h]
section
variable {P : Program} {ops : Array Oper} {g0 : Gm} {e0 : Nat → Option V} {n0 nt : Nat}
theorem Mid.step {Df : List Deferred} {R pre rest : List Rec} {r : Rec} {L : Nat → Bool} {ι0 ι : Io} {w0 w : World} {a : Act} (hR : R = pre ++ r :: rest) (h : AllOk P ops g0 e0 n0 nt R) (hc : Closed R L) (hi : L rest.length = false) (hm : ∀ j, tb r.msk j = true → L j = true) (M : Mid Df n0 nt g0 e0 R L ι0 w0 ι a w)
    {o : Oper} (ho : ops[rest.length]? = some o) (K : Act → World → Prop) (Q : Exit → Act → World → Prop) (hK : ∀ ι' a' w', Mid Df n0 nt g0 e0 R (ins L rest.length) ι0 w0 ι' a' w' → K a' w') :
    if Region.wanted o (yielded ops a.tmps) then o.wp P a w K Q else K (a.put o.dst undef) w := by
  subst hR
  have hr := h.at
  obtain ⟨o', ho', hdst, ej, hej, hcase⟩ := hr.op
  rw [ho] at ho'
  cases ho'
  -- the numbers of this one are not given yet
  have hfree : ∀ id, r.n ≤ id → id < r.n' → ι id = none := fun id h1 h2 => by
    cases hx : ι id with
    | none => rfl
    | some x =>
      exfalso
      have hn := (nums_le h).2 r (by simp)
      rcases M.sup id (by rw [hx]; simp) with h3 | ⟨p1, q, p2, hq, hl, h4, h5⟩
      · omega
      · -- another one's range
        rcases Nat.lt_trichotomy p2.length rest.length with hlt | heq | hgt
        · have : ∃ mid, rest = mid ++ q :: p2 := by
            have e1 : (pre ++ r :: rest).drop ((pre ++ r :: rest).length - (p2.length + 1)) = q :: p2 := by rw [hq]; simp
            have e2 : (pre ++ r :: rest).drop ((pre ++ r :: rest).length - (p2.length + 1)) = rest.drop (rest.length - (p2.length + 1)) := by
              have : (pre ++ r :: rest).length - (p2.length + 1) = (pre ++ [r]).length + (rest.length - (p2.length + 1)) := by simp; omega
              rw [this, show pre ++ r :: rest = (pre ++ [r]) ++ rest by simp, List.drop_length_add_append]
            refine ⟨rest.take (rest.length - (p2.length + 1)), ?_⟩
            rw [← e1, e2, List.take_append_drop]
          obtain ⟨mid, rfl⟩ := this
          have := nums_apart h
          omega
        · have : q = r := by
            have e1 : (pre ++ r :: rest)[(pre ++ r :: rest).length - (rest.length + 1)]? = some r := by
              rw [List.getElem?_append_right (by simp)]; simp
            have e2 : (p1 ++ q :: p2)[(p1 ++ q :: p2).length - (p2.length + 1)]? = some q := by
              rw [List.getElem?_append_right (by simp)]; simp
            rw [hq, ← heq, e2] at e1
            exact Option.some.inj e1
          subst this
          rw [heq, hi] at hl; cases hl
        · have : ∃ mid, p2 = mid ++ r :: rest := by
            have e1 : (p1 ++ q :: p2).drop ((p1 ++ q :: p2).length - (rest.length + 1)) = r :: rest := by rw [← hq]; simp
            have e2 : (p1 ++ q :: p2).drop ((p1 ++ q :: p2).length - (rest.length + 1)) = p2.drop (p2.length - (rest.length + 1)) := by
              have : (p1 ++ q :: p2).length - (rest.length + 1) = (p1 ++ [q]).length + (p2.length - (rest.length + 1)) := by simp; omega
              rw [this, show p1 ++ q :: p2 = (p1 ++ [q]) ++ p2 by simp, List.drop_length_add_append]
            refine ⟨p2.take (p2.length - (rest.length + 1)), ?_⟩
            rw [← e1, e2, List.take_append_drop]
          obtain ⟨mid, rfl⟩ := this
          rw [hq] at h
          have := nums_apart h
          omega
  -- the slots that it looks at
  have hE : ERel (ι.cut r.n) ej a := fun t c ht => by
    obtain ⟨h1, h2⟩ := hej t c ht
    obtain ⟨h3, h4⟩ := slots h hc hi hm h1 h2
    obtain ⟨u, h5, h6⟩ := M.env t c h3
    exact ⟨u, h5, h6.mono (cut_mono h4 fun _ _ h => h)⟩
  have hnn := hr.nums.2
  have hlast := (nums_le h).2 r (by simp)
  have hsup : ∀ id, (id < n0 ∨ ∃ p1 q p2, pre ++ r :: rest = p1 ++ q :: p2 ∧ L p2.length = true ∧ q.n ≤ id ∧ id < q.n') → (id < n0 ∨ ∃ p1 q p2, pre ++ r :: rest = p1 ++ q :: p2 ∧ ins L rest.length p2.length = true ∧ q.n ≤ id ∧ id < q.n') := fun id hh => by
    rcases hh with h3 | ⟨p1, q, p2, hq, hl, h4⟩
    · exact .inl h3
    · refine .inr ⟨p1, q, p2, hq, ?_, h4⟩
      by_cases he : p2.length = rest.length
      · rw [he, ins_self]
      · rw [ins_ne he]; exact hl
  rcases hcase with ⟨hw, hv, hdl, hn'⟩ | ⟨hw, hin, hout, hwp, hh, hho, hrd, _⟩
  · -- it is left out
    rw [wantV_rel hE hw]
    refine hK ι _ w ?_
    have hsame := fun id => ins_same (g0 := g0) (n0 := n0) (pre := pre) (r := r) hi (id := id) (by rw [hdl]; rfl)
    have e1 : HR g0 (ins L rest.length) (pre ++ r :: rest) = HR g0 L (pre ++ r :: rest) := funext fun id => (hsame id).1
    refine ⟨fun id b hb => ?_, ?_, fun t v ht => ?_, fun id hid => hsup id (M.sup id hid), by rw [e1]; exact M.ex, by rw [Ab.put_defers]; exact M.defers, by rw [Ab.put_size]; exact M.size⟩
    · rw [(hsame id).2]; rw [e1] at hb; exact M.blk id b hb
    · rw [e1]; exact M.inj
    · by_cases hd : r.dst = some t
      · obtain ⟨h1, h2⟩ := (ins_slot (e0 := e0) h hi (t := t)).1 hd
        rw [h1] at ht
        cases ht
        have := (hr.dsts t hd).1
        have hlt : t < a.tmps.size := Nat.lt_of_lt_of_le this M.size
        exact ⟨undef, by rw [hdst, hd]; simp [Act.put, hlt], by rw [hv]; exact .sc _⟩
      · obtain ⟨h1, h2⟩ := (ins_slot (e0 := e0) h hi (t := t)).2 hd
        rw [h1] at ht
        obtain ⟨u, h3, h4⟩ := M.env t v ht
        refine ⟨u, ?_, by rw [h2]; exact h4⟩
        rw [hdst]
        cases hdd : r.dst with
        | none => exact h3
        | some d =>
          have : d ≠ t := by rintro rfl; exact hd hdd
          simp [Act.put, Array.getElem?_setIfInBounds_ne this, h3]
  · rw [wantV_rel hE hw, if_pos rfl]
    have hin2 : ∀ id b, hin.get id = some b → HR g0 L (pre ++ r :: rest) id = some b ∧ NR n0 L (pre ++ r :: rest) id ≤ r.n := fun id b hb => looks h hc hi hm (hh id b hb).1 (hh id b hb).2
    have hH : HRel (ι.cut r.n) hin.get w := by
      refine ⟨fun id b hb => ?_, fun i j b b' rr m m' h1 h2 h3 h4 => M.inj i j b b' rr m m' (hin2 i b h1).1 (hin2 j b' h2).1 (cut_le _ _ _ _ h3) (cut_le _ _ _ _ h4)⟩
      obtain ⟨h1, h2⟩ := hin2 id b hb
      obtain ⟨rr, m, h3, h4, h5⟩ := M.blk id b h1
      exact ⟨rr, m, by rw [cut_get (by omega)]; exact h3, h5.mono (cut_mono h2 fun _ _ h => h) rfl⟩
    have hF : Free (ι.cut r.n) r.n r.n' := fun id hid => by unfold Io.cut; rw [if_neg (by omega)]
    refine hwp (ι.cut r.n) a w ⟨hH, hE, hF⟩ K Q fun ι' u w' hv hH' hX => ?_
    have F3 := hX.io hF
    obtain ⟨ιn, hιn⟩ : ∃ ιn : Io, ιn = fun id => if r.n ≤ id ∧ id < r.n' then ι' id else ι id := ⟨_, rfl⟩
    have F1 : ιn.cut r.n' = ι' := by
      funext id
      unfold Io.cut
      rw [hιn]
      dsimp only
      by_cases h1 : id < r.n'
      · rw [if_pos h1]
        by_cases h2 : r.n ≤ id
        · rw [if_pos ⟨h2, h1⟩]
        · rw [if_neg (by omega), hX.same id (by omega), cut_get (by omega)]
      · rw [if_neg h1, hX.same id (by omega)]
        unfold Io.cut; rw [if_neg (by omega)]
    have F2 : Io.le ι ιn := fun id x hx => by
      rw [hιn]
      dsimp only
      split
      · rename_i h1; rw [hfree id h1.1 h1.2] at hx; cases hx
      · exact hx
    have F4 : ∀ id x, ι' id = some x → ιn id = some x := fun id x hx => cut_le ιn r.n' id x (by rw [F1]; exact hx)
    -- each living block: one that it had, or one beside
    have cls : ∀ id b, HR g0 (ins L rest.length) (pre ++ r :: rest) id = some b →
        (hout.get id = some b ∧ (∃ x, ι' id = some x)) ∨ (hin.get id = none ∧ lookD r.dl id = none ∧ HR g0 L (pre ++ r :: rest) id = some b) := fun id b hb => by
      cases hd : lookD r.dl id with
      | some x =>
        have := (ins_new (g0 := g0) h hc hi hd).1
        rw [hb] at this
        have hg : hout.get id = some b := by rw [hho, hd]; exact this.symm
        obtain ⟨rr, m, h1, _⟩ := hH'.blk id b hg
        exact .inl ⟨hg, _, h1⟩
      | none =>
        have hs := (ins_same (g0 := g0) (n0 := n0) (pre := pre) (r := r) hi (id := id) hd).1
        rw [hb] at hs
        cases hg : hin.get id with
        | none => exact .inr ⟨rfl, rfl, hs.symm⟩
        | some b' =>
          have := (hin2 id b' hg).1
          rw [← hs] at this
          cases this
          have hg2 : hout.get id = some b := by rw [hho, hd]; exact hg
          obtain ⟨rr, m, h1, _⟩ := hH'.blk id b hg2
          exact .inl ⟨hg2, _, h1⟩
    -- a block that lay there before, and is one of its own, is one of those that it had
    have had : ∀ id b rr m, hout.get id = some b → ι' id = some (rr, m) → rr < w.heap.size → ∃ k b' m', hin.get k = some b' ∧ ι k = some (rr, m') ∧ HR g0 L (pre ++ r :: rest) k = some b' := fun id b rr m h1 h2 h3 => by
      obtain ⟨k, b', m', h4, h5⟩ := hX.old id b rr m h1 h2 h3
      exact ⟨k, b', m', h4, cut_le _ _ _ _ h5, (hin2 k b' h4).1⟩
    refine hK ιn _ w' ⟨fun id b hb => ?_, fun i j b b' rr m m' h1 h2 h3 h4 => ?_, fun t v ht => ?_, fun id hid => ?_, ?_, by rw [Ab.put_defers]; exact M.defers, by rw [Ab.put_size]; exact M.size⟩
    · cases hd : lookD r.dl id with
      | some x =>
        obtain ⟨g1, g2⟩ := ins_new (g0 := g0) h hc hi hd
        rw [hb] at g1
        have hg : hout.get id = some b := by rw [hho, hd]; exact g1.symm
        obtain ⟨rr, m, q1, q2⟩ := hH'.blk id b hg
        refine ⟨rr, m, F4 _ _ q1, ?_, by rw [g2, F1]; exact q2⟩
        rw [g2]
        rcases Nat.lt_or_ge id r.n' with h1 | h1
        · exact h1
        · rw [← F1] at q1; unfold Io.cut at q1; rw [if_neg (by omega)] at q1; cases q1
      | none =>
        obtain ⟨g1, g2⟩ := ins_same (g0 := g0) (n0 := n0) (pre := pre) (r := r) hi (id := id) hd
        rw [g1] at hb
        rw [g2]
        obtain ⟨rr, m, q1, q2, q3⟩ := M.blk id b hb
        refine ⟨rr, m, F2 _ _ q1, q2, ?_⟩
        cases hg : hin.get id with
        | none =>
          refine q3.mono (cut_mono (Nat.le_refl _) F2) (hX.mem rr q3.lt fun id2 b2 m2 k1 k2 => ?_)
          have := M.inj id2 id b2 b rr m2 m (hin2 id2 b2 k1).1 hb (cut_le _ _ _ _ k2) q1
          subst this
          rw [hg] at k1; cases k1
        | some b' =>
          obtain ⟨k1, k2⟩ := hin2 id b' hg
          rw [hb] at k1
          cases k1
          have hg2 : hout.get id = some b := by rw [hho, hd]; exact hg
          obtain ⟨rr', m', k3, k4⟩ := hH'.blk id b hg2
          have k5 : (ι.cut r.n) id = some (rr, m) := by rw [cut_get (by omega)]; exact q1
          rw [F3 _ _ k5] at k3
          cases k3
          have hle : Io.le (ι.cut (NR n0 L (pre ++ r :: rest) id)) ι' := fun j x hx => F3 _ _ (cut_mono k2 (fun _ _ h => h) j x hx)
          exact (q3.back hle k4).mono (cut_mono (Nat.le_refl _) F2) rfl
    · rcases cls i b h1 with ⟨a1, x1, a2⟩ | ⟨b1, b2, b3⟩ <;> rcases cls j b' h2 with ⟨c1, x2, c2⟩ | ⟨d1, d2, d3⟩
      · have e1 := F4 _ _ a2; have e2 := F4 _ _ c2
        rw [h3] at e1; rw [h4] at e2
        cases e1; cases e2
        exact hH'.inj i j b b' rr m m' a1 c1 a2 c2
      · have e1 := F4 _ _ a2
        rw [h3] at e1; cases e1
        obtain ⟨rr2, m2, q1, _, q3⟩ := M.blk j b' d3
        have e2 := F2 _ _ q1
        rw [h4] at e2; cases e2
        obtain ⟨k, bk, mk, k1, k2, k3⟩ := had i b rr m a1 a2 q3.lt
        have := M.inj j k b' bk rr m' mk d3 k3 q1 k2
        subst this
        rw [d1] at k1; cases k1
      · have e1 := F4 _ _ c2
        rw [h4] at e1; cases e1
        obtain ⟨rr2, m2, q1, _, q3⟩ := M.blk i b b3
        have e2 := F2 _ _ q1
        rw [h3] at e2; cases e2
        obtain ⟨k, bk, mk, k1, k2, k3⟩ := had j b' rr m' c1 c2 q3.lt
        have := M.inj i k b bk rr m mk b3 k3 q1 k2
        subst this
        rw [b1] at k1; cases k1
      · obtain ⟨rr2, m2, q1, _, q3⟩ := M.blk i b b3
        obtain ⟨rr3, m3, q4, _, q5⟩ := M.blk j b' d3
        have e1 := F2 _ _ q1; rw [h3] at e1; cases e1
        have e2 := F2 _ _ q4; rw [h4] at e2; cases e2
        exact M.inj i j b b' rr m m' b3 d3 q1 q4
    · by_cases hd : r.dst = some t
      · obtain ⟨h1, h2⟩ := (ins_slot (e0 := e0) h hi (t := t)).1 hd
        rw [h1] at ht
        cases ht
        have := (hr.dsts t hd).1
        have hlt : t < a.tmps.size := Nat.lt_of_lt_of_le this M.size
        exact ⟨u, by rw [hdst, hd]; simp [Act.put, hlt], by rw [h2, F1]; exact hv⟩
      · obtain ⟨h1, h2⟩ := (ins_slot (e0 := e0) h hi (t := t)).2 hd
        rw [h1] at ht
        obtain ⟨u', h3, h4⟩ := M.env t v ht
        refine ⟨u', ?_, by rw [h2]; exact h4.mono (cut_mono (Nat.le_refl _) F2)⟩
        rw [hdst]
        cases hdd : r.dst with
        | none => exact h3
        | some d =>
          have : d ≠ t := by rintro rfl; exact hd hdd
          simp [Act.put, Array.getElem?_setIfInBounds_ne this, h3]
    · rw [hιn] at hid
      dsimp only at hid
      split at hid
      · rename_i h1; exact .inr ⟨pre, r, rest, rfl, ins_self _ _, h1.1, h1.2⟩
      · exact hsup id (M.sup id hid)
    · have X0 := M.ex
      refine ⟨hX.os.trans X0.os, hX.tape.trans X0.tape, hX.output.trans X0.output, Nat.le_trans X0.size hX.size, X0.le, fun id hid => ?_, fun rr hrr hn => ?_, fun id b rr m k1 k2 k3 => ?_⟩
      · rw [hιn]
        dsimp only
        rw [if_neg (by omega)]
        exact X0.same id hid
      · rw [hX.mem rr (Nat.lt_of_lt_of_le hrr X0.size) fun id b m k1 k2 => ?_]
        · exact X0.mem rr hrr hn
        · obtain ⟨j, b', m', k3, k4⟩ := X0.old id b rr m (hin2 id b k1).1 (cut_le _ _ _ _ k2) hrr
          exact hn j b' m' k3 k4
      · rcases cls id b k1 with ⟨a1, x1, a2⟩ | ⟨b1, b2, b3⟩
        · have e1 := F4 _ _ a2
          rw [k2] at e1; cases e1
          obtain ⟨k, bk, mk, q1, q2, q3⟩ := had id b rr m a1 a2 (Nat.lt_of_lt_of_le k3 X0.size)
          exact X0.old k bk rr mk q3 q2 k3
        · obtain ⟨rr2, m2, q1, _, q3⟩ := M.blk id b b3
          have e1 := F2 _ _ q1; rw [k2] at e1; cases e1
          exact X0.old id b rr m b3 q1 k3

def setL (listed : Array Bool) : Nat → Bool := fun j => listed.getD j false
theorem setL_ins {listed : Array Bool} {i : Nat} (h : i < listed.size) : setL (listed.setIfInBounds i true) = ins (setL listed) i := by
  funext j
  unfold setL ins
  by_cases hj : j = i
  · subst hj; simp [h]
  · rw [Ab.beq_no hj, Bool.false_or]; exact getD_set_ne false (Ne.symm hj)
theorem at_of {α : Type} {R : List α} {i : Nat} (h : i < R.length) : ∃ pre r rest, R = pre ++ r :: rest ∧ rest.length = i := by
  refine ⟨R.take (R.length - (i + 1)), R[R.length - (i + 1)], R.drop (R.length - i), ?_, by simp; omega⟩
  have : R.drop (R.length - (i + 1)) = R[R.length - (i + 1)] :: R.drop (R.length - (i + 1) + 1) := List.drop_eq_getElem_cons (by omega)
  rw [show R.length - i = R.length - (i + 1) + 1 by omega, ← this, List.take_append_drop]
def cnt (L : Nat → Bool) : Nat → Nat
  | 0 => 0
  | n + 1 => cnt L n + cond (L n) 0 1
theorem cnt_ins {L : Nat → Bool} {i : Nat} (hi : L i = false) : ∀ n, (n ≤ i → cnt (ins L i) n = cnt L n) ∧ (i < n → cnt (ins L i) n + 1 = cnt L n)
  | 0 => ⟨fun _ => rfl, fun h => by omega⟩
  | n + 1 => by
    obtain ⟨h1, h2⟩ := cnt_ins hi n
    rw [cnt, cnt]
    refine ⟨fun h => ?_, fun h => ?_⟩
    · rw [h1 (by omega), ins_ne (by omega)]
    · by_cases he : n = i
      · subst he; rw [h1 (Nat.le_refl _), ins_self, hi]; rfl
      · rw [ins_ne he]
        have := h2 (by omega)
        omega
theorem cnt_zero {L : Nat → Bool} : ∀ {n}, cnt L n = 0 → ∀ i, i < n → L i = true
  | n + 1, h, i, hi => by
    rw [cnt] at h
    by_cases he : i = n
    · subst he
      cases hl : L i with
      | true => rfl
      | false => rw [hl] at h; simp at h
    · exact cnt_zero (n := n) (by omega) i (by omega)
theorem any_good {Df : List Deferred} {R : List Rec} (h : AllOk P ops g0 e0 n0 nt R) (hlen : R.length = ops.size) (hed : ∀ i o, ops[i]? = some o → ∀ ed ∈ o.after, Region.binds .any ed = true → ed.on < i) {ι0 : Io} {w0 : World} {Q : Exit → Act → World → Prop} (hQ : ∀ ι a w L, (∀ j, j < R.length → L j = true) → Mid Df n0 nt g0 e0 R L ι0 w0 ι a w → Q .normal a w) :
    ∀ (fuel : Nat) (listed : Array Bool) (ι : Io) (a : Act) (w : World), listed.size = ops.size → Closed R (setL listed) → Mid Df n0 nt g0 e0 R (setL listed) ι0 w0 ι a w → cnt (setL listed) ops.size ≤ fuel → wpAny P .any ops Q fuel listed a w := by
  have hgd : ∀ (listed : Array Bool) j, j < listed.size → listed.getD j true = setL listed j := fun listed j hj => by
    unfold setL; simp [Array.getD, hj]
  have done : ∀ (listed : Array Bool) (ι : Io) (a : Act) (w : World), listed.size = ops.size → Closed R (setL listed) → Mid Df n0 nt g0 e0 R (setL listed) ι0 w0 ι a w → Region.ready .any ops listed = [] → Q .normal a w := by
    intro listed ι a w hsz hc M hr
    refine hQ ι a w (setL listed) ?_ M
    -- else the least one that is not listed is ready
    intro j
    induction j using Nat.strongRecOn with
    | _ j ih =>
      intro hj
      cases hl : setL listed j with
      | true => rfl
      | false =>
        exfalso
        have hjs : j < ops.size := by omega
        have hrj : j ∈ Region.ready .any ops listed := by
          rw [mem_ready]
          refine ⟨by rw [hgd listed j (by omega)]; exact hl, ops[j], Array.getElem?_eq_getElem _, fun ed hed' hb => ?_⟩
          have h1 := hed j _ (Array.getElem?_eq_getElem hjs) ed hed' hb
          exact ih ed.on h1 (by omega)
        rw [hr] at hrj; cases hrj
  intro fuel
  induction fuel with
  | zero =>
    intro listed ι a w hsz hc M hcnt
    have hall := cnt_zero (Nat.le_zero.1 hcnt)
    have hr : Region.ready .any ops listed = [] := by
      apply List.eq_nil_iff_forall_not_mem.2
      intro j hj
      obtain ⟨h1, o, ho, _⟩ := mem_ready.1 hj
      have hjs : j < ops.size := (Array.getElem?_eq_some_iff.1 ho).1
      rw [hgd listed j (by omega), hall j hjs] at h1
      cases h1
    exact ⟨hr, done listed ι a w hsz hc M hr⟩
  | succ fuel ih =>
    intro listed ι a w hsz hc M hcnt
    refine ⟨done listed ι a w hsz hc M, fun i hi => ?_⟩
    obtain ⟨h1, o, ho, hall⟩ := mem_ready.1 hi
    have his : i < ops.size := (Array.getElem?_eq_some_iff.1 ho).1
    rw [hgd listed i (by omega)] at h1
    obtain ⟨pre, r, rest, hR, hri⟩ := at_of (R := R) (i := i) (by omega)
    subst hri
    have hr : RecOk P ops g0 e0 n0 nt rest r := by rw [hR] at h; exact h.at
    have hm : ∀ j, tb r.msk j = true → setL listed j = true := fun j hj => by
      obtain ⟨hlt, o', ho', ed, hed', hb, hcase⟩ := hr.waits j hj
      rw [ho] at ho'
      cases ho'
      have hl : setL listed ed.on = true := hall ed hed' hb
      rcases hcase with rfl | ⟨q, rest', ⟨p2, hp2⟩, hlen', hq⟩
      · exact hl
      · refine hc (pre ++ r :: p2) q rest' (by rw [hR, hp2]; simp) (by rw [hlen']; exact hl) j hq
    unfold wpOp
    simp only [ho]
    have key := Mid.step hR h hc h1 hm M ho (wpAny P .any ops Q fuel (listed.setIfInBounds rest.length true)) Q fun ι' a' w' M' => by
      have e1 : setL (listed.setIfInBounds rest.length true) = ins (setL listed) rest.length := setL_ins (by omega)
      refine ih _ ι' a' w' (by simpa using hsz) ?_ (by rw [e1]; exact M') ?_
      · rw [e1]
        intro p1 q p2 hq hl j hj
        by_cases he : p2.length = rest.length
        · have : q = r := by
            have a1 : R[R.length - (rest.length + 1)]? = some r := by rw [hR, List.getElem?_append_right (by simp)]; simp
            have a2 : R[R.length - (p2.length + 1)]? = some q := by rw [hq, List.getElem?_append_right (by simp)]; simp
            rw [he, a1] at a2
            exact (Option.some.inj a2).symm
          subst this
          by_cases hj2 : j = rest.length
          · rw [hj2, ins_self]
          · rw [ins_ne hj2]; exact hm j hj
        · rw [ins_ne he] at hl
          by_cases hj2 : j = rest.length
          · rw [hj2, ins_self]
          · rw [ins_ne hj2]; exact hc p1 q p2 hq hl j hj
      · rw [e1]
        have := (cnt_ins h1 ops.size).2 his
        omega
    split at key
    · rename_i hw; rw [if_pos hw]; exact .inl key
    · rename_i hw; rw [if_neg hw]; exact key
end
end Go.Proofs.YtdbeblhifnfocaaGreatDoor.Rn

namespace Go.Proofs.YtdbeblhifnfocaaGreatDoor.Rn
set_option linter.unusedVariables false
open Go.RowKit
open Go.Proofs.YtdbeblhifnfocaaGreatDoor.Ab (TE TTab tlook TabOk TFacts win setW setW_get win_get Sh)

def ERk (e0 : Ev) (m : Nat) : List Rec → Nat → Nat → Option V
  | [], _, t => e0.get t
  | r :: rest, k, t => match tb m (k - 1) with
    | true => match r.dst with
      | some d => match Nat.beq d t with
        | true => some r.v
        | false => ERk e0 m rest (k - 1) t
      | none => ERk e0 m rest (k - 1) t
    | false => ERk e0 m rest (k - 1) t
theorem ERk_eq {e0 : Ev} {m t : Nat} : ∀ {R : List Rec} {k : Nat}, k = R.length → ERk e0 m R k t = ER e0.get (tb m) R t
  | [], _, _ => rfl
  | r :: rest, k, hk => by
    have hk : k - 1 = rest.length := by simp at hk; omega
    rw [ERk, ER, hk, ERk_eq rfl]
    all_goals cases tb m rest.length with
      | false => rfl
      | true => cases r.dst with
        | none => rfl
        | some d => dsimp only; cases Nat.beq d t <;> rfl
def HRk (h0 : Hp) (m : Nat) : List Rec → Nat → Nat → Option B
  | [], _, id => h0.get id
  | r :: rest, k, id => match tb m (k - 1) with
    | true => match lookD r.dl id with
      | some x => x
      | none => HRk h0 m rest (k - 1) id
    | false => HRk h0 m rest (k - 1) id
theorem HRk_eq {h0 : Hp} {m id : Nat} : ∀ {R : List Rec} {k : Nat}, k = R.length → HRk h0 m R k id = HR h0.get (tb m) R id
  | [], _, _ => rfl
  | r :: rest, k, hk => by
    have hk : k - 1 = rest.length := by simp at hk; omega
    rw [HRk, HR, hk, HRk_eq rfl]
    all_goals cases tb m rest.length with
      | false => rfl
      | true => cases lookD r.dl id <;> rfl
def msks (rest : List Rec) (k : Nat) : List Edge → Option Nat
  | [] => some 0
  | ed :: r => match msks rest k r with
    | some m => match Region.binds .any ed with
      | true => match Nat.blt ed.on k with
        | true => match rest[k - 1 - ed.on]? with
          | some q => some (m ||| 2 ^ ed.on ||| q.msk)
          | none => none
        | false => none
      | false => some m
    | none => none
theorem tb_or (a b j : Nat) : tb (a ||| b) j = (tb a j || tb b j) := by unfold tb; exact Nat.testBit_or a b j
theorem tb_pow (n j : Nat) : tb (2 ^ n) j = true → j = n := by
  unfold tb
  rw [Nat.testBit_two_pow]
  intro h; exact (of_decide_eq_true h).symm
theorem tb_zero (j : Nat) : tb 0 j = false := by unfold tb; exact Nat.zero_testBit j
theorem nth_rev {rest : List Rec} {j : Nat} {q : Rec} (h : rest[rest.length - 1 - j]? = some q) (hj : j < rest.length) : ∃ pre rest', rest = pre ++ q :: rest' ∧ rest'.length = j := by
  obtain ⟨pre, r, rest', hR, hl⟩ := at_of hj
  refine ⟨pre, rest', ?_, hl⟩
  have : rest[rest.length - 1 - j]? = some r := by
    rw [hR, List.getElem?_append_right (by simp; omega)]
    simp
    have : pre.length + rest'.length - j - pre.length = 0 := by omega
    rw [this]; rfl
  rw [this] at h; cases h; exact hR
theorem msks_spec {rest : List Rec} {k : Nat} (hk : k = rest.length) : ∀ {l : List Edge} {m : Nat}, msks rest k l = some m → (∀ ed ∈ l, Region.binds .any ed = true → ed.on < k) ∧ ∀ j, tb m j = true → ∃ ed ∈ l, Region.binds .any ed = true ∧ ed.on < k ∧ (j = ed.on ∨ ∃ q rest', (∃ pre, rest = pre ++ q :: rest') ∧ rest'.length = ed.on ∧ tb q.msk j = true)
  | [], m, h => by cases h; exact ⟨by simp, fun j hj => by rw [tb_zero] at hj; cases hj⟩
  | ed :: r, m, h => by
    rw [msks] at h
    split at h
    · rename_i m0 h0
      obtain ⟨i1, i2⟩ := msks_spec hk h0
      split at h
      · rename_i hb
        split at h
        · rename_i hlt
          have hlt := blt_lt hlt
          split at h
          · rename_i q hq
            cases h
            refine ⟨fun e he hb' => ?_, fun j hj => ?_⟩
            · rcases List.mem_cons.1 he with rfl | he
              · exact hlt
              · exact i1 e he hb'
            · rw [tb_or, tb_or] at hj
              simp only [Bool.or_eq_true] at hj
              rcases hj with (hj | hj) | hj
              · obtain ⟨e, he, rest⟩ := i2 j hj
                exact ⟨e, by simp [he], rest⟩
              · exact ⟨ed, by simp, hb, hlt, .inl (tb_pow _ _ hj)⟩
              · subst hk
                obtain ⟨pre, rest', h1, h2⟩ := nth_rev hq hlt
                exact ⟨ed, by simp, hb, hlt, .inr ⟨q, rest', ⟨pre, h1⟩, h2, hj⟩⟩
          · cases h
        · cases h
      · rename_i hb
        cases h
        refine ⟨fun e he hb' => ?_, fun j hj => ?_⟩
        · rcases List.mem_cons.1 he with rfl | he
          · rw [hb] at hb'; cases hb'
          · exact i1 e he hb'
        · obtain ⟨e, he, rest⟩ := i2 j hj
          exact ⟨e, by simp [he], rest⟩
    · cases h
def tmpsOf : List Operand → List Nat
  | [] => []
  | .tmp t :: r => t :: tmpsOf r
  | _ :: r => tmpsOf r
def lksOf (ops : Array Oper) (o : Oper) : List Nat := match o.guard with
  | some (j, _) => match (ops[j]?).bind (·.dst) with
    | some t => t :: tmpsOf o.op.operands.toList
    | none => tmpsOf o.op.operands.toList
  | none => tmpsOf o.op.operands.toList
def mkEj (e0 : Ev) (m : Nat) (rest : List Rec) (k : Nat) : List Nat → Ev
  | [] => .nil
  | t :: r => match ERk e0 m rest k t with
    | some c => (mkEj e0 m rest k r).set t c
    | none => mkEj e0 m rest k r
theorem mkEj_spec {e0 : Ev} {m : Nat} {rest : List Rec} {k : Nat} (hk : k = rest.length) : ∀ {l : List Nat} {t : Nat} {c : V}, (mkEj e0 m rest k l).get t = some c → t ∈ l ∧ ER e0.get (tb m) rest t = some c
  | [], t, c, h => by cases h
  | s :: r, t, c, h => by
    rw [mkEj] at h
    split at h
    · rename_i c0 h0
      rw [Tr.get_set] at h
      split at h
      · rename_i hts; subst hts; cases h; exact ⟨by simp, by rw [← ERk_eq hk]; exact h0⟩
      · obtain ⟨h1, h2⟩ := mkEj_spec hk h; exact ⟨by simp [h1], h2⟩
    · obtain ⟨h1, h2⟩ := mkEj_spec hk h; exact ⟨by simp [h1], h2⟩
mutual
def V.ids : V → List Nat
  | .ptr id _ => [id]
  | .sl id _ _ _ _ => [id]
  | .mp id => [id]
  | .fn _ cs => idsL cs
  | .ifc _ v => v.ids
  | .agg cs => idsL cs
  | .tup cs => idsL cs
  | _ => []
def idsL : List V → List Nat
  | [] => []
  | c :: r => c.ids ++ idsL r
end
def entIds : List (V × V × Nat) → List Nat
  | [] => []
  | p :: r => p.1.ids ++ (p.2.1.ids ++ entIds r)
def B.ids : B → List Nat
  | .cells cs _ => idsL cs
  | .map es _ => entIds es
  | .mit (some id) _ _ _ => [id]
  | _ => []
def reach (get : Nat → Option B) : Nat → List Nat → List Nat → List Nat
  | 0, _, seen => seen
  | _ + 1, [], seen => seen
  | f + 1, id :: w, seen => match seen.contains id with
    | true => reach get f w seen
    | false => match get id with
      | some b => reach get f (b.ids ++ w) (id :: seen)
      | none => reach get f w seen
def rootIds (e : Ev) : List Operand → List Nat
  | [] => []
  | x :: r => match ev e x with
    | some v => v.ids ++ rootIds e r
    | none => rootIds e r
def midsOf (get : Nat → Option B) : List Nat → List Nat
  | [] => []
  | id :: r => match get id with
    | some (.mit (some m) _ _ _) => m :: midsOf get r
    | _ => midsOf get r
def touch (get : Nat → Option B) (e : Ev) (o : Oper) : List Nat := match o.op with
  | .call c => match c.callee with
    | .value _ => reach get 100000 (rootIds e o.op.operands.toList) []
    | _ => rootIds e o.op.operands.toList
  | .next _ _ => rootIds e o.op.operands.toList ++ midsOf get (rootIds e o.op.operands.toList)
  | .move _ => []
  | .assign _ => []
  | .indexAddr _ x _ => match ev e x with
    | some (.sl _ _ _ _ _) => []
    | _ => rootIds e o.op.operands.toList
  | _ => rootIds e o.op.operands.toList
def mkH (get : Nat → Option B) (n : Nat) : List Nat → Hp
  | [] => .nil
  | id :: r => match get id with
    | some b => match Nat.blt id n with
      | true => (mkH get n r).set id b
      | false => mkH get n r
    | none => mkH get n r
theorem mkH_spec {get : Nat → Option B} {n : Nat} : ∀ {l : List Nat} {id : Nat} {b : B}, (mkH get n l).get id = some b → id ∈ l ∧ get id = some b ∧ id < n
  | [], id, b, h => by cases h
  | j :: r, id, b, h => by
    rw [mkH] at h
    split at h
    · rename_i b0 h0
      split at h
      · rename_i hlt
        rw [Tr.get_set] at h
        split at h
        · rename_i hij; subst hij; cases h; exact ⟨by simp, h0, blt_lt hlt⟩
        · obtain ⟨h1, h2⟩ := mkH_spec h; exact ⟨by simp [h1], h2⟩
      · obtain ⟨h1, h2⟩ := mkH_spec h; exact ⟨by simp [h1], h2⟩
    · obtain ⟨h1, h2⟩ := mkH_spec h; exact ⟨by simp [h1], h2⟩
def rng : Nat → Nat → List Nat
  | _, 0 => []
  | n, k + 1 => n :: rng (n + 1) k
theorem mem_rng {id : Nat} : ∀ {k n : Nat}, id ∈ rng n k ↔ n ≤ id ∧ id < n + k
  | 0, n => ⟨fun h => (by cases h), fun h => by omega⟩
  | k + 1, n => by rw [rng, List.mem_cons, mem_rng (k := k)]; omega
def geOf (lo : Nat) : List Nat → List Nat
  | [] => []
  | id :: r => match Nat.ble lo id with
    | true => id :: geOf lo r
    | false => geOf lo r
theorem mem_ge {lo id : Nat} : ∀ {l : List Nat}, id ∈ geOf lo l ↔ id ∈ l ∧ lo ≤ id
  | [] => by simp [geOf]
  | j :: r => by
    rw [geOf]
    split
    · rename_i hb
      have hb := Nat.le_of_ble_eq_true hb
      rw [List.mem_cons, List.mem_cons, mem_ge (l := r)]
      constructor
      · rintro (rfl | ⟨h1, h2⟩)
        · exact ⟨.inl rfl, hb⟩
        · exact ⟨.inr h1, h2⟩
      · rintro ⟨rfl | h1, h2⟩
        · exact .inl rfl
        · exact .inr ⟨h1, h2⟩
    · rename_i hb
      have hb : ¬ lo ≤ j := fun h => by rw [Nat.ble_eq_true_of_le h] at hb; cases hb
      rw [List.mem_cons, mem_ge (l := r)]
      constructor
      · rintro ⟨h1, h2⟩; exact ⟨.inr h1, h2⟩
      · rintro ⟨rfl | h1, h2⟩
        · omega
        · exact ⟨h1, h2⟩
def dlOf (get : Nat → Option B) : List Nat → List (Nat × Option B)
  | [] => []
  | id :: r => (id, get id) :: dlOf get r
theorem dlOf_spec {get : Nat → Option B} {id : Nat} : ∀ {l : List Nat}, (id ∈ l → lookD (dlOf get l) id = some (get id)) ∧ (id ∉ l → lookD (dlOf get l) id = none)
  | [] => ⟨fun h => (by cases h), fun _ => rfl⟩
  | j :: r => by
    obtain ⟨h1, h2⟩ := dlOf_spec (get := get) (id := id) (l := r)
    rw [dlOf, lookD]
    by_cases hj : j = id
    · subst hj; simp
    · simp only [Ab.beq_no hj, cond_false]
      refine ⟨fun h => h1 ((List.mem_cons.1 h).resolve_left (Ne.symm hj)), fun h => h2 fun hh => h (by simp [hh])⟩
def noneInA (rd : List Nat) : List (Nat × Option B) → Bool
  | [] => true
  | p :: r => !rd.contains p.1 && noneInA rd r
def noneIn (dl : List (Nat × Option B)) (rd : List Nat) : Bool := rd.isEmpty || noneInA rd dl
theorem noneInA_spec {rd : List Nat} : ∀ {dl : List (Nat × Option B)}, noneInA rd dl = true → ∀ id x, lookD dl id = some x → id ∉ rd
  | [], h, id, x, hl => by cases hl
  | p :: r, h, id, x, hl => by
    rw [noneInA] at h
    simp only [Bool.and_eq_true, Bool.not_eq_true'] at h
    rw [lookD] at hl
    by_cases hp : p.1 = id
    · subst hp
      intro hm
      have := List.contains_iff_mem.2 hm
      rw [this] at h; cases h.1
    · rw [Ab.beq_no hp, cond_false] at hl
      exact noneInA_spec h.2 id x hl
theorem noneIn_spec {rd : List Nat} {dl : List (Nat × Option B)} (h : noneIn dl rd = true) : ∀ id x, lookD dl id = some x → id ∉ rd := by
  unfold noneIn at h
  simp only [Bool.or_eq_true] at h
  rcases h with h | h
  · intro id x _
    cases rd with
    | nil => simp
    | cons a t => cases h
  · exact noneInA_spec h
def notIn (d : Option Tmp) (l : List Nat) : Bool := match d with
  | some t => !l.contains t
  | none => true
theorem notIn_spec {d : Option Tmp} {l : List Nat} (h : notIn d l = true) : ∀ t, d = some t → t ∉ l := fun t hd hm => by
  subst hd
  have := List.contains_iff_mem.2 hm
  rw [notIn, this] at h; cases h
def apartB (r q : Rec) : Bool := noneIn r.dl q.rd && noneIn q.dl r.rd && notIn r.dst q.lk && notIn q.dst r.lk
theorem apartB_spec {r q : Rec} (h : apartB r q = true) : apart r q := by
  unfold apartB at h
  simp only [Bool.and_eq_true] at h
  exact ⟨noneIn_spec h.1.1.1, noneIn_spec h.1.1.2, notIn_spec h.1.2, notIn_spec h.2⟩
def sameDst (a b : Option Tmp) : Bool := match a, b with
  | some x, some y => Nat.beq x y
  | _, _ => false
def freeB (r : Rec) : List Rec → Nat → Bool
  | [], _ => true
  | q :: rest, k => (tb r.msk (k - 1) || apartB r q) && !sameDst r.dst q.dst && freeB r rest (k - 1)
theorem freeB_spec {r : Rec} : ∀ {rest : List Rec} {k : Nat}, k = rest.length → freeB r rest k = true → (∀ pre q rest', rest = pre ++ q :: rest' → tb r.msk rest'.length = false → apart r q) ∧ ∀ d, r.dst = some d → ∀ q ∈ rest, q.dst ≠ some d
  | [], k, _, _ => ⟨fun pre q rest' h => by simp at h, fun d _ q hq => by cases hq⟩
  | q :: rest, k, hk, h => by
    rw [freeB] at h
    simp only [Bool.and_eq_true, Bool.or_eq_true, Bool.not_eq_true'] at h
    have hk : k - 1 = rest.length := by simp at hk; omega
    obtain ⟨h1, h2⟩ := freeB_spec hk h.2
    refine ⟨fun pre q' rest' he ht => ?_, fun d hd q' hq => ?_⟩
    · cases pre with
      | nil =>
        cases he
        rcases h.1.1 with h3 | h3
        · rw [hk, ht] at h3; cases h3
        · exact apartB_spec h3
      | cons p pre => cases he; exact h1 pre q' rest' rfl ht
    · rcases List.mem_cons.1 hq with rfl | hq
      · intro hd2
        have := h.1.2
        rw [hd, hd2] at this
        simp [sameDst] at this
      · exact h2 d hd q' hq
def dstB (nt : Nat) : Option Tmp → Bool
  | some t => Nat.blt t nt
  | none => true
structure DS where
  rs : List Rec
  k : Nat
  n : Nat
  lo : Nat
def addR (nt : Nat) (d : DS) (r : Rec) (lo : Nat) : Option DS := match dstB nt r.dst && freeB r d.rs d.k with
  | true => some ⟨r :: d.rs, d.k + 1, r.n', lo⟩
  | false => none
section
variable (P : Program) (tab : TTab)
def dstepT (call : FuncId → List V → Nat → Hp → Nat → R) (known : FuncId → Bool) (h0 : Hp) (nt : Nat) (d : DS) (o : Oper) (m : Nat) (lk : List Nat) (ej : Ev) (T : List Nat) : Option DS :=
  match rop P tab ej d.n (mkH (HRk h0 m d.rs d.k) d.n T) d.n o call known with
  | some r => match Nat.blt r.2.2.2 d.n with
    | true => addR nt d ⟨m, o.dst, r.1, dlOf r.2.2.1.get (geOf r.2.2.2 T ++ rng d.n (r.2.1 - d.n)), T, lk, d.n, r.2.1⟩ (lmin r.2.2.2 d.lo)
    | false => addR nt d ⟨m, o.dst, r.1, dlOf r.2.2.1.get (rng d.n (r.2.1 - d.n)), T, lk, d.n, r.2.1⟩ d.lo
  | none => none
def dstep (call : FuncId → List V → Nat → Hp → Nat → R) (known : FuncId → Bool) (ops : Array Oper) (e0 : Ev) (h0 : Hp) (nt : Nat) (d : DS) (o : Oper) : Option DS :=
  match msks d.rs d.k o.after.toList with
  | none => none
  | some m => match wantV ops (mkEj e0 m d.rs d.k (lksOf ops o)) o with
    | none => none
    | some false => addR nt d ⟨m, o.dst, .sc undef, [], [], lksOf ops o, d.n, d.n⟩ d.lo
    | some true => dstepT P tab call known h0 nt d o m (lksOf ops o) (mkEj e0 m d.rs d.k (lksOf ops o)) (touch (HRk h0 m d.rs d.k) (mkEj e0 m d.rs d.k (lksOf ops o)) o)
def dgo (call : FuncId → List V → Nat → Hp → Nat → R) (known : FuncId → Bool) (ops : Array Oper) (e0 : Ev) (h0 : Hp) (nt : Nat) : List Oper → DS → Option DS
  | [], d => some d
  | o :: r, d => match dstep P tab call known ops e0 h0 nt d o with
    | some d' => dgo call known ops e0 h0 nt r d'
    | none => none
def finE (e0 : Ev) : List Rec → Ev
  | [] => e0
  | r :: rest => match r.dst with
    | some d => (finE e0 rest).set d r.v
    | none => finE e0 rest
def applyD : List (Nat × Option B) → Hp → Hp
  | [], h => h
  | p :: r, h => match p.2 with
    | some b => (applyD r h).set p.1 b
    | none => (applyD r h).del p.1
def finH (h0 : Hp) : List Rec → Hp
  | [] => h0
  | r :: rest => applyD r.dl (finH h0 rest)
def rdraw (call : FuncId → List V → Nat → Hp → Nat → R) (known : FuncId → Bool) (nt : Nat) (ops : Array Oper) (s : St) : Option St :=
  match dgo P tab call known ops s.e s.h nt ops.toList ⟨[], 0, s.n, s.lo⟩ with
  | some d => some ⟨finE s.e d.rs, d.n, finH s.h d.rs, d.lo⟩
  | none => none
end
theorem finE_get {e0 : Ev} {t : Nat} : ∀ {R : List Rec}, (finE e0 R).get t = ER e0.get (fun _ => true) R t
  | [] => rfl
  | r :: rest => by
    rw [finE, ER]
    cases hd : r.dst with
    | none => exact finE_get
    | some d =>
      dsimp only
      rw [Tr.get_set]
      by_cases ht : t = d
      · subst ht; simp
      · rw [if_neg ht, Ab.beq_no (Ne.symm ht)]; exact finE_get
theorem applyD_get {id : Nat} : ∀ {dl : List (Nat × Option B)} {h : Hp}, (applyD dl h).get id = match lookD dl id with | some x => x | none => h.get id
  | [], h => rfl
  | p :: r, h => by
    rw [applyD, lookD]
    by_cases hp : p.1 = id
    · subst hp
      rw [Ab.beq_yes, cond_true]
      cases hx : p.2 with
      | some b => dsimp only; rw [Tr.get_set, if_pos rfl]
      | none => dsimp only; rw [Tr.get_del, if_pos rfl]
    · rw [Ab.beq_no hp, cond_false]
      cases hx : p.2 with
      | some b => dsimp only; rw [Tr.get_set, if_neg (Ne.symm hp)]; exact applyD_get
      | none => dsimp only; rw [Tr.get_del, if_neg (Ne.symm hp)]; exact applyD_get
theorem finH_get {h0 : Hp} {id : Nat} : ∀ {R : List Rec}, (finH h0 R).get id = HR h0.get (fun _ => true) R id
  | [] => rfl
  | r :: rest => by
    rw [finH, HR, applyD_get]
    dsimp only
    cases lookD r.dl id with
    | some x => rfl
    | none => exact finH_get
theorem all_congr {g0 : Gm} {e0 : Nat → Option V} {n0 : Nat} {L S : Nat → Bool} {id : Nat} : ∀ {R : List Rec}, (∀ j, j < R.length → L j = S j) → HR g0 L R id = HR g0 S R id ∧ ER e0 L R id = ER e0 S R id
  | [], _ => ⟨rfl, rfl⟩
  | r :: rest, h => by
    obtain ⟨h1, h2⟩ := all_congr (g0 := g0) (e0 := e0) (n0 := n0) (L := L) (S := S) (id := id) (R := rest) fun j hj => h j (by simp; omega)
    rw [HR, HR, ER, ER, h rest.length (by simp), h1, h2]
    exact ⟨rfl, rfl⟩
structure DOk (P : Program) (ops : Array Oper) (e0 : Ev) (h0 : Hp) (n0 lo0 nt : Nat) (d : DS) : Prop where
  all : AllOk P ops h0.get e0.get n0 nt d.rs
  len : d.k = d.rs.length
  num : lastN n0 d.rs = d.n
  edges : ∀ i o, i < d.k → ops[i]? = some o → ∀ ed ∈ o.after, Region.binds .any ed = true → ed.on < i
  lo : d.lo ≤ lo0
  low : ∀ r ∈ d.rs, ∀ id x, lookD r.dl id = some x → d.lo ≤ id ∨ n0 ≤ id
  bd : ∀ r ∈ d.rs, ∀ id b, lookD r.dl id = some (some b) → id < d.n
  nn : ∀ id, id < n0 → h0.get id = none → ∀ S, HR h0.get S d.rs id = none
section
variable {P : Program} {tab : TTab} {ops : Array Oper} {e0 : Ev} {h0 : Hp} {n0 lo0 nt : Nat}
theorem addR_ok {d d' : DS} {r : Rec} {lo : Nat} {o : Oper} (D : DOk P ops e0 h0 n0 lo0 nt d) (ha : addR nt d r lo = some d') (ho : ops[d.k]? = some o) (hop : ops[d.rs.length]? = some o ∧ o.dst = r.dst ∧ ∃ ej : Ev, (∀ t c, ej.get t = some c → t ∈ r.lk ∧ ER e0.get (tb r.msk) d.rs t = some c) ∧
      ((wantV ops ej o = some false ∧ r.v = .sc undef ∧ r.dl = [] ∧ r.n' = r.n) ∨
       (wantV ops ej o = some true ∧ ∃ hin hout : Hp, Wp P o ej r.n hin r.v r.n' hout ∧ (∀ id b, hin.get id = some b → id ∈ r.rd ∧ HR h0.get (tb r.msk) d.rs id = some b) ∧ (∀ id, hout.get id = match lookD r.dl id with | some x => x | none => hin.get id) ∧
        (∀ id x, lookD r.dl id = some x → id ∈ r.rd ∨ (r.n ≤ id ∧ id < r.n')) ∧ (∀ id, id < r.n → hin.get id = none → hout.get id = none))))
    (hm : msks d.rs d.k o.after.toList = some r.msk) (hn : r.n = d.n) (hnn : r.n ≤ r.n') (hlo : lo ≤ d.lo) (hlow : ∀ id x, lookD r.dl id = some x → lo ≤ id ∨ n0 ≤ id) (hbd : ∀ id b, lookD r.dl id = some (some b) → id < r.n') : DOk P ops e0 h0 n0 lo0 nt d' ∧ d'.k = d.k + 1 := by
  unfold addR at ha
  split at ha
  · rename_i hc
    cases ha
    simp only [Bool.and_eq_true] at hc
    obtain ⟨hdst, hfree⟩ := hc
    obtain ⟨f1, f2⟩ := freeB_spec D.len hfree
    obtain ⟨m1, m2⟩ := msks_spec D.len hm
    have hrec : RecOk P ops h0.get e0.get n0 nt d.rs r := by
      refine ⟨⟨o, hop⟩, fun j hj => ?_, fun t ht => ⟨?_, f2 t ht⟩, ⟨?_, hnn⟩, f1⟩
      · obtain ⟨ed, h1, h2, h3, h4⟩ := m2 j hj
        have hlen := D.len
        refine ⟨?_, o, hop.1, ed, by simpa using h1, h2, h4⟩
        rcases h4 with rfl | ⟨q, rest', ⟨pre, hp⟩, hl, hq⟩
        · omega
        · have hall := D.all
          rw [hp] at hall
          have := (hall.at.waits j hq).1
          rw [hp]; simp; omega
      · rw [ht] at hdst; exact blt_lt hdst
      · have := D.num
        rw [hn, ← this]
        cases d.rs <;> rfl
    have hnum := D.num
    refine ⟨⟨⟨hrec, D.all⟩, by simp [D.len], rfl, fun i o' hi ho' ed hed hb => ?_, by have := D.lo; dsimp only; omega, fun q hq id x hl => ?_, fun q hq id b hl => ?_, fun id hid h00 S => ?_⟩, rfl⟩
    · dsimp only at hi
      by_cases he : i = d.k
      · subst he
        rw [ho] at ho'; cases ho'
        exact m1 ed (by simpa using hed) hb
      · exact D.edges i o' (by omega) ho' ed hed hb
    · rcases List.mem_cons.1 hq with rfl | hq
      · exact hlow id x hl
      · have := D.low q hq id x hl
        dsimp only; omega
    · rcases List.mem_cons.1 hq with rfl | hq
      · exact hbd id b hl
      · have := D.bd q hq id b hl
        dsimp only; omega
    · have ih := D.nn id hid h00
      show HR h0.get S (r :: d.rs) id = none
      rw [HR]
      split
      · split
        · rename_i x hx
          obtain ⟨_, _, ej, _, hcase⟩ := hop
          rcases hcase with ⟨_, _, hdl, _⟩ | ⟨_, hin, hout, _, q1, q2, q3, q4⟩
          · rw [hdl] at hx; cases hx
          · have hxo : hout.get id = x := by rw [q2, hx]
            rw [← hxo]
            refine q4 id ?_ ?_
            · have := (nums_le D.all).1
              rw [hnum] at this
              omega
            · cases hg : hin.get id with
              | none => rfl
              | some b => have := (q1 id b hg).2; rw [ih] at this; cases this
        · exact ih S
      · exact ih S
  · cases ha
theorem dstep_ok {call : FuncId → List V → Nat → Hp → Nat → R} {known : FuncId → Bool} (TO : TabOk P tab) (CO : CallOk P call) {d d' : DS} {o : Oper} (D : DOk P ops e0 h0 n0 lo0 nt d) (ho : ops[d.k]? = some o) (hd : dstep P tab call known ops e0 h0 nt d o = some d') : DOk P ops e0 h0 n0 lo0 nt d' ∧ d'.k = d.k + 1 := by
  have hlen := D.len
  unfold dstep at hd
  split at hd
  · cases hd
  · rename_i m hm
    have hej : ∀ t c, (mkEj e0 m d.rs d.k (lksOf ops o)).get t = some c → t ∈ lksOf ops o ∧ ER e0.get (tb m) d.rs t = some c := fun t c h => mkEj_spec D.len h
    have ho2 : ops[d.rs.length]? = some o := by rw [← D.len]; exact ho
    split at hd
    · cases hd
    · rename_i hw
      exact addR_ok D hd ho ⟨ho2, rfl, _, hej, .inl ⟨hw, rfl, rfl, rfl⟩⟩ hm rfl (Nat.le_refl _) (Nat.le_refl _) (fun id x hl => by cases hl) (fun id b hl => by cases hl)
    · rename_i hw
      unfold dstepT at hd
      split at hd
      · rename_i r hr
        obtain ⟨g1, g2⟩ := rop_good TO CO hr
        have hhin : ∀ id b, (mkH (HRk h0 m d.rs d.k) d.n (touch (HRk h0 m d.rs d.k) (mkEj e0 m d.rs d.k (lksOf ops o)) o)).get id = some b → id ∈ touch (HRk h0 m d.rs d.k) (mkEj e0 m d.rs d.k (lksOf ops o)) o ∧ HR h0.get (tb m) d.rs id = some b := fun id b h => by
          obtain ⟨h1, h2, _⟩ := mkH_spec h
          exact ⟨h1, by rw [← HRk_eq D.len]; exact h2⟩
        have hbd0 : ∀ id b, (mkH (HRk h0 m d.rs d.k) d.n (touch (HRk h0 m d.rs d.k) (mkEj e0 m d.rs d.k (lksOf ops o)) o)).get id = some b → id < d.n := fun id b h => (mkH_spec h).2.2
        have hbd1 := g1.bd hbd0
        have hsame := g1.same (Nat.le_refl _)
        have hle := g1.le
        split at hd
        · rename_i hwr
          have hwr := blt_lt hwr
          refine addR_ok D hd ho ⟨ho2, rfl, _, hej, .inr ⟨hw, _, r.2.2.1, g2, hhin, fun id => ?_, fun id x hl => ?_, g1.nn⟩⟩ hm rfl hle (lmin_r _ _) (fun id x hl => ?_) (fun id b hl => ?_)
          · dsimp only
            by_cases hid : id ∈ geOf r.2.2.2 (touch (HRk h0 m d.rs d.k) (mkEj e0 m d.rs d.k (lksOf ops o)) o) ++ rng d.n (r.2.1 - d.n)
            · rw [(dlOf_spec).1 hid]
            · rw [(dlOf_spec).2 hid]
              dsimp only
              rw [List.mem_append, mem_ge, mem_rng] at hid
              by_cases h1 : id < r.2.2.2
              · exact hsame id h1
              · -- neither looked at nor new
                have h2 : id ∉ touch (HRk h0 m d.rs d.k) (mkEj e0 m d.rs d.k (lksOf ops o)) o := fun hh => hid (.inl ⟨hh, by omega⟩)
                have h3 : (mkH (HRk h0 m d.rs d.k) d.n (touch (HRk h0 m d.rs d.k) (mkEj e0 m d.rs d.k (lksOf ops o)) o)).get id = none := by
                  cases hg : (mkH (HRk h0 m d.rs d.k) d.n (touch (HRk h0 m d.rs d.k) (mkEj e0 m d.rs d.k (lksOf ops o)) o)).get id with
                  | none => rfl
                  | some b => exact absurd (hhin id b hg).1 h2
                rw [h3]
                by_cases h4 : id < d.n
                · exact g1.nn id h4 h3
                · cases hg : r.2.2.1.get id with
                  | none => rfl
                  | some b =>
                    have := hbd1 id b hg
                    exact absurd (.inr (by omega)) hid
          · dsimp only at hl
            by_cases hid : id ∈ geOf r.2.2.2 (touch (HRk h0 m d.rs d.k) (mkEj e0 m d.rs d.k (lksOf ops o)) o) ++ rng d.n (r.2.1 - d.n)
            · rw [List.mem_append, mem_ge, mem_rng] at hid
              rcases hid with h1 | h1
              · exact .inl h1.1
              · exact .inr (by dsimp only; omega)
            · rw [(dlOf_spec).2 hid] at hl; cases hl
          · dsimp only at hl
            by_cases hid : id ∈ geOf r.2.2.2 (touch (HRk h0 m d.rs d.k) (mkEj e0 m d.rs d.k (lksOf ops o)) o) ++ rng d.n (r.2.1 - d.n)
            · rw [List.mem_append, mem_ge, mem_rng] at hid
              have := lmin_l r.2.2.2 d.lo
              have h9 := (nums_le D.all).1
              rw [D.num] at h9
              omega
            · rw [(dlOf_spec).2 hid] at hl; cases hl
          · dsimp only at hl
            by_cases hid : id ∈ geOf r.2.2.2 (touch (HRk h0 m d.rs d.k) (mkEj e0 m d.rs d.k (lksOf ops o)) o) ++ rng d.n (r.2.1 - d.n)
            · rw [(dlOf_spec).1 hid] at hl
              exact hbd1 id b (Option.some.inj hl)
            · rw [(dlOf_spec).2 hid] at hl; cases hl
        · rename_i hwr
          have hwr := blt_ge hwr
          refine addR_ok D hd ho ⟨ho2, rfl, _, hej, .inr ⟨hw, _, r.2.2.1, g2, hhin, fun id => ?_, fun id x hl => ?_, g1.nn⟩⟩ hm rfl hle (Nat.le_refl _) (fun id x hl => ?_) (fun id b hl => ?_)
          · dsimp only
            by_cases hid : id ∈ rng d.n (r.2.1 - d.n)
            · rw [(dlOf_spec).1 hid]
            · rw [(dlOf_spec).2 hid]
              dsimp only
              rw [mem_rng] at hid
              by_cases h1 : id < d.n
              · exact hsame id (by omega)
              · have h3 : (mkH (HRk h0 m d.rs d.k) d.n (touch (HRk h0 m d.rs d.k) (mkEj e0 m d.rs d.k (lksOf ops o)) o)).get id = none := by
                  cases hg : (mkH (HRk h0 m d.rs d.k) d.n (touch (HRk h0 m d.rs d.k) (mkEj e0 m d.rs d.k (lksOf ops o)) o)).get id with
                  | none => rfl
                  | some b => exact absurd (hbd0 id b hg) h1
                rw [h3]
                cases hg : r.2.2.1.get id with
                | none => rfl
                | some b =>
                  have := hbd1 id b hg
                  exact absurd (by omega) hid
          · dsimp only at hl
            by_cases hid : id ∈ rng d.n (r.2.1 - d.n)
            · rw [mem_rng] at hid; exact .inr (by dsimp only; omega)
            · rw [(dlOf_spec).2 hid] at hl; cases hl
          · dsimp only at hl
            by_cases hid : id ∈ rng d.n (r.2.1 - d.n)
            · rw [mem_rng] at hid
              have h9 := (nums_le D.all).1
              rw [D.num] at h9
              omega
            · rw [(dlOf_spec).2 hid] at hl; cases hl
          · dsimp only at hl
            by_cases hid : id ∈ rng d.n (r.2.1 - d.n)
            · rw [(dlOf_spec).1 hid] at hl
              exact hbd1 id b (Option.some.inj hl)
            · rw [(dlOf_spec).2 hid] at hl; cases hl
      · cases hd
theorem dgo_ok {call : FuncId → List V → Nat → Hp → Nat → R} {known : FuncId → Bool} (TO : TabOk P tab) (CO : CallOk P call) : ∀ {l : List Oper} {d d' : DS}, DOk P ops e0 h0 n0 lo0 nt d → ops.toList.drop d.k = l → dgo P tab call known ops e0 h0 nt l d = some d' → DOk P ops e0 h0 n0 lo0 nt d' ∧ d'.k = d.k + l.length
  | [], d, d', D, hl, h => by cases h; exact ⟨D, rfl⟩
  | o :: r, d, d', D, hl, h => by
    rw [dgo] at h
    split at h
    · rename_i d1 h1
      have ho : ops[d.k]? = some o := by
        have := congrArg (fun l => l[0]?) hl
        simp at this; exact this
      obtain ⟨D1, k1⟩ := dstep_ok TO CO D ho h1
      obtain ⟨D2, k2⟩ := dgo_ok TO CO D1 (by rw [k1, ← List.drop_drop, hl]; rfl) h
      exact ⟨D2, by rw [k2, k1]; simp; omega⟩
    · cases h
theorem rdraw_good {call : FuncId → List V → Nat → Hp → Nat → R} {known : FuncId → Bool} (TO : TabOk P tab) (CO : CallOk P call) (hm : P.follows .mixedOrders = true) : RegOk P (rdraw P tab call known) true := by
  intro nt ops s s' hr
  unfold rdraw at hr
  split at hr
  · rename_i d hd
    cases hr
    have D0 : DOk P ops s.e s.h s.n s.lo nt ⟨[], 0, s.n, s.lo⟩ := ⟨trivial, rfl, rfl, (fun i o hi => by dsimp only at hi; omega), Nat.le_refl _, (fun r hr => by cases hr), (fun r hr => by cases hr), fun id _ h _ => h⟩
    obtain ⟨D, hk⟩ := dgo_ok TO CO D0 (by simp) hd
    have hlen : d.rs.length = ops.size := by rw [← D.len, hk]; simp
    have hnum := D.num
    have hnn := (nums_le D.all).1
    rw [hnum] at hnn
    have hdl : ∀ id, (∃ r ∈ d.rs, ∃ x, lookD r.dl id = some x) ∨ (∀ S, HR s.h.get S d.rs id = s.h.get id) := by
      intro id
      have : ∀ (R : List Rec), (∃ r ∈ R, ∃ x, lookD r.dl id = some x) ∨ (∀ S, HR s.h.get S R id = s.h.get id) := by
        intro R
        induction R with
        | nil => exact .inr fun S => rfl
        | cons r rest ih =>
          cases hl : lookD r.dl id with
          | some x => exact .inl ⟨r, by simp, x, hl⟩
          | none =>
            rcases ih with ⟨q, h1, h2⟩ | h1
            · exact .inl ⟨q, by simp [h1], h2⟩
            · refine .inr fun S => ?_
              rw [HR, hl]
              cases S rest.length <;> exact h1 S
      exact this d.rs
    refine ⟨⟨hnn, D.lo, fun h1 => by have := D.lo; dsimp only; omega, fun h1 id hid => ?_, fun hb id b hg => ?_, fun id hid hn => by dsimp only; rw [finH_get]; exact D.nn id hid hn _⟩, fun id ι a w R hf => ?_⟩
    · dsimp only at hid ⊢
      rw [finH_get]
      rcases hdl id with ⟨r, h2, x, h3⟩ | h2
      · have := D.low r h2 id x h3
        have := D.lo
        omega
      · exact h2 _
    · dsimp only at hg ⊢
      rw [finH_get] at hg
      have : ∀ (R : List Rec) (S : Nat → Bool), (∀ r ∈ R, ∀ id b, lookD r.dl id = some (some b) → id < d.n) → HR s.h.get S R id = some b → id < d.n := by
        intro R S
        induction R with
        | nil => intro _ h; have := hb id b h; omega
        | cons r rest ih =>
          intro hh h
          rw [HR] at h
          split at h
          · split at h
            · rename_i x hx; subst h; exact hh r (by simp) id b hx
            · exact ih (fun q hq => hh q (by simp [hq])) h
          · exact ih (fun q hq => hh q (by simp [hq])) h
      exact this d.rs _ D.bd hg
    · refine wp_region_any hm ?_
      have e0 : setL (Array.replicate ops.size false) = fun _ => false := by
        funext j
        unfold setL
        simp [Array.getD]
      have hoff : ∀ (R : List Rec) id, HR s.h.get (fun _ => false) R id = s.h.get id ∧ ER s.e.get (fun _ => false) R id = s.e.get id ∧ NR s.n (fun _ => false) R id = s.n ∧ MR s.n (fun _ => false) R id = s.n := by
        intro R id
        induction R with
        | nil => exact ⟨rfl, rfl, rfl, rfl⟩
        | cons r rest ih => exact ih
      have hcut : ι.cut s.n = ι := by
        funext id
        unfold Io.cut
        split
        · rfl
        · exact (hf id (by omega)).symm
      have M0 : Mid a.defers s.n nt s.h.get s.e.get d.rs (fun _ => false) ι w ι a { w with drawn := w.drawn + 1 } := by
        have e1 : HR s.h.get (fun _ => false) d.rs = s.h.get := funext fun id => (hoff d.rs id).1
        refine ⟨fun id b hb => ?_, fun i j b b' rr m m' h1 h2 => ?_, fun t v hv => ?_, fun id hid => ?_, ?_, rfl, R.size⟩
        · rw [e1] at hb
          rw [(hoff d.rs id).2.2.1, hcut]
          obtain ⟨rr, m, h1, h2⟩ := R.heap.blk id b hb
          refine ⟨rr, m, h1, ?_, h2.mono (fun _ _ h => h) rfl⟩
          rcases Nat.lt_or_ge id s.n with h3 | h3
          · exact h3
          · rw [hf id h3] at h1; cases h1
        · rw [e1] at h1 h2; exact R.heap.inj i j b b' rr m m' h1 h2
        · rw [(hoff d.rs t).2.1] at hv
          rw [(hoff d.rs t).2.2.2, hcut]
          exact R.env t v hv
        · left
          rcases Nat.lt_or_ge id s.n with h3 | h3
          · exact h3
          · exact absurd (hf id h3) hid
        · rw [e1, hnum]
          exact ⟨rfl, rfl, rfl, Nat.le_refl _, hnn, fun _ _ => rfl, fun _ _ _ => rfl, fun id b rr m h1 h2 _ => ⟨id, b, m, h1, h2⟩⟩
      refine any_good (e0 := s.e.get) D.all hlen (fun i o ho => D.edges i o (by rw [D.len, hlen]; exact (Array.getElem?_eq_some_iff.1 ho).1) ho) (fun ι2 a2 w2 L hL M => ?_) ops.size _ ι a _ (by simp) ?_ (by rw [e0]; exact M0) ?_
      · have e2 : HR s.h.get L d.rs = (finH s.h d.rs).get := funext fun id => by rw [finH_get]; exact (all_congr (e0 := s.e.get) (n0 := s.n) hL).1
        have e3 : ∀ t, ER s.e.get L d.rs t = (finE s.e d.rs).get t := fun t => by rw [finE_get]; exact (all_congr (g0 := s.h.get) (n0 := s.n) hL).2
        refine ⟨rfl, ι2, ⟨⟨fun id b hb => ?_, fun i j b b' rr m m' h1 h2 => ?_⟩, fun t v hv => ?_, (by have q := R.defers.ex M.ex; rw [e2] at q; rw [M.defers]; exact q), M.size⟩, ?_⟩
        · dsimp only at hb
          rw [← e2] at hb
          obtain ⟨rr, m, h1, _, h2⟩ := M.blk id b hb
          exact ⟨rr, m, h1, h2.mono (cut_le _ _) rfl⟩
        · dsimp only at h1 h2
          rw [← e2] at h1 h2
          exact M.inj i j b b' rr m m' h1 h2
        · dsimp only at hv
          rw [← e3] at hv
          obtain ⟨u, h1, h2⟩ := M.env t v hv
          exact ⟨u, h1, h2.mono (cut_le _ _)⟩
        · have := M.ex
          rw [e2, hnum] at this
          exact this
      · rw [e0]; intro pre r rest _ h; cases h
      · rw [e0]
        have : ∀ n, cnt (fun _ => false) n = n := by
          intro n
          induction n with
          | zero => rfl
          | succ n ih => rw [cnt, ih]; rfl
        rw [this]; exact Nat.le_refl _
  · cases hr
end
end Go.Proofs.YtdbeblhifnfocaaGreatDoor.Rn

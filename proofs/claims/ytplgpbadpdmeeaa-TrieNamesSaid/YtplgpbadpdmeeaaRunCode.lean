/-
  A runner of closed code: control, calls.
-/
import Derived.Test.YtplgpbadpdmeeaaRunOp
import Derived.Scope
import Derived.RangeFuncRecord
import Derived.RangeFuncIn
import Derived.Test.YtplgpbadpdmeeaaRunMarks
namespace Go.Proofs.Ytplgpbadpdmeeaa.Rn
set_option linter.unusedVariables false
open Go.RowKit
open Go.Proofs.Ytplgpbadpdmeeaa.Ab (TE TTab tlook TabOk TFacts win setW setW_get win_get Sh)

inductive X where
  | normal
  | exit (id : Nat)
  | goto (l : Nat)
  | ret
def X.to : X → Exit
  | .normal => .normal
  | .exit id => .exit id
  | .goto l => .goto l
  | .ret => .ret
structure St where
  e : Ev
  n : Nat
  h : Hp
  lo : Nat
abbrev RC := Option (X × St)

/-- Slots. -/
def putE (nt : Nat) (d : Option Tmp) (v : V) (e : Ev) : Option Ev := match d with
  | some t => match Nat.blt t nt with
    | true => some (e.set t v)
    | false => none
  | none => some e
def wantV (ops : Array Oper) (e : Ev) (o : Oper) : Option Bool := match o.guard with
  | none => some true
  | some (j, b) => match ((ops[j]?).bind (·.dst)).bind e.get with
    | some (.sc (.bool c)) => some (c == b)
    | some (.sc (.tuple _)) => some false
    | _ => none
/-- The marks that statements 'range over a function' have left: each one's block is empty, newer than the call, none of the living blocks. -/
structure Marks (z : Nat) (ι : Io) (g : Gm) (w : World) (ds : List Deferred) : Prop where
  all : ∀ d ∈ ds, ∃ r, d = { target := .collected r, args := #[] } ∧ z ≤ r ∧ w.heap[r]? = some (.deferred (some [])) ∧ ∀ id b m, g id = some b → ι id ≠ some (r, m)
  apart : ds.Pairwise fun a b => a ≠ b
  low : z ≤ w.heap.size
theorem Marks.nil {z : Nat} {ι : Io} {g : Gm} {w : World} (h : z ≤ w.heap.size) : Marks z ι g w [] := ⟨by simp, .nil, h⟩
theorem Marks.ex {z n n' : Nat} {ι ι' : Io} {g g' : Gm} {w w' : World} {ds : List Deferred} (M : Marks z ι g w ds) (E : Ex n n' ι g w ι' g' w') : Marks z ι' g' w' ds :=
  ⟨fun d hd => by
    obtain ⟨r, h1, h2, h3, h4⟩ := M.all d hd
    have hlt : r < w.heap.size := (Array.getElem?_eq_some_iff.1 h3).1
    refine ⟨r, h1, h2, by rw [E.mem r hlt h4]; exact h3, fun id b m hb hi => ?_⟩
    obtain ⟨j, b', m', h5, h6⟩ := E.old id b r m hb hi hlt
    exact h4 j b' m' h5 h6, M.apart, Nat.le_trans M.low E.size⟩
structure Rl (z : Nat) (ι : Io) (nt : Nat) (e : Ev) (g : Gm) (a : Act) (w : World) : Prop where
  heap : HRel ι g w
  env : ERel ι e a
  defers : Marks z ι g w a.defers
  size : nt ≤ a.tmps.size
section
variable {P : Program} {tab : TTab} {ops : Array Oper} {o : Oper} {e : Ev} {n : Nat} {h : Hp} {lo nt : Nat}
theorem wantV_rel {ι : Io} {a : Act} (E : ERel ι e a) {b : Bool} (hw : wantV ops e o = some b) : Region.wanted o (yielded ops a.tmps) = b := by
  unfold wantV at hw
  unfold Region.wanted
  split at hw
  · rename_i hg; cases hw; rw [hg]
  · rename_i j want hg
    rw [hg]
    show (yielded ops a.tmps j == some want) = b
    unfold yielded
    cases hd : (ops[j]?).bind (·.dst) with
    | none => simp [hd] at hw
    | some t =>
      simp only [hd, Option.bind_some] at hw
      split at hw
      · rename_i c hl
        obtain ⟨u, hu, hv⟩ := E t _ hl
        cases hw
        cases hv
        simp [hu]
      · rename_i c hl
        obtain ⟨u, hu, hv⟩ := E t _ hl
        cases hw
        cases hv
        simp [hu]
      · cases hw
theorem putE_rel {z : Nat} {ι : Io} {g : Gm} {a : Act} {w : World} (R : Rl z ι nt e g a w) {d : Option Tmp} {v : V} {u : Value} {e' : Ev} (hv : VRel ι v u) (hp : putE nt d v e = some e') : Rl z ι nt e' g (a.put d u) w := by
  unfold putE at hp
  refine ⟨R.heap, ?_, by rw [Ab.put_defers]; exact R.defers, by rw [Ab.put_size]; exact R.size⟩
  split at hp
  · rename_i t
    split at hp
    · rename_i ht; cases hp; exact R.env.put (Nat.lt_of_lt_of_le (blt_lt ht) R.size) hv
    · cases hp
  · cases hp; exact R.env

/-! Operations one behind the other -/
variable (P tab) in
def rops (call : FuncId → List V → Nat → Hp → Nat → R) (known : FuncId → Bool) (ops : Array Oper) (nt : Nat) : List Oper → St → Option St
  | [], s => some s
  | o :: rest, s => match wantV ops s.e o with
    | some true => match rop P tab s.e s.n s.h s.lo o call known with
      | some r => match putE nt o.dst r.1 s.e with
        | some e' => rops call known ops nt rest ⟨e', r.2.1, r.2.2.1, r.2.2.2⟩
        | none => none
      | none => none
    | some false => match putE nt o.dst (.sc undef) s.e with
      | some e' => rops call known ops nt rest ⟨e', s.n, s.h, s.lo⟩
      | none => none
    | none => none
/-- Where code ends. -/
def CPost (z nt : Nat) (x : X) (s s' : St) (ι : Io) (w : World) : Exit → Act → World → Prop := fun x' a' w' => x' = x.to ∧ ∃ ι', Rl z ι' nt s'.e s'.h.get a' w' ∧ Ex s.n s'.n ι s.h.get w ι' s'.h.get w'
abbrev SynS (s s' : St) : Prop := Syn s.n s.h s.lo s'.n s'.h s'.lo
theorem rops_good {call : FuncId → List V → Nat → Hp → Nat → R} {known : FuncId → Bool} (TO : TabOk P tab) (CO : CallOk P call) : ∀ (l : List Oper) (s s' : St), rops P tab call known ops nt l s = some s' →
    SynS s s' ∧ ∀ {z : Nat} ι a w, Rl z ι nt s.e s.h.get a w → Free ι s.n s'.n → ∀ Q : Exit → Act → World → Prop, (∀ x a' w', CPost z nt .normal s s' ι w x a' w' → Q x a' w') → wpList P ops Q l a w
  | [], s, s', hr => by
    cases hr
    exact ⟨Syn.refl _ _ _, fun ι a w R hf Q hQ => wpList_nil (hQ _ _ _ ⟨rfl, ι, R, Ex.refl _ _ _ _⟩)⟩
  | o :: rest, s, s', hr => by
    rw [rops] at hr
    split at hr
    · rename_i hw
      split at hr
      · rename_i r hop
        split at hr
        · rename_i e' hp
          obtain ⟨g1, g2⟩ := rop_good TO CO hop
          obtain ⟨h1, h2⟩ := rops_good TO CO rest _ s' hr
          refine ⟨g1.trans h1, fun ι a w R hf Q hQ => wpList_step fun K hK => ?_⟩
          rw [wantV_rel R.env hw, if_pos rfl]
          have hle : r.2.1 ≤ s'.n := h1.le
          refine g2 ι a w ⟨R.heap, R.env, hf.left hle⟩ K _ fun ι' u w' hv hH hE => hK _ _ ?_
          have hio := hE.io (hf.left hle)
          have R' : Rl _ ι' nt s.e r.2.2.1.get a w' := ⟨hH, R.env.mono hio, R.defers.ex hE, R.size⟩
          refine h2 ι' _ w' (putE_rel R' hv hp) (hf.right hE) Q fun x a' w2 ⟨hx, ι2, R2, E2⟩ => hQ x a' w2 ⟨hx, ι2, R2, hE.trans E2⟩
        · cases hr
      · cases hr
    · rename_i hw
      split at hr
      · rename_i e' hp
        obtain ⟨h1, h2⟩ := rops_good TO CO rest _ s' hr
        refine ⟨h1, fun ι a w R hf Q hQ => wpList_step fun K hK => ?_⟩
        rw [wantV_rel R.env hw]
        exact hK _ _ (h2 ι _ w (putE_rel R (.sc _) hp) hf Q hQ)
      · cases hr
    · cases hr

/-! Control -/
/-- A loop that stands behind its body. -/
def LoopWp (P : Program) (c : Code) (Q : Exit → Act → World → Prop) (a : Act) (w : World) : Prop :=
  ∀ (b : Frame) (k : List Item) (cs : List Frame), ∃ x a' w', Q x a' w' ∧ Arrives P (lone (b.at a (.inLoop c :: k)) cs w) b k cs x a' w'
theorem loop_unroll {c : Code} {Q : Exit → Act → World → Prop} {a : Act} {w : World} (H : c.wp P (Exit.then (LoopWp P c Q) Q) a w) : (Code.loop c).wp P Q a w ∧ LoopWp P c Q a w := by
  have key : ∀ (b : Frame) (k : List Item) (cs : List Frame), ∃ x a' w', Q x a' w' ∧ Arrives P (lone (b.at a (.code c :: .inLoop c :: k)) cs w) b k cs x a' w' := by
    intro b k cs
    obtain ⟨x, a1, w1, hq, harr⟩ := H b (.inLoop c :: k) cs
    cases x with
    | normal =>
      obtain ⟨x2, a2, w2, hq2, harr2⟩ := hq b k cs
      exact ⟨x2, a2, w2, hq2, .of_steps harr harr2⟩
    | exit id => exact ⟨_, a1, w1, hq, .pass (x := .inLoop c) rfl (fun _ _ => .inl (by simp)) harr⟩
    | goto l => exact ⟨_, a1, w1, hq, .pass (x := .inLoop c) rfl (fun _ _ => .inl (by simp)) harr⟩
    | ret => exact ⟨_, a1, w1, hq, .pass (x := .inLoop c) rfl (fun _ _ => .inl (by simp)) harr⟩
    | panic ch => exact ⟨_, a1, w1, hq, .pass (x := .inLoop c) rfl (fun _ _ => .inl (by simp)) harr⟩
    | outgrown => exact ⟨_, a1, w1, hq, .pass (x := .inLoop c) rfl (fun _ _ => .inl (by simp)) harr⟩
  refine ⟨fun b k cs => ?_, fun b k cs => ?_⟩
  · obtain ⟨x, a', w', hq, harr⟩ := key b k cs
    exact ⟨x, a', w', hq, .of_steps (.one step_loop) harr⟩
  · obtain ⟨x, a', w', hq, harr⟩ := key b k cs
    exact ⟨x, a', w', hq, .of_steps (.one step_inLoop) harr⟩
/-- A pass within a scope. -/
def ScopeWp (P : Program) (c r : Code) (Q : Exit → Act → World → Prop) (a : Act) (w : World) : Prop :=
  ∀ (b : Frame) (k : List Item) (cs : List Frame), ∃ x a' w', Q x a' w' ∧ Arrives P (lone (b.at a (.code r :: .inScope c :: k)) cs w) b k cs x a' w'
def inSc (P : Program) (c : Code) (Q : Exit → Act → World → Prop) : Exit → Act → World → Prop
  | .goto l, a, w => match findLabel c l with
    | some rest => ScopeWp P c rest Q a w
    | none => Q (.goto l) a w
  | x, a, w => Q x a w
theorem scope_pass {c r : Code} {Q : Exit → Act → World → Prop} {a : Act} {w : World} (H : r.wp P (inSc P c Q) a w) : ScopeWp P c r Q a w := by
  intro b k cs
  obtain ⟨x, a1, w1, hq, harr⟩ := H b (.inScope c :: k) cs
  cases x with
  | normal => exact ⟨.normal, a1, w1, hq, Steps.trans harr (.one step_inScope)⟩
  | exit id => exact ⟨.exit id, a1, w1, hq, fun k' hk => harr k' (by simp [exitTo, hk])⟩
  | goto l =>
    cases hf : findLabel c l with
    | none => exact ⟨.goto l, a1, w1, by simpa [inSc, hf] using hq, fun k' hk => harr k' (by simp [gotoIn, hf, hk])⟩
    | some rest =>
      have h1 : ScopeWp P c rest Q a1 w1 := by simpa [inSc, hf] using hq
      obtain ⟨x2, a2, w2, hq2, harr2⟩ := h1 b k cs
      exact ⟨x2, a2, w2, hq2, .of_steps (harr _ (by simp [gotoIn, hf])) harr2⟩
  | ret => exact ⟨_, a1, w1, hq, harr⟩
  | panic ch => exact ⟨_, a1, w1, hq, harr⟩
  | outgrown => exact ⟨_, a1, w1, hq, harr⟩
theorem wp_scope_all {c : Code} {Q : Exit → Act → World → Prop} {a : Act} {w : World} (H : ScopeWp P c c Q a w) : (Code.scope c).wp P Q a w := by
  intro b k cs
  obtain ⟨x, a', w', hq, harr⟩ := H b k cs
  exact ⟨x, a', w', hq, .of_steps (.one step_scope) harr⟩
def Sound (P : Program) (nt : Nat) (c : Code) (s : St) (x : X) (s' : St) : Prop := SynS s s' ∧ ∀ {z : Nat} ι a w, Rl z ι nt s.e s.h.get a w → Free ι s.n s'.n →
  c.wp P (CPost z nt x s s' ι w) a w ∧ ∀ c', c = .loop c' → LoopWp P c' (CPost z nt x s s' ι w) a w
def IhOk (P : Program) (ih : Nat → Code → St → RC) : Prop := ∀ nt c s x s', ih nt c s = some (x, s') → Sound P nt c s x s'

/-- A call of whose first arguments nothing is known. -/
def CallOkG (P : Program) (j : Nat) (call : FuncId → List V → Nat → Hp → Nat → R) : Prop := ∀ f args n h lo r, call f args n h lo = some r → Ab.isGo P f = true ∧ Syn n h lo r.2.1 r.2.2.1 r.2.2.2 ∧
  ∀ ι (us : Array Value) w, HRel ι h.get w → us.size = args.length + j → LRel ι args (us.toList.drop j) → Free ι n r.2.1 → Calls P f us w (Ends ι n h w r)
theorem HRel.keep {ι : Io} {g : Gm} {w w' : World} (H : HRel ι g w) (hk : ∀ id b r m, g id = some b → ι id = some (r, m) → w'.heap[r]? = w.heap[r]?) : HRel ι g w' :=
  ⟨fun id b hb => by obtain ⟨r, m, h1, h2⟩ := H.blk id b hb; exact ⟨r, m, h1, h2.mono (fun _ _ h => h) (hk id b r m hb h1)⟩, H.inj⟩
theorem HRel.lt {ι : Io} {g : Gm} {w : World} (H : HRel ι g w) {id : Nat} {b : B} {r m : Nat} (hb : g id = some b) (hi : ι id = some (r, m)) : r < w.heap.size := by
  obtain ⟨r', m', h1, h2⟩ := H.blk id b hb
  rw [hi] at h1
  cases h1
  exact h2.lt
/-- A statement 'range over a function' that yields nothing. -/
theorem rangeFunc_none {ry : FuncId → List V → Nat → Hp → Nat → R} (YO : CallOkG P 1 ry) {z nt : Nat} {s : St} {g : Operand} {ps : Array Tmp} {as bd : Code} {f : FuncId} {caps : List V} (hx : ev s.e g = some (.fn f caps)) {r : V × Nat × Hp × Nat} (hr : ry f caps s.n s.h s.lo = some r) (ι : Io) (a : Act) (w : World) (R : Rl z ι nt s.e s.h.get a w) (hf : Free ι s.n r.2.1) :
    (Code.rangeFunc g ps as bd).wp P (CPost z nt .normal s ⟨s.e, r.2.1, r.2.2.1, r.2.2.2⟩ ι w) a w := by
  obtain ⟨hgo, hsyn, hcall⟩ := YO _ _ _ _ _ _ hr
  have hv := ev_rel R.env hx
  generalize hau : a.eval g = u at hv
  cases hv with
  | fn _ _ C hl hh =>
    refine wpIn_wide.1 (wpIn_rangeFunc (F := Fence.wide) (n := 0) fun fn hfn => ?_)
    obtain ⟨rec, hrec⟩ : ∃ rec : LoopState → Loop, rec = fun st => { state := st, pending := none, fn, tmps := a.tmps, params := ps, assign := as, body := bd, defers := w.heap.size } := ⟨_, rfl⟩
    obtain ⟨W1, hW1⟩ : ∃ W1, (w.alloc (.deferred (some []))).alloc (.loop (rec .ready)) = W1 := ⟨_, rfl⟩
    have hs1 : W1.heap.size = w.heap.size + 2 := by rw [← hW1, World.size_alloc, World.size_alloc]
    have hL1 : W1.heap[w.heap.size + 1]? = some (.loop (rec .ready)) := by
      rw [← hW1]; have := World.alloc_heap_new (w.alloc (.deferred (some []))) (.loop (rec .ready)); rwa [World.size_alloc] at this
    have hK1 : W1.heap[w.heap.size]? = some (.deferred (some [])) := by
      rw [← hW1]; exact (Below.heap_alloc _ _ _ (by simp)).trans (World.alloc_heap_new w _)
    have hkeep1 : ∀ q, q < w.heap.size → W1.heap[q]? = w.heap[q]? := fun q hq => by
      rw [← hW1]; exact (Below.heap_alloc _ _ _ (by rw [World.size_alloc]; omega)).trans (Below.heap_alloc _ _ _ hq)
    have hsame1 : W1.os = w.os ∧ W1.tape = w.tape ∧ W1.output = w.output := by rw [← hW1]; exact ⟨rfl, rfl, rfl⟩
    have H1 : HRel ι s.h.get W1 := R.heap.keep fun id b q m hb hi => hkeep1 q (R.heap.lt hb hi)
    have hC : LRel ι caps C.toList := ⟨by simpa using hl, fun i c u a b => hh i c u a (by simpa using b)⟩
    obtain ⟨us, hus⟩ : ∃ us : Array Value, #[.func (.yield (w.heap.size + 1)) #[] #[]] ++ C = us := ⟨_, rfl⟩
    have huL : us.toList = .func (.yield (w.heap.size + 1)) #[] #[] :: C.toList := by rw [← hus]; simp
    have hc := hcall ι us W1 H1 (by rw [← hus]; simp [hl]; omega) (by rw [huL]; exact hC) hf
    refine ⟨w.heap.size + 1, [{ target := .collected w.heap.size, args := #[] }], W1, { target := .fn (.func f) C, args := #[.func (.yield (w.heap.size + 1)) #[] #[]] }, W1, f, us, W1, ?_, ?_, fun _ _ => trivial, ?_, (fun h => by cases h), callsIn_wide.2 (hc.mono ?_)⟩
    · rw [← hW1, hrec]; exact run_enterLoop_outer _ _ _ _ _
    · simp only [resolve, hau]
      simp [go_sem]
    · rw [← hus]; simp [invoke, Ab.run_isGo hgo]
    · rintro x w3 ⟨u, ι', rfl, hu, H3, E3⟩
      -- which blocks live then
      have live : ∀ id b q m, r.2.2.1.get id = some b → ι' id = some (q, m) → q ≠ w.heap.size + 1 ∧ q ≠ w.heap.size := fun id b q m hb hi => by
        by_cases hq : q < W1.heap.size
        · obtain ⟨j, b', m', h1, h2⟩ := E3.old id b q m hb hi hq
          have := R.heap.lt h1 h2
          omega
        · omega
      have old : ∀ id b q m, s.h.get id = some b → ι id = some (q, m) → q < w.heap.size := fun id b q m hb hi => R.heap.lt hb hi
      have hL3 : w3.heap[w.heap.size + 1]? = some (.loop (rec .ready)) := by
        rw [E3.mem _ (by omega) fun id b m hb hi => by have := old _ _ _ _ hb hi; omega]; exact hL1
      have hK3 : w3.heap[w.heap.size]? = some (.deferred (some [])) := by
        rw [E3.mem _ (by omega) fun id b m hb hi => by have := old _ _ _ _ hb hi; omega]; exact hK1
      obtain ⟨w4, hw4⟩ : ∃ w4, w3.putObj (w.heap.size + 1) (.loop { rec .ready with state := .exhausted }) = w4 := ⟨_, rfl⟩
      have hput : ∀ q, q ≠ w.heap.size + 1 → w4.heap[q]? = w3.heap[q]? := fun q hq => by rw [← hw4]; exact World.putObj_heap_other (by omega)
      have hs4 : w4.heap.size = w3.heap.size := by rw [← hw4]; simp
      have hsame4 : w4.os = w3.os ∧ w4.tape = w3.tape ∧ w4.output = w3.output := by rw [← hw4]; exact ⟨rfl, rfl, rfl⟩
      have E : Ex s.n r.2.1 ι s.h.get w ι' r.2.2.1.get w4 :=
        ⟨hsame4.1.trans (E3.os.trans hsame1.1), hsame4.2.1.trans (E3.tape.trans hsame1.2.1), hsame4.2.2.trans (E3.output.trans hsame1.2.2), by have := E3.size; omega, E3.le, E3.same,
          fun q hq hn => by rw [hput q (by omega), E3.mem q (by omega) hn, hkeep1 q hq],
          fun id b q m hb hi hq => E3.old id b q m hb hi (by omega)⟩
      have M := R.defers.ex E
      refine ⟨none, w4, ?_, rfl, ι', ⟨H3.keep fun id b q m hb hi => hput q (live _ _ _ _ hb hi).1, R.env.mono (E.io hf), ?_, R.size⟩, E⟩
      · rw [← hw4]
        have := run_endLoop (P := P) hL3 (by rw [hrec]; simp)
        rw [this, hrec]
      · refine ⟨fun d hd => ?_, List.pairwise_cons.2 ⟨fun d hd => ?_, M.apart⟩, M.low⟩
        · rcases List.mem_cons.1 hd with rfl | hd
          · refine ⟨w.heap.size, rfl, R.defers.low, by rw [hput _ (by omega)]; exact hK3, fun id b m hb hi => (live _ _ _ _ hb hi).2 rfl⟩
          · exact M.all d hd
        · obtain ⟨q, h1, _, h3, _⟩ := R.defers.all d hd
          rw [h1]
          intro h
          cases h
          exact absurd (Array.getElem?_eq_some_iff.1 h3).1 (by omega)
/-- Passes within a scope, up to so many. -/
def sgo (ih : Nat → Code → St → RC) (nt : Nat) (c : Code) (m : Nat) : Code → St → RC := Nat.rec (fun _ _ => none) (fun _ go r s => match ih nt r s with
  | some (.goto l, s1) => match findLabel c l with
    | some rest => go rest s1
    | none => some (.goto l, s1)
  | q => q) m
/-- What the code does, one level; a region that draws goes by 'dr'. -/
def rstep (rg : Nat → Array Oper → St → Option St) (dr : Nat → Array Oper → St → Option St) (ry : FuncId → List V → Nat → Hp → Nat → R) (ih : Nat → Code → St → RC) (nt : Nat) (c : Code) (s : St) : RC := match c with
  | .skip => some (.normal, s)
  | .label _ => some (.normal, s)
  | .exit id => some (.exit id, s)
  | .ret => some (.ret, s)
  | .goto l => some (.goto l, s)
  | .scope a => sgo ih nt a 400 a s
  | .seq a b => match ih nt a s with
    | some (.normal, s1) => ih nt b s1
    | r => r
  | .cond x a b => match ev s.e x with
    | some (.sc (.bool true)) => ih nt a s
    | some (.sc (.bool false)) => ih nt b s
    | _ => none
  | .block id a => match ih nt a s with
    | some (.exit j, s1) => match Nat.beq j id with
      | true => some (.normal, s1)
      | false => some (.exit j, s1)
    | r => r
  | .loop a => match ih nt a s with
    | some (.normal, s1) => ih nt (.loop a) s1
    | r => r
  | .region _ ops false => match rg nt ops s with
    | some s1 => some (.normal, s1)
    | none => none
  | .region _ ops true => match dr nt ops s with
    | some s1 => some (.normal, s1)
    | none => none
  | .rangeFunc g _ _ _ => match ev s.e g with
    | some (.fn f caps) => match ry f caps s.n s.h s.lo with
      | some r => some (.normal, ⟨s.e, r.2.1, r.2.2.1, r.2.2.2⟩)
      | none => none
    | _ => none
  | _ => none
theorem cpost_trans {z : Nat} {s s1 s2 : St} {ι ι1 : Io} {w w1 : World} {x : X} {x' : Exit} {a' : Act} {w' : World} (hE : Ex s.n s1.n ι s.h.get w ι1 s1.h.get w1) (h : CPost z nt x s1 s2 ι1 w1 x' a' w') : CPost z nt x s s2 ι w x' a' w' := by
  obtain ⟨h1, ι2, R, E⟩ := h
  exact ⟨h1, ι2, R, hE.trans E⟩
def RegOk (P : Program) (dr : Nat → Array Oper → St → Option St) (b : Bool) : Prop := ∀ nt ops s s', dr nt ops s = some s' → SynS s s' ∧ ∀ {z : Nat} id ι a w, Rl z ι nt s.e s.h.get a w → Free ι s.n s'.n → (Code.region id ops b).wp P (CPost z nt .normal s s' ι w) a w
theorem sgo_good {ih : Nat → Code → St → RC} (IO : IhOk P ih) {c : Code} : ∀ (m : Nat) (r : Code) (s : St) (x : X) (s' : St), sgo ih nt c m r s = some (x, s') → SynS s s' ∧ ∀ {z : Nat} ι a w, Rl z ι nt s.e s.h.get a w → Free ι s.n s'.n → ScopeWp P c r (CPost z nt x s s' ι w) a w
  | 0, r, s, x, s', h => by cases h
  | m + 1, r, s, x, s', h => by
    have h : (match ih nt r s with
      | some (.goto l, s1) => match findLabel c l with
        | some rest => sgo ih nt c m rest s1
        | none => some (.goto l, s1)
      | q => q) = some (x, s') := h
    cases h1 : ih nt r s with
    | none => rw [h1] at h; cases h
    | some q =>
      obtain ⟨x1, s1⟩ := q
      obtain ⟨g1, g2⟩ := IO _ _ _ _ _ h1
      rw [h1] at h
      have plain : ∀ {x : X}, (∀ l, x ≠ .goto l) → IhOk P ih → (∀ {z : Nat} ι a w, Rl z ι nt s.e s.h.get a w → Free ι s.n s1.n → r.wp P (CPost z nt x s s1 ι w) a w) → ∀ {z : Nat} ι a w, Rl z ι nt s.e s.h.get a w → Free ι s.n s1.n → ScopeWp P c r (CPost z nt x s s1 ι w) a w := fun {x} hx _ H {z} ι a w R hf => scope_pass (wp_mono (H ι a w R hf) fun x' a' w' hq => by
        obtain ⟨rfl, hq⟩ := hq
        cases x with
        | normal => exact ⟨rfl, hq⟩
        | exit j => exact ⟨rfl, hq⟩
        | ret => exact ⟨rfl, hq⟩
        | goto l => exact absurd rfl (hx l))
      cases x1 with
      | normal => cases h; exact ⟨g1, plain (fun _ h => by cases h) IO fun ι a w R hf => (g2 ι a w R hf).1⟩
      | exit j => cases h; exact ⟨g1, plain (fun _ h => by cases h) IO fun ι a w R hf => (g2 ι a w R hf).1⟩
      | ret => cases h; exact ⟨g1, plain (fun _ h => by cases h) IO fun ι a w R hf => (g2 ι a w R hf).1⟩
      | goto l =>
        dsimp only at h
        cases hf : findLabel c l with
        | none =>
          rw [hf] at h
          cases h
          refine ⟨g1, fun ι a w R hfr => scope_pass (wp_mono (g2 ι a w R hfr).1 fun x' a' w' hq => ?_)⟩
          obtain ⟨rfl, hq⟩ := hq
          show inSc P c _ (.goto l) a' w'
          simp only [inSc, hf]
          exact ⟨rfl, hq⟩
        | some rest =>
          rw [hf] at h
          obtain ⟨g3, g4⟩ := sgo_good IO m rest s1 x s' h
          refine ⟨g1.trans g3, fun ι a w R hfr => scope_pass (wp_mono (g2 ι a w R (hfr.left g3.le)).1 fun x' a' w' hq => ?_)⟩
          obtain ⟨rfl, ι1, R1, E1⟩ := hq
          show inSc P c _ (.goto l) a' w'
          simp only [inSc, hf]
          intro b k cs
          obtain ⟨x2, a2, w2, h2, h3⟩ := g4 ι1 a' w' R1 (hfr.right E1) b k cs
          exact ⟨x2, a2, w2, cpost_trans E1 h2, h3⟩
theorem rstep_good {rg dr : Nat → Array Oper → St → Option St} {ry : FuncId → List V → Nat → Hp → Nat → R} {ih : Nat → Code → St → RC} (RO : RegOk P rg false) (DO : RegOk P dr true) (YO : CallOkG P 1 ry) (IO : IhOk P ih) : IhOk P (rstep rg dr ry ih) := by
  intro nt c s x s' hr
  have plain : ∀ {c : Code} {s : St} {x : X} {s' : St}, (∀ c', c ≠ .loop c') → (SynS s s' ∧ ∀ {z : Nat} ι a w, Rl z ι nt s.e s.h.get a w → Free ι s.n s'.n → c.wp P (CPost z nt x s s' ι w) a w) → Sound P nt c s x s' := fun hc h => ⟨h.1, fun ι a w R hf => ⟨h.2 ι a w R hf, fun c' h' => absurd h' (hc c')⟩⟩
  cases c with
  | skip => cases hr; exact plain (fun _ h => by cases h) ⟨Syn.refl _ _ _, fun ι a w R hf => wp_skip ⟨rfl, ι, R, Ex.refl _ _ _ _⟩⟩
  | label l => cases hr; exact plain (fun _ h => by cases h) ⟨Syn.refl _ _ _, fun ι a w R hf => wp_label ⟨rfl, ι, R, Ex.refl _ _ _ _⟩⟩
  | exit id => cases hr; exact plain (fun _ h => by cases h) ⟨Syn.refl _ _ _, fun ι a w R hf => wp_exit ⟨rfl, ι, R, Ex.refl _ _ _ _⟩⟩
  | ret => cases hr; exact plain (fun _ h => by cases h) ⟨Syn.refl _ _ _, fun ι a w R hf => wp_ret ⟨rfl, ι, R, Ex.refl _ _ _ _⟩⟩
  | goto l => cases hr; exact plain (fun _ h => by cases h) ⟨Syn.refl _ _ _, fun ι a w R hf => wp_goto ⟨rfl, ι, R, Ex.refl _ _ _ _⟩⟩
  | scope c1 =>
    refine plain (fun _ h => by cases h) ?_
    obtain ⟨g1, g2⟩ := sgo_good IO 400 c1 s x s' hr
    exact ⟨g1, fun ι a w R hf => wp_scope_all (g2 ι a w R hf)⟩
  | seq c1 c2 =>
    refine plain (fun _ h => by cases h) ?_
    rw [rstep] at hr
    cases h1 : ih nt c1 s with
    | none => rw [h1] at hr; cases hr
    | some q =>
      obtain ⟨x1, s1⟩ := q
      obtain ⟨g1, g2⟩ := IO _ _ _ _ _ h1
      rw [h1] at hr
      cases x1 with
      | normal =>
        dsimp only at hr
        obtain ⟨g3, g4⟩ := IO _ _ _ _ _ hr
        refine ⟨g1.trans g3, fun ι a w R hf => wp_seq (wp_mono (g2 ι a w R (hf.left g3.le)).1 fun x' a' w' hq => ?_)⟩
        obtain ⟨rfl, ι1, R1, E1⟩ := hq
        exact wp_mono (g4 ι1 a' w' R1 (hf.right E1)).1 fun x2 a2 w2 h2 => cpost_trans E1 h2
      | exit j => cases hr; exact ⟨g1, fun ι a w R hf => wp_seq (wp_mono (g2 ι a w R hf).1 fun x' a' w' hq => by obtain ⟨rfl, hq⟩ := hq; exact ⟨rfl, hq⟩)⟩
      | ret => cases hr; exact ⟨g1, fun ι a w R hf => wp_seq (wp_mono (g2 ι a w R hf).1 fun x' a' w' hq => by obtain ⟨rfl, hq⟩ := hq; exact ⟨rfl, hq⟩)⟩
      | goto l => cases hr; exact ⟨g1, fun ι a w R hf => wp_seq (wp_mono (g2 ι a w R hf).1 fun x' a' w' hq => by obtain ⟨rfl, hq⟩ := hq; exact ⟨rfl, hq⟩)⟩
  | cond c a b =>
    refine plain (fun _ h => by cases h) ?_
    rw [rstep] at hr
    split at hr
    · rename_i hc
      obtain ⟨g1, g2⟩ := IO _ _ _ _ _ hr
      exact ⟨g1, fun ι ac w R hf => wp_cond_true (tv_rel (ev_rel R.env hc) _ rfl) (g2 ι ac w R hf).1⟩
    · rename_i hc
      obtain ⟨g1, g2⟩ := IO _ _ _ _ _ hr
      exact ⟨g1, fun ι ac w R hf => wp_cond_false (tv_rel (ev_rel R.env hc) _ rfl) (g2 ι ac w R hf).1⟩
    · cases hr
  | block id c1 =>
    refine plain (fun _ h => by cases h) ?_
    rw [rstep] at hr
    cases h1 : ih nt c1 s with
    | none => rw [h1] at hr; cases hr
    | some q =>
      obtain ⟨x1, s1⟩ := q
      obtain ⟨g1, g2⟩ := IO _ _ _ _ _ h1
      rw [h1] at hr
      cases x1 with
      | normal => cases hr; exact ⟨g1, fun ι a w R hf => wp_block (wp_mono (g2 ι a w R hf).1 fun x' a' w' hq => by obtain ⟨rfl, hq⟩ := hq; exact ⟨rfl, hq⟩)⟩
      | ret => cases hr; exact ⟨g1, fun ι a w R hf => wp_block (wp_mono (g2 ι a w R hf).1 fun x' a' w' hq => by obtain ⟨rfl, hq⟩ := hq; exact ⟨rfl, hq⟩)⟩
      | goto l => cases hr; exact ⟨g1, fun ι a w R hf => wp_block (wp_mono (g2 ι a w R hf).1 fun x' a' w' hq => by obtain ⟨rfl, hq⟩ := hq; exact ⟨rfl, hq⟩)⟩
      | exit j =>
        dsimp only at hr
        split at hr
        · rename_i hj
          cases hr
          have hj := Nat.eq_of_beq_eq_true hj
          subst hj
          refine ⟨g1, fun ι a w R hf => wp_block (wp_mono (g2 ι a w R hf).1 fun x' a' w' hq => ?_)⟩
          obtain ⟨rfl, hq⟩ := hq
          show if j = j then _ else _
          rw [if_pos rfl]
          exact ⟨rfl, hq⟩
        · rename_i hj
          cases hr
          refine ⟨g1, fun ι a w R hf => wp_block (wp_mono (g2 ι a w R hf).1 fun x' a' w' hq => ?_)⟩
          obtain ⟨rfl, hq⟩ := hq
          show if j = id then _ else _
          rw [if_neg (Ab.of_beq_no hj)]
          exact ⟨rfl, hq⟩
  | loop c1 =>
    rw [rstep] at hr
    cases h1 : ih nt c1 s with
    | none => rw [h1] at hr; cases hr
    | some q =>
      obtain ⟨x1, s1⟩ := q
      obtain ⟨g1, g2⟩ := IO _ _ _ _ _ h1
      rw [h1] at hr
      have two : ∀ {Q : Exit → Act → World → Prop} {a : Act} {w : World}, c1.wp P (Exit.then (LoopWp P c1 Q) Q) a w → (Code.loop c1).wp P Q a w ∧ ∀ c', Code.loop c1 = .loop c' → LoopWp P c' Q a w := fun H => ⟨(loop_unroll H).1, fun c' h => by cases h; exact (loop_unroll H).2⟩
      cases x1 with
      | normal =>
        dsimp only at hr
        obtain ⟨g3, g4⟩ := IO _ _ _ _ _ hr
        refine ⟨g1.trans g3, fun ι a w R hf => two (wp_mono (g2 ι a w R (hf.left g3.le)).1 fun x' a' w' hq => ?_)⟩
        obtain ⟨rfl, ι1, R1, E1⟩ := hq
        have := (g4 ι1 a' w' R1 (hf.right E1)).2 c1 rfl
        intro b k cs
        obtain ⟨x2, a2, w2, h2, h3⟩ := this b k cs
        exact ⟨x2, a2, w2, cpost_trans E1 h2, h3⟩
      | exit j => cases hr; exact ⟨g1, fun ι a w R hf => two (wp_mono (g2 ι a w R hf).1 fun x' a' w' hq => by obtain ⟨rfl, hq⟩ := hq; exact ⟨rfl, hq⟩)⟩
      | ret => cases hr; exact ⟨g1, fun ι a w R hf => two (wp_mono (g2 ι a w R hf).1 fun x' a' w' hq => by obtain ⟨rfl, hq⟩ := hq; exact ⟨rfl, hq⟩)⟩
      | goto l => cases hr; exact ⟨g1, fun ι a w R hf => two (wp_mono (g2 ι a w R hf).1 fun x' a' w' hq => by obtain ⟨rfl, hq⟩ := hq; exact ⟨rfl, hq⟩)⟩
  | region id ops b =>
    refine plain (fun _ h => by cases h) ?_
    cases b with
    | false =>
      rw [rstep] at hr
      split at hr
      · rename_i s1 h1
        cases hr
        obtain ⟨g1, g2⟩ := RO _ _ _ _ h1
        exact ⟨g1, fun ι a w R hf => g2 id ι a w R hf⟩
      · cases hr
    | true =>
      rw [rstep] at hr
      split at hr
      · rename_i s1 h1
        cases hr
        obtain ⟨g1, g2⟩ := DO _ _ _ _ h1
        exact ⟨g1, fun ι a w R hf => g2 id ι a w R hf⟩
      · cases hr
  | rangeFunc g ps as bd =>
    refine plain (fun _ h => by cases h) ?_
    rw [rstep] at hr
    split at hr
    · rename_i f caps hx
      split at hr
      · rename_i r h1
        cases hr
        exact ⟨(YO _ _ _ _ _ _ h1).2.1, fun ι a w R hf => rangeFunc_none YO hx h1 ι a w R hf⟩
      · cases hr
    · cases hr
  | _ => cases hr

/-! Calls -/
theorem tv_back {ι : Io} {c : V} {u : Value} (h : tv c = some u) : VRel ι c u := by
  have lists : ∀ (cs : List V), (∀ c ∈ cs, ∀ u, tv c = some u → VRel ι c u) → ∀ l, tvs cs = some l → LRel ι cs l := by
    intro cs
    induction cs with
    | nil => intro _ l hl; cases hl; exact .nil
    | cons c r ih =>
      intro hc l hl
      rw [tvs] at hl
      cases h1 : tv c with
      | none => rw [h1] at hl; cases hl
      | some v =>
        cases h2 : tvs r with
        | none => rw [h1, h2] at hl; cases hl
        | some l' => rw [h1, h2] at hl; cases hl; exact LRel.cons (hc c (by simp) v h1) (ih (fun c' h' => hc c' (by simp [h'])) l' h2)
  match c, h with
  | .sc v, h => cases h; exact .sc _
  | .agg cs, h =>
    rw [tv] at h
    cases hc : tvs cs with
    | none => rw [hc] at h; cases h
    | some l => rw [hc] at h; cases h; exact VRel.agg' (by simpa using lists cs (fun c hm u hu => tv_back hu) l hc)
  | .tup cs, h =>
    rw [tv] at h
    cases hc : tvs cs with
    | none => rw [hc] at h; cases h
    | some l => rw [hc] at h; cases h; exact VRel.tup' (by simpa using lists cs (fun c hm u hu => tv_back hu) l hc)
  | .fn f cs, h =>
    rw [tv] at h
    cases hc : tvs cs with
    | none => rw [hc] at h; cases h
    | some l => rw [hc] at h; cases h; exact VRel.fn' (by simpa using lists cs (fun c hm u hu => tv_back hu) l hc)
  | .ifc t v, h =>
    rw [tv] at h
    cases hc : tv v with
    | none => rw [hc] at h; cases h
    | some l => rw [hc] at h; cases h; exact .ifc t v l (tv_back hc)
termination_by SizeOf.sizeOf c
inductive FT where
  | leaf
  | node (k : Nat) (f : Func) (l r : FT)
def flook : FT → Nat → Option Func
  | .leaf, _ => none
  | .node k f l r, t => cond (Nat.beq t k) (some f) (cond (Nat.blt t k) (flook l t) (flook r t))
def FOk (P : Program) (ft : FT) : Prop := ∀ f fn, flook ft f = some fn → P.funcs[f]? = some fn ∧ Ab.isGo P f = true
theorem FOk.leaf (P : Program) : FOk P .leaf := fun _ _ h => by cases h
theorem FOk.node {P : Program} {l r : FT} {k : Nat} {f : Func} (h1 : P.funcs[k]? = some f) (h2 : Ab.isGo P k = true) (hl : FOk P l) (hr : FOk P r) : FOk P (.node k f l r) := fun t fn ht => by
  rw [flook] at ht
  cases hb : Nat.beq t k with
  | true => rw [hb] at ht; cases ht; rw [Nat.eq_of_beq_eq_true hb]; exact ⟨h1, h2⟩
  | false =>
    rw [hb, cond_false] at ht
    cases hc : Nat.blt t k with
    | true => rw [hc] at ht; exact hl t fn ht
    | false => rw [hc] at ht; exact hr t fn ht
def mkE : List V → Nat → Ev → Ev
  | [], _, e => e
  | v :: r, i, e => mkE r (i + 1) (e.set i v)
theorem mkE_get : ∀ (l : List V) (i : Nat) (e : Ev) (t : Nat) (c : V), (mkE l i e).get t = some c → (i ≤ t ∧ l[t - i]? = some c) ∨ e.get t = some c
  | [], i, e, t, c, h => .inr h
  | v :: r, i, e, t, c, h => by
    rw [mkE] at h
    rcases mkE_get r (i + 1) _ t c h with ⟨h1, h2⟩ | h1
    · refine .inl ⟨by omega, ?_⟩
      rw [show t - i = (t - (i + 1)) + 1 by omega]; simpa using h2
    · rw [Tr.get_set] at h1
      split at h1
      · rename_i ht; cases h1; exact .inl ⟨by omega, by rw [ht, Nat.sub_self]; rfl⟩
      · exact .inr h1
def resOne (tab : TTab) (s : St) : ResultVar → Option V
  | .tmp t => s.e.get t
  | .cell a t => match s.e.get a with
    | some (.ptr id off) => match tlook tab t with
      | some te => match s.h.get id with
        | some (.cells cs _) => whole te (win cs off te.size)
        | _ => none
      | none => none
    | _ => none
def resAll (tab : TTab) (s : St) : List ResultVar → Option (List V)
  | [] => some []
  | r :: l => match resOne tab s r with
    | some v => match resAll tab s l with
      | some vs => some (v :: vs)
      | none => none
    | none => none
def resV (tab : TTab) (s : St) (l : List ResultVar) : Option V := match resAll tab s l with
  | some [v] => some v
  | some vs => some (.tup vs)
  | none => none
theorem resOne_rel {z : Nat} {ι : Io} {s : St} {a : Act} {w : World} {nt : Nat} (TO : TabOk P tab) (R : Rl z ι nt s.e s.h.get a w) {r : ResultVar} {v : V} (hr : resOne tab s r = some v) : ∃ u, VRel ι v u ∧ (match r with
      | .tmp t => (pure (a.tmps.getD t undef) : Sem Value)
      | .cell s t => do loadVar t (← asAddr (a.tmps.getD s undef))).run P w = .ok u w := by
  cases r with
  | tmp t =>
    obtain ⟨u, hu, hv⟩ := R.env t v hr
    exact ⟨u, hv, by simp [hu]⟩
  | cell sl t =>
    rw [resOne] at hr
    split at hr
    · rename_i id off hx
      split at hr
      · rename_i te ht
        split at hr
        · rename_i cs more hb
          -- as a load
          let o : Oper := { dst := none, op := .load t (.tmp sl), type := t, pos := default, after := #[], guard := none }
          have hg := good_load (P := P) (n := 0) (lo := 0) (o := o) (e := s.e) (h := s.h) TO rfl ht (x := .tmp sl) hx hb hr
          obtain ⟨u, hu, hv⟩ := R.env sl _ hx
          obtain ⟨r, m, hi, C, tt, fz, hC, hfz, hsz, hle, hmo, hl⟩ := R.heap.blk _ _ hb
          have hau := ptr_inv hv hi
          subst hau
          have hwl := whole_len hr
          have hrel : LRel ι (win cs off te.size) (win (C.toList.take cs.length) off te.size) := hl.win off te.size
          have hvl : (win (C.toList.take cs.length) off te.size).length = te.size := by rw [hrel.1, hwl]
          obtain ⟨W, hW⟩ : ∃ W, win (C.toList.take cs.length) off te.size = W := ⟨_, rfl⟩
          rw [hW] at hvl hrel
          have hcell : ∀ (j : Nat) (u : Value), W[j]? = some u → w.cell? ⟨r, off + j, none⟩ = some u := fun j u hj => by
            have h6 := win_get hW hj
            rw [List.getElem?_take] at h6
            split at h6
            · simp [World.cell?, hC]; simpa using h6
            · cases h6
          have hrun := Ab.run_loadVar w (TO t te ht) r off _ hvl hcell
          unfold whole at hr
          rw [hwl, beq_dec, decide_eq_true rfl, cond_true] at hr
          cases ha : te.agg with
          | true =>
            rw [ha] at hr hrun
            cases hr
            exact ⟨.agg W.toArray, VRel.agg' (by simpa using hrel), by simp [hu, asAddr, hrun]⟩
          | false =>
            rw [ha, cond_false] at hr
            split at hr
            · rename_i c hc
              cases hr
              rw [hc] at hrel
              obtain ⟨u, vs, h1, h2, h3⟩ := hrel.head
              subst h1
              rw [ha] at hrun
              exact ⟨u, h2, by simp [hu, asAddr, hrun]⟩
            · cases hr
        · cases hr
      · cases hr
    · cases hr
theorem resV_rel {z : Nat} {ι : Io} {s : St} {a : Act} {w : World} {nt : Nat} (TO : TabOk P tab) (R : Rl z ι nt s.e s.h.get a w) {fn : Func} {v : V} (hr : resV tab s fn.results.toList = some v) : ∃ u, VRel ι v u ∧ (results fn a.tmps).run P w = .ok u w := by
  let g : ResultVar → Sem Value := fun
    | .tmp t => pure (a.tmps.getD t undef)
    | .cell s t => do loadVar t (← asAddr (a.tmps.getD s undef))
  have hg : results fn a.tmps = (do
      let vs ← fn.results.mapM g
      pure (if h : vs.size = 1 then vs[0] else .tuple vs)) := rfl
  have key : ∀ (rs : List ResultVar) (vs : List V), resAll tab s rs = some vs → ∃ us : List Value, LRel ι vs us ∧ (rs.mapM g).run P w = .ok us w := by
    intro rs
    induction rs with
    | nil => intro vs h; cases h; exact ⟨[], .nil, rfl⟩
    | cons r rs ih =>
      intro vs hm
      rw [resAll] at hm
      split at hm
      · rename_i v1 h1
        split at hm
        · rename_i vs1 h2
          cases hm
          obtain ⟨us, h3, h5⟩ := ih vs1 h2
          obtain ⟨u, h6, h7⟩ := resOne_rel TO R h1
          refine ⟨u :: us, LRel.cons h6 h3, ?_⟩
          rw [List.mapM_cons]
          have h7' : (g r).run P w = .ok u w := by cases r <;> exact h7
          simp [h7', h5]
        · cases hm
      · cases hm
  have gen : ∀ (vs : List V), resAll tab s fn.results.toList = some vs → ∃ us : List Value, LRel ι vs us ∧ (results fn a.tmps).run P w = .ok (if h : us.toArray.size = 1 then us.toArray[0] else .tuple us.toArray) w := by
    intro vs hm
    obtain ⟨us, h1, h3⟩ := key _ vs hm
    refine ⟨us, h1, ?_⟩
    rw [hg, Array.mapM_eq_mapM_toList]
    simp [h3]
  unfold resV at hr
  split at hr
  · rename_i v1 h1
    cases hr
    obtain ⟨us, h2, h3⟩ := gen _ h1
    obtain ⟨u, vs, rfl, h4, h5⟩ := h2.head
    have : vs = [] := List.length_eq_zero_iff.1 h5.1
    subst this
    exact ⟨u, h4, by simpa using h3⟩
  · rename_i vs hne h1
    cases hr
    obtain ⟨us, h2, h3⟩ := gen _ h1
    refine ⟨.tuple us.toArray, VRel.tup' (by simpa using h2), ?_⟩
    rw [h3, dif_neg]
    intro h4
    have h5 : us.length = 1 := by simpa using h4
    rw [h2.1] at h5
    obtain ⟨v0, hv0⟩ := List.length_eq_one_iff.1 h5
    exact hne v0 hv0
  · cases hr
def isEnd : X → Bool
  | .normal => true
  | .ret => true
  | _ => false
/-- A call. -/
def rcallG (tab : TTab) (ft : FT) (ih : Nat → Code → St → RC) (j : Nat) (f : FuncId) (args : List V) (n : Nat) (h : Hp) (lo : Nat) : R := match flook ft f with
  | some fn => match fn.body with
    | some c => match Nat.ble (args.length + j) fn.ntmps with
      | true => match ih fn.ntmps c ⟨mkE args j .nil, n, h, n⟩ with
        | some (x, s') => match isEnd x with
          | true => match resV tab s' fn.results.toList with
            | some v => match Nat.ble n s'.lo && (tv v).isSome with
              | true => some (v, n, h, lo)
              | false => some (v, s'.n, s'.h, lmin s'.lo lo)
            | none => none
          | false => none
        | none => none
      | false => none
    | none => none
  | none => none
theorem rcallG_good {j : Nat} {ft : FT} {ih : Nat → Code → St → RC} (TO : TabOk P tab) (FO : FOk P ft) (IO : IhOk P ih) : CallOkG P j (rcallG tab ft ih j) := by
  intro f args n h lo r hr
  unfold rcallG at hr
  split at hr
  · rename_i fn hfn
    obtain ⟨hf, hgo⟩ := FO f fn hfn
    refine ⟨hgo, ?_⟩
    split at hr
    · rename_i c hb
      split at hr
      · rename_i hle
        have hle := Nat.le_of_ble_eq_true hle
        split at hr
        · rename_i x s' hc
          split at hr
          · rename_i hx
            split at hr
            · rename_i v hv
              obtain ⟨g1, g2⟩ := IO _ _ _ _ _ hc
              -- the walk through the body
              have walk : ∀ ι (us : Array Value) w, HRel ι h.get w → us.size = args.length + j → LRel ι args (us.toList.drop j) → Free ι n s'.n → Calls P f us w (fun y w' => ∃ u ι', y = .returned u ∧ VRel ι' v u ∧ HRel ι' s'.h.get w' ∧ Ex n s'.n ι h.get w ι' s'.h.get w') := fun ι us w H hul A hfr => by
                refine callsIn_wide.1 (callsIn_of_wp_marks (n := 0) hf hb trivial (wpIn_wide.2 ?_))
                have R : Rl w.heap.size ι fn.ntmps (mkE args j .nil) h.get { tmps := us ++ Array.replicate (fn.ntmps - us.size) undef, defers := [] } w := by
                  refine ⟨H, fun t c0 ht => ?_, Marks.nil (Nat.le_refl _), ?_⟩
                  · rcases mkE_get _ _ _ _ _ ht with ⟨hjt, h2⟩ | h2
                    · have hlt : t < us.size := by rw [hul]; have := (List.getElem?_eq_some_iff.1 h2).1; omega
                      refine ⟨us[t], ?_, A.2 (t - j) c0 _ h2 (by rw [List.getElem?_drop, Nat.add_sub_cancel' hjt]; simp [hlt])⟩
                      show (us ++ _)[t]? = _
                      rw [Array.getElem?_append_left hlt, Array.getElem?_eq_getElem hlt]
                    · cases h2
                  · show fn.ntmps ≤ (us ++ _).size
                    simp; omega
                refine wp_mono (g2 ι _ w R hfr).1 ?_
                rintro x' a' w' ⟨rfl, ι', R', E'⟩
                have fin : LeavesInM Fence.wide 0 P fn a'.tmps (fun y w' => ∃ u ι', y = .returned u ∧ VRel ι' v u ∧ HRel ι' s'.h.get w' ∧ Ex n s'.n ι h.get w ι' s'.h.get w') a'.defers .returning w' := by
                  refine leave_marks _ w' (fun d hd => by obtain ⟨r, h1, _, h3, _⟩ := R'.defers.all d hd; exact ⟨r, h1, h3⟩) R'.defers.apart fun w2 k1 k2 k3 k4 k5 => ?_
                  have keep : ∀ id b r m, s'.h.get id = some b → ι' id = some (r, m) → w2.heap[r]? = w'.heap[r]? := fun id b r m hb hi => k5 r fun d hd hd2 => by
                    obtain ⟨q, q1, _, _, q4⟩ := R'.defers.all d hd
                    rw [q1] at hd2
                    cases hd2
                    exact q4 id b m hb hi
                  have H2 : HRel ι' s'.h.get w2 := ⟨fun id b hb => by obtain ⟨r, m, h1, h2⟩ := R'.heap.blk id b hb; exact ⟨r, m, h1, h2.mono (fun _ _ h => h) (keep id b r m hb h1)⟩, R'.heap.inj⟩
                  have R2 : Rl 0 ι' fn.ntmps s'.e s'.h.get { a' with defers := [] } w2 := ⟨H2, R'.env, Marks.nil (Nat.zero_le _), R'.size⟩
                  obtain ⟨u, hu, hrun⟩ := resV_rel TO R2 hv
                  refine ⟨u, hrun, u, ι', rfl, hu, H2, ?_⟩
                  refine ⟨k1.trans E'.os, k2.trans E'.tape, k3.trans E'.output, by rw [k4]; exact E'.size, E'.le, E'.same, fun r hr hn => ?_, E'.old⟩
                  rw [k5 r (fun d hd hd2 => by obtain ⟨q, q1, q2, _⟩ := R'.defers.all d hd; rw [q1] at hd2; cases hd2; omega)]
                  exact E'.mem r hr hn
                cases x with
                | normal => exact fin
                | ret => exact fin
                | exit j => cases hx
                | goto l => cases hx
              split at hr
              · rename_i hq
                cases hr
                simp only [Bool.and_eq_true, Nat.ble_eq] at hq
                refine ⟨Syn.refl _ _ _, fun ι us w H hul A hfr => (walk ι us w H hul A hfr).mono ?_⟩
                rintro y w' ⟨u, ι', rfl, q1, q2, q3⟩
                have hio := q3.io hfr
                have hkeep : ∀ id b, h.get id = some b → s'.h.get id = some b := fun id b hb => by
                  obtain ⟨r, m, hi, _⟩ := H.blk id b hb
                  have hlt : id < n := by
                    rcases Nat.lt_or_ge id n with h1 | h1
                    · exact h1
                    · rw [hfr id h1] at hi; cases hi
                  rw [g1.same (Nat.le_refl _) id (by omega)]
                  exact hb
                obtain ⟨vv, hvv⟩ := Option.isSome_iff_exists.1 hq.2
                have huv := tv_rel q1 _ hvv
                subst huv
                refine ⟨u, ι, rfl, tv_back hvv, ⟨fun id b hb => ?_, H.inj⟩, q3.os, q3.tape, q3.output, q3.size, Nat.le_refl _, fun _ _ => rfl, q3.mem, fun id b r m hb hi _ => ⟨id, b, m, hb, hi⟩⟩
                obtain ⟨r, m, hi, hB⟩ := H.blk id b hb
                obtain ⟨r', m', hi', hB'⟩ := q2.blk id b (hkeep id b hb)
                rw [hio _ _ hi] at hi'
                cases hi'
                exact ⟨r, m, hi, hB.back hio hB'⟩
              · cases hr
                refine ⟨?_, fun ι us w H hul A hfr => walk ι us w H hul A hfr⟩
                have := lmin_l s'.lo lo
                have := lmin_r s'.lo lo
                refine ⟨g1.le, by dsimp only; omega, fun h1 => ?_, fun h1 id hid => g1.same (Nat.le_refl _) id (by dsimp only at hid; omega), g1.bd, g1.nn⟩
                have := g1.lon (Nat.le_refl _)
                dsimp only at this ⊢
                omega
            · cases hr
          · cases hr
        · cases hr
      · cases hr
    · cases hr
  · cases hr
/-- A call, of all of whose arguments it is known what they are. -/
def rcall (tab : TTab) (ft : FT) (ih : Nat → Code → St → RC) (f : FuncId) (args : List V) (n : Nat) (h : Hp) (lo : Nat) : R := rcallG tab ft ih 0 f args n h lo
theorem rcall_good {ft : FT} {ih : Nat → Code → St → RC} (TO : TabOk P tab) (FO : FOk P ft) (IO : IhOk P ih) : CallOk P (rcall tab ft ih) := by
  intro f args n h lo r hr
  obtain ⟨h1, h2, h3⟩ := rcallG_good (j := 0) TO FO IO f args n h lo r hr
  exact ⟨h1, h2, fun ι us w H A hf => h3 ι us w H (by rw [← A.1]; simp) (by simpa using A) hf⟩
end
end Go.Proofs.Ytplgpbadpdmeeaa.Rn

/-
  A logic of walks over abstract states: control, lists of operations, calls.
-/
import Derived.Test.YtaecjmjdhbjbkaaAbsBase
import Derived.Test.YtaecjmjdhbjbkaaAbsFence
namespace Go.Proofs.Ytaecjmjdhbjbkaa.Ab
set_option linter.unusedVariables false
open Go.RowKit

/-- What is known of a type: its cells, bytes, whether it is a struct or an array, its zero value's cells, its shape. -/
inductive Sh where
  | sl (e : TypeId)
  | st (fs : List (Nat × TypeId))
  | ar (n : Nat) (e : TypeId)
  | mp (k e : TypeId)
  | pt (e : TypeId)
  | it (k : IntKind)
  | bo
  | str
  | fu
  | other
structure TE where
  size : Nat
  bytes : Nat
  agg : Bool
  zero : List Value
  sh : Sh
def isAggD : TypeDesc → Bool
  | .struct _ => true
  | .array _ _ => true
  | _ => false
def ShOk : Sh → TypeDesc → Prop
  | .sl e, d => d = .slice e
  | .st fs, d => ∃ F, d = .struct F ∧ F.toList.map (fun f => (f.offset, f.type)) = fs ∧ F.toList.all (fun f => f.name != "_") = true
  | .ar n e, d => d = .array n e
  | .mp k e, d => d = .map k e
  | .pt e, d => d = .pointer e
  | .it k, d => d = .int k
  | .bo, d => d = .bool
  | .str, d => d = .string
  | .fu, d => ∃ a b c, d = .func a b c
  | .other, _ => True
structure TFacts (P : Program) (t : TypeId) (te : TE) : Prop where
  info : (P.info? t).map (fun i => (i.size, i.bytes, i.zero.map (·.cells.toList))) = some (te.size, te.bytes, some te.zero)
  und : ∃ d, P.underlying t = some d ∧ isAggD d = te.agg ∧ ShOk te.sh d
inductive TTab where
  | leaf
  | node (k : Nat) (v : TE) (l r : TTab)
def tlook : TTab → Nat → Option TE
  | .leaf, _ => none
  | .node k v l r, t => cond (Nat.beq t k) (some v) (cond (Nat.blt t k) (tlook l t) (tlook r t))
def TTab.all (p : Nat → TE → Bool) : TTab → Bool
  | .leaf => true
  | .node k v l r => p k v && l.all p && r.all p
theorem TTab.of_all {p : Nat → TE → Bool} {tab : TTab} (h : tab.all p = true) {t : Nat} {te : TE} (ht : tlook tab t = some te) : p t te = true := by
  induction tab with
  | leaf => cases ht
  | node k v l r ihl ihr =>
    simp only [TTab.all, Bool.and_eq_true] at h
    rw [tlook] at ht
    cases hb : Nat.beq t k with
    | true => rw [hb] at ht; cases ht; rw [Nat.eq_of_beq_eq_true hb]; exact h.1.1
    | false =>
      rw [hb, cond_false] at ht
      cases hc : Nat.blt t k with
      | true => rw [hc] at ht; exact ihl h.1.2 ht
      | false => rw [hc] at ht; exact ihr h.2 ht
def TabOk (P : Program) (tab : TTab) : Prop := ∀ t te, tlook tab t = some te → TFacts P t te
theorem TabOk.leaf (P : Program) : TabOk P .leaf := fun _ _ h => by cases h
theorem TabOk.node {P : Program} {l r : TTab} {k : Nat} {v : TE} (h1 : TFacts P k v) (hl : TabOk P l) (hr : TabOk P r) : TabOk P (.node k v l r) := fun s se hs => by
  rw [tlook] at hs
  cases hb : Nat.beq s k with
  | true => rw [hb] at hs; cases hs; rw [Nat.eq_of_beq_eq_true hb]; exact h1
  | false =>
    rw [hb, cond_false] at hs
    cases hc : Nat.blt s k with
    | true => rw [hc] at hs; exact hl s se hs
    | false => rw [hc] at hs; exact hr s se hs
section
variable {P : Program} {t : TypeId} {te : TE} (w : World)
theorem TFacts.size (T : TFacts P t te) : (sizeOf t).run P w = .ok te.size w := by
  have h := T.info
  cases hi : P.info? t with
  | none => simp [hi] at h
  | some i => simp [hi] at h; simp [sizeOf, typeInfo, hi, h.1]
theorem TFacts.run_agg (T : TFacts P t te) : (isAgg t).run P w = .ok te.agg w := by
  obtain ⟨d, hd, ha, _⟩ := T.und
  unfold isAgg
  rw [Sem.run_bind, run_underlying hd, Result.andThen_ok, ← ha]
  cases d <;> rfl
theorem TFacts.cellsOf (T : TFacts P t te) : P.cellsOf t = te.size := by
  have h := T.info
  cases hi : P.info? t with
  | none => simp [hi] at h
  | some i => simp [hi] at h; simp [Program.cellsOf, hi, h.1]
theorem TFacts.zero (T : TFacts P t te) : ∃ z, (zeroValue t).run P w = .ok z w ∧ z.cells.toList = te.zero ∧ ∃ i, P.info? t = some i ∧ i.zero = some z ∧ i.size = te.size ∧ i.bytes = te.bytes := by
  have h := T.info
  cases hi : P.info? t with
  | none => simp [hi] at h
  | some i =>
    simp [hi] at h
    obtain ⟨h1, h2, z, h3, h4⟩ := h
    exact ⟨z, by simp [zeroValue, typeInfo, hi, h3], h4, i, rfl, h3, h1, h2⟩
end

/-! ### Operands -/
def aconst1 (v : Value) : AVal := if v.oneCell' then .d (.sc v) else .top
def aconst (v : Value) : AVal := match v with
  | .agg C => .agg (C.toList.map aconst1)
  | v => aconst1 v
def aev (e : Env) : Operand → Option AVal
  | .tmp t => look e t
  | .const v => some (aconst v)
  | .func f => some (.fn f [])
  | .global _ => none
section
variable {w : World} {F : Nat → Prop} {ι : Nat → Option Value} {e : Env} {a : Act}
theorem aconst1_rel (v : Value) : VRel w F ι (aconst1 v) v := by
  unfold aconst1
  split
  · rename_i h; exact .d _ _ (.sc v h)
  · exact .top v
theorem aconst_rel (v : Value) : VRel w F ι (aconst v) v := by
  unfold aconst
  split
  · rename_i C
    refine .agg _ _ (by simp) fun i c u hc hu => ?_
    rw [List.getElem?_map, Array.getElem?_toList, hu] at hc
    cases hc
    exact aconst1_rel u
  · exact aconst1_rel v
theorem aev_rel (H : EnvRel w F ι e a) {x : Operand} {c : AVal} (h : aev e x = some c) : VRel w F ι c (a.eval x) := by
  cases x with
  | tmp t => obtain ⟨u, hu, hv⟩ := H t c h; simpa [Act.eval, hu] using hv
  | const v => cases h; exact aconst_rel v
  | func f => cases h; exact .fn f [] #[] rfl (by simp)
  | global g => cases h
theorem EnvRel.put (H : EnvRel w F ι e a) {t : Nat} (ht : t < a.tmps.size) {c : AVal} {u : Value} (hc : VRel w F ι c u) : EnvRel w F ι ((t, c) :: e) (a.put (some t) u) := by
  intro s c' hs
  by_cases hts : t = s
  · subst hts
    rw [look_cons_same] at hs; cases hs
    exact ⟨u, by simp [Act.put, ht], hc⟩
  · rw [look_cons_ne _ _ hts] at hs
    obtain ⟨u', hu', hv'⟩ := H s c' hs
    exact ⟨u', by simp [Act.put, Array.getElem?_setIfInBounds_ne hts, hu'], hv'⟩
theorem EnvRel.mono {w' : World} {ι' : Nat → Option Value} (H : EnvRel w F ι e a) (h : ∀ t c u, look e t = some c → VRel w F ι c u → VRel w' F ι' c u) : EnvRel w' F ι' e a :=
  fun t c ht => let ⟨u, hu, hv⟩ := H t c ht; ⟨u, hu, h t c u ht hv⟩
theorem EnvRel.killed {w' : World} {id : Nat} {v' : Option Value} (H : EnvRel w F ι e a) (he : Ext w F ι w' (upd ι id v')) : EnvRel w' F (upd ι id v') (killE id e) a := by
  intro t c ht
  rw [look_killE] at ht
  cases hl : look e t with
  | none => simp [hl] at ht
  | some c0 =>
    simp [hl] at ht
    subst ht
    obtain ⟨u, hu, hv⟩ := H t c0 hl
    exact ⟨u, hu, hv.killed he⟩
end
def aput (dst : Option Tmp) (c : AVal) (e : Env) : Env := match dst with
  | some t => (t, c) :: e
  | none => e
def dstOk (nt : Nat) : Option Tmp → Bool
  | some t => Nat.blt t nt
  | none => true

section
variable {Pm F : Nat → Prop} {w0 w w' : World} {pin ι : Nat → Option Value} {nt : Nat} {e : Env} {h : Heap} {a : Act}
theorem dst_lt {t : Nat} (h : dstOk nt (some t) = true) : t < nt := by simp [dstOk, Nat.blt] at h; omega
theorem put_size (a : Act) (d : Option Tmp) (v : Value) : (a.put d v).tmps.size = a.tmps.size := by cases d <;> simp [Act.put]
theorem put_defers (a : Act) (d : Option Tmp) (v : Value) : (a.put d v).defers = a.defers := by cases d <;> rfl
theorem EnvRel.aput (H : EnvRel w F ι e a) {d : Option Tmp} (hd : dstOk nt d = true) (hs : nt ≤ a.tmps.size) {c : AVal} {u : Value} (hc : VRel w F ι c u) : EnvRel w F ι (aput d c e) (a.put d u) := by
  cases d with
  | none => exact H
  | some t => exact H.put (Nat.lt_of_lt_of_le (dst_lt hd) hs) hc
theorem Rel.put (R : Rel Pm F w0 pin ι nt e h a w) {d : Option Tmp} (hd : dstOk nt d = true) {c : AVal} {u : Value} (hc : VRel w F ι c u) : Rel Pm F w0 pin ι nt (aput d c e) h (a.put d u) w :=
  ⟨R.heap, R.env.aput hd R.size hc, by rw [put_defers]; exact R.defers, by rw [put_size]; exact R.size⟩
theorem Rel.grew (R : Rel Pm F w0 pin ι nt e h a w) (G : Grew w w') : Rel Pm F w0 pin ι nt e h a w' :=
  ⟨R.heap.grew G, R.env.mono fun _ _ _ _ hv => hv.grew G, R.defers.ext G.ext, R.size⟩
end

/-! ### Code -/
abbrev Post := Exit → Env → Heap → Prop
def real (Pm F : Nat → Prop) (w0 : World) (pin : Nat → Option Value) (nt : Nat) (Q : Post) : Exit → Act → World → Prop := fun x a w => ∃ ι e h, Q x e h ∧ Rel Pm F w0 pin ι nt e h a w
/-- z: in a function's frame alone; else in a round's too. -/
def AWp (z : Bool) (P : Program) (nt : Nat) (c : Code) (Q : Post) (e : Env) (h : Heap) : Prop :=
  ∀ lq Pm F w0 pin ι a w, (z = true → lq = none) → Rel Pm F w0 pin ι nt e h a w → c.wpIn (Fq lq) 0 P (real Pm F w0 pin nt Q) a w
def AThen (K : Env → Heap → Prop) (Q : Post) : Post
  | .normal, e, h => K e h
  | x, e, h => Q x e h
def AIn (id : Nat) (Q : Post) : Post
  | .exit j, e, h => cond (Nat.beq j id) (Q .normal e h) (Q (.exit j) e h)
  | x, e, h => Q x e h
/-- The state (e, h) is also (e', h'). -/
def AWk (nt : Nat) (e : Env) (h : Heap) (e' : Env) (h' : Heap) : Prop :=
  ∀ Pm F w0 pin ι a w, Rel Pm F w0 pin ι nt e h a w → ∃ ι', Rel Pm F w0 pin ι' nt e' h' a w

section
variable {P : Program} {nt : Nat} {Q : Post} {e : Env} {h : Heap} {z : Bool}
theorem AWp.mono {c : Code} {Q' : Post} (H : AWp z P nt c Q e h) (hq : ∀ x e h, Q x e h → Q' x e h) : AWp z P nt c Q' e h :=
  fun lq Pm F w0 pin ι a w hz R => wpIn_mono (H lq Pm F w0 pin ι a w hz R) fun x a w ⟨ι, e, h, q, r⟩ => ⟨ι, e, h, hq _ _ _ q, r⟩
theorem AWp.fn {c : Code} (H : AWp z P nt c Q e h) : AWp true P nt c Q e h := fun lq Pm F w0 pin ι a w hz R => H lq Pm F w0 pin ι a w (fun _ => hz rfl) R
theorem A_weaken {c : Code} {e' : Env} {h' : Heap} (hk : AWk nt e h e' h') (H : AWp z P nt c Q e' h') : AWp z P nt c Q e h :=
  fun lq Pm F w0 pin ι a w hz R => let ⟨ι', R'⟩ := hk Pm F w0 pin ι a w R; H lq Pm F w0 pin ι' a w hz R'
theorem A_skip (H : Q .normal e h) : AWp z P nt .skip Q e h := fun _ _ _ _ _ ι _ _ _ R => wpIn_skip ⟨ι, e, h, H, R⟩
theorem A_exit {id : Nat} (H : Q (.exit id) e h) : AWp z P nt (.exit id) Q e h := fun _ _ _ _ _ ι _ _ _ R => wpIn_exit ⟨ι, e, h, H, R⟩
theorem A_ret (H : Q .ret e h) : AWp z P nt .ret Q e h := fun _ _ _ _ _ ι _ _ _ R => wpIn_ret ⟨ι, e, h, H, R⟩
theorem A_seq {x y : Code} (H : AWp z P nt x (AThen (AWp z P nt y Q) Q) e h) : AWp z P nt (.seq x y) Q e h := fun lq Pm F w0 pin ι a w hz R =>
  wpIn_seq (wpIn_mono (H lq Pm F w0 pin ι a w hz R) fun ex a' w' ⟨ι', e', h', q, r⟩ => by
    cases ex
    case normal => exact q lq Pm F w0 pin ι' a' w' hz r
    all_goals exact ⟨ι', e', h', q, r⟩)
theorem A_block {id : Nat} {c : Code} (H : AWp z P nt c (AIn id Q) e h) : AWp z P nt (.block id c) Q e h := fun lq Pm F w0 pin ι a w hz R =>
  wpIn_block (wpIn_mono (H lq Pm F w0 pin ι a w hz R) fun ex a' w' ⟨ι', e', h', q, r⟩ => by
    cases ex
    case exit =>
      rename_i j _
      unfold Exit.inBlock
      show if j = id then _ else _
      by_cases hj : j = id
      · subst hj
        rw [if_pos rfl]
        have : Q .normal e' h' := by have q' : cond (Nat.beq j j) _ _ := q; rwa [beq_yes] at q'
        exact ⟨ι', e', h', this, r⟩
      · rw [if_neg hj]
        have : Q (.exit j) e' h' := by have q' : cond (Nat.beq j id) _ _ := q; rwa [beq_no hj] at q'
        exact ⟨ι', e', h', this, r⟩
    all_goals exact ⟨ι', e', h', q, r⟩)
theorem A_cond {c : Operand} {x y : Code} {b : Bool} (hc : aev e c = some (.d (.sc (.bool b)))) (ht : b = true → AWp z P nt x Q e h) (hf : b = false → AWp z P nt y Q e h) : AWp z P nt (.cond c x y) Q e h := fun lq Pm F w0 pin ι a w hz R => by
  have hv := aev_rel R.env hc
  have hb : a.eval c = .bool b := by
    generalize a.eval c = u at hv
    cases hv with
    | d _ _ hd => cases hd; rfl
  exact wpIn_cond_split hb (fun h1 => ht h1 lq Pm F w0 pin ι a w hz R) (fun h1 => hf h1 lq Pm F w0 pin ι a w hz R)
theorem A_condt {c : Operand} {x y : Code} {b : Bool} (hc : aev e c = some (.d (.sc (.bool b)))) (hb : b = true) (ht : AWp z P nt x Q e h) : AWp z P nt (.cond c x y) Q e h :=
  A_cond hc (fun _ => ht) (fun h => by rw [hb] at h; cases h)
theorem A_condf {c : Operand} {x y : Code} {b : Bool} (hc : aev e c = some (.d (.sc (.bool b)))) (hb : b = false) (ht : AWp z P nt y Q e h) : AWp z P nt (.cond c x y) Q e h :=
  A_cond hc (fun h => by rw [hb] at h; cases h) (fun _ => ht)

theorem least_ex (p : Nat → Prop) (h : ∃ n, p n) : ∃ m, p m ∧ ∀ k, p k → m ≤ k := by
  obtain ⟨n, hn⟩ := h
  induction n using Nat.strongRecOn with
  | _ n ih =>
    by_cases hk : ∃ k, k < n ∧ p k
    · obtain ⟨k, hk, hp⟩ := hk; exact ih k hk hp
    · exact ⟨n, hn, fun k hp => Nat.le_of_not_lt fun hlt => hk ⟨k, hlt, hp⟩⟩
open Classical in
noncomputable def least (p : Nat → Prop) : Nat := if h : ∃ n, p n then Classical.choose (least_ex p h) else 0
theorem least_spec {p : Nat → Prop} (h : ∃ n, p n) : p (least p) ∧ ∀ k, p k → least p ≤ k := by
  unfold least; rw [dif_pos h]; exact Classical.choose_spec (least_ex p h)
/-- A loop: the state at its head is one of 'E x, H x' with Φ x; each round comes to a lesser one. -/
theorem A_loop {c : Code} {α : Type} (E : α → Env) (H : α → Heap) (Φ : α → Prop) (μ : α → Nat) (x0 : α) (h0 : Φ x0) (hk : AWk nt e h (E x0) (H x0))
    (round : ∀ x, Φ x → AWp z P nt c (AThen (fun e' h' => ∃ y, Φ y ∧ μ y < μ x ∧ AWk nt e' h' (E y) (H y)) Q) (E x) (H x)) : AWp z P nt (.loop c) Q e h := fun lq Pm F w0 pin ι a w hz R => by
  let S : Act → World → Nat → Prop := fun a w n => ∃ x, Φ x ∧ μ x = n ∧ ∃ ι, Rel Pm F w0 pin ι nt (E x) (H x) a w
  refine wpIn_loop (fun a w => ∃ n, S a w n) (fun a w => least (S a w)) ?_ fun a w hI => ?_
  · obtain ⟨ι', R'⟩ := hk Pm F w0 pin ι a w R
    exact ⟨μ x0, x0, h0, rfl, ι', R'⟩
  · obtain ⟨x, hx, hμ, ι', R'⟩ := (least_spec hI).1
    refine wpIn_mono (round x hx lq Pm F w0 pin ι' a w hz R') fun ex a' w' ⟨ι2, e2, h2, q, r⟩ => ?_
    cases ex
    case normal =>
      obtain ⟨y, hy, hlt, hk2⟩ := q
      obtain ⟨ι3, R3⟩ := hk2 Pm F w0 pin ι2 a' w' r
      have hS : S a' w' (μ y) := ⟨y, hy, rfl, ι3, R3⟩
      refine ⟨⟨_, hS⟩, ?_⟩
      show least (S a' w') < least (S a w)
      have : least (S a' w') ≤ μ y := (least_spec ⟨_, hS⟩).2 _ hS
      omega
    all_goals exact ⟨ι2, e2, h2, q, r⟩
end

/-! ### Regions -/
/-- Is the operation carried out? -/
def awant (ops : Array Oper) (e : Env) (o : Oper) : Option Bool :=
  match o.guard with
  | none => some true
  | some (j, b) => match ((ops[j]?).bind (·.dst)).bind (look e) with
    | some (.d (.sc (.bool c))) => some (c == b)
    | some .und => some false
    | _ => none
theorem awant_rel {w : World} {F : Nat → Prop} {ι : Nat → Option Value} {e : Env} {a : Act} (H : EnvRel w F ι e a) {ops : Array Oper} {o : Oper} {b : Bool} (h : awant ops e o = some b) : Region.wanted o (yielded ops a.tmps) = b := by
  unfold awant at h
  unfold Region.wanted
  split at h
  · rename_i hg; cases h; rw [hg]
  · rename_i j want hg
    rw [hg]
    show (yielded ops a.tmps j == some want) = b
    unfold yielded
    cases hd : (ops[j]?).bind (·.dst) with
    | none => simp [hd] at h
    | some t =>
      simp only [hd, Option.bind_some] at h
      split at h
      · rename_i c hl
        obtain ⟨u, hu, hv⟩ := H t _ hl
        cases h
        cases hv with
        | d _ _ hx => cases hx; simp [hu]
      · rename_i hl
        obtain ⟨u, hu, hv⟩ := H t _ hl
        cases h
        cases hv
        simp [hu, undef]
      · cases h

/-- All that stood in w stands in w', but for the blocks of T. -/
structure CT (T : List Nat) (ι : Nat → Option Value) (w w' : World) : Prop where
  os : w'.os = w.os
  tape : w'.tape = w.tape
  output : w'.output = w.output
  size : w.heap.size ≤ w'.heap.size
  mem : ∀ r, r < w.heap.size → (∀ id ∈ T, ∀ v, ι id = some v → blockOf v ≠ some r) → w'.heap[r]? = w.heap[r]?
theorem CT.refl (T : List Nat) (ι : Nat → Option Value) (w : World) : CT T ι w w := ⟨rfl, rfl, rfl, Nat.le_refl _, fun _ _ _ => rfl⟩
theorem CT.grew {ι : Nat → Option Value} {w w' : World} (h : CT [] ι w w') : Grew w w' := ⟨h.os, h.tape, h.output, h.size, fun r hr => h.mem r hr (by simp)⟩
theorem Grew.ct {ι : Nat → Option Value} {w w' : World} (h : Grew w w') (T : List Nat) : CT T ι w w' := ⟨h.os, h.tape, h.output, h.size, fun r hr _ => h.mem r hr⟩

/-- The blocks that are ours afterwards were ours, or are new. -/
def Old (ι : Nat → Option Value) (w : World) (ι' : Nat → Option Value) : Prop := ∀ id v r, ι' id = some v → blockOf v = some r → r < w.heap.size → ∃ v0, ι id = some v0 ∧ blockOf v0 = some r
theorem Old.refl (ι : Nat → Option Value) (w : World) : Old ι w ι := fun _ v _ h1 h2 _ => ⟨v, h1, h2⟩
/-- What an operation may do: T's blocks aside, all stands. -/
structure CTo (T : List Nat) (ι : Nat → Option Value) (w : World) (ι' : Nat → Option Value) (w' : World) : Prop where
  ct : CT T ι w w'
  old : ∀ id ∈ T, ∀ v r, ι' id = some v → blockOf v = some r → r < w.heap.size → ∃ v0, ι id = some v0 ∧ blockOf v0 = some r
theorem CTo.trans {T : List Nat} {ι ι' : Nat → Option Value} {w w' w2 : World} (h : CTo T ι w ι' w') (k : CT T ι' w' w2) : CT T ι w w2 :=
  ⟨k.os.trans h.ct.os, k.tape.trans h.ct.tape, k.output.trans h.ct.output, Nat.le_trans h.ct.size k.size, fun r hr hn => by
    rw [k.mem r (Nat.lt_of_lt_of_le hr h.ct.size) fun id hid v hv hb => ?_]
    · exact h.ct.mem r hr hn
    · obtain ⟨v0, h1, h2⟩ := h.old id hid v r hv hb hr
      exact hn id hid v0 h1 h2⟩
/-- An operation that reads alone (no block of T), and comes to c. -/
def AYield (P : Program) (T : List Nat) (e : Env) (h : Heap) (o : Oper) (c : AVal) : Prop :=
  ∀ Pm F w0 pin ι a w, HRel Pm F w0 pin ι h w → EnvRel w F ι e a → ∃ v, VRel w F ι c v ∧ ∀ w', CT T ι w w' → (execOp a.eval o).run P w' = .ok (.value v) w'
/-- An operation that does something. -/
def AEff (P : Program) (nt : Nat) (T : List Nat) (e : Env) (h : Heap) (o : Oper) (R : Env → Heap → Prop) : Prop :=
  ∀ Pm F w0 pin ι a w, Rel Pm F w0 pin ι nt e h a w → ∀ (K : Act → World → Prop) (Qx : Exit → Act → World → Prop),
    (∀ ι' e' h' a' w', R e' h' → Rel Pm F w0 pin ι' nt e' h' a' w' → CTo T ι w ι' w' → a'.defers = a.defers → K a' w') → o.wp P a w K Qx
def AOps (P : Program) (nt : Nat) (ops : Array Oper) (Q : Post) (l : List Oper) (e : Env) (h : Heap) : Prop :=
  l.all notDef = true → ∀ lq Pm F w0 pin ι a w, Rel Pm F w0 pin ι nt e h a w → wpListIn (Fq lq) 0 P ops (real Pm F w0 pin nt Q) l a w

section
variable {P : Program} {nt : Nat} {Q : Post} {e : Env} {h : Heap} {ops : Array Oper} {o : Oper} {rest : List Oper} {z : Bool}
theorem A_region {id : Nat} (hnd : ops.toList.all notDef = true) (H : AOps P nt ops Q ops.toList e h) : AWp z P nt (.region id ops false) Q e h :=
  fun lq Pm F w0 pin ι a w hz R => wpIn_region_list (H hnd lq Pm F w0 pin ι a w R)
theorem O_nil (H : Q .normal e h) : AOps P nt ops Q [] e h := fun _ _ _ _ _ _ ι _ _ R => wpListIn_nil ⟨ι, e, h, H, R⟩
theorem O_skip (hw : awant ops e o = some false) (hd : dstOk nt o.dst = true) (H : AOps P nt ops Q rest (aput o.dst .und e) h) : AOps P nt ops Q (o :: rest) e h := fun hnd lq Pm F w0 pin ι a w R =>
  wpListIn_step fun K hK => by
    rw [awant_rel R.env hw]
    exact ⟨fun _ _ => trivial, hK _ _ (H (all_tl hnd) lq Pm F w0 pin ι _ w (R.put hd .und))⟩
theorem O_yield {c : AVal} (hw : awant ops e o = some true) (hd : dstOk nt o.dst = true) (hy : AYield P [] e h o c) (H : AOps P nt ops Q rest (aput o.dst c e) h) : AOps P nt ops Q (o :: rest) e h := fun hnd lq Pm F w0 pin ι a w R =>
  wpListIn_step fun K hK => by
    rw [awant_rel R.env hw, if_pos rfl]
    obtain ⟨v, hv, hr⟩ := hy Pm F w0 pin ι a w R.heap R.env
    refine op_fq (all_hd hnd) ?_
    unfold Oper.wp
    rw [hr w (CT.refl _ _ _), Oper.upon_value]
    exact hK _ _ (H (all_tl hnd) lq Pm F w0 pin ι _ w (R.put hd hv))
theorem O_eff {T : List Nat} {R : Env → Heap → Prop} (hw : awant ops e o = some true) (hy : AEff P nt T e h o R) (H : ∀ e' h', R e' h' → AOps P nt ops Q rest e' h') : AOps P nt ops Q (o :: rest) e h := fun hnd lq Pm F w0 pin ι a w Rl =>
  wpListIn_step fun K hK => by
    rw [awant_rel Rl.env hw, if_pos rfl]
    exact op_fq (all_hd hnd) (hy Pm F w0 pin ι a w Rl K _ fun ι' e' h' a' w' hR hRel _ _ => hK _ _ (H e' h' hR (all_tl hnd) lq Pm F w0 pin ι' a' w' hRel))

/-! A region that draws its order, of which every operation reads alone (calls too). -/
def AQ (P : Program) (nt : Nat) (ops : Array Oper) (Q : Post) (l : List Oper) (e : Env) (h : Heap) : Prop :=
  ∀ Pm F w0 pin ι a w, Rel Pm F w0 pin ι nt e h a w → wpQuiet P ops (CT [] ι w) (fun a' => ∃ e', Q .normal e' h ∧ EnvRel w F ι e' a' ∧ MkOk Pm w F ι a'.defers ∧ nt ≤ a'.tmps.size) l a
theorem A_quiet {id : Nat} (hnd : ops.toList.all notDef = true) (hm : P.follows .mixedOrders = true) (hB : Region.lexB .any ops = true) (H : AQ P nt ops Q ops.toList e h) : AWp z P nt (.region id ops true) Q e h := fun lq Pm F w0 pin ι a w hz R => by
  have h1 := H Pm F w0 pin ι a w R
  let Q1 : Exit → Act → World → Prop := fun x a w => x = .normal ∧ real Pm F w0 pin nt Q .normal a w
  have hno : ¬ LetsOut Q1 := fun ⟨_, _, h, _⟩ => by cases h
  suffices hq : wpQuiet P ops (CT [] ι w) (fun a' => ∀ w', CT [] ι w w' → real Pm F w0 pin nt Q .normal a' w') ops.toList a by
    simp only [Region.lexB, Bool.and_eq_true] at hB
    have h2 := wpAnyQ_lex (C := CT [] ι w) (md := .any) hB.1 ops.toList 0 (Array.replicate ops.size false) a (by simp) (by simpa using hB.2) hq
    have h3 : wpAny P .any ops Q1 ops.size (Array.replicate ops.size false) a { w with drawn := w.drawn + 1 } := wpAny_of_quiet (Q := fun a' => ∀ w', CT [] ι w w' → real Pm F w0 pin nt Q .normal a' w') (fun _ w' hw' h => ⟨rfl, h w' hw'⟩) _ _ _ _ ((Grew.drew w).ct []) (by simpa using h2)
    exact wpIn_mono (wpIn_region_any hm (any_fq hno hnd _ _ _ _ h3)) fun x a w ⟨h4, h5⟩ => by subst h4; exact h5
  have key : ∀ (l : List Oper) (a : Act) (K K' : Act → Prop), (∀ a, K a → K' a) → wpQuiet P ops (CT [] ι w) K l a → wpQuiet P ops (CT [] ι w) K' l a := by
    intro l
    induction l with
    | nil => intro a K K' hk h; exact hk a h
    | cons o l ih =>
      intro a K K' hk h
      unfold wpQuiet at h ⊢
      split
      · rename_i hw; rw [if_pos hw] at h
        obtain ⟨v, h2, h3⟩ := h
        exact ⟨v, h2, ih _ K K' hk h3⟩
      · rename_i hw; rw [if_neg hw] at h; exact ih _ K K' hk h
  refine key _ _ _ _ (fun a' ⟨e', hq, he, hd, hs⟩ w' hw' => ?_) h1
  exact ⟨ι, e', h, hq, R.heap.grew hw'.grew, he.mono fun _ _ _ _ hv => hv.grew hw'.grew, hd.ext hw'.grew.ext, hs⟩
theorem Q_nil (H : Q .normal e h) : AQ P nt ops Q [] e h := fun _ _ _ _ ι _ _ R => wpQuiet_nil ⟨e, H, R.env, R.defers, R.size⟩
theorem Q_skip (hw : awant ops e o = some false) (hd : dstOk nt o.dst = true) (H : AQ P nt ops Q rest (aput o.dst .und e) h) : AQ P nt ops Q (o :: rest) e h := fun Pm F w0 pin ι a w R =>
  wpQuiet_step fun K hK => by
    rw [awant_rel R.env hw]
    exact hK _ (H Pm F w0 pin ι _ w (R.put hd .und))
theorem Q_yield {c : AVal} (hw : awant ops e o = some true) (hd : dstOk nt o.dst = true) (hy : AYield P [] e h o c) (H : AQ P nt ops Q rest (aput o.dst c e) h) : AQ P nt ops Q (o :: rest) e h := fun Pm F w0 pin ι a w R =>
  wpQuiet_step fun K hK => by
    rw [awant_rel R.env hw, if_pos rfl]
    obtain ⟨v, hv, hr⟩ := hy Pm F w0 pin ι a w R.heap R.env
    refine ⟨v, fun w' hw' => ?_, hK _ (H Pm F w0 pin ι _ w (R.put hd hv))⟩
    unfold Oper.quietAt
    rw [hr w' hw']
    exact ⟨rfl, rfl⟩
end

/-! ### Calls -/
def ArgsRel (w : World) (F : Nat → Prop) (ι : Nat → Option Value) (cs : List AVal) (us : Array Value) : Prop := us.size = cs.length ∧ ∀ (i : Nat) (c : AVal) (u : Value), cs[i]? = some c → us[i]? = some u → VRel w F ι c u
/-- A function with a Go text. -/
def isGo (P : Program) (f : FuncId) : Bool := match P.funcs[f]? with
  | some fn => fn.body.isSome && !(fn.name == "runtime.NumGoroutine")
  | none => false
theorem run_isGo {P : Program} {f : FuncId} (h : isGo P f = true) (args : Array Value) (w : World) : (callFunc f args).run P w = .ok (.enter f args) w := by
  unfold isGo at h
  cases hf : P.funcs[f]? with
  | none => simp [hf] at h
  | some fn =>
    simp [hf] at h
    obtain ⟨h1, h2⟩ := h
    simp [callFunc, program, Sem.run, hf, h2]
    intro h3
    rw [h3] at h1; cases h1
def ACall (P : Program) (f : FuncId) (args : List AVal) (h : Heap) (Q : AVal → Heap → Prop) : Prop :=
  isGo P f = true ∧ ∀ Pm F w0 pin ι us w, HRel Pm F w0 pin ι h w → ArgsRel w F ι args us → Calls P f us w fun x w' => ∃ u c h' ι', x = .returned u ∧ Q c h' ∧ HRel Pm F w0 pin ι' h' w' ∧ VRel w' F ι' c u
theorem ACall.mono {P : Program} {f : FuncId} {args : List AVal} {h : Heap} {Q Q' : AVal → Heap → Prop} (H : ACall P f args h Q) (hq : ∀ c h, Q c h → Q' c h) : ACall P f args h Q' :=
  ⟨H.1, fun Pm F w0 pin ι us w a b => (H.2 Pm F w0 pin ι us w a b).mono fun _ _ ⟨u, c, h', ι', h1, h2, h3, h4⟩ => ⟨u, c, h', ι', h1, hq _ _ h2, h3, h4⟩⟩

/-- A result. -/
def aresOne (tab : TTab) (e : Env) (h : Heap) : ResultVar → Option AVal
  | .tmp t => look e t
  | .cell s t => match look e s, tlook tab t with
    | some (.ptr id 0), some te => match look h id with
      | some (.var cs) => cond te.agg (cond (Nat.beq cs.length te.size) (some (.agg cs)) none) cs[0]?
      | _ => none
    | _, _ => none
def ares (tab : TTab) (e : Env) (h : Heap) (rs : List ResultVar) : Option AVal :=
  match rs with
  | [r] => aresOne tab e h r
  | rs => (rs.mapM (aresOne tab e h)).map .tup
def argsEnv (args : List AVal) (i : Nat := 0) : Env := match args with
  | [] => []
  | c :: r => (i, c) :: argsEnv r (i + 1)
theorem look_argsEnv (args : List AVal) (i t : Nat) (c : AVal) (h : look (argsEnv args i) t = some c) : i ≤ t ∧ args[t - i]? = some c := by
  induction args generalizing i with
  | nil => cases h
  | cons a r ih =>
    rw [argsEnv] at h
    by_cases e : i = t
    · subst e; rw [look_cons_same] at h; cases h; simp
    · rw [look_cons_ne _ _ e] at h
      obtain ⟨h1, h2⟩ := ih (i + 1) h
      refine ⟨by omega, ?_⟩
      rw [show t - i = (t - (i + 1)) + 1 by omega]
      simpa using h2
end Go.Proofs.Ytaecjmjdhbjbkaa.Ab

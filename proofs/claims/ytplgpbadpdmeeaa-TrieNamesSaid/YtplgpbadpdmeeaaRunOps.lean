/-
  A runner of closed code: the operations, and that they do what is reckoned.
-/
import Derived.Test.YtplgpbadpdmeeaaRunBase
namespace Go.Proofs.Ytplgpbadpdmeeaa.Rn
set_option linter.unusedVariables false
open Go.RowKit
open Go.Proofs.Ytplgpbadpdmeeaa.Ab (TE TTab tlook TabOk TFacts win setW setW_get win_get Sh)

abbrev R := Option (V × Nat × Hp × Nat)
/-- What a step does to the numbers. -/
structure Syn (n : Nat) (h : Hp) (lo : Nat) (n' : Nat) (h' : Hp) (lo' : Nat) : Prop where
  le : n ≤ n'
  low : lo' ≤ lo
  lon : lo ≤ n → lo' ≤ n'
  same : lo ≤ n → ∀ id, id < lo' → h'.get id = h.get id
  bd : (∀ id b, h.get id = some b → id < n) → ∀ id b, h'.get id = some b → id < n'
  nn : ∀ id, id < n → h.get id = none → h'.get id = none
theorem Syn.refl (n : Nat) (h : Hp) (lo : Nat) : Syn n h lo n h lo := ⟨Nat.le_refl _, Nat.le_refl _, fun h => h, fun _ _ _ => rfl, fun h => h, fun _ _ h => h⟩
theorem Syn.trans {n n1 n2 lo lo1 lo2 : Nat} {h h1 h2 : Hp} (a : Syn n h lo n1 h1 lo1) (b : Syn n1 h1 lo1 n2 h2 lo2) : Syn n h lo n2 h2 lo2 :=
  ⟨Nat.le_trans a.le b.le, Nat.le_trans b.low a.low, fun h => b.lon (a.lon h), fun h id hid => (b.same (a.lon h) id hid).trans (a.same h id (Nat.lt_of_lt_of_le hid b.low)), fun h => b.bd (a.bd h), fun id hid hn => b.nn id (Nat.lt_of_lt_of_le hid a.le) (a.nn id hid hn)⟩
theorem Syn.new (n : Nat) (h : Hp) (lo : Nat) (b : B) : Syn n h lo (n + 1) (h.set n b) lo := by
  refine ⟨by omega, Nat.le_refl _, fun h => by omega, fun hl id hid => ?_, fun hb id c hc => ?_, fun id hid hn => ?_⟩
  · rw [Tr.get_set, if_neg (by omega)]
  · rw [Tr.get_set] at hc
    split at hc
    · omega
    · have := hb id c hc; omega
  · rw [Tr.get_set, if_neg (by omega)]; exact hn
def lmin (a b : Nat) : Nat := cond (Nat.ble a b) a b
theorem lmin_l (a b : Nat) : lmin a b ≤ a := by
  unfold lmin
  cases h : Nat.ble a b with
  | true => exact Nat.le_refl _
  | false => have : ¬ a ≤ b := fun h2 => by rw [Nat.ble_eq_true_of_le h2] at h; cases h
             rw [cond_false]; omega
theorem lmin_r (a b : Nat) : lmin a b ≤ b := by
  unfold lmin
  cases h : Nat.ble a b with
  | true => exact Nat.le_of_ble_eq_true h
  | false => exact Nat.le_refl _
theorem Syn.wrote (n : Nat) {h : Hp} (lo : Nat) {id : Nat} {b b' : B} (hg : h.get id = some b) : Syn n h lo n (h.set id b') (lmin id lo) := by
  have := lmin_l id lo; have := lmin_r id lo
  refine ⟨by omega, by omega, fun h => by omega, fun hl j hj => ?_, fun hb j c hc => ?_, fun j hj hn => ?_⟩
  · rw [Tr.get_set, if_neg (by omega)]
  · rw [Tr.get_set] at hc
    split at hc
    · rename_i he; subst he; exact hb j b hg
    · exact hb j c hc
  · rw [Tr.get_set, if_neg (by rintro rfl; rw [hg] at hn; cases hn)]; exact hn

/-- What holds where an operation begins. -/
structure Pre (ι : Io) (n n' : Nat) (h : Hp) (e : Ev) (a : Act) (w : World) : Prop where
  heap : HRel ι h.get w
  env : ERel ι e a
  free : Free ι n n'
/-- An operation does what is reckoned. -/
def Wp (P : Program) (o : Oper) (e : Ev) (n : Nat) (h : Hp) (v : V) (n' : Nat) (h' : Hp) : Prop :=
  ∀ ι a w, Pre ι n n' h e a w → ∀ (K : Act → World → Prop) (Q : Exit → Act → World → Prop),
    (∀ ι' u w', VRel ι' v u → HRel ι' h'.get w' → Ex n n' ι h.get w ι' h'.get w' → K (a.put o.dst u) w') → o.wp P a w K Q
def Good (P : Program) (o : Oper) (e : Ev) (n : Nat) (h : Hp) (lo : Nat) (r : V × Nat × Hp × Nat) : Prop := Syn n h lo r.2.1 r.2.2.1 r.2.2.2 ∧ Wp P o e n h r.1 r.2.1 r.2.2.1

section
variable {P : Program} {tab : TTab} {o : Oper} {e : Ev} {n : Nat} {h : Hp} {lo : Nat}
/-- One that reads alone. -/
theorem good_value {v : V} (H : ∀ ι a w, HRel ι h.get w → ERel ι e a → ∃ u, VRel ι v u ∧ (execOp a.eval o).run P w = .ok (.value u) w) : Good P o e n h lo (v, n, h, lo) :=
  ⟨Syn.refl _ _ _, fun ι a w pre K Q hK => by
    obtain ⟨u, h1, h2⟩ := H ι a w pre.heap pre.env
    unfold Oper.wp
    rw [h2, Oper.upon_value]
    exact hK ι u w h1 pre.heap (Ex.refl _ _ _ _)⟩
/-- One that makes a block. -/
theorem good_new {v : V} {b : B} (H : ∀ ι a w, HRel ι h.get w → ERel ι e a → ι n = none → ∃ u x w' m, (execOp a.eval o).run P w = .ok (.value u) w' ∧ w'.os = w.os ∧ w'.tape = w.tape ∧ w'.output = w.output ∧ w.heap.size < w'.heap.size ∧ (∀ r, r < w.heap.size → w'.heap[r]? = w.heap[r]?) ∧ w'.heap[w.heap.size]? = some x ∧
      (∀ ι', Io.le ι ι' → ι' n = some (w.heap.size, m) → VRel ι' v u ∧ BRel ι' w' b w.heap.size m)) : Good P o e n h lo (v, n + 1, h.set n b, lo) :=
  ⟨Syn.new _ _ _ _, fun ι a w pre K Q hK => by
    have h0 := pre.free n (Nat.le_refl _)
    obtain ⟨u, x, w', m, h1, h2, h3, h4, h5, h6, h7, h8⟩ := H ι a w pre.heap pre.env h0
    obtain ⟨h9, h10⟩ := h8 (updI ι n w.heap.size m) (le_updI h0) (by simp [updI])
    unfold Oper.wp
    rw [h1, Oper.upon_value]
    refine hK (updI ι n w.heap.size m) u w' h9 ?_ ?_
    · rw [get_set_upd]; exact pre.heap.new h0 h5 h6 h10
    · rw [get_set_upd]; exact Ex.new h2 h3 h4 (by omega) h6⟩
/-- One that writes a block. -/
theorem good_write {v : V} {id : Nat} {b b' : B} (hg : h.get id = some b) (H : ∀ ι a w r m, HRel ι h.get w → ERel ι e a → ι id = some (r, m) → BRel ι w b r m → ∃ u w', ((execOp a.eval o).run P w = .ok (.value u) w' ∨ (u = undef ∧ (execOp a.eval o).run P w = .ok .skip w')) ∧ VRel ι v u ∧ w'.os = w.os ∧ w'.tape = w.tape ∧ w'.output = w.output ∧ w.heap.size ≤ w'.heap.size ∧
      (∀ r', r' ≠ r → w'.heap[r']? = w.heap[r']?) ∧ BRel ι w' b' r m) : Good P o e n h lo (v, n, h.set id b', lmin id lo) :=
  ⟨Syn.wrote _ _ hg, fun ι a w pre K Q hK => by
    obtain ⟨r, m, hi, hb⟩ := pre.heap.blk id b hg
    obtain ⟨u, w', h1, hv, h2, h3, h4, h5, h6, h7⟩ := H ι a w r m pre.heap pre.env hi hb
    have fin : K (a.put o.dst u) w' := by
      refine hK ι u w' hv ?_ ?_
      · rw [get_set_upd]; exact pre.heap.wrote hg hi h6 h7
      · rw [get_set_upd]; exact Ex.wrote hg hi h2 h3 h4 h5 h6
    unfold Oper.wp
    rcases h1 with h1 | ⟨h0, h1⟩
    · rw [h1, Oper.upon_value]; exact fin
    · subst h0; rw [h1, Oper.upon_skip]; exact fin⟩

/-! ### What reads no memory -/
def vOf (v : V) : Value := match tv v with | some x => x | none => undef
def rho (e : Ev) (x : Operand) : Value := match ev e x with | some v => vOf v | none => undef
def dataOps (e : Ev) : List Operand → Bool
  | [] => true
  | x :: r => match ev e x with
    | some v => match tv v with
      | some _ => dataOps e r
      | none => false
    | none => false
theorem dataOps_rel {ι : Io} {a : Act} (E : ERel ι e a) {l : List Operand} (hd : dataOps e l = true) : ∀ x ∈ l, a.eval x = rho e x := by
  induction l with
  | nil => intro x hx; cases hx
  | cons y r ih =>
    intro x hx
    rw [dataOps] at hd
    cases hy : ev e y with
    | none => simp [hy] at hd
    | some v =>
      cases hv : tv v with
      | none => simp [hy, hv] at hd
      | some u =>
        simp only [hy, hv] at hd
        rcases List.mem_cons.1 hx with rfl | hx
        · rw [tv_rel (ev_rel E hy) _ hv]; simp [rho, hy, vOf, hv]
        · exact ih hd x hx
/-- The machine's own word for it, where it asks no memory. -/
def gen (P : Program) (e : Ev) (o : Oper) : Option V := match o.op with
  | .select _ _ => none
  | _ => cond (dataOps e o.op.operands.toList) (match pv P (execOp (rho e) o) with
    | some (.value u) => some (.sc u)
    | _ => none) none
theorem gen_good {v : V} (hg : gen P e o = some v) : Good P o e n h lo (v, n, h, lo) := by
  refine good_value fun ι a w H E => ?_
  have hsel : ∀ cs b, o.op ≠ .select cs b := fun cs b ho => by rw [gen, ho] at hg; cases hg
  have hg' : cond (dataOps e o.op.operands.toList) (match pv P (execOp (rho e) o) with
    | some (.value u) => some (V.sc u)
    | _ => none) none = some v := by
    unfold gen at hg
    split at hg
    · cases hg
    · exact hg
  cases hd : dataOps e o.op.operands.toList with
  | false => rw [hd] at hg'; cases hg'
  | true =>
    rw [hd, cond_true] at hg'
    cases hp : pv P (execOp (rho e) o) with
    | none => rw [hp] at hg'; cases hg'
    | some nx =>
      cases nx <;> simp [hp] at hg'
      rename_i u
      subst hg'
      refine ⟨u, .sc u, ?_⟩
      rw [execOp_congr o hsel fun x hx => dataOps_rel E hd x (by simpa using hx)]
      exact pv_run hp w

/-! ### Moves -/
theorem good_move {x : Operand} {v : V} (ho : o.op = .move x ∨ o.op = .assign x) (hx : ev e x = some v) : Good P o e n h lo (v, n, h, lo) :=
  good_value fun ι a w H E => ⟨a.eval x, ev_rel E hx, by rcases ho with ho | ho <;> simp [execOp, ho]⟩
theorem good_pick {x y z : Operand} {b : Bool} {v : V} (ho : o.op = .pick x y z) (hx : ev e x = some (.sc (.bool b))) (hy : ev e (cond b y z) = some v) : Good P o e n h lo (v, n, h, lo) :=
  good_value fun ι a w H E => ⟨a.eval (cond b y z), ev_rel E hy, by
    have := tv_rel (ev_rel E hx) _ rfl
    cases b <;> simp [execOp, ho, this, asBool]⟩
theorem good_extract {x : Operand} {i : Nat} {cs : List V} {v : V} (ho : o.op = .extract x i) (hx : ev e x = some (.tup cs)) (hi : cs[i]? = some v) : Good P o e n h lo (v, n, h, lo) :=
  good_value fun ι a w H E => by
    have hv := ev_rel E hx
    generalize hu : a.eval x = u at hv
    cases hv with
    | tup _ C hl hh =>
      have hlt : i < C.size := by rw [hl]; exact (List.getElem?_eq_some_iff.1 hi).1
      exact ⟨C[i], hh i v C[i] hi (Array.getElem?_eq_getElem hlt), by simp [execOp, ho, hu, Instr.extract, hlt]⟩
/-- A whole value of a type out of cells. -/
def whole (te : TE) (cs : List V) : Option V := cond (Nat.beq cs.length te.size) (cond te.agg (some (.agg cs)) (match cs with | [c] => some c | _ => none)) none
theorem part_good {t : TypeId} {te : TE} {cs : List V} {C : Array Value} {off : Nat} {v : V} {ι : Io} (Fa : TFacts P t te) (hl : LRel ι cs C.toList) (hw : whole te (win cs off te.size) = some v) (w : World) : ∃ u, VRel ι v u ∧ (part t C off).run P w = .ok u w := by
  unfold whole at hw
  have hlr := hl.win off te.size
  cases hb : Nat.beq (win cs off te.size).length te.size with
  | false => rw [hb] at hw; cases hw
  | true =>
    rw [hb, cond_true] at hw
    have hs := Nat.eq_of_beq_eq_true hb
    cases ha : te.agg with
    | true =>
      rw [ha] at hw
      cases hw
      refine ⟨.agg (C.extract off (off + te.size)), VRel.agg' ?_, ?_⟩
      · have : (C.extract off (off + te.size)).toList = win C.toList off te.size := by
          simp [Ab.win, List.extract_eq_take_drop]
        rw [this]; exact hlr
      · unfold part
        rw [Sem.run_bind, Fa.run_agg, Result.andThen_ok, ha, if_pos rfl, Sem.run_bind, Fa.size, Result.andThen_ok]; rfl
    | false =>
      rw [ha, cond_false] at hw
      split at hw
      · rename_i c hc
        cases hw
        rw [hc] at hlr
        obtain ⟨u, vs, h1, h2, h3⟩ := hlr.head
        have hu : C[off]? = some u := by
          have := win_get (cs := C.toList) h1 (j := 0) (c := u) rfl
          simpa using this
        refine ⟨u, h2, ?_⟩
        unfold part
        rw [Sem.run_bind, Fa.run_agg, Result.andThen_ok, ha]
        simp [hu]
      · cases hw
theorem good_field {t : TypeId} {x : Operand} {f off ft : Nat} {te te' : TE} {fs : List (Nat × TypeId)} {cs : List V} {v : V} (TO : TabOk P tab) (ho : o.op = .field t x f) (ht : tlook tab t = some te) (hs : te.sh = .st fs) (hf : fs[f]? = some (off, ft)) (hft : tlook tab ft = some te')
    (hx : ev e x = some (.agg cs)) (hw : whole te' (win cs off te'.size) = some v) : Good P o e n h lo (v, n, h, lo) :=
  good_value fun ι a w H E => by
    have hv := ev_rel E hx
    generalize hu : a.eval x = u at hv
    cases hv with
    | agg _ C hl hh =>
      obtain ⟨u, h1, h2⟩ := part_good (ι := ι) (TO ft te' hft) (cs := cs) (C := C) (off := off) ⟨by simpa using hl, fun i c u a b => hh i c u a (by simpa using b)⟩ hw w
      obtain ⟨FF, hu2, hF⟩ := (TO t te ht).struct hs
      rw [← hF, List.getElem?_map] at hf
      cases hfi : FF[f]? with
      | none => simp [hfi] at hf
      | some fl =>
        simp [hfi] at hf
        obtain ⟨rfl, rfl⟩ := hf
        exact ⟨u, h1, by simp [execOp, ho, hu, Instr.field, run_underlying hu2, hfi, asAgg, h2]⟩
theorem good_nilCheck {x : Operand} {v : V} (ho : o.op = .nilCheck x) (hx : ev e x = some v) (hv : (match v with | .ptr _ _ => true | .fn _ _ => true | _ => false) = true) : Good P o e n h lo (v, n, h, lo) :=
  good_value fun ι a w H E => by
    have hr := ev_rel E hx
    refine ⟨a.eval x, hr, ?_⟩
    generalize hu : a.eval x = u at hr
    cases hr <;> simp at hv <;> (simp only [execOp, ho, hu]; rfl)
/-- Held against nil. -/
def nilOf : V → Option Value
  | .ptr _ _ => some (.pointer none)
  | .sl _ _ _ _ _ => some (.slice none 0 0)
  | .emp => some (.slice none 0 0)
  | .mp _ => some (.map none)
  | .fn _ _ => some .nilFunc
  | .ifc _ _ => some .nilIface
  | _ => none
def isNil : Value → Bool
  | .pointer none => true
  | .slice none 0 0 => true
  | .map none => true
  | .nilFunc => true
  | .nilIface => true
  | _ => false
def fits : V → Value → Option TypeDesc → Bool
  | .ptr _ _, .pointer none, some (.pointer _) => true
  | .sl _ _ _ _ _, .slice none 0 0, some (.slice _) => true
  | .emp, .slice none 0 0, some (.slice _) => true
  | .mp _, .map none, some (.map _ _) => true
  | .fn _ _, .nilFunc, some (.func _ _ _) => true
  | .ifc _ _, .nilIface, some (.interface _) => true
  | _, _, _ => false
theorem fits_shape {ι : Io} {v : V} {y c : Value} {d : TypeDesc} (hv : VRel ι v y) (hf : fits v c (some d) = true) :
    (∃ a el, y = .pointer (some a) ∧ c = .pointer none ∧ d = .pointer el) ∨ (∃ a l k el, y = .slice (some a) l k ∧ c = .slice none 0 0 ∧ d = .slice el) ∨ (∃ r k el, y = .map (some r) ∧ c = .map none ∧ d = .map k el) ∨
    (∃ f C p q b, y = .func f #[] C ∧ c = .nilFunc ∧ d = .func p q b) ∨ (∃ tt u ms, y = .iface tt u ∧ c = .nilIface ∧ d = .interface ms) := by
  unfold fits at hf
  split at hf
  · rename_i h1; cases h1; cases hv; exact .inl ⟨_, _, rfl, rfl, rfl⟩
  · rename_i h1; cases h1; cases hv <;> exact .inr (.inl ⟨_, _, _, _, rfl, rfl, rfl⟩)
  · rename_i h1; cases h1; cases hv; exact .inr (.inl ⟨_, _, _, _, rfl, rfl, rfl⟩)
  · rename_i h1; cases h1; cases hv; exact .inr (.inr (.inl ⟨_, _, _, rfl, rfl, rfl⟩))
  · rename_i h1; cases h1; cases hv; exact .inr (.inr (.inr (.inl ⟨_, _, _, _, _, rfl, rfl, rfl⟩)))
  · rename_i h1; cases h1; cases hv; exact .inr (.inr (.inr (.inr ⟨_, _, _, rfl, rfl, rfl⟩)))
  · cases hf
theorem eqn_ptr (w : World) {t el : TypeId} (dd : Nat) (hd : P.underlying t = some (.pointer el)) (a : Addr) : (Op.equalIn (dd + 1) t (.pointer (some a)) (.pointer none)).run P w = .ok false w := by unfold Op.equalIn; simp [run_underlying hd]
theorem eqn_sl (w : World) {t el : TypeId} (dd : Nat) (hd : P.underlying t = some (.slice el)) (a : Addr) (l k : Nat) : (Op.equalIn (dd + 1) t (.slice (some a) l k) (.slice none 0 0)).run P w = .ok false w := by unfold Op.equalIn; simp [run_underlying hd]
theorem eqn_map (w : World) {t k el : TypeId} (dd : Nat) (hd : P.underlying t = some (.map k el)) (a : Nat) : (Op.equalIn (dd + 1) t (.map (some a)) (.map none)).run P w = .ok false w := by unfold Op.equalIn; simp [run_underlying hd]
theorem eqn_fn (w : World) {t : TypeId} {p q b} (dd : Nat) (hd : P.underlying t = some (.func p q b)) (f C) : (Op.equalIn (dd + 1) t (.func f #[] C) .nilFunc).run P w = .ok false w := by unfold Op.equalIn; simp [run_underlying hd]
theorem eqn_ifc (w : World) {t : TypeId} {ms} (dd : Nat) (hd : P.underlying t = some (.interface ms)) (f C) : (Op.equalIn (dd + 1) t (.iface f C) .nilIface).run P w = .ok false w := by unfold Op.equalIn; simp [run_underlying hd]
theorem good_nil {op : BinOp} {t u : TypeId} {x : Operand} {c : Value} {v : V} {r : Bool} (ho : o.op = .binOp op t x (.const c) u) (hx : ev e x = some v) (hf : fits v c (P.underlying t) = true) (hr : (match op with | .eql => some false | .neq => some true | _ => none) = some r) : Good P o e n h lo (.sc (.bool r), n, h, lo) :=
  good_value fun ι a w H E => by
    have hv := ev_rel E hx
    refine ⟨.bool r, .sc _, ?_⟩
    have ev : a.eval (.const c) = c := rfl
    cases hd : P.underlying t with
    | none => rw [hd] at hf; unfold fits at hf; split at hf <;> simp_all
    | some d =>
      rw [hd] at hf
      have e9 : Op.maxDepth = 9999 + 1 := rfl
      rcases fits_shape hv hf with ⟨q, el, h1, h2, h3⟩ | ⟨q, l, k, el, h1, h2, h3⟩ | ⟨q, k, el, h1, h2, h3⟩ | ⟨f, C, p1, p2, p3, h1, h2, h3⟩ | ⟨tt, y, ms, h1, h2, h3⟩
      · subst h2 h3
        have key := eqn_ptr w 9999 hd q
        cases op <;> simp at hr <;> subst hr <;> simp only [execOp, ho, h1, ev, eqGuard, binOp, Op.equal] <;> rw [e9] <;> simp [key]
      · subst h2 h3
        have key := eqn_sl w 9999 hd q l k
        cases op <;> simp at hr <;> subst hr <;> simp only [execOp, ho, h1, ev, eqGuard, binOp, Op.equal] <;> rw [e9] <;> simp [key]
      · subst h2 h3
        have key := eqn_map w 9999 hd q
        cases op <;> simp at hr <;> subst hr <;> simp only [execOp, ho, h1, ev, eqGuard, binOp, Op.equal] <;> rw [e9] <;> simp [key]
      · subst h2 h3
        have key := eqn_fn w 9999 hd f C
        cases op <;> simp at hr <;> subst hr <;> simp only [execOp, ho, h1, ev, eqGuard, binOp, Op.equal] <;> rw [e9] <;> simp [key]
      · subst h2 h3
        have key := eqn_ifc w 9999 hd tt y
        cases op <;> simp at hr <;> subst hr <;> simp only [execOp, ho, h1, ev, eqGuard, binOp, Op.equal] <;> rw [e9] <;> simp [key]
end
end Go.Proofs.Ytplgpbadpdmeeaa.Rn

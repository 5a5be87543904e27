/-
  The operations over abstract states: those that read alone.
-/
import Derived.Test.YtaecjmjdhbjbkaaAbsLogic
import Derived.Deep.MidRow
import Derived.Laws.Wrap64
namespace Go.Proofs.Ytaecjmjdhbjbkaa.Ab
set_option linter.unusedVariables false
open Go.RowKit

def aevs (e : Env) : List Operand → Option (List AVal)
  | [] => some []
  | x :: r => match aev e x, aevs e r with
    | some c, some cs => some (c :: cs)
    | _, _ => none
theorem aevs_rel {w : World} {F : Nat → Prop} {ι : Nat → Option Value} {e : Env} {a : Act} (E : EnvRel w F ι e a) {l : List Operand} {cs : List AVal} (h : aevs e l = some cs) :
    l.length = cs.length ∧ ∀ (i : Nat) (c : AVal) (u : Value), cs[i]? = some c → (l.map a.eval)[i]? = some u → VRel w F ι c u := by
  induction l generalizing cs with
  | nil => cases h; exact ⟨rfl, by simp⟩
  | cons x r ih =>
    rw [aevs] at h
    cases hx : aev e x with
    | none => simp [hx] at h
    | some c =>
      cases hr : aevs e r with
      | none => simp [hx, hr] at h
      | some cs' =>
        simp [hx, hr] at h
        subst h
        obtain ⟨h1, h2⟩ := ih hr
        refine ⟨by simp [h1], fun i c' u hc hu => ?_⟩
        cases i with
        | zero => simp at hc hu; subst hc hu; exact aev_rel E hx
        | succ i => exact h2 i c' u (by simpa using hc) (by simpa using hu)
section
variable {P : Program} {T : List Nat} {e : Env} {h : Heap} {o : Oper}
/-- What yields in whatever world. -/
theorem yield_of (c : AVal) (H : ∀ w F ι a, EnvRel w F ι e a → ∃ v, VRel w F ι c v ∧ ∀ w', (execOp a.eval o).run P w' = .ok (.value v) w') : AYield P T e h o c :=
  fun Pm F w0 pin ι a w _ E => let ⟨v, h1, h2⟩ := H w F ι a E; ⟨v, h1, fun w' _ => h2 w'⟩
theorem sc_of {w : World} {F : Nat → Prop} {ι : Nat → Option Value} {v u : Value} (h : VRel w F ι (.d (.sc v)) u) : u = v ∧ v.oneCell' = true := by
  cases h with
  | d _ _ h => cases h with
    | sc _ h => exact ⟨rfl, h⟩
theorem sc_rel {w : World} {F : Nat → Prop} {ι : Nat → Option Value} {v : Value} (h : v.oneCell' = true) : VRel w F ι (.d (.sc v)) v := .d _ _ (.sc v h)

theorem Y_move {x : Operand} {c : AVal} (ho : o.op = .move x) (hx : aev e x = some c) : AYield P T e h o c := yield_of c fun w F ι a E => ⟨a.eval x, aev_rel E hx, fun w' => by simp [execOp, ho]⟩
theorem Y_assign {x : Operand} {c : AVal} (ho : o.op = .assign x) (hx : aev e x = some c) : AYield P T e h o c := yield_of c fun w F ι a E => ⟨a.eval x, aev_rel E hx, fun w' => by simp [execOp, ho]⟩
theorem Y_pick_t {x y z : Operand} {b : Bool} {c : AVal} (ho : o.op = .pick x y z) (hx : aev e x = some (.d (.sc (.bool b)))) (hb : b = true) (hy : aev e y = some c) : AYield P T e h o c := yield_of c fun w F ι a E =>
  ⟨a.eval y, aev_rel E hy, fun w' => by simp [execOp, ho, (sc_of (aev_rel E hx)).1, asBool, hb]⟩
theorem Y_pick_f {x y z : Operand} {b : Bool} {c : AVal} (ho : o.op = .pick x y z) (hx : aev e x = some (.d (.sc (.bool b)))) (hb : b = false) (hz : aev e z = some c) : AYield P T e h o c := yield_of c fun w F ι a E =>
  ⟨a.eval z, aev_rel E hz, fun w' => by simp [execOp, ho, (sc_of (aev_rel E hx)).1, asBool, hb]⟩
theorem Y_pick_b {x y z : Operand} {b p q : Bool} (ho : o.op = .pick x y z) (hx : aev e x = some (.d (.sc (.bool b)))) (hy : aev e y = some (.d (.sc (.bool p)))) (hz : aev e z = some (.d (.sc (.bool q)))) :
    AYield P T e h o (.d (.sc (.bool (cond b p q)))) := yield_of _ fun w F ι a E =>
  ⟨.bool (cond b p q), sc_rel rfl, fun w' => by
    simp only [execOp, ho, (sc_of (aev_rel E hx)).1, (sc_of (aev_rel E hy)).1, (sc_of (aev_rel E hz)).1, asBool]
    cases b <;> simp⟩

/-- Integers: what an operation comes to. -/
def ibin (op : BinOp) (k : IntKind) (a b : Int) : Option Value := match op with
  | .add => some (.int k (k.wrap (a + b)))
  | .sub => some (.int k (k.wrap (a - b)))
  | .mul => some (.int k (k.wrap (a * b)))
  | .eql => some (.bool (a == b))
  | .neq => some (.bool (a != b))
  | .lss => some (.bool (decide (a < b)))
  | .leq => some (.bool (decide (a ≤ b)))
  | .gtr => some (.bool (decide (a > b)))
  | .geq => some (.bool (decide (a ≥ b)))
  | _ => none
theorem ibin_one {op : BinOp} {k : IntKind} {a b : Int} {r : Value} (h : ibin op k a b = some r) : r.oneCell' = true := by
  cases op <;> simp [ibin] at h <;> subst h <;> rfl
theorem Y_ibin {op : BinOp} {t u : TypeId} {x y : Operand} {k : IntKind} {a b : Int} {r : Value} (ho : o.op = .binOp op t x y u) (hx : aev e x = some (.d (.sc (.int k a)))) (hy : aev e y = some (.d (.sc (.int k b))))
    (hr : ibin op k a b = some r) : AYield P T e h o (.d (.sc r)) := yield_of _ fun w F ι ac E =>
  ⟨r, sc_rel (ibin_one hr), fun w' => by
    simp only [execOp, ho, (sc_of (aev_rel E hx)).1, (sc_of (aev_rel E hy)).1]
    cases op <;> simp [ibin] at hr <;> subst hr <;> simp [eqGuard, binOp, Op.intArith, Op.intCmp]⟩
theorem Y_add {t u : TypeId} {x y : Operand} {k : IntKind} {a b r : Int} (ho : o.op = .binOp .add t x y u) (hx : aev e x = some (.d (.sc (.int k a)))) (hy : aev e y = some (.d (.sc (.int k b))))
    (hr : k.wrap (a + b) = r) : AYield P T e h o (.d (.sc (.int k r))) := Y_ibin ho hx hy (by rw [← hr]; rfl)
theorem Y_sub {t u : TypeId} {x y : Operand} {k : IntKind} {a b r : Int} (ho : o.op = .binOp .sub t x y u) (hx : aev e x = some (.d (.sc (.int k a)))) (hy : aev e y = some (.d (.sc (.int k b))))
    (hr : k.wrap (a - b) = r) : AYield P T e h o (.d (.sc (.int k r))) := Y_ibin ho hx hy (by rw [← hr]; rfl)
theorem Y_mul {t u : TypeId} {x y : Operand} {k : IntKind} {a b r : Int} (ho : o.op = .binOp .mul t x y u) (hx : aev e x = some (.d (.sc (.int k a)))) (hy : aev e y = some (.d (.sc (.int k b))))
    (hr : k.wrap (a * b) = r) : AYield P T e h o (.d (.sc (.int k r))) := Y_ibin ho hx hy (by rw [← hr]; rfl)
theorem wrap_in {k : IntKind} {n : Int} (h1 : k.min ≤ n) (h2 : n ≤ k.max) : k.wrap n = n := by
  cases k <;> simp [IntKind.min, IntKind.max, IntKind.signed, IntKind.bits, IntKind.wrap] at * <;> omega
theorem wrap_i64 {n : Int} (h : -9223372036854775808 ≤ n ∧ n ≤ 9223372036854775807) : IntKind.i64.wrap n = n := wrap_in (by simp [IntKind.min, IntKind.signed, IntKind.bits]; omega) (by simp [IntKind.max, IntKind.signed, IntKind.bits]; omega)
theorem Y_not {t : TypeId} {x : Operand} {b : Bool} (ho : o.op = .unOp .not t x) (hx : aev e x = some (.d (.sc (.bool b)))) : AYield P T e h o (.d (.sc (.bool !b))) := yield_of _ fun w F ι a E =>
  ⟨.bool !b, sc_rel rfl, fun w' => by simp [execOp, ho, (sc_of (aev_rel E hx)).1, Op.unary]⟩
theorem Y_neg {t : TypeId} {x : Operand} {k : IntKind} {b r : Int} (ho : o.op = .unOp .neg t x) (hx : aev e x = some (.d (.sc (.int k b)))) (hr : k.wrap (0 - b) = r) : AYield P T e h o (.d (.sc (.int k r))) := yield_of _ fun w F ι a E =>
  ⟨.int k r, sc_rel rfl, fun w' => by simp [execOp, ho, (sc_of (aev_rel E hx)).1, Op.unary, Op.intArith, ← hr]⟩
theorem Y_conv {tab : TTab} (TO : TabOk P tab) {t t' : TypeId} {x : Operand} {k k' : IntKind} {b r : Int} {te te' : TE} (ho : o.op = .convert t t' x) (hx : aev e x = some (.d (.sc (.int k b))))
    (h1 : tlook tab t = some te) (h2 : tlook tab t' = some te') (h3 : te'.sh = .it k') (hr : k'.wrap b = r) : AYield P T e h o (.d (.sc (.int k' r))) := yield_of _ fun w F ι a E =>
  ⟨.int k' r, sc_rel rfl, fun w' => by
    obtain ⟨d, hd, _, _⟩ := (TO t te h1).und
    obtain ⟨d', hd', _, hs⟩ := (TO t' te' h2).und
    rw [h3] at hs
    cases hs
    simp [execOp, ho, (sc_of (aev_rel E hx)).1, convert, run_underlying hd, run_underlying hd', Conv.intToInt, ← hr]⟩
theorem Y_extract {x : Operand} {i : Nat} {cs : List AVal} {c : AVal} (ho : o.op = .extract x i) (hx : aev e x = some (.tup cs)) (hi : cs[i]? = some c) : AYield P T e h o c := yield_of _ fun w F ι a E => by
  have hv := aev_rel E hx
  generalize hu : a.eval x = u at hv
  cases hv with
  | tup _ C hl hh =>
    have hlt : i < C.size := by rw [hl]; exact (List.getElem?_eq_some_iff.1 hi).1
    refine ⟨C[i], hh i c C[i] hi (Array.getElem?_eq_getElem hlt), fun w' => ?_⟩
    simp [execOp, ho, hu, Instr.extract, hlt]
theorem Y_makeFunc {f : FuncId} {caps : Array Operand} {cs : List AVal} (ho : o.op = .makeFunc (.func f) #[] caps) (hc : aevs e caps.toList = some cs) : AYield P T e h o (.fn f cs) := yield_of _ fun w F ι a E => by
  have hr := aevs_rel E hc
  exact ⟨.func (.func f) #[] (caps.map a.eval), .fn f cs _ (by simpa using hr.1) (fun i c u h1 h2 => hr.2 i c u h1 (by simpa [← Array.getElem?_toList] using h2)), fun w' => by simp [execOp, ho, Instr.makeFunc]⟩
end

/-! ### Slices, fields, cells -/
section
variable {P : Program} {T : List Nat} {e : Env} {h : Heap} {o : Oper} {tab : TTab}
theorem TFacts.slice {t : TypeId} {te : TE} {el : TypeId} (F : TFacts P t te) (hs : te.sh = .sl el) : P.underlying t = some (.slice el) := by
  obtain ⟨d, hd, _, h⟩ := F.und
  rw [hs] at h; cases h; exact hd
theorem look_ex {w : World} {Pm F : Nat → Prop} {w0 : World} {pin ι : Nat → Option Value} (H : HRel Pm F w0 pin ι h w) {id : Nat} {b : ABlk} (hb : look h id = some b) {c : AVal} : ∃ v, ι id = some v ∧ BRel w F ι b v := H.blk id b hb
theorem ct_same {w w' : World} {Pm F : Nat → Prop} {w0 : World} {pin ι : Nat → Option Value} (H : HRel Pm F w0 pin ι h w) (C : CT T ι w w') {id : Nat} {v : Value} {r : Nat} (hi : ι id = some v) (hr : blockOf v = some r) (hT : T.contains id = false) : w'.heap[r]? = w.heap[r]? := by
  refine C.mem r (H.lt hi hr) fun j hj v' hv' => ?_
  refine H.inj id j v v' r ?_ hi hv' hr
  rintro rfl
  have := List.contains_iff_mem.2 hj
  rw [this] at hT; cases hT
theorem ct_free {w w' : World} {F : Nat → Prop} {ι : Nat → Option Value} (C : CT T ι w w') {r : Nat} (hr : r < w.heap.size) (hf : FreeB F ι r) : w'.heap[r]? = w.heap[r]? := C.mem r hr fun j _ v' hv' => hf.2 j v' hv'

theorem Y_len_sl {t : TypeId} {x : Operand} {te : TE} {el : TypeId} {cs : List Dat} {n : Nat} (TO : TabOk P tab) (ho : o.op = .call { callee := .builtin .len, args := #[x], argTypes := #[t] }) (ht : tlook tab t = some te) (hs : te.sh = .sl el)
    (hx : aev e x = some (.d (.sl cs n))) : AYield P T e h o (.d (.sc (.int .i64 (n : Int)))) := yield_of _ fun w F ι a E => by
  refine ⟨.int .i64 n, sc_rel rfl, fun w' => ?_⟩
  have hv := aev_rel E hx
  have hu := (TO t te ht).slice hs
  have key : ∃ b c, a.eval x = .slice b n c := by
    generalize a.eval x = u at hv
    cases hv with
    | d _ _ hd => cases hd <;> exact ⟨_, _, rfl⟩
  obtain ⟨b, c, hk⟩ := key
  simp [execOp, ho, resolve, invoke, builtin, hk, Builtin.len_, run_underlying hu, goInt]
theorem Y_len_nil {t : TypeId} {x : Operand} {te : TE} {el : TypeId} (TO : TabOk P tab) (ho : o.op = .call { callee := .builtin .len, args := #[x], argTypes := #[t] }) (ht : tlook tab t = some te) (hs : te.sh = .sl el)
    (hx : aev e x = some (.d (.sc (.slice none 0 0)))) : AYield P T e h o (.d (.sc (.int .i64 0))) := yield_of _ fun w F ι a E => by
  refine ⟨.int .i64 0, sc_rel rfl, fun w' => ?_⟩
  have hk := (sc_of (aev_rel E hx)).1
  have hu := (TO t te ht).slice hs
  simp [execOp, ho, resolve, invoke, builtin, hk, Builtin.len_, run_underlying hu, goInt]
theorem Y_len_str {t : TypeId} {x : Operand} {te : TE} {s : ByteArray} (TO : TabOk P tab) (ho : o.op = .call { callee := .builtin .len, args := #[x], argTypes := #[t] }) (ht : tlook tab t = some te) (hs : te.sh = .str)
    (hx : aev e x = some (.d (.sc (.string s)))) : AYield P T e h o (.d (.sc (.int .i64 (s.size : Int)))) := yield_of _ fun w F ι a E => by
  refine ⟨.int .i64 s.size, sc_rel rfl, fun w' => ?_⟩
  have hk := (sc_of (aev_rel E hx)).1
  obtain ⟨d, hd, _, hh⟩ := (TO t te ht).und
  rw [hs] at hh; cases hh
  simp [execOp, ho, resolve, invoke, builtin, hk, Builtin.len_, run_underlying hd, goInt]
theorem Y_len_row {t : TypeId} {x : Operand} {te : TE} {el el' : TypeId} {id k n : Nat} {cs : List Dat} (TO : TabOk P tab) (ho : o.op = .call { callee := .builtin .len, args := #[x], argTypes := #[t] }) (ht : tlook tab t = some te) (hs : te.sh = .sl el)
    (hx : aev e x = some (.row id)) (hb : look h id = some (.row el' k n cs)) : AYield P T e h o (.d (.sc (.int .i64 (n : Int)))) := fun Pm F w0 pin ι a w H E => by
  refine ⟨.int .i64 n, sc_rel rfl, fun w' _ => ?_⟩
  obtain ⟨v, hv, xs, hown, _⟩ := H.blk id _ hb
  have hr := aev_rel E hx
  have hu := (TO t te ht).slice hs
  have key : ∃ b c, a.eval x = .slice b n c := by
    generalize a.eval x = u at hr
    cases hr with
    | row _ _ h1 h2 =>
      rw [h2 v hv]
      rcases hown.2 with ⟨h3, h4⟩ | ⟨g, cap, cur, h3, _⟩
      · subst h4; exact ⟨_, _, h3⟩
      · exact ⟨_, _, h3⟩
  obtain ⟨b, c, hk⟩ := key
  simp [execOp, ho, resolve, invoke, builtin, hk, Builtin.len_, run_underlying hu, goInt]

theorem run_indexAt {t el : TypeId} {te' : TE} (w' : World) (hu : P.underlying t = some (.slice el)) (hel : TFacts P el te') (b off n cap : Nat) (k : IntKind) (i : Int) (hi : 0 ≤ i ∧ i < n) :
    (Instr.indexAt t (.slice (some ⟨b, off, none⟩) n cap) (.int k i)).run P w' = .ok (.pointer (some ⟨b, off + i.toNat * te'.size, none⟩)) w' := by
  simp [Instr.indexAt, run_underlying hu, asIntOf, hi, hel.size, Addr.add_mid]
theorem Y_index_sl {t : TypeId} {x y : Operand} {te te' : TE} {el : TypeId} {cs : List Dat} {n : Nat} {k : IntKind} {i : Int} (TO : TabOk P tab) (ho : o.op = .indexAddr t x y) (ht : tlook tab t = some te) (hs : te.sh = .sl el)
    (hel : tlook tab el = some te') (hx : aev e x = some (.d (.sl cs n))) (hy : aev e y = some (.d (.sc (.int k i)))) (hi : 0 ≤ i ∧ i < n) : AYield P T e h o (.iptr cs (i.toNat * te'.size)) := yield_of _ fun w F ι a E => by
  have hv := aev_rel E hx
  have hk := (sc_of (aev_rel E hy)).1
  have hu := (TO t te ht).slice hs
  generalize hau : a.eval x = u at hv
  cases hv with
  | d _ _ hd =>
    cases hd with
    | nil => exact absurd hi (by simp)
    | sl _ _ b off cap vs hn hl hf hc hr =>
      exact ⟨_, .iptr cs _ b off vs hl hf hc hr, fun w' => by simp [execOp, ho, hau, hk, run_indexAt w' hu (TO el te' hel) b off n cap k i hi]⟩
theorem Y_index_row {t : TypeId} {x y : Operand} {te te' : TE} {el el' : TypeId} {id kk n : Nat} {cs : List Dat} {k : IntKind} {i : Int} (TO : TabOk P tab) (ho : o.op = .indexAddr t x y) (ht : tlook tab t = some te) (hs : te.sh = .sl el)
    (hel : tlook tab el = some te') (hx : aev e x = some (.row id)) (hb : look h id = some (.row el' kk n cs)) (hy : aev e y = some (.d (.sc (.int k i)))) (hi : 0 ≤ i ∧ i < n) : AYield P T e h o (.eptr id (i.toNat * te'.size)) := fun Pm F w0 pin ι a w H E => by
  obtain ⟨v, hv, xs, hown, _⟩ := H.blk id _ hb
  have hr := aev_rel E hx
  have hk := (sc_of (aev_rel E hy)).1
  have hu := (TO t te ht).slice hs
  generalize hau : a.eval x = u at hr
  cases hr with
  | row _ _ h1 h2 =>
    have h3 := h2 v hv
    subst h3
    rcases hown.2 with ⟨_, h4⟩ | ⟨g, cap, cur, h3, _⟩
    · subst h4; exact absurd hi (by simp)
    · subst h3
      refine ⟨.pointer (some ⟨g, i.toNat * te'.size, none⟩), .eptr id _ _ rfl fun v' hv' => ?_, fun w' _ => ?_⟩
      · rw [hv] at hv'; cases hv'; exact ⟨g, n, cap, rfl, rfl⟩
      · simp [execOp, ho, hau, hk, run_indexAt w' hu (TO el te' hel) g 0 n cap k i hi]

theorem TFacts.struct {t : TypeId} {te : TE} {fs : List (Nat × TypeId)} (Fa : TFacts P t te) (hs : te.sh = .st fs) : ∃ F, P.underlying t = some (.struct F) ∧ F.toList.map (fun f => (f.offset, f.type)) = fs := by
  obtain ⟨d, hd, _, h⟩ := Fa.und
  rw [hs] at h
  obtain ⟨F, rfl, hF, _⟩ := h
  exact ⟨F, hd, hF⟩
theorem run_fieldAt {t : TypeId} {te te' : TE} {fs : List (Nat × TypeId)} {f off ft : Nat} (w' : World) (Fa : TFacts P t te) (hs : te.sh = .st fs) (hf : fs[f]? = some (off, ft)) (Fb : TFacts P ft te') (hz : Nat.beq te'.size 0 = false) (b o : Nat) :
    (Instr.fieldAt t (.pointer (some ⟨b, o, none⟩)) f).run P w' = .ok (.pointer (some ⟨b, o + off, none⟩)) w' := by
  obtain ⟨F, hu, hF⟩ := Fa.struct hs
  have hz := of_beq_no hz
  subst hF
  rw [List.getElem?_map] at hf
  cases hfi : F[f]? with
  | none => simp [hfi] at hf
  | some fl =>
    simp [hfi] at hf
    obtain ⟨rfl, rfl⟩ := hf
    simp [Instr.fieldAt, run_underlying hu, hfi, Instr.sureAddr, fieldPlace, Fb.size, hz, Addr.add_mid]
theorem Y_field_ptr {t : TypeId} {x : Operand} {f off ft id o1 : Nat} {te te' : TE} {fs : List (Nat × TypeId)} (TO : TabOk P tab) (ho : o.op = .fieldAddr t x f) (ht : tlook tab t = some te) (hs : te.sh = .st fs) (hf : fs[f]? = some (off, ft))
    (hft : tlook tab ft = some te') (hz : Nat.beq te'.size 0 = false) (hx : aev e x = some (.ptr id o1)) (hb : (look h id).isSome = true) : AYield P T e h o (.ptr id (o1 + off)) := fun Pm F w0 pin ι a w H E => by
  obtain ⟨b, hb⟩ := Option.isSome_iff_exists.1 hb
  obtain ⟨v, hv, _⟩ := H.blk id _ hb
  have hr := aev_rel E hx
  generalize hau : a.eval x = u at hr
  cases hr with
  | ptr _ _ _ h1 h2 =>
    obtain ⟨r, rfl, rfl⟩ := h2 v hv
    refine ⟨_, .ptr id (o1 + off) (.pointer (some ⟨r, o1 + off, none⟩)) rfl fun v' hv' => ?_, fun w' _ => ?_⟩
    · rw [hv] at hv'; cases hv'; exact ⟨r, rfl, rfl⟩
    · simp [execOp, ho, hau, run_fieldAt w' (TO t te ht) hs hf (TO ft te' hft) hz]
theorem Y_field_eptr {t : TypeId} {x : Operand} {f off ft id o1 : Nat} {te te' : TE} {fs : List (Nat × TypeId)} (TO : TabOk P tab) (ho : o.op = .fieldAddr t x f) (ht : tlook tab t = some te) (hs : te.sh = .st fs) (hf : fs[f]? = some (off, ft))
    (hft : tlook tab ft = some te') (hz : Nat.beq te'.size 0 = false) (hx : aev e x = some (.eptr id o1)) (hb : (look h id).isSome = true) : AYield P T e h o (.eptr id (o1 + off)) := fun Pm F w0 pin ι a w H E => by
  obtain ⟨b, hb⟩ := Option.isSome_iff_exists.1 hb
  obtain ⟨v, hv, _⟩ := H.blk id _ hb
  have hr := aev_rel E hx
  generalize hau : a.eval x = u at hr
  cases hr with
  | eptr _ _ _ h1 h2 =>
    obtain ⟨r, n, cap, rfl, rfl⟩ := h2 v hv
    refine ⟨_, .eptr id (o1 + off) (.pointer (some ⟨r, o1 + off, none⟩)) rfl fun v' hv' => ?_, fun w' _ => ?_⟩
    · rw [hv] at hv'; cases hv'; exact ⟨r, n, cap, rfl, rfl⟩
    · simp [execOp, ho, hau, run_fieldAt w' (TO t te ht) hs hf (TO ft te' hft) hz]
theorem Y_field_iptr {t : TypeId} {x : Operand} {f off ft o1 : Nat} {cs : List Dat} {te te' : TE} {fs : List (Nat × TypeId)} (TO : TabOk P tab) (ho : o.op = .fieldAddr t x f) (ht : tlook tab t = some te) (hs : te.sh = .st fs) (hf : fs[f]? = some (off, ft))
    (hft : tlook tab ft = some te') (hz : Nat.beq te'.size 0 = false) (hx : aev e x = some (.iptr cs o1)) : AYield P T e h o (.iptr cs (o1 + off)) := yield_of _ fun w F ι a E => by
  have hr := aev_rel E hx
  generalize hau : a.eval x = u at hr
  cases hr with
  | iptr _ _ b o vs hl hfr hc hrr =>
    refine ⟨.pointer (some ⟨b, o + (o1 + off), none⟩), .iptr cs _ b o vs hl hfr hc hrr, fun w' => ?_⟩
    simp [execOp, ho, hau, run_fieldAt w' (TO t te ht) hs hf (TO ft te' hft) hz, Nat.add_assoc]

/-! Loads -/
theorem run_loadVar {t : TypeId} {te : TE} (w' : World) (Fa : TFacts P t te) (b o : Nat) (vs : List Value) (hl : vs.length = te.size) (hc : ∀ (j : Nat) (u : Value), vs[j]? = some u → w'.cell? ⟨b, o + j, none⟩ = some u) :
    (loadVar t ⟨b, o, none⟩).run P w' = match te.agg, vs with
      | true, vs => .ok (.agg vs.toArray) w'
      | false, v :: _ => .ok v w'
      | false, [] => (loadVar t ⟨b, o, none⟩).run P w' := by
  cases ha : te.agg with
  | true =>
    simp only [loadVar, Sem.run_bind, Fa.run_agg, Result.andThen_ok, ha, if_true, Fa.size]
    rw [← hl, run_loadCells_list (P := P) w' ⟨b, o, none⟩ vs (fun j v hv => by rw [Addr.add_mid]; exact hc j v hv)]
    simp
  | false =>
    cases vs with
    | nil => rfl
    | cons v r =>
      have := hc 0 v rfl
      rw [Nat.add_zero] at this
      simp [loadVar, Fa.run_agg, ha, load, Sem.run, this]
/-- The cells from 'off' on. -/
def win {α : Type} (cs : List α) (off k : Nat) : List α := (cs.drop off).take k
theorem win_get {α : Type} {cs xs : List α} {off k : Nat} (hw : win cs off k = xs) {j : Nat} {c : α} (hj : xs[j]? = some c) : cs[off + j]? = some c := by
  subst hw
  unfold win at hj
  rw [List.getElem?_take] at hj
  split at hj
  · rwa [List.getElem?_drop] at hj
  · cases hj
theorem load_of {t : TypeId} {te : TE} {x : Operand} {a : Act} {b o1 : Nat} (ho : o.op = .load t x) (Fa : TFacts P t te) (hau : a.eval x = .pointer (some ⟨b, o1, none⟩)) {w F ι} {cs : List AVal} {vs : List Value} (hl : vs.length = te.size) (hlc : cs.length = vs.length)
    (hr : ∀ (j : Nat) (c : AVal) (u : Value), cs[j]? = some c → vs[j]? = some u → VRel w F ι c u) {c : AVal} (hcc : cond te.agg (some (.agg cs)) cs.head? = some c) (C : World → Prop)
    (hc : ∀ w', C w' → ∀ (j : Nat) (u : Value), vs[j]? = some u → w'.cell? ⟨b, o1 + j, none⟩ = some u) : ∃ v, VRel w F ι c v ∧ ∀ w', C w' → (execOp a.eval o).run P w' = .ok (.value v) w' := by
  cases ha : te.agg with
  | true =>
    rw [ha] at hcc
    cases hcc
    refine ⟨.agg vs.toArray, .agg cs _ (by simpa using hlc.symm) fun i c u h1 h2 => hr i c u h1 (by simpa using h2), fun w' hw' => ?_⟩
    have := run_loadVar w' Fa b o1 vs hl (hc w' hw')
    rw [ha] at this
    simp [execOp, ho, hau, Instr.loadAt, Instr.sureAddr, this]
  | false =>
    rw [ha, cond_false] at hcc
    cases cs with
    | nil => cases hcc
    | cons c0 r =>
      cases hcc
      cases vs with
      | nil => simp at hlc
      | cons v rv =>
        refine ⟨v, hr 0 _ _ rfl rfl, fun w' hw' => ?_⟩
        have := run_loadVar w' Fa b o1 (v :: rv) hl (hc w' hw')
        rw [ha] at this
        simp [execOp, ho, hau, Instr.loadAt, Instr.sureAddr, this]
theorem Y_load_ptr {t : TypeId} {x : Operand} {te : TE} {id o1 : Nat} {cs xs : List AVal} {c : AVal} (TO : TabOk P tab) (ho : o.op = .load t x) (ht : tlook tab t = some te) (hx : aev e x = some (.ptr id o1)) (hb : look h id = some (.var cs))
    (hT : T.contains id = false) (hw : win cs o1 te.size = xs) (hl : Nat.beq xs.length te.size = true) (hc : cond te.agg (some (.agg xs)) xs.head? = some c) : AYield P T e h o c := fun Pm F w0 pin ι a w H E => by
  obtain ⟨v, hv, r, C, TT, rfl, hC, hlC, hr⟩ := H.blk id _ hb
  have hrel := aev_rel E hx
  have hl := Nat.eq_of_beq_eq_true hl
  generalize hau : a.eval x = u at hrel
  cases hrel with
  | ptr _ _ _ h1 h2 =>
    obtain ⟨r', h3, rfl⟩ := h2 _ hv
    cases h3
    have hcs : ∀ j, j < xs.length → o1 + j < C.size := fun j hj => by
      have := win_get hw (List.getElem?_eq_getElem hj)
      rw [hlC]; exact (List.getElem?_eq_some_iff.1 this).1
    have hvl : (win C.toList o1 te.size).length = xs.length := by
      subst hw; simp [win, hlC]
    refine load_of (vs := win C.toList o1 te.size) ho (TO t te ht) hau (by rw [hvl, hl]) (by rw [hvl]) (fun j c u h4 h5 => hr (o1 + j) c u (win_get hw h4) ?_) hc (CT T ι w) fun w' hw' j u hj => ?_
    · have := win_get rfl h5; simpa using this
    · have h6 := win_get rfl hj
      rw [Array.getElem?_toList] at h6
      have h7 := ct_same H hw' hv rfl hT
      simp [World.cell?, h7, hC, h6]
theorem Y_load_eptr {t : TypeId} {x : Operand} {te : TE} {id o1 : Nat} {el k n : Nat} {cs : List Dat} {xs : List AVal} {c : AVal} (TO : TabOk P tab) (ho : o.op = .load t x) (ht : tlook tab t = some te) (hx : aev e x = some (.eptr id o1)) (hb : look h id = some (.row el k n cs))
    (hT : T.contains id = false) (hw : (win cs o1 te.size).map AVal.d = xs) (hl : Nat.beq xs.length te.size = true) (hc : cond te.agg (some (.agg xs)) xs.head? = some c) : AYield P T e h o c := fun Pm F w0 pin ι a w H E => by
  obtain ⟨v, hv, ys, hown, hly, hr⟩ := H.blk id _ hb
  have hrel := aev_rel E hx
  have hl := Nat.eq_of_beq_eq_true hl
  generalize hau : a.eval x = u at hrel
  cases hrel with
  | eptr _ _ _ h1 h2 =>
    obtain ⟨g, n', cap, h3, rfl⟩ := h2 _ hv
    subst h3
    have hvl : (win ys o1 te.size).length = xs.length := by
      subst hw; simp [win, hly]
    refine load_of (vs := win ys o1 te.size) ho (TO t te ht) hau (by rw [hvl, hl]) (by rw [hvl]) (fun j c u h4 h5 => ?_) hc (CT T ι w) fun w' hw' j u hj => ?_
    · subst hw
      rw [List.getElem?_map] at h4
      cases h6 : (win cs o1 te.size)[j]? with
      | none => simp [h6] at h4
      | some d => simp [h6] at h4; subst h4; exact .d _ _ (hr (o1 + j) d u (win_get rfl h6) (win_get rfl h5))
    · have h6 := win_get rfl hj
      have h7 := ct_same H hw' hv rfl hT
      have h8 := hown.cells (g := g) rfl (o1 + j) u h6
      rw [Addr.add_mid, Nat.zero_add] at h8
      exact cell_of_same h7 h8
theorem Y_load_iptr {t : TypeId} {x : Operand} {te : TE} {o1 : Nat} {cs : List Dat} {xs : List Dat} {c : AVal} (TO : TabOk P tab) (ho : o.op = .load t x) (ht : tlook tab t = some te) (hx : aev e x = some (.iptr cs o1))
    (hw : win cs o1 te.size = xs) (hl : Nat.beq xs.length te.size = true) (hc : cond te.agg (some (.agg (xs.map AVal.d))) (xs.map AVal.d).head? = some c) : AYield P T e h o c := fun Pm F w0 pin ι a w H E => by
  have hrel := aev_rel E hx
  have hl := Nat.eq_of_beq_eq_true hl
  generalize hau : a.eval x = u at hrel
  cases hrel with
  | iptr _ _ b o2 vs hlv hfr hcv hr =>
    have hvl : (win vs o1 te.size).length = xs.length := by
      subst hw; simp [win, hlv]
    have hcell : ∀ (j : Nat) (u : Value), (win vs o1 te.size)[j]? = some u → w.cell? ⟨b, o2 + (o1 + j), none⟩ = some u := fun j u hj => hcv _ u (win_get rfl hj)
    refine load_of (vs := win vs o1 te.size) ho (TO t te ht) hau (by rw [hvl, hl]) (by simp [hvl]) (fun j c u h4 h5 => ?_) hc (CT T ι w) fun w' hw' j u hj => ?_
    · subst hw
      rw [List.getElem?_map] at h4
      cases h6 : (win cs o1 te.size)[j]? with
      | none => simp [h6] at h4
      | some d => simp [h6] at h4; subst h4; exact .d _ _ (hr (o1 + j) d u (win_get rfl h6) (win_get rfl h5))
    · have h8 := hcell j u hj
      rw [Nat.add_assoc]
      refine cell_of_same (ct_free hw' (cell_lt h8) (hfr ?_)) h8
      rintro rfl
      simp [win] at hj
end
end Go.Proofs.Ytaecjmjdhbjbkaa.Ab

/-
  Maps of one's own over abstract states; arrays behind pointers; nil checks.
-/
import Derived.Test.YtaecjmjdhbjbkaaAbsPass
import Derived.Test.YtaecjmjdhbjbkaaAbsAny
import Derived.Test.YtaecjmjdhbjbkaaMapLaws
namespace Go.Proofs.Ytaecjmjdhbjbkaa.Ab
set_option linter.unusedVariables false
open Go.RowKit

section
variable {P : Program} {nt : Nat} {Q : Post} {e : Env} {h : Heap} {o : Oper} {T : List Nat} {tab : TTab}
theorem ptr_some {Pm F : Nat → Prop} {w0 w : World} {pin ι : Nat → Option Value} {h : Heap} (H : HRel Pm F w0 pin ι h w) {id o1 : Nat} {u : Value} (hb : (look h id).isSome = true) (hv : VRel w F ι (.ptr id o1) u) : ∃ r, ι id = some (.pointer (some ⟨r, 0, none⟩)) ∧ u = .pointer (some ⟨r, o1, none⟩) := by
  obtain ⟨b, hb⟩ := Option.isSome_iff_exists.1 hb
  obtain ⟨v, hv2, _⟩ := H.blk id _ hb
  cases hv with
  | ptr _ _ _ h1 h2 =>
    obtain ⟨r, rfl, rfl⟩ := h2 v hv2
    exact ⟨r, hv2, rfl⟩
theorem Y_nilCheck {x : Operand} {id o1 : Nat} (ho : o.op = .nilCheck x) (hx : aev e x = some (.ptr id o1)) (hb : (look h id).isSome = true) : AYield P T e h o (.ptr id o1) := fun Pm F w0 pin ι a w H E => by
  have hv := aev_rel E hx
  obtain ⟨r, h1, h2⟩ := ptr_some H hb hv
  refine ⟨a.eval x, hv, fun w' _ => ?_⟩
  simp only [execOp, ho, h2]
  rfl
theorem run_ptr_nil {w : World} {d : Nat} {t el : TypeId} (hd : P.underlying t = some (.pointer el)) (a : Addr) : (Op.equalIn (d + 1) t (.pointer (some a)) (.pointer none)).run P w = .ok false w := by
  unfold Op.equalIn
  simp [run_underlying hd]
theorem mp_eq {w : World} {F : Nat → Prop} {ι : Nat → Option Value} {id : Nat} {u v : Value} (h : VRel w F ι (.mp id) u) (hv : ι id = some v) : u = v := by
  cases h with
  | mp _ _ _ h2 => exact h2 v hv
theorem Y_ptr_nil {op : BinOp} {t u : TypeId} {te : TE} {el : TypeId} {x : Operand} {id o1 : Nat} {r : Bool} (TO : TabOk P tab) (ho : o.op = .binOp op t x (.const (.pointer none)) u) (ht : tlook tab t = some te) (hs : te.sh = .pt el) (hx : aev e x = some (.ptr id o1)) (hb : (look h id).isSome = true) (hr : (match op with | .eql => some false | .neq => some true | _ => none) = some r) :
    AYield P T e h o (.d (.sc (.bool r))) := fun Pm F w0 pin ι a w H E => by
  have hv := aev_rel E hx
  obtain ⟨rr, h1, h2⟩ := ptr_some H hb hv
  obtain ⟨d, hd, _, hh⟩ := (TO t te ht).und
  rw [hs] at hh
  cases hh
  refine ⟨.bool r, sc_rel rfl, fun w' _ => ?_⟩
  have key := run_ptr_nil (w := w') (d := 9999) hd ⟨rr, o1, none⟩
  have ev : a.eval (.const (.pointer none)) = .pointer none := rfl
  cases op <;> simp at hr <;> subst hr <;> simp only [execOp, ho, h2, ev, eqGuard, binOp, Op.equal] <;> rw [show Op.maxDepth = 9999 + 1 from rfl] <;> simp [key]
theorem Y_index_ptr {t el n : Nat} {te te' : TE} {x y : Operand} {id o1 j : Nat} {k : IntKind} {i : Int} (TO : TabOk P tab) (ho : o.op = .indexAddr t x y) (ht : tlook tab t = some te) (hs : te.sh = .ar n el) (hel : tlook tab el = some te') (hx : aev e x = some (.ptr id o1)) (hb : (look h id).isSome = true) (hy : aev e y = some (.d (.sc (.int k i)))) (hi : i = (j : Int)) (hj : j < n) :
    AYield P T e h o (.ptr id (o1 + j * te'.size)) := fun Pm F w0 pin ι a w H E => by
  have hv := aev_rel E hx
  obtain ⟨r, h1, h2⟩ := ptr_some H hb hv
  have hk := (sc_of (aev_rel E hy)).1
  obtain ⟨d, hd, _, hh⟩ := (TO t te ht).und
  rw [hs] at hh
  cases hh
  subst hi
  refine ⟨.pointer (some ⟨r, o1 + j * te'.size, none⟩), .ptr id _ _ rfl fun v hv' => ?_, fun w' _ => ?_⟩
  · rw [h1] at hv'; cases hv'; exact ⟨r, rfl, rfl⟩
  · simp [execOp, ho, h2, hk, Instr.indexAt, asIntOf, run_underlying hd, Instr.sureAddr, hj, (TO el te' hel).size, Addr.add_mid]
theorem Y_index_arr {t el n : Nat} {te te' : TE} {x y : Operand} {cs : List AVal} {c : AVal} {j : Nat} {k : IntKind} {i : Int} (TO : TabOk P tab) (ho : o.op = .index t x y) (ht : tlook tab t = some te) (hs : te.sh = .ar n el) (hel : tlook tab el = some te') (hag : te'.agg = false) (hsz : te'.size = 1) (hx : aev e x = some (.agg cs)) (hy : aev e y = some (.d (.sc (.int k i)))) (hi : i = (j : Int)) (hj : j < n) (hc : cs[j]? = some c) :
    AYield P T e h o c := yield_of _ fun w F ι a E => by
  have hv := aev_rel E hx
  have hk := (sc_of (aev_rel E hy)).1
  obtain ⟨d, hd, _, hh⟩ := (TO t te ht).und
  rw [hs] at hh
  cases hh
  subst hi
  generalize hau : a.eval x = u at hv
  cases hv with
  | agg _ C hl hr =>
    have hlt : j < C.size := by rw [hl]; exact (List.getElem?_eq_some_iff.1 hc).1
    refine ⟨C[j], hr j c C[j] hc (Array.getElem?_eq_getElem hlt), fun w' => ?_⟩
    simp [execOp, ho, hau, hk, Instr.index, asIntOf, run_underlying hd, hj, (TO el te' hel).size, part, (TO el te' hel).run_agg, hag, hsz, hlt]

/-! Maps -/
variable {κ ν : Type} {ek : κ → Value} {ok : κ → Prop} {ka : κ → AVal} {xa : ν → AVal}
/-- The entries of a map. -/
def ents (ka : κ → AVal) (xa : ν → AVal) (l : List (κ × ν)) : List (AVal × AVal) := l.map fun p => (ka p.1, xa p.2)
/-- Values beside one another. -/
def Beside (w : World) (F : Nat → Prop) (ι : Nat → Option Value) (xa : ν → AVal) : List (κ × ν) → List (κ × Value) → Prop
  | [], [] => True
  | p :: l, q :: m => q.1 = p.1 ∧ VRel w F ι (xa p.2) q.2 ∧ Beside w F ι xa l m
  | _, _ => False
theorem Beside.keys {w : World} {F : Nat → Prop} {ι : Nat → Option Value} {l : List (κ × ν)} {m : List (κ × Value)} (h : Beside w F ι xa l m) : m.map (·.1) = l.map (·.1) := by
  induction l generalizing m with
  | nil => cases m with
    | nil => rfl
    | cons q m => cases h
  | cons p l ih => cases m with
    | nil => cases h
    | cons q m => rw [List.map_cons, List.map_cons, h.1, ih h.2.2]
theorem Beside.mget [DecidableEq κ] {w : World} {F : Nat → Prop} {ι : Nat → Option Value} {l : List (κ × ν)} {m : List (κ × Value)} (h : Beside w F ι xa l m) (k : κ) :
    (∀ i x, mget l k = some (i, x) → ∃ u, mget m k = some (i, u) ∧ VRel w F ι (xa x) u) ∧ (mget l k = none → mget m k = none) := by
  induction l generalizing m with
  | nil => cases m with
    | nil => exact ⟨fun i x h => (by cases h), fun _ => rfl⟩
    | cons q m => cases h
  | cons p l ih => cases m with
    | nil => cases h
    | cons q m =>
      obtain ⟨k1, x1⟩ := p
      obtain ⟨k2, u2⟩ := q
      obtain ⟨h1, h2, h3⟩ := h
      dsimp only at h1 h2
      subst h1
      obtain ⟨i1, i2⟩ := ih h3
      unfold Go.Proofs.Ytaecjmjdhbjbkaa.mget
      split
      · exact ⟨fun i x hx => (by cases hx; exact ⟨u2, rfl, h2⟩), fun hx => (by cases hx)⟩
      · refine ⟨fun i x hx => ?_, fun hx => ?_⟩
        · cases hm : Go.Proofs.Ytaecjmjdhbjbkaa.mget l k with
          | none => rw [hm] at hx; cases hx
          | some y =>
            rw [hm] at hx
            cases hx
            obtain ⟨u, h5, h6⟩ := i1 y.1 y.2 hm
            exact ⟨u, by rw [h5]; rfl, h6⟩
        · cases hm : Go.Proofs.Ytaecjmjdhbjbkaa.mget l k with
          | none => rw [i2 hm]; rfl
          | some y => rw [hm] at hx; cases hx
theorem Beside.aget [DecidableEq κ] {w : World} {F : Nat → Prop} {ι : Nat → Option Value} {l : List (κ × ν)} {m : List (κ × Value)} (h : Beside w F ι xa l m) (k : κ) :
    (∀ x, aget l k = some x → ∃ u, aget m k = some u ∧ VRel w F ι (xa x) u) ∧ (aget l k = none → aget m k = none) := by
  obtain ⟨h1, h2⟩ := h.mget k
  unfold Go.Proofs.Ytaecjmjdhbjbkaa.aget
  refine ⟨fun x hx => ?_, fun hx => ?_⟩
  · cases hm : Go.Proofs.Ytaecjmjdhbjbkaa.mget l k with
    | none => rw [hm] at hx; cases hx
    | some y =>
      rw [hm] at hx
      cases hx
      obtain ⟨u, h5, h6⟩ := h1 y.1 y.2 hm
      exact ⟨u, by rw [h5]; rfl, h6⟩
  · cases hm : Go.Proofs.Ytaecjmjdhbjbkaa.mget l k with
    | none => rw [h2 hm]; rfl
    | some y => rw [hm] at hx; cases hx
theorem beside_of {w : World} {F : Nat → Prop} {ι : Nat → Option Value} (hka : ∀ k, valA (ka k) = some (ek k)) (l : List (κ × ν)) (E : List MapEntry) (hl : E.length = l.length) (h : ∀ (i : Nat) (p : AVal × AVal) (m : MapEntry), (ents ka xa l)[i]? = some p → E[i]? = some m → VRel w F ι p.1 m.key ∧ VRel w F ι p.2 m.val) :
    ∃ m : List (κ × Value), Beside w F ι xa l m ∧ E.map (fun e => (e.key, e.val)) = m.map fun p => (ek p.1, p.2) := by
  induction l generalizing E with
  | nil =>
    have : E = [] := List.length_eq_zero_iff.1 hl
    subst this
    exact ⟨[], trivial, rfl⟩
  | cons p l ih => cases E with
    | nil => cases hl
    | cons q E =>
      obtain ⟨m, h1, h2⟩ := ih E (by simpa using hl) fun i p' m' a b => h (i + 1) p' m' a b
      have h0 := h 0 (ka p.1, xa p.2) q rfl rfl
      refine ⟨(p.1, q.val) :: m, ⟨rfl, h0.2, h1⟩, ?_⟩
      rw [List.map_cons, List.map_cons, h2, valA_rel h0.1 (hka p.1)]
theorem born_up (E : List MapEntry) : (∀ (i j : Nat) (m m' : MapEntry), i < j → E[i]? = some m → E[j]? = some m' → m.born < m'.born) ↔ (E.map (·.born)).Pairwise (· < ·) := by
  rw [List.pairwise_map, List.pairwise_iff_getElem]
  constructor
  · intro h i j hi hj hij
    exact h i j E[i] E[j] hij (List.getElem?_eq_getElem hi) (List.getElem?_eq_getElem hj)
  · intro h i j m m' hij h1 h2
    obtain ⟨hi, rfl⟩ := List.getElem?_eq_some_iff.1 h1
    obtain ⟨hj, rfl⟩ := List.getElem?_eq_some_iff.1 h2
    exact h i j hi hj hij
theorem map_is [DecidableEq κ] {w : World} {F : Nat → Prop} {ι : Nat → Option Value} (hka : ∀ k, valA (ka k) = some (ek k)) {l : List (κ × ν)} (hn : (l.map (·.1)).Nodup) {v : Value} (h : BRel w F ι (.map (ents ka xa l)) v) :
    ∃ B m, v = .map (some B) ∧ MapIs ek (fun u : Value => u) w B m ∧ Beside w F ι xa l m := by
  obtain ⟨r, E, clk, rfl, hc, hl, h1, h2, h3⟩ := h
  obtain ⟨m, h4, h5⟩ := beside_of hka l E.toList (by rw [Array.length_toList, hl, ents, List.length_map]) fun i p m a b => h1 i p m a (by simpa using b)
  refine ⟨r, m, rfl, ⟨E, clk, hc, h5, fun e he => ?_, (born_up _).1 fun i j m m' a b c => h2 i j m m' a (by simpa using b) (by simpa using c), by rw [h4.keys]; exact hn⟩, h4⟩
  obtain ⟨i, hi⟩ := List.getElem?_of_mem he
  exact h3 i e (by simpa using hi)
theorem mapIs_same [DecidableEq κ] {w w' : World} {B : Nat} {m : List (κ × Value)} (h : MapIs ek (fun u : Value => u) w B m) (hb : w'.heap[B]? = w.heap[B]?) : MapIs ek (fun u : Value => u) w' B m := h.of_block hb

/-- 'v, is := m[k]', found. -/
theorem Y_lookup_in [DecidableEq κ] {t K E : Nat} {te : TE} {x y : Operand} {id : Nat} {k : κ} {l : List (κ × ν)} {z : ν} (TO : TabOk P tab) (law : KeyLaw P K ek ok) (hka : ∀ k, valA (ka k) = some (ek k)) (ho : o.op = .lookup t x y true) (ht : tlook tab t = some te) (hs : te.sh = .mp K E) (hx : aev e x = some (.mp id)) (hb : look h id = some (.map (ents ka xa l))) (hT : T.contains id = false)
    (hy : aev e y = some (ka k)) (hk : ok k) (hl : ∀ p ∈ l, ok p.1) (hn : (l.map (·.1)).Nodup) (hg : aget l k = some z) {zv : Value} (hz : ∀ W, (zeroValue E).run P W = .ok zv W) : AYield P T e h o (.tup [xa z, .d (.sc (.bool true))]) := fun Pm F w0 pin ι a w H Er => by
  obtain ⟨v, hv, hB⟩ := H.blk id _ hb
  obtain ⟨B, m, rfl, hm, hbes⟩ := map_is hka hn hB
  obtain ⟨d, hd, _, hh⟩ := (TO t te ht).und
  rw [hs] at hh
  cases hh
  have hxv := aev_rel Er hx
  have hkv := valA_rel (aev_rel Er hy) (hka k)
  obtain ⟨u, h1, h2⟩ := (hbes.aget k).1 z hg
  have hxe := mp_eq hxv hv
  refine ⟨.tuple #[u, .bool true], .tup _ _ rfl fun i c uu hi hu => ?_, fun w' hw' => ?_⟩
  · match i, hi, hu with
    | 0, hi, hu => cases hi; cases hu; exact h2
    | 1, hi, hu => cases hi; cases hu; exact sc_rel rfl
  · have hm' := mapIs_same hm (ct_same H hw' hv rfl hT)
    have := hm'.lookup_ok law hd hz hk (fun p hp => by
      have : p.1 ∈ m.map (·.1) := List.mem_map.2 ⟨p, hp, rfl⟩
      rw [hbes.keys] at this
      obtain ⟨q, hq, he⟩ := List.mem_map.1 this
      rw [← he]; exact hl q hq)
    rw [h1] at this
    simp only [execOp, ho, hxe, hkv]
    simp only [Sem.run_bind, this]
    rfl
/-- .. not found. -/
theorem Y_lookup_out [DecidableEq κ] {t K E : Nat} {te : TE} {x y : Operand} {id : Nat} {k : κ} {l : List (κ × ν)} (TO : TabOk P tab) (law : KeyLaw P K ek ok) (hka : ∀ k, valA (ka k) = some (ek k)) (ho : o.op = .lookup t x y true) (ht : tlook tab t = some te) (hs : te.sh = .mp K E) (hx : aev e x = some (.mp id)) (hb : look h id = some (.map (ents ka xa l))) (hT : T.contains id = false)
    (hy : aev e y = some (ka k)) (hk : ok k) (hl : ∀ p ∈ l, ok p.1) (hn : (l.map (·.1)).Nodup) (hg : aget l k = none) {zv : Value} (hz : ∀ W, (zeroValue E).run P W = .ok zv W) (hz1 : zv.oneCell' = true) : AYield P T e h o (.tup [.d (.sc zv), .d (.sc (.bool false))]) := fun Pm F w0 pin ι a w H Er => by
  obtain ⟨v, hv, hB⟩ := H.blk id _ hb
  obtain ⟨B, m, rfl, hm, hbes⟩ := map_is hka hn hB
  obtain ⟨d, hd, _, hh⟩ := (TO t te ht).und
  rw [hs] at hh
  cases hh
  have hxv := aev_rel Er hx
  have hkv := valA_rel (aev_rel Er hy) (hka k)
  have h1 := (hbes.aget k).2 hg
  have hxe := mp_eq hxv hv
  refine ⟨.tuple #[zv, .bool false], .tup _ _ rfl fun i c uu hi hu => ?_, fun w' hw' => ?_⟩
  · match i, hi, hu with
    | 0, hi, hu => cases hi; cases hu; exact sc_rel hz1
    | 1, hi, hu => cases hi; cases hu; exact sc_rel rfl
  · have hm' := mapIs_same hm (ct_same H hw' hv rfl hT)
    have := hm'.lookup_ok law hd hz hk (fun p hp => by
      have : p.1 ∈ m.map (·.1) := List.mem_map.2 ⟨p, hp, rfl⟩
      rw [hbes.keys] at this
      obtain ⟨q, hq, he⟩ := List.mem_map.1 this
      rw [← he]; exact hl q hq)
    rw [h1] at this
    simp only [execOp, ho, hxe, hkv]
    simp only [Sem.run_bind, this]
    rfl
/-- 'm[k]', found. -/
theorem Y_lookup1 [DecidableEq κ] {t K E : Nat} {te : TE} {x y : Operand} {id : Nat} {k : κ} {l : List (κ × ν)} {z : ν} (TO : TabOk P tab) (law : KeyLaw P K ek ok) (hka : ∀ k, valA (ka k) = some (ek k)) (ho : o.op = .lookup t x y false) (ht : tlook tab t = some te) (hs : te.sh = .mp K E) (hx : aev e x = some (.mp id)) (hb : look h id = some (.map (ents ka xa l))) (hT : T.contains id = false)
    (hy : aev e y = some (ka k)) (hk : ok k) (hl : ∀ p ∈ l, ok p.1) (hn : (l.map (·.1)).Nodup) (hg : aget l k = some z) {zv : Value} (hz : ∀ W, (zeroValue E).run P W = .ok zv W) : AYield P T e h o (xa z) := fun Pm F w0 pin ι a w H Er => by
  obtain ⟨v, hv, hB⟩ := H.blk id _ hb
  obtain ⟨B, m, rfl, hm, hbes⟩ := map_is hka hn hB
  obtain ⟨d, hd, _, hh⟩ := (TO t te ht).und
  rw [hs] at hh
  cases hh
  have hxv := aev_rel Er hx
  have hkv := valA_rel (aev_rel Er hy) (hka k)
  obtain ⟨u, h1, h2⟩ := (hbes.aget k).1 z hg
  have hxe := mp_eq hxv hv
  refine ⟨u, h2, fun w' hw' => ?_⟩
  have hm' := mapIs_same hm (ct_same H hw' hv rfl hT)
  have := hm'.lookup law hd hz hk (fun p hp => by
    have : p.1 ∈ m.map (·.1) := List.mem_map.2 ⟨p, hp, rfl⟩
    rw [hbes.keys] at this
    obtain ⟨q, hq, he⟩ := List.mem_map.1 this
    rw [← he]; exact hl q hq)
  rw [h1] at this
  simp only [execOp, ho, hxe, hkv]
  simp only [Sem.run_bind, this]
  rfl
/-- 'len(m)'. -/
theorem Y_len_map [DecidableEq κ] {t K E : Nat} {te : TE} {x : Operand} {id : Nat} {es : List (AVal × AVal)} (TO : TabOk P tab) (ho : o.op = .call { callee := .builtin .len, args := #[x], argTypes := #[t] }) (ht : tlook tab t = some te) (hs : te.sh = .mp K E) (hx : aev e x = some (.mp id)) (hb : look h id = some (.map es)) (hT : T.contains id = false) :
    AYield P T e h o (.d (.sc (.int .i64 (es.length : Int)))) := fun Pm F w0 pin ι a w H Er => by
  obtain ⟨v, hv, hB⟩ := H.blk id _ hb
  obtain ⟨r, E', clk, rfl, hc, hl, _⟩ := hB
  obtain ⟨d, hd, _, hh⟩ := (TO t te ht).und
  rw [hs] at hh
  cases hh
  have hxe := mp_eq (aev_rel Er hx) hv
  refine ⟨.int .i64 (es.length : Int), sc_rel rfl, fun w' hw' => ?_⟩
  have h7 := ct_same H hw' hv rfl hT
  rw [hc] at h7
  simp [execOp, ho, resolve, invoke, builtin, hxe, Builtin.len_, run_underlying hd, MapKept.run_getObj_map h7, goInt, hl]
/-- Values beside one another, behind a step. -/
theorem Beside.wrote {w w' : World} {F : Nat → Prop} {ι : Nat → Option Value} {id : Nat} {v : Value} (hW : Wrote w v w') (hv : ι id = some v) : ∀ {l : List (κ × ν)} {m : List (κ × Value)}, Beside w F ι xa l m → Beside w' F ι xa l m
  | [], [], _ => trivial
  | p :: l, q :: m, h => ⟨h.1, h.2.1.wrote hW hv, Beside.wrote hW hv h.2.2⟩
  | [], _ :: _, h => h.elim
  | _ :: _, [], h => h.elim
theorem Beside.snoc {w : World} {F : Nat → Prop} {ι : Nat → Option Value} {k : κ} {z : ν} {u : Value} (hz : VRel w F ι (xa z) u) : ∀ {l : List (κ × ν)} {m : List (κ × Value)}, Beside w F ι xa l m → Beside w F ι xa (l ++ [(k, z)]) (m ++ [(k, u)])
  | [], [], _ => ⟨rfl, hz, trivial⟩
  | p :: l, q :: m, h => ⟨h.1, h.2.1, Beside.snoc hz h.2.2⟩
  | [], _ :: _, h => h.elim
  | _ :: _, [], h => h.elim
theorem Beside.set {w : World} {F : Nat → Prop} {ι : Nat → Option Value} {k : κ} {z : ν} {u : Value} (hz : VRel w F ι (xa z) u) : ∀ (i : Nat) {l : List (κ × ν)} {m : List (κ × Value)}, Beside w F ι xa l m → Beside w F ι xa (l.set i (k, z)) (m.set i (k, u))
  | _, [], [], _ => trivial
  | 0, p :: l, q :: m, h => ⟨rfl, hz, h.2.2⟩
  | i + 1, p :: l, q :: m, h => ⟨h.1, h.2.1, Beside.set hz i h.2.2⟩
  | _, [], _ :: _, h => h.elim
  | _, _ :: _, [], h => h.elim
theorem Beside.erase {w : World} {F : Nat → Prop} {ι : Nat → Option Value} : ∀ (i : Nat) {l : List (κ × ν)} {m : List (κ × Value)}, Beside w F ι xa l m → Beside w F ι xa (l.eraseIdx i) (m.eraseIdx i)
  | _, [], [], _ => trivial
  | 0, p :: l, q :: m, h => h.2.2
  | i + 1, p :: l, q :: m, h => ⟨h.1, h.2.1, Beside.erase i h.2.2⟩
  | _, [], _ :: _, h => h.elim
  | _, _ :: _, [], h => h.elim
theorem Beside.aput [DecidableEq κ] {w : World} {F : Nat → Prop} {ι : Nat → Option Value} {k : κ} {z : ν} {u : Value} (hz : VRel w F ι (xa z) u) {l : List (κ × ν)} {m : List (κ × Value)} (h : Beside w F ι xa l m) : Beside w F ι xa (Go.Proofs.Ytaecjmjdhbjbkaa.aput l k z) (Go.Proofs.Ytaecjmjdhbjbkaa.aput m k u) := by
  obtain ⟨h1, h2⟩ := h.mget k
  unfold Go.Proofs.Ytaecjmjdhbjbkaa.aput
  cases hm : Go.Proofs.Ytaecjmjdhbjbkaa.mget l k with
  | none => rw [h2 hm]; exact Beside.snoc hz h
  | some y =>
    obtain ⟨i, x⟩ := y
    obtain ⟨u', h5, _⟩ := h1 i x hm
    rw [h5]
    exact Beside.set hz i h
theorem Beside.adel [DecidableEq κ] {w : World} {F : Nat → Prop} {ι : Nat → Option Value} {k : κ} {l : List (κ × ν)} {m : List (κ × Value)} (h : Beside w F ι xa l m) : Beside w F ι xa (Go.Proofs.Ytaecjmjdhbjbkaa.adel l k) (Go.Proofs.Ytaecjmjdhbjbkaa.adel m k) := by
  obtain ⟨h1, h2⟩ := h.mget k
  unfold Go.Proofs.Ytaecjmjdhbjbkaa.adel
  cases hm : Go.Proofs.Ytaecjmjdhbjbkaa.mget l k with
  | none => rw [h2 hm]; exact h
  | some y =>
    obtain ⟨i, x⟩ := y
    obtain ⟨u', h5, _⟩ := h1 i x hm
    rw [h5]
    exact Beside.erase i h
theorem is_map [DecidableEq κ] {w : World} {F : Nat → Prop} {ι : Nat → Option Value} (hkv : ∀ k w F ι, VRel w F ι (ka k) (ek k)) {l : List (κ × ν)} {B : Nat} {m : List (κ × Value)} (h : MapIs ek (fun u : Value => u) w B m) (hb : Beside w F ι xa l m) : BRel w F ι (.map (ents ka xa l)) (.map (some B)) := by
  obtain ⟨E, clk, hc, h1, h2, h3, _⟩ := h
  have hlen : ∀ {l : List (κ × ν)} {m : List (κ × Value)}, Beside w F ι xa l m → m.length = l.length := fun hb => by have := congrArg List.length hb.keys; simpa using this
  have hEl : E.toList.length = m.length := by have := congrArg List.length h1; simpa using this
  refine ⟨B, E, clk, rfl, hc, by rw [← Array.length_toList, hEl, hlen hb, ents, List.length_map], fun i p e hp he => ?_, fun i j a b hij ha hb' => (born_up E.toList).2 h3 i j a b hij (by simpa using ha) (by simpa using hb'), fun i e he => h2 e (List.mem_of_getElem? (i := i) (by simpa using he))⟩
  have key : ∀ (i : Nat) {l : List (κ × ν)} {m : List (κ × Value)}, Beside w F ι xa l m → ∀ p q, l[i]? = some p → m[i]? = some q → q.1 = p.1 ∧ VRel w F ι (xa p.2) q.2 := by
    intro i
    induction i with
    | zero => intro l m hb p q hp hq; match l, m, hb with
      | a :: l, b :: m, hb => cases hp; cases hq; exact ⟨hb.1, hb.2.1⟩
      | [], [], _ => cases hp
    | succ i ih => intro l m hb p q hp hq; match l, m, hb with
      | a :: l, b :: m, hb => exact ih hb.2.2 p q (by simpa using hp) (by simpa using hq)
      | [], [], _ => cases hp
  rw [ents, List.getElem?_map] at hp
  cases hli : l[i]? with
  | none => rw [hli] at hp; cases hp
  | some p0 =>
    rw [hli] at hp
    cases hp
    have he2 : (E.toList.map (fun e => (e.key, e.val)))[i]? = some (e.key, e.val) := by rw [List.getElem?_map, Array.getElem?_toList, he]; rfl
    rw [h1, List.getElem?_map] at he2
    cases hmi : m[i]? with
    | none => rw [hmi] at he2; cases he2
    | some q =>
      rw [hmi] at he2
      simp only [Option.map_some, Option.some.injEq, Prod.mk.injEq] at he2
      obtain ⟨h5, h6⟩ := key i hb p0 q hli hmi
      rw [← he2.1, ← he2.2, h5]
      exact ⟨hkv _ _ _ _, h6⟩
/-- 'm[k] = z'. -/
theorem E_mapUpdate [DecidableEq κ] {t K E : Nat} {te : TE} {x y z : Operand} {d : Option Tmp} {id : Nat} {k : κ} {l : List (κ × ν)} {q : ν} (TO : TabOk P tab) (law : KeyLaw P K ek ok) (hka : ∀ k, valA (ka k) = some (ek k)) (hkv : ∀ k w F ι, VRel w F ι (ka k) (ek k)) (ho : o.op = .mapUpdate t x y z) (hdst : o.dst = d) (ht : tlook tab t = some te) (hs : te.sh = .mp K E) (hx : aev e x = some (.mp id)) (hb : look h id = some (.map (ents ka xa l)))
    (hy : aev e y = some (ka k)) (hq : aev e z = some (xa q)) (hk : ok k) (hl : ∀ p ∈ l, ok p.1) (hn : (l.map (·.1)).Nodup) (hd : dstOk nt d = true) (hT : T.contains id = true) :
    AEff P nt T e h o (fun e' h' => e' = aput d .und e ∧ h' = (id, .map (ents ka xa (Go.Proofs.Ytaecjmjdhbjbkaa.aput l k q))) :: h) := fun Pm F w0 pin ι a w R Kt Qx hK => by
  obtain ⟨v, hv, hB⟩ := R.heap.blk id _ hb
  obtain ⟨B, m, rfl, hm, hbes⟩ := map_is hka hn hB
  obtain ⟨dd, hdd, _, hh⟩ := (TO t te ht).und
  rw [hs] at hh
  cases hh
  have hxe := mp_eq (aev_rel R.env hx) hv
  have hye := valA_rel (aev_rel R.env hy) (hka k)
  have hze := aev_rel R.env hq
  obtain ⟨w', hrun, hm', hg, hsz⟩ := hm.update law hdd hk (fun p hp => by
    have : p.1 ∈ m.map (·.1) := List.mem_map.2 ⟨p, hp, rfl⟩
    rw [hbes.keys] at this
    obtain ⟨r, hr, he⟩ := List.mem_map.1 this
    rw [← he]; exact hl r hr) (a.eval z)
  have hW : Wrote w (.map (some B)) w' := ⟨hg.os, hg.tape, hg.output, hg.size, fun r hr hne => hg.block r hr fun he => hne (by rw [blockOf]; exact he.symm)⟩
  have hrun2 : (execOp a.eval o).run P w = .ok .skip w' := by
    simp only [execOp, ho, hxe, hye, Sem.run_bind, hrun]
    rfl
  unfold Oper.wp
  rw [hrun2, Oper.upon_skip, hdst]
  refine hK ι _ _ _ w' ⟨rfl, rfl⟩ ⟨R.heap.wrote hW hv (is_map hkv hm' ((hbes.aput hze).wrote hW hv)), (R.env.mono fun _ _ _ _ hv' => hv'.wrote hW hv).aput hd R.size .und, by rw [put_defers]; exact R.defers.ext (hW.ext hv), by rw [put_size]; exact R.size⟩ ?_ (put_defers _ _ _)
  exact ⟨⟨hW.os, hW.tape, hW.output, hW.size, fun r hr hne => hW.mem r hr fun hb => hne id (List.contains_iff_mem.1 hT) _ hv hb⟩, fun j _ u r hj hr _ => ⟨u, hj, hr⟩⟩
/-- 'delete(m, k)'. -/
theorem E_delete [DecidableEq κ] {t tk K E : Nat} {te : TE} {x y : Operand} {d : Option Tmp} {id : Nat} {k : κ} {l : List (κ × ν)} (TO : TabOk P tab) (law : KeyLaw P K ek ok) (hka : ∀ k, valA (ka k) = some (ek k)) (hkv : ∀ k w F ι, VRel w F ι (ka k) (ek k)) (ho : o.op = .call { callee := .builtin .delete, args := #[x, y], argTypes := #[t, tk] }) (hdst : o.dst = none) (ht : tlook tab t = some te) (hs : te.sh = .mp K E) (hx : aev e x = some (.mp id)) (hb : look h id = some (.map (ents ka xa l)))
    (hy : aev e y = some (ka k)) (hk : ok k) (hl : ∀ p ∈ l, ok p.1) (hn : (l.map (·.1)).Nodup) (hT : T.contains id = true) :
    AEff P nt T e h o (fun e' h' => e' = e ∧ h' = (id, .map (ents ka xa (Go.Proofs.Ytaecjmjdhbjbkaa.adel l k))) :: h) := fun Pm F w0 pin ι a w R Kt Qx hK => by
  obtain ⟨v, hv, hB⟩ := R.heap.blk id _ hb
  obtain ⟨B, m, rfl, hm, hbes⟩ := map_is hka hn hB
  obtain ⟨dd, hdd, _, hh⟩ := (TO t te ht).und
  rw [hs] at hh
  cases hh
  have hxe := mp_eq (aev_rel R.env hx) hv
  have hye := valA_rel (aev_rel R.env hy) (hka k)
  have hlm : ∀ p ∈ m, ok p.1 := fun p hp => by
    have : p.1 ∈ m.map (·.1) := List.mem_map.2 ⟨p, hp, rfl⟩
    rw [hbes.keys] at this
    obtain ⟨r, hr, he⟩ := List.mem_map.1 this
    rw [← he]; exact hl r hr
  obtain ⟨w', hrun, hm', hg, hsz⟩ := hm.delete (ty := o.type) (tk := tk) law hdd hk hlm
  have hW : Wrote w (.map (some B)) w' := ⟨hg.os, hg.tape, hg.output, hg.size, fun r hr hne => hg.block r hr fun he => hne (by rw [blockOf]; exact he.symm)⟩
  have hrun2 : (execOp a.eval o).run P w = .ok (.value (.tuple #[])) w' := by
    simp only [execOp, ho]
    simp [resolve, invoke, builtin, hxe, hye, hrun]
  unfold Oper.wp
  rw [hrun2, Oper.upon_value, hdst]
  refine hK ι _ _ _ w' ⟨rfl, rfl⟩ ⟨R.heap.wrote hW hv (is_map hkv hm' ((hbes.adel).wrote hW hv)), (R.env.mono fun _ _ _ _ hv' => hv'.wrote hW hv), R.defers.ext (hW.ext hv), R.size⟩ ?_ rfl
  exact ⟨⟨hW.os, hW.tape, hW.output, hW.size, fun r hr hne => hW.mem r hr fun hb => hne id (List.contains_iff_mem.1 hT) _ hv hb⟩, fun j _ u r hj hr _ => ⟨u, hj, hr⟩⟩
/-- 'make(map[K]V)', 'map[K]V{}'. -/
theorem E_makeMap {t : TypeId} {d : Option Tmp} {id : Nat} (ho : o.op = .makeMap t none) (hdst : o.dst = d) (hid : Nat.blt id 1000 = true) (hd : dstOk nt d = true) : AEff P nt T e h o (fun e' h' => e' = aput d (.mp id) (killE id e) ∧ h' = (id, .map []) :: killH id h) := fun Pm F w0 pin ι a w R K Qx hK => by
  have hb : ∀ ι', ι' = upd ι id (some (.map (some w.heap.size))) → Ext w F ι (w.alloc (.map #[] 0)) ι' → BRel (w.alloc (.map #[] 0)) F ι' (.map []) (.map (some w.heap.size)) := fun ι' h0 he =>
    ⟨w.heap.size, #[], 0, rfl, heap_new _ _, rfl, fun i p m h1 => by simp at h1, fun i j m m' _ h1 => by simp at h1, fun i m h1 => by simp at h1⟩
  obtain ⟨hR, hC⟩ := R.new (T := T) hid hd (.map #[] 0) (.map (some w.heap.size)) (by simp [blockOf]) _ (.mp id) hb fun ι' h1 => .mp id _ rfl fun v hv => by subst h1; simp [upd] at hv; exact hv
  have hrun : (execOp a.eval o).run P w = .ok (.value (.map (some w.heap.size))) (w.alloc (.map #[] 0)) := by
    simp only [execOp, ho]
    simp [Instr.makeMap, newObj, Sem.run]
  unfold Oper.wp
  rw [hrun, Oper.upon_value, hdst]
  exact hK _ _ _ _ _ ⟨rfl, rfl⟩ hR hC (put_defers _ _ _)
end
end Go.Proofs.Ytaecjmjdhbjbkaa.Ab

/-
  Texts of a proof, one behind the other (part 18).
-/
import Derived.Maps.RangeRun
import Derived.Test.YtmljmahlpcdhoaaPc1
import Derived.Test.YtmljmahlpcdhoaaPc2
import Derived.Test.YtmljmahlpcdhoaaPc13
import Derived.Test.YtmljmahlpcdhoaaPc14
import Derived.Test.YtmljmahlpcdhoaaPc15
import Derived.Test.YtmljmahlpcdhoaaPc16
set_option linter.unusedVariables false
set_option linter.unusedSimpArgs false
namespace Go.Proofs.Ytmljmahlpcdhoaa
set_option linter.unusedVariables false
open Go.RowKit Go.Lib
def StrictI (l : List Int) : Prop := l.Pairwise fun a b => a < b
def seekL (out : List Int) : List Int → Bool × Int → Bool × Int
  | [], x => x
  | c :: r, (f, m) => seekL out r (if (out.any fun d => d == c) = false ∧ (f = false ∨ c < m) then (true, c) else (f, m))
theorem seek_spec (out : List Int) : ∀ (l : List Int) (f : Bool) (m : Int), (f = true → m ∉ out) →
    ((seekL out l (f, m)).1 = false → f = false ∧ ∀ x ∈ l, x ∈ out) ∧
    ((seekL out l (f, m)).1 = true → (seekL out l (f, m)).2 ∉ out ∧ ((f = true ∧ (seekL out l (f, m)).2 = m) ∨ (seekL out l (f, m)).2 ∈ l) ∧ (f = true → (seekL out l (f, m)).2 ≤ m) ∧ ∀ x ∈ l, x ∉ out → (seekL out l (f, m)).2 ≤ x)
  | [], f, m, hf => by simp [seekL]; intro h; subst h; exact ⟨hf rfl, rfl⟩
  | c :: r, f, m, hf => by
    have hc : (out.any fun d => d == c) = false ↔ c ∉ out := by
      rw [List.any_eq_false]
      constructor
      · intro h hm; exact absurd (beq_self_eq_true c) (h c hm)
      · intro h d hd he; have := eq_of_beq he; subst this; exact h hd
    rw [seekL]
    by_cases h : (out.any fun d => d == c) = false ∧ (f = false ∨ c < m)
    · rw [if_pos h]
      have hco := hc.1 h.1
      obtain ⟨a1, a2⟩ := seek_spec out r true c fun _ => hco
      refine ⟨fun h1 => ?_, fun h1 => ?_⟩
      · have := (a1 h1).1; cases this
      · obtain ⟨b1, b2, b3, b4⟩ := a2 h1
        have b3 := b3 rfl
        refine ⟨b1, ?_, fun hft => ?_, fun x hx hxo => ?_⟩
        · rcases b2 with ⟨_, h2⟩ | h2
          · right; rw [h2]; simp
          · right; simp [h2]
        · rcases h.2 with h3 | h3
          · rw [h3] at hft; cases hft
          · omega
        · rcases List.mem_cons.1 hx with rfl | hx
          · exact b3
          · exact b4 x hx hxo
    · rw [if_neg h]
      obtain ⟨a1, a2⟩ := seek_spec out r f m hf
      refine ⟨fun h1 => ?_, fun h1 => ?_⟩
      · obtain ⟨g1, g2⟩ := a1 h1
        refine ⟨g1, fun x hx => ?_⟩
        rcases List.mem_cons.1 hx with rfl | hx
        · exact Classical.byContradiction fun hn => h ⟨hc.2 hn, .inl g1⟩
        · exact g2 x hx
      · obtain ⟨b1, b2, b3, b4⟩ := a2 h1
        refine ⟨b1, ?_, b3, fun x hx hxo => ?_⟩
        · rcases b2 with h2 | h2
          · exact .inl h2
          · right; simp [h2]
        · rcases List.mem_cons.1 hx with rfl | hx
          · have h2 : ¬ (f = false ∨ x < m) := fun h3 => h ⟨hc.2 hxo, h3⟩
            have hft : f = true := by cases f; · exact absurd (.inl rfl) h2
                                      · rfl
            have := b3 hft
            have h4 : ¬ x < m := fun h3 => h2 (.inr h3)
            omega
          · exact b4 x hx hxo
theorem seek_snoc (out : List Int) (c : Int) : ∀ (l : List Int) (x : Bool × Int), seekL out (l ++ [c]) x = (if (out.any fun d => d == c) = false ∧ ((seekL out l x).1 = false ∨ c < (seekL out l x).2) then (true, c) else seekL out l x)
  | [], (f, m) => rfl
  | a :: r, (f, m) => by rw [List.cons_append, seekL, seekL, seek_snoc out c r]
theorem strict_take_drop {N : List Int} (h : StrictI N) {j : Nat} (hj : j < N.length) : N[j] ∉ N.take j ∧ ∀ x ∈ N, x ∉ N.take j → N[j] ≤ x := by
  have hp := List.pairwise_iff_getElem.1 h
  constructor
  · intro hm
    obtain ⟨i, hi, he⟩ := List.getElem_of_mem hm
    rw [List.length_take] at hi
    rw [List.getElem_take] at he
    have := hp i j (by omega) hj (by omega)
    omega
  · intro x hx hn
    obtain ⟨i, hi, rfl⟩ := List.getElem_of_mem hx
    rcases Nat.lt_or_ge i j with h2 | h2
    · exact absurd (List.mem_iff_getElem.2 ⟨i, by rw [List.length_take]; omega, by rw [List.getElem_take]⟩) hn
    · rcases Nat.eq_or_lt_of_le h2 with h3 | h3
      · subst h3; exact Int.le_refl _
      · exact Int.le_of_lt (hp j i hj hi h3)
theorem nrm_strict (l : List Int) : StrictI (nrm l) := (sortU_rising good_cI cI_zero l).imp fun {a b} h => by unfold cI at h; omega
theorem seek_next {N l : List Int} (hN : StrictI N) (hm : ∀ x, x ∈ N ↔ x ∈ l) (j : Nat) (hj : j ≤ N.length) :
    (j = N.length → (seekL (N.take j) l (false, 0)).1 = false) ∧ (∀ h : j < N.length, (seekL (N.take j) l (false, 0)) = (true, N[j])) := by
  obtain ⟨a1, a2⟩ := seek_spec (N.take j) l false 0 (fun h => by cases h)
  constructor
  · intro he
    cases hs : (seekL (N.take j) l (false, 0)).1
    · rfl
    · obtain ⟨b1, b2, _⟩ := a2 hs
      rcases b2 with ⟨h, _⟩ | h
      · cases h
      · rw [he, List.take_length] at b1 h
        exact absurd ((hm _).2 h) b1
  · intro h
    obtain ⟨s1, s2⟩ := strict_take_drop hN h
    cases hs : (seekL (N.take j) l (false, 0)).1
    · exact absurd ((a1 hs).2 _ ((hm _).1 (List.getElem_mem h))) s1
    · obtain ⟨b1, b2, _, b4⟩ := a2 hs
      have h1 := b4 _ ((hm _).1 (List.getElem_mem h)) s1
      have h2 : N[j] ≤ (seekL (N.take j) l (false, 0)).2 := by
        rcases b2 with ⟨h, _⟩ | h2
        · cases h
        · exact s2 _ ((hm _).2 h2) b1
      exact Prod.ext hs (Int.le_antisymm h1 h2)
end Go.Proofs.Ytmljmahlpcdhoaa

namespace Go.Proofs.Ytmljmahlpcdhoaa.Ab
set_option linter.unusedVariables false
set_option linter.unusedSimpArgs false
set_option linter.unusedSectionVars false
open Go.RowKit
section
variable {P : Program} {nt : Nat} {T : List Nat} {e : Env} {h : Heap} {o : Oper} {tab : TTab}
theorem E_buildSliceA {t el : TypeId} {ps : Array (Nat × Operand)} {len : Nat} {te te' : TE} {d : Option Tmp} {id : Nat} {al : List (Nat × AVal)} {xs : List AVal} (TO : TabOk P tab) (ho : o.op = .buildSlice t len ps) (hdst : o.dst = d) (ht : tlook tab t = some te) (hs : te.sh = .sl el)
    (hel : tlook tab el = some te') (hz : te'.zero.all (·.oneCell') = true) (hk : Nat.blt 0 te'.size = true) (hk2 : Nat.beq te'.zero.length te'.size = true) (hlen : Nat.blt (len * te'.size) 16777216 = true) (hpos : Nat.blt 0 len = true) (hal : aparts e ps.toList = some al)
    (hf : afill (fun i => some (i * te'.size, te'.size)) ((List.range (len * te'.size)).map fun j => match te'.zero[j % te'.size]? with | some v => .d (.sc v) | none => .top) al = some xs) (hid : Nat.blt id 1000 = true) (hd : dstOk nt d = true) :
    AEff P nt T e h o (fun e' h' => e' = aput d (.row id) (killE id e) ∧ h' = (id, .rowA el te'.size len (xs.map (killV id))) :: killH id h) := fun Pm F w0 pin ι a w R K Qx hK => by
  have hu := (TO t te ht).slice hs
  obtain ⟨z, hz1, hz2, _⟩ := (TO el te' hel).zero w
  have hzl : z.cells.size = te'.size := by rw [← Array.length_toList, hz2]; exact Nat.eq_of_beq_eq_true hk2
  have hk : 0 < te'.size := by simp [Nat.blt] at hk; omega
  have hlen : len * te'.size < 16777216 := by simp [Nat.blt] at hlen; omega
  have hpos : 0 < len := by simp [Nat.blt] at hpos; omega
  let C0 : Array Value := (Array.range (len * te'.size)).map (z.cells[· % z.cells.size]!)
  have hget : ∀ j, j < len * te'.size → C0[j]? = te'.zero[j % te'.size]? ∧ ∃ v, te'.zero[j % te'.size]? = some v ∧ v.oneCell' = true := by
    intro j hj
    have hlt : j % te'.size < z.cells.size := by rw [hzl]; exact Nat.mod_lt _ hk
    have e1 : te'.zero[j % te'.size]? = some z.cells[j % te'.size] := by rw [← hz2, Array.getElem?_toList, Array.getElem?_eq_getElem hlt]
    refine ⟨?_, z.cells[j % te'.size], e1, List.all_eq_true.1 hz _ (List.mem_of_getElem? e1)⟩
    rw [e1]
    have hlt2 : j % z.cells.size < z.cells.size := by rw [hzl] at hlt ⊢; exact hlt
    simp only [C0, Array.getElem?_map]
    rw [Array.getElem?_range]
    simp only [hj, if_true, Option.map_some]
    rw [getElem!_pos z.cells _ hlt2]
    simp only [hzl]
  obtain ⟨C', g1, g2, g3⟩ := afill_rel R.env (fun i => some (i * te'.size, te'.size)) ps.toList al _ C0 xs hal hf (by simp [C0]) fun j c u h1 h2 => by
    have hj : j < len * te'.size := by have := (Array.getElem?_eq_some_iff.1 h2).1; simpa [C0] using this
    obtain ⟨e1, v, e2, e3⟩ := hget j hj
    rw [List.getElem?_map, List.getElem?_range hj] at h1
    simp only [Option.map_some, e2] at h1
    cases h1
    rw [e1, e2] at h2
    cases h2
    exact sc_rel e3
  have hxl : xs.length = len * te'.size := by
    have : ∀ (al : List (Nat × AVal)) (cells xs : List AVal) (place : Nat → Option (Nat × Nat)), afill place cells al = some xs → xs.length = cells.length := by
      intro al
      induction al with
      | nil => intro cells xs place h; cases h; rfl
      | cons p r ih =>
        intro cells xs place h
        obtain ⟨i, c⟩ := p
        rw [afill] at h
        split at h
        · rename_i off size ys _ _
          cases hb : Nat.beq ys.length size && Nat.ble (off + ys.length) cells.length with
          | false => rw [hb] at h; cases h
          | true =>
            rw [hb] at h
            have := ih _ _ _ h
            have hl := Nat.le_of_ble_eq_true (by simp only [Bool.and_eq_true] at hb; exact hb.2)
            rw [this]; simp [setW]; omega
        · cases h
    rw [this al _ xs _ hf]; simp
  have hb : ∀ ι', ι' = upd ι id (some (.slice (some ⟨w.heap.size, 0, none⟩) len len)) → Ext w F ι (w.alloc (.cells C' el)) ι' → BRel (w.alloc (.cells C' el)) F ι' (.rowA el te'.size len (xs.map (killV id))) (.slice (some ⟨w.heap.size, 0, none⟩) len len) := by
    intro ι' h0 he
    have hsz : C'.size = len * te'.size := by rw [g2, hxl]
    refine ⟨C'.toList, ⟨by simp [hsz], .inr ⟨w.heap.size, len, C', rfl, Nat.zero_le _, heap_new _ _, Nat.le_refl _, ?_, hsz, ?_⟩⟩, ?_, ?_⟩
    · have := Nat.le_mul_of_pos_right len hk
      unfold maxLen; omega
    · rw [List.take_of_length_le (by simp [hsz])]
    · simpa using g2
    · intro i c u h1 h2
      rw [List.getElem?_map] at h1
      cases hc : xs[i]? with
      | none => rw [hc] at h1; cases h1
      | some c0 =>
        rw [hc] at h1; cases h1
        subst h0
        exact (g3 i c0 u hc (by simpa using h2)).killed he
  obtain ⟨hR, hC⟩ := R.new (T := T) hid hd (.cells C' el) (.slice (some ⟨w.heap.size, 0, none⟩) len len) (by simp [blockOf]) _ (.row id) hb fun ι' h1 => .row id _ rfl fun v hv => by subst h1; simp [upd] at hv; exact hv
  have hrun : (execOp a.eval o).run P w = .ok (.value (.slice (some ⟨w.heap.size, 0, none⟩) len len)) (w.alloc (.cells C' el)) := by
    have hfill : Instr.fill (fun i => some (i * te'.size, te'.size)) C0 (ps.map fun p => (p.1, a.eval p.2)).toList = some C' := by rw [Array.toList_map]; exact g1
    simp only [execOp, ho]
    have h0 : ¬ (len = 0 ∨ te'.size = 0) := by omega
    rw [Array.toList_map] at hfill
    have hn : ¬ (16777216 < len * te'.size) := by omega
    simp [Instr.buildSlice, run_underlying hu, (TO el te' hel).size, hz1, hn]
    rw [show Instr.fill (fun i => some (i * te'.size, te'.size)) _ _ = some C' from hfill]
    simp [newRow, newObj, Sem.run]
    intro h9
    rcases Nat.mul_eq_zero.1 h9 with h9 | h9 <;> omega
  unfold Oper.wp
  rw [hrun, Oper.upon_value, hdst]
  exact hK _ _ _ _ _ ⟨rfl, rfl⟩ hR hC (put_defers _ _ _)
theorem Y_index_rowA {t : TypeId} {x y : Operand} {te te' : TE} {el el' : TypeId} {id kk n : Nat} {cs : List AVal} {k : IntKind} {i : Int} (TO : TabOk P tab) (ho : o.op = .indexAddr t x y) (ht : tlook tab t = some te) (hs : te.sh = .sl el)
    (hel : tlook tab el = some te') (hx : aev e x = some (.row id)) (hb : look h id = some (.rowA el' kk n cs)) (hy : aev e y = some (.d (.sc (.int k i)))) (hi : 0 ≤ i ∧ i < n) : AYield P T e h o (.eptr id (i.toNat * te'.size)) := fun Pm F w0 pin ι a w H E => by
  obtain ⟨v, hv, xs, hown, _⟩ := H.blk id _ hb
  have hr := aev_rel E hx
  have hk := (sc_of (aev_rel E hy)).1
  have hu := (TO t te ht).slice hs
  generalize hau : a.eval x = u at hr
  cases hr with
  | row _ _ h1 h2 =>
    have h3 := h2 v hv
    subst h3
    rcases hown.2 with ⟨_, h4⟩ | ⟨g, cap, cur, h3, _⟩
    · subst h4; exact absurd hi (by simp)
    · subst h3
      refine ⟨.pointer (some ⟨g, i.toNat * te'.size, none⟩), .eptr id _ _ rfl fun v' hv' => ?_, fun w' _ => ?_⟩
      · rw [hv] at hv'; cases hv'; exact ⟨g, n, cap, rfl, rfl⟩
      · simp [execOp, ho, hau, hk, run_indexAt w' hu (TO el te' hel) g 0 n cap k i hi]
theorem Y_len_rowA {t : TypeId} {x : Operand} {te : TE} {el el' : TypeId} {id k n : Nat} {cs : List AVal} (TO : TabOk P tab) (ho : o.op = .call { callee := .builtin .len, args := #[x], argTypes := #[t] }) (ht : tlook tab t = some te) (hs : te.sh = .sl el)
    (hx : aev e x = some (.row id)) (hb : look h id = some (.rowA el' k n cs)) : AYield P T e h o (.d (.sc (.int .i64 (n : Int)))) := fun Pm F w0 pin ι a w H E => by
  refine ⟨.int .i64 n, sc_rel rfl, fun w' _ => ?_⟩
  obtain ⟨v, hv, xs, hown, _⟩ := H.blk id _ hb
  have hr := aev_rel E hx
  have hu := (TO t te ht).slice hs
  have key : ∃ b c, a.eval x = .slice b n c := by
    generalize a.eval x = u at hr
    cases hr with
    | row _ _ h1 h2 =>
      rw [h2 v hv]
      rcases hown.2 with ⟨h3, h4⟩ | ⟨g, cap, cur, h3, _⟩
      · subst h4; exact ⟨_, _, h3⟩
      · exact ⟨_, _, h3⟩
  obtain ⟨b, c, hk⟩ := key
  simp [execOp, ho, resolve, invoke, builtin, hk, Builtin.len_, run_underlying hu, goInt]
theorem Y_load_eptrA {t : TypeId} {x : Operand} {te : TE} {id o1 : Nat} {el k n : Nat} {cs xs : List AVal} {c : AVal} (TO : TabOk P tab) (ho : o.op = .load t x) (ht : tlook tab t = some te) (hx : aev e x = some (.eptr id o1)) (hb : look h id = some (.rowA el k n cs))
    (hT : T.contains id = false) (hw : win cs o1 te.size = xs) (hl : Nat.beq xs.length te.size = true) (hc : cond te.agg (some (.agg xs)) xs.head? = some c) : AYield P T e h o c := fun Pm F w0 pin ι a w H E => by
  obtain ⟨v, hv, ys, hown, hly, hr⟩ := H.blk id _ hb
  have hrel := aev_rel E hx
  have hl := Nat.eq_of_beq_eq_true hl
  generalize hau : a.eval x = u at hrel
  cases hrel with
  | eptr _ _ _ h1 h2 =>
    obtain ⟨g, n', cap, h3, rfl⟩ := h2 _ hv
    subst h3
    have hvl : (win ys o1 te.size).length = xs.length := by
      subst hw; simp [win, hly]
    refine load_of (vs := win ys o1 te.size) ho (TO t te ht) hau (by rw [hvl, hl]) (by rw [hvl]) (fun j c u h4 h5 => ?_) hc (CT T ι w) fun w' hw' j u hj => ?_
    · exact hr (o1 + j) c u (win_get hw h4) (win_get rfl h5)
    · have h6 := win_get rfl hj
      have h7 := ct_same H hw' hv rfl hT
      have h8 := hown.cells (g := g) rfl (o1 + j) u h6
      rw [Addr.add_mid, Nat.zero_add] at h8
      exact cell_of_same h7 h8
theorem R_indexA {t el el' k kk j id : Nat} {x y : Operand} {cs : List AVal} {n : Nat} {q : IntKind} {i : Int} (TO : TabOk P tab) (ho : o.op = .indexAddr t x y) (hel : telem tab t = some el) (hsz : tsize tab el = some k) (hx : aev e x = some (.row id)) (hb : look h id = some (.rowA el' kk n cs)) (hy : aev e y = some (.d (.sc (.int q i)))) (hj : i = (j : Int)) (hlt : j < n) :
    AYield P T e h o (.eptr id (j * k)) := by
  obtain ⟨te, h1, h2⟩ := telem_spec hel
  obtain ⟨te', h3, rfl⟩ := tsize_spec hsz
  subst hj
  exact Y_index_rowA TO ho h1 h2 h3 hx hb hy ⟨by omega, by omega⟩
theorem R_lenA {t el el' id k n : Nat} {x : Operand} {cs : List AVal} (TO : TabOk P tab) (ho : o.op = .call { callee := .builtin .len, args := #[x], argTypes := #[t] }) (hel : telem tab t = some el) (hx : aev e x = some (.row id)) (hb : look h id = some (.rowA el' k n cs)) : AYield P T e h o (.d (.sc (.int .i64 (n : Int)))) := by
  obtain ⟨te, h1, h2⟩ := telem_spec hel
  exact Y_len_rowA TO ho h1 h2 hx hb
theorem R_loadA {t id o1 s el k n : Nat} {x : Operand} {cs xs : List AVal} {c : AVal} {ag : Bool} (TO : TabOk P tab) (ho : o.op = .load t x) (hs : tsize tab t = some s) (ha : tagg tab t = some ag) (hx : aev e x = some (.eptr id o1)) (hb : look h id = some (.rowA el k n cs)) (hT : T.contains id = false)
    (hw : win cs o1 s = xs) (hl : Nat.beq xs.length s = true) (hc : lval ag xs = some c) : AYield P T e h o c := by
  obtain ⟨te, h1, rfl⟩ := tsize_spec hs
  obtain ⟨te', h3, rfl⟩ := tagg_spec ha
  rw [h1] at h3; cases h3
  exact Y_load_eptrA TO ho h1 hx hb hT hw hl (lval_spec hc)
end
section
variable {P : Program} {nt : Nat} {Q : Post} {e : Env} {h : Heap} {ops : Array Oper} {o : Oper} {rest : List Oper} {tab : TTab}
theorem O_sliceA {t el k len d : Nat} {ps : Array (Nat × Operand)} {al : List (Nat × AVal)} {xs : List AVal} (TO : TabOk P tab) (hw : awant ops e o = some true) (hdst : o.dst = some d) (hd : Nat.blt d nt = true) (hid : Nat.blt d 1000 = true) (ho : o.op = .buildSlice t len ps)
    (hel : telem tab t = some el) (hsz : tsize tab el = some k) (hok : (match tlook tab el with | some te => te.zero.all (·.oneCell') && Nat.blt 0 te.size && Nat.beq te.zero.length te.size && Nat.blt (len * te.size) 16777216 && Nat.blt 0 len | none => false) = true)
    (hal : aparts e ps.toList = some al) (hf : (match tlook tab el with
      | some te => afill (fun i => some (i * te.size, te.size)) ((List.range (len * te.size)).map fun j => match te.zero[j % te.size]? with | some v => .d (.sc v) | none => .top) al
      | none => none) = some xs)
    (HK : AOps P nt ops Q rest ((d, .row d) :: killE d e) ((d, .rowA el k len (xs.map (killV d))) :: killH d h)) : AOps P nt ops Q (o :: rest) e h := by
  obtain ⟨te, h1, h2⟩ := telem_spec hel
  obtain ⟨te', h3, rfl⟩ := tsize_spec hsz
  rw [h3] at hok hf
  simp only [Bool.and_eq_true] at hok
  exact O_eff (T := []) hw (E_buildSliceA TO ho hdst h1 h2 h3 hok.1.1.1.1 hok.1.1.1.2 hok.1.1.2 hok.1.2 hok.2 hal hf hid hd) fun e' h' ⟨h1, h2⟩ => by subst h1 h2; exact HK
end
end Go.Proofs.Ytmljmahlpcdhoaa.Ab

namespace Go.Proofs.Ytmljmahlpcdhoaa.Ab
set_option linter.unusedVariables false
open Go.RowKit
open Go.ChangeMaps (setBlock)

section
variable {nt : Nat} {e : Env} {h : Heap}
end
section
variable {P : Program} {nt : Nat} {Q : Post} {e : Env} {h : Heap} {ops : Array Oper} {o : Oper} {rest : List Oper} {T : List Nat} {tab : TTab} {z : Bool}
theorem E_callF {f : FuncId} {x : Operand} {caps : List AVal} {args : Array Operand} {ats : Array TypeId} {cs : List AVal} {d : Option Tmp} {c : AVal} (ho : o.op = .call { callee := .value x, args := args, argTypes := ats }) (hdst : o.dst = d) (hf : aev e x = some (.fn f caps)) (hx : aevs e args.toList = some cs)
    (H : ACall P f (cs ++ caps) [] (fun c' h' => c' = c ∧ h' = [])) (hd : dstOk nt d = true) (hc : ∀ j, c.has j = false) : AEff P nt T e h o (fun e' h' => e' = aput d c e ∧ h' = h) := fun Pm F w0 pin ι a w R K Qx hK => by
  have hfv := aev_rel R.env hf
  generalize hau : a.eval x = u at hfv
  cases hfv with
  | fn _ _ C hl hh =>
    unfold Oper.wp
    rw [run_callV H.1 ho hau, Oper.upon_enter, hdst]
    have hF : ∀ r, Fc F ι r → r < w.heap.size := fun r hr => hr.elim (fun h1 => Nat.lt_of_lt_of_le (R.heap.forb r h1) R.heap.size) fun ⟨id, v, h1, h2⟩ => R.heap.lt h1 h2
    have hA := args_of R.env hx
    have hA2 : ArgsRel w F ι (cs ++ caps) (args.map a.eval ++ C) := by
      refine ⟨by simp [hl]; exact by simpa using hA.1, fun i c u h1 h2 => ?_⟩
      have hAl : (args.map a.eval).size = cs.length := hA.1
      by_cases hi : i < cs.length
      · rw [List.getElem?_append_left hi] at h1
        rw [Array.getElem?_append_left (by omega)] at h2
        exact hA.2 i c u h1 h2
      · rw [List.getElem?_append_right (by omega)] at h1
        rw [Array.getElem?_append_right (by omega), hAl] at h2
        exact hh (i - cs.length) c u h1 h2
    refine (H.2 _ _ w _ _ _ w (HRel.none (Fc F ι) w hF) (args_c hA2)).mono ?_
    rintro y w' ⟨u, c', h', ι', rfl, ⟨rfl, rfl⟩, hH, hv⟩
    obtain ⟨ι2, hR, hC⟩ := R.called (T := T) hH hv (by rfl) (fun _ _ _ h => (by cases h)) (fun j hj => by rw [hc] at hj; cases hj) hd
    rw [List.map_nil, killEs_nil, killHs_nil, List.nil_append] at hR
    exact hK _ _ _ _ _ ⟨rfl, rfl⟩ hR hC (put_defers _ _ _)
theorem O_cF {f : FuncId} {x : Operand} {caps : List AVal} {args : Array Operand} {ats : Array TypeId} {cs : List AVal} {d : Nat} {c : AVal} (hw : awant ops e o = some true) (hdst : o.dst = some d) (hd : Nat.blt d nt = true) (ho : o.op = .call { callee := .value x, args := args, argTypes := ats }) (hf : aev e x = some (.fn f caps)) (hx : aevs e args.toList = some cs)
    (H : ACall P f (cs ++ caps) [] (fun c' h' => c' = c ∧ h' = [])) (hc : ∀ j, c.has j = false) (HK : AOps P nt ops Q rest ((d, c) :: e) h) : AOps P nt ops Q (o :: rest) e h :=
  O_eff (T := []) hw (E_callF (d := some d) ho hdst hf hx H hd hc) fun e' h' ⟨h1, h2⟩ => by subst h1 h2; exact HK
end
end Go.Proofs.Ytmljmahlpcdhoaa.Ab

namespace Go.Proofs.Ytmljmahlpcdhoaa
set_option linter.unusedVariables false
open Go.RowKit Go.Lib
def idxOf {α : Type} (p : α → Bool) : List α → Int
  | [] => -1
  | x :: r => if p x then 0 else if idxOf p r = -1 then -1 else idxOf p r + 1
theorem idxOf_ge {α : Type} (p : α → Bool) : ∀ l : List α, -1 ≤ idxOf p l ∧ idxOf p l < l.length
  | [] => by simp [idxOf]
  | x :: r => by
    have := idxOf_ge p r
    rw [List.length_cons]
    unfold idxOf
    split
    · omega
    · split <;> omega
theorem idxOf_none {α : Type} (p : α → Bool) : ∀ l : List α, (∀ x ∈ l, p x = false) → idxOf p l = -1
  | [], _ => rfl
  | x :: r, h => by
    unfold idxOf
    rw [if_neg (by rw [h x (by simp)]; simp), if_pos (idxOf_none p r fun y hy => h y (by simp [hy]))]
theorem idxOf_at {α : Type} (p : α → Bool) : ∀ (l : List α) (k : Nat) (h : k < l.length), (∀ j (hj : j < k), p (l[j]'(by omega)) = false) → p l[k] = true → idxOf p l = (k : Int)
  | [], k, h, _, _ => by simp at h
  | x :: r, 0, h, h1, h2 => by
    unfold idxOf
    rw [if_pos (by simpa using h2)]; rfl
  | x :: r, k + 1, h, h1, h2 => by
    have h0 := h1 0 (by omega)
    have ih := idxOf_at p r k (by simpa using h) (fun j hj => by have := h1 (j + 1) (by omega); simpa using this) (by simpa using h2)
    unfold idxOf
    rw [if_neg (by simpa using h0), ih, if_neg (by omega)]
    omega
theorem idxOf_find {α : Type} (p : α → Bool) (l : List α) : (idxOf p l = -1 ∧ l.find? p = none) ∨ ∃ (k : Nat) (h : k < l.length), idxOf p l = (k : Int) ∧ l.find? p = some l[k] := by
  induction l with
  | nil => exact .inl ⟨rfl, rfl⟩
  | cons x r ih =>
    by_cases hx : p x = true
    · exact .inr ⟨0, by simp, by unfold idxOf; rw [if_pos hx]; rfl, by rw [List.find?_cons, hx]; rfl⟩
    · have hx : p x = false := by simpa using hx
      rcases ih with ⟨h1, h2⟩ | ⟨k, h, h1, h2⟩
      · exact .inl ⟨by unfold idxOf; rw [if_neg (by simp [hx]), if_pos h1], by rw [List.find?_cons, hx]; exact h2⟩
      · refine .inr ⟨k + 1, by rw [List.length_cons]; omega, ?_, by rw [List.find?_cons, hx]; exact h2⟩
        unfold idxOf
        rw [if_neg (by simp [hx]), h1, if_neg (by omega)]; omega
end Go.Proofs.Ytmljmahlpcdhoaa

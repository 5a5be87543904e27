/-
  Texts of a proof, one behind the other (part 30).
-/
import Derived.Test.YtjmelcdgbnjefaaRc0
import Derived.Test.YtjmelcdgbnjefaaRc5
import Derived.Test.YtjmelcdgbnjefaaRc10
set_option linter.unusedVariables false
set_option linter.unusedSimpArgs false
namespace Go.Proofs.Ytjmelcdgbnjefaa.Ab
set_option linter.unusedVariables false
set_option linter.unusedSimpArgs false
set_option linter.unusedSectionVars false
open Go.RowKit
section
variable {P : Program} {nt : Nat} {T : List Nat} {e : Env} {h : Heap} {o : Oper} {tab : TTab}
theorem E_buildSliceA {t el : TypeId} {ps : Array (Nat × Operand)} {len : Nat} {te te' : TE} {d : Option Tmp} {id : Nat} {al : List (Nat × AVal)} {xs : List AVal} (TO : TabOk P tab) (ho : o.op = .buildSlice t len ps) (hdst : o.dst = d) (ht : tlook tab t = some te) (hs : te.sh = .sl el)
    (hel : tlook tab el = some te') (hz : te'.zero.all (·.oneCell') = true) (hk : Nat.blt 0 te'.size = true) (hk2 : Nat.beq te'.zero.length te'.size = true) (hlen : Nat.blt (len * te'.size) 16777216 = true) (hpos : Nat.blt 0 len = true) (hal : aparts e ps.toList = some al)
    (hf : afill (fun i => some (i * te'.size, te'.size)) ((List.range (len * te'.size)).map fun j => match te'.zero[j % te'.size]? with | some v => .d (.sc v) | none => .top) al = some xs) (hid : Nat.blt id 1000 = true) (hd : dstOk nt d = true) :
    AEff P nt T e h o (fun e' h' => e' = aput d (.row id) (killE id e) ∧ h' = (id, .rowA el te'.size len (xs.map (killV id))) :: killH id h) := fun Pm F w0 pin ι a w R K Qx hK => by
  have hu := (TO t te ht).slice hs
  obtain ⟨z, hz1, hz2, _⟩ := (TO el te' hel).zero w
  have hzl : z.cells.size = te'.size := by rw [← Array.length_toList, hz2]; exact Nat.eq_of_beq_eq_true hk2
  have hk : 0 < te'.size := by simp [Nat.blt] at hk; omega
  have hlen : len * te'.size < 16777216 := by simp [Nat.blt] at hlen; omega
  have hpos : 0 < len := by simp [Nat.blt] at hpos; omega
  let C0 : Array Value := (Array.range (len * te'.size)).map (z.cells[· % z.cells.size]!)
  have hget : ∀ j, j < len * te'.size → C0[j]? = te'.zero[j % te'.size]? ∧ ∃ v, te'.zero[j % te'.size]? = some v ∧ v.oneCell' = true := by
    intro j hj
    have hlt : j % te'.size < z.cells.size := by rw [hzl]; exact Nat.mod_lt _ hk
    have e1 : te'.zero[j % te'.size]? = some z.cells[j % te'.size] := by rw [← hz2, Array.getElem?_toList, Array.getElem?_eq_getElem hlt]
    refine ⟨?_, z.cells[j % te'.size], e1, List.all_eq_true.1 hz _ (List.mem_of_getElem? e1)⟩
    rw [e1]
    have hlt2 : j % z.cells.size < z.cells.size := by rw [hzl] at hlt ⊢; exact hlt
    simp only [C0, Array.getElem?_map]
    rw [Array.getElem?_range]
    simp only [hj, if_true, Option.map_some]
    rw [getElem!_pos z.cells _ hlt2]
    simp only [hzl]
  obtain ⟨C', g1, g2, g3⟩ := afill_rel R.env (fun i => some (i * te'.size, te'.size)) ps.toList al _ C0 xs hal hf (by simp [C0]) fun j c u h1 h2 => by
    have hj : j < len * te'.size := by have := (Array.getElem?_eq_some_iff.1 h2).1; simpa [C0] using this
    obtain ⟨e1, v, e2, e3⟩ := hget j hj
    rw [List.getElem?_map, List.getElem?_range hj] at h1
    simp only [Option.map_some, e2] at h1
    cases h1
    rw [e1, e2] at h2
    cases h2
    exact sc_rel e3
  have hxl : xs.length = len * te'.size := by
    have : ∀ (al : List (Nat × AVal)) (cells xs : List AVal) (place : Nat → Option (Nat × Nat)), afill place cells al = some xs → xs.length = cells.length := by
      intro al
      induction al with
      | nil => intro cells xs place h; cases h; rfl
      | cons p r ih =>
        intro cells xs place h
        obtain ⟨i, c⟩ := p
        rw [afill] at h
        split at h
        · rename_i off size ys _ _
          cases hb : Nat.beq ys.length size && Nat.ble (off + ys.length) cells.length with
          | false => rw [hb] at h; cases h
          | true =>
            rw [hb] at h
            have := ih _ _ _ h
            have hl := Nat.le_of_ble_eq_true (by simp only [Bool.and_eq_true] at hb; exact hb.2)
            rw [this]; simp [setW]; omega
        · cases h
    rw [this al _ xs _ hf]; simp
  have hb : ∀ ι', ι' = upd ι id (some (.slice (some ⟨w.heap.size, 0, none⟩) len len)) → Ext w F ι (w.alloc (.cells C' el)) ι' → BRel (w.alloc (.cells C' el)) F ι' (.rowA el te'.size len (xs.map (killV id))) (.slice (some ⟨w.heap.size, 0, none⟩) len len) := by
    intro ι' h0 he
    have hsz : C'.size = len * te'.size := by rw [g2, hxl]
    refine ⟨C'.toList, ⟨by simp [hsz], .inr ⟨w.heap.size, len, C', rfl, Nat.zero_le _, heap_new _ _, Nat.le_refl _, ?_, hsz, ?_⟩⟩, ?_, ?_⟩
    · have := Nat.le_mul_of_pos_right len hk
      unfold maxLen; omega
    · rw [List.take_of_length_le (by simp [hsz])]
    · simpa using g2
    · intro i c u h1 h2
      rw [List.getElem?_map] at h1
      cases hc : xs[i]? with
      | none => rw [hc] at h1; cases h1
      | some c0 =>
        rw [hc] at h1; cases h1
        subst h0
        exact (g3 i c0 u hc (by simpa using h2)).killed he
  obtain ⟨hR, hC⟩ := R.new (T := T) hid hd (.cells C' el) (.slice (some ⟨w.heap.size, 0, none⟩) len len) (by simp [blockOf]) _ (.row id) hb fun ι' h1 => .row id _ rfl fun v hv => by subst h1; simp [upd] at hv; exact hv
  have hrun : (execOp a.eval o).run P w = .ok (.value (.slice (some ⟨w.heap.size, 0, none⟩) len len)) (w.alloc (.cells C' el)) := by
    have hfill : Instr.fill (fun i => some (i * te'.size, te'.size)) C0 (ps.map fun p => (p.1, a.eval p.2)).toList = some C' := by rw [Array.toList_map]; exact g1
    simp only [execOp, ho]
    have h0 : ¬ (len = 0 ∨ te'.size = 0) := by omega
    rw [Array.toList_map] at hfill
    have hn : ¬ (16777216 < len * te'.size) := by omega
    simp [Instr.buildSlice, run_underlying hu, (TO el te' hel).size, hz1, hn]
    rw [show Instr.fill (fun i => some (i * te'.size, te'.size)) _ _ = some C' from hfill]
    simp [newRow, newObj, Sem.run]
    intro h9
    rcases Nat.mul_eq_zero.1 h9 with h9 | h9 <;> omega
  unfold Oper.wp
  rw [hrun, Oper.upon_value, hdst]
  exact hK _ _ _ _ _ ⟨rfl, rfl⟩ hR hC (put_defers _ _ _)
theorem Y_index_rowA {t : TypeId} {x y : Operand} {te te' : TE} {el el' : TypeId} {id kk n : Nat} {cs : List AVal} {k : IntKind} {i : Int} (TO : TabOk P tab) (ho : o.op = .indexAddr t x y) (ht : tlook tab t = some te) (hs : te.sh = .sl el)
    (hel : tlook tab el = some te') (hx : aev e x = some (.row id)) (hb : look h id = some (.rowA el' kk n cs)) (hy : aev e y = some (.d (.sc (.int k i)))) (hi : 0 ≤ i ∧ i < n) : AYield P T e h o (.eptr id (i.toNat * te'.size)) := fun Pm F w0 pin ι a w H E => by
  obtain ⟨v, hv, xs, hown, _⟩ := H.blk id _ hb
  have hr := aev_rel E hx
  have hk := (sc_of (aev_rel E hy)).1
  have hu := (TO t te ht).slice hs
  generalize hau : a.eval x = u at hr
  cases hr with
  | row _ _ h1 h2 =>
    have h3 := h2 v hv
    subst h3
    rcases hown.2 with ⟨_, h4⟩ | ⟨g, cap, cur, h3, _⟩
    · subst h4; exact absurd hi (by simp)
    · subst h3
      refine ⟨.pointer (some ⟨g, i.toNat * te'.size, none⟩), .eptr id _ _ rfl fun v' hv' => ?_, fun w' _ => ?_⟩
      · rw [hv] at hv'; cases hv'; exact ⟨g, n, cap, rfl, rfl⟩
      · simp [execOp, ho, hau, hk, run_indexAt w' hu (TO el te' hel) g 0 n cap k i hi]
theorem Y_load_eptrA {t : TypeId} {x : Operand} {te : TE} {id o1 : Nat} {el k n : Nat} {cs xs : List AVal} {c : AVal} (TO : TabOk P tab) (ho : o.op = .load t x) (ht : tlook tab t = some te) (hx : aev e x = some (.eptr id o1)) (hb : look h id = some (.rowA el k n cs))
    (hT : T.contains id = false) (hw : win cs o1 te.size = xs) (hl : Nat.beq xs.length te.size = true) (hc : cond te.agg (some (.agg xs)) xs.head? = some c) : AYield P T e h o c := fun Pm F w0 pin ι a w H E => by
  obtain ⟨v, hv, ys, hown, hly, hr⟩ := H.blk id _ hb
  have hrel := aev_rel E hx
  have hl := Nat.eq_of_beq_eq_true hl
  generalize hau : a.eval x = u at hrel
  cases hrel with
  | eptr _ _ _ h1 h2 =>
    obtain ⟨g, n', cap, h3, rfl⟩ := h2 _ hv
    subst h3
    have hvl : (win ys o1 te.size).length = xs.length := by
      subst hw; simp [win, hly]
    refine load_of (vs := win ys o1 te.size) ho (TO t te ht) hau (by rw [hvl, hl]) (by rw [hvl]) (fun j c u h4 h5 => ?_) hc (CT T ι w) fun w' hw' j u hj => ?_
    · exact hr (o1 + j) c u (win_get hw h4) (win_get rfl h5)
    · have h6 := win_get rfl hj
      have h7 := ct_same H hw' hv rfl hT
      have h8 := hown.cells (g := g) rfl (o1 + j) u h6
      rw [Addr.add_mid, Nat.zero_add] at h8
      exact cell_of_same h7 h8
theorem R_indexA {t el el' k kk j id : Nat} {x y : Operand} {cs : List AVal} {n : Nat} {q : IntKind} {i : Int} (TO : TabOk P tab) (ho : o.op = .indexAddr t x y) (hel : telem tab t = some el) (hsz : tsize tab el = some k) (hx : aev e x = some (.row id)) (hb : look h id = some (.rowA el' kk n cs)) (hy : aev e y = some (.d (.sc (.int q i)))) (hj : i = (j : Int)) (hlt : j < n) :
    AYield P T e h o (.eptr id (j * k)) := by
  obtain ⟨te, h1, h2⟩ := telem_spec hel
  obtain ⟨te', h3, rfl⟩ := tsize_spec hsz
  subst hj
  exact Y_index_rowA TO ho h1 h2 h3 hx hb hy ⟨by omega, by omega⟩
theorem R_loadA {t id o1 s el k n : Nat} {x : Operand} {cs xs : List AVal} {c : AVal} {ag : Bool} (TO : TabOk P tab) (ho : o.op = .load t x) (hs : tsize tab t = some s) (ha : tagg tab t = some ag) (hx : aev e x = some (.eptr id o1)) (hb : look h id = some (.rowA el k n cs)) (hT : T.contains id = false)
    (hw : win cs o1 s = xs) (hl : Nat.beq xs.length s = true) (hc : lval ag xs = some c) : AYield P T e h o c := by
  obtain ⟨te, h1, rfl⟩ := tsize_spec hs
  obtain ⟨te', h3, rfl⟩ := tagg_spec ha
  rw [h1] at h3; cases h3
  exact Y_load_eptrA TO ho h1 hx hb hT hw hl (lval_spec hc)
end
section
variable {P : Program} {nt : Nat} {Q : Post} {e : Env} {h : Heap} {ops : Array Oper} {o : Oper} {rest : List Oper} {tab : TTab}
end
end Go.Proofs.Ytjmelcdgbnjefaa.Ab

namespace Go.Proofs.Ytjmelcdgbnjefaa.Ab
set_option linter.unusedVariables false
open Go.RowKit
section
variable {P : Program} {nt : Nat} {Q : Post} {e : Env} {h : Heap} {ops : Array Oper} {o : Oper} {rest : List Oper} {T : List Nat} {tab : TTab} {fuel i : Nat} {listed : Array Bool}
theorem E_callMv {f : FuncId} {args : Array Operand} {ats : Array TypeId} {cs0 cs : List AVal} {d : Option Tmp} {id j el k el0 k0 n0 : Nat} {ds0 : List Dat} {c0 : AVal} {v00 : Value} (ho : o.op = .call { callee := .value (.func f), args := args, argTypes := ats }) (hdst : o.dst = d) (hx : aevs e args.toList = some cs0)
    (hcs : cs.map (renV [(1000, id)]) = cs0) (hok : ∀ c ∈ cs, okV [(1000, id)] c = true) (hb : look h id = some (.row el0 k0 n0 ds0))
    (H : ACall P f cs [(1000, .row el0 k0 n0 ds0)] (fun c h' => c = c0 ∧ ∃ n ds, h' = [(j, .row el k n ds)])) (hc0 : valA c0 = some v00) (hrel : ∀ w F ι, VRel w F ι c0 v00) (hid : Nat.blt id 1000 = true) (hd : dstOk nt d = true) (hT : T.contains id = true) :
    AEff P nt T e h o (fun e' h2 => ∃ n ds, e' = aput d c0 (killE id e) ∧ h2 = (id, .row el k n ds) :: killH id h) := fun Pm F w0 pin ι a w R K Qx hK => by
  have hid' : id < 1000 := by simp [Nat.blt] at hid; omega
  unfold Oper.wp
  rw [run_callA H.1 ho, Oper.upon_enter, hdst]
  have HR := R.heap
  obtain ⟨v0, hv0, hB0⟩ := HR.blk id _ hb
  let ι0 : Nat → Option Value := fun p => if p = 1000 then ι id else none
  have h0some : ∀ p v, ι0 p = some v → ∃ i, look [(1000, id)] p = some i ∧ ι i = some v := fun p v hv => by
    simp only [ι0] at hv
    split at hv
    · rename_i hp; subst hp; exact ⟨id, rfl, hv⟩
    · cases hv
  have hlk : ∀ p i, look [(1000, id)] p = some i → p = 1000 ∧ i = id := fun p i hp => by
    by_cases h1 : 1000 = p
    · subst h1; rw [look_cons_same] at hp; cases hp; exact ⟨rfl, rfl⟩
    · rw [look_cons_ne _ _ h1] at hp; cases hp
  let F' : Nat → Prop := fun r => F r ∨ ∃ i v, ι i = some v ∧ blockOf v = some r ∧ i ≠ id
  let Pm' : Nat → Prop := fun r => w.heap.size ≤ r ∨ blockOf v0 = some r
  have hFdown : ExtF w F ι w F' ι0 := ⟨fun _ _ _ => rfl, fun r _ hf => ⟨fun hc => hc.elim hf.1 fun ⟨i, v, h1, h2, _⟩ => hf.2 i v h1 h2, fun p v hv hb => by
    obtain ⟨i, _, h2⟩ := h0some p v hv
    exact hf.2 i v h2 hb⟩⟩
  have HC : HRel Pm' F' w ι0 ι0 [(1000, .row el0 k0 n0 ds0)] w := by
    refine ⟨fun p b hb2 => ?_, fun p v hv => ?_, fun p q v v' r hpq hv hv' hr => ?_, fun p v r hv hr => .inr ?_, rfl, rfl, rfl, Nat.le_refl _, fun _ _ _ => rfl, fun r hr => .inl hr, fun p v _ hv => hv, fun p v r hv hr hF' => ?_, fun r hr => ?_⟩
    · by_cases h1 : 1000 = p
      · subst h1
        rw [look_cons_same] at hb2
        cases hb2
        refine ⟨v0, by simp only [ι0, if_true]; exact hv0, ?_⟩
        obtain ⟨xs, hown, hxl, hxr⟩ := hB0
        exact ⟨xs, hown, hxl, fun i c u h3 h4 => (hxr i c u h3 h4).ext (fun _ _ _ => rfl) fun r hr hf => hFdown.free r hr hf⟩
      · rw [look_cons_ne _ _ h1] at hb2; cases hb2
    · simp only [ι0] at hv
      split at hv
      · rename_i hp; subst hp; exact ⟨_, look_cons_same _ _ _⟩
      · cases hv
    · simp only [ι0] at hv hv'
      split at hv <;> split at hv'
      · omega
      · cases hv'
      · cases hv
      · cases hv
    · simp only [ι0] at hv
      split at hv
      · rw [hv0] at hv; cases hv; exact hr
      · cases hv
    · obtain ⟨i, h1, h2⟩ := h0some p v hv
      obtain ⟨_, rfl⟩ := hlk p i h1
      rcases hF' with h3 | ⟨q, v', h3, h4, h5⟩
      · exact HR.nf _ v r h2 hr h3
      · exact HR.inj _ q v v' r (fun h => h5 h.symm) h2 h3 hr h4
    · rcases hr with h1 | ⟨q, v, h1, h2, _⟩
      · exact Nat.lt_of_lt_of_le (HR.forb r h1) HR.size
      · exact HR.lt h1 h2
  have HA : ArgsRel w F' ι0 cs (args.map a.eval) := by
    have := args_of R.env hx
    refine ⟨by rw [this.1, ← hcs, List.length_map], fun i c u h1 h2 => (this.2 i (renV [(1000, id)] c) u (by rw [← hcs, List.getElem?_map, h1]; rfl) h2).down (hok c (List.mem_of_getElem? h1)) hFdown h0some⟩
  refine (H.2 Pm' F' w ι0 ι0 _ w HC HA).mono ?_
  rintro x w' ⟨u0, c, h', ι', rfl, ⟨rfl, n, ds, rfl⟩, hH, hv⟩
  have hu0 := valA_rel hv hc0
  subst hu0
  obtain ⟨u, hv', xs, hown, hxl, hxr⟩ := hH.blk j _ (look_cons_same _ _ _)
  have hpm : ∀ r, blockOf u = some r → w.heap.size ≤ r ∨ ∃ v, ι id = some v ∧ blockOf v = some r := fun r hr => by
    rcases hH.pm j u r hv' hr with h1 | h1
    · exact .inl h1
    · exact .inr ⟨v0, hv0, h1⟩
  have hkeep : ∀ r, r < w.heap.size → blockOf v0 ≠ some r → w'.heap[r]? = w.heap[r]? := fun r hr hn => hH.keep r hr fun hp => by
    rcases hp with h1 | h1
    · omega
    · exact hn h1
  have TT : Touch w ι id u w' := ⟨hH.os, hH.tape, hH.output, hH.size, fun r hr hn => hkeep r hr (hn v0 hv0), hpm⟩
  refine hK _ _ _ _ _ ⟨n, ds, rfl, rfl⟩ ⟨R.heap.touch TT (.inl hid') ⟨xs, hown, hxl, fun i c u2 h1 h2 => (hxr i c u2 h1 h2).ext (fun _ _ _ => rfl) fun r hr hf => ⟨fun h3 => hf.1 (.inl h3), fun q v h3 h4 => ?_⟩⟩, (R.env.killed TT.ext).aput hd R.size (hrel _ _ _), by rw [put_defers]; exact R.defers.ext TT.ext, by rw [put_size]; exact R.size⟩ ?_ (put_defers _ _ _)
  · unfold upd at h3
    split at h3
    · cases h3; exact hf.2 j u hv' h4
    · rename_i hne; exact hf.1 (.inr ⟨q, v, h3, h4, hne⟩)
  · refine ⟨⟨hH.os, hH.tape, hH.output, hH.size, fun r hr hne => hkeep r hr (hne id (List.contains_iff_mem.1 hT) v0 hv0)⟩, fun q _ u2 r hq hr1 hlt => ?_⟩
    unfold upd at hq
    split at hq
    · rename_i hqi
      subst hqi
      cases hq
      rcases hpm r hr1 with h1 | ⟨v, h1, h2⟩
      · omega
      · exact ⟨v, h1, h2⟩
    · exact ⟨u2, hq, hr1⟩
theorem T_cMv {f : FuncId} {args : Array Operand} {ats : Array TypeId} {cs0 cs : List AVal} {d id j el k el0 k0 n0 : Nat} {ds0 : List Dat} {c0 : AVal} {v00 : Value} (hi : ops[i]? = some o) (hw : awant ops e o = some true) (hdst : o.dst = some d) (hd : Nat.blt d nt = true) (ho : o.op = .call { callee := .value (.func f), args := args, argTypes := ats }) (hx : aevs e args.toList = some cs0)
    (H : ACall P f cs [(1000, .row el0 k0 n0 ds0)] (fun c h' => c = c0 ∧ ∃ n ds, h' = [(j, .row el k n ds)])) (hc0 : valA c0 = some v00) (hrel : ∀ w F ι, VRel w F ι c0 v00) (hcs : cs.map (renV [(1000, id)]) = cs0) (hok : ∀ c ∈ cs, okV [(1000, id)] c = true) (hb : look h id = some (.row el0 k0 n0 ds0)) (hid : Nat.blt id 1000 = true) (hT : T.contains id = true)
    (HK : ∀ n ds, AAny P nt ops Q T fuel (listed.setIfInBounds i true) ((d, c0) :: killE id e) ((id, .row el k n ds) :: killH id h)) : AAt P nt ops Q T fuel listed i e h :=
  T_eff hi hw (E_callMv (d := some d) ho hdst hx hcs hok hb H hc0 hrel hid hd hT) fun e' h' ⟨n, ds, h1, h2⟩ => by subst h1 h2; exact HK n ds
theorem ACall.reid {f : FuncId} {args : List AVal} {p id el k n : Nat} {ds : List Dat} (hid : Nat.blt id 1000 = true) (H : ACall P f args h (fun c h' => c = .row p ∧ h' = [(p, .row el k n ds)])) : ACall P f args h (fun c h' => c = .row id ∧ h' = [(id, .row el k n ds)]) :=
  ⟨H.1, fun Pm F w0 pin ι0 us w a b => (H.2 Pm F w0 pin ι0 us w a b).mono fun x w' ⟨u, c, h', ι, h1, ⟨h2, h3⟩, H, hv⟩ => by
    subst h2 h3
    have hid' : id < 1000 := by simp [Nat.blt] at hid; omega
    obtain ⟨v, hvv, xs, hown, hxl, hxr⟩ := H.blk p _ (look_cons_same _ _ _)
    have hι : ∀ i u, (fun i => if i = id then ι p else none) i = some u → i = id ∧ ι p = some u := fun i u hu => by
      dsimp only at hu
      split at hu
      · rename_i h; exact ⟨h, hu⟩
      · cases hu
    have hex : Ext w' F ι w' (fun i => if i = id then ι p else none) := ⟨fun _ _ _ => rfl, fun r _ hf => ⟨hf.1, fun i u hu => hf.2 p u (hι i u hu).2⟩⟩
    refine ⟨u, .row id, _, fun i => if i = id then ι p else none, h1, ⟨rfl, rfl⟩, ⟨fun i b hb => ?_, fun i u hu => ?_, fun i j u u' r hij hi hj => ?_, fun i u r hu => H.pm p u r (hι i u hu).2, H.os, H.tape, H.output, H.size, H.keep, H.fresh, fun i u h1 hu => ?_, fun i u r hu => H.nf p u r (hι i u hu).2, H.forb⟩, ?_⟩
    · by_cases h1 : id = i
      · subst h1
        rw [look_cons_same] at hb
        cases hb
        exact ⟨v, by simp only [if_true]; exact hvv, xs, hown, hxl, fun i c u h3 h4 => (hxr i c u h3 h4).ext (fun _ _ _ => rfl) fun r hr hf => hex.free r hr hf⟩
      · rw [look_cons_ne _ _ h1] at hb; cases hb
    · obtain ⟨rfl, _⟩ := hι i u hu
      exact ⟨_, look_cons_same _ _ _⟩
    · exact absurd ((hι i u hi).1.trans (hι j u' hj).1.symm) hij
    · obtain ⟨rfl, _⟩ := hι i u hu
      omega
    · cases hv with
      | row _ _ g1 g2 => exact .row id u g1 fun v2 hv2 => g2 v2 (hι id v2 hv2).2⟩
end
end Go.Proofs.Ytjmelcdgbnjefaa.Ab

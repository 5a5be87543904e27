/-
  A runner of closed code: ranges over strings and maps; copy.
-/
import Derived.Test.YtplgpbadpdmeeaaRunMap2
namespace Go.Proofs.Ytplgpbadpdmeeaa.Rn
set_option linter.unusedVariables false
open Go.RowKit
open Go.Proofs.Ytplgpbadpdmeeaa.Ab (TE TTab tlook TabOk TFacts win setW setW_get win_get Sh)

section
variable {P : Program} {tab : TTab} {o : Oper} {e : Ev} {n : Nat} {h : Hp} {lo : Nat}
theorem good_rangeStr {t : TypeId} {x : Operand} {s : ByteArray} (ho : o.op = .range t x) (hd : P.underlying t = some .string) (hx : ev e x = some (.sc (.string s))) : Good P o e n h lo (.ptr n 0, n + 1, h.set n (.sit s 0), lo) :=
  good_new fun ι a w H E h0 => by
    obtain ⟨f1, f2, f3, f4, f5, f6⟩ := alloc_facts w (.stringIter s 0)
    have e1 := tv_rel (ev_rel E hx) _ rfl
    exact ⟨.pointer (some ⟨w.heap.size, 0, none⟩), _, w.alloc (.stringIter s 0), 0, by simp [execOp, ho, e1, Instr.range, run_underlying hd, newObj, Sem.run], f1, f2, f3, f4, f5, f6, fun ι' hle hi => ⟨.ptr n 0 _ _ hi, f6⟩⟩
theorem good_rangeNil {t K El : TypeId} {x : Operand} (ho : o.op = .range t x) (hd : P.underlying t = some (.map K El)) (hx : ev e x = some (.sc (.map none))) : Good P o e n h lo (.ptr n 0, n + 1, h.set n (.mit none 0 [] 0), lo) :=
  good_new fun ι a w H E h0 => by
    obtain ⟨f1, f2, f3, f4, f5, f6⟩ := alloc_facts w (.mapIter none 0 #[] 0)
    have e1 := tv_rel (ev_rel E hx) _ rfl
    exact ⟨.pointer (some ⟨w.heap.size, 0, none⟩), _, w.alloc (.mapIter none 0 #[] 0), 0, by simp [execOp, ho, e1, Instr.range, run_underlying hd, newObj, Sem.run], f1, f2, f3, f4, f5, f6, fun ι' hle hi => ⟨.ptr n 0 _ _ hi, none, f6, rfl⟩⟩
theorem good_rangeMap {t K El : TypeId} {x : Operand} {id clk : Nat} {es : List (V × V × Nat)} (ho : o.op = .range t x) (hd : P.underlying t = some (.map K El)) (hx : ev e x = some (.mp id)) (hb : h.get id = some (.map es clk)) : Good P o e n h lo (.ptr n 0, n + 1, h.set n (.mit (some id) clk [] clk), lo) :=
  good_new fun ι a w H E h0 => by
    obtain ⟨rr, m, hi, EE, hE, hrel⟩ := H.blk _ _ hb
    obtain ⟨f1, f2, f3, f4, f5, f6⟩ := alloc_facts w (.mapIter (some rr) clk #[] clk)
    have e1 := mp_inv (ev_rel E hx) hi
    exact ⟨.pointer (some ⟨w.heap.size, 0, none⟩), _, w.alloc (.mapIter (some rr) clk #[] clk), 0, by simp [execOp, ho, e1, Instr.range, run_underlying hd, getObj_map hE, newObj, Sem.run], f1, f2, f3, f4, f5, f6, fun ι' hle hi' => ⟨.ptr n 0 _ _ hi', some rr, f6, rr, m, hle _ _ hi, rfl⟩⟩
theorem good_nextStr {x : Operand} {id pos : Nat} {s : ByteArray} (ho : o.op = .next x true) (hx : ev e x = some (.ptr id 0)) (hb : h.get id = some (.sit s pos)) (hp : Nat.blt pos s.size = true) :
    Good P o e n h lo (.tup [.sc (.bool true), .sc (.int .i64 (pos : Int)), .sc (.int .i32 (Utf8.decode s pos).1)], n, h.set id (.sit s (pos + (Utf8.decode s pos).2)), lmin id lo) :=
  good_write hb fun ι a w rr m H E hi hB => by
    have hB : w.heap[rr]? = some (.stringIter s pos) := hB
    have hau := ptr_inv (ev_rel E hx) hi
    have hp := blt_lt hp
    have hlt : rr < w.heap.size := (Array.getElem?_eq_some_iff.1 hB).1
    have g1 : (getObj rr).run P w = .ok (.stringIter s pos) w := by simp [getObj, Sem.run, hB]
    have g2 : (setObj rr (.stringIter s (pos + (Utf8.decode s pos).2))).run P w = .ok () { w with heap := w.heap.setIfInBounds rr (.stringIter s (pos + (Utf8.decode s pos).2)) } := by simp [setObj, Sem.run, hB]
    refine ⟨.tuple #[.bool true, goInt pos, .int .i32 (Utf8.decode s pos).1], { w with heap := w.heap.setIfInBounds rr (.stringIter s (pos + (Utf8.decode s pos).2)) }, .inl ?_, VRel.tup' (LRel.cons (.sc _) (LRel.cons (.sc _) (LRel.cons (.sc _) .nil))), rfl, rfl, rfl, by simp, fun r' hr => by simp [Array.getElem?_setIfInBounds_ne (Ne.symm hr)], ?_⟩
    · simp only [execOp, ho, hau]
      simp [Instr.next, g1, hp, g2]
    · show ({ w with heap := w.heap.setIfInBounds rr (.stringIter s (pos + (Utf8.decode s pos).2)) } : World).heap[rr]? = _
      simp [hlt]
theorem good_nextStrEnd {x : Operand} {id pos : Nat} {s : ByteArray} (ho : o.op = .next x true) (hx : ev e x = some (.ptr id 0)) (hb : h.get id = some (.sit s pos)) (hp : Nat.blt pos s.size = false) :
    Good P o e n h lo (.tup [.sc (.bool false)], n, h, lo) :=
  good_value fun ι a w H E => by
    obtain ⟨rr, m, hi, hB⟩ := H.blk _ _ hb
    have hB : w.heap[rr]? = some (.stringIter s pos) := hB
    have hau := ptr_inv (ev_rel E hx) hi
    have hp := blt_ge hp
    have g1 : (getObj rr).run P w = .ok (.stringIter s pos) w := by simp [getObj, Sem.run, hB]
    refine ⟨.tuple #[.bool false], VRel.tup' (LRel.cons (.sc _) .nil), ?_⟩
    simp only [execOp, ho, hau]
    have : ¬ pos < s.size := by omega
    simp [Instr.next, g1, this]
theorem good_nextNil {x : Operand} {id since st : Nat} {seen : List Nat} (ho : o.op = .next x false) (hx : ev e x = some (.ptr id 0)) (hb : h.get id = some (.mit none since seen st)) :
    Good P o e n h lo (.tup [.sc (.bool false)], n, h, lo) :=
  good_value fun ι a w H E => by
    obtain ⟨rr, m, hi, rm, hB, hm⟩ := H.blk _ _ hb
    have hm : rm = none := hm
    subst hm
    have hau := ptr_inv (ev_rel E hx) hi
    have g1 : (getObj rr).run P w = .ok (.mapIter none since seen.toArray st) w := by simp [getObj, Sem.run, hB]
    refine ⟨.tuple #[.bool false], VRel.tup' (LRel.cons (.sc _) .nil), ?_⟩
    simp only [execOp, ho, hau]
    simp [Instr.next, g1]
/-- The entries that are left. -/
def leftV (es : List (V × V × Nat)) (seen : List Nat) : List (V × V × Nat) := es.filter fun p => !seen.contains p.2.2
theorem filter_rel {ι : Io} {q : V × V × Nat → Bool} {q' : MapEntry → Bool} : ∀ {es : List (V × V × Nat)} {E : List MapEntry}, EntRel ι es E → (∀ p m, m.born = p.2.2 → q p = q' m) → EntRel ι (es.filter q) (E.filter q')
  | [], E, h, _ => by
    have : E = [] := List.length_eq_zero_iff.1 h.1
    subst this
    exact h
  | p :: es, E, h, hq => by
    obtain ⟨m, E', rfl, h2, h3⟩ := h.tail
    have ih := filter_rel h3 hq
    rw [List.filter_cons, List.filter_cons, hq p m h2.2.2]
    split
    · exact EntRel.cons h2 ih
    · exact ih
theorem all_rel {ι : Io} {q : V × V × Nat → Bool} {q' : MapEntry → Bool} : ∀ {es : List (V × V × Nat)} {E : List MapEntry}, EntRel ι es E → (∀ p m, m.born = p.2.2 → q p = q' m) → E.all q' = es.all q
  | [], E, h, _ => by
    have : E = [] := List.length_eq_zero_iff.1 h.1
    subst this
    rfl
  | p :: es, E, h, hq => by
    obtain ⟨m, E', rfl, h2, h3⟩ := h.tail
    rw [List.all_cons, List.all_cons, hq p m h2.2.2, all_rel h3 hq]
/-- May the next step be reckoned? -/
def stepOk (es : List (V × V × Nat)) (seen : List Nat) (last since : Nat) : Bool := !(!seen.isEmpty && !es.isEmpty && es.all fun p => decide (p.2.2 ≥ last)) && (leftV es seen).all fun p => decide (p.2.2 < since)
theorem next_run {ι : Io} {w : World} {rr rm since clk st : Nat} {seen : List Nat} {es : List (V × V × Nat)} {EE : Array MapEntry} (hB : w.heap[rr]? = some (.mapIter (some rm) since seen.toArray st)) (hE : w.heap[rm]? = some (.map EE clk)) (hrel : EntRel ι es EE.toList) (hok : stepOk es seen st since = true) {ty : TypeId} :
    (leftV es seen = [] → (Instr.next (.pointer (some ⟨rr, 0, none⟩)) false ty).run P w = .ok (.tuple #[.bool false]) w) ∧
    (∀ p, leftV es seen = [p] → ∃ m : MapEntry, (VRel ι p.1 m.key ∧ VRel ι p.2.1 m.val ∧ m.born = p.2.2) ∧ (Instr.next (.pointer (some ⟨rr, 0, none⟩)) false ty).run P w = .ok (.tuple #[.bool true, m.key, m.val]) { w with heap := w.heap.setIfInBounds rr (.mapIter (some rm) since (seen ++ [p.2.2]).toArray clk) }) := by
  have g1 : (getObj rr).run P w = .ok (.mapIter (some rm) since seen.toArray st) w := by simp [getObj, Sem.run, hB]
  have g2 : (getObj rm).run P w = .ok (.map EE clk) w := getObj_map hE
  unfold stepOk at hok
  simp only [Bool.and_eq_true] at hok
  have hall := all_rel (q := fun p => decide (p.2.2 ≥ st)) (q' := fun m => decide (m.born ≥ st)) hrel fun p m hm => by rw [hm]
  have hem : EE.isEmpty = es.isEmpty := empties hrel
  have hno : (!seen.toArray.isEmpty && !EE.isEmpty && EE.all (·.born ≥ st)) = false := by
    have e1 : EE.all (fun m => decide (m.born ≥ st)) = es.all fun p => decide (p.2.2 ≥ st) := by rw [← hall, Array.all_toList]
    have e2 : seen.toArray.isEmpty = seen.isEmpty := by cases seen <;> rfl
    rw [e1, hem, e2]
    simpa only [Bool.not_eq_true'] using hok.1
  have hl := filter_rel (q := fun p => !seen.contains p.2.2) (q' := fun m => !seen.toArray.contains m.born) hrel fun p m hm => by rw [hm]; simp
  have hl : EntRel ι (leftV es seen) (EE.filter fun m => !seen.toArray.contains m.born).toList := by rw [Array.toList_filter]; exact hl
  have hl2 := filter_rel (q := fun p => decide (p.2.2 < since)) (q' := fun m => decide (m.born < since)) hl fun p m hm => by rw [hm]
  have hl3 := filter_rel (q := fun p => decide (p.2.2 ≥ since)) (q' := fun m => decide (m.born ≥ since)) hl fun p m hm => by rw [hm]
  have h4 : (leftV es seen).filter (fun p => decide (p.2.2 < since)) = leftV es seen := List.filter_eq_self.2 fun p hp => by have := List.all_eq_true.1 hok.2 p hp; simpa using this
  have h5 : (leftV es seen).filter (fun p => decide (p.2.2 ≥ since)) = [] := List.filter_eq_nil_iff.2 fun p hp => by have := List.all_eq_true.1 hok.2 p hp; simp at this ⊢; omega
  rw [h4] at hl2
  rw [h5] at hl3
  have hnew : ((EE.filter fun m => !seen.toArray.contains m.born).filter fun m => decide (m.born ≥ since)) = #[] := by
    apply Array.toList_inj.1
    rw [Array.toList_filter]
    exact List.length_eq_zero_iff.1 hl3.1
  constructor
  · intro h0
    rw [h0] at hl2
    have hold : ((EE.filter fun m => !seen.toArray.contains m.born).filter fun m => decide (m.born < since)) = #[] := by
      apply Array.toList_inj.1
      rw [Array.toList_filter]
      exact List.length_eq_zero_iff.1 hl2.1
    simp only [Instr.next, Sem.run_bind, g1, Result.andThen_ok, g2]
    simp only [hno, hold, hnew]
    simp [Question.forced]
  · intro p hp
    rw [hp] at hl2
    obtain ⟨m, E', h6, h7, h8⟩ := hl2.tail
    have : E' = [] := List.length_eq_zero_iff.1 h8.1
    subst this
    have hold : ((EE.filter fun m => !seen.toArray.contains m.born).filter fun m => decide (m.born < since)) = #[m] := by
      apply Array.toList_inj.1
      rw [Array.toList_filter, h6]
    refine ⟨m, h7, ?_⟩
    have g3 : (setObj rr (.mapIter (some rm) since (seen ++ [p.2.2]).toArray clk)).run P w = .ok () { w with heap := w.heap.setIfInBounds rr (.mapIter (some rm) since (seen ++ [p.2.2]).toArray clk) } := by simp only [setObj, Sem.run, hB]
    simp only [Instr.next, Sem.run_bind, g1, Result.andThen_ok, g2]
    simp only [hno, hold, hnew]
    simp [Question.forced, g3, h7.2.2]
theorem good_nextMapEnd {x : Operand} {id since st mid clk : Nat} {seen : List Nat} {es : List (V × V × Nat)} (ho : o.op = .next x false) (hx : ev e x = some (.ptr id 0)) (hb : h.get id = some (.mit (some mid) since seen st)) (hm : h.get mid = some (.map es clk)) (hok : stepOk es seen st since = true) (hl : leftV es seen = []) :
    Good P o e n h lo (.tup [.sc (.bool false)], n, h, lo) :=
  good_value fun ι a w H E => by
    obtain ⟨rr, m, hi, rm, hB, r2, m2, hi2, rfl⟩ := H.blk _ _ hb
    obtain ⟨rr2, m3, hi3, EE, hE, hrel⟩ := H.blk _ _ hm
    rw [hi2] at hi3
    cases hi3
    have hau := ptr_inv (ev_rel E hx) hi
    refine ⟨.tuple #[.bool false], VRel.tup' (LRel.cons (.sc _) .nil), ?_⟩
    have := (next_run (P := P) hB hE hrel hok (ty := o.type)).1 hl
    simp only [execOp, ho, hau]
    simp [this]
theorem good_nextMap {x : Operand} {id since st mid clk : Nat} {seen : List Nat} {es : List (V × V × Nat)} {p : V × V × Nat} (ho : o.op = .next x false) (hx : ev e x = some (.ptr id 0)) (hb : h.get id = some (.mit (some mid) since seen st)) (hm : h.get mid = some (.map es clk)) (hok : stepOk es seen st since = true) (hl : leftV es seen = [p]) :
    Good P o e n h lo (.tup [.sc (.bool true), p.1, p.2.1], n, h.set id (.mit (some mid) since (seen ++ [p.2.2]) clk), lmin id lo) :=
  good_write hb fun ι a w rr m H E hi hB => by
    obtain ⟨rm, hB, r2, m2, hi2, rfl⟩ := hB
    obtain ⟨rr2, m3, hi3, EE, hE, hrel⟩ := H.blk _ _ hm
    rw [hi2] at hi3
    cases hi3
    have hau := ptr_inv (ev_rel E hx) hi
    have hlt : rr < w.heap.size := (Array.getElem?_eq_some_iff.1 hB).1
    obtain ⟨mm, h1, h2⟩ := (next_run (P := P) hB hE hrel hok (ty := o.type)).2 p hl
    refine ⟨.tuple #[.bool true, mm.key, mm.val], { w with heap := w.heap.setIfInBounds rr (.mapIter (some r2) since (seen ++ [p.2.2]).toArray clk) }, .inl ?_, VRel.tup' (LRel.cons (.sc _) (LRel.cons h1.1 (LRel.cons h1.2.1 .nil))), rfl, rfl, rfl, by simp, fun r' hr => by simp [Array.getElem?_setIfInBounds_ne (Ne.symm hr)], some r2, ?_, r2, m2, hi2, rfl⟩
    · simp only [execOp, ho, hau]
      simp [h2]
    · simp [hlt]

/-! copy -/
theorem good_copy {t tx el : TypeId} {x y : Operand} {te te' : TE} {id off len k m : Nat} {cap : Option Nat} {cs : List V} {more : Bool} {v : V} {W : List V} (TO : TabOk P tab) (ho : o.op = .call { callee := .builtin .copy, args := #[x, y], argTypes := #[t, tx] }) (ht : tlook tab t = some te) (hs : te.sh = .sl el) (hel : tlook tab el = some te') (hk : Nat.beq k te'.size = true)
    (hx : ev e x = some (.sl id off len k cap)) (hb : h.get id = some (.cells cs more)) (hy : ev e y = some v) (hsrc : srcV h te'.size v = some (m, W)) (hf : srcFits v (P.underlying tx) = true) (hwl : Nat.beq W.length (m * te'.size) = true) (hfit : Nat.ble (off + len * te'.size) cs.length = true) :
    Good P o e n h lo (.sc (.int .i64 ((Nat.min m len : Nat) : Int)), n, h.set id (.cells (setW cs off (W.take (Nat.min m len * te'.size))) more), lmin id lo) :=
  good_write hb fun ι a w rr mm H E hi hB => by
    have hk := Nat.eq_of_beq_eq_true hk
    subst hk
    have hwl := Nat.eq_of_beq_eq_true hwl
    have hfit := Nat.le_of_ble_eq_true hfit
    obtain ⟨c, h1, _, _⟩ := sl_inv (ev_rel E hx) hi
    obtain ⟨news, h3, S⟩ := src_good H (ev_rel E hy) hsrc hf
    obtain ⟨C, tt, fz, hC, hfz, hsz, hle2, hmo, hl⟩ := hB
    have hu := (TO t te ht).slice hs
    have hmin : Nat.min m len * te'.size ≤ m * te'.size := Nat.mul_le_mul_right _ (Nat.min_le_left _ _)
    have hmin2 : Nat.min m len * te'.size ≤ len * te'.size := Nat.mul_le_mul_right _ (Nat.min_le_right _ _)
    have hnl : (news.take (Nat.min m len * te'.size)).length = Nat.min m len * te'.size := by rw [List.length_take, h3.1, hwl]; omega
    have hrelT := h3.take (Nat.min m len * te'.size)
    have hWl : (W.take (Nat.min m len * te'.size)).length = Nat.min m len * te'.size := by rw [← hrelT.1, hnl]
    have hone : ∀ u ∈ news.take (Nat.min m len * te'.size), u.oneCell' = true := fun u hu => S.one u (List.mem_of_mem_take hu)
    have hst := run_storeV (P := P) (off := off) hC hfz hsz (news.take (Nat.min m len * te'.size)) (by rw [hnl]; omega) hone
    obtain ⟨g1, g2, g3, g4, g5, g6⟩ := setCells_spec (news.take (Nat.min m len * te'.size)) off C w hC (by rw [hnl]; omega)
    -- the first cells of the source
    have hfc : (Builtin.firstCells te'.size (Nat.min m len) (a.eval y)).run P w = .ok (news.take (Nat.min m len * te'.size)).toArray w := by
      have hyv := ev_rel E hy
      unfold srcV at hsrc
      split at hsrc
      · rename_i id2 off2 len2 k2 cap2
        split at hsrc
        · rename_i cs2 more2 hb2
          cases hc : Nat.beq k2 te'.size && Nat.beq (win cs2 off2 (len2 * k2)).length (len2 * k2) && (win cs2 off2 (len2 * k2)).all one with
          | false => rw [hc] at hsrc; cases hsrc
          | true =>
            rw [hc, cond_true] at hsrc
            cases hsrc
            simp only [Bool.and_eq_true] at hc
            have hk2 := Nat.eq_of_beq_eq_true hc.1.1
            subst hk2
            obtain ⟨r2, m2, hi2, hB2⟩ := H.blk _ _ hb2
            obtain ⟨c2, e2, _, _⟩ := sl_inv hyv hi2
            have hsl : news = (Builtin.firstCells te'.size m (.slice (some ⟨r2, off2, none⟩) m c2) |>.run P w |> fun r => match r with | .ok x _ => x.toList | _ => []) := by
              have := S.cells
              rw [e2] at this
              rw [this]
            obtain ⟨vs, q1, q2, q3⟩ := cells_win hB2 (Nat.eq_of_beq_eq_true hc.1.2)
            have hfull := run_firstCells_some (P := P) w te'.size m ⟨r2, off2, none⟩ m c2 vs q1 (fun j u hj => by rw [Addr.add_mid]; exact q3 j u hj)
            rw [hfull] at hsl
            have hsl : news = vs := by simpa using hsl
            subst hsl
            rw [e2]
            exact run_firstCells_some (P := P) w te'.size (Nat.min m len) ⟨r2, off2, none⟩ m c2 _ hnl (fun j u hj => by
              rw [Addr.add_mid]
              rw [List.getElem?_take] at hj
              split at hj
              · exact q3 j u hj
              · cases hj)
        · cases hsrc
      · cases hsrc
        have h0 : Nat.min 0 len = 0 := Nat.zero_min _
        obtain ⟨uy, huy⟩ : ∃ uy, a.eval y = uy := ⟨_, rfl⟩
        rw [huy] at hyv ⊢
        cases hyv
        rw [h0]
        simp [Builtin.firstCells, loadCells, loadCellsFrom]
      · cases hsrc
        have h0 : Nat.min 0 len = 0 := Nat.zero_min _
        have e2 := tv_rel hyv _ rfl
        rw [h0, e2]
        simp [Builtin.firstCells]
      · rename_i s
        cases hc : Nat.beq te'.size 1 with
        | false => rw [hc] at hsrc; cases hsrc
        | true =>
          rw [hc, cond_true] at hsrc
          cases hsrc
          have hsz1 := Nat.eq_of_beq_eq_true hc
          have e2 := tv_rel hyv _ rfl
          have := S.cells
          rw [e2] at this ⊢
          have hnews : news = byteCells s := by
            have h9 : (Builtin.firstCells te'.size s.size (.string s)).run P w = .ok (byteCells s).toArray w := by
              have := firstCells_string (P := P) s w
              simpa [Builtin.firstCells] using this
            rw [h9] at this
            simpa using this.symm
          rw [hnews, hsz1, Nat.mul_one]
          simp [Builtin.firstCells, byteCells]
          apply Array.ext'
          simp [List.map_take]
      · cases hsrc
    refine ⟨.int .i64 ((Nat.min m len : Nat) : Int), w.setCells rr off (news.take (Nat.min m len * te'.size)), .inl ?_, .sc _, g4, g5, g6, by rw [g3]; exact Nat.le_refl _, g2, brel_set hC hfz hsz hle2 hmo hl hrelT (by omega)⟩
    simp only [execOp, ho]
    simp [resolve, invoke, builtin, h1, Builtin.copy_, run_underlying hu, (TO el te' hel).size, S.len, hfc, hst, goInt]
end
end Go.Proofs.Ytplgpbadpdmeeaa.Rn

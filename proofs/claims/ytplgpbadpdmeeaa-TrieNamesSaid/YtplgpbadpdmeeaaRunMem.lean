/-
  A runner of closed code: loads, stores, new blocks, slices.
-/
import Derived.Test.YtplgpbadpdmeeaaRunOps
namespace Go.Proofs.Ytplgpbadpdmeeaa.Rn
set_option linter.unusedVariables false
open Go.RowKit
open Go.Proofs.Ytplgpbadpdmeeaa.Ab (TE TTab tlook TabOk TFacts win setW setW_get win_get Sh)

theorem setCells_spec {r : Nat} {t : TypeId} {fz : Nat × Nat} : ∀ (vs : List Value) (o : Nat) (C : Array Value) (w : World), w.heap[r]? = some (.cells C t fz) → o + vs.length ≤ C.size →
    (w.setCells r o vs).heap[r]? = some (.cells (setW C.toList o vs).toArray t fz) ∧ (∀ r', r' ≠ r → (w.setCells r o vs).heap[r']? = w.heap[r']?) ∧ (w.setCells r o vs).heap.size = w.heap.size ∧
    (w.setCells r o vs).os = w.os ∧ (w.setCells r o vs).tape = w.tape ∧ (w.setCells r o vs).output = w.output
  | [], o, C, w, hg, hl => by
    refine ⟨?_, fun _ _ => rfl, rfl, rfl, rfl, rfl⟩
    have : setW C.toList o ([] : List Value) = C.toList := by simp [Ab.setW]
    rw [this]; simpa [World.setCells] using hg
  | v :: vs, o, C, w, hg, hl => by
    have h1 : (w.setCell ⟨r, o, none⟩ v).heap[r]? = some (.cells (C.setIfInBounds o v) t fz) := by simp [World.setCell, Array.getElem?_modify, hg]
    obtain ⟨h2, h3, h4, h5, h6, h7⟩ := setCells_spec vs (o + 1) (C.setIfInBounds o v) _ h1 (by simp at hl ⊢; omega)
    rw [World.setCells]
    refine ⟨?_, fun r' hr => ?_, ?_, h5, h6, h7⟩
    · rw [h2]
      congr 2
      have : setW (C.setIfInBounds o v).toList (o + 1) vs = setW C.toList o (v :: vs) := by
        apply List.ext_getElem?
        intro i
        simp at hl
        rw [setW_get (by simp; omega), setW_get (by simp; omega)]
        simp only [List.length_cons, Array.toList_setIfInBounds]
        by_cases h8 : o + 1 ≤ i ∧ i < o + 1 + vs.length
        · rw [if_pos h8, if_pos (by omega), show i - o = (i - (o + 1)) + 1 by omega, List.getElem?_cons_succ]
        · rw [if_neg h8]
          by_cases h9 : i = o
          · subst h9
            rw [if_pos (by omega), Nat.sub_self]
            rw [List.getElem?_set_self (by simp; omega)]
            rfl
          · rw [if_neg (by omega), List.getElem?_set_ne (by omega)]
      rw [this]
    · rw [h3 r' hr]
      simp [World.setCell, Array.getElem?_modify, Ne.symm hr]
    · rw [h4]; simp [World.setCell]
theorem zeros_one {te : TE} : True := trivial
section
variable {P : Program} {tab : TTab} {o : Oper} {e : Ev} {n : Nat} {h : Hp} {lo : Nat}
theorem ptr_inv {ι : Io} {id off : Nat} {u : Value} (hv : VRel ι (.ptr id off) u) {r m : Nat} (hi : ι id = some (r, m)) : u = .pointer (some ⟨r, off, none⟩) := by
  cases hv with
  | ptr _ _ r' m' h' => rw [hi] at h'; cases h'; rfl
theorem win_take {α : Type} {C : List α} {k o l : Nat} (h : o + l ≤ k) : win (C.take k) o l = win C o l := by
  unfold Ab.win
  rw [List.drop_take, List.take_take]
  congr 1
  omega
theorem whole_len {te : TE} {cs : List V} {v : V} (hw : whole te cs = some v) : cs.length = te.size := by
  unfold whole at hw
  cases hb : Nat.beq cs.length te.size with
  | false => rw [hb] at hw; cases hw
  | true => exact Nat.eq_of_beq_eq_true hb
theorem win_len {α : Type} {cs : List α} {o l : Nat} (h : (win cs o l).length = l) : o + l ≤ cs.length ∨ l = 0 := by
  unfold Ab.win at h
  rw [List.length_take, List.length_drop] at h
  omega
theorem good_load {t : TypeId} {x : Operand} {te : TE} {id off : Nat} {cs : List V} {more : Bool} {v : V} (TO : TabOk P tab) (ho : o.op = .load t x) (ht : tlook tab t = some te) (hx : ev e x = some (.ptr id off)) (hb : h.get id = some (.cells cs more))
    (hw : whole te (win cs off te.size) = some v) : Good P o e n h lo (v, n, h, lo) :=
  good_value fun ι a w H E => by
    obtain ⟨r, m, hi, C, tt, fz, hC, hfz, hsz, hle, hmo, hl⟩ := H.blk id _ hb
    have hau := ptr_inv (ev_rel E hx) hi
    have hwl := whole_len hw
    have hrel : LRel ι (win cs off te.size) (win (C.toList.take cs.length) off te.size) := hl.win off te.size
    have hvl : (win (C.toList.take cs.length) off te.size).length = te.size := by rw [hrel.1, hwl]
    obtain ⟨W, hW⟩ : ∃ W, win (C.toList.take cs.length) off te.size = W := ⟨_, rfl⟩
    rw [hW] at hvl hrel
    have hcell : ∀ (j : Nat) (u : Value), W[j]? = some u → w.cell? ⟨r, off + j, none⟩ = some u := fun j u hj => by
      have h6 := win_get hW hj
      rw [List.getElem?_take] at h6
      split at h6
      · simp [World.cell?, hC]; simpa using h6
      · cases h6
    have hrun := Ab.run_loadVar w (TO t te ht) r off _ hvl hcell
    unfold whole at hw
    rw [hwl, beq_dec, decide_eq_true rfl, cond_true] at hw
    cases ha : te.agg with
    | true =>
      rw [ha] at hw hrun
      cases hw
      exact ⟨.agg W.toArray, VRel.agg' (by simpa using hrel), by simp [execOp, ho, hau, Instr.loadAt, Instr.sureAddr, hrun]⟩
    | false =>
      rw [ha, cond_false] at hw
      split at hw
      · rename_i c hc
        cases hw
        rw [hc] at hrel
        obtain ⟨u, vs, h1, h2, h3⟩ := hrel.head
        subst h1
        rw [ha] at hrun
        exact ⟨u, h2, by simp [execOp, ho, hau, Instr.loadAt, Instr.sureAddr, hrun]⟩
      · cases hw
/-- Cells are written. -/
theorem brel_set {ι : Io} {w : World} {r m : Nat} {C : Array Value} {t : TypeId} {fz : Nat × Nat} {cs xs : List V} {more : Bool} {vs : List Value} {off : Nat} (hC : w.heap[r]? = some (.cells C t fz)) (hfz : ∀ j, j < m → ¬ (fz.1 ≤ j ∧ j < fz.2)) (hsz : C.size = m) (hle : cs.length ≤ m) (hmo : more = false → m = cs.length)
    (hl : LRel ι cs (C.toList.take cs.length)) (hx : LRel ι xs vs) (hoff : off + xs.length ≤ cs.length) : BRel ι (w.setCells r off vs) (.cells (setW cs off xs) more) r m := by
  obtain ⟨h1, h2, h3, h4⟩ := setCells_spec vs off C w hC (by rw [hx.1, hsz]; omega)
  have hlen : (setW cs off xs).length = cs.length := by simp [Ab.setW]; omega
  refine ⟨_, t, fz, h1, hfz, ?_, by rw [hlen]; exact hle, fun h => by rw [hlen]; exact hmo h, ?_⟩
  · have := hx.1
    simp [Ab.setW]; omega
  · have := hl.setW hx off
    rw [hlen]
    have e1 : (setW C.toList off vs).take cs.length = setW (C.toList.take cs.length) off vs := by
      apply List.ext_getElem?
      intro i
      have hx1 := hx.1
      rw [List.getElem?_take, setW_get (by simp; omega), setW_get (by simp; omega)]
      by_cases hi : i < cs.length
      · rw [if_pos hi, List.getElem?_take, if_pos hi]
      · rw [if_neg hi, if_neg (by omega), List.getElem?_take, if_neg hi]
    simpa [e1] using this
theorem run_storeV {w : World} {r m off : Nat} {C : Array Value} {t : TypeId} {fz : Nat × Nat} (hC : w.heap[r]? = some (.cells C t fz)) (hfz : ∀ j, j < m → ¬ (fz.1 ≤ j ∧ j < fz.2)) (hsz : C.size = m) (vs : List Value) (hl : off + vs.length ≤ m) (h1 : ∀ u ∈ vs, u.oneCell' = true) :
    (storeCells ⟨r, off, none⟩ vs).run P w = .ok () (w.setCells r off vs) := by
  have := run_storeCells_cells (P := P) r off vs 0 w (fun j hj => ?_) (fun j hj => ?_) h1
  · simpa using this
  · have : off + 0 + j < C.size := by omega
    simp [World.cell?, hC]; omega
  · have := hfz (off + 0 + j) (by omega)
    simp only [World.frozen?, hC]
    simpa using this
theorem good_store {t : TypeId} {x y : Operand} {te : TE} {id off : Nat} {cs : List V} {more : Bool} {v : V} (TO : TabOk P tab) (ho : o.op = .store t x y) (ht : tlook tab t = some te) (hx : ev e x = some (.ptr id off)) (hb : h.get id = some (.cells cs more)) (hy : ev e y = some v)
    (h1 : (cellsV v).all one = true) (hs : Nat.beq (cellsV v).length te.size = true) (hle : Nat.ble (off + te.size) cs.length = true) : Good P o e n h lo (.sc undef, n, h.set id (.cells (setW cs off (cellsV v)) more), lmin id lo) :=
  good_write hb fun ι a w r m H E hi hB => by
    obtain ⟨C, tt, fz, hC, hfz, hsz, hle2, hmo, hl⟩ := hB
    have hau := ptr_inv (ev_rel E hx) hi
    have hyr := cells_rel (ev_rel E hy)
    have hs := Nat.eq_of_beq_eq_true hs
    have hle := Nat.le_of_ble_eq_true hle
    have hrun := run_storeV (P := P) (off := off) hC hfz hsz (a.eval y).cells.toList (by rw [hyr.1]; omega) (all_one hyr h1)
    obtain ⟨g1, g2, g3, g4, g5, g6⟩ := setCells_spec (a.eval y).cells.toList off C w hC (by rw [hyr.1]; omega)
    refine ⟨undef, _, .inr ⟨rfl, ?_⟩, .sc _, g4, g5, g6, by rw [g3]; exact Nat.le_refl _, g2, brel_set hC hfz hsz hle2 hmo hl hyr (by omega)⟩
    have e1 : (a.eval y).cells.size = te.size := by rw [← Array.length_toList, hyr.1]; exact hs
    simp [execOp, ho, Instr.storeAt, Instr.sureAddr, hau, storeVar, (TO t te ht).size, e1, hrun]
theorem good_fieldAddr {t : TypeId} {x : Operand} {f off ft id o1 : Nat} {te te' : TE} {fs : List (Nat × TypeId)} {b : B} (TO : TabOk P tab) (ho : o.op = .fieldAddr t x f) (ht : tlook tab t = some te) (hs : te.sh = .st fs) (hf : fs[f]? = some (off, ft))
    (hft : tlook tab ft = some te') (hz : Nat.beq te'.size 0 = false) (hx : ev e x = some (.ptr id o1)) (hb : h.get id = some b) : Good P o e n h lo (.ptr id (o1 + off), n, h, lo) :=
  good_value fun ι a w H E => by
    obtain ⟨r, m, hi, _⟩ := H.blk id _ hb
    have hau := ptr_inv (ev_rel E hx) hi
    exact ⟨_, .ptr id (o1 + off) r m hi, by simp [execOp, ho, hau, Ab.run_fieldAt w (TO t te ht) hs hf (TO ft te' hft) hz]⟩
theorem good_indexAddr {t : TypeId} {x y : Operand} {te te' : TE} {el : TypeId} {id off len k : Nat} {cap : Option Nat} {q : IntKind} {i : Int} (TO : TabOk P tab) (ho : o.op = .indexAddr t x y) (ht : tlook tab t = some te) (hs : te.sh = .sl el)
    (hel : tlook tab el = some te') (hx : ev e x = some (.sl id off len k cap)) (hy : ev e y = some (.sc (.int q i))) (hi : 0 ≤ i ∧ i < len) : Good P o e n h lo (.ptr id (off + i.toNat * te'.size), n, h, lo) :=
  good_value fun ι a w H E => by
    have hv := ev_rel E hx
    have hk := tv_rel (ev_rel E hy) _ rfl
    have hu := (TO t te ht).slice hs
    generalize hau : a.eval x = u at hv
    cases hv with
    | sl _ _ _ _ c r m h1 => exact ⟨_, .ptr id _ r m h1, by simp [execOp, ho, hau, hk, Ab.run_indexAt w hu (TO el te' hel) r off len c q i hi]⟩
    | slu _ _ _ _ c r m h1 => exact ⟨_, .ptr id _ r m h1, by simp [execOp, ho, hau, hk, Ab.run_indexAt w hu (TO el te' hel) r off len c q i hi]⟩
theorem good_indexArr {t : TypeId} {x y : Operand} {te te' : TE} {el N : Nat} {id off : Nat} {b : B} {q : IntKind} {i : Int} (TO : TabOk P tab) (ho : o.op = .indexAddr t x y) (ht : tlook tab t = some te) (hs : te.sh = .ar N el)
    (hel : tlook tab el = some te') (hx : ev e x = some (.ptr id off)) (hb : h.get id = some b) (hy : ev e y = some (.sc (.int q i))) (hi : 0 ≤ i ∧ i < N) : Good P o e n h lo (.ptr id (off + i.toNat * te'.size), n, h, lo) :=
  good_value fun ι a w H E => by
    obtain ⟨r, m, hri, _⟩ := H.blk id _ hb
    have hau := ptr_inv (ev_rel E hx) hri
    have hk := tv_rel (ev_rel E hy) _ rfl
    obtain ⟨d, hd, _, hh⟩ := (TO t te ht).und
    rw [hs] at hh
    cases hh
    exact ⟨_, .ptr id _ r m hri, by simp [execOp, ho, hau, hk, Instr.indexAt, asIntOf, run_underlying hd, Instr.sureAddr, hi, (TO el te' hel).size, Addr.add_mid]⟩
theorem good_index {t : TypeId} {x y : Operand} {te te' : TE} {el N : Nat} {cs : List V} {q : IntKind} {i : Int} {v : V} (TO : TabOk P tab) (ho : o.op = .index t x y) (ht : tlook tab t = some te) (hs : te.sh = .ar N el)
    (hel : tlook tab el = some te') (hx : ev e x = some (.agg cs)) (hy : ev e y = some (.sc (.int q i))) (hi : 0 ≤ i ∧ i < N) (hw : whole te' (win cs (i.toNat * te'.size) te'.size) = some v) : Good P o e n h lo (v, n, h, lo) :=
  good_value fun ι a w H E => by
    have hv := ev_rel E hx
    have hk := tv_rel (ev_rel E hy) _ rfl
    obtain ⟨d, hd, _, hh⟩ := (TO t te ht).und
    rw [hs] at hh
    cases hh
    generalize hau : a.eval x = u at hv
    cases hv with
    | agg _ C hl hr =>
      obtain ⟨u, h1, h2⟩ := part_good (ι := ι) (TO el te' hel) (cs := cs) (C := C) (off := i.toNat * te'.size) ⟨by simpa using hl, fun i c u a b => hr i c u a (by simpa using b)⟩ hw w
      exact ⟨u, h1, by simp [execOp, ho, hau, hk, Instr.index, asIntOf, run_underlying hd, hi, (TO el te' hel).size, h2]⟩

/-! New blocks -/
theorem alloc_facts (w : World) (x : Obj) : (w.alloc x).os = w.os ∧ (w.alloc x).tape = w.tape ∧ (w.alloc x).output = w.output ∧ w.heap.size < (w.alloc x).heap.size ∧ (∀ r, r < w.heap.size → (w.alloc x).heap[r]? = w.heap[r]?) ∧ (w.alloc x).heap[w.heap.size]? = some x :=
  ⟨rfl, rfl, rfl, by simp, fun r hr => Below.heap_alloc w x r hr, heap_alloc_new w x⟩
theorem brel_new {ι : Io} {w : World} {r : Nat} {C : Array Value} {t : TypeId} {cs : List V} (hC : w.heap[r]? = some (.cells C t (0, 0))) (hl : LRel ι cs C.toList) : BRel ι w (.cells cs false) r C.size :=
  ⟨C, t, (0, 0), hC, fun j _ h => by dsimp only at h; omega, rfl, by rw [← hl.1]; simp, fun _ => by rw [← hl.1]; simp, by rw [← hl.1, List.take_length]; exact hl⟩
theorem good_alloc {t : TypeId} {te : TE} (TO : TabOk P tab) (ho : o.op = .alloc t) (ht : tlook tab t = some te) : Good P o e n h lo (.ptr n 0, n + 1, h.set n (.cells (te.zero.map .sc) false), lo) :=
  good_new fun ι a w H E h0 => by
    obtain ⟨z, hz1, hz2, _⟩ := (TO t te ht).zero w
    obtain ⟨f1, f2, f3, f4, f5, f6⟩ := alloc_facts w (.cells z.cells t)
    refine ⟨.pointer (some ⟨w.heap.size, 0, none⟩), _, w.alloc (.cells z.cells t), z.cells.size, by simp [execOp, ho, Instr.alloc, hz1, newVar, newRow, newObj, Sem.run], f1, f2, f3, f4, f5, f6, fun ι' hle hi => ⟨.ptr n 0 _ _ hi, brel_new f6 ?_⟩⟩
    rw [← hz2]; exact LRel.scs _
theorem good_box {t : TypeId} {x : Operand} {v : V} (ho : o.op = .box t x) (hx : ev e x = some v) : Good P o e n h lo (.ptr n 0, n + 1, h.set n (.cells (cellsV v) false), lo) :=
  good_new fun ι a w H E h0 => by
    have hv := cells_rel (ev_rel E hx)
    obtain ⟨f1, f2, f3, f4, f5, f6⟩ := alloc_facts w (.cells (a.eval x).cells t)
    exact ⟨.pointer (some ⟨w.heap.size, 0, none⟩), _, w.alloc (.cells (a.eval x).cells t), (a.eval x).cells.size, by simp [execOp, ho, Instr.box, newVar, newRow, newObj, Sem.run], f1, f2, f3, f4, f5, f6, fun ι' hle hi => ⟨.ptr n 0 _ _ hi, brel_new f6 (hv.mono hle)⟩⟩

/-! Structs and rows built of parts -/
def vfill (place : Nat → Option (Nat × Nat)) (cells : List V) : List (Nat × V) → Option (List V)
  | [] => some cells
  | (i, c) :: r => match place i with
    | some (off, size) => cond (Nat.beq (cellsV c).length size && Nat.ble (off + (cellsV c).length) cells.length) (vfill place (setW cells off (cellsV c)) r) none
    | none => none
def vparts (e : Ev) : List (Nat × Operand) → Option (List (Nat × V))
  | [] => some []
  | (i, x) :: r => match ev e x with
    | some c => match vparts e r with
      | some l => some ((i, c) :: l)
      | none => none
    | none => none
theorem vfill_len {place : Nat → Option (Nat × Nat)} : ∀ (al : List (Nat × V)) (cells xs : List V), vfill place cells al = some xs → xs.length = cells.length
  | [], cells, xs, h => by cases h; rfl
  | (i, c) :: r, cells, xs, h => by
    rw [vfill] at h
    split at h
    · rename_i off size hp
      cases hb : Nat.beq (cellsV c).length size && Nat.ble (off + (cellsV c).length) cells.length with
      | false => rw [hb] at h; cases h
      | true =>
        rw [hb] at h
        have := vfill_len r _ _ h
        have hl := Nat.le_of_ble_eq_true (by simp only [Bool.and_eq_true] at hb; exact hb.2)
        rw [this]; simp [Ab.setW]; omega
    · cases h
theorem vfill_rel {ι : Io} {a : Act} (E : ERel ι e a) (place : Nat → Option (Nat × Nat)) : ∀ (l : List (Nat × Operand)) (al : List (Nat × V)) (cells : List V) (C : Array Value) (xs : List V),
    vparts e l = some al → vfill place cells al = some xs → LRel ι cells C.toList → ∃ C', Instr.fill place C (l.map fun p => (p.1, a.eval p.2)) = some C' ∧ LRel ι xs C'.toList
  | [], al, cells, C, xs, h1, h2, h3 => by cases h1; cases h2; exact ⟨C, rfl, h3⟩
  | (i, x) :: l, al, cells, C, xs, h1, h2, h3 => by
    rw [vparts] at h1
    cases hx : ev e x with
    | none => simp [hx] at h1
    | some c =>
      cases hr : vparts e l with
      | none => simp [hx, hr] at h1
      | some al' =>
        simp [hx, hr] at h1
        subst h1
        rw [vfill] at h2
        cases hp : place i with
        | none => simp [hp] at h2
        | some q =>
          obtain ⟨off, size⟩ := q
          simp only [hp] at h2
          cases hb : Nat.beq (cellsV c).length size && Nat.ble (off + (cellsV c).length) cells.length with
          | false => rw [hb] at h2; cases h2
          | true =>
            rw [hb, cond_true] at h2
            simp only [Bool.and_eq_true] at hb
            have hs := Nat.eq_of_beq_eq_true hb.1
            have hl := Nat.le_of_ble_eq_true hb.2
            have hc := cells_rel (ev_rel E hx)
            have hcl : (a.eval x).cells.toList.length = (cellsV c).length := hc.1
            obtain ⟨f1, f2⟩ := Ab.foldl_set off (a.eval x).cells.toList 0 C
            have h31 := h3.1
            have hstep : (((a.eval x).cells.toList.zipIdx 0).foldl (fun cs (c, j) => cs.setIfInBounds (off + j) c) C).toList = setW C.toList off (a.eval x).cells.toList := by
              apply List.ext_getElem?
              intro j
              rw [Array.getElem?_toList, f2, setW_get (by rw [hcl, h31]; exact hl), hcl]
              simp only [Nat.add_zero]
              by_cases hin : off ≤ j ∧ j < off + (cellsV c).length
              · rw [if_pos (by simp at h31; omega), if_pos hin]
              · rw [if_neg (by omega), if_neg hin, Array.getElem?_toList]
            obtain ⟨C', g1, g2⟩ := vfill_rel E place l al' (setW cells off (cellsV c)) (((a.eval x).cells.toList.zipIdx 0).foldl (fun cs (c, j) => cs.setIfInBounds (off + j) c) C) xs hr h2 (by rw [hstep]; exact h3.setW hc off)
            refine ⟨C', ?_, g2⟩
            rw [← g1]
            simp only [List.map_cons, Instr.fill, hp]
            rw [if_neg (by rw [← Array.length_toList, hcl, hs]; simp; simp at h31; omega)]
            congr 1
            rw [← Array.foldl_toList]
            congr 1
            simp [Array.toList_zipIdx]
theorem good_build {t : TypeId} {ps : Array (Nat × Operand)} {te : TE} {fs : List (Nat × TypeId)} {al : List (Nat × V)} {xs : List V} (TO : TabOk P tab) (ho : o.op = .build t ps) (ht : tlook tab t = some te) (hs : te.sh = .st fs) (hfs : fs.all (fun f => (tlook tab f.2).isSome) = true)
    (hal : vparts e ps.toList = some al) (hf : vfill (Ab.stPlace tab fs) (te.zero.map .sc) al = some xs) : Good P o e n h lo (.agg xs, n, h, lo) :=
  good_value fun ι a w H E => by
    obtain ⟨FF, hu, hF⟩ := (TO t te ht).struct hs
    obtain ⟨z, _, hz2, i, hi, hz3, _⟩ := (TO t te ht).zero w
    obtain ⟨C', g1, g2⟩ := vfill_rel E (Ab.stPlace tab fs) ps.toList al _ z.cells xs hal hf (by rw [← hz2]; exact LRel.scs _)
    refine ⟨.agg C', VRel.agg' g2, ?_⟩
    have hplaces : (FF.mapM (m := Sem) fun f => Prod.mk f.offset <$> sizeOf f.type).run P w = .ok (FF.map fun f => (f.offset, P.cellsOf f.type)) w := by
      rw [Array.mapM_eq_mapM_toList]
      have : ∀ (l : List Field), (∀ f ∈ l, (tlook tab f.type).isSome = true) → (l.mapM (m := Sem) fun f => Prod.mk f.offset <$> sizeOf f.type).run P w = .ok (l.map fun f => (f.offset, P.cellsOf f.type)) w := by
        intro l
        induction l with
        | nil => intro _; rfl
        | cons f l ih =>
          intro hl
          obtain ⟨te', hte'⟩ := Option.isSome_iff_exists.1 (hl f (by simp))
          have h1 := (TO _ _ hte').size w
          have h2 := ih fun g hg => hl g (by simp [hg])
          rw [List.mapM_cons]
          simp [h1, h2, (TO _ _ hte').cellsOf]
      have h1 := this FF.toList fun f hf => by
        have := List.all_eq_true.1 hfs (f.offset, f.type) (by rw [← hF]; exact List.mem_map.2 ⟨f, hf, rfl⟩)
        exact this
      simp [h1, ← Array.toList_map]
    have hpl : (fun i => (FF.map fun f => (f.offset, P.cellsOf f.type))[i]?) = Ab.stPlace tab fs := by
      funext i
      unfold Ab.stPlace
      rw [← hF, List.getElem?_map, Array.getElem?_toList, Array.getElem?_map]
      cases hfi : FF[i]? with
      | none => rfl
      | some f =>
        have := List.all_eq_true.1 hfs (f.offset, f.type) (by rw [← hF]; exact List.mem_map.2 ⟨f, Array.mem_toList_iff.2 (Array.mem_of_getElem? hfi), rfl⟩)
        obtain ⟨te', hte'⟩ := Option.isSome_iff_exists.1 this
        dsimp only at hte'
        simp [hte', (TO _ _ hte').cellsOf]
    have hfill : Instr.fill (fun x => Option.map (fun f => (f.offset, P.cellsOf f.type)) FF[x]?) z.cells (ps.toList.map fun p => (p.1, a.eval p.2)) = some C' := by
      rw [← g1, ← hpl]; congr 1; funext x; rw [Array.getElem?_map]
    have hzero : (zeroValue t).run P w = .ok z w := by simp [zeroValue, typeInfo, hi, hz3]
    simp only [execOp, ho]
    simp [Instr.build, hzero, run_underlying hu, hplaces, hfill]
theorem good_buildArr {t el N : TypeId} {ps : Array (Nat × Operand)} {te te' : TE} {al : List (Nat × V)} {xs : List V} (TO : TabOk P tab) (ho : o.op = .build t ps) (ht : tlook tab t = some te) (hs : te.sh = .ar N el) (hel : tlook tab el = some te')
    (hal : vparts e ps.toList = some al) (hf : vfill (fun i => some (i * te'.size, te'.size)) (te.zero.map .sc) al = some xs) : Good P o e n h lo (.agg xs, n, h, lo) :=
  good_value fun ι a w H E => by
    obtain ⟨d, hd, _, hh⟩ := (TO t te ht).und
    rw [hs] at hh
    cases hh
    obtain ⟨z, _, hz2, i, hi, hz3, _⟩ := (TO t te ht).zero w
    obtain ⟨C', g1, g2⟩ := vfill_rel E (fun i => some (i * te'.size, te'.size)) ps.toList al _ z.cells xs hal hf (by rw [← hz2]; exact LRel.scs _)
    refine ⟨.agg C', VRel.agg' g2, ?_⟩
    have hzero : (zeroValue t).run P w = .ok z w := by simp [zeroValue, typeInfo, hi, hz3]
    simp only [execOp, ho]
    simp [Instr.build, hzero, run_underlying hd, (TO el te' hel).size, g1]
/-- So many zeros. -/
def zs (te : TE) (k : Nat) : List Value := (List.range (k * te.size)).map fun j => te.zero.getD (j % te.size) undef
theorem zs_eq {te : TE} {z : Value} (hz : z.cells.toList = te.zero) (hk : te.zero.length = te.size) (k : Nat) : ((Array.range (k * te.size)).map (fun j => z.cells[j % z.cells.size]!)).toList = zs te k := by
  have hzl : z.cells.size = te.size := by rw [← Array.length_toList, hz, hk]
  unfold zs
  rw [Array.toList_map, Array.toList_range]
  apply List.map_congr_left
  intro j hj
  have hj := List.mem_range.1 hj
  have hk : 0 < te.size := by rcases Nat.eq_zero_or_pos te.size with h | h; · rw [h] at hj; simp at hj
                              · exact h
  have hlt : j % te.size < z.cells.size := by rw [hzl]; exact Nat.mod_lt _ hk
  rw [hzl, getElem!_pos z.cells _ hlt, ← hz]
  simp [List.getD, hlt]
theorem good_buildSlice {t el : TypeId} {ps : Array (Nat × Operand)} {len : Nat} {te te' : TE} {al : List (Nat × V)} {xs : List V} (TO : TabOk P tab) (ho : o.op = .buildSlice t len ps) (ht : tlook tab t = some te) (hs : te.sh = .sl el)
    (hel : tlook tab el = some te') (hk2 : Nat.beq te'.zero.length te'.size = true) (hlen : Nat.blt (len * te'.size) 16777216 = true) (hal : vparts e ps.toList = some al)
    (hf : vfill (fun i => some (i * te'.size, te'.size)) ((zs te' len).map .sc) al = some xs) : Good P o e n h lo (.sl n 0 len te'.size (some len), n + 1, h.set n (.cells xs false), lo) :=
  good_new fun ι a w H E h0 => by
    have hu := (TO t te ht).slice hs
    obtain ⟨z, hz1, hz2, _⟩ := (TO el te' hel).zero w
    have hk2 := Nat.eq_of_beq_eq_true hk2
    have hlen : len * te'.size < 16777216 := by simp [Nat.blt] at hlen; omega
    have hzl : z.cells.size = te'.size := by rw [← Array.length_toList, hz2, hk2]
    obtain ⟨C', g1, g2⟩ := vfill_rel E (fun i => some (i * te'.size, te'.size)) ps.toList al _ ((Array.range (len * te'.size)).map (fun j => z.cells[j % z.cells.size]!)) xs hal hf (by rw [zs_eq hz2 hk2]; exact LRel.scs _)
    obtain ⟨f1, f2, f3, f4, f5, f6⟩ := alloc_facts w (.cells C' el)
    refine ⟨.slice (some ⟨w.heap.size, 0, none⟩) len len, _, w.alloc (.cells C' el), C'.size, ?_, f1, f2, f3, f4, f5, f6, fun ι' hle hi => ⟨.sl n 0 len te'.size len _ _ hi, brel_new f6 (g2.mono hle)⟩⟩
    simp only [execOp, ho]
    have hn : ¬ (16777216 < len * te'.size) := by omega
    by_cases h00 : len * te'.size = 0
    · have hr0 : Array.range (len * te'.size) = #[] := Array.eq_empty_of_size_eq_zero (by simpa using h00)
      rw [hr0, Array.map_empty] at g1
      simp [Instr.buildSlice, run_underlying hu, (TO el te' hel).size, hn]
      rw [if_pos h00]
      simp only [Sem.run_pure, Result.andThen_ok, hr0, Array.map_empty]
      have g1' : Instr.fill (fun i => some (i * te'.size, te'.size)) #[] (List.map (fun x => (x.fst, a.eval x.snd)) ps.toList) = some C' := g1
      simp [g1', newRow, newObj, Sem.run]
    · simp [Instr.buildSlice, run_underlying hu, (TO el te' hel).size, hz1, hn]
      rw [if_neg h00]
      rw [show Instr.fill (fun i => some (i * te'.size, te'.size)) _ _ = some C' from g1]
      simp [newRow, newObj, Sem.run]
end
end Go.Proofs.Ytplgpbadpdmeeaa.Rn

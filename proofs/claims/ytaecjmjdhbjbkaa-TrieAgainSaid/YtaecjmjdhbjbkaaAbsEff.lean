/-
  The operations over abstract states: those that make or write memory; calls.
-/
import Derived.Test.YtaecjmjdhbjbkaaAbsOps
import Derived.Laws.Build
import Derived.Laws.CopyRow
namespace Go.Proofs.Ytaecjmjdhbjbkaa.Ab
set_option linter.unusedVariables false
open Go.RowKit

/-- The cells of a value. -/
def cellsA : AVal → Option (List AVal)
  | .agg cs => some cs
  | .top => none
  | .und => none
  | .tup _ => none
  | c => some [c]
theorem one_of {w : World} {F : Nat → Prop} {ι : Nat → Option Value} {c : AVal} {u : Value} (h : VRel w F ι c u) (hc : cellsA c = some [c]) : u.oneCell' = true := by
  cases h with
  | top => cases hc
  | und => cases hc
  | d _ _ hd => cases hd <;> first | assumption | rfl
  | agg cs C hl h =>
    cases cs with
    | nil => cases hc
    | cons a r => injection hc with hc; injection hc with h1 h2; exfalso; have := congrArg SizeOf.sizeOf h1; simp at this; omega
  | tup => cases hc
  | ptr _ _ _ h1 _ => exact h1
  | eptr _ _ _ h1 _ => exact h1
  | iptr => rfl
  | row _ _ h1 _ => exact h1
  | mp _ _ h1 _ => exact h1
  | fn => rfl
  | srow _ _ _ _ h1 _ => exact h1
  | full => rfl
/-- May each of these cells be stored? -/
def plainC : AVal → Bool
  | .agg _ => false
  | .top => false
  | .und => false
  | .tup _ => false
  | _ => true
theorem cellsA_plain {c : AVal} (h : plainC c = true) : cellsA c = some [c] := by cases c <;> simp [plainC] at h <;> rfl
theorem cells_rel {w : World} {F : Nat → Prop} {ι : Nat → Option Value} {c : AVal} {u : Value} (h : VRel w F ι c u) {cs : List AVal} (hc : cellsA c = some cs) :
    u.cells.size = cs.length ∧ ∀ (i : Nat) (c : AVal) (v : Value), cs[i]? = some c → u.cells[i]? = some v → VRel w F ι c v := by
  have one : cellsA c = some [c] → (∀ C, u ≠ .agg C) → u.cells.size = cs.length ∧ ∀ (i : Nat) (c : AVal) (v : Value), cs[i]? = some c → u.cells[i]? = some v → VRel w F ι c v := fun h1 h2 => by
    rw [h1] at hc; cases hc
    have : u.cells = #[u] := by cases u <;> first | rfl | exact absurd rfl (h2 _)
    rw [this]
    refine ⟨rfl, fun i c' v h3 h4 => ?_⟩
    cases i with
    | zero => simp at h3 h4; subst h3 h4; exact h
    | succ i => simp at h3
  have agg1 : u.oneCell' = true → ∀ C, u ≠ .agg C := fun h1 C h2 => by subst h2; cases h1
  cases h with
  | top => cases hc
  | und => cases hc
  | d _ _ hd => exact one rfl (agg1 (one_of (.d _ _ hd) rfl))
  | agg cs' C hl hh =>
    cases hc
    exact ⟨hl, hh⟩
  | tup => cases hc
  | ptr _ _ _ h1 _ => exact one rfl (agg1 h1)
  | eptr _ _ _ h1 _ => exact one rfl (agg1 h1)
  | iptr => exact one rfl (by simp)
  | row _ _ h1 _ => exact one rfl (agg1 h1)
  | mp _ _ h1 _ => exact one rfl (agg1 h1)
  | fn => exact one rfl (by simp)
  | srow _ _ _ _ h1 _ => exact one rfl (agg1 h1)
  | full => exact one rfl (by simp)

section
variable {P : Program} {nt : Nat} {T : List Nat} {e : Env} {h : Heap} {o : Oper} {tab : TTab}

theorem grew_alloc (w : World) (x : Obj) : Grew w (w.alloc x) := ⟨rfl, rfl, rfl, by simp, fun r hr => Below.heap_alloc w x r hr⟩
/-- A new block, by the number id. -/
theorem Rel.new {Pm F : Nat → Prop} {w0 w : World} {pin ι : Nat → Option Value} {a : Act} (R : Rel Pm F w0 pin ι nt e h a w) {id : Nat} (hid : Nat.blt id 1000 = true) {d : Option Tmp} (hd : dstOk nt d = true) (x : Obj) (v : Value) (hv : ∀ r, blockOf v = some r → r = w.heap.size)
    (b : ABlk) (c : AVal) (hb : ∀ ι', ι' = upd ι id (some v) → Ext w F ι (w.alloc x) ι' → BRel (w.alloc x) F ι' b v) (hc : ∀ ι', ι' = upd ι id (some v) → VRel (w.alloc x) F ι' c v) :
    Rel Pm F w0 pin (upd ι id (some v)) nt (aput d c (killE id e)) ((id, b) :: killH id h) (a.put d v) (w.alloc x) ∧ CTo T ι w (upd ι id (some v)) (w.alloc x) := by
  have G := grew_alloc w x
  have TT : Touch w ι id v (w.alloc x) := ⟨G.os, G.tape, G.output, G.size, fun r hr _ => G.mem r hr, fun r hr => .inl (by rw [hv r hr]; exact Nat.le_refl _)⟩
  have hid : id < 1000 := by simp [Nat.blt] at hid; omega
  refine ⟨⟨R.heap.touch TT (.inl hid) (hb _ rfl TT.ext), ?_, by rw [put_defers]; exact R.defers.ext TT.ext, by rw [put_size]; exact R.size⟩, G.ct T, fun j _ u r hj hr hlt => ?_⟩
  · exact (R.env.killed TT.ext).aput hd R.size (hc _ rfl)
  · unfold upd at hj
    split at hj
    · cases hj; rw [hv r hr] at hlt; omega
    · exact ⟨u, hj, hr⟩

theorem heap_new (w : World) (x : Obj) : (w.alloc x).heap[w.heap.size]? = some x := heap_alloc_new w x
theorem E_alloc {t : TypeId} {te : TE} {d : Option Tmp} {id : Nat} (TO : TabOk P tab) (ho : o.op = .alloc t) (hdst : o.dst = d) (ht : tlook tab t = some te) (hid : Nat.blt id 1000 = true) (hd : dstOk nt d = true) (hz : te.zero.all (·.oneCell') = true) :
    AEff P nt T e h o (fun e' h' => e' = aput d (.ptr id 0) (killE id e) ∧ h' = (id, .var (te.zero.map fun v => .d (.sc v))) :: killH id h) := fun Pm F w0 pin ι a w R K Qx hK => by
  obtain ⟨z, hz1, hz2, _⟩ := (TO t te ht).zero w
  have hb : ∀ ι', ι' = upd ι id (some (.pointer (some ⟨w.heap.size, 0, none⟩))) → Ext w F ι (w.alloc (.cells z.cells t)) ι' → BRel (w.alloc (.cells z.cells t)) F ι' (.var (te.zero.map fun v => .d (.sc v))) (.pointer (some ⟨w.heap.size, 0, none⟩)) := by
    intro ι' _ _
    refine ⟨_, z.cells, t, rfl, heap_new _ _, by simp [← hz2], fun i c u h1 h2 => ?_⟩
    rw [List.getElem?_map, ← hz2, Array.getElem?_toList, h2] at h1
    cases h1
    refine sc_rel ?_
    exact List.all_eq_true.1 hz u (by rw [← hz2]; exact List.mem_of_getElem? (by rw [Array.getElem?_toList]; exact h2))
  obtain ⟨hR, hC⟩ := R.new (T := T) hid hd (.cells z.cells t) (.pointer (some ⟨w.heap.size, 0, none⟩)) (by simp [blockOf]) _ (.ptr id 0) hb fun ι' h1 => .ptr id 0 _ rfl fun v hv => by subst h1; simp [upd] at hv; subst hv; exact ⟨_, rfl, rfl⟩
  have hrun : (execOp a.eval o).run P w = .ok (.value (.pointer (some ⟨w.heap.size, 0, none⟩))) (w.alloc (.cells z.cells t)) := by
    simp [execOp, ho, Instr.alloc, hz1, newVar, newRow, newObj, Sem.run]
  unfold Oper.wp
  rw [hrun, Oper.upon_value, hdst]
  exact hK _ _ _ _ _ ⟨rfl, rfl⟩ hR hC (put_defers _ _ _)
theorem E_box {t : TypeId} {x : Operand} {d : Option Tmp} {id : Nat} {c : AVal} {cs : List AVal} (ho : o.op = .box t x) (hdst : o.dst = d) (hx : aev e x = some c) (hcs : cellsA c = some cs) (hid : Nat.blt id 1000 = true) (hd : dstOk nt d = true) :
    AEff P nt T e h o (fun e' h' => e' = aput d (.ptr id 0) (killE id e) ∧ h' = (id, .var (cs.map (killV id))) :: killH id h) := fun Pm F w0 pin ι a w R K Qx hK => by
  have hv := aev_rel R.env hx
  obtain ⟨hsz, hcr⟩ := cells_rel hv hcs
  have hb : ∀ ι', ι' = upd ι id (some (.pointer (some ⟨w.heap.size, 0, none⟩))) → Ext w F ι (w.alloc (.cells (a.eval x).cells t)) ι' → BRel (w.alloc (.cells (a.eval x).cells t)) F ι' (.var (cs.map (killV id))) (.pointer (some ⟨w.heap.size, 0, none⟩)) := by
    intro ι' h0 he
    refine ⟨_, _, t, rfl, heap_new _ _, by simpa using hsz, fun i c' u h1 h2 => ?_⟩
    rw [List.getElem?_map] at h1
    cases h3 : cs[i]? with
    | none => simp [h3] at h1
    | some c0 => simp [h3] at h1; subst h1; subst h0; exact (hcr i c0 u h3 h2).killed he
  obtain ⟨hR, hC⟩ := R.new (T := T) hid hd (.cells (a.eval x).cells t) (.pointer (some ⟨w.heap.size, 0, none⟩)) (by simp [blockOf]) _ (.ptr id 0) hb fun ι' h1 => .ptr id 0 _ rfl fun v hv => by subst h1; simp [upd] at hv; subst hv; exact ⟨_, rfl, rfl⟩
  have hrun : (execOp a.eval o).run P w = .ok (.value (.pointer (some ⟨w.heap.size, 0, none⟩))) (w.alloc (.cells (a.eval x).cells t)) := by
    simp [execOp, ho, Instr.box, newVar, newRow, newObj, Sem.run]
  unfold Oper.wp
  rw [hrun, Oper.upon_value, hdst]
  exact hK _ _ _ _ _ ⟨rfl, rfl⟩ hR hC (put_defers _ _ _)

/-! Stores -/
def setW {α : Type} (cs : List α) (off : Nat) (xs : List α) : List α := cs.take off ++ xs ++ cs.drop (off + xs.length)
theorem setW_get {α : Type} {cs xs : List α} {off i : Nat} (hl : off + xs.length ≤ cs.length) : (setW cs off xs)[i]? = if off ≤ i ∧ i < off + xs.length then xs[i - off]? else cs[i]? := by
  unfold setW
  rw [List.append_assoc, List.getElem?_append, List.length_take, Nat.min_eq_left (by omega)]
  by_cases h1 : i < off
  · rw [if_pos h1, if_neg (by omega), List.getElem?_take, if_pos h1]
  · rw [if_neg h1, List.getElem?_append]
    by_cases h2 : i - off < xs.length
    · rw [if_pos h2, if_pos (by omega)]
    · rw [if_neg h2, if_neg (by omega), List.getElem?_drop]
      congr 1
      omega
theorem wrote_setRow {w : World} {g : Nat} {C C' : Array Value} {tt : TypeId} (hg : w.heap[g]? = some (.cells C tt (0, 0))) {v : Value} (hv : blockOf v = some g) : Wrote w v (w.setRow g C') ∧ (w.setRow g C').heap[g]? = some (.cells C' tt (0, 0)) := by
  have h1 := setRow_heap w g C C' tt (0, 0) hg
  refine ⟨⟨rfl, rfl, rfl, by simp [World.setRow], fun r hr hne => ?_⟩, h1⟩
  have : g ≠ r := by rintro rfl; exact hne hv
  simp [World.setRow, Array.getElem?_modify, this]
theorem run_storeVar {t : TypeId} {te : TE} {w : World} (Fa : TFacts P t te) {g off : Nat} {C : Array Value} {tt : TypeId} (hg : w.heap[g]? = some (.cells C tt (0, 0))) (v : Value) (hs : v.cells.size = te.size) (hl : off + te.size ≤ C.size) (h1 : ∀ u ∈ v.cells.toList, u.oneCell' = true) :
    (storeVar t ⟨g, off, none⟩ v).run P w = .ok () (w.setRow g (setW C.toList off v.cells.toList).toArray) := by
  have := run_storeCells_at (P := P) g off tt v.cells.toList 0 C w hg (by simpa [hs] using hl) h1
  simp [storeVar, Fa.size, hs, this, setW]
theorem E_store_ptr {t : TypeId} {x y : Operand} {d : Option Tmp} {te : TE} {id off : Nat} {cs xs ys : List AVal} {c : AVal} (TO : TabOk P tab) (ho : o.op = .store t x y) (hdst : o.dst = d) (ht : tlook tab t = some te) (hx : aev e x = some (.ptr id off)) (hb : look h id = some (.var cs))
    (hy : aev e y = some c) (hcs : cellsA c = some xs) (hp : xs.all plainC = true) (hl : Nat.beq xs.length te.size = true) (hle : Nat.ble (off + te.size) cs.length = true) (hys : setW cs off xs = ys) (hd : dstOk nt d = true) (hT : T.contains id = true) :
    AEff P nt T e h o (fun e' h' => e' = aput d .und e ∧ h' = (id, .var ys) :: h) := fun Pm F w0 pin ι a w R K Qx hK => by
  obtain ⟨v, hv, g, C, tt, rfl, hC, hlC, hr⟩ := R.heap.blk id _ hb
  have hrel := aev_rel R.env hx
  have hyr := aev_rel R.env hy
  obtain ⟨hsz, hcr⟩ := cells_rel hyr hcs
  have hl := Nat.eq_of_beq_eq_true hl
  have hle := Nat.le_of_ble_eq_true hle
  generalize hau : a.eval x = u at hrel
  cases hrel with
  | ptr _ _ _ h1 h2 =>
    obtain ⟨r', h3, rfl⟩ := h2 _ hv
    cases h3
    have hone : ∀ u ∈ (a.eval y).cells.toList, u.oneCell' = true := fun u hu => by
      obtain ⟨i, hi⟩ := List.mem_iff_getElem?.1 hu
      have hlt : i < xs.length := by rw [← hsz, ← Array.length_toList]; exact (List.getElem?_eq_some_iff.1 hi).1
      exact one_of (hcr i xs[i] u (List.getElem?_eq_getElem hlt) (by simpa using hi)) (cellsA_plain (List.all_eq_true.1 hp _ (List.getElem_mem hlt)))
    have hrun := run_storeVar (w := w) (TO t te ht) hC (a.eval y) (by rw [hsz, hl]) (by rw [hlC]; exact hle) hone (off := off)
    obtain ⟨hW, hnew⟩ := wrote_setRow (C' := (setW C.toList off (a.eval y).cells.toList).toArray) hC (v := .pointer (some ⟨g, 0, none⟩)) rfl
    have hlen : (a.eval y).cells.toList.length = xs.length := by simpa using hsz
    unfold Oper.wp
    have hrun2 : (execOp a.eval o).run P w = .ok .skip (w.setRow g (setW C.toList off (a.eval y).cells.toList).toArray) := by
      simp [execOp, ho, Instr.storeAt, Instr.sureAddr, hau, hrun]
    rw [hrun2, Oper.upon_skip, hdst]
    refine hK ι _ _ _ _ ⟨rfl, rfl⟩ ?_ ?_ (put_defers _ _ _)
    · refine ⟨R.heap.wrote hW hv ⟨g, _, tt, rfl, hnew, ?_, fun i c' u h4 h5 => ?_⟩, (R.env.mono fun _ _ _ _ hv' => hv'.wrote hW hv).aput hd R.size .und, by rw [put_defers]; exact R.defers.ext (hW.ext hv), by rw [put_size]; exact R.size⟩
      · subst hys
        have e1 := hlC
        simp [setW, hsz]
        omega
      · subst hys
        rw [setW_get (by omega)] at h4
        rw [List.getElem?_toArray, setW_get (by rw [hlen]; simp; omega), hlen] at h5
        split at h4
        · rename_i hin
          rw [if_pos hin] at h5
          exact (hcr _ _ _ h4 (by simpa using h5)).wrote hW hv
        · rename_i hin
          rw [if_neg hin] at h5
          exact (hr _ _ _ h4 (by simpa using h5)).wrote hW hv
    · exact ⟨⟨hW.os, hW.tape, hW.output, hW.size, fun r hr hne => hW.mem r hr fun hb => hne id (List.contains_iff_mem.1 hT) _ hv hb⟩, fun j _ u r hj hr _ => ⟨u, hj, hr⟩⟩

/-! Structs and rows built of parts -/
def afill (place : Nat → Option (Nat × Nat)) (cells : List AVal) : List (Nat × AVal) → Option (List AVal)
  | [] => some cells
  | (i, c) :: r => match place i, cellsA c with
    | some (off, size), some xs => cond (Nat.beq xs.length size && Nat.ble (off + xs.length) cells.length) (afill place (setW cells off xs) r) none
    | _, _ => none
/-- A function's value that holds nothing is data. -/
def dat0 : AVal → AVal
  | .fn f [] => .d (.sc (.func (.func f) #[] #[]))
  | c => c
theorem dat0_rel {w : World} {F : Nat → Prop} {ι : Nat → Option Value} {c : AVal} {u : Value} (h : VRel w F ι c u) : VRel w F ι (dat0 c) u := by
  cases h with
  | fn f cs C hl hh =>
    cases cs with
    | nil =>
      have : C = #[] := Array.eq_empty_of_size_eq_zero hl
      subst this
      exact .d _ _ (.sc _ rfl)
    | cons c cs => exact .fn f (c :: cs) C hl hh
  | _ => constructor <;> assumption
def aparts (e : Env) : List (Nat × Operand) → Option (List (Nat × AVal))
  | [] => some []
  | (i, x) :: r => match aev e x, aparts e r with
    | some c, some l => some ((i, dat0 c) :: l)
    | _, _ => none
theorem foldl_set (off : Nat) : ∀ (xs : List Value) (k : Nat) (C : Array Value), ((xs.zipIdx k).foldl (fun cs (c, j) => cs.setIfInBounds (off + j) c) C).size = C.size ∧
    ∀ i : Nat, ((xs.zipIdx k).foldl (fun cs (c, j) => cs.setIfInBounds (off + j) c) C)[i]? = if off + k ≤ i ∧ i < off + k + xs.length ∧ i < C.size then xs[i - (off + k)]? else C[i]?
  | [], k, C => ⟨rfl, fun i => by rw [if_neg (by simp; omega)]; rfl⟩
  | x :: xs, k, C => by
    obtain ⟨h1, h2⟩ := foldl_set off xs (k + 1) (C.setIfInBounds (off + k) x)
    rw [List.zipIdx_cons, List.foldl_cons]
    refine ⟨by rw [h1]; simp, fun i => ?_⟩
    rw [h2]
    simp only [Array.size_setIfInBounds, List.length_cons]
    by_cases hi : i = off + k
    · subst hi
      rw [if_neg (by omega), Array.getElem?_setIfInBounds_self]
      by_cases hs : off + k < C.size
      · rw [if_pos hs, if_pos (by omega)]; simp
      · rw [if_neg hs, if_neg (by omega), Array.getElem?_eq_none (by omega)]
    · rw [Array.getElem?_setIfInBounds_ne (by omega)]
      by_cases h3 : off + (k + 1) ≤ i ∧ i < off + (k + 1) + xs.length ∧ i < C.size
      · rw [if_pos h3, if_pos (by omega), show i - (off + k) = (i - (off + (k + 1))) + 1 by omega, List.getElem?_cons_succ]
      · rw [if_neg h3, if_neg (by omega)]
theorem afill_rel {w : World} {F : Nat → Prop} {ι : Nat → Option Value} {a : Act} (E : EnvRel w F ι e a) (place : Nat → Option (Nat × Nat)) : ∀ (l : List (Nat × Operand)) (al : List (Nat × AVal)) (cells : List AVal) (C : Array Value) (xs : List AVal),
    aparts e l = some al → afill place cells al = some xs → C.size = cells.length → (∀ (i : Nat) (c : AVal) (u : Value), cells[i]? = some c → C[i]? = some u → VRel w F ι c u) →
    ∃ C', Instr.fill place C (l.map fun p => (p.1, a.eval p.2)) = some C' ∧ C'.size = xs.length ∧ ∀ (i : Nat) (c : AVal) (u : Value), xs[i]? = some c → C'[i]? = some u → VRel w F ι c u
  | [], al, cells, C, xs, h1, h2, h3, h4 => by
    cases h1; cases h2; exact ⟨C, rfl, h3, h4⟩
  | (i, x) :: l, al, cells, C, xs, h1, h2, h3, h4 => by
    rw [aparts] at h1
    cases hx : aev e x with
    | none => simp [hx] at h1
    | some c =>
      cases hr : aparts e l with
      | none => simp [hx, hr] at h1
      | some al' =>
        simp [hx, hr] at h1
        subst h1
        have hd := dat0_rel (aev_rel E hx)
        generalize dat0 c = c at h2 hd
        rw [afill] at h2
        cases hp : place i with
        | none => simp [hp] at h2
        | some q =>
          obtain ⟨off, size⟩ := q
          cases hc : cellsA c with
          | none => simp [hp, hc] at h2
          | some ys =>
            simp only [hp, hc] at h2
            cases hb : Nat.beq ys.length size && Nat.ble (off + ys.length) cells.length with
            | false => rw [hb] at h2; cases h2
            | true =>
              rw [hb, cond_true] at h2
              simp only [Bool.and_eq_true] at hb
              have hs := Nat.eq_of_beq_eq_true hb.1
              have hl := Nat.le_of_ble_eq_true hb.2
              obtain ⟨hsz, hcr⟩ := cells_rel hd hc
              obtain ⟨f1, f2⟩ := foldl_set off (a.eval x).cells.toList 0 C
              have hcl : (a.eval x).cells.toList.length = ys.length := by simpa using hsz
              obtain ⟨C', g1, g2, g3⟩ := afill_rel E place l al' (setW cells off ys) (((a.eval x).cells.toList.zipIdx 0).foldl (fun cs (c, j) => cs.setIfInBounds (off + j) c) C) xs hr h2 (by rw [f1, h3]; simp [setW]; omega) fun j c' u h5 h6 => by
                rw [f2, hcl] at h6
                rw [setW_get hl] at h5
                by_cases hin : off ≤ j ∧ j < off + ys.length
                · rw [if_pos hin] at h5
                  rw [if_pos (by omega)] at h6
                  exact hcr _ _ _ h5 (by simpa using h6)
                · rw [if_neg hin] at h5
                  rw [if_neg (by omega)] at h6
                  exact h4 _ _ _ h5 h6
              refine ⟨C', ?_, g2, g3⟩
              rw [← g1]
              simp only [List.map_cons, Instr.fill, hp]
              rw [if_neg (by rw [hsz, h3]; simp; omega)]
              congr 1
              rw [← Array.foldl_toList]
              congr 1
              simp [Array.toList_zipIdx]
def stPlace (tab : TTab) (fs : List (Nat × TypeId)) (i : Nat) : Option (Nat × Nat) := match fs[i]? with
  | some (off, t) => match tlook tab t with
    | some te => some (off, te.size)
    | none => none
  | none => none
theorem Y_build {t : TypeId} {ps : Array (Nat × Operand)} {te : TE} {fs : List (Nat × TypeId)} {al : List (Nat × AVal)} {xs : List AVal} (TO : TabOk P tab) (ho : o.op = .build t ps) (ht : tlook tab t = some te) (hs : te.sh = .st fs) (hfs : fs.all (fun f => (tlook tab f.2).isSome) = true)
    (hz : te.zero.all (·.oneCell') = true) (hal : aparts e ps.toList = some al) (hf : afill (stPlace tab fs) (te.zero.map fun v => .d (.sc v)) al = some xs) : AYield P T e h o (.agg xs) := yield_of _ fun w F ι a E => by
  obtain ⟨FF, hu, hF⟩ := (TO t te ht).struct hs
  obtain ⟨z, _, hz2, i, hi, hz3, _⟩ := (TO t te ht).zero w
  obtain ⟨C', g1, g2, g3⟩ := afill_rel E (stPlace tab fs) ps.toList al _ z.cells xs hal hf (by simp [← hz2]) fun i c u h1 h2 => by
    rw [List.getElem?_map, ← hz2, Array.getElem?_toList, h2] at h1
    cases h1
    exact sc_rel (List.all_eq_true.1 hz u (by rw [← hz2]; exact List.mem_of_getElem? (by rw [Array.getElem?_toList]; exact h2)))
  refine ⟨.agg C', .agg xs C' g2 g3, fun w' => ?_⟩
  have hplaces : ∀ w' : World, (FF.mapM (m := Sem) fun f => Prod.mk f.offset <$> sizeOf f.type).run P w' = .ok (FF.map fun f => (f.offset, P.cellsOf f.type)) w' := by
    intro w'
    rw [Array.mapM_eq_mapM_toList]
    have : ∀ (l : List Field), (∀ f ∈ l, (tlook tab f.type).isSome = true) → (l.mapM (m := Sem) fun f => Prod.mk f.offset <$> sizeOf f.type).run P w' = .ok (l.map fun f => (f.offset, P.cellsOf f.type)) w' := by
      intro l
      induction l with
      | nil => intro _; rfl
      | cons f l ih =>
        intro hl
        obtain ⟨te', hte'⟩ := Option.isSome_iff_exists.1 (hl f (by simp))
        have h1 := (TO _ _ hte').size w'
        have h2 := ih fun g hg => hl g (by simp [hg])
        rw [List.mapM_cons]
        simp [h1, h2, (TO _ _ hte').cellsOf]
    have h1 := this FF.toList fun f hf => by
      have := List.all_eq_true.1 hfs (f.offset, f.type) (by rw [← hF]; exact List.mem_map.2 ⟨f, hf, rfl⟩)
      exact this
    simp [h1, ← Array.toList_map]
  have hpl : (fun i => (FF.map fun f => (f.offset, P.cellsOf f.type))[i]?) = stPlace tab fs := by
    funext i
    unfold stPlace
    rw [← hF, List.getElem?_map, Array.getElem?_toList, Array.getElem?_map]
    cases hfi : FF[i]? with
    | none => rfl
    | some f =>
      have := List.all_eq_true.1 hfs (f.offset, f.type) (by rw [← hF]; exact List.mem_map.2 ⟨f, Array.mem_toList_iff.2 (Array.mem_of_getElem? hfi), rfl⟩)
      obtain ⟨te', hte'⟩ := Option.isSome_iff_exists.1 this
      dsimp only at hte'
      simp [hte', (TO _ _ hte').cellsOf]
  have hfill : Instr.fill (fun x => Option.map (fun f => (f.offset, P.cellsOf f.type)) FF[x]?) z.cells (ps.toList.map fun p => (p.1, a.eval p.2)) = some C' := by
    rw [← g1, ← hpl]; congr 1; funext x; rw [Array.getElem?_map]
  have hzero : (zeroValue t).run P w' = .ok z w' := by simp [zeroValue, typeInfo, hi, hz3]
  simp only [execOp, ho]
  simp [Instr.build, hzero, run_underlying hu, hplaces, hfill]

theorem E_buildSlice {t el : TypeId} {ps : Array (Nat × Operand)} {len : Nat} {te te' : TE} {d : Option Tmp} {id : Nat} {al : List (Nat × AVal)} {xs : List AVal} {ds : List Dat} (TO : TabOk P tab) (ho : o.op = .buildSlice t len ps) (hdst : o.dst = d) (ht : tlook tab t = some te) (hs : te.sh = .sl el)
    (hel : tlook tab el = some te') (hz : te'.zero.all (·.oneCell') = true) (hk : Nat.blt 0 te'.size = true) (hk2 : Nat.beq te'.zero.length te'.size = true) (hlen : Nat.blt (len * te'.size) 16777216 = true) (hpos : Nat.blt 0 len = true) (hal : aparts e ps.toList = some al)
    (hf : afill (fun i => some (i * te'.size, te'.size)) ((List.range (len * te'.size)).map fun j => match te'.zero[j % te'.size]? with | some v => .d (.sc v) | none => .top) al = some xs) (hds : xs = ds.map AVal.d) (hid : Nat.blt id 1000 = true) (hd : dstOk nt d = true) :
    AEff P nt T e h o (fun e' h' => e' = aput d (.row id) (killE id e) ∧ h' = (id, .row el te'.size len ds) :: killH id h) := fun Pm F w0 pin ι a w R K Qx hK => by
  have hu := (TO t te ht).slice hs
  obtain ⟨z, hz1, hz2, _⟩ := (TO el te' hel).zero w
  have hzl : z.cells.size = te'.size := by rw [← Array.length_toList, hz2]; exact Nat.eq_of_beq_eq_true hk2
  have hk : 0 < te'.size := by simp [Nat.blt] at hk; omega
  have hlen : len * te'.size < 16777216 := by simp [Nat.blt] at hlen; omega
  have hpos : 0 < len := by simp [Nat.blt] at hpos; omega
  let C0 : Array Value := (Array.range (len * te'.size)).map (z.cells[· % z.cells.size]!)
  have hget : ∀ j, j < len * te'.size → C0[j]? = te'.zero[j % te'.size]? ∧ ∃ v, te'.zero[j % te'.size]? = some v ∧ v.oneCell' = true := by
    intro j hj
    have hlt : j % te'.size < z.cells.size := by rw [hzl]; exact Nat.mod_lt _ hk
    have e1 : te'.zero[j % te'.size]? = some z.cells[j % te'.size] := by rw [← hz2, Array.getElem?_toList, Array.getElem?_eq_getElem hlt]
    refine ⟨?_, z.cells[j % te'.size], e1, List.all_eq_true.1 hz _ (List.mem_of_getElem? e1)⟩
    rw [e1]
    have hlt2 : j % z.cells.size < z.cells.size := by rw [hzl] at hlt ⊢; exact hlt
    simp only [C0, Array.getElem?_map]
    rw [Array.getElem?_range]
    simp only [hj, if_true, Option.map_some]
    rw [getElem!_pos z.cells _ hlt2]
    simp only [hzl]
  obtain ⟨C', g1, g2, g3⟩ := afill_rel R.env (fun i => some (i * te'.size, te'.size)) ps.toList al _ C0 xs hal hf (by simp [C0]) fun j c u h1 h2 => by
    have hj : j < len * te'.size := by have := (Array.getElem?_eq_some_iff.1 h2).1; simpa [C0] using this
    obtain ⟨e1, v, e2, e3⟩ := hget j hj
    rw [List.getElem?_map, List.getElem?_range hj] at h1
    simp only [Option.map_some, e2] at h1
    cases h1
    rw [e1, e2] at h2
    cases h2
    exact sc_rel e3
  have hxl : xs.length = len * te'.size := by
    have : ∀ (al : List (Nat × AVal)) (cells xs : List AVal) (place : Nat → Option (Nat × Nat)), afill place cells al = some xs → xs.length = cells.length := by
      intro al
      induction al with
      | nil => intro cells xs place h; cases h; rfl
      | cons p r ih =>
        intro cells xs place h
        obtain ⟨i, c⟩ := p
        rw [afill] at h
        split at h
        · rename_i off size ys _ _
          cases hb : Nat.beq ys.length size && Nat.ble (off + ys.length) cells.length with
          | false => rw [hb] at h; cases h
          | true =>
            rw [hb] at h
            have := ih _ _ _ h
            have hl := Nat.le_of_ble_eq_true (by simp only [Bool.and_eq_true] at hb; exact hb.2)
            rw [this]; simp [setW]; omega
        · cases h
    rw [this al _ xs _ hf]; simp
  have hb : ∀ ι', ι' = upd ι id (some (.slice (some ⟨w.heap.size, 0, none⟩) len len)) → Ext w F ι (w.alloc (.cells C' el)) ι' → BRel (w.alloc (.cells C' el)) F ι' (.row el te'.size len ds) (.slice (some ⟨w.heap.size, 0, none⟩) len len) := by
    intro ι' h0 he
    have hsz : C'.size = len * te'.size := by rw [g2, hxl]
    refine ⟨C'.toList, ⟨by simp [hsz], .inr ⟨w.heap.size, len, C', rfl, Nat.zero_le _, heap_new _ _, Nat.le_refl _, ?_, hsz, ?_⟩⟩, ?_, ?_⟩
    · have := Nat.le_mul_of_pos_right len hk
      unfold maxLen; omega
    · rw [List.take_of_length_le (by simp [hsz])]
    · subst hds; simpa using g2
    · intro i c u h1 h2
      subst hds
      have := g3 i (.d c) u (by rw [List.getElem?_map, h1]; rfl) (by simpa using h2)
      cases this with
      | d _ _ hd => exact hd.ext he.mem he.free
  obtain ⟨hR, hC⟩ := R.new (T := T) hid hd (.cells C' el) (.slice (some ⟨w.heap.size, 0, none⟩) len len) (by simp [blockOf]) _ (.row id) hb fun ι' h1 => .row id _ rfl fun v hv => by subst h1; simp [upd] at hv; exact hv
  have hrun : (execOp a.eval o).run P w = .ok (.value (.slice (some ⟨w.heap.size, 0, none⟩) len len)) (w.alloc (.cells C' el)) := by
    have hfill : Instr.fill (fun i => some (i * te'.size, te'.size)) C0 (ps.map fun p => (p.1, a.eval p.2)).toList = some C' := by rw [Array.toList_map]; exact g1
    simp only [execOp, ho]
    have h0 : ¬ (len = 0 ∨ te'.size = 0) := by omega
    rw [Array.toList_map] at hfill
    have hn : ¬ (16777216 < len * te'.size) := by omega
    simp [Instr.buildSlice, run_underlying hu, (TO el te' hel).size, hz1, hn]
    rw [show Instr.fill (fun i => some (i * te'.size, te'.size)) _ _ = some C' from hfill]
    simp [newRow, newObj, Sem.run]
    intro h9
    rcases Nat.mul_eq_zero.1 h9 with h9 | h9 <;> omega
  unfold Oper.wp
  rw [hrun, Oper.upon_value, hdst]
  exact hK _ _ _ _ _ ⟨rfl, rfl⟩ hR hC (put_defers _ _ _)
end
end Go.Proofs.Ytaecjmjdhbjbkaa.Ab

/-
  A runner of closed code: slices of slices, append, copy, lengths, functions, interfaces.
-/
import Derived.Test.YtplgpbadpdmeeaaRunMem
namespace Go.Proofs.Ytplgpbadpdmeeaa.Rn
set_option linter.unusedVariables false
open Go.RowKit
open Go.Proofs.Ytplgpbadpdmeeaa.Ab (TE TTab tlook TabOk TFacts win setW setW_get win_get Sh)

theorem blt_lt {a b : Nat} (h : Nat.blt a b = true) : a < b := Nat.le_of_ble_eq_true h
theorem blt_ge {a b : Nat} (h : Nat.blt a b = false) : b ≤ a := by
  rcases Nat.lt_or_ge a b with h1 | h1
  · have : Nat.blt a b = true := Nat.ble_eq_true_of_le h1
    rw [this] at h; cases h
  · exact h1
/-- An optional bound. -/
def bnd (e : Ev) : Option Operand → Option (Option Nat)
  | none => some none
  | some x => match ev e x with
    | some (.sc (.int _ i)) => cond (decide (0 ≤ i)) (some (some i.toNat)) none
    | _ => none
def BRl (b : Option Nat) (v : Option Value) : Prop := match b with
  | none => v = none
  | some l => ∃ q, v = some (.int q (l : Int))
theorem bnd_rel {ι : Io} {e : Ev} {a : Act} (E : ERel ι e a) {x : Option Operand} {b : Option Nat} (h : bnd e x = some b) : BRl b (x.map a.eval) := by
  unfold bnd at h
  split at h
  · cases h; rfl
  · rename_i x
    split at h
    · rename_i q i hx
      cases hi : decide (0 ≤ i) with
      | false => rw [hi] at h; cases h
      | true =>
        rw [hi] at h
        cases h
        refine ⟨q, ?_⟩
        have := of_decide_eq_true hi
        rw [Option.map_some, tv_rel (ev_rel E hx) _ rfl, Int.toNat_of_nonneg this]
    · cases h
def cutV (id off len k : Nat) (cap : Option Nat) (l h m : Option Nat) : Option V :=
  let lv := l.getD 0
  let hv := h.getD len
  match cap, m with
  | some c, none => cond (Nat.ble lv hv && Nat.ble hv c) (some (.sl id (cond (Nat.beq c lv) off (off + lv * k)) (hv - lv) k (some (c - lv)))) none
  | some c, some mv => cond (Nat.ble lv hv && Nat.ble hv mv && Nat.ble mv c && h.isSome) (some (.sl id (cond (Nat.beq mv lv) off (off + lv * k)) (hv - lv) k (some (mv - lv)))) none
  | none, none => cond (Nat.ble lv hv && Nat.ble hv len) (cond (Nat.beq lv 0) (some (.sl id off hv k none)) (cond (Nat.blt lv hv) (some (.sl id (off + lv * k) (hv - lv) k none)) (some .emp))) none
  | none, some mv => cond (Nat.ble lv hv && Nat.ble hv mv && Nat.ble mv len && h.isSome) (some (.sl id (cond (Nat.beq mv lv) off (off + lv * k)) (hv - lv) k (some (mv - lv)))) none
section
variable {P : Program} {tab : TTab} {o : Oper} {e : Ev} {n : Nat} {h : Hp} {lo : Nat}
theorem run_bound {w : World} {q : IntKind} {l y : Nat} {code : BoundsCode} (hl : l ≤ y) : (Instr.sliceBound (.int q (l : Int)) y code).run P w = .ok l w := by
  have h1 : (0 : Int) ≤ (l : Int) ∧ (l : Int) ≤ (y : Int) := by omega
  simp only [Instr.sliceBound, asIntOf, Sem.run_bind, Sem.run_pure, Result.andThen_ok]
  rw [if_pos h1]
  simp
theorem run_bounds {w : World} {isS : Bool} {len c : Nat} {lv hv mv : Option Value} {l h m : Option Nat} (hl : BRl l lv) (hh : BRl h hv) (hm : BRl m mv) (h1 : l.getD 0 ≤ h.getD len) (h2 : h.getD len ≤ m.getD c ∨ h = none) (h3 : m.getD c ≤ c) (h4 : m.isSome = true → h.isSome = true) :
    (Instr.sliceBounds isS len c lv hv mv).run P w = .ok (l.getD 0, h.getD len, m.getD c) w := by
  unfold Instr.sliceBounds
  cases m with
  | none =>
    have : mv = none := hm
    subst this
    cases h with
    | none =>
      have : hv = none := hh
      subst this
      cases l with
      | none => have : lv = none := hl; subst this; simp
      | some l => obtain ⟨q, rfl⟩ := hl; simp at h1; simp [run_bound h1]
    | some hx =>
      obtain ⟨q2, rfl⟩ := hh
      have h2' : hx ≤ c := by rcases h2 with h2 | h2; · simpa using h2
                              · cases h2
      cases l with
      | none => have : lv = none := hl; subst this; simp [run_bound h2']
      | some l => obtain ⟨q, rfl⟩ := hl; simp at h1; simp [run_bound h1, run_bound h2']
  | some mx =>
    obtain ⟨q3, rfl⟩ := hm
    cases h with
    | none => simp at h4
    | some hx =>
      obtain ⟨q2, rfl⟩ := hh
      have h2' : hx ≤ mx := by rcases h2 with h2 | h2; · simpa using h2
                               · cases h2
      have h3' : mx ≤ c := by simpa using h3
      cases l with
      | none => have : lv = none := hl; subst this; simp [run_bound h2', run_bound h3']
      | some l => obtain ⟨q, rfl⟩ := hl; simp at h1; simp [run_bound h1, run_bound h2', run_bound h3']
theorem run_cut {w : World} {t el : TypeId} {te te' : TE} (Ft : TFacts P t te) (hs : te.sh = .sl el) (Fe : TFacts P el te') {r off len c : Nat} {lv hv mv : Option Value} {l h m : Option Nat} (hl : BRl l lv) (hh : BRl h hv) (hm : BRl m mv) (h1 : l.getD 0 ≤ h.getD len) (h2 : h.getD len ≤ m.getD c ∨ h = none) (h3 : m.getD c ≤ c) (h4 : m.isSome = true → h.isSome = true) :
    (Instr.sliceAt t (.slice (some ⟨r, off, none⟩) len c) lv hv mv).run P w = .ok (.slice (some (if m.getD c = l.getD 0 then ⟨r, off, none⟩ else ⟨r, off + l.getD 0 * te'.size, none⟩)) (h.getD len - l.getD 0) (m.getD c - l.getD 0)) w := by
  have hu := Ft.slice hs
  have hb := run_bounds (P := P) (w := w) (isS := true) hl hh hm h1 h2 h3 h4
  simp only [Instr.sliceAt, Instr.slice, Sem.run_bind, run_underlying hu, Result.andThen_ok, hb, Fe.size, Sem.run_pure]
  congr 2
  split <;> simp [Addr.add_mid]
theorem good_cut {t el : TypeId} {x : Operand} {lo' hi mx : Option Operand} {te te' : TE} {id off len k : Nat} {cap : Option Nat} {l hh m : Option Nat} {v : V} (TO : TabOk P tab) (ho : o.op = .slice t x lo' hi mx) (ht : tlook tab t = some te) (hs : te.sh = .sl el)
    (hel : tlook tab el = some te') (hk : Nat.beq te'.size k = true) (hx : ev e x = some (.sl id off len k cap)) (h1 : bnd e lo' = some l) (h2 : bnd e hi = some hh) (h3 : bnd e mx = some m) (hv : cutV id off len k cap l hh m = some v) : Good P o e n h lo (v, n, h, lo) :=
  good_value fun ι a w H E => by
    have hr := ev_rel E hx
    have b1 := bnd_rel E h1
    have b2 := bnd_rel E h2
    have b3 := bnd_rel E h3
    have hk := Nat.eq_of_beq_eq_true hk
    subst hk
    generalize hau : a.eval x = u at hr
    have run : ∀ r c, a.eval x = .slice (some ⟨r, off, none⟩) len c → l.getD 0 ≤ hh.getD len → (hh.getD len ≤ m.getD c ∨ hh = none) → m.getD c ≤ c → (m.isSome = true → hh.isSome = true) →
        (execOp a.eval o).run P w = .ok (.value (.slice (some (if m.getD c = l.getD 0 then ⟨r, off, none⟩ else ⟨r, off + l.getD 0 * te'.size, none⟩)) (hh.getD len - l.getD 0) (m.getD c - l.getD 0))) w := fun r c hau g1 g2 g3 g4 => by
      have := run_cut (w := w) (r := r) (off := off) (TO t te ht) hs (TO el te' hel) b1 b2 b3 g1 g2 g3 g4
      simp only [execOp, ho, hau]
      simp [this]
    unfold cutV at hv
    cases cap with
    | some c =>
      cases hr with
      | sl _ _ _ _ _ r mm hi =>
        cases m with
        | none =>
          dsimp only at hv
          cases hb : Nat.ble (l.getD 0) (hh.getD len) && Nat.ble (hh.getD len) c with
          | false => rw [hb] at hv; cases hv
          | true =>
            rw [hb, cond_true] at hv
            cases hv
            simp only [Bool.and_eq_true, Nat.ble_eq] at hb
            refine ⟨_, ?_, run r c hau hb.1 (.inl (by simpa using hb.2)) (by simp) (by simp)⟩
            simp only [Option.getD_none, beq_dec]
            by_cases hc : c = l.getD 0
            · rw [if_pos hc, decide_eq_true hc]; exact .sl id off _ _ _ r mm hi
            · rw [if_neg hc, decide_eq_false hc]; exact .sl id _ _ _ _ r mm hi
        | some mv =>
          dsimp only at hv
          cases hb : Nat.ble (l.getD 0) (hh.getD len) && Nat.ble (hh.getD len) mv && Nat.ble mv c && hh.isSome with
          | false => rw [hb] at hv; cases hv
          | true =>
            rw [hb, cond_true] at hv
            cases hv
            simp only [Bool.and_eq_true, Nat.ble_eq] at hb
            refine ⟨_, ?_, run r c hau hb.1.1.1 (.inl (by simpa using hb.1.1.2)) (by simpa using hb.1.2) (fun _ => hb.2)⟩
            simp only [Option.getD_some, beq_dec]
            by_cases hc : mv = l.getD 0
            · rw [if_pos hc, decide_eq_true hc]; exact .sl id off _ _ _ r mm hi
            · rw [if_neg hc, decide_eq_false hc]; exact .sl id _ _ _ _ r mm hi
    | none =>
      cases hr with
      | slu _ _ _ _ c r mm hi hcm hlc =>
        cases m with
        | none =>
          dsimp only at hv
          cases hb : Nat.ble (l.getD 0) (hh.getD len) && Nat.ble (hh.getD len) len with
          | false => rw [hb] at hv; cases hv
          | true =>
            rw [hb, cond_true] at hv
            simp only [Bool.and_eq_true, Nat.ble_eq] at hb
            have hrun := run r c hau hb.1 (.inl (by simp; omega)) (by simp) (by simp)
            simp only [Option.getD_none] at hrun
            refine ⟨_, ?_, hrun⟩
            simp only [beq_dec] at hv
            by_cases h0 : l.getD 0 = 0
            · rw [decide_eq_true h0, cond_true] at hv
              cases hv
              rw [h0]
              have : (if c = 0 then (⟨r, off, none⟩ : Addr) else ⟨r, off + 0 * te'.size, none⟩) = ⟨r, off, none⟩ := by split <;> simp
              rw [this]
              exact .slu id off _ _ _ r mm hi (by simpa using hcm) (by omega)
            · rw [decide_eq_false h0, cond_false] at hv
              cases hlt : Nat.blt (l.getD 0) (hh.getD len) with
              | true =>
                rw [hlt, cond_true] at hv
                cases hv
                have hlt : l.getD 0 < hh.getD len := blt_lt hlt
                rw [if_neg (by omega)]
                refine .slu id _ _ _ _ r mm hi ?_ ?_
                · rw [← hcm, Nat.add_assoc, ← Nat.add_mul]
                  congr 2
                  omega
                · omega
              | false =>
                rw [hlt, cond_false] at hv
                cases hv
                have hlt := blt_ge hlt
                rw [show hh.getD len - l.getD 0 = 0 by omega]
                split
                · exact .emp r _ _
                · exact .emp r _ _
        | some mv =>
          dsimp only at hv
          cases hb : Nat.ble (l.getD 0) (hh.getD len) && Nat.ble (hh.getD len) mv && Nat.ble mv len && hh.isSome with
          | false => rw [hb] at hv; cases hv
          | true =>
            rw [hb, cond_true] at hv
            cases hv
            simp only [Bool.and_eq_true, Nat.ble_eq] at hb
            refine ⟨_, ?_, run r c hau hb.1.1.1 (.inl (by simpa using hb.1.1.2)) (by simp; omega) (fun _ => hb.2)⟩
            simp only [Option.getD_some, beq_dec]
            by_cases hc : mv = l.getD 0
            · rw [if_pos hc, decide_eq_true hc]; exact .sl id off _ _ _ r mm hi
            · rw [if_neg hc, decide_eq_false hc]; exact .sl id _ _ _ _ r mm hi
/-- A slice of an array. -/
theorem good_cutArr {t el N : TypeId} {x : Operand} {lo' hi mx : Option Operand} {te te' : TE} {id off : Nat} {b : B} {l hh m : Option Nat} {v : V} (TO : TabOk P tab) (ho : o.op = .slice t x lo' hi mx) (ht : tlook tab t = some te) (hs : te.sh = .ar N el)
    (hel : tlook tab el = some te') (hx : ev e x = some (.ptr id off)) (hb : h.get id = some b) (h1 : bnd e lo' = some l) (h2 : bnd e hi = some hh) (h3 : bnd e mx = some m) (hv : cutV id off N te'.size (some N) l hh m = some v) : Good P o e n h lo (v, n, h, lo) :=
  good_value fun ι a w H E => by
    obtain ⟨r, mm, hi, _⟩ := H.blk id _ hb
    have hau := ptr_inv (ev_rel E hx) hi
    have b1 := bnd_rel E h1
    have b2 := bnd_rel E h2
    have b3 := bnd_rel E h3
    obtain ⟨d, hd, _, hdd⟩ := (TO t te ht).und
    rw [hs] at hdd
    cases hdd
    have run : l.getD 0 ≤ hh.getD N → (hh.getD N ≤ m.getD N ∨ hh = none) → m.getD N ≤ N → (m.isSome = true → hh.isSome = true) →
        (execOp a.eval o).run P w = .ok (.value (.slice (some (if m.getD N = l.getD 0 then ⟨r, off, none⟩ else ⟨r, off + l.getD 0 * te'.size, none⟩)) (hh.getD N - l.getD 0) (m.getD N - l.getD 0))) w := fun g1 g2 g3 g4 => by
      have hbs := run_bounds (P := P) (w := w) (isS := false) b1 b2 b3 g1 g2 g3 g4
      simp only [execOp, ho, hau, Instr.sliceAt, Instr.sureAddr, Sem.run_bind, run_underlying hd, Sem.run_pure, Result.andThen_ok, hbs, (TO el te' hel).size]
      congr 3
      split <;> simp [Addr.add_mid]
    unfold cutV at hv
    cases m with
    | none =>
      dsimp only at hv
      cases hb : Nat.ble (l.getD 0) (hh.getD N) && Nat.ble (hh.getD N) N with
      | false => rw [hb] at hv; cases hv
      | true =>
        rw [hb, cond_true] at hv
        cases hv
        simp only [Bool.and_eq_true, Nat.ble_eq] at hb
        refine ⟨_, ?_, run hb.1 (.inl (by simpa using hb.2)) (by simp) (by simp)⟩
        simp only [Option.getD_none, beq_dec]
        by_cases hc : N = l.getD 0
        · rw [if_pos hc, decide_eq_true hc]; exact .sl id off _ _ _ r mm hi
        · rw [if_neg hc, decide_eq_false hc]; exact .sl id _ _ _ _ r mm hi
    | some mv =>
      dsimp only at hv
      cases hb : Nat.ble (l.getD 0) (hh.getD N) && Nat.ble (hh.getD N) mv && Nat.ble mv N && hh.isSome with
      | false => rw [hb] at hv; cases hv
      | true =>
        rw [hb, cond_true] at hv
        cases hv
        simp only [Bool.and_eq_true, Nat.ble_eq] at hb
        refine ⟨_, ?_, run hb.1.1.1 (.inl (by simpa using hb.1.1.2)) (by simpa using hb.1.2) (fun _ => hb.2)⟩
        simp only [Option.getD_some, beq_dec]
        by_cases hc : mv = l.getD 0
        · rw [if_pos hc, decide_eq_true hc]; exact .sl id off _ _ _ r mm hi
        · rw [if_neg hc, decide_eq_false hc]; exact .sl id _ _ _ _ r mm hi

/-! Lengths, functions, interfaces -/
def lenV (h : Hp) : V → Option Nat
  | .sl _ _ len _ _ => some len
  | .emp => some 0
  | .mp id => match h.get id with
    | some (.map es _) => some es.length
    | _ => none
  | _ => none
def lenFits : V → Option TypeDesc → Bool
  | .sl _ _ _ _ _, some (.slice _) => true
  | .emp, some (.slice _) => true
  | .mp _, some (.map _ _) => true
  | _, _ => false
theorem good_len {t : TypeId} {x : Operand} {v : V} {k : Nat} (ho : o.op = .call { callee := .builtin .len, args := #[x], argTypes := #[t] }) (hx : ev e x = some v) (hf : lenFits v (P.underlying t) = true) (hl : lenV h v = some k) : Good P o e n h lo (.sc (.int .i64 (k : Int)), n, h, lo) :=
  good_value fun ι a w H E => by
    refine ⟨.int .i64 k, .sc _, ?_⟩
    have hv := ev_rel E hx
    cases hd : P.underlying t with
    | none => rw [hd] at hf; unfold lenFits at hf; split at hf <;> simp_all
    | some d =>
      rw [hd] at hf
      unfold lenFits at hf
      generalize hau : a.eval x = u at hv
      split at hf
      · rename_i h2; cases h2; cases hl; cases hv <;> simp [execOp, ho, resolve, invoke, builtin, hau, Builtin.len_, run_underlying hd, goInt]
      · rename_i h2; cases h2; cases hl; cases hv; simp [execOp, ho, resolve, invoke, builtin, hau, Builtin.len_, run_underlying hd, goInt]
      · rename_i h2
        cases h2
        rw [lenV] at hl
        split at hl
        · rename_i es clk hb
          cases hl
          obtain ⟨r, m, hi, E', hE, hEl, _⟩ := H.blk _ _ hb
          cases hv with
          | mp _ r' m' h' =>
            rw [hi] at h'
            cases h'
            have hsz : E'.size = es.length := by simpa using hEl
            have hobj : (getObj r).run P w = .ok (.map E' clk) w := by simp [getObj, Sem.run, hE]
            simp [execOp, ho, resolve, invoke, builtin, hau, Builtin.len_, run_underlying hd, hobj, goInt, hsz]
        · cases hl
      · cases hf
theorem good_cap {t : TypeId} {x : Operand} {id off len k c : Nat} (ho : o.op = .call { callee := .builtin .cap, args := #[x], argTypes := #[t] }) (hx : ev e x = some (.sl id off len k (some c))) (hf : lenFits (.sl id off len k (some c)) (P.underlying t) = true) : Good P o e n h lo (.sc (.int .i64 (c : Int)), n, h, lo) :=
  good_value fun ι a w H E => by
    refine ⟨.int .i64 c, .sc _, ?_⟩
    have hv := ev_rel E hx
    cases hd : P.underlying t with
    | none => rw [hd] at hf; cases hf
    | some d =>
      rw [hd] at hf
      generalize hau : a.eval x = u at hv
      cases d <;> simp [lenFits] at hf
      cases hv
      simp [execOp, ho, resolve, invoke, builtin, hau, Builtin.cap_, run_underlying hd, goInt]
theorem good_makeFunc {f : FuncId} {caps : Array Operand} {cs : List V} (ho : o.op = .makeFunc (.func f) #[] caps) (hc : evs e caps.toList = some cs) : Good P o e n h lo (.fn f cs, n, h, lo) :=
  good_value fun ι a w H E => ⟨.func (.func f) #[] (caps.map a.eval), VRel.fn' (by have := evs_rel E hc; simpa using this), by simp [execOp, ho, Instr.makeFunc]⟩
def noIface : Option TypeDesc → Bool
  | some (.interface _) => false
  | some _ => true
  | none => false
theorem good_makeIface {t : TypeId} {x : Operand} {v : V} (ho : o.op = .makeInterface t x) (hx : ev e x = some v) (hd : noIface (P.underlying t) = true) : Good P o e n h lo (.ifc t v, n, h, lo) :=
  good_value fun ι a w H E => by
    refine ⟨.iface t (a.eval x), .ifc t v _ (ev_rel E hx), ?_⟩
    cases hu : P.underlying t with
    | none => rw [hu] at hd; cases hd
    | some d =>
      rw [hu] at hd
      simp only [execOp, ho, Instr.makeInterface, Sem.run_bind, run_underlying hu, Result.andThen_ok]
      cases d <;> first | (simp [noIface] at hd; done) | simp
theorem good_makeSlice {t el : TypeId} {x y : Operand} {te te' : TE} {q1 q2 : IntKind} {l c : Nat} (TO : TabOk P tab) (ho : o.op = .makeSlice t x y) (ht : tlook tab t = some te) (hs : te.sh = .sl el) (hel : tlook tab el = some te') (hk2 : Nat.beq te'.zero.length te'.size = true)
    (hx : ev e x = some (.sc (.int q1 (l : Int)))) (hy : ev e y = some (.sc (.int q2 (c : Int)))) (hlc : Nat.ble l c = true) (hcb : Nat.ble c 1000000 = true) (hb : Nat.ble te'.bytes 65536 = true) :
    Good P o e n h lo (.sl n 0 l te'.size (some c), n + 1, h.set n (.cells ((zs te' c).map .sc) false), lo) :=
  good_new fun ι a w H E h0 => by
    have hu := (TO t te ht).slice hs
    obtain ⟨z, hz1, hz2, i, hi1, hi2, hi3, hi4⟩ := (TO el te' hel).zero w
    have hk2 := Nat.eq_of_beq_eq_true hk2
    have hlc := Nat.le_of_ble_eq_true hlc
    have hcb := Nat.le_of_ble_eq_true hcb
    have hb := Nat.le_of_ble_eq_true hb
    have e1 := tv_rel (ev_rel E hx) _ rfl
    have e2 := tv_rel (ev_rel E hy) _ rfl
    have w1 : IntKind.i64.wrap (l : Int) = (l : Int) := Ab.wrap_i64 ⟨by omega, by omega⟩
    have w2 : IntKind.i64.wrap (c : Int) = (c : Int) := Ab.wrap_i64 ⟨by omega, by omega⟩
    have hbc : te'.bytes * c ≤ 65536 * 1000000 := Nat.mul_le_mul hb hcb
    have hbc2 : (te'.bytes : Int) * (c : Int) ≤ 281474976710656 := by
      have : ((te'.bytes * c : Nat) : Int) ≤ 65536000000 := by omega
      rw [Int.natCast_mul] at this; omega
    have hti : (typeInfo el).run P w = .ok i w := by simp [typeInfo, hi1]
    obtain ⟨C, hC⟩ : ∃ C, (Array.range (c * te'.size)).map (fun j => z.cells[j % z.cells.size]!) = C := ⟨_, rfl⟩
    have hCl : C.toList = zs te' c := by rw [← hC]; exact zs_eq hz2 hk2 c
    obtain ⟨f1, f2, f3, f4, f5, f6⟩ := alloc_facts w (.cells C el)
    refine ⟨.slice (some ⟨w.heap.size, 0, none⟩) l c, _, w.alloc (.cells C el), C.size, ?_, f1, f2, f3, f4, f5, f6, fun ι' hle hi => ⟨.sl n 0 l te'.size c _ _ hi, brel_new f6 (by rw [hCl]; exact LRel.scs _)⟩⟩
    have n1 : ¬ ((decide ((c : Int) < 0) || decide ((te'.bytes : Int) * (c : Int) > 2 ^ 48)) = true ∨ (l : Int) < 0 ∨ (l : Int) > (c : Int)) := by
      rintro (h1 | h1 | h1)
      · simp only [Bool.or_eq_true, decide_eq_true_eq] at h1
        omega
      · omega
      · omega
    simp only [execOp, ho, e1, e2]
    simp only [Instr.makeSlice, Sem.run_bind, run_underlying hu, Result.andThen_ok, asInt, asIntOf, Sem.run_pure, hti, hi4, w1, w2]
    rw [if_neg (by simpa using n1)]
    simp only [Sem.run_bind, run_askRoom, Result.andThen_ok, (TO el te' hel).size, Int.toNat_natCast, Sem.run_pure]
    by_cases h00 : c * te'.size = 0
    · rw [if_pos h00]
      have hr0 : Array.range (c * te'.size) = #[] := Array.eq_empty_of_size_eq_zero (by simpa using h00)
      have hC0 : C = #[] := by rw [← hC, hr0, Array.map_empty]
      simp [hr0, newRow, newObj, Sem.run, hC0]
    · rw [if_neg h00]
      simp [hz1, hC, newRow, newObj, Sem.run]
end
end Go.Proofs.Ytplgpbadpdmeeaa.Rn

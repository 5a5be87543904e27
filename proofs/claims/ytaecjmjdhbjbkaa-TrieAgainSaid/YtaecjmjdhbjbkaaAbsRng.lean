/-
  Over abstract states: ranges over maps, in whatever order; calls of a function's value.
-/
import Derived.Test.YtaecjmjdhbjbkaaAbsFrz
import Derived.Test.YtaecjmjdhbjbkaaAbsTab
import Derived.Maps.RangeRun
namespace Go.Proofs.Ytaecjmjdhbjbkaa.Ab
set_option linter.unusedVariables false
open Go.RowKit
open Go.ChangeMaps (setBlock)

section
variable {nt : Nat} {e : Env} {h : Heap}
theorem Rel.opened {Pm F : Nat → Prop} {w0 w : World} {pin ι : Nat → Option Value} {a : Act} (R : Rel Pm F w0 pin ι nt e h a w) {mid : Nat} {es : List (AVal × AVal)} (hb : look h mid = some (.map es)) :
    ∃ r bs clk, bs.length = es.length ∧ bs.Pairwise (fun a b => a < b) ∧ (∀ b ∈ bs, b < clk) ∧ Rel Pm F w0 pin ι nt e ((mid, .mapx r bs clk es) :: h) a w := by
  obtain ⟨v, hv, r, E, clk, rfl, hC, hl, hr, h1, h2⟩ := R.heap.blk mid _ hb
  have hW : Wrote w (.map (some r)) w := ⟨rfl, rfl, rfl, Nat.le_refl _, fun _ _ _ => rfl⟩
  have hp : (E.toList.map (·.born)).Pairwise (fun a b => a < b) := by
    rw [List.pairwise_map, List.pairwise_iff_getElem]
    intro i j hi hj hij
    exact h1 i j _ _ hij (by rw [← Array.getElem?_toList]; exact List.getElem?_eq_getElem hi) (by rw [← Array.getElem?_toList]; exact List.getElem?_eq_getElem hj)
  have hlt : ∀ b ∈ E.toList.map (·.born), b < clk := fun b hb => by
    obtain ⟨m, hm, rfl⟩ := List.mem_map.1 hb
    obtain ⟨i, hi⟩ := List.getElem?_of_mem hm
    exact h2 i m (by rw [← Array.getElem?_toList]; exact hi)
  exact ⟨r, E.toList.map (·.born), clk, by simp [hl], hp, hlt, R.heap.wrote hW hv ⟨E, rfl, hC, hl, hr, rfl, hp, hlt⟩, R.env, R.defers, R.size⟩
theorem Wk_close {mid r clk : Nat} {bs : List Nat} {es : List (AVal × AVal)} (hb : look h mid = some (.mapx r bs clk es)) : AWk nt e h e ((mid, .map es) :: h) := fun Pm F w0 pin ι a w R => by
  obtain ⟨v, hv, E, rfl, hC, hl, hr, h1, h2, h3⟩ := R.heap.blk mid _ hb
  have hW : Wrote w (.map (some r)) w := ⟨rfl, rfl, rfl, Nat.le_refl _, fun _ _ _ => rfl⟩
  refine ⟨ι, R.heap.wrote hW hv ⟨r, E, clk, rfl, hC, hl, hr, fun i j m m' hij hi hj => ?_, fun i m hi => ?_⟩, R.env, R.defers, R.size⟩
  · rw [← h1, List.pairwise_map, List.pairwise_iff_getElem] at h2
    have hi' := (Array.getElem?_eq_some_iff.1 hi)
    have hj' := (Array.getElem?_eq_some_iff.1 hj)
    have := h2 i j (by simpa using hi'.1) (by simpa using hj'.1) hij
    rw [Array.getElem_toList, Array.getElem_toList, hi'.2, hj'.2] at this
    exact this
  · refine h3 m.born ?_
    rw [← h1]
    exact List.mem_map.2 ⟨m, Array.mem_toList_iff.2 (Array.mem_of_getElem? hi), rfl⟩
end
section
variable {P : Program} {nt : Nat} {Q : Post} {e : Env} {h : Heap} {ops : Array Oper} {o : Oper} {rest : List Oper} {T : List Nat} {tab : TTab} {z : Bool}
/-- It is told where a map lies. -/
theorem A_open {c : Code} {mid : Nat} {es : List (AVal × AVal)} (hb : look h mid = some (.map es)) (H : ∀ r bs clk, bs.length = es.length → bs.Pairwise (fun a b => a < b) → (∀ b ∈ bs, b < clk) → AWp z P nt c Q e ((mid, .mapx r bs clk es) :: h)) : AWp z P nt c Q e h :=
  fun lq Pm F w0 pin ι a w hz R => by
    obtain ⟨r, bs, clk, h1, h2, h3, R'⟩ := R.opened hb
    exact H r bs clk h1 h2 h3 lq Pm F w0 pin ι a w hz R'
theorem E_range {t : TypeId} {x : Operand} {d : Option Tmp} {id mid r clk : Nat} {bs : List Nat} {es : List (AVal × AVal)} {k v : TypeId} (TO : TabOk P tab) (ho : o.op = .range t x) (hdst : o.dst = d) (ht : tmap tab t = some (k, v)) (hx : aev e x = some (.mp mid)) (hm : look h mid = some (.mapx r bs clk es)) (hid : Nat.blt id 1000 = true) (hd : dstOk nt d = true) :
    AEff P nt T e h o (fun e' h' => e' = aput d (.ptr id 0) (killE id e) ∧ h' = (id, .it (.mapIter (some r) clk #[] clk)) :: killH id h) := fun Pm F w0 pin ι a w R K Qx hK => by
  obtain ⟨te, h1, h2⟩ := tmap_spec ht
  obtain ⟨vm, hvm, E, rfl, hC, _⟩ := R.heap.blk mid _ hm
  have hxv := aev_rel R.env hx
  have hxe : a.eval x = .map (some r) := by
    generalize a.eval x = u at hxv
    cases hxv with
    | mp _ _ h1 h2 => exact h2 _ hvm
  have hb : ∀ ι', ι' = upd ι id (some (.pointer (some ⟨w.heap.size, 0, none⟩))) → Ext w F ι (w.alloc (.mapIter (some r) clk #[] clk)) ι' → BRel (w.alloc (.mapIter (some r) clk #[] clk)) F ι' (.it (.mapIter (some r) clk #[] clk)) (.pointer (some ⟨w.heap.size, 0, none⟩)) := fun ι' _ _ => ⟨_, rfl, heap_new _ _⟩
  obtain ⟨hR, hCt⟩ := R.new (T := T) hid hd (.mapIter (some r) clk #[] clk) (.pointer (some ⟨w.heap.size, 0, none⟩)) (by simp [blockOf]) _ (.ptr id 0) hb fun ι' h1 => .ptr id 0 _ rfl fun v hv => by subst h1; simp [upd] at hv; subst hv; exact ⟨_, rfl, rfl⟩
  have hrun : (execOp a.eval o).run P w = .ok (.value (.pointer (some ⟨w.heap.size, 0, none⟩))) (w.alloc (.mapIter (some r) clk #[] clk)) := by
    have hu : P.underlying t = some (.map k v) := by
      obtain ⟨d, hd, _, hs⟩ := (TO t te h1).und
      rw [h2] at hs
      rw [hd, show d = .map k v from hs]
    simp only [execOp, ho, hxe]
    simp [run_range_map w t k v r E clk hu hC]
  unfold Oper.wp
  rw [hrun, Oper.upon_value, hdst]
  exact hK _ _ _ _ _ ⟨rfl, rfl⟩ hR hCt (put_defers _ _ _)
theorem O_range {t : TypeId} {x : Operand} {d mid r clk : Nat} {bs : List Nat} {es : List (AVal × AVal)} {k v : TypeId} (TO : TabOk P tab) (hw : awant ops e o = some true) (hdst : o.dst = some d) (hd : Nat.blt d nt = true) (hid : Nat.blt d 1000 = true) (ho : o.op = .range t x) (ht : tmap tab t = some (k, v)) (hx : aev e x = some (.mp mid)) (hm : look h mid = some (.mapx r bs clk es))
    (HK : AOps P nt ops Q rest ((d, .ptr d 0) :: killE d e) ((d, .it (.mapIter (some r) clk #[] clk)) :: killH d h)) : AOps P nt ops Q (o :: rest) e h :=
  O_eff (T := []) hw (E_range TO ho hdst ht hx hm hid hd) fun e' h' ⟨h1, h2⟩ => by subst h1 h2; exact HK
theorem it_val {Pm F : Nat → Prop} {w0 w : World} {pin ι : Nat → Option Value} {a : Act} (H : HRel Pm F w0 pin ι h w) (E : EnvRel w F ι e a) {x : Operand} {it : Nat} {ob : Obj} (hx : aev e x = some (.ptr it 0)) (hi : look h it = some (.it ob)) :
    ∃ r, ι it = some (.pointer (some ⟨r, 0, none⟩)) ∧ w.heap[r]? = some ob ∧ a.eval x = .pointer (some ⟨r, 0, none⟩) := by
  obtain ⟨v, hv, r, rfl, hr⟩ := H.blk it _ hi
  refine ⟨r, hv, hr, ?_⟩
  have hxv := aev_rel E hx
  generalize a.eval x = u at hxv
  cases hxv with
  | ptr _ _ _ h1 h2 =>
    obtain ⟨r', h3, h4⟩ := h2 _ hv
    cases h3
    exact h4
theorem E_next {x : Operand} {d : Option Tmp} {it mid r since c0 clk : Nat} {seen : Array Nat} {bs : List Nat} {es : List (AVal × AVal)} (ho : o.op = .next x false) (hdst : o.dst = d) (hx : aev e x = some (.ptr it 0)) (hi : look h it = some (.it (.mapIter (some r) since seen c0))) (hm : look h mid = some (.mapx r bs clk es))
    (hs : clk ≤ since) (hsc : since ≤ c0) (hd : dstOk nt d = true) (hT : T.contains it = true) :
    AEff P nt T e h o (fun e' h' => (e' = aput d (.tup [.d (.sc (.bool false))]) e ∧ h' = h ∧ ∀ b ∈ bs, seen.contains b = true) ∨
      ∃ (j : Nat) (p : AVal × AVal) (b : Nat), es[j]? = some p ∧ bs[j]? = some b ∧ seen.contains b = false ∧ e' = aput d (.tup [.d (.sc (.bool true)), p.1, p.2]) e ∧ h' = (it, .it (.mapIter (some r) since (seen.push b) clk)) :: h) := fun Pm F w0 pin ι a w R K Qx hK => by
  obtain ⟨ri, hvi, hri, hxe⟩ := it_val R.heap R.env hx hi
  obtain ⟨vm, hvm, E, rfl, hC, hl, hr, hbs, hp, hlt⟩ := R.heap.blk mid _ hm
  have hold : ∀ m ∈ E.toList, m.born < since := fun m hm => Nat.lt_of_lt_of_le (hlt m.born (by rw [← hbs]; exact List.mem_map.2 ⟨m, hm, rfl⟩)) hs
  unfold Oper.wp
  rcases run_next_at (P := P) w o.type ri r since c0 seen E clk hri hC hold hsc with ⟨h0, hrun⟩ | ⟨en, hen, w1, hw1, hrun⟩
  · have hrun2 : (execOp a.eval o).run P w = .ok (.value (.tuple #[.bool false])) w := by
      simp only [execOp, ho, hxe]
      simp [hrun]
    rw [hrun2, Oper.upon_value, hdst]
    refine hK ι _ _ _ w (.inl ⟨rfl, rfl, fun b hb => ?_⟩) (R.put hd (.tup _ _ rfl fun i c u h1 h2 => ?_)) ⟨CT.refl _ _ _, fun id _ v r h1 h2 _ => ⟨v, h1, h2⟩⟩ (put_defers _ _ _)
    · rw [← hbs] at hb
      obtain ⟨m, hm, rfl⟩ := List.mem_map.1 hb
      cases hc : seen.contains m.born with
      | true => rfl
      | false =>
        have : m ∈ (leftOf E seen).toList := by
          unfold leftOf
          rw [Array.toList_filter]
          exact List.mem_filter.2 ⟨hm, by rw [hc]; rfl⟩
        rw [Array.eq_empty_of_size_eq_zero h0] at this
        simp at this
    · match i with
      | 0 => simp at h1 h2; subst h1 h2; exact .d _ _ (.sc _ rfl)
      | i + 1 => simp at h1
  · obtain ⟨w', hw'⟩ : ∃ w', setBlock w1 ri (.mapIter (some r) since (seen.push en.born) clk) = w' := ⟨_, rfl⟩
    rw [hw'] at hrun
    have hrun2 : (execOp a.eval o).run P w = .ok (.value (.tuple #[.bool true, en.key, en.val])) w' := by
      simp only [execOp, ho, hxe]
      simp [hrun]
    rw [hrun2, Oper.upon_value, hdst]
    have hmem : en ∈ E.toList ∧ seen.contains en.born = false := by
      unfold leftOf at hen
      rw [Array.toList_filter] at hen
      have := List.mem_filter.1 hen
      exact ⟨this.1, by simpa using this.2⟩
    obtain ⟨j, hj⟩ := List.getElem?_of_mem hmem.1
    have hj2 : E[j]? = some en := by rw [← Array.getElem?_toList]; exact hj
    have hjl : j < es.length := by rw [← hl]; exact (Array.getElem?_eq_some_iff.1 hj2).1
    have h1w : w1.heap = w.heap ∧ w1.os = w.os ∧ w1.tape = w.tape ∧ w1.output = w.output := by rcases hw1 with rfl | rfl <;> exact ⟨rfl, rfl, rfl, rfl⟩
    have hlt' : ri < w.heap.size := (Array.getElem?_eq_some_iff.1 hri).1
    have hW : Wrote w (.pointer (some ⟨ri, 0, none⟩)) w' := by
      rw [← hw']
      refine ⟨h1w.2.1, h1w.2.2.1, h1w.2.2.2, by simp [setBlock, h1w.1], fun q hq hne => ?_⟩
      have : ri ≠ q := by rintro rfl; exact hne rfl
      simp [setBlock, h1w.1, Array.getElem?_setIfInBounds_ne this]
    have hnew : w'.heap[ri]? = some (.mapIter (some r) since (seen.push en.born) clk) := by
      rw [← hw']; simp [setBlock, h1w.1, hlt']
    have hB := (hr j es[j] en (List.getElem?_eq_getElem hjl) hj2)
    refine hK ι _ _ _ w' (.inr ⟨j, es[j], en.born, List.getElem?_eq_getElem hjl, by rw [← hbs, List.getElem?_map, hj]; rfl, hmem.2, rfl, rfl⟩) ⟨R.heap.wrote hW hvi ⟨ri, rfl, hnew⟩, (R.env.mono fun _ _ _ _ hv' => hv'.wrote hW hvi).aput hd R.size (.tup _ _ rfl fun i c u h1 h2 => ?_), by rw [put_defers]; exact R.defers.ext (hW.ext hvi), by rw [put_size]; exact R.size⟩ ⟨⟨hW.os, hW.tape, hW.output, hW.size, fun q hq hne => hW.mem q hq fun hb => hne it (List.contains_iff_mem.1 hT) _ hvi hb⟩, fun id _ v r h1 h2 _ => ⟨v, h1, h2⟩⟩ (put_defers _ _ _)
    match i with
    | 0 => simp at h1 h2; subst h1 h2; exact .d _ _ (.sc _ rfl)
    | 1 => simp at h1 h2; subst h1 h2; exact hB.1.wrote hW hvi
    | 2 => simp at h1 h2; subst h1 h2; exact hB.2.wrote hW hvi
    | i + 3 => simp at h1
/-- The next one, whichever it is; or none is left. -/
theorem O_next {x : Operand} {d it mid r since c0 clk : Nat} {seen : Array Nat} {bs : List Nat} {es : List (AVal × AVal)} (hw : awant ops e o = some true) (hdst : o.dst = some d) (hd : Nat.blt d nt = true) (ho : o.op = .next x false) (hx : aev e x = some (.ptr it 0)) (hi : look h it = some (.it (.mapIter (some r) since seen c0))) (hm : look h mid = some (.mapx r bs clk es))
    (hs : clk ≤ since) (hsc : since ≤ c0) (H0 : (∀ b ∈ bs, seen.contains b = true) → AOps P nt ops Q rest ((d, .tup [.d (.sc (.bool false))]) :: e) h)
    (H1 : ∀ (j : Nat) (p : AVal × AVal) (b : Nat), es[j]? = some p → bs[j]? = some b → seen.contains b = false → AOps P nt ops Q rest ((d, .tup [.d (.sc (.bool true)), p.1, p.2]) :: e) ((it, .it (.mapIter (some r) since (seen.push b) clk)) :: h)) : AOps P nt ops Q (o :: rest) e h :=
  O_eff (T := [it]) hw (E_next (d := some d) ho hdst hx hi hm hs hsc hd (by simp)) fun e' h' hR => by
    rcases hR with ⟨h1, h2, h3⟩ | ⟨j, p, b, h1, h2, h3, h4, h5⟩
    · subst h1 h2; exact H0 h3
    · subst h4 h5; exact H1 j p b h1 h2 h3
theorem R_entry {x : Operand} {it mid r since clk j b : Nat} {seen : Array Nat} {bs : List Nat} {es : List (AVal × AVal)} {p : AVal × AVal} (ho : o.op = .entry x) (hx : aev e x = some (.ptr it 0)) (hi : look h it = some (.it (.mapIter (some r) since (seen.push b) clk))) (hm : look h mid = some (.mapx r bs clk es))
    (hp : es[j]? = some p) (hb : bs[j]? = some b) (hT1 : T.contains it = false) (hT2 : T.contains mid = false) : AYield P T e h o (.tup [p.1, p.2]) := fun Pm F w0 pin ι a w H E => by
  obtain ⟨ri, hvi, hri, hxe⟩ := it_val H E hx hi
  obtain ⟨vm, hvm, Ar, rfl, hC, hl, hr, hbs, hpw, hlt⟩ := H.blk mid _ hm
  have hj : j < Ar.size := by rw [hl]; exact (List.getElem?_eq_some_iff.1 hp).1
  have hj2 : Ar[j]? = some Ar[j] := Array.getElem?_eq_getElem hj
  have hborn : Ar[j].born = b := by
    rw [← hbs, List.getElem?_map, Array.getElem?_toList, hj2] at hb
    simpa using hb
  have hB := hr j p _ hp hj2
  refine ⟨.tuple #[Ar[j].key, Ar[j].val], .tup _ _ rfl fun i c u h1 h2 => ?_, fun w' hw' => ?_⟩
  · match i with
    | 0 => simp at h1 h2; subst h1 h2; exact hB.1
    | 1 => simp at h1 h2; subst h1 h2; exact hB.2
    | i + 2 => simp at h1
  · have keep : ∀ (id : Nat) (v : Value) (q : Nat), ι id = some v → blockOf v = some q → T.contains id = false → w'.heap[q]? = w.heap[q]? := fun id v q hv hq hn => hw'.mem q (H.lt hv hq) fun id2 h2 v2 hv2 hb2 => by
      have hne : id2 ≠ id := by rintro rfl; rw [List.contains_iff_mem.2 h2] at hn; cases hn
      exact H.inj id2 id v2 v q hne hv2 hv hb2 hq
    have g1 : w'.heap[ri]? = some (.mapIter (some r) since (seen.push Ar[j].born) clk) := by rw [keep it _ ri hvi rfl hT1, hborn]; exact hri
    have g2 : w'.heap[r]? = some (.map Ar clk) := by rw [keep mid _ r hvm rfl hT2]; exact hC
    have hnd : (Ar.toList.map (·.born)).Nodup := by rw [hbs]; exact hpw.imp fun h => Nat.ne_of_lt h
    have := run_entry_at (P := P) w' ri r since seen Ar clk Ar[j] g1 g2 (by simp) hnd
    simp only [execOp, ho, hxe]
    simp [this]

/-! A function's value is called -/
theorem E_callF {f : FuncId} {x : Operand} {caps : List AVal} {args : Array Operand} {ats : Array TypeId} {cs : List AVal} {d : Option Tmp} {c : AVal} (ho : o.op = .call { callee := .value x, args := args, argTypes := ats }) (hdst : o.dst = d) (hf : aev e x = some (.fn f caps)) (hx : aevs e args.toList = some cs)
    (H : ACall P f (cs ++ caps) [] (fun c' h' => c' = c ∧ h' = [])) (hd : dstOk nt d = true) (hc : ∀ j, c.has j = false) : AEff P nt T e h o (fun e' h' => e' = aput d c e ∧ h' = h) := fun Pm F w0 pin ι a w R K Qx hK => by
  have hfv := aev_rel R.env hf
  generalize hau : a.eval x = u at hfv
  cases hfv with
  | fn _ _ C hl hh =>
    unfold Oper.wp
    rw [run_callV H.1 ho hau, Oper.upon_enter, hdst]
    have hF : ∀ r, Fc F ι r → r < w.heap.size := fun r hr => hr.elim (fun h1 => Nat.lt_of_lt_of_le (R.heap.forb r h1) R.heap.size) fun ⟨id, v, h1, h2⟩ => R.heap.lt h1 h2
    have hA := args_of R.env hx
    have hA2 : ArgsRel w F ι (cs ++ caps) (args.map a.eval ++ C) := by
      refine ⟨by simp [hl]; exact by simpa using hA.1, fun i c u h1 h2 => ?_⟩
      have hAl : (args.map a.eval).size = cs.length := hA.1
      by_cases hi : i < cs.length
      · rw [List.getElem?_append_left hi] at h1
        rw [Array.getElem?_append_left (by omega)] at h2
        exact hA.2 i c u h1 h2
      · rw [List.getElem?_append_right (by omega)] at h1
        rw [Array.getElem?_append_right (by omega), hAl] at h2
        exact hh (i - cs.length) c u h1 h2
    refine (H.2 _ _ w _ _ _ w (HRel.none (Fc F ι) w hF) (args_c hA2)).mono ?_
    rintro y w' ⟨u, c', h', ι', rfl, ⟨rfl, rfl⟩, hH, hv⟩
    obtain ⟨ι2, hR, hC⟩ := R.called (T := T) hH hv (by rfl) (fun _ _ _ h => (by cases h)) (fun j hj => by rw [hc] at hj; cases hj) hd
    rw [List.map_nil, killEs_nil, killHs_nil, List.nil_append] at hR
    exact hK _ _ _ _ _ ⟨rfl, rfl⟩ hR hC (put_defers _ _ _)
theorem O_cF {f : FuncId} {x : Operand} {caps : List AVal} {args : Array Operand} {ats : Array TypeId} {cs : List AVal} {d : Nat} {c : AVal} (hw : awant ops e o = some true) (hdst : o.dst = some d) (hd : Nat.blt d nt = true) (ho : o.op = .call { callee := .value x, args := args, argTypes := ats }) (hf : aev e x = some (.fn f caps)) (hx : aevs e args.toList = some cs)
    (H : ACall P f (cs ++ caps) [] (fun c' h' => c' = c ∧ h' = [])) (hc : ∀ j, c.has j = false) (HK : AOps P nt ops Q rest ((d, c) :: e) h) : AOps P nt ops Q (o :: rest) e h :=
  O_eff (T := []) hw (E_callF (d := some d) ho hdst hf hx H hd hc) fun e' h' ⟨h1, h2⟩ => by subst h1 h2; exact HK
end
end Go.Proofs.Ytaecjmjdhbjbkaa.Ab

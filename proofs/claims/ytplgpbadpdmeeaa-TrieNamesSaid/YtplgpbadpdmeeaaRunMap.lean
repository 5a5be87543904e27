/-
  A runner of closed code: append, copy; maps.
-/
import Derived.Test.YtplgpbadpdmeeaaRunApp
namespace Go.Proofs.Ytplgpbadpdmeeaa.Rn
set_option linter.unusedVariables false
open Go.RowKit
open Go.Proofs.Ytplgpbadpdmeeaa.Ab (TE TTab tlook TabOk TFacts win setW setW_get win_get Sh)

/-- What is appended. -/
def srcV (h : Hp) (size : Nat) : V → Option (Nat × List V)
  | .sl id off len k _ => match h.get id with
    | some (.cells cs _) => cond (Nat.beq k size && Nat.beq (win cs off (len * k)).length (len * k) && (win cs off (len * k)).all one) (some (len, win cs off (len * k))) none
    | _ => none
  | .emp => some (0, [])
  | .sc (.slice none 0 0) => some (0, [])
  | .sc (.string s) => cond (Nat.beq size 1) (some (s.size, (byteCells s).map .sc)) none
  | _ => none
def srcFits : V → Option TypeDesc → Bool
  | .sl _ _ _ _ _, some (.slice _) => true
  | .emp, some (.slice _) => true
  | .sc (.slice none 0 0), some (.slice _) => true
  | .sc (.string _), some .string => true
  | _, _ => false
section
variable {P : Program} {tab : TTab} {o : Oper} {e : Ev} {n : Nat} {h : Hp} {lo : Nat}
theorem sl_inv {ι : Io} {id off len k : Nat} {cap : Option Nat} {u : Value} (hv : VRel ι (.sl id off len k cap) u) {r m : Nat} (hi : ι id = some (r, m)) : ∃ c, u = .slice (some ⟨r, off, none⟩) len c ∧ (∀ c0, cap = some c0 → c = c0) ∧ (cap = none → off + c * k = m ∧ len ≤ c) := by
  cases hv with
  | sl _ _ _ _ c r' m' h' => rw [hi] at h'; cases h'; exact ⟨c, rfl, fun c0 h => by cases h; rfl, fun h => by cases h⟩
  | slu _ _ _ _ c r' m' h' h1 h2 => rw [hi] at h'; cases h'; exact ⟨c, rfl, fun c0 h => (by cases h), fun _ => ⟨h1, h2⟩⟩
theorem cells_win {ι : Io} {w : World} {r m off l : Nat} {cs : List V} {more : Bool} (hB : BRel ι w (.cells cs more) r m) (hl : (win cs off l).length = l) : ∃ vs, vs.length = l ∧ LRel ι (win cs off l) vs ∧ ∀ (j : Nat) (u : Value), vs[j]? = some u → w.cell? ⟨r, off + j, none⟩ = some u := by
  obtain ⟨C, tt, fz, hC, hfz, hsz, hle, hmo, hr⟩ := hB
  have hrel := hr.win off l
  refine ⟨_, by rw [hrel.1, hl], hrel, fun j u hj => ?_⟩
  have h6 := win_get rfl hj
  rw [List.getElem?_take] at h6
  split at h6
  · simp [World.cell?, hC]; simpa using h6
  · cases h6
theorem src_good {ι : Io} {w : World} {size m : Nat} {x : V} {u : Value} {W : List V} {tx : TypeId} (H : HRel ι h.get w) (hv : VRel ι x u) (hs : srcV h size x = some (m, W)) (hf : srcFits x (P.underlying tx) = true) : ∃ news, LRel ι W news ∧ Src P size tx u m news w := by
  cases hd : P.underlying tx with
  | none => rw [hd] at hf; unfold srcFits at hf; split at hf <;> simp_all
  | some d =>
    rw [hd] at hf
    unfold srcFits at hf
    split at hf
    · rename_i id off len k cap el h2
      cases h2
      rw [srcV] at hs
      split at hs
      · rename_i cs more hb
        cases hc : Nat.beq k size && Nat.beq (win cs off (len * k)).length (len * k) && (win cs off (len * k)).all one with
        | false => rw [hc] at hs; cases hs
        | true =>
          rw [hc, cond_true] at hs
          cases hs
          simp only [Bool.and_eq_true] at hc
          have hk := Nat.eq_of_beq_eq_true hc.1.1
          subst hk
          obtain ⟨r, mm, hi, hB⟩ := H.blk _ _ hb
          obtain ⟨c, rfl, _, _⟩ := sl_inv hv hi
          obtain ⟨vs, h3, h4, h5⟩ := cells_win hB (Nat.eq_of_beq_eq_true hc.1.2)
          exact ⟨vs, h4, Src.ofSlice w hd ⟨r, _, none⟩ _ c vs h3 (fun j u hj => by rw [Addr.add_mid]; exact h5 j u hj) (all_one h4 hc.2)⟩
      · cases hs
    · rename_i h2
      cases h2
      cases hs
      cases hv with
      | emp r o c => exact ⟨[], .nil, Src.ofSlice w hd ⟨r, o, none⟩ 0 c [] (by simp) (by simp) (by simp)⟩
    · rename_i h2
      cases h2
      cases hs
      cases hv
      exact ⟨[], .nil, Src.ofNil w hd 0⟩
    · rename_i s h2
      cases h2
      rw [srcV] at hs
      cases hc : Nat.beq size 1 with
      | false => rw [hc] at hs; cases hs
      | true =>
        rw [hc, cond_true] at hs
        cases hs
        have := Nat.eq_of_beq_eq_true hc
        subst this
        cases hv
        exact ⟨byteCells s, LRel.scs _, Src.ofString w hd s⟩
    · cases hf
/-- A longer row is made. -/
theorem grow_run {w : World} {t tx el : TypeId} {te te' : TE} (Ft : TFacts P t te) (hs : te.sh = .sl el) (Fe : TFacts P el te') (hk2 : te'.zero.length = te'.size) {base : Option Addr} {len c m : Nat} {olds news : List Value} {u : Value} {ty : TypeId}
    (hol : olds.length = len * te'.size) (hold : (Builtin.firstCells te'.size len (.slice base len c)).run P w.drew = .ok olds.toArray w.drew) (S : Src P te'.size tx u m news w) (hg : c < len + m) (hb : (len + m) * te'.bytes ≤ 140737488355328) (hn : len + m ≤ 1000000000) :
    ∃ w' gc C, (Builtin.append_ #[t, tx] ty #[.slice base len c, u]).run P w = .ok (.slice (some ⟨w.heap.size, 0, none⟩) (len + m) gc) w' ∧ w'.os = w.os ∧ w'.tape = w.tape ∧ w'.output = w.output ∧ w.heap.size < w'.heap.size ∧ (∀ r, r < w.heap.size → w'.heap[r]? = w.heap[r]?) ∧
      w'.heap[w.heap.size]? = some (.cells C el (0, 0)) ∧ C.size = gc * te'.size ∧ len + m ≤ gc ∧ C.toList.take (olds.length + news.length) = olds ++ news := by
  have hu := Ft.slice hs
  obtain ⟨z, _, hz2, i, hi1, hi2, hi3, hi4⟩ := Fe.zero w
  rw [← hi3] at hold S hol
  have hr := run_append_grow_src (P := P) w t tx ty el i z hu hi1 hi2 base len c olds hold u m news S hg (by omega) (growslice_fits (by omega) (by rw [hi4]; exact hb))
  have hge := grownCap_ge w (len + m) c el
  obtain ⟨f1, f2, f3, f4, f5, f6⟩ := alloc_facts w.drew (.cells ((olds ++ news).toArray ++ Builtin.zeroCells z.cells (grownCap w (len + m) c el - (len + m))) el)
  refine ⟨_, _, _, hr, f1, f2, f3, f4, f5, f6, ?_, hge, ?_⟩
  · have hzs : z.cells.size = te'.size := by rw [← Array.length_toList, hz2, hk2]
    have hnl := S.newsLen
    simp only [Array.size_append, List.size_toArray, List.length_append, size_zeroCells, hol, hnl, hzs, hi3, ← Nat.add_mul]
    congr 1
    omega
  · rw [← List.length_append, Array.toList_append]
    exact List.take_left
/-- append. -/
def appR (te' : TE) (n : Nat) (h : Hp) (lo : Nat) (s : V) (m : Nat) (W : List V) : R := match s with
  | .sc (.slice none 0 0) => cond (Nat.beq m 0) (some (s, n, h, lo)) (cond (Nat.ble (m * te'.bytes) 140737488355328 && Nat.ble m 1000000000) (some (.sl n 0 m te'.size none, n + 1, h.set n (.cells W true), lo)) none)
  | .sl id off len k cap => cond (Nat.beq k te'.size && (Nat.ble ((len + m) * te'.bytes) 140737488355328 && Nat.ble (len + m) 1000000000)) (match h.get id with
    | some (.cells cs more) => match cap with
      | some c => cond (Nat.beq m 0 && Nat.ble len c) (some (s, n, h, lo)) (cond (Nat.ble (len + m) c)
          (cond (Nat.ble (off + len * k + W.length) cs.length) (some (.sl id off (len + m) k (some c), n, h.set id (.cells (setW cs (off + len * k) W) more), lmin id lo)) none)
          (cond (Nat.beq (win cs off (len * k)).length (len * k)) (some (.sl n 0 (len + m) k none, n + 1, h.set n (.cells (win cs off (len * k) ++ W) true), lo)) none))
      | none => cond (Nat.beq m 0) (some (s, n, h, lo)) (cond (Nat.beq off 0 && Nat.beq cs.length (len * k) && more) (some (.sl n 0 (len + m) k none, n + 1, (h.del id).set n (.cells (cs ++ W) true), lmin id lo)) none)
    | _ => none) none
  | _ => none
theorem src_zero {size : Nat} {tx : TypeId} {u : Value} {news : List Value} {w : World} (S : Src P size tx u 0 news w) : news = [] := List.eq_nil_of_length_eq_zero (by simpa using S.newsLen)
theorem app_zero {t tx el ty : TypeId} {te te' : TE} {w : World} (Ft : TFacts P t te) (hs : te.sh = .sl el) (Fe : TFacts P el te') {base : Option Addr} {len c : Nat} {u : Value} {news : List Value} (S : Src P te'.size tx u 0 news w) (hl : len ≤ c) : (Builtin.append_ #[t, tx] ty #[.slice base len c, u]).run P w = .ok (.slice base len c) w := by
  have hu := Ft.slice hs
  have := src_zero S
  subst this
  rcases S.kind with ⟨e', hk⟩ | hk <;> cases base <;> simp [Builtin.append_, run_underlying hu, run_underlying hk, Fe.size, S.len, hl, S.cells, storeCells]
theorem good_append {t tx el : TypeId} {x y : Operand} {te te' : TE} {s v : V} {m : Nat} {W : List V} {r : V × Nat × Hp × Nat} (TO : TabOk P tab) (ho : o.op = .call { callee := .builtin .append, args := #[x, y], argTypes := #[t, tx] }) (ht : tlook tab t = some te) (hs : te.sh = .sl el) (hel : tlook tab el = some te') (hk2 : Nat.beq te'.zero.length te'.size = true)
    (hx : ev e x = some s) (hy : ev e y = some v) (hsrc : srcV h te'.size v = some (m, W)) (hf : srcFits v (P.underlying tx) = true) (hr : appR te' n h lo s m W = some r) : Good P o e n h lo r := by
  have hk2 := Nat.eq_of_beq_eq_true hk2
  have run : ∀ (a : Act) (w w' : World) (u' : Value), (Builtin.append_ #[t, tx] o.type #[a.eval x, a.eval y]).run P w = .ok u' w' → (execOp a.eval o).run P w = .ok (.value u') w' := fun a w w' u' hh => by
    simp [execOp, ho, resolve, invoke, builtin, hh]
  have zero : m = 0 → (∀ ι a w, HRel ι h.get w → ERel ι e a → ∃ base len c, a.eval x = .slice base len c ∧ len ≤ c) → Good P o e n h lo (s, n, h, lo) := fun hm hh => by
    subst hm
    refine good_value fun ι a w H E => ?_
    obtain ⟨base, len, c, h1, h2⟩ := hh ι a w H E
    obtain ⟨news, h3, S⟩ := src_good H (ev_rel E hy) hsrc hf
    refine ⟨a.eval x, ev_rel E hx, run a w w _ ?_⟩
    rw [h1]
    exact app_zero (TO t te ht) hs (TO el te' hel) S h2
  unfold appR at hr
  split at hr
  · -- nil
    cases hm : Nat.beq m 0 with
    | true =>
      rw [hm] at hr
      cases hr
      exact zero (Nat.eq_of_beq_eq_true hm) fun ι a w H E => ⟨none, 0, 0, tv_rel (ev_rel E hx) _ rfl, Nat.le_refl _⟩
    | false =>
      rw [hm, cond_false] at hr
      have hm := Ab.of_beq_no hm
      cases hb : Nat.ble (m * te'.bytes) 140737488355328 && Nat.ble m 1000000000 with
      | false => rw [hb] at hr; cases hr
      | true =>
        rw [hb] at hr
        cases hr
        simp only [Bool.and_eq_true, Nat.ble_eq] at hb
        refine good_new fun ι a w H E h0 => ?_
        obtain ⟨news, h3, S⟩ := src_good H (ev_rel E hy) hsrc hf
        have e1 := tv_rel (ev_rel E hx) _ rfl
        obtain ⟨w', gc, C, g1, g2, g3, g4, g5, g6, g7, g8, g9, g10⟩ := grow_run (base := none) (len := 0) (c := 0) (olds := []) (ty := o.type) (TO t te ht) hs (TO el te' hel) hk2 (by simp) (run_firstCells_none w.drew te'.size 0 0 0) S (by omega) (by simpa using hb.1) (by omega)
        refine ⟨_, _, w', gc * te'.size, run a w w' _ (by rw [e1]; exact g1), g2, g3, g4, g5, g6, g7, fun ι' hle hi => ⟨?_, ?_⟩⟩
        · rw [Nat.zero_add]; exact .slu n 0 m te'.size gc _ _ hi (by omega) (by omega)
        · have hwl : W.length ≤ gc * te'.size := by
            rw [← h3.1, S.newsLen]; exact Nat.mul_le_mul_right _ (by omega)
          refine ⟨C, el, (0, 0), g7, fun j _ hj => by dsimp only at hj; omega, g8, hwl, (fun hh => by cases hh), ?_⟩
          simp only [List.length_nil, Nat.zero_add, List.nil_append] at g10
          rw [← h3.1, g10]
          exact h3.mono hle
  · rename_i id off len k cap
    cases hb0 : Nat.beq k te'.size && (Nat.ble ((len + m) * te'.bytes) 140737488355328 && Nat.ble (len + m) 1000000000) with
    | false => rw [hb0] at hr; cases hr
    | true =>
      rw [hb0, cond_true] at hr
      simp only [Bool.and_eq_true, Nat.ble_eq] at hb0
      obtain ⟨hk, hb1, hb2⟩ := hb0
      have hk := Nat.eq_of_beq_eq_true hk
      subst hk
      split at hr
      · rename_i cs more hb
        cases cap with
        | some c =>
          dsimp only at hr
          cases hz : Nat.beq m 0 && Nat.ble len c with
          | true =>
            rw [hz] at hr
            cases hr
            simp only [Bool.and_eq_true, Nat.ble_eq] at hz
            refine zero (Nat.eq_of_beq_eq_true hz.1) fun ι a w H E => ?_
            obtain ⟨rr, mm, hi, _⟩ := H.blk _ _ hb
            obtain ⟨c', h1, h2, _⟩ := sl_inv (ev_rel E hx) hi
            have := h2 c rfl
            subst this
            exact ⟨_, _, _, h1, hz.2⟩
          | false =>
            rw [hz, cond_false] at hr
            cases hroom : Nat.ble (len + m) c with
            | true =>
              rw [hroom, cond_true] at hr
              cases hfit : Nat.ble (off + len * te'.size + W.length) cs.length with
              | false => rw [hfit] at hr; cases hr
              | true =>
                rw [hfit] at hr
                cases hr
                have hfit := Nat.le_of_ble_eq_true hfit
                have hroom := Nat.le_of_ble_eq_true hroom
                refine good_write hb fun ι a w rr mm H E hi hB => ?_
                obtain ⟨c', h1, h2, _⟩ := sl_inv (ev_rel E hx) hi
                have := h2 c rfl
                subst this
                obtain ⟨news, h3, S⟩ := src_good H (ev_rel E hy) hsrc hf
                obtain ⟨C, tt, fz, hC, hfz, hsz, hle2, hmo, hl⟩ := hB
                have hst := run_storeV (P := P) (off := off + len * te'.size) hC hfz hsz news (by rw [h3.1]; omega) S.one
                obtain ⟨g1, g2, g3, g4, g5, g6⟩ := setCells_spec news (off + len * te'.size) C w hC (by rw [h3.1]; omega)
                have hu := (TO t te ht).slice hs
                refine ⟨.slice (some ⟨rr, off, none⟩) (len + m) c', w.setCells rr (off + len * te'.size) news, .inl (run a w _ _ ?_), .sl id off (len + m) te'.size c' rr mm hi, g4, g5, g6, by rw [g3]; exact Nat.le_refl _, g2, brel_set hC hfz hsz hle2 hmo hl h3 (by omega)⟩
                rw [h1]
                rcases S.kind with ⟨e', hk⟩ | hk <;> simp [Builtin.append_, run_underlying hu, run_underlying hk, (TO el te' hel).size, S.len, hroom, S.cells, Addr.add_mid, hst]
            | false =>
              rw [hroom, cond_false] at hr
              have hnr : c < len + m := by
                rcases Nat.lt_or_ge c (len + m) with h1 | h1
                · exact h1
                · rw [Nat.ble_eq_true_of_le h1] at hroom; cases hroom
              cases hwn : Nat.beq (win cs off (len * te'.size)).length (len * te'.size) with
              | false => rw [hwn] at hr; cases hr
              | true =>
                rw [hwn] at hr
                cases hr
                have hwn := Nat.eq_of_beq_eq_true hwn
                refine good_new fun ι a w H E h0 => ?_
                obtain ⟨rr, mm, hi, hB⟩ := H.blk _ _ hb
                obtain ⟨c', h1, h2, _⟩ := sl_inv (ev_rel E hx) hi
                have := h2 c rfl
                subst this
                obtain ⟨news, h3, S⟩ := src_good H (ev_rel E hy) hsrc hf
                obtain ⟨olds, q1, q2, q3⟩ := cells_win hB hwn
                obtain ⟨w', gc, C, g1, g2, g3, g4, g5, g6, g7, g8, g9, g10⟩ := grow_run (ty := o.type) (TO t te ht) hs (TO el te' hel) hk2 q1 (run_firstCells_some w.drew te'.size len ⟨rr, off, none⟩ len c' olds q1 (fun j u hj => by rw [Addr.add_mid]; exact q3 j u hj)) S hnr hb1 hb2
                refine ⟨_, _, w', gc * te'.size, run a w w' _ (by rw [h1]; exact g1), g2, g3, g4, g5, g6, g7, fun ι' hle hi => ⟨.slu n 0 _ te'.size gc _ _ hi (by omega) g9, ?_⟩⟩
                have hwl : (win cs off (len * te'.size) ++ W).length ≤ gc * te'.size := by
                  rw [List.length_append, ← h3.1, S.newsLen, hwn, ← Nat.add_mul]; exact Nat.mul_le_mul_right _ g9
                refine ⟨C, el, (0, 0), g7, fun j _ hj => by dsimp only at hj; omega, g8, hwl, (fun hh => by cases hh), ?_⟩
                rw [List.length_append, ← q2.1, ← h3.1, g10]
                exact (q2.append h3).mono hle
        | none =>
          dsimp only at hr
          cases hz : Nat.beq m 0 with
          | true =>
            rw [hz] at hr
            cases hr
            refine zero (Nat.eq_of_beq_eq_true hz) fun ι a w H E => ?_
            obtain ⟨rr, mm, hi, _⟩ := H.blk _ _ hb
            obtain ⟨c', h1, _, h2⟩ := sl_inv (ev_rel E hx) hi
            exact ⟨_, _, _, h1, (h2 rfl).2⟩
          | false =>
            rw [hz, cond_false] at hr
            cases hc : Nat.beq off 0 && Nat.beq cs.length (len * te'.size) && more with
            | false => rw [hc] at hr; cases hr
            | true =>
              rw [hc] at hr
              cases hr
              simp only [Bool.and_eq_true] at hc
              obtain ⟨⟨hc1, hc2⟩, hmore⟩ := hc
              have hc1 := Nat.eq_of_beq_eq_true hc1
              have hc2 := Nat.eq_of_beq_eq_true hc2
              subst hc1 hmore
              refine ⟨?_, fun ι a w pre K Q hK => ?_⟩
              · have := lmin_l id lo; have := lmin_r id lo
                refine ⟨by dsimp only; omega, by dsimp only; omega, fun h => by dsimp only; omega, fun hl j hj => ?_, fun hbd j b hj => ?_, fun j hj hn => ?_⟩
                · dsimp only at hj ⊢; rw [Tr.get_set, if_neg (by omega), Tr.get_del, if_neg (by omega)]
                · dsimp only at hj ⊢
                  rw [Tr.get_set] at hj
                  split at hj
                  · omega
                  · rw [Tr.get_del] at hj
                    split at hj
                    · cases hj
                    · have := hbd j b hj; omega
                · dsimp only
                  rw [Tr.get_set, if_neg (by omega), Tr.get_del]
                  split
                  · rfl
                  · exact hn
              · have H := pre.heap
                have E := pre.env
                have h0 := pre.free n (Nat.le_refl _)
                obtain ⟨rr, mm, hi, hB⟩ := H.blk _ _ hb
                obtain ⟨c', h1, _, h2⟩ := sl_inv (ev_rel E hx) hi
                obtain ⟨h2, h2'⟩ := h2 rfl
                obtain ⟨news, h3, S⟩ := src_good H (ev_rel E hy) hsrc hf
                have hwin : win cs 0 (len * te'.size) = cs := by unfold Ab.win; rw [List.drop_zero, ← hc2, List.take_length]
                have hne : id ≠ n := fun hh => by rw [hh, h0] at hi; cases hi
                have eget : ((h.del id).set n (.cells (cs ++ W) true)).get = fun j => if j = n then some (.cells (cs ++ W) true) else if j = id then none else h.get j := by
                  funext j; rw [Tr.get_set]; split
                  · rfl
                  · rw [Tr.get_del]
                -- the state behind it, wherever the row lies
                have fin : ∀ (r2 gc : Nat) (w' : World), (Builtin.append_ #[t, tx] o.type #[a.eval x, a.eval y]).run P w = .ok (.slice (some ⟨r2, 0, none⟩) (len + m) gc) w' → w'.os = w.os → w'.tape = w.tape → w'.output = w.output → w.heap.size ≤ w'.heap.size → (∀ r', r' < w.heap.size → r' ≠ rr → w'.heap[r']? = w.heap[r']?) →
                    (r2 = rr ∨ w.heap.size ≤ r2) → len + m ≤ gc → (∀ ι', Io.le ι ι' → BRel ι' w' (.cells (cs ++ W) true) r2 (gc * te'.size)) → K (a.put o.dst (.slice (some ⟨r2, 0, none⟩) (len + m) gc)) w' := fun r2 gc w' q1 q2 q3 q4 q5 q6 q7 q8 q9 => by
                  have hle := le_updI (ι := ι) (id := n) (r := r2) (m := gc * te'.size) h0
                  refine hK (updI ι n r2 (gc * te'.size)) _ w' (.slu n 0 _ te'.size gc r2 (gc * te'.size) (by simp [updI]) (by omega) q8) ?_ ?_
                  · dsimp only
                    rw [eget]
                    have live : ∀ j b, j ≠ n → j ≠ id → h.get j = some b → ∃ r m, ι j = some (r, m) ∧ BRel ι w b r m ∧ r ≠ rr := fun j b j1 j2 jb => by
                      obtain ⟨r, m, s1, s2⟩ := H.blk j b jb
                      refine ⟨r, m, s1, s2, ?_⟩
                      rintro rfl
                      exact j2 (H.inj j id b _ r m mm jb hb s1 hi)
                    refine ⟨fun j b hj => ?_, fun i j b1 b2 r m1 m2 s1 s2 s3 s4 => ?_⟩
                    · try dsimp only at hj
                      split at hj
                      · rename_i hjn; subst hjn; cases hj; exact ⟨r2, _, by simp [updI], q9 _ hle⟩
                      · rename_i hjn
                        split at hj
                        · cases hj
                        · rename_i hji
                          obtain ⟨r, m, s1, s2, s3⟩ := live j b hjn hji hj
                          exact ⟨r, m, by simp [updI, hjn, s1], s2.mono hle (q6 r s2.lt s3)⟩
                    · try dsimp only at s1 s2
                      unfold updI at s3 s4
                      split at s1 <;> split at s2
                      · omega
                      · rename_i e1 e2
                        split at s2
                        · cases s2
                        · rename_i e3
                          rw [if_pos e1] at s3; rw [if_neg e2] at s4
                          cases s3
                          obtain ⟨r', m', u1, u2, u3⟩ := live j b2 e2 e3 s2
                          rw [s4] at u1; cases u1
                          have := u2.lt
                          rcases q7 with q7 | q7
                          · exact absurd q7 u3
                          · omega
                      · rename_i e1 e2
                        split at s1
                        · cases s1
                        · rename_i e3
                          rw [if_neg e1] at s3; rw [if_pos e2] at s4
                          cases s4
                          obtain ⟨r', m', u1, u2, u3⟩ := live i b1 e1 e3 s1
                          rw [s3] at u1; cases u1
                          have := u2.lt
                          rcases q7 with q7 | q7
                          · exact absurd q7 u3
                          · omega
                      · rename_i e1 e2
                        split at s1
                        · cases s1
                        · split at s2
                          · cases s2
                          · rw [if_neg e1] at s3; rw [if_neg e2] at s4
                            exact H.inj i j b1 b2 r m1 m2 s1 s2 s3 s4
                  · dsimp only
                    rw [eget]
                    refine ⟨q2, q3, q4, q5, by omega, fun j hj => by unfold updI; rw [if_neg (by omega)], fun r' hr' hn => q6 r' hr' ?_, fun j b r m s1 s2 s3 => ?_⟩
                    · rintro rfl; exact hn id _ mm hb hi
                    · try dsimp only at s1
                      unfold updI at s2
                      split at s1
                      · rename_i hjn
                        rw [if_pos hjn] at s2
                        cases s2
                        rcases q7 with q7 | q7
                        · subst q7; exact ⟨id, _, mm, hb, hi⟩
                        · omega
                      · rename_i hjn
                        split at s1
                        · cases s1
                        · rw [if_neg hjn] at s2; exact ⟨j, b, m, s1, s2⟩
                have hwl : ∀ gc, len + m ≤ gc → (cs ++ W).length ≤ gc * te'.size := fun gc hg => by
                  rw [List.length_append, ← h3.1, S.newsLen, hc2, ← Nat.add_mul]; exact Nat.mul_le_mul_right _ hg
                unfold Oper.wp
                by_cases hroom : len + m ≤ c'
                · obtain ⟨C, tt, fz, hC, hfz, hsz, hle2, hmo, hl⟩ := hB
                  have hmc : mm = c' * te'.size := by omega
                  have hnl : len * te'.size + news.length ≤ C.size := by rw [S.newsLen, hsz, hmc, ← Nat.add_mul]; exact Nat.mul_le_mul_right _ hroom
                  have hst := run_storeV (P := P) (off := len * te'.size) hC hfz hsz news (by omega) S.one
                  obtain ⟨g1, g2, g3, g4, g5, g6⟩ := setCells_spec news (len * te'.size) C w hC hnl
                  have hu := (TO t te ht).slice hs
                  have hrun : (Builtin.append_ #[t, tx] o.type #[a.eval x, a.eval y]).run P w = .ok (.slice (some ⟨rr, 0, none⟩) (len + m) c') (w.setCells rr (len * te'.size) news) := by
                    rw [h1]
                    rcases S.kind with ⟨e', hk⟩ | hk <;> simp [Builtin.append_, run_underlying hu, run_underlying hk, (TO el te' hel).size, S.len, hroom, S.cells, Addr.add_mid, hst]
                  rw [run a w _ _ hrun, Oper.upon_value]
                  refine fin rr c' _ hrun g4 g5 g6 (by rw [g3]; exact Nat.le_refl _) (fun r' _ h' => g2 r' h') (.inl rfl) hroom fun ι' hle => ⟨_, tt, fz, g1, by rw [← hmc]; exact hfz, ?_, hwl c' hroom, (fun hh => by cases hh), ?_⟩
                  · simp [Ab.setW]; omega
                  · have e5 : (setW C.toList (len * te'.size) news).take (cs ++ W).length = C.toList.take cs.length ++ news := by
                      unfold Ab.setW
                      rw [List.length_append, hc2, ← h3.1]
                      have : (C.toList.take (len * te'.size)).length = len * te'.size := by rw [List.length_take]; simp; omega
                      rw [List.take_append_of_le_length (by rw [List.length_append, this]; exact Nat.le_refl _), List.take_of_length_le (by rw [List.length_append, this]; exact Nat.le_refl _)]
                    rw [List.toList_toArray, e5]
                    exact ((hl.append h3)).mono hle
                · obtain ⟨olds, q1, q2, q3⟩ := cells_win hB (by rw [hwin]; exact hc2)
                  obtain ⟨w', gc, C, g1, g2, g3, g4, g5, g6, g7, g8, g9, g10⟩ := grow_run (ty := o.type) (TO t te ht) hs (TO el te' hel) hk2 q1 (run_firstCells_some w.drew te'.size len ⟨rr, 0, none⟩ len c' olds q1 (fun j u hj => by rw [Addr.add_mid]; exact q3 j u hj)) S (by omega) hb1 hb2
                  rw [← h1] at g1
                  rw [run a w _ _ g1, Oper.upon_value]
                  refine fin _ gc w' g1 g2 g3 g4 (by omega) (fun r' hr' _ => g6 r' hr') (.inr (Nat.le_refl _)) g9 fun ι' hle => ⟨C, el, (0, 0), g7, fun j _ hj => by dsimp only at hj; omega, g8, hwl gc g9, (fun hh => by cases hh), ?_⟩
                  rw [List.length_append, ← h3.1]
                  have hq : cs.length = olds.length := by rw [hc2, q1]
                  rw [hq, g10]
                  rw [hwin] at q2
                  exact (q2.append h3).mono hle
      · cases hr
  · cases hr
end
end Go.Proofs.Ytplgpbadpdmeeaa.Rn

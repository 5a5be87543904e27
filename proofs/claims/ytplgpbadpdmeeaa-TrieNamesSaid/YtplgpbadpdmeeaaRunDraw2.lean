/-
  A runner of closed code: regions that draw their order, carried out in whatever order.
-/
import Derived.Test.YtplgpbadpdmeeaaRunDraw
namespace Go.Proofs.Ytplgpbadpdmeeaa.Rn
set_option linter.unusedVariables false
open Go.RowKit
open Go.Proofs.Ytplgpbadpdmeeaa.Ab (TE TTab tlook TabOk TFacts win setW setW_get win_get Sh)

/-- The state, where just those of L have been carried out. -/
structure Mid (Df : List Deferred) (n0 nt : Nat) (g0 : Gm) (e0 : Nat → Option V) (R : List Rec) (L : Nat → Bool) (ι0 : Io) (w0 : World) (ι : Io) (a : Act) (w : World) : Prop where
  blk : ∀ id b, HR g0 L R id = some b → ∃ r m, ι id = some (r, m) ∧ id < NR n0 L R id ∧ BRel (ι.cut (NR n0 L R id)) w b r m
  inj : ∀ i j b b' r m m', HR g0 L R i = some b → HR g0 L R j = some b' → ι i = some (r, m) → ι j = some (r, m') → i = j
  env : ∀ t v, ER e0 L R t = some v → ∃ u, a.tmps[t]? = some u ∧ VRel (ι.cut (MR n0 L R t)) v u
  sup : ∀ id, ι id ≠ none → id < n0 ∨ ∃ pre r rest, R = pre ++ r :: rest ∧ L rest.length = true ∧ r.n ≤ id ∧ id < r.n'
  ex : Ex n0 (lastN n0 R) ι0 g0 w0 ι (HR g0 L R) w
  defers : a.defers = Df
  size : nt ≤ a.tmps.size
theorem cut_get {ι : Io} {N id : Nat} (h : id < N) : ι.cut N id = ι id := by unfold Io.cut; rw [if_pos h]
section
variable {P : Program} {ops : Array Oper} {g0 : Gm} {e0 : Nat → Option V} {n0 nt : Nat}
theorem Mid.step {Df : List Deferred} {R pre rest : List Rec} {r : Rec} {L : Nat → Bool} {ι0 ι : Io} {w0 w : World} {a : Act} (hR : R = pre ++ r :: rest) (h : AllOk P ops g0 e0 n0 nt R) (hc : Closed R L) (hi : L rest.length = false) (hm : ∀ j, tb r.msk j = true → L j = true) (M : Mid Df n0 nt g0 e0 R L ι0 w0 ι a w)
    {o : Oper} (ho : ops[rest.length]? = some o) (K : Act → World → Prop) (Q : Exit → Act → World → Prop) (hK : ∀ ι' a' w', Mid Df n0 nt g0 e0 R (ins L rest.length) ι0 w0 ι' a' w' → K a' w') :
    if Region.wanted o (yielded ops a.tmps) then o.wp P a w K Q else K (a.put o.dst undef) w := by
  subst hR
  have hr := h.at
  obtain ⟨o', ho', hdst, ej, hej, hcase⟩ := hr.op
  rw [ho] at ho'
  cases ho'
  -- the numbers of this one are not given yet
  have hfree : ∀ id, r.n ≤ id → id < r.n' → ι id = none := fun id h1 h2 => by
    cases hx : ι id with
    | none => rfl
    | some x =>
      exfalso
      have hn := (nums_le h).2 r (by simp)
      rcases M.sup id (by rw [hx]; simp) with h3 | ⟨p1, q, p2, hq, hl, h4, h5⟩
      · omega
      · -- another one's range
        rcases Nat.lt_trichotomy p2.length rest.length with hlt | heq | hgt
        · have : ∃ mid, rest = mid ++ q :: p2 := by
            have e1 : (pre ++ r :: rest).drop ((pre ++ r :: rest).length - (p2.length + 1)) = q :: p2 := by rw [hq]; simp
            have e2 : (pre ++ r :: rest).drop ((pre ++ r :: rest).length - (p2.length + 1)) = rest.drop (rest.length - (p2.length + 1)) := by
              have : (pre ++ r :: rest).length - (p2.length + 1) = (pre ++ [r]).length + (rest.length - (p2.length + 1)) := by simp; omega
              rw [this, show pre ++ r :: rest = (pre ++ [r]) ++ rest by simp, List.drop_length_add_append]
            refine ⟨rest.take (rest.length - (p2.length + 1)), ?_⟩
            rw [← e1, e2, List.take_append_drop]
          obtain ⟨mid, rfl⟩ := this
          have := nums_apart h
          omega
        · have : q = r := by
            have e1 : (pre ++ r :: rest)[(pre ++ r :: rest).length - (rest.length + 1)]? = some r := by
              rw [List.getElem?_append_right (by simp)]; simp
            have e2 : (p1 ++ q :: p2)[(p1 ++ q :: p2).length - (p2.length + 1)]? = some q := by
              rw [List.getElem?_append_right (by simp)]; simp
            rw [hq, ← heq, e2] at e1
            exact Option.some.inj e1
          subst this
          rw [heq, hi] at hl; cases hl
        · have : ∃ mid, p2 = mid ++ r :: rest := by
            have e1 : (p1 ++ q :: p2).drop ((p1 ++ q :: p2).length - (rest.length + 1)) = r :: rest := by rw [← hq]; simp
            have e2 : (p1 ++ q :: p2).drop ((p1 ++ q :: p2).length - (rest.length + 1)) = p2.drop (p2.length - (rest.length + 1)) := by
              have : (p1 ++ q :: p2).length - (rest.length + 1) = (p1 ++ [q]).length + (p2.length - (rest.length + 1)) := by simp; omega
              rw [this, show p1 ++ q :: p2 = (p1 ++ [q]) ++ p2 by simp, List.drop_length_add_append]
            refine ⟨p2.take (p2.length - (rest.length + 1)), ?_⟩
            rw [← e1, e2, List.take_append_drop]
          obtain ⟨mid, rfl⟩ := this
          rw [hq] at h
          have := nums_apart h
          omega
  -- the slots that it looks at
  have hE : ERel (ι.cut r.n) ej a := fun t c ht => by
    obtain ⟨h1, h2⟩ := hej t c ht
    obtain ⟨h3, h4⟩ := slots h hc hi hm h1 h2
    obtain ⟨u, h5, h6⟩ := M.env t c h3
    exact ⟨u, h5, h6.mono (cut_mono h4 fun _ _ h => h)⟩
  have hnn := hr.nums.2
  have hlast := (nums_le h).2 r (by simp)
  have hsup : ∀ id, (id < n0 ∨ ∃ p1 q p2, pre ++ r :: rest = p1 ++ q :: p2 ∧ L p2.length = true ∧ q.n ≤ id ∧ id < q.n') → (id < n0 ∨ ∃ p1 q p2, pre ++ r :: rest = p1 ++ q :: p2 ∧ ins L rest.length p2.length = true ∧ q.n ≤ id ∧ id < q.n') := fun id hh => by
    rcases hh with h3 | ⟨p1, q, p2, hq, hl, h4⟩
    · exact .inl h3
    · refine .inr ⟨p1, q, p2, hq, ?_, h4⟩
      by_cases he : p2.length = rest.length
      · rw [he, ins_self]
      · rw [ins_ne he]; exact hl
  rcases hcase with ⟨hw, hv, hdl, hn'⟩ | ⟨hw, hin, hout, hwp, hh, hho, hrd, _⟩
  · -- it is left out
    rw [wantV_rel hE hw]
    refine hK ι _ w ?_
    have hsame := fun id => ins_same (g0 := g0) (n0 := n0) (pre := pre) (r := r) hi (id := id) (by rw [hdl]; rfl)
    have e1 : HR g0 (ins L rest.length) (pre ++ r :: rest) = HR g0 L (pre ++ r :: rest) := funext fun id => (hsame id).1
    refine ⟨fun id b hb => ?_, ?_, fun t v ht => ?_, fun id hid => hsup id (M.sup id hid), by rw [e1]; exact M.ex, by rw [Ab.put_defers]; exact M.defers, by rw [Ab.put_size]; exact M.size⟩
    · rw [(hsame id).2]; rw [e1] at hb; exact M.blk id b hb
    · rw [e1]; exact M.inj
    · by_cases hd : r.dst = some t
      · obtain ⟨h1, h2⟩ := (ins_slot (e0 := e0) h hi (t := t)).1 hd
        rw [h1] at ht
        cases ht
        have := (hr.dsts t hd).1
        have hlt : t < a.tmps.size := Nat.lt_of_lt_of_le this M.size
        exact ⟨undef, by rw [hdst, hd]; simp [Act.put, hlt], by rw [hv]; exact .sc _⟩
      · obtain ⟨h1, h2⟩ := (ins_slot (e0 := e0) h hi (t := t)).2 hd
        rw [h1] at ht
        obtain ⟨u, h3, h4⟩ := M.env t v ht
        refine ⟨u, ?_, by rw [h2]; exact h4⟩
        rw [hdst]
        cases hdd : r.dst with
        | none => exact h3
        | some d =>
          have : d ≠ t := by rintro rfl; exact hd hdd
          simp [Act.put, Array.getElem?_setIfInBounds_ne this, h3]
  · rw [wantV_rel hE hw, if_pos rfl]
    have hin2 : ∀ id b, hin.get id = some b → HR g0 L (pre ++ r :: rest) id = some b ∧ NR n0 L (pre ++ r :: rest) id ≤ r.n := fun id b hb => looks h hc hi hm (hh id b hb).1 (hh id b hb).2
    have hH : HRel (ι.cut r.n) hin.get w := by
      refine ⟨fun id b hb => ?_, fun i j b b' rr m m' h1 h2 h3 h4 => M.inj i j b b' rr m m' (hin2 i b h1).1 (hin2 j b' h2).1 (cut_le _ _ _ _ h3) (cut_le _ _ _ _ h4)⟩
      obtain ⟨h1, h2⟩ := hin2 id b hb
      obtain ⟨rr, m, h3, h4, h5⟩ := M.blk id b h1
      exact ⟨rr, m, by rw [cut_get (by omega)]; exact h3, h5.mono (cut_mono h2 fun _ _ h => h) rfl⟩
    have hF : Free (ι.cut r.n) r.n r.n' := fun id hid => by unfold Io.cut; rw [if_neg (by omega)]
    refine hwp (ι.cut r.n) a w ⟨hH, hE, hF⟩ K Q fun ι' u w' hv hH' hX => ?_
    have F3 := hX.io hF
    obtain ⟨ιn, hιn⟩ : ∃ ιn : Io, ιn = fun id => if r.n ≤ id ∧ id < r.n' then ι' id else ι id := ⟨_, rfl⟩
    have F1 : ιn.cut r.n' = ι' := by
      funext id
      unfold Io.cut
      rw [hιn]
      dsimp only
      by_cases h1 : id < r.n'
      · rw [if_pos h1]
        by_cases h2 : r.n ≤ id
        · rw [if_pos ⟨h2, h1⟩]
        · rw [if_neg (by omega), hX.same id (by omega), cut_get (by omega)]
      · rw [if_neg h1, hX.same id (by omega)]
        unfold Io.cut; rw [if_neg (by omega)]
    have F2 : Io.le ι ιn := fun id x hx => by
      rw [hιn]
      dsimp only
      split
      · rename_i h1; rw [hfree id h1.1 h1.2] at hx; cases hx
      · exact hx
    have F4 : ∀ id x, ι' id = some x → ιn id = some x := fun id x hx => cut_le ιn r.n' id x (by rw [F1]; exact hx)
    -- each living block: one that it had, or one beside
    have cls : ∀ id b, HR g0 (ins L rest.length) (pre ++ r :: rest) id = some b →
        (hout.get id = some b ∧ (∃ x, ι' id = some x)) ∨ (hin.get id = none ∧ lookD r.dl id = none ∧ HR g0 L (pre ++ r :: rest) id = some b) := fun id b hb => by
      cases hd : lookD r.dl id with
      | some x =>
        have := (ins_new (g0 := g0) h hc hi hd).1
        rw [hb] at this
        have hg : hout.get id = some b := by rw [hho, hd]; exact this.symm
        obtain ⟨rr, m, h1, _⟩ := hH'.blk id b hg
        exact .inl ⟨hg, _, h1⟩
      | none =>
        have hs := (ins_same (g0 := g0) (n0 := n0) (pre := pre) (r := r) hi (id := id) hd).1
        rw [hb] at hs
        cases hg : hin.get id with
        | none => exact .inr ⟨rfl, rfl, hs.symm⟩
        | some b' =>
          have := (hin2 id b' hg).1
          rw [← hs] at this
          cases this
          have hg2 : hout.get id = some b := by rw [hho, hd]; exact hg
          obtain ⟨rr, m, h1, _⟩ := hH'.blk id b hg2
          exact .inl ⟨hg2, _, h1⟩
    -- a block that lay there before, and is one of its own, is one of those that it had
    have had : ∀ id b rr m, hout.get id = some b → ι' id = some (rr, m) → rr < w.heap.size → ∃ k b' m', hin.get k = some b' ∧ ι k = some (rr, m') ∧ HR g0 L (pre ++ r :: rest) k = some b' := fun id b rr m h1 h2 h3 => by
      obtain ⟨k, b', m', h4, h5⟩ := hX.old id b rr m h1 h2 h3
      exact ⟨k, b', m', h4, cut_le _ _ _ _ h5, (hin2 k b' h4).1⟩
    refine hK ιn _ w' ⟨fun id b hb => ?_, fun i j b b' rr m m' h1 h2 h3 h4 => ?_, fun t v ht => ?_, fun id hid => ?_, ?_, by rw [Ab.put_defers]; exact M.defers, by rw [Ab.put_size]; exact M.size⟩
    · cases hd : lookD r.dl id with
      | some x =>
        obtain ⟨g1, g2⟩ := ins_new (g0 := g0) h hc hi hd
        rw [hb] at g1
        have hg : hout.get id = some b := by rw [hho, hd]; exact g1.symm
        obtain ⟨rr, m, q1, q2⟩ := hH'.blk id b hg
        refine ⟨rr, m, F4 _ _ q1, ?_, by rw [g2, F1]; exact q2⟩
        rw [g2]
        rcases Nat.lt_or_ge id r.n' with h1 | h1
        · exact h1
        · rw [← F1] at q1; unfold Io.cut at q1; rw [if_neg (by omega)] at q1; cases q1
      | none =>
        obtain ⟨g1, g2⟩ := ins_same (g0 := g0) (n0 := n0) (pre := pre) (r := r) hi (id := id) hd
        rw [g1] at hb
        rw [g2]
        obtain ⟨rr, m, q1, q2, q3⟩ := M.blk id b hb
        refine ⟨rr, m, F2 _ _ q1, q2, ?_⟩
        cases hg : hin.get id with
        | none =>
          refine q3.mono (cut_mono (Nat.le_refl _) F2) (hX.mem rr q3.lt fun id2 b2 m2 k1 k2 => ?_)
          have := M.inj id2 id b2 b rr m2 m (hin2 id2 b2 k1).1 hb (cut_le _ _ _ _ k2) q1
          subst this
          rw [hg] at k1; cases k1
        | some b' =>
          obtain ⟨k1, k2⟩ := hin2 id b' hg
          rw [hb] at k1
          cases k1
          have hg2 : hout.get id = some b := by rw [hho, hd]; exact hg
          obtain ⟨rr', m', k3, k4⟩ := hH'.blk id b hg2
          have k5 : (ι.cut r.n) id = some (rr, m) := by rw [cut_get (by omega)]; exact q1
          rw [F3 _ _ k5] at k3
          cases k3
          have hle : Io.le (ι.cut (NR n0 L (pre ++ r :: rest) id)) ι' := fun j x hx => F3 _ _ (cut_mono k2 (fun _ _ h => h) j x hx)
          exact (q3.back hle k4).mono (cut_mono (Nat.le_refl _) F2) rfl
    · rcases cls i b h1 with ⟨a1, x1, a2⟩ | ⟨b1, b2, b3⟩ <;> rcases cls j b' h2 with ⟨c1, x2, c2⟩ | ⟨d1, d2, d3⟩
      · have e1 := F4 _ _ a2; have e2 := F4 _ _ c2
        rw [h3] at e1; rw [h4] at e2
        cases e1; cases e2
        exact hH'.inj i j b b' rr m m' a1 c1 a2 c2
      · have e1 := F4 _ _ a2
        rw [h3] at e1; cases e1
        obtain ⟨rr2, m2, q1, _, q3⟩ := M.blk j b' d3
        have e2 := F2 _ _ q1
        rw [h4] at e2; cases e2
        obtain ⟨k, bk, mk, k1, k2, k3⟩ := had i b rr m a1 a2 q3.lt
        have := M.inj j k b' bk rr m' mk d3 k3 q1 k2
        subst this
        rw [d1] at k1; cases k1
      · have e1 := F4 _ _ c2
        rw [h4] at e1; cases e1
        obtain ⟨rr2, m2, q1, _, q3⟩ := M.blk i b b3
        have e2 := F2 _ _ q1
        rw [h3] at e2; cases e2
        obtain ⟨k, bk, mk, k1, k2, k3⟩ := had j b' rr m' c1 c2 q3.lt
        have := M.inj i k b bk rr m mk b3 k3 q1 k2
        subst this
        rw [b1] at k1; cases k1
      · obtain ⟨rr2, m2, q1, _, q3⟩ := M.blk i b b3
        obtain ⟨rr3, m3, q4, _, q5⟩ := M.blk j b' d3
        have e1 := F2 _ _ q1; rw [h3] at e1; cases e1
        have e2 := F2 _ _ q4; rw [h4] at e2; cases e2
        exact M.inj i j b b' rr m m' b3 d3 q1 q4
    · by_cases hd : r.dst = some t
      · obtain ⟨h1, h2⟩ := (ins_slot (e0 := e0) h hi (t := t)).1 hd
        rw [h1] at ht
        cases ht
        have := (hr.dsts t hd).1
        have hlt : t < a.tmps.size := Nat.lt_of_lt_of_le this M.size
        exact ⟨u, by rw [hdst, hd]; simp [Act.put, hlt], by rw [h2, F1]; exact hv⟩
      · obtain ⟨h1, h2⟩ := (ins_slot (e0 := e0) h hi (t := t)).2 hd
        rw [h1] at ht
        obtain ⟨u', h3, h4⟩ := M.env t v ht
        refine ⟨u', ?_, by rw [h2]; exact h4.mono (cut_mono (Nat.le_refl _) F2)⟩
        rw [hdst]
        cases hdd : r.dst with
        | none => exact h3
        | some d =>
          have : d ≠ t := by rintro rfl; exact hd hdd
          simp [Act.put, Array.getElem?_setIfInBounds_ne this, h3]
    · rw [hιn] at hid
      dsimp only at hid
      split at hid
      · rename_i h1; exact .inr ⟨pre, r, rest, rfl, ins_self _ _, h1.1, h1.2⟩
      · exact hsup id (M.sup id hid)
    · have X0 := M.ex
      refine ⟨hX.os.trans X0.os, hX.tape.trans X0.tape, hX.output.trans X0.output, Nat.le_trans X0.size hX.size, X0.le, fun id hid => ?_, fun rr hrr hn => ?_, fun id b rr m k1 k2 k3 => ?_⟩
      · rw [hιn]
        dsimp only
        rw [if_neg (by omega)]
        exact X0.same id hid
      · rw [hX.mem rr (Nat.lt_of_lt_of_le hrr X0.size) fun id b m k1 k2 => ?_]
        · exact X0.mem rr hrr hn
        · obtain ⟨j, b', m', k3, k4⟩ := X0.old id b rr m (hin2 id b k1).1 (cut_le _ _ _ _ k2) hrr
          exact hn j b' m' k3 k4
      · rcases cls id b k1 with ⟨a1, x1, a2⟩ | ⟨b1, b2, b3⟩
        · have e1 := F4 _ _ a2
          rw [k2] at e1; cases e1
          obtain ⟨k, bk, mk, q1, q2, q3⟩ := had id b rr m a1 a2 (Nat.lt_of_lt_of_le k3 X0.size)
          exact X0.old k bk rr mk q3 q2 k3
        · obtain ⟨rr2, m2, q1, _, q3⟩ := M.blk id b b3
          have e1 := F2 _ _ q1; rw [k2] at e1; cases e1
          exact X0.old id b rr m b3 q1 k3

/-! In whatever order -/
def setL (listed : Array Bool) : Nat → Bool := fun j => listed.getD j false
theorem setL_ins {listed : Array Bool} {i : Nat} (h : i < listed.size) : setL (listed.setIfInBounds i true) = ins (setL listed) i := by
  funext j
  unfold setL ins
  by_cases hj : j = i
  · subst hj; simp [h]
  · rw [Ab.beq_no hj, Bool.false_or]; exact getD_set_ne false (Ne.symm hj)
theorem at_of {α : Type} {R : List α} {i : Nat} (h : i < R.length) : ∃ pre r rest, R = pre ++ r :: rest ∧ rest.length = i := by
  refine ⟨R.take (R.length - (i + 1)), R[R.length - (i + 1)], R.drop (R.length - i), ?_, by simp; omega⟩
  have : R.drop (R.length - (i + 1)) = R[R.length - (i + 1)] :: R.drop (R.length - (i + 1) + 1) := List.drop_eq_getElem_cons (by omega)
  rw [show R.length - i = R.length - (i + 1) + 1 by omega, ← this, List.take_append_drop]
def cnt (L : Nat → Bool) : Nat → Nat
  | 0 => 0
  | n + 1 => cnt L n + cond (L n) 0 1
theorem cnt_ins {L : Nat → Bool} {i : Nat} (hi : L i = false) : ∀ n, (n ≤ i → cnt (ins L i) n = cnt L n) ∧ (i < n → cnt (ins L i) n + 1 = cnt L n)
  | 0 => ⟨fun _ => rfl, fun h => by omega⟩
  | n + 1 => by
    obtain ⟨h1, h2⟩ := cnt_ins hi n
    rw [cnt, cnt]
    refine ⟨fun h => ?_, fun h => ?_⟩
    · rw [h1 (by omega), ins_ne (by omega)]
    · by_cases he : n = i
      · subst he; rw [h1 (Nat.le_refl _), ins_self, hi]; rfl
      · rw [ins_ne he]
        have := h2 (by omega)
        omega
theorem cnt_zero {L : Nat → Bool} : ∀ {n}, cnt L n = 0 → ∀ i, i < n → L i = true
  | n + 1, h, i, hi => by
    rw [cnt] at h
    by_cases he : i = n
    · subst he
      cases hl : L i with
      | true => rfl
      | false => rw [hl] at h; simp at h
    · exact cnt_zero (n := n) (by omega) i (by omega)
theorem any_good {Df : List Deferred} {R : List Rec} (h : AllOk P ops g0 e0 n0 nt R) (hlen : R.length = ops.size) (hed : ∀ i o, ops[i]? = some o → ∀ ed ∈ o.after, Region.binds .any ed = true → ed.on < i) {ι0 : Io} {w0 : World} {Q : Exit → Act → World → Prop} (hQ : ∀ ι a w L, (∀ j, j < R.length → L j = true) → Mid Df n0 nt g0 e0 R L ι0 w0 ι a w → Q .normal a w) :
    ∀ (fuel : Nat) (listed : Array Bool) (ι : Io) (a : Act) (w : World), listed.size = ops.size → Closed R (setL listed) → Mid Df n0 nt g0 e0 R (setL listed) ι0 w0 ι a w → cnt (setL listed) ops.size ≤ fuel → wpAny P .any ops Q fuel listed a w := by
  have hgd : ∀ (listed : Array Bool) j, j < listed.size → listed.getD j true = setL listed j := fun listed j hj => by
    unfold setL; simp [Array.getD, hj]
  have done : ∀ (listed : Array Bool) (ι : Io) (a : Act) (w : World), listed.size = ops.size → Closed R (setL listed) → Mid Df n0 nt g0 e0 R (setL listed) ι0 w0 ι a w → Region.ready .any ops listed = [] → Q .normal a w := by
    intro listed ι a w hsz hc M hr
    refine hQ ι a w (setL listed) ?_ M
    -- else the least one that is not listed is ready
    intro j
    induction j using Nat.strongRecOn with
    | _ j ih =>
      intro hj
      cases hl : setL listed j with
      | true => rfl
      | false =>
        exfalso
        have hjs : j < ops.size := by omega
        have hrj : j ∈ Region.ready .any ops listed := by
          rw [mem_ready]
          refine ⟨by rw [hgd listed j (by omega)]; exact hl, ops[j], Array.getElem?_eq_getElem _, fun ed hed' hb => ?_⟩
          have h1 := hed j _ (Array.getElem?_eq_getElem hjs) ed hed' hb
          exact ih ed.on h1 (by omega)
        rw [hr] at hrj; cases hrj
  intro fuel
  induction fuel with
  | zero =>
    intro listed ι a w hsz hc M hcnt
    have hall := cnt_zero (Nat.le_zero.1 hcnt)
    have hr : Region.ready .any ops listed = [] := by
      apply List.eq_nil_iff_forall_not_mem.2
      intro j hj
      obtain ⟨h1, o, ho, _⟩ := mem_ready.1 hj
      have hjs : j < ops.size := (Array.getElem?_eq_some_iff.1 ho).1
      rw [hgd listed j (by omega), hall j hjs] at h1
      cases h1
    exact ⟨hr, done listed ι a w hsz hc M hr⟩
  | succ fuel ih =>
    intro listed ι a w hsz hc M hcnt
    refine ⟨done listed ι a w hsz hc M, fun i hi => ?_⟩
    obtain ⟨h1, o, ho, hall⟩ := mem_ready.1 hi
    have his : i < ops.size := (Array.getElem?_eq_some_iff.1 ho).1
    rw [hgd listed i (by omega)] at h1
    obtain ⟨pre, r, rest, hR, hri⟩ := at_of (R := R) (i := i) (by omega)
    subst hri
    have hr : RecOk P ops g0 e0 n0 nt rest r := by rw [hR] at h; exact h.at
    have hm : ∀ j, tb r.msk j = true → setL listed j = true := fun j hj => by
      obtain ⟨hlt, o', ho', ed, hed', hb, hcase⟩ := hr.waits j hj
      rw [ho] at ho'
      cases ho'
      have hl : setL listed ed.on = true := hall ed hed' hb
      rcases hcase with rfl | ⟨q, rest', ⟨p2, hp2⟩, hlen', hq⟩
      · exact hl
      · refine hc (pre ++ r :: p2) q rest' (by rw [hR, hp2]; simp) (by rw [hlen']; exact hl) j hq
    unfold wpOp
    simp only [ho]
    have key := Mid.step hR h hc h1 hm M ho (wpAny P .any ops Q fuel (listed.setIfInBounds rest.length true)) Q fun ι' a' w' M' => by
      have e1 : setL (listed.setIfInBounds rest.length true) = ins (setL listed) rest.length := setL_ins (by omega)
      refine ih _ ι' a' w' (by simpa using hsz) ?_ (by rw [e1]; exact M') ?_
      · rw [e1]
        intro p1 q p2 hq hl j hj
        by_cases he : p2.length = rest.length
        · have : q = r := by
            have a1 : R[R.length - (rest.length + 1)]? = some r := by rw [hR, List.getElem?_append_right (by simp)]; simp
            have a2 : R[R.length - (p2.length + 1)]? = some q := by rw [hq, List.getElem?_append_right (by simp)]; simp
            rw [he, a1] at a2
            exact (Option.some.inj a2).symm
          subst this
          by_cases hj2 : j = rest.length
          · rw [hj2, ins_self]
          · rw [ins_ne hj2]; exact hm j hj
        · rw [ins_ne he] at hl
          by_cases hj2 : j = rest.length
          · rw [hj2, ins_self]
          · rw [ins_ne hj2]; exact hc p1 q p2 hq hl j hj
      · rw [e1]
        have := (cnt_ins h1 ops.size).2 his
        omega
    split at key
    · rename_i hw; rw [if_pos hw]; exact .inl key
    · rename_i hw; rw [if_neg hw]; exact key
end
end Go.Proofs.Ytplgpbadpdmeeaa.Rn

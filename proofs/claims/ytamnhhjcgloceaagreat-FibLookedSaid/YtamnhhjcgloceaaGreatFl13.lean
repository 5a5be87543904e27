/-
  FibLooked holds: for all routes and addresses, an address is looked up by the longest prefix that leads somewhere, in whatever order routes stand.
-/
import Derived.Test.YtamnhhjcgloceaaGreatRows
import Derived.ProofKit
import Derived.SizedLaws
import Derived.JoinedCond
import Derived.Deep.CondSized
import Derived.Test.YtamnhhjcgloceaaGreatProg
import Derived.Deep.Slices
import Derived.Test.YtamnhhjcgloceaaGreatFl12
set_option linter.unusedVariables false
set_option linter.unusedSimpArgs false
namespace Go.Proofs.YtamnhhjcgloceaaGreat.Rn
set_option linter.unusedVariables false
open Go.RowKit
open Go.Proofs.YtamnhhjcgloceaaGreat.Ab (TE TTab tlook TabOk TFacts win setW setW_get win_get Sh)

structure Mid (Df : List Deferred) (n0 nt : Nat) (g0 : Gm) (e0 : Nat → Option V) (R : List Rec) (L : Nat → Bool) (ι0 : Io) (w0 : World) (ι : Io) (a : Act) (w : World) : Prop where
  blk : ∀ id b, HR g0 L R id = some b → ∃ r m, ι id = some (r, m) ∧ id < NR n0 L R id ∧ BRel (ι.cut (NR n0 L R id)) w b r m
  inj : ∀ i j b b' r m m', HR g0 L R i = some b → HR g0 L R j = some b' → ι i = some (r, m) → ι j = some (r, m') → i = j
  env : ∀ t v, ER e0 L R t = some v → ∃ u, a.tmps[t]? = some u ∧ VRel (ι.cut (MR n0 L R t)) v u
  sup : ∀ id, ι id ≠ none → id < n0 ∨ ∃ pre r rest, R = pre ++ r :: rest ∧ L rest.length = true ∧ r.n ≤ id ∧ id < r.n'
  ex : Ex n0 (lastN n0 R) ι0 g0 w0 ι (HR g0 L R) w
  defers : a.defers = Df
  size : nt ≤ a.tmps.size
theorem cut_get {ι : Io} {N id : Nat} (h : id < N) : ι.cut N id = ι id := by unfold Io.cut; rw [if_pos h]
section
variable {P : Program} {ops : Array Oper} {g0 : Gm} {e0 : Nat → Option V} {n0 nt : Nat}
theorem Mid.step {Df : List Deferred} {R pre rest : List Rec} {r : Rec} {L : Nat → Bool} {ι0 ι : Io} {w0 w : World} {a : Act} (hR : R = pre ++ r :: rest) (h : AllOk P ops g0 e0 n0 nt R) (hc : Closed R L) (hi : L rest.length = false) (hm : ∀ j, tb r.msk j = true → L j = true) (M : Mid Df n0 nt g0 e0 R L ι0 w0 ι a w)
    {o : Oper} (ho : ops[rest.length]? = some o) (K : Act → World → Prop) (Q : Exit → Act → World → Prop) (hK : ∀ ι' a' w', Mid Df n0 nt g0 e0 R (ins L rest.length) ι0 w0 ι' a' w' → K a' w') :
    if Region.wanted o (yielded ops a.tmps) then o.wp P a w K Q else K (a.put o.dst undef) w := by
  subst hR
  have hr := h.at
  obtain ⟨o', ho', hdst, ej, hej, hcase⟩ := hr.op
  rw [ho] at ho'
  cases ho'
  -- the numbers of this one are not given yet
  have hfree : ∀ id, r.n ≤ id → id < r.n' → ι id = none := fun id h1 h2 => by
    cases hx : ι id with
    | none => rfl
    | some x =>
      exfalso
      have hn := (nums_le h).2 r (by simp)
      rcases M.sup id (by rw [hx]; simp) with h3 | ⟨p1, q, p2, hq, hl, h4, h5⟩
      · omega
      · -- another one's range
        rcases Nat.lt_trichotomy p2.length rest.length with hlt | heq | hgt
        · have : ∃ mid, rest = mid ++ q :: p2 := by
            have e1 : (pre ++ r :: rest).drop ((pre ++ r :: rest).length - (p2.length + 1)) = q :: p2 := by rw [hq]; simp
            have e2 : (pre ++ r :: rest).drop ((pre ++ r :: rest).length - (p2.length + 1)) = rest.drop (rest.length - (p2.length + 1)) := by
              have : (pre ++ r :: rest).length - (p2.length + 1) = (pre ++ [r]).length + (rest.length - (p2.length + 1)) := by simp; omega
              rw [this, show pre ++ r :: rest = (pre ++ [r]) ++ rest by simp, List.drop_length_add_append]
            refine ⟨rest.take (rest.length - (p2.length + 1)), ?_⟩
            rw [← e1, e2, List.take_append_drop]
          obtain ⟨mid, rfl⟩ := this
          have := nums_apart h
          omega
        · have : q = r := by
            have e1 : (pre ++ r :: rest)[(pre ++ r :: rest).length - (rest.length + 1)]? = some r := by
              rw [List.getElem?_append_right (by simp)]; simp
            have e2 : (p1 ++ q :: p2)[(p1 ++ q :: p2).length - (p2.length + 1)]? = some q := by
              rw [List.getElem?_append_right (by simp)]; simp
            rw [hq, ← heq, e2] at e1
            exact Option.some.inj e1
          subst this
          rw [heq, hi] at hl; cases hl
        · have : ∃ mid, p2 = mid ++ r :: rest := by
            have e1 : (p1 ++ q :: p2).drop ((p1 ++ q :: p2).length - (rest.length + 1)) = r :: rest := by rw [← hq]; simp
            have e2 : (p1 ++ q :: p2).drop ((p1 ++ q :: p2).length - (rest.length + 1)) = p2.drop (p2.length - (rest.length + 1)) := by
              have : (p1 ++ q :: p2).length - (rest.length + 1) = (p1 ++ [q]).length + (p2.length - (rest.length + 1)) := by simp; omega
              rw [this, show p1 ++ q :: p2 = (p1 ++ [q]) ++ p2 by simp, List.drop_length_add_append]
            refine ⟨p2.take (p2.length - (rest.length + 1)), ?_⟩
            rw [← e1, e2, List.take_append_drop]
          obtain ⟨mid, rfl⟩ := this
          rw [hq] at h
          have := nums_apart h
          omega
  -- the slots that it looks at
  have hE : ERel (ι.cut r.n) ej a := fun t c ht => by
    obtain ⟨h1, h2⟩ := hej t c ht
    obtain ⟨h3, h4⟩ := slots h hc hi hm h1 h2
    obtain ⟨u, h5, h6⟩ := M.env t c h3
    exact ⟨u, h5, h6.mono (cut_mono h4 fun _ _ h => h)⟩
  have hnn := hr.nums.2
  have hlast := (nums_le h).2 r (by simp)
  have hsup : ∀ id, (id < n0 ∨ ∃ p1 q p2, pre ++ r :: rest = p1 ++ q :: p2 ∧ L p2.length = true ∧ q.n ≤ id ∧ id < q.n') → (id < n0 ∨ ∃ p1 q p2, pre ++ r :: rest = p1 ++ q :: p2 ∧ ins L rest.length p2.length = true ∧ q.n ≤ id ∧ id < q.n') := fun id hh => by
    rcases hh with h3 | ⟨p1, q, p2, hq, hl, h4⟩
    · exact .inl h3
    · refine .inr ⟨p1, q, p2, hq, ?_, h4⟩
      by_cases he : p2.length = rest.length
      · rw [he, ins_self]
      · rw [ins_ne he]; exact hl
  rcases hcase with ⟨hw, hv, hdl, hn'⟩ | ⟨hw, hin, hout, hwp, hh, hho, hrd, _⟩
  · -- it is left out
    rw [wantV_rel hE hw]
    refine hK ι _ w ?_
    have hsame := fun id => ins_same (g0 := g0) (n0 := n0) (pre := pre) (r := r) hi (id := id) (by rw [hdl]; rfl)
    have e1 : HR g0 (ins L rest.length) (pre ++ r :: rest) = HR g0 L (pre ++ r :: rest) := funext fun id => (hsame id).1
    refine ⟨fun id b hb => ?_, ?_, fun t v ht => ?_, fun id hid => hsup id (M.sup id hid), by rw [e1]; exact M.ex, by rw [Ab.put_defers]; exact M.defers, by rw [Ab.put_size]; exact M.size⟩
    · rw [(hsame id).2]; rw [e1] at hb; exact M.blk id b hb
    · rw [e1]; exact M.inj
    · by_cases hd : r.dst = some t
      · obtain ⟨h1, h2⟩ := (ins_slot (e0 := e0) h hi (t := t)).1 hd
        rw [h1] at ht
        cases ht
        have := (hr.dsts t hd).1
        have hlt : t < a.tmps.size := Nat.lt_of_lt_of_le this M.size
        exact ⟨undef, by rw [hdst, hd]; simp [Act.put, hlt], by rw [hv]; exact .sc _⟩
      · obtain ⟨h1, h2⟩ := (ins_slot (e0 := e0) h hi (t := t)).2 hd
        rw [h1] at ht
        obtain ⟨u, h3, h4⟩ := M.env t v ht
        refine ⟨u, ?_, by rw [h2]; exact h4⟩
        rw [hdst]
        cases hdd : r.dst with
        | none => exact h3
        | some d =>
          have : d ≠ t := by rintro rfl; exact hd hdd
          simp [Act.put, Array.getElem?_setIfInBounds_ne this, h3]
  · rw [wantV_rel hE hw, if_pos rfl]
    have hin2 : ∀ id b, hin.get id = some b → HR g0 L (pre ++ r :: rest) id = some b ∧ NR n0 L (pre ++ r :: rest) id ≤ r.n := fun id b hb => looks h hc hi hm (hh id b hb).1 (hh id b hb).2
    have hH : HRel (ι.cut r.n) hin.get w := by
      refine ⟨fun id b hb => ?_, fun i j b b' rr m m' h1 h2 h3 h4 => M.inj i j b b' rr m m' (hin2 i b h1).1 (hin2 j b' h2).1 (cut_le _ _ _ _ h3) (cut_le _ _ _ _ h4)⟩
      obtain ⟨h1, h2⟩ := hin2 id b hb
      obtain ⟨rr, m, h3, h4, h5⟩ := M.blk id b h1
      exact ⟨rr, m, by rw [cut_get (by omega)]; exact h3, h5.mono (cut_mono h2 fun _ _ h => h) rfl⟩
    have hF : Free (ι.cut r.n) r.n r.n' := fun id hid => by unfold Io.cut; rw [if_neg (by omega)]
    refine hwp (ι.cut r.n) a w ⟨hH, hE, hF⟩ K Q fun ι' u w' hv hH' hX => ?_
    have F3 := hX.io hF
    obtain ⟨ιn, hιn⟩ : ∃ ιn : Io, ιn = fun id => if r.n ≤ id ∧ id < r.n' then ι' id else ι id := ⟨_, rfl⟩
    have F1 : ιn.cut r.n' = ι' := by
      funext id
      unfold Io.cut
      rw [hιn]
      dsimp only
      by_cases h1 : id < r.n'
      · rw [if_pos h1]
        by_cases h2 : r.n ≤ id
        · rw [if_pos ⟨h2, h1⟩]
        · rw [if_neg (by omega), hX.same id (by omega), cut_get (by omega)]
      · rw [if_neg h1, hX.same id (by omega)]
        unfold Io.cut; rw [if_neg (by omega)]
    have F2 : Io.le ι ιn := fun id x hx => by
      rw [hιn]
      dsimp only
      split
      · rename_i h1; rw [hfree id h1.1 h1.2] at hx; cases hx
      · exact hx
    have F4 : ∀ id x, ι' id = some x → ιn id = some x := fun id x hx => cut_le ιn r.n' id x (by rw [F1]; exact hx)
    -- each living block: one that it had, or one beside
    have cls : ∀ id b, HR g0 (ins L rest.length) (pre ++ r :: rest) id = some b →
        (hout.get id = some b ∧ (∃ x, ι' id = some x)) ∨ (hin.get id = none ∧ lookD r.dl id = none ∧ HR g0 L (pre ++ r :: rest) id = some b) := fun id b hb => by
      cases hd : lookD r.dl id with
      | some x =>
        have := (ins_new (g0 := g0) h hc hi hd).1
        rw [hb] at this
        have hg : hout.get id = some b := by rw [hho, hd]; exact this.symm
        obtain ⟨rr, m, h1, _⟩ := hH'.blk id b hg
        exact .inl ⟨hg, _, h1⟩
      | none =>
        have hs := (ins_same (g0 := g0) (n0 := n0) (pre := pre) (r := r) hi (id := id) hd).1
        rw [hb] at hs
        cases hg : hin.get id with
        | none => exact .inr ⟨rfl, rfl, hs.symm⟩
        | some b' =>
          have := (hin2 id b' hg).1
          rw [← hs] at this
          cases this
          have hg2 : hout.get id = some b := by rw [hho, hd]; exact hg
          obtain ⟨rr, m, h1, _⟩ := hH'.blk id b hg2
          exact .inl ⟨hg2, _, h1⟩
    -- a block that lay there before, and is one of its own, is one of those that it had
    have had : ∀ id b rr m, hout.get id = some b → ι' id = some (rr, m) → rr < w.heap.size → ∃ k b' m', hin.get k = some b' ∧ ι k = some (rr, m') ∧ HR g0 L (pre ++ r :: rest) k = some b' := fun id b rr m h1 h2 h3 => by
      obtain ⟨k, b', m', h4, h5⟩ := hX.old id b rr m h1 h2 h3
      exact ⟨k, b', m', h4, cut_le _ _ _ _ h5, (hin2 k b' h4).1⟩
    refine hK ιn _ w' ⟨fun id b hb => ?_, fun i j b b' rr m m' h1 h2 h3 h4 => ?_, fun t v ht => ?_, fun id hid => ?_, ?_, by rw [Ab.put_defers]; exact M.defers, by rw [Ab.put_size]; exact M.size⟩
    · cases hd : lookD r.dl id with
      | some x =>
        obtain ⟨g1, g2⟩ := ins_new (g0 := g0) h hc hi hd
        rw [hb] at g1
        have hg : hout.get id = some b := by rw [hho, hd]; exact g1.symm
        obtain ⟨rr, m, q1, q2⟩ := hH'.blk id b hg
        refine ⟨rr, m, F4 _ _ q1, ?_, by rw [g2, F1]; exact q2⟩
        rw [g2]
        rcases Nat.lt_or_ge id r.n' with h1 | h1
        · exact h1
        · rw [← F1] at q1; unfold Io.cut at q1; rw [if_neg (by omega)] at q1; cases q1
      | none =>
        obtain ⟨g1, g2⟩ := ins_same (g0 := g0) (n0 := n0) (pre := pre) (r := r) hi (id := id) hd
        rw [g1] at hb
        rw [g2]
        obtain ⟨rr, m, q1, q2, q3⟩ := M.blk id b hb
        refine ⟨rr, m, F2 _ _ q1, q2, ?_⟩
        cases hg : hin.get id with
        | none =>
          refine q3.mono (cut_mono (Nat.le_refl _) F2) (hX.mem rr q3.lt fun id2 b2 m2 k1 k2 => ?_)
          have := M.inj id2 id b2 b rr m2 m (hin2 id2 b2 k1).1 hb (cut_le _ _ _ _ k2) q1
          subst this
          rw [hg] at k1; cases k1
        | some b' =>
          obtain ⟨k1, k2⟩ := hin2 id b' hg
          rw [hb] at k1
          cases k1
          have hg2 : hout.get id = some b := by rw [hho, hd]; exact hg
          obtain ⟨rr', m', k3, k4⟩ := hH'.blk id b hg2
          have k5 : (ι.cut r.n) id = some (rr, m) := by rw [cut_get (by omega)]; exact q1
          rw [F3 _ _ k5] at k3
          cases k3
          have hle : Io.le (ι.cut (NR n0 L (pre ++ r :: rest) id)) ι' := fun j x hx => F3 _ _ (cut_mono k2 (fun _ _ h => h) j x hx)
          exact (q3.back hle k4).mono (cut_mono (Nat.le_refl _) F2) rfl
    · rcases cls i b h1 with ⟨a1, x1, a2⟩ | ⟨b1, b2, b3⟩ <;> rcases cls j b' h2 with ⟨c1, x2, c2⟩ | ⟨d1, d2, d3⟩
      · have e1 := F4 _ _ a2; have e2 := F4 _ _ c2
        rw [h3] at e1; rw [h4] at e2
        cases e1; cases e2
        exact hH'.inj i j b b' rr m m' a1 c1 a2 c2
      · have e1 := F4 _ _ a2
        rw [h3] at e1; cases e1
        obtain ⟨rr2, m2, q1, _, q3⟩ := M.blk j b' d3
        have e2 := F2 _ _ q1
        rw [h4] at e2; cases e2
        obtain ⟨k, bk, mk, k1, k2, k3⟩ := had i b rr m a1 a2 q3.lt
        have := M.inj j k b' bk rr m' mk d3 k3 q1 k2
        subst this
        rw [d1] at k1; cases k1
      · have e1 := F4 _ _ c2
        rw [h4] at e1; cases e1
        obtain ⟨rr2, m2, q1, _, q3⟩ := M.blk i b b3
        have e2 := F2 _ _ q1
        rw [h3] at e2; cases e2
        obtain ⟨k, bk, mk, k1, k2, k3⟩ := had j b' rr m' c1 c2 q3.lt
        have := M.inj i k b bk rr m mk b3 k3 q1 k2
        subst this
        rw [b1] at k1; cases k1
      · obtain ⟨rr2, m2, q1, _, q3⟩ := M.blk i b b3
        obtain ⟨rr3, m3, q4, _, q5⟩ := M.blk j b' d3
        have e1 := F2 _ _ q1; rw [h3] at e1; cases e1
        have e2 := F2 _ _ q4; rw [h4] at e2; cases e2
        exact M.inj i j b b' rr m m' b3 d3 q1 q4
    · by_cases hd : r.dst = some t
      · obtain ⟨h1, h2⟩ := (ins_slot (e0 := e0) h hi (t := t)).1 hd
        rw [h1] at ht
        cases ht
        have := (hr.dsts t hd).1
        have hlt : t < a.tmps.size := Nat.lt_of_lt_of_le this M.size
        exact ⟨u, by rw [hdst, hd]; simp [Act.put, hlt], by rw [h2, F1]; exact hv⟩
      · obtain ⟨h1, h2⟩ := (ins_slot (e0 := e0) h hi (t := t)).2 hd
        rw [h1] at ht
        obtain ⟨u', h3, h4⟩ := M.env t v ht
        refine ⟨u', ?_, by rw [h2]; exact h4.mono (cut_mono (Nat.le_refl _) F2)⟩
        rw [hdst]
        cases hdd : r.dst with
        | none => exact h3
        | some d =>
          have : d ≠ t := by rintro rfl; exact hd hdd
          simp [Act.put, Array.getElem?_setIfInBounds_ne this, h3]
    · rw [hιn] at hid
      dsimp only at hid
      split at hid
      · rename_i h1; exact .inr ⟨pre, r, rest, rfl, ins_self _ _, h1.1, h1.2⟩
      · exact hsup id (M.sup id hid)
    · have X0 := M.ex
      refine ⟨hX.os.trans X0.os, hX.tape.trans X0.tape, hX.output.trans X0.output, Nat.le_trans X0.size hX.size, X0.le, fun id hid => ?_, fun rr hrr hn => ?_, fun id b rr m k1 k2 k3 => ?_⟩
      · rw [hιn]
        dsimp only
        rw [if_neg (by omega)]
        exact X0.same id hid
      · rw [hX.mem rr (Nat.lt_of_lt_of_le hrr X0.size) fun id b m k1 k2 => ?_]
        · exact X0.mem rr hrr hn
        · obtain ⟨j, b', m', k3, k4⟩ := X0.old id b rr m (hin2 id b k1).1 (cut_le _ _ _ _ k2) hrr
          exact hn j b' m' k3 k4
      · rcases cls id b k1 with ⟨a1, x1, a2⟩ | ⟨b1, b2, b3⟩
        · have e1 := F4 _ _ a2
          rw [k2] at e1; cases e1
          obtain ⟨k, bk, mk, q1, q2, q3⟩ := had id b rr m a1 a2 (Nat.lt_of_lt_of_le k3 X0.size)
          exact X0.old k bk rr mk q3 q2 k3
        · obtain ⟨rr2, m2, q1, _, q3⟩ := M.blk id b b3
          have e1 := F2 _ _ q1; rw [k2] at e1; cases e1
          exact X0.old id b rr m b3 q1 k3

def setL (listed : Array Bool) : Nat → Bool := fun j => listed.getD j false
theorem setL_ins {listed : Array Bool} {i : Nat} (h : i < listed.size) : setL (listed.setIfInBounds i true) = ins (setL listed) i := by
  funext j
  unfold setL ins
  by_cases hj : j = i
  · subst hj; simp [h]
  · rw [Ab.beq_no hj, Bool.false_or]; exact getD_set_ne false (Ne.symm hj)
theorem at_of {α : Type} {R : List α} {i : Nat} (h : i < R.length) : ∃ pre r rest, R = pre ++ r :: rest ∧ rest.length = i := by
  refine ⟨R.take (R.length - (i + 1)), R[R.length - (i + 1)], R.drop (R.length - i), ?_, by simp; omega⟩
  have : R.drop (R.length - (i + 1)) = R[R.length - (i + 1)] :: R.drop (R.length - (i + 1) + 1) := List.drop_eq_getElem_cons (by omega)
  rw [show R.length - i = R.length - (i + 1) + 1 by omega, ← this, List.take_append_drop]
def cnt (L : Nat → Bool) : Nat → Nat
  | 0 => 0
  | n + 1 => cnt L n + cond (L n) 0 1
theorem cnt_ins {L : Nat → Bool} {i : Nat} (hi : L i = false) : ∀ n, (n ≤ i → cnt (ins L i) n = cnt L n) ∧ (i < n → cnt (ins L i) n + 1 = cnt L n)
  | 0 => ⟨fun _ => rfl, fun h => by omega⟩
  | n + 1 => by
    obtain ⟨h1, h2⟩ := cnt_ins hi n
    rw [cnt, cnt]
    refine ⟨fun h => ?_, fun h => ?_⟩
    · rw [h1 (by omega), ins_ne (by omega)]
    · by_cases he : n = i
      · subst he; rw [h1 (Nat.le_refl _), ins_self, hi]; rfl
      · rw [ins_ne he]
        have := h2 (by omega)
        omega
theorem cnt_zero {L : Nat → Bool} : ∀ {n}, cnt L n = 0 → ∀ i, i < n → L i = true
  | n + 1, h, i, hi => by
    rw [cnt] at h
    by_cases he : i = n
    · subst he
      cases hl : L i with
      | true => rfl
      | false => rw [hl] at h; simp at h
    · exact cnt_zero (n := n) (by omega) i (by omega)
theorem any_good {Df : List Deferred} {R : List Rec} (h : AllOk P ops g0 e0 n0 nt R) (hlen : R.length = ops.size) (hed : ∀ i o, ops[i]? = some o → ∀ ed ∈ o.after, Region.binds .any ed = true → ed.on < i) {ι0 : Io} {w0 : World} {Q : Exit → Act → World → Prop} (hQ : ∀ ι a w L, (∀ j, j < R.length → L j = true) → Mid Df n0 nt g0 e0 R L ι0 w0 ι a w → Q .normal a w) :
    ∀ (fuel : Nat) (listed : Array Bool) (ι : Io) (a : Act) (w : World), listed.size = ops.size → Closed R (setL listed) → Mid Df n0 nt g0 e0 R (setL listed) ι0 w0 ι a w → cnt (setL listed) ops.size ≤ fuel → wpAny P .any ops Q fuel listed a w := by
  have hgd : ∀ (listed : Array Bool) j, j < listed.size → listed.getD j true = setL listed j := fun listed j hj => by
    unfold setL; simp [Array.getD, hj]
  have done : ∀ (listed : Array Bool) (ι : Io) (a : Act) (w : World), listed.size = ops.size → Closed R (setL listed) → Mid Df n0 nt g0 e0 R (setL listed) ι0 w0 ι a w → Region.ready .any ops listed = [] → Q .normal a w := by
    intro listed ι a w hsz hc M hr
    refine hQ ι a w (setL listed) ?_ M
    -- else the least one that is not listed is ready
    intro j
    induction j using Nat.strongRecOn with
    | _ j ih =>
      intro hj
      cases hl : setL listed j with
      | true => rfl
      | false =>
        exfalso
        have hjs : j < ops.size := by omega
        have hrj : j ∈ Region.ready .any ops listed := by
          rw [mem_ready]
          refine ⟨by rw [hgd listed j (by omega)]; exact hl, ops[j], Array.getElem?_eq_getElem _, fun ed hed' hb => ?_⟩
          have h1 := hed j _ (Array.getElem?_eq_getElem hjs) ed hed' hb
          exact ih ed.on h1 (by omega)
        rw [hr] at hrj; cases hrj
  intro fuel
  induction fuel with
  | zero =>
    intro listed ι a w hsz hc M hcnt
    have hall := cnt_zero (Nat.le_zero.1 hcnt)
    have hr : Region.ready .any ops listed = [] := by
      apply List.eq_nil_iff_forall_not_mem.2
      intro j hj
      obtain ⟨h1, o, ho, _⟩ := mem_ready.1 hj
      have hjs : j < ops.size := (Array.getElem?_eq_some_iff.1 ho).1
      rw [hgd listed j (by omega), hall j hjs] at h1
      cases h1
    exact ⟨hr, done listed ι a w hsz hc M hr⟩
  | succ fuel ih =>
    intro listed ι a w hsz hc M hcnt
    refine ⟨done listed ι a w hsz hc M, fun i hi => ?_⟩
    obtain ⟨h1, o, ho, hall⟩ := mem_ready.1 hi
    have his : i < ops.size := (Array.getElem?_eq_some_iff.1 ho).1
    rw [hgd listed i (by omega)] at h1
    obtain ⟨pre, r, rest, hR, hri⟩ := at_of (R := R) (i := i) (by omega)
    subst hri
    have hr : RecOk P ops g0 e0 n0 nt rest r := by rw [hR] at h; exact h.at
    have hm : ∀ j, tb r.msk j = true → setL listed j = true := fun j hj => by
      obtain ⟨hlt, o', ho', ed, hed', hb, hcase⟩ := hr.waits j hj
      rw [ho] at ho'
      cases ho'
      have hl : setL listed ed.on = true := hall ed hed' hb
      rcases hcase with rfl | ⟨q, rest', ⟨p2, hp2⟩, hlen', hq⟩
      · exact hl
      · refine hc (pre ++ r :: p2) q rest' (by rw [hR, hp2]; simp) (by rw [hlen']; exact hl) j hq
    unfold wpOp
    simp only [ho]
    have key := Mid.step hR h hc h1 hm M ho (wpAny P .any ops Q fuel (listed.setIfInBounds rest.length true)) Q fun ι' a' w' M' => by
      have e1 : setL (listed.setIfInBounds rest.length true) = ins (setL listed) rest.length := setL_ins (by omega)
      refine ih _ ι' a' w' (by simpa using hsz) ?_ (by rw [e1]; exact M') ?_
      · rw [e1]
        intro p1 q p2 hq hl j hj
        by_cases he : p2.length = rest.length
        · have : q = r := by
            have a1 : R[R.length - (rest.length + 1)]? = some r := by rw [hR, List.getElem?_append_right (by simp)]; simp
            have a2 : R[R.length - (p2.length + 1)]? = some q := by rw [hq, List.getElem?_append_right (by simp)]; simp
            rw [he, a1] at a2
            exact (Option.some.inj a2).symm
          subst this
          by_cases hj2 : j = rest.length
          · rw [hj2, ins_self]
          · rw [ins_ne hj2]; exact hm j hj
        · rw [ins_ne he] at hl
          by_cases hj2 : j = rest.length
          · rw [hj2, ins_self]
          · rw [ins_ne hj2]; exact hc p1 q p2 hq hl j hj
      · rw [e1]
        have := (cnt_ins h1 ops.size).2 his
        omega
    split at key
    · rename_i hw; rw [if_pos hw]; exact .inl key
    · rename_i hw; rw [if_neg hw]; exact key
end
end Go.Proofs.YtamnhhjcgloceaaGreat.Rn

namespace Go.Proofs.YtamnhhjcgloceaaGreat.Rn
set_option linter.unusedVariables false
open Go.RowKit
open Go.Proofs.YtamnhhjcgloceaaGreat.Ab (TE TTab tlook TabOk TFacts win setW setW_get win_get Sh)

def ERk (e0 : Ev) (m : Nat) : List Rec → Nat → Nat → Option V
  | [], _, t => e0.get t
  | r :: rest, k, t => match tb m (k - 1) with
    | true => match r.dst with
      | some d => match Nat.beq d t with
        | true => some r.v
        | false => ERk e0 m rest (k - 1) t
      | none => ERk e0 m rest (k - 1) t
    | false => ERk e0 m rest (k - 1) t
theorem ERk_eq {e0 : Ev} {m t : Nat} : ∀ {R : List Rec} {k : Nat}, k = R.length → ERk e0 m R k t = ER e0.get (tb m) R t
  | [], _, _ => rfl
  | r :: rest, k, hk => by
    have hk : k - 1 = rest.length := by simp at hk; omega
    rw [ERk, ER, hk, ERk_eq rfl]
    all_goals cases tb m rest.length with
      | false => rfl
      | true => cases r.dst with
        | none => rfl
        | some d => dsimp only; cases Nat.beq d t <;> rfl
def HRk (h0 : Hp) (m : Nat) : List Rec → Nat → Nat → Option B
  | [], _, id => h0.get id
  | r :: rest, k, id => match tb m (k - 1) with
    | true => match lookD r.dl id with
      | some x => x
      | none => HRk h0 m rest (k - 1) id
    | false => HRk h0 m rest (k - 1) id
theorem HRk_eq {h0 : Hp} {m id : Nat} : ∀ {R : List Rec} {k : Nat}, k = R.length → HRk h0 m R k id = HR h0.get (tb m) R id
  | [], _, _ => rfl
  | r :: rest, k, hk => by
    have hk : k - 1 = rest.length := by simp at hk; omega
    rw [HRk, HR, hk, HRk_eq rfl]
    all_goals cases tb m rest.length with
      | false => rfl
      | true => cases lookD r.dl id <;> rfl
def msks (rest : List Rec) (k : Nat) : List Edge → Option Nat
  | [] => some 0
  | ed :: r => match msks rest k r with
    | some m => match Region.binds .any ed with
      | true => match Nat.blt ed.on k with
        | true => match rest[k - 1 - ed.on]? with
          | some q => some (m ||| 2 ^ ed.on ||| q.msk)
          | none => none
        | false => none
      | false => some m
    | none => none
theorem tb_or (a b j : Nat) : tb (a ||| b) j = (tb a j || tb b j) := by unfold tb; exact Nat.testBit_or a b j
theorem tb_pow (n j : Nat) : tb (2 ^ n) j = true → j = n := by
  unfold tb
  rw [Nat.testBit_two_pow]
  intro h; exact (of_decide_eq_true h).symm
theorem tb_zero (j : Nat) : tb 0 j = false := by unfold tb; exact Nat.zero_testBit j
theorem nth_rev {rest : List Rec} {j : Nat} {q : Rec} (h : rest[rest.length - 1 - j]? = some q) (hj : j < rest.length) : ∃ pre rest', rest = pre ++ q :: rest' ∧ rest'.length = j := by
  obtain ⟨pre, r, rest', hR, hl⟩ := at_of hj
  refine ⟨pre, rest', ?_, hl⟩
  have : rest[rest.length - 1 - j]? = some r := by
    rw [hR, List.getElem?_append_right (by simp; omega)]
    simp
    have : pre.length + rest'.length - j - pre.length = 0 := by omega
    rw [this]; rfl
  rw [this] at h; cases h; exact hR
theorem msks_spec {rest : List Rec} {k : Nat} (hk : k = rest.length) : ∀ {l : List Edge} {m : Nat}, msks rest k l = some m → (∀ ed ∈ l, Region.binds .any ed = true → ed.on < k) ∧ ∀ j, tb m j = true → ∃ ed ∈ l, Region.binds .any ed = true ∧ ed.on < k ∧ (j = ed.on ∨ ∃ q rest', (∃ pre, rest = pre ++ q :: rest') ∧ rest'.length = ed.on ∧ tb q.msk j = true)
  | [], m, h => by cases h; exact ⟨by simp, fun j hj => by rw [tb_zero] at hj; cases hj⟩
  | ed :: r, m, h => by
    rw [msks] at h
    split at h
    · rename_i m0 h0
      obtain ⟨i1, i2⟩ := msks_spec hk h0
      split at h
      · rename_i hb
        split at h
        · rename_i hlt
          have hlt := blt_lt hlt
          split at h
          · rename_i q hq
            cases h
            refine ⟨fun e he hb' => ?_, fun j hj => ?_⟩
            · rcases List.mem_cons.1 he with rfl | he
              · exact hlt
              · exact i1 e he hb'
            · rw [tb_or, tb_or] at hj
              simp only [Bool.or_eq_true] at hj
              rcases hj with (hj | hj) | hj
              · obtain ⟨e, he, rest⟩ := i2 j hj
                exact ⟨e, by simp [he], rest⟩
              · exact ⟨ed, by simp, hb, hlt, .inl (tb_pow _ _ hj)⟩
              · subst hk
                obtain ⟨pre, rest', h1, h2⟩ := nth_rev hq hlt
                exact ⟨ed, by simp, hb, hlt, .inr ⟨q, rest', ⟨pre, h1⟩, h2, hj⟩⟩
          · cases h
        · cases h
      · rename_i hb
        cases h
        refine ⟨fun e he hb' => ?_, fun j hj => ?_⟩
        · rcases List.mem_cons.1 he with rfl | he
          · rw [hb] at hb'; cases hb'
          · exact i1 e he hb'
        · obtain ⟨e, he, rest⟩ := i2 j hj
          exact ⟨e, by simp [he], rest⟩
    · cases h
def tmpsOf : List Operand → List Nat
  | [] => []
  | .tmp t :: r => t :: tmpsOf r
  | _ :: r => tmpsOf r
def lksOf (ops : Array Oper) (o : Oper) : List Nat := match o.guard with
  | some (j, _) => match (ops[j]?).bind (·.dst) with
    | some t => t :: tmpsOf o.op.operands.toList
    | none => tmpsOf o.op.operands.toList
  | none => tmpsOf o.op.operands.toList
def mkEj (e0 : Ev) (m : Nat) (rest : List Rec) (k : Nat) : List Nat → Ev
  | [] => .nil
  | t :: r => match ERk e0 m rest k t with
    | some c => (mkEj e0 m rest k r).set t c
    | none => mkEj e0 m rest k r
theorem mkEj_spec {e0 : Ev} {m : Nat} {rest : List Rec} {k : Nat} (hk : k = rest.length) : ∀ {l : List Nat} {t : Nat} {c : V}, (mkEj e0 m rest k l).get t = some c → t ∈ l ∧ ER e0.get (tb m) rest t = some c
  | [], t, c, h => by cases h
  | s :: r, t, c, h => by
    rw [mkEj] at h
    split at h
    · rename_i c0 h0
      rw [Tr.get_set] at h
      split at h
      · rename_i hts; subst hts; cases h; exact ⟨by simp, by rw [← ERk_eq hk]; exact h0⟩
      · obtain ⟨h1, h2⟩ := mkEj_spec hk h; exact ⟨by simp [h1], h2⟩
    · obtain ⟨h1, h2⟩ := mkEj_spec hk h; exact ⟨by simp [h1], h2⟩
mutual
def V.ids : V → List Nat
  | .ptr id _ => [id]
  | .sl id _ _ _ _ => [id]
  | .mp id => [id]
  | .fn _ cs => idsL cs
  | .ifc _ v => v.ids
  | .agg cs => idsL cs
  | .tup cs => idsL cs
  | _ => []
def idsL : List V → List Nat
  | [] => []
  | c :: r => c.ids ++ idsL r
end
def entIds : List (V × V × Nat) → List Nat
  | [] => []
  | p :: r => p.1.ids ++ (p.2.1.ids ++ entIds r)
def B.ids : B → List Nat
  | .cells cs _ => idsL cs
  | .map es _ => entIds es
  | .mit (some id) _ _ _ => [id]
  | _ => []
def reach (get : Nat → Option B) : Nat → List Nat → List Nat → List Nat
  | 0, _, seen => seen
  | _ + 1, [], seen => seen
  | f + 1, id :: w, seen => match seen.contains id with
    | true => reach get f w seen
    | false => match get id with
      | some b => reach get f (b.ids ++ w) (id :: seen)
      | none => reach get f w seen
def rootIds (e : Ev) : List Operand → List Nat
  | [] => []
  | x :: r => match ev e x with
    | some v => v.ids ++ rootIds e r
    | none => rootIds e r
def midsOf (get : Nat → Option B) : List Nat → List Nat
  | [] => []
  | id :: r => match get id with
    | some (.mit (some m) _ _ _) => m :: midsOf get r
    | _ => midsOf get r
def touch (get : Nat → Option B) (e : Ev) (o : Oper) : List Nat := match o.op with
  | .call c => match c.callee with
    | .value _ => reach get 100000 (rootIds e o.op.operands.toList) []
    | _ => rootIds e o.op.operands.toList
  | .next _ _ => rootIds e o.op.operands.toList ++ midsOf get (rootIds e o.op.operands.toList)
  | _ => rootIds e o.op.operands.toList
def mkH (get : Nat → Option B) (n : Nat) : List Nat → Hp
  | [] => .nil
  | id :: r => match get id with
    | some b => match Nat.blt id n with
      | true => (mkH get n r).set id b
      | false => mkH get n r
    | none => mkH get n r
theorem mkH_spec {get : Nat → Option B} {n : Nat} : ∀ {l : List Nat} {id : Nat} {b : B}, (mkH get n l).get id = some b → id ∈ l ∧ get id = some b ∧ id < n
  | [], id, b, h => by cases h
  | j :: r, id, b, h => by
    rw [mkH] at h
    split at h
    · rename_i b0 h0
      split at h
      · rename_i hlt
        rw [Tr.get_set] at h
        split at h
        · rename_i hij; subst hij; cases h; exact ⟨by simp, h0, blt_lt hlt⟩
        · obtain ⟨h1, h2⟩ := mkH_spec h; exact ⟨by simp [h1], h2⟩
      · obtain ⟨h1, h2⟩ := mkH_spec h; exact ⟨by simp [h1], h2⟩
    · obtain ⟨h1, h2⟩ := mkH_spec h; exact ⟨by simp [h1], h2⟩
def rng : Nat → Nat → List Nat
  | _, 0 => []
  | n, k + 1 => n :: rng (n + 1) k
theorem mem_rng {id : Nat} : ∀ {k n : Nat}, id ∈ rng n k ↔ n ≤ id ∧ id < n + k
  | 0, n => ⟨fun h => (by cases h), fun h => by omega⟩
  | k + 1, n => by rw [rng, List.mem_cons, mem_rng (k := k)]; omega
def geOf (lo : Nat) : List Nat → List Nat
  | [] => []
  | id :: r => match Nat.ble lo id with
    | true => id :: geOf lo r
    | false => geOf lo r
theorem mem_ge {lo id : Nat} : ∀ {l : List Nat}, id ∈ geOf lo l ↔ id ∈ l ∧ lo ≤ id
  | [] => by simp [geOf]
  | j :: r => by
    rw [geOf]
    split
    · rename_i hb
      have hb := Nat.le_of_ble_eq_true hb
      rw [List.mem_cons, List.mem_cons, mem_ge (l := r)]
      constructor
      · rintro (rfl | ⟨h1, h2⟩)
        · exact ⟨.inl rfl, hb⟩
        · exact ⟨.inr h1, h2⟩
      · rintro ⟨rfl | h1, h2⟩
        · exact .inl rfl
        · exact .inr ⟨h1, h2⟩
    · rename_i hb
      have hb : ¬ lo ≤ j := fun h => by rw [Nat.ble_eq_true_of_le h] at hb; cases hb
      rw [List.mem_cons, mem_ge (l := r)]
      constructor
      · rintro ⟨h1, h2⟩; exact ⟨.inr h1, h2⟩
      · rintro ⟨rfl | h1, h2⟩
        · omega
        · exact ⟨h1, h2⟩
def dlOf (get : Nat → Option B) : List Nat → List (Nat × Option B)
  | [] => []
  | id :: r => (id, get id) :: dlOf get r
theorem dlOf_spec {get : Nat → Option B} {id : Nat} : ∀ {l : List Nat}, (id ∈ l → lookD (dlOf get l) id = some (get id)) ∧ (id ∉ l → lookD (dlOf get l) id = none)
  | [] => ⟨fun h => (by cases h), fun _ => rfl⟩
  | j :: r => by
    obtain ⟨h1, h2⟩ := dlOf_spec (get := get) (id := id) (l := r)
    rw [dlOf, lookD]
    by_cases hj : j = id
    · subst hj; simp
    · simp only [Ab.beq_no hj, cond_false]
      refine ⟨fun h => h1 ((List.mem_cons.1 h).resolve_left (Ne.symm hj)), fun h => h2 fun hh => h (by simp [hh])⟩
def noneInA (rd : List Nat) : List (Nat × Option B) → Bool
  | [] => true
  | p :: r => !rd.contains p.1 && noneInA rd r
def noneIn (dl : List (Nat × Option B)) (rd : List Nat) : Bool := rd.isEmpty || noneInA rd dl
theorem noneInA_spec {rd : List Nat} : ∀ {dl : List (Nat × Option B)}, noneInA rd dl = true → ∀ id x, lookD dl id = some x → id ∉ rd
  | [], h, id, x, hl => by cases hl
  | p :: r, h, id, x, hl => by
    rw [noneInA] at h
    simp only [Bool.and_eq_true, Bool.not_eq_true'] at h
    rw [lookD] at hl
    by_cases hp : p.1 = id
    · subst hp
      intro hm
      have := List.contains_iff_mem.2 hm
      rw [this] at h; cases h.1
    · rw [Ab.beq_no hp, cond_false] at hl
      exact noneInA_spec h.2 id x hl
theorem noneIn_spec {rd : List Nat} {dl : List (Nat × Option B)} (h : noneIn dl rd = true) : ∀ id x, lookD dl id = some x → id ∉ rd := by
  unfold noneIn at h
  simp only [Bool.or_eq_true] at h
  rcases h with h | h
  · intro id x _
    cases rd with
    | nil => simp
    | cons a t => cases h
  · exact noneInA_spec h
def notIn (d : Option Tmp) (l : List Nat) : Bool := match d with
  | some t => !l.contains t
  | none => true
theorem notIn_spec {d : Option Tmp} {l : List Nat} (h : notIn d l = true) : ∀ t, d = some t → t ∉ l := fun t hd hm => by
  subst hd
  have := List.contains_iff_mem.2 hm
  rw [notIn, this] at h; cases h
def apartB (r q : Rec) : Bool := noneIn r.dl q.rd && noneIn q.dl r.rd && notIn r.dst q.lk && notIn q.dst r.lk
theorem apartB_spec {r q : Rec} (h : apartB r q = true) : apart r q := by
  unfold apartB at h
  simp only [Bool.and_eq_true] at h
  exact ⟨noneIn_spec h.1.1.1, noneIn_spec h.1.1.2, notIn_spec h.1.2, notIn_spec h.2⟩
def sameDst (a b : Option Tmp) : Bool := match a, b with
  | some x, some y => Nat.beq x y
  | _, _ => false
def freeB (r : Rec) : List Rec → Nat → Bool
  | [], _ => true
  | q :: rest, k => (tb r.msk (k - 1) || apartB r q) && !sameDst r.dst q.dst && freeB r rest (k - 1)
theorem freeB_spec {r : Rec} : ∀ {rest : List Rec} {k : Nat}, k = rest.length → freeB r rest k = true → (∀ pre q rest', rest = pre ++ q :: rest' → tb r.msk rest'.length = false → apart r q) ∧ ∀ d, r.dst = some d → ∀ q ∈ rest, q.dst ≠ some d
  | [], k, _, _ => ⟨fun pre q rest' h => by simp at h, fun d _ q hq => by cases hq⟩
  | q :: rest, k, hk, h => by
    rw [freeB] at h
    simp only [Bool.and_eq_true, Bool.or_eq_true, Bool.not_eq_true'] at h
    have hk : k - 1 = rest.length := by simp at hk; omega
    obtain ⟨h1, h2⟩ := freeB_spec hk h.2
    refine ⟨fun pre q' rest' he ht => ?_, fun d hd q' hq => ?_⟩
    · cases pre with
      | nil =>
        cases he
        rcases h.1.1 with h3 | h3
        · rw [hk, ht] at h3; cases h3
        · exact apartB_spec h3
      | cons p pre => cases he; exact h1 pre q' rest' rfl ht
    · rcases List.mem_cons.1 hq with rfl | hq
      · intro hd2
        have := h.1.2
        rw [hd, hd2] at this
        simp [sameDst] at this
      · exact h2 d hd q' hq
def dstB (nt : Nat) : Option Tmp → Bool
  | some t => Nat.blt t nt
  | none => true
structure DS where
  rs : List Rec
  k : Nat
  n : Nat
  lo : Nat
def addR (nt : Nat) (d : DS) (r : Rec) (lo : Nat) : Option DS := match dstB nt r.dst && freeB r d.rs d.k with
  | true => some ⟨r :: d.rs, d.k + 1, r.n', lo⟩
  | false => none
section
variable (P : Program) (tab : TTab)
def dstepT (call : FuncId → List V → Nat → Hp → Nat → R) (known : FuncId → Bool) (h0 : Hp) (nt : Nat) (d : DS) (o : Oper) (m : Nat) (lk : List Nat) (ej : Ev) (T : List Nat) : Option DS :=
  match rop P tab ej d.n (mkH (HRk h0 m d.rs d.k) d.n T) d.n o call known with
  | some r => match Nat.blt r.2.2.2 d.n with
    | true => addR nt d ⟨m, o.dst, r.1, dlOf r.2.2.1.get (geOf r.2.2.2 T ++ rng d.n (r.2.1 - d.n)), T, lk, d.n, r.2.1⟩ (lmin r.2.2.2 d.lo)
    | false => addR nt d ⟨m, o.dst, r.1, dlOf r.2.2.1.get (rng d.n (r.2.1 - d.n)), T, lk, d.n, r.2.1⟩ d.lo
  | none => none
def dstep (call : FuncId → List V → Nat → Hp → Nat → R) (known : FuncId → Bool) (ops : Array Oper) (e0 : Ev) (h0 : Hp) (nt : Nat) (d : DS) (o : Oper) : Option DS :=
  match msks d.rs d.k o.after.toList with
  | none => none
  | some m => match wantV ops (mkEj e0 m d.rs d.k (lksOf ops o)) o with
    | none => none
    | some false => addR nt d ⟨m, o.dst, .sc undef, [], [], lksOf ops o, d.n, d.n⟩ d.lo
    | some true => dstepT P tab call known h0 nt d o m (lksOf ops o) (mkEj e0 m d.rs d.k (lksOf ops o)) (touch (HRk h0 m d.rs d.k) (mkEj e0 m d.rs d.k (lksOf ops o)) o)
def dgo (call : FuncId → List V → Nat → Hp → Nat → R) (known : FuncId → Bool) (ops : Array Oper) (e0 : Ev) (h0 : Hp) (nt : Nat) : List Oper → DS → Option DS
  | [], d => some d
  | o :: r, d => match dstep P tab call known ops e0 h0 nt d o with
    | some d' => dgo call known ops e0 h0 nt r d'
    | none => none
def finE (e0 : Ev) : List Rec → Ev
  | [] => e0
  | r :: rest => match r.dst with
    | some d => (finE e0 rest).set d r.v
    | none => finE e0 rest
def applyD : List (Nat × Option B) → Hp → Hp
  | [], h => h
  | p :: r, h => match p.2 with
    | some b => (applyD r h).set p.1 b
    | none => (applyD r h).del p.1
def finH (h0 : Hp) : List Rec → Hp
  | [] => h0
  | r :: rest => applyD r.dl (finH h0 rest)
def rdraw (call : FuncId → List V → Nat → Hp → Nat → R) (known : FuncId → Bool) (nt : Nat) (ops : Array Oper) (s : St) : Option St :=
  match dgo P tab call known ops s.e s.h nt ops.toList ⟨[], 0, s.n, s.lo⟩ with
  | some d => some ⟨finE s.e d.rs, d.n, finH s.h d.rs, d.lo⟩
  | none => none
end
theorem finE_get {e0 : Ev} {t : Nat} : ∀ {R : List Rec}, (finE e0 R).get t = ER e0.get (fun _ => true) R t
  | [] => rfl
  | r :: rest => by
    rw [finE, ER]
    cases hd : r.dst with
    | none => exact finE_get
    | some d =>
      dsimp only
      rw [Tr.get_set]
      by_cases ht : t = d
      · subst ht; simp
      · rw [if_neg ht, Ab.beq_no (Ne.symm ht)]; exact finE_get
theorem applyD_get {id : Nat} : ∀ {dl : List (Nat × Option B)} {h : Hp}, (applyD dl h).get id = match lookD dl id with | some x => x | none => h.get id
  | [], h => rfl
  | p :: r, h => by
    rw [applyD, lookD]
    by_cases hp : p.1 = id
    · subst hp
      rw [Ab.beq_yes, cond_true]
      cases hx : p.2 with
      | some b => dsimp only; rw [Tr.get_set, if_pos rfl]
      | none => dsimp only; rw [Tr.get_del, if_pos rfl]
    · rw [Ab.beq_no hp, cond_false]
      cases hx : p.2 with
      | some b => dsimp only; rw [Tr.get_set, if_neg (Ne.symm hp)]; exact applyD_get
      | none => dsimp only; rw [Tr.get_del, if_neg (Ne.symm hp)]; exact applyD_get
theorem finH_get {h0 : Hp} {id : Nat} : ∀ {R : List Rec}, (finH h0 R).get id = HR h0.get (fun _ => true) R id
  | [] => rfl
  | r :: rest => by
    rw [finH, HR, applyD_get]
    dsimp only
    cases lookD r.dl id with
    | some x => rfl
    | none => exact finH_get
theorem all_congr {g0 : Gm} {e0 : Nat → Option V} {n0 : Nat} {L S : Nat → Bool} {id : Nat} : ∀ {R : List Rec}, (∀ j, j < R.length → L j = S j) → HR g0 L R id = HR g0 S R id ∧ ER e0 L R id = ER e0 S R id
  | [], _ => ⟨rfl, rfl⟩
  | r :: rest, h => by
    obtain ⟨h1, h2⟩ := all_congr (g0 := g0) (e0 := e0) (n0 := n0) (L := L) (S := S) (id := id) (R := rest) fun j hj => h j (by simp; omega)
    rw [HR, HR, ER, ER, h rest.length (by simp), h1, h2]
    exact ⟨rfl, rfl⟩
structure DOk (P : Program) (ops : Array Oper) (e0 : Ev) (h0 : Hp) (n0 lo0 nt : Nat) (d : DS) : Prop where
  all : AllOk P ops h0.get e0.get n0 nt d.rs
  len : d.k = d.rs.length
  num : lastN n0 d.rs = d.n
  edges : ∀ i o, i < d.k → ops[i]? = some o → ∀ ed ∈ o.after, Region.binds .any ed = true → ed.on < i
  lo : d.lo ≤ lo0
  low : ∀ r ∈ d.rs, ∀ id x, lookD r.dl id = some x → d.lo ≤ id ∨ n0 ≤ id
  bd : ∀ r ∈ d.rs, ∀ id b, lookD r.dl id = some (some b) → id < d.n
  nn : ∀ id, id < n0 → h0.get id = none → ∀ S, HR h0.get S d.rs id = none
section
variable {P : Program} {tab : TTab} {ops : Array Oper} {e0 : Ev} {h0 : Hp} {n0 lo0 nt : Nat}
theorem addR_ok {d d' : DS} {r : Rec} {lo : Nat} {o : Oper} (D : DOk P ops e0 h0 n0 lo0 nt d) (ha : addR nt d r lo = some d') (ho : ops[d.k]? = some o) (hop : ops[d.rs.length]? = some o ∧ o.dst = r.dst ∧ ∃ ej : Ev, (∀ t c, ej.get t = some c → t ∈ r.lk ∧ ER e0.get (tb r.msk) d.rs t = some c) ∧
      ((wantV ops ej o = some false ∧ r.v = .sc undef ∧ r.dl = [] ∧ r.n' = r.n) ∨
       (wantV ops ej o = some true ∧ ∃ hin hout : Hp, Wp P o ej r.n hin r.v r.n' hout ∧ (∀ id b, hin.get id = some b → id ∈ r.rd ∧ HR h0.get (tb r.msk) d.rs id = some b) ∧ (∀ id, hout.get id = match lookD r.dl id with | some x => x | none => hin.get id) ∧
        (∀ id x, lookD r.dl id = some x → id ∈ r.rd ∨ (r.n ≤ id ∧ id < r.n')) ∧ (∀ id, id < r.n → hin.get id = none → hout.get id = none))))
    (hm : msks d.rs d.k o.after.toList = some r.msk) (hn : r.n = d.n) (hnn : r.n ≤ r.n') (hlo : lo ≤ d.lo) (hlow : ∀ id x, lookD r.dl id = some x → lo ≤ id ∨ n0 ≤ id) (hbd : ∀ id b, lookD r.dl id = some (some b) → id < r.n') : DOk P ops e0 h0 n0 lo0 nt d' ∧ d'.k = d.k + 1 := by
  unfold addR at ha
  split at ha
  · rename_i hc
    cases ha
    simp only [Bool.and_eq_true] at hc
    obtain ⟨hdst, hfree⟩ := hc
    obtain ⟨f1, f2⟩ := freeB_spec D.len hfree
    obtain ⟨m1, m2⟩ := msks_spec D.len hm
    have hrec : RecOk P ops h0.get e0.get n0 nt d.rs r := by
      refine ⟨⟨o, hop⟩, fun j hj => ?_, fun t ht => ⟨?_, f2 t ht⟩, ⟨?_, hnn⟩, f1⟩
      · obtain ⟨ed, h1, h2, h3, h4⟩ := m2 j hj
        have hlen := D.len
        refine ⟨?_, o, hop.1, ed, by simpa using h1, h2, h4⟩
        rcases h4 with rfl | ⟨q, rest', ⟨pre, hp⟩, hl, hq⟩
        · omega
        · have hall := D.all
          rw [hp] at hall
          have := (hall.at.waits j hq).1
          rw [hp]; simp; omega
      · rw [ht] at hdst; exact blt_lt hdst
      · have := D.num
        rw [hn, ← this]
        cases d.rs <;> rfl
    have hnum := D.num
    refine ⟨⟨⟨hrec, D.all⟩, by simp [D.len], rfl, fun i o' hi ho' ed hed hb => ?_, by have := D.lo; dsimp only; omega, fun q hq id x hl => ?_, fun q hq id b hl => ?_, fun id hid h00 S => ?_⟩, rfl⟩
    · dsimp only at hi
      by_cases he : i = d.k
      · subst he
        rw [ho] at ho'; cases ho'
        exact m1 ed (by simpa using hed) hb
      · exact D.edges i o' (by omega) ho' ed hed hb
    · rcases List.mem_cons.1 hq with rfl | hq
      · exact hlow id x hl
      · have := D.low q hq id x hl
        dsimp only; omega
    · rcases List.mem_cons.1 hq with rfl | hq
      · exact hbd id b hl
      · have := D.bd q hq id b hl
        dsimp only; omega
    · have ih := D.nn id hid h00
      show HR h0.get S (r :: d.rs) id = none
      rw [HR]
      split
      · split
        · rename_i x hx
          obtain ⟨_, _, ej, _, hcase⟩ := hop
          rcases hcase with ⟨_, _, hdl, _⟩ | ⟨_, hin, hout, _, q1, q2, q3, q4⟩
          · rw [hdl] at hx; cases hx
          · have hxo : hout.get id = x := by rw [q2, hx]
            rw [← hxo]
            refine q4 id ?_ ?_
            · have := (nums_le D.all).1
              rw [hnum] at this
              omega
            · cases hg : hin.get id with
              | none => rfl
              | some b => have := (q1 id b hg).2; rw [ih] at this; cases this
        · exact ih S
      · exact ih S
  · cases ha
theorem dstep_ok {call : FuncId → List V → Nat → Hp → Nat → R} {known : FuncId → Bool} (TO : TabOk P tab) (CO : CallOk P call) {d d' : DS} {o : Oper} (D : DOk P ops e0 h0 n0 lo0 nt d) (ho : ops[d.k]? = some o) (hd : dstep P tab call known ops e0 h0 nt d o = some d') : DOk P ops e0 h0 n0 lo0 nt d' ∧ d'.k = d.k + 1 := by
  have hlen := D.len
  unfold dstep at hd
  split at hd
  · cases hd
  · rename_i m hm
    have hej : ∀ t c, (mkEj e0 m d.rs d.k (lksOf ops o)).get t = some c → t ∈ lksOf ops o ∧ ER e0.get (tb m) d.rs t = some c := fun t c h => mkEj_spec D.len h
    have ho2 : ops[d.rs.length]? = some o := by rw [← D.len]; exact ho
    split at hd
    · cases hd
    · rename_i hw
      exact addR_ok D hd ho ⟨ho2, rfl, _, hej, .inl ⟨hw, rfl, rfl, rfl⟩⟩ hm rfl (Nat.le_refl _) (Nat.le_refl _) (fun id x hl => by cases hl) (fun id b hl => by cases hl)
    · rename_i hw
      unfold dstepT at hd
      split at hd
      · rename_i r hr
        obtain ⟨g1, g2⟩ := rop_good TO CO hr
        have hhin : ∀ id b, (mkH (HRk h0 m d.rs d.k) d.n (touch (HRk h0 m d.rs d.k) (mkEj e0 m d.rs d.k (lksOf ops o)) o)).get id = some b → id ∈ touch (HRk h0 m d.rs d.k) (mkEj e0 m d.rs d.k (lksOf ops o)) o ∧ HR h0.get (tb m) d.rs id = some b := fun id b h => by
          obtain ⟨h1, h2, _⟩ := mkH_spec h
          exact ⟨h1, by rw [← HRk_eq D.len]; exact h2⟩
        have hbd0 : ∀ id b, (mkH (HRk h0 m d.rs d.k) d.n (touch (HRk h0 m d.rs d.k) (mkEj e0 m d.rs d.k (lksOf ops o)) o)).get id = some b → id < d.n := fun id b h => (mkH_spec h).2.2
        have hbd1 := g1.bd hbd0
        have hsame := g1.same (Nat.le_refl _)
        have hle := g1.le
        split at hd
        · rename_i hwr
          have hwr := blt_lt hwr
          refine addR_ok D hd ho ⟨ho2, rfl, _, hej, .inr ⟨hw, _, r.2.2.1, g2, hhin, fun id => ?_, fun id x hl => ?_, g1.nn⟩⟩ hm rfl hle (lmin_r _ _) (fun id x hl => ?_) (fun id b hl => ?_)
          · dsimp only
            by_cases hid : id ∈ geOf r.2.2.2 (touch (HRk h0 m d.rs d.k) (mkEj e0 m d.rs d.k (lksOf ops o)) o) ++ rng d.n (r.2.1 - d.n)
            · rw [(dlOf_spec).1 hid]
            · rw [(dlOf_spec).2 hid]
              dsimp only
              rw [List.mem_append, mem_ge, mem_rng] at hid
              by_cases h1 : id < r.2.2.2
              · exact hsame id h1
              · -- neither looked at nor new
                have h2 : id ∉ touch (HRk h0 m d.rs d.k) (mkEj e0 m d.rs d.k (lksOf ops o)) o := fun hh => hid (.inl ⟨hh, by omega⟩)
                have h3 : (mkH (HRk h0 m d.rs d.k) d.n (touch (HRk h0 m d.rs d.k) (mkEj e0 m d.rs d.k (lksOf ops o)) o)).get id = none := by
                  cases hg : (mkH (HRk h0 m d.rs d.k) d.n (touch (HRk h0 m d.rs d.k) (mkEj e0 m d.rs d.k (lksOf ops o)) o)).get id with
                  | none => rfl
                  | some b => exact absurd (hhin id b hg).1 h2
                rw [h3]
                by_cases h4 : id < d.n
                · exact g1.nn id h4 h3
                · cases hg : r.2.2.1.get id with
                  | none => rfl
                  | some b =>
                    have := hbd1 id b hg
                    exact absurd (.inr (by omega)) hid
          · dsimp only at hl
            by_cases hid : id ∈ geOf r.2.2.2 (touch (HRk h0 m d.rs d.k) (mkEj e0 m d.rs d.k (lksOf ops o)) o) ++ rng d.n (r.2.1 - d.n)
            · rw [List.mem_append, mem_ge, mem_rng] at hid
              rcases hid with h1 | h1
              · exact .inl h1.1
              · exact .inr (by dsimp only; omega)
            · rw [(dlOf_spec).2 hid] at hl; cases hl
          · dsimp only at hl
            by_cases hid : id ∈ geOf r.2.2.2 (touch (HRk h0 m d.rs d.k) (mkEj e0 m d.rs d.k (lksOf ops o)) o) ++ rng d.n (r.2.1 - d.n)
            · rw [List.mem_append, mem_ge, mem_rng] at hid
              have := lmin_l r.2.2.2 d.lo
              have h9 := (nums_le D.all).1
              rw [D.num] at h9
              omega
            · rw [(dlOf_spec).2 hid] at hl; cases hl
          · dsimp only at hl
            by_cases hid : id ∈ geOf r.2.2.2 (touch (HRk h0 m d.rs d.k) (mkEj e0 m d.rs d.k (lksOf ops o)) o) ++ rng d.n (r.2.1 - d.n)
            · rw [(dlOf_spec).1 hid] at hl
              exact hbd1 id b (Option.some.inj hl)
            · rw [(dlOf_spec).2 hid] at hl; cases hl
        · rename_i hwr
          have hwr := blt_ge hwr
          refine addR_ok D hd ho ⟨ho2, rfl, _, hej, .inr ⟨hw, _, r.2.2.1, g2, hhin, fun id => ?_, fun id x hl => ?_, g1.nn⟩⟩ hm rfl hle (Nat.le_refl _) (fun id x hl => ?_) (fun id b hl => ?_)
          · dsimp only
            by_cases hid : id ∈ rng d.n (r.2.1 - d.n)
            · rw [(dlOf_spec).1 hid]
            · rw [(dlOf_spec).2 hid]
              dsimp only
              rw [mem_rng] at hid
              by_cases h1 : id < d.n
              · exact hsame id (by omega)
              · have h3 : (mkH (HRk h0 m d.rs d.k) d.n (touch (HRk h0 m d.rs d.k) (mkEj e0 m d.rs d.k (lksOf ops o)) o)).get id = none := by
                  cases hg : (mkH (HRk h0 m d.rs d.k) d.n (touch (HRk h0 m d.rs d.k) (mkEj e0 m d.rs d.k (lksOf ops o)) o)).get id with
                  | none => rfl
                  | some b => exact absurd (hbd0 id b hg) h1
                rw [h3]
                cases hg : r.2.2.1.get id with
                | none => rfl
                | some b =>
                  have := hbd1 id b hg
                  exact absurd (by omega) hid
          · dsimp only at hl
            by_cases hid : id ∈ rng d.n (r.2.1 - d.n)
            · rw [mem_rng] at hid; exact .inr (by dsimp only; omega)
            · rw [(dlOf_spec).2 hid] at hl; cases hl
          · dsimp only at hl
            by_cases hid : id ∈ rng d.n (r.2.1 - d.n)
            · rw [mem_rng] at hid
              have h9 := (nums_le D.all).1
              rw [D.num] at h9
              omega
            · rw [(dlOf_spec).2 hid] at hl; cases hl
          · dsimp only at hl
            by_cases hid : id ∈ rng d.n (r.2.1 - d.n)
            · rw [(dlOf_spec).1 hid] at hl
              exact hbd1 id b (Option.some.inj hl)
            · rw [(dlOf_spec).2 hid] at hl; cases hl
      · cases hd
theorem dgo_ok {call : FuncId → List V → Nat → Hp → Nat → R} {known : FuncId → Bool} (TO : TabOk P tab) (CO : CallOk P call) : ∀ {l : List Oper} {d d' : DS}, DOk P ops e0 h0 n0 lo0 nt d → ops.toList.drop d.k = l → dgo P tab call known ops e0 h0 nt l d = some d' → DOk P ops e0 h0 n0 lo0 nt d' ∧ d'.k = d.k + l.length
  | [], d, d', D, hl, h => by cases h; exact ⟨D, rfl⟩
  | o :: r, d, d', D, hl, h => by
    rw [dgo] at h
    split at h
    · rename_i d1 h1
      have ho : ops[d.k]? = some o := by
        have := congrArg (fun l => l[0]?) hl
        simp at this; exact this
      obtain ⟨D1, k1⟩ := dstep_ok TO CO D ho h1
      obtain ⟨D2, k2⟩ := dgo_ok TO CO D1 (by rw [k1, ← List.drop_drop, hl]; rfl) h
      exact ⟨D2, by rw [k2, k1]; simp; omega⟩
    · cases h
theorem rdraw_good {call : FuncId → List V → Nat → Hp → Nat → R} {known : FuncId → Bool} (TO : TabOk P tab) (CO : CallOk P call) (hm : P.follows .mixedOrders = true) : RegOk P (rdraw P tab call known) true := by
  intro nt ops s s' hr
  unfold rdraw at hr
  split at hr
  · rename_i d hd
    cases hr
    have D0 : DOk P ops s.e s.h s.n s.lo nt ⟨[], 0, s.n, s.lo⟩ := ⟨trivial, rfl, rfl, (fun i o hi => by dsimp only at hi; omega), Nat.le_refl _, (fun r hr => by cases hr), (fun r hr => by cases hr), fun id _ h _ => h⟩
    obtain ⟨D, hk⟩ := dgo_ok TO CO D0 (by simp) hd
    have hlen : d.rs.length = ops.size := by rw [← D.len, hk]; simp
    have hnum := D.num
    have hnn := (nums_le D.all).1
    rw [hnum] at hnn
    have hdl : ∀ id, (∃ r ∈ d.rs, ∃ x, lookD r.dl id = some x) ∨ (∀ S, HR s.h.get S d.rs id = s.h.get id) := by
      intro id
      have : ∀ (R : List Rec), (∃ r ∈ R, ∃ x, lookD r.dl id = some x) ∨ (∀ S, HR s.h.get S R id = s.h.get id) := by
        intro R
        induction R with
        | nil => exact .inr fun S => rfl
        | cons r rest ih =>
          cases hl : lookD r.dl id with
          | some x => exact .inl ⟨r, by simp, x, hl⟩
          | none =>
            rcases ih with ⟨q, h1, h2⟩ | h1
            · exact .inl ⟨q, by simp [h1], h2⟩
            · refine .inr fun S => ?_
              rw [HR, hl]
              cases S rest.length <;> exact h1 S
      exact this d.rs
    refine ⟨⟨hnn, D.lo, fun h1 => by have := D.lo; dsimp only; omega, fun h1 id hid => ?_, fun hb id b hg => ?_, fun id hid hn => by dsimp only; rw [finH_get]; exact D.nn id hid hn _⟩, fun id ι a w R hf => ?_⟩
    · dsimp only at hid ⊢
      rw [finH_get]
      rcases hdl id with ⟨r, h2, x, h3⟩ | h2
      · have := D.low r h2 id x h3
        have := D.lo
        omega
      · exact h2 _
    · dsimp only at hg ⊢
      rw [finH_get] at hg
      have : ∀ (R : List Rec) (S : Nat → Bool), (∀ r ∈ R, ∀ id b, lookD r.dl id = some (some b) → id < d.n) → HR s.h.get S R id = some b → id < d.n := by
        intro R S
        induction R with
        | nil => intro _ h; have := hb id b h; omega
        | cons r rest ih =>
          intro hh h
          rw [HR] at h
          split at h
          · split at h
            · rename_i x hx; subst h; exact hh r (by simp) id b hx
            · exact ih (fun q hq => hh q (by simp [hq])) h
          · exact ih (fun q hq => hh q (by simp [hq])) h
      exact this d.rs _ D.bd hg
    · refine wp_region_any hm ?_
      have e0 : setL (Array.replicate ops.size false) = fun _ => false := by
        funext j
        unfold setL
        simp [Array.getD]
      have hoff : ∀ (R : List Rec) id, HR s.h.get (fun _ => false) R id = s.h.get id ∧ ER s.e.get (fun _ => false) R id = s.e.get id ∧ NR s.n (fun _ => false) R id = s.n ∧ MR s.n (fun _ => false) R id = s.n := by
        intro R id
        induction R with
        | nil => exact ⟨rfl, rfl, rfl, rfl⟩
        | cons r rest ih => exact ih
      have hcut : ι.cut s.n = ι := by
        funext id
        unfold Io.cut
        split
        · rfl
        · exact (hf id (by omega)).symm
      have M0 : Mid a.defers s.n nt s.h.get s.e.get d.rs (fun _ => false) ι w ι a { w with drawn := w.drawn + 1 } := by
        have e1 : HR s.h.get (fun _ => false) d.rs = s.h.get := funext fun id => (hoff d.rs id).1
        refine ⟨fun id b hb => ?_, fun i j b b' rr m m' h1 h2 => ?_, fun t v hv => ?_, fun id hid => ?_, ?_, rfl, R.size⟩
        · rw [e1] at hb
          rw [(hoff d.rs id).2.2.1, hcut]
          obtain ⟨rr, m, h1, h2⟩ := R.heap.blk id b hb
          refine ⟨rr, m, h1, ?_, h2.mono (fun _ _ h => h) rfl⟩
          rcases Nat.lt_or_ge id s.n with h3 | h3
          · exact h3
          · rw [hf id h3] at h1; cases h1
        · rw [e1] at h1 h2; exact R.heap.inj i j b b' rr m m' h1 h2
        · rw [(hoff d.rs t).2.1] at hv
          rw [(hoff d.rs t).2.2.2, hcut]
          exact R.env t v hv
        · left
          rcases Nat.lt_or_ge id s.n with h3 | h3
          · exact h3
          · exact absurd (hf id h3) hid
        · rw [e1, hnum]
          exact ⟨rfl, rfl, rfl, Nat.le_refl _, hnn, fun _ _ => rfl, fun _ _ _ => rfl, fun id b rr m h1 h2 _ => ⟨id, b, m, h1, h2⟩⟩
      refine any_good (e0 := s.e.get) D.all hlen (fun i o ho => D.edges i o (by rw [D.len, hlen]; exact (Array.getElem?_eq_some_iff.1 ho).1) ho) (fun ι2 a2 w2 L hL M => ?_) ops.size _ ι a _ (by simp) ?_ (by rw [e0]; exact M0) ?_
      · have e2 : HR s.h.get L d.rs = (finH s.h d.rs).get := funext fun id => by rw [finH_get]; exact (all_congr (e0 := s.e.get) (n0 := s.n) hL).1
        have e3 : ∀ t, ER s.e.get L d.rs t = (finE s.e d.rs).get t := fun t => by rw [finE_get]; exact (all_congr (g0 := s.h.get) (n0 := s.n) hL).2
        refine ⟨rfl, ι2, ⟨⟨fun id b hb => ?_, fun i j b b' rr m m' h1 h2 => ?_⟩, fun t v hv => ?_, (by have q := R.defers.ex M.ex; rw [e2] at q; rw [M.defers]; exact q), M.size⟩, ?_⟩
        · dsimp only at hb
          rw [← e2] at hb
          obtain ⟨rr, m, h1, _, h2⟩ := M.blk id b hb
          exact ⟨rr, m, h1, h2.mono (cut_le _ _) rfl⟩
        · dsimp only at h1 h2
          rw [← e2] at h1 h2
          exact M.inj i j b b' rr m m' h1 h2
        · dsimp only at hv
          rw [← e3] at hv
          obtain ⟨u, h1, h2⟩ := M.env t v hv
          exact ⟨u, h1, h2.mono (cut_le _ _)⟩
        · have := M.ex
          rw [e2, hnum] at this
          exact this
      · rw [e0]; intro pre r rest _ h; cases h
      · rw [e0]
        have : ∀ n, cnt (fun _ => false) n = n := by
          intro n
          induction n with
          | zero => rfl
          | succ n ih => rw [cnt, ih]; rfl
        rw [this]; exact Nat.le_refl _
  · cases hr
end
end Go.Proofs.YtamnhhjcgloceaaGreat.Rn

namespace Go.Proofs.YtamnhhjcgloceaaGreat.Rn
set_option linter.unusedVariables false
open Go.RowKit
open Go.Proofs.YtamnhhjcgloceaaGreat.Ab (TE TTab tlook TabOk TFacts win setW setW_get win_get Sh)

def valEq : Value → Value → Bool
  | .bool a, .bool b => a == b
  | .int k a, .int q b => decide (k = q) && decide (a = b)
  | .string a, .string b => decide (a.data.toList = b.data.toList)
  | .pointer none, .pointer none => true
  | .slice none l c, .slice none l' c' => Nat.beq l l' && Nat.beq c c'
  | .map none, .map none => true
  | .nilFunc, .nilFunc => true
  | .nilIface, .nilIface => true
  | .tuple a, .tuple b => Nat.beq a.size 0 && Nat.beq b.size 0
  | _, _ => false
theorem valEq_eq : ∀ {a b : Value}, valEq a b = true → a = b := by
  intro a b h
  unfold valEq at h
  split at h <;> first | rfl | skip
  · simp at h; rw [h]
  · simp at h; rw [h.1, h.2]
  · rename_i a b
    obtain ⟨⟨l⟩⟩ := a
    obtain ⟨⟨m⟩⟩ := b
    simp at h
    rw [h]
  · simp at h; rw [h.1, h.2]
  · rename_i a b
    simp at h
    rw [h.1, h.2]
  · cases h

mutual
def veq : V → V → Bool
  | .sc a, .sc b => valEq a b
  | .ptr i o, .ptr j p => Nat.beq i j && Nat.beq o p
  | .sl i o l k c, .sl i' o' l' k' c' => Nat.beq i i' && Nat.beq o o' && Nat.beq l l' && Nat.beq k k' && decide (c = c')
  | .emp, .emp => true
  | .mp i, .mp j => Nat.beq i j
  | .fn f cs, .fn g ds => Nat.beq f g && veqs cs ds
  | .ifc t v, .ifc u w => Nat.beq t u && veq v w
  | .agg cs, .agg ds => veqs cs ds
  | .tup cs, .tup ds => veqs cs ds
  | _, _ => false
def veqs : List V → List V → Bool
  | [], [] => true
  | a :: r, b :: q => veq a b && veqs r q
  | _, _ => false
end
mutual
theorem veq_eq : (a b : V) → veq a b = true → a = b
  | .sc x, b, h => by cases b <;> simp [veq] at h; rw [valEq_eq h]
  | .ptr i o, b, h => by cases b <;> simp [veq] at h; rw [h.1, h.2]
  | .sl i o l k c, b, h => by cases b <;> simp [veq] at h; obtain ⟨⟨⟨⟨h1, h2⟩, h3⟩, h4⟩, h5⟩ := h; rw [h1, h2, h3, h4, h5]
  | .emp, b, h => by cases b <;> simp [veq] at h; rfl
  | .mp i, b, h => by cases b <;> simp [veq] at h; rw [h]
  | .fn f cs, b, h => by cases b <;> simp [veq] at h; rw [h.1, veqs_eq _ _ h.2]
  | .ifc t v, b, h => by cases b <;> simp [veq] at h; rw [h.1, veq_eq _ _ h.2]
  | .agg cs, b, h => by cases b <;> simp [veq] at h; rw [veqs_eq _ _ h]
  | .tup cs, b, h => by cases b <;> simp [veq] at h; rw [veqs_eq _ _ h]
theorem veqs_eq : (a b : List V) → veqs a b = true → a = b
  | [], b, h => by cases b <;> simp [veqs] at h; rfl
  | a :: r, b, h => by cases b <;> simp [veqs] at h; rw [veq_eq _ _ h.1, veqs_eq _ _ h.2]
end
def entsEq : List (V × V × Nat) → List (V × V × Nat) → Bool
  | [], [] => true
  | a :: r, b :: q => veq a.1 b.1 && veq a.2.1 b.2.1 && Nat.beq a.2.2 b.2.2 && entsEq r q
  | _, _ => false
theorem entsEq_eq : ∀ {a b : List (V × V × Nat)}, entsEq a b = true → a = b
  | [], b, h => by cases b <;> simp [entsEq] at h; rfl
  | (x, y, z) :: r, b, h => by
    cases b with
    | nil => simp [entsEq] at h
    | cons q b =>
      obtain ⟨u, v, w⟩ := q
      simp [entsEq] at h
      obtain ⟨⟨⟨h1, h2⟩, h3⟩, h4⟩ := h
      rw [veq_eq _ _ h1, veq_eq _ _ h2, h3, entsEq_eq h4]
def bEq : B → B → Bool
  | .cells cs m, .cells ds k => veqs cs ds && (m == k)
  | .map es c, .map ds d => entsEq es ds && Nat.beq c d
  | .sit s p, .sit t q => decide (s.data.toList = t.data.toList) && Nat.beq p q
  | .mit m s l t, .mit m' s' l' t' => decide (m = m') && Nat.beq s s' && decide (l = l') && Nat.beq t t'
  | _, _ => false
theorem bEq_eq : ∀ (a b : B), bEq a b = true → a = b
  | .cells cs m, b, h => by cases b <;> simp [bEq] at h; rw [veqs_eq _ _ h.1, h.2]
  | .map es c, b, h => by cases b <;> simp [bEq] at h; rw [entsEq_eq h.1, h.2]
  | .sit ⟨⟨s⟩⟩ p, b, h => by
    cases b <;> simp [bEq] at h
    rename_i t q
    obtain ⟨⟨t⟩⟩ := t
    simp at h
    rw [h.1, h.2]
  | .mit m s l t, b, h => by cases b <;> simp [bEq] at h; obtain ⟨⟨⟨h1, h2⟩, h3⟩, h4⟩ := h; rw [h1, h2, h3, h4]
def optEq {α : Type} (f : α → α → Bool) : Option α → Option α → Bool
  | none, none => true
  | some a, some b => f a b
  | _, _ => false
def trEq {α : Type} (f : α → α → Bool) : Tr α → Tr α → Bool
  | .nil, .nil => true
  | .nd v l r, .nd u p q => optEq f v u && trEq f l p && trEq f r q
  | _, _ => false
theorem optEq_eq {α : Type} {f : α → α → Bool} (hf : ∀ a b, f a b = true → a = b) : ∀ {a b : Option α}, optEq f a b = true → a = b
  | none, none, _ => rfl
  | some a, some b, h => by rw [hf a b h]
theorem trEq_eq {α : Type} {f : α → α → Bool} (hf : ∀ a b, f a b = true → a = b) : ∀ {a b : Tr α}, trEq f a b = true → a = b
  | .nil, .nil, _ => rfl
  | .nd v l r, .nd u p q, h => by
    simp [trEq] at h
    rw [optEq_eq hf h.1.1, trEq_eq hf h.1.2, trEq_eq hf h.2]
def stEq (s t : St) : Bool := trEq veq s.e t.e && Nat.beq s.n t.n && trEq bEq s.h t.h && Nat.beq s.lo t.lo
theorem stEq_eq {s t : St} (h : stEq s t = true) : s = t := by
  obtain ⟨a, b, c, d⟩ := s
  obtain ⟨a', b', c', d'⟩ := t
  simp [stEq] at h
  obtain ⟨⟨⟨h1, h2⟩, h3⟩, h4⟩ := h
  rw [trEq_eq veq_eq h1, h2, trEq_eq bEq_eq h3, h4]

section
variable {P : Program} {tab : TTab} {ops : Array Oper} {nt : Nat}
theorem rone_good {call : FuncId → List V → Nat → Hp → Nat → R} {known : FuncId → Bool} (TO : TabOk P tab) (CO : CallOk P call) {o : Oper} {s s' : St} (hr : rops P tab call known ops nt [o] s = some s') :
    SynS s s' ∧ ∀ {z : Nat} ι a w, Rl z ι nt s.e s.h.get a w → Free ι s.n s'.n → ∀ (K : Act → World → Prop) (Q : Exit → Act → World → Prop), (∀ ι' a' w', Rl z ι' nt s'.e s'.h.get a' w' → Ex s.n s'.n ι s.h.get w ι' s'.h.get w' → K a' w') → if Region.wanted o (yielded ops a.tmps) then o.wp P a w K Q else K (a.put o.dst undef) w := by
  rw [rops] at hr
  split at hr
  · rename_i hw
    split at hr
    · rename_i r hop
      split at hr
      · rename_i e' hp
        cases hr
        obtain ⟨g1, g2⟩ := rop_good TO CO hop
        refine ⟨g1, fun ι a w R hf K Q hK => ?_⟩
        rw [wantV_rel R.env hw, if_pos rfl]
        refine g2 ι a w ⟨R.heap, R.env, hf⟩ K Q fun ι' u w' hv hH hE => ?_
        have hio := hE.io hf
        have R' : Rl _ ι' nt s.e r.2.2.1.get a w' := ⟨hH, R.env.mono hio, R.defers.ex hE, R.size⟩
        exact hK ι' _ w' (putE_rel R' hv hp) hE
      · cases hr
    · cases hr
  · rename_i hw
    split at hr
    · rename_i e' hp
      cases hr
      refine ⟨Syn.refl _ _ _, fun ι a w R hf K Q hK => ?_⟩
      rw [wantV_rel R.env hw]
      exact hK ι _ w (putE_rel R (.sc _) hp) (Ex.refl _ _ _ _)
    · cases hr
  · cases hr
variable (P tab ops nt) in
def rany (call : FuncId → List V → Nat → Hp → Nat → R) (known : FuncId → Bool) : Nat → Array Bool → St → Option St
  | 0, listed, s => match Region.ready .any ops listed with
    | [] => some s
    | _ => none
  | f + 1, listed, s =>
    let one : Nat → Option St := fun i => match ops[i]? with
      | some o => match rops P tab call known ops nt [o] s with
        | some s1 => rany call known f (listed.setIfInBounds i true) s1
        | none => none
      | none => none
    match Region.ready .any ops listed with
    | [] => some s
    | i :: rs => match one i with
      | some r => cond (rs.all fun j => match one j with
        | some q => stEq q r
        | none => false) (some r) none
      | none => none
theorem rany_good {call : FuncId → List V → Nat → Hp → Nat → R} {known : FuncId → Bool} (TO : TabOk P tab) (CO : CallOk P call) : ∀ (f : Nat) (listed : Array Bool) (s s' : St), rany P tab ops nt call known f listed s = some s' →
    SynS s s' ∧ ∀ {z : Nat} ι a w, Rl z ι nt s.e s.h.get a w → Free ι s.n s'.n → ∀ Q : Exit → Act → World → Prop, (∀ x a' w', CPost z nt .normal s s' ι w x a' w' → Q x a' w') → wpAny P .any ops Q f listed a w
  | 0, listed, s, s', h => by
    rw [rany] at h
    split at h
    · rename_i hrd
      cases h
      exact ⟨Syn.refl _ _ _, fun ι a w R hf Q hQ => wpAny_done hrd (hQ _ _ _ ⟨rfl, ι, R, Ex.refl _ _ _ _⟩) _⟩
    · cases h
  | f + 1, listed, s, s', h => by
    rw [rany] at h
    dsimp only at h
    split at h
    · rename_i hrd
      cases h
      exact ⟨Syn.refl _ _ _, fun ι a w R hf Q hQ => wpAny_done hrd (hQ _ _ _ ⟨rfl, ι, R, Ex.refl _ _ _ _⟩) _⟩
    · rename_i i rs hrd
      -- each that may come up comes to s'
      have all : (match ops[i]? with
          | some o => match rops P tab call known ops nt [o] s with
            | some s1 => rany P tab ops nt call known f (listed.setIfInBounds i true) s1
            | none => none
          | none => none) = some s' ∧ ∀ j ∈ rs, (match ops[j]? with
          | some o => match rops P tab call known ops nt [o] s with
            | some s1 => rany P tab ops nt call known f (listed.setIfInBounds j true) s1
            | none => none
          | none => none) = some s' := by
        split at h
        · rename_i r hr
          cases hb : (rs.all fun j => match (match ops[j]? with
              | some o => match rops P tab call known ops nt [o] s with
                | some s1 => rany P tab ops nt call known f (listed.setIfInBounds j true) s1
                | none => none
              | none => none) with
            | some q => stEq q r
            | none => false) with
          | false => rw [hb] at h; cases h
          | true =>
            rw [hb] at h
            cases h
            refine ⟨hr, fun j hj => ?_⟩
            have := List.all_eq_true.1 hb j hj
            split at this
            · rename_i q hq
              rw [hq, stEq_eq this]
            · cases this
        · cases h
      have each : ∀ j ∈ i :: rs, ∃ o s1, ops[j]? = some o ∧ rops P tab call known ops nt [o] s = some s1 ∧ rany P tab ops nt call known f (listed.setIfInBounds j true) s1 = some s' := fun j hj => by
        have hj2 : (match ops[j]? with
          | some o => match rops P tab call known ops nt [o] s with
            | some s1 => rany P tab ops nt call known f (listed.setIfInBounds j true) s1
            | none => none
          | none => none) = some s' := by
          rcases List.mem_cons.1 hj with rfl | hj
          · exact all.1
          · exact all.2 j hj
        split at hj2
        · rename_i o ho
          split at hj2
          · rename_i s1 h1; exact ⟨o, s1, ho, h1, hj2⟩
          · cases hj2
        · cases hj2
      obtain ⟨o0, s0, ho0, h0, hr0⟩ := each i (by simp)
      obtain ⟨p1, _⟩ := rone_good TO CO h0
      obtain ⟨p2, _⟩ := rany_good TO CO f _ s0 s' hr0
      refine ⟨p1.trans p2, fun ι a w R hf Q hQ => wpAny_all hrd (by simp) fun j hj => ?_⟩
      obtain ⟨o, s1, ho, h1, hr1⟩ := each j hj
      obtain ⟨g1, g2⟩ := rone_good TO CO h1
      obtain ⟨g3, g4⟩ := rany_good TO CO f _ s1 s' hr1
      have key := g2 ι a w R (hf.left g3.le) (wpAny P .any ops Q f (listed.setIfInBounds j true)) Q fun ι' a' w' R' E' => g4 ι' a' w' R' (hf.right E') Q fun x a2 w2 h2 => hQ x a2 w2 (cpost_trans E' h2)
      unfold wpOp
      simp only [ho]
      split
      · rename_i hw; rw [if_pos hw] at key; exact .inl key
      · rename_i hw; rw [if_neg hw] at key; exact key
variable (P tab) in
def rdrawA (call : FuncId → List V → Nat → Hp → Nat → R) (known : FuncId → Bool) (nt : Nat) (ops : Array Oper) (s : St) : Option St := match rdraw P tab call known nt ops s with
  | some s' => some s'
  | none => cond (Nat.ble ops.size 12) (rany P tab ops nt call known ops.size (Array.replicate ops.size false) s) none
theorem rdrawA_good {call : FuncId → List V → Nat → Hp → Nat → R} {known : FuncId → Bool} (TO : TabOk P tab) (CO : CallOk P call) (hm : P.follows .mixedOrders = true) : RegOk P (rdrawA P tab call known) true := by
  intro nt ops s s' hr
  unfold rdrawA at hr
  split at hr
  · rename_i s1 h1
    cases hr
    exact rdraw_good TO CO hm nt ops s _ h1
  · cases hb : Nat.ble ops.size 12 with
    | false => rw [hb] at hr; cases hr
    | true =>
      rw [hb] at hr
      obtain ⟨g1, g2⟩ := rany_good TO CO _ _ s s' hr
      refine ⟨g1, fun id ι a w R hf => wp_region_any hm (g2 ι a { w with drawn := w.drawn + 1 } ⟨⟨fun id b hb => ?_, R.heap.inj⟩, R.env, ⟨R.defers.all, R.defers.apart, R.defers.low⟩, R.size⟩ hf _ fun x a' w' hq => ?_)⟩
      · obtain ⟨rr, m, h1, h2⟩ := R.heap.blk id b hb
        exact ⟨rr, m, h1, h2.mono (fun _ _ h => h) rfl⟩
      · obtain ⟨h1, ι', R', E⟩ := hq
        exact ⟨h1, ι', R', ⟨E.os, E.tape, E.output, E.size, E.le, E.same, E.mem, E.old⟩⟩

def knownF (ft : FT) (f : FuncId) : Bool := (flook ft f).isSome
def run (P : Program) (tab : TTab) (ft : FT) (fuel : Nat) : Nat → Code → St → RC := Nat.rec (fun _ _ _ => none) (fun _ ih => rstep (fun nt ops s => rops P tab (rcall tab ft ih) (knownF ft) ops nt ops.toList s) (rdrawA P tab (rcall tab ft ih) (knownF ft)) (rcallG tab ft ih 1) ih) fuel
theorem run_good {ft : FT} (TO : TabOk P tab) (FO : FOk P ft) (hm : P.follows .mixedOrders = true) : ∀ fuel, IhOk P (run P tab ft fuel)
  | 0 => fun nt c s x s' h => by cases h
  | fuel + 1 => by
    have IO := run_good TO FO hm fuel
    have CO := rcall_good TO FO IO
    refine rstep_good (fun nt ops s s' hr => ?_) (rdrawA_good TO CO hm) (rcallG_good TO FO IO) IO
    obtain ⟨h1, h2⟩ := rops_good TO CO ops.toList s s' hr
    exact ⟨h1, fun id ι a w R hf => wp_region_list (h2 ι a w R hf _ fun x a' w' h => h)⟩
def runF (P : Program) (tab : TTab) (ft : FT) (fuel : Nat) (f : FuncId) (args : List Value) : Option Value := match rcall tab ft (run P tab ft fuel) f (args.map .sc) 0 .nil 0 with
  | some r => tv r.1
  | none => none
theorem runF_good {ft : FT} (TO : TabOk P tab) (FO : FOk P ft) (hm : P.follows .mixedOrders = true) {fuel : Nat} {f : FuncId} {args : List Value} {v : Value} (h : runF P tab ft fuel f args = some v) (w : World) :
    Calls P f args.toArray w fun x w' => x = .returned v ∧ w'.os = w.os ∧ w'.tape = w.tape ∧ w'.output = w.output ∧ w.heap.size ≤ w'.heap.size ∧ ∀ k, k < w.heap.size → w'.heap[k]? = w.heap[k]? := by
  unfold runF at h
  split at h
  · rename_i r hr
    obtain ⟨_, _, h3⟩ := rcall_good TO FO (run_good TO FO hm fuel) _ _ _ _ _ _ hr
    have H0 : HRel (fun _ => none) (Tr.nil : Hp).get w := ⟨(fun id b hb => by cases hb), (fun i j b b' r m m' hb => by cases hb)⟩
    refine (h3 (fun _ => none) args.toArray w H0 (by simpa using LRel.scs args) (fun _ _ => rfl)).mono ?_
    rintro x w' ⟨u, ι', rfl, h4, h5, h6⟩
    exact ⟨by rw [tv_rel h4 _ h], h6.os, h6.tape, h6.output, h6.size, fun k hk => h6.mem k hk fun id b m hb => by cases hb⟩
  · cases h
end
end Go.Proofs.YtamnhhjcgloceaaGreat.Rn

namespace Go.Proofs.YtamnhhjcgloceaaGreat.Rn
set_option linter.unusedVariables false
noncomputable def ft : FT := (.node 62 Tryz.f62 (.node 32 Tryz.f32 (.node 17 Tryz.f17 (.node 10 Tryz.f10 (.node 6 Tryz.f6 (.node 4 Tryz.f4 (.node 3 Tryz.f3 .leaf .leaf) (.node 5 Tryz.f5 .leaf .leaf)) (.node 8 Tryz.f8 (.node 7 Tryz.f7 .leaf .leaf) (.node 9 Tryz.f9 .leaf .leaf))) (.node 14 Tryz.f14 (.node 12 Tryz.f12 (.node 11 Tryz.f11 .leaf .leaf) (.node 13 Tryz.f13 .leaf .leaf)) (.node 16 Tryz.f16 (.node 15 Tryz.f15 .leaf .leaf) .leaf))) (.node 25 Tryz.f25 (.node 21 Tryz.f21 (.node 19 Tryz.f19 (.node 18 Tryz.f18 .leaf .leaf) (.node 20 Tryz.f20 .leaf .leaf)) (.node 23 Tryz.f23 (.node 22 Tryz.f22 .leaf .leaf) (.node 24 Tryz.f24 .leaf .leaf))) (.node 29 Tryz.f29 (.node 27 Tryz.f27 (.node 26 Tryz.f26 .leaf .leaf) (.node 28 Tryz.f28 .leaf .leaf)) (.node 31 Tryz.f31 (.node 30 Tryz.f30 .leaf .leaf) .leaf)))) (.node 47 Tryz.f47 (.node 40 Tryz.f40 (.node 36 Tryz.f36 (.node 34 Tryz.f34 (.node 33 Tryz.f33 .leaf .leaf) (.node 35 Tryz.f35 .leaf .leaf)) (.node 38 Tryz.f38 (.node 37 Tryz.f37 .leaf .leaf) (.node 39 Tryz.f39 .leaf .leaf))) (.node 44 Tryz.f44 (.node 42 Tryz.f42 (.node 41 Tryz.f41 .leaf .leaf) (.node 43 Tryz.f43 .leaf .leaf)) (.node 46 Tryz.f46 (.node 45 Tryz.f45 .leaf .leaf) .leaf))) (.node 55 Tryz.f55 (.node 51 Tryz.f51 (.node 49 Tryz.f49 (.node 48 Tryz.f48 .leaf .leaf) (.node 50 Tryz.f50 .leaf .leaf)) (.node 53 Tryz.f53 (.node 52 Tryz.f52 .leaf .leaf) (.node 54 Tryz.f54 .leaf .leaf))) (.node 59 Tryz.f59 (.node 57 Tryz.f57 (.node 56 Tryz.f56 .leaf .leaf) (.node 58 Tryz.f58 .leaf .leaf)) (.node 61 Tryz.f61 (.node 60 Tryz.f60 .leaf .leaf) .leaf))))) (.node 93 Tryz.f93 (.node 78 Tryz.f78 (.node 71 Tryz.f71 (.node 66 Tryz.f66 (.node 64 Tryz.f64 (.node 63 Tryz.f63 .leaf .leaf) (.node 65 Tryz.f65 .leaf .leaf)) (.node 68 Tryz.f68 (.node 67 Tryz.f67 .leaf .leaf) (.node 70 Tryz.f70 .leaf .leaf))) (.node 75 Tryz.f75 (.node 73 Tryz.f73 (.node 72 Tryz.f72 .leaf .leaf) (.node 74 Tryz.f74 .leaf .leaf)) (.node 77 Tryz.f77 (.node 76 Tryz.f76 .leaf .leaf) .leaf))) (.node 86 Tryz.f86 (.node 82 Tryz.f82 (.node 80 Tryz.f80 (.node 79 Tryz.f79 .leaf .leaf) (.node 81 Tryz.f81 .leaf .leaf)) (.node 84 Tryz.f84 (.node 83 Tryz.f83 .leaf .leaf) (.node 85 Tryz.f85 .leaf .leaf))) (.node 90 Tryz.f90 (.node 88 Tryz.f88 (.node 87 Tryz.f87 .leaf .leaf) (.node 89 Tryz.f89 .leaf .leaf)) (.node 92 Tryz.f92 (.node 91 Tryz.f91 .leaf .leaf) .leaf)))) (.node 109 Tryz.f109 (.node 102 Tryz.f102 (.node 97 Tryz.f97 (.node 95 Tryz.f95 (.node 94 Tryz.f94 .leaf .leaf) (.node 96 Tryz.f96 .leaf .leaf)) (.node 100 Tryz.f100 (.node 99 Tryz.f99 .leaf .leaf) (.node 101 Tryz.f101 .leaf .leaf))) (.node 106 Tryz.f106 (.node 104 Tryz.f104 (.node 103 Tryz.f103 .leaf .leaf) (.node 105 Tryz.f105 .leaf .leaf)) (.node 108 Tryz.f108 (.node 107 Tryz.f107 .leaf .leaf) .leaf))) (.node 116 Tryz.f116 (.node 113 Tryz.f113 (.node 111 Tryz.f111 (.node 110 Tryz.f110 .leaf .leaf) (.node 112 Tryz.f112 .leaf .leaf)) (.node 115 Tryz.f115 (.node 114 Tryz.f114 .leaf .leaf) .leaf)) (.node 120 Tryz.f120 (.node 118 Tryz.f118 (.node 117 Tryz.f117 .leaf .leaf) (.node 119 Tryz.f119 .leaf .leaf)) (.node 122 Tryz.f122 (.node 121 Tryz.f121 .leaf .leaf) .leaf))))))
theorem go3 : Ab.isGo Tryz.prog 3 = true := by kernel_rfl
theorem go4 : Ab.isGo Tryz.prog 4 = true := by kernel_rfl
theorem go5 : Ab.isGo Tryz.prog 5 = true := by kernel_rfl
theorem go6 : Ab.isGo Tryz.prog 6 = true := by kernel_rfl
theorem go7 : Ab.isGo Tryz.prog 7 = true := by kernel_rfl
theorem go8 : Ab.isGo Tryz.prog 8 = true := by kernel_rfl
theorem go9 : Ab.isGo Tryz.prog 9 = true := by kernel_rfl
theorem go10 : Ab.isGo Tryz.prog 10 = true := by kernel_rfl
theorem go11 : Ab.isGo Tryz.prog 11 = true := by kernel_rfl
theorem go12 : Ab.isGo Tryz.prog 12 = true := by kernel_rfl
theorem go13 : Ab.isGo Tryz.prog 13 = true := by kernel_rfl
theorem go14 : Ab.isGo Tryz.prog 14 = true := by kernel_rfl
theorem go15 : Ab.isGo Tryz.prog 15 = true := by kernel_rfl
theorem go16 : Ab.isGo Tryz.prog 16 = true := by kernel_rfl
theorem go17 : Ab.isGo Tryz.prog 17 = true := by kernel_rfl
theorem go18 : Ab.isGo Tryz.prog 18 = true := by kernel_rfl
theorem go19 : Ab.isGo Tryz.prog 19 = true := by kernel_rfl
theorem go20 : Ab.isGo Tryz.prog 20 = true := by kernel_rfl
theorem go21 : Ab.isGo Tryz.prog 21 = true := by kernel_rfl
theorem go22 : Ab.isGo Tryz.prog 22 = true := by kernel_rfl
theorem go23 : Ab.isGo Tryz.prog 23 = true := by kernel_rfl
theorem go24 : Ab.isGo Tryz.prog 24 = true := by kernel_rfl
theorem go25 : Ab.isGo Tryz.prog 25 = true := by kernel_rfl
theorem go26 : Ab.isGo Tryz.prog 26 = true := by kernel_rfl
theorem go27 : Ab.isGo Tryz.prog 27 = true := by kernel_rfl
theorem go28 : Ab.isGo Tryz.prog 28 = true := by kernel_rfl
theorem go29 : Ab.isGo Tryz.prog 29 = true := by kernel_rfl
theorem go30 : Ab.isGo Tryz.prog 30 = true := by kernel_rfl
theorem go31 : Ab.isGo Tryz.prog 31 = true := by kernel_rfl
theorem go32 : Ab.isGo Tryz.prog 32 = true := by kernel_rfl
theorem go33 : Ab.isGo Tryz.prog 33 = true := by kernel_rfl
theorem go34 : Ab.isGo Tryz.prog 34 = true := by kernel_rfl
theorem go35 : Ab.isGo Tryz.prog 35 = true := by kernel_rfl
theorem go36 : Ab.isGo Tryz.prog 36 = true := by kernel_rfl
theorem go37 : Ab.isGo Tryz.prog 37 = true := by kernel_rfl
theorem go38 : Ab.isGo Tryz.prog 38 = true := by kernel_rfl
theorem go39 : Ab.isGo Tryz.prog 39 = true := by kernel_rfl
theorem go40 : Ab.isGo Tryz.prog 40 = true := by kernel_rfl
theorem go41 : Ab.isGo Tryz.prog 41 = true := by kernel_rfl
theorem go42 : Ab.isGo Tryz.prog 42 = true := by kernel_rfl
theorem go43 : Ab.isGo Tryz.prog 43 = true := by kernel_rfl
theorem go44 : Ab.isGo Tryz.prog 44 = true := by kernel_rfl
theorem go45 : Ab.isGo Tryz.prog 45 = true := by kernel_rfl
theorem go46 : Ab.isGo Tryz.prog 46 = true := by kernel_rfl
theorem go47 : Ab.isGo Tryz.prog 47 = true := by kernel_rfl
theorem go48 : Ab.isGo Tryz.prog 48 = true := by kernel_rfl
theorem go49 : Ab.isGo Tryz.prog 49 = true := by kernel_rfl
theorem go50 : Ab.isGo Tryz.prog 50 = true := by kernel_rfl
theorem go51 : Ab.isGo Tryz.prog 51 = true := by kernel_rfl
theorem go52 : Ab.isGo Tryz.prog 52 = true := by kernel_rfl
theorem go53 : Ab.isGo Tryz.prog 53 = true := by kernel_rfl
theorem go54 : Ab.isGo Tryz.prog 54 = true := by kernel_rfl
theorem go55 : Ab.isGo Tryz.prog 55 = true := by kernel_rfl
theorem go56 : Ab.isGo Tryz.prog 56 = true := by kernel_rfl
theorem go57 : Ab.isGo Tryz.prog 57 = true := by kernel_rfl
theorem go58 : Ab.isGo Tryz.prog 58 = true := by kernel_rfl
theorem go59 : Ab.isGo Tryz.prog 59 = true := by kernel_rfl
theorem go60 : Ab.isGo Tryz.prog 60 = true := by kernel_rfl
theorem go61 : Ab.isGo Tryz.prog 61 = true := by kernel_rfl
theorem go62 : Ab.isGo Tryz.prog 62 = true := by kernel_rfl
theorem go63 : Ab.isGo Tryz.prog 63 = true := by kernel_rfl
theorem go64 : Ab.isGo Tryz.prog 64 = true := by kernel_rfl
theorem go65 : Ab.isGo Tryz.prog 65 = true := by kernel_rfl
theorem go66 : Ab.isGo Tryz.prog 66 = true := by kernel_rfl
theorem go67 : Ab.isGo Tryz.prog 67 = true := by kernel_rfl
theorem go68 : Ab.isGo Tryz.prog 68 = true := by kernel_rfl
theorem go70 : Ab.isGo Tryz.prog 70 = true := by kernel_rfl
theorem go71 : Ab.isGo Tryz.prog 71 = true := by kernel_rfl
theorem go72 : Ab.isGo Tryz.prog 72 = true := by kernel_rfl
theorem go73 : Ab.isGo Tryz.prog 73 = true := by kernel_rfl
theorem go74 : Ab.isGo Tryz.prog 74 = true := by kernel_rfl
theorem go75 : Ab.isGo Tryz.prog 75 = true := by kernel_rfl
theorem go76 : Ab.isGo Tryz.prog 76 = true := by kernel_rfl
theorem go77 : Ab.isGo Tryz.prog 77 = true := by kernel_rfl
theorem go78 : Ab.isGo Tryz.prog 78 = true := by kernel_rfl
theorem go79 : Ab.isGo Tryz.prog 79 = true := by kernel_rfl
theorem go80 : Ab.isGo Tryz.prog 80 = true := by kernel_rfl
theorem go81 : Ab.isGo Tryz.prog 81 = true := by kernel_rfl
theorem go82 : Ab.isGo Tryz.prog 82 = true := by kernel_rfl
theorem go83 : Ab.isGo Tryz.prog 83 = true := by kernel_rfl
theorem go84 : Ab.isGo Tryz.prog 84 = true := by kernel_rfl
theorem go85 : Ab.isGo Tryz.prog 85 = true := by kernel_rfl
theorem go86 : Ab.isGo Tryz.prog 86 = true := by kernel_rfl
theorem go87 : Ab.isGo Tryz.prog 87 = true := by kernel_rfl
theorem go88 : Ab.isGo Tryz.prog 88 = true := by kernel_rfl
theorem go89 : Ab.isGo Tryz.prog 89 = true := by kernel_rfl
theorem go90 : Ab.isGo Tryz.prog 90 = true := by kernel_rfl
theorem go91 : Ab.isGo Tryz.prog 91 = true := by kernel_rfl
theorem go92 : Ab.isGo Tryz.prog 92 = true := by kernel_rfl
theorem go93 : Ab.isGo Tryz.prog 93 = true := by kernel_rfl
theorem go94 : Ab.isGo Tryz.prog 94 = true := by kernel_rfl
theorem go95 : Ab.isGo Tryz.prog 95 = true := by kernel_rfl
theorem go96 : Ab.isGo Tryz.prog 96 = true := by kernel_rfl
theorem go97 : Ab.isGo Tryz.prog 97 = true := by kernel_rfl
theorem go99 : Ab.isGo Tryz.prog 99 = true := by kernel_rfl
theorem go100 : Ab.isGo Tryz.prog 100 = true := by kernel_rfl
theorem go101 : Ab.isGo Tryz.prog 101 = true := by kernel_rfl
theorem go102 : Ab.isGo Tryz.prog 102 = true := by kernel_rfl
theorem go103 : Ab.isGo Tryz.prog 103 = true := by kernel_rfl
theorem go104 : Ab.isGo Tryz.prog 104 = true := by kernel_rfl
theorem go105 : Ab.isGo Tryz.prog 105 = true := by kernel_rfl
theorem go106 : Ab.isGo Tryz.prog 106 = true := by kernel_rfl
theorem go107 : Ab.isGo Tryz.prog 107 = true := by kernel_rfl
theorem go108 : Ab.isGo Tryz.prog 108 = true := by kernel_rfl
theorem go109 : Ab.isGo Tryz.prog 109 = true := by kernel_rfl
theorem go110 : Ab.isGo Tryz.prog 110 = true := by kernel_rfl
theorem go111 : Ab.isGo Tryz.prog 111 = true := by kernel_rfl
theorem go112 : Ab.isGo Tryz.prog 112 = true := by kernel_rfl
theorem go113 : Ab.isGo Tryz.prog 113 = true := by kernel_rfl
theorem go114 : Ab.isGo Tryz.prog 114 = true := by kernel_rfl
theorem go115 : Ab.isGo Tryz.prog 115 = true := by kernel_rfl
theorem go116 : Ab.isGo Tryz.prog 116 = true := by kernel_rfl
theorem go117 : Ab.isGo Tryz.prog 117 = true := by kernel_rfl
theorem go118 : Ab.isGo Tryz.prog 118 = true := by kernel_rfl
theorem go119 : Ab.isGo Tryz.prog 119 = true := by kernel_rfl
theorem go120 : Ab.isGo Tryz.prog 120 = true := by kernel_rfl
theorem go121 : Ab.isGo Tryz.prog 121 = true := by kernel_rfl
theorem go122 : Ab.isGo Tryz.prog 122 = true := by kernel_rfl
set_option maxRecDepth 100000 in
theorem ftOk : FOk Tryz.prog ft := (.node Tryz.func62 go62 (.node Tryz.func32 go32 (.node Tryz.func17 go17 (.node Tryz.func10 go10 (.node Tryz.func6 go6 (.node Tryz.func4 go4 (.node Tryz.func3 go3 (.leaf _) (.leaf _)) (.node Tryz.func5 go5 (.leaf _) (.leaf _))) (.node Tryz.func8 go8 (.node Tryz.func7 go7 (.leaf _) (.leaf _)) (.node Tryz.func9 go9 (.leaf _) (.leaf _)))) (.node Tryz.func14 go14 (.node Tryz.func12 go12 (.node Tryz.func11 go11 (.leaf _) (.leaf _)) (.node Tryz.func13 go13 (.leaf _) (.leaf _))) (.node Tryz.func16 go16 (.node Tryz.func15 go15 (.leaf _) (.leaf _)) (.leaf _)))) (.node Tryz.func25 go25 (.node Tryz.func21 go21 (.node Tryz.func19 go19 (.node Tryz.func18 go18 (.leaf _) (.leaf _)) (.node Tryz.func20 go20 (.leaf _) (.leaf _))) (.node Tryz.func23 go23 (.node Tryz.func22 go22 (.leaf _) (.leaf _)) (.node Tryz.func24 go24 (.leaf _) (.leaf _)))) (.node Tryz.func29 go29 (.node Tryz.func27 go27 (.node Tryz.func26 go26 (.leaf _) (.leaf _)) (.node Tryz.func28 go28 (.leaf _) (.leaf _))) (.node Tryz.func31 go31 (.node Tryz.func30 go30 (.leaf _) (.leaf _)) (.leaf _))))) (.node Tryz.func47 go47 (.node Tryz.func40 go40 (.node Tryz.func36 go36 (.node Tryz.func34 go34 (.node Tryz.func33 go33 (.leaf _) (.leaf _)) (.node Tryz.func35 go35 (.leaf _) (.leaf _))) (.node Tryz.func38 go38 (.node Tryz.func37 go37 (.leaf _) (.leaf _)) (.node Tryz.func39 go39 (.leaf _) (.leaf _)))) (.node Tryz.func44 go44 (.node Tryz.func42 go42 (.node Tryz.func41 go41 (.leaf _) (.leaf _)) (.node Tryz.func43 go43 (.leaf _) (.leaf _))) (.node Tryz.func46 go46 (.node Tryz.func45 go45 (.leaf _) (.leaf _)) (.leaf _)))) (.node Tryz.func55 go55 (.node Tryz.func51 go51 (.node Tryz.func49 go49 (.node Tryz.func48 go48 (.leaf _) (.leaf _)) (.node Tryz.func50 go50 (.leaf _) (.leaf _))) (.node Tryz.func53 go53 (.node Tryz.func52 go52 (.leaf _) (.leaf _)) (.node Tryz.func54 go54 (.leaf _) (.leaf _)))) (.node Tryz.func59 go59 (.node Tryz.func57 go57 (.node Tryz.func56 go56 (.leaf _) (.leaf _)) (.node Tryz.func58 go58 (.leaf _) (.leaf _))) (.node Tryz.func61 go61 (.node Tryz.func60 go60 (.leaf _) (.leaf _)) (.leaf _)))))) (.node Tryz.func93 go93 (.node Tryz.func78 go78 (.node Tryz.func71 go71 (.node Tryz.func66 go66 (.node Tryz.func64 go64 (.node Tryz.func63 go63 (.leaf _) (.leaf _)) (.node Tryz.func65 go65 (.leaf _) (.leaf _))) (.node Tryz.func68 go68 (.node Tryz.func67 go67 (.leaf _) (.leaf _)) (.node Tryz.func70 go70 (.leaf _) (.leaf _)))) (.node Tryz.func75 go75 (.node Tryz.func73 go73 (.node Tryz.func72 go72 (.leaf _) (.leaf _)) (.node Tryz.func74 go74 (.leaf _) (.leaf _))) (.node Tryz.func77 go77 (.node Tryz.func76 go76 (.leaf _) (.leaf _)) (.leaf _)))) (.node Tryz.func86 go86 (.node Tryz.func82 go82 (.node Tryz.func80 go80 (.node Tryz.func79 go79 (.leaf _) (.leaf _)) (.node Tryz.func81 go81 (.leaf _) (.leaf _))) (.node Tryz.func84 go84 (.node Tryz.func83 go83 (.leaf _) (.leaf _)) (.node Tryz.func85 go85 (.leaf _) (.leaf _)))) (.node Tryz.func90 go90 (.node Tryz.func88 go88 (.node Tryz.func87 go87 (.leaf _) (.leaf _)) (.node Tryz.func89 go89 (.leaf _) (.leaf _))) (.node Tryz.func92 go92 (.node Tryz.func91 go91 (.leaf _) (.leaf _)) (.leaf _))))) (.node Tryz.func109 go109 (.node Tryz.func102 go102 (.node Tryz.func97 go97 (.node Tryz.func95 go95 (.node Tryz.func94 go94 (.leaf _) (.leaf _)) (.node Tryz.func96 go96 (.leaf _) (.leaf _))) (.node Tryz.func100 go100 (.node Tryz.func99 go99 (.leaf _) (.leaf _)) (.node Tryz.func101 go101 (.leaf _) (.leaf _)))) (.node Tryz.func106 go106 (.node Tryz.func104 go104 (.node Tryz.func103 go103 (.leaf _) (.leaf _)) (.node Tryz.func105 go105 (.leaf _) (.leaf _))) (.node Tryz.func108 go108 (.node Tryz.func107 go107 (.leaf _) (.leaf _)) (.leaf _)))) (.node Tryz.func116 go116 (.node Tryz.func113 go113 (.node Tryz.func111 go111 (.node Tryz.func110 go110 (.leaf _) (.leaf _)) (.node Tryz.func112 go112 (.leaf _) (.leaf _))) (.node Tryz.func115 go115 (.node Tryz.func114 go114 (.leaf _) (.leaf _)) (.leaf _))) (.node Tryz.func120 go120 (.node Tryz.func118 go118 (.node Tryz.func117 go117 (.leaf _) (.leaf _)) (.node Tryz.func119 go119 (.leaf _) (.leaf _))) (.node Tryz.func122 go122 (.node Tryz.func121 go121 (.leaf _) (.leaf _)) (.leaf _)))))))
theorem runs {fuel : Nat} {f : FuncId} {args : List Value} {v : Value} (h : runF Tryz.prog Ab.tab ft fuel f args = some v) (w : World) :
    Calls Tryz.prog f args.toArray w fun x w' => x = .returned v ∧ w'.os = w.os ∧ w'.tape = w.tape ∧ w'.output = w.output ∧ w.heap.size ≤ w'.heap.size ∧ ∀ k, k < w.heap.size → w'.heap[k]? = w.heap[k]? := runF_good Ab.tabOk ftOk Ab.mixed h w
end Go.Proofs.YtamnhhjcgloceaaGreat.Rn

namespace Go.Proofs.YtamnhhjcgloceaaGreat
set_option linter.unusedVariables false
set_option maxRecDepth 100000
open Go.RowKit
theorem fawake_ran : Rn.runF Tryz.prog Ab.tab Rn.ft 400 5 [] = some (.bool true) := by kernel_rfl
namespace Ab
theorem fawake_A : ACall Tryz.prog 5 [] [] (Just (boolA true)) := ACall_val (by kernel_rfl) rfl rfl rfl fun w => (Rn.runs fawake_ran w).mono fun _ _ ⟨h0, h1, h2, h3, h4, h5⟩ => ⟨h0, h1, h2, h3, h4, h5⟩
end Ab
end Go.Proofs.YtamnhhjcgloceaaGreat

namespace Go.Proofs.YtamnhhjcgloceaaGreat
open Go.ChangeShapes Go.WideShapes Go.ChangeAt Go.RowKit
set_option linter.unusedVariables false
set_option maxRecDepth 100000

theorem own_ : ownKnob Tryz.prog.godebug = none := by kernel_rfl
theorem laid_ : laidOutB Tryz.prog = true := by kernel_rfl

theorem trodAll_stays {H : Type} {enc : TypeId × Value → H} {P : Program} (hl : laidOutB P = true) {W W' : World} (hb : Below W.heap.size W W') :
    ∀ (ts : List TypeId) (vs : List Value) (ds : List (DataW H)) (ps : List MemPlace), (∀ t ∈ ts, P.readableRec t = true ∧ t < P.types.size) → (∀ x ∈ ps, x.block < W.heap.size) →
      DataW.TrodAll enc P W 0 (fun _ => true) true ts vs ds ps → DataW.TrodAll enc P W' 0 (fun b => decide (b < W.heap.size)) true ts vs ds ps
  | [], vs, ds, ps, _, _, h => by
    obtain ⟨rfl, rfl, rfl⟩ := trodAll_nil h
    exact trodAll_mk0
  | t :: ts, vs, ds, ps, hr, hlt, h => by
    obtain ⟨v, vs', d, ds', p, q, rfl, rfl, rfl, h1, h2⟩ := trodAll_cons h
    have hr0 := hr t (by simp)
    exact ⟨p, q, Below.trod hl hr0.1 hr0.2 h1 hb (fun x hx => hlt x (by simp [hx])), trodAll_stays hl hb ts vs' ds' q (fun t' h' => hr t' (by simp [h'])) (fun x hx => hlt x (by simp [hx])) h2, rfl⟩

theorem law_post {H : Type} {enc : TypeId × Value → H} {P : Program} {f : Func} {s : ChangeSpec} {W W' : World} {args : Array Value} {ds gs : List (DataW H)} {before : List MemPlace} {tb : TypeId}
    (hrt : f.resultTypes = #[tb]) (hub : P.underlying tb = some .bool) (hv : s.vars = []) (hres : (s.fn H (ds ++ gs)).results = [.lit (.bool true)]) (hargs : (s.fn H (ds ++ gs)).args = ds) (hvs : (s.fn H (ds ++ gs)).vars = [])
    (hl : laidOutB P = true) (hr : ∀ t ∈ f.params.toList, P.readableRec t = true ∧ t < P.types.size)
    (hW : DataW.Whole enc P f.params.toList s.vars false W args.toList ds gs before) (hb : Below W.heap.size W W') : s.post enc P f false true false false W args (.bool true) W' := by
  have hlt := hW.lt
  obtain ⟨p, q, hA, hV, hps, hfz, hnd⟩ := id hW
  rw [hv] at hV
  obtain ⟨hg, hq⟩ := trodVars_none hV
  subst hq
  rw [List.append_nil] at hps
  subst hps
  refine ⟨ds, gs, before, [], before, [], hW, ?_, ?_, ?_, hb.frame _, fun h => by cases h⟩
  · rw [hres, hrt]
    exact trodAll_mk1 ⟨1, by simp [DataW.trod, hub, Value.cells]⟩
  · rw [hargs]
    exact trodAll_stays hl hb _ _ _ _ hr hlt hA
  · rw [hv, hvs]; exact rfl

def Walked (k : FuncId) (params : List TypeId) : Prop :=
  ∀ (H : Type) (enc : TypeId × Value → H) (W : World) (args : Array Value) (ds : List (DataW H)) (ps : List MemPlace), (∀ (j : Nat) t v, params[j]? = some t → args[j]? = some v → ∃ base, Value.okWide Tryz.prog W .any base t v) →
    DataW.TrodAll enc Tryz.prog W 0 (fun _ => true) true params args.toList ds ps → (DataW.weightsEach Tryz.prog params ds).all (· ≤ reachBytes) = true → Calls Tryz.prog k args W (Ret W (.bool true))

theorem law_lift {k : FuncId} {f : Func} {s : ChangeSpec} {tb : TypeId} (hf : Tryz.prog.funcs[k]? = some f) (hno : Tryz.prog.inits.idxOf? k = none) (hrt : f.resultTypes = #[tb]) (hub : Tryz.prog.underlying tb = some .bool)
    (hv : s.vars = []) (hvt : s.plain.varTypes Tryz.prog = [])
    (hfn : ∀ (H : Type) (ds : List (DataW H)), ds.length = f.params.size → (s.fn H ds).results = [.lit (.bool true)] ∧ (s.fn H ds).args = ds ∧ (s.fn H ds).vars = [])
    (hr : ∀ t ∈ f.params.toList, Tryz.prog.readableRec t = true ∧ t < Tryz.prog.types.size) (walk : Walked k f.params.toList)
    (os : Os) (started : os.Started) (H : Type) (enc : TypeId × Value → H)
    (wit : ∃ (w : World) (tape : Tape) (i : Input), w.os = os ∧ (w.forCall tape i).Shaped Tryz.prog ∧ i.vars = [] ∧ Input.okWide Tryz.prog (w.forCall tape i) .any w.heap.size k i ∧
      s.pre6 enc Tryz.prog f [] false (w.forCall tape i).memory i.args ∧ ({} : Assume).holds Tryz.prog (lone (Frame.enter Tryz.prog k i.args .normal) [] (w.forCall tape i))) :
    ReturnsInHanded {} Tryz.checked os k .any (s.pre6 enc Tryz.prog f [] false) (s.post enc Tryz.prog f false true false false) := by
  refine returnsInHanded_of_change_sized (C := Tryz.checked) own_ started hno hf wit ?_
  intro W base args ds gs before hval0 hW _ hsz _
  have hW' := hW
  obtain ⟨p, q, hA0, hV, _, _, _⟩ := hW
  have hA : DataW.TrodAll enc Tryz.prog W 0 (fun _ => true) true f.params.toList args.toList ds p := hA0
  have hg : gs = [] := by
    rw [hv] at hV
    exact (trodVars_none hV).1
  subst hg
  have hlen : ds.length = f.params.size := by
    have : ∀ (ts : List TypeId) (vs : List Value) (ds : List (DataW H)) (ps : List MemPlace), DataW.TrodAll enc Tryz.prog W 0 (fun _ => true) true ts vs ds ps → ds.length = ts.length := by
      intro ts
      induction ts with
      | nil => intro vs ds ps h; obtain ⟨_, rfl, _⟩ := trodAll_nil h; rfl
      | cons t ts ih =>
        intro vs ds ps h
        obtain ⟨_, _, _, _, _, _, _, rfl, _, _, h2⟩ := trodAll_cons h
        simp [ih _ _ _ h2]
    simpa using this _ _ _ _ hA
  have hF := hfn H ds hlen
  have hsz' : (DataW.weightsEach Tryz.prog f.params.toList ds).all (· ≤ reachBytes) = true := by
    have e : s.plain.varTypes (Tryz.checked).prog = [] := hvt
    rw [e, List.append_nil, List.append_nil] at hsz
    exact hsz
  refine (walk H enc W args ds p (fun j t v h1 h2 => ⟨base, hval0 j t v (by simpa using h1) h2⟩) hA hsz').mono ?_
  rintro e W' ⟨rfl, hb⟩
  refine ⟨_, rfl, law_post hrt hub hv ?_ ?_ ?_ laid_ hr hW' hb⟩
  · rw [List.append_nil]; exact hF.1
  · rw [List.append_nil]; exact hF.2.1
  · rw [List.append_nil]; exact hF.2.2

section
variable {H : Type} {enc : TypeId × Value → H} {P : Program} {w : World} {base : Nat} {spare : Nat → Bool} {held : Bool} {fuel : Nat}
theorem mapM_some {α β : Type} {g : α → Option β} : ∀ {l : List α} {r : List β}, l.mapM g = some r → ∀ x ∈ l, ∃ y, g x = some y
  | [], _, _, x, hx => by cases hx
  | a :: l, r, h, x, hx => by
    rw [List.mapM_cons] at h
    cases hg : g a with
    | none => simp [hg] at h
    | some b =>
      simp only [hg, Option.bind_eq_bind, Option.bind_some] at h
      cases hl : l.mapM g with
      | none => simp [hl] at h
      | some rs =>
        rcases List.mem_cons.1 hx with rfl | hx
        · exact ⟨b, hg⟩
        · exact mapM_some hl x hx
theorem trod_fields {t : TypeId} {fs : Array Field} {cs : List Value} {x : DataW H × List MemPlace} (ht : P.underlying t = some (.struct fs)) (h : DataW.trod enc P w base spare held fuel t cs = some x) :
    cs.length = P.cellsOf t ∧ ∃ n, ∀ f ∈ fs.toList, ∃ y, DataW.trod enc P w base spare held n f.type ((cs.drop f.offset).take (P.cellsOf f.type)) = some y := by
  cases fuel with
  | zero => simp [DataW.trod] at h
  | succ n =>
    unfold DataW.trod at h
    rw [ht] at h
    simp only at h
    split at h
    · rename_i hl
      refine ⟨hl, n, fun f hf => ?_⟩
      cases hm : fs.toList.mapM fun f => DataW.trod enc P w base spare held n f.type ((cs.drop f.offset).take (P.cellsOf f.type)) with
      | none => simp [hm] at h
      | some r => exact mapM_some hm f hf
    · cases h
theorem int_bounds {k : IntKind} {n : Int} (h : (Lit.int k n).wf = true) : k.min ≤ n ∧ n ≤ k.max := by
  simpa [Lit.wf] using h
end
end Go.Proofs.YtamnhhjcgloceaaGreat

namespace Go.Proofs.YtamnhhjcgloceaaGreat
open Go.ChangeShapes Go.WideShapes Go.ChangeAt Go.RowKit
set_option linter.unusedVariables false
set_option maxRecDepth 100000
theorem slice_spotG {P : Program} {w : World} {r : Reach} {base : Nat} {t e : TypeId} {a : Addr} {n cap : Nat} (ht : P.underlying t = some (.slice e)) (h : Value.okWide P w r base t (.slice (some a) n cap)) : a.spot = none := by
  simp only [Value.okWide, ht, Cell.okWide] at h
  simp_all [Cell.ok, World.has]
theorem sl_read {α : Type} {H : Type} {enc : TypeId × Value → H} {P : Program} {W : World} {v : Value} {d : DataW H} {p : List MemPlace} {t el : TypeId} (K : Nat) (hu : P.underlying t = some (.slice el)) (hK : P.cellsOf el = K) (eV : α → List Value) (hl : ∀ x, (eV x).length = K) (h1 : ∀ x, ∀ v ∈ eV x, v.oneCell' = true)
    (dE : α → List Ab.Dat) (hd : ∀ x, dE x = (eV x).map Ab.Dat.sc) (good : α → Prop) (hel : ∀ (fl : Nat) (cs : List Value) (y : DataW H × List MemPlace), DataW.trod enc P W 0 (fun _ => true) true fl el cs = some y → ∃ x, good x ∧ cs = eV x)
    (hv : ∃ base, Value.okWide P W .any base t v) (h : DataW.Trod enc P W 0 (fun _ => true) true t v d p) {Fr : Nat → Prop} (hF : ∀ b, Fr b) :
    ∃ l : List α, (∀ x ∈ l, good x) ∧ Ab.DRel W Fr (.sl (l.flatMap dE) l.length) v := by
  obtain ⟨base, hv⟩ := hv
  obtain ⟨ao, n, cap, rfl⟩ := okWide_slice hu hv
  obtain ⟨fuel, hf⟩ := h
  rcases Go.Deep.open_slice hu hf with ⟨h1, _⟩ | ⟨a, len, cap', m, fl, D, Pl, h2, _, hle, _, hm, _, hx⟩
  · simp [Value.cells] at h1
    obtain ⟨rfl, rfl, rfl⟩ := h1
    exact ⟨[], by simp, .nil⟩
  · simp [Value.cells] at h2
    obtain ⟨rfl, rfl, rfl⟩ := h2
    have hsp := slice_spotG hu hv
    obtain ⟨b, o, s⟩ := a
    dsimp only at hsp
    subst hsp
    have hlen : ∀ l : List α, (l.flatMap eV).length = l.length * K := fun l => by
      induction l with
      | nil => simp
      | cons x r ih => rw [List.flatMap_cons, List.length_append, ih, hl, List.length_cons, Nat.add_mul]; omega
    have key : ∀ k, k ≤ n → ∃ l : List α, l.length = k ∧ (∀ x ∈ l, good x) ∧ ∀ (j : Nat) (u : Value), (l.flatMap eV)[j]? = some u → W.cell? ⟨b, o + j, none⟩ = some u := by
      intro k
      induction k with
      | zero => exact fun _ => ⟨[], rfl, by simp, fun j u h => by simp at h⟩
      | succ k ih =>
        intro hk
        obtain ⟨l, h2, h3, h4⟩ := ih (by omega)
        obtain ⟨cs', h5, h6⟩ := hx k (by rw [hm]; simp; omega)
        rw [hK] at h5
        obtain ⟨_, h7, h8⟩ := World.cells?_some h5
        obtain ⟨x, hg, rfl⟩ := hel _ _ _ h6
        refine ⟨l ++ [x], by simp [h2], fun y hy => ?_, fun j u hj => ?_⟩
        · rcases List.mem_append.1 hy with hy | hy
          · exact h3 y hy
          · simp at hy; subst hy; exact hg
        · rw [List.flatMap_append, List.getElem?_append] at hj
          split at hj
          · exact h4 j u hj
          · rename_i hge
            rw [hlen, h2] at hj hge
            have e : ([x].flatMap eV) = eV x := by simp
            rw [e] at hj
            have hj2 : j - k * K < K := by
              have := (List.getElem?_eq_some_iff.1 hj).1
              rw [hl] at this; exact this
            have h9 := h8 (j - k * K) hj2
            have : (Addr.add (Addr.add ⟨b, o, none⟩ (k * K)) (j - k * K)) = ⟨b, o + j, none⟩ := by
              rw [Addr.add_mid, Addr.add_mid, show o + k * K + (j - k * K) = o + j by omega]
            rw [this] at h9
            rw [h9]; exact hj
    obtain ⟨l, h2, h3, h4⟩ := key n (Nat.le_refl _)
    refine ⟨l, h3, ?_⟩
    have hD : l.flatMap dE = (l.flatMap eV).map Ab.Dat.sc := by rw [List.map_flatMap]; congr 1; funext x; exact hd x
    rw [← h2]
    rw [hD]
    refine .sl _ _ b o cap (l.flatMap eV) (by omega) (by simp) (fun _ => hF b) h4 fun i c u h5 h6 => ?_
    rw [List.getElem?_map, h6] at h5
    cases h5
    have := List.mem_of_getElem? h6
    obtain ⟨y, _, hm2⟩ := List.mem_flatMap.1 this
    exact .sc u (h1 y u hm2)
end Go.Proofs.YtamnhhjcgloceaaGreat

namespace Go.Proofs.YtamnhhjcgloceaaGreat
open Go.ChangeShapes Go.WideShapes Go.ChangeAt Go.RowKit
set_option linter.unusedVariables false
set_option maxRecDepth 100000

def okF (r : Rte) : Prop := Ab.okR r ∧ 0 ≤ r.h ∧ r.h < 4294967296
theorem rl_cells_rte : Tryz.prog.cellsOf 29 = 9 := by kernel_rfl
theorem rl_cells_Pfx : Tryz.prog.cellsOf 27 = 2 := by kernel_rfl
theorem rl_one {H : Type} {enc : TypeId × Value → H} {W : World} {fl : Nat} {t : TypeId} {cs : List Value} {o : Nat} {y : DataW H × List MemPlace} (hc : Tryz.prog.cellsOf t = 1) (h : DataW.trod enc Tryz.prog W 0 (fun _ => true) true fl t ((cs.drop o).take (Tryz.prog.cellsOf t)) = some y) :
    DataW.trod enc Tryz.prog W 0 (fun _ => true) true fl t ((cs.drop o).take 1) = some y := by rw [hc] at h; exact h
theorem trod_rte {H : Type} {enc : TypeId × Value → H} {W : World} (fl : Nat) (cs : List Value) (y : DataW H × List MemPlace) (h6 : DataW.trod enc Tryz.prog W 0 (fun _ => true) true fl 29 cs = some y) :
    ∃ x : Rte, okF x ∧ cs = rteV x := by
  obtain ⟨hlen, fl2, hfs⟩ := trod_fields Tryz.underlying29 h6
  rw [rl_cells_rte] at hlen
  match cs, hlen with
  | [a, b, c, d, e, f, g, h, i], _ =>
    obtain ⟨y0, g0⟩ := hfs _ (List.mem_of_getElem? (i := 0) rfl)
    obtain ⟨y1, g1⟩ := hfs _ (List.mem_of_getElem? (i := 1) rfl)
    obtain ⟨y2, g2⟩ := hfs _ (List.mem_of_getElem? (i := 2) rfl)
    obtain ⟨y3, g3⟩ := hfs _ (List.mem_of_getElem? (i := 3) rfl)
    obtain ⟨y4, g4⟩ := hfs _ (List.mem_of_getElem? (i := 4) rfl)
    obtain ⟨y5, g5⟩ := hfs _ (List.mem_of_getElem? (i := 5) rfl)
    obtain ⟨y6, g6⟩ := hfs _ (List.mem_of_getElem? (i := 6) rfl)
    obtain ⟨y7, g7⟩ := hfs _ (List.mem_of_getElem? (i := 7) rfl)
    dsimp only at g0 g1 g2 g3 g4 g5 g6 g7
    rw [rl_cells_Pfx] at g0
    obtain ⟨vf, e1, _, w1⟩ := DataW.trod_int (k := .u8) (by kernel_rfl) (rl_one (by kernel_rfl) g1)
    obtain ⟨vd, e2, _, w2⟩ := DataW.trod_int (k := .i64) (by kernel_rfl) (rl_one (by kernel_rfl) g2)
    obtain ⟨vm, e3, _, w3⟩ := DataW.trod_int (k := .i64) (by kernel_rfl) (rl_one (by kernel_rfl) g3)
    obtain ⟨vt, e4, _, w4⟩ := DataW.trod_int (k := .i64) (by kernel_rfl) (rl_one (by kernel_rfl) g4)
    obtain ⟨vi, e5, _, w5⟩ := DataW.trod_string (by kernel_rfl) (rl_one (by kernel_rfl) g5)
    obtain ⟨vh, e6, _, w6⟩ := DataW.trod_int (k := .u32) (by kernel_rfl) (rl_one (by kernel_rfl) g6)
    obtain ⟨vx, e7, _⟩ := DataW.trod_bool (by kernel_rfl) (rl_one (by kernel_rfl) g7)
    obtain ⟨_, fl3, hfp⟩ := trod_fields Tryz.underlying27 g0
    obtain ⟨z0, q0⟩ := hfp _ (List.mem_of_getElem? (i := 0) rfl)
    obtain ⟨z1, q1⟩ := hfp _ (List.mem_of_getElem? (i := 1) rfl)
    dsimp only at q0 q1
    obtain ⟨pa, e8, _, w8⟩ := DataW.trod_int (k := .u32) (by kernel_rfl) (rl_one (by kernel_rfl) q0)
    obtain ⟨pb, e9, _, w9⟩ := DataW.trod_int (k := .i64) (by kernel_rfl) (rl_one (by kernel_rfl) q1)
    simp at e1 e2 e3 e4 e5 e6 e7 e8 e9
    subst e1 e2 e3 e4 e5 e6 e7 e8 e9
    have b0 := int_bounds w8
    have b1 := int_bounds w9
    have b2 := int_bounds w1
    have b6 := int_bounds w6
    simp [IntKind.min, IntKind.max, IntKind.signed, IntKind.bits] at b0 b1 b2 b6
    exact ⟨⟨⟨pa, pb⟩, vf, vd, vm, vt, vi.data.toList, vh, vx⟩, ⟨⟨⟨b2.1, by show vf < 256; omega⟩, ⟨b0.1, by show pa < 4294967296; omega, by show -9223372036854775808 ≤ pb; omega, by show pb < _; omega⟩⟩, b6.1, by show vh < 4294967296; omega⟩, rfl⟩
theorem rteV_one (x : Rte) : ∀ v ∈ rteV x, v.oneCell' = true := fun v hv => by
  simp [rteV] at hv
  rcases hv with rfl | rfl | rfl | rfl | rfl | rfl | rfl | rfl | rfl <;> rfl
end Go.Proofs.YtamnhhjcgloceaaGreat

namespace Go.Proofs.YtamnhhjcgloceaaGreat
open Go.ChangeShapes Go.WideShapes Go.ChangeAt Go.RowKit
set_option linter.unusedVariables false
set_option maxRecDepth 100000

theorem fibLooked_walked : Walked 3 [22, 23] := by
  intro H enc W args ds ps hval hA _
  obtain ⟨v, vs', d, ds', p, q, hargs, rfl, rfl, h0, r0⟩ := trodAll_cons hA
  obtain ⟨y, vs2, d2, ds2, p2, q2, hargs2, rfl, rfl, h1, r1⟩ := trodAll_cons r0
  obtain ⟨rfl, rfl, rfl⟩ := trodAll_nil r1
  subst hargs2
  obtain rfl : args = #[v, y] := by cases args; simp_all
  obtain ⟨l, hok, hl⟩ := sl_read (Fr := Ab.FreeB (fun _ => False) (fun _ => none)) 9 Tryz.underlying22 rl_cells_rte rteV (fun _ => rfl) rteV_one Ab.rteD (fun _ => rfl) okF (trod_rte (W := W)) (hval 0 22 v rfl rfl) h0 Ab.FreeB.all
  obtain ⟨fl, hf⟩ := h1
  obtain ⟨x, ex, _, wx⟩ := DataW.trod_int (k := .u32) (by kernel_rfl) hf
  obtain ⟨bx, hbx⟩ := hval 1 23 y rfl rfl
  obtain ⟨n, rfl⟩ := okWide_int Tryz.underlying23 hbx
  simp [Value.cells] at ex
  subst ex
  have ba := int_bounds wx
  simp [IntKind.min, IntKind.max, IntKind.signed, IntKind.bits] at ba
  have HC := Ab.flooked_A Ab.fawake_A (l.take 80) (l.drop 80) n ba.1 (by omega) (fun r hr => (hok r (List.mem_of_mem_take hr)).1) (fun s hs => (hok s (List.mem_of_mem_take hs)).2) (by rw [List.length_take]; omega) (fun h => by
    have : ¬ l.length ≤ 80 := fun h2 => h (List.drop_eq_nil_of_le h2)
    rw [List.length_take]; omega)
  rw [← List.flatMap_append, List.take_append_drop, ← List.length_append, List.take_append_drop] at HC
  refine (HC.2 _ _ W _ _ _ W (Ab.HRel.none (fun _ => False) W (fun _ h => h.elim)) ⟨rfl, fun i c u h1 h2 => ?_⟩).mono ?_
  · match i, h1, h2 with
    | 0, h1, h2 => cases h1; cases h2; exact .d _ _ hl
    | 1, h1, h2 => cases h1; cases h2; exact Ab.sc_rel rfl
  · rintro x w' ⟨u, c, h', ι', rfl, ⟨rfl, rfl⟩, hH, hv⟩
    obtain ⟨rfl, _⟩ := Ab.sc_of hv
    have G := hH.grewC
    exact ⟨rfl, G.os, G.tape, G.output, G.size, fun k hk => G.mem k hk⟩
theorem fibLooked_lifted (os : Os) (started : os.Started) (H : Type) (enc : TypeId × Value → H) :
    ReturnsInHanded {} Tryz.checked os 3 .any (Rows.fibLookedSpec.pre6 enc Tryz.prog Tryz.f3 Rows.fibLookedRow.domain false) (Rows.fibLookedSpec.post enc Tryz.prog Tryz.f3 false true false false) := by
  refine law_lift (tb := 4) Tryz.func3 (by kernel_rfl) (by kernel_rfl) Tryz.underlying4 rfl (by kernel_rfl) ?_ ?_ ?_ os started H enc
    (ChangeSpec.witness6 (enc := enc) (C := Tryz.checked) false ⟨#[], #[.slice none 0 0, .int .u32 0], []⟩ 8 (by kernel_rfl) (by kernel_rfl) (by kernel_rfl) (by kernel_rfl))
  · intro H ds hl
    rw [show Tryz.f3.params = #[22, 23] from Tryz.params3] at hl
    match ds, hl with
    | [d, e], _ => exact ⟨rfl, rfl, rfl⟩
  · rw [show Tryz.f3.params = #[22, 23] from Tryz.params3]
    intro t ht
    simp at ht
    rcases ht with rfl | rfl <;> exact ⟨by kernel_rfl, of_decide_eq_true (by kernel_rfl)⟩
  · rw [show Tryz.f3.params = #[22, 23] from Tryz.params3]
    exact fibLooked_walked

theorem fibLooked_over : Rows.fibLookedRow.holds Tryz.pinned (OpenSpec.ofChange Rows.fibLookedSpec) :=
  OpenClaim.holds_of_wide 3 Tryz.f3 rfl rfl rfl rfl rfl rfl rfl ⟨rfl, rfl, rfl, rfl, rfl⟩ rfl rfl rfl rfl rfl (by kernel_rfl) Tryz.func3 (by kernel_rfl)
    (of_decide_eq_true (by kernel_rfl)) (by unfold Func.isWrapper; first | (rw [if_pos (by decide +kernel)]; kernel_rfl) | (rw [if_neg (by decide +kernel)]; exact ⟨rfl, rfl⟩))
    (fun os started H enc _ => fibLooked_lifted os started H enc)

theorem fibLooked_holds : Rows.FibLookedSaid := fibLooked_over
#print axioms fibLooked_holds
end Go.Proofs.YtamnhhjcgloceaaGreat

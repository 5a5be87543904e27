/-
  Texts of a proof, one behind the other (part 4).
-/
import Derived.Test.YtenolkolkpfjgaaGreatFt2
set_option linter.unusedVariables false
set_option linter.unusedSimpArgs false
namespace Go.Proofs.YtenolkolkpfjgaaGreat.Ab
set_option linter.unusedVariables false
open Go.RowKit

section
variable {P : Program} {nt : Nat} {T : List Nat} {Q0 : Post} {ops : Array Oper} {rest : List Oper} {e : Env} {h : Heap} {o : Oper} {tab : TTab}
theorem E_callX {f : FuncId} {args : Array Operand} {ats : Array TypeId} {cs0 cs : List AVal} {h0 : Heap} {d : Option Tmp} {Q : AVal → Heap → Prop} (ρ ν : List (Nat × Nat)) (ho : o.op = .call { callee := .value (.func f), args := args, argTypes := ats }) (hdst : o.dst = d) (hx : aevs e args.toList = some cs0)
    (hcs : cs.map (renV ρ) = cs0) (hok : ∀ c ∈ cs, okV ρ c = true) (hl : Lent ρ h h0) (hdom : ∀ p i, look ρ p = some i → 1000 ≤ p ∧ (look h0 p).isSome = true) (hinj : ∀ p p' i, look ρ p = some i → look ρ p' = some i → p = p')
    (H : ACall P f cs h0 Q) (hd : dstOk nt d = true) (hT : ∀ p i, look ρ p = some i → T.contains i = true)
    (hν : ∀ p i, look ν p = some i → p < 1000 ∧ i < 1000 ∧ ∀ q, look ρ q ≠ some i) (hνinj : ∀ p p' i, look ν p = some i → look ν p' = some i → p = p') (hνn : (ν.map (·.1)).Nodup)
    (hq : ∀ c h', Q c h' → ∀ p i, look ρ p = some i → (look h' p).isSome = true) :
    AEff P nt T e h o (fun e' h2 => ∃ c h', Q c h' ∧ e' = aput d (renV (ν ++ ρ) c) (killEs (ν.map (·.2)) e) ∧ h2 = renH (ν ++ ρ) h' ++ killHs (ν.map (·.2)) h) := fun Pm F w0 pin ι a w R K Qx hK => by
  unfold Oper.wp
  rw [run_callA H.1 ho, Oper.upon_enter, hdst]
  have HR := R.heap
  let ι0 : Nat → Option Value := fun p => match look ρ p with | some i => ι i | none => none
  have h0some : ∀ p v, ι0 p = some v → ∃ i, look ρ p = some i ∧ ι i = some v := fun p v hv => by
    simp only [ι0] at hv
    cases hp : look ρ p with
    | none => rw [hp] at hv; cases hv
    | some i => rw [hp] at hv; exact ⟨i, rfl, hv⟩
  have h0of : ∀ p i, look ρ p = some i → ι0 p = ι i := fun p i hp => by simp only [ι0, hp]
  let F' : Nat → Prop := fun r => F r ∨ ∃ id v, ι id = some v ∧ blockOf v = some r ∧ ∀ p, look ρ p ≠ some id
  let Pm' : Nat → Prop := fun r => w.heap.size ≤ r ∨ ∃ p v, ι0 p = some v ∧ blockOf v = some r
  have hFdown : ExtF w F ι w F' ι0 := ⟨fun _ _ _ => rfl, fun r _ hf => ⟨fun hc => hc.elim hf.1 fun ⟨id, v, h1, h2, _⟩ => hf.2 id v h1 h2, fun p v hv hb => by
    obtain ⟨i, _, h2⟩ := h0some p v hv
    exact hf.2 i v h2 hb⟩⟩
  have HC : HRel Pm' F' w ι0 ι0 h0 w := by
    refine ⟨fun p b hb => ?_, fun p v hv => ?_, fun p q v v' r hpq hv hv' hr => ?_, fun p v r hv hr => .inr ⟨p, v, hv, hr⟩, rfl, rfl, rfl, Nat.le_refl _, fun _ _ _ => rfl, fun r hr => .inl hr, fun p v _ hv => hv, fun p v r hv hr hF' => ?_, fun r hr => ?_⟩
    · obtain ⟨i, h1, h2, h3⟩ := hl.get hb
      obtain ⟨v, hv, hB⟩ := HR.blk i _ h2
      exact ⟨v, by rw [h0of p i h1]; exact hv, hB.down h3 hFdown h0some⟩
    · obtain ⟨i, h1, h2⟩ := h0some p v hv
      exact Option.isSome_iff_exists.1 (hdom p i h1).2
    · obtain ⟨i, h1, h2⟩ := h0some p v hv
      obtain ⟨j, h3, h4⟩ := h0some q v' hv'
      exact HR.inj i j v v' r (by rintro rfl; exact hpq (hinj p q i h1 h3)) h2 h4 hr
    · obtain ⟨i, h1, h2⟩ := h0some p v hv
      rcases hF' with h3 | ⟨id, v', h3, h4, h5⟩
      · exact HR.nf i v r h2 hr h3
      · have : i ≠ id := by rintro rfl; exact h5 p h1
        exact HR.inj i id v v' r this h2 h3 hr h4
    · rcases hr with h1 | ⟨id, v, h1, h2, _⟩
      · exact Nat.lt_of_lt_of_le (HR.forb r h1) HR.size
      · exact HR.lt h1 h2
  have HA : ArgsRel w F' ι0 cs (args.map a.eval) := by
    have := args_of R.env hx
    refine ⟨by rw [this.1, ← hcs, List.length_map], fun i c u h1 h2 => (this.2 i (renV ρ c) u (by rw [← hcs, List.getElem?_map, h1]; rfl) h2).down (hok c (List.mem_of_getElem? h1)) hFdown h0some⟩
  refine (H.2 Pm' F' w ι0 ι0 _ w HC HA).mono ?_
  rintro x w' ⟨u, c, h', ι', rfl, hQ, hH, hv⟩
  have hsz := hH.size
  have hkeep : ∀ r, r < w.heap.size → (∀ p i v, look ρ p = some i → ι i = some v → blockOf v ≠ some r) → w'.heap[r]? = w.heap[r]? := fun r hr hn => hH.keep r hr fun hp => by
    rcases hp with h1 | ⟨p, v, h1, h2⟩
    · omega
    · obtain ⟨i, h3, h4⟩ := h0some p v h1
      exact hn p i v h3 h4 h2
  have hpin : ∀ p i, look ρ p = some i → ∀ v, ι i = some v → ι' p = some v := fun p i hp v hv => by
    obtain ⟨b, hb⟩ := Option.isSome_iff_exists.1 (hq c h' hQ p i hp)
    obtain ⟨v', hv', _⟩ := hH.blk p b hb
    have := hH.pinned p v' (hdom p i hp).1 hv'
    rw [h0of p i hp, hv] at this
    cases this
    exact hv'
  have hσ : ∀ p i, look (ν ++ ρ) p = some i → look ν p = some i ∨ look ρ p = some i := fun p i hp => by
    rw [look_append] at hp
    cases h1 : look ν p with
    | some j => rw [h1] at hp; cases hp; exact .inl rfl
    | none => rw [h1] at hp; exact .inr hp
  have hσν : ∀ p i, look ν p = some i → look (ν ++ ρ) p = some i := fun p i hp => by rw [look_append, hp]
  have hσinj : ∀ p p' i, look (ν ++ ρ) p = some i → look (ν ++ ρ) p' = some i → p = p' := fun p p' i h1 h2 => by
    rcases hσ p i h1 with h3 | h3 <;> rcases hσ p' i h2 with h4 | h4
    · exact hνinj p p' i h3 h4
    · exact absurd h4 ((hν p i h3).2.2 p')
    · exact absurd h3 ((hν p' i h4).2.2 p)
    · exact hinj p p' i h3 h4
  let ι2 : Nat → Option Value := fun id => match invN ν id with | some p => ι' p | none => ι id
  have i2 : ∀ id v, ι2 id = some v → (∃ p, look ν p = some id ∧ ι' p = some v) ∨ (∀ p, look ν p ≠ some id) ∧ ι id = some v := fun id v hv => by
    simp only [ι2] at hv
    cases hi : invN ν id with
    | some p => rw [hi] at hv; exact .inl ⟨p, invN_some hi, hv⟩
    | none => rw [hi] at hv; exact .inr ⟨invN_none hi, hv⟩
  have i2ν : ∀ p id, look ν p = some id → ι2 id = ι' p := fun p id hp => by simp only [ι2, invN_of hνinj hp]
  have i2o : ∀ id, (∀ p, look ν p ≠ some id) → ι2 id = ι id := fun id hn => by
    simp only [ι2]
    cases hi : invN ν id with
    | some p => exact absurd (invN_some hi) (hn p)
    | none => rfl
  have newlt : ∀ p id v r, look ν p = some id → ι' p = some v → blockOf v = some r → w.heap.size ≤ r := fun p id v r hp hv hr => by
    rcases hH.pm p v r hv hr with h1 | ⟨q, v2, h1, h2⟩
    · exact h1
    · obtain ⟨i, h3, h4⟩ := h0some q v2 h1
      have h5 := hpin q i h3 v2 h4
      have h6 := (hν p id hp).1
      have h7 := (hdom q i h3).1
      exact absurd h2 (hH.inj p q v v2 r (by omega) hv h5 hr)
  have hFup : ExtF w' F' ι' w' F ι2 := ⟨fun _ _ _ => rfl, fun r _ hf => ⟨fun hc => hf.1 (.inl hc), fun id v hid hb => by
    rcases i2 id v hid with ⟨p, _, h2⟩ | ⟨_, h2⟩
    · exact hf.2 p v h2 hb
    · by_cases hex : ∃ p, look ρ p = some id
      · obtain ⟨p, hp⟩ := hex
        exact hf.2 p v (hpin p id hp v h2) hb
      · exact hf.1 (.inr ⟨id, v, h2, hb, fun p hp => hex ⟨p, hp⟩⟩)⟩⟩
  have hup : ∀ p i, look (ν ++ ρ) p = some i → ∀ v, ι2 i = some v → ι' p = some v := fun p i hp v hv => by
    rcases hσ p i hp with h1 | h1
    · rw [i2ν p i h1] at hv; exact hv
    · rcases i2 i v hv with ⟨q, h2, _⟩ | ⟨_, h2⟩
      · exact absurd h1 ((hν q i h2).2.2 p)
      · exact hpin p i h1 v h2
  have hext : Ext w F ι w' ι2 := ⟨fun r hr hf => hkeep r hr fun p i v hp hi hb => hf.2 i v hi hb, fun r hr hf => ⟨hf.1, fun id v hid hb => by
    rcases i2 id v hid with ⟨p, h1, h2⟩ | ⟨_, h2⟩
    · have := newlt p id v r h1 h2 hb; omega
    · exact hf.2 id v h2 hb⟩⟩
  have hold : ∀ id, (ν.map (·.2)).contains id = false → ∀ p, look ν p ≠ some id := fun id hc p hp => by
    have := List.contains_iff_mem.2 (look_mem2 hp)
    rw [hc] at this; cases this
  have vk : ∀ c0 u0, VRel w F ι c0 u0 → VRel w' F ι2 (killVs (ν.map (·.2)) c0) u0 := fun c0 u0 hv => by
    unfold killVs
    cases hh : hasAny (ν.map (·.2)) c0 with
    | true => exact .top _
    | false =>
      refine hv.ext hext fun id v hi hv2 => ?_
      rcases i2 id v hv2 with ⟨p, h1, h2⟩ | ⟨_, h2⟩
      · have := List.any_eq_false.1 hh id (look_mem2 h1)
        rw [hi] at this; exact absurd rfl this
      · exact h2
  have hheap : HRel Pm F w0 pin ι2 (renH (ν ++ ρ) h' ++ killHs (ν.map (·.2)) h) w' := by
    refine ⟨fun id b hb => ?_, fun id v hv => ?_, fun i j v v' r hij hi hj hr => ?_, fun i v r hi hr => ?_, hH.os.trans HR.os, hH.tape.trans HR.tape, hH.output.trans HR.output, Nat.le_trans HR.size hsz, fun r hr hn => ?_, HR.fresh, fun id v h1 hv => ?_, fun i v r hi hr => ?_, HR.forb⟩
    · rw [look_append] at hb
      cases hl2 : look (renH (ν ++ ρ) h') id with
      | some b' =>
        rw [hl2] at hb
        cases hb
        obtain ⟨p, b0, h1, h2, h3⟩ := (look_renH hσinj h' id).1 b hl2
        subst h3
        obtain ⟨v', hv', hB⟩ := hH.blk p b0 h2
        refine ⟨v', ?_, hB.up hFup hup⟩
        rcases hσ p id h1 with h3 | h3
        · rw [i2ν p id h3]; exact hv'
        · have h4 := hH.pinned p v' (hdom p id h3).1 hv'
          rw [h0of p id h3] at h4
          rw [i2o id fun q hq2 => (hν q id hq2).2.2 p h3]
          exact h4
      | none =>
        rw [hl2] at hb
        rw [look_killHs] at hb
        cases hc : (ν.map (·.2)).contains id with
        | true => rw [hc] at hb; simp at hb
        | false =>
          rw [hc] at hb
          simp only [Bool.false_eq_true, if_false] at hb
          cases hl3 : look h id with
          | none => simp [hl3] at hb
          | some b0 =>
            simp [hl3] at hb
            subst hb
            have hno : ∀ p, look ρ p ≠ some id := fun p hp => by
              have h1 := (look_renH hσinj h' id).2 hl2 p (by
                rw [look_append]
                cases h2 : look ν p with
                | some j => have h3 := (hν p j h2).1; have h4 := (hdom p id hp).1; omega
                | none => exact hp)
              have h2 := hq c h' hQ p id hp
              rw [h1] at h2; cases h2
            obtain ⟨v, hv, hB⟩ := HR.blk id b0 hl3
            have hsame : ∀ r, blockOf v = some r → w'.heap[r]? = w.heap[r]? := fun r hr => hkeep r (HR.lt hv hr) fun p i v2 hp hi hb3 =>
              HR.inj i id v2 v r (by rintro rfl; exact hno p hp) hi hv hb3 hr
            refine ⟨v, by rw [i2o id (hold id hc)]; exact hv, ?_⟩
            cases b0 with
            | var cs =>
              obtain ⟨r, C, tt, rfl, h2, h3, h4⟩ := hB
              refine ⟨r, C, tt, rfl, (hsame r rfl).trans h2, by simpa using h3, fun i c u h5 h6 => ?_⟩
              rw [List.getElem?_map] at h5
              cases h7 : cs[i]? with
              | none => simp [h7] at h5
              | some c0 => simp [h7] at h5; subst h5; exact vk _ _ (h4 i c0 u h7 h6)
            | row el k n cs =>
              obtain ⟨xs, hown, h3, h4⟩ := hB
              refine ⟨xs, ⟨hown.1, ?_⟩, h3, fun i c u h5 h6 => (h4 i c u h5 h6).ext hext.mem hext.free⟩
              rcases hown.2 with h8 | ⟨g, cap, cur, rfl, hb, hg, rest⟩
              · exact .inl h8
              · exact .inr ⟨g, cap, cur, rfl, hb, (hsame g rfl).trans hg, rest⟩
            | rowA el k n cs =>
              obtain ⟨xs, hown, h3, h4⟩ := hB
              refine ⟨xs, ⟨hown.1, ?_⟩, by simpa using h3, fun i c u h5 h6 => ?_⟩
              · rcases hown.2 with h8 | ⟨g, cap, cur, rfl, hb, hg, rest⟩
                · exact .inl h8
                · exact .inr ⟨g, cap, cur, rfl, hb, (hsame g rfl).trans hg, rest⟩
              · rw [List.getElem?_map] at h5
                cases h7 : cs[i]? with
                | none => simp [h7] at h5
                | some c0 => simp [h7] at h5; subst h5; exact vk _ _ (h4 i c0 u h7 h6)
            | map es =>
              obtain ⟨r, E, clk, rfl, h2, h3, h4, h5⟩ := hB
              refine ⟨r, E, clk, rfl, (hsame r rfl).trans h2, by simpa using h3, fun i p m h6 h7 => ?_, h5⟩
              rw [List.getElem?_map] at h6
              cases h8 : es[i]? with
              | none => simp [h8] at h6
              | some p0 => simp [h8] at h6; subst h6; exact ⟨vk _ _ (h4 i p0 m h8 h7).1, vk _ _ (h4 i p0 m h8 h7).2⟩
            | mapx r0 bs0 clk0 es =>
              obtain ⟨E, rfl, h2, h3, h4, h5⟩ := hB
              refine ⟨E, rfl, (hsame _ rfl).trans h2, by simpa using h3, fun i p m h6 h7 => ?_, h5⟩
              rw [List.getElem?_map] at h6
              cases h8 : es[i]? with
              | none => simp [h8] at h6
              | some p0 => simp [h8] at h6; subst h6; exact ⟨vk _ _ (h4 i p0 m h8 h7).1, vk _ _ (h4 i p0 m h8 h7).2⟩
            | rowx hv el k n cs => exact hB.viaX (fun c u h => h.ext hext.mem hext.free) hsame
            | it o => obtain ⟨r, rfl, h2⟩ := hB; exact ⟨r, rfl, (hsame r rfl).trans h2⟩
    · rw [look_append]
      cases hl2 : look (renH (ν ++ ρ) h') id with
      | some b' => exact ⟨b', rfl⟩
      | none =>
        rcases i2 id v hv with ⟨p, h1, h2⟩ | ⟨h1, h2⟩
        · obtain ⟨b, hb⟩ := hH.dom p v h2
          have := (look_renH hσinj h' id).2 hl2 p (hσν p id h1)
          rw [hb] at this; cases this
        · obtain ⟨b, hb⟩ := HR.dom id v h2
          refine ⟨killBs (ν.map (·.2)) b, ?_⟩
          show look (killHs _ h) id = _
          rw [look_killHs, hb]
          cases hc : (ν.map (·.2)).contains id with
          | true =>
            obtain ⟨p, hp⟩ := mem2_look hνn (List.contains_iff_mem.1 hc)
            exact absurd hp (h1 p)
          | false => rfl
    · rcases i2 i v hi with ⟨p, h1, h2⟩ | ⟨h1, h2⟩ <;> rcases i2 j v' hj with ⟨q, h3, h4⟩ | ⟨h3, h4⟩
      · exact hH.inj p q v v' r (by rintro rfl; rw [h1] at h3; cases h3; exact hij rfl) h2 h4 hr
      · intro hr'
        have := newlt p i v r h1 h2 hr
        have := HR.lt h4 hr'
        omega
      · intro hr'
        have := newlt q j v' r h3 h4 hr'
        have := HR.lt h2 hr
        omega
      · exact HR.inj i j v v' r hij h2 h4 hr
    · rcases i2 i v hi with ⟨p, h1, h2⟩ | ⟨_, h2⟩
      · exact HR.fresh r (Nat.le_trans HR.size (newlt p i v r h1 h2 hr))
      · exact HR.pm i v r h2 hr
    · rw [hkeep r (Nat.lt_of_lt_of_le hr HR.size) fun p i v hp hi hb => hn (HR.pm i v r hi hb)]
      exact HR.keep r hr hn
    · rcases i2 id v hv with ⟨p, h2, h3⟩ | ⟨_, h3⟩
      · have := (hν p id h2).2.1; omega
      · exact HR.pinned id v h1 h3
    · intro hF
      rcases i2 i v hi with ⟨p, h2, h3⟩ | ⟨_, h3⟩
      · have := newlt p i v r h2 h3 hr
        have := HR.forb r hF
        have := HR.size
        omega
      · exact HR.nf i v r h3 hr hF
  refine hK ι2 _ _ _ w' ⟨c, h', hQ, rfl, rfl⟩ ⟨hheap, EnvRel.aput (fun t c0 ht => ?_) hd R.size (hv.up hFup hup), by rw [put_defers]; exact R.defers.ext hext, by rw [put_size]; exact R.size⟩ ⟨⟨hH.os, hH.tape, hH.output, hsz, fun r hr hne => hkeep r hr fun p i v hp hi hb => hne i (List.contains_iff_mem.1 (hT p i hp)) v hi hb⟩, fun id _ v r h1 h2 h3 => ?_⟩ (put_defers _ _ _)
  · rw [look_killEs] at ht
    cases hl1 : look e t with
    | none => simp [hl1] at ht
    | some c1 =>
      simp [hl1] at ht
      subst ht
      obtain ⟨u0, hu0, hv0⟩ := R.env t c1 hl1
      exact ⟨u0, hu0, vk _ _ hv0⟩
  · rcases i2 id v h1 with ⟨p, h4, h5⟩ | ⟨_, h5⟩
    · have := newlt p id v r h4 h5 h2; omega
    · exact ⟨v, h5, h2⟩
theorem O_cX {α : Type} {f : FuncId} {args : Array Operand} {ats : Array TypeId} {cs0 cs : List AVal} {h0 : Heap} {C : α → AVal} {H1 : α → Heap} {Φ : α → Prop} {d : Nat} (ρ ν : List (Nat × Nat)) (hinj : ∀ p p' i, look ρ p = some i → look ρ p' = some i → p = p') (hdom : ∀ p i, look ρ p = some i → 1000 ≤ p ∧ (look h0 p).isSome = true ∧ ∀ x, (look (H1 x) p).isSome = true)
    (hν : ∀ p i, look ν p = some i → p < 1000 ∧ i < 1000 ∧ ∀ q, look ρ q ≠ some i) (hνinj : ∀ p p' i, look ν p = some i → look ν p' = some i → p = p') (hνn : (ν.map (·.1)).Nodup)
    (H : ACall P f cs h0 (fun c' h' => ∃ x, Φ x ∧ c' = C x ∧ h' = H1 x)) (hok : cs.all (okV ρ) = true) (hl : Lent ρ h h0) (hw : awant ops e o = some true) (hdst : o.dst = some d) (hd : Nat.blt d nt = true) (ho : o.op = .call { callee := .value (.func f), args := args, argTypes := ats }) (hx : aevs e args.toList = some cs0)
    (hcs : cs.map (renV ρ) = cs0) (HK : ∀ x, Φ x → AOps P nt ops Q0 rest ((d, renV (ν ++ ρ) (C x)) :: killEs (ν.map (·.2)) e) (renH (ν ++ ρ) (H1 x) ++ killHs (ν.map (·.2)) h)) : AOps P nt ops Q0 (o :: rest) e h :=
  O_eff (T := ρ.map (·.2)) hw (E_callX ρ ν ho hdst hx hcs (fun c hc => List.all_eq_true.1 hok c hc) hl (fun p i hp => ⟨(hdom p i hp).1, (hdom p i hp).2.1⟩) hinj H hd (fun p i hp => List.contains_iff_mem.2 (look_mem2 hp)) hν hνinj hνn (fun c' h' ⟨x, _, _, h4⟩ p i hp => by subst h4; exact (hdom p i hp).2.2 x)) fun e' h' ⟨c', h2, ⟨x, h9, h3, h4⟩, h5, h6⟩ => by subst h3 h4 h5 h6; exact HK x h9
end
end Go.Proofs.YtenolkolkpfjgaaGreat.Ab

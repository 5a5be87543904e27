/-
  Texts of a proof, one behind the other (part 31).
-/
import Derived.Test.YtmljmahlpcdhoaaPc2
import Derived.Test.YtmljmahlpcdhoaaPc15
set_option linter.unusedVariables false
set_option linter.unusedSimpArgs false
namespace Go.Proofs.Ytmljmahlpcdhoaa.Ab
set_option linter.unusedVariables false
open Go.RowKit
def rn2 (p1 p2 q1 q2 : Nat) : AVal → AVal
  | .row j => if j = p1 then .row q1 else if j = p2 then .row q2 else .row j
  | c => c
def renG (ρ : List (Nat × Nat)) : AVal → AVal
  | .agg cs => .agg (cs.map (ren1 ρ))
  | c => renV ρ c
def okG (ρ : List (Nat × Nat)) : AVal → Bool
  | .agg cs => cs.all (ok1 ρ)
  | c => okV ρ c
theorem VRel.downG {w : World} {F F' : Nat → Prop} {ι ι0 : Nat → Option Value} {ρ : List (Nat × Nat)} {c : AVal} {u : Value} (hok : okG ρ c = true) (h : VRel w F ι (renG ρ c) u) (hF : ExtF w F ι w F' ι0) (hρ : ∀ p v, ι0 p = some v → ∃ i, look ρ p = some i ∧ ι i = some v) : VRel w F' ι0 c u := by
  cases c with
  | agg cs =>
    cases h with
    | agg _ C hl hh =>
      refine .agg _ C (by rw [hl, List.length_map]) fun i c u h1 h2 => ?_
      exact (hh i (ren1 ρ c) u (by rw [List.getElem?_map, h1]; rfl) h2).down1 (List.all_eq_true.1 hok c (List.mem_of_getElem? h1)) hF hρ
  | _ => exact h.down hok hF hρ
section
variable {P : Program} {nt : Nat} {Q : Post} {e : Env} {h : Heap} {ops : Array Oper} {o : Oper} {rest : List Oper} {T : List Nat} {tab : TTab} {fuel i : Nat} {listed : Array Bool}
theorem Wk_rename2A {p1 p2 q1 q2 el1 k1 n1 el2 k2 n2 t : Nat} {d1 d2 : List Dat} {cs cs' : List AVal} (hp : p1 ≠ p2) (hq : q1 ≠ q2) (hq1 : q1 < 1000) (hq2 : q2 < 1000) (ht : look e t = some (.agg cs)) (hcs : cs' = cs.map (rn2 p1 p2 q1 q2)) (hok : ∀ c ∈ cs, c = .row p1 ∨ c = .row p2 ∨ ((∀ j, c.has j = false) ∧ rn2 p1 p2 q1 q2 c = c)) :
    AWk nt e [(p1, .row el1 k1 n1 d1), (p2, .row el2 k2 n2 d2)] [(t, .agg cs')] [(q1, .row el1 k1 n1 d1), (q2, .row el2 k2 n2 d2)] := fun Pm F w0 pin ι a w R => by
  have H := R.heap
  obtain ⟨v1, hv1, xs1, ho1, hl1, hr1⟩ := H.blk p1 _ (look_cons_same _ _ _)
  obtain ⟨v2, hv2, xs2, ho2, hl2, hr2⟩ := H.blk p2 _ (by rw [look_cons_ne _ _ hp]; exact look_cons_same _ _ _)
  let ι' : Nat → Option Value := fun i => if i = q1 then ι p1 else if i = q2 then ι p2 else none
  have hι : ∀ i u, ι' i = some u → (i = q1 ∧ ι p1 = some u) ∨ (i = q2 ∧ ι p2 = some u) := fun i u hu => by
    simp only [ι'] at hu
    split at hu
    · rename_i h; exact .inl ⟨h, hu⟩
    · split at hu
      · rename_i h; exact .inr ⟨h, hu⟩
      · cases hu
  have hold : ∀ i u, ι' i = some u → ∃ p, ι p = some u := fun i u hu => by rcases hι i u hu with ⟨_, h⟩ | ⟨_, h⟩ <;> exact ⟨_, h⟩
  have e1 : ι' q1 = ι p1 := by simp [ι']
  have e2 : ι' q2 = ι p2 := by simp [ι', Ne.symm hq]
  have hex : Ext w F ι w ι' := ⟨fun _ _ _ => rfl, fun r _ hf => ⟨hf.1, fun i u hu => by obtain ⟨p, hp⟩ := hold i u hu; exact hf.2 p u hp⟩⟩
  refine ⟨ι', ⟨fun i b hb => ?_, fun i u hu => ?_, fun i j u u' r hij hi hj => ?_, fun i u r hu => by obtain ⟨p, hp⟩ := hold i u hu; exact H.pm p u r hp, H.os, H.tape, H.output, H.size, H.keep, H.fresh, fun i u h1 hu => ?_, fun i u r hu => by obtain ⟨p, hp⟩ := hold i u hu; exact H.nf p u r hp, H.forb⟩, fun s c hs => ?_, R.defers.ext hex, R.size⟩
  · by_cases h1 : q1 = i
    · subst h1
      rw [look_cons_same] at hb
      cases hb
      exact ⟨v1, by rw [e1]; exact hv1, xs1, ho1, hl1, fun i c u h3 h4 => (hr1 i c u h3 h4).ext (fun _ _ _ => rfl) fun r hr hf => hex.free r hr hf⟩
    · rw [look_cons_ne _ _ h1] at hb
      by_cases h2 : q2 = i
      · subst h2
        rw [look_cons_same] at hb
        cases hb
        exact ⟨v2, by rw [e2]; exact hv2, xs2, ho2, hl2, fun i c u h3 h4 => (hr2 i c u h3 h4).ext (fun _ _ _ => rfl) fun r hr hf => hex.free r hr hf⟩
      · rw [look_cons_ne _ _ h2] at hb; cases hb
  · rcases hι i u hu with ⟨rfl, _⟩ | ⟨rfl, _⟩
    · exact ⟨_, look_cons_same _ _ _⟩
    · exact ⟨_, by rw [look_cons_ne _ _ hq]; exact look_cons_same _ _ _⟩
  · rcases hι i u hi with ⟨a1, b1⟩ | ⟨a1, b1⟩ <;> rcases hι j u' hj with ⟨a2, b2⟩ | ⟨a2, b2⟩
    · exact absurd (a1.trans a2.symm) hij
    · exact H.inj p1 p2 u u' r hp b1 b2
    · exact H.inj p2 p1 u u' r (Ne.symm hp) b1 b2
    · exact absurd (a1.trans a2.symm) hij
  · rcases hι i u hu with ⟨rfl, _⟩ | ⟨rfl, _⟩ <;> omega
  · by_cases h1 : t = s
    · subst h1
      rw [look_cons_same] at hs
      cases hs
      obtain ⟨u, hu, hr⟩ := R.env t _ ht
      refine ⟨u, hu, ?_⟩
      cases hr with
      | agg _ C hl h =>
        refine .agg _ C (by rw [hl, hcs, List.length_map]) fun i c u h3 h4 => ?_
        rw [hcs, List.getElem?_map] at h3
        cases h5 : cs[i]? with
        | none => simp [h5] at h3
        | some c0 =>
          rw [h5] at h3
          simp only [Option.map_some, Option.some.injEq] at h3
          have h6 := h i c0 u h5 h4
          rcases hok c0 (List.mem_of_getElem? h5) with rfl | rfl | ⟨h7, h8⟩
          · have h3 : AVal.row q1 = c := by rw [← h3]; simp [rn2]
            subst h3
            cases h6 with
            | row _ _ g1 g2 => exact .row q1 u g1 fun v3 hv3 => g2 v3 (by rw [← e1]; exact hv3)
          · have h3 : AVal.row q2 = c := by rw [← h3]; simp [rn2, Ne.symm hp]
            subst h3
            cases h6 with
            | row _ _ g1 g2 => exact .row q2 u g1 fun v3 hv3 => g2 v3 (by rw [← e2]; exact hv3)
          · rw [h8] at h3
            subst h3
            exact h6.ext hex fun j _ hj => by rw [h7] at hj; cases hj
    · rw [look_cons_ne _ _ h1] at hs; cases hs
theorem E_callMv2 {f : FuncId} {args : Array Operand} {ats : Array TypeId} {cs0 cs : List AVal} {d : Option Tmp} {i1 i2 el1 k1 n1 el2 k2 n2 : Nat} {d1 d2 : List Dat} {c0 : AVal} {v00 : Value} (ho : o.op = .call { callee := .value (.func f), args := args, argTypes := ats }) (hdst : o.dst = d) (hx : aevs e args.toList = some cs0)
    (hcs : cs.map (renG [(1000, i1), (1001, i2)]) = cs0) (hok : ∀ c ∈ cs, okG [(1000, i1), (1001, i2)] c = true) (hb1 : look h i1 = some (.row el1 k1 n1 d1)) (hb2 : look h i2 = some (.row el2 k2 n2 d2)) (hne : i1 ≠ i2)
    (H : ACall P f cs [(1000, .row el1 k1 n1 d1), (1001, .row el2 k2 n2 d2)] (fun c h' => c = c0)) (hc0 : valA c0 = some v00) (hrel : ∀ w F ι, VRel w F ι c0 v00) (hd : dstOk nt d = true) (hT1 : T.contains i1 = true) (hT2 : T.contains i2 = true) :
    AEff P nt T e h o (fun e' h2 => e' = aput d c0 (killEs [i1, i2] e) ∧ h2 = killHs [i1, i2] h) := fun Pm F w0 pin ι a w R K Qx hK => by
  unfold Oper.wp
  rw [run_callA H.1 ho, Oper.upon_enter, hdst]
  have HR := R.heap
  obtain ⟨v1, hv1, hB1⟩ := HR.blk i1 _ hb1
  obtain ⟨v2, hv2, hB2⟩ := HR.blk i2 _ hb2
  let ι0 : Nat → Option Value := fun p => if p = 1000 then ι i1 else if p = 1001 then ι i2 else none
  have hlk1 : look [(1000, i1), (1001, i2)] 1000 = some i1 := look_cons_same _ _ _
  have hlk2 : look [(1000, i1), (1001, i2)] 1001 = some i2 := by rw [look_cons_ne _ _ (by omega)]; exact look_cons_same _ _ _
  have h0cases : ∀ p v, ι0 p = some v → (p = 1000 ∧ ι i1 = some v) ∨ (p = 1001 ∧ ι i2 = some v) := fun p v hv => by
    simp only [ι0] at hv
    split at hv
    · rename_i hp; exact .inl ⟨hp, hv⟩
    · split at hv
      · rename_i hp; exact .inr ⟨hp, hv⟩
      · cases hv
  have h0some : ∀ p v, ι0 p = some v → ∃ i, look [(1000, i1), (1001, i2)] p = some i ∧ ι i = some v := fun p v hv => by
    rcases h0cases p v hv with ⟨rfl, h⟩ | ⟨rfl, h⟩
    · exact ⟨i1, hlk1, h⟩
    · exact ⟨i2, hlk2, h⟩
  let F' : Nat → Prop := fun r => F r ∨ ∃ i v, ι i = some v ∧ blockOf v = some r ∧ i ≠ i1 ∧ i ≠ i2
  let Pm' : Nat → Prop := fun r => w.heap.size ≤ r ∨ blockOf v1 = some r ∨ blockOf v2 = some r
  have hFdown : ExtF w F ι w F' ι0 := ⟨fun _ _ _ => rfl, fun r _ hf => ⟨fun hc => hc.elim hf.1 fun ⟨i, v, h1, h2, _⟩ => hf.2 i v h1 h2, fun p v hv hb => by
    obtain ⟨i, _, h2⟩ := h0some p v hv
    exact hf.2 i v h2 hb⟩⟩
  have rowB : ∀ {el k n : Nat} {ds : List Dat} {v : Value}, BRel w F ι (.row el k n ds) v → BRel w F' ι0 (.row el k n ds) v := fun ⟨xs, hown, hxl, hxr⟩ => ⟨xs, hown, hxl, fun i c u h3 h4 => (hxr i c u h3 h4).ext (fun _ _ _ => rfl) fun r hr hf => hFdown.free r hr hf⟩
  have HC : HRel Pm' F' w ι0 ι0 [(1000, .row el1 k1 n1 d1), (1001, .row el2 k2 n2 d2)] w := by
    refine ⟨fun p b hb2 => ?_, fun p v hv => ?_, fun p q v v' r hpq hv hv' hr => ?_, fun p v r hv hr => .inr ?_, rfl, rfl, rfl, Nat.le_refl _, fun _ _ _ => rfl, fun r hr => .inl hr, fun p v _ hv => hv, fun p v r hv hr hF' => ?_, fun r hr => ?_⟩
    · by_cases h1 : 1000 = p
      · subst h1
        rw [look_cons_same] at hb2
        cases hb2
        exact ⟨v1, by simp only [ι0, if_true]; exact hv1, rowB hB1⟩
      · rw [look_cons_ne _ _ h1] at hb2
        by_cases h2 : 1001 = p
        · subst h2
          rw [look_cons_same] at hb2
          cases hb2
          exact ⟨v2, by simp [ι0]; exact hv2, rowB hB2⟩
        · rw [look_cons_ne _ _ h2] at hb2; cases hb2
    · rcases h0cases p v hv with ⟨rfl, _⟩ | ⟨rfl, _⟩
      · exact ⟨_, look_cons_same _ _ _⟩
      · exact ⟨_, by rw [look_cons_ne _ _ (by omega)]; exact look_cons_same _ _ _⟩
    · rcases h0cases p v hv with ⟨a1, b1⟩ | ⟨a1, b1⟩ <;> rcases h0cases q v' hv' with ⟨a2, b2⟩ | ⟨a2, b2⟩
      · omega
      · exact HR.inj i1 i2 v v' r hne b1 b2 hr
      · exact HR.inj i2 i1 v v' r (Ne.symm hne) b1 b2 hr
      · omega
    · rcases h0cases p v hv with ⟨_, b1⟩ | ⟨_, b1⟩
      · rw [hv1] at b1; cases b1; exact .inl hr
      · rw [hv2] at b1; cases b1; exact .inr hr
    · obtain ⟨i, h1, h2⟩ := h0some p v hv
      have hi : i = i1 ∨ i = i2 := by
        rcases h0cases p v hv with ⟨rfl, _⟩ | ⟨rfl, _⟩
        · rw [hlk1] at h1; cases h1; exact .inl rfl
        · rw [hlk2] at h1; cases h1; exact .inr rfl
      rcases hF' with h3 | ⟨q, v', h3, h4, h5, h6⟩
      · exact HR.nf _ v r h2 hr h3
      · exact HR.inj i q v v' r (by rcases hi with rfl | rfl; exact Ne.symm h5; exact Ne.symm h6) h2 h3 hr h4
    · rcases hr with h1 | ⟨q, v, h1, h2, _⟩
      · exact Nat.lt_of_lt_of_le (HR.forb r h1) HR.size
      · exact HR.lt h1 h2
  have HA : ArgsRel w F' ι0 cs (args.map a.eval) := by
    have := args_of R.env hx
    refine ⟨by rw [this.1, ← hcs, List.length_map], fun i c u h1 h2 => (this.2 i (renG [(1000, i1), (1001, i2)] c) u (by rw [← hcs, List.getElem?_map, h1]; rfl) h2).downG (hok c (List.mem_of_getElem? h1)) hFdown h0some⟩
  refine (H.2 Pm' F' w ι0 ι0 _ w HC HA).mono ?_
  rintro x w' ⟨u0, c, h', ι', rfl, rfl, hH, hv⟩
  have hu0 := valA_rel hv hc0
  subst hu0
  have hkeep : ∀ r, r < w.heap.size → blockOf v1 ≠ some r → blockOf v2 ≠ some r → w'.heap[r]? = w.heap[r]? := fun r hr n1 n2 => hH.keep r hr fun hp => by
    rcases hp with h1 | h1 | h1
    · omega
    · exact n1 h1
    · exact n2 h1
  let ι2 : Nat → Option Value := fun q => if [i1, i2].contains q = true then none else ι q
  have h2old : ∀ q v, ι2 q = some v → ι q = some v ∧ q ≠ i1 ∧ q ≠ i2 := fun q v hq => by
    simp only [ι2] at hq
    split at hq
    · cases hq
    · rename_i hn; simp at hn; exact ⟨hq, hn.1, hn.2⟩
  have hsameO : ∀ q v r, ι2 q = some v → blockOf v = some r → w'.heap[r]? = w.heap[r]? := fun q v r hq hr => by
    obtain ⟨g1, g2, g3⟩ := h2old q v hq
    exact hkeep r (HR.lt g1 hr) (HR.inj q i1 v v1 r g2 g1 hv1 hr) (HR.inj q i2 v v2 r g3 g1 hv2 hr)
  have ex : Ext w F ι w' ι2 := ⟨fun r hr hf => hkeep r hr (hf.2 i1 v1 hv1) (hf.2 i2 v2 hv2), fun r hr hf => ⟨hf.1, fun q v hq => hf.2 q v (h2old q v hq).1⟩⟩
  have vk : ∀ c0 u0, VRel w F ι c0 u0 → VRel w' F ι2 (killVs [i1, i2] c0) u0 := fun c0 u0 hv => by
    unfold killVs
    cases hh : hasAny [i1, i2] c0 with
    | true => exact .top _
    | false => exact hv.ext ex fun id v hi hv2 => (h2old id v hv2).1
  refine hK ι2 _ _ _ _ ⟨rfl, rfl⟩ ⟨⟨?_, ?_, ?_, ?_, hH.os.trans HR.os, hH.tape.trans HR.tape, hH.output.trans HR.output, Nat.le_trans HR.size hH.size, ?_, HR.fresh, ?_, ?_, HR.forb⟩, ?_, by rw [put_defers]; exact R.defers.ext ex, by rw [put_size]; exact R.size⟩ ?_ (put_defers _ _ _)
  · intro id b hb
    rw [look_killHs] at hb
    split at hb
    · cases hb
    · rename_i hnc
      cases hl2 : look h id with
      | none => simp [hl2] at hb
      | some b0 =>
        simp [hl2] at hb
        subst hb
        obtain ⟨v, hv, hB⟩ := HR.blk id b0 hl2
        have hv2' : ι2 id = some v := by simp only [ι2]; rw [if_neg hnc]; exact hv
        refine ⟨v, hv2', ?_⟩
        have hsame : ∀ r, blockOf v = some r → w'.heap[r]? = w.heap[r]? := fun r hr => hsameO id v r hv2' hr
        cases b0 with
        | var cs =>
          obtain ⟨r, C, tt, rfl, h2, h3, h4⟩ := hB
          refine ⟨r, C, tt, rfl, (hsame r rfl).trans h2, by simpa using h3, fun i c u h5 h6 => ?_⟩
          rw [List.getElem?_map] at h5
          cases h7 : cs[i]? with
          | none => simp [h7] at h5
          | some c0 => simp [h7] at h5; subst h5; exact vk _ _ (h4 i c0 u h7 h6)
        | row el k n cs =>
          obtain ⟨xs, hown, h3, h4⟩ := hB
          refine ⟨xs, ⟨hown.1, ?_⟩, h3, fun i c u h5 h6 => (h4 i c u h5 h6).ext ex.mem ex.free⟩
          rcases hown.2 with h8 | ⟨g, cap, cur, rfl, hb, hg, rest⟩
          · exact .inl h8
          · exact .inr ⟨g, cap, cur, rfl, hb, (hsame g rfl).trans hg, rest⟩
        | rowA el k n cs =>
          obtain ⟨xs, hown, h3, h4⟩ := hB
          refine ⟨xs, ⟨hown.1, ?_⟩, by simpa using h3, fun i c u h5 h6 => ?_⟩
          · rcases hown.2 with h8 | ⟨g, cap, cur, rfl, hb, hg, rest⟩
            · exact .inl h8
            · exact .inr ⟨g, cap, cur, rfl, hb, (hsame g rfl).trans hg, rest⟩
          · rw [List.getElem?_map] at h5
            cases h7 : cs[i]? with
            | none => simp [h7] at h5
            | some c0 => simp [h7] at h5; subst h5; exact vk _ _ (h4 i c0 u h7 h6)
        | map es =>
          obtain ⟨r, E, clk, rfl, h2, h3, h4, h5⟩ := hB
          refine ⟨r, E, clk, rfl, (hsame r rfl).trans h2, by simpa using h3, fun i p m h6 h7 => ?_, h5⟩
          rw [List.getElem?_map] at h6
          cases h8 : es[i]? with
          | none => simp [h8] at h6
          | some p0 => simp [h8] at h6; subst h6; exact ⟨vk _ _ (h4 i p0 m h8 h7).1, vk _ _ (h4 i p0 m h8 h7).2⟩
        | mapx r0 bs0 clk0 es =>
          obtain ⟨E, rfl, h2, h3, h4, h5⟩ := hB
          refine ⟨E, rfl, (hsame _ rfl).trans h2, by simpa using h3, fun i p m h6 h7 => ?_, h5⟩
          rw [List.getElem?_map] at h6
          cases h8 : es[i]? with
          | none => simp [h8] at h6
          | some p0 => simp [h8] at h6; subst h6; exact ⟨vk _ _ (h4 i p0 m h8 h7).1, vk _ _ (h4 i p0 m h8 h7).2⟩
        | it o => obtain ⟨r, rfl, h2⟩ := hB; exact ⟨r, rfl, (hsame r rfl).trans h2⟩
  · intro id v hv
    simp only [ι2] at hv
    split at hv
    · cases hv
    · rename_i hnc
      obtain ⟨b, hb⟩ := HR.dom id v hv
      exact ⟨killBs _ b, by rw [look_killHs, if_neg hnc, hb]; rfl⟩
  · intro i j v v' r hij hi hj hr hr'
    exact HR.inj i j v v' r hij (h2old i v hi).1 (h2old j v' hj).1 hr hr'
  · intro id v r hv hr
    exact HR.pm id v r (h2old id v hv).1 hr
  · intro r hr hn
    rw [hkeep r (Nat.lt_of_lt_of_le hr HR.size) (fun hb => hn (HR.pm i1 v1 r hv1 hb)) (fun hb => hn (HR.pm i2 v2 r hv2 hb))]
    exact HR.keep r hr hn
  · intro id v h1 hv
    exact HR.pinned id v h1 (h2old id v hv).1
  · intro id v r hv hr
    exact HR.nf id v r (h2old id v hv).1 hr
  · refine EnvRel.aput (fun t c0 ht => ?_) hd R.size (hrel _ _ _)
    rw [look_killEs] at ht
    cases hl : look e t with
    | none => simp [hl] at ht
    | some c1 =>
      simp [hl] at ht
      subst ht
      obtain ⟨u0, hu0, hv0⟩ := R.env t c1 hl
      exact ⟨u0, hu0, vk _ _ hv0⟩
  · refine ⟨⟨hH.os, hH.tape, hH.output, hH.size, fun r hr hne2 => hkeep r hr (hne2 i1 (List.contains_iff_mem.1 hT1) v1 hv1) (hne2 i2 (List.contains_iff_mem.1 hT2) v2 hv2)⟩, fun q _ u2 r hq hr1 hlt => ?_⟩
    exact ⟨u2, (h2old q u2 hq).1, hr1⟩
theorem T_cMv2 {f : FuncId} {args : Array Operand} {ats : Array TypeId} {cs0 cs : List AVal} {d i1 i2 el1 k1 n1 el2 k2 n2 : Nat} {d1 d2 : List Dat} {c0 : AVal} {v00 : Value} (hi : ops[i]? = some o) (hw : awant ops e o = some true) (hdst : o.dst = some d) (hd : Nat.blt d nt = true) (ho : o.op = .call { callee := .value (.func f), args := args, argTypes := ats }) (hx : aevs e args.toList = some cs0)
    (H : ACall P f cs [(1000, .row el1 k1 n1 d1), (1001, .row el2 k2 n2 d2)] (fun c h' => c = c0)) (hc0 : valA c0 = some v00) (hrel : ∀ w F ι, VRel w F ι c0 v00) (hcs : cs.map (renG [(1000, i1), (1001, i2)]) = cs0) (hok : ∀ c ∈ cs, okG [(1000, i1), (1001, i2)] c = true) (hb1 : look h i1 = some (.row el1 k1 n1 d1)) (hb2 : look h i2 = some (.row el2 k2 n2 d2)) (hne : i1 ≠ i2) (hT1 : T.contains i1 = true) (hT2 : T.contains i2 = true)
    (HK : AAny P nt ops Q T fuel (listed.setIfInBounds i true) ((d, c0) :: killEs [i1, i2] e) (killHs [i1, i2] h)) : AAt P nt ops Q T fuel listed i e h :=
  T_eff hi hw (E_callMv2 (d := some d) ho hdst hx hcs hok hb1 hb2 hne H hc0 hrel hd hT1 hT2) fun e' h' ⟨h1, h2⟩ => by subst h1 h2; exact HK
end
end Go.Proofs.Ytmljmahlpcdhoaa.Ab

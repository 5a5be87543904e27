/-
  Texts of a proof, one behind the other (part 26).
-/
import Derived.Test.YtenolkolkpfjgaaGreatFt5
import Derived.Test.YtenolkolkpfjgaaGreatFt7
import Derived.Test.YtenolkolkpfjgaaGreatFt8
import Derived.Test.YtenolkolkpfjgaaGreatFt23
import Derived.Test.YtenolkolkpfjgaaGreatFt24
set_option linter.unusedVariables false
set_option linter.unusedSimpArgs false
namespace Go.Proofs.YtenolkolkpfjgaaGreat.Ab
set_option linter.unusedVariables false
set_option maxRecDepth 100000
open Go.RowKit
def AWkX {β : Type} (nt : Nat) (e : Env) (h : Heap) (E : β → Env) (H : β → Heap) : Prop :=
  ∀ Pm F w0 pin ι a w, Rel Pm F w0 pin ι nt e h a w → ∃ x ι', Rel Pm F w0 pin ι' nt (E x) (H x) a w
section
variable {P : Program} {nt : Nat} {Q : Post} {e : Env} {h : Heap} {ops : Array Oper} {o : Oper} {rest : List Oper} {T : List Nat} {tab : TTab} {z : Bool}
theorem O_weakX {β : Type} {E : β → Env} {H : β → Heap} {l : List Oper} (hk : AWkX nt e h E H) (K : ∀ x, AOps P nt ops Q l (E x) (H x)) : AOps P nt ops Q l e h := fun hnd lq Pm F w0 pin ι a w R => by
  obtain ⟨x, ι', R'⟩ := hk Pm F w0 pin ι a w R
  exact K x hnd lq Pm F w0 pin ι' a w R'
theorem Wk_rawI {id el k n : Nat} {cs : List Dat} (hb : look h id = some (.row el k n cs)) : AWkX nt e h (fun x : Option Addr × Nat => frE id (.sc (.slice x.1 n x.2)) e) (fun x => (id, .rowx (.slice x.1 n x.2) el k n cs) :: frH id (.sc (.slice x.1 n x.2)) h) := fun Pm F w0 pin ι a w R => by
  obtain ⟨v, hv, hB⟩ := R.heap.blk id _ hb
  obtain ⟨b, c, rfl⟩ : ∃ b c, v = .slice b n c := by
    obtain ⟨xs, hown, _⟩ := hB
    rcases hown.2 with ⟨h3, h4⟩ | ⟨g, cap, cur, h3, _⟩
    · subst h4; exact ⟨_, _, h3⟩
    · exact ⟨_, _, h3⟩
  have hD : DRel w (FreeB F ι) (.sc (.slice b n c)) (.slice b n c) := .sc _ rfl
  have vk : ∀ q u, VRel w F ι q u → VRel w F ι (frV id (.sc (.slice b n c)) q) u := by
    intro q u hc
    induction hc with
    | top u => exact .top u
    | und => exact .und
    | d x u hd => exact .d x u hd
    | agg cs C hl h ih =>
      refine .agg _ C (by rw [frL_len]; exact hl) fun i c u h1 h2 => ?_
      rw [frL_get] at h1
      cases h3 : cs[i]? with
      | none => simp [h3] at h1
      | some c0 => simp [h3] at h1; subst h1; exact ih i c0 u h3 h2
    | tup cs C hl h ih =>
      refine .tup _ C (by rw [frL_len]; exact hl) fun i c u h1 h2 => ?_
      rw [frL_get] at h1
      cases h3 : cs[i]? with
      | none => simp [h3] at h1
      | some c0 => simp [h3] at h1; subst h1; exact ih i c0 u h3 h2
    | ptr j off u h1 h => exact .ptr j off u h1 h
    | eptr j off u h1 h => exact .eptr j off u h1 h
    | iptr cs off b o' vs hl hf hc hr => exact .iptr cs off b o' vs hl hf hc hr
    | row j u h1 h =>
      rw [frV]
      cases hj : Nat.beq j id with
      | true =>
        have := Nat.eq_of_beq_eq_true hj
        subst this
        rw [cond_true, h _ hv]
        exact .d _ _ hD
      | false => exact .row j u h1 h
    | mp j u h1 h => exact .mp j u h1 h
    | srow j off n u h1 h =>
      rw [frV]
      cases hj : Nat.beq j id with
      | true => exact .top u
      | false => exact .srow j off n u h1 h
    | full cs n b h => exact .full cs n b h
    | fn f cs C hl h ih =>
      refine .fn f _ C (by rw [frL_len]; exact hl) fun i c u h1 h2 => ?_
      rw [frL_get] at h1
      cases h3 : cs[i]? with
      | none => simp [h3] at h1
      | some c0 => simp [h3] at h1; subst h1; exact ih i c0 u h3 h2
  refine ⟨(b, c), ι, ⟨?_, ?_, R.heap.inj, R.heap.pm, R.heap.os, R.heap.tape, R.heap.output, R.heap.size, R.heap.keep, R.heap.fresh, R.heap.pinned, R.heap.nf, R.heap.forb⟩, ?_, R.defers, R.size⟩
  · intro j b2 hj
    by_cases hji : id = j
    · subst hji
      rw [look_cons_same] at hj
      cases hj
      exact ⟨_, hv, rfl, hB⟩
    · rw [look_cons_ne _ _ hji, look_frH, if_neg (by omega)] at hj
      cases hl2 : look h j with
      | none => simp [hl2] at hj
      | some b0 =>
        simp [hl2] at hj
        subst hj
        obtain ⟨v2, hv2, hB⟩ := R.heap.blk j b0 hl2
        refine ⟨v2, hv2, ?_⟩
        cases b0 with
        | var ds =>
          obtain ⟨r, C, tt, rfl, h3, h4, h5⟩ := hB
          refine ⟨r, C, tt, rfl, h3, by rw [frL_len]; exact h4, fun i c u h6 h7 => ?_⟩
          rw [frL_get] at h6
          cases h8 : ds[i]? with
          | none => simp [h8] at h6
          | some c0 => simp [h8] at h6; subst h6; exact vk _ _ (h5 i c0 u h8 h7)
        | row el2 k2 n2 ds => exact hB
        | rowA el2 k2 n2 ds =>
          obtain ⟨ys, hown2, h4, h5⟩ := hB
          refine ⟨ys, hown2, by rw [frL_len]; exact h4, fun i c u h6 h7 => ?_⟩
          rw [frL_get] at h6
          cases h8 : ds[i]? with
          | none => simp [h8] at h6
          | some c0 => simp [h8] at h6; subst h6; exact vk _ _ (h5 i c0 u h8 h7)
        | map es =>
          obtain ⟨r, E, clk, rfl, h3, h4, h5, h6⟩ := hB
          refine ⟨r, E, clk, rfl, h3, by simpa using h4, fun i p m h7 h8 => ?_, h6⟩
          rw [List.getElem?_map] at h7
          cases h9 : es[i]? with
          | none => simp [h9] at h7
          | some p0 => simp [h9] at h7; subst h7; exact ⟨vk _ _ (h5 i p0 m h9 h8).1, vk _ _ (h5 i p0 m h9 h8).2⟩
        | mapx r0 bs0 clk0 es =>
          obtain ⟨E, rfl, h3, h4, h5, h6⟩ := hB
          refine ⟨E, rfl, h3, by simpa using h4, fun i p m h7 h8 => ?_, h6⟩
          rw [List.getElem?_map] at h7
          cases h9 : es[i]? with
          | none => simp [h9] at h7
          | some p0 => simp [h9] at h7; subst h7; exact ⟨vk _ _ (h5 i p0 m h9 h8).1, vk _ _ (h5 i p0 m h9 h8).2⟩
        | rowx hv el2 k2 n2 ds => exact hB
        | it o => exact hB
  · intro j u hj
    by_cases hji : id = j
    · subst hji; exact ⟨_, look_cons_same _ _ _⟩
    · obtain ⟨b, hb⟩ := R.heap.dom j u hj
      exact ⟨frB id _ b, by rw [look_cons_ne _ _ hji, look_frH, if_neg (by omega), hb]; rfl⟩
  · intro t c ht
    rw [look_frE] at ht
    cases hl2 : look e t with
    | none => simp [hl2] at ht
    | some c0 =>
      simp [hl2] at ht
      subst ht
      obtain ⟨u, hu, hv2⟩ := R.env t c0 hl2
      exact ⟨u, hu, vk _ _ hv2⟩
theorem Wk_nilX {id : Nat} (el k : Nat) (hid : Nat.blt id 1000 = true) : AWk nt e h (killE id e) ((id, .rowx (.slice none 0 0) el k 0 []) :: killH id h) := fun Pm F w0 pin ι a w R => by
  have hid' : id < 1000 := by simp [Nat.blt] at hid; omega
  have TT : Touch w ι id (.slice none 0 0) w := ⟨rfl, rfl, rfl, Nat.le_refl _, fun _ _ _ => rfl, fun r hr => by cases hr⟩
  exact ⟨_, R.heap.touch TT (.inl hid') (⟨rfl, [], World.ownsRow_nil _ _ _ _, rfl, by simp⟩), fun s c hs => (R.env.killed TT.ext) s c hs, R.defers.ext TT.ext, R.size⟩
theorem Wk_name {t id el k n : Nat} {cs : List Dat} {hv : Value} (ht : look e t = some (.d (.sc hv))) (hb : look h id = some (.rowx hv el k n cs)) (hid : Nat.blt id 1000 = true) : AWk nt e h ((t, .row id) :: killE id e) ((id, .row el k n cs) :: killH id h) := fun Pm F w0 pin ι a w R => by
  have hid' : id < 1000 := by simp [Nat.blt] at hid; omega
  obtain ⟨v, hvv, rfl, hB⟩ := R.heap.blk id _ hb
  have e1 : upd ι id (some v) = ι := by
    funext j
    unfold upd
    split
    · rename_i hj; rw [hj, hvv]
    · rfl
  have TT : Touch w ι id v w := ⟨rfl, rfl, rfl, Nat.le_refl _, fun _ _ _ => rfl, fun r hr => .inr ⟨v, hvv, hr⟩⟩
  have hR : BRel w F (upd ι id (some v)) (.row el k n cs) v := by rw [e1]; exact hB
  refine ⟨_, R.heap.touch TT (.inl hid') hR, fun s c hs => ?_, R.defers.ext TT.ext, R.size⟩
  by_cases hts : t = s
  · subst hts
    rw [look_cons_same] at hs; cases hs
    obtain ⟨u, hu, hv2⟩ := R.env t _ ht
    obtain ⟨e1, e2⟩ := sc_of hv2
    exact ⟨u, hu, .row id u (by rw [e1]; exact e2) fun v hv' => by simp [upd] at hv'; rw [e1, hv']⟩
  · rw [look_cons_ne _ _ hts] at hs
    exact (R.env.killed TT.ext) s c hs
theorem R_lenS {t el n c : Nat} {b : Option Addr} {x : Operand} (TO : TabOk P tab) (ho : o.op = .call { callee := .builtin .len, args := #[x], argTypes := #[t] }) (hel : telem tab t = some el) (hx : aev e x = some (.d (.sc (.slice b n c)))) : AYield P T e h o (.d (.sc (.int .i64 (n : Int)))) := fun Pm F w0 pin ι a w H E => by
  obtain ⟨te, h1, h2⟩ := telem_spec hel
  refine ⟨.int .i64 n, sc_rel rfl, fun w' _ => ?_⟩
  have hu := (TO t te h1).slice h2
  have hxx := (sc_of (aev_rel E hx)).1
  simp [execOp, ho, resolve, invoke, builtin, hxx, Builtin.len_, run_underlying hu, goInt]
theorem E_callAwayV {f : FuncId} {args : Array Operand} {ats : Array TypeId} {d : Option Tmp} {p0 i0 : Nat} {h0 h2 : Heap} {c0 : AVal} {v0 : Value} (g : Nat → Option Nat) (ho : o.op = .call { callee := .value (.func f), args := args, argTypes := ats }) (hdst : o.dst = d) (hx : aevs e args.toList = some [.row i0]) (hg0 : g p0 = some i0)
    (hl : ∀ p b, look h0 p = some b → ∃ i, g p = some i ∧ look h i = some b ∧ plainB b = true) (hdom : ∀ p i, g p = some i → (look h0 p).isSome = true) (hinj : ∀ p q i, g p = some i → g q = some i → p = q)
    (H : ACall P f [.row p0] h0 (fun c h' => c = c0)) (hc0 : valA c0 = some v0) (hrel : ∀ w F ι, VRel w F ι c0 v0) (h2ok : ∀ id b, look h2 id = some b → look h id = some b ∧ ∀ p, g p ≠ some id) (hd : dstOk nt d = true) (hT : ∀ p i, g p = some i → T.contains i = true) :
    AEff P nt T e h o (fun e' h' => e' = aput d c0 e ∧ h' = h2) := fun Pm F w0 pin ι a w R K Qx hK => by
  unfold Oper.wp
  rw [run_callA H.1 ho, Oper.upon_enter, hdst]
  have HR := R.heap
  let ι0 : Nat → Option Value := fun p => match g p with | some i => ι i | none => none
  have h0some : ∀ p v, ι0 p = some v → ∃ i, g p = some i ∧ ι i = some v := fun p v hv => by
    simp only [ι0] at hv
    cases hp : g p with
    | none => rw [hp] at hv; cases hv
    | some i => rw [hp] at hv; exact ⟨i, rfl, hv⟩
  have h0of : ∀ p i, g p = some i → ι0 p = ι i := fun p i hp => by simp only [ι0, hp]
  let F' : Nat → Prop := fun r => F r ∨ ∃ id v, ι id = some v ∧ blockOf v = some r ∧ ∀ p, g p ≠ some id
  let Pm' : Nat → Prop := fun r => w.heap.size ≤ r ∨ ∃ p v, ι0 p = some v ∧ blockOf v = some r
  have HC : HRel Pm' F' w ι0 ι0 h0 w := by
    refine ⟨fun p b hb => ?_, fun p v hv => ?_, fun p q v v' r hpq hv hv' hr => ?_, fun p v r hv hr => .inr ⟨p, v, hv, hr⟩, rfl, rfl, rfl, Nat.le_refl _, fun _ _ _ => rfl, fun r hr => .inl hr, fun p v _ hv => hv, fun p v r hv hr hF' => ?_, fun r hr => ?_⟩
    · obtain ⟨i, h1, h2, h3⟩ := hl p b hb
      obtain ⟨v, hv, hB⟩ := HR.blk i _ h2
      exact ⟨v, by rw [h0of p i h1]; exact hv, hB.plain h3⟩
    · obtain ⟨i, h1, h2⟩ := h0some p v hv
      exact Option.isSome_iff_exists.1 (hdom p i h1)
    · obtain ⟨i, h1, h2⟩ := h0some p v hv
      obtain ⟨j, h3, h4⟩ := h0some q v' hv'
      exact HR.inj i j v v' r (by rintro rfl; exact hpq (hinj p q i h1 h3)) h2 h4 hr
    · obtain ⟨i, h1, h2⟩ := h0some p v hv
      rcases hF' with h3 | ⟨id, v', h3, h4, h5⟩
      · exact HR.nf i v r h2 hr h3
      · have : i ≠ id := by rintro rfl; exact h5 p h1
        exact HR.inj i id v v' r this h2 h3 hr h4
    · rcases hr with h1 | ⟨id, v, h1, h2, _⟩
      · exact Nat.lt_of_lt_of_le (HR.forb r h1) HR.size
      · exact HR.lt h1 h2
  have HA : ArgsRel w F' ι0 [.row p0] (args.map a.eval) := by
    have := args_of R.env hx
    refine ⟨this.1, fun i c u h1 h2 => ?_⟩
    match i, h1 with
    | 0, h1 =>
      cases h1
      have := this.2 0 _ u rfl h2
      cases this with
      | row _ _ h3 h4 => exact .row p0 u h3 fun v hv => h4 v (by rw [← h0of p0 i0 hg0]; exact hv)
    | i + 1, h1 => simp at h1
  refine (H.2 Pm' F' w ι0 ι0 _ w HC HA).mono ?_
  rintro x w' ⟨u, c, h', ι', rfl, rfl, hH, hv⟩
  have hkeep : ∀ r, r < w.heap.size → (∀ p i v, g p = some i → ι i = some v → blockOf v ≠ some r) → w'.heap[r]? = w.heap[r]? := fun r hr hn => hH.keep r hr fun hp => by
    rcases hp with h1 | ⟨p, v, h1, h2⟩
    · omega
    · obtain ⟨i, h3, h4⟩ := h0some p v h1
      exact hn p i v h3 h4 h2
  have hext : Ext w F ι w' (only h2 ι) := ⟨fun r hr hf => hkeep r hr fun p i v h1 h2 h3 => hf.2 i v h2 h3, fun r hr hf => ⟨hf.1, fun id v hv => hf.2 id v (only_some hv)⟩⟩
  refine hK (only h2 ι) _ _ _ w' ⟨rfl, rfl⟩ ⟨⟨fun id b hb => ?_, fun id v hv => ?_, fun i j v v' r hij hi hj => HR.inj i j v v' r hij (only_some hi) (only_some hj), fun i v r hi => HR.pm i v r (only_some hi), hH.os.trans HR.os, hH.tape.trans HR.tape, hH.output.trans HR.output, Nat.le_trans HR.size hH.size,
      fun r hr hp => ?_, HR.fresh, fun id v h1 hv => HR.pinned id v h1 (only_some hv), fun i v r hi => HR.nf i v r (only_some hi), HR.forb⟩, ?_, by rw [put_defers]; exact R.defers.ext hext, by rw [put_size]; exact R.size⟩
    ⟨⟨hH.os, hH.tape, hH.output, hH.size, fun r hr hne => hkeep r hr fun p i v h1 h2 => hne i (List.contains_iff_mem.1 (hT p i h1)) v h2⟩, fun id _ v r h1 h2 _ => ⟨v, only_some h1, h2⟩⟩ (put_defers _ _ _)
  · obtain ⟨h1, h3⟩ := h2ok id b hb
    obtain ⟨v, hv2, hB⟩ := HR.blk id b h1
    exact ⟨v, by simp [only, hb, hv2], hB.ext hext (fun _ _ h => only_some h) fun r hr => hkeep r (HR.lt hv2 hr) fun p i v2 h5 h6 h7 => HR.inj i id v2 v r (by rintro rfl; exact h3 p h5) h6 hv2 h7 hr⟩
  · unfold only at hv
    split at hv
    · rename_i hs; exact Option.isSome_iff_exists.1 hs
    · cases hv
  · rw [hkeep r (Nat.lt_of_lt_of_le hr HR.size) fun p i v h1 h2 h3 => hp (HR.pm i v r h2 h3)]
    exact HR.keep r hr hp
  · refine EnvRel.aput (R.env.mono fun t c u _ hc => hc.ext hext fun id v _ h => only_some h) hd R.size ?_
    have := valA_rel hv hc0
    subst this
    exact hrel _ _ _
theorem O_cAwayV {f : FuncId} {args : Array Operand} {ats : Array TypeId} {d p0 i0 : Nat} {h0 h2 : Heap} {c0 : AVal} {v0 : Value} (g : Nat → Option Nat) (hg0 : g p0 = some i0)
    (hl : ∀ p b, look h0 p = some b → ∃ i, g p = some i ∧ look h i = some b ∧ plainB b = true) (hdom : ∀ p i, g p = some i → i < 1000 ∧ (look h0 p).isSome = true) (hinj : ∀ p q i, g p = some i → g q = some i → p = q)
    (H : ACall P f [.row p0] h0 (fun c h' => c = c0)) (hc0 : valA c0 = some v0) (hrel : ∀ w F ι, VRel w F ι c0 v0) (h2ok : ∀ id b, look h2 id = some b → look h id = some b ∧ ∀ p, g p ≠ some id)
    (hw : awant ops e o = some true) (hdst : o.dst = some d) (hd : Nat.blt d nt = true) (ho : o.op = .call { callee := .value (.func f), args := args, argTypes := ats }) (hx : aevs e args.toList = some [.row i0])
    (HK : AOps P nt ops Q rest ((d, c0) :: e) h2) : AOps P nt ops Q (o :: rest) e h :=
  O_eff (T := List.range 1000) hw (E_callAwayV g ho hdst hx hg0 hl (fun p i h => (hdom p i h).2) hinj H hc0 hrel h2ok hd fun p i h => List.contains_iff_mem.2 (List.mem_range.2 (hdom p i h).1)) fun e' h' ⟨h1, h2⟩ => by subst h1 h2; exact HK
end
end Go.Proofs.YtenolkolkpfjgaaGreat.Ab

namespace Go.Proofs.YtenolkolkpfjgaaGreat.Ab
set_option linter.unusedVariables false
structure EntR where
  x : Ent
  v : Value
instance : Inhabited EntR := ⟨⟨⟨⟨0, 0⟩, false, []⟩, .slice none 0 0⟩⟩
set_option maxRecDepth 100000
open Go.RowKit Go.Lib
def entRV (y : EntR) : List Value := [.int .u32 y.x.p.a, .int .i64 y.x.p.b, .bool y.x.x, y.v]
def entRD (y : EntR) : List Dat := [.sc (.int .u32 y.x.p.a), .sc (.int .i64 y.x.p.b), .sc (.bool y.x.x), .sc y.v]
theorem entRD_len (y : EntR) : (entRD y).length = 4 := rfl
abbrev entRA (y : EntR) : AVal := .agg ((entRD y).map AVal.d)
abbrev entRB (l : List EntR) : ABlk := .row 45 4 l.length (l.flatMap entRD)
abbrev hopX (v : Value) (hs : List Hp) : ABlk := .rowx v 66 2 hs.length (hs.flatMap hopD)
def famE : List EntR → Nat → Heap
  | [], _ => []
  | y :: r, b => (b, hopX y.v y.x.hs) :: famE r (b + 1)
theorem famE_at : ∀ (R : List EntR) (b i : Nat) (hi : i < R.length), look (famE R b) (b + i) = some (hopX R[i].v R[i].x.hs)
  | [], b, i, hi => by simp at hi
  | y :: r, b, 0, hi => look_cons_same _ _ _
  | y :: r, b, i + 1, hi => by
    rw [famE, look_cons_ne _ _ (by omega), show b + (i + 1) = b + 1 + i by omega]
    exact famE_at r (b + 1) i (by simpa using hi)
theorem famE_inv : ∀ (R : List EntR) (b j : Nat) (bl : ABlk), look (famE R b) j = some bl → ∃ i, ∃ hi : i < R.length, j = b + i ∧ bl = hopX R[i].v R[i].x.hs
  | [], b, j, bl, h => by cases h
  | y :: r, b, j, bl, h => by
    by_cases hj : b = j
    · subst hj
      rw [famE, look_cons_same] at h
      cases h
      exact ⟨0, by simp, rfl, rfl⟩
    · rw [famE, look_cons_ne _ _ hj] at h
      obtain ⟨i, hi, h1, h2⟩ := famE_inv r (b + 1) j bl h
      exact ⟨i + 1, by simpa using hi, by omega, h2⟩
theorem plain_hops (l : List Hp) : (l.flatMap hopD).all plainD = true := by
  rw [List.all_eq_true]
  intro c hc
  obtain ⟨x, _, hx⟩ := List.mem_flatMap.1 hc
  simp [hopD] at hx
  rcases hx with rfl | rfl <;> rfl
theorem famE_in {R : List EntR} {b j : Nat} {bl : ABlk} (h : look (famE R b) j = some bl) : b ≤ j ∧ j < b + R.length ∧ isX bl = true := by
  obtain ⟨i, hi, rfl, rfl⟩ := famE_inv R b j bl h
  exact ⟨by omega, by omega, plain_hops _⟩
theorem famE_snoc : ∀ (R : List EntR) (b : Nat) (y : EntR) (j : Nat) (bl : ABlk), look (famE (R ++ [y]) b) j = some bl → (look (famE R b) j = some bl) ∨ (j = b + R.length ∧ bl = hopX y.v y.x.hs) := fun R b y j bl h => by
  obtain ⟨i, hi, rfl, rfl⟩ := famE_inv _ _ _ _ h
  by_cases hl : i < R.length
  · rw [List.getElem_append_left hl]; exact .inl (famE_at R b i hl)
  · rw [List.length_append, List.length_singleton] at hi
    obtain rfl : i = R.length := by omega
    refine .inr ⟨rfl, ?_⟩
    simp
theorem famE_nd : ∀ (R : List EntR) (b : Nat), ((famE R b).map (·.1)).Nodup
  | [], _ => .nil
  | y :: r, b => by
    rw [famE, List.map_cons, List.nodup_cons]
    refine ⟨fun h => ?_, famE_nd r (b + 1)⟩
    obtain ⟨bl, hb⟩ := look_of_key h
    have := (famE_in hb).1
    dsimp only at this
    omega
theorem look_famE {R : List EntR} {h : Heap} (hn : R.length ≤ 200) (hh : ∀ j b, 100 ≤ j → j < 300 → isX b = true → look (famE R 100) j = some b → look h j = some b) : ∀ id b, look (famE R 100) id = some b → look h id = some b := fun id b hb => by
  obtain ⟨h1, h2, h3⟩ := famE_in hb
  exact hh id b h1 (by omega) h3 hb
theorem fx_cons {h : Heap} {j k : Nat} {b c : ABlk} (hk : k < 100 ∨ 300 ≤ k) (h1 : 100 ≤ j) (h2 : j < 300) (hl : look h j = some b) : look ((k, c) :: h) j = some b := by rw [look_cons_ne _ _ (by omega)]; exact hl
theorem fx_killH {h : Heap} {j k : Nat} {b : ABlk} (hk : k < 100 ∨ 300 ≤ k) (h1 : 100 ≤ j) (h2 : j < 300) (hx : isX b = true) (hl : look h j = some b) : look (killH k h) j = some b := by
  rw [look_killH, if_neg (by omega), hl]; show some (killB k b) = _; rw [isX_kill hx]
theorem fx_killHs {h : Heap} {j : Nat} {ks : List Nat} {b : ABlk} (hk : ∀ k ∈ ks, k < 100 ∨ 300 ≤ k) (h1 : 100 ≤ j) (h2 : j < 300) (hx : isX b = true) (hl : look h j = some b) : look (killHs ks h) j = some b := by
  rw [look_killHs, if_neg (fun hc => by have := hk j (List.contains_iff_mem.1 hc); omega), hl]; show some (killBs ks b) = _; rw [isX_kills hx]
theorem fx_frH {h : Heap} {j k : Nat} {d : Dat} {b : ABlk} (hk : k < 100 ∨ 300 ≤ k) (h1 : 100 ≤ j) (h2 : j < 300) (hx : isX b = true) (hl : look h j = some b) : look (frH k d h) j = some b := by
  rw [look_frH, if_neg (by omega), hl]
  show some (frB k d b) = _
  cases b <;> first | rfl | cases hx
theorem Wk_famX {nt : Nat} {e e1 : Env} {h h1 : Heap} {Y : List EntR} {y : EntR} {src : Nat} (hsrc : src < 100 ∨ 300 ≤ src) (hY : Y.length < 200) (he : Sub e1 e) (hh : Sub h1 h) (h6 : look h src = some (hopX y.v y.x.hs)) (hG : ∀ id b, look (famE Y 100) id = some b → look h id = some b)
    (hks : look h1 src = none) (hkeys : ∀ id b, look h1 id = some b → id < 100 ∨ 300 ≤ id) (hev : ∀ t c, look e1 t = some c → ∀ j, 100 ≤ j → j < 300 → c.has j = false) (hbv : ∀ id b, look h1 id = some b → ∀ j, 100 ≤ j → j < 300 → blkHas j b = false) : AWk nt e h e1 (h1 ++ famE (Y ++ [y]) 100) := by
  have dom : ∀ j, (look (famE (Y ++ [y]) 100) j).isSome = true → 100 ≤ j ∧ j < 300 := fun j hj => by
    obtain ⟨b, hb⟩ := Option.isSome_iff_exists.1 hj
    obtain ⟨h1, h2, _⟩ := famE_in hb
    rw [List.length_append, List.length_singleton] at h2
    exact ⟨h1, by omega⟩
  have no : ∀ j, 100 ≤ j → j < 300 → look h1 j = none := fun j g1 g2 => by
    cases hl : look h1 j with
    | none => rfl
    | some b => have := hkeys j b hl; omega
  refine Wk_reG (fun j => if j = 100 + Y.length then some src else some j) he hh (fun j b hb => ?_) (fun j j' p hj hj' hs hs' => ?_) (fun j hj => ?_) (fun j p hj hp => ?_) (fun t c ht j hj => hev t c ht j (dom j hj).1 (dom j hj).2) (fun id b hb j hj => hbv id b hb j (dom j hj).1 (dom j hj).2)
  · have hx := (famE_in hb).2.2
    have hd := dom j (by rw [hb]; rfl)
    rcases famE_snoc _ _ _ _ _ hb with h1 | ⟨h1, h2⟩
    · have := famE_in h1
      exact ⟨j, by rw [if_neg (by omega)], hG j b h1, hx, by omega⟩
    · exact ⟨src, by rw [if_pos h1], by rw [h6, h2], hx, by omega⟩
  · have d1 := dom j hs
    have d2 := dom j' hs'
    split at hj <;> split at hj' <;> cases hj <;> injection hj' with hj' <;> omega
  · exact no j (dom j hj).1 (dom j hj).2
  · have d1 := dom j hj
    split at hp
    · cases hp; exact hks
    · cases hp; exact no j d1.1 d1.2
theorem look_memF {α : Type} {l : List (Nat × α)} {t : Nat} {c : α} (h : look l t = some c) : (t, c) ∈ l := by
  induction l with
  | nil => cases h
  | cons p r ih =>
    obtain ⟨k, d⟩ := p
    by_cases hk : k = t
    · subst hk; rw [look_cons_same] at h; cases h; exact List.mem_cons_self ..
    · rw [look_cons_ne _ _ hk] at h; exact List.mem_cons_of_mem _ (ih h)
set_option linter.unusedSimpArgs false
attribute [local irreducible] AWp AOps AQ AYield AEff ACall AWk AAny AAt AThen AIn APost NoPanic
theorem entriesFnR_A (x : Ent) (b : Option Addr) (c : Nat) (l : List EntR) (hn : l.length ≤ 1000000) : ACall Tryz.prog 19 [entRA ⟨x, .slice b x.hs.length c⟩, .ptr 1000 0] [(1000, .var [.row 950]), (950, entRB l)] (fun c' h => c' = .tup [] ∧ h = [(1000, .var [.row 950]), (950, entRB (if liveE x then l ++ [⟨x, .slice b x.hs.length c⟩] else l))]) := by
  obtain ⟨⟨pa, pb⟩, y, hs⟩ := x
  unfold liveE
  dsimp only
  refine ACall_of tabOk Tryz.func19 rfl Tryz.ntmps19 (congrArg Array.toList Tryz.results19) (by kernel_rfl) rfl ?_
  cases y with
  | true =>
    rw [show (true || decide (0 < hs.length)) = true from rfl, if_pos rfl]
    repeat (first | refine q_Z ?_ | ((first | apply O_y rfl rfl rfl | apply Q_y rfl rfl rfl); (first | exact q_A | exact q_5 | exact q_B | (exact R_lenS tabOk rfl rfl rfl))) | refine q_d ?_ | refine q_a ?_ | refine q_b ?_ | refine q_c ?_ | refine A_ct rfl ?_ | refine A_cf rfl ?_ | refine q_W ?_ | (first | refine O_appR tabOk rfl rfl rfl rfl rfl rfl rfl rfl rfl rfl rfl (by first | exact Src.row rfl | exact Src.dat _ _ | exact Src.nil) rfl (by omega) ?_ | refine O_appN tabOk rfl rfl rfl rfl rfl rfl rfl rfl rfl rfl (by first | exact Src.row rfl | exact Src.dat _ _ | exact Src.nil) rfl (by omega) ?_))
    exact X_endW AWk.refl rfl (h2 := [(1000, .var [.row 950]), (950, entRB (l ++ [⟨⟨⟨pa, pb⟩, true, hs⟩, .slice b hs.length c⟩]))]) ⟨rfl, row_eq (by simp) (by simp [entRD]) rfl, trivial⟩ ⟨rfl, rfl⟩
  | false =>
    by_cases h0 : 0 < hs.length
    · rw [show (false || decide (0 < hs.length)) = true by simp [h0], if_pos rfl]
      repeat (first | refine q_Z ?_ | ((first | apply O_y rfl rfl rfl | apply Q_y rfl rfl rfl); (first | exact q_A | exact q_5 | exact q_B | (exact R_lenS tabOk rfl rfl rfl))) | refine q_d ?_ | refine q_a ?_ | refine q_b ?_ | refine q_c ?_ | refine A_ct rfl ?_ | refine A_cf rfl ?_ | refine q_W ?_ | (first | refine O_appR tabOk rfl rfl rfl rfl rfl rfl rfl rfl rfl rfl rfl (by first | exact Src.row rfl | exact Src.dat _ _ | exact Src.nil) rfl (by omega) ?_ | refine O_appN tabOk rfl rfl rfl rfl rfl rfl rfl rfl rfl rfl (by first | exact Src.row rfl | exact Src.dat _ _ | exact Src.nil) rfl (by omega) ?_))
      exact X_endW AWk.refl rfl (h2 := [(1000, .var [.row 950]), (950, entRB (l ++ [⟨⟨⟨pa, pb⟩, false, hs⟩, .slice b hs.length c⟩]))]) ⟨rfl, row_eq (by simp) (by simp [entRD]) rfl, trivial⟩ ⟨rfl, rfl⟩
    · rw [show (false || decide (0 < hs.length)) = false by simp [h0], if_neg (by simp)]
      repeat (first | refine q_Z ?_ | ((first | apply O_y rfl rfl rfl | apply Q_y rfl rfl rfl); (first | exact q_A | exact q_5 | exact q_B | (exact R_lenS tabOk rfl rfl rfl))) | refine q_d ?_ | refine q_a ?_ | refine q_b ?_ | refine q_c ?_ | refine A_ct rfl ?_ | refine A_cf rfl ?_ | refine q_W ?_ | (first | refine O_appR tabOk rfl rfl rfl rfl rfl rfl rfl rfl rfl rfl rfl (by first | exact Src.row rfl | exact Src.dat _ _ | exact Src.nil) rfl (by omega) ?_ | refine O_appN tabOk rfl rfl rfl rfl rfl rfl rfl rfl rfl rfl (by first | exact Src.row rfl | exact Src.dat _ _ | exact Src.nil) rfl (by omega) ?_))
      exact X_endW AWk.refl rfl (h2 := [(1000, .var [.row 950]), (950, entRB l)]) ⟨rfl, rfl, trivial⟩ ⟨rfl, rfl⟩
end Go.Proofs.YtenolkolkpfjgaaGreat.Ab

namespace Go.Proofs.YtenolkolkpfjgaaGreat.Ab.V
set_option linter.unusedVariables false
set_option maxRecDepth 100000
open Go.RowKit Go.Lib
def uE (E : List Ent) : Nat → Int := fun j => ((E.countP fun x => decide (x.p.b.toNat = j) : Nat) : Int)
def mE (E : List Ent) : List (Pfx × Ent) := E.map fun x => (x.p, x)
theorem uE_snoc (E : List Ent) (x : Ent) : bump (uE E) x.p.b.toNat 1 = uE (E ++ [x]) := by
  funext j
  unfold bump uE
  rw [List.countP_append, List.countP_singleton]
  by_cases h : j = x.p.b.toNat
  · rw [if_pos h, if_pos (by simpa using h.symm)]; rfl
  · rw [if_neg h, if_neg (by simpa using fun e => h e.symm)]; rfl
theorem uE_bd (E : List Ent) (j : Nat) : 0 ≤ uE E j ∧ uE E j ≤ E.length := by
  unfold uE
  have : E.countP (fun x => decide (x.p.b.toNat = j)) ≤ E.length := List.countP_le_length
  omega
theorem mE_keys (E : List Ent) : (mE E).map (·.1) = E.map (·.p) := by unfold mE; rw [List.map_map]; rfl
theorem mE_get {E : List Ent} (hn : (E.map (·.p)).Nodup) {x : Ent} (hx : x ∈ E) : aget (mE E) x.p = some x := aget_of_mem (by rw [mE_keys]; exact hn) (List.mem_map.2 ⟨x, hx, rfl⟩)
theorem mE_of {E : List Ent} {p : Pfx} {x : Ent} (h : aget (mE E) p = some x) : x ∈ E ∧ x.p = p := by
  obtain ⟨y, hy, he⟩ := List.mem_map.1 (mem_of_aget h)
  cases he
  exact ⟨hy, rfl⟩
theorem mE_put {E : List Ent} (hn : (E.map (·.p)).Nodup) (k : Nat) (h : k < E.length) : aget (mE (E.take k)) E[k].p = none ∧ Go.Proofs.YtenolkolkpfjgaaGreat.aput (mE (E.take k)) E[k].p E[k] = mE (E.take (k + 1)) := by
  have h1 : aget (mE (E.take k)) E[k].p = none := by
    cases hg : aget (mE (E.take k)) E[k].p with
    | none => rfl
    | some x =>
      obtain ⟨h2, h3⟩ := mE_of hg
      obtain ⟨i, hi, hx⟩ := List.mem_iff_getElem.1 h2
      rw [List.length_take] at hi
      have hpw := List.pairwise_iff_getElem.1 hn i k (by rw [List.length_map]; omega) (by rw [List.length_map]; exact h) (by omega)
      rw [List.getElem_map, List.getElem_map] at hpw
      rw [List.getElem_take] at hx
      exact absurd (by rw [hx]; exact h3) hpw
  refine ⟨h1, ?_⟩
  unfold Go.Proofs.YtenolkolkpfjgaaGreat.aput
  unfold Go.Proofs.YtenolkolkpfjgaaGreat.aget at h1
  cases hm : Go.Proofs.YtenolkolkpfjgaaGreat.mget (mE (E.take k)) E[k].p with
  | some x => rw [hm] at h1; cases h1
  | none =>
    show mE (E.take k) ++ [(E[k].p, E[k])] = _
    rw [List.take_succ_eq_append_getElem h]
    unfold mE
    rw [List.map_append]; rfl
theorem over_memE {E : List Ent} (hn : (E.map (·.p)).Nodup) (hg : ∀ x ∈ E, Go.Proofs.YtenolkolkpfjgaaGreat.good x.p) (x : Int) (q : Pfx) : q ∈ overSE (uE E) (mE E) x 33 ↔ (∃ z, aget (mE E) q = some z) ∧ inB x q = true := by
  unfold overSE
  rw [List.mem_map]
  constructor
  · rintro ⟨b, hb, rfl⟩
    have h1 := (List.mem_filter.1 hb).2
    simp only [Bool.and_eq_true] at h1
    obtain ⟨z, hz⟩ := Option.isSome_iff_exists.1 h1.2
    refine ⟨⟨z, hz⟩, ?_⟩
    obtain ⟨h2, h3⟩ := mE_of hz
    rw [← inB_low x _ (by rw [← h3]; exact hg z h2)]
    exact decide_eq_true rfl
  · rintro ⟨⟨z, hz⟩, hin⟩
    obtain ⟨h2, h3⟩ := mE_of hz
    have hgq : Go.Proofs.YtenolkolkpfjgaaGreat.good q := by rw [← h3]; exact hg z h2
    rw [← inB_low x q hgq, decide_eq_true_eq] at hin
    have hu : 1 ≤ uE E q.b.toNat := by
      unfold uE
      have : 0 < E.countP (fun x => decide (x.p.b.toNat = q.b.toNat)) := List.countP_pos_iff.2 ⟨z, h2, by rw [h3]; simp⟩
      omega
    obtain ⟨a, b⟩ := q
    have hb0 := hgq.1
    have hb1 := hgq.2.1
    dsimp only at hb0 hb1 hin hu
    obtain ⟨B, rfl⟩ : ∃ B : Nat, b = (B : Int) := ⟨b.toNat, by omega⟩
    have hsub : sub x (B : Int) = ⟨a, (B : Int)⟩ := by
      unfold sub
      rw [hin]
    rw [Int.toNat_natCast] at hu
    refine ⟨B, List.mem_filter.2 ⟨List.mem_range.2 (by omega), ?_⟩, hsub⟩
    rw [hsub, hz]
    simp
    omega
theorem over_sortedE (u : Nat → Int) (m : List (Pfx × Ent)) (x : Int) (k : Nat) : (overSE u m x k).Pairwise fun p q => p.b < q.b := by
  unfold overSE
  rw [List.pairwise_map]
  refine List.Pairwise.imp ?_ (List.Pairwise.filter _ List.pairwise_lt_range)
  intro a b h
  show (a : Int) < (b : Int)
  omega
def ent0 : Ent := ⟨⟨0, 0⟩, false, .slice none 0 0⟩
theorem look_law {E : List Ent} (hn : (E.map (·.p)).Nodup) (hg : ∀ x ∈ E, Go.Proofs.YtenolkolkpfjgaaGreat.good x.p) (x : Int) :
    ((longRE (uE E) (mE E) x).2.2 = true ∧ (longRE (uE E) (mE E) x).2.1 ∈ E ∧ inB x (longRE (uE E) (mE E) x).2.1.p = true ∧ ∀ y ∈ E, inB x y.p = true → y.p.b ≤ (longRE (uE E) (mE E) x).2.1.p.b) ∨
    ((longRE (uE E) (mE E) x).2.2 = false ∧ (longRE (uE E) (mE E) x).2.1 = ent0 ∧ ∀ y ∈ E, inB x y.p = false) := by
  have inO : ∀ y ∈ E, inB x y.p = true → y.p ∈ overSE (uE E) (mE E) x 33 := fun y hy hi => (over_memE hn hg x y.p).2 ⟨⟨y, mE_get hn hy⟩, hi⟩
  unfold longRE
  cases hL : (overSE (uE E) (mE E) x 33).getLast? with
  | none =>
    have h0 : overSE (uE E) (mE E) x 33 = [] := List.getLast?_eq_none_iff.1 hL
    refine .inr ⟨rfl, rfl, fun y hy => ?_⟩
    cases hi : inB x y.p with
    | false => rfl
    | true => have := inO y hy hi; rw [h0] at this; cases this
  | some p =>
    obtain ⟨⟨v, hv⟩, hin⟩ := (over_memE hn hg x p).1 (List.mem_of_getLast? hL)
    obtain ⟨h2, h3⟩ := mE_of hv
    dsimp only
    rw [hv]
    refine .inl ⟨rfl, h2, by show inB x v.p = true; rw [h3]; exact hin, fun y hy hi => ?_⟩
    show y.p.b ≤ v.p.b
    rw [h3]
    exact long_mostR (over_sortedE _ _ _ _) hL (inO y hy hi)
def toV (y : EntR) : Ent := ⟨y.x.p, y.x.x, y.v⟩
abbrev vE (Y : List EntR) : List Ent := Y.map toV
theorem vE_p (Y : List EntR) : (vE Y).map (·.p) = (Y.map (·.x)).map (·.p) := by rw [List.map_map, List.map_map]; rfl
theorem vE_flat (Y : List EntR) : (vE Y).flatMap entD = Y.flatMap entRD := by rw [List.flatMap_map]; rfl
end Go.Proofs.YtenolkolkpfjgaaGreat.Ab.V

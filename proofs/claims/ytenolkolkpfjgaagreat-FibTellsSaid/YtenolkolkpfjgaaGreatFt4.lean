/-
  Texts of a proof, one behind the other (part 5).
-/
import Derived.Test.YtenolkolkpfjgaaGreatFt1
import Derived.Test.YtenolkolkpfjgaaGreatFt3
set_option linter.unusedVariables false
set_option linter.unusedSimpArgs false
namespace Go.Proofs.YtenolkolkpfjgaaGreat.Ab
set_option linter.unusedVariables false
set_option maxRecDepth 100000
open Go.RowKit

def raw1 (ρ : Nat → Value) : AVal → AVal
  | .row id => .d (.sc (ρ id))
  | .d x => .d x
  | _ => .top
def rawB (ρ : Nat → Value) (id : Nat) : ABlk → ABlk
  | .row e k n cs => .rowx (ρ id) e k n cs
  | b => b
def rawH (ρ : Nat → Value) : Heap → Heap
  | [] => []
  | (id, b) :: r => (id, rawB ρ id b) :: rawH ρ r
theorem look_rawH (ρ : Nat → Value) (h : Heap) (t : Nat) : look (rawH ρ h) t = (look h t).map (rawB ρ t) := by
  induction h with
  | nil => rfl
  | cons p r ih =>
    obtain ⟨id, b⟩ := p
    by_cases hp : id = t
    · subst hp
      rw [rawH, look_cons_same, look_cons_same]; rfl
    · rw [rawH, look_cons_ne _ _ hp, look_cons_ne _ _ hp, ih]
section
variable {P : Program} {Pm F : Nat → Prop} {w0 w : World} {pin ι : Nat → Option Value} {h : Heap}
theorem HRel.raw (H : HRel Pm F w0 pin ι h w) (ρ : Nat → Value) (hρ : ∀ id v, ι id = some v → ρ id = v) : HRel Pm F w0 pin ι (rawH ρ h) w := by
  refine ⟨fun id b hb => ?_, fun id v hv => ?_, H.inj, H.pm, H.os, H.tape, H.output, H.size, H.keep, H.fresh, H.pinned, H.nf, H.forb⟩
  · rw [look_rawH] at hb
    cases hl : look h id with
    | none => simp [hl] at hb
    | some b0 =>
      simp [hl] at hb
      subst hb
      obtain ⟨v, hv, hB⟩ := H.blk id b0 hl
      refine ⟨v, hv, ?_⟩
      cases b0 with
      | row e k n cs => exact ⟨(hρ id v hv).symm, hB⟩
      | _ => exact hB
  · obtain ⟨b, hb⟩ := H.dom id v hv
    exact ⟨rawB ρ id b, by rw [look_rawH, hb]; rfl⟩
theorem raw1_rel (H : HRel Pm F w0 pin ι h w) (ρ : Nat → Value) (hρ : ∀ id v, ι id = some v → ρ id = v) {c : AVal} {u : Value} (hin : ∀ id, c = .row id → (look h id).isSome = true) (hc : VRel w F ι c u) : VRel w F ι (raw1 ρ c) u := by
  cases c with
  | row id =>
    obtain ⟨b, hb⟩ := Option.isSome_iff_exists.1 (hin id rfl)
    obtain ⟨v, hv, _⟩ := H.blk id b hb
    cases hc with
    | row _ _ h1 h2 =>
      have := h2 v hv
      subst this
      show VRel w F ι (.d (.sc (ρ id))) u
      rw [hρ id u hv]
      exact .d _ _ (.sc u h1)
  | d x => exact hc
  | _ => exact .top u
theorem ACall.raw {f : FuncId} {args cs : List AVal} {h0 : Heap} (H : ACall P f args h (fun c h' => c = .agg cs ∧ h' = h0)) (hin : ∀ id, AVal.row id ∈ cs → (look h0 id).isSome = true) :
    ACall P f args h (fun c h' => ∃ ρ : Nat → Value, c = .agg (cs.map (raw1 ρ)) ∧ h' = rawH ρ h0) :=
  ⟨H.1, fun Pm F w0 pin ι us w a b => (H.2 Pm F w0 pin ι us w a b).mono fun x w' ⟨u, c, h', ι', h2, h3, h4, h5⟩ => by
    obtain ⟨rfl, rfl⟩ := h3
    have hρ : ∀ id v, ι' id = some v → ((ι' id).getD undef) = v := fun id v hv => by rw [hv]; rfl
    refine ⟨u, _, _, ι', h2, ⟨fun id => (ι' id).getD undef, rfl, rfl⟩, h4.raw _ hρ, ?_⟩
    cases h5 with
    | agg _ C hl hh =>
      refine .agg _ C (by rw [hl, List.length_map]) fun i c u h1 h2 => ?_
      rw [List.getElem?_map] at h1
      cases h3 : cs[i]? with
      | none => rw [h3] at h1; cases h1
      | some c0 =>
        rw [h3] at h1
        cases h1
        exact raw1_rel h4 _ hρ (fun id he => hin id (by subst he; exact List.mem_of_getElem? h3)) (hh i c0 u h3 h2)⟩
end

inductive RawD (h : Heap) : Dat → Dat → Prop where
  | same (x : Dat) : RawD h x x
  | row (hv : Value) (id : Nat) (e : TypeId) (k n : Nat) (cs : List Dat) (hb : look h id = some (.rowx hv e k n cs)) : RawD h (.sc hv) (.sl cs n)
def RawDs (h : Heap) (cs cs' : List Dat) : Prop := cs'.length = cs.length ∧ ∀ (i : Nat) (c c' : Dat), cs[i]? = some c → cs'[i]? = some c' → RawD h c c'
theorem RawDs.nil (h : Heap) : RawDs h [] [] := ⟨rfl, fun i c c' h => by simp at h⟩
theorem RawDs.cons {h : Heap} {c c' : Dat} {cs cs' : List Dat} (h1 : RawD h c c') (h2 : RawDs h cs cs') : RawDs h (c :: cs) (c' :: cs') :=
  ⟨by simp [h2.1], fun i x y hx hy => by
    cases i with
    | zero => simp at hx hy; subst hx hy; exact h1
    | succ i => exact h2.2 i x y (by simpa using hx) (by simpa using hy)⟩
theorem RawDs.app {h : Heap} {cs cs' ds ds' : List Dat} (h1 : RawDs h cs cs') (h2 : RawDs h ds ds') : RawDs h (cs ++ ds) (cs' ++ ds') :=
  ⟨by simp [h1.1, h2.1], fun i x y hx hy => by
    rw [List.getElem?_append] at hx hy
    rw [h1.1] at hy
    split at hx
    · rename_i hl; rw [if_pos hl] at hy; exact h1.2 _ _ _ hx hy
    · rename_i hl; rw [if_neg hl] at hy; exact h2.2 _ _ _ hx hy⟩
inductive All2 {α β : Type} (R : α → β → Prop) : List α → List β → Prop where
  | nil : All2 R [] []
  | cons {a : α} {b : β} {l : List α} {m : List β} (h1 : R a b) (h2 : All2 R l m) : All2 R (a :: l) (b :: m)
inductive RawV (h : Heap) : AVal → AVal → Prop where
  | same (c : AVal) : RawV h c c
  | d (x y : Dat) (hd : RawD h x y) : RawV h (.d x) (.d y)
  | agg (cs cs' : List Dat) (hd : RawDs h cs cs') : RawV h (.agg (cs.map .d)) (.agg (cs'.map .d))
  | row (id e k n : Nat) (cs cs' : List Dat) (hb : look h id = some (.row e k n cs)) (hd : RawDs h cs cs') : RawV h (.row id) (.d (.sl cs' n))
inductive RawL (h : Heap) : List AVal → List AVal → Prop where
  | nil : RawL h [] []
  | cons {c c' : AVal} {cs cs' : List AVal} (h1 : RawV h c c') (h2 : RawL h cs cs') : RawL h (c :: cs) (c' :: cs')
section
variable {Pm F : Nat → Prop} {w0 w : World} {pin ι : Nat → Option Value} {h : Heap}
theorem rowR_lend {el k n : Nat} {ds : List Dat} {v : Value} (h : RowR w F ι el k n ds v) : DRel w (FreeB (fun _ => False) (fun _ => none)) (.sl ds n) v := by
  obtain ⟨xs, hown, hl, hr⟩ := h
  rcases hown.2 with ⟨h3, h4⟩ | ⟨g, cap, cur, h3, _, hg, hn, _, hs, ht⟩
  · subst h3 h4
    have hx := hown.1
    rw [Nat.zero_mul] at hx
    have : ds = [] := List.length_eq_zero_iff.1 (by omega)
    subst this
    exact .nil
  · subst h3
    refine .sl ds n g 0 cap xs hn hl (fun _ => FreeB.all g) (fun i x hx => ?_) fun i c x h5 h6 => (hr i c x h5 h6).ext (fun _ _ _ => rfl) fun r _ _ => FreeB.all r
    rw [← ht, List.getElem?_take] at hx
    split at hx
    · simp only [World.cell?, hg]
      simpa using hx
    · cases hx
theorem rawD_rel (H : HRel Pm F w0 pin ι h w) {x y : Dat} {u : Value} (hd : RawD h x y) (hx : DRel w (FreeB F ι) x u) : DRel w (FreeB (fun _ => False) (fun _ => none)) y u := by
  cases hd with
  | same => exact hx.ext (fun _ _ _ => rfl) fun r _ _ => FreeB.all r
  | row hv id e k n cs hb =>
    cases hx with
    | sc _ h1 =>
      obtain ⟨v, hv, hB⟩ := H.blk id _ hb
      obtain ⟨rfl, hB⟩ := hB
      exact rowR_lend hB
theorem raw_rel (H : HRel Pm F w0 pin ι h w) {c c' : AVal} {u : Value} (hr : RawV h c c') (hc : VRel w F ι c u) : VRel w (fun _ => False) (fun _ => none) c' u := by
  cases hr with
  | same => exact hc.extF ⟨fun _ _ _ => rfl, fun r _ _ => FreeB.all r⟩ fun _ _ _ h => by cases h
  | d x y hd => cases hc with | d _ _ hx => exact .d _ _ (rawD_rel H hd hx)
  | agg cs cs' hd =>
    cases hc with
    | agg _ C hl hh =>
      refine .agg _ C (by rw [hl, List.length_map, List.length_map, hd.1]) fun i c u h1 h2 => ?_
      rw [List.getElem?_map] at h1
      cases h3 : cs'[i]? with
      | none => rw [h3] at h1; cases h1
      | some c0 =>
        rw [h3] at h1
        cases h1
        have hlt : i < cs.length := by rw [← hd.1]; exact (List.getElem?_eq_some_iff.1 h3).1
        have hci := List.getElem?_eq_getElem hlt
        have := hh i (.d cs[i]) u (by rw [List.getElem?_map, hci]; rfl) h2
        cases this with
        | d _ _ hx => exact .d _ _ (rawD_rel H (hd.2 i _ _ hci h3) hx)
  | row id e k n cs cs' hb hd =>
    obtain ⟨v, hv, xs, hown, hl, hr⟩ := H.blk id _ hb
    cases hc with
    | row _ _ h1 h2 =>
      have := h2 v hv
      subst this
      rcases hown.2 with ⟨h3, h4⟩ | ⟨g, cap, cur, h3, _, hg, hn, _, hs, ht⟩
      · subst h3 h4
        have hx := hown.1
        rw [Nat.zero_mul] at hx
        have : cs' = [] := List.length_eq_zero_iff.1 (by rw [hd.1]; omega)
        subst this
        exact .d _ _ .nil
      · subst h3
        refine .d _ _ (.sl cs' n g 0 cap xs hn (by rw [hl, hd.1]) (fun _ => FreeB.all g) (fun i x hx => ?_) fun i c x h5 h6 => ?_)
        · rw [← ht, List.getElem?_take] at hx
          split at hx
          · simp only [World.cell?, hg]
            simpa using hx
          · cases hx
        · have hlt : i < cs.length := by rw [← hd.1]; exact (List.getElem?_eq_some_iff.1 h5).1
          have hci := List.getElem?_eq_getElem hlt
          exact rawD_rel H (hd.2 i _ _ hci h5) (hr i _ x hci h6)
theorem args_raw (H : HRel Pm F w0 pin ι h w) : ∀ {cs cs' : List AVal} {us : List Value}, RawL h cs cs' → us.length = cs.length → (∀ (i : Nat) (c : AVal) (u : Value), cs[i]? = some c → us[i]? = some u → VRel w F ι c u) →
    us.length = cs'.length ∧ ∀ (i : Nat) (c : AVal) (u : Value), cs'[i]? = some c → us[i]? = some u → VRel w (fun _ => False) (fun _ => none) c u
  | _, _, us, .nil, h1, _ => ⟨h1, fun i c u h => by simp at h⟩
  | _, _, us, .cons hv hl, h1, h2 => by
    cases us with
    | nil => simp at h1
    | cons u us =>
      obtain ⟨h3, h4⟩ := args_raw H hl (us := us) (by simpa using h1) fun i c u a b => h2 (i + 1) c u (by simpa using a) (by simpa using b)
      refine ⟨by simp [h3], fun i c x a b => ?_⟩
      cases i with
      | zero => simp at a b; subst a b; exact raw_rel H hv (h2 0 _ _ rfl rfl)
      | succ i => exact h4 i c x (by simpa using a) (by simpa using b)
theorem argsR (H : HRel Pm F w0 pin ι h w) {cs cs' : List AVal} {us : Array Value} (hr : RawL h cs cs') (A : ArgsRel w F ι cs us) : ArgsRel w (fun _ => False) (fun _ => none) cs' us := by
  obtain ⟨h1, h2⟩ := args_raw H hr (us := us.toList) (by simpa using A.1) fun i c u a b => A.2 i c u a (by simpa using b)
  exact ⟨by simpa using h1, fun i c u a b => h2 i c u a (by simpa using b)⟩
end
section
variable {P : Program} {nt : Nat} {Q : Post} {e : Env} {h : Heap} {ops : Array Oper} {o : Oper} {rest : List Oper} {T : List Nat} {tab : TTab} {fuel i : Nat} {listed : Array Bool}
theorem E_cR {f : FuncId} {args : Array Operand} {ats : Array TypeId} {cs cs' : List AVal} {d : Option Tmp} {c : AVal} {v : Value} (hr : RawL h cs cs') (ho : o.op = .call { callee := .value (.func f), args := args, argTypes := ats }) (hdst : o.dst = d) (hx : aevs e args.toList = some cs)
    (H : ACall P f cs' [] (fun c' h' => c' = c ∧ h' = [])) (hd : dstOk nt d = true) (hc : valA c = some v) (hrel : ∀ w F ι, VRel w F ι c v) : AEff P nt T e h o (fun e' h' => e' = aput d c e ∧ h' = h) := fun Pm F w0 pin ι a w R K Qx hK => by
  unfold Oper.wp
  rw [run_callA H.1 ho, Oper.upon_enter, hdst]
  refine (H.2 _ _ w _ _ _ w (HRel.none (fun _ => False) w (fun _ h => h.elim)) (argsR R.heap hr (args_of R.env hx))).mono ?_
  rintro x w' ⟨u, c', h', ι', rfl, ⟨rfl, rfl⟩, hH, hv⟩
  have := valA_rel hv hc
  subst this
  have G := hH.grewC
  exact hK ι _ _ _ w' ⟨rfl, rfl⟩ ((R.grew G).put hd (hrel _ _ _)) ⟨G.ct T, fun id _ v r h1 h2 _ => ⟨v, h1, h2⟩⟩ (put_defers _ _ _)
theorem O_cR {f : FuncId} {args : Array Operand} {ats : Array TypeId} {cs cs' : List AVal} {c : AVal} {v : Value} {d : Nat} (hr : RawL h cs cs') (H : ACall P f cs' [] (fun c' h' => c' = c ∧ h' = [])) (hw : awant ops e o = some true) (hdst : o.dst = some d) (hd : Nat.blt d nt = true) (ho : o.op = .call { callee := .value (.func f), args := args, argTypes := ats }) (hx : aevs e args.toList = some cs)
    (hc : valA c = some v) (hrel : ∀ w F ι, VRel w F ι c v) (HK : AOps P nt ops Q rest ((d, c) :: e) h) : AOps P nt ops Q (o :: rest) e h :=
  O_eff (T := []) hw (E_cR hr ho hdst hx H hd hc hrel) fun e' h' ⟨h1, h2⟩ => by subst h1 h2; exact HK
def plainD : Dat → Bool
  | .sc _ => true
  | _ => false
def plainB : ABlk → Bool
  | .row _ _ _ cs => cs.all plainD
  | .rowx _ _ _ _ cs => cs.all plainD
  | _ => false
def plainV1 : AVal → Bool
  | .row _ => true
  | .d x => plainD x
  | _ => false
def plainV : AVal → Bool
  | .tup cs => cs.all plainV1
  | .agg cs => cs.all plainV1
  | c => plainV1 c
theorem DRel.plain {w : World} {Fr Fr' : Nat → Prop} {x : Dat} {u : Value} (hp : plainD x = true) (h : DRel w Fr x u) : DRel w Fr' x u := by
  cases h with
  | sc _ h => exact .sc _ h
  | _ => cases hp
theorem VRel.plain1 {w : World} {F F' : Nat → Prop} {ι : Nat → Option Value} {c : AVal} {u : Value} (hp : plainV1 c = true) (h : VRel w F ι c u) : VRel w F' ι c u := by
  cases h with
  | row id u h1 h2 => exact .row id u h1 h2
  | d x u h => exact .d x u (DRel.plain hp h)
  | _ => cases hp
theorem VRel.plain {w : World} {F F' : Nat → Prop} {ι : Nat → Option Value} {c : AVal} {u : Value} (hp : plainV c = true) (h : VRel w F ι c u) : VRel w F' ι c u := by
  cases h with
  | tup cs C hl hh => exact .tup cs C hl fun i c u h1 h2 => (hh i c u h1 h2).plain1 (List.all_eq_true.1 hp c (List.mem_of_getElem? h1))
  | agg cs C hl hh => exact .agg cs C hl fun i c u h1 h2 => (hh i c u h1 h2).plain1 (List.all_eq_true.1 hp c (List.mem_of_getElem? h1))
  | row id u h1 h2 => exact .row id u h1 h2
  | d x u h => exact .d x u (DRel.plain hp h)
  | _ => cases hp
theorem RowR.plain {w : World} {F F' : Nat → Prop} {ι ι' : Nat → Option Value} {e k n : Nat} {cs : List Dat} {v : Value} (hp : cs.all plainD = true) (h : RowR w F ι e k n cs v) : RowR w F' ι' e k n cs v := by
  obtain ⟨xs, h1, h2, h3⟩ := h
  exact ⟨xs, h1, h2, fun i c u a b => DRel.plain (List.all_eq_true.1 hp c (List.mem_of_getElem? a)) (h3 i c u a b)⟩
theorem BRel.plain {w : World} {F F' : Nat → Prop} {ι ι' : Nat → Option Value} {b : ABlk} {v : Value} (hp : plainB b = true) (h : BRel w F ι b v) : BRel w F' ι' b v := by
  cases b with
  | row e k n cs => exact RowR.plain hp h
  | rowx hv e k n cs => exact ⟨h.1, h.2.plain hp⟩
  | _ => cases hp
theorem E_cRN {f : FuncId} {args : Array Operand} {ats : Array TypeId} {cs cs' : List AVal} {d : Option Tmp} {Q : AVal → Heap → Prop} (hr : RawL h cs cs') (ho : o.op = .call { callee := .value (.func f), args := args, argTypes := ats }) (hdst : o.dst = d) (hx : aevs e args.toList = some cs)
    (H : ACall P f cs' [] Q) (hd : dstOk nt d = true) (hq : ∀ c h', Q c h' → (h'.map (·.1)).all (fun j => Nat.blt j 1000) = true ∧ plainV c = true ∧ (∀ id b, look h' id = some b → plainB b = true) ∧ ∀ j, c.has j = true → (look h' j).isSome = true) :
    AEff P nt T e h o (fun e' h2 => ∃ c h', Q c h' ∧ e' = aput d c (killEs (h'.map (·.1)) e) ∧ h2 = h' ++ killHs (h'.map (·.1)) h) := fun Pm F w0 pin ι a w R K Qx hK => by
  unfold Oper.wp
  rw [run_callA H.1 ho, Oper.upon_enter, hdst]
  have hF : ∀ r, Fc F ι r → r < w.heap.size := fun r hr => hr.elim (fun h1 => Nat.lt_of_lt_of_le (R.heap.forb r h1) R.heap.size) fun ⟨id, v, h1, h2⟩ => R.heap.lt h1 h2
  refine (H.2 _ _ w _ _ _ w (HRel.none (fun _ => False) w (fun _ h => h.elim)) (argsR R.heap hr (args_of R.env hx))).mono ?_
  rintro x w' ⟨u, c, h', ι', rfl, hQ, hH, hv⟩
  obtain ⟨h1, h2, h3, h4⟩ := hq c h' hQ
  have hH2 : HRel (fun r => w.heap.size ≤ r) (Fc F ι) w (fun _ => none) ι' h' w' :=
    ⟨fun id b hb => let ⟨v, hv, hB⟩ := hH.blk id b hb; ⟨v, hv, hB.plain (h3 id b hb)⟩, hH.dom, hH.inj, hH.pm, hH.os, hH.tape, hH.output, hH.size, hH.keep, hH.fresh, hH.pinned,
      fun i v r hi hb hF' => by have := hH.pm i v r hi hb; have := hF r hF'; omega, hF⟩
  obtain ⟨ι2, hR, hC⟩ := R.called (T := T) hH2 (hv.plain h2) h1 (fun id b j hb hj => by
    have := h3 id b hb
    cases b <;> first | (cases this; done) | (simp [blkHas] at hj)) h4 hd
  exact hK _ _ _ _ _ ⟨c, h', hQ, rfl, rfl⟩ hR hC (put_defers _ _ _)
theorem O_cRN {α : Type} {Φ : α → Prop} {C : α → AVal} {H1 : α → Heap} {f : FuncId} {args : Array Operand} {ats : Array TypeId} {cs cs' : List AVal} {d : Nat} (hr : RawL h cs cs') (H : ACall P f cs' [] (fun c' h' => ∃ x, Φ x ∧ c' = C x ∧ h' = H1 x))
    (hq : ∀ x, Φ x → ((H1 x).map (·.1)).all (fun j => Nat.blt j 1000) = true ∧ plainV (C x) = true ∧ (∀ id b, look (H1 x) id = some b → plainB b = true) ∧ ∀ j, (C x).has j = true → (look (H1 x) j).isSome = true)
    (hw : awant ops e o = some true) (hdst : o.dst = some d) (hd : Nat.blt d nt = true) (ho : o.op = .call { callee := .value (.func f), args := args, argTypes := ats }) (hx : aevs e args.toList = some cs)
    (HK : ∀ x, Φ x → AOps P nt ops Q rest ((d, C x) :: killEs ((H1 x).map (·.1)) e) (H1 x ++ killHs ((H1 x).map (·.1)) h)) : AOps P nt ops Q (o :: rest) e h :=
  O_eff (T := []) hw (E_cRN (d := some d) hr ho hdst hx H hd fun c' h' ⟨x, hΦ, q1, q2⟩ => by subst q1 q2; exact hq x hΦ) fun e' h' ⟨c', h2, ⟨x, hΦ, q1, q2⟩, q3, q4⟩ => by subst q1 q2 q3 q4; exact HK x hΦ
end
end Go.Proofs.YtenolkolkpfjgaaGreat.Ab

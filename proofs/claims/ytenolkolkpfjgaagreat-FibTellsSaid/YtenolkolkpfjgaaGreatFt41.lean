/-
  Texts of a proof, one behind the other (part 42).
-/
import Derived.Test.YtenolkolkpfjgaaGreatRows
import Derived.ProofKit
import Derived.SizedLaws
import Derived.JoinedCond
import Derived.Deep.CondSized
import Derived.Test.YtenolkolkpfjgaaGreatProg
import Derived.Deep.Slices
import Derived.Test.YtenolkolkpfjgaaGreatFt0
import Derived.Test.YtenolkolkpfjgaaGreatFt5
import Derived.Test.YtenolkolkpfjgaaGreatFt8
import Derived.Test.YtenolkolkpfjgaaGreatFt15
import Derived.Test.YtenolkolkpfjgaaGreatFt19
import Derived.Test.YtenolkolkpfjgaaGreatFt26
set_option linter.unusedVariables false
set_option linter.unusedSimpArgs false
namespace Go.Proofs.YtenolkolkpfjgaaGreat.Ab
set_option linter.unusedVariables false
set_option maxRecDepth 100000
open Go.RowKit Go.Lib
def awR1 : Rte := ⟨⟨167772160, 24⟩, 1, 0, 0, 0, [101, 48], 0, false⟩
def awR2 : Rte := ⟨⟨167837696, 16⟩, 2, 0, 0, 0, [], 167772169, false⟩
def awL : List Rte := [awR1, awR2]
theorem aw_long1 : longL awL 167772169 = [awR1] := by kernel_rfl
theorem aw_led1 : ledH awL awR1 = [⟨[101, 48], 0⟩] := by unfold ledH; rw [if_neg (by decide), if_pos (by decide)]; rfl
theorem aw_led : ledH awL awR2 = [⟨[101, 48], 167772169⟩] := by
  have h1 : ∀ {s}, Led awL awR2 s → s = awR2 := fun {s} h => by
    induction h with
    | refl => rfl
    | step h hq ho ih =>
      subst ih
      rw [show awR2.h = 167772169 from rfl, aw_long1] at hq
      simp at hq; subst hq; cases ho
  refine (ledH_of (O := [⟨[101, 48], 167772169⟩]) rfl rfl fun x => ?_).symm.trans (by kernel_rfl)
  constructor
  · intro h
    simp at h; subst h
    exact ⟨awR2, awR1, .refl, by rw [show awR2.h = 167772169 from rfl, aw_long1]; simp, rfl, rfl⟩
  · rintro ⟨s, q, h2, hq, ho, rfl⟩
    obtain rfl := h1 h2
    rw [show awR2.h = 167772169 from rfl, aw_long1] at hq
    simp at hq; subst hq
    exact List.mem_singleton.2 rfl
theorem aw_gp : goodP awL = [⟨167772160, 24⟩, ⟨167837696, 16⟩] := by kernel_rfl
theorem aw_ps : sortU ordP (goodP awL) = [⟨167772160, 24⟩, ⟨167837696, 16⟩] := by
  rw [aw_gp]
  exact sortU_of_rising good_ordP ordP_eq (by unfold Rising; simp; decide)
theorem aw_of1 : ofP (goodL awL) ⟨167772160, 24⟩ = [awR1] := by kernel_rfl
theorem aw_of2 : ofP (goodL awL) ⟨167837696, 16⟩ = [awR2] := by kernel_rfl
def awE1 : Ent := ⟨⟨167772160, 24⟩, false, [⟨[101, 48], 0⟩]⟩
def awE2 : Ent := ⟨⟨167837696, 16⟩, false, [⟨[101, 48], 167772169⟩]⟩
theorem aw_ents : entsE awL = [awE1, awE2] := by
  have e1 : entOf awL ⟨167772160, 24⟩ = awE1 := by
    unfold entOf
    rw [aw_of1, if_neg (by decide), List.flatMap_cons, aw_led1]
    kernel_rfl
  have e2 : entOf awL ⟨167837696, 16⟩ = awE2 := by
    unfold entOf
    rw [aw_of2, if_neg (by decide), List.flatMap_cons, aw_led]
    kernel_rfl
  unfold entsE entL
  rw [aw_ps, List.map_cons, List.map_cons, List.map_nil, e1, e2]
  simp [liveE, awE1, awE2]
set_option linter.unusedSimpArgs false
attribute [local irreducible] AWp AOps AQ AYield AEff ACall AWk AAny AAt AThen AIn APost NoPanic
set_option maxHeartbeats 8000000 in
theorem fawake_A : ACall Tryz.prog 15 [] [] (Just (boolA true)) := by
  have hok : ∀ s ∈ awL, okR s := fun s hs => by
    simp [awL] at hs
    rcases hs with rfl | rfl <;> exact ⟨⟨by decide, by decide⟩, by decide, by decide, by decide, by decide⟩
  have hh : ∀ s ∈ awL, 0 ≤ s.h ∧ s.h < 4294967296 := fun s hs => by
    simp [awL] at hs
    rcases hs with rfl | rfl <;> decide
  have hled := led_A awL awR2 hok (fun s hs => (List.mem_cons.1 hs).elim (fun h => by rw [h]; decide) fun h => hh s h) (by decide)
  have hent := entries_A awL hok hh (by decide)
  rw [aw_led] at hled
  rw [aw_ents] at hent
  refine ACall_of tabOk Tryz.func15 rfl Tryz.ntmps15 (congrArg Array.toList Tryz.results15) (by kernel_rfl) rfl ?_
  repeat (first | refine q_Z ?_ | ((first | apply O_y rfl rfl rfl | apply Q_y rfl rfl rfl); (first | exact q_A | exact q_5 | exact q_B)) | refine q_d ?_ | refine q_a ?_ | refine q_b ?_ | refine q_c ?_ | refine A_ct rfl ?_ | refine A_cf rfl ?_ | refine q_W ?_)
  refine O_weaken (Wk_freeze (id := 8) rfl) ?_
  refine O_weaken (Wk_sel (e1 := [(9, rtesA awL), (10, rtesA awL), (1, rtesA awL)]) (h1 := []) ⟨rfl, rfl, rfl, trivial⟩ trivial) ?_
  repeat (first | refine q_Z ?_ | ((first | apply O_y rfl rfl rfl | apply Q_y rfl rfl rfl); (first | exact q_A | exact q_5 | exact q_B | (exact R_index (j := 1) tabOk rfl rfl rfl rfl rfl rfl (by decide)))) | refine q_d ?_ | refine q_a ?_ | refine q_b ?_ | refine q_c ?_ | refine A_ct rfl ?_ | refine A_cf rfl ?_ | refine q_W ?_)
  refine O_weaken (Wk_sel (e1 := [(9, rtesA awL), (12, rteA awR2), (1, rtesA awL)]) (h1 := []) ⟨rfl, rfl, rfl, trivial⟩ trivial) ?_
  refine O_cRow rfl rfl rfl rfl rfl hled rfl ?_
  refine O_weaken (Wk_freeze (id := 950) rfl) ?_
  repeat (first | refine q_Z ?_ | ((first | apply O_y rfl rfl rfl | apply Q_y rfl rfl rfl); (first | exact q_A | exact q_5 | exact q_B)) | refine q_d ?_ | refine q_a ?_ | refine q_b ?_ | refine q_c ?_ | refine A_ct rfl ?_ | refine A_cf rfl ?_ | refine q_W ?_)
  refine O_weaken (Wk_sel (e1 := [(14, rtesA awL), (2, hopsA [⟨[101, 48], 167772169⟩])]) (h1 := []) ⟨rfl, rfl, trivial⟩ trivial) ?_
  refine O_cRow rfl rfl rfl rfl rfl hent rfl ?_
  refine O_weaken (Wk_freeze (id := 950) rfl) ?_
  repeat (first | refine q_Z ?_ | ((first | apply O_y rfl rfl rfl | apply Q_y rfl rfl rfl); (first | exact q_A | exact q_5 | exact q_B | (first | exact R_index (j := 0) tabOk rfl rfl rfl rfl rfl rfl (by decide) | exact Y_eq (r := true) (r2 := true) tabOk noStand rfl rfl rfl rfl rfl rfl rfl rfl rfl (by kernel_rfl) (by kernel_rfl) rfl))) | refine q_d ?_ | refine q_a ?_ | refine q_b ?_ | refine q_c ?_ | refine A_ct rfl ?_ | refine A_cf rfl ?_ | refine q_W ?_)
  exact X_ret rfl ⟨rfl, rfl⟩
end Go.Proofs.YtenolkolkpfjgaaGreat.Ab

namespace Go.Proofs.YtenolkolkpfjgaaGreat
open Go.ChangeShapes Go.WideShapes Go.ChangeAt Go.RowKit
set_option linter.unusedVariables false
set_option maxRecDepth 100000

theorem own_ : ownKnob Tryz.prog.godebug = none := by kernel_rfl
theorem laid_ : laidOutB Tryz.prog = true := by kernel_rfl

theorem trodAll_stays {H : Type} {enc : TypeId × Value → H} {P : Program} (hl : laidOutB P = true) {W W' : World} (hb : Below W.heap.size W W') :
    ∀ (ts : List TypeId) (vs : List Value) (ds : List (DataW H)) (ps : List MemPlace), (∀ t ∈ ts, P.readableRec t = true ∧ t < P.types.size) → (∀ x ∈ ps, x.block < W.heap.size) →
      DataW.TrodAll enc P W 0 (fun _ => true) true ts vs ds ps → DataW.TrodAll enc P W' 0 (fun b => decide (b < W.heap.size)) true ts vs ds ps
  | [], vs, ds, ps, _, _, h => by
    obtain ⟨rfl, rfl, rfl⟩ := trodAll_nil h
    exact trodAll_mk0
  | t :: ts, vs, ds, ps, hr, hlt, h => by
    obtain ⟨v, vs', d, ds', p, q, rfl, rfl, rfl, h1, h2⟩ := trodAll_cons h
    have hr0 := hr t (by simp)
    exact ⟨p, q, Below.trod hl hr0.1 hr0.2 h1 hb (fun x hx => hlt x (by simp [hx])), trodAll_stays hl hb ts vs' ds' q (fun t' h' => hr t' (by simp [h'])) (fun x hx => hlt x (by simp [hx])) h2, rfl⟩

theorem law_post {H : Type} {enc : TypeId × Value → H} {P : Program} {f : Func} {s : ChangeSpec} {W W' : World} {args : Array Value} {ds gs : List (DataW H)} {before : List MemPlace} {tb : TypeId}
    (hrt : f.resultTypes = #[tb]) (hub : P.underlying tb = some .bool) (hv : s.vars = []) (hres : (s.fn H (ds ++ gs)).results = [.lit (.bool true)]) (hargs : (s.fn H (ds ++ gs)).args = ds) (hvs : (s.fn H (ds ++ gs)).vars = [])
    (hl : laidOutB P = true) (hr : ∀ t ∈ f.params.toList, P.readableRec t = true ∧ t < P.types.size)
    (hW : DataW.Whole enc P f.params.toList s.vars false W args.toList ds gs before) (hb : Below W.heap.size W W') : s.post enc P f false true false false W args (.bool true) W' := by
  have hlt := hW.lt
  obtain ⟨p, q, hA, hV, hps, hfz, hnd⟩ := id hW
  rw [hv] at hV
  obtain ⟨hg, hq⟩ := trodVars_none hV
  subst hq
  rw [List.append_nil] at hps
  subst hps
  refine ⟨ds, gs, before, [], before, [], hW, ?_, ?_, ?_, hb.frame _, fun h => by cases h⟩
  · rw [hres, hrt]
    exact trodAll_mk1 ⟨1, by simp [DataW.trod, hub, Value.cells]⟩
  · rw [hargs]
    exact trodAll_stays hl hb _ _ _ _ hr hlt hA
  · rw [hv, hvs]; exact rfl

def Walked (k : FuncId) (params : List TypeId) : Prop :=
  ∀ (H : Type) (enc : TypeId × Value → H) (W : World) (args : Array Value) (ds : List (DataW H)) (ps : List MemPlace), (∀ (j : Nat) t v, params[j]? = some t → args[j]? = some v → ∃ base, Value.okWide Tryz.prog W .any base t v) →
    DataW.TrodAll enc Tryz.prog W 0 (fun _ => true) true params args.toList ds ps → (DataW.weightsEach Tryz.prog params ds).all (· ≤ reachBytes) = true → Calls Tryz.prog k args W (Ret W (.bool true))

theorem law_lift {k : FuncId} {f : Func} {s : ChangeSpec} {tb : TypeId} (hf : Tryz.prog.funcs[k]? = some f) (hno : Tryz.prog.inits.idxOf? k = none) (hrt : f.resultTypes = #[tb]) (hub : Tryz.prog.underlying tb = some .bool)
    (hv : s.vars = []) (hvt : s.plain.varTypes Tryz.prog = [])
    (hfn : ∀ (H : Type) (ds : List (DataW H)), ds.length = f.params.size → (s.fn H ds).results = [.lit (.bool true)] ∧ (s.fn H ds).args = ds ∧ (s.fn H ds).vars = [])
    (hr : ∀ t ∈ f.params.toList, Tryz.prog.readableRec t = true ∧ t < Tryz.prog.types.size) (walk : Walked k f.params.toList)
    (os : Os) (started : os.Started) (H : Type) (enc : TypeId × Value → H)
    (wit : ∃ (w : World) (tape : Tape) (i : Input), w.os = os ∧ (w.forCall tape i).Shaped Tryz.prog ∧ i.vars = [] ∧ Input.okWide Tryz.prog (w.forCall tape i) .any w.heap.size k i ∧
      s.pre6 enc Tryz.prog f [] false (w.forCall tape i).memory i.args ∧ ({} : Assume).holds Tryz.prog (lone (Frame.enter Tryz.prog k i.args .normal) [] (w.forCall tape i))) :
    ReturnsInHanded {} Tryz.checked os k .any (s.pre6 enc Tryz.prog f [] false) (s.post enc Tryz.prog f false true false false) := by
  refine returnsInHanded_of_change_sized (C := Tryz.checked) own_ started hno hf wit ?_
  intro W base args ds gs before hval0 hW _ hsz _
  have hW' := hW
  obtain ⟨p, q, hA0, hV, _, _, _⟩ := hW
  have hA : DataW.TrodAll enc Tryz.prog W 0 (fun _ => true) true f.params.toList args.toList ds p := hA0
  have hg : gs = [] := by
    rw [hv] at hV
    exact (trodVars_none hV).1
  subst hg
  have hlen : ds.length = f.params.size := by
    have : ∀ (ts : List TypeId) (vs : List Value) (ds : List (DataW H)) (ps : List MemPlace), DataW.TrodAll enc Tryz.prog W 0 (fun _ => true) true ts vs ds ps → ds.length = ts.length := by
      intro ts
      induction ts with
      | nil => intro vs ds ps h; obtain ⟨_, rfl, _⟩ := trodAll_nil h; rfl
      | cons t ts ih =>
        intro vs ds ps h
        obtain ⟨_, _, _, _, _, _, _, rfl, _, _, h2⟩ := trodAll_cons h
        simp [ih _ _ _ h2]
    simpa using this _ _ _ _ hA
  have hF := hfn H ds hlen
  have hsz' : (DataW.weightsEach Tryz.prog f.params.toList ds).all (· ≤ reachBytes) = true := by
    have e : s.plain.varTypes (Tryz.checked).prog = [] := hvt
    rw [e, List.append_nil, List.append_nil] at hsz
    exact hsz
  refine (walk H enc W args ds p (fun j t v h1 h2 => ⟨base, hval0 j t v (by simpa using h1) h2⟩) hA hsz').mono ?_
  rintro e W' ⟨rfl, hb⟩
  refine ⟨_, rfl, law_post hrt hub hv ?_ ?_ ?_ laid_ hr hW' hb⟩
  · rw [List.append_nil]; exact hF.1
  · rw [List.append_nil]; exact hF.2.1
  · rw [List.append_nil]; exact hF.2.2

section
variable {H : Type} {enc : TypeId × Value → H} {P : Program} {w : World} {base : Nat} {spare : Nat → Bool} {held : Bool} {fuel : Nat}
theorem mapM_some {α β : Type} {g : α → Option β} : ∀ {l : List α} {r : List β}, l.mapM g = some r → ∀ x ∈ l, ∃ y, g x = some y
  | [], _, _, x, hx => by cases hx
  | a :: l, r, h, x, hx => by
    rw [List.mapM_cons] at h
    cases hg : g a with
    | none => simp [hg] at h
    | some b =>
      simp only [hg, Option.bind_eq_bind, Option.bind_some] at h
      cases hl : l.mapM g with
      | none => simp [hl] at h
      | some rs =>
        rcases List.mem_cons.1 hx with rfl | hx
        · exact ⟨b, hg⟩
        · exact mapM_some hl x hx
theorem trod_fields {t : TypeId} {fs : Array Field} {cs : List Value} {x : DataW H × List MemPlace} (ht : P.underlying t = some (.struct fs)) (h : DataW.trod enc P w base spare held fuel t cs = some x) :
    cs.length = P.cellsOf t ∧ ∃ n, ∀ f ∈ fs.toList, ∃ y, DataW.trod enc P w base spare held n f.type ((cs.drop f.offset).take (P.cellsOf f.type)) = some y := by
  cases fuel with
  | zero => simp [DataW.trod] at h
  | succ n =>
    unfold DataW.trod at h
    rw [ht] at h
    simp only at h
    split at h
    · rename_i hl
      refine ⟨hl, n, fun f hf => ?_⟩
      cases hm : fs.toList.mapM fun f => DataW.trod enc P w base spare held n f.type ((cs.drop f.offset).take (P.cellsOf f.type)) with
      | none => simp [hm] at h
      | some r => exact mapM_some hm f hf
    · cases h
theorem int_bounds {k : IntKind} {n : Int} (h : (Lit.int k n).wf = true) : k.min ≤ n ∧ n ≤ k.max := by
  simpa [Lit.wf] using h
end
end Go.Proofs.YtenolkolkpfjgaaGreat

namespace Go.Proofs.YtenolkolkpfjgaaGreat
open Go.ChangeShapes Go.WideShapes Go.ChangeAt Go.RowKit
set_option linter.unusedVariables false
set_option maxRecDepth 100000
theorem slice_spotG {P : Program} {w : World} {r : Reach} {base : Nat} {t e : TypeId} {a : Addr} {n cap : Nat} (ht : P.underlying t = some (.slice e)) (h : Value.okWide P w r base t (.slice (some a) n cap)) : a.spot = none := by
  simp only [Value.okWide, ht, Cell.okWide] at h
  simp_all [Cell.ok, World.has]
theorem sl_read {α : Type} {H : Type} {enc : TypeId × Value → H} {P : Program} {W : World} {v : Value} {d : DataW H} {p : List MemPlace} {t el : TypeId} (K : Nat) (hu : P.underlying t = some (.slice el)) (hK : P.cellsOf el = K) (eV : α → List Value) (hl : ∀ x, (eV x).length = K) (h1 : ∀ x, ∀ v ∈ eV x, v.oneCell' = true)
    (dE : α → List Ab.Dat) (hd : ∀ x, dE x = (eV x).map Ab.Dat.sc) (good : α → Prop) (hel : ∀ (fl : Nat) (cs : List Value) (y : DataW H × List MemPlace), DataW.trod enc P W 0 (fun _ => true) true fl el cs = some y → ∃ x, good x ∧ cs = eV x)
    (hv : ∃ base, Value.okWide P W .any base t v) (h : DataW.Trod enc P W 0 (fun _ => true) true t v d p) {Fr : Nat → Prop} (hF : ∀ b, Fr b) :
    ∃ l : List α, (∀ x ∈ l, good x) ∧ Ab.DRel W Fr (.sl (l.flatMap dE) l.length) v := by
  obtain ⟨base, hv⟩ := hv
  obtain ⟨ao, n, cap, rfl⟩ := okWide_slice hu hv
  obtain ⟨fuel, hf⟩ := h
  rcases Go.Deep.open_slice hu hf with ⟨h1, _⟩ | ⟨a, len, cap', m, fl, D, Pl, h2, _, hle, _, hm, _, hx⟩
  · simp [Value.cells] at h1
    obtain ⟨rfl, rfl, rfl⟩ := h1
    exact ⟨[], by simp, .nil⟩
  · simp [Value.cells] at h2
    obtain ⟨rfl, rfl, rfl⟩ := h2
    have hsp := slice_spotG hu hv
    obtain ⟨b, o, s⟩ := a
    dsimp only at hsp
    subst hsp
    have hlen : ∀ l : List α, (l.flatMap eV).length = l.length * K := fun l => by
      induction l with
      | nil => simp
      | cons x r ih => rw [List.flatMap_cons, List.length_append, ih, hl, List.length_cons, Nat.add_mul]; omega
    have key : ∀ k, k ≤ n → ∃ l : List α, l.length = k ∧ (∀ x ∈ l, good x) ∧ ∀ (j : Nat) (u : Value), (l.flatMap eV)[j]? = some u → W.cell? ⟨b, o + j, none⟩ = some u := by
      intro k
      induction k with
      | zero => exact fun _ => ⟨[], rfl, by simp, fun j u h => by simp at h⟩
      | succ k ih =>
        intro hk
        obtain ⟨l, h2, h3, h4⟩ := ih (by omega)
        obtain ⟨cs', h5, h6⟩ := hx k (by rw [hm]; simp; omega)
        rw [hK] at h5
        obtain ⟨_, h7, h8⟩ := World.cells?_some h5
        obtain ⟨x, hg, rfl⟩ := hel _ _ _ h6
        refine ⟨l ++ [x], by simp [h2], fun y hy => ?_, fun j u hj => ?_⟩
        · rcases List.mem_append.1 hy with hy | hy
          · exact h3 y hy
          · simp at hy; subst hy; exact hg
        · rw [List.flatMap_append, List.getElem?_append] at hj
          split at hj
          · exact h4 j u hj
          · rename_i hge
            rw [hlen, h2] at hj hge
            have e : ([x].flatMap eV) = eV x := by simp
            rw [e] at hj
            have hj2 : j - k * K < K := by
              have := (List.getElem?_eq_some_iff.1 hj).1
              rw [hl] at this; exact this
            have h9 := h8 (j - k * K) hj2
            have : (Addr.add (Addr.add ⟨b, o, none⟩ (k * K)) (j - k * K)) = ⟨b, o + j, none⟩ := by
              rw [Addr.add_mid, Addr.add_mid, show o + k * K + (j - k * K) = o + j by omega]
            rw [this] at h9
            rw [h9]; exact hj
    obtain ⟨l, h2, h3, h4⟩ := key n (Nat.le_refl _)
    refine ⟨l, h3, ?_⟩
    have hD : l.flatMap dE = (l.flatMap eV).map Ab.Dat.sc := by rw [List.map_flatMap]; congr 1; funext x; exact hd x
    rw [← h2]
    rw [hD]
    refine .sl _ _ b o cap (l.flatMap eV) (by omega) (by simp) (fun _ => hF b) h4 fun i c u h5 h6 => ?_
    rw [List.getElem?_map, h6] at h5
    cases h5
    have := List.mem_of_getElem? h6
    obtain ⟨y, _, hm2⟩ := List.mem_flatMap.1 this
    exact .sc u (h1 y u hm2)
end Go.Proofs.YtenolkolkpfjgaaGreat

namespace Go.Proofs.YtenolkolkpfjgaaGreat
open Go.ChangeShapes Go.WideShapes Go.ChangeAt Go.RowKit
set_option linter.unusedVariables false
set_option maxRecDepth 100000

def okF (r : Rte) : Prop := Ab.okR r ∧ 0 ≤ r.h ∧ r.h < 4294967296
theorem rl_cells_rte : Tryz.prog.cellsOf 41 = 9 := by kernel_rfl
theorem rl_cells_Pfx : Tryz.prog.cellsOf 39 = 2 := by kernel_rfl
theorem rl_one {H : Type} {enc : TypeId × Value → H} {W : World} {fl : Nat} {t : TypeId} {cs : List Value} {o : Nat} {y : DataW H × List MemPlace} (hc : Tryz.prog.cellsOf t = 1) (h : DataW.trod enc Tryz.prog W 0 (fun _ => true) true fl t ((cs.drop o).take (Tryz.prog.cellsOf t)) = some y) :
    DataW.trod enc Tryz.prog W 0 (fun _ => true) true fl t ((cs.drop o).take 1) = some y := by rw [hc] at h; exact h
theorem trod_rte {H : Type} {enc : TypeId × Value → H} {W : World} (fl : Nat) (cs : List Value) (y : DataW H × List MemPlace) (h6 : DataW.trod enc Tryz.prog W 0 (fun _ => true) true fl 41 cs = some y) :
    ∃ x : Rte, okF x ∧ cs = rteV x := by
  obtain ⟨hlen, fl2, hfs⟩ := trod_fields Tryz.underlying41 h6
  rw [rl_cells_rte] at hlen
  match cs, hlen with
  | [a, b, c, d, e, f, g, h, i], _ =>
    obtain ⟨y0, g0⟩ := hfs _ (List.mem_of_getElem? (i := 0) rfl)
    obtain ⟨y1, g1⟩ := hfs _ (List.mem_of_getElem? (i := 1) rfl)
    obtain ⟨y2, g2⟩ := hfs _ (List.mem_of_getElem? (i := 2) rfl)
    obtain ⟨y3, g3⟩ := hfs _ (List.mem_of_getElem? (i := 3) rfl)
    obtain ⟨y4, g4⟩ := hfs _ (List.mem_of_getElem? (i := 4) rfl)
    obtain ⟨y5, g5⟩ := hfs _ (List.mem_of_getElem? (i := 5) rfl)
    obtain ⟨y6, g6⟩ := hfs _ (List.mem_of_getElem? (i := 6) rfl)
    obtain ⟨y7, g7⟩ := hfs _ (List.mem_of_getElem? (i := 7) rfl)
    dsimp only at g0 g1 g2 g3 g4 g5 g6 g7
    rw [rl_cells_Pfx] at g0
    obtain ⟨vf, e1, _, w1⟩ := DataW.trod_int (k := .u8) (by kernel_rfl) (rl_one (by kernel_rfl) g1)
    obtain ⟨vd, e2, _, w2⟩ := DataW.trod_int (k := .i64) (by kernel_rfl) (rl_one (by kernel_rfl) g2)
    obtain ⟨vm, e3, _, w3⟩ := DataW.trod_int (k := .i64) (by kernel_rfl) (rl_one (by kernel_rfl) g3)
    obtain ⟨vt, e4, _, w4⟩ := DataW.trod_int (k := .i64) (by kernel_rfl) (rl_one (by kernel_rfl) g4)
    obtain ⟨vi, e5, _, w5⟩ := DataW.trod_string (by kernel_rfl) (rl_one (by kernel_rfl) g5)
    obtain ⟨vh, e6, _, w6⟩ := DataW.trod_int (k := .u32) (by kernel_rfl) (rl_one (by kernel_rfl) g6)
    obtain ⟨vx, e7, _⟩ := DataW.trod_bool (by kernel_rfl) (rl_one (by kernel_rfl) g7)
    obtain ⟨_, fl3, hfp⟩ := trod_fields Tryz.underlying39 g0
    obtain ⟨z0, q0⟩ := hfp _ (List.mem_of_getElem? (i := 0) rfl)
    obtain ⟨z1, q1⟩ := hfp _ (List.mem_of_getElem? (i := 1) rfl)
    dsimp only at q0 q1
    obtain ⟨pa, e8, _, w8⟩ := DataW.trod_int (k := .u32) (by kernel_rfl) (rl_one (by kernel_rfl) q0)
    obtain ⟨pb, e9, _, w9⟩ := DataW.trod_int (k := .i64) (by kernel_rfl) (rl_one (by kernel_rfl) q1)
    simp at e1 e2 e3 e4 e5 e6 e7 e8 e9
    subst e1 e2 e3 e4 e5 e6 e7 e8 e9
    have b0 := int_bounds w8
    have b1 := int_bounds w9
    have b2 := int_bounds w1
    have b6 := int_bounds w6
    simp [IntKind.min, IntKind.max, IntKind.signed, IntKind.bits] at b0 b1 b2 b6
    exact ⟨⟨⟨pa, pb⟩, vf, vd, vm, vt, vi.data.toList, vh, vx⟩, ⟨⟨⟨b2.1, by show vf < 256; omega⟩, ⟨b0.1, by show pa < 4294967296; omega, by show -9223372036854775808 ≤ pb; omega, by show pb < _; omega⟩⟩, b6.1, by show vh < 4294967296; omega⟩, rfl⟩
theorem rteV_one (x : Rte) : ∀ v ∈ rteV x, v.oneCell' = true := fun v hv => by
  simp [rteV] at hv
  rcases hv with rfl | rfl | rfl | rfl | rfl | rfl | rfl | rfl | rfl <;> rfl
end Go.Proofs.YtenolkolkpfjgaaGreat

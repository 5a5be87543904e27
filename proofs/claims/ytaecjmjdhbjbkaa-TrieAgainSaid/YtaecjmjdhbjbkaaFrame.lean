/-
  The frame of a law's row: a call that returns true, makes new memory alone and so leaves its arguments as they read, meets the row.
-/
import Derived.Test.YtaecjmjdhbjbkaaRows
import Derived.Test.YtaecjmjdhbjbkaaBase
import Derived.ProofKit
import Derived.SizedLaws
import Derived.JoinedCond
import Derived.Deep.CondSized
namespace Go.Proofs.Ytaecjmjdhbjbkaa
open Go.ChangeShapes Go.WideShapes Go.ChangeAt Go.RowKit
set_option linter.unusedVariables false
set_option maxRecDepth 100000

theorem own_ : ownKnob Try.prog.godebug = none := by kernel_rfl
theorem laid_ : laidOutB Try.prog = true := by kernel_rfl

theorem trodAll_stays {H : Type} {enc : TypeId × Value → H} {P : Program} (hl : laidOutB P = true) {W W' : World} (hb : Below W.heap.size W W') :
    ∀ (ts : List TypeId) (vs : List Value) (ds : List (DataW H)) (ps : List MemPlace), (∀ t ∈ ts, P.readableRec t = true ∧ t < P.types.size) → (∀ x ∈ ps, x.block < W.heap.size) →
      DataW.TrodAll enc P W 0 (fun _ => true) true ts vs ds ps → DataW.TrodAll enc P W' 0 (fun b => decide (b < W.heap.size)) true ts vs ds ps
  | [], vs, ds, ps, _, _, h => by
    obtain ⟨rfl, rfl, rfl⟩ := trodAll_nil h
    exact trodAll_mk0
  | t :: ts, vs, ds, ps, hr, hlt, h => by
    obtain ⟨v, vs', d, ds', p, q, rfl, rfl, rfl, h1, h2⟩ := trodAll_cons h
    have hr0 := hr t (by simp)
    exact ⟨p, q, Below.trod hl hr0.1 hr0.2 h1 hb (fun x hx => hlt x (by simp [hx])), trodAll_stays hl hb ts vs' ds' q (fun t' h' => hr t' (by simp [h'])) (fun x hx => hlt x (by simp [hx])) h2, rfl⟩

theorem law_post {H : Type} {enc : TypeId × Value → H} {P : Program} {f : Func} {s : ChangeSpec} {W W' : World} {args : Array Value} {ds gs : List (DataW H)} {before : List MemPlace} {tb : TypeId}
    (hrt : f.resultTypes = #[tb]) (hub : P.underlying tb = some .bool) (hv : s.vars = []) (hres : (s.fn H (ds ++ gs)).results = [.lit (.bool true)]) (hargs : (s.fn H (ds ++ gs)).args = ds) (hvs : (s.fn H (ds ++ gs)).vars = [])
    (hl : laidOutB P = true) (hr : ∀ t ∈ f.params.toList, P.readableRec t = true ∧ t < P.types.size)
    (hW : DataW.Whole enc P f.params.toList s.vars false W args.toList ds gs before) (hb : Below W.heap.size W W') : s.post enc P f false true false false W args (.bool true) W' := by
  have hlt := hW.lt
  obtain ⟨p, q, hA, hV, hps, hfz, hnd⟩ := id hW
  rw [hv] at hV
  obtain ⟨hg, hq⟩ := trodVars_none hV
  subst hq
  rw [List.append_nil] at hps
  subst hps
  refine ⟨ds, gs, before, [], before, [], hW, ?_, ?_, ?_, hb.frame _, fun h => by cases h⟩
  · rw [hres, hrt]
    exact trodAll_mk1 ⟨1, by simp [DataW.trod, hub, Value.cells]⟩
  · rw [hargs]
    exact trodAll_stays hl hb _ _ _ _ hr hlt hA
  · rw [hv, hvs]; exact rfl

/-- What a law's walk is handed: how its arguments lie, and that each string, slice and map takes no more than the reach. -/
def Walked (k : FuncId) (params : List TypeId) : Prop :=
  ∀ (H : Type) (enc : TypeId × Value → H) (W : World) (args : Array Value) (ds : List (DataW H)) (ps : List MemPlace), (∀ (j : Nat) t v, params[j]? = some t → args[j]? = some v → ∃ base, Value.okWide Try.prog W .any base t v) →
    DataW.TrodAll enc Try.prog W 0 (fun _ => true) true params args.toList ds ps → (DataW.weightsEach Try.prog params ds).all (· ≤ reachBytes) = true → Calls Try.prog k args W (Ret W (.bool true))

theorem law_lift {k : FuncId} {f : Func} {s : ChangeSpec} {tb : TypeId} (hf : Try.prog.funcs[k]? = some f) (hno : Try.prog.inits.idxOf? k = none) (hrt : f.resultTypes = #[tb]) (hub : Try.prog.underlying tb = some .bool)
    (hv : s.vars = []) (hvt : s.plain.varTypes Try.prog = [])
    (hfn : ∀ (H : Type) (ds : List (DataW H)), ds.length = f.params.size → (s.fn H ds).results = [.lit (.bool true)] ∧ (s.fn H ds).args = ds ∧ (s.fn H ds).vars = [])
    (hr : ∀ t ∈ f.params.toList, Try.prog.readableRec t = true ∧ t < Try.prog.types.size) (walk : Walked k f.params.toList)
    (os : Os) (started : os.Started) (H : Type) (enc : TypeId × Value → H)
    (wit : ∃ (w : World) (tape : Tape) (i : Input), w.os = os ∧ (w.forCall tape i).Shaped Try.prog ∧ i.vars = [] ∧ Input.okWide Try.prog (w.forCall tape i) .any w.heap.size k i ∧
      s.pre6 enc Try.prog f [] false (w.forCall tape i).memory i.args ∧ ({} : Assume).holds Try.prog (lone (Frame.enter Try.prog k i.args .normal) [] (w.forCall tape i))) :
    ReturnsInHanded {} Try.checked os k .any (s.pre6 enc Try.prog f [] false) (s.post enc Try.prog f false true false false) := by
  refine returnsInHanded_of_change_sized (C := Try.checked) own_ started hno hf wit ?_
  intro W base args ds gs before hval0 hW _ hsz _
  have hW' := hW
  obtain ⟨p, q, hA0, hV, _, _, _⟩ := hW
  have hA : DataW.TrodAll enc Try.prog W 0 (fun _ => true) true f.params.toList args.toList ds p := hA0
  have hg : gs = [] := by
    rw [hv] at hV
    exact (trodVars_none hV).1
  subst hg
  have hlen : ds.length = f.params.size := by
    have : ∀ (ts : List TypeId) (vs : List Value) (ds : List (DataW H)) (ps : List MemPlace), DataW.TrodAll enc Try.prog W 0 (fun _ => true) true ts vs ds ps → ds.length = ts.length := by
      intro ts
      induction ts with
      | nil => intro vs ds ps h; obtain ⟨_, rfl, _⟩ := trodAll_nil h; rfl
      | cons t ts ih =>
        intro vs ds ps h
        obtain ⟨_, _, _, _, _, _, _, rfl, _, _, h2⟩ := trodAll_cons h
        simp [ih _ _ _ h2]
    simpa using this _ _ _ _ hA
  have hF := hfn H ds hlen
  have hsz' : (DataW.weightsEach Try.prog f.params.toList ds).all (· ≤ reachBytes) = true := by
    have e : s.plain.varTypes (Try.checked).prog = [] := hvt
    rw [e, List.append_nil, List.append_nil] at hsz
    exact hsz
  refine (walk H enc W args ds p (fun j t v h1 h2 => ⟨base, hval0 j t v (by simpa using h1) h2⟩) hA hsz').mono ?_
  rintro e W' ⟨rfl, hb⟩
  refine ⟨_, rfl, law_post hrt hub hv ?_ ?_ ?_ laid_ hr hW' hb⟩
  · rw [List.append_nil]; exact hF.1
  · rw [List.append_nil]; exact hF.2.1
  · rw [List.append_nil]; exact hF.2.2

/-! ### Opening what came in -/
section
variable {H : Type} {enc : TypeId × Value → H} {P : Program} {w : World} {base : Nat} {spare : Nat → Bool} {held : Bool} {fuel : Nat}
theorem mapM_some {α β : Type} {g : α → Option β} : ∀ {l : List α} {r : List β}, l.mapM g = some r → ∀ x ∈ l, ∃ y, g x = some y
  | [], _, _, x, hx => by cases hx
  | a :: l, r, h, x, hx => by
    rw [List.mapM_cons] at h
    cases hg : g a with
    | none => simp [hg] at h
    | some b =>
      simp only [hg, Option.bind_eq_bind, Option.bind_some] at h
      cases hl : l.mapM g with
      | none => simp [hl] at h
      | some rs =>
        rcases List.mem_cons.1 hx with rfl | hx
        · exact ⟨b, hg⟩
        · exact mapM_some hl x hx
/-- A struct's cells: how many there are, and that each field's read. -/
theorem trod_fields {t : TypeId} {fs : Array Field} {cs : List Value} {x : DataW H × List MemPlace} (ht : P.underlying t = some (.struct fs)) (h : DataW.trod enc P w base spare held fuel t cs = some x) :
    cs.length = P.cellsOf t ∧ ∃ n, ∀ f ∈ fs.toList, ∃ y, DataW.trod enc P w base spare held n f.type ((cs.drop f.offset).take (P.cellsOf f.type)) = some y := by
  cases fuel with
  | zero => simp [DataW.trod] at h
  | succ n =>
    unfold DataW.trod at h
    rw [ht] at h
    simp only at h
    split at h
    · rename_i hl
      refine ⟨hl, n, fun f hf => ?_⟩
      cases hm : fs.toList.mapM fun f => DataW.trod enc P w base spare held n f.type ((cs.drop f.offset).take (P.cellsOf f.type)) with
      | none => simp [hm] at h
      | some r => exact mapM_some hm f hf
    · cases h
theorem int_bounds {k : IntKind} {n : Int} (h : (Lit.int k n).wf = true) : k.min ≤ n ∧ n ≤ k.max := by
  simpa [Lit.wf] using h
end
end Go.Proofs.Ytaecjmjdhbjbkaa

/-
  Texts of a proof, one behind the other (part 18).
-/
import Derived.Deep.DeepHandedRow
import Derived.Lib.LaidTab
import Derived.Test.YtdbeblhifnfocaaGreatDoorTn16
set_option linter.unusedVariables false
set_option linter.unusedSimpArgs false
namespace Go.Proofs.YtdbeblhifnfocaaGreatDoor
open Go.ChangeShapes Go.WideShapes Go.ChangeAt Go.RowKit
set_option linter.unusedVariables false
set_option maxRecDepth 100000
def WalkedNR (k : FuncId) (params : List TypeId) : Prop :=
  ∀ (H : Type) (enc : TypeId × Value → H) (W : World) (args : Array Value) (ds : List (DataW H)) (ps : List MemPlace), (∀ (j : Nat) t v, params[j]? = some t → args[j]? = some v → ∃ base, Value.okWide Tryz.prog W .any base t v) →
    DataW.TrodAll enc Tryz.prog W 0 (fun _ => true) true params args.toList ds ps → (DataW.weightsEach Tryz.prog params ds).all (· ≤ reachBytes) = true → Calls Tryz.prog k args W (Ret W (.bool true))
theorem law_liftNR {k : FuncId} {f : Func} {s : ChangeSpec} {tb : TypeId} {laid : List (String × DataW Unit)} (hf : Tryz.prog.funcs[k]? = some f) (hno : Tryz.prog.inits.idxOf? k = none) (hrt : f.resultTypes = #[tb]) (hub : Tryz.prog.underlying tb = some .bool)
    (hv : s.vars = []) (hvt : (OpenSpec.ofChange s).bare.plain.varTypes Tryz.prog = [])
    (hfn : ∀ (H : Type) (ds : List (DataW H)), ds.length = f.params.size → (s.fn H ds).results = [.lit (.bool true)] ∧ (s.fn H ds).args = ds ∧ (s.fn H ds).vars = [])
    (hr : ∀ t ∈ f.params.toList, Tryz.prog.readableRec t = true ∧ t < Tryz.prog.types.size) (walk : WalkedNR k f.params.toList)
    (os : Os) (started : os.Started) (H : Type) (enc : TypeId × Value → H) (F : Stop.Interp)
    (wit : ∃ (w : World) (tape : Tape) (i : Input), w.os = os ∧ (w.forCall tape i).Shaped Tryz.prog ∧ i.vars = [] ∧ Input.okWide Tryz.prog (w.forCall tape i) .any w.heap.size k i ∧
      (OpenSpec.ofChange s).preRow enc Tryz.prog f [] false laid (w.forCall tape i).memory i.args ∧ ({} : Assume).holds Tryz.prog (lone (Frame.enter Tryz.prog k i.args .normal) [] (w.forCall tape i))) :
    ReturnsInHanded {} Tryz.checked os k .any ((OpenSpec.ofChange s).preRow enc Tryz.prog f [] false laid) (((OpenSpec.ofChange s).at F).post enc Tryz.prog f false true false false) := by
  refine returnsInHanded_of_row (C := Tryz.checked) (s := OpenSpec.ofChange s) own_ started hno hf wit ?_
  intro W base args ds gs before hval0 hW _ hk hsz hL hS _
  have hW' : DataW.Whole enc Tryz.prog f.params.toList s.vars false W args.toList ds gs before := hW
  obtain ⟨p, q, hA0, hV, _, _, _⟩ := hW'
  have hW' : DataW.Whole enc Tryz.prog f.params.toList s.vars false W args.toList ds gs before := hW
  have hA : DataW.TrodAll enc Tryz.prog W 0 (fun _ => true) true f.params.toList args.toList ds p := hA0
  have hg : gs = [] := by
    rw [hv] at hV
    exact (trodVars_none hV).1
  subst hg
  have hlen : ds.length = f.params.size := by
    have : ∀ (ts : List TypeId) (vs : List Value) (ds : List (DataW H)) (ps : List MemPlace), DataW.TrodAll enc Tryz.prog W 0 (fun _ => true) true ts vs ds ps → ds.length = ts.length := by
      intro ts
      induction ts with
      | nil => intro vs ds ps h; obtain ⟨_, rfl, _⟩ := trodAll_nil h; rfl
      | cons t ts ih =>
        intro vs ds ps h
        obtain ⟨_, _, _, _, _, _, _, rfl, _, _, h2⟩ := trodAll_cons h
        simp [ih _ _ _ h2]
    simpa using this _ _ _ _ hA
  have hF := hfn H ds hlen
  have hsz' : (DataW.weightsEach Tryz.prog f.params.toList ds).all (· ≤ reachBytes) = true := by
    have e : (OpenSpec.ofChange s).bare.plain.varTypes (Tryz.checked).prog = [] := hvt
    rw [e, List.append_nil, List.append_nil] at hsz
    exact hsz
  refine (walk H enc W args ds p (fun j t v h1 h2 => ⟨base, hval0 j t v (by simpa using h1) h2⟩) hA hsz').mono ?_
  rintro e W' ⟨rfl, hb⟩
  refine ⟨_, rfl, ?_⟩
  show s.post enc Tryz.prog f false true false false W args (.bool true) W'
  refine law_post hrt hub hv ?_ ?_ ?_ laid_ hr hW' hb
  · rw [List.append_nil]; exact hF.1
  · rw [List.append_nil]; exact hF.2.1
  · rw [List.append_nil]; exact hF.2.2
end Go.Proofs.YtdbeblhifnfocaaGreatDoor

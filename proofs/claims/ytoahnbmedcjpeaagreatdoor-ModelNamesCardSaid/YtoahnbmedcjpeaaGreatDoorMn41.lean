/-
 Texts of a proof, one behind the other (part 42).
-/
import Derived.Test.YtoahnbmedcjpeaaGreatDoorRows
import Derived.Lib.LaidTab
import Derived.Shelf.Vars
import Derived.ProofKit
import Derived.Deep.DeepHandedRow
import Derived.Deep.CondSized
import Derived.Test.YtoahnbmedcjpeaaGreatDoorCards
import Derived.Test.YtoahnbmedcjpeaaGreatDoorTie
import Derived.OpenShut
import Derived.Test.YtoahnbmedcjpeaaGreatDoorMn0
import Derived.Test.YtoahnbmedcjpeaaGreatDoorMn1
import Derived.Test.YtoahnbmedcjpeaaGreatDoorMn3
import Derived.Test.YtoahnbmedcjpeaaGreatDoorMn40
set_option maxRecDepth 100000
set_option linter.unusedVariables false
set_option linter.unusedSimpArgs false
namespace Go.Proofs.YtoahnbmedcjpeaaGreatDoor
open Go.ChangeShapes Go.WideShapes Go.ChangeAt Go.RowKit
theorem zf3 {W : World} (hS : W.ShapedOpen Tryz.prog) {g : Nat} (hg : g < Tryz.prog.globals.size) (h : (((begin Tryz.prog (fun _ _ => 0) default).world.heap[g]?).bind Obj.row?).isSome = true) : ∃ cs t, W.heap[g]? = some (.cells cs t) := by
 obtain ⟨⟨zero, t⟩, h0⟩ := Option.isSome_iff_exists.1 h
 obtain ⟨cs, h1, _⟩ := hS.1 g zero t hg h0
 exact ⟨cs, t, h1⟩
theorem zha {W : World} (hS : W.ShapedOpen Tryz.prog) {g : Nat} {t : TypeId} (hg : g < Tryz.prog.globals.size) (h : (((begin Tryz.prog (fun _ _ => 0) default).world.heap[g]?).bind Obj.row?).map (fun p => (p.1.size, p.2)) = some (1, t)) (hb : Tryz.prog.buildable t = true) (hc : Tryz.prog.cellTypes Tryz.prog.depth t = some [t]) (hu : Tryz.prog.underlying t = some (.int .i64)) : ∃ m t fr, W.heap[g]? = some (.cells #[.int .i64 m] t fr) := by
 cases h0 : ((begin Tryz.prog (fun _ _ => 0) default).world.heap[g]?).bind Obj.row? with
 | none => rw [h0] at h; cases h
 | some p =>
  obtain ⟨zero, t'⟩ := p
  rw [h0] at h
  have h3 : zero.size = 1 ∧ t' = t := by simpa using h
  obtain ⟨h3, rfl⟩ := h3
  obtain ⟨m, hm⟩ := cell_of_shapedOpen_int hS hg h0 h3 hb hc hu
  obtain ⟨cs, h1, h2, _⟩ := hS.1 g zero t' hg h0
  refine ⟨m, t', (0, 0), ?_⟩
  rw [h1]
  have h4 : cs.size = 1 := by rw [h2, h3]
  have h5 : 0 < cs.size := by omega
  have h6 : cs[0] = .int .i64 m := by
   unfold World.cell? at hm
   rw [h1] at hm
   simpa [h5] using hm
  have h7 : cs = #[.int .i64 m] := by
   apply Array.ext
   ·rw [h4]; rfl
   ·intro i hi _
    have : i = 0 := by omega
    subst this
    exact h6
  rw [h7]
theorem zfQ {P : Program} {W : World} {a b : String × DataW Unit} {name : String} {k : IntKind} {zs : List Int} {rest : List (String × DataW Unit)} {g : Nat} {t e : TypeId} {n : Nat}
  (hg : P.globalNamed name = some g) (hty : (P.globals[g]?).map (·.type) = some t) (ht : P.underlying t = some (.array n e)) (he : P.underlying e = some (.int k)) (hce : P.cellsOf e = 1) (hct : P.cellsOf t = n)
  (h : laidMet P (a :: b :: (name, Lib.tabData k zs) :: rest) W) : ∃ t fr, W.heap[g]? = some (.cells (zs.map fun z => Value.int k z).toArray t fr) := by
 obtain ⟨ps, ⟨_, _, _, _, _, _, _, _, _, _, ⟨_, _, _, _, _, _, _, _, _, _, ⟨g', t', cs, fuel, p, q, hg', ht', hvar, hd, _, _⟩, _⟩, _⟩, _⟩ := h
 obtain rfl := Option.some.inj (hg.symm.trans hg')
 obtain rfl := Option.some.inj (hty.symm.trans ht')
 unfold World.var? at hvar
 rw [hg] at hvar
 simp only [Option.bind_some] at hvar
 split at hvar
 ·rename_i cs' t' fr hh
  cases hvar
  refine ⟨t', fr, ?_⟩
  rw [hh, ← Lib.cells_of_tab ht he hce hct hd]
 ·cases hvar
theorem zf4 {W : World} (hL : laidMetH Tryz.prog Rows.modelFormUptoRow.laid W) (hS : W.ShapedOpen Tryz.prog) : Ab.GlobOk W := by
 refine ⟨?_, ?_, ?_⟩
 ·obtain ⟨cs, t, h⟩ := zf3 (g := Ab.gN - 1) hS (of_decide_eq_true (by kernel_rfl)) (by kernel_rfl)
  have := (Array.getElem?_eq_some_iff.1 h).1
  show Ab.gN ≤ _
  unfold Ab.gN at *
  omega
 ·exact zha (t := 3) hS (of_decide_eq_true (by kernel_rfl)) (by kernel_rfl) (by kernel_rfl) (by kernel_rfl) (by kernel_rfl)
 ·exact zfQ (g := 1) (zs := Ab.pow10L) (n := 20) (e := 206) (by kernel_rfl) rfl (by kernel_rfl) (by kernel_rfl) (by kernel_rfl) (by kernel_rfl) hL
end Go.Proofs.YtoahnbmedcjpeaaGreatDoor

namespace Go.Proofs.YtoahnbmedcjpeaaGreatDoor
open Go.ChangeShapes Go.WideShapes Go.ChangeAt Go.RowKit
def WalkedNL (k : FuncId) (params : List TypeId) : Prop :=
 ∀ (H : Type) (enc : TypeId × Value → H) (W : World) (args : Array Value) (ds : List (DataW H)) (ps : List MemPlace), (∀ (j : Nat) t v, params[j]? = some t → args[j]? = some v → ∃ base, Value.okWide Tryz.prog W .any base t v) →
  DataW.TrodAll enc Tryz.prog W 0 (fun _ => true) true params args.toList ds ps → (DataW.weightsEach Tryz.prog params ds).all (· ≤ reachBytes) = true → Ab.GlobOk W → Calls Tryz.prog k args W (Ret W (.bool true))
theorem zeX {k : FuncId} {f : Func} {s : ChangeSpec} {tb : TypeId} {laid : List (String × DataW Unit)} (hf : Tryz.prog.funcs[k]? = some f) (hno : Tryz.prog.inits.idxOf? k = none) (hrt : f.resultTypes = #[tb]) (hub : Tryz.prog.underlying tb = some .bool)
  (hv : s.vars = []) (hvt : (OpenSpec.ofChange s).bare.plain.varTypes Tryz.prog = [])
  (hfn : ∀ (H : Type) (ds : List (DataW H)), ds.length = f.params.size → (s.fn H ds).results = [.lit (.bool true)] ∧ (s.fn H ds).args = ds ∧ (s.fn H ds).vars = [])
  (hr : ∀ t ∈ f.params.toList, Tryz.prog.readableRec t = true ∧ t < Tryz.prog.types.size) (hgl : ∀ W, laidMetH Tryz.prog laid W → W.ShapedOpen Tryz.prog → Ab.GlobOk W) (walk : WalkedNL k f.params.toList)
  (os : Os) (started : os.Started) (H : Type) (enc : TypeId × Value → H) (F : Stop.Interp)
  (wit : ∃ (w : World) (tape : Tape) (i : Input), w.os = os ∧ (w.forCall tape i).Shaped Tryz.prog ∧ i.vars = [] ∧ Input.okWide Tryz.prog (w.forCall tape i) .any w.heap.size k i ∧
   (OpenSpec.ofChange s).preRow enc Tryz.prog f [] false laid (w.forCall tape i).memory i.args ∧ ({} : Assume).holds Tryz.prog (lone (Frame.enter Tryz.prog k i.args .normal) [] (w.forCall tape i))) :
  ReturnsInHanded {} Tryz.checked os k .any ((OpenSpec.ofChange s).preRow enc Tryz.prog f [] false laid) (((OpenSpec.ofChange s).at F).post enc Tryz.prog f false true false false) := by
 refine returnsInHanded_of_row (C := Tryz.checked) (s := OpenSpec.ofChange s) own_ started hno hf wit ?_
 intro W base args ds gs before hval0 hW _ hk hsz hL hS _
 have hW' : DataW.Whole enc Tryz.prog f.params.toList s.vars false W args.toList ds gs before := hW
 obtain ⟨p, q, hA0, hV, _, _, _⟩ := hW'
 have hW' : DataW.Whole enc Tryz.prog f.params.toList s.vars false W args.toList ds gs before := hW
 have hA : DataW.TrodAll enc Tryz.prog W 0 (fun _ => true) true f.params.toList args.toList ds p := hA0
 have hg : gs = [] := by
  rw [hv] at hV
  exact (trodVars_none hV).1
 subst hg
 have hlen : ds.length = f.params.size := by
  have : ∀ (ts : List TypeId) (vs : List Value) (ds : List (DataW H)) (ps : List MemPlace), DataW.TrodAll enc Tryz.prog W 0 (fun _ => true) true ts vs ds ps → ds.length = ts.length := by
   intro ts
   induction ts with
   | nil => intro vs ds ps h; obtain ⟨_, rfl, _⟩ := trodAll_nil h; rfl
   | cons t ts ih =>
    intro vs ds ps h
    obtain ⟨_, _, _, _, _, _, _, rfl, _, _, h2⟩ := trodAll_cons h
    simp [ih _ _ _ h2]
  simpa using this _ _ _ _ hA
 have hF := hfn H ds hlen
 have hsz' : (DataW.weightsEach Tryz.prog f.params.toList ds).all (· ≤ reachBytes) = true := by
  have e : (OpenSpec.ofChange s).bare.plain.varTypes (Tryz.checked).prog = [] := hvt
  rw [e, List.append_nil, List.append_nil] at hsz
  exact hsz
 refine (walk H enc W args ds p (fun j t v h1 h2 => ⟨base, hval0 j t v (by simpa using h1) h2⟩) hA hsz' (hgl W hL hS)).mono ?_
 rintro e W' ⟨rfl, hb⟩
 refine ⟨_, rfl, ?_⟩
 show s.post enc Tryz.prog f false true false false W args (.bool true) W'
 refine zgY hrt hub hv ?_ ?_ ?_ zjg hr hW' hb
 ·rw [List.append_nil]; exact hF.1
 ·rw [List.append_nil]; exact hF.2.1
 ·rw [List.append_nil]; exact hF.2.2
end Go.Proofs.YtoahnbmedcjpeaaGreatDoor

namespace Go.Proofs.YtoahnbmedcjpeaaGreatDoor.Ab
open Go.RowKit Go.ChangeShapes Go.WideShapes Go.ChangeAt
mutual
def wD : Dat → Nat
 | .sc _ => 1
 | .cut _ _ _ => 1
 | .sl l _ => wL l + 1
def wL : List Dat → Nat
 | [] => 0
 | d :: r => wD d + wL r
end
theorem zgv : wL [] = 0 := by rw [wL]
theorem zdx (d : Dat) (r : List Dat) : wL (d :: r) = wD d + wL r := by rw [wL]
theorem zfP (a b : List Dat) : wL (a ++ b) = wL a + wL b := by
 induction a with
 | nil => rw [zgv, List.nil_append, Nat.zero_add]
 | cons d r ih => rw [List.cons_append, zdx, zdx, ih]; omega
section
variable {H : Type}
end
section
variable {H : Type} {enc : TypeId × Value → H} {P : Program} {W : World} {tab : TTab} {B : Nat}
def CellsW (B : Nat) (W : World) (Fr : Nat → Prop) (fs : List Shp) (cs : List Value) : Prop := ∃ ds : List Dat, (Fits fs ds ∧ wL ds ≤ B) ∧ cs.length = ds.length ∧ ∀ (i : Nat) (d : Dat) (u : Value), ds[i]? = some d → cs[i]? = some u → DRel W Fr d u
theorem CellsW.mono {Fr : Nat → Prop} {B' : Nat} {a : List Shp} {l : List Value} (h : CellsW B W Fr a l) (hb : B ≤ B') : CellsW B' W Fr a l := by
 obtain ⟨d, ⟨f, s⟩, h1, h2⟩ := h
 exact ⟨d, ⟨f, Nat.le_trans s hb⟩, h1, h2⟩
theorem CellsW.append {Fr : Nat → Prop} {B' : Nat} {a b : List Shp} {l m : List Value} (h1 : CellsW B W Fr a l) (h2 : CellsW B' W Fr b m) : CellsW (B + B') W Fr (a ++ b) (l ++ m) := by
 obtain ⟨d1, ⟨f1, s1⟩, l1, r1⟩ := h1
 obtain ⟨d2, ⟨f2, s2⟩, l2, r2⟩ := h2
 refine ⟨d1 ++ d2, ⟨zcA f1 f2, by rw [zfP]; omega⟩, by simp [l1, l2], fun i d u e1 e2 => ?_⟩
 rw [List.getElem?_append] at e1 e2
 rw [l1] at e2
 split at e1
 ·rename_i hi; rw [if_pos hi] at e2; exact r1 i d u e1 e2
 ·rename_i hi; rw [if_neg hi] at e2; exact r2 _ d u e1 e2
theorem CellsW.one {Fr : Nat → Prop} {s : Shp} {v : Value} {d : Dat} (h1 : ShD s d) (h0 : wD d ≤ B) (h2 : DRel W Fr d v) : CellsW B W Fr [s] [v] := by
 refine ⟨[d], ⟨⟨rfl, fun i s' d' e1 e2 => ?_⟩, by rw [zdx, zgv]; omega⟩, rfl, fun i d' u e1 e2 => ?_⟩
 ·match i with
  | 0 => simp at e1 e2; subst e1 e2; exact h1
  | i + 1 => simp at e1
 ·match i with
  | 0 => simp at e1 e2; subst e1 e2; exact h2
  | i + 1 => simp at e1
end
end Go.Proofs.YtoahnbmedcjpeaaGreatDoor.Ab

namespace Go.Proofs.YtoahnbmedcjpeaaGreatDoor
open Go.ChangeShapes Go.WideShapes Go.ChangeAt Go.RowKit
theorem zdD : WalkedNL 3 [] := by
 intro H enc W args ds ps hval hA hwt hgl
 obtain ⟨e0, rfl, rfl⟩ := trodAll_nil hA
 obtain rfl : args = #[] := by cases args; simp_all
 have HC := Ab.zb6
 refine (HC.2 _ _ W _ _ _ W (Ab.HRel.none (fun _ => False) W (fun _ h => h.elim) hgl) ⟨rfl, fun i c u h1 h2 => by cases h1⟩).mono ?_
 rintro x w' ⟨u, c, h', ι', rfl, ⟨rfl, rfl⟩, hH, hv⟩
 obtain ⟨rfl, _⟩ := Ab.zL hv
 have G := hH.grewC
 exact ⟨rfl, G.os, G.tape, G.output, G.size, fun k hk => G.mem k hk⟩
def tabCells (d : DataW Unit) : Array Value := match d with
 | .agg l => (l.map fun x => match x with
  | .lit (.int k n) => Value.int k n
  | _ => Value.bool false).toArray
 | _ => #[]
def laidAt (g : Nat) (d : DataW Unit) (w : World) : World := { w with heap := w.heap.modify g fun
 | .cells _ t frozen => .cells (tabCells d) t frozen
 | o => o }
noncomputable def laidWorld (os : Os) : World := laidAt 2 Rows.laid_math_bits_deBruijn32tab (laidAt 3 Rows.laid_math_bits_deBruijn64tab (laidAt 1 Rows.laid_internal_strconv_uint64pow10 (World.holding Tryz.prog os ⟨#[], #[], []⟩)))
theorem zgZ (os : Os) : laidMet Tryz.prog Rows.modelNamesRow.laid ((laidWorld os).forCall (fun _ _ => 0) ⟨#[], #[], []⟩).memory :=
 laidMet_of_run' 8 (by kernel_rfl) (by kernel_rfl)
theorem zee (os : Os) {H : Type} (enc : TypeId × Value → H) : ∃ places, DataW.whole enc Tryz.prog ((laidWorld os).forCall (fun _ _ => 0) ⟨#[], #[], []⟩).memory Tryz.f3.params.toList Rows.modelNamesSpec.vars false #[].toList 8 = some ([], [], places) :=
 ⟨[], by kernel_rfl⟩
theorem zdE (os : Os) (started : os.Started) (H : Type) (enc : TypeId × Value → H) (F : Stop.Interp) :
  ReturnsInHanded {} Tryz.checked os 3 .any ((OpenSpec.ofChange Rows.modelNamesSpec).preRow enc Tryz.prog Tryz.f3 Rows.modelNamesRow.domain false Rows.modelNamesRow.laid) (((OpenSpec.ofChange Rows.modelNamesSpec).at F).post enc Tryz.prog Tryz.f3 false true false false) := by
 obtain ⟨places, hx⟩ := zee os enc
 refine zeX (tb := 4) (s := Rows.modelNamesSpec) Tryz.func3 (by kernel_rfl) (by kernel_rfl) Tryz.underlying4 rfl (by kernel_rfl) ?_ ?_ (fun W h1 h2 => zf4 h1 h2) ?_ os started H enc F
  (witness_row_at (enc := enc) (C := Tryz.checked) false (laidWorld os) #[] rfl (by kernel_rfl) (by kernel_rfl) (by kernel_rfl)
   (OpenSpec.preRow_of_cond 8 hx (by kernel_rfl) (fun k hk => by cases hk) (by kernel_rfl) (zgZ os)))
 ·intro H ds hl
  rw [show Tryz.f3.params = #[] from Tryz.params3] at hl
  match ds, hl with
  | [], _ => exact ⟨rfl, rfl, rfl⟩
 ·rw [show Tryz.f3.params = #[] from Tryz.params3]
  intro t ht
  simp at ht
 ·rw [show Tryz.f3.params = #[] from Tryz.params3]
  exact zdD
end Go.Proofs.YtoahnbmedcjpeaaGreatDoor

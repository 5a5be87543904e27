/-
 Texts of a proof, one behind the other (part 48).
-/
import Derived.Test.YtoahnbmedcjpeaaGreatDoorRows
import Derived.Lib.LaidTab
import Derived.Shelf.Vars
import Derived.ProofKit
import Derived.Deep.DeepHandedRow
import Derived.Deep.CondSized
import Derived.Test.YtoahnbmedcjpeaaGreatDoorCards
import Derived.Test.YtoahnbmedcjpeaaGreatDoorTie
import Derived.OpenShut
import Derived.Test.YtoahnbmedcjpeaaGreatDoorMo0
import Derived.Test.YtoahnbmedcjpeaaGreatDoorMo1
import Derived.Test.YtoahnbmedcjpeaaGreatDoorMo3
import Derived.Test.YtoahnbmedcjpeaaGreatDoorMo46
set_option maxRecDepth 100000
set_option linter.unusedVariables false
set_option linter.unusedSimpArgs false
namespace Go.Proofs.YtoahnbmedcjpeaaGreatDoor
open Go.ChangeShapes Go.WideShapes Go.ChangeAt Go.RowKit
theorem zhJ {W : World} (hS : W.ShapedOpen Tryz.prog) {g : Nat} (hg : g < Tryz.prog.globals.size) (h : (((begin Tryz.prog (fun _ _ => 0) default).world.heap[g]?).bind Obj.row?).isSome = true) : ∃ cs t, W.heap[g]? = some (.cells cs t) := by
 obtain ⟨⟨zero, t⟩, h0⟩ := Option.isSome_iff_exists.1 h
 obtain ⟨cs, h1, _⟩ := hS.1 g zero t hg h0
 exact ⟨cs, t, h1⟩
theorem zi4 {W : World} (hS : W.ShapedOpen Tryz.prog) {g : Nat} {t : TypeId} (hg : g < Tryz.prog.globals.size) (h : (((begin Tryz.prog (fun _ _ => 0) default).world.heap[g]?).bind Obj.row?).map (fun p => (p.1.size, p.2)) = some (1, t)) (hb : Tryz.prog.buildable t = true) (hc : Tryz.prog.cellTypes Tryz.prog.depth t = some [t]) (hu : Tryz.prog.underlying t = some (.int .i64)) : ∃ m t fr, W.heap[g]? = some (.cells #[.int .i64 m] t fr) := by
 cases h0 : ((begin Tryz.prog (fun _ _ => 0) default).world.heap[g]?).bind Obj.row? with
 | none => rw [h0] at h; cases h
 | some p =>
  obtain ⟨zero, t'⟩ := p
  rw [h0] at h
  have h3 : zero.size = 1 ∧ t' = t := by simpa using h
  obtain ⟨h3, rfl⟩ := h3
  obtain ⟨m, hm⟩ := cell_of_shapedOpen_int hS hg h0 h3 hb hc hu
  obtain ⟨cs, h1, h2, _⟩ := hS.1 g zero t' hg h0
  refine ⟨m, t', (0, 0), ?_⟩
  rw [h1]
  have h4 : cs.size = 1 := by rw [h2, h3]
  have h5 : 0 < cs.size := by omega
  have h6 : cs[0] = .int .i64 m := by
   unfold World.cell? at hm
   rw [h1] at hm
   simpa [h5] using hm
  have h7 : cs = #[.int .i64 m] := by
   apply Array.ext
   ·rw [h4]; rfl
   ·intro i hi _
    have : i = 0 := by omega
    subst this
    exact h6
  rw [h7]
theorem zhq {P : Program} {W : World} {a b : String × DataW Unit} {name : String} {k : IntKind} {zs : List Int} {rest : List (String × DataW Unit)} {g : Nat} {t e : TypeId} {n : Nat}
  (hg : P.globalNamed name = some g) (hty : (P.globals[g]?).map (·.type) = some t) (ht : P.underlying t = some (.array n e)) (he : P.underlying e = some (.int k)) (hce : P.cellsOf e = 1) (hct : P.cellsOf t = n)
  (h : laidMet P (a :: b :: (name, Lib.tabData k zs) :: rest) W) : ∃ t fr, W.heap[g]? = some (.cells (zs.map fun z => Value.int k z).toArray t fr) := by
 obtain ⟨ps, ⟨_, _, _, _, _, _, _, _, _, _, ⟨_, _, _, _, _, _, _, _, _, _, ⟨g', t', cs, fuel, p, q, hg', ht', hvar, hd, _, _⟩, _⟩, _⟩, _⟩ := h
 obtain rfl := Option.some.inj (hg.symm.trans hg')
 obtain rfl := Option.some.inj (hty.symm.trans ht')
 unfold World.var? at hvar
 rw [hg] at hvar
 simp only [Option.bind_some] at hvar
 split at hvar
 ·rename_i cs' t' fr hh
  cases hvar
  refine ⟨t', fr, ?_⟩
  rw [hh, ← Lib.cells_of_tab ht he hce hct hd]
 ·cases hvar
theorem zhK {W : World} (hL : laidMetH Tryz.prog Rows.modelFormUptoRow.laid W) (hS : W.ShapedOpen Tryz.prog) : Ab.GlobOk W := by
 refine ⟨?_, ?_, ?_⟩
 ·obtain ⟨cs, t, h⟩ := zhJ (g := Ab.gN - 1) hS (of_decide_eq_true (by kernel_rfl)) (by kernel_rfl)
  have := (Array.getElem?_eq_some_iff.1 h).1
  show Ab.gN ≤ _
  unfold Ab.gN at *
  omega
 ·exact zi4 (t := 3) hS (of_decide_eq_true (by kernel_rfl)) (by kernel_rfl) (by kernel_rfl) (by kernel_rfl) (by kernel_rfl)
 ·exact zhq (g := 1) (zs := Ab.pow10L) (n := 20) (e := 206) (by kernel_rfl) rfl (by kernel_rfl) (by kernel_rfl) (by kernel_rfl) (by kernel_rfl) hL
end Go.Proofs.YtoahnbmedcjpeaaGreatDoor

namespace Go.Proofs.YtoahnbmedcjpeaaGreatDoor
open Go.ChangeShapes Go.WideShapes Go.ChangeAt Go.RowKit
def WalkedUL (k : FuncId) (params : List TypeId) : Prop :=
 ∀ (H : Type) (enc : TypeId × Value → H) (W : World) (args : Array Value) (ds : List (DataW H)) (ps : List MemPlace), (∀ (j : Nat) t v, params[j]? = some t → args[j]? = some v → ∃ base, Value.okWide Tryz.prog W .any base t v) →
  DataW.TrodAll enc Tryz.prog W 0 (fun _ => true) true params args.toList ds ps → (DataW.weightsEach Tryz.prog params ds).all (· ≤ reachBytes) = true → Rows.uptoBulkAll ds ≤ 1048576 → Ab.GlobOk W → Calls Tryz.prog k args W (Ret W (.bool true))
theorem zgt {k : FuncId} {f : Func} {s : ChangeSpec} {tb : TypeId} {laid : List (String × DataW Unit)} (hf : Tryz.prog.funcs[k]? = some f) (hno : Tryz.prog.inits.idxOf? k = none) (hrt : f.resultTypes = #[tb]) (hub : Tryz.prog.underlying tb = some .bool)
  (hv : s.vars = []) (hvt : (Rows.OpenSpec.upto s).bare.plain.varTypes Tryz.prog = [])
  (hfn : ∀ (H : Type) (ds : List (DataW H)), ds.length = f.params.size → (s.fn H ds).results = [.lit (.bool true)] ∧ (s.fn H ds).args = ds ∧ (s.fn H ds).vars = [])
  (hr : ∀ t ∈ f.params.toList, Tryz.prog.readableRec t = true ∧ t < Tryz.prog.types.size) (hgl : ∀ W, laidMetH Tryz.prog laid W → W.ShapedOpen Tryz.prog → Ab.GlobOk W) (walk : WalkedUL k f.params.toList)
  (os : Os) (started : os.Started) (H : Type) (enc : TypeId × Value → H) (F : Stop.Interp)
  (wit : ∃ (w : World) (tape : Tape) (i : Input), w.os = os ∧ (w.forCall tape i).Shaped Tryz.prog ∧ i.vars = [] ∧ Input.okWide Tryz.prog (w.forCall tape i) .any w.heap.size k i ∧
   (Rows.OpenSpec.upto s).preRow enc Tryz.prog f [] false laid (w.forCall tape i).memory i.args ∧ ({} : Assume).holds Tryz.prog (lone (Frame.enter Tryz.prog k i.args .normal) [] (w.forCall tape i))) :
  ReturnsInHanded {} Tryz.checked os k .any ((Rows.OpenSpec.upto s).preRow enc Tryz.prog f [] false laid) (((Rows.OpenSpec.upto s).at F).post enc Tryz.prog f false true false false) := by
 refine returnsInHanded_of_row (C := Tryz.checked) (s := Rows.OpenSpec.upto s) own_ started hno hf wit ?_
 intro W base args ds gs before hval0 hW _ hk hsz hL hS _
 have hW' : DataW.Whole enc Tryz.prog f.params.toList s.vars false W args.toList ds gs before := hW
 obtain ⟨p, q, hA0, hV, _, _, _⟩ := hW'
 have hW' : DataW.Whole enc Tryz.prog f.params.toList s.vars false W args.toList ds gs before := hW
 have hA : DataW.TrodAll enc Tryz.prog W 0 (fun _ => true) true f.params.toList args.toList ds p := hA0
 have hg : gs = [] := by
  rw [hv] at hV
  exact (trodVars_none hV).1
 subst hg
 have hlen : ds.length = f.params.size := by
  have : ∀ (ts : List TypeId) (vs : List Value) (ds : List (DataW H)) (ps : List MemPlace), DataW.TrodAll enc Tryz.prog W 0 (fun _ => true) true ts vs ds ps → ds.length = ts.length := by
   intro ts
   induction ts with
   | nil => intro vs ds ps h; obtain ⟨_, rfl, _⟩ := trodAll_nil h; rfl
   | cons t ts ih =>
    intro vs ds ps h
    obtain ⟨_, _, _, _, _, _, _, rfl, _, _, h2⟩ := trodAll_cons h
    simp [ih _ _ _ h2]
  simpa using this _ _ _ _ hA
 have hF := hfn H ds hlen
 have hsz' : (DataW.weightsEach Tryz.prog f.params.toList ds).all (· ≤ reachBytes) = true := by
  have e : (Rows.OpenSpec.upto s).bare.plain.varTypes (Tryz.checked).prog = [] := hvt
  rw [e, List.append_nil, List.append_nil] at hsz
  exact hsz
 have hbk : Rows.uptoBulkAll ds ≤ 1048576 := by
  have := hk Rows.uptoSmall rfl
  rw [List.append_nil] at this
  exact of_decide_eq_true this
 refine (walk H enc W args ds p (fun j t v h1 h2 => ⟨base, hval0 j t v (by simpa using h1) h2⟩) hA hsz' hbk (hgl W hL hS)).mono ?_
 rintro e W' ⟨rfl, hb⟩
 refine ⟨_, rfl, ?_⟩
 show s.post enc Tryz.prog f false true false false W args (.bool true) W'
 refine ziS hrt hub hv ?_ ?_ ?_ zlm hr hW' hb
 ·rw [List.append_nil]; exact hF.1
 ·rw [List.append_nil]; exact hF.2.1
 ·rw [List.append_nil]; exact hF.2.2
end Go.Proofs.YtoahnbmedcjpeaaGreatDoor

namespace Go.Proofs.YtoahnbmedcjpeaaGreatDoor.Ab
open Go.RowKit Go.ChangeShapes Go.WideShapes Go.ChangeAt
mutual
def wD : Dat → Nat
 | .sc _ => 1
 | .cut _ _ _ => 1
 | .sl l _ => wL l + 1
def wL : List Dat → Nat
 | [] => 0
 | d :: r => wD d + wL r
end
theorem zb8 (l : List Dat) (n : Nat) : wD (.sl l n) = wL l + 1 := by rw [wD]
theorem zcP (x : Value) : wD (.sc x) = 1 := by rw [wD]
theorem zbm : wL [] = 0 := by rw [wL]
theorem za2 (d : Dat) (r : List Dat) : wL (d :: r) = wD d + wL r := by rw [wL]
theorem zbM (a b : List Dat) : wL (a ++ b) = wL a + wL b := by
 induction a with
 | nil => rw [zbm, List.nil_append, Nat.zero_add]
 | cons d r ih => rw [List.cons_append, za2, za2, ih]; omega
theorem zdt {d : Dat} {l : List Dat} (h : d ∈ l) : wD d ≤ wL l := by
 induction l with
 | nil => cases h
 | cons x r ih =>
  rw [za2]
  rcases List.mem_cons.1 h with rfl | h
  ·omega
  ·have := ih h; omega
section
variable {H : Type}
theorem zbZ (d : DataW H) : 1 ≤ Rows.uptoBulk d := by
 cases d with
 | lit l => cases l <;> simp [Rows.uptoBulk]
 | nil => simp [Rows.uptoBulk]
 | ptr d => simp [Rows.uptoBulk]
 | slice elems spare => simp [Rows.uptoBulk]
 | agg parts => simp [Rows.uptoBulk]
 | iface t d => simp [Rows.uptoBulk]
 | map entries => simp [Rows.uptoBulk]
 | held h => simp [Rows.uptoBulk]
theorem zdC (a b : List (DataW H)) : Rows.uptoBulkAll (a ++ b) = Rows.uptoBulkAll a + Rows.uptoBulkAll b := by
 induction a with
 | nil => simp [Rows.uptoBulkAll]
 | cons x r ih => rw [List.cons_append]; simp only [Rows.uptoBulkAll, ih]; omega
end
section
variable {H : Type} {enc : TypeId × Value → H} {P : Program} {W : World} {tab : TTab} {B : Nat}
def CellsW (B : Nat) (W : World) (Fr : Nat → Prop) (fs : List Shp) (cs : List Value) : Prop := ∃ ds : List Dat, (Fits fs ds ∧ wL ds ≤ B) ∧ cs.length = ds.length ∧ ∀ (i : Nat) (d : Dat) (u : Value), ds[i]? = some d → cs[i]? = some u → DRel W Fr d u
theorem CellsW.mono {Fr : Nat → Prop} {B' : Nat} {a : List Shp} {l : List Value} (h : CellsW B W Fr a l) (hb : B ≤ B') : CellsW B' W Fr a l := by
 obtain ⟨d, ⟨f, s⟩, h1, h2⟩ := h
 exact ⟨d, ⟨f, Nat.le_trans s hb⟩, h1, h2⟩
theorem CellsW.append {Fr : Nat → Prop} {B' : Nat} {a b : List Shp} {l m : List Value} (h1 : CellsW B W Fr a l) (h2 : CellsW B' W Fr b m) : CellsW (B + B') W Fr (a ++ b) (l ++ m) := by
 obtain ⟨d1, ⟨f1, s1⟩, l1, r1⟩ := h1
 obtain ⟨d2, ⟨f2, s2⟩, l2, r2⟩ := h2
 refine ⟨d1 ++ d2, ⟨zdI f1 f2, by rw [zbM]; omega⟩, by simp [l1, l2], fun i d u e1 e2 => ?_⟩
 rw [List.getElem?_append] at e1 e2
 rw [l1] at e2
 split at e1
 ·rename_i hi; rw [if_pos hi] at e2; exact r1 i d u e1 e2
 ·rename_i hi; rw [if_neg hi] at e2; exact r2 _ d u e1 e2
theorem CellsW.one {Fr : Nat → Prop} {s : Shp} {v : Value} {d : Dat} (h1 : ShD s d) (h0 : wD d ≤ B) (h2 : DRel W Fr d v) : CellsW B W Fr [s] [v] := by
 refine ⟨[d], ⟨⟨rfl, fun i s' d' e1 e2 => ?_⟩, by rw [za2, zbm]; omega⟩, rfl, fun i d' u e1 e2 => ?_⟩
 ·match i with
  | 0 => simp at e1 e2; subst e1 e2; exact h1
  | i + 1 => simp at e1
 ·match i with
  | 0 => simp at e1 e2; subst e1 e2; exact h2
  | i + 1 => simp at e1
theorem zhB (TO : TabOk P tab) {Fr : Nat → Prop} (hF : ∀ b, Fr b) : ∀ (n : Nat) (t : TypeId) (fs : List Shp) (fl : Nat) (cs : List Value) (y : DataW H × List MemPlace), shp tab n t = some fs →
  DataW.trod enc P W 0 (fun _ => true) true fl t cs = some y → (y.1.weights P t).all (· ≤ reachBytes) = true → P.cellsOf t = fs.length ∧ CellsW (Rows.uptoBulk y.1) W Fr fs cs := by
 intro n
 induction n with
 | zero => intro t fs fl cs y h; cases h
 | succ n ih =>
  intro t fs fl cs y h hy hwt
  rw [shp] at h
  cases ht : tlook tab t with
  | none => rw [ht] at h; cases h
  | some te =>
   rw [ht] at h
   have Fa := TO t te ht
   have hcells := Fa.cellsOf
   obtain ⟨dsc, hund, _, hsh⟩ := Fa.und
   have one : ∀ {b : Bool} {x z : Option (List Shp)}, cond b x z = some fs → z = none → b = true ∧ x = some fs := fun {b x z} h hz => by
    cases b
    ·rw [cond_false, hz] at h; cases h
    ·exact ⟨rfl, h⟩
   dsimp only at h
   cases hs : te.sh with
   | it k =>
    rw [hs] at h hsh
    cases hsh
    obtain ⟨h1, h2⟩ := one h rfl
    cases h2
    obtain ⟨v, e1, _, e2⟩ := DataW.trod_int hund hy
    subst e1
    exact ⟨by rw [hcells, Nat.eq_of_beq_eq_true h1]; rfl, .one (.it k v (zgu e2)) (by rw [zcP]; exact zbZ _) (.sc _ rfl)⟩
   | bo =>
    rw [hs] at h hsh
    cases hsh
    obtain ⟨h1, h2⟩ := one h rfl
    cases h2
    obtain ⟨v, e1, _⟩ := DataW.trod_bool hund hy
    subst e1
    exact ⟨by rw [hcells, Nat.eq_of_beq_eq_true h1]; rfl, .one (.bo v) (by rw [zcP]; exact zbZ _) (.sc _ rfl)⟩
   | str =>
    rw [hs] at h hsh
    cases hsh
    obtain ⟨h1, h2⟩ := one h rfl
    cases h2
    obtain ⟨v, e1, _⟩ := DataW.trod_string hund hy
    subst e1
    exact ⟨by rw [hcells, Nat.eq_of_beq_eq_true h1]; rfl, .one (.st v.data.toList) (by rw [zcP]; exact zbZ _) (.sc _ rfl)⟩
   | sl e =>
    rw [hs] at h hsh
    cases hsh
    dsimp only at h
    cases hbe : tbytes tab e with
    | none => rw [hbe] at h; cases h
    | some be =>
    rw [hbe] at h
    dsimp only at h
    cases he : shp tab n e with
    | none => rw [he] at h; cases h
    | some es =>
     rw [he] at h
     have hbe2 : P.bytesOf e = be := by
      unfold tbytes at hbe
      cases hte : tlook tab e with
      | none => rw [hte] at hbe; cases hbe
      | some te2 => rw [hte] at hbe; cases hbe; exact (TO e te2 hte).bytesOf
     match es, he, h with
     | [], he, h => cases h
     | s :: ss, he, h =>
      obtain ⟨h1, h2⟩ := one h rfl
      cases h2
      refine ⟨by rw [hcells, Nat.eq_of_beq_eq_true h1]; rfl, ?_⟩
      rcases Go.Deep.open_slice hund hy with ⟨q1, _⟩ | ⟨a, len, cap, m, fl2, D, Pl, q1, _, hle, _, hm, hye, hx⟩
      ·subst q1
       exact .one (.sl (s :: ss) be [] (by simp) (by simp) (by simp)) (by rw [zb8, List.flatten_nil, zbm]; exact zbZ _) .nil
      ·subst q1
       have hm' : m = cap := by rw [hm]; rfl
       subst hm'
       have hwt' := hwt
       rw [hye] at hwt'
       unfold DataW.weights at hwt'
       rw [hund] at hwt'
       simp only [List.all_cons, List.all_append, Bool.and_eq_true, decide_eq_true_eq, List.length_map, List.length_range] at hwt'
       obtain ⟨hbytes, hwE, hwS⟩ := hwt'
       have hlenB : len * be ≤ 140737488351232 := by
        rw [hbe2] at hbytes
        have : len * be ≤ (len + (m - len)) * be := Nat.mul_le_mul_right _ (by omega)
        unfold reachBytes at hbytes
        omega
       have hwD : ∀ i, i < m → ((D i).weights P e).all (· ≤ reachBytes) = true := fun i hi => by
        by_cases hil : i < len
        ·exact zbG _ hwE (D i) (List.mem_map.2 ⟨i, by simpa using hil, rfl⟩)
        ·have : D i = D (len + (i - len)) := by congr 1; omega
         rw [this]
         exact zbG _ hwS _ (List.mem_map.2 ⟨i - len, by simp; omega, rfl⟩)
       have hK : 0 < m → P.cellsOf e = (s :: ss).length := fun h0 => by
        obtain ⟨cs', g1, g2⟩ := hx 0 h0
        exact (ih e _ _ _ _ he g2 (hwD 0 h0)).1
       by_cases h0 : m = 0
       ·subst h0
        obtain rfl : len = 0 := by omega
        exact .one (.sl (s :: ss) be [] (by simp) (by simp) (by simp)) (by rw [zb8, List.flatten_nil, zbm]; exact zbZ _) (.emp a)
       ·have hK := hK (by omega)
        have hsp : a.spot = none := by
         obtain ⟨cs', g1, g2⟩ := hx 0 (by omega)
         obtain ⟨_, g3, g4⟩ := World.cells?_some g1
         have := g4 0 (by rw [hK]; simp)
         have hne : cs'[0]? ≠ none := by
          rw [List.getElem?_eq_getElem (by rw [g3, hK]; simp)]; simp
         cases hc : cs'[0]? with
         | none => exact absurd hc hne
         | some v =>
          rw [hc] at this
          have := World.cell?_spot this
          simpa [Addr.add] using this
        obtain ⟨b, o, sp⟩ := a
        dsimp only at hsp
        subst hsp
        have key : ∀ k, k ≤ len → ∃ (ls : List (List Dat)) (vs : List Value), ls.length = k ∧ ((∀ l ∈ ls, Fits (s :: ss) l) ∧ wL ls.flatten ≤ Rows.uptoBulkAll ((List.range k).map D)) ∧ vs.length = ls.flatten.length ∧ vs.length = k * (s :: ss).length ∧ (∀ (i : Nat) (u : Value), vs[i]? = some u → W.cell? ⟨b, o + i, none⟩ = some u) ∧
          ∀ (i : Nat) (c : Dat) (u : Value), ls.flatten[i]? = some c → vs[i]? = some u → DRel W Fr c u := by
         intro k
         induction k with
         | zero => exact fun _ => ⟨[], [], rfl, ⟨by simp, Nat.zero_le _⟩, rfl, by simp, by simp, by simp⟩
         | succ k ihk =>
          intro hk
          obtain ⟨ls, vs, k1, ⟨k2, kw⟩, k3, k4, k5, k6⟩ := ihk (by omega)
          obtain ⟨cs', g1, g2⟩ := hx k (by omega)
          obtain ⟨_, ds, ⟨f1, f0⟩, f2, f3⟩ := ih e _ _ _ _ he g2 (hwD k (by omega))
          obtain ⟨_, g3, g4⟩ := World.cells?_some g1
          refine ⟨ls ++ [ds], vs ++ cs', by simp [k1], ⟨fun l hl => ?_, ?_⟩, ?_, ?_, fun i u hu => ?_, fun i c u h1 h2 => ?_⟩
          ·rcases List.mem_append.1 hl with hl | hl
           ·exact k2 l hl
           ·simp at hl; subst hl; exact f1
          ·rw [List.flatten_append, zbM, List.range_succ, List.map_append, zdC]
           have : wL [ds].flatten = wL ds := by simp
           rw [this]
           simp only [List.map_cons, List.map_nil, Rows.uptoBulkAll]
           dsimp only at f0
           omega
          ·simp [List.flatten_append, k3, f2]
          ·rw [List.length_append, k4, g3, hK, Nat.add_mul]; omega
          ·rw [List.getElem?_append] at hu
           split at hu
           ·exact k5 i u hu
           ·rename_i hge
            have hlt := (List.getElem?_eq_some_iff.1 hu).1
            have g5 := g4 (i - vs.length) (by rw [← g3]; exact hlt)
            rw [hu] at g5
            rw [hK] at g5
            rw [Addr.add_mid, Addr.add_mid] at g5
            rw [show o + i = o + k * (s :: ss).length + (i - vs.length) by omega]
            exact g5
          ·rw [List.flatten_append, List.getElem?_append] at h1
           rw [List.getElem?_append] at h2
           rw [k3] at h2
           split at h1
           ·rename_i hi; rw [if_pos hi] at h2; exact k6 i c u h1 h2
           ·rename_i hi; rw [if_neg hi] at h2; exact f3 _ c u (by simpa using h1) h2
        obtain ⟨ls, vs, k1, ⟨k2, kw⟩, k3, _, k5, k6⟩ := key len (Nat.le_refl _)
        subst k1
        exact .one (.sl (s :: ss) be ls hlenB (fun l hl => (k2 l hl).1) fun l hl => (k2 l hl).2) (by rw [zb8, hye]; simp only [Rows.uptoBulk]; omega) (.sl _ _ b o _ vs hle k3 (fun _ => hF b) k5 k6)
   | st fs0 =>
    rw [hs] at h
    dsimp only at h
    obtain ⟨F, hF1, hF2⟩ := Fa.struct hs
    obtain ⟨hlen, fl2, parts, hye, hfs⟩ := zeK hF1 hy
    have hwt' := hwt
    rw [hye] at hwt'
    unfold DataW.weights at hwt'
    rw [hF1] at hwt'
    dsimp only at hwt'
    cases hl : shpF (shp tab n) fs0 [] with
    | none => rw [hl] at h; cases h
    | some l =>
     rw [hl] at h
     obtain ⟨h1, h2⟩ := one h rfl
     cases h2
     have h1 := Nat.eq_of_beq_eq_true h1
     refine ⟨by rw [hcells, h1], ?_⟩
     have key : ∀ (fs : List (Nat × TypeId)) (j : Nat) (acc l : List Shp), (∀ (q : Nat) (p : Nat × TypeId), fs[q]? = some p → ∃ f : Field, F.toList[j + q]? = some f ∧ p = (f.offset, f.type)) → shpF (shp tab n) fs acc = some l → CellsW (Rows.uptoBulkAll (parts.take j)) W Fr acc (cs.take acc.length) → (l.length ≤ cs.length) → CellsW (Rows.uptoBulkAll parts) W Fr l (cs.take l.length) := by
      intro fs
      induction fs with
      | nil =>
       intro j acc l _ h h3 _
       cases h
       refine h3.mono ?_
       have := zdC (parts.take j) (parts.drop j)
       rw [List.take_append_drop] at this
       omega
      | cons p r ihr =>
       intro j acc l hp h h3 hle
       obtain ⟨off, u⟩ := p
       rw [shpF] at h
       cases hg : shp tab n u with
       | none => rw [hg] at h; cases h
       | some s =>
        rw [hg] at h
        dsimp only at h
        cases hb : Nat.beq off acc.length with
        | false => rw [hb] at h; cases h
        | true =>
         rw [hb, cond_true] at h
         obtain ⟨f, hf, hpe⟩ := hp 0 (off, u) rfl
         rw [Nat.add_zero] at hf
         cases hpe
         obtain ⟨y2, hy2, hy3⟩ := hfs j f hf
         obtain ⟨c1, c2⟩ := ih _ _ _ _ _ hg hy2 (zbo _ _ hwt' j _ _ (by rw [List.getElem?_map, hf]; rfl) hy3)
         rw [c1, Nat.eq_of_beq_eq_true hb] at c2
         refine ihr (j + 1) (acc ++ s) l (fun q p hq => by have := hp (q + 1) p (by simpa using hq); rw [show j + 1 + q = j + (q + 1) by omega]; exact this) h ?_ hle
         have e : cs.take (acc ++ s).length = cs.take acc.length ++ (cs.drop acc.length).take s.length := by
          rw [List.length_append, List.take_add]
         rw [e]
         have hj := (List.getElem?_eq_some_iff.1 hy3).1
         have e2 : Rows.uptoBulkAll (parts.take (j + 1)) = Rows.uptoBulkAll (parts.take j) + Rows.uptoBulk y2.1 := by
          rw [List.take_succ_eq_append_getElem hj, zdC, (List.getElem?_eq_some_iff.1 hy3).2]
          simp only [Rows.uptoBulkAll]
          omega
         rw [e2]
         exact h3.append c2
     have := key fs0 0 [] fs (fun q p hp => by
      rw [← hF2, List.getElem?_map] at hp
      cases hf : F.toList[q]? with
      | none => rw [hf] at hp; cases hp
      | some f => rw [hf] at hp; cases hp; exact ⟨f, by rw [Nat.zero_add]; exact hf, rfl⟩) hl ⟨[], ⟨⟨rfl, by simp⟩, Nat.zero_le _⟩, by simp, by simp⟩ (by rw [hlen, hcells, h1]; exact Nat.le_refl _)
     rw [List.take_of_length_le (by rw [hlen, hcells, h1]; exact Nat.le_refl _)] at this
     refine this.mono ?_
     rw [hye]
     simp only [Rows.uptoBulk]
     omega
   | ar => rw [hs] at h; cases h
   | mp => rw [hs] at h; cases h
   | pt => rw [hs] at h; cases h
   | fu => rw [hs] at h; cases h
   | other => rw [hs] at h; cases h
theorem zfR (TO : TabOk P tab) {t : TypeId} {s : Shp} {v : Value} {d : DataW H} {p : List MemPlace} (hs : shp tab 16 t = some [s]) (hv : v.cells.toList = [v]) (h : DataW.Trod enc P W 0 (fun _ => true) true t v d p) (hwt : (d.weights P t).all (· ≤ reachBytes) = true) {F : Nat → Prop} {ι : Nat → Option Value} (hF : ∀ b, FreeB F ι b) :
  ∃ x, (ShD s x ∧ wD x ≤ Rows.uptoBulk d) ∧ VRel W F ι (.d x) v := by
 obtain ⟨fl, hf⟩ := h
 obtain ⟨_, ds, ⟨h1, h0⟩, h2, h3⟩ := zhB TO hF 16 t [s] _ _ _ hs hf hwt
 obtain ⟨x, r, rfl, h4, h5⟩ := zk h1
 obtain rfl := zak h5
 rw [za2, zbm] at h0
 exact ⟨x, ⟨h4, h0⟩, .d _ _ (h3 0 x v rfl (by rw [hv]; rfl))⟩
end
end Go.Proofs.YtoahnbmedcjpeaaGreatDoor.Ab

namespace Go.Proofs.YtoahnbmedcjpeaaGreatDoor
open Go.ChangeShapes Go.WideShapes Go.ChangeAt Go.RowKit
namespace Ab
theorem zaI {α : Type} {enc : α → List Dat} {c : Nat} (hc : ∀ x, c ≤ wL (enc x)) : ∀ l : List α, l.length * c ≤ wL (l.flatMap enc)
 | [] => by simp
 | x :: r => by
  have := zaI hc r
  have := hc x
  rw [List.flatMap_cons, zbM, List.length_cons, Nat.add_mul]
  omega
end Ab
theorem zl9 (d : Dvc) (hd : d.ok) (hz : Ab.wL (Ab.dvcD d) ≤ 1048576) : OkF d := by
 have e3 := Ab.zdt (d := .sl (d.ifs.flatMap Ab.ifxD) d.ifs.length) (l := Ab.dvcD d) (by simp [Ab.dvcD])
 have e4 := Ab.zdt (d := .sl (d.fils.flatMap Ab.filD) d.fils.length) (l := Ab.dvcD d) (by simp [Ab.dvcD])
 have e6 := Ab.zdt (d := .sl (d.sts.flatMap Ab.staD) d.sts.length) (l := Ab.dvcD d) (by simp [Ab.dvcD])
 have e7 := Ab.zdt (d := .sl (d.pls.flatMap Ab.plstD) d.pls.length) (l := Ab.dvcD d) (by simp [Ab.dvcD])
 have e8 := Ab.zdt (d := .sl (d.cls.flatMap Ab.clstD) d.cls.length) (l := Ab.dvcD d) (by simp [Ab.dvcD])
 have e9 := Ab.zdt (d := .sl (d.pols.flatMap Ab.polD) d.pols.length) (l := Ab.dvcD d) (by simp [Ab.dvcD])
 rw [Ab.zb8] at e3 e4 e6 e7 e8 e9
 have n3 := Ab.zaI (enc := Ab.ifxD) (c := 11) (fun x => by unfold Ab.ifxD; simp only [Ab.za2, Ab.zbm, Ab.zcP, Ab.zb8]; omega) d.ifs
 have n4 := Ab.zaI (enc := Ab.filD) (c := 2) (fun x => by unfold Ab.filD; simp only [Ab.za2, Ab.zbm, Ab.zcP, Ab.zb8]; omega) d.fils
 have n6 := Ab.zaI (enc := Ab.staD) (c := 7) (fun x => by unfold Ab.staD; simp only [Ab.za2, Ab.zbm, Ab.zcP, Ab.zb8]; omega) d.sts
 have n7 := Ab.zaI (enc := Ab.plstD) (c := 2) (fun x => by unfold Ab.plstD; simp only [Ab.za2, Ab.zbm, Ab.zcP, Ab.zb8]; omega) d.pls
 have n8 := Ab.zaI (enc := Ab.clstD) (c := 2) (fun x => by unfold Ab.clstD; simp only [Ab.za2, Ab.zbm, Ab.zcP, Ab.zb8]; omega) d.cls
 have n9 := Ab.zaI (enc := Ab.polD) (c := 3) (fun x => by unfold Ab.polD; simp only [Ab.za2, Ab.zbm, Ab.zcP, Ab.zb8]; omega) d.pols
 exact ⟨hd, by omega, by omega, by omega, by omega, by omega, by omega⟩
namespace Ab
theorem zff {α : Type} {enc : α → List Dat} {l : List α} {x : α} (h : x ∈ l) : wL (enc x) ≤ wL (l.flatMap enc) := by
 obtain ⟨a, b, rfl⟩ := List.append_of_mem h
 rw [List.flatMap_append, List.flatMap_cons, zbM, zbM]
 omega
end Ab
theorem zkq {l : List Dvc} (h : ∀ d ∈ l, d.ok) (hz : Ab.wL (l.flatMap Ab.dvcD) ≤ 1048576) : ∀ d ∈ l, OkF d := fun d hd => zl9 d (h d hd) (Nat.le_trans (Ab.zff hd) hz)
theorem zin : Ab.shp Ab.tab 16 42 = some [.sl Ab.dvcS 264] := by kernel_rfl
theorem zim : Ab.shp Ab.tab 16 3 = some [Ab.hI] := by kernel_rfl
theorem zeH {H : Type} (d : DataW H) (r : List (DataW H)) : Rows.uptoBulkAll (d :: r) = Rows.uptoBulk d + Rows.uptoBulkAll r := by simp [Rows.uptoBulkAll]
theorem zeR : WalkedUL 4 [42, 3] := by
 intro H enc W args ds ps hval hA hwt hbk hgl
 have hwe := fun i t d h1 h2 => Ab.zbo _ _ hwt i t d h1 h2
 obtain ⟨v0, vs0, d0, ds0, p0, q0, e0, rfl, rfl, h0, r0⟩ := trodAll_cons hA
 obtain ⟨v1, vs1, d1, ds1, p1, q1, rfl, rfl, rfl, h1, r1⟩ := trodAll_cons r0
 obtain ⟨rfl, rfl, rfl⟩ := trodAll_nil r1
 obtain rfl : args = #[v0, v1] := by cases args; simp_all
 rw [zeH, zeH] at hbk
 have hF : ∀ b, Ab.FreeB (fun _ => False) (fun _ => none) b := Ab.FreeB.all
 obtain ⟨b0, o0⟩ := hval 0 42 v0 rfl rfl
 obtain ⟨w0a, w0n, w0c, rfl⟩ := okWide_slice Tryz.underlying42 o0
 obtain ⟨D0, ⟨f0, z0⟩, x0⟩ := Ab.zfR Ab.za zin rfl h0 (hwe 0 _ _ rfl rfl) hF
 obtain ⟨l, hlb, hl, rfl⟩ := Ab.zaG f0 Ab.dvcD Dvc.ok Ab.zlM
 obtain ⟨b1, o1⟩ := hval 1 3 v1 rfl rfl
 obtain ⟨w1, rfl⟩ := okWide_int Tryz.underlying3 o1
 obtain ⟨D1, ⟨f1, z1⟩, x1⟩ := Ab.zfR Ab.za zim rfl h1 (hwe 1 _ _ rfl rfl) hF
 obtain ⟨n, rfl, hn⟩ := Ab.rd_i f1
 rw [Ab.zb8] at z0
 have n0 := Ab.zaI (enc := Ab.dvcD) (c := 12) (fun x => by unfold Ab.dvcD; simp only [Ab.za2, Ab.zbm, Ab.zcP, Ab.zb8]; omega) l
 have e1 : l.flatMap Ab.dvcD = (l.take 12).flatMap Ab.dvcD ++ (l.drop 12).flatMap Ab.dvcD := by rw [← List.flatMap_append, List.take_append_drop]
 have e2 : l.length = (l.take 12).length + (l.drop 12).length := by rw [← List.length_append, List.take_append_drop]
 have hO := zkq hl (by omega)
 have HC := Ab.zeX (l.take 12) (l.drop 12) n hn (by rw [List.length_take]; omega) (fun hne => by
   rw [List.length_take]
   have : (l.drop 12).length ≠ 0 := fun h => hne (List.length_eq_zero_iff.1 h)
   rw [List.length_drop] at this
   omega) (by omega) (fun d hd => hO d (List.mem_of_mem_take hd))
 rw [← e1, ← e2] at HC
 refine (HC.2 _ _ W _ _ _ W (Ab.HRel.none (fun _ => False) W (fun _ h => h.elim) hgl) ⟨rfl, fun i c u h1 h2 => ?_⟩).mono ?_
 ·match i, h1, h2 with
  | 0, h1, h2 => cases h1; cases h2; exact x0
  | 1, h1, h2 => cases h1; cases h2; exact x1
 ·rintro x w' ⟨u, c, h', ι', rfl, ⟨rfl, rfl⟩, hH, hv⟩
  obtain ⟨rfl, _⟩ := Ab.zaj hv
  have G := hH.grewC
  exact ⟨rfl, G.os, G.tape, G.output, G.size, fun k hk => G.mem k hk⟩
def tabCells (d : DataW Unit) : Array Value := match d with
 | .agg l => (l.map fun x => match x with
  | .lit (.int k n) => Value.int k n
  | _ => Value.bool false).toArray
 | _ => #[]
def laidAt (g : Nat) (d : DataW Unit) (w : World) : World := { w with heap := w.heap.modify g fun
 | .cells _ t frozen => .cells (tabCells d) t frozen
 | o => o }
noncomputable def laidWorld (os : Os) : World := laidAt 2 Rows.laid_math_bits_deBruijn32tab (laidAt 3 Rows.laid_math_bits_deBruijn64tab (laidAt 1 Rows.laid_internal_strconv_uint64pow10 (World.holding Tryz.prog os ⟨#[], #[], []⟩)))
theorem ziT (os : Os) : laidMet Tryz.prog Rows.modelOrderUptoRow.laid ((laidWorld os).forCall (fun _ _ => 0) ⟨#[], #[.slice none 0 0, .int .i64 0], []⟩).memory :=
 laidMet_of_run' 8 (by kernel_rfl) (by kernel_rfl)
theorem zfw (os : Os) {H : Type} (enc : TypeId × Value → H) : ∃ places, DataW.whole enc Tryz.prog ((laidWorld os).forCall (fun _ _ => 0) ⟨#[], #[.slice none 0 0, .int .i64 0], []⟩).memory Tryz.f4.params.toList Rows.modelOrderSpec.vars false #[.slice none 0 0, .int .i64 0].toList 8 = some ([.nil, .lit (.int .i64 0)], [], places) :=
 ⟨[], by kernel_rfl⟩
theorem zeS (os : Os) (started : os.Started) (H : Type) (enc : TypeId × Value → H) (F : Stop.Interp) :
  ReturnsInHanded {} Tryz.checked os 4 .any ((Rows.OpenSpec.upto Rows.modelOrderSpec).preRow enc Tryz.prog Tryz.f4 Rows.modelOrderUptoRow.domain false Rows.modelOrderUptoRow.laid) (((Rows.OpenSpec.upto Rows.modelOrderSpec).at F).post enc Tryz.prog Tryz.f4 false true false false) := by
 obtain ⟨places, hx⟩ := zfw os enc
 refine zgt (tb := 4) (s := Rows.modelOrderSpec) Tryz.func4 (by kernel_rfl) (by kernel_rfl) Tryz.underlying4 rfl (by kernel_rfl) ?_ ?_ (fun W h1 h2 => zhK h1 h2) ?_ os started H enc F
  (witness_row_at (enc := enc) (C := Tryz.checked) false (laidWorld os) #[.slice none 0 0, .int .i64 0] rfl (by kernel_rfl) (by kernel_rfl) (by kernel_rfl)
   (OpenSpec.preRow_of_cond 8 hx (by kernel_rfl) (fun k hk => by cases hk; kernel_rfl) (by kernel_rfl) (ziT os)))
 ·intro H ds hl
  rw [show Tryz.f4.params = #[42, 3] from Tryz.params4] at hl
  match ds, hl with
  | [a, b], _ => exact ⟨rfl, rfl, rfl⟩
 ·rw [show Tryz.f4.params = #[42, 3] from Tryz.params4]
  intro t ht
  simp at ht
  rcases ht with rfl | rfl <;> exact ⟨by kernel_rfl, of_decide_eq_true (by kernel_rfl)⟩
 ·rw [show Tryz.f4.params = #[42, 3] from Tryz.params4]
  exact zeR
end Go.Proofs.YtoahnbmedcjpeaaGreatDoor

/-
  Texts of a proof, one behind the other (part 19).
-/
import Derived.Test.YtdbeblhifnfocaaGreatDoorCards
import Derived.Test.YtdbeblhifnfocaaGreatDoorTie
import Derived.OpenShut
import Derived.Test.YtdbeblhifnfocaaGreatDoorTn15
import Derived.Test.YtdbeblhifnfocaaGreatDoorTn17
set_option linter.unusedVariables false
set_option linter.unusedSimpArgs false
namespace Go.Proofs.YtdbeblhifnfocaaGreatDoor
open Go.ChangeShapes Go.WideShapes Go.ChangeAt Go.RowKit
set_option linter.unusedVariables false
set_option maxRecDepth 100000
theorem nils_walked : WalkedNR 3 [] := by
  intro H enc W args ds ps hval hA hwt
  obtain ⟨e0, rfl, rfl⟩ := trodAll_nil hA
  obtain rfl : args = #[] := by cases args; simp_all
  refine (Rn.topoNils_ran W).mono ?_
  rintro x w' ⟨rfl, h1, h2, h3, h4, h5⟩
  exact ⟨rfl, h1, h2, h3, h4, fun k hk => h5 k hk⟩
def tabCells (d : DataW Unit) : Array Value := match d with
  | .agg l => (l.map fun x => match x with
    | .lit (.int k n) => Value.int k n
    | _ => Value.bool false).toArray
  | _ => #[]
def laidAt (g : Nat) (d : DataW Unit) (w : World) : World := { w with heap := w.heap.modify g fun
  | .cells _ t frozen => .cells (tabCells d) t frozen
  | o => o }
noncomputable def laidWorld (os : Os) : World := laidAt 2 Rows.laid_math_bits_deBruijn32tab (laidAt 3 Rows.laid_math_bits_deBruijn64tab (laidAt 1 Rows.laid_internal_strconv_uint64pow10 (World.holding Tryz.prog os ⟨#[], #[], []⟩)))
theorem laid_met (os : Os) : laidMet Tryz.prog Rows.topoNilsRow.laid ((laidWorld os).forCall (fun _ _ => 0) ⟨#[], #[], []⟩).memory :=
  laidMet_of_run' 8 (by kernel_rfl) (by kernel_rfl)
theorem nils_reads (os : Os) {H : Type} (enc : TypeId × Value → H) : ∃ places, DataW.whole enc Tryz.prog ((laidWorld os).forCall (fun _ _ => 0) ⟨#[], #[], []⟩).memory Tryz.f3.params.toList Rows.topoNilsSpec.vars false #[].toList 8 = some ([], [], places) :=
  ⟨[], by kernel_rfl⟩
theorem nils_lifted (os : Os) (started : os.Started) (H : Type) (enc : TypeId × Value → H) (F : Stop.Interp) :
    ReturnsInHanded {} Tryz.checked os 3 .any ((OpenSpec.ofChange Rows.topoNilsSpec).preRow enc Tryz.prog Tryz.f3 Rows.topoNilsRow.domain false Rows.topoNilsRow.laid) (((OpenSpec.ofChange Rows.topoNilsSpec).at F).post enc Tryz.prog Tryz.f3 false true false false) := by
  obtain ⟨places, hx⟩ := nils_reads os enc
  refine law_liftNR (tb := 4) (s := Rows.topoNilsSpec) Tryz.func3 (by kernel_rfl) (by kernel_rfl) Tryz.underlying4 rfl (by kernel_rfl) ?_ ?_ ?_ os started H enc F
    (witness_row_at (enc := enc) (C := Tryz.checked) false (laidWorld os) #[] rfl (by kernel_rfl) (by kernel_rfl) (by kernel_rfl)
      (OpenSpec.preRow_of_cond 8 hx (by kernel_rfl) (fun k hk => by cases hk) (by kernel_rfl) (laid_met os)))
  · intro H ds hl
    rw [show Tryz.f3.params = #[] from Tryz.params3] at hl
    match ds, hl with
    | [], _ => exact ⟨rfl, rfl, rfl⟩
  · rw [show Tryz.f3.params = #[] from Tryz.params3]
    intro t ht
    simp at ht
  · rw [show Tryz.f3.params = #[] from Tryz.params3]
    exact nils_walked
end Go.Proofs.YtdbeblhifnfocaaGreatDoor

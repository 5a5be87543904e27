/-
  FibTells holds: for all routes and addresses, fib tells each prefix's entry, or that it is lost, as the document says, and looks up addresses so; what it answers is nobody else's.
-/
import Derived.Test.YtenolkolkpfjgaaGreatFt8
import Derived.Test.YtenolkolkpfjgaaGreatFt40
import Derived.Test.YtenolkolkpfjgaaGreatFt41
set_option linter.unusedVariables false
set_option linter.unusedSimpArgs false
namespace Go.Proofs.YtenolkolkpfjgaaGreat
open Go.ChangeShapes Go.WideShapes Go.ChangeAt Go.RowKit
set_option linter.unusedVariables false
set_option maxRecDepth 100000

def adV (x : Int) : List Value := [.int .u32 x]
theorem adV_one (x : Int) : ∀ v ∈ adV x, v.oneCell' = true := fun v hv => by
  simp [adV] at hv
  subst hv; rfl
theorem trod_ad {H : Type} {enc : TypeId × Value → H} {W : World} (fl : Nat) (cs : List Value) (y : DataW H × List MemPlace) (h6 : DataW.trod enc Tryz.prog W 0 (fun _ => true) true fl 36 cs = some y) :
    ∃ x : Int, (0 ≤ x ∧ x < 4294967296) ∧ cs = adV x := by
  obtain ⟨x, ex, _, wx⟩ := DataW.trod_int (k := .u32) (by kernel_rfl) h6
  have ba := int_bounds wx
  simp [IntKind.min, IntKind.max, IntKind.signed, IntKind.bits] at ba
  exact ⟨x, ⟨ba.1, by omega⟩, ex⟩
theorem fibTells_walked : Walked 3 [22, 23] := by
  intro H enc W args ds ps hval hA _
  obtain ⟨v, vs', d, ds', p, q, hargs, rfl, rfl, h0, r0⟩ := trodAll_cons hA
  obtain ⟨y, vs2, d2, ds2, p2, q2, hargs2, rfl, rfl, h1, r1⟩ := trodAll_cons r0
  obtain ⟨rfl, rfl, rfl⟩ := trodAll_nil r1
  subst hargs2
  obtain rfl : args = #[v, y] := by cases args; simp_all
  obtain ⟨l, hok, hl⟩ := sl_read (Fr := Ab.FreeB (fun _ => False) (fun _ => none)) 9 Tryz.underlying22 rl_cells_rte rteV (fun _ => rfl) rteV_one Ab.rteD (fun _ => rfl) okF (trod_rte (W := W)) (hval 0 22 v rfl rfl) h0 Ab.FreeB.all
  obtain ⟨as_, hat, ha⟩ := sl_read (Fr := Ab.FreeB (fun _ => False) (fun _ => none)) 1 Tryz.underlying23 (by kernel_rfl) adV (fun _ => rfl) adV_one Ab.adD (fun _ => rfl) (fun x => 0 ≤ x ∧ x < 4294967296) (trod_ad (W := W)) (hval 1 23 y rfl rfl) h1 Ab.FreeB.all
  have HC := Ab.tells_A Ab.fawake_A (l.take 80) (l.drop 80) as_ hat (fun r hr => (hok r (List.mem_of_mem_take hr)).1) (fun s hs => (hok s (List.mem_of_mem_take hs)).2) (by rw [List.length_take]; omega) (fun h => by
    have : ¬ l.length ≤ 80 := fun h2 => h (List.drop_eq_nil_of_le h2)
    rw [List.length_take]; omega)
  rw [← List.flatMap_append, List.take_append_drop, ← List.length_append, List.take_append_drop] at HC
  refine (HC.2 _ _ W _ _ _ W (Ab.HRel.none (fun _ => False) W (fun _ h => h.elim)) ⟨rfl, fun i c u h1 h2 => ?_⟩).mono ?_
  · match i, h1, h2 with
    | 0, h1, h2 => cases h1; cases h2; exact .d _ _ hl
    | 1, h1, h2 => cases h1; cases h2; exact .d _ _ ha
  · rintro x w' ⟨u, c, h', ι', rfl, ⟨rfl, rfl⟩, hH, hv⟩
    obtain ⟨rfl, _⟩ := Ab.sc_of hv
    have G := hH.grewC
    exact ⟨rfl, G.os, G.tape, G.output, G.size, fun k hk => G.mem k hk⟩
theorem fibTells_lifted (os : Os) (started : os.Started) (H : Type) (enc : TypeId × Value → H) :
    ReturnsInHanded {} Tryz.checked os 3 .any (Rows.fibTellsSpec.pre6 enc Tryz.prog Tryz.f3 Rows.fibTellsRow.domain false) (Rows.fibTellsSpec.post enc Tryz.prog Tryz.f3 false true false false) := by
  refine law_lift (tb := 4) Tryz.func3 (by kernel_rfl) (by kernel_rfl) Tryz.underlying4 rfl (by kernel_rfl) ?_ ?_ ?_ os started H enc
    (ChangeSpec.witness6 (enc := enc) (C := Tryz.checked) false ⟨#[], #[.slice none 0 0, .slice none 0 0], []⟩ 8 (by kernel_rfl) (by kernel_rfl) (by kernel_rfl) (by kernel_rfl))
  · intro H ds hl
    rw [show Tryz.f3.params = #[22, 23] from Tryz.params3] at hl
    match ds, hl with
    | [d, e], _ => exact ⟨rfl, rfl, rfl⟩
  · rw [show Tryz.f3.params = #[22, 23] from Tryz.params3]
    intro t ht
    simp at ht
    rcases ht with rfl | rfl <;> exact ⟨by kernel_rfl, of_decide_eq_true (by kernel_rfl)⟩
  · rw [show Tryz.f3.params = #[22, 23] from Tryz.params3]
    exact fibTells_walked

theorem fibTells_over : Rows.fibTellsRow.holds Tryz.pinned (OpenSpec.ofChange Rows.fibTellsSpec) :=
  OpenClaim.holds_of_wide 3 Tryz.f3 rfl rfl rfl rfl rfl rfl rfl ⟨rfl, rfl, rfl, rfl, rfl⟩ rfl rfl rfl rfl rfl (by kernel_rfl) Tryz.func3 (by kernel_rfl)
    (of_decide_eq_true (by kernel_rfl)) (by unfold Func.isWrapper; first | (rw [if_pos (by decide +kernel)]; kernel_rfl) | (rw [if_neg (by decide +kernel)]; exact ⟨rfl, rfl⟩))
    (fun os started H enc _ => fibTells_lifted os started H enc)

theorem fibTells_holds : Rows.FibTellsSaid := fibTells_over
#print axioms fibTells_holds
end Go.Proofs.YtenolkolkpfjgaaGreat

/-
  ModelIfaces holds: for every interface that can be read, the call of ModelIfaces returns true, and the interface reads as before.
  No condition beside the row's own.
-/
import Derived.Test.YtmpbjfoffbgckaaIfacesLaw
import Derived.Test.YtmpbjfoffbgckaaFrame
namespace Go.Proofs.Ytmpbjfoffbgckaa
open Go.ChangeShapes Go.WideShapes Go.ChangeAt Go.RowKit
set_option linter.unusedVariables false

theorem eleven {α : Type} {l : List α} (h : l.length = 11) : ∃ a b c d e f g i j k m, l = [a, b, c, d, e, f, g, i, j, k, m] := by
  match l, h with
  | [a, b, c, d, e, f, g, i, j, k, m], _ => exact ⟨a, b, c, d, e, f, g, i, j, k, m, rfl⟩

theorem cells_Iface : Try.prog.cellsOf 25 = 11 := by kernel_rfl
theorem cells_u32 : Try.prog.cellsOf 23 = 1 := by kernel_rfl
theorem cells_int : Try.prog.cellsOf 3 = 1 := by kernel_rfl
theorem cells_bool : Try.prog.cellsOf 4 = 1 := by kernel_rfl

theorem modelIfaces_walked : Walked 3 [25] := by
  intro H enc W args ds ps hval hA _
  obtain ⟨v, vs', d, ds', p, q, hargs, rfl, rfl, h0, r0⟩ := trodAll_cons hA
  obtain ⟨rfl, rfl, rfl⟩ := trodAll_nil r0
  obtain rfl : args = #[v] := by cases args; simp_all
  obtain ⟨base, hv⟩ := hval 0 25 v rfl rfl
  obtain ⟨cs, rfl, hsz⟩ := okWide_struct Try.underlying25 hv
  obtain ⟨fuel, hf⟩ := h0
  obtain ⟨hlen, n, hfs⟩ := trod_fields Try.underlying25 hf
  rw [cells_Iface] at hlen
  obtain ⟨l⟩ := cs
  obtain ⟨c0, c1, c2, c3, c4, c5, c6, c7, c8, c9, c10, rfl⟩ := eleven (l := l) hlen
  obtain ⟨y2, h2⟩ := hfs _ (List.mem_of_getElem? (i := 2) rfl)
  obtain ⟨y3, h3⟩ := hfs _ (List.mem_of_getElem? (i := 3) rfl)
  obtain ⟨y4, h4⟩ := hfs _ (List.mem_of_getElem? (i := 4) rfl)
  dsimp only at h2 h3 h4
  rw [cells_u32] at h2
  rw [cells_int] at h3
  rw [cells_bool] at h4
  obtain ⟨a, e2, _, wa⟩ := DataW.trod_int Try.underlying23 h2
  obtain ⟨b, e3, _, wb⟩ := DataW.trod_int Try.underlying3 h3
  obtain ⟨dn, e4, _⟩ := DataW.trod_bool Try.underlying4 h4
  simp [Value.cells] at e2 e3 e4
  subst e2 e3 e4
  have hb := int_bounds wa
  simp [IntKind.min, IntKind.max, IntKind.signed, IntKind.bits] at hb
  exact law_any ⟨c0, c1, a, b, dn, c5, c6, c7, c8, c9, c10⟩ W ⟨hb.1, by show a < 4294967296; omega⟩

set_option maxRecDepth 100000 in
theorem modelIfaces_lifted (os : Os) (started : os.Started) (H : Type) (enc : TypeId × Value → H) :
    ReturnsInHanded {} Try.checked os 3 .any (Rows.modelIfacesSpec.pre6 enc Try.prog Try.f3 Rows.modelIfacesRow.domain false) (Rows.modelIfacesSpec.post enc Try.prog Try.f3 false true false false) := by
  refine law_lift (tb := 4) Try.func3 (by kernel_rfl) (by kernel_rfl) Try.underlying4 rfl (by kernel_rfl) ?_ ?_ ?_ os started H enc
    (ChangeSpec.witness6 (enc := enc) (C := Try.checked) false ⟨#[], #[.agg #[.string ByteArray.empty, .string ByteArray.empty, .int .u32 0, .int .i64 0, .bool false, .string ByteArray.empty, .string ByteArray.empty, .int .u8 0, .int .i64 0, .int .i64 0, .bool false]], []⟩ 8 (by kernel_rfl) (by kernel_rfl) (by kernel_rfl) (by kernel_rfl))
  · intro H ds hl
    rw [show Try.f3.params = #[25] from Try.params3] at hl
    match ds, hl with
    | [d], _ => exact ⟨rfl, rfl, rfl⟩
  · rw [show Try.f3.params = #[25] from Try.params3]
    intro t ht
    simp at ht
    subst ht
    exact ⟨by kernel_rfl, of_decide_eq_true (by kernel_rfl)⟩
  · rw [show Try.f3.params = #[25] from Try.params3]
    exact modelIfaces_walked

theorem modelIfaces_over : Rows.modelIfacesRow.holds Try.pinned (OpenSpec.ofChange Rows.modelIfacesSpec) :=
  OpenClaim.holds_of_wide 3 Try.f3 rfl rfl rfl rfl rfl rfl rfl ⟨rfl, rfl, rfl, rfl, rfl⟩ rfl rfl rfl rfl rfl (by kernel_rfl) Try.func3 (by kernel_rfl)
    (of_decide_eq_true (by kernel_rfl)) (by unfold Func.isWrapper; first | (rw [if_pos (by decide +kernel)]; kernel_rfl) | (rw [if_neg (by decide +kernel)]; exact ⟨rfl, rfl⟩))
    (fun os started H enc _ => modelIfaces_lifted os started H enc)

theorem modelIfaces_holds : Rows.ModelIfacesSaid := modelIfaces_over
#print axioms modelIfaces_holds
end Go.Proofs.Ytmpbjfoffbgckaa

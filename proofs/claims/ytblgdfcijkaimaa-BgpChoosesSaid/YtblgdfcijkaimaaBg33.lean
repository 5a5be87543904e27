/-
  BgpChooses holds.
-/
import Derived.Test.YtblgdfcijkaimaaBg1
import Derived.Test.YtblgdfcijkaimaaBg11
import Derived.Test.YtblgdfcijkaimaaBg32
set_option linter.unusedVariables false
set_option linter.unusedSimpArgs false
namespace Go.Proofs.Ytblgdfcijkaimaa.Ab
set_option linter.unusedVariables false
set_option maxRecDepth 100000
open Go.RowKit Go.Lib
def rteS : List Shp := [hU, hI, hC, hI, hI, hI, .st, hU, .bo]
theorem rd_rteP (l : List Dat) (f : Fits rteS l) : ∃ x : Rte, x.p.ok ∧ l = rteD x := by
  obtain ⟨d0, _, rfl, h0, f⟩ := fits_cons f
  obtain ⟨d1, _, rfl, h1, f⟩ := fits_cons f
  obtain ⟨d2, _, rfl, h2, f⟩ := fits_cons f
  obtain ⟨d3, _, rfl, h3, f⟩ := fits_cons f
  obtain ⟨d4, _, rfl, h4, f⟩ := fits_cons f
  obtain ⟨d5, _, rfl, h5, f⟩ := fits_cons f
  obtain ⟨d6, _, rfl, h6, f⟩ := fits_cons f
  obtain ⟨d7, _, rfl, h7, f⟩ := fits_cons f
  obtain ⟨d8, _, rfl, h8, f⟩ := fits_cons f
  obtain rfl := fits_nil f
  obtain ⟨x0, rfl, g0⟩ := rd_u h0
  obtain ⟨x1, rfl, g1⟩ := rd_i h1
  obtain ⟨x2, rfl, g2⟩ := rd_c h2
  obtain ⟨x3, rfl, g3⟩ := rd_i h3
  obtain ⟨x4, rfl, g4⟩ := rd_i h4
  obtain ⟨x5, rfl, g5⟩ := rd_i h5
  obtain ⟨x6, rfl⟩ := shd_st h6
  obtain ⟨x7, rfl, g7⟩ := rd_u h7
  obtain ⟨x8, rfl⟩ := shd_bo h8
  exact ⟨⟨⟨x0, x1⟩, x2, x3, x4, x5, x6, x7, x8⟩, ok_pfx g0 g1, rfl⟩
end Go.Proofs.Ytblgdfcijkaimaa.Ab
namespace Go.Proofs.Ytblgdfcijkaimaa
open Go.ChangeShapes Go.WideShapes Go.ChangeAt Go.RowKit
set_option linter.unusedVariables false
set_option maxRecDepth 100000

theorem shp_advs : Ab.shp Ab.tab 16 22 = some [.sl Ab.advS 136] := by kernel_rfl
theorem shp_rtes : Ab.shp Ab.tab 16 23 = some [.sl Ab.rteS 72] := by kernel_rfl
theorem shp_int : Ab.shp Ab.tab 16 3 = some [Ab.hI] := by kernel_rfl

theorem bgpChooses_walked : Walked 3 [22, 23, 3, 3] := by
  intro H enc W args ds ps hval hA hwt
  have hwe := fun i t d h1 h2 => Ab.all_weightsEach _ _ hwt i t d h1 h2
  obtain ⟨v0, vs0, d0, ds0, p0, q0, e0, rfl, rfl, h0, r0⟩ := trodAll_cons hA
  obtain ⟨v1, vs1, d1, ds1, p1, q1, rfl, rfl, rfl, h1, r1⟩ := trodAll_cons r0
  obtain ⟨v2, vs2, d2, ds2, p2, q2, rfl, rfl, rfl, h2, r2⟩ := trodAll_cons r1
  obtain ⟨v3, vs3, d3, ds3, p3, q3, rfl, rfl, rfl, h3, r3⟩ := trodAll_cons r2
  obtain ⟨rfl, rfl, rfl⟩ := trodAll_nil r3
  obtain rfl : args = #[v0, v1, v2, v3] := by cases args; simp_all
  have hF : ∀ b, Ab.FreeB (fun _ => False) (fun _ => none) b := Ab.FreeB.all
  obtain ⟨b0, o0⟩ := hval 0 22 v0 rfl rfl
  obtain ⟨w0a, w0n, w0c, rfl⟩ := okWide_slice Try.underlying22 o0
  obtain ⟨D0, f0, x0⟩ := Ab.arg_one Ab.tabOk shp_advs rfl h0 (hwe 0 _ _ rfl rfl) hF
  obtain ⟨l, hlb, hl, rfl⟩ := Ab.shd_sl f0 Ab.advD _ Ab.rd_adv
  obtain ⟨b1, o1⟩ := hval 1 23 v1 rfl rfl
  obtain ⟨w1a, w1n, w1c, rfl⟩ := okWide_slice Try.underlying23 o1
  obtain ⟨D1, f1, x1⟩ := Ab.arg_one Ab.tabOk shp_rtes rfl h1 (hwe 1 _ _ rfl rfl) hF
  obtain ⟨r, hrb, hr, rfl⟩ := Ab.shd_sl f1 Ab.rteD _ Ab.rd_rteP
  obtain ⟨b2, o2⟩ := hval 2 3 v2 rfl rfl
  obtain ⟨w2, rfl⟩ := okWide_int Try.underlying3 o2
  obtain ⟨D2, f2, x2⟩ := Ab.arg_one Ab.tabOk shp_int rfl h2 (hwe 2 _ _ rfl rfl) hF
  obtain ⟨ca, rfl, hca⟩ := Ab.rd_i f2
  obtain ⟨b3, o3⟩ := hval 3 3 v3 rfl rfl
  obtain ⟨w3, rfl⟩ := okWide_int Try.underlying3 o3
  obtain ⟨D3, f3, x3⟩ := Ab.arg_one Ab.tabOk shp_int rfl h3 (hwe 3 _ _ rfl rfl) hF
  obtain ⟨cb, rfl, hcb⟩ := Ab.rd_i f3
  have HC := Ab.chooses_A (l.take 40) (l.drop 40) (r.take 40) (r.drop 40) ca cb (fun x hx => hl x (List.mem_of_mem_take hx)) (fun x hx => hr x (List.mem_of_mem_take hx)) (by rw [List.length_take]; omega) (by rw [List.length_take]; omega) (fun h => by
    have : ¬ l.length ≤ 40 := fun h2 => h (List.drop_eq_nil_of_le h2)
    rw [List.length_take]; omega) (fun h => by
    have : ¬ r.length ≤ 40 := fun h2 => h (List.drop_eq_nil_of_le h2)
    rw [List.length_take]; omega)
  rw [← List.flatMap_append, List.take_append_drop, ← List.length_append, List.take_append_drop, ← List.flatMap_append, List.take_append_drop, ← List.length_append, List.take_append_drop] at HC
  refine (HC.2 _ _ W _ _ _ W (Ab.HRel.none (fun _ => False) W (fun _ h => h.elim)) ⟨rfl, fun i c u h1 h2 => ?_⟩).mono ?_
  · match i, h1, h2 with
    | 0, h1, h2 => cases h1; cases h2; exact x0
    | 1, h1, h2 => cases h1; cases h2; exact x1
    | 2, h1, h2 => cases h1; cases h2; exact x2
    | 3, h1, h2 => cases h1; cases h2; exact x3
  · rintro x w' ⟨u, c, h', ι', rfl, ⟨rfl, rfl⟩, hH, hv⟩
    obtain ⟨rfl, _⟩ := Ab.sc_of hv
    have G := hH.grewC
    exact ⟨rfl, G.os, G.tape, G.output, G.size, fun k hk => G.mem k hk⟩

theorem bgpChooses_lifted (os : Os) (started : os.Started) (H : Type) (enc : TypeId × Value → H) :
    ReturnsInHanded {} Try.checked os 3 .any (Rows.bgpChoosesSpec.pre6 enc Try.prog Try.f3 Rows.bgpChoosesRow.domain false) (Rows.bgpChoosesSpec.post enc Try.prog Try.f3 false true false false) := by
  refine law_lift (tb := 4) Try.func3 (by kernel_rfl) (by kernel_rfl) Try.underlying4 rfl (by kernel_rfl) ?_ ?_ ?_ os started H enc
    (ChangeSpec.witness6 (enc := enc) (C := Try.checked) false ⟨#[], #[.slice none 0 0, .slice none 0 0, .int .i64 0, .int .i64 0], []⟩ 8 (by kernel_rfl) (by kernel_rfl) (by kernel_rfl) (by kernel_rfl))
  · intro H ds hl
    rw [show Try.f3.params = #[22, 23, 3, 3] from Try.params3] at hl
    match ds, hl with
    | [a, b, c, d], _ => exact ⟨rfl, rfl, rfl⟩
  · rw [show Try.f3.params = #[22, 23, 3, 3] from Try.params3]
    intro t ht
    simp at ht
    rcases ht with rfl | rfl | rfl <;> exact ⟨by kernel_rfl, of_decide_eq_true (by kernel_rfl)⟩
  · rw [show Try.f3.params = #[22, 23, 3, 3] from Try.params3]
    exact bgpChooses_walked

theorem bgpChooses_over : Rows.bgpChoosesRow.holds Try.pinned (OpenSpec.ofChange Rows.bgpChoosesSpec) :=
  OpenClaim.holds_of_wide 3 Try.f3 rfl rfl rfl rfl rfl rfl rfl ⟨rfl, rfl, rfl, rfl, rfl⟩ rfl rfl rfl rfl rfl (by kernel_rfl) Try.func3 (by kernel_rfl)
    (of_decide_eq_true (by kernel_rfl)) (by unfold Func.isWrapper; first | (rw [if_pos (by decide +kernel)]; kernel_rfl) | (rw [if_neg (by decide +kernel)]; exact ⟨rfl, rfl⟩))
    (fun os started H enc _ => bgpChooses_lifted os started H enc)

theorem bgpChooses_holds : Rows.BgpChoosesSaid := bgpChooses_over
#print axioms bgpChooses_holds
end Go.Proofs.Ytblgdfcijkaimaa

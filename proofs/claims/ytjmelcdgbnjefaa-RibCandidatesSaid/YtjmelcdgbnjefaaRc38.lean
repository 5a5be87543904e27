/-
  RibCandidates holds.
-/
import Derived.Test.YtjmelcdgbnjefaaRc1
import Derived.Test.YtjmelcdgbnjefaaRc5
import Derived.Test.YtjmelcdgbnjefaaRc37
set_option linter.unusedVariables false
set_option linter.unusedSimpArgs false
namespace Go.Proofs.Ytjmelcdgbnjefaa
open Go.ChangeShapes Go.WideShapes Go.ChangeAt Go.RowKit
set_option linter.unusedVariables false
set_option maxRecDepth 100000

theorem shp_dvc : Ab.shp Ab.tab 16 33 = some Ab.dvcS := by kernel_rfl
theorem shp_advs : Ab.shp Ab.tab 16 34 = some [.sl Ab.advS 136] := by kernel_rfl
theorem shp_str : Ab.shp Ab.tab 16 9 = some [.st] := by kernel_rfl
theorem shp_u8 : Ab.shp Ab.tab 16 5 = some [Ab.hC] := by kernel_rfl

theorem ribCand_walked : Walked 3 [33, 9, 34, 5, 5] := by
  intro H enc W args ds ps hval hA hwt
  have hwe := fun i t d h1 h2 => Ab.all_weightsEach _ _ hwt i t d h1 h2
  obtain ⟨v0, vs0, d0, ds0, p0, q0, e0, rfl, rfl, h0, r0⟩ := trodAll_cons hA
  obtain ⟨v1, vs1, d1, ds1, p1, q1, rfl, rfl, rfl, h1, r1⟩ := trodAll_cons r0
  obtain ⟨v2, vs2, d2, ds2, p2, q2, rfl, rfl, rfl, h2, r2⟩ := trodAll_cons r1
  obtain ⟨v3, vs3, d3, ds3, p3, q3, rfl, rfl, rfl, h3, r3⟩ := trodAll_cons r2
  obtain ⟨v4, vs4, d4, ds4, p4, q4, rfl, rfl, rfl, h4, r4⟩ := trodAll_cons r3
  obtain ⟨rfl, rfl, rfl⟩ := trodAll_nil r4
  obtain rfl : args = #[v0, v1, v2, v3, v4] := by cases args; simp_all
  have hF : ∀ b, Ab.FreeB (fun _ => False) (fun _ => none) b := Ab.FreeB.all
  obtain ⟨D0, f0, x0⟩ := Ab.arg_agg Ab.tabOk shp_dvc Try.underlying33 (hval 0 33 v0 rfl rfl) h0 (hwe 0 _ _ rfl rfl) hF
  obtain ⟨dv, hdv, rfl⟩ := Ab.rd_dvc D0 f0
  obtain ⟨b1, o1⟩ := hval 1 9 v1 rfl rfl
  obtain ⟨w1, rfl⟩ := okWide_string Try.underlying9 o1
  obtain ⟨D1, f1, x1⟩ := Ab.arg_one Ab.tabOk shp_str rfl h1 (hwe 1 _ _ rfl rfl) hF
  obtain ⟨vrf, rfl⟩ := Ab.shd_st f1
  obtain ⟨b2, o2⟩ := hval 2 34 v2 rfl rfl
  obtain ⟨w2a, w2n, w2c, rfl⟩ := okWide_slice Try.underlying34 o2
  obtain ⟨D2, f2, x2⟩ := Ab.arg_one Ab.tabOk shp_advs rfl h2 (hwe 2 _ _ rfl rfl) hF
  obtain ⟨l, hlb, hl, rfl⟩ := Ab.shd_sl f2 Ab.advD _ Ab.rd_adv
  obtain ⟨b3, o3⟩ := hval 3 5 v3 rfl rfl
  obtain ⟨w3, rfl⟩ := okWide_int Try.underlying5 o3
  obtain ⟨D3, f3, x3⟩ := Ab.arg_one Ab.tabOk shp_u8 rfl h3 (hwe 3 _ _ rfl rfl) hF
  obtain ⟨kind, rfl, hk⟩ := Ab.rd_c f3
  obtain ⟨b4, o4⟩ := hval 4 5 v4 rfl rfl
  obtain ⟨w4, rfl⟩ := okWide_int Try.underlying5 o4
  obtain ⟨D4, f4, x4⟩ := Ab.arg_one Ab.tabOk shp_u8 rfl h4 (hwe 4 _ _ rfl rfl) hF
  obtain ⟨from_, rfl, hfr⟩ := Ab.rd_c f4
  have HC := Ab.cand_A dv vrf l kind from_ hdv hk hl
  refine (HC.2 _ _ W _ _ _ W (Ab.HRel.none (fun _ => False) W (fun _ h => h.elim)) ⟨rfl, fun i c u h1 h2 => ?_⟩).mono ?_
  · match i, h1, h2 with
    | 0, h1, h2 => cases h1; cases h2; exact x0
    | 1, h1, h2 => cases h1; cases h2; exact x1
    | 2, h1, h2 => cases h1; cases h2; exact x2
    | 3, h1, h2 => cases h1; cases h2; exact x3
    | 4, h1, h2 => cases h1; cases h2; exact x4
  · rintro x w' ⟨u, c, h', ι', rfl, ⟨rfl, rfl⟩, hH, hv⟩
    obtain ⟨rfl, _⟩ := Ab.sc_of hv
    have G := hH.grewC
    exact ⟨rfl, G.os, G.tape, G.output, G.size, fun k hk => G.mem k hk⟩

theorem ribCand_lifted (os : Os) (started : os.Started) (H : Type) (enc : TypeId × Value → H) :
    ReturnsInHanded {} Try.checked os 3 .any (Rows.ribCandidatesSpec.pre6 enc Try.prog Try.f3 Rows.ribCandidatesRow.domain false) (Rows.ribCandidatesSpec.post enc Try.prog Try.f3 false true false false) := by
  refine law_lift (tb := 4) Try.func3 (by kernel_rfl) (by kernel_rfl) Try.underlying4 rfl (by kernel_rfl) ?_ ?_ ?_ os started H enc
    (ChangeSpec.witness6 (enc := enc) (C := Try.checked) false ⟨#[], #[.agg #[.string ⟨#[]⟩, .int .u8 0, .slice none 0 0, .slice none 0 0, .slice none 0 0, .slice none 0 0, .slice none 0 0, .slice none 0 0, .slice none 0 0, .slice none 0 0, .slice none 0 0, .slice none 0 0], .string ⟨#[]⟩, .slice none 0 0, .int .u8 0, .int .u8 0], []⟩ 8 (by kernel_rfl) (by kernel_rfl) (by kernel_rfl) (by kernel_rfl))
  · intro H ds hl
    rw [show Try.f3.params = #[33, 9, 34, 5, 5] from Try.params3] at hl
    match ds, hl with
    | [a, b, c, d, e], _ => exact ⟨rfl, rfl, rfl⟩
  · rw [show Try.f3.params = #[33, 9, 34, 5, 5] from Try.params3]
    intro t ht
    simp at ht
    rcases ht with rfl | rfl | rfl | rfl <;> exact ⟨by kernel_rfl, of_decide_eq_true (by kernel_rfl)⟩
  · rw [show Try.f3.params = #[33, 9, 34, 5, 5] from Try.params3]
    exact ribCand_walked

theorem ribCandidates_over : Rows.ribCandidatesRow.holds Try.pinned (OpenSpec.ofChange Rows.ribCandidatesSpec) :=
  OpenClaim.holds_of_wide 3 Try.f3 rfl rfl rfl rfl rfl rfl rfl ⟨rfl, rfl, rfl, rfl, rfl⟩ rfl rfl rfl rfl rfl (by kernel_rfl) Try.func3 (by kernel_rfl)
    (of_decide_eq_true (by kernel_rfl)) (by unfold Func.isWrapper; first | (rw [if_pos (by decide +kernel)]; kernel_rfl) | (rw [if_neg (by decide +kernel)]; exact ⟨rfl, rfl⟩))
    (fun os started H enc _ => ribCand_lifted os started H enc)

theorem ribCandidates_holds : Rows.RibCandidatesSaid := ribCandidates_over
#print axioms ribCandidates_holds
end Go.Proofs.Ytjmelcdgbnjefaa

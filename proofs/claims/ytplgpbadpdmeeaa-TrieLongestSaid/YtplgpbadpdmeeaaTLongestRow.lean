/-
  TrieLongest holds.
-/
import Derived.Test.YtplgpbadpdmeeaaTLongest
import Derived.Test.YtplgpbadpdmeeaaPArgs
namespace Go.Proofs.Ytplgpbadpdmeeaa
open Go.ChangeShapes Go.WideShapes Go.ChangeAt Go.RowKit
set_option linter.unusedVariables false
set_option maxRecDepth 100000

theorem trieLongest_walked : Walked 5 [22, 23, 26] := by
  intro H enc W args ds ps hval hA _
  obtain ⟨v, vs', d, ds', p, q, hargs, rfl, rfl, h0, r0⟩ := trodAll_cons hA
  obtain ⟨x, vs2, d2, ds2, p2, q2, hargs2, rfl, rfl, h1, r1⟩ := trodAll_cons r0
  obtain ⟨y, vs3, d3, ds3, p3, q3, hargs3, rfl, rfl, h2, r2⟩ := trodAll_cons r1
  obtain ⟨rfl, rfl, rfl⟩ := trodAll_nil r2
  subst hargs3
  subst hargs2
  obtain rfl : args = #[v, x, y] := by cases args; simp_all
  obtain ⟨l, hok, hl⟩ := pfxs_read (Fr := Ab.FreeB (fun _ => False) (fun _ => none)) (hval 0 22 v rfl rfl) h0 Ab.FreeB.all
  obtain ⟨bx, hbx⟩ := hval 1 23 x rfl rfl
  obtain ⟨n, rfl⟩ := okWide_int Try.underlying23 hbx
  obtain ⟨fuel, hf⟩ := h1
  obtain ⟨n', e0, _, w0⟩ := DataW.trod_int Try.underlying23 hf
  simp [Value.cells] at e0
  subst e0
  have b0 := int_bounds w0
  simp [IntKind.min, IntKind.max, IntKind.signed, IntKind.bits] at b0
  have hl2 : Ab.DRel W (Ab.FreeB (fun _ => False) (fun _ => none)) (.sl ((l.take 200).flatMap Ab.pfxD ++ (l.drop 200).flatMap Ab.pfxD) ((l.take 200).length + (l.drop 200).length)) v := by
    rw [← List.flatMap_append, ← List.length_append, List.take_append_drop]; exact hl
  obtain ⟨q, hqok, rfl⟩ := pfx_read (hval 2 26 y rfl rfl) h2
  have HC := Ab.longestLaw_A (l.take 200) (l.drop 200) n q b0.1 (by omega) hqok (fun p hp => hok p (List.mem_of_mem_take hp)) (by simp; omega) (fun h => by
    have : 200 < l.length := by
      rcases Nat.lt_or_ge 200 l.length with h1 | h1
      · exact h1
      · exact absurd (List.drop_eq_nil_of_le h1) h
    simp; omega)
  refine (HC.2 _ _ W _ _ _ W (Ab.HRel.none (fun _ => False) W (fun _ h => h.elim)) ⟨rfl, fun i c u h1 h2 => ?_⟩).mono ?_
  · match i, h1, h2 with
    | 0, h1, h2 => cases h1; cases h2; exact .d _ _ hl2
    | 1, h1, h2 => cases h1; cases h2; exact .d _ _ (.sc _ rfl)
    | 2, h1, h2 => cases h1; cases h2; exact Ab.pfxA_rel _ _ _ _
  · rintro x w' ⟨u, c, h', ι', rfl, ⟨rfl, rfl⟩, hH, hv⟩
    obtain ⟨rfl, _⟩ := Ab.sc_of hv
    have G := hH.grewC
    exact ⟨rfl, G.os, G.tape, G.output, G.size, fun k hk => G.mem k hk⟩

theorem trieLongest_lifted (os : Os) (started : os.Started) (H : Type) (enc : TypeId × Value → H) :
    ReturnsInHanded {} Try.checked os 5 .any (Rows.trieLongestSpec.pre6 enc Try.prog Try.f5 Rows.trieLongestRow.domain false) (Rows.trieLongestSpec.post enc Try.prog Try.f5 false true false false) := by
  refine law_lift (tb := 4) Try.func5 (by kernel_rfl) (by kernel_rfl) Try.underlying4 rfl (by kernel_rfl) ?_ ?_ ?_ os started H enc
    (ChangeSpec.witness6 (enc := enc) (C := Try.checked) false ⟨#[], #[.slice none 0 0, .int .u32 0, .agg #[.int .u32 0, .int .i64 0]], []⟩ 8 (by kernel_rfl) (by kernel_rfl) (by kernel_rfl) (by kernel_rfl))
  · intro H ds hl
    rw [show Try.f5.params = #[22, 23, 26] from Try.params5] at hl
    match ds, hl with
    | [d, e, f], _ => exact ⟨rfl, rfl, rfl⟩
  · rw [show Try.f5.params = #[22, 23, 26] from Try.params5]
    intro t ht
    simp at ht
    rcases ht with rfl | rfl | rfl <;> exact ⟨by kernel_rfl, of_decide_eq_true (by kernel_rfl)⟩
  · rw [show Try.f5.params = #[22, 23, 26] from Try.params5]
    exact trieLongest_walked

theorem trieLongest_over : Rows.trieLongestRow.holds Try.pinned (OpenSpec.ofChange Rows.trieLongestSpec) :=
  OpenClaim.holds_of_wide 5 Try.f5 rfl rfl rfl rfl rfl rfl rfl ⟨rfl, rfl, rfl, rfl, rfl⟩ rfl rfl rfl rfl rfl (by kernel_rfl) Try.func5 (by kernel_rfl)
    (of_decide_eq_true (by kernel_rfl)) (by unfold Func.isWrapper; first | (rw [if_pos (by decide +kernel)]; kernel_rfl) | (rw [if_neg (by decide +kernel)]; exact ⟨rfl, rfl⟩))
    (fun os started H enc _ => trieLongest_lifted os started H enc)

theorem trieLongest_holds : Rows.TrieLongestSaid := trieLongest_over
#print axioms trieLongest_holds
end Go.Proofs.Ytplgpbadpdmeeaa

/-
  TrieAgain holds.
-/
import Derived.Test.YtaecjmjdhbjbkaaTAgain
import Derived.Test.YtaecjmjdhbjbkaaPArgs
namespace Go.Proofs.Ytaecjmjdhbjbkaa
open Go.ChangeShapes Go.WideShapes Go.ChangeAt Go.RowKit
set_option linter.unusedVariables false
set_option maxRecDepth 100000

theorem trieAgain_walked : Walked 6 [22, 3, 26, 23] := by
  intro H enc W args ds ps hval hA _
  obtain ⟨v, vs', d, ds', p, q, hargs, rfl, rfl, h0, r0⟩ := trodAll_cons hA
  obtain ⟨b, vs2, d2, ds2, p2, q2, hargs2, rfl, rfl, h1, r1⟩ := trodAll_cons r0
  obtain ⟨y, vs3, d3, ds3, p3, q3, hargs3, rfl, rfl, h2, r2⟩ := trodAll_cons r1
  obtain ⟨x, vs4, d4, ds4, p4, q4, hargs4, rfl, rfl, h3, r3⟩ := trodAll_cons r2
  obtain ⟨rfl, rfl, rfl⟩ := trodAll_nil r3
  subst hargs4
  subst hargs3
  subst hargs2
  obtain rfl : args = #[v, b, y, x] := by cases args; simp_all
  obtain ⟨l, hok, hl⟩ := pfxs_read (Fr := Ab.FreeB (fun _ => False) (fun _ => none)) (hval 0 22 v rfl rfl) h0 Ab.FreeB.all
  obtain ⟨bb, hbb⟩ := hval 1 3 b rfl rfl
  obtain ⟨by_, rfl⟩ := okWide_int Try.underlying3 hbb
  obtain ⟨bx, hbx⟩ := hval 3 23 x rfl rfl
  obtain ⟨n, rfl⟩ := okWide_int Try.underlying23 hbx
  obtain ⟨fuel, hf⟩ := h3
  obtain ⟨n', e0, _, w0⟩ := DataW.trod_int Try.underlying23 hf
  simp [Value.cells] at e0
  subst e0
  have b0 := int_bounds w0
  simp [IntKind.min, IntKind.max, IntKind.signed, IntKind.bits] at b0
  have hl2 : Ab.DRel W (Ab.FreeB (fun _ => False) (fun _ => none)) (.sl ((l.take 100).flatMap Ab.pfxD ++ (l.drop 100).flatMap Ab.pfxD) ((l.take 100).length + (l.drop 100).length)) v := by
    rw [← List.flatMap_append, ← List.length_append, List.take_append_drop]; exact hl
  obtain ⟨q, hqok, rfl⟩ := pfx_read (hval 2 26 y rfl rfl) h2
  have HC := Ab.again_A (l.take 100) (l.drop 100) by_ q n b0.1 (by omega) hqok (fun p hp => hok p (List.mem_of_mem_take hp)) (by simp; omega) (fun h => by
    have : 100 < l.length := by
      rcases Nat.lt_or_ge 100 l.length with h1 | h1
      · exact h1
      · exact absurd (List.drop_eq_nil_of_le h1) h
    simp; omega)
  refine (HC.2 _ _ W _ _ _ W (Ab.HRel.none (fun _ => False) W (fun _ h => h.elim)) ⟨rfl, fun i c u h1 h2 => ?_⟩).mono ?_
  · match i, h1, h2 with
    | 0, h1, h2 => cases h1; cases h2; exact .d _ _ hl2
    | 1, h1, h2 => cases h1; cases h2; exact .d _ _ (.sc _ rfl)
    | 2, h1, h2 => cases h1; cases h2; exact Ab.pfxA_rel _ _ _ _
    | 3, h1, h2 => cases h1; cases h2; exact .d _ _ (.sc _ rfl)
  · rintro x w' ⟨u, c, h', ι', rfl, ⟨rfl, rfl⟩, hH, hv⟩
    obtain ⟨rfl, _⟩ := Ab.sc_of hv
    have G := hH.grewC
    exact ⟨rfl, G.os, G.tape, G.output, G.size, fun k hk => G.mem k hk⟩

theorem trieAgain_lifted (os : Os) (started : os.Started) (H : Type) (enc : TypeId × Value → H) :
    ReturnsInHanded {} Try.checked os 6 .any (Rows.trieAgainSpec.pre6 enc Try.prog Try.f6 Rows.trieAgainRow.domain false) (Rows.trieAgainSpec.post enc Try.prog Try.f6 false true false false) := by
  refine law_lift (tb := 4) Try.func6 (by kernel_rfl) (by kernel_rfl) Try.underlying4 rfl (by kernel_rfl) ?_ ?_ ?_ os started H enc
    (ChangeSpec.witness6 (enc := enc) (C := Try.checked) false ⟨#[], #[.slice none 0 0, .int .i64 0, .agg #[.int .u32 0, .int .i64 0], .int .u32 0], []⟩ 8 (by kernel_rfl) (by kernel_rfl) (by kernel_rfl) (by kernel_rfl))
  · intro H ds hl
    rw [show Try.f6.params = #[22, 3, 26, 23] from Try.params6] at hl
    match ds, hl with
    | [d, e, f, g], _ => exact ⟨rfl, rfl, rfl⟩
  · rw [show Try.f6.params = #[22, 3, 26, 23] from Try.params6]
    intro t ht
    simp at ht
    rcases ht with rfl | rfl | rfl | rfl <;> exact ⟨by kernel_rfl, of_decide_eq_true (by kernel_rfl)⟩
  · rw [show Try.f6.params = #[22, 3, 26, 23] from Try.params6]
    exact trieAgain_walked

theorem trieAgain_over : Rows.trieAgainRow.holds Try.pinned (OpenSpec.ofChange Rows.trieAgainSpec) :=
  OpenClaim.holds_of_wide 6 Try.f6 rfl rfl rfl rfl rfl rfl rfl ⟨rfl, rfl, rfl, rfl, rfl⟩ rfl rfl rfl rfl rfl (by kernel_rfl) Try.func6 (by kernel_rfl)
    (of_decide_eq_true (by kernel_rfl)) (by unfold Func.isWrapper; first | (rw [if_pos (by decide +kernel)]; kernel_rfl) | (rw [if_neg (by decide +kernel)]; exact ⟨rfl, rfl⟩))
    (fun os started H enc _ => trieAgain_lifted os started H enc)

theorem trieAgain_holds : Rows.TrieAgainSaid := trieAgain_over
#print axioms trieAgain_holds
end Go.Proofs.Ytaecjmjdhbjbkaa

/-
  PolicyClauses holds, where what it reads is of bulk at most 1048576.
-/
import Derived.Test.YtmljmahlpcdhoaaPc2
import Derived.Test.YtmljmahlpcdhoaaPc40
import Derived.Test.YtmljmahlpcdhoaaPc41
import Derived.Test.YtmljmahlpcdhoaaPc42
set_option linter.unusedVariables false
set_option linter.unusedSimpArgs false
namespace Go.Proofs.Ytmljmahlpcdhoaa
open Go.ChangeShapes Go.WideShapes Go.ChangeAt Go.RowKit
set_option linter.unusedVariables false
set_option maxRecDepth 100000

theorem shp_dvc2 : Ab.shp Ab.tab 16 33 = some Ab.dvcS := by kernel_rfl
theorem shp_cls2 : Ab.shp Ab.tab 16 46 = some Ab.clsS := by kernel_rfl
theorem shp_sbj2 : Ab.shp Ab.tab 16 51 = some Ab.sbjS := by kernel_rfl
theorem bulk_all2 {H : Type} (d : DataW H) (r : List (DataW H)) : Rows.uptoBulkAll (d :: r) = Rows.uptoBulk d + Rows.uptoBulkAll r := by simp [Rows.uptoBulkAll]
theorem okQ_of (dv : Dvc) (h : dv.ok) (hs : ∀ d ∈ Ab.dvcD dv, Ab.Sml 1048576 d) (c : Cls) (hc : c.ok) (hcs : ∀ d ∈ Ab.clsD c, Ab.Sml 1048576 d) (s t : Sbj) (h1 : s.ok) (hs1 : ∀ d ∈ Ab.sbjD s, Ab.Sml 1048576 d) (hs2 : ∀ d ∈ Ab.sbjD t, Ab.Sml 1048576 d) : OkQ dv c s t := by
  have s7 := hs (.sl (dv.pls.flatMap Ab.plstD) dv.pls.length) (by simp [Ab.dvcD])
  have s8 := hs (.sl (dv.cls.flatMap Ab.clstD) dv.cls.length) (by simp [Ab.dvcD])
  have s9 := hs (.sl (dv.pols.flatMap Ab.polD) dv.pols.length) (by simp [Ab.dvcD])
  have kp : ∀ p ∈ dv.pols, Ab.Sml 1048576 (.sl (p.cs.flatMap Ab.clsD) p.cs.length) := fun p hp => s9.mem _ (List.mem_flatMap.2 ⟨p, hp, by simp [Ab.polD]⟩)
  have kx : ∀ x ∈ dv.pls, Ab.Sml 1048576 (.sl (x.es.flatMap Ab.lentD) x.es.length) := fun x hx => s7.mem _ (List.mem_flatMap.2 ⟨x, hx, by simp [Ab.plstD]⟩)
  have ky : ∀ x ∈ dv.cls, Ab.Sml 1048576 (.sl (x.ms.flatMap Ab.memD) x.ms.length) := fun x hx => s8.mem _ (List.mem_flatMap.2 ⟨x, hx, by simp [Ab.clstD]⟩)
  have sp := (hs1 (Ab.usD s.path) (by simp [Ab.sbjD])).len
  have sc := (hs1 (Ab.usD s.com) (by simp [Ab.sbjD])).len
  have tp := (hs2 (Ab.usD t.path) (by simp [Ab.sbjD])).len
  have tc := (hs2 (Ab.usD t.com) (by simp [Ab.sbjD])).len
  refine ⟨h, ?_, ⟨(hcs (Ab.usD c.pre) (by simp [Ab.clsD])).len, (hcs (Ab.usD c.sCom) (by simp [Ab.clsD])).len, hc.pre⟩, fun x hx => ⟨(kx x hx).len, (h.pls x hx).1⟩, fun x hx => ⟨(ky x hx).len, fun m hm => ((ky x hx).mem (Ab.usD m.all) (List.mem_flatMap.2 ⟨m, hm, by simp [Ab.memD]⟩)).len⟩, h1.p, h1.path, tp, tc⟩
  have e1 := sum_bnd (fun x : PLst => x.es.length) 1048576 dv.pls fun x hx => (kx x hx).len
  have e2 := sum_bnd (fun x : CLst => x.ms.length) 1048576 dv.cls fun x hx => (ky x hx).len
  have e3 := sum_bnd polN 2199024304129 dv.pols fun p hp => by
    have f3 := sum_bnd clsN 2097152 p.cs fun c hc => by
      have a := ((kp p hp).mem (Ab.usD c.pre) (List.mem_flatMap.2 ⟨c, hc, by simp [Ab.clsD]⟩)).len
      have b := ((kp p hp).mem (Ab.usD c.sCom) (List.mem_flatMap.2 ⟨c, hc, by simp [Ab.clsD]⟩)).len
      unfold clsN; omega
    have f4 := (kp p hp).len
    have f5 := Nat.mul_le_mul_right 2097152 f4
    unfold polN; omega
  have e5 := Nat.mul_le_mul_right 1048576 s7.len
  have e6 := Nat.mul_le_mul_right 1048576 s8.len
  have e7 := Nat.mul_le_mul_right 2199024304129 s9.len
  have l7 := s7.len
  have l8 := s8.len
  unfold largeN
  omega

theorem clauses_walked : WalkedU 4 [33, 46, 51, 51] := by
  intro H enc W args ds ps hval hA hwt hbk
  have hwe := fun i t d h1 h2 => Ab.all_weightsEach _ _ hwt i t d h1 h2
  obtain ⟨v0, vs0, d0, ds0, p0, q0, e0, rfl, rfl, h0, r0⟩ := trodAll_cons hA
  obtain ⟨v1, vs1, d1, ds1, p1, q1, rfl, rfl, rfl, h1, r1⟩ := trodAll_cons r0
  obtain ⟨v2, vs2, d2, ds2, p2, q2, rfl, rfl, rfl, h2, r2⟩ := trodAll_cons r1
  obtain ⟨v3, vs3, d3, ds3, p3, q3, rfl, rfl, rfl, h3, r3⟩ := trodAll_cons r2
  obtain ⟨rfl, rfl, rfl⟩ := trodAll_nil r3
  obtain rfl : args = #[v0, v1, v2, v3] := by cases args; simp_all
  rw [bulk_all2, bulk_all2, bulk_all2, bulk_all2] at hbk
  have hF : ∀ b, Ab.FreeB (fun _ => False) (fun _ => none) b := Ab.FreeB.all
  obtain ⟨D0, ⟨f0, z0⟩, x0⟩ := Ab.arg_aggB (B := 1048576) Ab.tabOk shp_dvc2 Try.underlying33 (hval 0 33 v0 rfl rfl) h0 (hwe 0 _ _ rfl rfl) (by omega) hF
  obtain ⟨dv, hdv, rfl⟩ := Ab.rd_dvc D0 f0
  obtain ⟨D1, ⟨f1, z1⟩, x1⟩ := Ab.arg_aggB (B := 1048576) Ab.tabOk shp_cls2 Try.underlying46 (hval 1 46 v1 rfl rfl) h1 (hwe 1 _ _ rfl rfl) (by omega) hF
  obtain ⟨c, hc, rfl⟩ := Ab.rd_cls D1 f1
  obtain ⟨D2, ⟨f2, z2⟩, x2⟩ := Ab.arg_aggB (B := 1048576) Ab.tabOk shp_sbj2 Try.underlying51 (hval 2 51 v2 rfl rfl) h2 (hwe 2 _ _ rfl rfl) (by omega) hF
  obtain ⟨s, hs, rfl⟩ := Ab.rd_sbj D2 f2
  obtain ⟨D3, ⟨f3, z3⟩, x3⟩ := Ab.arg_aggB (B := 1048576) Ab.tabOk shp_sbj2 Try.underlying51 (hval 3 51 v3 rfl rfl) h3 (hwe 3 _ _ rfl rfl) (by omega) hF
  obtain ⟨t, ht, rfl⟩ := Ab.rd_sbj D3 f3
  have HC := Ab.clauses_A dv c s t (okQ_of dv hdv z0 c hc z1 s t hs z2 z3)
  refine (HC.2 _ _ W _ _ _ W (Ab.HRel.none (fun _ => False) W (fun _ h => h.elim)) ⟨rfl, fun i c u h1 h2 => ?_⟩).mono ?_
  · match i, h1, h2 with
    | 0, h1, h2 => cases h1; cases h2; exact x0
    | 1, h1, h2 => cases h1; cases h2; exact x1
    | 2, h1, h2 => cases h1; cases h2; exact x2
    | 3, h1, h2 => cases h1; cases h2; exact x3
  · rintro x w' ⟨u, c, h', ι', rfl, ⟨rfl, rfl⟩, hH, hv⟩
    obtain ⟨rfl, _⟩ := Ab.sc_of hv
    have G := hH.grewC
    exact ⟨rfl, G.os, G.tape, G.output, G.size, fun k hk => G.mem k hk⟩

theorem clauses_lifted (os : Os) (started : os.Started) (H : Type) (enc : TypeId × Value → H) (F : Stop.Interp) :
    ReturnsInHanded {} Try.checked os 4 .any ((Rows.OpenSpec.upto Rows.policyClausesSpec).pre6 enc Try.prog Try.f4 Rows.policyClausesUptoRow.domain false) (((Rows.OpenSpec.upto Rows.policyClausesSpec).at F).post enc Try.prog Try.f4 false true false false) := by
  refine law_liftU (tb := 4) (s := Rows.policyClausesSpec) Try.func4 (by kernel_rfl) (by kernel_rfl) Try.underlying4 rfl (by kernel_rfl) ?_ ?_ ?_ os started H enc F
    (OpenSpec.witness (enc := enc) (C := Try.checked) (s := Rows.OpenSpec.upto Rows.policyClausesSpec) (k := Rows.uptoSmall) rfl false ⟨#[], #[.agg #[.string ⟨#[]⟩, .int .u8 0, .slice none 0 0, .slice none 0 0, .slice none 0 0, .slice none 0 0, .slice none 0 0, .slice none 0 0, .slice none 0 0, .slice none 0 0, .slice none 0 0, .slice none 0 0],
        .agg #[.int .i64 0, .int .u8 0, .string ⟨#[]⟩, .string ⟨#[]⟩, .int .i64 0, .int .i64 0, .int .i64 0, .int .i64 0, .int .i64 0, .int .i64 0, .slice none 0 0, .bool false, .slice none 0 0, .int .u32 0, .int .i64 0],
        .agg #[.int .u32 0, .int .i64 0, .int .i64 0, .int .i64 0, .int .i64 0, .slice none 0 0, .slice none 0 0, .int .u32 0], .agg #[.int .u32 0, .int .i64 0, .int .i64 0, .int .i64 0, .int .i64 0, .slice none 0 0, .slice none 0 0, .int .u32 0]], []⟩ 8 (by kernel_rfl) (by kernel_rfl) (by kernel_rfl)
      (x := ([.agg [.lit (.string []), .lit (.int .u8 0), .nil, .nil, .nil, .nil, .nil, .nil, .nil, .nil, .nil, .nil],
        .agg [.lit (.int .i64 0), .lit (.int .u8 0), .lit (.string []), .lit (.string []), .lit (.int .i64 0), .lit (.int .i64 0), .lit (.int .i64 0), .lit (.int .i64 0), .lit (.int .i64 0), .lit (.int .i64 0), .nil, .lit (.bool false), .nil, .lit (.int .u32 0), .lit (.int .i64 0)],
        .agg [.agg [.lit (.int .u32 0), .lit (.int .i64 0)], .lit (.int .i64 0), .lit (.int .i64 0), .lit (.int .i64 0), .nil, .nil, .lit (.int .u32 0)], .agg [.agg [.lit (.int .u32 0), .lit (.int .i64 0)], .lit (.int .i64 0), .lit (.int .i64 0), .lit (.int .i64 0), .nil, .nil, .lit (.int .u32 0)]], [], [])) (by kernel_rfl) rfl (by kernel_rfl))
  · intro H ds hl
    rw [show Try.f4.params = #[33, 46, 51, 51] from Try.params4] at hl
    match ds, hl with
    | [a, b, c, d], _ => exact ⟨rfl, rfl, rfl⟩
  · rw [show Try.f4.params = #[33, 46, 51, 51] from Try.params4]
    intro t ht
    simp at ht
    rcases ht with rfl | rfl | rfl <;> exact ⟨by kernel_rfl, of_decide_eq_true (by kernel_rfl)⟩
  · rw [show Try.f4.params = #[33, 46, 51, 51] from Try.params4]
    exact clauses_walked

theorem policyClauses_over : Rows.policyClausesUptoRow.holds Try.pinned (Rows.OpenSpec.upto Rows.policyClausesSpec) :=
  OpenClaim.holds_of_cond 4 Try.f4 rfl rfl rfl rfl rfl rfl rfl ⟨rfl, rfl, rfl, rfl, rfl⟩ rfl rfl rfl rfl rfl (by kernel_rfl) Try.func4 (by kernel_rfl)
    (of_decide_eq_true (by kernel_rfl)) (by unfold Func.isWrapper; first | (rw [if_pos (by decide +kernel)]; kernel_rfl) | (rw [if_neg (by decide +kernel)]; exact ⟨rfl, rfl⟩))
    (fun os started H enc _ F => clauses_lifted os started H enc F)

theorem policyClauses_holds : Rows.PolicyClausesUptoSaid := policyClauses_over
#print axioms policyClauses_holds
end Go.Proofs.Ytmljmahlpcdhoaa

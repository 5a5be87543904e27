/-
  PolicyNothing holds, where what it reads is of bulk at most 1048576.
-/
import Derived.Test.YtmljmahlpcdhoaaPn4
import Derived.Test.YtmljmahlpcdhoaaPn30
import Derived.Test.YtmljmahlpcdhoaaPn31
set_option linter.unusedVariables false
set_option linter.unusedSimpArgs false
namespace Go.Proofs.Ytmljmahlpcdhoaa
open Go.ChangeShapes Go.WideShapes Go.ChangeAt Go.RowKit
set_option linter.unusedVariables false
set_option maxRecDepth 100000

theorem shp_dvc : Ab.shp Ab.tab 16 33 = some Ab.dvcS := by kernel_rfl
theorem shp_sbjs : Ab.shp Ab.tab 16 34 = some [.sl Ab.sbjS 96] := by kernel_rfl
theorem shp_int : Ab.shp Ab.tab 16 3 = some [Ab.hI] := by kernel_rfl
theorem bulk_all {H : Type} (d : DataW H) (r : List (DataW H)) : Rows.uptoBulkAll (d :: r) = Rows.uptoBulk d + Rows.uptoBulkAll r := by simp [Rows.uptoBulkAll]
theorem okN_of (dv : Dvc) (h : dv.ok) (hs : ∀ d ∈ Ab.dvcD dv, Ab.Sml 1048576 d) (L : List Sbj) (hl : ∀ s ∈ L, s.ok) (hs2 : Ab.Sml 1048576 (.sl (L.flatMap Ab.sbjD) L.length)) : OkN dv L := by
  have s7 := hs (.sl (dv.pls.flatMap Ab.plstD) dv.pls.length) (by simp [Ab.dvcD])
  have s8 := hs (.sl (dv.cls.flatMap Ab.clstD) dv.cls.length) (by simp [Ab.dvcD])
  have s9 := hs (.sl (dv.pols.flatMap Ab.polD) dv.pols.length) (by simp [Ab.dvcD])
  have kp : ∀ p ∈ dv.pols, Ab.Sml 1048576 (.sl (p.cs.flatMap Ab.clsD) p.cs.length) := fun p hp => s9.mem _ (List.mem_flatMap.2 ⟨p, hp, by simp [Ab.polD]⟩)
  have kx : ∀ x ∈ dv.pls, Ab.Sml 1048576 (.sl (x.es.flatMap Ab.lentD) x.es.length) := fun x hx => s7.mem _ (List.mem_flatMap.2 ⟨x, hx, by simp [Ab.plstD]⟩)
  have ky : ∀ x ∈ dv.cls, Ab.Sml 1048576 (.sl (x.ms.flatMap Ab.memD) x.ms.length) := fun x hx => s8.mem _ (List.mem_flatMap.2 ⟨x, hx, by simp [Ab.clstD]⟩)
  refine ⟨s9.len, fun p hp => (kp p hp).len, fun p hp c hc => ⟨?_, ?_, ?_⟩, fun x hx e he => (h.pls x hx).1 e he, fun x hx m hm => ?_, ⟨s7.len, s8.len, fun x hx => (kx x hx).len, fun x hx => (ky x hx).len⟩, hs2.len, fun s hs => ⟨(hl s hs).p, ?_, ?_, (hl s hs).path⟩⟩
  · exact ((kp p hp).mem (Ab.usD c.pre) (List.mem_flatMap.2 ⟨c, hc, by simp [Ab.clsD]⟩)).len
  · exact ((kp p hp).mem (Ab.usD c.sCom) (List.mem_flatMap.2 ⟨c, hc, by simp [Ab.clsD]⟩)).len
  · exact ((h.pols p hp).1 c hc).pre
  · exact ((ky x hx).mem (Ab.usD m.all) (List.mem_flatMap.2 ⟨m, hm, by simp [Ab.memD]⟩)).len
  · exact (hs2.mem (Ab.usD s.path) (List.mem_flatMap.2 ⟨s, hs, by simp [Ab.sbjD]⟩)).len
  · exact (hs2.mem (Ab.usD s.com) (List.mem_flatMap.2 ⟨s, hs, by simp [Ab.sbjD]⟩)).len
theorem okN_sub {d : Dvc} {l m : List Sbj} (h : OkN d l) (hs : ∀ s ∈ m, s ∈ l) (hl : m.length ≤ l.length) : OkN d m := ⟨h.n, h.pc, h.cp, h.ep, h.am, h.dn, Nat.le_trans hl h.ln, fun s hm => h.sb s (hs s hm)⟩

theorem nothing_walked : WalkedU 3 [33, 3, 34] := by
  intro H enc W args ds ps hval hA hwt hbk
  have hwe := fun i t d h1 h2 => Ab.all_weightsEach _ _ hwt i t d h1 h2
  obtain ⟨v0, vs0, d0, ds0, p0, q0, e0, rfl, rfl, h0, r0⟩ := trodAll_cons hA
  obtain ⟨v1, vs1, d1, ds1, p1, q1, rfl, rfl, rfl, h1, r1⟩ := trodAll_cons r0
  obtain ⟨v2, vs2, d2, ds2, p2, q2, rfl, rfl, rfl, h2, r2⟩ := trodAll_cons r1
  obtain ⟨rfl, rfl, rfl⟩ := trodAll_nil r2
  obtain rfl : args = #[v0, v1, v2] := by cases args; simp_all
  rw [bulk_all, bulk_all, bulk_all] at hbk
  have hF : ∀ b, Ab.FreeB (fun _ => False) (fun _ => none) b := Ab.FreeB.all
  obtain ⟨D0, ⟨f0, z0⟩, x0⟩ := Ab.arg_aggB (B := 1048576) Ab.tabOk shp_dvc Try.underlying33 (hval 0 33 v0 rfl rfl) h0 (hwe 0 _ _ rfl rfl) (by omega) hF
  obtain ⟨dv, hdv, rfl⟩ := Ab.rd_dvc D0 f0
  obtain ⟨b1, o1⟩ := hval 1 3 v1 rfl rfl
  obtain ⟨w1, rfl⟩ := okWide_int Try.underlying3 o1
  obtain ⟨D1, f1, x1⟩ := Ab.arg_one Ab.tabOk shp_int rfl h1 (hwe 1 _ _ rfl rfl) hF
  obtain ⟨which, rfl, hk⟩ := Ab.rd_i f1
  obtain ⟨b2, o2⟩ := hval 2 34 v2 rfl rfl
  obtain ⟨w2a, w2n, w2c, rfl⟩ := okWide_slice Try.underlying34 o2
  obtain ⟨D2, ⟨f2, z2⟩, x2⟩ := Ab.arg_oneB (B := 1048576) Ab.tabOk shp_sbjs rfl h2 (hwe 2 _ _ rfl rfl) (by omega) hF
  obtain ⟨L, hlb, hl, rfl⟩ := Ab.shd_sl f2 Ab.sbjD _ Ab.rd_sbj
  have hok := okN_of dv hdv z0 L hl z2
  have e1 : L.flatMap Ab.sbjD = (L.take 12).flatMap Ab.sbjD ++ (L.drop 12).flatMap Ab.sbjD := by rw [← List.flatMap_append, List.take_append_drop]
  have e2 : L.length = (L.take 12).length + (L.drop 12).length := by rw [← List.length_append, List.take_append_drop]
  have HC := Ab.nothing1_A dv which (L.take 12) (L.drop 12) (by rw [List.length_take]; omega) (fun hne => by
    rw [List.length_take]
    have : (L.drop 12).length ≠ 0 := fun h => hne (List.length_eq_zero_iff.1 h)
    rw [List.length_drop] at this
    omega) (by have := hok.ln; omega) (okN_sub hok (fun s hs => List.mem_of_mem_take hs) (by rw [List.length_take]; omega))
  rw [← e1, ← e2] at HC
  refine (HC.2 _ _ W _ _ _ W (Ab.HRel.none (fun _ => False) W (fun _ h => h.elim)) ⟨rfl, fun i c u h1 h2 => ?_⟩).mono ?_
  · match i, h1, h2 with
    | 0, h1, h2 => cases h1; cases h2; exact x0
    | 1, h1, h2 => cases h1; cases h2; exact x1
    | 2, h1, h2 => cases h1; cases h2; exact x2
  · rintro x w' ⟨u, c, h', ι', rfl, ⟨rfl, rfl⟩, hH, hv⟩
    obtain ⟨rfl, _⟩ := Ab.sc_of hv
    have G := hH.grewC
    exact ⟨rfl, G.os, G.tape, G.output, G.size, fun k hk => G.mem k hk⟩

theorem nothing_lifted (os : Os) (started : os.Started) (H : Type) (enc : TypeId × Value → H) (F : Stop.Interp) :
    ReturnsInHanded {} Try.checked os 3 .any ((Rows.OpenSpec.upto Rows.policyNothingSpec).pre6 enc Try.prog Try.f3 Rows.policyNothingUptoRow.domain false) (((Rows.OpenSpec.upto Rows.policyNothingSpec).at F).post enc Try.prog Try.f3 false true false false) := by
  refine law_liftU (tb := 4) (s := Rows.policyNothingSpec) Try.func3 (by kernel_rfl) (by kernel_rfl) Try.underlying4 rfl (by kernel_rfl) ?_ ?_ ?_ os started H enc F
    (OpenSpec.witness (enc := enc) (C := Try.checked) (s := Rows.OpenSpec.upto Rows.policyNothingSpec) (k := Rows.uptoSmall) rfl false ⟨#[], #[.agg #[.string ⟨#[]⟩, .int .u8 0, .slice none 0 0, .slice none 0 0, .slice none 0 0, .slice none 0 0, .slice none 0 0, .slice none 0 0, .slice none 0 0, .slice none 0 0, .slice none 0 0, .slice none 0 0], .int .i64 0, .slice none 0 0], []⟩ 8 (by kernel_rfl) (by kernel_rfl) (by kernel_rfl)
      (x := ([.agg [.lit (.string []), .lit (.int .u8 0), .nil, .nil, .nil, .nil, .nil, .nil, .nil, .nil, .nil, .nil], .lit (.int .i64 0), .nil], [], [])) (by kernel_rfl) rfl (by kernel_rfl))
  · intro H ds hl
    rw [show Try.f3.params = #[33, 3, 34] from Try.params3] at hl
    match ds, hl with
    | [a, b, c], _ => exact ⟨rfl, rfl, rfl⟩
  · rw [show Try.f3.params = #[33, 3, 34] from Try.params3]
    intro t ht
    simp at ht
    rcases ht with rfl | rfl | rfl <;> exact ⟨by kernel_rfl, of_decide_eq_true (by kernel_rfl)⟩
  · rw [show Try.f3.params = #[33, 3, 34] from Try.params3]
    exact nothing_walked

theorem policyNothing_over : Rows.policyNothingUptoRow.holds Try.pinned (Rows.OpenSpec.upto Rows.policyNothingSpec) :=
  OpenClaim.holds_of_cond 3 Try.f3 rfl rfl rfl rfl rfl rfl rfl ⟨rfl, rfl, rfl, rfl, rfl⟩ rfl rfl rfl rfl rfl (by kernel_rfl) Try.func3 (by kernel_rfl)
    (of_decide_eq_true (by kernel_rfl)) (by unfold Func.isWrapper; first | (rw [if_pos (by decide +kernel)]; kernel_rfl) | (rw [if_neg (by decide +kernel)]; exact ⟨rfl, rfl⟩))
    (fun os started H enc _ F => nothing_lifted os started H enc F)

theorem policyNothing_holds : Rows.PolicyNothingUptoSaid := policyNothing_over
#print axioms policyNothing_holds
end Go.Proofs.Ytmljmahlpcdhoaa

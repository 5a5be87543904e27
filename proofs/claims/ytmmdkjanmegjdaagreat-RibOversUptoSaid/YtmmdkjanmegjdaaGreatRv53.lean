/-
 RibOvers holds, where what it reads is of bulk at most 1048576: what is taken over of routes is told as the document says, and it is nobody else's.
-/
import Derived.Test.YtmmdkjanmegjdaaGreatRv4
import Derived.Test.YtmmdkjanmegjdaaGreatRv52
set_option linter.unusedVariables false
set_option linter.unusedSimpArgs false
namespace Go.Proofs.YtmmdkjanmegjdaaGreat
open Go.ChangeShapes Go.WideShapes Go.ChangeAt Go.RowKit
set_option maxRecDepth 100000
theorem zey {Q : Sbj → Prop} (d : Dvc) (x : Rds) (i : Nat) (ospf : Bool) : ∀ (rs : List Rte) (tk : List (Pfx × Tkn)) (lk : List Pfx), (∀ r ∈ rs, Q (applyP d x.pol (subjR x ospf r)).1) → (∀ e ∈ tk, Q e.2.2) → ∀ e ∈ inR d x i ospf rs tk lk, Q e.2.2
 | [], tk, lk, _, h => by simpa [inR] using h
 | r :: rs, tk, lk, hq, h => by
  rw [inR]
  have hq' : ∀ r ∈ rs, Q (applyP d x.pol (subjR x ospf r)).1 := fun r' hr => hq r' (by simp [hr])
  split
  ·exact zey d x i ospf rs tk lk hq' h
  split
  ·refine zey d x i ospf rs _ _ hq' fun e he => ?_
   rcases List.mem_append.1 he with he | he
   ·exact h e he
   ·have : e = (r.p, (i, (applyP d x.pol (subjR x ospf r)).1)) := by simpa using he
    subst this
    exact hq r (by simp)
  ·exact zey d x i ospf rs tk _ hq' h
theorem zgS {Q : Sbj → Prop} (d : Dvc) (ospf : Bool) (rs : List Rte) : ∀ (l : List Rds) (i : Nat) (tk : List (Pfx × Tkn)), (∀ x ∈ l, ∀ r ∈ rs, Q (applyP d x.pol (subjR x ospf r)).1) → (∀ e ∈ tk, Q e.2.2) → ∀ e ∈ outR d ospf rs l i tk, Q e.2.2
 | [], i, tk, _, h => by simpa [outR] using h
 | x :: l, i, tk, hq, h => by
  rw [outR]
  exact zgS d ospf rs l (i + 1) _ (fun y hy => hq y (by simp [hy])) (zey d x i ospf rs tk [] (hq x (by simp)) h)
theorem zgh {d : Dvc} {nm : List UInt8} {s : Sbj} (ho : OkA d s) : (applyP d nm s).1.path.length ≤ 1000000000 ∧ (applyP d nm s).1.com.length ≤ 1000000000 := by
 unfold applyP
 split
 ·exact ⟨ho.os.path, ho.os.com⟩
 ·cases hf : d.pols.find? (fun p => decide (p.nm = nm)) with
  | none => exact ⟨Nat.zero_le _, Nat.zero_le _⟩
  | some p =>
   dsimp only
   have hp := ho.op p (List.mem_of_find?_eq_some hf)
   split
   ·have := zf2 d p.cs p.dft p.cs 0 0 (-1) s s [] hp.2 ho.os
    exact ⟨this.path, this.com⟩
   ·exact ⟨Nat.zero_le _, Nat.zero_le _⟩
theorem zhZ {d : Dvc} {l : List Rds} {rs : List Rte} (h : Ab.OkO d l rs) (ospf : Bool) : ∀ x ∈ (overR d l rs ospf).1, Ab.subB x := fun x hx => by
 unfold overR at hx
 split at hx
 ·cases hx
 ·rw [show (takenL (outR d ospf (sortU ordR rs) l 0 []), (0 : Int)).1 = takenL (outR d ospf (sortU ordR rs) l 0 []) from rfl, zeD] at hx
  obtain ⟨p, hp⟩ := hx
  exact zgS (Q := fun s => s.path.length ≤ 1000000000 ∧ s.com.length ≤ 1000000000) d ospf _ l 0 [] (fun y hy r hr => zgh (h.ap _ (h.ok r ((zay _ _).1 hr)).2 rfl rfl)) (by simp) _ hp

theorem zkA : Ab.shp Ab.tab 16 33 = some Ab.dvcS := by kernel_rfl
theorem zkz : Ab.shp Ab.tab 16 34 = some [.sl Ab.rdsS 40] := by kernel_rfl
theorem zky : Ab.shp Ab.tab 16 35 = some [.sl Ab.rteS 72] := by kernel_rfl
theorem zpw : Ab.shp Ab.tab 16 4 = some [.bo] := by kernel_rfl
theorem zcZ {H : Type} (d : DataW H) (r : List (DataW H)) : Rows.uptoBulkAll (d :: r) = Rows.uptoBulk d + Rows.uptoBulkAll r := by simp [Rows.uptoBulkAll]
theorem zf6 : WalkedU 3 [33, 34, 35, 4] := by
 intro H enc W args ds ps hval hA hwt hbk
 have hwe := fun i t d h1 h2 => Ab.zbz _ _ hwt i t d h1 h2
 obtain ⟨v0, vs0, d0, ds0, p0, q0, e0, rfl, rfl, h0, r0⟩ := trodAll_cons hA
 obtain ⟨v1, vs1, d1, ds1, p1, q1, rfl, rfl, rfl, h1, r1⟩ := trodAll_cons r0
 obtain ⟨v2, vs2, d2, ds2, p2, q2, rfl, rfl, rfl, h2, r2⟩ := trodAll_cons r1
 obtain ⟨v3, vs3, d3, ds3, p3, q3, rfl, rfl, rfl, h3, r3⟩ := trodAll_cons r2
 obtain ⟨rfl, rfl, rfl⟩ := trodAll_nil r3
 obtain rfl : args = #[v0, v1, v2, v3] := by cases args; simp_all
 rw [zcZ, zcZ, zcZ, zcZ] at hbk
 have hF : ∀ b, Ab.FreeB (fun _ => False) (fun _ => none) b := Ab.FreeB.all
 obtain ⟨D0, ⟨f0, z0⟩, x0⟩ := Ab.zlV Ab.za zkA Tryz.underlying33 (hval 0 33 v0 rfl rfl) h0 (hwe 0 _ _ rfl rfl) hF
 obtain ⟨dv, hdv, rfl⟩ := Ab.zoB D0 f0
 obtain ⟨b1, o1⟩ := hval 1 34 v1 rfl rfl
 obtain ⟨w1a, w1n, w1c, rfl⟩ := okWide_slice Tryz.underlying34 o1
 obtain ⟨D1, ⟨f1, z1⟩, x1⟩ := Ab.zhn Ab.za zkz rfl h1 (hwe 1 _ _ rfl rfl) hF
 obtain ⟨l, hlb, hl, rfl⟩ := Ab.zau f1 Ab.rdsD (fun _ => True) Ab.zhW
 obtain ⟨b2, o2⟩ := hval 2 35 v2 rfl rfl
 obtain ⟨w2a, w2n, w2c, rfl⟩ := okWide_slice Tryz.underlying35 o2
 obtain ⟨D2, ⟨f2, z2⟩, x2⟩ := Ab.zhn Ab.za zky rfl h2 (hwe 2 _ _ rfl rfl) hF
 obtain ⟨rs, hrb, hr, rfl⟩ := Ab.zau f2 Ab.rteD Ab.okR Ab.zot
 obtain ⟨b3, o3⟩ := hval 3 4 v3 rfl rfl
 obtain ⟨ospf, rfl⟩ := okWide_bool Tryz.underlying4 o3
 have x3 : Ab.VRel W (fun _ => False) (fun _ => none) (Ab.boolA ospf) (.bool ospf) := Ab.zH rfl
 rw [Ab.zbS] at z1 z2
 have n1 := Ab.zar (enc := Ab.rdsD) (c := 4) (fun x => by unfold Ab.rdsD; simp only [Ab.zao, Ab.zaI, Ab.zbs]; omega) l
 have n2 := Ab.zar (enc := Ab.rteD) (c := 9) (fun x => by unfold Ab.rteD; simp only [Ab.zao, Ab.zaI, Ab.zbs]; omega) rs
 have e9 := Ab.zkk (d := .sl (dv.pols.flatMap Ab.polD) dv.pols.length) (l := Ab.dvcD dv) (by simp [Ab.dvcD])
 rw [Ab.zbS] at e9
 have n3 := Ab.zar (enc := Ab.polD) (c := 3) (fun x => by unfold Ab.polD; simp only [Ab.zao, Ab.zaI, Ab.zbs, Ab.zbS]; omega) dv.pols
 have hO : Ab.OkO dv (l.take 20) (rs.take 80) := ⟨by rw [List.length_take]; omega, by rw [List.length_take]; omega, fun r hm => hr r (List.mem_of_mem_take hm), fun s hp h1 h2 => Ab.zoN dv hdv (by omega) (by omega) s hp h1 h2⟩
 have e1 : l.flatMap Ab.rdsD = (l.take 20).flatMap Ab.rdsD ++ (l.drop 20).flatMap Ab.rdsD := by rw [← List.flatMap_append, List.take_append_drop]
 have e2 : l.length = (l.take 20).length + (l.drop 20).length := by rw [← List.length_append, List.take_append_drop]
 have e3 : rs.flatMap Ab.rteD = (rs.take 80).flatMap Ab.rteD ++ (rs.drop 80).flatMap Ab.rteD := by rw [← List.flatMap_append, List.take_append_drop]
 have e4 : rs.length = (rs.take 80).length + (rs.drop 80).length := by rw [← List.length_append, List.take_append_drop]
 have HC := Ab.zmX dv (l.take 20) (l.drop 20) (rs.take 80) (rs.drop 80) ospf (by rw [List.length_take]; omega) (fun hne => by
   rw [List.length_take]
   have : (l.drop 20).length ≠ 0 := fun h => hne (List.length_eq_zero_iff.1 h)
   rw [List.length_drop] at this
   omega) (by omega) (by rw [List.length_take]; omega) (fun hne => by
   rw [List.length_take]
   have : (rs.drop 80).length ≠ 0 := fun h => hne (List.length_eq_zero_iff.1 h)
   rw [List.length_drop] at this
   omega) (by omega) (by omega) hO (zhZ hO ospf)
 rw [← e1, ← e2, ← e3, ← e4] at HC
 refine (HC.2 _ _ W _ _ _ W (Ab.HRel.none (fun _ => False) W (fun _ h => h.elim)) ⟨rfl, fun i c u h1 h2 => ?_⟩).mono ?_
 ·match i, h1, h2 with
  | 0, h1, h2 => cases h1; cases h2; exact x0
  | 1, h1, h2 => cases h1; cases h2; exact x1
  | 2, h1, h2 => cases h1; cases h2; exact x2
  | 3, h1, h2 => cases h1; cases h2; exact x3
 ·rintro x w' ⟨u, c, h', ι', rfl, ⟨rfl, rfl⟩, hH, hv⟩
  obtain ⟨rfl, _⟩ := Ab.zQ hv
  have G := hH.grewC
  exact ⟨rfl, G.os, G.tape, G.output, G.size, fun k hk => G.mem k hk⟩

theorem zf7 (os : Os) (started : os.Started) (H : Type) (enc : TypeId × Value → H) (F : Stop.Interp) :
  ReturnsInHanded {} Tryz.checked os 3 .any ((Rows.OpenSpec.upto Rows.ribOversSpec).pre6 enc Tryz.prog Tryz.f3 Rows.ribOversUptoRow.domain false) (((Rows.OpenSpec.upto Rows.ribOversSpec).at F).post enc Tryz.prog Tryz.f3 false true false false) := by
 refine zjJ (tb := 4) (s := Rows.ribOversSpec) Tryz.func3 (by kernel_rfl) (by kernel_rfl) Tryz.underlying4 rfl (by kernel_rfl) ?_ ?_ ?_ os started H enc F
  (OpenSpec.witness (enc := enc) (C := Tryz.checked) (s := Rows.OpenSpec.upto Rows.ribOversSpec) (k := Rows.uptoSmall) rfl false ⟨#[], #[.agg #[.string ⟨#[]⟩, .int .u8 0, .slice none 0 0, .slice none 0 0, .slice none 0 0, .slice none 0 0, .slice none 0 0, .slice none 0 0, .slice none 0 0, .slice none 0 0, .slice none 0 0, .slice none 0 0], .slice none 0 0, .slice none 0 0, .bool false], []⟩ 8 (by kernel_rfl) (by kernel_rfl) (by kernel_rfl)
   (x := ([.agg [.lit (.string []), .lit (.int .u8 0), .nil, .nil, .nil, .nil, .nil, .nil, .nil, .nil, .nil, .nil], .nil, .nil, .lit (.bool false)], [], [])) (by kernel_rfl) rfl (by kernel_rfl))
 ·intro H ds hl
  rw [show Tryz.f3.params = #[33, 34, 35, 4] from Tryz.params3] at hl
  match ds, hl with
  | [a, b, c, d], _ => exact ⟨rfl, rfl, rfl⟩
 ·rw [show Tryz.f3.params = #[33, 34, 35, 4] from Tryz.params3]
  intro t ht
  simp at ht
  rcases ht with rfl | rfl | rfl | rfl <;> exact ⟨by kernel_rfl, of_decide_eq_true (by kernel_rfl)⟩
 ·rw [show Tryz.f3.params = #[33, 34, 35, 4] from Tryz.params3]
  exact zf6

theorem zfg : Rows.ribOversUptoRow.holds Tryz.pinned (Rows.OpenSpec.upto Rows.ribOversSpec) :=
 OpenClaim.holds_of_cond 3 Tryz.f3 rfl rfl rfl rfl rfl rfl rfl ⟨rfl, rfl, rfl, rfl, rfl⟩ rfl rfl rfl rfl rfl (by kernel_rfl) Tryz.func3 (by kernel_rfl)
  (of_decide_eq_true (by kernel_rfl)) (by unfold Func.isWrapper; first | (rw [if_pos (by decide +kernel)]; kernel_rfl) | (rw [if_neg (by decide +kernel)]; exact ⟨rfl, rfl⟩))
  (fun os started H enc _ F => zf7 os started H enc F)

theorem ribOvers_holds : Rows.RibOversUptoSaid := zfg
#print axioms ribOvers_holds
end Go.Proofs.YtmmdkjanmegjdaaGreat

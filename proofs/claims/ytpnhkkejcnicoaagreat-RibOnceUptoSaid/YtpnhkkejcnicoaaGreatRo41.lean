/-
  Texts of a proof, one behind the other (part 42).
-/
import Derived.Test.YtpnhkkejcnicoaaGreatRo6
import Derived.Test.YtpnhkkejcnicoaaGreatRo26
import Derived.Test.YtpnhkkejcnicoaaGreatRo40
set_option linter.unusedVariables false
set_option linter.unusedSimpArgs false
namespace Go.Proofs.YtpnhkkejcnicoaaGreat
set_option linter.unusedVariables false
set_option maxRecDepth 100000
open Go.RowKit Go.Lib
namespace Ab
set_option linter.unusedSimpArgs false
attribute [local irreducible] AWp AOps AQ AYield AEff ACall AWk AAny AAt AThen AIn APost NoPanic
set_option maxHeartbeats 8000000 in
theorem apply_A (d : Dvc) (nm : List UInt8) (s : Sbj) (ho : OkA d s) : ACall Tryz.prog 12 [dvcA d, .d (sD nm), aggD (sbjD s)] [] (Just (.tup [aggD (sbjD (applyP d nm s).1), boolA (applyP d nm s).2.1, .d (iD (applyP d nm s).2.2)])) := by
  unfold applyP
  by_cases hn : nm = []
  · have how := own_A s ho.os.path ho.os.com
    rw [if_pos hn]
    refine ACall_of tabOk Tryz.func12 rfl Tryz.ntmps12 (congrArg Array.toList Tryz.results12) (by kernel_rfl) rfl ?_
    repeat (first | refine q_Z ?_ | refine R_quiet rfl mixed (by kernel_rfl) ?_ | ((first | apply O_y rfl rfl rfl | apply Q_y rfl rfl rfl); (first | exact q_A | exact q_5 | exact q_B | (exact R_sT rfl rfl rfl rfl (decide_eq_true hn)))) | refine q_d ?_ | refine q_a ?_ | refine q_b ?_ | refine q_c ?_ | refine A_ct rfl ?_ | refine A_cf rfl ?_ | refine q_W ?_ | refine O_c rfl rfl rfl rfl rfl how (fun _ => rfl) ?_)
    exact X_ret rfl ⟨rfl, rfl⟩
  rw [if_neg hn]
  have hna := named_A d nm (by have := ho.n; omega)
  unfold namedA at hna
  cases hf : d.pols.find? (fun p => decide (p.nm = nm)) with
  | none =>
    rw [hf] at hna
    try dsimp only at hna ⊢
    refine ACall_of tabOk Tryz.func12 rfl Tryz.ntmps12 (congrArg Array.toList Tryz.results12) (by kernel_rfl) rfl ?_
    repeat (first | refine q_Z ?_ | refine R_quiet rfl mixed (by kernel_rfl) ?_ | ((first | apply O_y rfl rfl rfl | apply Q_y rfl rfl rfl); (first | exact q_A | exact q_5 | exact q_B | (exact R_sF rfl rfl rfl rfl (decide_eq_false hn)))) | refine q_d ?_ | refine q_a ?_ | refine q_b ?_ | refine q_c ?_ | refine A_ct rfl ?_ | refine A_cf rfl ?_ | refine q_W ?_ | refine O_c rfl rfl rfl rfl rfl hna (fun _ => rfl) ?_)
    exact X_retW ((Wk_seeC (b := 6) (i := 5) rfl rfl).trans (Wk_seeC (b := 6) (i := 6) rfl rfl)) rfl (h2 := []) trivial ⟨rfl, rfl⟩
  | some p =>
    rw [hf] at hna
    try dsimp only at hna ⊢
    have hp := ho.op p (List.mem_of_find?_eq_some hf)
    obtain ⟨x, hr⟩ : ∃ x, runP d p s = x := ⟨_, rfl⟩
    have hlast : OkS (lastS s (runP d p s).2.2) := runL_ok d p.cs p.dft p.cs 0 0 (-1) s s [] hp.2 ho.os
    rw [hr] at hlast ⊢
    obtain ⟨ok, b, ms⟩ := x
    try dsimp only at hlast ⊢
    have hru := runA_A d p s ho.od hp.1 hp.2 hr
    have how := own_A (lastS s ms) hlast.path hlast.com
    refine ACall_of tabOk Tryz.func12 rfl Tryz.ntmps12 (congrArg Array.toList Tryz.results12) (by kernel_rfl) rfl ?_
    repeat (first | refine q_Z ?_ | refine R_quiet rfl mixed (by kernel_rfl) ?_ | ((first | apply O_y rfl rfl rfl | apply Q_y rfl rfl rfl); (first | exact q_A | exact q_5 | exact q_B | first | exact R_sF rfl rfl rfl rfl (decide_eq_false hn) | exact Y_makeFunc rfl rfl)) | refine q_d ?_ | refine q_a ?_ | refine q_b ?_ | refine q_c ?_ | refine A_ct rfl ?_ | refine A_cf rfl ?_ | refine q_W ?_ | refine O_c rfl rfl rfl rfl rfl hna (fun _ => rfl) ?_)
    refine O_cP [(1000, 11)] (fun p p' i h1 h2 => by rw [(look_oneU h1).1, (look_oneU h2).1]) (fun p i h1 => by rw [(look_oneU h1).1]; exact ⟨Nat.le_refl _, rfl, rfl⟩) hru (List.all_eq_true.1 (show List.all _ _ = true from rfl)) ⟨⟨11, _, rfl, rfl, rfl, fun c hc => by obtain ⟨x, _, rfl⟩ := List.mem_map.1 hc; rfl⟩, trivial⟩ rfl rfl rfl rfl rfl rfl ?_
    cases ok with
    | true =>
      repeat (first | refine q_Z ?_ | refine R_quiet rfl mixed (by kernel_rfl) ?_ | ((first | apply O_y rfl rfl rfl | apply Q_y rfl rfl rfl); (first | exact q_A | exact q_5 | exact q_B)) | refine q_d ?_ | refine q_a ?_ | refine q_b ?_ | refine q_c ?_ | refine A_ct rfl ?_ | refine A_cf rfl ?_ | refine q_W ?_ | refine O_c rfl rfl rfl rfl rfl how (fun _ => rfl) ?_)
      exact X_ret rfl ⟨rfl, rfl⟩
    | false =>
      repeat (first | refine q_Z ?_ | refine R_quiet rfl mixed (by kernel_rfl) ?_ | ((first | apply O_y rfl rfl rfl | apply Q_y rfl rfl rfl); (first | exact q_A | exact q_5 | exact q_B)) | refine q_d ?_ | refine q_a ?_ | refine q_b ?_ | refine q_c ?_ | refine A_ct rfl ?_ | refine A_cf rfl ?_ | refine q_W ?_)
      exact X_retW ((Wk_seeC (b := 6) (i := 5) rfl rfl).trans (Wk_seeC (b := 6) (i := 6) rfl rfl)) rfl (h2 := []) trivial ⟨rfl, rfl⟩
abbrev marksA (l : List (Nat × Sbj)) : AVal := .d (.sl (l.flatMap markD) l.length)
end Ab
end Go.Proofs.YtpnhkkejcnicoaaGreat

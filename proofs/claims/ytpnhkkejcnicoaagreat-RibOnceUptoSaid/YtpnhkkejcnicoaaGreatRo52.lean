/-
  Texts of a proof, one behind the other (part 53).
-/
import Derived.Test.YtpnhkkejcnicoaaGreatRo6
import Derived.Test.YtpnhkkejcnicoaaGreatRo51
set_option linter.unusedVariables false
set_option linter.unusedSimpArgs false
namespace Go.Proofs.YtpnhkkejcnicoaaGreat.Ab
set_option linter.unusedVariables false
set_option maxRecDepth 100000
open Go.RowKit Go.Lib
def awTen : Pfx := ⟨167772160, 8⟩
def awA : Rte := ⟨awTen, 2, 1, 0, 0, [], 5, false⟩
def awB : Rte := ⟨awTen, 3, 110, 0, 0, [], 6, false⟩
def awC : Rte := ⟨⟨0, 0⟩, 2, 1, 0, 0, [], 7, false⟩
theorem aw_take : takeR [awB, awA, awC] = [awC, awA] := by
  refine rising_ext good_ordR (takeR_rising _) (by unfold Rising; decide) fun r => ?_
  rw [takeR_mem]
  constructor
  · rintro ⟨h1, h2⟩
    simp only [List.mem_cons, List.not_mem_nil, or_false] at h1
    rcases h1 with rfl | rfl | rfl
    · exact absurd (h2 awA (by simp) rfl) (by decide)
    · simp
    · simp
  · intro h
    simp only [List.mem_cons, List.not_mem_nil, or_false] at h
    rcases h with rfl | rfl
    · refine ⟨by simp, fun s hs hp => ?_⟩
      simp only [List.mem_cons, List.not_mem_nil, or_false] at hs
      rcases hs with rfl | rfl | rfl
      · exact absurd hp (by decide)
      · exact absurd hp (by decide)
      · decide
    · refine ⟨by simp, fun s hs hp => ?_⟩
      simp only [List.mem_cons, List.not_mem_nil, or_false] at hs
      rcases hs with rfl | rfl | rfl
      · decide
      · decide
      · exact absurd hp (by decide)
theorem aw_long : longL [awC, awA] 167837953 = [awA] := by
  have h : [awC, awA].filter (topB [awC, awA] 167837953) = [awA] := by decide
  unfold longL
  rw [h]
  exact sortU_of_rising good_ordR ordR_eq (by unfold Rising; simp)
theorem aw_us : usN [awC, awA] 167837953 = (0, true) := by
  have h : [awC, awA].filter ownB = [awC, awA] := by decide
  unfold usN
  rw [h, aw_long]
  rfl
theorem A_cut1 {P : Program} {nt : Nat} {Q : Post} {e : Env} {h : Heap} {z : Bool} {c y : Code} (E1 : Env) (H1 : Heap) (h1 : AWp z P nt c (AThen (fun e' h' => AWk nt e' h' E1 H1) RF) e h) (h2 : AWp z P nt y Q E1 H1) : AWp z P nt c (AThen (AWp z P nt y Q) Q) e h :=
  h1.mono fun ex e h hq => by
    cases ex with
    | normal => exact A_weaken hq h2
    | _ => exact False.elim hq
set_option linter.unusedSimpArgs false
attribute [local irreducible] AWp AOps AQ AYield AEff ACall AWk AAny AAt AThen AIn APost NoPanic
set_option maxHeartbeats 4000000 in
theorem ribAwake_A : ACall Tryz.prog 4 [] [] (Just (boolA true)) := by
  have hok : ∀ r ∈ [awB, awA, awC], okR r := fun r hr => by
    simp only [List.mem_cons, List.not_mem_nil, or_false] at hr
    rcases hr with rfl | rfl | rfl <;> exact ⟨by decide, by unfold Pfx.ok; decide⟩
  have hok2 : ∀ r ∈ [awC, awA], okR r := fun r hr => by
    simp only [List.mem_cons, List.not_mem_nil, or_false] at hr
    rcases hr with rfl | rfl <;> exact ⟨by decide, by unfold Pfx.ok; decide⟩
  have ht := take_A [awB, awA, awC] hok (by decide)
  rw [aw_take] at ht
  have hl := ribLongest_A [awC, awA] hok2 (by decide) 167837953 (by decide) (by decide)
  rw [aw_long] at hl
  have hu := usable_A [awC, awA] hok2 (by decide) 167837953 (by decide) (by decide)
  rw [aw_us] at hu
  have he := rteEq awA awA
  rw [show (awA == awA) = true by decide] at he
  refine ACall_of tabOk Tryz.func4 rfl Tryz.ntmps4 (congrArg Array.toList Tryz.results4) (by kernel_rfl) rfl ?_
  refine A_seq ?_
  refine R_list ?_
  repeat (first | refine q_Z ?_ | ((first | apply O_y rfl rfl rfl | apply Q_y rfl rfl rfl); (first | exact q_A | exact q_5 | exact q_B)) | refine q_d ?_ | refine q_a ?_ | refine q_b ?_ | refine q_c ?_ | refine A_ct rfl ?_ | refine A_cf rfl ?_ | refine q_W ?_)
  refine A_cut1 [(2, .ptr 2 0), (3, .ptr 3 0)] [(2, rteB1 awA), (3, rteB1 awB)] ?_ ?_
  · refine N_begin [2, 3] mixed ?_
    (apply q_P 0 rfl (by kernel_rfl) rfl rfl rfl; (first | exact q_A | exact q_5 | exact q_B | fail))
    (apply q_P 1 rfl (by kernel_rfl) rfl rfl rfl; (first | exact q_A | exact q_5 | exact q_B | fail))
    (apply q_P 2 rfl (by kernel_rfl) rfl rfl rfl; (first | exact q_A | exact q_5 | exact q_B | fail))
    (apply q_P 3 rfl (by kernel_rfl) rfl rfl rfl; (first | exact q_A | exact q_5 | exact q_B | fail))
    refine N_two (j := 4) (k := 5) (by decide +kernel) ?_ ?_
    · refine T_alloc tabOk rfl rfl rfl rfl rfl rfl rfl ?_
      refine N_one (j := 5) (by kernel_rfl) ?_
      refine T_alloc tabOk rfl rfl rfl rfl rfl rfl rfl ?_
      refine N_one (j := 6) (by kernel_rfl) ?_
      refine T_store tabOk rfl rfl rfl rfl rfl rfl rfl rfl rfl rfl rfl rfl rfl ?_
      refine N_one (j := 7) (by kernel_rfl) ?_
      refine T_store tabOk rfl rfl rfl rfl rfl rfl rfl rfl rfl rfl rfl rfl rfl ?_
      refine N_done (by kernel_rfl) ?_
      repeat (first | refine q_Z ?_ | ((first | apply O_y rfl rfl rfl | apply Q_y rfl rfl rfl); (first | exact q_A | exact q_5 | exact q_B)) | refine q_d ?_ | refine q_a ?_ | refine q_b ?_ | refine q_c ?_ | refine A_ct rfl ?_ | refine A_cf rfl ?_ | refine q_W ?_)
      exact Wk_sel ⟨rfl, rfl, trivial⟩ ⟨rfl, rfl, trivial⟩
    · refine T_alloc tabOk rfl rfl rfl rfl rfl rfl rfl ?_
      refine N_one (j := 4) (by kernel_rfl) ?_
      refine T_alloc tabOk rfl rfl rfl rfl rfl rfl rfl ?_
      refine N_one (j := 6) (by kernel_rfl) ?_
      refine T_store tabOk rfl rfl rfl rfl rfl rfl rfl rfl rfl rfl rfl rfl rfl ?_
      refine N_one (j := 7) (by kernel_rfl) ?_
      refine T_store tabOk rfl rfl rfl rfl rfl rfl rfl rfl rfl rfl rfl rfl rfl ?_
      refine N_done (by kernel_rfl) ?_
      repeat (first | refine q_Z ?_ | ((first | apply O_y rfl rfl rfl | apply Q_y rfl rfl rfl); (first | exact q_A | exact q_5 | exact q_B)) | refine q_d ?_ | refine q_a ?_ | refine q_b ?_ | refine q_c ?_ | refine A_ct rfl ?_ | refine A_cf rfl ?_ | refine q_W ?_)
      exact Wk_sel ⟨rfl, rfl, trivial⟩ ⟨rfl, rfl, trivial⟩
  ·
    repeat (first | refine q_Z ?_ | ((first | apply O_y rfl rfl rfl | apply Q_y rfl rfl rfl); (first | exact q_A | exact q_5 | exact q_B)) | refine q_d ?_ | refine q_a ?_ | refine q_b ?_ | refine q_c ?_ | refine A_ct rfl ?_ | refine A_cf rfl ?_ | refine q_W ?_)
    refine O_weaken (Wk_freeze (id := 16) rfl) ?_
    refine O_cRow rfl rfl rfl rfl rfl ht rfl ?_
    repeat (first | refine q_Z ?_ | ((first | apply O_y rfl rfl rfl | apply Q_y rfl rfl rfl); (first | exact q_A | exact q_5 | exact q_B)) | refine q_d ?_ | refine q_a ?_ | refine q_b ?_ | refine q_c ?_ | refine A_ct rfl ?_ | refine A_cf rfl ?_ | refine q_W ?_)
    refine O_weaken (Wk_freeze (id := 5) rfl) ?_
    refine O_cRow rfl rfl rfl rfl rfl hl rfl ?_
    repeat (first | refine q_Z ?_ | ((first | apply O_y rfl rfl rfl | apply Q_y rfl rfl rfl); (first | exact q_A | exact q_5 | exact q_B)) | refine q_d ?_ | refine q_a ?_ | refine q_b ?_ | refine q_c ?_ | refine A_ct rfl ?_ | refine A_cf rfl ?_ | refine q_W ?_ | refine O_c rfl rfl rfl rfl rfl hu (fun _ => rfl) ?_)
    refine R_quiet rfl mixed (by kernel_rfl) ?_
    repeat (first | refine q_Z ?_ | ((first | apply O_y rfl rfl rfl | apply Q_y rfl rfl rfl); (first | exact q_A | exact q_5 | exact q_B | (first | exact R_index tabOk rfl rfl rfl rfl rfl rfl (by decide) | exact R_indexr tabOk rfl rfl rfl rfl rfl rfl rfl (by decide) | exact R_cmpT rfl rfl rfl rfl (by decide) | exact Y_eq tabOk noStand rfl rfl rfl rfl rfl rfl rfl rfl rfl (by kernel_rfl) he rfl))) | refine q_d ?_ | refine q_a ?_ | refine q_b ?_ | refine q_c ?_ | refine A_ct rfl ?_ | refine A_cf rfl ?_ | refine q_W ?_)
    exact X_ret rfl ⟨rfl, rfl⟩
end Go.Proofs.YtpnhkkejcnicoaaGreat.Ab

/-
 Texts of a proof, one behind the other (part 52).
-/
import Derived.Test.YtmmdkjanmegjdaaGreatRv4
import Derived.Test.YtmmdkjanmegjdaaGreatRv43
import Derived.Test.YtmmdkjanmegjdaaGreatRv50
set_option linter.unusedSimpArgs false
set_option linter.unusedVariables false
namespace Go.Proofs.YtmmdkjanmegjdaaGreat.Ab
set_option maxRecDepth 100000
open Go.RowKit Go.Lib
def awTen : Pfx := ⟨167772160, 8⟩
def awA : Rte := ⟨awTen, 2, 1, 0, 0, [], 5, false⟩
def awB : Rte := ⟨awTen, 3, 110, 0, 0, [], 6, false⟩
def awC : Rte := ⟨⟨0, 0⟩, 2, 1, 0, 0, [], 7, false⟩
theorem znA : takeR [awB, awA, awC] = [awC, awA] := by
 refine zaY zbd (zfX _) (by unfold Rising; decide) fun r => ?_
 rw [zjf]
 constructor
 ·rintro ⟨h1, h2⟩
  simp only [List.mem_cons, List.not_mem_nil, or_false] at h1
  rcases h1 with rfl | rfl | rfl
  ·exact absurd (h2 awA (by simp) rfl) (by decide)
  ·simp
  ·simp
 ·intro h
  simp only [List.mem_cons, List.not_mem_nil, or_false] at h
  rcases h with rfl | rfl
  ·refine ⟨by simp, fun s hs hp => ?_⟩
   simp only [List.mem_cons, List.not_mem_nil, or_false] at hs
   rcases hs with rfl | rfl | rfl
   ·exact absurd hp (by decide)
   ·exact absurd hp (by decide)
   ·decide
  ·refine ⟨by simp, fun s hs hp => ?_⟩
   simp only [List.mem_cons, List.not_mem_nil, or_false] at hs
   rcases hs with rfl | rfl | rfl
   ·decide
   ·decide
   ·exact absurd hp (by decide)
theorem ziW : longL [awC, awA] 167837953 = [awA] := by
 have h : [awC, awA].filter (topB [awC, awA] 167837953) = [awA] := by decide
 unfold longL
 rw [h]
 exact zes zbd zf8 (by unfold Rising; simp)
theorem zpE : usN [awC, awA] 167837953 = (0, true) := by
 have h : [awC, awA].filter ownB = [awC, awA] := by decide
 unfold usN
 rw [h, ziW]
 rfl
theorem zpr {P : Program} {nt : Nat} {Q : Post} {e : Env} {h : Heap} {z : Bool} {c y : Code} (E1 : Env) (H1 : Heap) (h1 : AWp z P nt c (AThen (fun e' h' => AWk nt e' h' E1 H1) RF) e h) (h2 : AWp z P nt y Q E1 H1) : AWp z P nt c (AThen (AWp z P nt y Q) Q) e h :=
 h1.mono fun ex e h hq => by
  cases ex with
  | normal => exact zt hq h2
  | _ => exact False.elim hq
attribute [local irreducible] AWp AOps AQ AYield AEff ACall AWk AAny AAt AThen AIn APost NoPanic
set_option maxHeartbeats 4000000 in
theorem zhV : ACall Tryz.prog 4 [] [] (Just (boolA true)) := by
 have hok : ∀ r ∈ [awB, awA, awC], okR r := fun r hr => by
  simp only [List.mem_cons, List.not_mem_nil, or_false] at hr
  rcases hr with rfl | rfl | rfl <;> exact ⟨by decide, by unfold Pfx.ok; decide⟩
 have hok2 : ∀ r ∈ [awC, awA], okR r := fun r hr => by
  simp only [List.mem_cons, List.not_mem_nil, or_false] at hr
  rcases hr with rfl | rfl <;> exact ⟨by decide, by unfold Pfx.ok; decide⟩
 have ht := zoj [awB, awA, awC] hok (by decide)
 rw [znA] at ht
 have hl := zdm [awC, awA] hok2 (by decide) 167837953 (by decide) (by decide)
 rw [ziW] at hl
 have hu := zko [awC, awA] hok2 (by decide) 167837953 (by decide) (by decide)
 rw [zpE] at hu
 have he := rteEq awA awA
 rw [show (awA == awA) = true by decide] at he
 refine zf za Tryz.func4 rfl Tryz.ntmps4 (congrArg Array.toList Tryz.results4) (by kernel_rfl) rfl ?_
 refine z7 ?_
 refine zab ?_
 repeat (first | refine q_Z ?_ | ((first | apply q_K rfl | apply q_X rfl); (exact q_H)) | refine q_U ?_)
 refine zpr [(2, .ptr 2 0), (3, .ptr 3 0)] [(2, rteB1 awA), (3, rteB1 awB)] ?_ ?_
 ·refine zA [2, 3] mixed ?_
  (apply q_P 0 rfl (by kernel_rfl) rfl rfl rfl; (first | exact q_H | fail))
  (apply q_P 1 rfl (by kernel_rfl) rfl rfl rfl; (first | exact q_H | fail))
  (apply q_P 2 rfl (by kernel_rfl) rfl rfl rfl; (first | exact q_H | fail))
  (apply q_P 3 rfl (by kernel_rfl) rfl rfl rfl; (first | exact q_H | fail))
  refine zcf (j := 4) (k := 5) (by decide +kernel) ?_ ?_
  ·refine zW za rfl rfl rfl rfl rfl rfl rfl ?_
   refine zd (j := 5) (by kernel_rfl) ?_
   refine zW za rfl rfl rfl rfl rfl rfl rfl ?_
   refine zd (j := 6) (by kernel_rfl) ?_
   refine zJ za rfl rfl rfl rfl rfl rfl rfl rfl rfl rfl rfl rfl rfl ?_
   refine zd (j := 7) (by kernel_rfl) ?_
   refine zJ za rfl rfl rfl rfl rfl rfl rfl rfl rfl rfl rfl rfl rfl ?_
   refine zz (by kernel_rfl) ?_
   repeat (first | refine q_Z ?_ | ((first | apply q_K rfl | apply q_X rfl); (exact q_H)) | refine q_U ?_)
   exact q_S
  ·refine zW za rfl rfl rfl rfl rfl rfl rfl ?_
   refine zd (j := 4) (by kernel_rfl) ?_
   refine zW za rfl rfl rfl rfl rfl rfl rfl ?_
   refine zd (j := 6) (by kernel_rfl) ?_
   refine zJ za rfl rfl rfl rfl rfl rfl rfl rfl rfl rfl rfl rfl rfl ?_
   refine zd (j := 7) (by kernel_rfl) ?_
   refine zJ za rfl rfl rfl rfl rfl rfl rfl rfl rfl rfl rfl rfl rfl ?_
   refine zz (by kernel_rfl) ?_
   repeat (first | refine q_Z ?_ | ((first | apply q_K rfl | apply q_X rfl); (exact q_H)) | refine q_U ?_)
   exact q_S
 ·
  repeat (first | refine q_Z ?_ | ((first | apply q_K rfl | apply q_X rfl); (exact q_H)) | refine q_U ?_)
  refine zB (zF (id := 16) rfl) ?_
  refine zbh rfl rfl rfl rfl rfl ht rfl ?_
  repeat (first | refine q_Z ?_ | ((first | apply q_K rfl | apply q_X rfl); (exact q_H)) | refine q_U ?_)
  refine zB (zF (id := 5) rfl) ?_
  refine zbh rfl rfl rfl rfl rfl hl rfl ?_
  repeat (first | refine q_Z ?_ | ((first | apply q_K rfl | apply q_X rfl); (exact q_H)) | refine q_U ?_ | refine q_O hu ?_)
  refine zgr rfl mixed (by kernel_rfl) ?_
  repeat (first | refine q_Z ?_ | ((first | apply q_K rfl | apply q_X rfl); (first | exact q_H | (first | exact zbF za rfl rfl rfl rfl rfl rfl (by decide) | exact zi za rfl rfl rfl rfl rfl rfl rfl (by decide) | exact ziB rfl rfl rfl rfl (by decide) | exact Y_eq za zap rfl rfl rfl rfl rfl rfl rfl rfl rfl (by kernel_rfl) he rfl))) | refine q_U ?_)
  exact zk rfl ⟨rfl, rfl⟩
end Go.Proofs.YtmmdkjanmegjdaaGreat.Ab

/-
 Texts of a proof, one behind the other (part 41).
-/
import Derived.Test.YtmmdkjanmegjdaaGreatRv4
import Derived.Test.YtmmdkjanmegjdaaGreatRv23
import Derived.Test.YtmmdkjanmegjdaaGreatRv39
set_option linter.unusedSimpArgs false
set_option linter.unusedVariables false
namespace Go.Proofs.YtmmdkjanmegjdaaGreat.Ab
set_option maxRecDepth 100000
open Go.RowKit Go.Lib
attribute [local irreducible] AWp AOps AQ AYield AEff ACall AWk AAny AAt AThen AIn APost NoPanic
set_option maxHeartbeats 4000000 in
theorem zdl (s : Sbj) (h1 : s.path.length ≤ 1000000000) (h2 : s.com.length ≤ 1000000000) : ACall Tryz.prog 36 [aggD (sbjD s)] [] (Just (aggD (sbjD s))) := by
 have f1 : (s.path.flatMap u1D).length = s.path.length * 1 := zM zV _
 have f2 : (s.com.flatMap u1D).length = s.com.length * 1 := zM zV _
 refine zf za Tryz.func36 rfl Tryz.ntmps36 (congrArg Array.toList Tryz.results36) (by kernel_rfl) rfl ?_
 refine z7 ?_
 refine zab ?_
 refine q_d ?_
 refine q_a ?_
 refine zcv ?_
 refine q_j ?_
 refine zaH [(1, .ptr 1 0), (2, .ptr 2 0)] [(1, .var (sbjV s (.row 3) (.d (usD s.com)))), (2, .var sbjZ), (3, uB s.path)] ?_ ?_
 ·
  repeat ((fail_if_success refine zb ?_); first | refine q_Y ?_ | ((first | apply q_K rfl | apply q_X rfl); (exact q_G)) | refine q_U ?_ | first | refine zcM za rfl rfl rfl rfl rfl rfl rfl ?_ | (first | refine zaE za rfl rfl rfl rfl rfl rfl rfl rfl rfl rfl rfl (by first | exact Src.row rfl | exact Src.dat _ _ | exact Src.nil) f1 (by omega) ?_ | refine zaF za rfl rfl rfl rfl rfl rfl rfl rfl rfl rfl (by first | exact Src.row rfl | exact Src.dat _ _ | exact Src.nil) f1 (by omega) ?_))
  exact zm ⟨rfl, rfl, trivial⟩ ⟨rfl, rfl, zah (by simp) (by simp) rfl, trivial⟩
 refine zt (zF (id := 3) rfl) ?_
 refine zaH [(1, .ptr 1 0), (2, .ptr 2 0)] [(1, .var (sbjV s (.d (usD s.path)) (.row 8))), (2, .var sbjZ), (8, uB s.com)] ?_ ?_
 ·
  repeat ((fail_if_success refine zb ?_); first | refine q_Y ?_ | ((first | apply q_K rfl | apply q_X rfl); (exact q_G)) | refine q_U ?_ | first | refine zcM za rfl rfl rfl rfl rfl rfl rfl ?_ | (first | refine zaE za rfl rfl rfl rfl rfl rfl rfl rfl rfl rfl rfl (by first | exact Src.row rfl | exact Src.dat _ _ | exact Src.nil) f2 (by omega) ?_ | refine zaF za rfl rfl rfl rfl rfl rfl rfl rfl rfl rfl (by first | exact Src.row rfl | exact Src.dat _ _ | exact Src.nil) f2 (by omega) ?_))
  exact zm ⟨rfl, rfl, trivial⟩ ⟨rfl, rfl, zah (by simp) (by simp) rfl, trivial⟩
 refine zt (zF (id := 8) rfl) ?_
 repeat ((fail_if_success refine zb ?_); first | refine q_Y ?_ | ((first | apply q_K rfl | apply q_X rfl); (exact q_G)) | refine q_U ?_)
 exact zo AWk.refl rfl (h2 := []) trivial ⟨rfl, rfl⟩
set_option maxHeartbeats 16000000 in
theorem zom (c : Cls) (s : Sbj) (h1 : s.path.length + c.pre.length ≤ 1000000000) (h2 : s.com.length + c.sCom.length ≤ 1000000000) :
  ACall Tryz.prog 61 [aggD (clsD c), aggD (sbjD s)] [] (Just (aggD (sbjD (setC c s)))) := by
 have ho := zdl s (by omega) (by omega)
 have hj := zmM s.com c.sCom h2
 have hn := zft c.sCom (by omega)
 obtain ⟨m1, e1⟩ : ∃ m, (if c.sMet = -1 then s.met else c.sMet) = m := ⟨_, rfl⟩
 obtain ⟨m2, e2⟩ : ∃ m, (if c.sPref = -1 then s.pref else c.sPref) = m := ⟨_, rfl⟩
 obtain ⟨m3, e3⟩ : ∃ m, (if c.sTag = -1 then s.tag else c.sTag) = m := ⟨_, rfl⟩
 obtain ⟨m4, e4⟩ : ∃ m, (if c.sHop = 0 then s.hop else c.sHop) = m := ⟨_, rfl⟩
 obtain ⟨m5, e5⟩ : ∃ m, (if c.sCom.length = 0 then s.com else if c.add then nrm (s.com ++ c.sCom) else nrm c.sCom) = m := ⟨_, rfl⟩
 have hset : setC c s = ⟨s.p, m1, m3, m2, c.pre ++ s.path, m5, m4⟩ := by unfold setC; rw [e1, e2, e3, e4, e5]
 rw [hset]
 refine zf za Tryz.func61 rfl Tryz.ntmps61 (congrArg Array.toList Tryz.results61) (by kernel_rfl) rfl ?_
 refine z7 ?_
 refine zab ?_
 refine q_d ?_
 refine q_d ?_
 refine q_a ?_
 refine zcv ?_
 refine q_j ?_
 refine zaH [(2, .ptr 2 0), (3, .ptr 3 0), (4, .ptr 4 0)] [(2, .var ((clsD c).map .d)), (3, .var (sbjV s (.d (usD s.path)) (.d (usD s.com)))), (4, .var sbjZ)] ?_ ?_
 ·
  repeat ((fail_if_success refine zb ?_); (fail_if_success refine zL ?_); first | refine q_Y ?_ | ((first | apply q_K rfl | apply q_X rfl); (exact q_G)) | refine q_U ?_ | refine q_O ho ?_)
  exact q_S
 refine zaH [(2, .ptr 2 0), (3, .ptr 3 0), (4, .ptr 4 0)] [(2, .var ((clsD c).map .d)), (3, .var (sbjV { s with met := m1 } (.d (usD s.path)) (.d (usD s.com)))), (4, .var sbjZ)] ?_ ?_
 ·by_cases hc : c.sMet = -1
  ·rw [if_pos hc] at e1
   subst e1
   repeat ((fail_if_success refine zb ?_); (fail_if_success refine zL ?_); first | refine q_Y ?_ | ((first | apply q_K rfl | apply q_X rfl); (exact q_G)) | refine q_U ?_)
   exact q_S
  ·rw [if_neg hc] at e1
   subst e1
   repeat ((fail_if_success refine zb ?_); (fail_if_success refine zL ?_); first | refine q_Y ?_ | ((first | apply q_K rfl | apply q_X rfl); (exact q_G)) | refine q_U ?_)
   exact q_S
 refine zaH [(2, .ptr 2 0), (3, .ptr 3 0), (4, .ptr 4 0)] [(2, .var ((clsD c).map .d)), (3, .var (sbjV { s with met := m1, pref := m2 } (.d (usD s.path)) (.d (usD s.com)))), (4, .var sbjZ)] ?_ ?_
 ·by_cases hc : c.sPref = -1
  ·rw [if_pos hc] at e2
   subst e2
   repeat ((fail_if_success refine zb ?_); (fail_if_success refine zL ?_); first | refine q_Y ?_ | ((first | apply q_K rfl | apply q_X rfl); (exact q_G)) | refine q_U ?_)
   exact q_S
  ·rw [if_neg hc] at e2
   subst e2
   repeat ((fail_if_success refine zb ?_); (fail_if_success refine zL ?_); first | refine q_Y ?_ | ((first | apply q_K rfl | apply q_X rfl); (exact q_G)) | refine q_U ?_)
   exact q_S
 refine zaH [(2, .ptr 2 0), (3, .ptr 3 0), (4, .ptr 4 0)] [(2, .var ((clsD c).map .d)), (3, .var (sbjV { s with met := m1, pref := m2, tag := m3 } (.d (usD s.path)) (.d (usD s.com)))), (4, .var sbjZ)] ?_ ?_
 ·by_cases hc : c.sTag = -1
  ·rw [if_pos hc] at e3
   subst e3
   repeat ((fail_if_success refine zb ?_); (fail_if_success refine zL ?_); first | refine q_Y ?_ | ((first | apply q_K rfl | apply q_X rfl); (exact q_G)) | refine q_U ?_)
   exact q_S
  ·rw [if_neg hc] at e3
   subst e3
   repeat ((fail_if_success refine zb ?_); (fail_if_success refine zL ?_); first | refine q_Y ?_ | ((first | apply q_K rfl | apply q_X rfl); (exact q_G)) | refine q_U ?_)
   exact q_S
 refine zaH [(2, .ptr 2 0), (3, .ptr 3 0), (4, .ptr 4 0)] [(2, .var ((clsD c).map .d)), (3, .var (sbjV ⟨s.p, m1, m3, m2, [], [], m4⟩ (.d (usD s.path)) (.d (usD s.com)))), (4, .var sbjZ)] ?_ ?_
 ·by_cases hc : c.sHop = 0
  ·rw [if_pos hc] at e4
   subst e4
   repeat ((fail_if_success refine zb ?_); (fail_if_success refine zL ?_); first | refine q_Y ?_ | ((first | apply q_K rfl | apply q_X rfl); (exact q_G)) | refine q_U ?_)
   exact q_S
  ·rw [if_neg hc] at e4
   subst e4
   repeat ((fail_if_success refine zb ?_); (fail_if_success refine zL ?_); first | refine q_Y ?_ | ((first | apply q_K rfl | apply q_X rfl); (exact q_G)) | refine q_U ?_)
   exact q_S
 refine zaH [(2, .ptr 2 0), (3, .ptr 3 0), (4, .ptr 4 0)] [(2, .var ((clsD c).map .d)), (3, .var (sbjV ⟨s.p, m1, m3, m2, [], [], m4⟩ (.d (usD s.path)) (.d (usD m5)))), (4, .var sbjZ)] ?_ ?_
 ·by_cases hc : c.sCom.length = 0
  ·rw [if_pos hc] at e5
   subst e5
   repeat ((fail_if_success refine zb ?_); (fail_if_success refine zL ?_); first | refine q_Y ?_ | ((first | apply q_K rfl | apply q_X rfl); (exact q_G)) | refine q_U ?_)
   exact q_S
  ·rw [if_neg hc] at e5
   cases had : c.add with
   | true =>
    rw [had, if_pos rfl] at e5
    rw [e5] at hj
    repeat ((fail_if_success refine zb ?_); first | refine q_Y ?_ | ((first | apply q_K rfl | apply q_X rfl); (exact q_G)) | refine q_U ?_ | refine q_O hj ?_)
    exact q_S
   | false =>
    rw [had, if_neg (by decide)] at e5
    rw [e5] at hn
    repeat ((fail_if_success refine zb ?_); first | refine q_Y ?_ | ((first | apply q_K rfl | apply q_X rfl); (exact q_G)) | refine q_U ?_ | refine q_O hn ?_)
    exact q_S
 have f1 : (c.pre.flatMap u1D).length = c.pre.length * 1 := zM zV _
 have f2 : (s.path.flatMap u1D).length = s.path.length * 1 := zM zV _
 refine zaH [(2, .ptr 2 0), (3, .ptr 3 0), (4, .ptr 4 0)] [(2, .var ((clsD c).map .d)), (3, .var (sbjV ⟨s.p, m1, m3, m2, [], [], m4⟩ (.row 47) (.d (usD m5)))), (4, .var sbjZ), (47, uB (c.pre ++ s.path))] ?_ ?_
 ·refine zA [3, 47] mixed ?_
  apply q_P 1 rfl (by kernel_rfl) rfl rfl rfl
  exact q_8
  apply q_P 2 rfl (by kernel_rfl) rfl rfl rfl
  exact q_7
  apply q_P 4 rfl (by kernel_rfl) rfl rfl rfl
  exact q_8
  refine zcf (j := 0) (k := 5) (by kernel_rfl) ?_ ?_
  ·refine zhD za rfl rfl rfl rfl rfl rfl rfl rfl ?_
   refine zcf (j := 3) (k := 5) (by kernel_rfl) ?_ ?_
   ·refine zd6 za rfl rfl rfl rfl rfl rfl rfl rfl rfl rfl rfl rfl (Src.dat _ _) f1 (by omega) rfl ?_
    refine zd (j := 5) (by kernel_rfl) ?_
    apply zP rfl rfl rfl rfl
    exact q_7
    refine zd (j := 6) (by kernel_rfl) ?_
    refine zd6 za rfl rfl rfl rfl rfl rfl rfl rfl rfl rfl rfl rfl (Src.dat _ _) f2 (by omega) rfl ?_
    apply q_P 7 rfl (by kernel_rfl) rfl rfl rfl
    exact q_8
    refine zd (j := 8) (by kernel_rfl) ?_
    refine zJ za rfl rfl rfl rfl rfl rfl rfl rfl rfl rfl rfl rfl rfl ?_
    refine zz (by kernel_rfl) ?_
    refine q_j ?_
    exact zm ⟨rfl, rfl, rfl, trivial⟩ ⟨rfl, rfl, rfl, zah (by simp) (by simp) rfl, trivial⟩
   ·apply zP rfl rfl rfl rfl
    exact q_7
    refine zd (j := 3) (by kernel_rfl) ?_
    refine zd6 za rfl rfl rfl rfl rfl rfl rfl rfl rfl rfl rfl rfl (Src.dat _ _) f1 (by omega) rfl ?_
    refine zd (j := 6) (by kernel_rfl) ?_
    refine zd6 za rfl rfl rfl rfl rfl rfl rfl rfl rfl rfl rfl rfl (Src.dat _ _) f2 (by omega) rfl ?_
    apply q_P 7 rfl (by kernel_rfl) rfl rfl rfl
    exact q_8
    refine zd (j := 8) (by kernel_rfl) ?_
    refine zJ za rfl rfl rfl rfl rfl rfl rfl rfl rfl rfl rfl rfl rfl ?_
    refine zz (by kernel_rfl) ?_
    refine q_j ?_
    exact zm ⟨rfl, rfl, rfl, trivial⟩ ⟨rfl, rfl, rfl, zah (by simp) (by simp) rfl, trivial⟩
  ·apply zP rfl rfl rfl rfl
   exact q_7
   refine zd (j := 0) (by kernel_rfl) ?_
   refine zhD za rfl rfl rfl rfl rfl rfl rfl rfl ?_
   refine zd (j := 3) (by kernel_rfl) ?_
   refine zd6 za rfl rfl rfl rfl rfl rfl rfl rfl rfl rfl rfl rfl (Src.dat _ _) f1 (by omega) rfl ?_
   refine zd (j := 6) (by kernel_rfl) ?_
   refine zd6 za rfl rfl rfl rfl rfl rfl rfl rfl rfl rfl rfl rfl (Src.dat _ _) f2 (by omega) rfl ?_
   apply q_P 7 rfl (by kernel_rfl) rfl rfl rfl
   exact q_8
   refine zd (j := 8) (by kernel_rfl) ?_
   refine zJ za rfl rfl rfl rfl rfl rfl rfl rfl rfl rfl rfl rfl rfl ?_
   refine zz (by kernel_rfl) ?_
   refine q_j ?_
   exact zm ⟨rfl, rfl, rfl, trivial⟩ ⟨rfl, rfl, rfl, zah (by simp) (by simp) rfl, trivial⟩
 refine zt (zF (id := 47) rfl) ?_
 repeat ((fail_if_success refine zb ?_); first | refine q_Y ?_ | ((first | apply q_K rfl | apply q_X rfl); (exact q_G)) | refine q_U ?_)
 exact zo AWk.refl rfl (h2 := []) trivial ⟨rfl, rfl⟩
end Go.Proofs.YtmmdkjanmegjdaaGreat.Ab

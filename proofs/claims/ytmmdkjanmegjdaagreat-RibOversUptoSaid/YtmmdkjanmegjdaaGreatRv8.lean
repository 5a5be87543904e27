/-
 Texts of a proof, one behind the other (part 9).
-/
import Derived.Test.YtmmdkjanmegjdaaGreatRv4
import Derived.Test.YtmmdkjanmegjdaaGreatRv7
set_option linter.unusedSimpArgs false
set_option linter.unusedVariables false
namespace Go.Proofs.YtmmdkjanmegjdaaGreat
open Go.RowKit Go.Lib
def fit1 (d : Dvc) (c : Cls) (s : Sbj) : Bool := decide (c.pfx = []) || match d.pls.find? (fun l => decide (l.nm = c.pfx)) with
 | some l => permitsL l s.p
 | none => false
def fit2 (d : Dvc) (c : Cls) (s : Sbj) : Bool := decide (c.com = []) || match d.cls.find? (fun l => decide (l.nm = c.com)) with
 | some l => allowsL l s.com
 | none => false
def fit3 (c : Cls) (s : Sbj) : Bool := decide (c.tag = -1) || decide (c.tag = s.tag)
def fit4 (c : Cls) (s : Sbj) : Bool := decide (c.met = -1) || decide (c.met = s.met)
def fit5 (c : Cls) (s : Sbj) : Bool := decide (c.thr = -1) || s.path.any fun n => decide (n = c.thr)
def fitsC (d : Dvc) (c : Cls) (s : Sbj) : Bool := fit1 d c s && fit2 d c s && fit3 c s && fit4 c s && fit5 c s
structure OkD (d : Dvc) : Prop where
 p1 : d.pls.length ≤ 1000000
 p2 : ∀ l ∈ d.pls, l.es.length ≤ 1000000000 ∧ ∀ e ∈ l.es, e.p.ok
 c1 : d.cls.length ≤ 1000000
 c2 : ∀ l ∈ d.cls, l.ms.length ≤ 1000000000 ∧ ∀ m ∈ l.ms, m.all.length ≤ 1000000000
structure OkS (s : Sbj) : Prop where
 p : s.p.ok
 com : s.com.length ≤ 1000000000
 path : s.path.length ≤ 1000000000
 pu : ∀ n ∈ s.path, 0 ≤ n ∧ n < 4294967296
namespace Ab
set_option maxRecDepth 100000
attribute [local irreducible] AWp AOps AQ AYield AEff ACall AWk AAny AAt AThen AIn APost NoPanic
theorem zlA (l : PLst) (c : Cls) : ACall Tryz.prog 91 ([aggD (plstD l)] ++ [.iptr (clsD c) 0]) [] (Just (boolA (decide (l.nm = c.pfx)))) := by
 obtain ⟨nm, es⟩ := l
 refine zf za Tryz.func91 rfl Tryz.ntmps91 (congrArg Array.toList Tryz.results91) (by kernel_rfl) rfl ?_
 by_cases h : nm = c.pfx
 ·rw [decide_eq_true h]
  repeat (first | refine q_Z ?_ | ((first | apply q_K rfl | apply q_X rfl); (first | exact q_H | (exact R_sT rfl rfl rfl rfl (decide_eq_true h)))) | refine q_U ?_)
  exact zk rfl ⟨rfl, rfl⟩
 ·rw [decide_eq_false h]
  repeat (first | refine q_Z ?_ | ((first | apply q_K rfl | apply q_X rfl); (first | exact q_H | (exact R_sF rfl rfl rfl rfl (decide_eq_false h)))) | refine q_U ?_)
  exact zk rfl ⟨rfl, rfl⟩
theorem zlz (l : CLst) (c : Cls) : ACall Tryz.prog 95 ([aggD (clstD l)] ++ [.iptr (clsD c) 0]) [] (Just (boolA (decide (l.nm = c.com)))) := by
 obtain ⟨nm, ms⟩ := l
 refine zf za Tryz.func95 rfl Tryz.ntmps95 (congrArg Array.toList Tryz.results95) (by kernel_rfl) rfl ?_
 by_cases h : nm = c.com
 ·rw [decide_eq_true h]
  repeat (first | refine q_Z ?_ | ((first | apply q_K rfl | apply q_X rfl); (first | exact q_H | (exact R_sT rfl rfl rfl rfl (decide_eq_true h)))) | refine q_U ?_)
  exact zk rfl ⟨rfl, rfl⟩
 ·rw [decide_eq_false h]
  repeat (first | refine q_Z ?_ | ((first | apply q_K rfl | apply q_X rfl); (first | exact q_H | (exact R_sF rfl rfl rfl rfl (decide_eq_false h)))) | refine q_U ?_)
  exact zk rfl ⟨rfl, rfl⟩
set_option maxHeartbeats 4000000 in
theorem znl (d : Dvc) (c : Cls) (s : Sbj) (hd : OkD d) (hs : OkS s) : ACall Tryz.prog 89 [.iptr (dvcD d) 0, .iptr (clsD c) 0, .iptr (sbjD s) 0] [] (Just (boolA (fit1 d c s))) := by
 have hi := zjO d.pls 91 [.iptr (clsD c) 0] (fun l => decide (l.nm = c.pfx)) (fun l _ => zlA l c) (by have := hd.p1; omega)
 have hfi := za8 (fun l : PLst => decide (l.nm = c.pfx)) d.pls
 unfold fit1
 obtain ⟨i, hii⟩ : ∃ i, idxOf (fun l : PLst => decide (l.nm = c.pfx)) d.pls = i := ⟨_, rfl⟩
 rw [hii] at hi hfi
 refine zf za Tryz.func89 rfl Tryz.ntmps89 (congrArg Array.toList Tryz.results89) (by kernel_rfl) rfl ?_
 by_cases he : c.pfx = []
 ·rw [decide_eq_true he]
  repeat (first | refine q_Y ?_ | ((first | apply q_K rfl | apply q_X rfl); (first | exact q_H | (first | exact zU rfl rfl | exact R_sT rfl rfl rfl rfl (decide_eq_true he)))) | refine q_U ?_ | refine q_O hi ?_)
  exact zk rfl ⟨rfl, rfl⟩
 ·rw [decide_eq_false he]
  rcases hfi with ⟨rfl, h2⟩ | ⟨k, hk, rfl, h2⟩
  ·rw [h2]
   repeat (first | refine q_Y ?_ | ((first | apply q_K rfl | apply q_X rfl); (first | exact q_H | (first | exact zU rfl rfl | exact R_sF rfl rfl rfl rfl (decide_eq_false he)))) | refine q_U ?_ | refine q_O hi ?_)
   exact zk rfl ⟨rfl, rfl⟩
  ·rw [h2]
   have hm := hd.p2 _ (List.getElem_mem hk)
   have hp := zjw d.pls[k] s.p hm.2 hs.p hm.1
   have hw := zn zbI d.pls k 2 hk (by decide)
   repeat (first | refine q_Y ?_ | ((first | apply q_K rfl | apply q_X rfl); (first | exact q_A | exact q_R (w := (by first | exact hw | rfl)) | exact q_B | (first | exact zU rfl rfl | exact R_sF rfl rfl rfl rfl (decide_eq_false he) | exact q_I k hk))) | refine q_U ?_ | (first | refine q_Q hp ?_ | refine q_O hi ?_))
   exact zk rfl ⟨rfl, rfl⟩
set_option maxHeartbeats 4000000 in
theorem znk (d : Dvc) (c : Cls) (s : Sbj) (hd : OkD d) (hs : OkS s) : ACall Tryz.prog 93 [.iptr (dvcD d) 0, .iptr (clsD c) 0, .iptr (sbjD s) 0] [] (Just (boolA (fit2 d c s))) := by
 have hi := zjP d.cls 95 [.iptr (clsD c) 0] (fun l => decide (l.nm = c.com)) (fun l _ => zlz l c) (by have := hd.c1; omega)
 have hfi := za8 (fun l : CLst => decide (l.nm = c.com)) d.cls
 unfold fit2
 obtain ⟨i, hii⟩ : ∃ i, idxOf (fun l : CLst => decide (l.nm = c.com)) d.cls = i := ⟨_, rfl⟩
 rw [hii] at hi hfi
 refine zf za Tryz.func93 rfl Tryz.ntmps93 (congrArg Array.toList Tryz.results93) (by kernel_rfl) rfl ?_
 by_cases he : c.com = []
 ·rw [decide_eq_true he]
  repeat (first | refine q_Y ?_ | ((first | apply q_K rfl | apply q_X rfl); (first | exact q_H | (first | exact zU rfl rfl | exact R_sT rfl rfl rfl rfl (decide_eq_true he)))) | refine q_U ?_ | refine q_O hi ?_)
  exact zk rfl ⟨rfl, rfl⟩
 ·rw [decide_eq_false he]
  rcases hfi with ⟨rfl, h2⟩ | ⟨k, hk, rfl, h2⟩
  ·rw [h2]
   repeat (first | refine q_Y ?_ | ((first | apply q_K rfl | apply q_X rfl); (first | exact q_H | (first | exact zU rfl rfl | exact R_sF rfl rfl rfl rfl (decide_eq_false he)))) | refine q_U ?_ | refine q_O hi ?_)
   exact zk rfl ⟨rfl, rfl⟩
  ·rw [h2]
   have hm := hd.c2 _ (List.getElem_mem hk)
   have hp := zlY d.cls[k] s.com hm.2 hs.com hm.1
   have hw := zn zbL d.cls k 2 hk (by decide)
   repeat (first | refine q_Y ?_ | ((first | apply q_K rfl | apply q_X rfl); (first | exact q_A | exact q_R (w := (by first | exact hw | rfl)) | exact q_B | (first | exact zU rfl rfl | exact R_sF rfl rfl rfl rfl (decide_eq_false he) | exact q_I k hk))) | refine q_U ?_ | (first | refine q_Q hp ?_ | refine q_O hi ?_))
   exact zk rfl ⟨rfl, rfl⟩
theorem znj (c : Cls) (s : Sbj) : ACall Tryz.prog 97 [.iptr (clsD c) 0, .iptr (sbjD s) 0] [] (Just (boolA (fit3 c s))) := by
 unfold fit3
 refine zf za Tryz.func97 rfl Tryz.ntmps97 (congrArg Array.toList Tryz.results97) (by kernel_rfl) rfl ?_
 by_cases h1 : c.tag = -1
 ·rw [decide_eq_true h1]
  repeat (first | refine q_Z ?_ | ((first | apply q_K rfl | apply q_X rfl); (exact q_H)) | refine q_U ?_)
  exact zk rfl ⟨rfl, rfl⟩
 ·rw [decide_eq_false h1]
  by_cases h2 : c.tag = s.tag
  ·rw [decide_eq_true h2]
   repeat (first | refine q_Z ?_ | ((first | apply q_K rfl | apply q_X rfl); (exact q_H)) | refine q_U ?_)
   exact zk rfl ⟨rfl, rfl⟩
  ·rw [decide_eq_false h2]
   repeat (first | refine q_Z ?_ | ((first | apply q_K rfl | apply q_X rfl); (exact q_H)) | refine q_U ?_)
   exact zk rfl ⟨rfl, rfl⟩
theorem zni (c : Cls) (s : Sbj) : ACall Tryz.prog 98 [.iptr (clsD c) 0, .iptr (sbjD s) 0] [] (Just (boolA (fit4 c s))) := by
 unfold fit4
 refine zf za Tryz.func98 rfl Tryz.ntmps98 (congrArg Array.toList Tryz.results98) (by kernel_rfl) rfl ?_
 by_cases h1 : c.met = -1
 ·rw [decide_eq_true h1]
  repeat (first | refine q_Z ?_ | ((first | apply q_K rfl | apply q_X rfl); (exact q_H)) | refine q_U ?_)
  exact zk rfl ⟨rfl, rfl⟩
 ·rw [decide_eq_false h1]
  by_cases h2 : c.met = s.met
  ·rw [decide_eq_true h2]
   repeat (first | refine q_Z ?_ | ((first | apply q_K rfl | apply q_X rfl); (exact q_H)) | refine q_U ?_)
   exact zk rfl ⟨rfl, rfl⟩
  ·rw [decide_eq_false h2]
   repeat (first | refine q_Z ?_ | ((first | apply q_K rfl | apply q_X rfl); (exact q_H)) | refine q_U ?_)
   exact zk rfl ⟨rfl, rfl⟩
end Ab
end Go.Proofs.YtmmdkjanmegjdaaGreat

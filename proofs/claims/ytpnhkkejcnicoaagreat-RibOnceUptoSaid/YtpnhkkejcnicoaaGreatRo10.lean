/-
  Texts of a proof, one behind the other (part 11).
-/
import Derived.Test.YtpnhkkejcnicoaaGreatRo6
import Derived.Test.YtpnhkkejcnicoaaGreatRo9
set_option linter.unusedVariables false
set_option linter.unusedSimpArgs false
namespace Go.Proofs.YtpnhkkejcnicoaaGreat
set_option linter.unusedVariables false
open Go.RowKit Go.Lib
def fit1 (d : Dvc) (c : Cls) (s : Sbj) : Bool := decide (c.pfx = []) || match d.pls.find? (fun l => decide (l.nm = c.pfx)) with
  | some l => permitsL l s.p
  | none => false
def fit2 (d : Dvc) (c : Cls) (s : Sbj) : Bool := decide (c.com = []) || match d.cls.find? (fun l => decide (l.nm = c.com)) with
  | some l => allowsL l s.com
  | none => false
def fit3 (c : Cls) (s : Sbj) : Bool := decide (c.tag = -1) || decide (c.tag = s.tag)
def fit4 (c : Cls) (s : Sbj) : Bool := decide (c.met = -1) || decide (c.met = s.met)
def fit5 (c : Cls) (s : Sbj) : Bool := decide (c.thr = -1) || s.path.any fun n => decide (n = c.thr)
def fitsC (d : Dvc) (c : Cls) (s : Sbj) : Bool := fit1 d c s && fit2 d c s && fit3 c s && fit4 c s && fit5 c s
structure OkD (d : Dvc) : Prop where
  p1 : d.pls.length ≤ 1000000
  p2 : ∀ l ∈ d.pls, l.es.length ≤ 1000000000 ∧ ∀ e ∈ l.es, e.p.ok
  c1 : d.cls.length ≤ 1000000
  c2 : ∀ l ∈ d.cls, l.ms.length ≤ 1000000000 ∧ ∀ m ∈ l.ms, m.all.length ≤ 1000000000
structure OkS (s : Sbj) : Prop where
  p : s.p.ok
  com : s.com.length ≤ 1000000000
  path : s.path.length ≤ 1000000000
  pu : ∀ n ∈ s.path, 0 ≤ n ∧ n < 4294967296
namespace Ab
set_option maxRecDepth 100000
set_option linter.unusedSimpArgs false
attribute [local irreducible] AWp AOps AQ AYield AEff ACall AWk AAny AAt AThen AIn APost NoPanic
theorem fits11_A (l : PLst) (c : Cls) : ACall Tryz.prog 74 ([aggD (plstD l)] ++ [.iptr (clsD c) 0]) [] (Just (boolA (decide (l.nm = c.pfx)))) := by
  obtain ⟨nm, es⟩ := l
  refine ACall_of tabOk Tryz.func74 rfl Tryz.ntmps74 (congrArg Array.toList Tryz.results74) (by kernel_rfl) rfl ?_
  by_cases h : nm = c.pfx
  · rw [decide_eq_true h]
    repeat (first | refine q_Z ?_ | ((first | apply O_y rfl rfl rfl | apply Q_y rfl rfl rfl); (first | exact q_A | exact q_5 | exact q_B | (exact R_sT rfl rfl rfl rfl (decide_eq_true h)))) | refine q_d ?_ | refine q_a ?_ | refine q_b ?_ | refine q_c ?_ | refine A_ct rfl ?_ | refine A_cf rfl ?_ | refine q_W ?_)
    exact X_ret rfl ⟨rfl, rfl⟩
  · rw [decide_eq_false h]
    repeat (first | refine q_Z ?_ | ((first | apply O_y rfl rfl rfl | apply Q_y rfl rfl rfl); (first | exact q_A | exact q_5 | exact q_B | (exact R_sF rfl rfl rfl rfl (decide_eq_false h)))) | refine q_d ?_ | refine q_a ?_ | refine q_b ?_ | refine q_c ?_ | refine A_ct rfl ?_ | refine A_cf rfl ?_ | refine q_W ?_)
    exact X_ret rfl ⟨rfl, rfl⟩
theorem fits21_A (l : CLst) (c : Cls) : ACall Tryz.prog 78 ([aggD (clstD l)] ++ [.iptr (clsD c) 0]) [] (Just (boolA (decide (l.nm = c.com)))) := by
  obtain ⟨nm, ms⟩ := l
  refine ACall_of tabOk Tryz.func78 rfl Tryz.ntmps78 (congrArg Array.toList Tryz.results78) (by kernel_rfl) rfl ?_
  by_cases h : nm = c.com
  · rw [decide_eq_true h]
    repeat (first | refine q_Z ?_ | ((first | apply O_y rfl rfl rfl | apply Q_y rfl rfl rfl); (first | exact q_A | exact q_5 | exact q_B | (exact R_sT rfl rfl rfl rfl (decide_eq_true h)))) | refine q_d ?_ | refine q_a ?_ | refine q_b ?_ | refine q_c ?_ | refine A_ct rfl ?_ | refine A_cf rfl ?_ | refine q_W ?_)
    exact X_ret rfl ⟨rfl, rfl⟩
  · rw [decide_eq_false h]
    repeat (first | refine q_Z ?_ | ((first | apply O_y rfl rfl rfl | apply Q_y rfl rfl rfl); (first | exact q_A | exact q_5 | exact q_B | (exact R_sF rfl rfl rfl rfl (decide_eq_false h)))) | refine q_d ?_ | refine q_a ?_ | refine q_b ?_ | refine q_c ?_ | refine A_ct rfl ?_ | refine A_cf rfl ?_ | refine q_W ?_)
    exact X_ret rfl ⟨rfl, rfl⟩
set_option maxHeartbeats 4000000 in
theorem fits1_A (d : Dvc) (c : Cls) (s : Sbj) (hd : OkD d) (hs : OkS s) : ACall Tryz.prog 72 [.iptr (dvcD d) 0, .iptr (clsD c) 0, .iptr (sbjD s) 0] [] (Just (boolA (fit1 d c s))) := by
  have hi := idxPlst_A d.pls 74 [.iptr (clsD c) 0] (fun l => decide (l.nm = c.pfx)) (fun l _ => fits11_A l c) (by have := hd.p1; omega)
  have hfi := idxOf_find (fun l : PLst => decide (l.nm = c.pfx)) d.pls
  unfold fit1
  obtain ⟨i, hii⟩ : ∃ i, idxOf (fun l : PLst => decide (l.nm = c.pfx)) d.pls = i := ⟨_, rfl⟩
  rw [hii] at hi hfi
  refine ACall_of tabOk Tryz.func72 rfl Tryz.ntmps72 (congrArg Array.toList Tryz.results72) (by kernel_rfl) rfl ?_
  by_cases he : c.pfx = []
  · rw [decide_eq_true he]
    repeat (first | refine q_Z ?_ | refine R_quiet rfl mixed (by kernel_rfl) ?_ | ((first | apply O_y rfl rfl rfl | apply Q_y rfl rfl rfl); (first | exact q_A | exact q_5 | exact q_B | (first | exact Y_makeFunc rfl rfl | exact R_sT rfl rfl rfl rfl (decide_eq_true he)))) | refine q_d ?_ | refine q_a ?_ | refine q_b ?_ | refine q_c ?_ | refine A_ct rfl ?_ | refine A_cf rfl ?_ | refine q_W ?_ | refine O_c rfl rfl rfl rfl rfl hi (fun _ => rfl) ?_)
    exact X_ret rfl ⟨rfl, rfl⟩
  · rw [decide_eq_false he]
    rcases hfi with ⟨rfl, h2⟩ | ⟨k, hk, rfl, h2⟩
    · rw [h2]
      repeat (first | refine q_Z ?_ | refine R_quiet rfl mixed (by kernel_rfl) ?_ | ((first | apply O_y rfl rfl rfl | apply Q_y rfl rfl rfl); (first | exact q_A | exact q_5 | exact q_B | (first | exact Y_makeFunc rfl rfl | exact R_sF rfl rfl rfl rfl (decide_eq_false he)))) | refine q_d ?_ | refine q_a ?_ | refine q_b ?_ | refine q_c ?_ | refine A_ct rfl ?_ | refine A_cf rfl ?_ | refine q_W ?_ | refine O_c rfl rfl rfl rfl rfl hi (fun _ => rfl) ?_)
      exact X_ret rfl ⟨rfl, rfl⟩
    · rw [h2]
      have hm := hd.p2 _ (List.getElem_mem hk)
      have hp := permits_A d.pls[k] s.p hm.2 hs.p hm.1
      have hw := win_flat0 plstD_len d.pls k 2 hk (by decide)
      repeat (first | refine q_Z ?_ | refine R_quiet rfl mixed (by kernel_rfl) ?_ | ((first | apply O_y rfl rfl rfl | apply Q_y rfl rfl rfl); (first | exact q_A | exact R_loadi tabOk rfl rfl rfl rfl (by first | exact hw | rfl) rfl rfl | exact q_B | (first | exact Y_makeFunc rfl rfl | exact R_sF rfl rfl rfl rfl (decide_eq_false he) | exact R_index (j := k) tabOk rfl rfl rfl rfl rfl rfl hk))) | refine q_d ?_ | refine q_a ?_ | refine q_b ?_ | refine q_c ?_ | refine A_ct rfl ?_ | refine A_cf rfl ?_ | refine q_W ?_ | (first | refine Q_c rfl rfl rfl rfl rfl hp rfl (fun _ _ _ => val_mk _ _ _ _ _ rfl rfl) ?_ | refine O_c rfl rfl rfl rfl rfl hi (fun _ => rfl) ?_))
      exact X_ret rfl ⟨rfl, rfl⟩
set_option maxHeartbeats 4000000 in
theorem fits2_A (d : Dvc) (c : Cls) (s : Sbj) (hd : OkD d) (hs : OkS s) : ACall Tryz.prog 76 [.iptr (dvcD d) 0, .iptr (clsD c) 0, .iptr (sbjD s) 0] [] (Just (boolA (fit2 d c s))) := by
  have hi := idxClst_A d.cls 78 [.iptr (clsD c) 0] (fun l => decide (l.nm = c.com)) (fun l _ => fits21_A l c) (by have := hd.c1; omega)
  have hfi := idxOf_find (fun l : CLst => decide (l.nm = c.com)) d.cls
  unfold fit2
  obtain ⟨i, hii⟩ : ∃ i, idxOf (fun l : CLst => decide (l.nm = c.com)) d.cls = i := ⟨_, rfl⟩
  rw [hii] at hi hfi
  refine ACall_of tabOk Tryz.func76 rfl Tryz.ntmps76 (congrArg Array.toList Tryz.results76) (by kernel_rfl) rfl ?_
  by_cases he : c.com = []
  · rw [decide_eq_true he]
    repeat (first | refine q_Z ?_ | refine R_quiet rfl mixed (by kernel_rfl) ?_ | ((first | apply O_y rfl rfl rfl | apply Q_y rfl rfl rfl); (first | exact q_A | exact q_5 | exact q_B | (first | exact Y_makeFunc rfl rfl | exact R_sT rfl rfl rfl rfl (decide_eq_true he)))) | refine q_d ?_ | refine q_a ?_ | refine q_b ?_ | refine q_c ?_ | refine A_ct rfl ?_ | refine A_cf rfl ?_ | refine q_W ?_ | refine O_c rfl rfl rfl rfl rfl hi (fun _ => rfl) ?_)
    exact X_ret rfl ⟨rfl, rfl⟩
  · rw [decide_eq_false he]
    rcases hfi with ⟨rfl, h2⟩ | ⟨k, hk, rfl, h2⟩
    · rw [h2]
      repeat (first | refine q_Z ?_ | refine R_quiet rfl mixed (by kernel_rfl) ?_ | ((first | apply O_y rfl rfl rfl | apply Q_y rfl rfl rfl); (first | exact q_A | exact q_5 | exact q_B | (first | exact Y_makeFunc rfl rfl | exact R_sF rfl rfl rfl rfl (decide_eq_false he)))) | refine q_d ?_ | refine q_a ?_ | refine q_b ?_ | refine q_c ?_ | refine A_ct rfl ?_ | refine A_cf rfl ?_ | refine q_W ?_ | refine O_c rfl rfl rfl rfl rfl hi (fun _ => rfl) ?_)
      exact X_ret rfl ⟨rfl, rfl⟩
    · rw [h2]
      have hm := hd.c2 _ (List.getElem_mem hk)
      have hp := allows_A d.cls[k] s.com hm.2 hs.com hm.1
      have hw := win_flat0 clstD_len d.cls k 2 hk (by decide)
      repeat (first | refine q_Z ?_ | refine R_quiet rfl mixed (by kernel_rfl) ?_ | ((first | apply O_y rfl rfl rfl | apply Q_y rfl rfl rfl); (first | exact q_A | exact R_loadi tabOk rfl rfl rfl rfl (by first | exact hw | rfl) rfl rfl | exact q_B | (first | exact Y_makeFunc rfl rfl | exact R_sF rfl rfl rfl rfl (decide_eq_false he) | exact R_index (j := k) tabOk rfl rfl rfl rfl rfl rfl hk))) | refine q_d ?_ | refine q_a ?_ | refine q_b ?_ | refine q_c ?_ | refine A_ct rfl ?_ | refine A_cf rfl ?_ | refine q_W ?_ | (first | refine Q_c rfl rfl rfl rfl rfl hp rfl (fun _ _ _ => val_mk _ _ _ _ _ rfl rfl) ?_ | refine O_c rfl rfl rfl rfl rfl hi (fun _ => rfl) ?_))
      exact X_ret rfl ⟨rfl, rfl⟩
theorem fits3_A (c : Cls) (s : Sbj) : ACall Tryz.prog 80 [.iptr (clsD c) 0, .iptr (sbjD s) 0] [] (Just (boolA (fit3 c s))) := by
  unfold fit3
  refine ACall_of tabOk Tryz.func80 rfl Tryz.ntmps80 (congrArg Array.toList Tryz.results80) (by kernel_rfl) rfl ?_
  by_cases h1 : c.tag = -1
  · rw [decide_eq_true h1]
    repeat (first | refine q_Z ?_ | ((first | apply O_y rfl rfl rfl | apply Q_y rfl rfl rfl); (first | exact q_A | exact q_5 | exact q_B)) | refine q_d ?_ | refine q_a ?_ | refine q_b ?_ | refine q_c ?_ | refine A_ct rfl ?_ | refine A_cf rfl ?_ | refine q_W ?_)
    exact X_ret rfl ⟨rfl, rfl⟩
  · rw [decide_eq_false h1]
    by_cases h2 : c.tag = s.tag
    · rw [decide_eq_true h2]
      repeat (first | refine q_Z ?_ | ((first | apply O_y rfl rfl rfl | apply Q_y rfl rfl rfl); (first | exact q_A | exact q_5 | exact q_B)) | refine q_d ?_ | refine q_a ?_ | refine q_b ?_ | refine q_c ?_ | refine A_ct rfl ?_ | refine A_cf rfl ?_ | refine q_W ?_)
      exact X_ret rfl ⟨rfl, rfl⟩
    · rw [decide_eq_false h2]
      repeat (first | refine q_Z ?_ | ((first | apply O_y rfl rfl rfl | apply Q_y rfl rfl rfl); (first | exact q_A | exact q_5 | exact q_B)) | refine q_d ?_ | refine q_a ?_ | refine q_b ?_ | refine q_c ?_ | refine A_ct rfl ?_ | refine A_cf rfl ?_ | refine q_W ?_)
      exact X_ret rfl ⟨rfl, rfl⟩
theorem fits4_A (c : Cls) (s : Sbj) : ACall Tryz.prog 81 [.iptr (clsD c) 0, .iptr (sbjD s) 0] [] (Just (boolA (fit4 c s))) := by
  unfold fit4
  refine ACall_of tabOk Tryz.func81 rfl Tryz.ntmps81 (congrArg Array.toList Tryz.results81) (by kernel_rfl) rfl ?_
  by_cases h1 : c.met = -1
  · rw [decide_eq_true h1]
    repeat (first | refine q_Z ?_ | ((first | apply O_y rfl rfl rfl | apply Q_y rfl rfl rfl); (first | exact q_A | exact q_5 | exact q_B)) | refine q_d ?_ | refine q_a ?_ | refine q_b ?_ | refine q_c ?_ | refine A_ct rfl ?_ | refine A_cf rfl ?_ | refine q_W ?_)
    exact X_ret rfl ⟨rfl, rfl⟩
  · rw [decide_eq_false h1]
    by_cases h2 : c.met = s.met
    · rw [decide_eq_true h2]
      repeat (first | refine q_Z ?_ | ((first | apply O_y rfl rfl rfl | apply Q_y rfl rfl rfl); (first | exact q_A | exact q_5 | exact q_B)) | refine q_d ?_ | refine q_a ?_ | refine q_b ?_ | refine q_c ?_ | refine A_ct rfl ?_ | refine A_cf rfl ?_ | refine q_W ?_)
      exact X_ret rfl ⟨rfl, rfl⟩
    · rw [decide_eq_false h2]
      repeat (first | refine q_Z ?_ | ((first | apply O_y rfl rfl rfl | apply Q_y rfl rfl rfl); (first | exact q_A | exact q_5 | exact q_B)) | refine q_d ?_ | refine q_a ?_ | refine q_b ?_ | refine q_c ?_ | refine A_ct rfl ?_ | refine A_cf rfl ?_ | refine q_W ?_)
      exact X_ret rfl ⟨rfl, rfl⟩
end Ab
end Go.Proofs.YtpnhkkejcnicoaaGreat

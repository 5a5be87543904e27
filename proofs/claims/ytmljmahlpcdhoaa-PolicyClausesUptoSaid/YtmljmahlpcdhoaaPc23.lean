/-
  Texts of a proof, one behind the other (part 24).
-/
import Derived.Test.YtmljmahlpcdhoaaPc1
import Derived.Test.YtmljmahlpcdhoaaPc2
import Derived.Test.YtmljmahlpcdhoaaPc20
set_option linter.unusedVariables false
set_option linter.unusedSimpArgs false
namespace Go.Proofs.Ytmljmahlpcdhoaa
set_option linter.unusedVariables false
open Go.RowKit Go.Lib
def fit1 (d : Dvc) (c : Cls) (s : Sbj) : Bool := decide (c.pfx = []) || match d.pls.find? (fun l => decide (l.nm = c.pfx)) with
  | some l => permitsL l s.p
  | none => false
def fit2 (d : Dvc) (c : Cls) (s : Sbj) : Bool := decide (c.com = []) || match d.cls.find? (fun l => decide (l.nm = c.com)) with
  | some l => allowsL l s.com
  | none => false
def fit3 (c : Cls) (s : Sbj) : Bool := decide (c.tag = -1) || decide (c.tag = s.tag)
def fit4 (c : Cls) (s : Sbj) : Bool := decide (c.met = -1) || decide (c.met = s.met)
def fit5 (c : Cls) (s : Sbj) : Bool := decide (c.thr = -1) || s.path.any fun n => decide (n = c.thr)
def fitsC (d : Dvc) (c : Cls) (s : Sbj) : Bool := fit1 d c s && fit2 d c s && fit3 c s && fit4 c s && fit5 c s
structure OkD (d : Dvc) : Prop where
  p1 : d.pls.length ≤ 1000000
  p2 : ∀ l ∈ d.pls, l.es.length ≤ 1000000000 ∧ ∀ e ∈ l.es, e.p.ok
  c1 : d.cls.length ≤ 1000000
  c2 : ∀ l ∈ d.cls, l.ms.length ≤ 1000000000 ∧ ∀ m ∈ l.ms, m.all.length ≤ 1000000000
structure OkS (s : Sbj) : Prop where
  p : s.p.ok
  com : s.com.length ≤ 1000000000
  path : s.path.length ≤ 1000000000
  pu : ∀ n ∈ s.path, 0 ≤ n ∧ n < 4294967296
namespace Ab
set_option maxRecDepth 100000
set_option linter.unusedSimpArgs false
attribute [local irreducible] AWp AOps AQ AYield AEff ACall AWk AAny AAt AThen AIn APost NoPanic
theorem fits11_A (l : PLst) (c : Cls) : ACall Try.prog 33 ([aggD (plstD l)] ++ [.iptr (clsD c) 0]) [] (Just (boolA (decide (l.nm = c.pfx)))) := by
  obtain ⟨nm, es⟩ := l
  refine ACall_of tabOk Try.func33 rfl Try.ntmps33 (congrArg Array.toList Try.results33) (by kernel_rfl) rfl ?_
  by_cases h : nm = c.pfx
  · rw [decide_eq_true h]
    repeat (first | refine A_seq ?_ | refine A_block ?_ | refine R_list ?_ | ((first | apply O_y rfl rfl rfl | apply Q_y rfl rfl rfl); (first | exact q_A | exact q_5 | exact q_B | (exact R_sT rfl rfl rfl rfl (decide_eq_true h)))) | refine O_nil ?_ | refine Q_nil ?_ | refine q_j ?_ | refine q_k ?_ | refine q_d ?_ | refine q_a ?_ | refine q_b ?_ | refine q_c ?_ | refine A_ct rfl ?_ | refine A_cf rfl ?_ | refine A_skip ?_ | refine A_exit ?_ | refine A_ret ?_ | refine q_l ?_ | refine q_m ?_ | refine q_n ?_ | refine q_h ?_ | refine q_o ?_ | refine q_e ?_ | refine q_f ?_ | refine q_g ?_ | fail)
    exact X_ret rfl ⟨rfl, rfl⟩
  · rw [decide_eq_false h]
    repeat (first | refine A_seq ?_ | refine A_block ?_ | refine R_list ?_ | ((first | apply O_y rfl rfl rfl | apply Q_y rfl rfl rfl); (first | exact q_A | exact q_5 | exact q_B | (exact R_sF rfl rfl rfl rfl (decide_eq_false h)))) | refine O_nil ?_ | refine Q_nil ?_ | refine q_j ?_ | refine q_k ?_ | refine q_d ?_ | refine q_a ?_ | refine q_b ?_ | refine q_c ?_ | refine A_ct rfl ?_ | refine A_cf rfl ?_ | refine A_skip ?_ | refine A_exit ?_ | refine A_ret ?_ | refine q_l ?_ | refine q_m ?_ | refine q_n ?_ | refine q_h ?_ | refine q_o ?_ | refine q_e ?_ | refine q_f ?_ | refine q_g ?_ | fail)
    exact X_ret rfl ⟨rfl, rfl⟩
theorem fits21_A (l : CLst) (c : Cls) : ACall Try.prog 37 ([aggD (clstD l)] ++ [.iptr (clsD c) 0]) [] (Just (boolA (decide (l.nm = c.com)))) := by
  obtain ⟨nm, ms⟩ := l
  refine ACall_of tabOk Try.func37 rfl Try.ntmps37 (congrArg Array.toList Try.results37) (by kernel_rfl) rfl ?_
  by_cases h : nm = c.com
  · rw [decide_eq_true h]
    repeat (first | refine A_seq ?_ | refine A_block ?_ | refine R_list ?_ | ((first | apply O_y rfl rfl rfl | apply Q_y rfl rfl rfl); (first | exact q_A | exact q_5 | exact q_B | (exact R_sT rfl rfl rfl rfl (decide_eq_true h)))) | refine O_nil ?_ | refine Q_nil ?_ | refine q_j ?_ | refine q_k ?_ | refine q_d ?_ | refine q_a ?_ | refine q_b ?_ | refine q_c ?_ | refine A_ct rfl ?_ | refine A_cf rfl ?_ | refine A_skip ?_ | refine A_exit ?_ | refine A_ret ?_ | refine q_l ?_ | refine q_m ?_ | refine q_n ?_ | refine q_h ?_ | refine q_o ?_ | refine q_e ?_ | refine q_f ?_ | refine q_g ?_ | fail)
    exact X_ret rfl ⟨rfl, rfl⟩
  · rw [decide_eq_false h]
    repeat (first | refine A_seq ?_ | refine A_block ?_ | refine R_list ?_ | ((first | apply O_y rfl rfl rfl | apply Q_y rfl rfl rfl); (first | exact q_A | exact q_5 | exact q_B | (exact R_sF rfl rfl rfl rfl (decide_eq_false h)))) | refine O_nil ?_ | refine Q_nil ?_ | refine q_j ?_ | refine q_k ?_ | refine q_d ?_ | refine q_a ?_ | refine q_b ?_ | refine q_c ?_ | refine A_ct rfl ?_ | refine A_cf rfl ?_ | refine A_skip ?_ | refine A_exit ?_ | refine A_ret ?_ | refine q_l ?_ | refine q_m ?_ | refine q_n ?_ | refine q_h ?_ | refine q_o ?_ | refine q_e ?_ | refine q_f ?_ | refine q_g ?_ | fail)
    exact X_ret rfl ⟨rfl, rfl⟩
set_option maxHeartbeats 4000000 in
theorem fits1_A (d : Dvc) (c : Cls) (s : Sbj) (hd : OkD d) (hs : OkS s) : ACall Try.prog 31 [.iptr (dvcD d) 0, .iptr (clsD c) 0, .iptr (sbjD s) 0] [] (Just (boolA (fit1 d c s))) := by
  have hi := idxPlst_A d.pls 33 [.iptr (clsD c) 0] (fun l => decide (l.nm = c.pfx)) (fun l _ => fits11_A l c) (by have := hd.p1; omega)
  have hfi := idxOf_find (fun l : PLst => decide (l.nm = c.pfx)) d.pls
  unfold fit1
  obtain ⟨i, hii⟩ : ∃ i, idxOf (fun l : PLst => decide (l.nm = c.pfx)) d.pls = i := ⟨_, rfl⟩
  rw [hii] at hi hfi
  refine ACall_of tabOk Try.func31 rfl Try.ntmps31 (congrArg Array.toList Try.results31) (by kernel_rfl) rfl ?_
  by_cases he : c.pfx = []
  · rw [decide_eq_true he]
    repeat (first | refine A_seq ?_ | refine A_block ?_ | refine R_list ?_ | refine R_quiet rfl mixed (by kernel_rfl) ?_ | ((first | apply O_y rfl rfl rfl | apply Q_y rfl rfl rfl); (first | exact q_A | exact q_5 | exact q_B | (first | exact Y_makeFunc rfl rfl | exact R_sT rfl rfl rfl rfl (decide_eq_true he)))) | refine O_nil ?_ | refine Q_nil ?_ | refine q_j ?_ | refine q_k ?_ | refine q_d ?_ | refine q_a ?_ | refine q_b ?_ | refine q_c ?_ | refine A_ct rfl ?_ | refine A_cf rfl ?_ | refine A_skip ?_ | refine A_exit ?_ | refine A_ret ?_ | refine q_l ?_ | refine q_m ?_ | refine q_n ?_ | refine q_h ?_ | refine q_o ?_ | refine q_e ?_ | refine q_f ?_ | refine q_g ?_ | refine O_c rfl rfl rfl rfl rfl hi (fun _ => rfl) ?_)
    exact X_ret rfl ⟨rfl, rfl⟩
  · rw [decide_eq_false he]
    rcases hfi with ⟨rfl, h2⟩ | ⟨k, hk, rfl, h2⟩
    · rw [h2]
      repeat (first | refine A_seq ?_ | refine A_block ?_ | refine R_list ?_ | refine R_quiet rfl mixed (by kernel_rfl) ?_ | ((first | apply O_y rfl rfl rfl | apply Q_y rfl rfl rfl); (first | exact q_A | exact q_5 | exact q_B | (first | exact Y_makeFunc rfl rfl | exact R_sF rfl rfl rfl rfl (decide_eq_false he)))) | refine O_nil ?_ | refine Q_nil ?_ | refine q_j ?_ | refine q_k ?_ | refine q_d ?_ | refine q_a ?_ | refine q_b ?_ | refine q_c ?_ | refine A_ct rfl ?_ | refine A_cf rfl ?_ | refine A_skip ?_ | refine A_exit ?_ | refine A_ret ?_ | refine q_l ?_ | refine q_m ?_ | refine q_n ?_ | refine q_h ?_ | refine q_o ?_ | refine q_e ?_ | refine q_f ?_ | refine q_g ?_ | refine O_c rfl rfl rfl rfl rfl hi (fun _ => rfl) ?_)
      exact X_ret rfl ⟨rfl, rfl⟩
    · rw [h2]
      have hm := hd.p2 _ (List.getElem_mem hk)
      have hp := permits_A d.pls[k] s.p hm.2 hs.p hm.1
      have hw := win_flat0 plstD_len d.pls k 2 hk (by decide)
      repeat (first | refine A_seq ?_ | refine A_block ?_ | refine R_list ?_ | refine R_quiet rfl mixed (by kernel_rfl) ?_ | ((first | apply O_y rfl rfl rfl | apply Q_y rfl rfl rfl); (first | exact q_A | exact R_loadi tabOk rfl rfl rfl rfl (by first | exact hw | rfl) rfl rfl | exact q_B | (first | exact Y_makeFunc rfl rfl | exact R_sF rfl rfl rfl rfl (decide_eq_false he) | exact R_index (j := k) tabOk rfl rfl rfl rfl rfl rfl hk))) | refine O_nil ?_ | refine Q_nil ?_ | refine q_j ?_ | refine q_k ?_ | refine q_d ?_ | refine q_a ?_ | refine q_b ?_ | refine q_c ?_ | refine A_ct rfl ?_ | refine A_cf rfl ?_ | refine A_skip ?_ | refine A_exit ?_ | refine A_ret ?_ | refine q_l ?_ | refine q_m ?_ | refine q_n ?_ | refine q_h ?_ | refine q_o ?_ | refine q_e ?_ | refine q_f ?_ | refine q_g ?_ | (first | refine Q_c rfl rfl rfl rfl rfl hp rfl (fun _ _ _ => val_mk _ _ _ _ _ rfl rfl) ?_ | refine O_c rfl rfl rfl rfl rfl hi (fun _ => rfl) ?_))
      exact X_ret rfl ⟨rfl, rfl⟩
set_option maxHeartbeats 4000000 in
theorem fits2_A (d : Dvc) (c : Cls) (s : Sbj) (hd : OkD d) (hs : OkS s) : ACall Try.prog 35 [.iptr (dvcD d) 0, .iptr (clsD c) 0, .iptr (sbjD s) 0] [] (Just (boolA (fit2 d c s))) := by
  have hi := idxClst_A d.cls 37 [.iptr (clsD c) 0] (fun l => decide (l.nm = c.com)) (fun l _ => fits21_A l c) (by have := hd.c1; omega)
  have hfi := idxOf_find (fun l : CLst => decide (l.nm = c.com)) d.cls
  unfold fit2
  obtain ⟨i, hii⟩ : ∃ i, idxOf (fun l : CLst => decide (l.nm = c.com)) d.cls = i := ⟨_, rfl⟩
  rw [hii] at hi hfi
  refine ACall_of tabOk Try.func35 rfl Try.ntmps35 (congrArg Array.toList Try.results35) (by kernel_rfl) rfl ?_
  by_cases he : c.com = []
  · rw [decide_eq_true he]
    repeat (first | refine A_seq ?_ | refine A_block ?_ | refine R_list ?_ | refine R_quiet rfl mixed (by kernel_rfl) ?_ | ((first | apply O_y rfl rfl rfl | apply Q_y rfl rfl rfl); (first | exact q_A | exact q_5 | exact q_B | (first | exact Y_makeFunc rfl rfl | exact R_sT rfl rfl rfl rfl (decide_eq_true he)))) | refine O_nil ?_ | refine Q_nil ?_ | refine q_j ?_ | refine q_k ?_ | refine q_d ?_ | refine q_a ?_ | refine q_b ?_ | refine q_c ?_ | refine A_ct rfl ?_ | refine A_cf rfl ?_ | refine A_skip ?_ | refine A_exit ?_ | refine A_ret ?_ | refine q_l ?_ | refine q_m ?_ | refine q_n ?_ | refine q_h ?_ | refine q_o ?_ | refine q_e ?_ | refine q_f ?_ | refine q_g ?_ | refine O_c rfl rfl rfl rfl rfl hi (fun _ => rfl) ?_)
    exact X_ret rfl ⟨rfl, rfl⟩
  · rw [decide_eq_false he]
    rcases hfi with ⟨rfl, h2⟩ | ⟨k, hk, rfl, h2⟩
    · rw [h2]
      repeat (first | refine A_seq ?_ | refine A_block ?_ | refine R_list ?_ | refine R_quiet rfl mixed (by kernel_rfl) ?_ | ((first | apply O_y rfl rfl rfl | apply Q_y rfl rfl rfl); (first | exact q_A | exact q_5 | exact q_B | (first | exact Y_makeFunc rfl rfl | exact R_sF rfl rfl rfl rfl (decide_eq_false he)))) | refine O_nil ?_ | refine Q_nil ?_ | refine q_j ?_ | refine q_k ?_ | refine q_d ?_ | refine q_a ?_ | refine q_b ?_ | refine q_c ?_ | refine A_ct rfl ?_ | refine A_cf rfl ?_ | refine A_skip ?_ | refine A_exit ?_ | refine A_ret ?_ | refine q_l ?_ | refine q_m ?_ | refine q_n ?_ | refine q_h ?_ | refine q_o ?_ | refine q_e ?_ | refine q_f ?_ | refine q_g ?_ | refine O_c rfl rfl rfl rfl rfl hi (fun _ => rfl) ?_)
      exact X_ret rfl ⟨rfl, rfl⟩
    · rw [h2]
      have hm := hd.c2 _ (List.getElem_mem hk)
      have hp := allows_A d.cls[k] s.com hm.2 hs.com hm.1
      have hw := win_flat0 clstD_len d.cls k 2 hk (by decide)
      repeat (first | refine A_seq ?_ | refine A_block ?_ | refine R_list ?_ | refine R_quiet rfl mixed (by kernel_rfl) ?_ | ((first | apply O_y rfl rfl rfl | apply Q_y rfl rfl rfl); (first | exact q_A | exact R_loadi tabOk rfl rfl rfl rfl (by first | exact hw | rfl) rfl rfl | exact q_B | (first | exact Y_makeFunc rfl rfl | exact R_sF rfl rfl rfl rfl (decide_eq_false he) | exact R_index (j := k) tabOk rfl rfl rfl rfl rfl rfl hk))) | refine O_nil ?_ | refine Q_nil ?_ | refine q_j ?_ | refine q_k ?_ | refine q_d ?_ | refine q_a ?_ | refine q_b ?_ | refine q_c ?_ | refine A_ct rfl ?_ | refine A_cf rfl ?_ | refine A_skip ?_ | refine A_exit ?_ | refine A_ret ?_ | refine q_l ?_ | refine q_m ?_ | refine q_n ?_ | refine q_h ?_ | refine q_o ?_ | refine q_e ?_ | refine q_f ?_ | refine q_g ?_ | (first | refine Q_c rfl rfl rfl rfl rfl hp rfl (fun _ _ _ => val_mk _ _ _ _ _ rfl rfl) ?_ | refine O_c rfl rfl rfl rfl rfl hi (fun _ => rfl) ?_))
      exact X_ret rfl ⟨rfl, rfl⟩
theorem fits3_A (c : Cls) (s : Sbj) : ACall Try.prog 39 [.iptr (clsD c) 0, .iptr (sbjD s) 0] [] (Just (boolA (fit3 c s))) := by
  unfold fit3
  refine ACall_of tabOk Try.func39 rfl Try.ntmps39 (congrArg Array.toList Try.results39) (by kernel_rfl) rfl ?_
  by_cases h1 : c.tag = -1
  · rw [decide_eq_true h1]
    repeat (first | refine A_seq ?_ | refine A_block ?_ | refine R_list ?_ | ((first | apply O_y rfl rfl rfl | apply Q_y rfl rfl rfl); (first | exact q_A | exact q_5 | exact q_B | fail)) | refine O_nil ?_ | refine Q_nil ?_ | refine q_j ?_ | refine q_k ?_ | refine q_d ?_ | refine q_a ?_ | refine q_b ?_ | refine q_c ?_ | refine A_ct rfl ?_ | refine A_cf rfl ?_ | refine A_skip ?_ | refine A_exit ?_ | refine A_ret ?_ | refine q_l ?_ | refine q_m ?_ | refine q_n ?_ | refine q_h ?_ | refine q_o ?_ | refine q_e ?_ | refine q_f ?_ | refine q_g ?_ | fail)
    exact X_ret rfl ⟨rfl, rfl⟩
  · rw [decide_eq_false h1]
    by_cases h2 : c.tag = s.tag
    · rw [decide_eq_true h2]
      repeat (first | refine A_seq ?_ | refine A_block ?_ | refine R_list ?_ | ((first | apply O_y rfl rfl rfl | apply Q_y rfl rfl rfl); (first | exact q_A | exact q_5 | exact q_B | fail)) | refine O_nil ?_ | refine Q_nil ?_ | refine q_j ?_ | refine q_k ?_ | refine q_d ?_ | refine q_a ?_ | refine q_b ?_ | refine q_c ?_ | refine A_ct rfl ?_ | refine A_cf rfl ?_ | refine A_skip ?_ | refine A_exit ?_ | refine A_ret ?_ | refine q_l ?_ | refine q_m ?_ | refine q_n ?_ | refine q_h ?_ | refine q_o ?_ | refine q_e ?_ | refine q_f ?_ | refine q_g ?_ | fail)
      exact X_ret rfl ⟨rfl, rfl⟩
    · rw [decide_eq_false h2]
      repeat (first | refine A_seq ?_ | refine A_block ?_ | refine R_list ?_ | ((first | apply O_y rfl rfl rfl | apply Q_y rfl rfl rfl); (first | exact q_A | exact q_5 | exact q_B | fail)) | refine O_nil ?_ | refine Q_nil ?_ | refine q_j ?_ | refine q_k ?_ | refine q_d ?_ | refine q_a ?_ | refine q_b ?_ | refine q_c ?_ | refine A_ct rfl ?_ | refine A_cf rfl ?_ | refine A_skip ?_ | refine A_exit ?_ | refine A_ret ?_ | refine q_l ?_ | refine q_m ?_ | refine q_n ?_ | refine q_h ?_ | refine q_o ?_ | refine q_e ?_ | refine q_f ?_ | refine q_g ?_ | fail)
      exact X_ret rfl ⟨rfl, rfl⟩
theorem fits4_A (c : Cls) (s : Sbj) : ACall Try.prog 40 [.iptr (clsD c) 0, .iptr (sbjD s) 0] [] (Just (boolA (fit4 c s))) := by
  unfold fit4
  refine ACall_of tabOk Try.func40 rfl Try.ntmps40 (congrArg Array.toList Try.results40) (by kernel_rfl) rfl ?_
  by_cases h1 : c.met = -1
  · rw [decide_eq_true h1]
    repeat (first | refine A_seq ?_ | refine A_block ?_ | refine R_list ?_ | ((first | apply O_y rfl rfl rfl | apply Q_y rfl rfl rfl); (first | exact q_A | exact q_5 | exact q_B | fail)) | refine O_nil ?_ | refine Q_nil ?_ | refine q_j ?_ | refine q_k ?_ | refine q_d ?_ | refine q_a ?_ | refine q_b ?_ | refine q_c ?_ | refine A_ct rfl ?_ | refine A_cf rfl ?_ | refine A_skip ?_ | refine A_exit ?_ | refine A_ret ?_ | refine q_l ?_ | refine q_m ?_ | refine q_n ?_ | refine q_h ?_ | refine q_o ?_ | refine q_e ?_ | refine q_f ?_ | refine q_g ?_ | fail)
    exact X_ret rfl ⟨rfl, rfl⟩
  · rw [decide_eq_false h1]
    by_cases h2 : c.met = s.met
    · rw [decide_eq_true h2]
      repeat (first | refine A_seq ?_ | refine A_block ?_ | refine R_list ?_ | ((first | apply O_y rfl rfl rfl | apply Q_y rfl rfl rfl); (first | exact q_A | exact q_5 | exact q_B | fail)) | refine O_nil ?_ | refine Q_nil ?_ | refine q_j ?_ | refine q_k ?_ | refine q_d ?_ | refine q_a ?_ | refine q_b ?_ | refine q_c ?_ | refine A_ct rfl ?_ | refine A_cf rfl ?_ | refine A_skip ?_ | refine A_exit ?_ | refine A_ret ?_ | refine q_l ?_ | refine q_m ?_ | refine q_n ?_ | refine q_h ?_ | refine q_o ?_ | refine q_e ?_ | refine q_f ?_ | refine q_g ?_ | fail)
      exact X_ret rfl ⟨rfl, rfl⟩
    · rw [decide_eq_false h2]
      repeat (first | refine A_seq ?_ | refine A_block ?_ | refine R_list ?_ | ((first | apply O_y rfl rfl rfl | apply Q_y rfl rfl rfl); (first | exact q_A | exact q_5 | exact q_B | fail)) | refine O_nil ?_ | refine Q_nil ?_ | refine q_j ?_ | refine q_k ?_ | refine q_d ?_ | refine q_a ?_ | refine q_b ?_ | refine q_c ?_ | refine A_ct rfl ?_ | refine A_cf rfl ?_ | refine A_skip ?_ | refine A_exit ?_ | refine A_ret ?_ | refine q_l ?_ | refine q_m ?_ | refine q_n ?_ | refine q_h ?_ | refine q_o ?_ | refine q_e ?_ | refine q_f ?_ | refine q_g ?_ | fail)
      exact X_ret rfl ⟨rfl, rfl⟩
end Ab
end Go.Proofs.Ytmljmahlpcdhoaa

namespace Go.Proofs.Ytmljmahlpcdhoaa.Ab
set_option linter.unusedVariables false
set_option maxRecDepth 100000
open Go.RowKit
section
variable {P : Program} {nt : Nat} {Q : Post} {e : Env} {h : Heap} {ops : Array Oper} {o : Oper} {rest : List Oper} {T : List Nat} {fuel i : Nat} {listed : Array Bool}
theorem ACall.wk {f : FuncId} {args : List AVal} {c0 c1 : AVal} {h0 h1 : Heap} (H : ACall P f args h (fun c h' => c = c0 ∧ h' = h0)) (hk : AWk 1 [(0, c0)] h0 [(0, c1)] h1) : ACall P f args h (fun c h' => c = c1 ∧ h' = h1) :=
  ⟨H.1, fun Pm F w0 pin ι us w a b => (H.2 Pm F w0 pin ι us w a b).mono fun x w' ⟨u, c, h', ι', h2, h3, h4, h5⟩ => by
    obtain ⟨rfl, rfl⟩ := h3
    have R0 : Rel Pm F w0 pin ι' 1 [(0, c)] h' { tmps := #[u], defers := [] } w' := by
      refine ⟨h4, fun t c' ht => ?_, MkOk.nil, by simp⟩
      by_cases h0 : 0 = t
      · subst h0
        rw [look_cons_same] at ht
        cases ht
        exact ⟨u, rfl, h5⟩
      · rw [look_cons_ne _ _ h0] at ht; cases ht
    obtain ⟨ι2, R1⟩ := hk _ _ _ _ _ _ _ R0
    obtain ⟨u', hu1, hu2⟩ := R1.env 0 _ rfl
    cases hu1
    exact ⟨u, c1, h1, ι2, h2, ⟨rfl, rfl⟩, R1.heap, hu2⟩⟩
theorem O_cN {f : FuncId} {args : Array Operand} {ats : Array TypeId} {cs : List AVal} {d : Nat} {c : AVal} {h1 : Heap} (hw : awant ops e o = some true) (hdst : o.dst = some d) (hd : Nat.blt d nt = true) (ho : o.op = .call { callee := .value (.func f), args := args, argTypes := ats }) (hx : aevs e args.toList = some cs)
    (H : ACall P f cs [] (fun c' h' => c' = c ∧ h' = h1)) (hids : (h1.map (·.1)).all (fun j => Nat.blt j 1000) = true) (hcl : ∀ id b j, look h1 id = some b → blkHas j b = true → (look h1 j).isSome = true) (hcc : ∀ j, c.has j = true → (look h1 j).isSome = true)
    (HK : AOps P nt ops Q rest ((d, c) :: killEs (h1.map (·.1)) e) (h1 ++ killHs (h1.map (·.1)) h)) : AOps P nt ops Q (o :: rest) e h :=
  O_eff (T := []) hw (E_callQ (d := some d) ho hdst hx H hd fun c' h' ⟨q1, q2⟩ => by subst q1 q2; exact ⟨hids, hcl, hcc⟩) fun e' h' ⟨c', h2, ⟨q1, q2⟩, q3, q4⟩ => by subst q1 q2 q3 q4; exact HK
theorem T_cN {f : FuncId} {args : Array Operand} {ats : Array TypeId} {cs : List AVal} {d : Nat} {c : AVal} {h1 : Heap} (hi : ops[i]? = some o) (hw : awant ops e o = some true) (hdst : o.dst = some d) (hd : Nat.blt d nt = true) (ho : o.op = .call { callee := .value (.func f), args := args, argTypes := ats }) (hx : aevs e args.toList = some cs)
    (H : ACall P f cs [] (fun c' h' => c' = c ∧ h' = h1)) (hids : (h1.map (·.1)).all (fun j => Nat.blt j 1000) = true) (hcl : ∀ id b j, look h1 id = some b → blkHas j b = true → (look h1 j).isSome = true) (hcc : ∀ j, c.has j = true → (look h1 j).isSome = true)
    (HK : AAny P nt ops Q T fuel (listed.setIfInBounds i true) ((d, c) :: killEs (h1.map (·.1)) e) (h1 ++ killHs (h1.map (·.1)) h)) : AAt P nt ops Q T fuel listed i e h :=
  T_eff hi hw (E_callQ (d := some d) ho hdst hx H hd fun c' h' ⟨q1, q2⟩ => by subst q1 q2; exact ⟨hids, hcl, hcc⟩) fun e' h' ⟨c', h2, ⟨q1, q2⟩, q3, q4⟩ => by subst q1 q2 q3 q4; exact HK
end
end Go.Proofs.Ytmljmahlpcdhoaa.Ab

/-
  Texts of a proof, one behind the other (part 37).
-/
import Derived.Test.YtmljmahlpcdhoaaPc1
import Derived.Test.YtmljmahlpcdhoaaPc2
import Derived.Test.YtmljmahlpcdhoaaPc3
import Derived.Test.YtmljmahlpcdhoaaPc11
import Derived.Test.YtmljmahlpcdhoaaPc35
set_option linter.unusedVariables false
set_option linter.unusedSimpArgs false
namespace Go.Proofs.Ytmljmahlpcdhoaa
set_option linter.unusedVariables false
set_option maxRecDepth 100000
open Go.RowKit Go.Lib
def RiseA (cs : List Cls) : Prop := ∀ (i : Nat) (h : i + 1 < cs.length), cs[i].seq < cs[i + 1].seq
def clsN (c : Cls) : Nat := c.pre.length + c.sCom.length
def polN (p : Pol) : Nat := 1 + p.cs.length + (p.cs.map clsN).sum
def largeN (d : Dvc) (s : Sbj) : Nat := s.path.length + s.com.length + d.pls.length + d.cls.length + (d.pols.map polN).sum + (d.pls.map fun l => l.es.length).sum + (d.cls.map fun l => l.ms.length).sum
theorem take_sum {α : Type} (f : α → Nat) : ∀ (l : List α) (k : Nat) (h : k < l.length), ((l.take (k + 1)).map f).sum = ((l.take k).map f).sum + f l[k] ∧ ((l.take k).map f).sum + f l[k] ≤ (l.map f).sum := fun l k h => by
  have e : l = l.take k ++ l[k] :: l.drop (k + 1) := by rw [← List.drop_eq_getElem_cons h, List.take_append_drop]
  constructor
  · rw [List.take_succ_eq_append_getElem h, List.map_append, List.sum_append]; simp
  · have e2 : (l.map f).sum = ((l.take k).map f).sum + (f l[k] + ((l.drop (k + 1)).map f).sum) := by
      conv => lhs; rw [e]
      rw [List.map_append, List.sum_append]; rfl
    omega
theorem pols_len : ∀ l : List Pol, l.length ≤ (l.map polN).sum
  | [] => by simp
  | p :: r => by
    have := pols_len r
    have : 1 ≤ polN p := by unfold polN; omega
    simp only [List.length_cons, List.map_cons, List.sum_cons]; omega
namespace Ab
set_option linter.unusedSimpArgs false
attribute [local irreducible] AWp AOps AQ AYield AEff ACall AWk AAny AAt AThen AIn APost NoPanic
set_option maxHeartbeats 16000000 in
theorem large_A (d : Dvc) (s : Sbj) (hB : largeN d s ≤ 4611686018427387904) : ACall Try.prog 7 [dvcA d, aggD (sbjD s)] [] (Just (boolA (decide (600 < largeN d s)))) := by
  obtain ⟨B, hBe⟩ : ∃ B, largeN d s = B := ⟨_, rfl⟩
  have hBe2 := hBe
  unfold largeN at hBe2
  rw [hBe] at hB ⊢
  have hpl := pols_len d.pols
  refine ACall_of tabOk Try.func7 rfl Try.ntmps7 (congrArg Array.toList Try.results7) (by kernel_rfl) rfl ?_
  refine A_seq ?_
  refine R_list ?_
  refine q_d ?_
  refine q_d ?_
  refine O_weaken (Wk_freezeV (id := 2) (ds := dvcD d) rfl rfl) ?_
  refine O_weaken (Wk_freezeV (id := 3) (ds := sbjD s) rfl rfl) ?_
  repeat ((fail_if_success (refine stopL ?_)); first | refine A_seq ?_ | refine A_block ?_ | refine R_list ?_ | refine R_quiet rfl mixed (by kernel_rfl) ?_ | ((first | apply O_y rfl rfl rfl | apply Q_y rfl rfl rfl); (first | exact R_addN rfl rfl rfl | exact R_subN rfl rfl rfl | (first | exact q_A | exact q_5 | exact q_B | fail))) | refine O_nil ?_ | refine Q_nil ?_ | refine q_j ?_ | refine q_k ?_ | refine q_d ?_ | refine q_a ?_ | refine q_b ?_ | refine q_c ?_ | refine A_ct rfl ?_ | refine A_cf rfl ?_ | refine A_skip ?_ | refine A_exit ?_ | refine A_ret ?_ | refine q_l ?_ | refine q_m ?_ | refine q_n ?_ | refine q_h ?_ | refine q_o ?_ | refine q_e ?_ | refine q_f ?_ | refine q_g ?_ | fail)
  obtain ⟨n0, hn0⟩ : ∃ n, n = s.path.length + s.com.length + d.pls.length + d.cls.length := ⟨_, rfl⟩
  try refine A_block ?_
  refine A_loop (fun x : Nat × Nat => [(2, .iptr (dvcD d) 0), (5, natA x.2), (6, natA x.1)]) (fun _ => []) (fun x => x.1 ≤ d.pols.length ∧ x.2 = n0 + ((d.pols.take x.1).map polN).sum) (fun x => d.pols.length - x.1) (0, s.path.length + s.com.length + d.pls.length + d.cls.length) ⟨Nat.zero_le _, by simp [hn0]⟩ (Wk_sel ⟨rfl, rfl, rfl, trivial⟩ trivial) ?_
  rintro ⟨i, n⟩ ⟨hi, hn⟩
  try dsimp only at hi hn ⊢
  by_cases hil : i < d.pols.length
  · have hw := win_flat polD_len d.pols i 1 1 hil (by decide)
    obtain ⟨hs1, hs2⟩ := take_sum polN d.pols i hil
    obtain ⟨p, hp⟩ : ∃ p, d.pols[i] = p := ⟨_, rfl⟩
    rw [hp] at hw hs1 hs2
    have hpn : polN p = 1 + p.cs.length + (p.cs.map clsN).sum := rfl
    repeat ((fail_if_success (refine stopL ?_)); first | refine A_seq ?_ | refine A_block ?_ | refine R_list ?_ | refine R_quiet rfl mixed (by kernel_rfl) ?_ | ((first | apply O_y rfl rfl rfl | apply Q_y rfl rfl rfl); (first | exact R_addN rfl rfl rfl | exact R_subN rfl rfl rfl | (first | exact q_A | exact R_loadi tabOk rfl rfl rfl rfl (by first | exact hw | rfl) rfl rfl | exact q_B | (exact R_index (j := i) tabOk rfl rfl rfl rfl rfl rfl hil)))) | refine O_nil ?_ | refine Q_nil ?_ | refine q_j ?_ | refine q_k ?_ | refine q_d ?_ | refine q_a ?_ | refine q_b ?_ | refine q_c ?_ | refine A_ct rfl ?_ | refine A_cf rfl ?_ | refine A_skip ?_ | refine A_exit ?_ | refine A_ret ?_ | refine q_l ?_ | refine q_m ?_ | refine q_n ?_ | refine q_h ?_ | refine q_o ?_ | refine q_e ?_ | refine q_f ?_ | refine q_g ?_ | fail)
    try refine A_block ?_
    refine A_loop (fun x : Nat × Nat => [(2, .iptr (dvcD d) 0), (5, natA x.2), (6, natA i), (7, natA x.1)]) (fun _ => []) (fun x => x.1 ≤ p.cs.length ∧ x.2 = n + 1 + p.cs.length + ((p.cs.take x.1).map clsN).sum) (fun x => p.cs.length - x.1) (0, n + 1 + p.cs.length) ⟨Nat.zero_le _, by simp⟩ (Wk_sel ⟨rfl, rfl, rfl, rfl, trivial⟩ trivial) ?_
    rintro ⟨k, m⟩ ⟨hk, hm⟩
    try dsimp only at hk hm ⊢
    by_cases hkl : k < p.cs.length
    · have hw2 := win_flat clsD_len p.cs k 10 1 hkl (by decide)
      have hw3 := win_flat clsD_len p.cs k 12 1 hkl (by decide)
      obtain ⟨ht1, ht2⟩ := take_sum clsN p.cs k hkl
      obtain ⟨c, hc⟩ : ∃ c, p.cs[k] = c := ⟨_, rfl⟩
      rw [hc] at hw2 hw3 ht1 ht2
      have hcn : clsN c = c.pre.length + c.sCom.length := rfl
      repeat ((fail_if_success (refine stopL ?_)); first | refine A_seq ?_ | refine A_block ?_ | refine R_list ?_ | refine R_quiet rfl mixed (by kernel_rfl) ?_ | ((first | apply O_y rfl rfl rfl | apply Q_y rfl rfl rfl); (first | exact R_addN rfl rfl rfl | exact R_subN rfl rfl rfl | (first | exact q_A | exact R_loadi tabOk rfl rfl rfl rfl (by first | exact hw | exact hw2 | exact hw3 | rfl) rfl rfl | exact q_B | (first | exact R_index (j := i) tabOk rfl rfl rfl rfl rfl rfl hil | exact R_index (j := k) tabOk rfl rfl rfl rfl rfl rfl hkl)))) | refine O_nil ?_ | refine Q_nil ?_ | refine q_j ?_ | refine q_k ?_ | refine q_d ?_ | refine q_a ?_ | refine q_b ?_ | refine q_c ?_ | refine A_ct rfl ?_ | refine A_cf rfl ?_ | refine A_skip ?_ | refine A_exit ?_ | refine A_ret ?_ | refine q_l ?_ | refine q_m ?_ | refine q_n ?_ | refine q_h ?_ | refine q_o ?_ | refine q_e ?_ | refine q_f ?_ | refine q_g ?_ | fail)
      exact ⟨(k + 1, m + c.pre.length + c.sCom.length), ⟨hkl, by (try dsimp only); omega⟩, by (try dsimp only); omega, Wk_sel ⟨rfl, rfl, rfl, rfl, trivial⟩ trivial⟩
    ·
      repeat ((fail_if_success (refine stopL ?_)); first | refine A_seq ?_ | refine A_block ?_ | refine R_list ?_ | refine R_quiet rfl mixed (by kernel_rfl) ?_ | ((first | apply O_y rfl rfl rfl | apply Q_y rfl rfl rfl); (first | exact R_addN rfl rfl rfl | exact R_subN rfl rfl rfl | (first | exact q_A | exact R_loadi tabOk rfl rfl rfl rfl (by first | exact hw | rfl) rfl rfl | exact q_B | (exact R_index (j := i) tabOk rfl rfl rfl rfl rfl rfl hil)))) | refine O_nil ?_ | refine Q_nil ?_ | refine q_j ?_ | refine q_k ?_ | refine q_d ?_ | refine q_a ?_ | refine q_b ?_ | refine q_c ?_ | refine A_ct rfl ?_ | refine A_cf rfl ?_ | refine A_skip ?_ | refine A_exit ?_ | refine A_ret ?_ | refine q_l ?_ | refine q_m ?_ | refine q_n ?_ | refine q_h ?_ | refine q_o ?_ | refine q_e ?_ | refine q_f ?_ | refine q_g ?_ | fail)
      exact ⟨(i + 1, m), ⟨hil, by (try dsimp only); rw [hs1, hm, show k = p.cs.length by omega, List.take_length]; omega⟩, by (try dsimp only); omega, Wk_sel ⟨rfl, rfl, rfl, trivial⟩ trivial⟩
  obtain rfl : i = d.pols.length := by omega
  rw [List.take_length] at hn
  repeat ((fail_if_success (refine stopL ?_)); first | refine A_seq ?_ | refine A_block ?_ | refine R_list ?_ | refine R_quiet rfl mixed (by kernel_rfl) ?_ | ((first | apply O_y rfl rfl rfl | apply Q_y rfl rfl rfl); (first | exact R_addN rfl rfl rfl | exact R_subN rfl rfl rfl | (first | exact q_A | exact q_5 | exact q_B | fail))) | refine O_nil ?_ | refine Q_nil ?_ | refine q_j ?_ | refine q_k ?_ | refine q_d ?_ | refine q_a ?_ | refine q_b ?_ | refine q_c ?_ | refine A_ct rfl ?_ | refine A_cf rfl ?_ | refine A_skip ?_ | refine A_exit ?_ | refine A_ret ?_ | refine q_l ?_ | refine q_m ?_ | refine q_n ?_ | refine q_h ?_ | refine q_o ?_ | refine q_e ?_ | refine q_f ?_ | refine q_g ?_ | fail)
  try refine A_block ?_
  refine A_loop (fun x : Nat × Nat => [(2, .iptr (dvcD d) 0), (5, natA x.2), (8, natA x.1)]) (fun _ => []) (fun x => x.1 ≤ d.pls.length ∧ x.2 = n + ((d.pls.take x.1).map fun l => l.es.length).sum) (fun x => d.pls.length - x.1) (0, n) ⟨Nat.zero_le _, by simp⟩ (Wk_sel ⟨rfl, rfl, rfl, trivial⟩ trivial) ?_
  rintro ⟨i, m⟩ ⟨hi, hm⟩
  try dsimp only at hi hm ⊢
  by_cases hil : i < d.pls.length
  · have hw := win_flat plstD_len d.pls i 1 1 hil (by decide)
    obtain ⟨hs1, hs2⟩ := take_sum (fun l : PLst => l.es.length) d.pls i hil
    try dsimp only at hs1 hs2
    repeat ((fail_if_success (refine stopL ?_)); first | refine A_seq ?_ | refine A_block ?_ | refine R_list ?_ | refine R_quiet rfl mixed (by kernel_rfl) ?_ | ((first | apply O_y rfl rfl rfl | apply Q_y rfl rfl rfl); (first | exact R_addN rfl rfl rfl | exact R_subN rfl rfl rfl | (first | exact q_A | exact R_loadi tabOk rfl rfl rfl rfl (by first | exact hw | rfl) rfl rfl | exact q_B | (exact R_index (j := i) tabOk rfl rfl rfl rfl rfl rfl hil)))) | refine O_nil ?_ | refine Q_nil ?_ | refine q_j ?_ | refine q_k ?_ | refine q_d ?_ | refine q_a ?_ | refine q_b ?_ | refine q_c ?_ | refine A_ct rfl ?_ | refine A_cf rfl ?_ | refine A_skip ?_ | refine A_exit ?_ | refine A_ret ?_ | refine q_l ?_ | refine q_m ?_ | refine q_n ?_ | refine q_h ?_ | refine q_o ?_ | refine q_e ?_ | refine q_f ?_ | refine q_g ?_ | fail)
    exact ⟨(i + 1, m + d.pls[i].es.length), ⟨hil, by (try dsimp only); omega⟩, by (try dsimp only); omega, Wk_sel ⟨rfl, rfl, rfl, trivial⟩ trivial⟩
  obtain rfl : i = d.pls.length := by omega
  rw [List.take_length] at hm
  repeat ((fail_if_success (refine stopL ?_)); first | refine A_seq ?_ | refine A_block ?_ | refine R_list ?_ | refine R_quiet rfl mixed (by kernel_rfl) ?_ | ((first | apply O_y rfl rfl rfl | apply Q_y rfl rfl rfl); (first | exact R_addN rfl rfl rfl | exact R_subN rfl rfl rfl | (first | exact q_A | exact q_5 | exact q_B | fail))) | refine O_nil ?_ | refine Q_nil ?_ | refine q_j ?_ | refine q_k ?_ | refine q_d ?_ | refine q_a ?_ | refine q_b ?_ | refine q_c ?_ | refine A_ct rfl ?_ | refine A_cf rfl ?_ | refine A_skip ?_ | refine A_exit ?_ | refine A_ret ?_ | refine q_l ?_ | refine q_m ?_ | refine q_n ?_ | refine q_h ?_ | refine q_o ?_ | refine q_e ?_ | refine q_f ?_ | refine q_g ?_ | fail)
  try refine A_block ?_
  refine A_loop (fun x : Nat × Nat => [(2, .iptr (dvcD d) 0), (5, natA x.2), (9, natA x.1)]) (fun _ => []) (fun x => x.1 ≤ d.cls.length ∧ x.2 = m + ((d.cls.take x.1).map fun l => l.ms.length).sum) (fun x => d.cls.length - x.1) (0, m) ⟨Nat.zero_le _, by simp⟩ (Wk_sel ⟨rfl, rfl, rfl, trivial⟩ trivial) ?_
  rintro ⟨i, q⟩ ⟨hi, hq⟩
  try dsimp only at hi hq ⊢
  by_cases hil : i < d.cls.length
  · have hw := win_flat clstD_len d.cls i 1 1 hil (by decide)
    obtain ⟨hs1, hs2⟩ := take_sum (fun l : CLst => l.ms.length) d.cls i hil
    try dsimp only at hs1 hs2
    repeat ((fail_if_success (refine stopL ?_)); first | refine A_seq ?_ | refine A_block ?_ | refine R_list ?_ | refine R_quiet rfl mixed (by kernel_rfl) ?_ | ((first | apply O_y rfl rfl rfl | apply Q_y rfl rfl rfl); (first | exact R_addN rfl rfl rfl | exact R_subN rfl rfl rfl | (first | exact q_A | exact R_loadi tabOk rfl rfl rfl rfl (by first | exact hw | rfl) rfl rfl | exact q_B | (exact R_index (j := i) tabOk rfl rfl rfl rfl rfl rfl hil)))) | refine O_nil ?_ | refine Q_nil ?_ | refine q_j ?_ | refine q_k ?_ | refine q_d ?_ | refine q_a ?_ | refine q_b ?_ | refine q_c ?_ | refine A_ct rfl ?_ | refine A_cf rfl ?_ | refine A_skip ?_ | refine A_exit ?_ | refine A_ret ?_ | refine q_l ?_ | refine q_m ?_ | refine q_n ?_ | refine q_h ?_ | refine q_o ?_ | refine q_e ?_ | refine q_f ?_ | refine q_g ?_ | fail)
    exact ⟨(i + 1, q + d.cls[i].ms.length), ⟨hil, by (try dsimp only); omega⟩, by (try dsimp only); omega, Wk_sel ⟨rfl, rfl, rfl, trivial⟩ trivial⟩
  obtain rfl : i = d.cls.length := by omega
  rw [List.take_length] at hq
  have hqB : q = B := by omega
  by_cases hl : 600 < B
  · rw [decide_eq_true hl]
    repeat ((fail_if_success (refine stopL ?_)); first | refine A_seq ?_ | refine A_block ?_ | refine R_list ?_ | refine R_quiet rfl mixed (by kernel_rfl) ?_ | ((first | apply O_y rfl rfl rfl | apply Q_y rfl rfl rfl); (first | exact R_addN rfl rfl rfl | exact R_subN rfl rfl rfl | (first | exact q_A | exact q_5 | exact q_B | fail))) | refine O_nil ?_ | refine Q_nil ?_ | refine q_j ?_ | refine q_k ?_ | refine q_d ?_ | refine q_a ?_ | refine q_b ?_ | refine q_c ?_ | refine A_ct rfl ?_ | refine A_cf rfl ?_ | refine A_skip ?_ | refine A_exit ?_ | refine A_ret ?_ | refine q_l ?_ | refine q_m ?_ | refine q_n ?_ | refine q_h ?_ | refine q_o ?_ | refine q_e ?_ | refine q_f ?_ | refine q_g ?_ | fail)
    exact X_retW AWk.refl rfl (h2 := []) trivial ⟨rfl, rfl⟩
  · rw [decide_eq_false hl]
    repeat ((fail_if_success (refine stopL ?_)); first | refine A_seq ?_ | refine A_block ?_ | refine R_list ?_ | refine R_quiet rfl mixed (by kernel_rfl) ?_ | ((first | apply O_y rfl rfl rfl | apply Q_y rfl rfl rfl); (first | exact R_addN rfl rfl rfl | exact R_subN rfl rfl rfl | (first | exact q_A | exact q_5 | exact q_B | fail))) | refine O_nil ?_ | refine Q_nil ?_ | refine q_j ?_ | refine q_k ?_ | refine q_d ?_ | refine q_a ?_ | refine q_b ?_ | refine q_c ?_ | refine A_ct rfl ?_ | refine A_cf rfl ?_ | refine A_skip ?_ | refine A_exit ?_ | refine A_ret ?_ | refine q_l ?_ | refine q_m ?_ | refine q_n ?_ | refine q_h ?_ | refine q_o ?_ | refine q_e ?_ | refine q_f ?_ | refine q_g ?_ | fail)
    exact X_retW AWk.refl rfl (h2 := []) trivial ⟨rfl, rfl⟩
end Ab
end Go.Proofs.Ytmljmahlpcdhoaa

namespace Go.Proofs.Ytmljmahlpcdhoaa.Ab
set_option linter.unusedVariables false
open Go.RowKit
section
variable {P : Program} {nt : Nat} {Q : Post} {e : Env} {h : Heap} {ops : Array Oper} {o : Oper} {rest : List Oper} {T : List Nat} {tab : TTab} {fuel i : Nat} {listed : Array Bool}
end
end Go.Proofs.Ytmljmahlpcdhoaa.Ab

/-
  Texts of a proof, one behind the other (part 32).
-/
import Derived.Test.YtmljmahlpcdhoaaPc1
import Derived.Test.YtmljmahlpcdhoaaPc2
import Derived.Test.YtmljmahlpcdhoaaPc24
import Derived.Test.YtmljmahlpcdhoaaPc30
set_option linter.unusedVariables false
set_option linter.unusedSimpArgs false
namespace Go.Proofs.Ytmljmahlpcdhoaa.Ab
set_option linter.unusedVariables false
set_option maxRecDepth 100000
open Go.RowKit Go.Lib
section
variable {P : Program} {nt : Nat} {Q : Post} {e : Env} {h : Heap} {ops : Array Oper} {T : List Nat} {fuel : Nat} {listed : Array Bool}
theorem N_three {j k l : Nat} (hr : Region.ready .any ops listed = [j, k, l]) (H1 : AAt P nt ops Q T fuel listed j e h) (H2 : AAt P nt ops Q T fuel listed k e h) (H3 : AAt P nt ops Q T fuel listed l e h) : AAny P nt ops Q T (fuel + 1) listed e h :=
  N_all hr rfl fun i hi => by
    rcases List.mem_cons.1 hi with rfl | hi
    · exact H1
    rcases List.mem_cons.1 hi with rfl | hi
    · exact H2
    · rw [List.mem_singleton.1 hi]; exact H3
theorem N_four {j k l m : Nat} (hr : Region.ready .any ops listed = [j, k, l, m]) (H1 : AAt P nt ops Q T fuel listed j e h) (H2 : AAt P nt ops Q T fuel listed k e h) (H3 : AAt P nt ops Q T fuel listed l e h) (H4 : AAt P nt ops Q T fuel listed m e h) : AAny P nt ops Q T (fuel + 1) listed e h :=
  N_all hr rfl fun i hi => by
    rcases List.mem_cons.1 hi with rfl | hi
    · exact H1
    rcases List.mem_cons.1 hi with rfl | hi
    · exact H2
    rcases List.mem_cons.1 hi with rfl | hi
    · exact H3
    · rw [List.mem_singleton.1 hi]; exact H4
theorem A_cutJ {z : Bool} {n : Nat} {c y : Code} (E1 : Env) (H1 : Heap) (h1 : AWp z P nt c (AThen (fun e' h' => AWk nt e' h' E1 H1) RF) e h) (h2 : AWp z P nt y Q E1 H1) : AWp z P nt c (AIn n (AThen (AWp z P nt y Q) Q)) e h :=
  h1.mono fun ex e h hq => by
    cases ex with
    | normal => exact A_weaken hq h2
    | _ => exact False.elim hq
end
set_option linter.unusedSimpArgs false
attribute [local irreducible] AWp AOps AQ AYield AEff ACall AWk AAny AAt AThen AIn APost NoPanic
def nB (n : Nat) (cs : List Dat) : ABlk := .row 43 1 n cs
set_option maxHeartbeats 64000000 in
theorem spoil16_A (s : Sbj) (h1 : s.path.length ≤ 1000000000) (h2 : s.com.length ≤ 1000000000) : ACall Try.prog 18 [.agg (sbjV s (.row 1000) (.row 1001))] [(1000, uB s.path), (1001, uB s.com)] (fun c h => c = natA (s.path.length + 9 + (s.com.length + 9))) := by
  have f1 : (s.path.flatMap u1D).length = s.path.length := by rw [flat_len u1D_len, Nat.mul_one]
  have f2 : (s.com.flatMap u1D).length = s.com.length := by rw [flat_len u1D_len, Nat.mul_one]
  obtain ⟨p, hp⟩ : ∃ p, s.path.length = p := ⟨_, rfl⟩
  obtain ⟨q, hq⟩ : ∃ q, s.com.length = q := ⟨_, rfl⟩
  obtain ⟨cp, hcp⟩ : ∃ c, s.path.flatMap u1D = c := ⟨_, rfl⟩
  obtain ⟨cq, hcq⟩ : ∃ c, s.com.flatMap u1D = c := ⟨_, rfl⟩
  unfold uB
  rw [hp, hcp] at f1
  rw [hq, hcq] at f2
  rw [hp] at h1 ⊢
  rw [hq] at h2 ⊢
  rw [hcp, hcq]
  clear hp hq hcp hcq
  refine ACall_of tabOk Try.func18 rfl Try.ntmps18 (congrArg Array.toList Try.results18) (by kernel_rfl) rfl ?_
  refine A_weaken (Wk_rename2A (p1 := 1000) (p2 := 1001) (q1 := 100) (q2 := 101) (t := 0) (cs' := sbjV s (.row 100) (.row 101)) (by decide) (by decide) (by decide) (by decide) rfl rfl (by
    intro c hc
    simp only [sbjV, List.mem_cons, List.not_mem_nil, or_false] at hc
    rcases hc with rfl | rfl | rfl | rfl | rfl | rfl | rfl | rfl
    · exact .inr (.inr ⟨fun _ => rfl, rfl⟩)
    · exact .inr (.inr ⟨fun _ => rfl, rfl⟩)
    · exact .inr (.inr ⟨fun _ => rfl, rfl⟩)
    · exact .inr (.inr ⟨fun _ => rfl, rfl⟩)
    · exact .inr (.inr ⟨fun _ => rfl, rfl⟩)
    · exact .inl rfl
    · exact .inr (.inl rfl)
    · exact .inr (.inr ⟨fun _ => rfl, rfl⟩))) ?_
  repeat ((fail_if_success (refine stopL ?_)); first | refine A_seq ?_ | refine A_block ?_ | refine R_list ?_ | refine R_quiet rfl mixed (by kernel_rfl) ?_ | ((first | apply O_y rfl rfl rfl | apply Q_y rfl rfl rfl); (first | exact R_addN rfl rfl rfl | exact R_subN rfl rfl rfl | (first | exact q_A | exact q_5 | exact q_B | fail))) | refine O_nil ?_ | refine Q_nil ?_ | refine q_j ?_ | refine q_k ?_ | refine q_d ?_ | refine q_a ?_ | refine q_b ?_ | refine q_c ?_ | refine A_ct rfl ?_ | refine A_cf rfl ?_ | refine A_skip ?_ | refine A_exit ?_ | refine A_ret ?_ | refine q_l ?_ | refine q_m ?_ | refine q_n ?_ | refine q_h ?_ | refine q_o ?_ | refine q_e ?_ | refine q_f ?_ | refine q_g ?_ | fail)
  try refine A_block ?_
  refine A_loop (fun x : Nat × List Dat => [(1, .ptr 1 0), (3, natA x.1)]) (fun x => [(1, .var (sbjV s (.row 100) (.row 101))), (100, nB p x.2), (101, nB q cq)]) (fun x => x.1 ≤ p ∧ x.2.length = p) (fun x => p - x.1) (0, cp) ⟨Nat.zero_le _, f1⟩ (Wk_sel ⟨rfl, rfl, trivial⟩ ⟨rfl, rfl, rfl, trivial⟩) ?_
  rintro ⟨i, cs⟩ ⟨hi, hc⟩
  try dsimp only at hi hc ⊢
  by_cases hil : i < p
  ·
    repeat ((fail_if_success (refine stopL ?_)); first | refine A_seq ?_ | refine A_block ?_ | refine R_list ?_ | refine R_quiet rfl mixed (by kernel_rfl) ?_ | ((first | apply O_y rfl rfl rfl | apply Q_y rfl rfl rfl); (first | exact R_addN rfl rfl rfl | exact R_subN rfl rfl rfl | (first | exact q_A | exact q_5 | exact q_B | fail))) | refine O_nil ?_ | refine Q_nil ?_ | refine q_j ?_ | refine q_k ?_ | refine q_d ?_ | refine q_a ?_ | refine q_b ?_ | refine q_c ?_ | refine A_ct rfl ?_ | refine A_cf rfl ?_ | refine A_skip ?_ | refine A_exit ?_ | refine A_ret ?_ | refine q_l ?_ | refine q_m ?_ | refine q_n ?_ | refine q_h ?_ | refine q_o ?_ | refine q_e ?_ | refine q_f ?_ | refine q_g ?_ | (refine O_storee tabOk rfl rfl rfl rfl rfl rfl rfl rfl rfl rfl (by omega) (by omega) ?_))
    exact ⟨(i + 1, _), ⟨hil, by (try dsimp only); simp only [List.length_append, List.length_take, List.length_drop, List.length_cons, List.length_nil]; omega⟩, by (try dsimp only); omega, Wk_sel ⟨rfl, rfl, trivial⟩ ⟨rfl, rfl, rfl, trivial⟩⟩
  obtain rfl : i = p := by omega
  repeat ((fail_if_success (refine stopL ?_)); first | refine A_seq ?_ | refine A_block ?_ | refine R_list ?_ | refine R_quiet rfl mixed (by kernel_rfl) ?_ | ((first | apply O_y rfl rfl rfl | apply Q_y rfl rfl rfl); (first | exact R_addN rfl rfl rfl | exact R_subN rfl rfl rfl | (first | exact q_A | exact q_5 | exact q_B | fail))) | refine O_nil ?_ | refine Q_nil ?_ | refine q_j ?_ | refine q_k ?_ | refine q_d ?_ | refine q_a ?_ | refine q_b ?_ | refine q_c ?_ | refine A_ct rfl ?_ | refine A_cf rfl ?_ | refine A_skip ?_ | refine A_exit ?_ | refine A_ret ?_ | refine q_l ?_ | refine q_m ?_ | refine q_n ?_ | refine q_h ?_ | refine q_o ?_ | refine q_e ?_ | refine q_f ?_ | refine q_g ?_ | fail)
  try refine A_block ?_
  refine A_loop (fun x : Nat × List Dat => [(1, .ptr 1 0), (4, natA x.1)]) (fun x => [(1, .var (sbjV s (.row 100) (.row 101))), (100, nB i cs), (101, nB q x.2)]) (fun x => x.1 ≤ q ∧ x.2.length = q) (fun x => q - x.1) (0, cq) ⟨Nat.zero_le _, f2⟩ (Wk_sel ⟨rfl, rfl, trivial⟩ ⟨rfl, rfl, rfl, trivial⟩) ?_
  rintro ⟨j, ds⟩ ⟨hj, hd⟩
  try dsimp only at hj hd ⊢
  by_cases hjl : j < q
  ·
    repeat ((fail_if_success (refine stopL ?_)); first | refine A_seq ?_ | refine A_block ?_ | refine R_list ?_ | refine R_quiet rfl mixed (by kernel_rfl) ?_ | ((first | apply O_y rfl rfl rfl | apply Q_y rfl rfl rfl); (first | exact R_addN rfl rfl rfl | exact R_subN rfl rfl rfl | (first | exact q_A | exact q_5 | exact q_B | fail))) | refine O_nil ?_ | refine Q_nil ?_ | refine q_j ?_ | refine q_k ?_ | refine q_d ?_ | refine q_a ?_ | refine q_b ?_ | refine q_c ?_ | refine A_ct rfl ?_ | refine A_cf rfl ?_ | refine A_skip ?_ | refine A_exit ?_ | refine A_ret ?_ | refine q_l ?_ | refine q_m ?_ | refine q_n ?_ | refine q_h ?_ | refine q_o ?_ | refine q_e ?_ | refine q_f ?_ | refine q_g ?_ | (refine O_storee tabOk rfl rfl rfl rfl rfl rfl rfl rfl rfl rfl (by omega) (by omega) ?_))
    exact ⟨(j + 1, _), ⟨hjl, by (try dsimp only); simp only [List.length_append, List.length_take, List.length_drop, List.length_cons, List.length_nil]; omega⟩, by (try dsimp only); omega, Wk_sel ⟨rfl, rfl, trivial⟩ ⟨rfl, rfl, rfl, trivial⟩⟩
  obtain rfl : j = q := by omega
  repeat ((fail_if_success (refine stopL ?_)); first | refine A_seq ?_ | refine A_block ?_ | refine R_list ?_ | refine R_quiet rfl mixed (by kernel_rfl) ?_ | ((first | apply O_y rfl rfl rfl | apply Q_y rfl rfl rfl); (first | exact R_addN rfl rfl rfl | exact R_subN rfl rfl rfl | (first | exact q_A | exact q_5 | exact q_B | fail))) | refine O_nil ?_ | refine Q_nil ?_ | refine q_j ?_ | refine q_k ?_ | refine q_d ?_ | refine q_a ?_ | refine q_b ?_ | refine q_c ?_ | refine A_ct rfl ?_ | refine A_cf rfl ?_ | refine A_skip ?_ | refine A_exit ?_ | refine A_ret ?_ | refine q_l ?_ | refine q_m ?_ | refine q_n ?_ | refine q_h ?_ | refine q_o ?_ | refine q_e ?_ | refine q_f ?_ | refine q_g ?_ | fail)
  try refine A_block ?_
  refine A_loop (fun x : Nat × List Dat × List Dat => [(1, .ptr 1 0), (5, natA x.1)]) (fun x => [(1, .var (sbjV s (.row 100) (.row 101))), (100, nB (i + x.1) x.2.1), (101, nB (j + x.1) x.2.2)]) (fun x => x.1 ≤ 9) (fun x => 9 - x.1) (0, cs, ds) (Nat.zero_le _) (Wk_sel ⟨rfl, rfl, trivial⟩ ⟨rfl, rfl, rfl, trivial⟩) ?_
  rintro ⟨k, xs, ys⟩ hk
  try dsimp only at hk ⊢
  by_cases hkl : k < 9
  ·
    repeat ((fail_if_success (refine stopL ?_)); first | refine A_seq ?_ | refine A_block ?_ | refine R_list ?_ | refine R_quiet rfl mixed (by kernel_rfl) ?_ | ((first | apply O_y rfl rfl rfl | apply Q_y rfl rfl rfl); (first | exact R_addN rfl rfl rfl | exact R_subN rfl rfl rfl | (first | exact q_A | exact q_5 | exact q_B | fail))) | refine O_nil ?_ | refine Q_nil ?_ | refine q_j ?_ | refine q_k ?_ | refine q_d ?_ | refine q_a ?_ | refine q_b ?_ | refine q_c ?_ | refine A_ct rfl ?_ | refine A_cf rfl ?_ | refine A_skip ?_ | refine A_exit ?_ | refine A_ret ?_ | refine q_l ?_ | refine q_m ?_ | refine q_n ?_ | refine q_h ?_ | refine q_o ?_ | refine q_e ?_ | refine q_f ?_ | refine q_g ?_ | fail)
    refine A_cutJ [(1, .ptr 1 0), (5, natA k)] [(1, .var (sbjV s (.row 100) (.row 101))), (100, nB (i + k + 1) (xs ++ [uD 98])), (101, nB (j + k + 1) (ys ++ [uD 98]))] ?_ ?_
    · refine N_begin [1, 100, 101] mixed ?_
      repeat' (first | (apply q_N 0 rfl (by kernel_rfl) (by decide +kernel) (by decide +kernel) rfl rfl rfl; exact q_8) | (apply q_N 4 rfl (by kernel_rfl) (by decide +kernel) (by decide +kernel) rfl rfl rfl; exact q_8) | (apply q_N 8 rfl (by kernel_rfl) (by decide +kernel) (by decide +kernel) rfl rfl rfl; exact q_8) | (apply q_N 10 rfl (by kernel_rfl) (by decide +kernel) (by decide +kernel) rfl rfl rfl; exact q_8) | refine T_slice tabOk rfl rfl rfl rfl rfl rfl rfl rfl rfl rfl rfl rfl ?_ | refine T_appR tabOk rfl rfl rfl rfl rfl rfl rfl rfl rfl rfl rfl rfl (Src.row rfl) rfl (by omega) rfl ?_ | refine T_store tabOk rfl rfl rfl rfl rfl rfl rfl rfl rfl rfl rfl rfl rfl ?_ | (apply T_yield rfl rfl rfl rfl; exact q_7) | refine N_one (j := 11) (by decide +kernel) ?_ | refine N_one (j := 9) (by decide +kernel) ?_ | refine N_one (j := 7) (by decide +kernel) ?_ | refine N_one (j := 3) (by decide +kernel) ?_ | refine N_one (j := 6) (by decide +kernel) ?_ | refine N_one (j := 5) (by decide +kernel) ?_ | refine N_one (j := 2) (by decide +kernel) ?_ | refine N_one (j := 1) (by decide +kernel) ?_ | refine N_done (by decide +kernel) ?_ | refine N_two (j := 3) (k := 5) (by decide +kernel) ?_ ?_ | refine N_two (j := 3) (k := 6) (by decide +kernel) ?_ ?_ | refine N_two (j := 5) (k := 6) (by decide +kernel) ?_ ?_ | refine N_two (j := 2) (k := 6) (by decide +kernel) ?_ ?_ | refine N_two (j := 2) (k := 5) (by decide +kernel) ?_ ?_ | refine N_two (j := 1) (k := 6) (by decide +kernel) ?_ ?_ | refine N_two (j := 1) (k := 5) (by decide +kernel) ?_ ?_ | refine N_two (j := 1) (k := 2) (by decide +kernel) ?_ ?_ | refine N_three (j := 3) (k := 5) (l := 6) (by decide +kernel) ?_ ?_ ?_ | refine N_three (j := 2) (k := 5) (l := 6) (by decide +kernel) ?_ ?_ ?_ | refine N_three (j := 1) (k := 5) (l := 6) (by decide +kernel) ?_ ?_ ?_ | refine N_three (j := 1) (k := 2) (l := 6) (by decide +kernel) ?_ ?_ ?_ | refine N_three (j := 1) (k := 2) (l := 5) (by decide +kernel) ?_ ?_ ?_ | refine N_four (j := 1) (k := 2) (l := 5) (m := 6) (by decide +kernel) ?_ ?_ ?_ ?_ | (refine q_j ?_; exact Wk_sel ⟨rfl, rfl, trivial⟩ ⟨rfl, rfl, rfl, trivial⟩))
    repeat ((fail_if_success (refine stopL ?_)); first | refine A_seq ?_ | refine A_block ?_ | refine R_list ?_ | refine R_quiet rfl mixed (by kernel_rfl) ?_ | ((first | apply O_y rfl rfl rfl | apply Q_y rfl rfl rfl); (first | exact R_addN rfl rfl rfl | exact R_subN rfl rfl rfl | (first | exact q_A | exact q_5 | exact q_B | fail))) | refine O_nil ?_ | refine Q_nil ?_ | refine q_j ?_ | refine q_k ?_ | refine q_d ?_ | refine q_a ?_ | refine q_b ?_ | refine q_c ?_ | refine A_ct rfl ?_ | refine A_cf rfl ?_ | refine A_skip ?_ | refine A_exit ?_ | refine A_ret ?_ | refine q_l ?_ | refine q_m ?_ | refine q_n ?_ | refine q_h ?_ | refine q_o ?_ | refine q_e ?_ | refine q_f ?_ | refine q_g ?_ | fail)
    exact ⟨(k + 1, xs ++ [uD 98], ys ++ [uD 98]), by (try dsimp only); omega, by (try dsimp only); omega, Wk_sel ⟨rfl, rfl, trivial⟩ ⟨rfl, rfl, rfl, trivial⟩⟩
  obtain rfl : k = 9 := by omega
  repeat ((fail_if_success (refine stopL ?_)); first | refine A_seq ?_ | refine A_block ?_ | refine R_list ?_ | refine R_quiet rfl mixed (by kernel_rfl) ?_ | ((first | apply O_y rfl rfl rfl | apply Q_y rfl rfl rfl); (first | exact R_addN rfl rfl rfl | exact R_subN rfl rfl rfl | (first | exact q_A | exact q_5 | exact q_B | fail))) | refine O_nil ?_ | refine Q_nil ?_ | refine q_j ?_ | refine q_k ?_ | refine q_d ?_ | refine q_a ?_ | refine q_b ?_ | refine q_c ?_ | refine A_ct rfl ?_ | refine A_cf rfl ?_ | refine A_skip ?_ | refine A_exit ?_ | refine A_ret ?_ | refine q_l ?_ | refine q_m ?_ | refine q_n ?_ | refine q_h ?_ | refine q_o ?_ | refine q_e ?_ | refine q_f ?_ | refine q_g ?_ | fail)
  exact X_retW AWk.refl rfl (h2 := []) trivial rfl
end Go.Proofs.Ytmljmahlpcdhoaa.Ab

namespace Go.Proofs.Ytmljmahlpcdhoaa.Ab
set_option linter.unusedVariables false
open Go.RowKit
def lendW (h : Heap) : AVal → AVal
  | .agg cs => .agg (cs.map (lendV h))
  | c => lendV h c
theorem lend_relW {Pm F : Nat → Prop} {w0 w : World} {pin ι : Nat → Option Value} {h : Heap} (H : HRel Pm F w0 pin ι h w) {c : AVal} {u : Value} (hc : VRel w F ι c u) : VRel w (fun _ => False) (fun _ => none) (lendW h c) u := by
  cases c with
  | agg cs =>
    cases hc with
    | agg _ C hl hh =>
      refine .agg _ C (by rw [hl, List.length_map]) fun i c u h1 h2 => ?_
      rw [List.getElem?_map] at h1
      cases h3 : cs[i]? with
      | none => rw [h3] at h1; cases h1
      | some c0 => rw [h3] at h1; cases h1; exact lend_rel H (hh i c0 u h3 h2)
  | _ => exact lend_rel H hc
theorem args_lendW {Pm F : Nat → Prop} {w0 w : World} {pin ι : Nat → Option Value} {h : Heap} (H : HRel Pm F w0 pin ι h w) {cs : List AVal} {us : Array Value} (A : ArgsRel w F ι cs us) : ArgsRel w (fun _ => False) (fun _ => none) (cs.map (lendW h)) us :=
  ⟨by rw [List.length_map]; exact A.1, fun i c u h1 h2 => by
    rw [List.getElem?_map] at h1
    cases hc : cs[i]? with
    | none => rw [hc] at h1; cases h1
    | some c' => rw [hc] at h1; cases h1; exact lend_relW H (A.2 i c' u hc h2)⟩
section
variable {P : Program} {nt : Nat} {Q : Post} {e : Env} {h : Heap} {ops : Array Oper} {o : Oper} {rest : List Oper} {T : List Nat} {tab : TTab}
theorem Q_cLW {f : FuncId} {args : Array Operand} {ats : Array TypeId} {cs : List AVal} {c : AVal} {v : Value} {d : Nat} (hw : awant ops e o = some true) (hdst : o.dst = some d) (hd : Nat.blt d nt = true) (ho : o.op = .call { callee := .value (.func f), args := args, argTypes := ats }) (hx : aevs e args.toList = some cs)
    (H : ACall P f (cs.map (lendW h)) [] (fun c' h' => c' = c ∧ h' = [])) (hc : valA c = some v) (hrel : ∀ w F ι, VRel w F ι c v) (HK : AQ P nt ops Q rest ((d, c) :: e) h) : AQ P nt ops Q (o :: rest) e h := fun Pm F w0 pin ι a w R =>
  wpQuiet_step fun K hK => by
    rw [awant_rel R.env hw, if_pos rfl]
    refine ⟨v, fun w' hw' => ?_, ?_⟩
    · unfold Oper.quietAt
      rw [run_callA H.1 ho]
      refine ⟨rfl, ?_⟩
      have R' := R.grew hw'.grew
      refine (H.2 _ _ w' _ _ _ w' (HRel.none (fun _ => False) w' (fun _ h => h.elim)) (args_lendW R'.heap (args_of R'.env hx))).mono ?_
      rintro x w2 ⟨u, c', h', ι', rfl, ⟨rfl, rfl⟩, hH, hv⟩
      refine ⟨by rw [valA_rel hv hc], ?_⟩
      exact (hw'.grew.trans hH.grewC).ct []
    · rw [hdst]
      exact hK _ (HK Pm F w0 pin ι _ w (R.put (d := some d) hd (hrel _ _ _)))
end
end Go.Proofs.Ytmljmahlpcdhoaa.Ab

/-
  Texts of a proof, one behind the other (part 41).
-/
import Derived.Test.YtmljmahlpcdhoaaPc2
import Derived.Test.YtmljmahlpcdhoaaPc25
import Derived.Test.YtmljmahlpcdhoaaPc27
import Derived.Test.YtmljmahlpcdhoaaPc29
import Derived.Test.YtmljmahlpcdhoaaPc31
import Derived.Test.YtmljmahlpcdhoaaPc32
import Derived.Test.YtmljmahlpcdhoaaPc34
import Derived.Test.YtmljmahlpcdhoaaPc36
import Derived.Test.YtmljmahlpcdhoaaPc39
set_option linter.unusedVariables false
set_option linter.unusedSimpArgs false
namespace Go.Proofs.Ytmljmahlpcdhoaa
set_option linter.unusedVariables false
set_option maxRecDepth 100000
open Go.RowKit Go.Lib
structure OkQ (d : Dvc) (c : Cls) (s t : Sbj) : Prop where
  dv : d.ok
  lb : largeN d s ≤ 4611686018427387904
  pc : c.pre.length ≤ 1048576 ∧ c.sCom.length ≤ 1048576 ∧ ∀ n ∈ c.pre, 0 ≤ n ∧ n < 4294967296
  ep : ∀ x ∈ d.pls, x.es.length ≤ 1048576 ∧ ∀ e ∈ x.es, e.p.ok
  am : ∀ x ∈ d.cls, x.ms.length ≤ 1048576 ∧ ∀ m ∈ x.ms, m.all.length ≤ 1048576
  sp : s.p.ok
  su : ∀ n ∈ s.path, 0 ≤ n ∧ n < 4294967296
  tl : t.path.length ≤ 1048576 ∧ t.com.length ≤ 1048576
namespace Ab
theorem A_cutK {P : Program} {nt : Nat} {Q : Post} {e : Env} {h : Heap} {z : Bool} {c y : Code} (E1 : Env) (H1 : Heap) (h1 : AWp z P nt c (AThen (fun e' h' => AWk nt e' h' E1 H1) RF) e h) (h2 : AWp z P nt y Q E1 H1) : AWp z P nt c (AThen (AWp z P nt y Q) Q) e h :=
  h1.mono fun ex e h hq => by
    cases ex with
    | normal => exact A_weaken hq h2
    | _ => exact False.elim hq
set_option linter.unusedSimpArgs false
attribute [local irreducible] AWp AOps AQ AYield AEff ACall AWk AAny AAt AThen AIn APost NoPanic
set_option maxHeartbeats 64000000 in
theorem clauses_A (d : Dvc) (c : Cls) (s t : Sbj) (hok : OkQ d c s t) : ACall Try.prog 4 [dvcA d, aggD (clsD c), aggD (sbjD s), aggD (sbjD t)] [] (Just (boolA true)) := by
  have haw := awake16_A
  have hlg := large_A d s hok.lb
  obtain ⟨pc1, pc2, pc3⟩ := hok.pc
  obtain ⟨tl1, tl2⟩ := hok.tl
  obtain ⟨L, hL⟩ : ∃ L, largeN d s = L := ⟨_, rfl⟩
  rw [hL] at hlg
  refine ACall_of tabOk Try.func4 rfl Try.ntmps4 (congrArg Array.toList Try.results4) (by kernel_rfl) rfl ?_
  refine A_seq ?_
  refine R_list ?_
  refine q_d ?_
  refine q_d ?_
  refine q_d ?_
  refine q_d ?_
  refine O_weaken (Wk_freezeV (id := 4) (ds := dvcD d) rfl rfl) ?_
  refine O_weaken (Wk_freezeV (id := 5) (ds := clsD c) rfl rfl) ?_
  refine O_weaken (Wk_freezeV (id := 6) (ds := sbjD s) rfl rfl) ?_
  refine O_weaken (Wk_freezeV (id := 7) (ds := sbjD t) rfl rfl) ?_
  apply O_y rfl rfl rfl
  exact q_2
  refine O_nil ?_
  refine q_j ?_
  by_cases hl : 600 < L
  · rw [decide_eq_true hl] at hlg
    repeat ((fail_if_success (refine stopL ?_)); first | refine A_seq ?_ | refine A_block ?_ | refine R_list ?_ | refine R_quiet rfl mixed (by kernel_rfl) ?_ | ((first | apply O_y rfl rfl rfl | apply Q_y rfl rfl rfl); (first | exact R_addN rfl rfl rfl | exact R_subN rfl rfl rfl | (first | exact q_A | exact q_5 | exact q_B | fail))) | refine O_nil ?_ | refine Q_nil ?_ | refine q_j ?_ | refine q_k ?_ | refine q_d ?_ | refine q_a ?_ | refine q_b ?_ | refine q_c ?_ | refine A_ct rfl ?_ | refine A_cf rfl ?_ | refine A_skip ?_ | refine A_exit ?_ | refine A_ret ?_ | refine q_l ?_ | refine q_m ?_ | refine q_n ?_ | refine q_h ?_ | refine q_o ?_ | refine q_e ?_ | refine q_f ?_ | refine q_g ?_ | first | refine O_c rfl rfl rfl rfl rfl hlg (fun _ => rfl) ?_ | refine O_c rfl rfl rfl rfl rfl haw (fun _ => rfl) ?_)
    exact X_retW AWk.refl rfl (h2 := []) trivial ⟨rfl, rfl⟩
  rw [decide_eq_false hl] at hlg
  by_cases hl2 : 300 < c.pre.length + c.sCom.length + t.path.length + t.com.length
  ·
    repeat ((fail_if_success (refine stopL ?_)); first | refine A_seq ?_ | refine A_block ?_ | refine R_list ?_ | refine R_quiet rfl mixed (by kernel_rfl) ?_ | ((first | apply O_y rfl rfl rfl | apply Q_y rfl rfl rfl); (first | exact R_addN rfl rfl rfl | exact R_subN rfl rfl rfl | (first | exact q_A | exact q_5 | exact q_B | fail))) | refine O_nil ?_ | refine Q_nil ?_ | refine q_j ?_ | refine q_k ?_ | refine q_d ?_ | refine q_a ?_ | refine q_b ?_ | refine q_c ?_ | refine A_ct rfl ?_ | refine A_cf rfl ?_ | refine A_skip ?_ | refine A_exit ?_ | refine A_ret ?_ | refine q_l ?_ | refine q_m ?_ | refine q_n ?_ | refine q_h ?_ | refine q_o ?_ | refine q_e ?_ | refine q_f ?_ | refine q_g ?_ | first | refine O_c rfl rfl rfl rfl rfl hlg (fun _ => rfl) ?_ | refine O_c rfl rfl rfl rfl rfl haw (fun _ => rfl) ?_)
    exact X_retW AWk.refl rfl (h2 := []) trivial ⟨rfl, rfl⟩
  have hLe := hL
  unfold largeN at hLe
  have hd : OkD d := ⟨by omega, fun x hx => ⟨by have := (hok.ep x hx).1; omega, (hok.ep x hx).2⟩, by omega, fun x hx => ⟨by have := (hok.am x hx).1; omega, fun m hm => by have := (hok.am x hx).2 m hm; omega⟩⟩
  have hs : OkS s := ⟨hok.sp, by omega, by omega, hok.su⟩
  have hR : OkR s [c] := ⟨hok.sp, hok.su, fun c' hc => by obtain rfl : c' = c := by simpa using hc
                                                          exact pc3, by simp [wP]; omega, by simp [wC]; omega⟩
  have hw := hR.set.s
  have ht1 := rtwin_A s (by omega) (by omega)
  have ht2 := twin_A d hok.dv
  have hrs := rset_A c s (by omega) (by omega)
  have hs1 := setR_A c s (by omega) (by omega)
  have hs2 := set_A c s (by omega) (by omega)
  have hf1 := fits_A d c s hd hs
  have hf2 := rfits16_A d c s hd hs
  have hp1 := psame_A s t (by omega) (by omega) (by omega) (by omega)
  have hr1 := rsame_A s t (by omega) (by omega) (by omega) (by omega)
  have hp2 := psame_A s s (by omega) (by omega) (by omega) (by omega)
  have hr2 := rsame_A s s (by omega) (by omega) (by omega) (by omega)
  have hr3 := rsame_A (setC c s) (setC c s) hw.path hw.com hw.path hw.com
  have hss : ∀ x : Sbj, sameS x x = true := fun x => (sameS_iff x x).2 rfl
  rw [hss] at hp2 hr2 hr3
  have heq := equalD_A d hok.dv
  have hsp := spoil16_A (setC c s) hw.path hw.com
  have hwp := hw.path
  have hwc := hw.com
  have g1 : (c.pre.flatMap u1D).length = c.pre.length * 1 := flat_len u1D_len _
  have g2 : (c.sCom.flatMap u1D).length = c.sCom.length * 1 := flat_len u1D_len _
  obtain ⟨fb, hfb⟩ : ∃ b, fitsC d c s = b := ⟨_, rfl⟩
  obtain ⟨sb, hsb⟩ : ∃ b, sameS s t = b := ⟨_, rfl⟩
  obtain ⟨w, hwe⟩ : ∃ w, setC c s = w := ⟨_, rfl⟩
  rw [hfb] at hf1 hf2
  rw [hsb] at hp1 hr1
  rw [hwe] at hrs hs1 hs2 hr3 hsp hwp hwc
  clear hfb hsb hwe hss hR hLe
  repeat ((fail_if_success (refine stopL ?_)); first | refine A_seq ?_ | refine A_block ?_ | refine R_list ?_ | refine R_quiet rfl mixed (by kernel_rfl) ?_ | ((first | apply O_y rfl rfl rfl | apply Q_y rfl rfl rfl); (first | exact R_addN rfl rfl rfl | exact R_subN rfl rfl rfl | (first | exact q_A | exact q_5 | exact q_B | fail))) | refine O_nil ?_ | refine Q_nil ?_ | refine q_j ?_ | refine q_k ?_ | refine q_d ?_ | refine q_a ?_ | refine q_b ?_ | refine q_c ?_ | refine A_ct rfl ?_ | refine A_cf rfl ?_ | refine A_skip ?_ | refine A_exit ?_ | refine A_ret ?_ | refine q_l ?_ | refine q_m ?_ | refine q_n ?_ | refine q_h ?_ | refine q_o ?_ | refine q_e ?_ | refine q_f ?_ | refine q_g ?_ | first | refine O_c rfl rfl rfl rfl rfl hlg (fun _ => rfl) ?_ | refine O_c rfl rfl rfl rfl rfl haw (fun _ => rfl) ?_)
  refine A_cutK [(4, .iptr (dvcD d) 0), (5, .iptr (clsD c) 0), (6, .iptr (sbjD s) 0), (7, .iptr (sbjD t) 0), (9, .ptr 9 0), (10, .ptr 10 0)] [(9, .var ((sbjD s).map .d)), (10, .var ((dvcD d).map .d))] ?_ ?_
  · refine N_begin [9, 10] mixed ?_
    repeat' (first | (apply q_N 0 rfl (by kernel_rfl) (by decide +kernel) (by decide +kernel) rfl rfl rfl; exact q_5) | (apply q_N 2 rfl (by kernel_rfl) (by decide +kernel) (by decide +kernel) rfl rfl rfl; exact q_5) | refine T_call rfl rfl rfl rfl rfl rfl ht1 (fun _ => rfl) ?_ | refine T_call rfl rfl rfl rfl rfl rfl ht2 (fun _ => rfl) ?_ | refine T_alloc tabOk rfl rfl rfl rfl rfl rfl rfl ?_ | refine T_store tabOk rfl rfl rfl rfl rfl rfl rfl rfl rfl rfl rfl rfl rfl ?_ | refine N_one (j := 1) (by decide +kernel) ?_ | refine N_one (j := 3) (by decide +kernel) ?_ | refine N_one (j := 4) (by decide +kernel) ?_ | refine N_one (j := 5) (by decide +kernel) ?_ | refine N_one (j := 6) (by decide +kernel) ?_ | refine N_one (j := 7) (by decide +kernel) ?_ | refine N_two (j := 1) (k := 4) (by decide +kernel) ?_ ?_ | refine N_two (j := 1) (k := 5) (by decide +kernel) ?_ ?_ | refine N_two (j := 3) (k := 4) (by decide +kernel) ?_ ?_ | refine N_two (j := 3) (k := 5) (by decide +kernel) ?_ ?_ | refine N_two (j := 4) (k := 5) (by decide +kernel) ?_ ?_ | refine N_three (j := 1) (k := 4) (l := 5) (by decide +kernel) ?_ ?_ ?_ | refine N_three (j := 3) (k := 4) (l := 5) (by decide +kernel) ?_ ?_ ?_ | refine N_done (by decide +kernel) ?_ | (refine q_j ?_; exact Wk_sel ⟨rfl, rfl, rfl, rfl, rfl, rfl, trivial⟩ ⟨rfl, rfl, trivial⟩))
  refine A_weaken (Wk_freezeV (id := 9) (ds := sbjD s) rfl rfl) ?_
  refine A_weaken (Wk_freezeV (id := 10) (ds := dvcD d) rfl rfl) ?_
  refine A_cut [(4, .iptr (dvcD d) 0), (5, .iptr (clsD c) 0), (6, .iptr (sbjD s) 0), (7, .iptr (sbjD t) 0), (9, .iptr (sbjD s) 0), (10, .iptr (dvcD d) 0), (11, .ptr 11 0)] [(11, .var ((sbjD w).map .d))] ?_ ?_
  ·
    repeat ((fail_if_success (refine stopL ?_)); first | refine A_seq ?_ | refine A_block ?_ | refine R_list ?_ | refine R_quiet rfl mixed (by kernel_rfl) ?_ | ((first | apply O_y rfl rfl rfl | apply Q_y rfl rfl rfl); (first | exact R_addN rfl rfl rfl | exact R_subN rfl rfl rfl | (first | exact q_A | exact q_5 | exact q_B | fail))) | refine O_nil ?_ | refine Q_nil ?_ | refine q_j ?_ | refine q_k ?_ | refine q_d ?_ | refine q_a ?_ | refine q_b ?_ | refine q_c ?_ | refine A_ct rfl ?_ | refine A_cf rfl ?_ | refine A_skip ?_ | refine A_exit ?_ | refine A_ret ?_ | refine q_l ?_ | refine q_m ?_ | refine q_n ?_ | refine q_h ?_ | refine q_o ?_ | refine q_e ?_ | refine q_f ?_ | refine q_g ?_ | refine O_c rfl rfl rfl rfl rfl hrs (fun _ => rfl) ?_)
    exact Wk_sel ⟨rfl, rfl, rfl, rfl, rfl, rfl, rfl, trivial⟩ ⟨rfl, trivial⟩
  refine A_weaken (Wk_freezeV (id := 11) (ds := sbjD w) rfl rfl) ?_
  refine A_cut [(4, .iptr (dvcD d) 0), (5, .iptr (clsD c) 0), (6, .iptr (sbjD s) 0), (7, .iptr (sbjD t) 0), (9, .iptr (sbjD s) 0), (10, .iptr (dvcD d) 0), (11, .iptr (sbjD w) 0), (12, .ptr 12 0), (13, .ptr 13 0)] [(12, .var (sbjV w (.row 57) (.row 22))), (13, .var ((sbjD w).map .d)), (57, uB w.path), (22, uB w.com)] ?_ ?_
  · refine N_begin [12, 13] mixed ?_
    repeat' (first | (apply q_N 0 rfl (by kernel_rfl) (by decide +kernel) (by decide +kernel) rfl rfl rfl; exact q_5) | (apply q_N 1 rfl (by kernel_rfl) (by decide +kernel) (by decide +kernel) rfl rfl rfl; exact q_5) | (apply q_N 3 rfl (by kernel_rfl) (by decide +kernel) (by decide +kernel) rfl rfl rfl; exact q_5) | (apply q_N 4 rfl (by kernel_rfl) (by decide +kernel) (by decide +kernel) rfl rfl rfl; exact q_5) | (refine T_cN (i := 2) rfl rfl rfl rfl rfl rfl hs1 rfl blk_sbj has_sbj ?_) | (refine T_call (i := 5) rfl rfl rfl rfl rfl rfl hs2 (fun _ => rfl) ?_) | refine T_alloc tabOk rfl rfl rfl rfl rfl rfl rfl ?_ | refine T_store tabOk rfl rfl rfl rfl rfl rfl rfl rfl rfl rfl rfl rfl rfl ?_ | refine N_one (j := 2) (by decide +kernel) ?_ | refine N_one (j := 5) (by decide +kernel) ?_ | refine N_one (j := 6) (by decide +kernel) ?_ | refine N_one (j := 7) (by decide +kernel) ?_ | refine N_one (j := 8) (by decide +kernel) ?_ | refine N_one (j := 9) (by decide +kernel) ?_ | refine N_two (j := 2) (k := 6) (by decide +kernel) ?_ ?_ | refine N_two (j := 2) (k := 7) (by decide +kernel) ?_ ?_ | refine N_two (j := 5) (k := 6) (by decide +kernel) ?_ ?_ | refine N_two (j := 5) (k := 7) (by decide +kernel) ?_ ?_ | refine N_two (j := 6) (k := 7) (by decide +kernel) ?_ ?_ | refine N_three (j := 2) (k := 6) (l := 7) (by decide +kernel) ?_ ?_ ?_ | refine N_three (j := 5) (k := 6) (l := 7) (by decide +kernel) ?_ ?_ ?_ | refine N_done (by decide +kernel) ?_ | (refine q_j ?_; exact Wk_sel ⟨rfl, rfl, rfl, rfl, rfl, rfl, rfl, rfl, rfl, trivial⟩ ⟨rfl, rfl, rfl, rfl, trivial⟩))
  refine A_weaken (Wk_freezeV (id := 13) (ds := sbjD w) rfl rfl) ?_
  refine A_cut [(4, .iptr (dvcD d) 0), (5, .iptr (clsD c) 0), (6, .iptr (sbjD s) 0), (7, .iptr (sbjD t) 0), (9, .iptr (sbjD s) 0), (10, .iptr (dvcD d) 0), (11, .iptr (sbjD w) 0), (12, .ptr 12 0), (13, .iptr (sbjD w) 0)] [(12, .var (sbjV w (.row 57) (.row 22))), (57, uB w.path), (22, uB w.com)] ?_ ?_
  ·
    repeat ((fail_if_success (refine stopL ?_)); first | refine A_seq ?_ | refine A_block ?_ | refine R_list ?_ | refine R_quiet rfl mixed (by kernel_rfl) ?_ | ((first | apply O_y rfl rfl rfl | apply Q_y rfl rfl rfl); (first | exact R_addN rfl rfl rfl | exact R_subN rfl rfl rfl | (first | exact q_A | exact q_5 | exact q_B | (first | exact R_neB tabOk rfl rfl rfl rfl)))) | refine O_nil ?_ | refine Q_nil ?_ | refine q_j ?_ | refine q_k ?_ | refine q_d ?_ | refine q_a ?_ | refine q_b ?_ | refine q_c ?_ | refine A_ct rfl ?_ | refine A_cf rfl ?_ | refine A_skip ?_ | refine A_exit ?_ | refine A_ret ?_ | refine q_l ?_ | refine q_m ?_ | refine q_n ?_ | refine q_h ?_ | refine q_o ?_ | refine q_e ?_ | refine q_f ?_ | refine q_g ?_ | first | refine Q_c rfl rfl rfl rfl rfl hf1 rfl (fun _ _ _ => val_mk _ _ _ _ _ rfl rfl) ?_ | refine Q_c rfl rfl rfl rfl rfl hf2 rfl (fun _ _ _ => val_mk _ _ _ _ _ rfl rfl) ?_ | refine Q_c rfl rfl rfl rfl rfl hp1 rfl (fun _ _ _ => val_mk _ _ _ _ _ rfl rfl) ?_ | refine Q_c rfl rfl rfl rfl rfl hr1 rfl (fun _ _ _ => val_mk _ _ _ _ _ rfl rfl) ?_ | refine Q_c rfl rfl rfl rfl rfl hp2 rfl (fun _ _ _ => val_mk _ _ _ _ _ rfl rfl) ?_ | (refine Q_cLW rfl rfl rfl rfl rfl hr3 rfl (fun _ _ _ => val_mk _ _ _ _ _ rfl rfl) ?_))
    exact Wk_sel ⟨rfl, rfl, rfl, rfl, rfl, rfl, rfl, rfl, rfl, trivial⟩ ⟨rfl, rfl, rfl, trivial⟩
  refine A_cut [(4, .iptr (dvcD d) 0), (5, .iptr (clsD c) 0), (6, .iptr (sbjD s) 0), (7, .iptr (sbjD t) 0), (9, .iptr (sbjD s) 0), (10, .iptr (dvcD d) 0), (11, .iptr (sbjD w) 0), (12, .ptr 12 0), (13, .iptr (sbjD w) 0), (14, .row 83), (15, .row 87)] [(12, .var (sbjV w (.row 57) (.row 22))), (57, uB w.path), (22, uB w.com), (83, uB c.pre), (87, uB c.sCom)] ?_ ?_
  · refine N_begin [83, 87] mixed ?_
    repeat' (first | (apply q_N 1 rfl (by kernel_rfl) (by decide +kernel) (by decide +kernel) rfl rfl rfl; exact q_4) | (apply q_N 2 rfl (by kernel_rfl) (by decide +kernel) (by decide +kernel) rfl rfl rfl; exact q_5) | (apply q_N 5 rfl (by kernel_rfl) (by decide +kernel) (by decide +kernel) rfl rfl rfl; exact q_4) | (apply q_N 6 rfl (by kernel_rfl) (by decide +kernel) (by decide +kernel) rfl rfl rfl; exact q_5) | (apply q_N 8 rfl (by kernel_rfl) (by decide +kernel) (by decide +kernel) rfl rfl rfl; exact q_2) | (apply q_N 9 rfl (by kernel_rfl) (by decide +kernel) (by decide +kernel) rfl rfl rfl; exact q_2) | refine T_slice0 tabOk rfl rfl rfl rfl rfl rfl rfl rfl ?_ | (refine T_appR tabOk rfl rfl rfl rfl rfl rfl rfl rfl rfl rfl rfl rfl (Src.dat _ _) g1 (by omega) rfl ?_) | (refine T_appR tabOk rfl rfl rfl rfl rfl rfl rfl rfl rfl rfl rfl rfl (Src.dat _ _) g2 (by omega) rfl ?_) | refine N_one (j := 0) (by decide +kernel) ?_ | refine N_one (j := 3) (by decide +kernel) ?_ | refine N_one (j := 4) (by decide +kernel) ?_ | refine N_one (j := 7) (by decide +kernel) ?_ | refine N_two (j := 0) (k := 4) (by decide +kernel) ?_ ?_ | refine N_two (j := 3) (k := 4) (by decide +kernel) ?_ ?_ | refine N_done (by decide +kernel) ?_ | (refine q_j ?_; exact Wk_sel ⟨rfl, rfl, rfl, rfl, rfl, rfl, rfl, rfl, rfl, rfl, rfl, trivial⟩ ⟨rfl, rfl, rfl, row_eq (by simp) (by simp) rfl, row_eq (by simp) (by simp) rfl, trivial⟩))
  refine A_weaken (Wk_freeze (id := 83) rfl) ?_
  refine A_weaken (Wk_freeze (id := 87) rfl) ?_
  refine A_cut [(4, .iptr (dvcD d) 0), (5, .iptr (clsD c) 0), (6, .iptr (sbjD s) 0), (7, .iptr (sbjD t) 0), (9, .iptr (sbjD s) 0), (10, .iptr (dvcD d) 0), (11, .iptr (sbjD w) 0), (13, .iptr (sbjD w) 0), (14, usA c.pre), (15, usA c.sCom)] [] ?_ ?_
  · refine A_seq ?_
    refine N_begin [57, 22] mixed ?_
    apply q_P 0 rfl (by kernel_rfl) rfl rfl rfl
    exact q_7
    apply q_P 2 rfl (by kernel_rfl) rfl rfl rfl
    exact q_4
    apply q_P 3 rfl (by kernel_rfl) rfl rfl rfl
    exact q_5
    apply q_P 4 rfl (by kernel_rfl) rfl rfl rfl
    exact q_6
    apply q_P 5 rfl (by kernel_rfl) rfl rfl rfl
    exact q_4
    apply q_P 6 rfl (by kernel_rfl) rfl rfl rfl
    exact q_5
    apply q_P 7 rfl (by kernel_rfl) rfl rfl rfl
    exact q_6
    apply q_P 8 rfl (by kernel_rfl) rfl rfl rfl
    exact R_addN rfl rfl rfl
    apply q_P 9 rfl (by kernel_rfl) rfl rfl rfl
    exact q_9
    refine N_one (j := 1) (by kernel_rfl) ?_
    refine T_cMv2 (i1 := 57) (i2 := 22) (cs := [.agg (sbjV w (.row 1000) (.row 1001))]) rfl rfl rfl rfl rfl rfl hsp rfl (fun _ _ _ => val_mk _ _ _ _ _ rfl rfl) rfl (List.all_eq_true.1 (show List.all _ _ = true from rfl)) rfl rfl (by decide) rfl rfl ?_
    apply q_P 10 rfl (by kernel_rfl) rfl rfl rfl
    exact q_12
    refine N_done (by kernel_rfl) ?_
    repeat ((fail_if_success (refine stopL ?_)); first | refine A_seq ?_ | refine A_block ?_ | refine R_list ?_ | refine R_quiet rfl mixed (by kernel_rfl) ?_ | ((first | apply O_y rfl rfl rfl | apply Q_y rfl rfl rfl); (first | exact R_addN rfl rfl rfl | exact R_subN rfl rfl rfl | (first | exact q_A | exact q_5 | exact q_B | fail))) | refine O_nil ?_ | refine Q_nil ?_ | refine q_j ?_ | refine q_k ?_ | refine q_d ?_ | refine q_a ?_ | refine q_b ?_ | refine q_c ?_ | refine A_ct rfl ?_ | refine A_cf rfl ?_ | refine A_skip ?_ | refine A_exit ?_ | refine A_ret ?_ | refine q_l ?_ | refine q_m ?_ | refine q_n ?_ | refine q_h ?_ | refine q_o ?_ | refine q_e ?_ | refine q_f ?_ | refine q_g ?_ | fail)
    exact Wk_sel ⟨rfl, rfl, rfl, rfl, rfl, rfl, rfl, rfl, rfl, rfl, trivial⟩ trivial
  repeat ((fail_if_success (refine stopL ?_)); first | refine A_seq ?_ | refine A_block ?_ | refine R_list ?_ | refine R_quiet rfl mixed (by kernel_rfl) ?_ | ((first | apply O_y rfl rfl rfl | apply Q_y rfl rfl rfl); (first | exact R_addN rfl rfl rfl | exact R_subN rfl rfl rfl | (first | exact q_A | exact q_5 | exact q_B | fail))) | refine O_nil ?_ | refine Q_nil ?_ | refine q_j ?_ | refine q_k ?_ | refine q_d ?_ | refine q_a ?_ | refine q_b ?_ | refine q_c ?_ | refine A_ct rfl ?_ | refine A_cf rfl ?_ | refine A_skip ?_ | refine A_exit ?_ | refine A_ret ?_ | refine q_l ?_ | refine q_m ?_ | refine q_n ?_ | refine q_h ?_ | refine q_o ?_ | refine q_e ?_ | refine q_f ?_ | refine q_g ?_ | fail)
  try refine A_block ?_
  refine A_loop (fun k : Nat => [(4, .iptr (dvcD d) 0), (5, .iptr (clsD c) 0), (6, .iptr (sbjD s) 0), (7, .iptr (sbjD t) 0), (9, .iptr (sbjD s) 0), (10, .iptr (dvcD d) 0), (11, .iptr (sbjD w) 0), (13, .iptr (sbjD w) 0), (14, usA c.pre), (15, usA c.sCom), (16, natA k)]) (fun _ => []) (fun k => k ≤ c.pre.length) (fun k => c.pre.length - k) 0 (Nat.zero_le _) (Wk_sel ⟨rfl, rfl, rfl, rfl, rfl, rfl, rfl, rfl, rfl, rfl, rfl, trivial⟩ trivial) ?_
  intro k hk
  try dsimp only
  by_cases hkl : k < c.pre.length
  · have hw1 := win_flat0 u1D_len c.pre k 1 hkl (by decide)
    repeat ((fail_if_success (refine stopL ?_)); first | refine A_seq ?_ | refine A_block ?_ | refine R_list ?_ | refine R_quiet rfl mixed (by kernel_rfl) ?_ | ((first | apply O_y rfl rfl rfl | apply Q_y rfl rfl rfl); (first | exact R_addN rfl rfl rfl | exact R_subN rfl rfl rfl | (first | exact q_A | exact R_loadi tabOk rfl rfl rfl rfl (by first | exact hw1 | rfl) rfl rfl | exact q_B | (first | exact R_neN rfl rfl rfl | exact R_index (j := k) tabOk rfl rfl rfl rfl rfl rfl hkl)))) | refine O_nil ?_ | refine Q_nil ?_ | refine q_j ?_ | refine q_k ?_ | refine q_d ?_ | refine q_a ?_ | refine q_b ?_ | refine q_c ?_ | refine A_ct rfl ?_ | refine A_cf rfl ?_ | refine A_skip ?_ | refine A_exit ?_ | refine A_ret ?_ | refine q_l ?_ | refine q_m ?_ | refine q_n ?_ | refine q_h ?_ | refine q_o ?_ | refine q_e ?_ | refine q_f ?_ | refine q_g ?_ | fail)
    exact ⟨k + 1, hkl, by omega, Wk_sel ⟨rfl, rfl, rfl, rfl, rfl, rfl, rfl, rfl, rfl, rfl, rfl, trivial⟩ trivial⟩
  obtain rfl : k = c.pre.length := by omega
  repeat ((fail_if_success (refine stopL ?_)); first | refine A_seq ?_ | refine A_block ?_ | refine R_list ?_ | refine R_quiet rfl mixed (by kernel_rfl) ?_ | ((first | apply O_y rfl rfl rfl | apply Q_y rfl rfl rfl); (first | exact R_addN rfl rfl rfl | exact R_subN rfl rfl rfl | (first | exact q_A | exact q_5 | exact q_B | fail))) | refine O_nil ?_ | refine Q_nil ?_ | refine q_j ?_ | refine q_k ?_ | refine q_d ?_ | refine q_a ?_ | refine q_b ?_ | refine q_c ?_ | refine A_ct rfl ?_ | refine A_cf rfl ?_ | refine A_skip ?_ | refine A_exit ?_ | refine A_ret ?_ | refine q_l ?_ | refine q_m ?_ | refine q_n ?_ | refine q_h ?_ | refine q_o ?_ | refine q_e ?_ | refine q_f ?_ | refine q_g ?_ | fail)
  try refine A_block ?_
  refine A_loop (fun k : Nat => [(4, .iptr (dvcD d) 0), (5, .iptr (clsD c) 0), (6, .iptr (sbjD s) 0), (7, .iptr (sbjD t) 0), (9, .iptr (sbjD s) 0), (10, .iptr (dvcD d) 0), (11, .iptr (sbjD w) 0), (13, .iptr (sbjD w) 0), (15, usA c.sCom), (17, natA k)]) (fun _ => []) (fun k => k ≤ c.sCom.length) (fun k => c.sCom.length - k) 0 (Nat.zero_le _) (Wk_sel ⟨rfl, rfl, rfl, rfl, rfl, rfl, rfl, rfl, rfl, rfl, trivial⟩ trivial) ?_
  intro k hk
  try dsimp only
  by_cases hkl : k < c.sCom.length
  · have hw1 := win_flat0 u1D_len c.sCom k 1 hkl (by decide)
    repeat ((fail_if_success (refine stopL ?_)); first | refine A_seq ?_ | refine A_block ?_ | refine R_list ?_ | refine R_quiet rfl mixed (by kernel_rfl) ?_ | ((first | apply O_y rfl rfl rfl | apply Q_y rfl rfl rfl); (first | exact R_addN rfl rfl rfl | exact R_subN rfl rfl rfl | (first | exact q_A | exact R_loadi tabOk rfl rfl rfl rfl (by first | exact hw1 | rfl) rfl rfl | exact q_B | (first | exact R_neN rfl rfl rfl | exact R_index (j := k) tabOk rfl rfl rfl rfl rfl rfl hkl)))) | refine O_nil ?_ | refine Q_nil ?_ | refine q_j ?_ | refine q_k ?_ | refine q_d ?_ | refine q_a ?_ | refine q_b ?_ | refine q_c ?_ | refine A_ct rfl ?_ | refine A_cf rfl ?_ | refine A_skip ?_ | refine A_exit ?_ | refine A_ret ?_ | refine q_l ?_ | refine q_m ?_ | refine q_n ?_ | refine q_h ?_ | refine q_o ?_ | refine q_e ?_ | refine q_f ?_ | refine q_g ?_ | fail)
    exact ⟨k + 1, hkl, by omega, Wk_sel ⟨rfl, rfl, rfl, rfl, rfl, rfl, rfl, rfl, rfl, rfl, trivial⟩ trivial⟩
  obtain rfl : k = c.sCom.length := by omega
  repeat ((fail_if_success (refine stopL ?_)); first | refine A_seq ?_ | refine A_block ?_ | refine R_list ?_ | refine R_quiet rfl mixed (by kernel_rfl) ?_ | ((first | apply O_y rfl rfl rfl | apply Q_y rfl rfl rfl); (first | exact R_addN rfl rfl rfl | exact R_subN rfl rfl rfl | (first | exact q_A | exact q_5 | exact q_B | fail))) | refine O_nil ?_ | refine Q_nil ?_ | refine q_j ?_ | refine q_k ?_ | refine q_d ?_ | refine q_a ?_ | refine q_b ?_ | refine q_c ?_ | refine A_ct rfl ?_ | refine A_cf rfl ?_ | refine A_skip ?_ | refine A_exit ?_ | refine A_ret ?_ | refine q_l ?_ | refine q_m ?_ | refine q_n ?_ | refine q_h ?_ | refine q_o ?_ | refine q_e ?_ | refine q_f ?_ | refine q_g ?_ | first | refine O_c rfl rfl rfl rfl rfl hr3 (fun _ => rfl) ?_ | refine O_c rfl rfl rfl rfl rfl hr2 (fun _ => rfl) ?_ | refine O_c rfl rfl rfl rfl rfl heq (fun _ => rfl) ?_ | refine O_c rfl rfl rfl rfl rfl haw (fun _ => rfl) ?_)
  exact X_retW AWk.refl rfl (h2 := []) trivial ⟨rfl, rfl⟩
end Ab
end Go.Proofs.Ytmljmahlpcdhoaa

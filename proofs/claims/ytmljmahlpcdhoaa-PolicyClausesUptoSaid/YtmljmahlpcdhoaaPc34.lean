/-
  Texts of a proof, one behind the other (part 35).
-/
import Derived.Scope
import Derived.Test.YtmljmahlpcdhoaaPc1
import Derived.Test.YtmljmahlpcdhoaaPc2
import Derived.Test.YtmljmahlpcdhoaaPc17
import Derived.Test.YtmljmahlpcdhoaaPc33
set_option linter.unusedVariables false
set_option linter.unusedSimpArgs false
namespace Go.Proofs.Ytmljmahlpcdhoaa.Ab
set_option linter.unusedVariables false
set_option maxRecDepth 100000
open Go.RowKit Go.Lib
set_option linter.unusedSimpArgs false
attribute [local irreducible] AWp AOps AQ AYield AEff ACall AWk AAny AAt AThen AIn APost NoPanic
set_option maxHeartbeats 16000000 in
theorem equal_A (d : Dvc) (hd : d.ok) : ACall Try.prog 49 [dvcA d, dvcA d] [] (Just (boolA true)) := by
  have hb2 : d.vrfs.length ≤ 140737488355328 := by have : d.vrfs.length * 16 ≤ 140737488351232 := hd.b2; omega
  have hb3 : d.ifs.length ≤ 140737488355328 := by have : d.ifs.length * 120 ≤ 140737488351232 := hd.b3; omega
  have hb4 : d.fils.length ≤ 140737488355328 := by have : d.fils.length * 40 ≤ 140737488351232 := hd.b4; omega
  have hb5 : d.rws.length ≤ 140737488355328 := by have : d.rws.length * 32 ≤ 140737488351232 := hd.b5; omega
  have hb6 : d.sts.length ≤ 140737488355328 := by have : d.sts.length * 56 ≤ 140737488351232 := hd.b6; omega
  have hb7 : d.pls.length ≤ 140737488355328 := by have : d.pls.length * 40 ≤ 140737488351232 := hd.b7; omega
  have hb8 : d.cls.length ≤ 140737488355328 := by have : d.cls.length * 40 ≤ 140737488351232 := hd.b8; omega
  have hb9 : d.pols.length ≤ 140737488355328 := by have : d.pols.length * 48 ≤ 140737488351232 := hd.b9; omega
  have hb10 : d.osp.length ≤ 140737488355328 := by have : d.osp.length * 48 ≤ 140737488351232 := hd.b10; omega
  have hb11 : d.bgp.length ≤ 140737488355328 := by have : d.bgp.length * 96 ≤ 140737488351232 := hd.b11; omega
  have q4 := hd.fils
  have q7 := hd.pls
  have q8 := hd.cls
  have q9 := hd.pols
  have q10 := hd.osp
  have q11 := hd.bgp
  clear hd
  obtain ⟨nm, kd, vrfs, ifs, fils, rws, sts, pls, cls, pols, osp, bgp⟩ := d
  dsimp only at hb2 hb3 hb4 hb5 hb6 hb7 hb8 hb9 hb10 hb11 q4 q7 q8 q9 q10 q11
  refine ACall_of tabOk Try.func49 rfl Try.ntmps49 (congrArg Array.toList Try.results49) (by kernel_rfl) rfl ?_
  refine A_seq ?_
  refine R_list ?_
  refine q_d ?_
  refine O_weaken (Wk_freezeV (id := 2) (ds := [sD nm, cD kd, .sl (vrfs.flatMap s1D) vrfs.length, .sl (ifs.flatMap ifxD) ifs.length, .sl (fils.flatMap filD) fils.length, .sl (rws.flatMap rwrD) rws.length, .sl (sts.flatMap staD) sts.length, .sl (pls.flatMap plstD) pls.length, .sl (cls.flatMap clstD) cls.length, .sl (pols.flatMap polD) pols.length, .sl (osp.flatMap ospD) osp.length, .sl (bgp.flatMap bgiD) bgp.length]) rfl rfl) ?_
  refine q_d ?_
  refine O_weaken (Wk_freezeV (id := 3) (ds := [sD nm, cD kd, .sl (vrfs.flatMap s1D) vrfs.length, .sl (ifs.flatMap ifxD) ifs.length, .sl (fils.flatMap filD) fils.length, .sl (rws.flatMap rwrD) rws.length, .sl (sts.flatMap staD) sts.length, .sl (pls.flatMap plstD) pls.length, .sl (cls.flatMap clstD) cls.length, .sl (pols.flatMap polD) pols.length, .sl (osp.flatMap ospD) osp.length, .sl (bgp.flatMap bgiD) bgp.length]) rfl rfl) ?_
  repeat (first | refine A_seq ?_ | refine A_block ?_ | refine R_list ?_ | refine R_quiet rfl mixed (by kernel_rfl) ?_ | ((first | apply O_y rfl rfl rfl | apply Q_y rfl rfl rfl); (first | exact q_A | exact q_5 | exact q_B | fail)) | refine O_nil ?_ | refine Q_nil ?_ | refine q_j ?_ | refine q_k ?_ | refine q_d ?_ | refine q_a ?_ | refine q_b ?_ | refine q_c ?_ | refine A_ct rfl ?_ | refine A_cf rfl ?_ | refine A_skip ?_ | refine A_exit ?_ | refine A_ret ?_ | refine q_l ?_ | refine q_m ?_ | refine q_n ?_ | refine q_h ?_ | refine q_o ?_ | refine q_e ?_ | refine q_f ?_ | refine q_g ?_ | fail)
  refine A_loop (fun k : Nat => [(2, .iptr [sD nm, cD kd, .sl (vrfs.flatMap s1D) vrfs.length, .sl (ifs.flatMap ifxD) ifs.length, .sl (fils.flatMap filD) fils.length, .sl (rws.flatMap rwrD) rws.length, .sl (sts.flatMap staD) sts.length, .sl (pls.flatMap plstD) pls.length, .sl (cls.flatMap clstD) cls.length, .sl (pols.flatMap polD) pols.length, .sl (osp.flatMap ospD) osp.length, .sl (bgp.flatMap bgiD) bgp.length] 0), (3, .iptr [sD nm, cD kd, .sl (vrfs.flatMap s1D) vrfs.length, .sl (ifs.flatMap ifxD) ifs.length, .sl (fils.flatMap filD) fils.length, .sl (rws.flatMap rwrD) rws.length, .sl (sts.flatMap staD) sts.length, .sl (pls.flatMap plstD) pls.length, .sl (cls.flatMap clstD) cls.length, .sl (pols.flatMap polD) pols.length, .sl (osp.flatMap ospD) osp.length, .sl (bgp.flatMap bgiD) bgp.length] 0), (5, intA (k : Int))]) (fun _ => []) (fun k => k ≤ pols.length) (fun k => pols.length - k) 0 (Nat.zero_le _) (Wk_sel ⟨rfl, rfl, rfl, trivial⟩ trivial) ?_
  intro k hkl
  try dsimp only
  by_cases hk : k < pols.length
  · have hcs : pols[k].cs.length ≤ 140737488355328 := by have : pols[k].cs.length * 168 ≤ 140737488351232 := (q9 _ (List.getElem_mem hk)).2; omega
    have hcc := (q9 _ (List.getElem_mem hk)).1
    obtain ⟨pn, cs, pd, hpn⟩ : ∃ pn cs pd, pols[k] = ⟨pn, cs, pd⟩ := ⟨_, _, _, rfl⟩
    rw [hpn] at hcs hcc
    dsimp only at hcs hcc
    have hw0 : win (pols.flatMap polD) (k * 3) 3 = [sD pn, .sl (cs.flatMap clsD) cs.length, bD pd] := (win_flat0 polD_len pols k 3 hk (by decide)).trans (by rw [hpn]; rfl)
    repeat (first | refine A_seq ?_ | refine A_block ?_ | refine R_list ?_ | ((first | apply O_y rfl rfl rfl | apply Q_y rfl rfl rfl); (first | exact q_A | exact R_loadi tabOk rfl rfl rfl rfl (by first | exact hw0 | rfl) rfl rfl | exact q_B | (first | exact R_index (j := k) tabOk rfl rfl rfl rfl rfl rfl hk | first | exact R_neInt rfl rfl rfl | exact R_neStr rfl rfl rfl | exact R_neBool tabOk rfl rfl rfl rfl | exact R_neSelf tabOk noStand rfl rfl rfl rfl rfl rfl rfl (by kernel_rfl)))) | refine O_nil ?_ | refine Q_nil ?_ | refine q_j ?_ | refine q_k ?_ | refine q_d ?_ | refine q_a ?_ | refine q_b ?_ | refine q_c ?_ | refine A_ct rfl ?_ | refine A_cf rfl ?_ | refine A_skip ?_ | refine A_exit ?_ | refine A_ret ?_ | refine q_l ?_ | refine q_m ?_ | refine q_n ?_ | refine q_h ?_ | refine q_o ?_ | refine q_e ?_ | refine q_f ?_ | refine q_g ?_ | fail)
    refine N_begin [6, 7] mixed ?_
    apply q_P 0 rfl (by kernel_rfl) rfl rfl rfl
    exact q_4
    apply q_P 1 rfl (by kernel_rfl) rfl rfl rfl
    exact R_loadi tabOk rfl rfl rfl rfl (by first | exact hw0 | rfl) rfl rfl
    apply q_P 2 rfl (by kernel_rfl) rfl rfl rfl
    exact q_1
    apply q_P 3 rfl (by kernel_rfl) rfl rfl rfl
    exact R_index (j := k) tabOk rfl rfl rfl rfl rfl rfl hk
    apply q_P 4 rfl (by kernel_rfl) rfl rfl rfl
    exact R_loadi tabOk rfl rfl rfl rfl (by first | exact hw0 | rfl) rfl rfl
    apply q_P 5 rfl (by kernel_rfl) rfl rfl rfl
    exact q_4
    apply q_P 6 rfl (by kernel_rfl) rfl rfl rfl
    exact R_loadi tabOk rfl rfl rfl rfl (by first | exact hw0 | rfl) rfl rfl
    apply q_P 7 rfl (by kernel_rfl) rfl rfl rfl
    exact q_1
    apply q_P 8 rfl (by kernel_rfl) rfl rfl rfl
    exact R_index (j := k) tabOk rfl rfl rfl rfl rfl rfl hk
    apply q_P 9 rfl (by kernel_rfl) rfl rfl rfl
    exact R_loadi tabOk rfl rfl rfl rfl (by first | exact hw0 | rfl) rfl rfl
    refine N_two (j := 10) (k := 11) (by kernel_rfl) ?_ ?_
    · refine T_alloc tabOk rfl rfl rfl rfl rfl rfl rfl ?_
      refine N_one (j := 11) (by kernel_rfl) ?_
      refine T_alloc tabOk rfl rfl rfl rfl rfl rfl rfl ?_
      refine N_one (j := 12) (by kernel_rfl) ?_
      refine T_store tabOk rfl rfl rfl rfl rfl rfl rfl rfl rfl rfl rfl rfl rfl ?_
      refine N_one (j := 13) (by kernel_rfl) ?_
      refine T_store tabOk rfl rfl rfl rfl rfl rfl rfl rfl rfl rfl rfl rfl rfl ?_
      refine N_done (by kernel_rfl) ?_
      refine q_j ?_
      refine A_weaken (Wk_sel (e1 := [(2, .iptr [sD nm, cD kd, .sl (vrfs.flatMap s1D) vrfs.length, .sl (ifs.flatMap ifxD) ifs.length, .sl (fils.flatMap filD) fils.length, .sl (rws.flatMap rwrD) rws.length, .sl (sts.flatMap staD) sts.length, .sl (pls.flatMap plstD) pls.length, .sl (cls.flatMap clstD) cls.length, .sl (pols.flatMap polD) pols.length, .sl (osp.flatMap ospD) osp.length, .sl (bgp.flatMap bgiD) bgp.length] 0), (3, .iptr [sD nm, cD kd, .sl (vrfs.flatMap s1D) vrfs.length, .sl (ifs.flatMap ifxD) ifs.length, .sl (fils.flatMap filD) fils.length, .sl (rws.flatMap rwrD) rws.length, .sl (sts.flatMap staD) sts.length, .sl (pls.flatMap plstD) pls.length, .sl (cls.flatMap clstD) cls.length, .sl (pols.flatMap polD) pols.length, .sl (osp.flatMap ospD) osp.length, .sl (bgp.flatMap bgiD) bgp.length] 0), (5, intA (k : Int)), (6, .ptr 6 0), (7, .ptr 7 0)]) (h1 := [(6, .var [.d (sD pn), .d (.sl (cs.flatMap clsD) cs.length), .d (bD pd)]), (7, .var [.d (sD pn), .d (.sl (cs.flatMap clsD) cs.length), .d (bD pd)])]) ⟨rfl, rfl, rfl, rfl, rfl, trivial⟩ ⟨rfl, rfl, trivial⟩) ?_
      repeat (first | refine A_seq ?_ | refine A_block ?_ | refine R_list ?_ | ((first | apply O_y rfl rfl rfl | apply Q_y rfl rfl rfl); (first | exact q_A | exact q_5 | exact q_B | (first | exact q_26 | first | exact R_neInt rfl rfl rfl | exact R_neStr rfl rfl rfl | exact R_neBool tabOk rfl rfl rfl rfl | exact R_neSelf tabOk noStand rfl rfl rfl rfl rfl rfl rfl (by kernel_rfl)))) | refine O_nil ?_ | refine Q_nil ?_ | refine q_j ?_ | refine q_k ?_ | refine q_d ?_ | refine q_a ?_ | refine q_b ?_ | refine q_c ?_ | refine A_ct rfl ?_ | refine A_cf rfl ?_ | refine A_skip ?_ | refine A_exit ?_ | refine A_ret ?_ | refine q_l ?_ | refine q_m ?_ | refine q_n ?_ | refine q_h ?_ | refine q_o ?_ | refine q_e ?_ | refine q_f ?_ | refine q_g ?_ | fail)
      refine A_loop (fun j : Nat => [(2, .iptr [sD nm, cD kd, .sl (vrfs.flatMap s1D) vrfs.length, .sl (ifs.flatMap ifxD) ifs.length, .sl (fils.flatMap filD) fils.length, .sl (rws.flatMap rwrD) rws.length, .sl (sts.flatMap staD) sts.length, .sl (pls.flatMap plstD) pls.length, .sl (cls.flatMap clstD) cls.length, .sl (pols.flatMap polD) pols.length, .sl (osp.flatMap ospD) osp.length, .sl (bgp.flatMap bgiD) bgp.length] 0), (3, .iptr [sD nm, cD kd, .sl (vrfs.flatMap s1D) vrfs.length, .sl (ifs.flatMap ifxD) ifs.length, .sl (fils.flatMap filD) fils.length, .sl (rws.flatMap rwrD) rws.length, .sl (sts.flatMap staD) sts.length, .sl (pls.flatMap plstD) pls.length, .sl (cls.flatMap clstD) cls.length, .sl (pols.flatMap polD) pols.length, .sl (osp.flatMap ospD) osp.length, .sl (bgp.flatMap bgiD) bgp.length] 0), (5, intA (k : Int)), (6, .ptr 6 0), (7, .ptr 7 0), (8, intA (j : Int))]) (fun _ => [(6, .var [.d (sD pn), .d (.sl (cs.flatMap clsD) cs.length), .d (bD pd)]), (7, .var [.d (sD pn), .d (.sl (cs.flatMap clsD) cs.length), .d (bD pd)])]) (fun j => j ≤ cs.length) (fun j => cs.length - j) 0 (Nat.zero_le _) (Wk_sel ⟨rfl, rfl, rfl, rfl, rfl, rfl, trivial⟩ ⟨rfl, rfl, trivial⟩) ?_
      intro j hjl
      try dsimp only
      by_cases hj : j < cs.length
      · have ha := (hcc _ (List.getElem_mem hj)).b1
        have hb := (hcc _ (List.getElem_mem hj)).b2
        obtain ⟨c1, c2, c3, c4, c5, c6, c7, c8, c9, c10, c11, c12, c13, c14, c15, hcj⟩ : ∃ c1 c2 c3 c4 c5 c6 c7 c8 c9 c10 c11 c12 c13 c14 c15, cs[j] = ⟨c1, c2, c3, c4, c5, c6, c7, c8, c9, c10, c11, c12, c13, c14, c15⟩ := ⟨_, _, _, _, _, _, _, _, _, _, _, _, _, _, _, rfl⟩
        rw [hcj] at ha hb
        have ha : c11.length * 4 ≤ 140737488351232 := ha
        have hb : c13.length * 4 ≤ 140737488351232 := hb
        have hn1 := numbersSelf_A c11 (by omega)
        have hn2 := numbersSelf_A c13 (by omega)
        have hw3 : win (cs.flatMap clsD) (j * 15) 15 = [iD c1, cD c2, sD c3, sD c4, iD c5, iD c6, iD c7, iD c8, iD c9, iD c10, .sl (c11.flatMap u1D) c11.length, bD c12, .sl (c13.flatMap u1D) c13.length, uD c14, iD c15] := (win_flat0 clsD_len cs j 15 hj (by decide)).trans (by rw [hcj]; rfl)
        repeat (first | refine A_seq ?_ | refine A_block ?_ | refine R_list ?_ | ((first | apply O_y rfl rfl rfl | apply Q_y rfl rfl rfl); (first | exact q_A | exact q_5 | exact q_B | fail)) | refine O_nil ?_ | refine Q_nil ?_ | refine q_j ?_ | refine q_k ?_ | refine q_d ?_ | refine q_a ?_ | refine q_b ?_ | refine q_c ?_ | refine A_ct rfl ?_ | refine A_cf rfl ?_ | refine A_skip ?_ | refine A_exit ?_ | refine A_ret ?_ | refine q_l ?_ | refine q_m ?_ | refine q_n ?_ | refine q_h ?_ | refine q_o ?_ | refine q_e ?_ | refine q_f ?_ | refine q_g ?_ | fail)
        refine N_begin [9, 10] mixed ?_
        apply q_P 0 rfl (by kernel_rfl) rfl rfl rfl
        exact q_8
        apply q_P 1 rfl (by kernel_rfl) rfl rfl rfl
        exact q_7
        apply q_P 2 rfl (by kernel_rfl) rfl rfl rfl
        exact q_1
        apply q_P 3 rfl (by kernel_rfl) rfl rfl rfl
        exact R_index (j := j) tabOk rfl rfl rfl rfl rfl rfl hj
        apply q_P 4 rfl (by kernel_rfl) rfl rfl rfl
        exact R_loadi tabOk rfl rfl rfl rfl (by first | exact hw3 | rfl) rfl rfl
        apply q_P 5 rfl (by kernel_rfl) rfl rfl rfl
        exact q_8
        apply q_P 6 rfl (by kernel_rfl) rfl rfl rfl
        exact q_7
        apply q_P 7 rfl (by kernel_rfl) rfl rfl rfl
        exact q_1
        apply q_P 8 rfl (by kernel_rfl) rfl rfl rfl
        exact R_index (j := j) tabOk rfl rfl rfl rfl rfl rfl hj
        apply q_P 9 rfl (by kernel_rfl) rfl rfl rfl
        exact R_loadi tabOk rfl rfl rfl rfl (by first | exact hw3 | rfl) rfl rfl
        refine N_two (j := 10) (k := 11) (by kernel_rfl) ?_ ?_
        · refine T_alloc tabOk rfl rfl rfl rfl rfl rfl rfl ?_
          refine N_one (j := 11) (by kernel_rfl) ?_
          refine T_alloc tabOk rfl rfl rfl rfl rfl rfl rfl ?_
          refine N_one (j := 12) (by kernel_rfl) ?_
          refine T_store tabOk rfl rfl rfl rfl rfl rfl rfl rfl rfl rfl rfl rfl rfl ?_
          refine N_one (j := 13) (by kernel_rfl) ?_
          refine T_store tabOk rfl rfl rfl rfl rfl rfl rfl rfl rfl rfl rfl rfl rfl ?_
          refine N_done (by kernel_rfl) ?_
          refine q_j ?_
          refine A_weaken (Wk_sel (e1 := [(2, .iptr [sD nm, cD kd, .sl (vrfs.flatMap s1D) vrfs.length, .sl (ifs.flatMap ifxD) ifs.length, .sl (fils.flatMap filD) fils.length, .sl (rws.flatMap rwrD) rws.length, .sl (sts.flatMap staD) sts.length, .sl (pls.flatMap plstD) pls.length, .sl (cls.flatMap clstD) cls.length, .sl (pols.flatMap polD) pols.length, .sl (osp.flatMap ospD) osp.length, .sl (bgp.flatMap bgiD) bgp.length] 0), (3, .iptr [sD nm, cD kd, .sl (vrfs.flatMap s1D) vrfs.length, .sl (ifs.flatMap ifxD) ifs.length, .sl (fils.flatMap filD) fils.length, .sl (rws.flatMap rwrD) rws.length, .sl (sts.flatMap staD) sts.length, .sl (pls.flatMap plstD) pls.length, .sl (cls.flatMap clstD) cls.length, .sl (pols.flatMap polD) pols.length, .sl (osp.flatMap ospD) osp.length, .sl (bgp.flatMap bgiD) bgp.length] 0), (5, intA (k : Int)), (6, .ptr 6 0), (7, .ptr 7 0), (8, intA (j : Int)), (9, .ptr 9 0), (10, .ptr 10 0)]) (h1 := [(6, .var [.d (sD pn), .d (.sl (cs.flatMap clsD) cs.length), .d (bD pd)]), (7, .var [.d (sD pn), .d (.sl (cs.flatMap clsD) cs.length), .d (bD pd)]), (9, .var [.d (iD c1), .d (cD c2), .d (sD c3), .d (sD c4), .d (iD c5), .d (iD c6), .d (iD c7), .d (iD c8), .d (iD c9), .d (iD c10), .d (.sl (c11.flatMap u1D) c11.length), .d (bD c12), .d (.sl (c13.flatMap u1D) c13.length), .d (uD c14), .d (iD c15)]), (10, .var [.d (iD c1), .d (cD c2), .d (sD c3), .d (sD c4), .d (iD c5), .d (iD c6), .d (iD c7), .d (iD c8), .d (iD c9), .d (iD c10), .d (.sl (c11.flatMap u1D) c11.length), .d (bD c12), .d (.sl (c13.flatMap u1D) c13.length), .d (uD c14), .d (iD c15)])]) ⟨rfl, rfl, rfl, rfl, rfl, rfl, rfl, rfl, trivial⟩ ⟨rfl, rfl, rfl, rfl, trivial⟩) ?_
          repeat (first | refine A_seq ?_ | refine A_block ?_ | refine R_list ?_ | (apply O_y rfl rfl rfl; (first | exact q_8 | exact q_7 | exact q_1 | exact R_neInt rfl rfl rfl | exact R_neStr rfl rfl rfl | exact R_neBool tabOk rfl rfl rfl rfl | exact q_26 | exact q_20 | exact q_9 | exact q_2)) | refine O_c rfl rfl rfl rfl rfl hn1 (fun _ => rfl) ?_ | refine O_c rfl rfl rfl rfl rfl hn2 (fun _ => rfl) ?_ | refine O_nil ?_ | refine q_j ?_ | refine q_k ?_ | refine A_cf rfl ?_ | refine A_skip ?_)
          exact ⟨j + 1, by omega, by omega, Wk_sel ⟨rfl, rfl, rfl, rfl, rfl, rfl, trivial⟩ ⟨rfl, rfl, trivial⟩⟩
        · refine T_alloc tabOk rfl rfl rfl rfl rfl rfl rfl ?_
          refine N_one (j := 10) (by kernel_rfl) ?_
          refine T_alloc tabOk rfl rfl rfl rfl rfl rfl rfl ?_
          refine N_one (j := 12) (by kernel_rfl) ?_
          refine T_store tabOk rfl rfl rfl rfl rfl rfl rfl rfl rfl rfl rfl rfl rfl ?_
          refine N_one (j := 13) (by kernel_rfl) ?_
          refine T_store tabOk rfl rfl rfl rfl rfl rfl rfl rfl rfl rfl rfl rfl rfl ?_
          refine N_done (by kernel_rfl) ?_
          refine q_j ?_
          refine A_weaken (Wk_sel (e1 := [(2, .iptr [sD nm, cD kd, .sl (vrfs.flatMap s1D) vrfs.length, .sl (ifs.flatMap ifxD) ifs.length, .sl (fils.flatMap filD) fils.length, .sl (rws.flatMap rwrD) rws.length, .sl (sts.flatMap staD) sts.length, .sl (pls.flatMap plstD) pls.length, .sl (cls.flatMap clstD) cls.length, .sl (pols.flatMap polD) pols.length, .sl (osp.flatMap ospD) osp.length, .sl (bgp.flatMap bgiD) bgp.length] 0), (3, .iptr [sD nm, cD kd, .sl (vrfs.flatMap s1D) vrfs.length, .sl (ifs.flatMap ifxD) ifs.length, .sl (fils.flatMap filD) fils.length, .sl (rws.flatMap rwrD) rws.length, .sl (sts.flatMap staD) sts.length, .sl (pls.flatMap plstD) pls.length, .sl (cls.flatMap clstD) cls.length, .sl (pols.flatMap polD) pols.length, .sl (osp.flatMap ospD) osp.length, .sl (bgp.flatMap bgiD) bgp.length] 0), (5, intA (k : Int)), (6, .ptr 6 0), (7, .ptr 7 0), (8, intA (j : Int)), (9, .ptr 9 0), (10, .ptr 10 0)]) (h1 := [(6, .var [.d (sD pn), .d (.sl (cs.flatMap clsD) cs.length), .d (bD pd)]), (7, .var [.d (sD pn), .d (.sl (cs.flatMap clsD) cs.length), .d (bD pd)]), (9, .var [.d (iD c1), .d (cD c2), .d (sD c3), .d (sD c4), .d (iD c5), .d (iD c6), .d (iD c7), .d (iD c8), .d (iD c9), .d (iD c10), .d (.sl (c11.flatMap u1D) c11.length), .d (bD c12), .d (.sl (c13.flatMap u1D) c13.length), .d (uD c14), .d (iD c15)]), (10, .var [.d (iD c1), .d (cD c2), .d (sD c3), .d (sD c4), .d (iD c5), .d (iD c6), .d (iD c7), .d (iD c8), .d (iD c9), .d (iD c10), .d (.sl (c11.flatMap u1D) c11.length), .d (bD c12), .d (.sl (c13.flatMap u1D) c13.length), .d (uD c14), .d (iD c15)])]) ⟨rfl, rfl, rfl, rfl, rfl, rfl, rfl, rfl, trivial⟩ ⟨rfl, rfl, rfl, rfl, trivial⟩) ?_
          repeat (first | refine A_seq ?_ | refine A_block ?_ | refine R_list ?_ | (apply O_y rfl rfl rfl; (first | exact q_8 | exact q_7 | exact q_1 | exact R_neInt rfl rfl rfl | exact R_neStr rfl rfl rfl | exact R_neBool tabOk rfl rfl rfl rfl | exact q_26 | exact q_20 | exact q_9 | exact q_2)) | refine O_c rfl rfl rfl rfl rfl hn1 (fun _ => rfl) ?_ | refine O_c rfl rfl rfl rfl rfl hn2 (fun _ => rfl) ?_ | refine O_nil ?_ | refine q_j ?_ | refine q_k ?_ | refine A_cf rfl ?_ | refine A_skip ?_)
          exact ⟨j + 1, by omega, by omega, Wk_sel ⟨rfl, rfl, rfl, rfl, rfl, rfl, trivial⟩ ⟨rfl, rfl, trivial⟩⟩
      obtain rfl : j = cs.length := by omega
      repeat (first | refine A_seq ?_ | refine A_block ?_ | refine R_list ?_ | ((first | apply O_y rfl rfl rfl | apply Q_y rfl rfl rfl); (first | exact q_A | exact q_5 | exact q_B | fail)) | refine O_nil ?_ | refine Q_nil ?_ | refine q_j ?_ | refine q_k ?_ | refine q_d ?_ | refine q_a ?_ | refine q_b ?_ | refine q_c ?_ | refine A_ct rfl ?_ | refine A_cf rfl ?_ | refine A_skip ?_ | refine A_exit ?_ | refine A_ret ?_ | refine q_l ?_ | refine q_m ?_ | refine q_n ?_ | refine q_h ?_ | refine q_o ?_ | refine q_e ?_ | refine q_f ?_ | refine q_g ?_ | fail)
      exact ⟨k + 1, by omega, by omega, Wk_sel ⟨rfl, rfl, rfl, trivial⟩ trivial⟩
    · refine T_alloc tabOk rfl rfl rfl rfl rfl rfl rfl ?_
      refine N_one (j := 10) (by kernel_rfl) ?_
      refine T_alloc tabOk rfl rfl rfl rfl rfl rfl rfl ?_
      refine N_one (j := 12) (by kernel_rfl) ?_
      refine T_store tabOk rfl rfl rfl rfl rfl rfl rfl rfl rfl rfl rfl rfl rfl ?_
      refine N_one (j := 13) (by kernel_rfl) ?_
      refine T_store tabOk rfl rfl rfl rfl rfl rfl rfl rfl rfl rfl rfl rfl rfl ?_
      refine N_done (by kernel_rfl) ?_
      refine q_j ?_
      refine A_weaken (Wk_sel (e1 := [(2, .iptr [sD nm, cD kd, .sl (vrfs.flatMap s1D) vrfs.length, .sl (ifs.flatMap ifxD) ifs.length, .sl (fils.flatMap filD) fils.length, .sl (rws.flatMap rwrD) rws.length, .sl (sts.flatMap staD) sts.length, .sl (pls.flatMap plstD) pls.length, .sl (cls.flatMap clstD) cls.length, .sl (pols.flatMap polD) pols.length, .sl (osp.flatMap ospD) osp.length, .sl (bgp.flatMap bgiD) bgp.length] 0), (3, .iptr [sD nm, cD kd, .sl (vrfs.flatMap s1D) vrfs.length, .sl (ifs.flatMap ifxD) ifs.length, .sl (fils.flatMap filD) fils.length, .sl (rws.flatMap rwrD) rws.length, .sl (sts.flatMap staD) sts.length, .sl (pls.flatMap plstD) pls.length, .sl (cls.flatMap clstD) cls.length, .sl (pols.flatMap polD) pols.length, .sl (osp.flatMap ospD) osp.length, .sl (bgp.flatMap bgiD) bgp.length] 0), (5, intA (k : Int)), (6, .ptr 6 0), (7, .ptr 7 0)]) (h1 := [(6, .var [.d (sD pn), .d (.sl (cs.flatMap clsD) cs.length), .d (bD pd)]), (7, .var [.d (sD pn), .d (.sl (cs.flatMap clsD) cs.length), .d (bD pd)])]) ⟨rfl, rfl, rfl, rfl, rfl, trivial⟩ ⟨rfl, rfl, trivial⟩) ?_
      repeat (first | refine A_seq ?_ | refine A_block ?_ | refine R_list ?_ | ((first | apply O_y rfl rfl rfl | apply Q_y rfl rfl rfl); (first | exact q_A | exact q_5 | exact q_B | (first | exact q_26 | first | exact R_neInt rfl rfl rfl | exact R_neStr rfl rfl rfl | exact R_neBool tabOk rfl rfl rfl rfl | exact R_neSelf tabOk noStand rfl rfl rfl rfl rfl rfl rfl (by kernel_rfl)))) | refine O_nil ?_ | refine Q_nil ?_ | refine q_j ?_ | refine q_k ?_ | refine q_d ?_ | refine q_a ?_ | refine q_b ?_ | refine q_c ?_ | refine A_ct rfl ?_ | refine A_cf rfl ?_ | refine A_skip ?_ | refine A_exit ?_ | refine A_ret ?_ | refine q_l ?_ | refine q_m ?_ | refine q_n ?_ | refine q_h ?_ | refine q_o ?_ | refine q_e ?_ | refine q_f ?_ | refine q_g ?_ | fail)
      refine A_loop (fun j : Nat => [(2, .iptr [sD nm, cD kd, .sl (vrfs.flatMap s1D) vrfs.length, .sl (ifs.flatMap ifxD) ifs.length, .sl (fils.flatMap filD) fils.length, .sl (rws.flatMap rwrD) rws.length, .sl (sts.flatMap staD) sts.length, .sl (pls.flatMap plstD) pls.length, .sl (cls.flatMap clstD) cls.length, .sl (pols.flatMap polD) pols.length, .sl (osp.flatMap ospD) osp.length, .sl (bgp.flatMap bgiD) bgp.length] 0), (3, .iptr [sD nm, cD kd, .sl (vrfs.flatMap s1D) vrfs.length, .sl (ifs.flatMap ifxD) ifs.length, .sl (fils.flatMap filD) fils.length, .sl (rws.flatMap rwrD) rws.length, .sl (sts.flatMap staD) sts.length, .sl (pls.flatMap plstD) pls.length, .sl (cls.flatMap clstD) cls.length, .sl (pols.flatMap polD) pols.length, .sl (osp.flatMap ospD) osp.length, .sl (bgp.flatMap bgiD) bgp.length] 0), (5, intA (k : Int)), (6, .ptr 6 0), (7, .ptr 7 0), (8, intA (j : Int))]) (fun _ => [(6, .var [.d (sD pn), .d (.sl (cs.flatMap clsD) cs.length), .d (bD pd)]), (7, .var [.d (sD pn), .d (.sl (cs.flatMap clsD) cs.length), .d (bD pd)])]) (fun j => j ≤ cs.length) (fun j => cs.length - j) 0 (Nat.zero_le _) (Wk_sel ⟨rfl, rfl, rfl, rfl, rfl, rfl, trivial⟩ ⟨rfl, rfl, trivial⟩) ?_
      intro j hjl
      try dsimp only
      by_cases hj : j < cs.length
      · have ha := (hcc _ (List.getElem_mem hj)).b1
        have hb := (hcc _ (List.getElem_mem hj)).b2
        obtain ⟨c1, c2, c3, c4, c5, c6, c7, c8, c9, c10, c11, c12, c13, c14, c15, hcj⟩ : ∃ c1 c2 c3 c4 c5 c6 c7 c8 c9 c10 c11 c12 c13 c14 c15, cs[j] = ⟨c1, c2, c3, c4, c5, c6, c7, c8, c9, c10, c11, c12, c13, c14, c15⟩ := ⟨_, _, _, _, _, _, _, _, _, _, _, _, _, _, _, rfl⟩
        rw [hcj] at ha hb
        have ha : c11.length * 4 ≤ 140737488351232 := ha
        have hb : c13.length * 4 ≤ 140737488351232 := hb
        have hn1 := numbersSelf_A c11 (by omega)
        have hn2 := numbersSelf_A c13 (by omega)
        have hw3 : win (cs.flatMap clsD) (j * 15) 15 = [iD c1, cD c2, sD c3, sD c4, iD c5, iD c6, iD c7, iD c8, iD c9, iD c10, .sl (c11.flatMap u1D) c11.length, bD c12, .sl (c13.flatMap u1D) c13.length, uD c14, iD c15] := (win_flat0 clsD_len cs j 15 hj (by decide)).trans (by rw [hcj]; rfl)
        repeat (first | refine A_seq ?_ | refine A_block ?_ | refine R_list ?_ | ((first | apply O_y rfl rfl rfl | apply Q_y rfl rfl rfl); (first | exact q_A | exact q_5 | exact q_B | fail)) | refine O_nil ?_ | refine Q_nil ?_ | refine q_j ?_ | refine q_k ?_ | refine q_d ?_ | refine q_a ?_ | refine q_b ?_ | refine q_c ?_ | refine A_ct rfl ?_ | refine A_cf rfl ?_ | refine A_skip ?_ | refine A_exit ?_ | refine A_ret ?_ | refine q_l ?_ | refine q_m ?_ | refine q_n ?_ | refine q_h ?_ | refine q_o ?_ | refine q_e ?_ | refine q_f ?_ | refine q_g ?_ | fail)
        refine N_begin [9, 10] mixed ?_
        apply q_P 0 rfl (by kernel_rfl) rfl rfl rfl
        exact q_8
        apply q_P 1 rfl (by kernel_rfl) rfl rfl rfl
        exact q_7
        apply q_P 2 rfl (by kernel_rfl) rfl rfl rfl
        exact q_1
        apply q_P 3 rfl (by kernel_rfl) rfl rfl rfl
        exact R_index (j := j) tabOk rfl rfl rfl rfl rfl rfl hj
        apply q_P 4 rfl (by kernel_rfl) rfl rfl rfl
        exact R_loadi tabOk rfl rfl rfl rfl (by first | exact hw3 | rfl) rfl rfl
        apply q_P 5 rfl (by kernel_rfl) rfl rfl rfl
        exact q_8
        apply q_P 6 rfl (by kernel_rfl) rfl rfl rfl
        exact q_7
        apply q_P 7 rfl (by kernel_rfl) rfl rfl rfl
        exact q_1
        apply q_P 8 rfl (by kernel_rfl) rfl rfl rfl
        exact R_index (j := j) tabOk rfl rfl rfl rfl rfl rfl hj
        apply q_P 9 rfl (by kernel_rfl) rfl rfl rfl
        exact R_loadi tabOk rfl rfl rfl rfl (by first | exact hw3 | rfl) rfl rfl
        refine N_two (j := 10) (k := 11) (by kernel_rfl) ?_ ?_
        · refine T_alloc tabOk rfl rfl rfl rfl rfl rfl rfl ?_
          refine N_one (j := 11) (by kernel_rfl) ?_
          refine T_alloc tabOk rfl rfl rfl rfl rfl rfl rfl ?_
          refine N_one (j := 12) (by kernel_rfl) ?_
          refine T_store tabOk rfl rfl rfl rfl rfl rfl rfl rfl rfl rfl rfl rfl rfl ?_
          refine N_one (j := 13) (by kernel_rfl) ?_
          refine T_store tabOk rfl rfl rfl rfl rfl rfl rfl rfl rfl rfl rfl rfl rfl ?_
          refine N_done (by kernel_rfl) ?_
          refine q_j ?_
          refine A_weaken (Wk_sel (e1 := [(2, .iptr [sD nm, cD kd, .sl (vrfs.flatMap s1D) vrfs.length, .sl (ifs.flatMap ifxD) ifs.length, .sl (fils.flatMap filD) fils.length, .sl (rws.flatMap rwrD) rws.length, .sl (sts.flatMap staD) sts.length, .sl (pls.flatMap plstD) pls.length, .sl (cls.flatMap clstD) cls.length, .sl (pols.flatMap polD) pols.length, .sl (osp.flatMap ospD) osp.length, .sl (bgp.flatMap bgiD) bgp.length] 0), (3, .iptr [sD nm, cD kd, .sl (vrfs.flatMap s1D) vrfs.length, .sl (ifs.flatMap ifxD) ifs.length, .sl (fils.flatMap filD) fils.length, .sl (rws.flatMap rwrD) rws.length, .sl (sts.flatMap staD) sts.length, .sl (pls.flatMap plstD) pls.length, .sl (cls.flatMap clstD) cls.length, .sl (pols.flatMap polD) pols.length, .sl (osp.flatMap ospD) osp.length, .sl (bgp.flatMap bgiD) bgp.length] 0), (5, intA (k : Int)), (6, .ptr 6 0), (7, .ptr 7 0), (8, intA (j : Int)), (9, .ptr 9 0), (10, .ptr 10 0)]) (h1 := [(6, .var [.d (sD pn), .d (.sl (cs.flatMap clsD) cs.length), .d (bD pd)]), (7, .var [.d (sD pn), .d (.sl (cs.flatMap clsD) cs.length), .d (bD pd)]), (9, .var [.d (iD c1), .d (cD c2), .d (sD c3), .d (sD c4), .d (iD c5), .d (iD c6), .d (iD c7), .d (iD c8), .d (iD c9), .d (iD c10), .d (.sl (c11.flatMap u1D) c11.length), .d (bD c12), .d (.sl (c13.flatMap u1D) c13.length), .d (uD c14), .d (iD c15)]), (10, .var [.d (iD c1), .d (cD c2), .d (sD c3), .d (sD c4), .d (iD c5), .d (iD c6), .d (iD c7), .d (iD c8), .d (iD c9), .d (iD c10), .d (.sl (c11.flatMap u1D) c11.length), .d (bD c12), .d (.sl (c13.flatMap u1D) c13.length), .d (uD c14), .d (iD c15)])]) ⟨rfl, rfl, rfl, rfl, rfl, rfl, rfl, rfl, trivial⟩ ⟨rfl, rfl, rfl, rfl, trivial⟩) ?_
          repeat (first | refine A_seq ?_ | refine A_block ?_ | refine R_list ?_ | (apply O_y rfl rfl rfl; (first | exact q_8 | exact q_7 | exact q_1 | exact R_neInt rfl rfl rfl | exact R_neStr rfl rfl rfl | exact R_neBool tabOk rfl rfl rfl rfl | exact q_26 | exact q_20 | exact q_9 | exact q_2)) | refine O_c rfl rfl rfl rfl rfl hn1 (fun _ => rfl) ?_ | refine O_c rfl rfl rfl rfl rfl hn2 (fun _ => rfl) ?_ | refine O_nil ?_ | refine q_j ?_ | refine q_k ?_ | refine A_cf rfl ?_ | refine A_skip ?_)
          exact ⟨j + 1, by omega, by omega, Wk_sel ⟨rfl, rfl, rfl, rfl, rfl, rfl, trivial⟩ ⟨rfl, rfl, trivial⟩⟩
        · refine T_alloc tabOk rfl rfl rfl rfl rfl rfl rfl ?_
          refine N_one (j := 10) (by kernel_rfl) ?_
          refine T_alloc tabOk rfl rfl rfl rfl rfl rfl rfl ?_
          refine N_one (j := 12) (by kernel_rfl) ?_
          refine T_store tabOk rfl rfl rfl rfl rfl rfl rfl rfl rfl rfl rfl rfl rfl ?_
          refine N_one (j := 13) (by kernel_rfl) ?_
          refine T_store tabOk rfl rfl rfl rfl rfl rfl rfl rfl rfl rfl rfl rfl rfl ?_
          refine N_done (by kernel_rfl) ?_
          refine q_j ?_
          refine A_weaken (Wk_sel (e1 := [(2, .iptr [sD nm, cD kd, .sl (vrfs.flatMap s1D) vrfs.length, .sl (ifs.flatMap ifxD) ifs.length, .sl (fils.flatMap filD) fils.length, .sl (rws.flatMap rwrD) rws.length, .sl (sts.flatMap staD) sts.length, .sl (pls.flatMap plstD) pls.length, .sl (cls.flatMap clstD) cls.length, .sl (pols.flatMap polD) pols.length, .sl (osp.flatMap ospD) osp.length, .sl (bgp.flatMap bgiD) bgp.length] 0), (3, .iptr [sD nm, cD kd, .sl (vrfs.flatMap s1D) vrfs.length, .sl (ifs.flatMap ifxD) ifs.length, .sl (fils.flatMap filD) fils.length, .sl (rws.flatMap rwrD) rws.length, .sl (sts.flatMap staD) sts.length, .sl (pls.flatMap plstD) pls.length, .sl (cls.flatMap clstD) cls.length, .sl (pols.flatMap polD) pols.length, .sl (osp.flatMap ospD) osp.length, .sl (bgp.flatMap bgiD) bgp.length] 0), (5, intA (k : Int)), (6, .ptr 6 0), (7, .ptr 7 0), (8, intA (j : Int)), (9, .ptr 9 0), (10, .ptr 10 0)]) (h1 := [(6, .var [.d (sD pn), .d (.sl (cs.flatMap clsD) cs.length), .d (bD pd)]), (7, .var [.d (sD pn), .d (.sl (cs.flatMap clsD) cs.length), .d (bD pd)]), (9, .var [.d (iD c1), .d (cD c2), .d (sD c3), .d (sD c4), .d (iD c5), .d (iD c6), .d (iD c7), .d (iD c8), .d (iD c9), .d (iD c10), .d (.sl (c11.flatMap u1D) c11.length), .d (bD c12), .d (.sl (c13.flatMap u1D) c13.length), .d (uD c14), .d (iD c15)]), (10, .var [.d (iD c1), .d (cD c2), .d (sD c3), .d (sD c4), .d (iD c5), .d (iD c6), .d (iD c7), .d (iD c8), .d (iD c9), .d (iD c10), .d (.sl (c11.flatMap u1D) c11.length), .d (bD c12), .d (.sl (c13.flatMap u1D) c13.length), .d (uD c14), .d (iD c15)])]) ⟨rfl, rfl, rfl, rfl, rfl, rfl, rfl, rfl, trivial⟩ ⟨rfl, rfl, rfl, rfl, trivial⟩) ?_
          repeat (first | refine A_seq ?_ | refine A_block ?_ | refine R_list ?_ | (apply O_y rfl rfl rfl; (first | exact q_8 | exact q_7 | exact q_1 | exact R_neInt rfl rfl rfl | exact R_neStr rfl rfl rfl | exact R_neBool tabOk rfl rfl rfl rfl | exact q_26 | exact q_20 | exact q_9 | exact q_2)) | refine O_c rfl rfl rfl rfl rfl hn1 (fun _ => rfl) ?_ | refine O_c rfl rfl rfl rfl rfl hn2 (fun _ => rfl) ?_ | refine O_nil ?_ | refine q_j ?_ | refine q_k ?_ | refine A_cf rfl ?_ | refine A_skip ?_)
          exact ⟨j + 1, by omega, by omega, Wk_sel ⟨rfl, rfl, rfl, rfl, rfl, rfl, trivial⟩ ⟨rfl, rfl, trivial⟩⟩
      obtain rfl : j = cs.length := by omega
      repeat (first | refine A_seq ?_ | refine A_block ?_ | refine R_list ?_ | ((first | apply O_y rfl rfl rfl | apply Q_y rfl rfl rfl); (first | exact q_A | exact q_5 | exact q_B | fail)) | refine O_nil ?_ | refine Q_nil ?_ | refine q_j ?_ | refine q_k ?_ | refine q_d ?_ | refine q_a ?_ | refine q_b ?_ | refine q_c ?_ | refine A_ct rfl ?_ | refine A_cf rfl ?_ | refine A_skip ?_ | refine A_exit ?_ | refine A_ret ?_ | refine q_l ?_ | refine q_m ?_ | refine q_n ?_ | refine q_h ?_ | refine q_o ?_ | refine q_e ?_ | refine q_f ?_ | refine q_g ?_ | fail)
      exact ⟨k + 1, by omega, by omega, Wk_sel ⟨rfl, rfl, rfl, trivial⟩ trivial⟩
  obtain rfl : k = pols.length := by omega
  repeat (first | refine A_seq ?_ | refine A_block ?_ | refine R_list ?_ | ((first | apply O_y rfl rfl rfl | apply Q_y rfl rfl rfl); (first | exact q_A | exact q_5 | exact q_B | fail)) | refine O_nil ?_ | refine Q_nil ?_ | refine q_j ?_ | refine q_k ?_ | refine q_d ?_ | refine q_a ?_ | refine q_b ?_ | refine q_c ?_ | refine A_ct rfl ?_ | refine A_cf rfl ?_ | refine A_skip ?_ | refine A_exit ?_ | refine A_ret ?_ | refine q_l ?_ | refine q_m ?_ | refine q_n ?_ | refine q_h ?_ | refine q_o ?_ | refine q_e ?_ | refine q_f ?_ | refine q_g ?_ | fail)
  refine A_loop (fun k : Nat => [(2, .iptr [sD nm, cD kd, .sl (vrfs.flatMap s1D) vrfs.length, .sl (ifs.flatMap ifxD) ifs.length, .sl (fils.flatMap filD) fils.length, .sl (rws.flatMap rwrD) rws.length, .sl (sts.flatMap staD) sts.length, .sl (pls.flatMap plstD) pls.length, .sl (cls.flatMap clstD) cls.length, .sl (pols.flatMap polD) pols.length, .sl (osp.flatMap ospD) osp.length, .sl (bgp.flatMap bgiD) bgp.length] 0), (3, .iptr [sD nm, cD kd, .sl (vrfs.flatMap s1D) vrfs.length, .sl (ifs.flatMap ifxD) ifs.length, .sl (fils.flatMap filD) fils.length, .sl (rws.flatMap rwrD) rws.length, .sl (sts.flatMap staD) sts.length, .sl (pls.flatMap plstD) pls.length, .sl (cls.flatMap clstD) cls.length, .sl (pols.flatMap polD) pols.length, .sl (osp.flatMap ospD) osp.length, .sl (bgp.flatMap bgiD) bgp.length] 0), (11, intA (k : Int))]) (fun _ => []) (fun k => k ≤ osp.length) (fun k => osp.length - k) 0 (Nat.zero_le _) (Wk_sel ⟨rfl, rfl, rfl, trivial⟩ trivial) ?_
  intro k hkl
  try dsimp only
  by_cases hk : k < osp.length
  · have hr : osp[k].fr.length * 40 ≤ 140737488351232 := q10 _ (List.getElem_mem hk)
    obtain ⟨b1, b2, b3, hbk⟩ : ∃ b1 b2 b3, osp[k] = ⟨b1, b2, b3⟩ := ⟨_, _, _, rfl⟩
    rw [hbk] at hr
    have hr : b3.length * 40 ≤ 140737488351232 := hr
    have hc := redistsSelf_A b3 (by omega)
    have hw0 : win (osp.flatMap ospD) (k * 3 + 0) 1 = [sD b1] := (win_flat ospD_len osp k 0 1 hk (by decide)).trans (by rw [hbk]; rfl)
    have hw1 : win (osp.flatMap ospD) (k * 3 + 1) 1 = [uD b2] := (win_flat ospD_len osp k 1 1 hk (by decide)).trans (by rw [hbk]; rfl)
    have hw2 : win (osp.flatMap ospD) (k * 3 + 2) 1 = [.sl (b3.flatMap rdsD) b3.length] := (win_flat ospD_len osp k 2 1 hk (by decide)).trans (by rw [hbk]; rfl)
    repeat (first | refine A_seq ?_ | refine A_block ?_ | refine R_list ?_ | refine R_quiet rfl mixed (by kernel_rfl) ?_ | ((first | apply O_y rfl rfl rfl | apply Q_y rfl rfl rfl); (first | exact q_A | exact R_loadi tabOk rfl rfl rfl rfl (by first | exact hw0 | exact hw1 | exact hw2 | rfl) rfl rfl | exact q_B | (first | exact R_index (j := k) tabOk rfl rfl rfl rfl rfl rfl hk | exact q_26 | first | exact R_neInt rfl rfl rfl | exact R_neStr rfl rfl rfl | exact R_neBool tabOk rfl rfl rfl rfl | exact R_neSelf tabOk noStand rfl rfl rfl rfl rfl rfl rfl (by kernel_rfl)))) | refine O_nil ?_ | refine Q_nil ?_ | refine q_j ?_ | refine q_k ?_ | refine q_d ?_ | refine q_a ?_ | refine q_b ?_ | refine q_c ?_ | refine A_ct rfl ?_ | refine A_cf rfl ?_ | refine A_skip ?_ | refine A_exit ?_ | refine A_ret ?_ | refine q_l ?_ | refine q_m ?_ | refine q_n ?_ | refine q_h ?_ | refine q_o ?_ | refine q_e ?_ | refine q_f ?_ | refine q_g ?_ | refine Q_c rfl rfl rfl rfl rfl hc rfl (fun _ _ _ => val_mk _ _ _ _ _ rfl rfl) ?_)
    exact ⟨k + 1, by omega, by omega, Wk_sel ⟨rfl, rfl, rfl, trivial⟩ trivial⟩
  obtain rfl : k = osp.length := by omega
  repeat (first | refine A_seq ?_ | refine A_block ?_ | refine R_list ?_ | refine R_quiet rfl mixed (by kernel_rfl) ?_ | ((first | apply O_y rfl rfl rfl | apply Q_y rfl rfl rfl); (first | exact q_A | exact q_5 | exact q_B | fail)) | refine O_nil ?_ | refine Q_nil ?_ | refine q_j ?_ | refine q_k ?_ | refine q_d ?_ | refine q_a ?_ | refine q_b ?_ | refine q_c ?_ | refine A_ct rfl ?_ | refine A_cf rfl ?_ | refine A_skip ?_ | refine A_exit ?_ | refine A_ret ?_ | refine q_l ?_ | refine q_m ?_ | refine q_n ?_ | refine q_h ?_ | refine q_o ?_ | refine q_e ?_ | refine q_f ?_ | refine q_g ?_ | fail)
  refine A_loop (fun k : Nat => [(2, .iptr [sD nm, cD kd, .sl (vrfs.flatMap s1D) vrfs.length, .sl (ifs.flatMap ifxD) ifs.length, .sl (fils.flatMap filD) fils.length, .sl (rws.flatMap rwrD) rws.length, .sl (sts.flatMap staD) sts.length, .sl (pls.flatMap plstD) pls.length, .sl (cls.flatMap clstD) cls.length, .sl (pols.flatMap polD) pols.length, .sl (osp.flatMap ospD) osp.length, .sl (bgp.flatMap bgiD) bgp.length] 0), (3, .iptr [sD nm, cD kd, .sl (vrfs.flatMap s1D) vrfs.length, .sl (ifs.flatMap ifxD) ifs.length, .sl (fils.flatMap filD) fils.length, .sl (rws.flatMap rwrD) rws.length, .sl (sts.flatMap staD) sts.length, .sl (pls.flatMap plstD) pls.length, .sl (cls.flatMap clstD) cls.length, .sl (pols.flatMap polD) pols.length, .sl (osp.flatMap ospD) osp.length, .sl (bgp.flatMap bgiD) bgp.length] 0), (12, intA (k : Int))]) (fun _ => []) (fun k => k ≤ bgp.length) (fun k => bgp.length - k) 0 (Nat.zero_le _) (Wk_sel ⟨rfl, rfl, rfl, trivial⟩ trivial) ?_
  intro k hkl
  try dsimp only
  by_cases hk : k < bgp.length
  · have g := q11 _ (List.getElem_mem hk)
    obtain ⟨b1, b2, b3, b4, b5, b6, hbk⟩ : ∃ b1 b2 b3 b4 b5 b6, bgp[k] = ⟨b1, b2, b3, b4, b5, b6⟩ := ⟨_, _, _, _, _, _, rfl⟩
    rw [hbk] at g
    have g1 : b4.length * 16 ≤ 140737488351232 := g.1
    have g2 : b5.length * 48 ≤ 140737488351232 := g.2.1
    have g3 : b6.length * 40 ≤ 140737488351232 := g.2.2
    have hc1 := pfxsSelf_A b4 (by omega)
    have hc2 := redistsSelf_A b6 (by omega)
    have hw0 : win (bgp.flatMap bgiD) (k * 6) 6 = [sD b1, uD b2, uD b3, .sl (b4.flatMap pfxD) b4.length, .sl (b5.flatMap perD) b5.length, .sl (b6.flatMap rdsD) b6.length] := (win_flat0 bgiD_len bgp k 6 hk (by decide)).trans (by rw [hbk]; rfl)
    repeat (first | refine A_seq ?_ | refine A_block ?_ | refine R_list ?_ | ((first | apply O_y rfl rfl rfl | apply Q_y rfl rfl rfl); (first | exact q_A | exact R_loadi tabOk rfl rfl rfl rfl (by first | exact hw0 | rfl) rfl rfl | exact q_B | (first | exact R_index (j := k) tabOk rfl rfl rfl rfl rfl rfl hk | first | exact R_neInt rfl rfl rfl | exact R_neStr rfl rfl rfl | exact R_neBool tabOk rfl rfl rfl rfl | exact R_neSelf tabOk noStand rfl rfl rfl rfl rfl rfl rfl (by kernel_rfl)))) | refine O_nil ?_ | refine Q_nil ?_ | refine q_j ?_ | refine q_k ?_ | refine q_d ?_ | refine q_a ?_ | refine q_b ?_ | refine q_c ?_ | refine A_ct rfl ?_ | refine A_cf rfl ?_ | refine A_skip ?_ | refine A_exit ?_ | refine A_ret ?_ | refine q_l ?_ | refine q_m ?_ | refine q_n ?_ | refine q_h ?_ | refine q_o ?_ | refine q_e ?_ | refine q_f ?_ | refine q_g ?_ | fail)
    refine N_begin [13, 14] mixed ?_
    apply q_P 0 rfl (by kernel_rfl) rfl rfl rfl
    exact q_4
    apply q_P 1 rfl (by kernel_rfl) rfl rfl rfl
    exact R_loadi tabOk rfl rfl rfl rfl (by first | exact hw0 | rfl) rfl rfl
    apply q_P 2 rfl (by kernel_rfl) rfl rfl rfl
    exact q_1
    apply q_P 3 rfl (by kernel_rfl) rfl rfl rfl
    exact R_index (j := k) tabOk rfl rfl rfl rfl rfl rfl hk
    apply q_P 4 rfl (by kernel_rfl) rfl rfl rfl
    exact R_loadi tabOk rfl rfl rfl rfl (by first | exact hw0 | rfl) rfl rfl
    apply q_P 5 rfl (by kernel_rfl) rfl rfl rfl
    exact q_4
    apply q_P 6 rfl (by kernel_rfl) rfl rfl rfl
    exact R_loadi tabOk rfl rfl rfl rfl (by first | exact hw0 | rfl) rfl rfl
    apply q_P 7 rfl (by kernel_rfl) rfl rfl rfl
    exact q_1
    apply q_P 8 rfl (by kernel_rfl) rfl rfl rfl
    exact R_index (j := k) tabOk rfl rfl rfl rfl rfl rfl hk
    apply q_P 9 rfl (by kernel_rfl) rfl rfl rfl
    exact R_loadi tabOk rfl rfl rfl rfl (by first | exact hw0 | rfl) rfl rfl
    refine N_two (j := 10) (k := 11) (by kernel_rfl) ?_ ?_
    · refine T_alloc tabOk rfl rfl rfl rfl rfl rfl rfl ?_
      refine N_one (j := 11) (by kernel_rfl) ?_
      refine T_alloc tabOk rfl rfl rfl rfl rfl rfl rfl ?_
      refine N_one (j := 12) (by kernel_rfl) ?_
      refine T_store tabOk rfl rfl rfl rfl rfl rfl rfl rfl rfl rfl rfl rfl rfl ?_
      refine N_one (j := 13) (by kernel_rfl) ?_
      refine T_store tabOk rfl rfl rfl rfl rfl rfl rfl rfl rfl rfl rfl rfl rfl ?_
      refine N_done (by kernel_rfl) ?_
      refine q_j ?_
      refine A_weaken (Wk_sel (e1 := [(2, .iptr [sD nm, cD kd, .sl (vrfs.flatMap s1D) vrfs.length, .sl (ifs.flatMap ifxD) ifs.length, .sl (fils.flatMap filD) fils.length, .sl (rws.flatMap rwrD) rws.length, .sl (sts.flatMap staD) sts.length, .sl (pls.flatMap plstD) pls.length, .sl (cls.flatMap clstD) cls.length, .sl (pols.flatMap polD) pols.length, .sl (osp.flatMap ospD) osp.length, .sl (bgp.flatMap bgiD) bgp.length] 0), (3, .iptr [sD nm, cD kd, .sl (vrfs.flatMap s1D) vrfs.length, .sl (ifs.flatMap ifxD) ifs.length, .sl (fils.flatMap filD) fils.length, .sl (rws.flatMap rwrD) rws.length, .sl (sts.flatMap staD) sts.length, .sl (pls.flatMap plstD) pls.length, .sl (cls.flatMap clstD) cls.length, .sl (pols.flatMap polD) pols.length, .sl (osp.flatMap ospD) osp.length, .sl (bgp.flatMap bgiD) bgp.length] 0), (12, intA (k : Int)), (13, .ptr 13 0), (14, .ptr 14 0)]) (h1 := [(13, .var [.d (sD b1), .d (uD b2), .d (uD b3), .d (.sl (b4.flatMap pfxD) b4.length), .d (.sl (b5.flatMap perD) b5.length), .d (.sl (b6.flatMap rdsD) b6.length)]), (14, .var [.d (sD b1), .d (uD b2), .d (uD b3), .d (.sl (b4.flatMap pfxD) b4.length), .d (.sl (b5.flatMap perD) b5.length), .d (.sl (b6.flatMap rdsD) b6.length)])]) ⟨rfl, rfl, rfl, rfl, rfl, trivial⟩ ⟨rfl, rfl, trivial⟩) ?_
      repeat (first | refine A_seq ?_ | refine A_block ?_ | refine R_list ?_ | ((first | apply O_y rfl rfl rfl | apply Q_y rfl rfl rfl); (first | exact q_A | exact q_5 | exact q_B | (first | exact q_26 | first | exact R_neInt rfl rfl rfl | exact R_neStr rfl rfl rfl | exact R_neBool tabOk rfl rfl rfl rfl | exact R_neSelf tabOk noStand rfl rfl rfl rfl rfl rfl rfl (by kernel_rfl)))) | refine O_nil ?_ | refine Q_nil ?_ | refine q_j ?_ | refine q_k ?_ | refine q_d ?_ | refine q_a ?_ | refine q_b ?_ | refine q_c ?_ | refine A_ct rfl ?_ | refine A_cf rfl ?_ | refine A_skip ?_ | refine A_exit ?_ | refine A_ret ?_ | refine q_l ?_ | refine q_m ?_ | refine q_n ?_ | refine q_h ?_ | refine q_o ?_ | refine q_e ?_ | refine q_f ?_ | refine q_g ?_ | (first | refine O_c rfl rfl rfl rfl rfl hc1 (fun _ => rfl) ?_ | refine O_c rfl rfl rfl rfl rfl hc2 (fun _ => rfl) ?_))
      refine A_loop (fun j : Nat => [(2, .iptr [sD nm, cD kd, .sl (vrfs.flatMap s1D) vrfs.length, .sl (ifs.flatMap ifxD) ifs.length, .sl (fils.flatMap filD) fils.length, .sl (rws.flatMap rwrD) rws.length, .sl (sts.flatMap staD) sts.length, .sl (pls.flatMap plstD) pls.length, .sl (cls.flatMap clstD) cls.length, .sl (pols.flatMap polD) pols.length, .sl (osp.flatMap ospD) osp.length, .sl (bgp.flatMap bgiD) bgp.length] 0), (3, .iptr [sD nm, cD kd, .sl (vrfs.flatMap s1D) vrfs.length, .sl (ifs.flatMap ifxD) ifs.length, .sl (fils.flatMap filD) fils.length, .sl (rws.flatMap rwrD) rws.length, .sl (sts.flatMap staD) sts.length, .sl (pls.flatMap plstD) pls.length, .sl (cls.flatMap clstD) cls.length, .sl (pols.flatMap polD) pols.length, .sl (osp.flatMap ospD) osp.length, .sl (bgp.flatMap bgiD) bgp.length] 0), (12, intA (k : Int)), (13, .ptr 13 0), (14, .ptr 14 0), (15, intA (j : Int))]) (fun _ => [(13, .var [.d (sD b1), .d (uD b2), .d (uD b3), .d (.sl (b4.flatMap pfxD) b4.length), .d (.sl (b5.flatMap perD) b5.length), .d (.sl (b6.flatMap rdsD) b6.length)]), (14, .var [.d (sD b1), .d (uD b2), .d (uD b3), .d (.sl (b4.flatMap pfxD) b4.length), .d (.sl (b5.flatMap perD) b5.length), .d (.sl (b6.flatMap rdsD) b6.length)])]) (fun j => j ≤ b5.length) (fun j => b5.length - j) 0 (Nat.zero_le _) (Wk_sel ⟨rfl, rfl, rfl, rfl, rfl, rfl, trivial⟩ ⟨rfl, rfl, trivial⟩) ?_
      intro j hjl
      try dsimp only
      by_cases hj : j < b5.length
      ·
        repeat (first | refine A_seq ?_ | refine A_block ?_ | refine R_list ?_ | refine R_quiet rfl mixed (by kernel_rfl) ?_ | ((first | apply O_y rfl rfl rfl | apply Q_y rfl rfl rfl); (first | exact q_A | exact R_loadi tabOk rfl rfl rfl rfl (by first | exact win_flat0 perD_len b5 j _ hj (by decide) | exact win_flat perD_len b5 j _ _ hj (by decide) | exact win_flat2 perD_len b5 j _ _ _ hj (by decide) | rfl) rfl rfl | exact q_B | (first | exact R_index (j := j) tabOk rfl rfl rfl rfl rfl rfl hj | first | exact R_neInt rfl rfl rfl | exact R_neStr rfl rfl rfl | exact R_neBool tabOk rfl rfl rfl rfl | exact R_neSelf tabOk noStand rfl rfl rfl rfl rfl rfl rfl (by kernel_rfl)))) | refine O_nil ?_ | refine Q_nil ?_ | refine q_j ?_ | refine q_k ?_ | refine q_d ?_ | refine q_a ?_ | refine q_b ?_ | refine q_c ?_ | refine A_ct rfl ?_ | refine A_cf rfl ?_ | refine A_skip ?_ | refine A_exit ?_ | refine A_ret ?_ | refine q_l ?_ | refine q_m ?_ | refine q_n ?_ | refine q_h ?_ | refine q_o ?_ | refine q_e ?_ | refine q_f ?_ | refine q_g ?_ | fail)
        exact ⟨j + 1, by omega, by omega, Wk_sel ⟨rfl, rfl, rfl, rfl, rfl, rfl, trivial⟩ ⟨rfl, rfl, trivial⟩⟩
      obtain rfl : j = b5.length := by omega
      repeat (first | refine A_seq ?_ | refine A_block ?_ | refine R_list ?_ | refine R_quiet rfl mixed (by kernel_rfl) ?_ | ((first | apply O_y rfl rfl rfl | apply Q_y rfl rfl rfl); (first | exact q_A | exact q_5 | exact q_B | fail)) | refine O_nil ?_ | refine Q_nil ?_ | refine q_j ?_ | refine q_k ?_ | refine q_d ?_ | refine q_a ?_ | refine q_b ?_ | refine q_c ?_ | refine A_ct rfl ?_ | refine A_cf rfl ?_ | refine A_skip ?_ | refine A_exit ?_ | refine A_ret ?_ | refine q_l ?_ | refine q_m ?_ | refine q_n ?_ | refine q_h ?_ | refine q_o ?_ | refine q_e ?_ | refine q_f ?_ | refine q_g ?_ | fail)
      exact ⟨k + 1, by omega, by omega, Wk_sel ⟨rfl, rfl, rfl, trivial⟩ trivial⟩
    · refine T_alloc tabOk rfl rfl rfl rfl rfl rfl rfl ?_
      refine N_one (j := 10) (by kernel_rfl) ?_
      refine T_alloc tabOk rfl rfl rfl rfl rfl rfl rfl ?_
      refine N_one (j := 12) (by kernel_rfl) ?_
      refine T_store tabOk rfl rfl rfl rfl rfl rfl rfl rfl rfl rfl rfl rfl rfl ?_
      refine N_one (j := 13) (by kernel_rfl) ?_
      refine T_store tabOk rfl rfl rfl rfl rfl rfl rfl rfl rfl rfl rfl rfl rfl ?_
      refine N_done (by kernel_rfl) ?_
      refine q_j ?_
      refine A_weaken (Wk_sel (e1 := [(2, .iptr [sD nm, cD kd, .sl (vrfs.flatMap s1D) vrfs.length, .sl (ifs.flatMap ifxD) ifs.length, .sl (fils.flatMap filD) fils.length, .sl (rws.flatMap rwrD) rws.length, .sl (sts.flatMap staD) sts.length, .sl (pls.flatMap plstD) pls.length, .sl (cls.flatMap clstD) cls.length, .sl (pols.flatMap polD) pols.length, .sl (osp.flatMap ospD) osp.length, .sl (bgp.flatMap bgiD) bgp.length] 0), (3, .iptr [sD nm, cD kd, .sl (vrfs.flatMap s1D) vrfs.length, .sl (ifs.flatMap ifxD) ifs.length, .sl (fils.flatMap filD) fils.length, .sl (rws.flatMap rwrD) rws.length, .sl (sts.flatMap staD) sts.length, .sl (pls.flatMap plstD) pls.length, .sl (cls.flatMap clstD) cls.length, .sl (pols.flatMap polD) pols.length, .sl (osp.flatMap ospD) osp.length, .sl (bgp.flatMap bgiD) bgp.length] 0), (12, intA (k : Int)), (13, .ptr 13 0), (14, .ptr 14 0)]) (h1 := [(13, .var [.d (sD b1), .d (uD b2), .d (uD b3), .d (.sl (b4.flatMap pfxD) b4.length), .d (.sl (b5.flatMap perD) b5.length), .d (.sl (b6.flatMap rdsD) b6.length)]), (14, .var [.d (sD b1), .d (uD b2), .d (uD b3), .d (.sl (b4.flatMap pfxD) b4.length), .d (.sl (b5.flatMap perD) b5.length), .d (.sl (b6.flatMap rdsD) b6.length)])]) ⟨rfl, rfl, rfl, rfl, rfl, trivial⟩ ⟨rfl, rfl, trivial⟩) ?_
      repeat (first | refine A_seq ?_ | refine A_block ?_ | refine R_list ?_ | ((first | apply O_y rfl rfl rfl | apply Q_y rfl rfl rfl); (first | exact q_A | exact q_5 | exact q_B | (first | exact q_26 | first | exact R_neInt rfl rfl rfl | exact R_neStr rfl rfl rfl | exact R_neBool tabOk rfl rfl rfl rfl | exact R_neSelf tabOk noStand rfl rfl rfl rfl rfl rfl rfl (by kernel_rfl)))) | refine O_nil ?_ | refine Q_nil ?_ | refine q_j ?_ | refine q_k ?_ | refine q_d ?_ | refine q_a ?_ | refine q_b ?_ | refine q_c ?_ | refine A_ct rfl ?_ | refine A_cf rfl ?_ | refine A_skip ?_ | refine A_exit ?_ | refine A_ret ?_ | refine q_l ?_ | refine q_m ?_ | refine q_n ?_ | refine q_h ?_ | refine q_o ?_ | refine q_e ?_ | refine q_f ?_ | refine q_g ?_ | (first | refine O_c rfl rfl rfl rfl rfl hc1 (fun _ => rfl) ?_ | refine O_c rfl rfl rfl rfl rfl hc2 (fun _ => rfl) ?_))
      refine A_loop (fun j : Nat => [(2, .iptr [sD nm, cD kd, .sl (vrfs.flatMap s1D) vrfs.length, .sl (ifs.flatMap ifxD) ifs.length, .sl (fils.flatMap filD) fils.length, .sl (rws.flatMap rwrD) rws.length, .sl (sts.flatMap staD) sts.length, .sl (pls.flatMap plstD) pls.length, .sl (cls.flatMap clstD) cls.length, .sl (pols.flatMap polD) pols.length, .sl (osp.flatMap ospD) osp.length, .sl (bgp.flatMap bgiD) bgp.length] 0), (3, .iptr [sD nm, cD kd, .sl (vrfs.flatMap s1D) vrfs.length, .sl (ifs.flatMap ifxD) ifs.length, .sl (fils.flatMap filD) fils.length, .sl (rws.flatMap rwrD) rws.length, .sl (sts.flatMap staD) sts.length, .sl (pls.flatMap plstD) pls.length, .sl (cls.flatMap clstD) cls.length, .sl (pols.flatMap polD) pols.length, .sl (osp.flatMap ospD) osp.length, .sl (bgp.flatMap bgiD) bgp.length] 0), (12, intA (k : Int)), (13, .ptr 13 0), (14, .ptr 14 0), (15, intA (j : Int))]) (fun _ => [(13, .var [.d (sD b1), .d (uD b2), .d (uD b3), .d (.sl (b4.flatMap pfxD) b4.length), .d (.sl (b5.flatMap perD) b5.length), .d (.sl (b6.flatMap rdsD) b6.length)]), (14, .var [.d (sD b1), .d (uD b2), .d (uD b3), .d (.sl (b4.flatMap pfxD) b4.length), .d (.sl (b5.flatMap perD) b5.length), .d (.sl (b6.flatMap rdsD) b6.length)])]) (fun j => j ≤ b5.length) (fun j => b5.length - j) 0 (Nat.zero_le _) (Wk_sel ⟨rfl, rfl, rfl, rfl, rfl, rfl, trivial⟩ ⟨rfl, rfl, trivial⟩) ?_
      intro j hjl
      try dsimp only
      by_cases hj : j < b5.length
      ·
        repeat (first | refine A_seq ?_ | refine A_block ?_ | refine R_list ?_ | refine R_quiet rfl mixed (by kernel_rfl) ?_ | ((first | apply O_y rfl rfl rfl | apply Q_y rfl rfl rfl); (first | exact q_A | exact R_loadi tabOk rfl rfl rfl rfl (by first | exact win_flat0 perD_len b5 j _ hj (by decide) | exact win_flat perD_len b5 j _ _ hj (by decide) | exact win_flat2 perD_len b5 j _ _ _ hj (by decide) | rfl) rfl rfl | exact q_B | (first | exact R_index (j := j) tabOk rfl rfl rfl rfl rfl rfl hj | first | exact R_neInt rfl rfl rfl | exact R_neStr rfl rfl rfl | exact R_neBool tabOk rfl rfl rfl rfl | exact R_neSelf tabOk noStand rfl rfl rfl rfl rfl rfl rfl (by kernel_rfl)))) | refine O_nil ?_ | refine Q_nil ?_ | refine q_j ?_ | refine q_k ?_ | refine q_d ?_ | refine q_a ?_ | refine q_b ?_ | refine q_c ?_ | refine A_ct rfl ?_ | refine A_cf rfl ?_ | refine A_skip ?_ | refine A_exit ?_ | refine A_ret ?_ | refine q_l ?_ | refine q_m ?_ | refine q_n ?_ | refine q_h ?_ | refine q_o ?_ | refine q_e ?_ | refine q_f ?_ | refine q_g ?_ | fail)
        exact ⟨j + 1, by omega, by omega, Wk_sel ⟨rfl, rfl, rfl, rfl, rfl, rfl, trivial⟩ ⟨rfl, rfl, trivial⟩⟩
      obtain rfl : j = b5.length := by omega
      repeat (first | refine A_seq ?_ | refine A_block ?_ | refine R_list ?_ | refine R_quiet rfl mixed (by kernel_rfl) ?_ | ((first | apply O_y rfl rfl rfl | apply Q_y rfl rfl rfl); (first | exact q_A | exact q_5 | exact q_B | fail)) | refine O_nil ?_ | refine Q_nil ?_ | refine q_j ?_ | refine q_k ?_ | refine q_d ?_ | refine q_a ?_ | refine q_b ?_ | refine q_c ?_ | refine A_ct rfl ?_ | refine A_cf rfl ?_ | refine A_skip ?_ | refine A_exit ?_ | refine A_ret ?_ | refine q_l ?_ | refine q_m ?_ | refine q_n ?_ | refine q_h ?_ | refine q_o ?_ | refine q_e ?_ | refine q_f ?_ | refine q_g ?_ | fail)
      exact ⟨k + 1, by omega, by omega, Wk_sel ⟨rfl, rfl, rfl, trivial⟩ trivial⟩
  obtain rfl : k = bgp.length := by omega
  repeat (first | refine A_seq ?_ | refine A_block ?_ | refine R_list ?_ | refine R_quiet rfl mixed (by kernel_rfl) ?_ | ((first | apply O_y rfl rfl rfl | apply Q_y rfl rfl rfl); (first | exact q_A | exact q_5 | exact q_B | fail)) | refine O_nil ?_ | refine Q_nil ?_ | refine q_j ?_ | refine q_k ?_ | refine q_d ?_ | refine q_a ?_ | refine q_b ?_ | refine q_c ?_ | refine A_ct rfl ?_ | refine A_cf rfl ?_ | refine A_skip ?_ | refine A_exit ?_ | refine A_ret ?_ | refine q_l ?_ | refine q_m ?_ | refine q_n ?_ | refine q_h ?_ | refine q_o ?_ | refine q_e ?_ | refine q_f ?_ | refine q_g ?_ | fail)
  exact X_ret rfl ⟨rfl, rfl⟩
set_option maxHeartbeats 16000000 in
theorem equalD_A (d : Dvc) (hd : d.ok) : ACall Try.prog 19 [dvcA d, dvcA d] [] (Just (boolA true)) := by
  have hb2 : d.vrfs.length ≤ 140737488355328 := by have : d.vrfs.length * 16 ≤ 140737488351232 := hd.b2; omega
  have hb3 : d.ifs.length ≤ 140737488355328 := by have : d.ifs.length * 120 ≤ 140737488351232 := hd.b3; omega
  have hb4 : d.fils.length ≤ 140737488355328 := by have : d.fils.length * 40 ≤ 140737488351232 := hd.b4; omega
  have hb5 : d.rws.length ≤ 140737488355328 := by have : d.rws.length * 32 ≤ 140737488351232 := hd.b5; omega
  have hb6 : d.sts.length ≤ 140737488355328 := by have : d.sts.length * 56 ≤ 140737488351232 := hd.b6; omega
  have hb7 : d.pls.length ≤ 140737488355328 := by have : d.pls.length * 40 ≤ 140737488351232 := hd.b7; omega
  have hb8 : d.cls.length ≤ 140737488355328 := by have : d.cls.length * 40 ≤ 140737488351232 := hd.b8; omega
  have hb9 : d.pols.length ≤ 140737488355328 := by have : d.pols.length * 48 ≤ 140737488351232 := hd.b9; omega
  have hb10 : d.osp.length ≤ 140737488355328 := by have : d.osp.length * 48 ≤ 140737488351232 := hd.b10; omega
  have hb11 : d.bgp.length ≤ 140737488355328 := by have : d.bgp.length * 96 ≤ 140737488351232 := hd.b11; omega
  have q4 := hd.fils
  have q7 := hd.pls
  have q8 := hd.cls
  have q9 := hd.pols
  have q10 := hd.osp
  have q11 := hd.bgp
  have heq := equal_A d hd
  clear hd
  obtain ⟨nm, kd, vrfs, ifs, fils, rws, sts, pls, cls, pols, osp, bgp⟩ := d
  dsimp only at hb2 hb3 hb4 hb5 hb6 hb7 hb8 hb9 hb10 hb11 q4 q7 q8 q9 q10 q11
  refine ACall_of tabOk Try.func19 rfl Try.ntmps19 (congrArg Array.toList Try.results19) (by kernel_rfl) rfl ?_
  refine A_seq ?_
  refine R_list ?_
  refine q_d ?_
  refine O_weaken (Wk_freezeV (id := 2) (ds := [sD nm, cD kd, .sl (vrfs.flatMap s1D) vrfs.length, .sl (ifs.flatMap ifxD) ifs.length, .sl (fils.flatMap filD) fils.length, .sl (rws.flatMap rwrD) rws.length, .sl (sts.flatMap staD) sts.length, .sl (pls.flatMap plstD) pls.length, .sl (cls.flatMap clstD) cls.length, .sl (pols.flatMap polD) pols.length, .sl (osp.flatMap ospD) osp.length, .sl (bgp.flatMap bgiD) bgp.length]) rfl rfl) ?_
  refine q_d ?_
  refine O_weaken (Wk_freezeV (id := 3) (ds := [sD nm, cD kd, .sl (vrfs.flatMap s1D) vrfs.length, .sl (ifs.flatMap ifxD) ifs.length, .sl (fils.flatMap filD) fils.length, .sl (rws.flatMap rwrD) rws.length, .sl (sts.flatMap staD) sts.length, .sl (pls.flatMap plstD) pls.length, .sl (cls.flatMap clstD) cls.length, .sl (pols.flatMap polD) pols.length, .sl (osp.flatMap ospD) osp.length, .sl (bgp.flatMap bgiD) bgp.length]) rfl rfl) ?_
  repeat (first | refine A_seq ?_ | refine A_block ?_ | refine R_list ?_ | refine R_quiet rfl mixed (by kernel_rfl) ?_ | ((first | apply O_y rfl rfl rfl | apply Q_y rfl rfl rfl); (first | exact q_A | exact q_5 | exact q_B | (first | exact q_26 | first | exact R_neInt rfl rfl rfl | exact R_neStr rfl rfl rfl | exact R_neBool tabOk rfl rfl rfl rfl | exact R_neSelf tabOk noStand rfl rfl rfl rfl rfl rfl rfl (by kernel_rfl)))) | refine O_nil ?_ | refine Q_nil ?_ | refine q_j ?_ | refine q_k ?_ | refine q_d ?_ | refine q_a ?_ | refine q_b ?_ | refine q_c ?_ | refine A_ct rfl ?_ | refine A_cf rfl ?_ | refine A_skip ?_ | refine A_exit ?_ | refine A_ret ?_ | refine q_l ?_ | refine q_m ?_ | refine q_n ?_ | refine q_h ?_ | refine q_o ?_ | refine q_e ?_ | refine q_f ?_ | refine q_g ?_ | fail)
  refine A_loop (fun k : Nat => [(2, .iptr [sD nm, cD kd, .sl (vrfs.flatMap s1D) vrfs.length, .sl (ifs.flatMap ifxD) ifs.length, .sl (fils.flatMap filD) fils.length, .sl (rws.flatMap rwrD) rws.length, .sl (sts.flatMap staD) sts.length, .sl (pls.flatMap plstD) pls.length, .sl (cls.flatMap clstD) cls.length, .sl (pols.flatMap polD) pols.length, .sl (osp.flatMap ospD) osp.length, .sl (bgp.flatMap bgiD) bgp.length] 0), (3, .iptr [sD nm, cD kd, .sl (vrfs.flatMap s1D) vrfs.length, .sl (ifs.flatMap ifxD) ifs.length, .sl (fils.flatMap filD) fils.length, .sl (rws.flatMap rwrD) rws.length, .sl (sts.flatMap staD) sts.length, .sl (pls.flatMap plstD) pls.length, .sl (cls.flatMap clstD) cls.length, .sl (pols.flatMap polD) pols.length, .sl (osp.flatMap ospD) osp.length, .sl (bgp.flatMap bgiD) bgp.length] 0), (5, intA (k : Int))]) (fun _ => []) (fun k => k ≤ vrfs.length) (fun k => vrfs.length - k) 0 (Nat.zero_le _) (Wk_sel ⟨rfl, rfl, rfl, trivial⟩ trivial) ?_
  intro k hkl
  try dsimp only
  by_cases hk : k < vrfs.length
  ·
    repeat (first | refine A_seq ?_ | refine A_block ?_ | refine R_list ?_ | refine R_quiet rfl mixed (by kernel_rfl) ?_ | ((first | apply O_y rfl rfl rfl | apply Q_y rfl rfl rfl); (first | exact q_A | exact R_loadi tabOk rfl rfl rfl rfl (by first | exact win_flat0 s1D_len vrfs k _ hk (by decide) | exact win_flat s1D_len vrfs k _ _ hk (by decide) | exact win_flat2 s1D_len vrfs k _ _ _ hk (by decide) | rfl) rfl rfl | exact q_B | (first | exact R_index (j := k) tabOk rfl rfl rfl rfl rfl rfl hk | first | exact R_neInt rfl rfl rfl | exact R_neStr rfl rfl rfl | exact R_neBool tabOk rfl rfl rfl rfl | exact R_neSelf tabOk noStand rfl rfl rfl rfl rfl rfl rfl (by kernel_rfl)))) | refine O_nil ?_ | refine Q_nil ?_ | refine q_j ?_ | refine q_k ?_ | refine q_d ?_ | refine q_a ?_ | refine q_b ?_ | refine q_c ?_ | refine A_ct rfl ?_ | refine A_cf rfl ?_ | refine A_skip ?_ | refine A_exit ?_ | refine A_ret ?_ | refine q_l ?_ | refine q_m ?_ | refine q_n ?_ | refine q_h ?_ | refine q_o ?_ | refine q_e ?_ | refine q_f ?_ | refine q_g ?_ | fail)
    exact ⟨k + 1, by omega, by omega, Wk_sel ⟨rfl, rfl, rfl, trivial⟩ trivial⟩
  obtain rfl : k = vrfs.length := by omega
  repeat (first | refine A_seq ?_ | refine A_block ?_ | refine R_list ?_ | refine R_quiet rfl mixed (by kernel_rfl) ?_ | ((first | apply O_y rfl rfl rfl | apply Q_y rfl rfl rfl); (first | exact q_A | exact q_5 | exact q_B | (first | exact q_26 | first | exact R_neInt rfl rfl rfl | exact R_neStr rfl rfl rfl | exact R_neBool tabOk rfl rfl rfl rfl | exact R_neSelf tabOk noStand rfl rfl rfl rfl rfl rfl rfl (by kernel_rfl)))) | refine O_nil ?_ | refine Q_nil ?_ | refine q_j ?_ | refine q_k ?_ | refine q_d ?_ | refine q_a ?_ | refine q_b ?_ | refine q_c ?_ | refine A_ct rfl ?_ | refine A_cf rfl ?_ | refine A_skip ?_ | refine A_exit ?_ | refine A_ret ?_ | refine q_l ?_ | refine q_m ?_ | refine q_n ?_ | refine q_h ?_ | refine q_o ?_ | refine q_e ?_ | refine q_f ?_ | refine q_g ?_ | fail)
  refine A_loop (fun k : Nat => [(2, .iptr [sD nm, cD kd, .sl (vrfs.flatMap s1D) vrfs.length, .sl (ifs.flatMap ifxD) ifs.length, .sl (fils.flatMap filD) fils.length, .sl (rws.flatMap rwrD) rws.length, .sl (sts.flatMap staD) sts.length, .sl (pls.flatMap plstD) pls.length, .sl (cls.flatMap clstD) cls.length, .sl (pols.flatMap polD) pols.length, .sl (osp.flatMap ospD) osp.length, .sl (bgp.flatMap bgiD) bgp.length] 0), (3, .iptr [sD nm, cD kd, .sl (vrfs.flatMap s1D) vrfs.length, .sl (ifs.flatMap ifxD) ifs.length, .sl (fils.flatMap filD) fils.length, .sl (rws.flatMap rwrD) rws.length, .sl (sts.flatMap staD) sts.length, .sl (pls.flatMap plstD) pls.length, .sl (cls.flatMap clstD) cls.length, .sl (pols.flatMap polD) pols.length, .sl (osp.flatMap ospD) osp.length, .sl (bgp.flatMap bgiD) bgp.length] 0), (6, intA (k : Int))]) (fun _ => []) (fun k => k ≤ ifs.length) (fun k => ifs.length - k) 0 (Nat.zero_le _) (Wk_sel ⟨rfl, rfl, rfl, trivial⟩ trivial) ?_
  intro k hkl
  try dsimp only
  by_cases hk : k < ifs.length
  ·
    repeat (first | refine A_seq ?_ | refine A_block ?_ | refine R_list ?_ | refine R_quiet rfl mixed (by kernel_rfl) ?_ | ((first | apply O_y rfl rfl rfl | apply Q_y rfl rfl rfl); (first | exact q_A | exact R_loadi tabOk rfl rfl rfl rfl (by first | exact win_flat0 ifxD_len ifs k _ hk (by decide) | exact win_flat ifxD_len ifs k _ _ hk (by decide) | exact win_flat2 ifxD_len ifs k _ _ _ hk (by decide) | rfl) rfl rfl | exact q_B | (first | exact R_index (j := k) tabOk rfl rfl rfl rfl rfl rfl hk | first | exact R_neInt rfl rfl rfl | exact R_neStr rfl rfl rfl | exact R_neBool tabOk rfl rfl rfl rfl | exact R_neSelf tabOk noStand rfl rfl rfl rfl rfl rfl rfl (by kernel_rfl)))) | refine O_nil ?_ | refine Q_nil ?_ | refine q_j ?_ | refine q_k ?_ | refine q_d ?_ | refine q_a ?_ | refine q_b ?_ | refine q_c ?_ | refine A_ct rfl ?_ | refine A_cf rfl ?_ | refine A_skip ?_ | refine A_exit ?_ | refine A_ret ?_ | refine q_l ?_ | refine q_m ?_ | refine q_n ?_ | refine q_h ?_ | refine q_o ?_ | refine q_e ?_ | refine q_f ?_ | refine q_g ?_ | fail)
    exact ⟨k + 1, by omega, by omega, Wk_sel ⟨rfl, rfl, rfl, trivial⟩ trivial⟩
  obtain rfl : k = ifs.length := by omega
  repeat (first | refine A_seq ?_ | refine A_block ?_ | refine R_list ?_ | refine R_quiet rfl mixed (by kernel_rfl) ?_ | ((first | apply O_y rfl rfl rfl | apply Q_y rfl rfl rfl); (first | exact q_A | exact q_5 | exact q_B | (first | exact q_26 | first | exact R_neInt rfl rfl rfl | exact R_neStr rfl rfl rfl | exact R_neBool tabOk rfl rfl rfl rfl | exact R_neSelf tabOk noStand rfl rfl rfl rfl rfl rfl rfl (by kernel_rfl)))) | refine O_nil ?_ | refine Q_nil ?_ | refine q_j ?_ | refine q_k ?_ | refine q_d ?_ | refine q_a ?_ | refine q_b ?_ | refine q_c ?_ | refine A_ct rfl ?_ | refine A_cf rfl ?_ | refine A_skip ?_ | refine A_exit ?_ | refine A_ret ?_ | refine q_l ?_ | refine q_m ?_ | refine q_n ?_ | refine q_h ?_ | refine q_o ?_ | refine q_e ?_ | refine q_f ?_ | refine q_g ?_ | fail)
  refine A_loop (fun k : Nat => [(2, .iptr [sD nm, cD kd, .sl (vrfs.flatMap s1D) vrfs.length, .sl (ifs.flatMap ifxD) ifs.length, .sl (fils.flatMap filD) fils.length, .sl (rws.flatMap rwrD) rws.length, .sl (sts.flatMap staD) sts.length, .sl (pls.flatMap plstD) pls.length, .sl (cls.flatMap clstD) cls.length, .sl (pols.flatMap polD) pols.length, .sl (osp.flatMap ospD) osp.length, .sl (bgp.flatMap bgiD) bgp.length] 0), (3, .iptr [sD nm, cD kd, .sl (vrfs.flatMap s1D) vrfs.length, .sl (ifs.flatMap ifxD) ifs.length, .sl (fils.flatMap filD) fils.length, .sl (rws.flatMap rwrD) rws.length, .sl (sts.flatMap staD) sts.length, .sl (pls.flatMap plstD) pls.length, .sl (cls.flatMap clstD) cls.length, .sl (pols.flatMap polD) pols.length, .sl (osp.flatMap ospD) osp.length, .sl (bgp.flatMap bgiD) bgp.length] 0), (7, intA (k : Int))]) (fun _ => []) (fun k => k ≤ fils.length) (fun k => fils.length - k) 0 (Nat.zero_le _) (Wk_sel ⟨rfl, rfl, rfl, trivial⟩ trivial) ?_
  intro k hkl
  try dsimp only
  by_cases hk : k < fils.length
  · have hr : fils[k].rs.length * 64 ≤ 140737488351232 := q4 _ (List.getElem_mem hk)
    obtain ⟨b1, b2, hbk⟩ : ∃ b1 b2, fils[k] = ⟨b1, b2⟩ := ⟨_, _, rfl⟩
    rw [hbk] at hr
    have hr : b2.length * 64 ≤ 140737488351232 := hr
    have hc := rulesSelf_A b2 (by omega)
    have hw0 : win (fils.flatMap filD) (k * 2 + 0) 1 = [sD b1] := (win_flat filD_len fils k 0 1 hk (by decide)).trans (by rw [hbk]; rfl)
    have hw1 : win (fils.flatMap filD) (k * 2 + 1) 1 = [.sl (b2.flatMap rulD) b2.length] := (win_flat filD_len fils k 1 1 hk (by decide)).trans (by rw [hbk]; rfl)
    repeat (first | refine A_seq ?_ | refine A_block ?_ | refine R_list ?_ | refine R_quiet rfl mixed (by kernel_rfl) ?_ | ((first | apply O_y rfl rfl rfl | apply Q_y rfl rfl rfl); (first | exact q_A | exact R_loadi tabOk rfl rfl rfl rfl (by first | exact hw0 | exact hw1 | rfl) rfl rfl | exact q_B | (first | exact R_index (j := k) tabOk rfl rfl rfl rfl rfl rfl hk | exact q_26 | first | exact R_neInt rfl rfl rfl | exact R_neStr rfl rfl rfl | exact R_neBool tabOk rfl rfl rfl rfl | exact R_neSelf tabOk noStand rfl rfl rfl rfl rfl rfl rfl (by kernel_rfl)))) | refine O_nil ?_ | refine Q_nil ?_ | refine q_j ?_ | refine q_k ?_ | refine q_d ?_ | refine q_a ?_ | refine q_b ?_ | refine q_c ?_ | refine A_ct rfl ?_ | refine A_cf rfl ?_ | refine A_skip ?_ | refine A_exit ?_ | refine A_ret ?_ | refine q_l ?_ | refine q_m ?_ | refine q_n ?_ | refine q_h ?_ | refine q_o ?_ | refine q_e ?_ | refine q_f ?_ | refine q_g ?_ | refine Q_c rfl rfl rfl rfl rfl hc rfl (fun _ _ _ => val_mk _ _ _ _ _ rfl rfl) ?_)
    exact ⟨k + 1, by omega, by omega, Wk_sel ⟨rfl, rfl, rfl, trivial⟩ trivial⟩
  obtain rfl : k = fils.length := by omega
  repeat (first | refine A_seq ?_ | refine A_block ?_ | refine R_list ?_ | refine R_quiet rfl mixed (by kernel_rfl) ?_ | ((first | apply O_y rfl rfl rfl | apply Q_y rfl rfl rfl); (first | exact q_A | exact q_5 | exact q_B | fail)) | refine O_nil ?_ | refine Q_nil ?_ | refine q_j ?_ | refine q_k ?_ | refine q_d ?_ | refine q_a ?_ | refine q_b ?_ | refine q_c ?_ | refine A_ct rfl ?_ | refine A_cf rfl ?_ | refine A_skip ?_ | refine A_exit ?_ | refine A_ret ?_ | refine q_l ?_ | refine q_m ?_ | refine q_n ?_ | refine q_h ?_ | refine q_o ?_ | refine q_e ?_ | refine q_f ?_ | refine q_g ?_ | fail)
  refine A_loop (fun k : Nat => [(2, .iptr [sD nm, cD kd, .sl (vrfs.flatMap s1D) vrfs.length, .sl (ifs.flatMap ifxD) ifs.length, .sl (fils.flatMap filD) fils.length, .sl (rws.flatMap rwrD) rws.length, .sl (sts.flatMap staD) sts.length, .sl (pls.flatMap plstD) pls.length, .sl (cls.flatMap clstD) cls.length, .sl (pols.flatMap polD) pols.length, .sl (osp.flatMap ospD) osp.length, .sl (bgp.flatMap bgiD) bgp.length] 0), (3, .iptr [sD nm, cD kd, .sl (vrfs.flatMap s1D) vrfs.length, .sl (ifs.flatMap ifxD) ifs.length, .sl (fils.flatMap filD) fils.length, .sl (rws.flatMap rwrD) rws.length, .sl (sts.flatMap staD) sts.length, .sl (pls.flatMap plstD) pls.length, .sl (cls.flatMap clstD) cls.length, .sl (pols.flatMap polD) pols.length, .sl (osp.flatMap ospD) osp.length, .sl (bgp.flatMap bgiD) bgp.length] 0), (8, intA (k : Int))]) (fun _ => []) (fun k => k ≤ rws.length) (fun k => rws.length - k) 0 (Nat.zero_le _) (Wk_sel ⟨rfl, rfl, rfl, trivial⟩ trivial) ?_
  intro k hkl
  try dsimp only
  by_cases hk : k < rws.length
  ·
    repeat (first | refine A_seq ?_ | refine A_block ?_ | refine R_list ?_ | refine R_quiet rfl mixed (by kernel_rfl) ?_ | ((first | apply O_y rfl rfl rfl | apply Q_y rfl rfl rfl); (first | exact q_A | exact R_loadi tabOk rfl rfl rfl rfl (by first | exact win_flat0 rwrD_len rws k _ hk (by decide) | exact win_flat rwrD_len rws k _ _ hk (by decide) | exact win_flat2 rwrD_len rws k _ _ _ hk (by decide) | rfl) rfl rfl | exact q_B | (first | exact R_index (j := k) tabOk rfl rfl rfl rfl rfl rfl hk | first | exact R_neInt rfl rfl rfl | exact R_neStr rfl rfl rfl | exact R_neBool tabOk rfl rfl rfl rfl | exact R_neSelf tabOk noStand rfl rfl rfl rfl rfl rfl rfl (by kernel_rfl)))) | refine O_nil ?_ | refine Q_nil ?_ | refine q_j ?_ | refine q_k ?_ | refine q_d ?_ | refine q_a ?_ | refine q_b ?_ | refine q_c ?_ | refine A_ct rfl ?_ | refine A_cf rfl ?_ | refine A_skip ?_ | refine A_exit ?_ | refine A_ret ?_ | refine q_l ?_ | refine q_m ?_ | refine q_n ?_ | refine q_h ?_ | refine q_o ?_ | refine q_e ?_ | refine q_f ?_ | refine q_g ?_ | fail)
    exact ⟨k + 1, by omega, by omega, Wk_sel ⟨rfl, rfl, rfl, trivial⟩ trivial⟩
  obtain rfl : k = rws.length := by omega
  repeat (first | refine A_seq ?_ | refine A_block ?_ | refine R_list ?_ | refine R_quiet rfl mixed (by kernel_rfl) ?_ | ((first | apply O_y rfl rfl rfl | apply Q_y rfl rfl rfl); (first | exact q_A | exact q_5 | exact q_B | (first | exact q_26 | first | exact R_neInt rfl rfl rfl | exact R_neStr rfl rfl rfl | exact R_neBool tabOk rfl rfl rfl rfl | exact R_neSelf tabOk noStand rfl rfl rfl rfl rfl rfl rfl (by kernel_rfl)))) | refine O_nil ?_ | refine Q_nil ?_ | refine q_j ?_ | refine q_k ?_ | refine q_d ?_ | refine q_a ?_ | refine q_b ?_ | refine q_c ?_ | refine A_ct rfl ?_ | refine A_cf rfl ?_ | refine A_skip ?_ | refine A_exit ?_ | refine A_ret ?_ | refine q_l ?_ | refine q_m ?_ | refine q_n ?_ | refine q_h ?_ | refine q_o ?_ | refine q_e ?_ | refine q_f ?_ | refine q_g ?_ | fail)
  refine A_loop (fun k : Nat => [(2, .iptr [sD nm, cD kd, .sl (vrfs.flatMap s1D) vrfs.length, .sl (ifs.flatMap ifxD) ifs.length, .sl (fils.flatMap filD) fils.length, .sl (rws.flatMap rwrD) rws.length, .sl (sts.flatMap staD) sts.length, .sl (pls.flatMap plstD) pls.length, .sl (cls.flatMap clstD) cls.length, .sl (pols.flatMap polD) pols.length, .sl (osp.flatMap ospD) osp.length, .sl (bgp.flatMap bgiD) bgp.length] 0), (3, .iptr [sD nm, cD kd, .sl (vrfs.flatMap s1D) vrfs.length, .sl (ifs.flatMap ifxD) ifs.length, .sl (fils.flatMap filD) fils.length, .sl (rws.flatMap rwrD) rws.length, .sl (sts.flatMap staD) sts.length, .sl (pls.flatMap plstD) pls.length, .sl (cls.flatMap clstD) cls.length, .sl (pols.flatMap polD) pols.length, .sl (osp.flatMap ospD) osp.length, .sl (bgp.flatMap bgiD) bgp.length] 0), (9, intA (k : Int))]) (fun _ => []) (fun k => k ≤ sts.length) (fun k => sts.length - k) 0 (Nat.zero_le _) (Wk_sel ⟨rfl, rfl, rfl, trivial⟩ trivial) ?_
  intro k hkl
  try dsimp only
  by_cases hk : k < sts.length
  ·
    repeat (first | refine A_seq ?_ | refine A_block ?_ | refine R_list ?_ | refine R_quiet rfl mixed (by kernel_rfl) ?_ | ((first | apply O_y rfl rfl rfl | apply Q_y rfl rfl rfl); (first | exact q_A | exact R_loadi tabOk rfl rfl rfl rfl (by first | exact win_flat0 staD_len sts k _ hk (by decide) | exact win_flat staD_len sts k _ _ hk (by decide) | exact win_flat2 staD_len sts k _ _ _ hk (by decide) | rfl) rfl rfl | exact q_B | (first | exact R_index (j := k) tabOk rfl rfl rfl rfl rfl rfl hk | first | exact R_neInt rfl rfl rfl | exact R_neStr rfl rfl rfl | exact R_neBool tabOk rfl rfl rfl rfl | exact R_neSelf tabOk noStand rfl rfl rfl rfl rfl rfl rfl (by kernel_rfl)))) | refine O_nil ?_ | refine Q_nil ?_ | refine q_j ?_ | refine q_k ?_ | refine q_d ?_ | refine q_a ?_ | refine q_b ?_ | refine q_c ?_ | refine A_ct rfl ?_ | refine A_cf rfl ?_ | refine A_skip ?_ | refine A_exit ?_ | refine A_ret ?_ | refine q_l ?_ | refine q_m ?_ | refine q_n ?_ | refine q_h ?_ | refine q_o ?_ | refine q_e ?_ | refine q_f ?_ | refine q_g ?_ | fail)
    exact ⟨k + 1, by omega, by omega, Wk_sel ⟨rfl, rfl, rfl, trivial⟩ trivial⟩
  obtain rfl : k = sts.length := by omega
  repeat (first | refine A_seq ?_ | refine A_block ?_ | refine R_list ?_ | refine R_quiet rfl mixed (by kernel_rfl) ?_ | ((first | apply O_y rfl rfl rfl | apply Q_y rfl rfl rfl); (first | exact q_A | exact q_5 | exact q_B | (first | exact q_26 | first | exact R_neInt rfl rfl rfl | exact R_neStr rfl rfl rfl | exact R_neBool tabOk rfl rfl rfl rfl | exact R_neSelf tabOk noStand rfl rfl rfl rfl rfl rfl rfl (by kernel_rfl)))) | refine O_nil ?_ | refine Q_nil ?_ | refine q_j ?_ | refine q_k ?_ | refine q_d ?_ | refine q_a ?_ | refine q_b ?_ | refine q_c ?_ | refine A_ct rfl ?_ | refine A_cf rfl ?_ | refine A_skip ?_ | refine A_exit ?_ | refine A_ret ?_ | refine q_l ?_ | refine q_m ?_ | refine q_n ?_ | refine q_h ?_ | refine q_o ?_ | refine q_e ?_ | refine q_f ?_ | refine q_g ?_ | fail)
  refine A_loop (fun k : Nat => [(2, .iptr [sD nm, cD kd, .sl (vrfs.flatMap s1D) vrfs.length, .sl (ifs.flatMap ifxD) ifs.length, .sl (fils.flatMap filD) fils.length, .sl (rws.flatMap rwrD) rws.length, .sl (sts.flatMap staD) sts.length, .sl (pls.flatMap plstD) pls.length, .sl (cls.flatMap clstD) cls.length, .sl (pols.flatMap polD) pols.length, .sl (osp.flatMap ospD) osp.length, .sl (bgp.flatMap bgiD) bgp.length] 0), (3, .iptr [sD nm, cD kd, .sl (vrfs.flatMap s1D) vrfs.length, .sl (ifs.flatMap ifxD) ifs.length, .sl (fils.flatMap filD) fils.length, .sl (rws.flatMap rwrD) rws.length, .sl (sts.flatMap staD) sts.length, .sl (pls.flatMap plstD) pls.length, .sl (cls.flatMap clstD) cls.length, .sl (pols.flatMap polD) pols.length, .sl (osp.flatMap ospD) osp.length, .sl (bgp.flatMap bgiD) bgp.length] 0), (10, intA (k : Int))]) (fun _ => []) (fun k => k ≤ pls.length) (fun k => pls.length - k) 0 (Nat.zero_le _) (Wk_sel ⟨rfl, rfl, rfl, trivial⟩ trivial) ?_
  intro k hkl
  try dsimp only
  by_cases hk : k < pls.length
  · have g2 : pls[k].es.length * 40 ≤ 140737488351232 := (q7 _ (List.getElem_mem hk)).2
    obtain ⟨b1, b2, hbk⟩ : ∃ b1 b2, pls[k] = ⟨b1, b2⟩ := ⟨_, _, rfl⟩
    rw [hbk] at g2
    have g2 : b2.length * 40 ≤ 140737488351232 := g2
    have hw0 : win (pls.flatMap plstD) (k * 2) 2 = [sD b1, .sl (b2.flatMap lentD) b2.length] := (win_flat0 plstD_len pls k 2 hk (by decide)).trans (by rw [hbk]; rfl)
    repeat (first | refine A_seq ?_ | refine A_block ?_ | refine R_list ?_ | ((first | apply O_y rfl rfl rfl | apply Q_y rfl rfl rfl); (first | exact q_A | exact R_loadi tabOk rfl rfl rfl rfl (by first | exact hw0 | rfl) rfl rfl | exact q_B | (first | exact R_index (j := k) tabOk rfl rfl rfl rfl rfl rfl hk | first | exact R_neInt rfl rfl rfl | exact R_neStr rfl rfl rfl | exact R_neBool tabOk rfl rfl rfl rfl | exact R_neSelf tabOk noStand rfl rfl rfl rfl rfl rfl rfl (by kernel_rfl)))) | refine O_nil ?_ | refine Q_nil ?_ | refine q_j ?_ | refine q_k ?_ | refine q_d ?_ | refine q_a ?_ | refine q_b ?_ | refine q_c ?_ | refine A_ct rfl ?_ | refine A_cf rfl ?_ | refine A_skip ?_ | refine A_exit ?_ | refine A_ret ?_ | refine q_l ?_ | refine q_m ?_ | refine q_n ?_ | refine q_h ?_ | refine q_o ?_ | refine q_e ?_ | refine q_f ?_ | refine q_g ?_ | fail)
    refine N_begin [11, 12] mixed ?_
    apply q_P 0 rfl (by kernel_rfl) rfl rfl rfl
    exact q_4
    apply q_P 1 rfl (by kernel_rfl) rfl rfl rfl
    exact R_loadi tabOk rfl rfl rfl rfl (by first | exact hw0 | rfl) rfl rfl
    apply q_P 2 rfl (by kernel_rfl) rfl rfl rfl
    exact q_1
    apply q_P 3 rfl (by kernel_rfl) rfl rfl rfl
    exact R_index (j := k) tabOk rfl rfl rfl rfl rfl rfl hk
    apply q_P 4 rfl (by kernel_rfl) rfl rfl rfl
    exact R_loadi tabOk rfl rfl rfl rfl (by first | exact hw0 | rfl) rfl rfl
    apply q_P 5 rfl (by kernel_rfl) rfl rfl rfl
    exact q_4
    apply q_P 6 rfl (by kernel_rfl) rfl rfl rfl
    exact R_loadi tabOk rfl rfl rfl rfl (by first | exact hw0 | rfl) rfl rfl
    apply q_P 7 rfl (by kernel_rfl) rfl rfl rfl
    exact q_1
    apply q_P 8 rfl (by kernel_rfl) rfl rfl rfl
    exact R_index (j := k) tabOk rfl rfl rfl rfl rfl rfl hk
    apply q_P 9 rfl (by kernel_rfl) rfl rfl rfl
    exact R_loadi tabOk rfl rfl rfl rfl (by first | exact hw0 | rfl) rfl rfl
    refine N_two (j := 10) (k := 11) (by kernel_rfl) ?_ ?_
    · refine T_alloc tabOk rfl rfl rfl rfl rfl rfl rfl ?_
      refine N_one (j := 11) (by kernel_rfl) ?_
      refine T_alloc tabOk rfl rfl rfl rfl rfl rfl rfl ?_
      refine N_one (j := 12) (by kernel_rfl) ?_
      refine T_store tabOk rfl rfl rfl rfl rfl rfl rfl rfl rfl rfl rfl rfl rfl ?_
      refine N_one (j := 13) (by kernel_rfl) ?_
      refine T_store tabOk rfl rfl rfl rfl rfl rfl rfl rfl rfl rfl rfl rfl rfl ?_
      refine N_done (by kernel_rfl) ?_
      refine q_j ?_
      refine A_weaken (Wk_sel (e1 := [(2, .iptr [sD nm, cD kd, .sl (vrfs.flatMap s1D) vrfs.length, .sl (ifs.flatMap ifxD) ifs.length, .sl (fils.flatMap filD) fils.length, .sl (rws.flatMap rwrD) rws.length, .sl (sts.flatMap staD) sts.length, .sl (pls.flatMap plstD) pls.length, .sl (cls.flatMap clstD) cls.length, .sl (pols.flatMap polD) pols.length, .sl (osp.flatMap ospD) osp.length, .sl (bgp.flatMap bgiD) bgp.length] 0), (3, .iptr [sD nm, cD kd, .sl (vrfs.flatMap s1D) vrfs.length, .sl (ifs.flatMap ifxD) ifs.length, .sl (fils.flatMap filD) fils.length, .sl (rws.flatMap rwrD) rws.length, .sl (sts.flatMap staD) sts.length, .sl (pls.flatMap plstD) pls.length, .sl (cls.flatMap clstD) cls.length, .sl (pols.flatMap polD) pols.length, .sl (osp.flatMap ospD) osp.length, .sl (bgp.flatMap bgiD) bgp.length] 0), (10, intA (k : Int)), (11, .ptr 11 0), (12, .ptr 12 0)]) (h1 := [(11, .var [.d (sD b1), .d (.sl (b2.flatMap lentD) b2.length)]), (12, .var [.d (sD b1), .d (.sl (b2.flatMap lentD) b2.length)])]) ⟨rfl, rfl, rfl, rfl, rfl, trivial⟩ ⟨rfl, rfl, trivial⟩) ?_
      repeat (first | refine A_seq ?_ | refine A_block ?_ | refine R_list ?_ | ((first | apply O_y rfl rfl rfl | apply Q_y rfl rfl rfl); (first | exact q_A | exact q_5 | exact q_B | (first | exact q_26 | first | exact R_neInt rfl rfl rfl | exact R_neStr rfl rfl rfl | exact R_neBool tabOk rfl rfl rfl rfl | exact R_neSelf tabOk noStand rfl rfl rfl rfl rfl rfl rfl (by kernel_rfl)))) | refine O_nil ?_ | refine Q_nil ?_ | refine q_j ?_ | refine q_k ?_ | refine q_d ?_ | refine q_a ?_ | refine q_b ?_ | refine q_c ?_ | refine A_ct rfl ?_ | refine A_cf rfl ?_ | refine A_skip ?_ | refine A_exit ?_ | refine A_ret ?_ | refine q_l ?_ | refine q_m ?_ | refine q_n ?_ | refine q_h ?_ | refine q_o ?_ | refine q_e ?_ | refine q_f ?_ | refine q_g ?_ | fail)
      refine A_loop (fun j : Nat => [(2, .iptr [sD nm, cD kd, .sl (vrfs.flatMap s1D) vrfs.length, .sl (ifs.flatMap ifxD) ifs.length, .sl (fils.flatMap filD) fils.length, .sl (rws.flatMap rwrD) rws.length, .sl (sts.flatMap staD) sts.length, .sl (pls.flatMap plstD) pls.length, .sl (cls.flatMap clstD) cls.length, .sl (pols.flatMap polD) pols.length, .sl (osp.flatMap ospD) osp.length, .sl (bgp.flatMap bgiD) bgp.length] 0), (3, .iptr [sD nm, cD kd, .sl (vrfs.flatMap s1D) vrfs.length, .sl (ifs.flatMap ifxD) ifs.length, .sl (fils.flatMap filD) fils.length, .sl (rws.flatMap rwrD) rws.length, .sl (sts.flatMap staD) sts.length, .sl (pls.flatMap plstD) pls.length, .sl (cls.flatMap clstD) cls.length, .sl (pols.flatMap polD) pols.length, .sl (osp.flatMap ospD) osp.length, .sl (bgp.flatMap bgiD) bgp.length] 0), (10, intA (k : Int)), (11, .ptr 11 0), (12, .ptr 12 0), (13, intA (j : Int))]) (fun _ => [(11, .var [.d (sD b1), .d (.sl (b2.flatMap lentD) b2.length)]), (12, .var [.d (sD b1), .d (.sl (b2.flatMap lentD) b2.length)])]) (fun j => j ≤ b2.length) (fun j => b2.length - j) 0 (Nat.zero_le _) (Wk_sel ⟨rfl, rfl, rfl, rfl, rfl, rfl, trivial⟩ ⟨rfl, rfl, trivial⟩) ?_
      intro j hjl
      try dsimp only
      by_cases hj : j < b2.length
      ·
        repeat (first | refine A_seq ?_ | refine A_block ?_ | refine R_list ?_ | refine R_quiet rfl mixed (by kernel_rfl) ?_ | ((first | apply O_y rfl rfl rfl | apply Q_y rfl rfl rfl); (first | exact q_A | exact R_loadi tabOk rfl rfl rfl rfl (by first | exact win_flat0 lentD_len b2 j _ hj (by decide) | exact win_flat lentD_len b2 j _ _ hj (by decide) | exact win_flat2 lentD_len b2 j _ _ _ hj (by decide) | rfl) rfl rfl | exact q_B | (first | exact R_index (j := j) tabOk rfl rfl rfl rfl rfl rfl hj | first | exact R_neInt rfl rfl rfl | exact R_neStr rfl rfl rfl | exact R_neBool tabOk rfl rfl rfl rfl | exact R_neSelf tabOk noStand rfl rfl rfl rfl rfl rfl rfl (by kernel_rfl)))) | refine O_nil ?_ | refine Q_nil ?_ | refine q_j ?_ | refine q_k ?_ | refine q_d ?_ | refine q_a ?_ | refine q_b ?_ | refine q_c ?_ | refine A_ct rfl ?_ | refine A_cf rfl ?_ | refine A_skip ?_ | refine A_exit ?_ | refine A_ret ?_ | refine q_l ?_ | refine q_m ?_ | refine q_n ?_ | refine q_h ?_ | refine q_o ?_ | refine q_e ?_ | refine q_f ?_ | refine q_g ?_ | fail)
        exact ⟨j + 1, by omega, by omega, Wk_sel ⟨rfl, rfl, rfl, rfl, rfl, rfl, trivial⟩ ⟨rfl, rfl, trivial⟩⟩
      obtain rfl : j = b2.length := by omega
      repeat (first | refine A_seq ?_ | refine A_block ?_ | refine R_list ?_ | refine R_quiet rfl mixed (by kernel_rfl) ?_ | ((first | apply O_y rfl rfl rfl | apply Q_y rfl rfl rfl); (first | exact q_A | exact q_5 | exact q_B | fail)) | refine O_nil ?_ | refine Q_nil ?_ | refine q_j ?_ | refine q_k ?_ | refine q_d ?_ | refine q_a ?_ | refine q_b ?_ | refine q_c ?_ | refine A_ct rfl ?_ | refine A_cf rfl ?_ | refine A_skip ?_ | refine A_exit ?_ | refine A_ret ?_ | refine q_l ?_ | refine q_m ?_ | refine q_n ?_ | refine q_h ?_ | refine q_o ?_ | refine q_e ?_ | refine q_f ?_ | refine q_g ?_ | fail)
      exact ⟨k + 1, by omega, by omega, Wk_sel ⟨rfl, rfl, rfl, trivial⟩ trivial⟩
    · refine T_alloc tabOk rfl rfl rfl rfl rfl rfl rfl ?_
      refine N_one (j := 10) (by kernel_rfl) ?_
      refine T_alloc tabOk rfl rfl rfl rfl rfl rfl rfl ?_
      refine N_one (j := 12) (by kernel_rfl) ?_
      refine T_store tabOk rfl rfl rfl rfl rfl rfl rfl rfl rfl rfl rfl rfl rfl ?_
      refine N_one (j := 13) (by kernel_rfl) ?_
      refine T_store tabOk rfl rfl rfl rfl rfl rfl rfl rfl rfl rfl rfl rfl rfl ?_
      refine N_done (by kernel_rfl) ?_
      refine q_j ?_
      refine A_weaken (Wk_sel (e1 := [(2, .iptr [sD nm, cD kd, .sl (vrfs.flatMap s1D) vrfs.length, .sl (ifs.flatMap ifxD) ifs.length, .sl (fils.flatMap filD) fils.length, .sl (rws.flatMap rwrD) rws.length, .sl (sts.flatMap staD) sts.length, .sl (pls.flatMap plstD) pls.length, .sl (cls.flatMap clstD) cls.length, .sl (pols.flatMap polD) pols.length, .sl (osp.flatMap ospD) osp.length, .sl (bgp.flatMap bgiD) bgp.length] 0), (3, .iptr [sD nm, cD kd, .sl (vrfs.flatMap s1D) vrfs.length, .sl (ifs.flatMap ifxD) ifs.length, .sl (fils.flatMap filD) fils.length, .sl (rws.flatMap rwrD) rws.length, .sl (sts.flatMap staD) sts.length, .sl (pls.flatMap plstD) pls.length, .sl (cls.flatMap clstD) cls.length, .sl (pols.flatMap polD) pols.length, .sl (osp.flatMap ospD) osp.length, .sl (bgp.flatMap bgiD) bgp.length] 0), (10, intA (k : Int)), (11, .ptr 11 0), (12, .ptr 12 0)]) (h1 := [(11, .var [.d (sD b1), .d (.sl (b2.flatMap lentD) b2.length)]), (12, .var [.d (sD b1), .d (.sl (b2.flatMap lentD) b2.length)])]) ⟨rfl, rfl, rfl, rfl, rfl, trivial⟩ ⟨rfl, rfl, trivial⟩) ?_
      repeat (first | refine A_seq ?_ | refine A_block ?_ | refine R_list ?_ | ((first | apply O_y rfl rfl rfl | apply Q_y rfl rfl rfl); (first | exact q_A | exact q_5 | exact q_B | (first | exact q_26 | first | exact R_neInt rfl rfl rfl | exact R_neStr rfl rfl rfl | exact R_neBool tabOk rfl rfl rfl rfl | exact R_neSelf tabOk noStand rfl rfl rfl rfl rfl rfl rfl (by kernel_rfl)))) | refine O_nil ?_ | refine Q_nil ?_ | refine q_j ?_ | refine q_k ?_ | refine q_d ?_ | refine q_a ?_ | refine q_b ?_ | refine q_c ?_ | refine A_ct rfl ?_ | refine A_cf rfl ?_ | refine A_skip ?_ | refine A_exit ?_ | refine A_ret ?_ | refine q_l ?_ | refine q_m ?_ | refine q_n ?_ | refine q_h ?_ | refine q_o ?_ | refine q_e ?_ | refine q_f ?_ | refine q_g ?_ | fail)
      refine A_loop (fun j : Nat => [(2, .iptr [sD nm, cD kd, .sl (vrfs.flatMap s1D) vrfs.length, .sl (ifs.flatMap ifxD) ifs.length, .sl (fils.flatMap filD) fils.length, .sl (rws.flatMap rwrD) rws.length, .sl (sts.flatMap staD) sts.length, .sl (pls.flatMap plstD) pls.length, .sl (cls.flatMap clstD) cls.length, .sl (pols.flatMap polD) pols.length, .sl (osp.flatMap ospD) osp.length, .sl (bgp.flatMap bgiD) bgp.length] 0), (3, .iptr [sD nm, cD kd, .sl (vrfs.flatMap s1D) vrfs.length, .sl (ifs.flatMap ifxD) ifs.length, .sl (fils.flatMap filD) fils.length, .sl (rws.flatMap rwrD) rws.length, .sl (sts.flatMap staD) sts.length, .sl (pls.flatMap plstD) pls.length, .sl (cls.flatMap clstD) cls.length, .sl (pols.flatMap polD) pols.length, .sl (osp.flatMap ospD) osp.length, .sl (bgp.flatMap bgiD) bgp.length] 0), (10, intA (k : Int)), (11, .ptr 11 0), (12, .ptr 12 0), (13, intA (j : Int))]) (fun _ => [(11, .var [.d (sD b1), .d (.sl (b2.flatMap lentD) b2.length)]), (12, .var [.d (sD b1), .d (.sl (b2.flatMap lentD) b2.length)])]) (fun j => j ≤ b2.length) (fun j => b2.length - j) 0 (Nat.zero_le _) (Wk_sel ⟨rfl, rfl, rfl, rfl, rfl, rfl, trivial⟩ ⟨rfl, rfl, trivial⟩) ?_
      intro j hjl
      try dsimp only
      by_cases hj : j < b2.length
      ·
        repeat (first | refine A_seq ?_ | refine A_block ?_ | refine R_list ?_ | refine R_quiet rfl mixed (by kernel_rfl) ?_ | ((first | apply O_y rfl rfl rfl | apply Q_y rfl rfl rfl); (first | exact q_A | exact R_loadi tabOk rfl rfl rfl rfl (by first | exact win_flat0 lentD_len b2 j _ hj (by decide) | exact win_flat lentD_len b2 j _ _ hj (by decide) | exact win_flat2 lentD_len b2 j _ _ _ hj (by decide) | rfl) rfl rfl | exact q_B | (first | exact R_index (j := j) tabOk rfl rfl rfl rfl rfl rfl hj | first | exact R_neInt rfl rfl rfl | exact R_neStr rfl rfl rfl | exact R_neBool tabOk rfl rfl rfl rfl | exact R_neSelf tabOk noStand rfl rfl rfl rfl rfl rfl rfl (by kernel_rfl)))) | refine O_nil ?_ | refine Q_nil ?_ | refine q_j ?_ | refine q_k ?_ | refine q_d ?_ | refine q_a ?_ | refine q_b ?_ | refine q_c ?_ | refine A_ct rfl ?_ | refine A_cf rfl ?_ | refine A_skip ?_ | refine A_exit ?_ | refine A_ret ?_ | refine q_l ?_ | refine q_m ?_ | refine q_n ?_ | refine q_h ?_ | refine q_o ?_ | refine q_e ?_ | refine q_f ?_ | refine q_g ?_ | fail)
        exact ⟨j + 1, by omega, by omega, Wk_sel ⟨rfl, rfl, rfl, rfl, rfl, rfl, trivial⟩ ⟨rfl, rfl, trivial⟩⟩
      obtain rfl : j = b2.length := by omega
      repeat (first | refine A_seq ?_ | refine A_block ?_ | refine R_list ?_ | refine R_quiet rfl mixed (by kernel_rfl) ?_ | ((first | apply O_y rfl rfl rfl | apply Q_y rfl rfl rfl); (first | exact q_A | exact q_5 | exact q_B | fail)) | refine O_nil ?_ | refine Q_nil ?_ | refine q_j ?_ | refine q_k ?_ | refine q_d ?_ | refine q_a ?_ | refine q_b ?_ | refine q_c ?_ | refine A_ct rfl ?_ | refine A_cf rfl ?_ | refine A_skip ?_ | refine A_exit ?_ | refine A_ret ?_ | refine q_l ?_ | refine q_m ?_ | refine q_n ?_ | refine q_h ?_ | refine q_o ?_ | refine q_e ?_ | refine q_f ?_ | refine q_g ?_ | fail)
      exact ⟨k + 1, by omega, by omega, Wk_sel ⟨rfl, rfl, rfl, trivial⟩ trivial⟩
  obtain rfl : k = pls.length := by omega
  repeat (first | refine A_seq ?_ | refine A_block ?_ | refine R_list ?_ | refine R_quiet rfl mixed (by kernel_rfl) ?_ | ((first | apply O_y rfl rfl rfl | apply Q_y rfl rfl rfl); (first | exact q_A | exact q_5 | exact q_B | fail)) | refine O_nil ?_ | refine Q_nil ?_ | refine q_j ?_ | refine q_k ?_ | refine q_d ?_ | refine q_a ?_ | refine q_b ?_ | refine q_c ?_ | refine A_ct rfl ?_ | refine A_cf rfl ?_ | refine A_skip ?_ | refine A_exit ?_ | refine A_ret ?_ | refine q_l ?_ | refine q_m ?_ | refine q_n ?_ | refine q_h ?_ | refine q_o ?_ | refine q_e ?_ | refine q_f ?_ | refine q_g ?_ | fail)
  refine A_loop (fun k : Nat => [(2, .iptr [sD nm, cD kd, .sl (vrfs.flatMap s1D) vrfs.length, .sl (ifs.flatMap ifxD) ifs.length, .sl (fils.flatMap filD) fils.length, .sl (rws.flatMap rwrD) rws.length, .sl (sts.flatMap staD) sts.length, .sl (pls.flatMap plstD) pls.length, .sl (cls.flatMap clstD) cls.length, .sl (pols.flatMap polD) pols.length, .sl (osp.flatMap ospD) osp.length, .sl (bgp.flatMap bgiD) bgp.length] 0), (3, .iptr [sD nm, cD kd, .sl (vrfs.flatMap s1D) vrfs.length, .sl (ifs.flatMap ifxD) ifs.length, .sl (fils.flatMap filD) fils.length, .sl (rws.flatMap rwrD) rws.length, .sl (sts.flatMap staD) sts.length, .sl (pls.flatMap plstD) pls.length, .sl (cls.flatMap clstD) cls.length, .sl (pols.flatMap polD) pols.length, .sl (osp.flatMap ospD) osp.length, .sl (bgp.flatMap bgiD) bgp.length] 0), (14, intA (k : Int))]) (fun _ => []) (fun k => k ≤ cls.length) (fun k => cls.length - k) 0 (Nat.zero_le _) (Wk_sel ⟨rfl, rfl, rfl, trivial⟩ trivial) ?_
  intro k hkl
  try dsimp only
  by_cases hk : k < cls.length
  · have g2 : cls[k].ms.length * 32 ≤ 140737488351232 := (q8 _ (List.getElem_mem hk)).2
    have gm := (q8 _ (List.getElem_mem hk)).1
    obtain ⟨b1, b2, hbk⟩ : ∃ b1 b2, cls[k] = ⟨b1, b2⟩ := ⟨_, _, rfl⟩
    rw [hbk] at g2 gm
    have g2 : b2.length * 32 ≤ 140737488351232 := g2
    have hw0 : win (cls.flatMap clstD) (k * 2) 2 = [sD b1, .sl (b2.flatMap memD) b2.length] := (win_flat0 clstD_len cls k 2 hk (by decide)).trans (by rw [hbk]; rfl)
    repeat (first | refine A_seq ?_ | refine A_block ?_ | refine R_list ?_ | ((first | apply O_y rfl rfl rfl | apply Q_y rfl rfl rfl); (first | exact q_A | exact R_loadi tabOk rfl rfl rfl rfl (by first | exact hw0 | rfl) rfl rfl | exact q_B | (first | exact R_index (j := k) tabOk rfl rfl rfl rfl rfl rfl hk | first | exact R_neInt rfl rfl rfl | exact R_neStr rfl rfl rfl | exact R_neBool tabOk rfl rfl rfl rfl | exact R_neSelf tabOk noStand rfl rfl rfl rfl rfl rfl rfl (by kernel_rfl)))) | refine O_nil ?_ | refine Q_nil ?_ | refine q_j ?_ | refine q_k ?_ | refine q_d ?_ | refine q_a ?_ | refine q_b ?_ | refine q_c ?_ | refine A_ct rfl ?_ | refine A_cf rfl ?_ | refine A_skip ?_ | refine A_exit ?_ | refine A_ret ?_ | refine q_l ?_ | refine q_m ?_ | refine q_n ?_ | refine q_h ?_ | refine q_o ?_ | refine q_e ?_ | refine q_f ?_ | refine q_g ?_ | fail)
    refine N_begin [15, 16] mixed ?_
    apply q_P 0 rfl (by kernel_rfl) rfl rfl rfl
    exact q_4
    apply q_P 1 rfl (by kernel_rfl) rfl rfl rfl
    exact R_loadi tabOk rfl rfl rfl rfl (by first | exact hw0 | rfl) rfl rfl
    apply q_P 2 rfl (by kernel_rfl) rfl rfl rfl
    exact q_1
    apply q_P 3 rfl (by kernel_rfl) rfl rfl rfl
    exact R_index (j := k) tabOk rfl rfl rfl rfl rfl rfl hk
    apply q_P 4 rfl (by kernel_rfl) rfl rfl rfl
    exact R_loadi tabOk rfl rfl rfl rfl (by first | exact hw0 | rfl) rfl rfl
    apply q_P 5 rfl (by kernel_rfl) rfl rfl rfl
    exact q_4
    apply q_P 6 rfl (by kernel_rfl) rfl rfl rfl
    exact R_loadi tabOk rfl rfl rfl rfl (by first | exact hw0 | rfl) rfl rfl
    apply q_P 7 rfl (by kernel_rfl) rfl rfl rfl
    exact q_1
    apply q_P 8 rfl (by kernel_rfl) rfl rfl rfl
    exact R_index (j := k) tabOk rfl rfl rfl rfl rfl rfl hk
    apply q_P 9 rfl (by kernel_rfl) rfl rfl rfl
    exact R_loadi tabOk rfl rfl rfl rfl (by first | exact hw0 | rfl) rfl rfl
    refine N_two (j := 10) (k := 11) (by kernel_rfl) ?_ ?_
    · refine T_alloc tabOk rfl rfl rfl rfl rfl rfl rfl ?_
      refine N_one (j := 11) (by kernel_rfl) ?_
      refine T_alloc tabOk rfl rfl rfl rfl rfl rfl rfl ?_
      refine N_one (j := 12) (by kernel_rfl) ?_
      refine T_store tabOk rfl rfl rfl rfl rfl rfl rfl rfl rfl rfl rfl rfl rfl ?_
      refine N_one (j := 13) (by kernel_rfl) ?_
      refine T_store tabOk rfl rfl rfl rfl rfl rfl rfl rfl rfl rfl rfl rfl rfl ?_
      refine N_done (by kernel_rfl) ?_
      refine q_j ?_
      refine A_weaken (Wk_sel (e1 := [(2, .iptr [sD nm, cD kd, .sl (vrfs.flatMap s1D) vrfs.length, .sl (ifs.flatMap ifxD) ifs.length, .sl (fils.flatMap filD) fils.length, .sl (rws.flatMap rwrD) rws.length, .sl (sts.flatMap staD) sts.length, .sl (pls.flatMap plstD) pls.length, .sl (cls.flatMap clstD) cls.length, .sl (pols.flatMap polD) pols.length, .sl (osp.flatMap ospD) osp.length, .sl (bgp.flatMap bgiD) bgp.length] 0), (3, .iptr [sD nm, cD kd, .sl (vrfs.flatMap s1D) vrfs.length, .sl (ifs.flatMap ifxD) ifs.length, .sl (fils.flatMap filD) fils.length, .sl (rws.flatMap rwrD) rws.length, .sl (sts.flatMap staD) sts.length, .sl (pls.flatMap plstD) pls.length, .sl (cls.flatMap clstD) cls.length, .sl (pols.flatMap polD) pols.length, .sl (osp.flatMap ospD) osp.length, .sl (bgp.flatMap bgiD) bgp.length] 0), (14, intA (k : Int)), (15, .ptr 15 0), (16, .ptr 16 0)]) (h1 := [(15, .var [.d (sD b1), .d (.sl (b2.flatMap memD) b2.length)]), (16, .var [.d (sD b1), .d (.sl (b2.flatMap memD) b2.length)])]) ⟨rfl, rfl, rfl, rfl, rfl, trivial⟩ ⟨rfl, rfl, trivial⟩) ?_
      repeat (first | refine A_seq ?_ | refine A_block ?_ | refine R_list ?_ | ((first | apply O_y rfl rfl rfl | apply Q_y rfl rfl rfl); (first | exact q_A | exact q_5 | exact q_B | (first | exact q_26 | first | exact R_neInt rfl rfl rfl | exact R_neStr rfl rfl rfl | exact R_neBool tabOk rfl rfl rfl rfl | exact R_neSelf tabOk noStand rfl rfl rfl rfl rfl rfl rfl (by kernel_rfl)))) | refine O_nil ?_ | refine Q_nil ?_ | refine q_j ?_ | refine q_k ?_ | refine q_d ?_ | refine q_a ?_ | refine q_b ?_ | refine q_c ?_ | refine A_ct rfl ?_ | refine A_cf rfl ?_ | refine A_skip ?_ | refine A_exit ?_ | refine A_ret ?_ | refine q_l ?_ | refine q_m ?_ | refine q_n ?_ | refine q_h ?_ | refine q_o ?_ | refine q_e ?_ | refine q_f ?_ | refine q_g ?_ | fail)
      refine A_loop (fun j : Nat => [(2, .iptr [sD nm, cD kd, .sl (vrfs.flatMap s1D) vrfs.length, .sl (ifs.flatMap ifxD) ifs.length, .sl (fils.flatMap filD) fils.length, .sl (rws.flatMap rwrD) rws.length, .sl (sts.flatMap staD) sts.length, .sl (pls.flatMap plstD) pls.length, .sl (cls.flatMap clstD) cls.length, .sl (pols.flatMap polD) pols.length, .sl (osp.flatMap ospD) osp.length, .sl (bgp.flatMap bgiD) bgp.length] 0), (3, .iptr [sD nm, cD kd, .sl (vrfs.flatMap s1D) vrfs.length, .sl (ifs.flatMap ifxD) ifs.length, .sl (fils.flatMap filD) fils.length, .sl (rws.flatMap rwrD) rws.length, .sl (sts.flatMap staD) sts.length, .sl (pls.flatMap plstD) pls.length, .sl (cls.flatMap clstD) cls.length, .sl (pols.flatMap polD) pols.length, .sl (osp.flatMap ospD) osp.length, .sl (bgp.flatMap bgiD) bgp.length] 0), (14, intA (k : Int)), (15, .ptr 15 0), (16, .ptr 16 0), (17, intA (j : Int))]) (fun _ => [(15, .var [.d (sD b1), .d (.sl (b2.flatMap memD) b2.length)]), (16, .var [.d (sD b1), .d (.sl (b2.flatMap memD) b2.length)])]) (fun j => j ≤ b2.length) (fun j => b2.length - j) 0 (Nat.zero_le _) (Wk_sel ⟨rfl, rfl, rfl, rfl, rfl, rfl, trivial⟩ ⟨rfl, rfl, trivial⟩) ?_
      intro j hjl
      try dsimp only
      by_cases hj : j < b2.length
      · have ga : b2[j].all.length * 4 ≤ 140737488351232 := (gm _ (List.getElem_mem hj)).2
        obtain ⟨m1, m2, hmj⟩ : ∃ m1 m2, b2[j] = ⟨m1, m2⟩ := ⟨_, _, rfl⟩
        rw [hmj] at ga
        have ga : m2.length * 4 ≤ 140737488351232 := ga
        have hc := numbersSelf_A m2 (by omega)
        have hv0 : win (b2.flatMap memD) (j * 2 + 0) 1 = [bD m1] := (win_flat memD_len b2 j 0 1 hj (by decide)).trans (by rw [hmj]; rfl)
        have hv1 : win (b2.flatMap memD) (j * 2 + 1) 1 = [.sl (m2.flatMap u1D) m2.length] := (win_flat memD_len b2 j 1 1 hj (by decide)).trans (by rw [hmj]; rfl)
        repeat (first | refine A_seq ?_ | refine A_block ?_ | refine R_list ?_ | refine R_quiet rfl mixed (by kernel_rfl) ?_ | ((first | apply O_y rfl rfl rfl | apply Q_y rfl rfl rfl); (first | exact q_A | exact R_loadi tabOk rfl rfl rfl rfl (by first | exact hv0 | exact hv1 | rfl) rfl rfl | exact q_B | (first | exact R_index (j := j) tabOk rfl rfl rfl rfl rfl rfl hj | exact q_26 | first | exact R_neInt rfl rfl rfl | exact R_neStr rfl rfl rfl | exact R_neBool tabOk rfl rfl rfl rfl | exact R_neSelf tabOk noStand rfl rfl rfl rfl rfl rfl rfl (by kernel_rfl)))) | refine O_nil ?_ | refine Q_nil ?_ | refine q_j ?_ | refine q_k ?_ | refine q_d ?_ | refine q_a ?_ | refine q_b ?_ | refine q_c ?_ | refine A_ct rfl ?_ | refine A_cf rfl ?_ | refine A_skip ?_ | refine A_exit ?_ | refine A_ret ?_ | refine q_l ?_ | refine q_m ?_ | refine q_n ?_ | refine q_h ?_ | refine q_o ?_ | refine q_e ?_ | refine q_f ?_ | refine q_g ?_ | refine Q_c rfl rfl rfl rfl rfl hc rfl (fun _ _ _ => val_mk _ _ _ _ _ rfl rfl) ?_)
        exact ⟨j + 1, by omega, by omega, Wk_sel ⟨rfl, rfl, rfl, rfl, rfl, rfl, trivial⟩ ⟨rfl, rfl, trivial⟩⟩
      obtain rfl : j = b2.length := by omega
      repeat (first | refine A_seq ?_ | refine A_block ?_ | refine R_list ?_ | refine R_quiet rfl mixed (by kernel_rfl) ?_ | ((first | apply O_y rfl rfl rfl | apply Q_y rfl rfl rfl); (first | exact q_A | exact q_5 | exact q_B | fail)) | refine O_nil ?_ | refine Q_nil ?_ | refine q_j ?_ | refine q_k ?_ | refine q_d ?_ | refine q_a ?_ | refine q_b ?_ | refine q_c ?_ | refine A_ct rfl ?_ | refine A_cf rfl ?_ | refine A_skip ?_ | refine A_exit ?_ | refine A_ret ?_ | refine q_l ?_ | refine q_m ?_ | refine q_n ?_ | refine q_h ?_ | refine q_o ?_ | refine q_e ?_ | refine q_f ?_ | refine q_g ?_ | fail)
      exact ⟨k + 1, by omega, by omega, Wk_sel ⟨rfl, rfl, rfl, trivial⟩ trivial⟩
    · refine T_alloc tabOk rfl rfl rfl rfl rfl rfl rfl ?_
      refine N_one (j := 10) (by kernel_rfl) ?_
      refine T_alloc tabOk rfl rfl rfl rfl rfl rfl rfl ?_
      refine N_one (j := 12) (by kernel_rfl) ?_
      refine T_store tabOk rfl rfl rfl rfl rfl rfl rfl rfl rfl rfl rfl rfl rfl ?_
      refine N_one (j := 13) (by kernel_rfl) ?_
      refine T_store tabOk rfl rfl rfl rfl rfl rfl rfl rfl rfl rfl rfl rfl rfl ?_
      refine N_done (by kernel_rfl) ?_
      refine q_j ?_
      refine A_weaken (Wk_sel (e1 := [(2, .iptr [sD nm, cD kd, .sl (vrfs.flatMap s1D) vrfs.length, .sl (ifs.flatMap ifxD) ifs.length, .sl (fils.flatMap filD) fils.length, .sl (rws.flatMap rwrD) rws.length, .sl (sts.flatMap staD) sts.length, .sl (pls.flatMap plstD) pls.length, .sl (cls.flatMap clstD) cls.length, .sl (pols.flatMap polD) pols.length, .sl (osp.flatMap ospD) osp.length, .sl (bgp.flatMap bgiD) bgp.length] 0), (3, .iptr [sD nm, cD kd, .sl (vrfs.flatMap s1D) vrfs.length, .sl (ifs.flatMap ifxD) ifs.length, .sl (fils.flatMap filD) fils.length, .sl (rws.flatMap rwrD) rws.length, .sl (sts.flatMap staD) sts.length, .sl (pls.flatMap plstD) pls.length, .sl (cls.flatMap clstD) cls.length, .sl (pols.flatMap polD) pols.length, .sl (osp.flatMap ospD) osp.length, .sl (bgp.flatMap bgiD) bgp.length] 0), (14, intA (k : Int)), (15, .ptr 15 0), (16, .ptr 16 0)]) (h1 := [(15, .var [.d (sD b1), .d (.sl (b2.flatMap memD) b2.length)]), (16, .var [.d (sD b1), .d (.sl (b2.flatMap memD) b2.length)])]) ⟨rfl, rfl, rfl, rfl, rfl, trivial⟩ ⟨rfl, rfl, trivial⟩) ?_
      repeat (first | refine A_seq ?_ | refine A_block ?_ | refine R_list ?_ | ((first | apply O_y rfl rfl rfl | apply Q_y rfl rfl rfl); (first | exact q_A | exact q_5 | exact q_B | (first | exact q_26 | first | exact R_neInt rfl rfl rfl | exact R_neStr rfl rfl rfl | exact R_neBool tabOk rfl rfl rfl rfl | exact R_neSelf tabOk noStand rfl rfl rfl rfl rfl rfl rfl (by kernel_rfl)))) | refine O_nil ?_ | refine Q_nil ?_ | refine q_j ?_ | refine q_k ?_ | refine q_d ?_ | refine q_a ?_ | refine q_b ?_ | refine q_c ?_ | refine A_ct rfl ?_ | refine A_cf rfl ?_ | refine A_skip ?_ | refine A_exit ?_ | refine A_ret ?_ | refine q_l ?_ | refine q_m ?_ | refine q_n ?_ | refine q_h ?_ | refine q_o ?_ | refine q_e ?_ | refine q_f ?_ | refine q_g ?_ | fail)
      refine A_loop (fun j : Nat => [(2, .iptr [sD nm, cD kd, .sl (vrfs.flatMap s1D) vrfs.length, .sl (ifs.flatMap ifxD) ifs.length, .sl (fils.flatMap filD) fils.length, .sl (rws.flatMap rwrD) rws.length, .sl (sts.flatMap staD) sts.length, .sl (pls.flatMap plstD) pls.length, .sl (cls.flatMap clstD) cls.length, .sl (pols.flatMap polD) pols.length, .sl (osp.flatMap ospD) osp.length, .sl (bgp.flatMap bgiD) bgp.length] 0), (3, .iptr [sD nm, cD kd, .sl (vrfs.flatMap s1D) vrfs.length, .sl (ifs.flatMap ifxD) ifs.length, .sl (fils.flatMap filD) fils.length, .sl (rws.flatMap rwrD) rws.length, .sl (sts.flatMap staD) sts.length, .sl (pls.flatMap plstD) pls.length, .sl (cls.flatMap clstD) cls.length, .sl (pols.flatMap polD) pols.length, .sl (osp.flatMap ospD) osp.length, .sl (bgp.flatMap bgiD) bgp.length] 0), (14, intA (k : Int)), (15, .ptr 15 0), (16, .ptr 16 0), (17, intA (j : Int))]) (fun _ => [(15, .var [.d (sD b1), .d (.sl (b2.flatMap memD) b2.length)]), (16, .var [.d (sD b1), .d (.sl (b2.flatMap memD) b2.length)])]) (fun j => j ≤ b2.length) (fun j => b2.length - j) 0 (Nat.zero_le _) (Wk_sel ⟨rfl, rfl, rfl, rfl, rfl, rfl, trivial⟩ ⟨rfl, rfl, trivial⟩) ?_
      intro j hjl
      try dsimp only
      by_cases hj : j < b2.length
      · have ga : b2[j].all.length * 4 ≤ 140737488351232 := (gm _ (List.getElem_mem hj)).2
        obtain ⟨m1, m2, hmj⟩ : ∃ m1 m2, b2[j] = ⟨m1, m2⟩ := ⟨_, _, rfl⟩
        rw [hmj] at ga
        have ga : m2.length * 4 ≤ 140737488351232 := ga
        have hc := numbersSelf_A m2 (by omega)
        have hv0 : win (b2.flatMap memD) (j * 2 + 0) 1 = [bD m1] := (win_flat memD_len b2 j 0 1 hj (by decide)).trans (by rw [hmj]; rfl)
        have hv1 : win (b2.flatMap memD) (j * 2 + 1) 1 = [.sl (m2.flatMap u1D) m2.length] := (win_flat memD_len b2 j 1 1 hj (by decide)).trans (by rw [hmj]; rfl)
        repeat (first | refine A_seq ?_ | refine A_block ?_ | refine R_list ?_ | refine R_quiet rfl mixed (by kernel_rfl) ?_ | ((first | apply O_y rfl rfl rfl | apply Q_y rfl rfl rfl); (first | exact q_A | exact R_loadi tabOk rfl rfl rfl rfl (by first | exact hv0 | exact hv1 | rfl) rfl rfl | exact q_B | (first | exact R_index (j := j) tabOk rfl rfl rfl rfl rfl rfl hj | exact q_26 | first | exact R_neInt rfl rfl rfl | exact R_neStr rfl rfl rfl | exact R_neBool tabOk rfl rfl rfl rfl | exact R_neSelf tabOk noStand rfl rfl rfl rfl rfl rfl rfl (by kernel_rfl)))) | refine O_nil ?_ | refine Q_nil ?_ | refine q_j ?_ | refine q_k ?_ | refine q_d ?_ | refine q_a ?_ | refine q_b ?_ | refine q_c ?_ | refine A_ct rfl ?_ | refine A_cf rfl ?_ | refine A_skip ?_ | refine A_exit ?_ | refine A_ret ?_ | refine q_l ?_ | refine q_m ?_ | refine q_n ?_ | refine q_h ?_ | refine q_o ?_ | refine q_e ?_ | refine q_f ?_ | refine q_g ?_ | refine Q_c rfl rfl rfl rfl rfl hc rfl (fun _ _ _ => val_mk _ _ _ _ _ rfl rfl) ?_)
        exact ⟨j + 1, by omega, by omega, Wk_sel ⟨rfl, rfl, rfl, rfl, rfl, rfl, trivial⟩ ⟨rfl, rfl, trivial⟩⟩
      obtain rfl : j = b2.length := by omega
      repeat (first | refine A_seq ?_ | refine A_block ?_ | refine R_list ?_ | refine R_quiet rfl mixed (by kernel_rfl) ?_ | ((first | apply O_y rfl rfl rfl | apply Q_y rfl rfl rfl); (first | exact q_A | exact q_5 | exact q_B | fail)) | refine O_nil ?_ | refine Q_nil ?_ | refine q_j ?_ | refine q_k ?_ | refine q_d ?_ | refine q_a ?_ | refine q_b ?_ | refine q_c ?_ | refine A_ct rfl ?_ | refine A_cf rfl ?_ | refine A_skip ?_ | refine A_exit ?_ | refine A_ret ?_ | refine q_l ?_ | refine q_m ?_ | refine q_n ?_ | refine q_h ?_ | refine q_o ?_ | refine q_e ?_ | refine q_f ?_ | refine q_g ?_ | fail)
      exact ⟨k + 1, by omega, by omega, Wk_sel ⟨rfl, rfl, rfl, trivial⟩ trivial⟩
  obtain rfl : k = cls.length := by omega
  repeat (first | refine A_seq ?_ | refine A_block ?_ | refine R_list ?_ | refine R_quiet rfl mixed (by kernel_rfl) ?_ | ((first | apply O_y rfl rfl rfl | apply Q_y rfl rfl rfl); (first | exact q_A | exact q_5 | exact q_B | fail)) | refine O_nil ?_ | refine Q_nil ?_ | refine q_j ?_ | refine q_k ?_ | refine q_d ?_ | refine q_a ?_ | refine q_b ?_ | refine q_c ?_ | refine A_ct rfl ?_ | refine A_cf rfl ?_ | refine A_skip ?_ | refine A_exit ?_ | refine A_ret ?_ | refine q_l ?_ | refine q_m ?_ | refine q_n ?_ | refine q_h ?_ | refine q_o ?_ | refine q_e ?_ | refine q_f ?_ | refine q_g ?_ | refine O_c rfl rfl rfl rfl rfl heq (fun _ => rfl) ?_)
  exact X_ret rfl ⟨rfl, rfl⟩
end Go.Proofs.Ytmljmahlpcdhoaa.Ab

namespace Go.Proofs.Ytmljmahlpcdhoaa.Ab
set_option linter.unusedVariables false
open Go.RowKit
section
variable {P : Program} {nt : Nat} {Q : Post} {e : Env} {h : Heap} {z : Bool}
theorem A_label {l : Nat} (H : Q .normal e h) : AWp z P nt (.label l) Q e h := fun lq Pm F w0 pin ι a w _ R => wpIn_label ⟨ι, e, h, H, R⟩
theorem A_scope {c : Code} (hq : ∀ l e h, ¬ Q (.goto l) e h) (H : AWp true P nt c Q e h) : AWp true P nt (.scope c) Q e h := fun lq Pm F w0 pin ι a w hz R => by
  have hl : lq = none := hz rfl
  subst hl
  have h1 : c.wp P (real Pm F w0 pin nt Q) a w := wpIn_wide (n := 0).1 (H none Pm F w0 pin ι a w hz R)
  refine (wpIn_wide (n := 0)).2 (wp_scope_straight fun b k cs => ?_)
  obtain ⟨x, a', w', hx, hr⟩ := h1 b k cs
  refine ⟨x, a', w', ?_, hr⟩
  cases x with
  | goto l => obtain ⟨ι', e', h', hx, _⟩ := hx; exact (hq l e' h' hx).elim
  | normal => exact hx
  | exit id => exact hx
  | ret => exact hx
  | panic ch => exact hx
  | outgrown => exact hx
theorem ng_post {tab : TTab} {rs : List ResultVar} {R : AVal → Heap → Prop} (l : Nat) (e : Env) (h : Heap) : ¬ APost nt tab rs R (.goto l) e h := fun h => h
end
end Go.Proofs.Ytmljmahlpcdhoaa.Ab

namespace Go.Proofs.Ytmljmahlpcdhoaa.Ab
set_option linter.unusedVariables false
set_option maxRecDepth 100000
open Go.RowKit
section
variable {P : Program} {nt : Nat} {Q : Post} {e : Env} {h : Heap} {ops : Array Oper} {o : Oper} {rest : List Oper} {T : List Nat}
theorem E_callPV {f : FuncId} {x0 : Operand} {args : Array Operand} {ats : Array TypeId} {cs0 cs1 caps cs : List AVal} {h0 : Heap} {d : Option Tmp} {Q : AVal → Heap → Prop} (ρ : List (Nat × Nat)) (ho : o.op = .call { callee := .value x0, args := args, argTypes := ats }) (hdst : o.dst = d) (hfn : aev e x0 = some (.fn f caps)) (hx : aevs e args.toList = some cs1) (hcc : cs1 ++ caps = cs0)
    (hcs : cs.map (renV ρ) = cs0) (hok : ∀ c ∈ cs, okV ρ c = true) (hl : Lent ρ h h0) (hdom : ∀ p i, look ρ p = some i → 1000 ≤ p ∧ (look h0 p).isSome = true) (hinj : ∀ p p' i, look ρ p = some i → look ρ p' = some i → p = p')
    (H : ACall P f cs h0 Q) (hd : dstOk nt d = true) (hT : ∀ p i, look ρ p = some i → T.contains i = true) (hq : ∀ c h', Q c h' → ∀ p i, look ρ p = some i → (look h' p).isSome = true) :
    AEff P nt T e h o (fun e' h2 => ∃ c h', Q c h' ∧ e' = aput d (renV ρ c) e ∧ h2 = renH ρ h' ++ h) := fun Pm F w0 pin ι a w R K Qx hK => by
  have hfv := aev_rel R.env hfn
  generalize hau : a.eval x0 = u0 at hfv
  cases hfv with
  | fn _ _ C hlC hhC =>
  unfold Oper.wp
  rw [run_callV H.1 ho hau, Oper.upon_enter, hdst]
  have HR := R.heap
  let ι0 : Nat → Option Value := fun p => match look ρ p with | some i => ι i | none => none
  have h0some : ∀ p v, ι0 p = some v → ∃ i, look ρ p = some i ∧ ι i = some v := fun p v hv => by
    simp only [ι0] at hv
    cases hp : look ρ p with
    | none => rw [hp] at hv; cases hv
    | some i => rw [hp] at hv; exact ⟨i, rfl, hv⟩
  have h0of : ∀ p i, look ρ p = some i → ι0 p = ι i := fun p i hp => by simp only [ι0, hp]
  let F' : Nat → Prop := fun r => F r ∨ ∃ id v, ι id = some v ∧ blockOf v = some r ∧ ∀ p, look ρ p ≠ some id
  let Pm' : Nat → Prop := fun r => w.heap.size ≤ r ∨ ∃ p v, ι0 p = some v ∧ blockOf v = some r
  have hFdown : ExtF w F ι w F' ι0 := ⟨fun _ _ _ => rfl, fun r _ hf => ⟨fun hc => hc.elim hf.1 fun ⟨id, v, h1, h2, _⟩ => hf.2 id v h1 h2, fun p v hv hb => by
    obtain ⟨i, _, h2⟩ := h0some p v hv
    exact hf.2 i v h2 hb⟩⟩
  have HC : HRel Pm' F' w ι0 ι0 h0 w := by
    refine ⟨fun p b hb => ?_, fun p v hv => ?_, fun p q v v' r hpq hv hv' hr => ?_, fun p v r hv hr => .inr ⟨p, v, hv, hr⟩, rfl, rfl, rfl, Nat.le_refl _, fun _ _ _ => rfl, fun r hr => .inl hr, fun p v _ hv => hv, fun p v r hv hr hF' => ?_, fun r hr => ?_⟩
    · obtain ⟨i, h1, h2, h3⟩ := hl.get hb
      obtain ⟨v, hv, hB⟩ := HR.blk i _ h2
      exact ⟨v, by rw [h0of p i h1]; exact hv, hB.down h3 hFdown h0some⟩
    · obtain ⟨i, h1, h2⟩ := h0some p v hv
      exact Option.isSome_iff_exists.1 (hdom p i h1).2
    · obtain ⟨i, h1, h2⟩ := h0some p v hv
      obtain ⟨j, h3, h4⟩ := h0some q v' hv'
      exact HR.inj i j v v' r (by rintro rfl; exact hpq (hinj p q i h1 h3)) h2 h4 hr
    · obtain ⟨i, h1, h2⟩ := h0some p v hv
      rcases hF' with h3 | ⟨id, v', h3, h4, h5⟩
      · exact HR.nf i v r h2 hr h3
      · have : i ≠ id := by rintro rfl; exact h5 p h1
        exact HR.inj i id v v' r this h2 h3 hr h4
    · rcases hr with h1 | ⟨id, v, h1, h2, _⟩
      · exact Nat.lt_of_lt_of_le (HR.forb r h1) HR.size
      · exact HR.lt h1 h2
  have HA : ArgsRel w F' ι0 cs (args.map a.eval ++ C) := by
    have : ArgsRel w F ι cs0 (args.map a.eval ++ C) := by rw [← hcc]; exact args_app (args_of R.env hx) ⟨hlC, hhC⟩
    refine ⟨by rw [this.1, ← hcs, List.length_map], fun i c u h1 h2 => (this.2 i (renV ρ c) u (by rw [← hcs, List.getElem?_map, h1]; rfl) h2).down (hok c (List.mem_of_getElem? h1)) hFdown h0some⟩
  refine (H.2 Pm' F' w ι0 ι0 _ w HC HA).mono ?_
  rintro x w' ⟨u, c, h', ι', rfl, hQ, hH, hv⟩
  have hsz := hH.size
  have hkeep : ∀ r, r < w.heap.size → (∀ p i v, look ρ p = some i → ι i = some v → blockOf v ≠ some r) → w'.heap[r]? = w.heap[r]? := fun r hr hn => hH.keep r hr fun hp => by
    rcases hp with h1 | ⟨p, v, h1, h2⟩
    · omega
    · obtain ⟨i, h3, h4⟩ := h0some p v h1
      exact hn p i v h3 h4 h2
  have hpin : ∀ p i, look ρ p = some i → ∀ v, ι i = some v → ι' p = some v := fun p i hp v hv => by
    obtain ⟨b, hb⟩ := Option.isSome_iff_exists.1 (hq c h' hQ p i hp)
    obtain ⟨v', hv', _⟩ := hH.blk p b hb
    have := hH.pinned p v' (hdom p i hp).1 hv'
    rw [h0of p i hp, hv] at this
    cases this
    exact hv'
  have hFup : ExtF w' F' ι' w' F ι := ⟨fun _ _ _ => rfl, fun r _ hf => ⟨fun hc => hf.1 (.inl hc), fun id v hid hb => by
    by_cases hex : ∃ p, look ρ p = some id
    · obtain ⟨p, hp⟩ := hex
      exact hf.2 p v (hpin p id hp v hid) hb
    · exact hf.1 (.inr ⟨id, v, hid, hb, fun p hp => hex ⟨p, hp⟩⟩)⟩⟩
  have hext : Ext w F ι w' ι := ⟨fun r hr hf => hkeep r hr fun p i v hp hi hb => hf.2 i v hi hb, fun r _ hf => hf⟩
  have hheap : HRel Pm F w0 pin ι (renH ρ h' ++ h) w' := by
    refine ⟨fun id b hb => ?_, fun id v hv => ?_, HR.inj, HR.pm, hH.os.trans HR.os, hH.tape.trans HR.tape, hH.output.trans HR.output, Nat.le_trans HR.size hsz, fun r hr hn => ?_, HR.fresh, HR.pinned, HR.nf, HR.forb⟩
    · rw [look_append] at hb
      cases hl2 : look (renH ρ h') id with
      | some b' =>
        rw [hl2] at hb
        cases hb
        obtain ⟨p, b0, h1, h2, h3⟩ := (look_renH hinj h' id).1 b hl2
        subst h3
        obtain ⟨v', hv', hB⟩ := hH.blk p b0 h2
        have h4 := hH.pinned p v' (hdom p id h1).1 hv'
        rw [h0of p id h1] at h4
        exact ⟨v', h4, hB.up hFup hpin⟩
      | none =>
        rw [hl2] at hb
        have hb2 : look h id = some b := hb
        have hno : ∀ p, look ρ p ≠ some id := fun p hp => by
          have h1 := (look_renH hinj h' id).2 hl2 p hp
          have h2 := hq c h' hQ p id hp
          rw [h1] at h2; cases h2
        obtain ⟨v, hv, hB⟩ := HR.blk id b hb2
        refine ⟨v, hv, hB.ext hext (fun _ _ h => h) fun r hr => hkeep r (HR.lt hv hr) fun p i v2 hp hi hb3 => ?_⟩
        exact HR.inj i id v2 v r (by rintro rfl; exact hno p hp) hi hv hb3 hr
    · obtain ⟨b, hb⟩ := HR.dom id v hv
      rw [look_append]
      cases hl2 : look (renH ρ h') id with
      | some b' => exact ⟨b', rfl⟩
      | none => exact ⟨b, hb⟩
    · rw [hkeep r (Nat.lt_of_lt_of_le hr HR.size) fun p i v hp hi hb => hn (HR.pm i v r hi hb)]
      exact HR.keep r hr hn
  have R2 : Rel Pm F w0 pin ι nt e (renH ρ h' ++ h) a w' := ⟨hheap, R.env.mono fun _ _ _ _ hv => hv.ext hext fun _ _ _ h => h, R.defers.ext hext, R.size⟩
  exact hK ι _ _ _ w' ⟨c, h', hQ, rfl, rfl⟩ (R2.put hd (hv.up hFup hpin)) ⟨⟨hH.os, hH.tape, hH.output, hsz, fun r hr hne => hkeep r hr fun p i v hp hi hb => hne i (List.contains_iff_mem.1 (hT p i hp)) v hi hb⟩, fun id _ v r h1 h2 _ => ⟨v, h1, h2⟩⟩ (put_defers _ _ _)
theorem O_cPV {f : FuncId} {x0 : Operand} {args : Array Operand} {ats : Array TypeId} {cs0 cs1 caps cs : List AVal} {h0 h1 : Heap} {c : AVal} {d : Nat} (ρ : List (Nat × Nat)) (hinj : ∀ p p' i, look ρ p = some i → look ρ p' = some i → p = p') (hdom : ∀ p i, look ρ p = some i → 1000 ≤ p ∧ (look h0 p).isSome = true ∧ (look h1 p).isSome = true)
    (H : ACall P f cs h0 (fun c' h' => c' = c ∧ h' = h1)) (hok : ∀ c ∈ cs, okV ρ c = true) (hl : Lent ρ h h0) (hw : awant ops e o = some true) (hdst : o.dst = some d) (hd : Nat.blt d nt = true) (ho : o.op = .call { callee := .value x0, args := args, argTypes := ats }) (hfn : aev e x0 = some (.fn f caps)) (hx : aevs e args.toList = some cs1) (hcc : cs1 ++ caps = cs0)
    (hcs : cs.map (renV ρ) = cs0) (HK : AOps P nt ops Q rest ((d, renV ρ c) :: e) (renH ρ h1 ++ h)) : AOps P nt ops Q (o :: rest) e h :=
  O_eff (T := ρ.map (·.2)) hw (E_callPV ρ ho hdst hfn hx hcc hcs hok hl (fun p i hp => ⟨(hdom p i hp).1, (hdom p i hp).2.1⟩) hinj H hd (fun p i hp => by
    have : ∀ (ρ : List (Nat × Nat)), look ρ p = some i → i ∈ ρ.map (·.2) := by
      intro ρ
      induction ρ with
      | nil => intro h; cases h
      | cons q r ih =>
        obtain ⟨a, b⟩ := q
        intro h
        by_cases ha : a = p
        · subst ha; rw [look_cons_same] at h; cases h; simp
        · rw [look_cons_ne _ _ ha] at h; have := ih h; simp at this ⊢; exact .inr this
    exact List.contains_iff_mem.2 (this ρ hp)) (fun c' h' ⟨h3, h4⟩ p i hp => by subst h4; exact (hdom p i hp).2.2)) fun e' h' ⟨c', h2, ⟨h3, h4⟩, h5, h6⟩ => by subst h3 h4 h5 h6; exact HK
end
end Go.Proofs.Ytmljmahlpcdhoaa.Ab

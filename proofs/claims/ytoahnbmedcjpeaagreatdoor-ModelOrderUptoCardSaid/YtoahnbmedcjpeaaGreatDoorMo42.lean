/-
 Texts of a proof, one behind the other (part 43).
-/
import Derived.Test.YtoahnbmedcjpeaaGreatDoorMo1
import Derived.Test.YtoahnbmedcjpeaaGreatDoorMo3
import Derived.Test.YtoahnbmedcjpeaaGreatDoorMo41
set_option linter.unusedSimpArgs false
set_option linter.unusedVariables false
namespace Go.Proofs.YtoahnbmedcjpeaaGreatDoor.Ab
set_option maxRecDepth 100000
open Go.RowKit Go.Lib
attribute [local irreducible] AWp AOps AQ AYield AEff ACall AWk AAny AAt AThen AIn APost NoPanic
theorem qqbq0 {T : List Nat} {e : Env} {h : Heap} {o : Oper} {c : AVal} (hy : AYield Tryz.prog T e h o c := by first | exact q_8 | exact q_7 | exact q_1 | exact zP rfl rfl rfl | exact zS rfl rfl rfl | exact zH za rfl rfl rfl rfl | exact q_26 | exact q_20 | exact q_9 | exact q_2) : AYield Tryz.prog T e h o c := hy
set_option maxHeartbeats 16000000 in
theorem zkL (d : Dvc) (hd : d.ok) : ACall Tryz.prog 73 [dvcA d, dvcA d] [] (Just (boolA true)) := by
 have hb2 : d.vrfs.length ≤ 140737488355328 := by have : d.vrfs.length * 16 ≤ 140737488351232 := hd.b2; omega
 have hb3 : d.ifs.length ≤ 140737488355328 := by have : d.ifs.length * 120 ≤ 140737488351232 := hd.b3; omega
 have hb4 : d.fils.length ≤ 140737488355328 := by have : d.fils.length * 40 ≤ 140737488351232 := hd.b4; omega
 have hb5 : d.rws.length ≤ 140737488355328 := by have : d.rws.length * 32 ≤ 140737488351232 := hd.b5; omega
 have hb6 : d.sts.length ≤ 140737488355328 := by have : d.sts.length * 56 ≤ 140737488351232 := hd.b6; omega
 have hb7 : d.pls.length ≤ 140737488355328 := by have : d.pls.length * 40 ≤ 140737488351232 := hd.b7; omega
 have hb8 : d.cls.length ≤ 140737488355328 := by have : d.cls.length * 40 ≤ 140737488351232 := hd.b8; omega
 have hb9 : d.pols.length ≤ 140737488355328 := by have : d.pols.length * 48 ≤ 140737488351232 := hd.b9; omega
 have hb10 : d.osp.length ≤ 140737488355328 := by have : d.osp.length * 48 ≤ 140737488351232 := hd.b10; omega
 have hb11 : d.bgp.length ≤ 140737488355328 := by have : d.bgp.length * 96 ≤ 140737488351232 := hd.b11; omega
 have q4 := hd.fils
 have q7 := hd.pls
 have q8 := hd.cls
 have q9 := hd.pols
 have q10 := hd.osp
 have q11 := hd.bgp
 clear hd
 obtain ⟨nm, kd, vrfs, ifs, fils, rws, sts, pls, cls, pols, osp, bgp⟩ := d
 dsimp only at hb2 hb3 hb4 hb5 hb6 hb7 hb8 hb9 hb10 hb11 q4 q7 q8 q9 q10 q11
 refine zb za Tryz.func73 rfl Tryz.ntmps73 (congrArg Array.toList Tryz.results73) (by kernel_rfl) rfl ?_
 refine zt ?_
 refine zi ?_
 refine q_d ?_
 refine z6 (zC (id := 2) (ds := [sD nm, cD kd, .sl (vrfs.flatMap s1D) vrfs.length, .sl (ifs.flatMap ifxD) ifs.length, .sl (fils.flatMap filD) fils.length, .sl (rws.flatMap rwrD) rws.length, .sl (sts.flatMap staD) sts.length, .sl (pls.flatMap plstD) pls.length, .sl (cls.flatMap clstD) cls.length, .sl (pols.flatMap polD) pols.length, .sl (osp.flatMap ospD) osp.length, .sl (bgp.flatMap bgiD) bgp.length]) rfl rfl) ?_
 refine q_d ?_
 refine z6 (zC (id := 3) (ds := [sD nm, cD kd, .sl (vrfs.flatMap s1D) vrfs.length, .sl (ifs.flatMap ifxD) ifs.length, .sl (fils.flatMap filD) fils.length, .sl (rws.flatMap rwrD) rws.length, .sl (sts.flatMap staD) sts.length, .sl (pls.flatMap plstD) pls.length, .sl (cls.flatMap clstD) cls.length, .sl (pols.flatMap polD) pols.length, .sl (osp.flatMap ospD) osp.length, .sl (bgp.flatMap bgiD) bgp.length]) rfl rfl) ?_
 repeat (first | refine q_Y ?_ | ((first | apply q_K rfl | apply q_X rfl); (exact q_H)) | refine q_U ?_)
 refine zw (fun k : Nat => [(2, .iptr [sD nm, cD kd, .sl (vrfs.flatMap s1D) vrfs.length, .sl (ifs.flatMap ifxD) ifs.length, .sl (fils.flatMap filD) fils.length, .sl (rws.flatMap rwrD) rws.length, .sl (sts.flatMap staD) sts.length, .sl (pls.flatMap plstD) pls.length, .sl (cls.flatMap clstD) cls.length, .sl (pols.flatMap polD) pols.length, .sl (osp.flatMap ospD) osp.length, .sl (bgp.flatMap bgiD) bgp.length] 0), (3, .iptr [sD nm, cD kd, .sl (vrfs.flatMap s1D) vrfs.length, .sl (ifs.flatMap ifxD) ifs.length, .sl (fils.flatMap filD) fils.length, .sl (rws.flatMap rwrD) rws.length, .sl (sts.flatMap staD) sts.length, .sl (pls.flatMap plstD) pls.length, .sl (cls.flatMap clstD) cls.length, .sl (pols.flatMap polD) pols.length, .sl (osp.flatMap ospD) osp.length, .sl (bgp.flatMap bgiD) bgp.length] 0), (5, intA (k : Int))]) (fun _ => []) (fun k => k ≤ pols.length) (fun k => pols.length - k) 0 (Nat.zero_le _) (q_S) ?_
 intro k hkl
 try dsimp only
 by_cases hk : k < pols.length
 ·have hcs : pols[k].cs.length ≤ 140737488355328 := by have : pols[k].cs.length * 168 ≤ 140737488351232 := (q9 _ (List.getElem_mem hk)).2; omega
  have hcc := (q9 _ (List.getElem_mem hk)).1
  obtain ⟨pn, cs, pd, hpn⟩ : ∃ pn cs pd, pols[k] = ⟨pn, cs, pd⟩ := ⟨_, _, _, rfl⟩
  rw [hpn] at hcs hcc
  dsimp only at hcs hcc
  have hw0 : win (pols.flatMap polD) (k * 3) 3 = [sD pn, .sl (cs.flatMap clsD) cs.length, bD pd] := (zj zan pols k 3 hk (by decide)).trans (by rw [hpn]; rfl)
  repeat (first | refine q_Z ?_ | ((first | apply q_K rfl | apply q_X rfl); (first | exact q_A | exact q_R (w := (by first | exact hw0 | rfl)) | exact q_B | (first | exact q_I k hk | first | exact zP rfl rfl rfl | exact zS rfl rfl rfl | exact zH za rfl rfl rfl rfl | exact zJ za zO rfl rfl rfl rfl rfl rfl rfl (by kernel_rfl)))) | refine q_U ?_)
  refine zad [6, 7] mixed ?_
  apply q_P 0 rfl (by kernel_rfl) rfl rfl rfl
  exact q_4
  apply q_P 1 rfl (by kernel_rfl) rfl rfl rfl
  exact q_R (w := (by first | exact hw0 | rfl))
  apply q_P 2 rfl (by kernel_rfl) rfl rfl rfl
  exact q_1
  apply q_P 3 rfl (by kernel_rfl) rfl rfl rfl
  exact q_I k hk
  apply q_P 4 rfl (by kernel_rfl) rfl rfl rfl
  exact q_R (w := (by first | exact hw0 | rfl))
  apply q_P 5 rfl (by kernel_rfl) rfl rfl rfl
  exact q_4
  apply q_P 6 rfl (by kernel_rfl) rfl rfl rfl
  exact q_R (w := (by first | exact hw0 | rfl))
  apply q_P 7 rfl (by kernel_rfl) rfl rfl rfl
  exact q_1
  apply q_P 8 rfl (by kernel_rfl) rfl rfl rfl
  exact q_I k hk
  apply q_P 9 rfl (by kernel_rfl) rfl rfl rfl
  exact q_R (w := (by first | exact hw0 | rfl))
  refine zal (j := 10) (k := 11) (by kernel_rfl) ?_ ?_
  ·refine zaa za rfl rfl rfl rfl rfl rfl rfl ?_
   refine ze (j := 11) (by kernel_rfl) ?_
   refine zaa za rfl rfl rfl rfl rfl rfl rfl ?_
   refine ze (j := 12) (by kernel_rfl) ?_
   refine zD za rfl rfl rfl rfl rfl rfl rfl rfl rfl rfl rfl rfl rfl ?_
   refine ze (j := 13) (by kernel_rfl) ?_
   refine zD za rfl rfl rfl rfl rfl rfl rfl rfl rfl rfl rfl rfl rfl ?_
   refine zQ (by kernel_rfl) ?_
   refine q_j ?_
   refine zd (q_S (e1 := [(2, .iptr [sD nm, cD kd, .sl (vrfs.flatMap s1D) vrfs.length, .sl (ifs.flatMap ifxD) ifs.length, .sl (fils.flatMap filD) fils.length, .sl (rws.flatMap rwrD) rws.length, .sl (sts.flatMap staD) sts.length, .sl (pls.flatMap plstD) pls.length, .sl (cls.flatMap clstD) cls.length, .sl (pols.flatMap polD) pols.length, .sl (osp.flatMap ospD) osp.length, .sl (bgp.flatMap bgiD) bgp.length] 0), (3, .iptr [sD nm, cD kd, .sl (vrfs.flatMap s1D) vrfs.length, .sl (ifs.flatMap ifxD) ifs.length, .sl (fils.flatMap filD) fils.length, .sl (rws.flatMap rwrD) rws.length, .sl (sts.flatMap staD) sts.length, .sl (pls.flatMap plstD) pls.length, .sl (cls.flatMap clstD) cls.length, .sl (pols.flatMap polD) pols.length, .sl (osp.flatMap ospD) osp.length, .sl (bgp.flatMap bgiD) bgp.length] 0), (5, intA (k : Int)), (6, .ptr 6 0), (7, .ptr 7 0)]) (h1 := [(6, .var [.d (sD pn), .d (.sl (cs.flatMap clsD) cs.length), .d (bD pd)]), (7, .var [.d (sD pn), .d (.sl (cs.flatMap clsD) cs.length), .d (bD pd)])])) ?_
   repeat (first | refine q_Z ?_ | ((first | apply q_K rfl | apply q_X rfl); (first | exact q_H | (first | exact q_26 | first | exact zP rfl rfl rfl | exact zS rfl rfl rfl | exact zH za rfl rfl rfl rfl | exact zJ za zO rfl rfl rfl rfl rfl rfl rfl (by kernel_rfl)))) | refine q_U ?_)
   refine zw (fun j : Nat => [(2, .iptr [sD nm, cD kd, .sl (vrfs.flatMap s1D) vrfs.length, .sl (ifs.flatMap ifxD) ifs.length, .sl (fils.flatMap filD) fils.length, .sl (rws.flatMap rwrD) rws.length, .sl (sts.flatMap staD) sts.length, .sl (pls.flatMap plstD) pls.length, .sl (cls.flatMap clstD) cls.length, .sl (pols.flatMap polD) pols.length, .sl (osp.flatMap ospD) osp.length, .sl (bgp.flatMap bgiD) bgp.length] 0), (3, .iptr [sD nm, cD kd, .sl (vrfs.flatMap s1D) vrfs.length, .sl (ifs.flatMap ifxD) ifs.length, .sl (fils.flatMap filD) fils.length, .sl (rws.flatMap rwrD) rws.length, .sl (sts.flatMap staD) sts.length, .sl (pls.flatMap plstD) pls.length, .sl (cls.flatMap clstD) cls.length, .sl (pols.flatMap polD) pols.length, .sl (osp.flatMap ospD) osp.length, .sl (bgp.flatMap bgiD) bgp.length] 0), (5, intA (k : Int)), (6, .ptr 6 0), (7, .ptr 7 0), (8, intA (j : Int))]) (fun _ => [(6, .var [.d (sD pn), .d (.sl (cs.flatMap clsD) cs.length), .d (bD pd)]), (7, .var [.d (sD pn), .d (.sl (cs.flatMap clsD) cs.length), .d (bD pd)])]) (fun j => j ≤ cs.length) (fun j => cs.length - j) 0 (Nat.zero_le _) (q_S) ?_
   intro j hjl
   try dsimp only
   by_cases hj : j < cs.length
   ·have ha := (hcc _ (List.getElem_mem hj)).b1
    have hb := (hcc _ (List.getElem_mem hj)).b2
    obtain ⟨c1, c2, c3, c4, c5, c6, c7, c8, c9, c10, c11, c12, c13, c14, c15, hcj⟩ : ∃ c1 c2 c3 c4 c5 c6 c7 c8 c9 c10 c11 c12 c13 c14 c15, cs[j] = ⟨c1, c2, c3, c4, c5, c6, c7, c8, c9, c10, c11, c12, c13, c14, c15⟩ := ⟨_, _, _, _, _, _, _, _, _, _, _, _, _, _, _, rfl⟩
    rw [hcj] at ha hb
    have ha : c11.length * 4 ≤ 140737488351232 := ha
    have hb : c13.length * 4 ≤ 140737488351232 := hb
    have hn1 := zaM c11 (by omega)
    have hn2 := zaM c13 (by omega)
    have hw3 : win (cs.flatMap clsD) (j * 15) 15 = [iD c1, cD c2, sD c3, sD c4, iD c5, iD c6, iD c7, iD c8, iD c9, iD c10, .sl (c11.flatMap u1D) c11.length, bD c12, .sl (c13.flatMap u1D) c13.length, uD c14, iD c15] := (zj zcs cs j 15 hj (by decide)).trans (by rw [hcj]; rfl)
    repeat (first | refine q_Z ?_ | ((first | apply q_K rfl | apply q_X rfl); (exact q_H)) | refine q_U ?_)
    refine zad [9, 10] mixed ?_
    apply q_P 0 rfl (by kernel_rfl) rfl rfl rfl
    exact q_8
    apply q_P 1 rfl (by kernel_rfl) rfl rfl rfl
    exact q_7
    apply q_P 2 rfl (by kernel_rfl) rfl rfl rfl
    exact q_1
    apply q_P 3 rfl (by kernel_rfl) rfl rfl rfl
    exact q_I j hj
    apply q_P 4 rfl (by kernel_rfl) rfl rfl rfl
    exact q_R (w := (by first | exact hw3 | rfl))
    apply q_P 5 rfl (by kernel_rfl) rfl rfl rfl
    exact q_8
    apply q_P 6 rfl (by kernel_rfl) rfl rfl rfl
    exact q_7
    apply q_P 7 rfl (by kernel_rfl) rfl rfl rfl
    exact q_1
    apply q_P 8 rfl (by kernel_rfl) rfl rfl rfl
    exact q_I j hj
    apply q_P 9 rfl (by kernel_rfl) rfl rfl rfl
    exact q_R (w := (by first | exact hw3 | rfl))
    refine zal (j := 10) (k := 11) (by kernel_rfl) ?_ ?_
    ·refine zaa za rfl rfl rfl rfl rfl rfl rfl ?_
     refine ze (j := 11) (by kernel_rfl) ?_
     refine zaa za rfl rfl rfl rfl rfl rfl rfl ?_
     refine ze (j := 12) (by kernel_rfl) ?_
     refine zD za rfl rfl rfl rfl rfl rfl rfl rfl rfl rfl rfl rfl rfl ?_
     refine ze (j := 13) (by kernel_rfl) ?_
     refine zD za rfl rfl rfl rfl rfl rfl rfl rfl rfl rfl rfl rfl rfl ?_
     refine zQ (by kernel_rfl) ?_
     refine q_j ?_
     refine zd (q_S (e1 := [(2, .iptr [sD nm, cD kd, .sl (vrfs.flatMap s1D) vrfs.length, .sl (ifs.flatMap ifxD) ifs.length, .sl (fils.flatMap filD) fils.length, .sl (rws.flatMap rwrD) rws.length, .sl (sts.flatMap staD) sts.length, .sl (pls.flatMap plstD) pls.length, .sl (cls.flatMap clstD) cls.length, .sl (pols.flatMap polD) pols.length, .sl (osp.flatMap ospD) osp.length, .sl (bgp.flatMap bgiD) bgp.length] 0), (3, .iptr [sD nm, cD kd, .sl (vrfs.flatMap s1D) vrfs.length, .sl (ifs.flatMap ifxD) ifs.length, .sl (fils.flatMap filD) fils.length, .sl (rws.flatMap rwrD) rws.length, .sl (sts.flatMap staD) sts.length, .sl (pls.flatMap plstD) pls.length, .sl (cls.flatMap clstD) cls.length, .sl (pols.flatMap polD) pols.length, .sl (osp.flatMap ospD) osp.length, .sl (bgp.flatMap bgiD) bgp.length] 0), (5, intA (k : Int)), (6, .ptr 6 0), (7, .ptr 7 0), (8, intA (j : Int)), (9, .ptr 9 0), (10, .ptr 10 0)]) (h1 := [(6, .var [.d (sD pn), .d (.sl (cs.flatMap clsD) cs.length), .d (bD pd)]), (7, .var [.d (sD pn), .d (.sl (cs.flatMap clsD) cs.length), .d (bD pd)]), (9, .var [.d (iD c1), .d (cD c2), .d (sD c3), .d (sD c4), .d (iD c5), .d (iD c6), .d (iD c7), .d (iD c8), .d (iD c9), .d (iD c10), .d (.sl (c11.flatMap u1D) c11.length), .d (bD c12), .d (.sl (c13.flatMap u1D) c13.length), .d (uD c14), .d (iD c15)]), (10, .var [.d (iD c1), .d (cD c2), .d (sD c3), .d (sD c4), .d (iD c5), .d (iD c6), .d (iD c7), .d (iD c8), .d (iD c9), .d (iD c10), .d (.sl (c11.flatMap u1D) c11.length), .d (bD c12), .d (.sl (c13.flatMap u1D) c13.length), .d (uD c14), .d (iD c15)])])) ?_
     repeat (first | refine zt ?_ | refine zz ?_ | refine zi ?_ | (apply O_y rfl rfl rfl; (exact qqbq0)) | refine q_O hn1 ?_ | refine q_O hn2 ?_ | refine zo ?_ | refine q_j ?_ | refine q_k ?_ | refine A_cf rfl ?_ | refine zM ?_)
     exact ⟨j + 1, by omega, by omega, q_S⟩
    ·refine zaa za rfl rfl rfl rfl rfl rfl rfl ?_
     refine ze (j := 10) (by kernel_rfl) ?_
     refine zaa za rfl rfl rfl rfl rfl rfl rfl ?_
     refine ze (j := 12) (by kernel_rfl) ?_
     refine zD za rfl rfl rfl rfl rfl rfl rfl rfl rfl rfl rfl rfl rfl ?_
     refine ze (j := 13) (by kernel_rfl) ?_
     refine zD za rfl rfl rfl rfl rfl rfl rfl rfl rfl rfl rfl rfl rfl ?_
     refine zQ (by kernel_rfl) ?_
     refine q_j ?_
     refine zd (q_S (e1 := [(2, .iptr [sD nm, cD kd, .sl (vrfs.flatMap s1D) vrfs.length, .sl (ifs.flatMap ifxD) ifs.length, .sl (fils.flatMap filD) fils.length, .sl (rws.flatMap rwrD) rws.length, .sl (sts.flatMap staD) sts.length, .sl (pls.flatMap plstD) pls.length, .sl (cls.flatMap clstD) cls.length, .sl (pols.flatMap polD) pols.length, .sl (osp.flatMap ospD) osp.length, .sl (bgp.flatMap bgiD) bgp.length] 0), (3, .iptr [sD nm, cD kd, .sl (vrfs.flatMap s1D) vrfs.length, .sl (ifs.flatMap ifxD) ifs.length, .sl (fils.flatMap filD) fils.length, .sl (rws.flatMap rwrD) rws.length, .sl (sts.flatMap staD) sts.length, .sl (pls.flatMap plstD) pls.length, .sl (cls.flatMap clstD) cls.length, .sl (pols.flatMap polD) pols.length, .sl (osp.flatMap ospD) osp.length, .sl (bgp.flatMap bgiD) bgp.length] 0), (5, intA (k : Int)), (6, .ptr 6 0), (7, .ptr 7 0), (8, intA (j : Int)), (9, .ptr 9 0), (10, .ptr 10 0)]) (h1 := [(6, .var [.d (sD pn), .d (.sl (cs.flatMap clsD) cs.length), .d (bD pd)]), (7, .var [.d (sD pn), .d (.sl (cs.flatMap clsD) cs.length), .d (bD pd)]), (9, .var [.d (iD c1), .d (cD c2), .d (sD c3), .d (sD c4), .d (iD c5), .d (iD c6), .d (iD c7), .d (iD c8), .d (iD c9), .d (iD c10), .d (.sl (c11.flatMap u1D) c11.length), .d (bD c12), .d (.sl (c13.flatMap u1D) c13.length), .d (uD c14), .d (iD c15)]), (10, .var [.d (iD c1), .d (cD c2), .d (sD c3), .d (sD c4), .d (iD c5), .d (iD c6), .d (iD c7), .d (iD c8), .d (iD c9), .d (iD c10), .d (.sl (c11.flatMap u1D) c11.length), .d (bD c12), .d (.sl (c13.flatMap u1D) c13.length), .d (uD c14), .d (iD c15)])])) ?_
     repeat (first | refine zt ?_ | refine zz ?_ | refine zi ?_ | (apply O_y rfl rfl rfl; (exact qqbq0)) | refine q_O hn1 ?_ | refine q_O hn2 ?_ | refine zo ?_ | refine q_j ?_ | refine q_k ?_ | refine A_cf rfl ?_ | refine zM ?_)
     exact ⟨j + 1, by omega, by omega, q_S⟩
   obtain rfl : j = cs.length := by omega
   repeat (first | refine q_Z ?_ | ((first | apply q_K rfl | apply q_X rfl); (exact q_H)) | refine q_U ?_)
   exact ⟨k + 1, by omega, by omega, q_S⟩
  ·refine zaa za rfl rfl rfl rfl rfl rfl rfl ?_
   refine ze (j := 10) (by kernel_rfl) ?_
   refine zaa za rfl rfl rfl rfl rfl rfl rfl ?_
   refine ze (j := 12) (by kernel_rfl) ?_
   refine zD za rfl rfl rfl rfl rfl rfl rfl rfl rfl rfl rfl rfl rfl ?_
   refine ze (j := 13) (by kernel_rfl) ?_
   refine zD za rfl rfl rfl rfl rfl rfl rfl rfl rfl rfl rfl rfl rfl ?_
   refine zQ (by kernel_rfl) ?_
   refine q_j ?_
   refine zd (q_S (e1 := [(2, .iptr [sD nm, cD kd, .sl (vrfs.flatMap s1D) vrfs.length, .sl (ifs.flatMap ifxD) ifs.length, .sl (fils.flatMap filD) fils.length, .sl (rws.flatMap rwrD) rws.length, .sl (sts.flatMap staD) sts.length, .sl (pls.flatMap plstD) pls.length, .sl (cls.flatMap clstD) cls.length, .sl (pols.flatMap polD) pols.length, .sl (osp.flatMap ospD) osp.length, .sl (bgp.flatMap bgiD) bgp.length] 0), (3, .iptr [sD nm, cD kd, .sl (vrfs.flatMap s1D) vrfs.length, .sl (ifs.flatMap ifxD) ifs.length, .sl (fils.flatMap filD) fils.length, .sl (rws.flatMap rwrD) rws.length, .sl (sts.flatMap staD) sts.length, .sl (pls.flatMap plstD) pls.length, .sl (cls.flatMap clstD) cls.length, .sl (pols.flatMap polD) pols.length, .sl (osp.flatMap ospD) osp.length, .sl (bgp.flatMap bgiD) bgp.length] 0), (5, intA (k : Int)), (6, .ptr 6 0), (7, .ptr 7 0)]) (h1 := [(6, .var [.d (sD pn), .d (.sl (cs.flatMap clsD) cs.length), .d (bD pd)]), (7, .var [.d (sD pn), .d (.sl (cs.flatMap clsD) cs.length), .d (bD pd)])])) ?_
   repeat (first | refine q_Z ?_ | ((first | apply q_K rfl | apply q_X rfl); (first | exact q_H | (first | exact q_26 | first | exact zP rfl rfl rfl | exact zS rfl rfl rfl | exact zH za rfl rfl rfl rfl | exact zJ za zO rfl rfl rfl rfl rfl rfl rfl (by kernel_rfl)))) | refine q_U ?_)
   refine zw (fun j : Nat => [(2, .iptr [sD nm, cD kd, .sl (vrfs.flatMap s1D) vrfs.length, .sl (ifs.flatMap ifxD) ifs.length, .sl (fils.flatMap filD) fils.length, .sl (rws.flatMap rwrD) rws.length, .sl (sts.flatMap staD) sts.length, .sl (pls.flatMap plstD) pls.length, .sl (cls.flatMap clstD) cls.length, .sl (pols.flatMap polD) pols.length, .sl (osp.flatMap ospD) osp.length, .sl (bgp.flatMap bgiD) bgp.length] 0), (3, .iptr [sD nm, cD kd, .sl (vrfs.flatMap s1D) vrfs.length, .sl (ifs.flatMap ifxD) ifs.length, .sl (fils.flatMap filD) fils.length, .sl (rws.flatMap rwrD) rws.length, .sl (sts.flatMap staD) sts.length, .sl (pls.flatMap plstD) pls.length, .sl (cls.flatMap clstD) cls.length, .sl (pols.flatMap polD) pols.length, .sl (osp.flatMap ospD) osp.length, .sl (bgp.flatMap bgiD) bgp.length] 0), (5, intA (k : Int)), (6, .ptr 6 0), (7, .ptr 7 0), (8, intA (j : Int))]) (fun _ => [(6, .var [.d (sD pn), .d (.sl (cs.flatMap clsD) cs.length), .d (bD pd)]), (7, .var [.d (sD pn), .d (.sl (cs.flatMap clsD) cs.length), .d (bD pd)])]) (fun j => j ≤ cs.length) (fun j => cs.length - j) 0 (Nat.zero_le _) (q_S) ?_
   intro j hjl
   try dsimp only
   by_cases hj : j < cs.length
   ·have ha := (hcc _ (List.getElem_mem hj)).b1
    have hb := (hcc _ (List.getElem_mem hj)).b2
    obtain ⟨c1, c2, c3, c4, c5, c6, c7, c8, c9, c10, c11, c12, c13, c14, c15, hcj⟩ : ∃ c1 c2 c3 c4 c5 c6 c7 c8 c9 c10 c11 c12 c13 c14 c15, cs[j] = ⟨c1, c2, c3, c4, c5, c6, c7, c8, c9, c10, c11, c12, c13, c14, c15⟩ := ⟨_, _, _, _, _, _, _, _, _, _, _, _, _, _, _, rfl⟩
    rw [hcj] at ha hb
    have ha : c11.length * 4 ≤ 140737488351232 := ha
    have hb : c13.length * 4 ≤ 140737488351232 := hb
    have hn1 := zaM c11 (by omega)
    have hn2 := zaM c13 (by omega)
    have hw3 : win (cs.flatMap clsD) (j * 15) 15 = [iD c1, cD c2, sD c3, sD c4, iD c5, iD c6, iD c7, iD c8, iD c9, iD c10, .sl (c11.flatMap u1D) c11.length, bD c12, .sl (c13.flatMap u1D) c13.length, uD c14, iD c15] := (zj zcs cs j 15 hj (by decide)).trans (by rw [hcj]; rfl)
    repeat (first | refine q_Z ?_ | ((first | apply q_K rfl | apply q_X rfl); (exact q_H)) | refine q_U ?_)
    refine zad [9, 10] mixed ?_
    apply q_P 0 rfl (by kernel_rfl) rfl rfl rfl
    exact q_8
    apply q_P 1 rfl (by kernel_rfl) rfl rfl rfl
    exact q_7
    apply q_P 2 rfl (by kernel_rfl) rfl rfl rfl
    exact q_1
    apply q_P 3 rfl (by kernel_rfl) rfl rfl rfl
    exact q_I j hj
    apply q_P 4 rfl (by kernel_rfl) rfl rfl rfl
    exact q_R (w := (by first | exact hw3 | rfl))
    apply q_P 5 rfl (by kernel_rfl) rfl rfl rfl
    exact q_8
    apply q_P 6 rfl (by kernel_rfl) rfl rfl rfl
    exact q_7
    apply q_P 7 rfl (by kernel_rfl) rfl rfl rfl
    exact q_1
    apply q_P 8 rfl (by kernel_rfl) rfl rfl rfl
    exact q_I j hj
    apply q_P 9 rfl (by kernel_rfl) rfl rfl rfl
    exact q_R (w := (by first | exact hw3 | rfl))
    refine zal (j := 10) (k := 11) (by kernel_rfl) ?_ ?_
    ·refine zaa za rfl rfl rfl rfl rfl rfl rfl ?_
     refine ze (j := 11) (by kernel_rfl) ?_
     refine zaa za rfl rfl rfl rfl rfl rfl rfl ?_
     refine ze (j := 12) (by kernel_rfl) ?_
     refine zD za rfl rfl rfl rfl rfl rfl rfl rfl rfl rfl rfl rfl rfl ?_
     refine ze (j := 13) (by kernel_rfl) ?_
     refine zD za rfl rfl rfl rfl rfl rfl rfl rfl rfl rfl rfl rfl rfl ?_
     refine zQ (by kernel_rfl) ?_
     refine q_j ?_
     refine zd (q_S (e1 := [(2, .iptr [sD nm, cD kd, .sl (vrfs.flatMap s1D) vrfs.length, .sl (ifs.flatMap ifxD) ifs.length, .sl (fils.flatMap filD) fils.length, .sl (rws.flatMap rwrD) rws.length, .sl (sts.flatMap staD) sts.length, .sl (pls.flatMap plstD) pls.length, .sl (cls.flatMap clstD) cls.length, .sl (pols.flatMap polD) pols.length, .sl (osp.flatMap ospD) osp.length, .sl (bgp.flatMap bgiD) bgp.length] 0), (3, .iptr [sD nm, cD kd, .sl (vrfs.flatMap s1D) vrfs.length, .sl (ifs.flatMap ifxD) ifs.length, .sl (fils.flatMap filD) fils.length, .sl (rws.flatMap rwrD) rws.length, .sl (sts.flatMap staD) sts.length, .sl (pls.flatMap plstD) pls.length, .sl (cls.flatMap clstD) cls.length, .sl (pols.flatMap polD) pols.length, .sl (osp.flatMap ospD) osp.length, .sl (bgp.flatMap bgiD) bgp.length] 0), (5, intA (k : Int)), (6, .ptr 6 0), (7, .ptr 7 0), (8, intA (j : Int)), (9, .ptr 9 0), (10, .ptr 10 0)]) (h1 := [(6, .var [.d (sD pn), .d (.sl (cs.flatMap clsD) cs.length), .d (bD pd)]), (7, .var [.d (sD pn), .d (.sl (cs.flatMap clsD) cs.length), .d (bD pd)]), (9, .var [.d (iD c1), .d (cD c2), .d (sD c3), .d (sD c4), .d (iD c5), .d (iD c6), .d (iD c7), .d (iD c8), .d (iD c9), .d (iD c10), .d (.sl (c11.flatMap u1D) c11.length), .d (bD c12), .d (.sl (c13.flatMap u1D) c13.length), .d (uD c14), .d (iD c15)]), (10, .var [.d (iD c1), .d (cD c2), .d (sD c3), .d (sD c4), .d (iD c5), .d (iD c6), .d (iD c7), .d (iD c8), .d (iD c9), .d (iD c10), .d (.sl (c11.flatMap u1D) c11.length), .d (bD c12), .d (.sl (c13.flatMap u1D) c13.length), .d (uD c14), .d (iD c15)])])) ?_
     repeat (first | refine zt ?_ | refine zz ?_ | refine zi ?_ | (apply O_y rfl rfl rfl; (exact qqbq0)) | refine q_O hn1 ?_ | refine q_O hn2 ?_ | refine zo ?_ | refine q_j ?_ | refine q_k ?_ | refine A_cf rfl ?_ | refine zM ?_)
     exact ⟨j + 1, by omega, by omega, q_S⟩
    ·refine zaa za rfl rfl rfl rfl rfl rfl rfl ?_
     refine ze (j := 10) (by kernel_rfl) ?_
     refine zaa za rfl rfl rfl rfl rfl rfl rfl ?_
     refine ze (j := 12) (by kernel_rfl) ?_
     refine zD za rfl rfl rfl rfl rfl rfl rfl rfl rfl rfl rfl rfl rfl ?_
     refine ze (j := 13) (by kernel_rfl) ?_
     refine zD za rfl rfl rfl rfl rfl rfl rfl rfl rfl rfl rfl rfl rfl ?_
     refine zQ (by kernel_rfl) ?_
     refine q_j ?_
     refine zd (q_S (e1 := [(2, .iptr [sD nm, cD kd, .sl (vrfs.flatMap s1D) vrfs.length, .sl (ifs.flatMap ifxD) ifs.length, .sl (fils.flatMap filD) fils.length, .sl (rws.flatMap rwrD) rws.length, .sl (sts.flatMap staD) sts.length, .sl (pls.flatMap plstD) pls.length, .sl (cls.flatMap clstD) cls.length, .sl (pols.flatMap polD) pols.length, .sl (osp.flatMap ospD) osp.length, .sl (bgp.flatMap bgiD) bgp.length] 0), (3, .iptr [sD nm, cD kd, .sl (vrfs.flatMap s1D) vrfs.length, .sl (ifs.flatMap ifxD) ifs.length, .sl (fils.flatMap filD) fils.length, .sl (rws.flatMap rwrD) rws.length, .sl (sts.flatMap staD) sts.length, .sl (pls.flatMap plstD) pls.length, .sl (cls.flatMap clstD) cls.length, .sl (pols.flatMap polD) pols.length, .sl (osp.flatMap ospD) osp.length, .sl (bgp.flatMap bgiD) bgp.length] 0), (5, intA (k : Int)), (6, .ptr 6 0), (7, .ptr 7 0), (8, intA (j : Int)), (9, .ptr 9 0), (10, .ptr 10 0)]) (h1 := [(6, .var [.d (sD pn), .d (.sl (cs.flatMap clsD) cs.length), .d (bD pd)]), (7, .var [.d (sD pn), .d (.sl (cs.flatMap clsD) cs.length), .d (bD pd)]), (9, .var [.d (iD c1), .d (cD c2), .d (sD c3), .d (sD c4), .d (iD c5), .d (iD c6), .d (iD c7), .d (iD c8), .d (iD c9), .d (iD c10), .d (.sl (c11.flatMap u1D) c11.length), .d (bD c12), .d (.sl (c13.flatMap u1D) c13.length), .d (uD c14), .d (iD c15)]), (10, .var [.d (iD c1), .d (cD c2), .d (sD c3), .d (sD c4), .d (iD c5), .d (iD c6), .d (iD c7), .d (iD c8), .d (iD c9), .d (iD c10), .d (.sl (c11.flatMap u1D) c11.length), .d (bD c12), .d (.sl (c13.flatMap u1D) c13.length), .d (uD c14), .d (iD c15)])])) ?_
     repeat (first | refine zt ?_ | refine zz ?_ | refine zi ?_ | (apply O_y rfl rfl rfl; (exact qqbq0)) | refine q_O hn1 ?_ | refine q_O hn2 ?_ | refine zo ?_ | refine q_j ?_ | refine q_k ?_ | refine A_cf rfl ?_ | refine zM ?_)
     exact ⟨j + 1, by omega, by omega, q_S⟩
   obtain rfl : j = cs.length := by omega
   repeat (first | refine q_Z ?_ | ((first | apply q_K rfl | apply q_X rfl); (exact q_H)) | refine q_U ?_)
   exact ⟨k + 1, by omega, by omega, q_S⟩
 obtain rfl : k = pols.length := by omega
 repeat (first | refine q_Z ?_ | ((first | apply q_K rfl | apply q_X rfl); (exact q_H)) | refine q_U ?_)
 refine zw (fun k : Nat => [(2, .iptr [sD nm, cD kd, .sl (vrfs.flatMap s1D) vrfs.length, .sl (ifs.flatMap ifxD) ifs.length, .sl (fils.flatMap filD) fils.length, .sl (rws.flatMap rwrD) rws.length, .sl (sts.flatMap staD) sts.length, .sl (pls.flatMap plstD) pls.length, .sl (cls.flatMap clstD) cls.length, .sl (pols.flatMap polD) pols.length, .sl (osp.flatMap ospD) osp.length, .sl (bgp.flatMap bgiD) bgp.length] 0), (3, .iptr [sD nm, cD kd, .sl (vrfs.flatMap s1D) vrfs.length, .sl (ifs.flatMap ifxD) ifs.length, .sl (fils.flatMap filD) fils.length, .sl (rws.flatMap rwrD) rws.length, .sl (sts.flatMap staD) sts.length, .sl (pls.flatMap plstD) pls.length, .sl (cls.flatMap clstD) cls.length, .sl (pols.flatMap polD) pols.length, .sl (osp.flatMap ospD) osp.length, .sl (bgp.flatMap bgiD) bgp.length] 0), (11, intA (k : Int))]) (fun _ => []) (fun k => k ≤ osp.length) (fun k => osp.length - k) 0 (Nat.zero_le _) (q_S) ?_
 intro k hkl
 try dsimp only
 by_cases hk : k < osp.length
 ·have hr : osp[k].fr.length * 40 ≤ 140737488351232 := q10 _ (List.getElem_mem hk)
  obtain ⟨b1, b2, b3, hbk⟩ : ∃ b1 b2 b3, osp[k] = ⟨b1, b2, b3⟩ := ⟨_, _, _, rfl⟩
  rw [hbk] at hr
  have hr : b3.length * 40 ≤ 140737488351232 := hr
  have hc := zcR b3 (by omega)
  have hw0 : win (osp.flatMap ospD) (k * 3 + 0) 1 = [sD b1] := (zx z8 osp k 0 1 hk (by decide)).trans (by rw [hbk]; rfl)
  have hw1 : win (osp.flatMap ospD) (k * 3 + 1) 1 = [uD b2] := (zx z8 osp k 1 1 hk (by decide)).trans (by rw [hbk]; rfl)
  have hw2 : win (osp.flatMap ospD) (k * 3 + 2) 1 = [.sl (b3.flatMap rdsD) b3.length] := (zx z8 osp k 2 1 hk (by decide)).trans (by rw [hbk]; rfl)
  repeat (first | refine q_Y ?_ | ((first | apply q_K rfl | apply q_X rfl); (first | exact q_A | exact q_R (w := (by first | exact hw0 | exact hw1 | exact hw2 | rfl)) | exact q_B | (first | exact q_I k hk | exact q_26 | first | exact zP rfl rfl rfl | exact zS rfl rfl rfl | exact zH za rfl rfl rfl rfl | exact zJ za zO rfl rfl rfl rfl rfl rfl rfl (by kernel_rfl)))) | refine q_U ?_ | refine q_Q hc ?_)
  exact ⟨k + 1, by omega, by omega, q_S⟩
 obtain rfl : k = osp.length := by omega
 repeat (first | refine q_Y ?_ | ((first | apply q_K rfl | apply q_X rfl); (exact q_H)) | refine q_U ?_)
 refine zw (fun k : Nat => [(2, .iptr [sD nm, cD kd, .sl (vrfs.flatMap s1D) vrfs.length, .sl (ifs.flatMap ifxD) ifs.length, .sl (fils.flatMap filD) fils.length, .sl (rws.flatMap rwrD) rws.length, .sl (sts.flatMap staD) sts.length, .sl (pls.flatMap plstD) pls.length, .sl (cls.flatMap clstD) cls.length, .sl (pols.flatMap polD) pols.length, .sl (osp.flatMap ospD) osp.length, .sl (bgp.flatMap bgiD) bgp.length] 0), (3, .iptr [sD nm, cD kd, .sl (vrfs.flatMap s1D) vrfs.length, .sl (ifs.flatMap ifxD) ifs.length, .sl (fils.flatMap filD) fils.length, .sl (rws.flatMap rwrD) rws.length, .sl (sts.flatMap staD) sts.length, .sl (pls.flatMap plstD) pls.length, .sl (cls.flatMap clstD) cls.length, .sl (pols.flatMap polD) pols.length, .sl (osp.flatMap ospD) osp.length, .sl (bgp.flatMap bgiD) bgp.length] 0), (12, intA (k : Int))]) (fun _ => []) (fun k => k ≤ bgp.length) (fun k => bgp.length - k) 0 (Nat.zero_le _) (q_S) ?_
 intro k hkl
 try dsimp only
 by_cases hk : k < bgp.length
 ·have g := q11 _ (List.getElem_mem hk)
  obtain ⟨b1, b2, b3, b4, b5, b6, hbk⟩ : ∃ b1 b2 b3 b4 b5 b6, bgp[k] = ⟨b1, b2, b3, b4, b5, b6⟩ := ⟨_, _, _, _, _, _, rfl⟩
  rw [hbk] at g
  have g1 : b4.length * 16 ≤ 140737488351232 := g.1
  have g2 : b5.length * 48 ≤ 140737488351232 := g.2.1
  have g3 : b6.length * 40 ≤ 140737488351232 := g.2.2
  have hc1 := zgj b4 (by omega)
  have hc2 := zcR b6 (by omega)
  have hw0 : win (bgp.flatMap bgiD) (k * 6) 6 = [sD b1, uD b2, uD b3, .sl (b4.flatMap pfxD) b4.length, .sl (b5.flatMap perD) b5.length, .sl (b6.flatMap rdsD) b6.length] := (zj za1 bgp k 6 hk (by decide)).trans (by rw [hbk]; rfl)
  repeat (first | refine q_Z ?_ | ((first | apply q_K rfl | apply q_X rfl); (first | exact q_A | exact q_R (w := (by first | exact hw0 | rfl)) | exact q_B | (first | exact q_I k hk | first | exact zP rfl rfl rfl | exact zS rfl rfl rfl | exact zH za rfl rfl rfl rfl | exact zJ za zO rfl rfl rfl rfl rfl rfl rfl (by kernel_rfl)))) | refine q_U ?_)
  refine zad [13, 14] mixed ?_
  apply q_P 0 rfl (by kernel_rfl) rfl rfl rfl
  exact q_4
  apply q_P 1 rfl (by kernel_rfl) rfl rfl rfl
  exact q_R (w := (by first | exact hw0 | rfl))
  apply q_P 2 rfl (by kernel_rfl) rfl rfl rfl
  exact q_1
  apply q_P 3 rfl (by kernel_rfl) rfl rfl rfl
  exact q_I k hk
  apply q_P 4 rfl (by kernel_rfl) rfl rfl rfl
  exact q_R (w := (by first | exact hw0 | rfl))
  apply q_P 5 rfl (by kernel_rfl) rfl rfl rfl
  exact q_4
  apply q_P 6 rfl (by kernel_rfl) rfl rfl rfl
  exact q_R (w := (by first | exact hw0 | rfl))
  apply q_P 7 rfl (by kernel_rfl) rfl rfl rfl
  exact q_1
  apply q_P 8 rfl (by kernel_rfl) rfl rfl rfl
  exact q_I k hk
  apply q_P 9 rfl (by kernel_rfl) rfl rfl rfl
  exact q_R (w := (by first | exact hw0 | rfl))
  refine zal (j := 10) (k := 11) (by kernel_rfl) ?_ ?_
  ·refine zaa za rfl rfl rfl rfl rfl rfl rfl ?_
   refine ze (j := 11) (by kernel_rfl) ?_
   refine zaa za rfl rfl rfl rfl rfl rfl rfl ?_
   refine ze (j := 12) (by kernel_rfl) ?_
   refine zD za rfl rfl rfl rfl rfl rfl rfl rfl rfl rfl rfl rfl rfl ?_
   refine ze (j := 13) (by kernel_rfl) ?_
   refine zD za rfl rfl rfl rfl rfl rfl rfl rfl rfl rfl rfl rfl rfl ?_
   refine zQ (by kernel_rfl) ?_
   refine q_j ?_
   refine zd (q_S (e1 := [(2, .iptr [sD nm, cD kd, .sl (vrfs.flatMap s1D) vrfs.length, .sl (ifs.flatMap ifxD) ifs.length, .sl (fils.flatMap filD) fils.length, .sl (rws.flatMap rwrD) rws.length, .sl (sts.flatMap staD) sts.length, .sl (pls.flatMap plstD) pls.length, .sl (cls.flatMap clstD) cls.length, .sl (pols.flatMap polD) pols.length, .sl (osp.flatMap ospD) osp.length, .sl (bgp.flatMap bgiD) bgp.length] 0), (3, .iptr [sD nm, cD kd, .sl (vrfs.flatMap s1D) vrfs.length, .sl (ifs.flatMap ifxD) ifs.length, .sl (fils.flatMap filD) fils.length, .sl (rws.flatMap rwrD) rws.length, .sl (sts.flatMap staD) sts.length, .sl (pls.flatMap plstD) pls.length, .sl (cls.flatMap clstD) cls.length, .sl (pols.flatMap polD) pols.length, .sl (osp.flatMap ospD) osp.length, .sl (bgp.flatMap bgiD) bgp.length] 0), (12, intA (k : Int)), (13, .ptr 13 0), (14, .ptr 14 0)]) (h1 := [(13, .var [.d (sD b1), .d (uD b2), .d (uD b3), .d (.sl (b4.flatMap pfxD) b4.length), .d (.sl (b5.flatMap perD) b5.length), .d (.sl (b6.flatMap rdsD) b6.length)]), (14, .var [.d (sD b1), .d (uD b2), .d (uD b3), .d (.sl (b4.flatMap pfxD) b4.length), .d (.sl (b5.flatMap perD) b5.length), .d (.sl (b6.flatMap rdsD) b6.length)])])) ?_
   repeat (first | refine q_Z ?_ | ((first | apply q_K rfl | apply q_X rfl); (first | exact q_H | (first | exact q_26 | first | exact zP rfl rfl rfl | exact zS rfl rfl rfl | exact zH za rfl rfl rfl rfl | exact zJ za zO rfl rfl rfl rfl rfl rfl rfl (by kernel_rfl)))) | refine q_U ?_ | (first | refine q_O hc1 ?_ | refine q_O hc2 ?_))
   refine zw (fun j : Nat => [(2, .iptr [sD nm, cD kd, .sl (vrfs.flatMap s1D) vrfs.length, .sl (ifs.flatMap ifxD) ifs.length, .sl (fils.flatMap filD) fils.length, .sl (rws.flatMap rwrD) rws.length, .sl (sts.flatMap staD) sts.length, .sl (pls.flatMap plstD) pls.length, .sl (cls.flatMap clstD) cls.length, .sl (pols.flatMap polD) pols.length, .sl (osp.flatMap ospD) osp.length, .sl (bgp.flatMap bgiD) bgp.length] 0), (3, .iptr [sD nm, cD kd, .sl (vrfs.flatMap s1D) vrfs.length, .sl (ifs.flatMap ifxD) ifs.length, .sl (fils.flatMap filD) fils.length, .sl (rws.flatMap rwrD) rws.length, .sl (sts.flatMap staD) sts.length, .sl (pls.flatMap plstD) pls.length, .sl (cls.flatMap clstD) cls.length, .sl (pols.flatMap polD) pols.length, .sl (osp.flatMap ospD) osp.length, .sl (bgp.flatMap bgiD) bgp.length] 0), (12, intA (k : Int)), (13, .ptr 13 0), (14, .ptr 14 0), (15, intA (j : Int))]) (fun _ => [(13, .var [.d (sD b1), .d (uD b2), .d (uD b3), .d (.sl (b4.flatMap pfxD) b4.length), .d (.sl (b5.flatMap perD) b5.length), .d (.sl (b6.flatMap rdsD) b6.length)]), (14, .var [.d (sD b1), .d (uD b2), .d (uD b3), .d (.sl (b4.flatMap pfxD) b4.length), .d (.sl (b5.flatMap perD) b5.length), .d (.sl (b6.flatMap rdsD) b6.length)])]) (fun j => j ≤ b5.length) (fun j => b5.length - j) 0 (Nat.zero_le _) (q_S) ?_
   intro j hjl
   try dsimp only
   by_cases hj : j < b5.length
   ·
    repeat (first | refine q_Y ?_ | ((first | apply q_K rfl | apply q_X rfl); (first | exact q_A | exact q_R (w := (by first | exact zj za8 b5 j _ hj (by decide) | exact zx za8 b5 j _ _ hj (by decide) | exact zR za8 b5 j _ _ _ hj (by decide) | rfl)) | exact q_B | (first | exact q_I j hj | first | exact zP rfl rfl rfl | exact zS rfl rfl rfl | exact zH za rfl rfl rfl rfl | exact zJ za zO rfl rfl rfl rfl rfl rfl rfl (by kernel_rfl)))) | refine q_U ?_)
    exact ⟨j + 1, by omega, by omega, q_S⟩
   obtain rfl : j = b5.length := by omega
   repeat (first | refine q_Y ?_ | ((first | apply q_K rfl | apply q_X rfl); (exact q_H)) | refine q_U ?_)
   exact ⟨k + 1, by omega, by omega, q_S⟩
  ·refine zaa za rfl rfl rfl rfl rfl rfl rfl ?_
   refine ze (j := 10) (by kernel_rfl) ?_
   refine zaa za rfl rfl rfl rfl rfl rfl rfl ?_
   refine ze (j := 12) (by kernel_rfl) ?_
   refine zD za rfl rfl rfl rfl rfl rfl rfl rfl rfl rfl rfl rfl rfl ?_
   refine ze (j := 13) (by kernel_rfl) ?_
   refine zD za rfl rfl rfl rfl rfl rfl rfl rfl rfl rfl rfl rfl rfl ?_
   refine zQ (by kernel_rfl) ?_
   refine q_j ?_
   refine zd (q_S (e1 := [(2, .iptr [sD nm, cD kd, .sl (vrfs.flatMap s1D) vrfs.length, .sl (ifs.flatMap ifxD) ifs.length, .sl (fils.flatMap filD) fils.length, .sl (rws.flatMap rwrD) rws.length, .sl (sts.flatMap staD) sts.length, .sl (pls.flatMap plstD) pls.length, .sl (cls.flatMap clstD) cls.length, .sl (pols.flatMap polD) pols.length, .sl (osp.flatMap ospD) osp.length, .sl (bgp.flatMap bgiD) bgp.length] 0), (3, .iptr [sD nm, cD kd, .sl (vrfs.flatMap s1D) vrfs.length, .sl (ifs.flatMap ifxD) ifs.length, .sl (fils.flatMap filD) fils.length, .sl (rws.flatMap rwrD) rws.length, .sl (sts.flatMap staD) sts.length, .sl (pls.flatMap plstD) pls.length, .sl (cls.flatMap clstD) cls.length, .sl (pols.flatMap polD) pols.length, .sl (osp.flatMap ospD) osp.length, .sl (bgp.flatMap bgiD) bgp.length] 0), (12, intA (k : Int)), (13, .ptr 13 0), (14, .ptr 14 0)]) (h1 := [(13, .var [.d (sD b1), .d (uD b2), .d (uD b3), .d (.sl (b4.flatMap pfxD) b4.length), .d (.sl (b5.flatMap perD) b5.length), .d (.sl (b6.flatMap rdsD) b6.length)]), (14, .var [.d (sD b1), .d (uD b2), .d (uD b3), .d (.sl (b4.flatMap pfxD) b4.length), .d (.sl (b5.flatMap perD) b5.length), .d (.sl (b6.flatMap rdsD) b6.length)])])) ?_
   repeat (first | refine q_Z ?_ | ((first | apply q_K rfl | apply q_X rfl); (first | exact q_H | (first | exact q_26 | first | exact zP rfl rfl rfl | exact zS rfl rfl rfl | exact zH za rfl rfl rfl rfl | exact zJ za zO rfl rfl rfl rfl rfl rfl rfl (by kernel_rfl)))) | refine q_U ?_ | (first | refine q_O hc1 ?_ | refine q_O hc2 ?_))
   refine zw (fun j : Nat => [(2, .iptr [sD nm, cD kd, .sl (vrfs.flatMap s1D) vrfs.length, .sl (ifs.flatMap ifxD) ifs.length, .sl (fils.flatMap filD) fils.length, .sl (rws.flatMap rwrD) rws.length, .sl (sts.flatMap staD) sts.length, .sl (pls.flatMap plstD) pls.length, .sl (cls.flatMap clstD) cls.length, .sl (pols.flatMap polD) pols.length, .sl (osp.flatMap ospD) osp.length, .sl (bgp.flatMap bgiD) bgp.length] 0), (3, .iptr [sD nm, cD kd, .sl (vrfs.flatMap s1D) vrfs.length, .sl (ifs.flatMap ifxD) ifs.length, .sl (fils.flatMap filD) fils.length, .sl (rws.flatMap rwrD) rws.length, .sl (sts.flatMap staD) sts.length, .sl (pls.flatMap plstD) pls.length, .sl (cls.flatMap clstD) cls.length, .sl (pols.flatMap polD) pols.length, .sl (osp.flatMap ospD) osp.length, .sl (bgp.flatMap bgiD) bgp.length] 0), (12, intA (k : Int)), (13, .ptr 13 0), (14, .ptr 14 0), (15, intA (j : Int))]) (fun _ => [(13, .var [.d (sD b1), .d (uD b2), .d (uD b3), .d (.sl (b4.flatMap pfxD) b4.length), .d (.sl (b5.flatMap perD) b5.length), .d (.sl (b6.flatMap rdsD) b6.length)]), (14, .var [.d (sD b1), .d (uD b2), .d (uD b3), .d (.sl (b4.flatMap pfxD) b4.length), .d (.sl (b5.flatMap perD) b5.length), .d (.sl (b6.flatMap rdsD) b6.length)])]) (fun j => j ≤ b5.length) (fun j => b5.length - j) 0 (Nat.zero_le _) (q_S) ?_
   intro j hjl
   try dsimp only
   by_cases hj : j < b5.length
   ·
    repeat (first | refine q_Y ?_ | ((first | apply q_K rfl | apply q_X rfl); (first | exact q_A | exact q_R (w := (by first | exact zj za8 b5 j _ hj (by decide) | exact zx za8 b5 j _ _ hj (by decide) | exact zR za8 b5 j _ _ _ hj (by decide) | rfl)) | exact q_B | (first | exact q_I j hj | first | exact zP rfl rfl rfl | exact zS rfl rfl rfl | exact zH za rfl rfl rfl rfl | exact zJ za zO rfl rfl rfl rfl rfl rfl rfl (by kernel_rfl)))) | refine q_U ?_)
    exact ⟨j + 1, by omega, by omega, q_S⟩
   obtain rfl : j = b5.length := by omega
   repeat (first | refine q_Y ?_ | ((first | apply q_K rfl | apply q_X rfl); (exact q_H)) | refine q_U ?_)
   exact ⟨k + 1, by omega, by omega, q_S⟩
 obtain rfl : k = bgp.length := by omega
 repeat (first | refine q_Y ?_ | ((first | apply q_K rfl | apply q_X rfl); (exact q_H)) | refine q_U ?_)
 exact zA rfl ⟨rfl, rfl⟩
set_option maxHeartbeats 16000000 in
theorem zi9 (d : Dvc) (hd : d.ok) : ACall Tryz.prog 23 [dvcA d, dvcA d] [] (Just (boolA true)) := by
 have hb2 : d.vrfs.length ≤ 140737488355328 := by have : d.vrfs.length * 16 ≤ 140737488351232 := hd.b2; omega
 have hb3 : d.ifs.length ≤ 140737488355328 := by have : d.ifs.length * 120 ≤ 140737488351232 := hd.b3; omega
 have hb4 : d.fils.length ≤ 140737488355328 := by have : d.fils.length * 40 ≤ 140737488351232 := hd.b4; omega
 have hb5 : d.rws.length ≤ 140737488355328 := by have : d.rws.length * 32 ≤ 140737488351232 := hd.b5; omega
 have hb6 : d.sts.length ≤ 140737488355328 := by have : d.sts.length * 56 ≤ 140737488351232 := hd.b6; omega
 have hb7 : d.pls.length ≤ 140737488355328 := by have : d.pls.length * 40 ≤ 140737488351232 := hd.b7; omega
 have hb8 : d.cls.length ≤ 140737488355328 := by have : d.cls.length * 40 ≤ 140737488351232 := hd.b8; omega
 have hb9 : d.pols.length ≤ 140737488355328 := by have : d.pols.length * 48 ≤ 140737488351232 := hd.b9; omega
 have hb10 : d.osp.length ≤ 140737488355328 := by have : d.osp.length * 48 ≤ 140737488351232 := hd.b10; omega
 have hb11 : d.bgp.length ≤ 140737488355328 := by have : d.bgp.length * 96 ≤ 140737488351232 := hd.b11; omega
 have q4 := hd.fils
 have q7 := hd.pls
 have q8 := hd.cls
 have q9 := hd.pols
 have q10 := hd.osp
 have q11 := hd.bgp
 have heq := zkL d hd
 clear hd
 obtain ⟨nm, kd, vrfs, ifs, fils, rws, sts, pls, cls, pols, osp, bgp⟩ := d
 dsimp only at hb2 hb3 hb4 hb5 hb6 hb7 hb8 hb9 hb10 hb11 q4 q7 q8 q9 q10 q11
 refine zb za Tryz.func23 rfl Tryz.ntmps23 (congrArg Array.toList Tryz.results23) (by kernel_rfl) rfl ?_
 refine zt ?_
 refine zi ?_
 refine q_d ?_
 refine z6 (zC (id := 2) (ds := [sD nm, cD kd, .sl (vrfs.flatMap s1D) vrfs.length, .sl (ifs.flatMap ifxD) ifs.length, .sl (fils.flatMap filD) fils.length, .sl (rws.flatMap rwrD) rws.length, .sl (sts.flatMap staD) sts.length, .sl (pls.flatMap plstD) pls.length, .sl (cls.flatMap clstD) cls.length, .sl (pols.flatMap polD) pols.length, .sl (osp.flatMap ospD) osp.length, .sl (bgp.flatMap bgiD) bgp.length]) rfl rfl) ?_
 refine q_d ?_
 refine z6 (zC (id := 3) (ds := [sD nm, cD kd, .sl (vrfs.flatMap s1D) vrfs.length, .sl (ifs.flatMap ifxD) ifs.length, .sl (fils.flatMap filD) fils.length, .sl (rws.flatMap rwrD) rws.length, .sl (sts.flatMap staD) sts.length, .sl (pls.flatMap plstD) pls.length, .sl (cls.flatMap clstD) cls.length, .sl (pols.flatMap polD) pols.length, .sl (osp.flatMap ospD) osp.length, .sl (bgp.flatMap bgiD) bgp.length]) rfl rfl) ?_
 repeat (first | refine q_Y ?_ | ((first | apply q_K rfl | apply q_X rfl); (first | exact q_H | (first | exact q_26 | first | exact zP rfl rfl rfl | exact zS rfl rfl rfl | exact zH za rfl rfl rfl rfl | exact zJ za zO rfl rfl rfl rfl rfl rfl rfl (by kernel_rfl)))) | refine q_U ?_)
 refine zw (fun k : Nat => [(2, .iptr [sD nm, cD kd, .sl (vrfs.flatMap s1D) vrfs.length, .sl (ifs.flatMap ifxD) ifs.length, .sl (fils.flatMap filD) fils.length, .sl (rws.flatMap rwrD) rws.length, .sl (sts.flatMap staD) sts.length, .sl (pls.flatMap plstD) pls.length, .sl (cls.flatMap clstD) cls.length, .sl (pols.flatMap polD) pols.length, .sl (osp.flatMap ospD) osp.length, .sl (bgp.flatMap bgiD) bgp.length] 0), (3, .iptr [sD nm, cD kd, .sl (vrfs.flatMap s1D) vrfs.length, .sl (ifs.flatMap ifxD) ifs.length, .sl (fils.flatMap filD) fils.length, .sl (rws.flatMap rwrD) rws.length, .sl (sts.flatMap staD) sts.length, .sl (pls.flatMap plstD) pls.length, .sl (cls.flatMap clstD) cls.length, .sl (pols.flatMap polD) pols.length, .sl (osp.flatMap ospD) osp.length, .sl (bgp.flatMap bgiD) bgp.length] 0), (5, intA (k : Int))]) (fun _ => []) (fun k => k ≤ vrfs.length) (fun k => vrfs.length - k) 0 (Nat.zero_le _) (q_S) ?_
 intro k hkl
 try dsimp only
 by_cases hk : k < vrfs.length
 ·
  repeat (first | refine q_Y ?_ | ((first | apply q_K rfl | apply q_X rfl); (first | exact q_A | exact q_R (w := (by first | exact zj za6 vrfs k _ hk (by decide) | exact zx za6 vrfs k _ _ hk (by decide) | exact zR za6 vrfs k _ _ _ hk (by decide) | rfl)) | exact q_B | (first | exact q_I k hk | first | exact zP rfl rfl rfl | exact zS rfl rfl rfl | exact zH za rfl rfl rfl rfl | exact zJ za zO rfl rfl rfl rfl rfl rfl rfl (by kernel_rfl)))) | refine q_U ?_)
  exact ⟨k + 1, by omega, by omega, q_S⟩
 obtain rfl : k = vrfs.length := by omega
 repeat (first | refine q_Y ?_ | ((first | apply q_K rfl | apply q_X rfl); (first | exact q_H | (first | exact q_26 | first | exact zP rfl rfl rfl | exact zS rfl rfl rfl | exact zH za rfl rfl rfl rfl | exact zJ za zO rfl rfl rfl rfl rfl rfl rfl (by kernel_rfl)))) | refine q_U ?_)
 refine zw (fun k : Nat => [(2, .iptr [sD nm, cD kd, .sl (vrfs.flatMap s1D) vrfs.length, .sl (ifs.flatMap ifxD) ifs.length, .sl (fils.flatMap filD) fils.length, .sl (rws.flatMap rwrD) rws.length, .sl (sts.flatMap staD) sts.length, .sl (pls.flatMap plstD) pls.length, .sl (cls.flatMap clstD) cls.length, .sl (pols.flatMap polD) pols.length, .sl (osp.flatMap ospD) osp.length, .sl (bgp.flatMap bgiD) bgp.length] 0), (3, .iptr [sD nm, cD kd, .sl (vrfs.flatMap s1D) vrfs.length, .sl (ifs.flatMap ifxD) ifs.length, .sl (fils.flatMap filD) fils.length, .sl (rws.flatMap rwrD) rws.length, .sl (sts.flatMap staD) sts.length, .sl (pls.flatMap plstD) pls.length, .sl (cls.flatMap clstD) cls.length, .sl (pols.flatMap polD) pols.length, .sl (osp.flatMap ospD) osp.length, .sl (bgp.flatMap bgiD) bgp.length] 0), (6, intA (k : Int))]) (fun _ => []) (fun k => k ≤ ifs.length) (fun k => ifs.length - k) 0 (Nat.zero_le _) (q_S) ?_
 intro k hkl
 try dsimp only
 by_cases hk : k < ifs.length
 ·
  repeat (first | refine q_Y ?_ | ((first | apply q_K rfl | apply q_X rfl); (first | exact q_A | exact q_R (w := (by first | exact zj zao ifs k _ hk (by decide) | exact zx zao ifs k _ _ hk (by decide) | exact zR zao ifs k _ _ _ hk (by decide) | rfl)) | exact q_B | (first | exact q_I k hk | first | exact zP rfl rfl rfl | exact zS rfl rfl rfl | exact zH za rfl rfl rfl rfl | exact zJ za zO rfl rfl rfl rfl rfl rfl rfl (by kernel_rfl)))) | refine q_U ?_)
  exact ⟨k + 1, by omega, by omega, q_S⟩
 obtain rfl : k = ifs.length := by omega
 repeat (first | refine q_Y ?_ | ((first | apply q_K rfl | apply q_X rfl); (first | exact q_H | (first | exact q_26 | first | exact zP rfl rfl rfl | exact zS rfl rfl rfl | exact zH za rfl rfl rfl rfl | exact zJ za zO rfl rfl rfl rfl rfl rfl rfl (by kernel_rfl)))) | refine q_U ?_)
 refine zw (fun k : Nat => [(2, .iptr [sD nm, cD kd, .sl (vrfs.flatMap s1D) vrfs.length, .sl (ifs.flatMap ifxD) ifs.length, .sl (fils.flatMap filD) fils.length, .sl (rws.flatMap rwrD) rws.length, .sl (sts.flatMap staD) sts.length, .sl (pls.flatMap plstD) pls.length, .sl (cls.flatMap clstD) cls.length, .sl (pols.flatMap polD) pols.length, .sl (osp.flatMap ospD) osp.length, .sl (bgp.flatMap bgiD) bgp.length] 0), (3, .iptr [sD nm, cD kd, .sl (vrfs.flatMap s1D) vrfs.length, .sl (ifs.flatMap ifxD) ifs.length, .sl (fils.flatMap filD) fils.length, .sl (rws.flatMap rwrD) rws.length, .sl (sts.flatMap staD) sts.length, .sl (pls.flatMap plstD) pls.length, .sl (cls.flatMap clstD) cls.length, .sl (pols.flatMap polD) pols.length, .sl (osp.flatMap ospD) osp.length, .sl (bgp.flatMap bgiD) bgp.length] 0), (7, intA (k : Int))]) (fun _ => []) (fun k => k ≤ fils.length) (fun k => fils.length - k) 0 (Nat.zero_le _) (q_S) ?_
 intro k hkl
 try dsimp only
 by_cases hk : k < fils.length
 ·have hr : fils[k].rs.length * 64 ≤ 140737488351232 := q4 _ (List.getElem_mem hk)
  obtain ⟨b1, b2, hbk⟩ : ∃ b1 b2, fils[k] = ⟨b1, b2⟩ := ⟨_, _, rfl⟩
  rw [hbk] at hr
  have hr : b2.length * 64 ≤ 140737488351232 := hr
  have hc := zfs b2 (by omega)
  have hw0 : win (fils.flatMap filD) (k * 2 + 0) 1 = [sD b1] := (zx zU fils k 0 1 hk (by decide)).trans (by rw [hbk]; rfl)
  have hw1 : win (fils.flatMap filD) (k * 2 + 1) 1 = [.sl (b2.flatMap rulD) b2.length] := (zx zU fils k 1 1 hk (by decide)).trans (by rw [hbk]; rfl)
  repeat (first | refine q_Y ?_ | ((first | apply q_K rfl | apply q_X rfl); (first | exact q_A | exact q_R (w := (by first | exact hw0 | exact hw1 | rfl)) | exact q_B | (first | exact q_I k hk | exact q_26 | first | exact zP rfl rfl rfl | exact zS rfl rfl rfl | exact zH za rfl rfl rfl rfl | exact zJ za zO rfl rfl rfl rfl rfl rfl rfl (by kernel_rfl)))) | refine q_U ?_ | refine q_Q hc ?_)
  exact ⟨k + 1, by omega, by omega, q_S⟩
 obtain rfl : k = fils.length := by omega
 repeat (first | refine q_Y ?_ | ((first | apply q_K rfl | apply q_X rfl); (exact q_H)) | refine q_U ?_)
 refine zw (fun k : Nat => [(2, .iptr [sD nm, cD kd, .sl (vrfs.flatMap s1D) vrfs.length, .sl (ifs.flatMap ifxD) ifs.length, .sl (fils.flatMap filD) fils.length, .sl (rws.flatMap rwrD) rws.length, .sl (sts.flatMap staD) sts.length, .sl (pls.flatMap plstD) pls.length, .sl (cls.flatMap clstD) cls.length, .sl (pols.flatMap polD) pols.length, .sl (osp.flatMap ospD) osp.length, .sl (bgp.flatMap bgiD) bgp.length] 0), (3, .iptr [sD nm, cD kd, .sl (vrfs.flatMap s1D) vrfs.length, .sl (ifs.flatMap ifxD) ifs.length, .sl (fils.flatMap filD) fils.length, .sl (rws.flatMap rwrD) rws.length, .sl (sts.flatMap staD) sts.length, .sl (pls.flatMap plstD) pls.length, .sl (cls.flatMap clstD) cls.length, .sl (pols.flatMap polD) pols.length, .sl (osp.flatMap ospD) osp.length, .sl (bgp.flatMap bgiD) bgp.length] 0), (8, intA (k : Int))]) (fun _ => []) (fun k => k ≤ rws.length) (fun k => rws.length - k) 0 (Nat.zero_le _) (q_S) ?_
 intro k hkl
 try dsimp only
 by_cases hk : k < rws.length
 ·
  repeat (first | refine q_Y ?_ | ((first | apply q_K rfl | apply q_X rfl); (first | exact q_A | exact q_R (w := (by first | exact zj zbA rws k _ hk (by decide) | exact zx zbA rws k _ _ hk (by decide) | exact zR zbA rws k _ _ _ hk (by decide) | rfl)) | exact q_B | (first | exact q_I k hk | first | exact zP rfl rfl rfl | exact zS rfl rfl rfl | exact zH za rfl rfl rfl rfl | exact zJ za zO rfl rfl rfl rfl rfl rfl rfl (by kernel_rfl)))) | refine q_U ?_)
  exact ⟨k + 1, by omega, by omega, q_S⟩
 obtain rfl : k = rws.length := by omega
 repeat (first | refine q_Y ?_ | ((first | apply q_K rfl | apply q_X rfl); (first | exact q_H | (first | exact q_26 | first | exact zP rfl rfl rfl | exact zS rfl rfl rfl | exact zH za rfl rfl rfl rfl | exact zJ za zO rfl rfl rfl rfl rfl rfl rfl (by kernel_rfl)))) | refine q_U ?_)
 refine zw (fun k : Nat => [(2, .iptr [sD nm, cD kd, .sl (vrfs.flatMap s1D) vrfs.length, .sl (ifs.flatMap ifxD) ifs.length, .sl (fils.flatMap filD) fils.length, .sl (rws.flatMap rwrD) rws.length, .sl (sts.flatMap staD) sts.length, .sl (pls.flatMap plstD) pls.length, .sl (cls.flatMap clstD) cls.length, .sl (pols.flatMap polD) pols.length, .sl (osp.flatMap ospD) osp.length, .sl (bgp.flatMap bgiD) bgp.length] 0), (3, .iptr [sD nm, cD kd, .sl (vrfs.flatMap s1D) vrfs.length, .sl (ifs.flatMap ifxD) ifs.length, .sl (fils.flatMap filD) fils.length, .sl (rws.flatMap rwrD) rws.length, .sl (sts.flatMap staD) sts.length, .sl (pls.flatMap plstD) pls.length, .sl (cls.flatMap clstD) cls.length, .sl (pols.flatMap polD) pols.length, .sl (osp.flatMap ospD) osp.length, .sl (bgp.flatMap bgiD) bgp.length] 0), (9, intA (k : Int))]) (fun _ => []) (fun k => k ≤ sts.length) (fun k => sts.length - k) 0 (Nat.zero_le _) (q_S) ?_
 intro k hkl
 try dsimp only
 by_cases hk : k < sts.length
 ·
  repeat (first | refine q_Y ?_ | ((first | apply q_K rfl | apply q_X rfl); (first | exact q_A | exact q_R (w := (by first | exact zj zaB sts k _ hk (by decide) | exact zx zaB sts k _ _ hk (by decide) | exact zR zaB sts k _ _ _ hk (by decide) | rfl)) | exact q_B | (first | exact q_I k hk | first | exact zP rfl rfl rfl | exact zS rfl rfl rfl | exact zH za rfl rfl rfl rfl | exact zJ za zO rfl rfl rfl rfl rfl rfl rfl (by kernel_rfl)))) | refine q_U ?_)
  exact ⟨k + 1, by omega, by omega, q_S⟩
 obtain rfl : k = sts.length := by omega
 repeat (first | refine q_Y ?_ | ((first | apply q_K rfl | apply q_X rfl); (first | exact q_H | (first | exact q_26 | first | exact zP rfl rfl rfl | exact zS rfl rfl rfl | exact zH za rfl rfl rfl rfl | exact zJ za zO rfl rfl rfl rfl rfl rfl rfl (by kernel_rfl)))) | refine q_U ?_)
 refine zw (fun k : Nat => [(2, .iptr [sD nm, cD kd, .sl (vrfs.flatMap s1D) vrfs.length, .sl (ifs.flatMap ifxD) ifs.length, .sl (fils.flatMap filD) fils.length, .sl (rws.flatMap rwrD) rws.length, .sl (sts.flatMap staD) sts.length, .sl (pls.flatMap plstD) pls.length, .sl (cls.flatMap clstD) cls.length, .sl (pols.flatMap polD) pols.length, .sl (osp.flatMap ospD) osp.length, .sl (bgp.flatMap bgiD) bgp.length] 0), (3, .iptr [sD nm, cD kd, .sl (vrfs.flatMap s1D) vrfs.length, .sl (ifs.flatMap ifxD) ifs.length, .sl (fils.flatMap filD) fils.length, .sl (rws.flatMap rwrD) rws.length, .sl (sts.flatMap staD) sts.length, .sl (pls.flatMap plstD) pls.length, .sl (cls.flatMap clstD) cls.length, .sl (pols.flatMap polD) pols.length, .sl (osp.flatMap ospD) osp.length, .sl (bgp.flatMap bgiD) bgp.length] 0), (10, intA (k : Int))]) (fun _ => []) (fun k => k ≤ pls.length) (fun k => pls.length - k) 0 (Nat.zero_le _) (q_S) ?_
 intro k hkl
 try dsimp only
 by_cases hk : k < pls.length
 ·have g2 : pls[k].es.length * 40 ≤ 140737488351232 := (q7 _ (List.getElem_mem hk)).2
  obtain ⟨b1, b2, hbk⟩ : ∃ b1 b2, pls[k] = ⟨b1, b2⟩ := ⟨_, _, rfl⟩
  rw [hbk] at g2
  have g2 : b2.length * 40 ≤ 140737488351232 := g2
  have hw0 : win (pls.flatMap plstD) (k * 2) 2 = [sD b1, .sl (b2.flatMap lentD) b2.length] := (zj zN pls k 2 hk (by decide)).trans (by rw [hbk]; rfl)
  repeat (first | refine q_Z ?_ | ((first | apply q_K rfl | apply q_X rfl); (first | exact q_A | exact q_R (w := (by first | exact hw0 | rfl)) | exact q_B | (first | exact q_I k hk | first | exact zP rfl rfl rfl | exact zS rfl rfl rfl | exact zH za rfl rfl rfl rfl | exact zJ za zO rfl rfl rfl rfl rfl rfl rfl (by kernel_rfl)))) | refine q_U ?_)
  refine zad [11, 12] mixed ?_
  apply q_P 0 rfl (by kernel_rfl) rfl rfl rfl
  exact q_4
  apply q_P 1 rfl (by kernel_rfl) rfl rfl rfl
  exact q_R (w := (by first | exact hw0 | rfl))
  apply q_P 2 rfl (by kernel_rfl) rfl rfl rfl
  exact q_1
  apply q_P 3 rfl (by kernel_rfl) rfl rfl rfl
  exact q_I k hk
  apply q_P 4 rfl (by kernel_rfl) rfl rfl rfl
  exact q_R (w := (by first | exact hw0 | rfl))
  apply q_P 5 rfl (by kernel_rfl) rfl rfl rfl
  exact q_4
  apply q_P 6 rfl (by kernel_rfl) rfl rfl rfl
  exact q_R (w := (by first | exact hw0 | rfl))
  apply q_P 7 rfl (by kernel_rfl) rfl rfl rfl
  exact q_1
  apply q_P 8 rfl (by kernel_rfl) rfl rfl rfl
  exact q_I k hk
  apply q_P 9 rfl (by kernel_rfl) rfl rfl rfl
  exact q_R (w := (by first | exact hw0 | rfl))
  refine zal (j := 10) (k := 11) (by kernel_rfl) ?_ ?_
  ·refine zaa za rfl rfl rfl rfl rfl rfl rfl ?_
   refine ze (j := 11) (by kernel_rfl) ?_
   refine zaa za rfl rfl rfl rfl rfl rfl rfl ?_
   refine ze (j := 12) (by kernel_rfl) ?_
   refine zD za rfl rfl rfl rfl rfl rfl rfl rfl rfl rfl rfl rfl rfl ?_
   refine ze (j := 13) (by kernel_rfl) ?_
   refine zD za rfl rfl rfl rfl rfl rfl rfl rfl rfl rfl rfl rfl rfl ?_
   refine zQ (by kernel_rfl) ?_
   refine q_j ?_
   refine zd (q_S (e1 := [(2, .iptr [sD nm, cD kd, .sl (vrfs.flatMap s1D) vrfs.length, .sl (ifs.flatMap ifxD) ifs.length, .sl (fils.flatMap filD) fils.length, .sl (rws.flatMap rwrD) rws.length, .sl (sts.flatMap staD) sts.length, .sl (pls.flatMap plstD) pls.length, .sl (cls.flatMap clstD) cls.length, .sl (pols.flatMap polD) pols.length, .sl (osp.flatMap ospD) osp.length, .sl (bgp.flatMap bgiD) bgp.length] 0), (3, .iptr [sD nm, cD kd, .sl (vrfs.flatMap s1D) vrfs.length, .sl (ifs.flatMap ifxD) ifs.length, .sl (fils.flatMap filD) fils.length, .sl (rws.flatMap rwrD) rws.length, .sl (sts.flatMap staD) sts.length, .sl (pls.flatMap plstD) pls.length, .sl (cls.flatMap clstD) cls.length, .sl (pols.flatMap polD) pols.length, .sl (osp.flatMap ospD) osp.length, .sl (bgp.flatMap bgiD) bgp.length] 0), (10, intA (k : Int)), (11, .ptr 11 0), (12, .ptr 12 0)]) (h1 := [(11, .var [.d (sD b1), .d (.sl (b2.flatMap lentD) b2.length)]), (12, .var [.d (sD b1), .d (.sl (b2.flatMap lentD) b2.length)])])) ?_
   repeat (first | refine q_Z ?_ | ((first | apply q_K rfl | apply q_X rfl); (first | exact q_H | (first | exact q_26 | first | exact zP rfl rfl rfl | exact zS rfl rfl rfl | exact zH za rfl rfl rfl rfl | exact zJ za zO rfl rfl rfl rfl rfl rfl rfl (by kernel_rfl)))) | refine q_U ?_)
   refine zw (fun j : Nat => [(2, .iptr [sD nm, cD kd, .sl (vrfs.flatMap s1D) vrfs.length, .sl (ifs.flatMap ifxD) ifs.length, .sl (fils.flatMap filD) fils.length, .sl (rws.flatMap rwrD) rws.length, .sl (sts.flatMap staD) sts.length, .sl (pls.flatMap plstD) pls.length, .sl (cls.flatMap clstD) cls.length, .sl (pols.flatMap polD) pols.length, .sl (osp.flatMap ospD) osp.length, .sl (bgp.flatMap bgiD) bgp.length] 0), (3, .iptr [sD nm, cD kd, .sl (vrfs.flatMap s1D) vrfs.length, .sl (ifs.flatMap ifxD) ifs.length, .sl (fils.flatMap filD) fils.length, .sl (rws.flatMap rwrD) rws.length, .sl (sts.flatMap staD) sts.length, .sl (pls.flatMap plstD) pls.length, .sl (cls.flatMap clstD) cls.length, .sl (pols.flatMap polD) pols.length, .sl (osp.flatMap ospD) osp.length, .sl (bgp.flatMap bgiD) bgp.length] 0), (10, intA (k : Int)), (11, .ptr 11 0), (12, .ptr 12 0), (13, intA (j : Int))]) (fun _ => [(11, .var [.d (sD b1), .d (.sl (b2.flatMap lentD) b2.length)]), (12, .var [.d (sD b1), .d (.sl (b2.flatMap lentD) b2.length)])]) (fun j => j ≤ b2.length) (fun j => b2.length - j) 0 (Nat.zero_le _) (q_S) ?_
   intro j hjl
   try dsimp only
   by_cases hj : j < b2.length
   ·
    repeat (first | refine q_Y ?_ | ((first | apply q_K rfl | apply q_X rfl); (first | exact q_A | exact q_R (w := (by first | exact zj zaH b2 j _ hj (by decide) | exact zx zaH b2 j _ _ hj (by decide) | exact zR zaH b2 j _ _ _ hj (by decide) | rfl)) | exact q_B | (first | exact q_I j hj | first | exact zP rfl rfl rfl | exact zS rfl rfl rfl | exact zH za rfl rfl rfl rfl | exact zJ za zO rfl rfl rfl rfl rfl rfl rfl (by kernel_rfl)))) | refine q_U ?_)
    exact ⟨j + 1, by omega, by omega, q_S⟩
   obtain rfl : j = b2.length := by omega
   repeat (first | refine q_Y ?_ | ((first | apply q_K rfl | apply q_X rfl); (exact q_H)) | refine q_U ?_)
   exact ⟨k + 1, by omega, by omega, q_S⟩
  ·refine zaa za rfl rfl rfl rfl rfl rfl rfl ?_
   refine ze (j := 10) (by kernel_rfl) ?_
   refine zaa za rfl rfl rfl rfl rfl rfl rfl ?_
   refine ze (j := 12) (by kernel_rfl) ?_
   refine zD za rfl rfl rfl rfl rfl rfl rfl rfl rfl rfl rfl rfl rfl ?_
   refine ze (j := 13) (by kernel_rfl) ?_
   refine zD za rfl rfl rfl rfl rfl rfl rfl rfl rfl rfl rfl rfl rfl ?_
   refine zQ (by kernel_rfl) ?_
   refine q_j ?_
   refine zd (q_S (e1 := [(2, .iptr [sD nm, cD kd, .sl (vrfs.flatMap s1D) vrfs.length, .sl (ifs.flatMap ifxD) ifs.length, .sl (fils.flatMap filD) fils.length, .sl (rws.flatMap rwrD) rws.length, .sl (sts.flatMap staD) sts.length, .sl (pls.flatMap plstD) pls.length, .sl (cls.flatMap clstD) cls.length, .sl (pols.flatMap polD) pols.length, .sl (osp.flatMap ospD) osp.length, .sl (bgp.flatMap bgiD) bgp.length] 0), (3, .iptr [sD nm, cD kd, .sl (vrfs.flatMap s1D) vrfs.length, .sl (ifs.flatMap ifxD) ifs.length, .sl (fils.flatMap filD) fils.length, .sl (rws.flatMap rwrD) rws.length, .sl (sts.flatMap staD) sts.length, .sl (pls.flatMap plstD) pls.length, .sl (cls.flatMap clstD) cls.length, .sl (pols.flatMap polD) pols.length, .sl (osp.flatMap ospD) osp.length, .sl (bgp.flatMap bgiD) bgp.length] 0), (10, intA (k : Int)), (11, .ptr 11 0), (12, .ptr 12 0)]) (h1 := [(11, .var [.d (sD b1), .d (.sl (b2.flatMap lentD) b2.length)]), (12, .var [.d (sD b1), .d (.sl (b2.flatMap lentD) b2.length)])])) ?_
   repeat (first | refine q_Z ?_ | ((first | apply q_K rfl | apply q_X rfl); (first | exact q_H | (first | exact q_26 | first | exact zP rfl rfl rfl | exact zS rfl rfl rfl | exact zH za rfl rfl rfl rfl | exact zJ za zO rfl rfl rfl rfl rfl rfl rfl (by kernel_rfl)))) | refine q_U ?_)
   refine zw (fun j : Nat => [(2, .iptr [sD nm, cD kd, .sl (vrfs.flatMap s1D) vrfs.length, .sl (ifs.flatMap ifxD) ifs.length, .sl (fils.flatMap filD) fils.length, .sl (rws.flatMap rwrD) rws.length, .sl (sts.flatMap staD) sts.length, .sl (pls.flatMap plstD) pls.length, .sl (cls.flatMap clstD) cls.length, .sl (pols.flatMap polD) pols.length, .sl (osp.flatMap ospD) osp.length, .sl (bgp.flatMap bgiD) bgp.length] 0), (3, .iptr [sD nm, cD kd, .sl (vrfs.flatMap s1D) vrfs.length, .sl (ifs.flatMap ifxD) ifs.length, .sl (fils.flatMap filD) fils.length, .sl (rws.flatMap rwrD) rws.length, .sl (sts.flatMap staD) sts.length, .sl (pls.flatMap plstD) pls.length, .sl (cls.flatMap clstD) cls.length, .sl (pols.flatMap polD) pols.length, .sl (osp.flatMap ospD) osp.length, .sl (bgp.flatMap bgiD) bgp.length] 0), (10, intA (k : Int)), (11, .ptr 11 0), (12, .ptr 12 0), (13, intA (j : Int))]) (fun _ => [(11, .var [.d (sD b1), .d (.sl (b2.flatMap lentD) b2.length)]), (12, .var [.d (sD b1), .d (.sl (b2.flatMap lentD) b2.length)])]) (fun j => j ≤ b2.length) (fun j => b2.length - j) 0 (Nat.zero_le _) (q_S) ?_
   intro j hjl
   try dsimp only
   by_cases hj : j < b2.length
   ·
    repeat (first | refine q_Y ?_ | ((first | apply q_K rfl | apply q_X rfl); (first | exact q_A | exact q_R (w := (by first | exact zj zaH b2 j _ hj (by decide) | exact zx zaH b2 j _ _ hj (by decide) | exact zR zaH b2 j _ _ _ hj (by decide) | rfl)) | exact q_B | (first | exact q_I j hj | first | exact zP rfl rfl rfl | exact zS rfl rfl rfl | exact zH za rfl rfl rfl rfl | exact zJ za zO rfl rfl rfl rfl rfl rfl rfl (by kernel_rfl)))) | refine q_U ?_)
    exact ⟨j + 1, by omega, by omega, q_S⟩
   obtain rfl : j = b2.length := by omega
   repeat (first | refine q_Y ?_ | ((first | apply q_K rfl | apply q_X rfl); (exact q_H)) | refine q_U ?_)
   exact ⟨k + 1, by omega, by omega, q_S⟩
 obtain rfl : k = pls.length := by omega
 repeat (first | refine q_Y ?_ | ((first | apply q_K rfl | apply q_X rfl); (exact q_H)) | refine q_U ?_)
 refine zw (fun k : Nat => [(2, .iptr [sD nm, cD kd, .sl (vrfs.flatMap s1D) vrfs.length, .sl (ifs.flatMap ifxD) ifs.length, .sl (fils.flatMap filD) fils.length, .sl (rws.flatMap rwrD) rws.length, .sl (sts.flatMap staD) sts.length, .sl (pls.flatMap plstD) pls.length, .sl (cls.flatMap clstD) cls.length, .sl (pols.flatMap polD) pols.length, .sl (osp.flatMap ospD) osp.length, .sl (bgp.flatMap bgiD) bgp.length] 0), (3, .iptr [sD nm, cD kd, .sl (vrfs.flatMap s1D) vrfs.length, .sl (ifs.flatMap ifxD) ifs.length, .sl (fils.flatMap filD) fils.length, .sl (rws.flatMap rwrD) rws.length, .sl (sts.flatMap staD) sts.length, .sl (pls.flatMap plstD) pls.length, .sl (cls.flatMap clstD) cls.length, .sl (pols.flatMap polD) pols.length, .sl (osp.flatMap ospD) osp.length, .sl (bgp.flatMap bgiD) bgp.length] 0), (14, intA (k : Int))]) (fun _ => []) (fun k => k ≤ cls.length) (fun k => cls.length - k) 0 (Nat.zero_le _) (q_S) ?_
 intro k hkl
 try dsimp only
 by_cases hk : k < cls.length
 ·have g2 : cls[k].ms.length * 32 ≤ 140737488351232 := (q8 _ (List.getElem_mem hk)).2
  have gm := (q8 _ (List.getElem_mem hk)).1
  obtain ⟨b1, b2, hbk⟩ : ∃ b1 b2, cls[k] = ⟨b1, b2⟩ := ⟨_, _, rfl⟩
  rw [hbk] at g2 gm
  have g2 : b2.length * 32 ≤ 140737488351232 := g2
  have hw0 : win (cls.flatMap clstD) (k * 2) 2 = [sD b1, .sl (b2.flatMap memD) b2.length] := (zj zaA cls k 2 hk (by decide)).trans (by rw [hbk]; rfl)
  repeat (first | refine q_Z ?_ | ((first | apply q_K rfl | apply q_X rfl); (first | exact q_A | exact q_R (w := (by first | exact hw0 | rfl)) | exact q_B | (first | exact q_I k hk | first | exact zP rfl rfl rfl | exact zS rfl rfl rfl | exact zH za rfl rfl rfl rfl | exact zJ za zO rfl rfl rfl rfl rfl rfl rfl (by kernel_rfl)))) | refine q_U ?_)
  refine zad [15, 16] mixed ?_
  apply q_P 0 rfl (by kernel_rfl) rfl rfl rfl
  exact q_4
  apply q_P 1 rfl (by kernel_rfl) rfl rfl rfl
  exact q_R (w := (by first | exact hw0 | rfl))
  apply q_P 2 rfl (by kernel_rfl) rfl rfl rfl
  exact q_1
  apply q_P 3 rfl (by kernel_rfl) rfl rfl rfl
  exact q_I k hk
  apply q_P 4 rfl (by kernel_rfl) rfl rfl rfl
  exact q_R (w := (by first | exact hw0 | rfl))
  apply q_P 5 rfl (by kernel_rfl) rfl rfl rfl
  exact q_4
  apply q_P 6 rfl (by kernel_rfl) rfl rfl rfl
  exact q_R (w := (by first | exact hw0 | rfl))
  apply q_P 7 rfl (by kernel_rfl) rfl rfl rfl
  exact q_1
  apply q_P 8 rfl (by kernel_rfl) rfl rfl rfl
  exact q_I k hk
  apply q_P 9 rfl (by kernel_rfl) rfl rfl rfl
  exact q_R (w := (by first | exact hw0 | rfl))
  refine zal (j := 10) (k := 11) (by kernel_rfl) ?_ ?_
  ·refine zaa za rfl rfl rfl rfl rfl rfl rfl ?_
   refine ze (j := 11) (by kernel_rfl) ?_
   refine zaa za rfl rfl rfl rfl rfl rfl rfl ?_
   refine ze (j := 12) (by kernel_rfl) ?_
   refine zD za rfl rfl rfl rfl rfl rfl rfl rfl rfl rfl rfl rfl rfl ?_
   refine ze (j := 13) (by kernel_rfl) ?_
   refine zD za rfl rfl rfl rfl rfl rfl rfl rfl rfl rfl rfl rfl rfl ?_
   refine zQ (by kernel_rfl) ?_
   refine q_j ?_
   refine zd (q_S (e1 := [(2, .iptr [sD nm, cD kd, .sl (vrfs.flatMap s1D) vrfs.length, .sl (ifs.flatMap ifxD) ifs.length, .sl (fils.flatMap filD) fils.length, .sl (rws.flatMap rwrD) rws.length, .sl (sts.flatMap staD) sts.length, .sl (pls.flatMap plstD) pls.length, .sl (cls.flatMap clstD) cls.length, .sl (pols.flatMap polD) pols.length, .sl (osp.flatMap ospD) osp.length, .sl (bgp.flatMap bgiD) bgp.length] 0), (3, .iptr [sD nm, cD kd, .sl (vrfs.flatMap s1D) vrfs.length, .sl (ifs.flatMap ifxD) ifs.length, .sl (fils.flatMap filD) fils.length, .sl (rws.flatMap rwrD) rws.length, .sl (sts.flatMap staD) sts.length, .sl (pls.flatMap plstD) pls.length, .sl (cls.flatMap clstD) cls.length, .sl (pols.flatMap polD) pols.length, .sl (osp.flatMap ospD) osp.length, .sl (bgp.flatMap bgiD) bgp.length] 0), (14, intA (k : Int)), (15, .ptr 15 0), (16, .ptr 16 0)]) (h1 := [(15, .var [.d (sD b1), .d (.sl (b2.flatMap memD) b2.length)]), (16, .var [.d (sD b1), .d (.sl (b2.flatMap memD) b2.length)])])) ?_
   repeat (first | refine q_Z ?_ | ((first | apply q_K rfl | apply q_X rfl); (first | exact q_H | (first | exact q_26 | first | exact zP rfl rfl rfl | exact zS rfl rfl rfl | exact zH za rfl rfl rfl rfl | exact zJ za zO rfl rfl rfl rfl rfl rfl rfl (by kernel_rfl)))) | refine q_U ?_)
   refine zw (fun j : Nat => [(2, .iptr [sD nm, cD kd, .sl (vrfs.flatMap s1D) vrfs.length, .sl (ifs.flatMap ifxD) ifs.length, .sl (fils.flatMap filD) fils.length, .sl (rws.flatMap rwrD) rws.length, .sl (sts.flatMap staD) sts.length, .sl (pls.flatMap plstD) pls.length, .sl (cls.flatMap clstD) cls.length, .sl (pols.flatMap polD) pols.length, .sl (osp.flatMap ospD) osp.length, .sl (bgp.flatMap bgiD) bgp.length] 0), (3, .iptr [sD nm, cD kd, .sl (vrfs.flatMap s1D) vrfs.length, .sl (ifs.flatMap ifxD) ifs.length, .sl (fils.flatMap filD) fils.length, .sl (rws.flatMap rwrD) rws.length, .sl (sts.flatMap staD) sts.length, .sl (pls.flatMap plstD) pls.length, .sl (cls.flatMap clstD) cls.length, .sl (pols.flatMap polD) pols.length, .sl (osp.flatMap ospD) osp.length, .sl (bgp.flatMap bgiD) bgp.length] 0), (14, intA (k : Int)), (15, .ptr 15 0), (16, .ptr 16 0), (17, intA (j : Int))]) (fun _ => [(15, .var [.d (sD b1), .d (.sl (b2.flatMap memD) b2.length)]), (16, .var [.d (sD b1), .d (.sl (b2.flatMap memD) b2.length)])]) (fun j => j ≤ b2.length) (fun j => b2.length - j) 0 (Nat.zero_le _) (q_S) ?_
   intro j hjl
   try dsimp only
   by_cases hj : j < b2.length
   ·have ga : b2[j].all.length * 4 ≤ 140737488351232 := (gm _ (List.getElem_mem hj)).2
    obtain ⟨m1, m2, hmj⟩ : ∃ m1 m2, b2[j] = ⟨m1, m2⟩ := ⟨_, _, rfl⟩
    rw [hmj] at ga
    have ga : m2.length * 4 ≤ 140737488351232 := ga
    have hc := zaM m2 (by omega)
    have hv0 : win (b2.flatMap memD) (j * 2 + 0) 1 = [bD m1] := (zx zbE b2 j 0 1 hj (by decide)).trans (by rw [hmj]; rfl)
    have hv1 : win (b2.flatMap memD) (j * 2 + 1) 1 = [.sl (m2.flatMap u1D) m2.length] := (zx zbE b2 j 1 1 hj (by decide)).trans (by rw [hmj]; rfl)
    repeat (first | refine q_Y ?_ | ((first | apply q_K rfl | apply q_X rfl); (first | exact q_A | exact q_R (w := (by first | exact hv0 | exact hv1 | rfl)) | exact q_B | (first | exact q_I j hj | exact q_26 | first | exact zP rfl rfl rfl | exact zS rfl rfl rfl | exact zH za rfl rfl rfl rfl | exact zJ za zO rfl rfl rfl rfl rfl rfl rfl (by kernel_rfl)))) | refine q_U ?_ | refine q_Q hc ?_)
    exact ⟨j + 1, by omega, by omega, q_S⟩
   obtain rfl : j = b2.length := by omega
   repeat (first | refine q_Y ?_ | ((first | apply q_K rfl | apply q_X rfl); (exact q_H)) | refine q_U ?_)
   exact ⟨k + 1, by omega, by omega, q_S⟩
  ·refine zaa za rfl rfl rfl rfl rfl rfl rfl ?_
   refine ze (j := 10) (by kernel_rfl) ?_
   refine zaa za rfl rfl rfl rfl rfl rfl rfl ?_
   refine ze (j := 12) (by kernel_rfl) ?_
   refine zD za rfl rfl rfl rfl rfl rfl rfl rfl rfl rfl rfl rfl rfl ?_
   refine ze (j := 13) (by kernel_rfl) ?_
   refine zD za rfl rfl rfl rfl rfl rfl rfl rfl rfl rfl rfl rfl rfl ?_
   refine zQ (by kernel_rfl) ?_
   refine q_j ?_
   refine zd (q_S (e1 := [(2, .iptr [sD nm, cD kd, .sl (vrfs.flatMap s1D) vrfs.length, .sl (ifs.flatMap ifxD) ifs.length, .sl (fils.flatMap filD) fils.length, .sl (rws.flatMap rwrD) rws.length, .sl (sts.flatMap staD) sts.length, .sl (pls.flatMap plstD) pls.length, .sl (cls.flatMap clstD) cls.length, .sl (pols.flatMap polD) pols.length, .sl (osp.flatMap ospD) osp.length, .sl (bgp.flatMap bgiD) bgp.length] 0), (3, .iptr [sD nm, cD kd, .sl (vrfs.flatMap s1D) vrfs.length, .sl (ifs.flatMap ifxD) ifs.length, .sl (fils.flatMap filD) fils.length, .sl (rws.flatMap rwrD) rws.length, .sl (sts.flatMap staD) sts.length, .sl (pls.flatMap plstD) pls.length, .sl (cls.flatMap clstD) cls.length, .sl (pols.flatMap polD) pols.length, .sl (osp.flatMap ospD) osp.length, .sl (bgp.flatMap bgiD) bgp.length] 0), (14, intA (k : Int)), (15, .ptr 15 0), (16, .ptr 16 0)]) (h1 := [(15, .var [.d (sD b1), .d (.sl (b2.flatMap memD) b2.length)]), (16, .var [.d (sD b1), .d (.sl (b2.flatMap memD) b2.length)])])) ?_
   repeat (first | refine q_Z ?_ | ((first | apply q_K rfl | apply q_X rfl); (first | exact q_H | (first | exact q_26 | first | exact zP rfl rfl rfl | exact zS rfl rfl rfl | exact zH za rfl rfl rfl rfl | exact zJ za zO rfl rfl rfl rfl rfl rfl rfl (by kernel_rfl)))) | refine q_U ?_)
   refine zw (fun j : Nat => [(2, .iptr [sD nm, cD kd, .sl (vrfs.flatMap s1D) vrfs.length, .sl (ifs.flatMap ifxD) ifs.length, .sl (fils.flatMap filD) fils.length, .sl (rws.flatMap rwrD) rws.length, .sl (sts.flatMap staD) sts.length, .sl (pls.flatMap plstD) pls.length, .sl (cls.flatMap clstD) cls.length, .sl (pols.flatMap polD) pols.length, .sl (osp.flatMap ospD) osp.length, .sl (bgp.flatMap bgiD) bgp.length] 0), (3, .iptr [sD nm, cD kd, .sl (vrfs.flatMap s1D) vrfs.length, .sl (ifs.flatMap ifxD) ifs.length, .sl (fils.flatMap filD) fils.length, .sl (rws.flatMap rwrD) rws.length, .sl (sts.flatMap staD) sts.length, .sl (pls.flatMap plstD) pls.length, .sl (cls.flatMap clstD) cls.length, .sl (pols.flatMap polD) pols.length, .sl (osp.flatMap ospD) osp.length, .sl (bgp.flatMap bgiD) bgp.length] 0), (14, intA (k : Int)), (15, .ptr 15 0), (16, .ptr 16 0), (17, intA (j : Int))]) (fun _ => [(15, .var [.d (sD b1), .d (.sl (b2.flatMap memD) b2.length)]), (16, .var [.d (sD b1), .d (.sl (b2.flatMap memD) b2.length)])]) (fun j => j ≤ b2.length) (fun j => b2.length - j) 0 (Nat.zero_le _) (q_S) ?_
   intro j hjl
   try dsimp only
   by_cases hj : j < b2.length
   ·have ga : b2[j].all.length * 4 ≤ 140737488351232 := (gm _ (List.getElem_mem hj)).2
    obtain ⟨m1, m2, hmj⟩ : ∃ m1 m2, b2[j] = ⟨m1, m2⟩ := ⟨_, _, rfl⟩
    rw [hmj] at ga
    have ga : m2.length * 4 ≤ 140737488351232 := ga
    have hc := zaM m2 (by omega)
    have hv0 : win (b2.flatMap memD) (j * 2 + 0) 1 = [bD m1] := (zx zbE b2 j 0 1 hj (by decide)).trans (by rw [hmj]; rfl)
    have hv1 : win (b2.flatMap memD) (j * 2 + 1) 1 = [.sl (m2.flatMap u1D) m2.length] := (zx zbE b2 j 1 1 hj (by decide)).trans (by rw [hmj]; rfl)
    repeat (first | refine q_Y ?_ | ((first | apply q_K rfl | apply q_X rfl); (first | exact q_A | exact q_R (w := (by first | exact hv0 | exact hv1 | rfl)) | exact q_B | (first | exact q_I j hj | exact q_26 | first | exact zP rfl rfl rfl | exact zS rfl rfl rfl | exact zH za rfl rfl rfl rfl | exact zJ za zO rfl rfl rfl rfl rfl rfl rfl (by kernel_rfl)))) | refine q_U ?_ | refine q_Q hc ?_)
    exact ⟨j + 1, by omega, by omega, q_S⟩
   obtain rfl : j = b2.length := by omega
   repeat (first | refine q_Y ?_ | ((first | apply q_K rfl | apply q_X rfl); (exact q_H)) | refine q_U ?_)
   exact ⟨k + 1, by omega, by omega, q_S⟩
 obtain rfl : k = cls.length := by omega
 repeat (first | refine q_Y ?_ | ((first | apply q_K rfl | apply q_X rfl); (exact q_H)) | refine q_U ?_ | refine q_O heq ?_)
 exact zA rfl ⟨rfl, rfl⟩
end Go.Proofs.YtoahnbmedcjpeaaGreatDoor.Ab

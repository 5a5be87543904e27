/-
 Texts of a proof, one behind the other (part 9).
-/
import Derived.Test.YtoahnbmedcjpeaaGreatDoorMn3
import Derived.Test.YtoahnbmedcjpeaaGreatDoorMn6
import Derived.Test.YtoahnbmedcjpeaaGreatDoorMn7
set_option linter.unusedSimpArgs false
set_option linter.unusedVariables false
namespace Go.Proofs.YtoahnbmedcjpeaaGreatDoor.Ab
set_option maxRecDepth 100000
open Go.RowKit Go.Lib
attribute [local irreducible] AWp AOps AQ AYield AEff ACall AWk AAny AAt AThen AIn APost NoPanic
set_option maxHeartbeats 4000000 in
theorem zic (x : Fil) (hb : x.rs.length * 64 ≤ 140737488351232) : ACall Tryz.prog 93 [gA filD x] [] (Just (gA filD x)) := by
 have hc := zhp 900 rfl x.rs hb
 refine zc za Tryz.func93 rfl Tryz.ntmps93 (congrArg Array.toList Tryz.results93) (by kernel_rfl) rfl ?_
 refine zn ?_
 (first | refine ze ?_ | refine zg rfl mixed (by kernel_rfl) ?_)
 repeat' (first | ((first | apply q_K rfl | apply q_X rfl); (first | exact q_H | fail)) | refine q_d ?_ | refine q_a ?_ | refine q_b ?_ | refine q_e ?_ | refine q_f ?_ | refine q_g ?_ | ((fail_if_success (refine O_wt rfl ?_)); refine O_gs rfl rfl (fun _ => ?_) (fun _ => ?_)) | ((fail_if_success (refine Q_wt rfl ?_)); refine Q_gs rfl rfl (fun _ => ?_) (fun _ => ?_)) | refine zi ?_ | refine zk ?_ | refine q_j ?_ | fail)
 refine zn ?_
 (first | refine ze ?_ | refine zg rfl mixed (by kernel_rfl) ?_)
 repeat' (first | ((first | apply q_K rfl | apply q_X rfl); (first | exact q_H | fail)) | refine q_d ?_ | refine q_a ?_ | refine q_b ?_ | refine q_e ?_ | refine q_f ?_ | refine q_g ?_ | ((fail_if_success (refine O_wt rfl ?_)); refine O_gs rfl rfl (fun _ => ?_) (fun _ => ?_)) | ((fail_if_success (refine Q_wt rfl ?_)); refine Q_gs rfl rfl (fun _ => ?_) (fun _ => ?_)) | refine zi ?_ | refine zk ?_ | refine q_j ?_ | (refine zaJ rfl rfl rfl rfl rfl hc rfl ?_))
 refine zf (zy (id := 900) rfl) ?_
 repeat (first | refine q_Z ?_ | ((first | apply q_K rfl | apply q_X rfl); (exact q_H)) | refine q_U ?_)
 exact zo rfl ⟨rfl, rfl⟩
set_option maxHeartbeats 4000000 in
theorem zgw (x : PLst) (hb : x.es.length * 40 ≤ 140737488351232) : ACall Tryz.prog 96 [gA plstD x] [] (Just (gA plstD x)) := by
 have hc := zht 900 rfl x.es hb
 refine zc za Tryz.func96 rfl Tryz.ntmps96 (congrArg Array.toList Tryz.results96) (by kernel_rfl) rfl ?_
 refine zn ?_
 (first | refine ze ?_ | refine zg rfl mixed (by kernel_rfl) ?_)
 repeat' (first | ((first | apply q_K rfl | apply q_X rfl); (first | exact q_H | fail)) | refine q_d ?_ | refine q_a ?_ | refine q_b ?_ | refine q_e ?_ | refine q_f ?_ | refine q_g ?_ | ((fail_if_success (refine O_wt rfl ?_)); refine O_gs rfl rfl (fun _ => ?_) (fun _ => ?_)) | ((fail_if_success (refine Q_wt rfl ?_)); refine Q_gs rfl rfl (fun _ => ?_) (fun _ => ?_)) | refine zi ?_ | refine zk ?_ | refine q_j ?_ | fail)
 refine zn ?_
 (first | refine ze ?_ | refine zg rfl mixed (by kernel_rfl) ?_)
 repeat' (first | ((first | apply q_K rfl | apply q_X rfl); (first | exact q_H | fail)) | refine q_d ?_ | refine q_a ?_ | refine q_b ?_ | refine q_e ?_ | refine q_f ?_ | refine q_g ?_ | ((fail_if_success (refine O_wt rfl ?_)); refine O_gs rfl rfl (fun _ => ?_) (fun _ => ?_)) | ((fail_if_success (refine Q_wt rfl ?_)); refine Q_gs rfl rfl (fun _ => ?_) (fun _ => ?_)) | refine zi ?_ | refine zk ?_ | refine q_j ?_ | (refine zaJ rfl rfl rfl rfl rfl hc rfl ?_))
 refine zf (zy (id := 900) rfl) ?_
 repeat (first | refine q_Z ?_ | ((first | apply q_K rfl | apply q_X rfl); (exact q_H)) | refine q_U ?_)
 exact zo rfl ⟨rfl, rfl⟩
set_option maxHeartbeats 4000000 in
theorem zib (x : Mem) (hb : x.all.length * 4 ≤ 140737488351232) : ACall Tryz.prog 101 [gA memD x] [] (Just (gA memD x)) := by
 have hc := zc8 900 rfl x.all hb
 refine zc za Tryz.func101 rfl Tryz.ntmps101 (congrArg Array.toList Tryz.results101) (by kernel_rfl) rfl ?_
 refine zn ?_
 (first | refine ze ?_ | refine zg rfl mixed (by kernel_rfl) ?_)
 repeat' (first | ((first | apply q_K rfl | apply q_X rfl); (first | exact q_H | fail)) | refine q_d ?_ | refine q_a ?_ | refine q_b ?_ | refine q_e ?_ | refine q_f ?_ | refine q_g ?_ | ((fail_if_success (refine O_wt rfl ?_)); refine O_gs rfl rfl (fun _ => ?_) (fun _ => ?_)) | ((fail_if_success (refine Q_wt rfl ?_)); refine Q_gs rfl rfl (fun _ => ?_) (fun _ => ?_)) | refine zi ?_ | refine zk ?_ | refine q_j ?_ | fail)
 refine zn ?_
 (first | refine ze ?_ | refine zg rfl mixed (by kernel_rfl) ?_)
 repeat' (first | ((first | apply q_K rfl | apply q_X rfl); (first | exact q_H | fail)) | refine q_d ?_ | refine q_a ?_ | refine q_b ?_ | refine q_e ?_ | refine q_f ?_ | refine q_g ?_ | ((fail_if_success (refine O_wt rfl ?_)); refine O_gs rfl rfl (fun _ => ?_) (fun _ => ?_)) | ((fail_if_success (refine Q_wt rfl ?_)); refine Q_gs rfl rfl (fun _ => ?_) (fun _ => ?_)) | refine zi ?_ | refine zk ?_ | refine q_j ?_ | (refine zaJ rfl rfl rfl rfl rfl hc rfl ?_))
 refine zf (zy (id := 900) rfl) ?_
 repeat (first | refine q_Z ?_ | ((first | apply q_K rfl | apply q_X rfl); (exact q_H)) | refine q_U ?_)
 exact zo rfl ⟨rfl, rfl⟩
set_option maxHeartbeats 4000000 in
theorem zgx (x : CLst) (hb : x.ms.length * 32 ≤ 140737488351232) (hm : ∀ m ∈ x.ms, m.all.length * 4 ≤ 140737488351232) : ACall Tryz.prog 99 [gA clstD x] [] (Just (gA clstD x)) := by
 have hc := zf8 900 rfl 101 x.ms (fun m hx => zib m (hm m hx)) hb
 refine zc za Tryz.func99 rfl Tryz.ntmps99 (congrArg Array.toList Tryz.results99) (by kernel_rfl) rfl ?_
 refine zn ?_
 (first | refine ze ?_ | refine zg rfl mixed (by kernel_rfl) ?_)
 repeat' (first | ((first | apply q_K rfl | apply q_X rfl); (first | exact q_H | fail)) | refine q_d ?_ | refine q_a ?_ | refine q_b ?_ | refine q_e ?_ | refine q_f ?_ | refine q_g ?_ | ((fail_if_success (refine O_wt rfl ?_)); refine O_gs rfl rfl (fun _ => ?_) (fun _ => ?_)) | ((fail_if_success (refine Q_wt rfl ?_)); refine Q_gs rfl rfl (fun _ => ?_) (fun _ => ?_)) | refine zi ?_ | refine zk ?_ | refine q_j ?_ | fail)
 refine zn ?_
 (first | refine ze ?_ | refine zg rfl mixed (by kernel_rfl) ?_)
 repeat' (first | ((first | apply q_K rfl | apply q_X rfl); (first | exact q_H | fail)) | refine q_d ?_ | refine q_a ?_ | refine q_b ?_ | refine q_e ?_ | refine q_f ?_ | refine q_g ?_ | ((fail_if_success (refine O_wt rfl ?_)); refine O_gs rfl rfl (fun _ => ?_) (fun _ => ?_)) | ((fail_if_success (refine Q_wt rfl ?_)); refine Q_gs rfl rfl (fun _ => ?_) (fun _ => ?_)) | refine zi ?_ | refine zk ?_ | refine q_j ?_ | (refine zaJ rfl rfl rfl rfl rfl hc rfl ?_))
 refine zf (zy (id := 900) rfl) ?_
 repeat (first | refine q_Z ?_ | ((first | apply q_K rfl | apply q_X rfl); (exact q_H)) | refine q_U ?_)
 exact zo rfl ⟨rfl, rfl⟩
set_option maxHeartbeats 16000000 in
theorem zid (x : Cls) (hb1 : x.sCom.length * 4 ≤ 140737488351232) (hb2 : x.pre.length * 4 ≤ 140737488351232) : ACall Tryz.prog 106 [gA clsD x] [] (Just (gA clsD x)) := by
 have h1 := zc8 901 rfl x.sCom hb1
 have h2 := zc8 902 rfl x.pre hb2
 refine zc za Tryz.func106 rfl Tryz.ntmps106 (congrArg Array.toList Tryz.results106) (by kernel_rfl) rfl ?_
 refine zn ?_
 (first | refine ze ?_ | refine zg rfl mixed (by kernel_rfl) ?_)
 repeat' (first | ((first | apply q_K rfl | apply q_X rfl); (first | exact q_H | fail)) | refine q_d ?_ | refine q_a ?_ | refine q_b ?_ | refine q_e ?_ | refine q_f ?_ | refine q_g ?_ | ((fail_if_success (refine O_wt rfl ?_)); refine O_gs rfl rfl (fun _ => ?_) (fun _ => ?_)) | ((fail_if_success (refine Q_wt rfl ?_)); refine Q_gs rfl rfl (fun _ => ?_) (fun _ => ?_)) | refine zi ?_ | refine zk ?_ | refine q_j ?_ | fail)
 refine zdg [(1, .ptr 1 0), (2, .ptr 2 0)] [(1, .var [.d (iD x.seq), .d (cD x.act), .d (sD x.pfx), .d (sD x.com), .d (iD x.tag), .d (iD x.met), .d (iD x.thr), .d (iD x.sMet), .d (iD x.sPref), .d (iD x.sTag), .row 901, .d (bD x.add), .row 902, .d (uD x.sHop), .d (iD x.jump)]), (2, .var [.d (iD 0), .d (cD 0), .d (sD []), .d (sD []), .d (iD 0), .d (iD 0), .d (iD 0), .d (iD 0), .d (iD 0), .d (iD 0), .d (.sc (.slice none 0 0)), .d (bD false), .d (.sc (.slice none 0 0)), .d (uD 0), .d (iD 0)]), (901, gR 35 1 u1D x.sCom), (902, gR 35 1 u1D x.pre)] ?_ ?_
 ·skip
  refine zaq [1] mixed ?_
  repeat' (first | (apply zM (i := 0) rfl (by kernel_rfl) (by decide +kernel) (by decide +kernel) (by repeat (first | exact zH | exact zP | apply zG | apply z1)) rfl rfl rfl; exact q_8) | (apply zM (i := 3) rfl (by kernel_rfl) (by decide +kernel) (by decide +kernel) (by repeat (first | exact zH | exact zP | apply zG | apply z1)) rfl rfl rfl; exact q_8) | (apply zM (i := 6) rfl (by kernel_rfl) (by decide +kernel) (by decide +kernel) (by repeat (first | exact zH | exact zP | apply zG | apply z1)) rfl rfl rfl; exact q_8) | (apply zM (i := 8) rfl (by kernel_rfl) (by decide +kernel) (by decide +kernel) (by repeat (first | exact zH | exact zP | apply zG | apply z1)) rfl rfl rfl; exact q_8) | (refine zT (i := 2) rfl rfl rfl rfl rfl rfl h1 rfl ?_) | (refine zT (i := 5) rfl rfl rfl rfl rfl rfl h2 rfl ?_) | (apply zl rfl rfl rfl rfl; exact q_7) | refine zai za rfl rfl rfl rfl rfl rfl rfl rfl rfl rfl rfl rfl rfl ?_ | refine zh (j := 1) (by decide +kernel) ?_ | refine zh (j := 2) (by decide +kernel) ?_ | refine zh (j := 4) (by decide +kernel) ?_ | refine zh (j := 5) (by decide +kernel) ?_ | refine zh (j := 7) (by decide +kernel) ?_ | refine zh (j := 9) (by decide +kernel) ?_ | refine zak (j := 1) (k := 4) (by decide +kernel) ?_ ?_ | refine zak (j := 2) (k := 4) (by decide +kernel) ?_ ?_ | refine zak (j := 5) (k := 7) (by decide +kernel) ?_ ?_ | refine zaz (by decide +kernel) ?_ | (refine q_j ?_; exact q_S))
 ·refine zf (zy (id := 901) rfl) ?_; refine zf (zy (id := 902) rfl) ?_
  repeat (first | refine q_Z ?_ | ((first | apply q_K rfl | apply q_X rfl); (exact q_H)) | refine q_U ?_)
  exact zo rfl ⟨rfl, rfl⟩
set_option maxHeartbeats 4000000 in
theorem zh9 (x : Pol) (hb : x.cs.length * 168 ≤ 140737488351232) (hm : ∀ c ∈ x.cs, c.sCom.length * 4 ≤ 140737488351232 ∧ c.pre.length * 4 ≤ 140737488351232) : ACall Tryz.prog 104 [gA polD x] [] (Just (gA polD x)) := by
 have hc := zga 900 rfl 106 x.cs (fun c hx => zid c (hm c hx).1 (hm c hx).2) hb
 refine zc za Tryz.func104 rfl Tryz.ntmps104 (congrArg Array.toList Tryz.results104) (by kernel_rfl) rfl ?_
 refine zn ?_
 (first | refine ze ?_ | refine zg rfl mixed (by kernel_rfl) ?_)
 repeat' (first | ((first | apply q_K rfl | apply q_X rfl); (first | exact q_H | fail)) | refine q_d ?_ | refine q_a ?_ | refine q_b ?_ | refine q_e ?_ | refine q_f ?_ | refine q_g ?_ | ((fail_if_success (refine O_wt rfl ?_)); refine O_gs rfl rfl (fun _ => ?_) (fun _ => ?_)) | ((fail_if_success (refine Q_wt rfl ?_)); refine Q_gs rfl rfl (fun _ => ?_) (fun _ => ?_)) | refine zi ?_ | refine zk ?_ | refine q_j ?_ | fail)
 refine zn ?_
 (first | refine ze ?_ | refine zg rfl mixed (by kernel_rfl) ?_)
 repeat' (first | ((first | apply q_K rfl | apply q_X rfl); (first | exact q_H | fail)) | refine q_d ?_ | refine q_a ?_ | refine q_b ?_ | refine q_e ?_ | refine q_f ?_ | refine q_g ?_ | ((fail_if_success (refine O_wt rfl ?_)); refine O_gs rfl rfl (fun _ => ?_) (fun _ => ?_)) | ((fail_if_success (refine Q_wt rfl ?_)); refine Q_gs rfl rfl (fun _ => ?_) (fun _ => ?_)) | refine zi ?_ | refine zk ?_ | refine q_j ?_ | (refine zaJ rfl rfl rfl rfl rfl hc rfl ?_))
 refine zf (zy (id := 900) rfl) ?_
 repeat (first | refine q_Z ?_ | ((first | apply q_K rfl | apply q_X rfl); (exact q_H)) | refine q_U ?_)
 exact zo rfl ⟨rfl, rfl⟩
set_option maxHeartbeats 4000000 in
theorem zia (x : Osp) (hb : x.fr.length * 40 ≤ 140737488351232) : ACall Tryz.prog 108 [gA ospD x] [] (Just (gA ospD x)) := by
 have hc := zet 900 rfl x.fr hb
 refine zc za Tryz.func108 rfl Tryz.ntmps108 (congrArg Array.toList Tryz.results108) (by kernel_rfl) rfl ?_
 refine zn ?_
 (first | refine ze ?_ | refine zg rfl mixed (by kernel_rfl) ?_)
 repeat' (first | ((first | apply q_K rfl | apply q_X rfl); (first | exact q_H | fail)) | refine q_d ?_ | refine q_a ?_ | refine q_b ?_ | refine q_e ?_ | refine q_f ?_ | refine q_g ?_ | ((fail_if_success (refine O_wt rfl ?_)); refine O_gs rfl rfl (fun _ => ?_) (fun _ => ?_)) | ((fail_if_success (refine Q_wt rfl ?_)); refine Q_gs rfl rfl (fun _ => ?_) (fun _ => ?_)) | refine zi ?_ | refine zk ?_ | refine q_j ?_ | fail)
 refine zn ?_
 (first | refine ze ?_ | refine zg rfl mixed (by kernel_rfl) ?_)
 repeat' (first | ((first | apply q_K rfl | apply q_X rfl); (first | exact q_H | fail)) | refine q_d ?_ | refine q_a ?_ | refine q_b ?_ | refine q_e ?_ | refine q_f ?_ | refine q_g ?_ | ((fail_if_success (refine O_wt rfl ?_)); refine O_gs rfl rfl (fun _ => ?_) (fun _ => ?_)) | ((fail_if_success (refine Q_wt rfl ?_)); refine Q_gs rfl rfl (fun _ => ?_) (fun _ => ?_)) | refine zi ?_ | refine zk ?_ | refine q_j ?_ | (refine zaJ rfl rfl rfl rfl rfl hc rfl ?_))
 refine zf (zy (id := 900) rfl) ?_
 repeat (first | refine q_Z ?_ | ((first | apply q_K rfl | apply q_X rfl); (exact q_H)) | refine q_U ?_)
 exact zo rfl ⟨rfl, rfl⟩
abbrev bq1 (x : Bgi) : AVal := .d (.sl (x.nets.flatMap pfxD) x.nets.length)
abbrev bw1 (x : Bgi) : ABlk := gR 95 2 pfxD x.nets
abbrev bq2 (x : Bgi) : AVal := .d (.sl (x.ps.flatMap perD) x.ps.length)
abbrev bw2 (x : Bgi) : ABlk := gR 114 6 perD x.ps
abbrev bq3 (x : Bgi) : AVal := .d (.sl (x.fr.flatMap rdsD) x.fr.length)
abbrev bw3 (x : Bgi) : ABlk := gR 112 4 rdsD x.fr
abbrev bgZ : ABlk := .var [.d (sD []), .d (uD 0), .d (uD 0), .d (.sc (.slice none 0 0)), .d (.sc (.slice none 0 0)), .d (.sc (.slice none 0 0))]
def bgNet (x : Bgi) : Net
 | 0 => (12, #[true, false, false, true, false, false, true, false, false, false, false, false, false, false, false], [(1, .ptr 1 0), (2, .ptr 2 0), (3, .ptr 1 3), (6, .ptr 1 4), (9, .ptr 1 5)], [(1, .var [.d (sD x.vrf), .d (uD x.as_), .d (uD x.id_), bq1 x, bq2 x, bq3 x]), (2, bgZ)])
 | 1 => (11, #[true, true, false, true, false, false, true, false, false, false, false, false, false, false, false], [(1, .ptr 1 0), (2, .ptr 2 0), (3, .ptr 1 3), (4, bq1 x), (6, .ptr 1 4), (9, .ptr 1 5)], [(1, .var [.d (sD x.vrf), .d (uD x.as_), .d (uD x.id_), bq1 x, bq2 x, bq3 x]), (2, bgZ)])
 | 2 => (11, #[true, false, false, true, true, false, true, false, false, false, false, false, false, false, false], [(1, .ptr 1 0), (2, .ptr 2 0), (3, .ptr 1 3), (6, .ptr 1 4), (7, bq2 x), (9, .ptr 1 5)], [(1, .var [.d (sD x.vrf), .d (uD x.as_), .d (uD x.id_), bq1 x, bq2 x, bq3 x]), (2, bgZ)])
 | 3 => (11, #[true, false, false, true, false, false, true, true, false, false, false, false, false, false, false], [(1, .ptr 1 0), (2, .ptr 2 0), (3, .ptr 1 3), (6, .ptr 1 4), (9, .ptr 1 5), (10, bq3 x)], [(1, .var [.d (sD x.vrf), .d (uD x.as_), .d (uD x.id_), bq1 x, bq2 x, bq3 x]), (2, bgZ)])
 | 4 => (10, #[true, true, true, true, false, false, true, false, false, false, false, false, false, false, false], [(1, .ptr 1 0), (2, .ptr 2 0), (3, .ptr 1 3), (4, bq1 x), (5, .row 901), (6, .ptr 1 4), (9, .ptr 1 5)], [(1, .var [.d (sD x.vrf), .d (uD x.as_), .d (uD x.id_), bq1 x, bq2 x, bq3 x]), (2, bgZ), (901, bw1 x)])
 | 5 => (10, #[true, true, false, true, true, false, true, false, false, false, false, false, false, false, false], [(1, .ptr 1 0), (2, .ptr 2 0), (3, .ptr 1 3), (4, bq1 x), (6, .ptr 1 4), (7, bq2 x), (9, .ptr 1 5)], [(1, .var [.d (sD x.vrf), .d (uD x.as_), .d (uD x.id_), bq1 x, bq2 x, bq3 x]), (2, bgZ)])
 | 6 => (10, #[true, true, false, true, false, false, true, true, false, false, false, false, false, false, false], [(1, .ptr 1 0), (2, .ptr 2 0), (3, .ptr 1 3), (4, bq1 x), (6, .ptr 1 4), (9, .ptr 1 5), (10, bq3 x)], [(1, .var [.d (sD x.vrf), .d (uD x.as_), .d (uD x.id_), bq1 x, bq2 x, bq3 x]), (2, bgZ)])
 | 7 => (10, #[true, false, false, true, true, false, true, true, false, false, false, false, false, false, false], [(1, .ptr 1 0), (2, .ptr 2 0), (3, .ptr 1 3), (6, .ptr 1 4), (7, bq2 x), (9, .ptr 1 5), (10, bq3 x)], [(1, .var [.d (sD x.vrf), .d (uD x.as_), .d (uD x.id_), bq1 x, bq2 x, bq3 x]), (2, bgZ)])
 | 8 => (9, #[true, true, true, true, true, false, true, false, false, false, false, false, false, false, false], [(1, .ptr 1 0), (2, .ptr 2 0), (3, .ptr 1 3), (4, bq1 x), (5, .row 901), (6, .ptr 1 4), (7, bq2 x), (9, .ptr 1 5)], [(1, .var [.d (sD x.vrf), .d (uD x.as_), .d (uD x.id_), bq1 x, bq2 x, bq3 x]), (2, bgZ), (901, bw1 x)])
 | 9 => (9, #[true, true, true, true, false, false, true, true, false, false, false, false, false, false, false], [(1, .ptr 1 0), (2, .ptr 2 0), (3, .ptr 1 3), (4, bq1 x), (5, .row 901), (6, .ptr 1 4), (9, .ptr 1 5), (10, bq3 x)], [(1, .var [.d (sD x.vrf), .d (uD x.as_), .d (uD x.id_), bq1 x, bq2 x, bq3 x]), (2, bgZ), (901, bw1 x)])
 | 10 => (9, #[true, true, false, true, true, false, true, true, false, false, false, false, false, false, false], [(1, .ptr 1 0), (2, .ptr 2 0), (3, .ptr 1 3), (4, bq1 x), (6, .ptr 1 4), (7, bq2 x), (9, .ptr 1 5), (10, bq3 x)], [(1, .var [.d (sD x.vrf), .d (uD x.as_), .d (uD x.id_), bq1 x, bq2 x, bq3 x]), (2, bgZ)])
 | 11 => (8, #[true, true, true, true, true, true, true, false, false, false, false, false, false, false, false], [(1, .ptr 1 0), (2, .ptr 2 0), (3, .ptr 1 3), (4, bq1 x), (5, .row 901), (6, .ptr 1 4), (7, bq2 x), (8, .row 902), (9, .ptr 1 5)], [(1, .var [.d (sD x.vrf), .d (uD x.as_), .d (uD x.id_), bq1 x, bq2 x, bq3 x]), (2, bgZ), (901, bw1 x), (902, bw2 x)])
 | 12 => (7, #[true, true, true, true, true, false, true, true, false, true, false, false, false, false, false], [(1, .ptr 1 0), (2, .ptr 2 0), (3, .ptr 1 3), (4, bq1 x), (5, .row 901), (6, .ptr 1 4), (7, bq2 x), (9, .ptr 1 5), (10, bq3 x), (12, .ptr 1 3)], [(1, .var [.d (sD x.vrf), .d (uD x.as_), .d (uD x.id_), bq1 x, bq2 x, bq3 x]), (2, bgZ), (901, bw1 x)])
 | 13 => (6, #[true, true, true, true, true, true, true, true, false, true, false, false, false, false, false], [(1, .ptr 1 0), (2, .ptr 2 0), (3, .ptr 1 3), (4, bq1 x), (5, .row 901), (6, .ptr 1 4), (7, bq2 x), (8, .row 902), (9, .ptr 1 5), (10, bq3 x), (12, .ptr 1 3)], [(1, .var [.d (sD x.vrf), .d (uD x.as_), .d (uD x.id_), bq1 x, bq2 x, bq3 x]), (2, bgZ), (901, bw1 x), (902, bw2 x)])
 | 14 => (5, #[true, true, true, true, true, true, true, true, true, true, false, false, false, false, false], [(1, .ptr 1 0), (2, .ptr 2 0), (3, .ptr 1 3), (4, bq1 x), (5, .row 901), (6, .ptr 1 4), (7, bq2 x), (8, .row 902), (9, .ptr 1 5), (10, bq3 x), (11, .row 903), (12, .ptr 1 3)], [(1, .var [.d (sD x.vrf), .d (uD x.as_), .d (uD x.id_), bq1 x, bq2 x, bq3 x]), (2, bgZ), (901, bw1 x), (902, bw2 x), (903, bw3 x)])
 | 15 => (3, #[true, true, true, true, true, true, true, true, true, true, true, true, false, false, false], [(1, .ptr 1 0), (2, .ptr 2 0), (3, .ptr 1 3), (4, bq1 x), (5, .row 901), (6, .ptr 1 4), (7, bq2 x), (8, .row 902), (9, .ptr 1 5), (10, bq3 x), (11, .row 903), (12, .ptr 1 3), (13, .ptr 1 4)], [(1, .var [.d (sD x.vrf), .d (uD x.as_), .d (uD x.id_), .row 901, bq2 x, bq3 x]), (2, bgZ), (901, bw1 x), (902, bw2 x), (903, bw3 x)])
 | 16 => (1, #[true, true, true, true, true, true, true, true, true, true, true, true, true, true, false], [(1, .ptr 1 0), (2, .ptr 2 0), (3, .ptr 1 3), (4, bq1 x), (5, .row 901), (6, .ptr 1 4), (7, bq2 x), (8, .row 902), (9, .ptr 1 5), (10, bq3 x), (11, .row 903), (12, .ptr 1 3), (13, .ptr 1 4), (14, .ptr 1 5)], [(1, .var [.d (sD x.vrf), .d (uD x.as_), .d (uD x.id_), .row 901, .row 902, bq3 x]), (2, bgZ), (901, bw1 x), (902, bw2 x), (903, bw3 x)])
 | 17 => (0, #[true, true, true, true, true, true, true, true, true, true, true, true, true, true, true], [(1, .ptr 1 0), (2, .ptr 2 0), (3, .ptr 1 3), (4, bq1 x), (5, .row 901), (6, .ptr 1 4), (7, bq2 x), (8, .row 902), (9, .ptr 1 5), (10, bq3 x), (11, .row 903), (12, .ptr 1 3), (13, .ptr 1 4), (14, .ptr 1 5)], [(1, .var [.d (sD x.vrf), .d (uD x.as_), .d (uD x.id_), .row 901, .row 902, .row 903]), (2, bgZ), (901, bw1 x), (902, bw2 x), (903, bw3 x)])
 | _ => (0, #[], [], [])
set_option maxHeartbeats 16000000 in
theorem zie (x : Bgi) (hb1 : x.nets.length * 16 ≤ 140737488351232) (hb2 : x.ps.length * 48 ≤ 140737488351232) (hb3 : x.fr.length * 40 ≤ 140737488351232) : ACall Tryz.prog 111 [gA bgiD x] [] (Just (gA bgiD x)) := by
 have h1 := zhq 901 rfl x.nets hb1
 have h2 := zhr 902 rfl x.ps hb2
 have h3 := zet 903 rfl x.fr hb3
 refine zc za Tryz.func111 rfl Tryz.ntmps111 (congrArg Array.toList Tryz.results111) (by kernel_rfl) rfl ?_
 refine zn ?_
 (first | refine ze ?_ | refine zg rfl mixed (by kernel_rfl) ?_)
 repeat' (first | ((first | apply q_K rfl | apply q_X rfl); (first | exact q_H | fail)) | refine q_d ?_ | refine q_a ?_ | refine q_b ?_ | refine q_e ?_ | refine q_f ?_ | refine q_g ?_ | ((fail_if_success (refine O_wt rfl ?_)); refine O_gs rfl rfl (fun _ => ?_) (fun _ => ?_)) | ((fail_if_success (refine Q_wt rfl ?_)); refine Q_gs rfl rfl (fun _ => ?_) (fun _ => ?_)) | refine zi ?_ | refine zk ?_ | refine q_j ?_ | fail)
 refine zdg [(1, .ptr 1 0), (2, .ptr 2 0)] [(1, .var [.d (sD x.vrf), .d (uD x.as_), .d (uD x.id_), .row 901, .row 902, .row 903]), (2, .var [.d (sD []), .d (uD 0), .d (uD 0), .d (.sc (.slice none 0 0)), .d (.sc (.slice none 0 0)), .d (.sc (.slice none 0 0))]), (901, gR 95 2 pfxD x.nets), (902, gR 114 6 perD x.ps), (903, gR 112 4 rdsD x.fr)] ?_ ?_
 ·skip
  refine zaq [1] mixed ?_
  refine zh0 (bgNet x) 18 (fun H => ?_) (by decide) ?_
  ·skip
   apply zM (i := 0) rfl (by kernel_rfl) (by kernel_rfl) (by kernel_rfl) (by repeat (first | exact zH | exact zP | apply zG | apply z1)) rfl rfl rfl
   exact q_8
   apply zM (i := 3) rfl (by kernel_rfl) (by kernel_rfl) (by kernel_rfl) (by repeat (first | exact zH | exact zP | apply zG | apply z1)) rfl rfl rfl
   exact q_8
   apply zM (i := 6) rfl (by kernel_rfl) (by kernel_rfl) (by kernel_rfl) (by repeat (first | exact zH | exact zP | apply zG | apply z1)) rfl rfl rfl
   exact q_8
   exact N_to (nd := bgNet x) 0 H rfl rfl rfl ⟨rfl, rfl, rfl, rfl, rfl, trivial⟩ ⟨rfl, rfl, trivial⟩
  ·intro k hk IH
   match k, hk, IH with
   | 0, _, IH =>
    refine N_at rfl ?_
    refine zbP (j := 1) (k := 4) (l := 7) (by decide +kernel) ?_ ?_ ?_
    ·apply zl rfl rfl rfl rfl
     exact q_7
     exact N_to (nd := bgNet x) 1 (IH 1 (by decide) (by decide)) rfl rfl rfl ⟨rfl, rfl, rfl, rfl, rfl, rfl, trivial⟩ ⟨rfl, rfl, trivial⟩
    ·apply zl rfl rfl rfl rfl
     exact q_7
     exact N_to (nd := bgNet x) 2 (IH 2 (by decide) (by decide)) rfl rfl rfl ⟨rfl, rfl, rfl, rfl, rfl, rfl, trivial⟩ ⟨rfl, rfl, trivial⟩
    ·apply zl rfl rfl rfl rfl
     exact q_7
     exact N_to (nd := bgNet x) 3 (IH 3 (by decide) (by decide)) rfl rfl rfl ⟨rfl, rfl, rfl, rfl, rfl, rfl, trivial⟩ ⟨rfl, rfl, trivial⟩
   | 1, _, IH =>
    refine N_at rfl ?_
    refine zbP (j := 2) (k := 4) (l := 7) (by decide +kernel) ?_ ?_ ?_
    ·refine zT (i := 2) rfl rfl rfl rfl rfl rfl h1 rfl ?_
     exact N_to (nd := bgNet x) 4 (IH 4 (by decide) (by decide)) rfl rfl rfl ⟨rfl, rfl, rfl, rfl, rfl, rfl, rfl, trivial⟩ ⟨rfl, rfl, rfl, trivial⟩
    ·apply zl rfl rfl rfl rfl
     exact q_7
     exact N_to (nd := bgNet x) 5 (IH 5 (by decide) (by decide)) rfl rfl rfl ⟨rfl, rfl, rfl, rfl, rfl, rfl, rfl, trivial⟩ ⟨rfl, rfl, trivial⟩
    ·apply zl rfl rfl rfl rfl
     exact q_7
     exact N_to (nd := bgNet x) 6 (IH 6 (by decide) (by decide)) rfl rfl rfl ⟨rfl, rfl, rfl, rfl, rfl, rfl, rfl, trivial⟩ ⟨rfl, rfl, trivial⟩
   | 2, _, IH =>
    refine N_at rfl ?_
    refine zak (j := 1) (k := 7) (by decide +kernel) ?_ ?_
    ·apply zl rfl rfl rfl rfl
     exact q_7
     exact N_to (nd := bgNet x) 5 (IH 5 (by decide) (by decide)) rfl rfl rfl ⟨rfl, rfl, rfl, rfl, rfl, rfl, rfl, trivial⟩ ⟨rfl, rfl, trivial⟩
    ·apply zl rfl rfl rfl rfl
     exact q_7
     exact N_to (nd := bgNet x) 7 (IH 7 (by decide) (by decide)) rfl rfl rfl ⟨rfl, rfl, rfl, rfl, rfl, rfl, rfl, trivial⟩ ⟨rfl, rfl, trivial⟩
   | 3, _, IH =>
    refine N_at rfl ?_
    refine zak (j := 1) (k := 4) (by decide +kernel) ?_ ?_
    ·apply zl rfl rfl rfl rfl
     exact q_7
     exact N_to (nd := bgNet x) 6 (IH 6 (by decide) (by decide)) rfl rfl rfl ⟨rfl, rfl, rfl, rfl, rfl, rfl, rfl, trivial⟩ ⟨rfl, rfl, trivial⟩
    ·apply zl rfl rfl rfl rfl
     exact q_7
     exact N_to (nd := bgNet x) 7 (IH 7 (by decide) (by decide)) rfl rfl rfl ⟨rfl, rfl, rfl, rfl, rfl, rfl, rfl, trivial⟩ ⟨rfl, rfl, trivial⟩
   | 4, _, IH =>
    refine N_at rfl ?_
    refine zak (j := 4) (k := 7) (by decide +kernel) ?_ ?_
    ·apply zl rfl rfl rfl rfl
     exact q_7
     exact N_to (nd := bgNet x) 8 (IH 8 (by decide) (by decide)) rfl rfl rfl ⟨rfl, rfl, rfl, rfl, rfl, rfl, rfl, rfl, trivial⟩ ⟨rfl, rfl, rfl, trivial⟩
    ·apply zl rfl rfl rfl rfl
     exact q_7
     exact N_to (nd := bgNet x) 9 (IH 9 (by decide) (by decide)) rfl rfl rfl ⟨rfl, rfl, rfl, rfl, rfl, rfl, rfl, rfl, trivial⟩ ⟨rfl, rfl, rfl, trivial⟩
   | 5, _, IH =>
    refine N_at rfl ?_
    refine zak (j := 2) (k := 7) (by decide +kernel) ?_ ?_
    ·refine zT (i := 2) rfl rfl rfl rfl rfl rfl h1 rfl ?_
     exact N_to (nd := bgNet x) 8 (IH 8 (by decide) (by decide)) rfl rfl rfl ⟨rfl, rfl, rfl, rfl, rfl, rfl, rfl, rfl, trivial⟩ ⟨rfl, rfl, rfl, trivial⟩
    ·apply zl rfl rfl rfl rfl
     exact q_7
     exact N_to (nd := bgNet x) 10 (IH 10 (by decide) (by decide)) rfl rfl rfl ⟨rfl, rfl, rfl, rfl, rfl, rfl, rfl, rfl, trivial⟩ ⟨rfl, rfl, trivial⟩
   | 6, _, IH =>
    refine N_at rfl ?_
    refine zak (j := 2) (k := 4) (by decide +kernel) ?_ ?_
    ·refine zT (i := 2) rfl rfl rfl rfl rfl rfl h1 rfl ?_
     exact N_to (nd := bgNet x) 9 (IH 9 (by decide) (by decide)) rfl rfl rfl ⟨rfl, rfl, rfl, rfl, rfl, rfl, rfl, rfl, trivial⟩ ⟨rfl, rfl, rfl, trivial⟩
    ·apply zl rfl rfl rfl rfl
     exact q_7
     exact N_to (nd := bgNet x) 10 (IH 10 (by decide) (by decide)) rfl rfl rfl ⟨rfl, rfl, rfl, rfl, rfl, rfl, rfl, rfl, trivial⟩ ⟨rfl, rfl, trivial⟩
   | 7, _, IH =>
    refine N_at rfl ?_
    refine zh (j := 1) (by decide +kernel) ?_
    ·apply zl rfl rfl rfl rfl
     exact q_7
     exact N_to (nd := bgNet x) 10 (IH 10 (by decide) (by decide)) rfl rfl rfl ⟨rfl, rfl, rfl, rfl, rfl, rfl, rfl, rfl, trivial⟩ ⟨rfl, rfl, trivial⟩
   | 8, _, IH =>
    refine N_at rfl ?_
    refine zak (j := 5) (k := 7) (by decide +kernel) ?_ ?_
    ·refine zT (i := 5) rfl rfl rfl rfl rfl rfl h2 rfl ?_
     exact N_to (nd := bgNet x) 11 (IH 11 (by decide) (by decide)) rfl rfl rfl ⟨rfl, rfl, rfl, rfl, rfl, rfl, rfl, rfl, rfl, trivial⟩ ⟨rfl, rfl, rfl, rfl, trivial⟩
    ·apply zl rfl rfl rfl rfl
     exact q_7
     apply zM (i := 9) rfl (by kernel_rfl) (by kernel_rfl) (by kernel_rfl) (by repeat (first | exact zH | exact zP | apply zG | apply z1)) rfl rfl rfl
     exact q_8
     exact N_to (nd := bgNet x) 12 (IH 12 (by decide) (by decide)) rfl rfl rfl ⟨rfl, rfl, rfl, rfl, rfl, rfl, rfl, rfl, rfl, rfl, trivial⟩ ⟨rfl, rfl, rfl, trivial⟩
   | 9, _, IH =>
    refine N_at rfl ?_
    refine zh (j := 4) (by decide +kernel) ?_
    ·apply zl rfl rfl rfl rfl
     exact q_7
     apply zM (i := 9) rfl (by kernel_rfl) (by kernel_rfl) (by kernel_rfl) (by repeat (first | exact zH | exact zP | apply zG | apply z1)) rfl rfl rfl
     exact q_8
     exact N_to (nd := bgNet x) 12 (IH 12 (by decide) (by decide)) rfl rfl rfl ⟨rfl, rfl, rfl, rfl, rfl, rfl, rfl, rfl, rfl, rfl, trivial⟩ ⟨rfl, rfl, rfl, trivial⟩
   | 10, _, IH =>
    refine N_at rfl ?_
    refine zh (j := 2) (by decide +kernel) ?_
    ·refine zT (i := 2) rfl rfl rfl rfl rfl rfl h1 rfl ?_
     apply zM (i := 9) rfl (by kernel_rfl) (by kernel_rfl) (by kernel_rfl) (by repeat (first | exact zH | exact zP | apply zG | apply z1)) rfl rfl rfl
     exact q_8
     exact N_to (nd := bgNet x) 12 (IH 12 (by decide) (by decide)) rfl rfl rfl ⟨rfl, rfl, rfl, rfl, rfl, rfl, rfl, rfl, rfl, rfl, trivial⟩ ⟨rfl, rfl, rfl, trivial⟩
   | 11, _, IH =>
    refine N_at rfl ?_
    refine zh (j := 7) (by decide +kernel) ?_
    ·apply zl rfl rfl rfl rfl
     exact q_7
     apply zM (i := 9) rfl (by kernel_rfl) (by kernel_rfl) (by kernel_rfl) (by repeat (first | exact zH | exact zP | apply zG | apply z1)) rfl rfl rfl
     exact q_8
     exact N_to (nd := bgNet x) 13 (IH 13 (by decide) (by decide)) rfl rfl rfl ⟨rfl, rfl, rfl, rfl, rfl, rfl, rfl, rfl, rfl, rfl, rfl, trivial⟩ ⟨rfl, rfl, rfl, rfl, trivial⟩
   | 12, _, IH =>
    refine N_at rfl ?_
    refine zh (j := 5) (by decide +kernel) ?_
    ·refine zT (i := 5) rfl rfl rfl rfl rfl rfl h2 rfl ?_
     exact N_to (nd := bgNet x) 13 (IH 13 (by decide) (by decide)) rfl rfl rfl ⟨rfl, rfl, rfl, rfl, rfl, rfl, rfl, rfl, rfl, rfl, rfl, trivial⟩ ⟨rfl, rfl, rfl, rfl, trivial⟩
   | 13, _, IH =>
    refine N_at rfl ?_
    refine zh (j := 8) (by decide +kernel) ?_
    ·refine zT (i := 8) rfl rfl rfl rfl rfl rfl h3 rfl ?_
     exact N_to (nd := bgNet x) 14 (IH 14 (by decide) (by decide)) rfl rfl rfl ⟨rfl, rfl, rfl, rfl, rfl, rfl, rfl, rfl, rfl, rfl, rfl, rfl, trivial⟩ ⟨rfl, rfl, rfl, rfl, rfl, trivial⟩
   | 14, _, IH =>
    refine N_at rfl ?_
    refine zh (j := 10) (by decide +kernel) ?_
    ·refine zai za rfl rfl rfl rfl rfl rfl rfl rfl rfl rfl rfl rfl rfl ?_
     apply zM (i := 11) rfl (by kernel_rfl) (by kernel_rfl) (by kernel_rfl) (by repeat (first | exact zH | exact zP | apply zG | apply z1)) rfl rfl rfl
     exact q_8
     exact N_to (nd := bgNet x) 15 (IH 15 (by decide) (by decide)) rfl rfl rfl ⟨rfl, rfl, rfl, rfl, rfl, rfl, rfl, rfl, rfl, rfl, rfl, rfl, rfl, trivial⟩ ⟨rfl, rfl, rfl, rfl, rfl, trivial⟩
   | 15, _, IH =>
    refine N_at rfl ?_
    refine zh (j := 12) (by decide +kernel) ?_
    ·refine zai za rfl rfl rfl rfl rfl rfl rfl rfl rfl rfl rfl rfl rfl ?_
     apply zM (i := 13) rfl (by kernel_rfl) (by kernel_rfl) (by kernel_rfl) (by repeat (first | exact zH | exact zP | apply zG | apply z1)) rfl rfl rfl
     exact q_8
     exact N_to (nd := bgNet x) 16 (IH 16 (by decide) (by decide)) rfl rfl rfl ⟨rfl, rfl, rfl, rfl, rfl, rfl, rfl, rfl, rfl, rfl, rfl, rfl, rfl, rfl, trivial⟩ ⟨rfl, rfl, rfl, rfl, rfl, trivial⟩
   | 16, _, IH =>
    refine N_at rfl ?_
    refine zh (j := 14) (by decide +kernel) ?_
    ·refine zai za rfl rfl rfl rfl rfl rfl rfl rfl rfl rfl rfl rfl rfl ?_
     exact N_to (nd := bgNet x) 17 (IH 17 (by decide) (by decide)) rfl rfl rfl ⟨rfl, rfl, rfl, rfl, rfl, rfl, rfl, rfl, rfl, rfl, rfl, rfl, rfl, rfl, trivial⟩ ⟨rfl, rfl, rfl, rfl, rfl, trivial⟩
   | 17, _, IH =>
    refine N_at rfl ?_
    refine zaz (by decide +kernel) ?_
    refine q_j ?_
    exact q_S
   | k + 18, hk, _ => exact absurd hk (by omega)
 ·refine zf (zy (id := 901) rfl) ?_; refine zf (zy (id := 902) rfl) ?_; refine zf (zy (id := 903) rfl) ?_
  repeat (first | refine q_Z ?_ | ((first | apply q_K rfl | apply q_X rfl); (exact q_H)) | refine q_U ?_)
  exact zo rfl ⟨rfl, rfl⟩
end Go.Proofs.YtoahnbmedcjpeaaGreatDoor.Ab

/-
 Texts of a proof, one behind the other (part 28).
-/
import Derived.Test.YtoahnbmedcjpeaaGreatDoorMn2
import Derived.Test.YtoahnbmedcjpeaaGreatDoorMn3
import Derived.Test.YtoahnbmedcjpeaaGreatDoorMn26
set_option maxRecDepth 100000
set_option linter.unusedSimpArgs false
set_option linter.unusedVariables false
namespace Go.Proofs.YtoahnbmedcjpeaaGreatDoor.Ab
open Go.RowKit Go.Lib
theorem kr1 (ρ : List (Nat × Nat)) (l : List (List UInt8)) : some (renB ρ (cntB l)) = some (cntB l) := by rw [zX]
attribute [local irreducible] AWp AOps AQ AYield AEff ACall AWk AAny AAt AThen AIn APost NoPanic
theorem zjH (d : Dvc) (i : Nat) (hi : i < d.ifs.length) (hn : d.ifs.length ≤ 140737488355328)  : ACall Tryz.prog 120 ([intA (i : Int)] ++ [.ptr 1000 0, .iptr (dvcD d) 0]) (hK (bkOf d)) (fun c h => c = intA (flt1 d i) ∧ h = hK (bkOf d)) := by
 have h1 := ziu (bkOf d) d i hi hn
 unfold flt1
 rw [List.getElem?_eq_getElem hi]
 refine zc za Tryz.func120 rfl Tryz.ntmps120 (congrArg Array.toList Tryz.results120) (by kernel_rfl) rfl ?_
 repeat (first | refine q_Y ?_ | ((first | apply q_K rfl | apply q_X rfl); (exact q_H)) | refine q_U ?_ | (refine O_bk h1 rfl rfl rfl rfl rfl rfl rfl rfl rfl rfl rfl rfl rfl ?_))
 exact zt (h2 := hK (bkOf d)) AWk.refl rfl ⟨rfl, rfl, rfl, rfl, rfl, rfl, trivial⟩ ⟨rfl, rfl⟩
theorem zjA (d : Dvc) (i : Nat) (hi : i < d.osp.length) (hn : d.osp.length ≤ 140737488355328) (hf : ∀ x ∈ d.osp, x.fr.length ≤ 140737488355328) : ACall Tryz.prog 138 ([intA (i : Int)] ++ [.ptr 1000 0, .iptr (dvcD d) 0]) (hK (bkOf d)) (fun c h => c = intA (flt8 d i) ∧ h = hK (bkOf d)) := by
 have h1 := zjJ (bkOf d) d i hi hn (hf _ (List.getElem_mem hi))
 unfold flt8
 rw [List.getElem?_eq_getElem hi]
 refine zc za Tryz.func138 rfl Tryz.ntmps138 (congrArg Array.toList Tryz.results138) (by kernel_rfl) rfl ?_
 repeat (first | refine q_Y ?_ | ((first | apply q_K rfl | apply q_X rfl); (exact q_H)) | refine q_U ?_ | (refine O_bk h1 rfl rfl rfl rfl rfl rfl rfl rfl rfl rfl rfl rfl rfl ?_))
 exact zt (h2 := hK (bkOf d)) AWk.refl rfl ⟨rfl, rfl, rfl, rfl, rfl, rfl, trivial⟩ ⟨rfl, rfl⟩
theorem zjz (d : Dvc) (i : Nat) (hi : i < d.bgp.length) (hn : d.bgp.length ≤ 140737488355328) (h3 : ∀ x ∈ d.bgp, x.fr.length ≤ 140737488355328) (h4 : ∀ x ∈ d.bgp, x.nets.length ≤ 140737488355328) (h5 : ∀ x ∈ d.bgp, x.ps.length ≤ 140737488355328) (h6 : ∀ x ∈ d.bgp, ∀ p ∈ x.nets, p.ok) : ACall Tryz.prog 140 ([intA (i : Int)] ++ [.ptr 1000 0, .iptr (dvcD d) 0]) (hK (bkOf d)) (fun c h => c = intA (flt9 d i) ∧ h = hK (bkOf d)) := by
 have h1 := zkS (bkOf d) d i hi hn (h3 _ (List.getElem_mem hi)) (h4 _ (List.getElem_mem hi)) (h5 _ (List.getElem_mem hi)) (h6 _ (List.getElem_mem hi))
 unfold flt9
 rw [List.getElem?_eq_getElem hi]
 refine zc za Tryz.func140 rfl Tryz.ntmps140 (congrArg Array.toList Tryz.results140) (by kernel_rfl) rfl ?_
 repeat (first | refine q_Y ?_ | ((first | apply q_K rfl | apply q_X rfl); (exact q_H)) | refine q_U ?_ | (refine O_bk h1 rfl rfl rfl rfl rfl rfl rfl rfl rfl rfl rfl rfl rfl ?_))
 exact zt (h2 := hK (bkOf d)) AWk.refl rfl ⟨rfl, rfl, rfl, rfl, rfl, rfl, trivial⟩ ⟨rfl, rfl⟩
attribute [local irreducible] nameB noneB fstB failP clsP staF
set_option maxHeartbeats 8000000 in
theorem zjF (d : Dvc) (i : Nat) (hi : i < d.rws.length) : ACall Tryz.prog 125 ([intA (i : Int)] ++ [.iptr (dvcD d) 0, .ptr 1000 0]) (hK (bkOf d)) (fun c h => c = intA (flt3 d i) ∧ h = hK (bkOf d)) := by
 have hw1 := zW zcV d.rws i 1 1 hi (by decide)
 have hw2 := zW zcV d.rws i 2 1 hi (by decide)
 unfold flt3
 rw [List.getElem?_eq_getElem hi]
 obtain ⟨x, hx⟩ : ∃ x, d.rws[i] = x := ⟨_, rfl⟩
 rw [hx] at hw1 hw2 ⊢
 clear hx
 obtain ⟨xd, xf, xt⟩ := x
 refine zc za Tryz.func125 rfl Tryz.ntmps125 (congrArg Array.toList Tryz.results125) (by kernel_rfl) rfl ?_
 refine zn ?_
 (first | refine ze ?_ | refine zg rfl mixed (by kernel_rfl) ?_)
 repeat' (first | ((first | apply q_K rfl | apply q_X rfl); (first | exact q_H | fail)) | refine q_d ?_ | refine q_a ?_ | refine q_b ?_ | refine q_e ?_ | refine q_f ?_ | refine q_g ?_ | ((fail_if_success (refine O_wt rfl ?_)); refine O_gs rfl rfl (fun _ => ?_) (fun _ => ?_)) | ((fail_if_success (refine Q_wt rfl ?_)); refine Q_gs rfl rfl (fun _ => ?_) (fun _ => ?_)) | refine zi ?_ | refine zk ?_ | refine q_j ?_ | fail)
 refine zn ?_
 refine zaq [1001, 1002, 1003, 1004, 1005] mixed ?_
 repeat (first | ((first | apply q_M 0 rfl rfl (by kernel_rfl) (by decide +kernel) (by decide +kernel) rfl rfl rfl | apply q_M 1 rfl rfl (by kernel_rfl) (by decide +kernel) (by decide +kernel) rfl rfl rfl | apply q_M 2 rfl rfl (by kernel_rfl) (by decide +kernel) (by decide +kernel) rfl rfl rfl | apply q_M 3 rfl rfl (by kernel_rfl) (by decide +kernel) (by decide +kernel) rfl rfl rfl | apply q_M 4 rfl rfl (by kernel_rfl) (by decide +kernel) (by decide +kernel) rfl rfl rfl | apply q_M 5 rfl rfl (by kernel_rfl) (by decide +kernel) (by decide +kernel) rfl rfl rfl | apply q_M 6 rfl rfl (by kernel_rfl) (by decide +kernel) (by decide +kernel) rfl rfl rfl | apply q_M 7 rfl rfl (by kernel_rfl) (by decide +kernel) (by decide +kernel) rfl rfl rfl | apply q_M 8 rfl rfl (by kernel_rfl) (by decide +kernel) (by decide +kernel) rfl rfl rfl | apply q_M 9 rfl rfl (by kernel_rfl) (by decide +kernel) (by decide +kernel) rfl rfl rfl | apply q_M 10 rfl rfl (by kernel_rfl) (by decide +kernel) (by decide +kernel) rfl rfl rfl | apply q_M 11 rfl rfl (by kernel_rfl) (by decide +kernel) (by decide +kernel) rfl rfl rfl | apply q_M 12 rfl rfl (by kernel_rfl) (by decide +kernel) (by decide +kernel) rfl rfl rfl | apply q_M 13 rfl rfl (by kernel_rfl) (by decide +kernel) (by decide +kernel) rfl rfl rfl | apply q_M 14 rfl rfl (by kernel_rfl) (by decide +kernel) (by decide +kernel) rfl rfl rfl | apply q_M 15 rfl rfl (by kernel_rfl) (by decide +kernel) (by decide +kernel) rfl rfl rfl | apply q_M 16 rfl rfl (by kernel_rfl) (by decide +kernel) (by decide +kernel) rfl rfl rfl | apply q_M 17 rfl rfl (by kernel_rfl) (by decide +kernel) (by decide +kernel) rfl rfl rfl | apply q_M 18 rfl rfl (by kernel_rfl) (by decide +kernel) (by decide +kernel) rfl rfl rfl | apply q_M 19 rfl rfl (by kernel_rfl) (by decide +kernel) (by decide +kernel) rfl rfl rfl | apply q_M 20 rfl rfl (by kernel_rfl) (by decide +kernel) (by decide +kernel) rfl rfl rfl | apply q_M 21 rfl rfl (by kernel_rfl) (by decide +kernel) (by decide +kernel) rfl rfl rfl | apply q_M 22 rfl rfl (by kernel_rfl) (by decide +kernel) (by decide +kernel) rfl rfl rfl | apply q_M 23 rfl rfl (by kernel_rfl) (by decide +kernel) (by decide +kernel) rfl rfl rfl | apply q_M 24 rfl rfl (by kernel_rfl) (by decide +kernel) (by decide +kernel) rfl rfl rfl ); (first | exact q_A | exact q_R (w := (by first | exact hw1 | exact hw2 | rfl)) | exact q_B)) | (apply q_L 0 rfl rfl (by kernel_rfl) (by decide +kernel) (by decide +kernel) rfl rfl rfl; (first | exact q_R (w := (by first | exact hw1 | exact hw2 | rfl)) | exact q_6 | exact q_7 | exact q_15 | exact q_16 | exact q_19)) | (apply q_L 1 rfl rfl (by kernel_rfl) (by decide +kernel) (by decide +kernel) rfl rfl rfl; (first | exact q_R (w := (by first | exact hw1 | exact hw2 | rfl)) | exact q_6 | exact q_7 | exact q_15 | exact q_16 | exact q_19)) | (apply q_L 2 rfl rfl (by kernel_rfl) (by decide +kernel) (by decide +kernel) rfl rfl rfl; (first | exact q_R (w := (by first | exact hw1 | exact hw2 | rfl)) | exact q_6 | exact q_7 | exact q_15 | exact q_16 | exact q_19)) | (apply q_L 3 rfl rfl (by kernel_rfl) (by decide +kernel) (by decide +kernel) rfl rfl rfl; (first | exact q_R (w := (by first | exact hw1 | exact hw2 | rfl)) | exact q_6 | exact q_7 | exact q_15 | exact q_16 | exact q_19)) | (apply q_L 4 rfl rfl (by kernel_rfl) (by decide +kernel) (by decide +kernel) rfl rfl rfl; (first | exact q_R (w := (by first | exact hw1 | exact hw2 | rfl)) | exact q_6 | exact q_7 | exact q_15 | exact q_16 | exact q_19)) | (apply q_L 5 rfl rfl (by kernel_rfl) (by decide +kernel) (by decide +kernel) rfl rfl rfl; (first | exact q_R (w := (by first | exact hw1 | exact hw2 | rfl)) | exact q_6 | exact q_7 | exact q_15 | exact q_16 | exact q_19)) | (apply q_L 6 rfl rfl (by kernel_rfl) (by decide +kernel) (by decide +kernel) rfl rfl rfl; (first | exact q_R (w := (by first | exact hw1 | exact hw2 | rfl)) | exact q_6 | exact q_7 | exact q_15 | exact q_16 | exact q_19)) | (apply q_L 7 rfl rfl (by kernel_rfl) (by decide +kernel) (by decide +kernel) rfl rfl rfl; (first | exact q_R (w := (by first | exact hw1 | exact hw2 | rfl)) | exact q_6 | exact q_7 | exact q_15 | exact q_16 | exact q_19)) | (apply q_L 8 rfl rfl (by kernel_rfl) (by decide +kernel) (by decide +kernel) rfl rfl rfl; (first | exact q_R (w := (by first | exact hw1 | exact hw2 | rfl)) | exact q_6 | exact q_7 | exact q_15 | exact q_16 | exact q_19)) | (apply q_L 9 rfl rfl (by kernel_rfl) (by decide +kernel) (by decide +kernel) rfl rfl rfl; (first | exact q_R (w := (by first | exact hw1 | exact hw2 | rfl)) | exact q_6 | exact q_7 | exact q_15 | exact q_16 | exact q_19)) | (apply q_L 10 rfl rfl (by kernel_rfl) (by decide +kernel) (by decide +kernel) rfl rfl rfl; (first | exact q_R (w := (by first | exact hw1 | exact hw2 | rfl)) | exact q_6 | exact q_7 | exact q_15 | exact q_16 | exact q_19)) | (apply q_L 11 rfl rfl (by kernel_rfl) (by decide +kernel) (by decide +kernel) rfl rfl rfl; (first | exact q_R (w := (by first | exact hw1 | exact hw2 | rfl)) | exact q_6 | exact q_7 | exact q_15 | exact q_16 | exact q_19)) | (apply q_L 12 rfl rfl (by kernel_rfl) (by decide +kernel) (by decide +kernel) rfl rfl rfl; (first | exact q_R (w := (by first | exact hw1 | exact hw2 | rfl)) | exact q_6 | exact q_7 | exact q_15 | exact q_16 | exact q_19)) | (apply q_L 13 rfl rfl (by kernel_rfl) (by decide +kernel) (by decide +kernel) rfl rfl rfl; (first | exact q_R (w := (by first | exact hw1 | exact hw2 | rfl)) | exact q_6 | exact q_7 | exact q_15 | exact q_16 | exact q_19)) | (apply q_L 14 rfl rfl (by kernel_rfl) (by decide +kernel) (by decide +kernel) rfl rfl rfl; (first | exact q_R (w := (by first | exact hw1 | exact hw2 | rfl)) | exact q_6 | exact q_7 | exact q_15 | exact q_16 | exact q_19)) | (apply q_L 15 rfl rfl (by kernel_rfl) (by decide +kernel) (by decide +kernel) rfl rfl rfl; (first | exact q_R (w := (by first | exact hw1 | exact hw2 | rfl)) | exact q_6 | exact q_7 | exact q_15 | exact q_16 | exact q_19)) | (apply q_L 16 rfl rfl (by kernel_rfl) (by decide +kernel) (by decide +kernel) rfl rfl rfl; (first | exact q_R (w := (by first | exact hw1 | exact hw2 | rfl)) | exact q_6 | exact q_7 | exact q_15 | exact q_16 | exact q_19)) | (apply q_L 17 rfl rfl (by kernel_rfl) (by decide +kernel) (by decide +kernel) rfl rfl rfl; (first | exact q_R (w := (by first | exact hw1 | exact hw2 | rfl)) | exact q_6 | exact q_7 | exact q_15 | exact q_16 | exact q_19)) | (apply q_L 18 rfl rfl (by kernel_rfl) (by decide +kernel) (by decide +kernel) rfl rfl rfl; (first | exact q_R (w := (by first | exact hw1 | exact hw2 | rfl)) | exact q_6 | exact q_7 | exact q_15 | exact q_16 | exact q_19)) | (apply q_L 19 rfl rfl (by kernel_rfl) (by decide +kernel) (by decide +kernel) rfl rfl rfl; (first | exact q_R (w := (by first | exact hw1 | exact hw2 | rfl)) | exact q_6 | exact q_7 | exact q_15 | exact q_16 | exact q_19)) | (apply q_L 20 rfl rfl (by kernel_rfl) (by decide +kernel) (by decide +kernel) rfl rfl rfl; (first | exact q_R (w := (by first | exact hw1 | exact hw2 | rfl)) | exact q_6 | exact q_7 | exact q_15 | exact q_16 | exact q_19)) | (apply q_L 21 rfl rfl (by kernel_rfl) (by decide +kernel) (by decide +kernel) rfl rfl rfl; (first | exact q_R (w := (by first | exact hw1 | exact hw2 | rfl)) | exact q_6 | exact q_7 | exact q_15 | exact q_16 | exact q_19)) | (apply q_L 22 rfl rfl (by kernel_rfl) (by decide +kernel) (by decide +kernel) rfl rfl rfl; (first | exact q_R (w := (by first | exact hw1 | exact hw2 | rfl)) | exact q_6 | exact q_7 | exact q_15 | exact q_16 | exact q_19)) | (apply q_L 23 rfl rfl (by kernel_rfl) (by decide +kernel) (by decide +kernel) rfl rfl rfl; (first | exact q_R (w := (by first | exact hw1 | exact hw2 | rfl)) | exact q_6 | exact q_7 | exact q_15 | exact q_16 | exact q_19)) | (apply q_L 24 rfl rfl (by kernel_rfl) (by decide +kernel) (by decide +kernel) rfl rfl rfl; (first | exact q_R (w := (by first | exact hw1 | exact hw2 | rfl)) | exact q_6 | exact q_7 | exact q_15 | exact q_16 | exact q_19)) | refine zh (j := 0) (by decide +kernel) ?_ | refine zh (j := 1) (by decide +kernel) ?_ | refine zh (j := 2) (by decide +kernel) ?_ | refine zh (j := 3) (by decide +kernel) ?_ | refine zh (j := 4) (by decide +kernel) ?_ | refine zh (j := 5) (by decide +kernel) ?_ | refine zh (j := 6) (by decide +kernel) ?_ | refine zh (j := 7) (by decide +kernel) ?_ | refine zh (j := 8) (by decide +kernel) ?_ | refine zh (j := 9) (by decide +kernel) ?_ | refine zh (j := 10) (by decide +kernel) ?_ | refine zh (j := 11) (by decide +kernel) ?_ | refine zh (j := 12) (by decide +kernel) ?_ | refine zh (j := 13) (by decide +kernel) ?_ | refine zh (j := 14) (by decide +kernel) ?_ | refine zh (j := 15) (by decide +kernel) ?_ | refine zh (j := 16) (by decide +kernel) ?_ | refine zh (j := 17) (by decide +kernel) ?_ | refine zh (j := 18) (by decide +kernel) ?_ | refine zh (j := 19) (by decide +kernel) ?_ | refine zh (j := 20) (by decide +kernel) ?_ | refine zh (j := 21) (by decide +kernel) ?_ | refine zh (j := 22) (by decide +kernel) ?_ | refine zh (j := 23) (by decide +kernel) ?_ | refine zh (j := 24) (by decide +kernel) ?_ | refine zcJ za rfl rfl rfl rfl rfl rfl rfl ?_ | refine zai za rfl rfl rfl rfl rfl rfl rfl rfl rfl rfl rfl rfl rfl ?_ | refine zfF rfl rfl rfl rfl rfl rfl rfl rfl ?_ | (apply zl rfl rfl rfl rfl; (first | exact q_A | exact q_R (w := (by first | exact hw1 | exact hw2 | rfl)) | exact q_B)) | refine zaz (by decide +kernel) ?_ | (first | refine zki rfl rfl rfl rfl rfl rfl rfl rfl ?_ | refine zcv rfl rfl rfl rfl rfl rfl (zah _ _) (fun _ => rfl) ?_))
 refine q_j ?_
 refine zS ?_
 exact zt (h2 := hK (bkOf d)) AWk.refl rfl ⟨rfl, rfl, rfl, rfl, rfl, rfl, trivial⟩ ⟨rfl, rfl⟩
set_option maxHeartbeats 8000000 in
theorem zjE (d : Dvc) (i : Nat) (hi : i < d.sts.length) (hok : ∀ x ∈ d.sts, x.p.ok) : ACall Tryz.prog 127 ([intA (i : Int)] ++ [.ptr 1000 0, .iptr (dvcD d) 0]) (hK (bkOf d)) (fun c h => c = intA (flt4 d i) ∧ h = hK (bkOf d)) := by
 have hw := zj zcQ d.sts i 7 hi (by decide)
 have h1 := zgz (bkOf d) d.sts[i] (hok _ (List.getElem_mem hi))
 unfold flt4
 rw [List.getElem?_eq_getElem hi]
 obtain ⟨x, hx⟩ : ∃ x, d.sts[i] = x := ⟨_, rfl⟩
 rw [hx] at hw h1 ⊢
 clear hx
 refine zc za Tryz.func127 rfl Tryz.ntmps127 (congrArg Array.toList Tryz.results127) (by kernel_rfl) rfl ?_
 refine zn ?_
 (first | refine ze ?_ | refine zg rfl mixed (by kernel_rfl) ?_)
 repeat' (first | ((first | apply q_K rfl | apply q_X rfl); (first | exact q_H | fail)) | refine q_d ?_ | refine q_a ?_ | refine q_b ?_ | refine q_e ?_ | refine q_f ?_ | refine q_g ?_ | ((fail_if_success (refine O_wt rfl ?_)); refine O_gs rfl rfl (fun _ => ?_) (fun _ => ?_)) | ((fail_if_success (refine Q_wt rfl ?_)); refine Q_gs rfl rfl (fun _ => ?_) (fun _ => ?_)) | refine zi ?_ | refine zk ?_ | refine q_j ?_ | fail)
 refine zn ?_
 refine zaq [1001, 1002, 1003, 1004, 1005] mixed ?_
 repeat (first | ((first | apply q_M 0 rfl rfl (by kernel_rfl) (by decide +kernel) (by decide +kernel) rfl rfl rfl | apply q_M 1 rfl rfl (by kernel_rfl) (by decide +kernel) (by decide +kernel) rfl rfl rfl | apply q_M 2 rfl rfl (by kernel_rfl) (by decide +kernel) (by decide +kernel) rfl rfl rfl | apply q_M 3 rfl rfl (by kernel_rfl) (by decide +kernel) (by decide +kernel) rfl rfl rfl | apply q_M 4 rfl rfl (by kernel_rfl) (by decide +kernel) (by decide +kernel) rfl rfl rfl | apply q_M 5 rfl rfl (by kernel_rfl) (by decide +kernel) (by decide +kernel) rfl rfl rfl | apply q_M 6 rfl rfl (by kernel_rfl) (by decide +kernel) (by decide +kernel) rfl rfl rfl | apply q_M 7 rfl rfl (by kernel_rfl) (by decide +kernel) (by decide +kernel) rfl rfl rfl | apply q_M 8 rfl rfl (by kernel_rfl) (by decide +kernel) (by decide +kernel) rfl rfl rfl | apply q_M 9 rfl rfl (by kernel_rfl) (by decide +kernel) (by decide +kernel) rfl rfl rfl | apply q_M 10 rfl rfl (by kernel_rfl) (by decide +kernel) (by decide +kernel) rfl rfl rfl | apply q_M 11 rfl rfl (by kernel_rfl) (by decide +kernel) (by decide +kernel) rfl rfl rfl | apply q_M 12 rfl rfl (by kernel_rfl) (by decide +kernel) (by decide +kernel) rfl rfl rfl | apply q_M 13 rfl rfl (by kernel_rfl) (by decide +kernel) (by decide +kernel) rfl rfl rfl | apply q_M 14 rfl rfl (by kernel_rfl) (by decide +kernel) (by decide +kernel) rfl rfl rfl | apply q_M 15 rfl rfl (by kernel_rfl) (by decide +kernel) (by decide +kernel) rfl rfl rfl | apply q_M 16 rfl rfl (by kernel_rfl) (by decide +kernel) (by decide +kernel) rfl rfl rfl | apply q_M 17 rfl rfl (by kernel_rfl) (by decide +kernel) (by decide +kernel) rfl rfl rfl | apply q_M 18 rfl rfl (by kernel_rfl) (by decide +kernel) (by decide +kernel) rfl rfl rfl | apply q_M 19 rfl rfl (by kernel_rfl) (by decide +kernel) (by decide +kernel) rfl rfl rfl | apply q_M 20 rfl rfl (by kernel_rfl) (by decide +kernel) (by decide +kernel) rfl rfl rfl | apply q_M 21 rfl rfl (by kernel_rfl) (by decide +kernel) (by decide +kernel) rfl rfl rfl | apply q_M 22 rfl rfl (by kernel_rfl) (by decide +kernel) (by decide +kernel) rfl rfl rfl | apply q_M 23 rfl rfl (by kernel_rfl) (by decide +kernel) (by decide +kernel) rfl rfl rfl | apply q_M 24 rfl rfl (by kernel_rfl) (by decide +kernel) (by decide +kernel) rfl rfl rfl ); (first | exact q_A | exact q_R (w := (by first | exact hw | rfl)) | exact q_B)) | (apply q_L 0 rfl rfl (by kernel_rfl) (by decide +kernel) (by decide +kernel) rfl rfl rfl; (first | exact q_R (w := (by first | exact hw | rfl)) | exact q_6 | exact q_7 | exact q_15 | exact q_16 | exact q_19)) | (apply q_L 1 rfl rfl (by kernel_rfl) (by decide +kernel) (by decide +kernel) rfl rfl rfl; (first | exact q_R (w := (by first | exact hw | rfl)) | exact q_6 | exact q_7 | exact q_15 | exact q_16 | exact q_19)) | (apply q_L 2 rfl rfl (by kernel_rfl) (by decide +kernel) (by decide +kernel) rfl rfl rfl; (first | exact q_R (w := (by first | exact hw | rfl)) | exact q_6 | exact q_7 | exact q_15 | exact q_16 | exact q_19)) | (apply q_L 3 rfl rfl (by kernel_rfl) (by decide +kernel) (by decide +kernel) rfl rfl rfl; (first | exact q_R (w := (by first | exact hw | rfl)) | exact q_6 | exact q_7 | exact q_15 | exact q_16 | exact q_19)) | (apply q_L 4 rfl rfl (by kernel_rfl) (by decide +kernel) (by decide +kernel) rfl rfl rfl; (first | exact q_R (w := (by first | exact hw | rfl)) | exact q_6 | exact q_7 | exact q_15 | exact q_16 | exact q_19)) | (apply q_L 5 rfl rfl (by kernel_rfl) (by decide +kernel) (by decide +kernel) rfl rfl rfl; (first | exact q_R (w := (by first | exact hw | rfl)) | exact q_6 | exact q_7 | exact q_15 | exact q_16 | exact q_19)) | (apply q_L 6 rfl rfl (by kernel_rfl) (by decide +kernel) (by decide +kernel) rfl rfl rfl; (first | exact q_R (w := (by first | exact hw | rfl)) | exact q_6 | exact q_7 | exact q_15 | exact q_16 | exact q_19)) | (apply q_L 7 rfl rfl (by kernel_rfl) (by decide +kernel) (by decide +kernel) rfl rfl rfl; (first | exact q_R (w := (by first | exact hw | rfl)) | exact q_6 | exact q_7 | exact q_15 | exact q_16 | exact q_19)) | (apply q_L 8 rfl rfl (by kernel_rfl) (by decide +kernel) (by decide +kernel) rfl rfl rfl; (first | exact q_R (w := (by first | exact hw | rfl)) | exact q_6 | exact q_7 | exact q_15 | exact q_16 | exact q_19)) | (apply q_L 9 rfl rfl (by kernel_rfl) (by decide +kernel) (by decide +kernel) rfl rfl rfl; (first | exact q_R (w := (by first | exact hw | rfl)) | exact q_6 | exact q_7 | exact q_15 | exact q_16 | exact q_19)) | (apply q_L 10 rfl rfl (by kernel_rfl) (by decide +kernel) (by decide +kernel) rfl rfl rfl; (first | exact q_R (w := (by first | exact hw | rfl)) | exact q_6 | exact q_7 | exact q_15 | exact q_16 | exact q_19)) | (apply q_L 11 rfl rfl (by kernel_rfl) (by decide +kernel) (by decide +kernel) rfl rfl rfl; (first | exact q_R (w := (by first | exact hw | rfl)) | exact q_6 | exact q_7 | exact q_15 | exact q_16 | exact q_19)) | (apply q_L 12 rfl rfl (by kernel_rfl) (by decide +kernel) (by decide +kernel) rfl rfl rfl; (first | exact q_R (w := (by first | exact hw | rfl)) | exact q_6 | exact q_7 | exact q_15 | exact q_16 | exact q_19)) | (apply q_L 13 rfl rfl (by kernel_rfl) (by decide +kernel) (by decide +kernel) rfl rfl rfl; (first | exact q_R (w := (by first | exact hw | rfl)) | exact q_6 | exact q_7 | exact q_15 | exact q_16 | exact q_19)) | (apply q_L 14 rfl rfl (by kernel_rfl) (by decide +kernel) (by decide +kernel) rfl rfl rfl; (first | exact q_R (w := (by first | exact hw | rfl)) | exact q_6 | exact q_7 | exact q_15 | exact q_16 | exact q_19)) | (apply q_L 15 rfl rfl (by kernel_rfl) (by decide +kernel) (by decide +kernel) rfl rfl rfl; (first | exact q_R (w := (by first | exact hw | rfl)) | exact q_6 | exact q_7 | exact q_15 | exact q_16 | exact q_19)) | (apply q_L 16 rfl rfl (by kernel_rfl) (by decide +kernel) (by decide +kernel) rfl rfl rfl; (first | exact q_R (w := (by first | exact hw | rfl)) | exact q_6 | exact q_7 | exact q_15 | exact q_16 | exact q_19)) | (apply q_L 17 rfl rfl (by kernel_rfl) (by decide +kernel) (by decide +kernel) rfl rfl rfl; (first | exact q_R (w := (by first | exact hw | rfl)) | exact q_6 | exact q_7 | exact q_15 | exact q_16 | exact q_19)) | (apply q_L 18 rfl rfl (by kernel_rfl) (by decide +kernel) (by decide +kernel) rfl rfl rfl; (first | exact q_R (w := (by first | exact hw | rfl)) | exact q_6 | exact q_7 | exact q_15 | exact q_16 | exact q_19)) | (apply q_L 19 rfl rfl (by kernel_rfl) (by decide +kernel) (by decide +kernel) rfl rfl rfl; (first | exact q_R (w := (by first | exact hw | rfl)) | exact q_6 | exact q_7 | exact q_15 | exact q_16 | exact q_19)) | (apply q_L 20 rfl rfl (by kernel_rfl) (by decide +kernel) (by decide +kernel) rfl rfl rfl; (first | exact q_R (w := (by first | exact hw | rfl)) | exact q_6 | exact q_7 | exact q_15 | exact q_16 | exact q_19)) | (apply q_L 21 rfl rfl (by kernel_rfl) (by decide +kernel) (by decide +kernel) rfl rfl rfl; (first | exact q_R (w := (by first | exact hw | rfl)) | exact q_6 | exact q_7 | exact q_15 | exact q_16 | exact q_19)) | (apply q_L 22 rfl rfl (by kernel_rfl) (by decide +kernel) (by decide +kernel) rfl rfl rfl; (first | exact q_R (w := (by first | exact hw | rfl)) | exact q_6 | exact q_7 | exact q_15 | exact q_16 | exact q_19)) | (apply q_L 23 rfl rfl (by kernel_rfl) (by decide +kernel) (by decide +kernel) rfl rfl rfl; (first | exact q_R (w := (by first | exact hw | rfl)) | exact q_6 | exact q_7 | exact q_15 | exact q_16 | exact q_19)) | (apply q_L 24 rfl rfl (by kernel_rfl) (by decide +kernel) (by decide +kernel) rfl rfl rfl; (first | exact q_R (w := (by first | exact hw | rfl)) | exact q_6 | exact q_7 | exact q_15 | exact q_16 | exact q_19)) | refine zh (j := 0) (by decide +kernel) ?_ | refine zh (j := 1) (by decide +kernel) ?_ | refine zh (j := 2) (by decide +kernel) ?_ | refine zh (j := 3) (by decide +kernel) ?_ | refine zh (j := 4) (by decide +kernel) ?_ | refine zh (j := 5) (by decide +kernel) ?_ | refine zh (j := 6) (by decide +kernel) ?_ | refine zh (j := 7) (by decide +kernel) ?_ | refine zh (j := 8) (by decide +kernel) ?_ | refine zh (j := 9) (by decide +kernel) ?_ | refine zh (j := 10) (by decide +kernel) ?_ | refine zh (j := 11) (by decide +kernel) ?_ | refine zh (j := 12) (by decide +kernel) ?_ | refine zh (j := 13) (by decide +kernel) ?_ | refine zh (j := 14) (by decide +kernel) ?_ | refine zh (j := 15) (by decide +kernel) ?_ | refine zh (j := 16) (by decide +kernel) ?_ | refine zh (j := 17) (by decide +kernel) ?_ | refine zh (j := 18) (by decide +kernel) ?_ | refine zh (j := 19) (by decide +kernel) ?_ | refine zh (j := 20) (by decide +kernel) ?_ | refine zh (j := 21) (by decide +kernel) ?_ | refine zh (j := 22) (by decide +kernel) ?_ | refine zh (j := 23) (by decide +kernel) ?_ | refine zh (j := 24) (by decide +kernel) ?_ | refine zcJ za rfl rfl rfl rfl rfl rfl rfl ?_ | refine zai za rfl rfl rfl rfl rfl rfl rfl rfl rfl rfl rfl rfl rfl ?_ | refine zfF rfl rfl rfl rfl rfl rfl rfl rfl ?_ | (apply zl rfl rfl rfl rfl; (first | exact q_A | exact q_R (w := (by first | exact hw | rfl)) | exact q_B)) | refine zaz (by decide +kernel) ?_ | (first | refine T_bk h1 rfl rfl rfl ⟨rfl, rfl, rfl, rfl, rfl⟩ rfl rfl rfl rfl rfl rfl rfl rfl rfl rfl rfl ?_))
 refine q_j ?_
 refine zS ?_
 exact zt (h2 := hK (bkOf d)) AWk.refl rfl ⟨rfl, kr1 _ _, kr1 _ _, kr1 _ _, kr1 _ _, kr1 _ _, trivial⟩ ⟨rfl, rfl⟩
set_option maxHeartbeats 8000000 in
theorem zjB (d : Dvc) (i : Nat) (hi : i < d.pols.length) (hn : d.pols.length ≤ 140737488355328) (h3 : ∀ x ∈ d.pols, x.cs.length ≤ 140737488355328) (h4 : ∀ x ∈ d.pols, ∀ c ∈ x.cs, c.pre.length ≤ 140737488355328) : ACall Tryz.prog 135 ([intA (i : Int)] ++ [.ptr 1000 0, .iptr (dvcD d) 0]) (hK (bkOf d)) (fun c h => c = intA (flt7 d i) ∧ h = hK (bkOf d)) := by
 have hw0 := zW zaS d.pols i 0 1 hi (by decide)
 have hw1 := zW zaS d.pols i 1 1 hi (by decide)
 have h1 := zjW d.pols 85 i hi (fun x => x.nm) (fun x => zgO x) hn
 have h5 := zgd (bkOf d) d.pols[i].cs (h3 _ (List.getElem_mem hi)) (h4 _ (List.getElem_mem hi))
 unfold flt7
 rw [List.getElem?_eq_getElem hi]
 obtain ⟨fb, ef⟩ : ∃ fb, fstB (fun x : Pol => x.nm) d.pols i = fb := ⟨_, rfl⟩
 obtain ⟨x, hx⟩ : ∃ x, d.pols[i] = x := ⟨_, rfl⟩
 rw [hx] at hw0 hw1 h5 ⊢
 have h2 := zbS x.nm
 obtain ⟨nb, en⟩ : ∃ fb, nameB x.nm = fb := ⟨_, rfl⟩
 obtain ⟨r1, e1⟩ : ∃ r, (clsP (bkOf d) x.cs).1 = r := ⟨_, rfl⟩
 obtain ⟨r2, e2⟩ : ∃ r, (clsP (bkOf d) x.cs).2 = r := ⟨_, rfl⟩
 dsimp only
 rw [ef] at h1 ⊢
 rw [en] at h2 ⊢
 rw [e1, e2] at h5 ⊢
 clear ef en e1 e2 hx h3 h4
 obtain ⟨xn, xcs, xdf⟩ := x
 refine zc za Tryz.func135 rfl Tryz.ntmps135 (congrArg Array.toList Tryz.results135) (by kernel_rfl) rfl ?_
 refine zn ?_
 (first | refine ze ?_ | refine zg rfl mixed (by kernel_rfl) ?_)
 repeat' (first | ((first | apply q_K rfl | apply q_X rfl); (first | exact q_H | fail)) | refine q_d ?_ | refine q_a ?_ | refine q_b ?_ | refine q_e ?_ | refine q_f ?_ | refine q_g ?_ | ((fail_if_success (refine O_wt rfl ?_)); refine O_gs rfl rfl (fun _ => ?_) (fun _ => ?_)) | ((fail_if_success (refine Q_wt rfl ?_)); refine Q_gs rfl rfl (fun _ => ?_) (fun _ => ?_)) | refine zi ?_ | refine zk ?_ | refine q_j ?_ | fail)
 refine zn ?_
 refine zaq [1001, 1002, 1003, 1004, 1005] mixed ?_
 repeat (first | ((first | apply q_M 0 rfl rfl (by kernel_rfl) (by decide +kernel) (by decide +kernel) rfl rfl rfl | apply q_M 1 rfl rfl (by kernel_rfl) (by decide +kernel) (by decide +kernel) rfl rfl rfl | apply q_M 2 rfl rfl (by kernel_rfl) (by decide +kernel) (by decide +kernel) rfl rfl rfl | apply q_M 3 rfl rfl (by kernel_rfl) (by decide +kernel) (by decide +kernel) rfl rfl rfl | apply q_M 4 rfl rfl (by kernel_rfl) (by decide +kernel) (by decide +kernel) rfl rfl rfl | apply q_M 5 rfl rfl (by kernel_rfl) (by decide +kernel) (by decide +kernel) rfl rfl rfl | apply q_M 6 rfl rfl (by kernel_rfl) (by decide +kernel) (by decide +kernel) rfl rfl rfl | apply q_M 7 rfl rfl (by kernel_rfl) (by decide +kernel) (by decide +kernel) rfl rfl rfl | apply q_M 8 rfl rfl (by kernel_rfl) (by decide +kernel) (by decide +kernel) rfl rfl rfl | apply q_M 9 rfl rfl (by kernel_rfl) (by decide +kernel) (by decide +kernel) rfl rfl rfl | apply q_M 10 rfl rfl (by kernel_rfl) (by decide +kernel) (by decide +kernel) rfl rfl rfl | apply q_M 11 rfl rfl (by kernel_rfl) (by decide +kernel) (by decide +kernel) rfl rfl rfl | apply q_M 12 rfl rfl (by kernel_rfl) (by decide +kernel) (by decide +kernel) rfl rfl rfl | apply q_M 13 rfl rfl (by kernel_rfl) (by decide +kernel) (by decide +kernel) rfl rfl rfl | apply q_M 14 rfl rfl (by kernel_rfl) (by decide +kernel) (by decide +kernel) rfl rfl rfl | apply q_M 15 rfl rfl (by kernel_rfl) (by decide +kernel) (by decide +kernel) rfl rfl rfl | apply q_M 16 rfl rfl (by kernel_rfl) (by decide +kernel) (by decide +kernel) rfl rfl rfl | apply q_M 17 rfl rfl (by kernel_rfl) (by decide +kernel) (by decide +kernel) rfl rfl rfl | apply q_M 18 rfl rfl (by kernel_rfl) (by decide +kernel) (by decide +kernel) rfl rfl rfl | apply q_M 19 rfl rfl (by kernel_rfl) (by decide +kernel) (by decide +kernel) rfl rfl rfl | apply q_M 20 rfl rfl (by kernel_rfl) (by decide +kernel) (by decide +kernel) rfl rfl rfl | apply q_M 21 rfl rfl (by kernel_rfl) (by decide +kernel) (by decide +kernel) rfl rfl rfl | apply q_M 22 rfl rfl (by kernel_rfl) (by decide +kernel) (by decide +kernel) rfl rfl rfl | apply q_M 23 rfl rfl (by kernel_rfl) (by decide +kernel) (by decide +kernel) rfl rfl rfl | apply q_M 24 rfl rfl (by kernel_rfl) (by decide +kernel) (by decide +kernel) rfl rfl rfl ); (first | exact q_A | exact q_R (w := (by first | exact hw1 | rfl)) | exact q_B)) | (apply q_L 0 rfl rfl (by kernel_rfl) (by decide +kernel) (by decide +kernel) rfl rfl rfl; (first | exact q_R (w := (by first | exact hw1 | rfl)) | exact q_6 | exact q_7 | exact q_15 | exact q_16 | exact q_19)) | (apply q_L 1 rfl rfl (by kernel_rfl) (by decide +kernel) (by decide +kernel) rfl rfl rfl; (first | exact q_R (w := (by first | exact hw1 | rfl)) | exact q_6 | exact q_7 | exact q_15 | exact q_16 | exact q_19)) | (apply q_L 2 rfl rfl (by kernel_rfl) (by decide +kernel) (by decide +kernel) rfl rfl rfl; (first | exact q_R (w := (by first | exact hw1 | rfl)) | exact q_6 | exact q_7 | exact q_15 | exact q_16 | exact q_19)) | (apply q_L 3 rfl rfl (by kernel_rfl) (by decide +kernel) (by decide +kernel) rfl rfl rfl; (first | exact q_R (w := (by first | exact hw1 | rfl)) | exact q_6 | exact q_7 | exact q_15 | exact q_16 | exact q_19)) | (apply q_L 4 rfl rfl (by kernel_rfl) (by decide +kernel) (by decide +kernel) rfl rfl rfl; (first | exact q_R (w := (by first | exact hw1 | rfl)) | exact q_6 | exact q_7 | exact q_15 | exact q_16 | exact q_19)) | (apply q_L 5 rfl rfl (by kernel_rfl) (by decide +kernel) (by decide +kernel) rfl rfl rfl; (first | exact q_R (w := (by first | exact hw1 | rfl)) | exact q_6 | exact q_7 | exact q_15 | exact q_16 | exact q_19)) | (apply q_L 6 rfl rfl (by kernel_rfl) (by decide +kernel) (by decide +kernel) rfl rfl rfl; (first | exact q_R (w := (by first | exact hw1 | rfl)) | exact q_6 | exact q_7 | exact q_15 | exact q_16 | exact q_19)) | (apply q_L 7 rfl rfl (by kernel_rfl) (by decide +kernel) (by decide +kernel) rfl rfl rfl; (first | exact q_R (w := (by first | exact hw1 | rfl)) | exact q_6 | exact q_7 | exact q_15 | exact q_16 | exact q_19)) | (apply q_L 8 rfl rfl (by kernel_rfl) (by decide +kernel) (by decide +kernel) rfl rfl rfl; (first | exact q_R (w := (by first | exact hw1 | rfl)) | exact q_6 | exact q_7 | exact q_15 | exact q_16 | exact q_19)) | (apply q_L 9 rfl rfl (by kernel_rfl) (by decide +kernel) (by decide +kernel) rfl rfl rfl; (first | exact q_R (w := (by first | exact hw1 | rfl)) | exact q_6 | exact q_7 | exact q_15 | exact q_16 | exact q_19)) | (apply q_L 10 rfl rfl (by kernel_rfl) (by decide +kernel) (by decide +kernel) rfl rfl rfl; (first | exact q_R (w := (by first | exact hw1 | rfl)) | exact q_6 | exact q_7 | exact q_15 | exact q_16 | exact q_19)) | (apply q_L 11 rfl rfl (by kernel_rfl) (by decide +kernel) (by decide +kernel) rfl rfl rfl; (first | exact q_R (w := (by first | exact hw1 | rfl)) | exact q_6 | exact q_7 | exact q_15 | exact q_16 | exact q_19)) | (apply q_L 12 rfl rfl (by kernel_rfl) (by decide +kernel) (by decide +kernel) rfl rfl rfl; (first | exact q_R (w := (by first | exact hw1 | rfl)) | exact q_6 | exact q_7 | exact q_15 | exact q_16 | exact q_19)) | (apply q_L 13 rfl rfl (by kernel_rfl) (by decide +kernel) (by decide +kernel) rfl rfl rfl; (first | exact q_R (w := (by first | exact hw1 | rfl)) | exact q_6 | exact q_7 | exact q_15 | exact q_16 | exact q_19)) | (apply q_L 14 rfl rfl (by kernel_rfl) (by decide +kernel) (by decide +kernel) rfl rfl rfl; (first | exact q_R (w := (by first | exact hw1 | rfl)) | exact q_6 | exact q_7 | exact q_15 | exact q_16 | exact q_19)) | (apply q_L 15 rfl rfl (by kernel_rfl) (by decide +kernel) (by decide +kernel) rfl rfl rfl; (first | exact q_R (w := (by first | exact hw1 | rfl)) | exact q_6 | exact q_7 | exact q_15 | exact q_16 | exact q_19)) | (apply q_L 16 rfl rfl (by kernel_rfl) (by decide +kernel) (by decide +kernel) rfl rfl rfl; (first | exact q_R (w := (by first | exact hw1 | rfl)) | exact q_6 | exact q_7 | exact q_15 | exact q_16 | exact q_19)) | (apply q_L 17 rfl rfl (by kernel_rfl) (by decide +kernel) (by decide +kernel) rfl rfl rfl; (first | exact q_R (w := (by first | exact hw1 | rfl)) | exact q_6 | exact q_7 | exact q_15 | exact q_16 | exact q_19)) | (apply q_L 18 rfl rfl (by kernel_rfl) (by decide +kernel) (by decide +kernel) rfl rfl rfl; (first | exact q_R (w := (by first | exact hw1 | rfl)) | exact q_6 | exact q_7 | exact q_15 | exact q_16 | exact q_19)) | (apply q_L 19 rfl rfl (by kernel_rfl) (by decide +kernel) (by decide +kernel) rfl rfl rfl; (first | exact q_R (w := (by first | exact hw1 | rfl)) | exact q_6 | exact q_7 | exact q_15 | exact q_16 | exact q_19)) | (apply q_L 20 rfl rfl (by kernel_rfl) (by decide +kernel) (by decide +kernel) rfl rfl rfl; (first | exact q_R (w := (by first | exact hw1 | rfl)) | exact q_6 | exact q_7 | exact q_15 | exact q_16 | exact q_19)) | (apply q_L 21 rfl rfl (by kernel_rfl) (by decide +kernel) (by decide +kernel) rfl rfl rfl; (first | exact q_R (w := (by first | exact hw1 | rfl)) | exact q_6 | exact q_7 | exact q_15 | exact q_16 | exact q_19)) | (apply q_L 22 rfl rfl (by kernel_rfl) (by decide +kernel) (by decide +kernel) rfl rfl rfl; (first | exact q_R (w := (by first | exact hw1 | rfl)) | exact q_6 | exact q_7 | exact q_15 | exact q_16 | exact q_19)) | (apply q_L 23 rfl rfl (by kernel_rfl) (by decide +kernel) (by decide +kernel) rfl rfl rfl; (first | exact q_R (w := (by first | exact hw1 | rfl)) | exact q_6 | exact q_7 | exact q_15 | exact q_16 | exact q_19)) | (apply q_L 24 rfl rfl (by kernel_rfl) (by decide +kernel) (by decide +kernel) rfl rfl rfl; (first | exact q_R (w := (by first | exact hw1 | rfl)) | exact q_6 | exact q_7 | exact q_15 | exact q_16 | exact q_19)) | refine zh (j := 0) (by decide +kernel) ?_ | refine zh (j := 1) (by decide +kernel) ?_ | refine zh (j := 2) (by decide +kernel) ?_ | refine zh (j := 3) (by decide +kernel) ?_ | refine zh (j := 4) (by decide +kernel) ?_ | refine zh (j := 5) (by decide +kernel) ?_ | refine zh (j := 6) (by decide +kernel) ?_ | refine zh (j := 7) (by decide +kernel) ?_ | refine zh (j := 8) (by decide +kernel) ?_ | refine zh (j := 9) (by decide +kernel) ?_ | refine zh (j := 10) (by decide +kernel) ?_ | refine zh (j := 11) (by decide +kernel) ?_ | refine zh (j := 12) (by decide +kernel) ?_ | refine zh (j := 13) (by decide +kernel) ?_ | refine zh (j := 14) (by decide +kernel) ?_ | refine zh (j := 15) (by decide +kernel) ?_ | refine zh (j := 16) (by decide +kernel) ?_ | refine zh (j := 17) (by decide +kernel) ?_ | refine zh (j := 18) (by decide +kernel) ?_ | refine zh (j := 19) (by decide +kernel) ?_ | refine zh (j := 20) (by decide +kernel) ?_ | refine zh (j := 21) (by decide +kernel) ?_ | refine zh (j := 22) (by decide +kernel) ?_ | refine zh (j := 23) (by decide +kernel) ?_ | refine zh (j := 24) (by decide +kernel) ?_ | refine zcJ za rfl rfl rfl rfl rfl rfl rfl ?_ | refine zai za rfl rfl rfl rfl rfl rfl rfl rfl rfl rfl rfl rfl rfl ?_ | refine zfF rfl rfl rfl rfl rfl rfl rfl rfl ?_ | (apply zl rfl rfl rfl rfl; (first | exact q_A | exact q_R (w := (by first | exact hw1 | rfl)) | exact q_B)) | refine zaz (by decide +kernel) ?_ | (first | refine T_bk h5 rfl rfl rfl ⟨rfl, rfl, rfl, rfl, rfl⟩ rfl rfl rfl rfl rfl rfl rfl rfl rfl rfl rfl ?_))
 refine q_j ?_
 refine zf (zq (e1 := [(0, intA (i : Int)), (2, .iptr (dvcD d) 0), (5, boolA r1), (6, boolA r2)]) (h1 := hK (bkOf d)) ⟨rfl, rfl, rfl, rfl, trivial⟩ ⟨rfl, kr1 _ _, kr1 _ _, kr1 _ _, kr1 _ _, kr1 _ _, trivial⟩) ?_
 repeat' (first | refine zn ?_ | refine zp ?_ | refine ze ?_ | refine zg rfl mixed (by kernel_rfl) ?_ | ((first | apply q_K rfl | apply q_X rfl); (first | exact q_A | exact q_R (w := (by first | exact hw0 | rfl)) | exact q_B | fail)) | refine zi ?_ | refine zk ?_ | refine q_j ?_ | refine q_k ?_ | refine q_d ?_ | refine q_a ?_ | refine q_b ?_ | refine q_e ?_ | refine q_f ?_ | refine q_g ?_ | ((fail_if_success (refine O_wt rfl ?_)); refine O_gs rfl rfl (fun _ => ?_) (fun _ => ?_)) | ((fail_if_success (refine Q_wt rfl ?_)); refine Q_gs rfl rfl (fun _ => ?_) (fun _ => ?_)) | refine A_ct rfl ?_ | refine A_cf rfl ?_ | refine zU rfl (fun _ => ?_) (fun _ => ?_) | refine zz ?_ | refine zA ?_ | refine zS ?_ | refine q_l ?_ | refine q_m ?_ | refine q_n ?_ | refine q_h ?_ | refine q_o ?_ | (first | refine q_O h1 ?_ | refine q_O h2 ?_ | (refine O_c rfl rfl rfl rfl rfl (zah _ _) (fun _ => rfl) ?_)))
 all_goals exact zt (h2 := hK (bkOf d)) AWk.refl rfl ⟨rfl, rfl, rfl, rfl, rfl, rfl, trivial⟩ ⟨by simp only [*, Bool.true_and, Bool.false_and], rfl⟩
end Go.Proofs.YtoahnbmedcjpeaaGreatDoor.Ab

namespace Go.Proofs.YtoahnbmedcjpeaaGreatDoor.Ab
open Go.RowKit
section
variable {P : Program} {nt : Nat} {Q : Post} {e : Env} {h : Heap} {ops : Array Oper} {o : Oper} {rest : List Oper} {T : List Nat}
theorem zh1 {f : FuncId} {x0 : Operand} {args : Array Operand} {ats : Array TypeId} {cs0 cs1 caps cs : List AVal} {h0 : Heap} {d : Option Tmp} {Q : AVal → Heap → Prop} (ρ : List (Nat × Nat)) (ho : o.op = .call { callee := .value x0, args := args, argTypes := ats }) (hdst : o.dst = d) (hfn : aev e x0 = some (.fn f caps)) (hx : aevs e args.toList = some cs1) (hcc : cs1 ++ caps = cs0)
  (hcs : cs.map (renV ρ) = cs0) (hok : ∀ c ∈ cs, okV ρ c = true) (hl : Lent ρ h h0) (hdom : ∀ p i, look ρ p = some i → 1000 ≤ p ∧ (look h0 p).isSome = true) (hinj : ∀ p p' i, look ρ p = some i → look ρ p' = some i → p = p')
  (H : ACall P f cs h0 Q) (hd : dstOk nt d = true) (hT : ∀ p i, look ρ p = some i → T.contains i = true) (hq : ∀ c h', Q c h' → ∀ p i, look ρ p = some i → (look h' p).isSome = true) :
  AEff P nt T e h o (fun e' h2 => ∃ c h', Q c h' ∧ e' = aput d (renV ρ c) e ∧ h2 = renH ρ h' ++ h) := fun Pm F w0 pin ι a w R K Qx hK => by
 have hfv := zm R.env hfn
 generalize hau : a.eval x0 = u0 at hfv
 cases hfv with
 | fn _ _ C hlC hhC =>
 unfold Oper.wp
 rw [zbD H.1 ho hau, Oper.upon_enter, hdst]
 have HR := R.heap
 let ι0 : Nat → Option Value := fun p => match look ρ p with | some i => ι i | none => none
 have h0some : ∀ p v, ι0 p = some v → ∃ i, look ρ p = some i ∧ ι i = some v := fun p v hv => by
  simp only [ι0] at hv
  cases hp : look ρ p with
  | none => rw [hp] at hv; cases hv
  | some i => rw [hp] at hv; exact ⟨i, rfl, hv⟩
 have h0of : ∀ p i, look ρ p = some i → ι0 p = ι i := fun p i hp => by simp only [ι0, hp]
 let F' : Nat → Prop := fun r => F r ∨ ∃ id v, ι id = some v ∧ blockOf v = some r ∧ ∀ p, look ρ p ≠ some id
 let Pm' : Nat → Prop := fun r => w.heap.size ≤ r ∨ ∃ p v, ι0 p = some v ∧ blockOf v = some r
 have hFdown : ExtF w F ι w F' ι0 := ⟨fun _ _ _ => rfl, fun r _ hf => ⟨fun hc => hc.elim hf.1 fun ⟨id, v, h1, h2, _⟩ => hf.2 id v h1 h2, fun p v hv hb => by
  obtain ⟨i, _, h2⟩ := h0some p v hv
  exact hf.2 i v h2 hb⟩⟩
 have HC : HRel Pm' F' w ι0 ι0 h0 w := by
  refine ⟨fun p b hb => ?_, fun p v hv => ?_, fun p q v v' r hpq hv hv' hr => ?_, fun p v r hv hr => .inr ⟨p, v, hv, hr⟩, rfl, rfl, rfl, Nat.le_refl _, fun _ _ _ => rfl, HR.lowL (fun r hr => hr.imp (fun h => h) fun ⟨p, v, h1, h2⟩ => let ⟨i, _, h3⟩ := h0some p v h1; ⟨i, v, h3, h2⟩) (fun r hr => .inl hr), fun p v _ hv => hv, fun p v r hv hr hF' => ?_, fun r hr => ?_⟩
  ·obtain ⟨i, h1, h2, h3⟩ := hl.get hb
   obtain ⟨v, hv, hB⟩ := HR.blk i _ h2
   exact ⟨v, by rw [h0of p i h1]; exact hv, hB.down h3 hFdown h0some⟩
  ·obtain ⟨i, h1, h2⟩ := h0some p v hv
   exact Option.isSome_iff_exists.1 (hdom p i h1).2
  ·obtain ⟨i, h1, h2⟩ := h0some p v hv
   obtain ⟨j, h3, h4⟩ := h0some q v' hv'
   exact HR.inj i j v v' r (by rintro rfl; exact hpq (hinj p q i h1 h3)) h2 h4 hr
  ·obtain ⟨i, h1, h2⟩ := h0some p v hv
   rcases hF' with h3 | ⟨id, v', h3, h4, h5⟩
   ·exact HR.nf i v r h2 hr h3
   ·have : i ≠ id := by rintro rfl; exact h5 p h1
    exact HR.inj i id v v' r this h2 h3 hr h4
  ·rcases hr with h1 | ⟨id, v, h1, h2, _⟩
   ·exact Nat.lt_of_lt_of_le (HR.forb r h1) HR.size
   ·exact HR.lt h1 h2
 have HA : ArgsRel w F' ι0 cs (args.map a.eval ++ C) := by
  have : ArgsRel w F ι cs0 (args.map a.eval ++ C) := by rw [← hcc]; exact zev (zaM R.env hx) ⟨hlC, hhC⟩
  refine ⟨by rw [this.1, ← hcs, List.length_map], fun i c u h1 h2 => (this.2 i (renV ρ c) u (by rw [← hcs, List.getElem?_map, h1]; rfl) h2).down (hok c (List.mem_of_getElem? h1)) hFdown h0some⟩
 refine (H.2 Pm' F' w ι0 ι0 _ w HC HA).mono ?_
 rintro x w' ⟨u, c, h', ι', rfl, hQ, hH, hv⟩
 have hsz := hH.size
 have hkeep : ∀ r, r < w.heap.size → (∀ p i v, look ρ p = some i → ι i = some v → blockOf v ≠ some r) → w'.heap[r]? = w.heap[r]? := fun r hr hn => hH.keep r hr fun hp => by
  rcases hp with h1 | ⟨p, v, h1, h2⟩
  ·omega
  ·obtain ⟨i, h3, h4⟩ := h0some p v h1
   exact hn p i v h3 h4 h2
 have hpin : ∀ p i, look ρ p = some i → ∀ v, ι i = some v → ι' p = some v := fun p i hp v hv => by
  obtain ⟨b, hb⟩ := Option.isSome_iff_exists.1 (hq c h' hQ p i hp)
  obtain ⟨v', hv', _⟩ := hH.blk p b hb
  have := hH.pinned p v' (hdom p i hp).1 hv'
  rw [h0of p i hp, hv] at this
  cases this
  exact hv'
 have hFup : ExtF w' F' ι' w' F ι := ⟨fun _ _ _ => rfl, fun r _ hf => ⟨fun hc => hf.1 (.inl hc), fun id v hid hb => by
  by_cases hex : ∃ p, look ρ p = some id
  ·obtain ⟨p, hp⟩ := hex
   exact hf.2 p v (hpin p id hp v hid) hb
  ·exact hf.1 (.inr ⟨id, v, hid, hb, fun p hp => hex ⟨p, hp⟩⟩)⟩⟩
 have hext : Ext w F ι w' ι := ⟨fun r hr hf => hkeep r hr fun p i v hp hi hb => hf.2 i v hi hb, fun r _ hf => hf⟩
 have hheap : HRel Pm F w0 pin ι (renH ρ h' ++ h) w' := by
  refine ⟨fun id b hb => ?_, fun id v hv => ?_, HR.inj, HR.pm, hH.os.trans HR.os, hH.tape.trans HR.tape, hH.output.trans HR.output, Nat.le_trans HR.size hsz, fun r hr hn => ?_, HR.fresh, HR.pinned, HR.nf, HR.forb⟩
  ·rw [zat] at hb
   cases hl2 : look (renH ρ h') id with
   | some b' =>
    rw [hl2] at hb
    cases hb
    obtain ⟨p, b0, h1, h2, h3⟩ := (zbH hinj h' id).1 b hl2
    subst h3
    obtain ⟨v', hv', hB⟩ := hH.blk p b0 h2
    have h4 := hH.pinned p v' (hdom p id h1).1 hv'
    rw [h0of p id h1] at h4
    exact ⟨v', h4, hB.up hFup hpin⟩
   | none =>
    rw [hl2] at hb
    have hb2 : look h id = some b := hb
    have hno : ∀ p, look ρ p ≠ some id := fun p hp => by
     have h1 := (zbH hinj h' id).2 hl2 p hp
     have h2 := hq c h' hQ p id hp
     rw [h1] at h2; cases h2
    obtain ⟨v, hv, hB⟩ := HR.blk id b hb2
    refine ⟨v, hv, hB.ext hext (fun _ _ h => h) fun r hr => hkeep r (HR.lt hv hr) fun p i v2 hp hi hb3 => ?_⟩
    exact HR.inj i id v2 v r (by rintro rfl; exact hno p hp) hi hv hb3 hr
  ·obtain ⟨b, hb⟩ := HR.dom id v hv
   rw [zat]
   cases hl2 : look (renH ρ h') id with
   | some b' => exact ⟨b', rfl⟩
   | none => exact ⟨b, hb⟩
  ·rw [hkeep r (Nat.lt_of_lt_of_le hr HR.size) fun p i v hp hi hb => hn (HR.pm i v r hi hb)]
   exact HR.keep r hr hn
 have R2 : Rel Pm F w0 pin ι nt e (renH ρ h' ++ h) a w' := ⟨hheap, R.env.mono fun _ _ _ _ hv => hv.ext hext fun _ _ _ h => h, R.defers.ext hext, R.size⟩
 exact hK ι _ _ _ w' ⟨c, h', hQ, rfl, rfl⟩ (R2.put hd (hv.up hFup hpin)) ⟨⟨hH.os, hH.tape, hH.output, hsz, fun r hr hne => hkeep r hr fun p i v hp hi hb => hne i (List.contains_iff_mem.1 (hT p i hp)) v hi hb⟩, fun id _ v r h1 h2 _ => ⟨v, h1, h2⟩⟩ (zx _ _ _)
theorem zkW {f : FuncId} {x0 : Operand} {args : Array Operand} {ats : Array TypeId} {cs0 cs1 caps cs : List AVal} {h0 h1 : Heap} {c : AVal} {d : Nat} (ρ : List (Nat × Nat)) (hinj : ∀ p p' i, look ρ p = some i → look ρ p' = some i → p = p') (hdom : ∀ p i, look ρ p = some i → 1000 ≤ p ∧ (look h0 p).isSome = true ∧ (look h1 p).isSome = true)
  (H : ACall P f cs h0 (fun c' h' => c' = c ∧ h' = h1)) (hok : ∀ c ∈ cs, okV ρ c = true) (hl : Lent ρ h h0) (hw : awant ops e o = some true) (hdst : o.dst = some d) (hd : Nat.blt d nt = true) (ho : o.op = .call { callee := .value x0, args := args, argTypes := ats }) (hfn : aev e x0 = some (.fn f caps)) (hx : aevs e args.toList = some cs1) (hcc : cs1 ++ caps = cs0)
  (hcs : cs.map (renV ρ) = cs0) (HK : AOps P nt ops Q rest ((d, renV ρ c) :: e) (renH ρ h1 ++ h)) : AOps P nt ops Q (o :: rest) e h :=
 zax (T := ρ.map (·.2)) hw (zh1 ρ ho hdst hfn hx hcc hcs hok hl (fun p i hp => ⟨(hdom p i hp).1, (hdom p i hp).2.1⟩) hinj H hd (fun p i hp => by
  have : ∀ (ρ : List (Nat × Nat)), look ρ p = some i → i ∈ ρ.map (·.2) := by
   intro ρ
   induction ρ with
   | nil => intro h; cases h
   | cons q r ih =>
    obtain ⟨a, b⟩ := q
    intro h
    by_cases ha : a = p
    ·subst ha; rw [zb] at h; cases h; simp
    ·rw [zd _ _ ha] at h; have := ih h; simp at this ⊢; exact .inr this
  exact List.contains_iff_mem.2 (this ρ hp)) (fun c' h' ⟨h3, h4⟩ p i hp => by subst h4; exact (hdom p i hp).2.2)) fun e' h' ⟨c', h2, ⟨h3, h4⟩, h5, h6⟩ => by subst h3 h4 h5 h6; exact HK
end
end Go.Proofs.YtoahnbmedcjpeaaGreatDoor.Ab

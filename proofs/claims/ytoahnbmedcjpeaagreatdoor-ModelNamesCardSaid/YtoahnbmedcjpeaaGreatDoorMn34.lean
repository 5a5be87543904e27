/-
 Texts of a proof, one behind the other (part 35).
-/
import Derived.Test.YtoahnbmedcjpeaaGreatDoorMn3
import Derived.Test.YtoahnbmedcjpeaaGreatDoorMn10
import Derived.Test.YtoahnbmedcjpeaaGreatDoorMn11
import Derived.Test.YtoahnbmedcjpeaaGreatDoorMn12
import Derived.Test.YtoahnbmedcjpeaaGreatDoorMn13
import Derived.Test.YtoahnbmedcjpeaaGreatDoorMn14
import Derived.Test.YtoahnbmedcjpeaaGreatDoorMn15
import Derived.Test.YtoahnbmedcjpeaaGreatDoorMn16
import Derived.Test.YtoahnbmedcjpeaaGreatDoorMn17
import Derived.Test.YtoahnbmedcjpeaaGreatDoorMn18
import Derived.Test.YtoahnbmedcjpeaaGreatDoorMn31
import Derived.Test.YtoahnbmedcjpeaaGreatDoorMn32
import Derived.Test.YtoahnbmedcjpeaaGreatDoorMn33
set_option linter.unusedSimpArgs false
set_option linter.unusedVariables false
namespace Go.Proofs.YtoahnbmedcjpeaaGreatDoor.Ab
set_option maxRecDepth 100000
open Go.RowKit Go.Lib
attribute [local irreducible] AWp AOps AQ AYield AEff ACall AWk AAny AAt AThen AIn APost NoPanic
theorem zii {h1 : Heap} (hr : h1.all (fun p => match p.2 with | .row .. => true | _ => false) = true) (id : Nat) (b : ABlk) (j : Nat) (hb : look h1 id = some b) (hh : blkHas j b = true) : (look h1 j).isSome = true := by
 induction h1 with
 | nil => cases hb
 | cons p r ih =>
  simp only [List.all_cons, Bool.and_eq_true] at hr
  have : ∃ el k n ds, b = .row el k n ds := by
   clear hh ih
   have key : ∀ (r : Heap), r.all (fun p => match p.2 with | .row .. => true | _ => false) = true → look r id = some b → ∃ el k n ds, b = .row el k n ds := by
    intro r
    induction r with
    | nil => intro _ h; cases h
    | cons q r ih =>
     intro h h2
     simp only [List.all_cons, Bool.and_eq_true] at h
     obtain ⟨i, c⟩ := q
     by_cases he : i = id
     ·subst he
      rw [zb] at h2
      cases h2
      have h := h.1
      dsimp only at h
      split at h
      ·exact ⟨_, _, _, _, rfl⟩
      ·cases h
     ·rw [zd _ _ he] at h2
      exact ih h.2 h2
   exact key (p :: r) (by simp only [List.all_cons, Bool.and_eq_true]; exact hr) hb
  obtain ⟨el, k, n, ds, rfl⟩ := this
  simp [blkHas] at hh
theorem zjr {d : Dvc} {nm : List UInt8} {kd : Int} (j : Nat) (hj : (AVal.agg (twV nm kd)).has j = true) : (look (twH d) j).isSome = true := by
 have hj2 : (false || (false || ((901 == j) || ((902 == j) || ((905 == j) || ((903 == j) || ((904 == j) || ((906 == j) || ((907 == j) || ((908 == j) || ((909 == j) || ((910 == j) || false)))))))))))) = true := hj
 simp only [Bool.or_eq_true, beq_iff_eq, Bool.or_false, Bool.false_or] at hj2
 rcases hj2 with rfl | rfl | rfl | rfl | rfl | rfl | rfl | rfl | rfl | rfl <;> rfl
abbrev x1 (d : Dvc) : ABlk := gR 9 1 s1D (srtV d.vrfs)
abbrev x2 (d : Dvc) : ABlk := gR 38 11 ifxD (srtN (fun x : Ifx => x.nm) d.ifs)
abbrev x4 (d : Dvc) : ABlk := gR 97 7 staD (St.stS ltS d.sts)
abbrev x5 (d : Dvc) : ABlk := gR 82 2 filD (srtN (fun x : Fil => x.nm) d.fils)
abbrev x6 (d : Dvc) : ABlk := gR 85 2 plstD (srtN (fun x : PLst => x.nm) d.pls)
abbrev x7 (d : Dvc) : ABlk := gR 88 2 clstD (srtN (fun x : CLst => x.nm) d.cls)
abbrev x8 (d : Dvc) : ABlk := gR 91 3 polD (srtN (fun x : Pol => x.nm) d.pols)
abbrev twE : Env := [(1, .ptr 1 0), (2, .ptr 2 0)]
abbrev twX (d : Dvc) (r : Heap) : Heap := (1, .var (twV d.nm d.kd)) :: (2, dvZ) :: r
set_option maxHeartbeats 32000000 in
theorem zj1 (d : Dvc) (hf : OkF d) : ACall Tryz.prog 25 [dvcA d] [] (Just (dvcA (formL d))) := by
 have b2 : d.vrfs.length * 16 ≤ 140737488351232 := hf.ok.b2
 have ht := zh8 d hf.ok
 have s1 := zh6 d.vrfs (by omega)
 have s2 := zhw d.ifs hf.n3
 have s3 := zhx d.fils hf.n4
 have s4 := zgj d.pls hf.n7
 have s5 := zgk d.cls hf.n8
 have s6 := zhv d.pols hf.n9
 have s7 := SSta.sst (enc := staD) zcQ (fc := 87) (caps := []) ⟨rfl, rfl⟩ weakS (fun x y => rfl) (fun x y => zhj x y) d.sts hf.n6
 clear b2 hf
 refine zc za Tryz.func25 rfl Tryz.ntmps25 (congrArg Array.toList Tryz.results25) (by kernel_rfl) rfl ?_
 refine zn ?_
 (first | refine ze ?_ | refine zg rfl mixed (by kernel_rfl) ?_)
 repeat' (first | ((first | apply q_K rfl | apply q_X rfl); (first | exact q_H | fail)) | refine q_d ?_ | refine q_a ?_ | refine q_b ?_ | refine q_e ?_ | refine q_f ?_ | refine q_g ?_ | ((fail_if_success (refine O_wt rfl ?_)); refine O_gs rfl rfl (fun _ => ?_) (fun _ => ?_)) | ((fail_if_success (refine Q_wt rfl ?_)); refine Q_gs rfl rfl (fun _ => ?_) (fun _ => ?_)) | refine zi ?_ | refine zk ?_ | refine q_j ?_ | fail)
 refine zF twE (twX d [(901, w1 d), (902, w2 d), (903, w3 d), (904, w4 d), (905, w5 d), (906, w6 d), (907, w7 d), (908, w8 d), (909, w9 d), (910, w10 d)]) ?_ ?_
 ·
  (first | refine ze ?_ | refine zg rfl mixed (by kernel_rfl) ?_)
  repeat' (first | ((first | apply q_K rfl | apply q_X rfl); (first | exact q_H | fail)) | refine q_d ?_ | refine q_a ?_ | refine q_b ?_ | refine q_e ?_ | refine q_f ?_ | refine q_g ?_ | ((fail_if_success (refine O_wt rfl ?_)); refine O_gs rfl rfl (fun _ => ?_) (fun _ => ?_)) | ((fail_if_success (refine Q_wt rfl ?_)); refine Q_gs rfl rfl (fun _ => ?_) (fun _ => ?_)) | refine zi ?_ | refine zk ?_ | refine q_j ?_ | (refine O_cN rfl rfl rfl rfl rfl ht rfl (zii rfl) zjr ?_))
  exact q_S
 refine zF twE (twX d [(901, x1 d), (902, w2 d), (903, w3 d), (904, w4 d), (905, w5 d), (906, w6 d), (907, w7 d), (908, w8 d), (909, w9 d), (910, w10 d)]) ?_ ?_
 ·
  (first | refine ze ?_ | refine zg rfl mixed (by kernel_rfl) ?_)
  repeat' (first | ((first | apply q_K rfl | apply q_X rfl); (first | exact q_H | fail)) | refine q_d ?_ | refine q_a ?_ | refine q_b ?_ | refine q_e ?_ | refine q_f ?_ | refine q_g ?_ | ((fail_if_success (refine O_wt rfl ?_)); refine O_gs rfl rfl (fun _ => ?_) (fun _ => ?_)) | ((fail_if_success (refine Q_wt rfl ?_)); refine Q_gs rfl rfl (fun _ => ?_) (fun _ => ?_)) | refine zi ?_ | refine zk ?_ | refine q_j ?_ | (refine O_cU 901 s1 rfl rfl rfl rfl rfl rfl rfl rfl ?_))
  exact q_S
 refine zF twE (twX d [(901, x1 d), (902, x2 d), (903, w3 d), (904, w4 d), (905, w5 d), (906, w6 d), (907, w7 d), (908, w8 d), (909, w9 d), (910, w10 d)]) ?_ ?_
 ·
  (first | refine ze ?_ | refine zg rfl mixed (by kernel_rfl) ?_)
  repeat' (first | ((first | apply q_K rfl | apply q_X rfl); (first | exact q_H | fail)) | refine q_d ?_ | refine q_a ?_ | refine q_b ?_ | refine q_e ?_ | refine q_f ?_ | refine q_g ?_ | ((fail_if_success (refine O_wt rfl ?_)); refine O_gs rfl rfl (fun _ => ?_) (fun _ => ?_)) | ((fail_if_success (refine Q_wt rfl ?_)); refine Q_gs rfl rfl (fun _ => ?_) (fun _ => ?_)) | refine zi ?_ | refine zk ?_ | refine q_j ?_ | (refine O_cU 902 s2 rfl rfl rfl rfl rfl rfl rfl rfl ?_))
  exact q_S
 refine zF twE (twX d [(901, x1 d), (902, x2 d), (903, w3 d), (904, w4 d), (905, x5 d), (906, w6 d), (907, w7 d), (908, w8 d), (909, w9 d), (910, w10 d)]) ?_ ?_
 ·
  (first | refine ze ?_ | refine zg rfl mixed (by kernel_rfl) ?_)
  repeat' (first | ((first | apply q_K rfl | apply q_X rfl); (first | exact q_H | fail)) | refine q_d ?_ | refine q_a ?_ | refine q_b ?_ | refine q_e ?_ | refine q_f ?_ | refine q_g ?_ | ((fail_if_success (refine O_wt rfl ?_)); refine O_gs rfl rfl (fun _ => ?_) (fun _ => ?_)) | ((fail_if_success (refine Q_wt rfl ?_)); refine Q_gs rfl rfl (fun _ => ?_) (fun _ => ?_)) | refine zi ?_ | refine zk ?_ | refine q_j ?_ | (refine O_cU 905 s3 rfl rfl rfl rfl rfl rfl rfl rfl ?_))
  exact q_S
 refine zF twE (twX d [(901, x1 d), (902, x2 d), (903, w3 d), (904, w4 d), (905, x5 d), (906, x6 d), (907, w7 d), (908, w8 d), (909, w9 d), (910, w10 d)]) ?_ ?_
 ·
  (first | refine ze ?_ | refine zg rfl mixed (by kernel_rfl) ?_)
  repeat' (first | ((first | apply q_K rfl | apply q_X rfl); (first | exact q_H | fail)) | refine q_d ?_ | refine q_a ?_ | refine q_b ?_ | refine q_e ?_ | refine q_f ?_ | refine q_g ?_ | ((fail_if_success (refine O_wt rfl ?_)); refine O_gs rfl rfl (fun _ => ?_) (fun _ => ?_)) | ((fail_if_success (refine Q_wt rfl ?_)); refine Q_gs rfl rfl (fun _ => ?_) (fun _ => ?_)) | refine zi ?_ | refine zk ?_ | refine q_j ?_ | (refine O_cU 906 s4 rfl rfl rfl rfl rfl rfl rfl rfl ?_))
  exact q_S
 refine zF twE (twX d [(901, x1 d), (902, x2 d), (903, w3 d), (904, w4 d), (905, x5 d), (906, x6 d), (907, x7 d), (908, w8 d), (909, w9 d), (910, w10 d)]) ?_ ?_
 ·
  (first | refine ze ?_ | refine zg rfl mixed (by kernel_rfl) ?_)
  repeat' (first | ((first | apply q_K rfl | apply q_X rfl); (first | exact q_H | fail)) | refine q_d ?_ | refine q_a ?_ | refine q_b ?_ | refine q_e ?_ | refine q_f ?_ | refine q_g ?_ | ((fail_if_success (refine O_wt rfl ?_)); refine O_gs rfl rfl (fun _ => ?_) (fun _ => ?_)) | ((fail_if_success (refine Q_wt rfl ?_)); refine Q_gs rfl rfl (fun _ => ?_) (fun _ => ?_)) | refine zi ?_ | refine zk ?_ | refine q_j ?_ | (refine O_cU 907 s5 rfl rfl rfl rfl rfl rfl rfl rfl ?_))
  exact q_S
 refine zF twE (twX d [(901, x1 d), (902, x2 d), (903, w3 d), (904, w4 d), (905, x5 d), (906, x6 d), (907, x7 d), (908, x8 d), (909, w9 d), (910, w10 d)]) ?_ ?_
 ·
  (first | refine ze ?_ | refine zg rfl mixed (by kernel_rfl) ?_)
  repeat' (first | ((first | apply q_K rfl | apply q_X rfl); (first | exact q_H | fail)) | refine q_d ?_ | refine q_a ?_ | refine q_b ?_ | refine q_e ?_ | refine q_f ?_ | refine q_g ?_ | ((fail_if_success (refine O_wt rfl ?_)); refine O_gs rfl rfl (fun _ => ?_) (fun _ => ?_)) | ((fail_if_success (refine Q_wt rfl ?_)); refine Q_gs rfl rfl (fun _ => ?_) (fun _ => ?_)) | refine zi ?_ | refine zk ?_ | refine q_j ?_ | (refine O_cU 908 s6 rfl rfl rfl rfl rfl rfl rfl rfl ?_))
  exact q_S
 refine zF twE (twX d [(901, x1 d), (902, x2 d), (903, w3 d), (904, x4 d), (905, x5 d), (906, x6 d), (907, x7 d), (908, x8 d), (909, w9 d), (910, w10 d)]) ?_ ?_
 ·
  (first | refine ze ?_ | refine zg rfl mixed (by kernel_rfl) ?_)
  repeat' (first | ((first | apply q_K rfl | apply q_X rfl); (first | exact q_H | fail)) | refine q_d ?_ | refine q_a ?_ | refine q_b ?_ | refine q_e ?_ | refine q_f ?_ | refine q_g ?_ | ((fail_if_success (refine O_wt rfl ?_)); refine O_gs rfl rfl (fun _ => ?_) (fun _ => ?_)) | ((fail_if_success (refine Q_wt rfl ?_)); refine Q_gs rfl rfl (fun _ => ?_) (fun _ => ?_)) | refine zi ?_ | refine zk ?_ | refine q_j ?_ | (refine O_cU 904 s7 rfl rfl rfl rfl rfl rfl rfl rfl ?_))
  exact q_S
 refine zf (zy (id := 901) rfl) ?_
 refine zf (zy (id := 902) rfl) ?_
 refine zf (zy (id := 903) rfl) ?_
 refine zf (zy (id := 904) rfl) ?_
 refine zf (zy (id := 905) rfl) ?_
 refine zf (zy (id := 906) rfl) ?_
 refine zf (zy (id := 907) rfl) ?_
 refine zf (zy (id := 908) rfl) ?_
 refine zf (zy (id := 909) rfl) ?_
 refine zf (zy (id := 910) rfl) ?_
 repeat (first | refine q_Z ?_ | ((first | apply q_K rfl | apply q_X rfl); (exact q_H)) | refine q_U ?_)
 exact zo rfl ⟨rfl, rfl⟩
end Go.Proofs.YtoahnbmedcjpeaaGreatDoor.Ab

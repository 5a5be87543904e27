/-
 Texts of a proof, one behind the other (part 40).
-/
import Derived.Test.YtoahnbmedcjpeaaGreatDoorMo1
import Derived.Test.YtoahnbmedcjpeaaGreatDoorMo2
import Derived.Test.YtoahnbmedcjpeaaGreatDoorMo3
import Derived.Test.YtoahnbmedcjpeaaGreatDoorMo4
set_option linter.unusedSimpArgs false
set_option linter.unusedVariables false
namespace Go.Proofs.YtoahnbmedcjpeaaGreatDoor.Ab
set_option maxRecDepth 100000
open Go.RowKit Go.Lib
attribute [local irreducible] AWp AOps AQ AYield AEff ACall AWk AAny AAt AThen AIn APost NoPanic
theorem KR {a b : Option ABlk} (h : a = b := by first | rfl | exact zag (Nat.zero_add _) rfl rfl | exact zag rfl (List.nil_append _) rfl) : a = b := h
def dvcO : List AVal := [.d (.sc (.string ⟨#[]⟩)), .d (.sc (.int .u8 0)), .d (.sc (.slice none 0 0)), .d (.sc (.slice none 0 0)), .d (.sc (.slice none 0 0)), .d (.sc (.slice none 0 0)), .d (.sc (.slice none 0 0)), .d (.sc (.slice none 0 0)), .d (.sc (.slice none 0 0)), .d (.sc (.slice none 0 0)), .d (.sc (.slice none 0 0)), .d (.sc (.slice none 0 0))]
abbrev toV (d : Dvc) : List AVal := [.d (sD d.nm), .d (cD d.kd), .row 26, .row 32, .row 59, .d (.sl (d.rws.flatMap rwrD) d.rws.length), .row 71, .row 98, .d (.sl (d.cls.flatMap clstD) d.cls.length), .row 212, .d (.sl (d.osp.flatMap ospD) d.osp.length), .d (.sl (d.bgp.flatMap bgiD) d.bgp.length)]
abbrev toH (d : Dvc) : Heap := [(26, gR 9 1 s1D d.vrfs), (32, gR 38 11 ifxD d.ifs), (59, gR 82 2 filD d.fils), (71, gR 97 7 staD d.sts), (98, gR 85 2 plstD d.pls), (212, gR 91 3 polD d.pols)]
set_option maxHeartbeats 32000000 in
theorem zjY (d : Dvc) (hd : d.ok) : ACall Tryz.prog 15 [dvcA d] [] (fun c h => c = .agg (toV d) ∧ h = toH d) := by
 have hb2 : d.vrfs.length * 16 ≤ 140737488351232 := hd.b2
 have hb3 : d.ifs.length * 120 ≤ 140737488351232 := hd.b3
 have hb4 : d.fils.length * 40 ≤ 140737488351232 := hd.b4
 have hb5 : d.rws.length * 32 ≤ 140737488351232 := hd.b5
 have hb6 : d.sts.length * 56 ≤ 140737488351232 := hd.b6
 have hb7 : d.pls.length * 40 ≤ 140737488351232 := hd.b7
 have hb8 : d.cls.length * 40 ≤ 140737488351232 := hd.b8
 have hb9 : d.pols.length * 48 ≤ 140737488351232 := hd.b9
 have hb10 : d.osp.length * 48 ≤ 140737488351232 := hd.b10
 have hb11 : d.bgp.length * 96 ≤ 140737488351232 := hd.b11
 have q4 := hd.fils
 have q7 := hd.pls
 have q8 := hd.cls
 have q9 := hd.pols
 have q10 := hd.osp
 have q11 := hd.bgp
 clear hd
 obtain ⟨nm, kd, vrfs, ifs, fils, rws, sts, pls, cls, pols, osp, bgp⟩ := d
 dsimp only at hb2 hb3 hb4 hb5 hb6 hb7 hb8 hb9 hb10 hb11 q4 q7 q8 q9 q10 q11
 refine zb za Tryz.func15 rfl Tryz.ntmps15 (congrArg Array.toList Tryz.results15) (by kernel_rfl) rfl ?_
 refine zt ?_
 refine zi ?_
 refine q_d ?_
 refine z6 (zC (id := 1) (ds := [sD nm, cD kd, .sl (vrfs.flatMap s1D) vrfs.length, .sl (ifs.flatMap ifxD) ifs.length, .sl (fils.flatMap filD) fils.length, .sl (rws.flatMap rwrD) rws.length, .sl (sts.flatMap staD) sts.length, .sl (pls.flatMap plstD) pls.length, .sl (cls.flatMap clstD) cls.length, .sl (pols.flatMap polD) pols.length, .sl (osp.flatMap ospD) osp.length, .sl (bgp.flatMap bgiD) bgp.length]) rfl rfl) ?_
 repeat (first | refine q_Z ?_ | ((first | apply q_K rfl | apply q_X rfl); (exact q_H)) | refine q_U ?_ | (first | refine zdV za rfl rfl rfl rfl rfl rfl rfl rfl rfl rfl rfl (Src.dat _ _) (zT za6 _) (by omega) ?_ | refine zdV za rfl rfl rfl rfl rfl rfl rfl rfl rfl rfl rfl (Src.dat _ _) (zT zao _) (by omega) ?_))
 refine zd (zbI (b := 3) (id := 59) (i := 4) 82 2 rfl rfl rfl rfl) ?_
 refine zw (fun k : Nat => [(1, .iptr [sD nm, cD kd, .sl (vrfs.flatMap s1D) vrfs.length, .sl (ifs.flatMap ifxD) ifs.length, .sl (fils.flatMap filD) fils.length, .sl (rws.flatMap rwrD) rws.length, .sl (sts.flatMap staD) sts.length, .sl (pls.flatMap plstD) pls.length, .sl (cls.flatMap clstD) cls.length, .sl (pols.flatMap polD) pols.length, .sl (osp.flatMap ospD) osp.length, .sl (bgp.flatMap bgiD) bgp.length] 0), (2, .ptr 2 0), (3, .ptr 3 0), (4, intA (k : Int))]) (fun k => [(2, .var dvcO), (3, .var [.d (sD nm), .d (cD kd), .row 26, .row 32, .row 59, .d (.sc (.slice none 0 0)), .d (.sc (.slice none 0 0)), .d (.sc (.slice none 0 0)), .d (.sc (.slice none 0 0)), .d (.sc (.slice none 0 0)), .d (.sc (.slice none 0 0)), .d (.sc (.slice none 0 0))]), (26, .row 9 1 vrfs.length (vrfs.flatMap s1D)), (32, .row 38 11 ifs.length (ifs.flatMap ifxD)), (59, .row 82 2 k ((fils.take k).flatMap filD))]) (fun k => k ≤ fils.length) (fun k => fils.length - k) 0 (Nat.zero_le _) (zr ⟨rfl, rfl, rfl, rfl, trivial⟩ ⟨rfl, rfl, KR, KR, rfl, trivial⟩) ?_
 intro k hkl
 try dsimp only
 by_cases hk : k < fils.length
 ·have hr : fils[k].rs.length * 64 ≤ 140737488351232 := q4 _ (List.getElem_mem hk)
  repeat (first | refine q_Z ?_ | ((first | apply q_K rfl | apply q_X rfl); (exact q_H)) | refine q_U ?_)
  refine zad [49, 59, 3] mixed ?_
  apply q_P 0 rfl (by kernel_rfl) rfl rfl rfl
  exact q_8
  apply q_P 2 rfl (by kernel_rfl) rfl rfl rfl
  exact q_4
  apply q_P 3 rfl (by kernel_rfl) rfl rfl rfl
  exact q_R (w := (by first | exact zj zU fils k _ hk (by decide) | exact zx zU fils k _ _ hk (by decide) | exact zR zU fils k _ _ _ hk (by decide) | rfl))
  apply q_P 4 rfl (by kernel_rfl) rfl rfl rfl
  exact q_1
  apply q_P 5 rfl (by kernel_rfl) rfl rfl rfl
  exact q_I k hk
  apply q_P 6 rfl (by kernel_rfl) rfl rfl rfl
  exact q_4
  apply q_P 7 rfl (by kernel_rfl) rfl rfl rfl
  exact q_R (w := (by first | exact zj zU fils k _ hk (by decide) | exact zx zU fils k _ _ hk (by decide) | exact zR zU fils k _ _ _ hk (by decide) | rfl))
  apply q_P 9 rfl (by kernel_rfl) rfl rfl rfl
  exact q_4
  apply q_P 10 rfl (by kernel_rfl) rfl rfl rfl
  exact q_R (w := (by first | exact zj zU fils k _ hk (by decide) | exact zx zU fils k _ _ hk (by decide) | exact zR zU fils k _ _ _ hk (by decide) | rfl))
  apply q_P 11 rfl (by kernel_rfl) rfl rfl rfl
  exact q_1
  apply q_P 12 rfl (by kernel_rfl) rfl rfl rfl
  exact q_I k hk
  apply q_P 13 rfl (by kernel_rfl) rfl rfl rfl
  exact q_4
  apply q_P 14 rfl (by kernel_rfl) rfl rfl rfl
  exact q_R (w := (by first | exact zj zU fils k _ hk (by decide) | exact zx zU fils k _ _ hk (by decide) | exact zR zU fils k _ _ _ hk (by decide) | rfl))
  refine zal (j := 1) (k := 8) (by kernel_rfl) ?_ ?_
  ·apply zp rfl rfl rfl rfl
   exact q_7
   refine ze (j := 8) (by kernel_rfl) ?_
   refine zbl za rfl rfl rfl rfl rfl rfl rfl rfl ?_
   refine ze (j := 15) (by kernel_rfl) ?_
   refine zaf (rid := 49) za rfl rfl rfl rfl rfl rfl rfl rfl rfl rfl rfl rfl rfl (Src.dat _ _) (zT zbj _) rfl (by omega) ?_
   refine zat (zaq (id := 49) rfl) ?_
   apply q_P 16 rfl (by kernel_rfl) rfl rfl rfl
   exact q_24
   refine ze (j := 17) (by kernel_rfl) ?_
   refine zaD za rfl rfl rfl rfl rfl rfl rfl rfl rfl rfl rfl rfl ?_
   refine ze (j := 18) (by kernel_rfl) ?_
   refine zaf (rid := 59) za rfl rfl rfl rfl rfl rfl rfl rfl rfl rfl rfl rfl rfl (Src.row rfl) rfl rfl (by omega) ?_
   apply q_P 19 rfl (by kernel_rfl) rfl rfl rfl
   exact q_8
   refine ze (j := 20) (by kernel_rfl) ?_
   refine zD za rfl rfl rfl rfl rfl rfl rfl rfl rfl rfl rfl rfl rfl ?_
   refine zQ (by kernel_rfl) ?_
   repeat (first | refine q_Z ?_ | ((first | apply q_K rfl | apply q_X rfl); (exact q_H)) | refine q_U ?_)
   exact ⟨k + 1, by omega, by omega, zr ⟨rfl, rfl, rfl, rfl, trivial⟩ ⟨rfl, rfl, KR, KR, zag rfl (by rw [List.take_succ_eq_append_getElem hk, List.flatMap_append]; simp [filD]) rfl, trivial⟩⟩
  ·refine zbl za rfl rfl rfl rfl rfl rfl rfl rfl ?_
   refine zal (j := 1) (k := 15) (by kernel_rfl) ?_ ?_
   ·apply zp rfl rfl rfl rfl
    exact q_7
    refine ze (j := 15) (by kernel_rfl) ?_
    refine zaf (rid := 49) za rfl rfl rfl rfl rfl rfl rfl rfl rfl rfl rfl rfl rfl (Src.dat _ _) (zT zbj _) rfl (by omega) ?_
    refine zat (zaq (id := 49) rfl) ?_
    apply q_P 16 rfl (by kernel_rfl) rfl rfl rfl
    exact q_24
    refine ze (j := 17) (by kernel_rfl) ?_
    refine zaD za rfl rfl rfl rfl rfl rfl rfl rfl rfl rfl rfl rfl ?_
    refine ze (j := 18) (by kernel_rfl) ?_
    refine zaf (rid := 59) za rfl rfl rfl rfl rfl rfl rfl rfl rfl rfl rfl rfl rfl (Src.row rfl) rfl rfl (by omega) ?_
    apply q_P 19 rfl (by kernel_rfl) rfl rfl rfl
    exact q_8
    refine ze (j := 20) (by kernel_rfl) ?_
    refine zD za rfl rfl rfl rfl rfl rfl rfl rfl rfl rfl rfl rfl rfl ?_
    refine zQ (by kernel_rfl) ?_
    repeat (first | refine q_Z ?_ | ((first | apply q_K rfl | apply q_X rfl); (exact q_H)) | refine q_U ?_)
    exact ⟨k + 1, by omega, by omega, zr ⟨rfl, rfl, rfl, rfl, trivial⟩ ⟨rfl, rfl, KR, KR, zag rfl (by rw [List.take_succ_eq_append_getElem hk, List.flatMap_append]; simp [filD]) rfl, trivial⟩⟩
   ·refine zaf (rid := 49) za rfl rfl rfl rfl rfl rfl rfl rfl rfl rfl rfl rfl rfl (Src.dat _ _) (zT zbj _) rfl (by omega) ?_
    refine zat (zaq (id := 49) rfl) ?_
    apply q_P 16 rfl (by kernel_rfl) rfl rfl rfl
    exact q_24
    refine zal (j := 1) (k := 17) (by kernel_rfl) ?_ ?_
    ·apply zp rfl rfl rfl rfl
     exact q_7
     refine ze (j := 17) (by kernel_rfl) ?_
     refine zaD za rfl rfl rfl rfl rfl rfl rfl rfl rfl rfl rfl rfl ?_
     refine ze (j := 18) (by kernel_rfl) ?_
     refine zaf (rid := 59) za rfl rfl rfl rfl rfl rfl rfl rfl rfl rfl rfl rfl rfl (Src.row rfl) rfl rfl (by omega) ?_
     apply q_P 19 rfl (by kernel_rfl) rfl rfl rfl
     exact q_8
     refine ze (j := 20) (by kernel_rfl) ?_
     refine zD za rfl rfl rfl rfl rfl rfl rfl rfl rfl rfl rfl rfl rfl ?_
     refine zQ (by kernel_rfl) ?_
     repeat (first | refine q_Z ?_ | ((first | apply q_K rfl | apply q_X rfl); (exact q_H)) | refine q_U ?_)
     exact ⟨k + 1, by omega, by omega, zr ⟨rfl, rfl, rfl, rfl, trivial⟩ ⟨rfl, rfl, KR, KR, zag rfl (by rw [List.take_succ_eq_append_getElem hk, List.flatMap_append]; simp [filD]) rfl, trivial⟩⟩
    ·refine zaD za rfl rfl rfl rfl rfl rfl rfl rfl rfl rfl rfl rfl ?_
     refine ze (j := 1) (by kernel_rfl) ?_
     apply zp rfl rfl rfl rfl
     exact q_7
     refine ze (j := 18) (by kernel_rfl) ?_
     refine zaf (rid := 59) za rfl rfl rfl rfl rfl rfl rfl rfl rfl rfl rfl rfl rfl (Src.row rfl) rfl rfl (by omega) ?_
     apply q_P 19 rfl (by kernel_rfl) rfl rfl rfl
     exact q_8
     refine ze (j := 20) (by kernel_rfl) ?_
     refine zD za rfl rfl rfl rfl rfl rfl rfl rfl rfl rfl rfl rfl rfl ?_
     refine zQ (by kernel_rfl) ?_
     repeat (first | refine q_Z ?_ | ((first | apply q_K rfl | apply q_X rfl); (exact q_H)) | refine q_U ?_)
     exact ⟨k + 1, by omega, by omega, zr ⟨rfl, rfl, rfl, rfl, trivial⟩ ⟨rfl, rfl, KR, KR, zag rfl (by rw [List.take_succ_eq_append_getElem hk, List.flatMap_append]; simp [filD]) rfl, trivial⟩⟩
 obtain rfl : k = fils.length := by omega
 rw [List.take_length]
 repeat (first | refine q_Z ?_ | ((first | apply q_K rfl | apply q_X rfl); (exact q_H)) | refine q_U ?_ | (first | refine zdV za rfl rfl rfl rfl rfl rfl rfl rfl rfl rfl rfl (Src.dat _ _) (zT zbA _) (by omega) ?_ | refine zdV za rfl rfl rfl rfl rfl rfl rfl rfl rfl rfl rfl (Src.dat _ _) (zT zaB _) (by omega) ?_))
 refine zd (zB (id := 65) rfl) ?_
 refine zd (zbI (b := 3) (id := 98) (i := 7) 85 2 rfl rfl rfl rfl) ?_
 refine zw (fun k : Nat => [(1, .iptr [sD nm, cD kd, .sl (vrfs.flatMap s1D) vrfs.length, .sl (ifs.flatMap ifxD) ifs.length, .sl (fils.flatMap filD) fils.length, .sl (rws.flatMap rwrD) rws.length, .sl (sts.flatMap staD) sts.length, .sl (pls.flatMap plstD) pls.length, .sl (cls.flatMap clstD) cls.length, .sl (pols.flatMap polD) pols.length, .sl (osp.flatMap ospD) osp.length, .sl (bgp.flatMap bgiD) bgp.length] 0), (2, .ptr 2 0), (3, .ptr 3 0), (5, intA (k : Int))]) (fun k => [(2, .var dvcO), (3, .var [.d (sD nm), .d (cD kd), .row 26, .row 32, .row 59, .d (.sl (rws.flatMap rwrD) rws.length), .row 71, .row 98, .d (.sc (.slice none 0 0)), .d (.sc (.slice none 0 0)), .d (.sc (.slice none 0 0)), .d (.sc (.slice none 0 0))]), (26, .row 9 1 vrfs.length (vrfs.flatMap s1D)), (32, .row 38 11 ifs.length (ifs.flatMap ifxD)), (59, .row 82 2 fils.length (fils.flatMap filD)), (71, .row 97 7 sts.length (sts.flatMap staD)), (98, .row 85 2 k ((pls.take k).flatMap plstD))]) (fun k => k ≤ pls.length) (fun k => pls.length - k) 0 (Nat.zero_le _) (zr ⟨rfl, rfl, rfl, rfl, trivial⟩ ⟨rfl, rfl, KR, KR, KR, KR, rfl, trivial⟩) ?_
 intro k hkl
 try dsimp only
 by_cases hk : k < pls.length
 ·have hr : pls[k].es.length * 40 ≤ 140737488351232 := (q7 _ (List.getElem_mem hk)).2
  repeat (first | refine q_Z ?_ | ((first | apply q_K rfl | apply q_X rfl); (exact q_H)) | refine q_U ?_)
  refine zad [88, 98, 3] mixed ?_
  apply q_P 0 rfl (by kernel_rfl) rfl rfl rfl
  exact q_8
  apply q_P 2 rfl (by kernel_rfl) rfl rfl rfl
  exact q_4
  apply q_P 3 rfl (by kernel_rfl) rfl rfl rfl
  exact q_R (w := (by first | exact zj zN pls k _ hk (by decide) | exact zx zN pls k _ _ hk (by decide) | exact zR zN pls k _ _ _ hk (by decide) | rfl))
  apply q_P 4 rfl (by kernel_rfl) rfl rfl rfl
  exact q_1
  apply q_P 5 rfl (by kernel_rfl) rfl rfl rfl
  exact q_I k hk
  apply q_P 6 rfl (by kernel_rfl) rfl rfl rfl
  exact q_4
  apply q_P 7 rfl (by kernel_rfl) rfl rfl rfl
  exact q_R (w := (by first | exact zj zN pls k _ hk (by decide) | exact zx zN pls k _ _ hk (by decide) | exact zR zN pls k _ _ _ hk (by decide) | rfl))
  apply q_P 9 rfl (by kernel_rfl) rfl rfl rfl
  exact q_4
  apply q_P 10 rfl (by kernel_rfl) rfl rfl rfl
  exact q_R (w := (by first | exact zj zN pls k _ hk (by decide) | exact zx zN pls k _ _ hk (by decide) | exact zR zN pls k _ _ _ hk (by decide) | rfl))
  apply q_P 11 rfl (by kernel_rfl) rfl rfl rfl
  exact q_1
  apply q_P 12 rfl (by kernel_rfl) rfl rfl rfl
  exact q_I k hk
  apply q_P 13 rfl (by kernel_rfl) rfl rfl rfl
  exact q_4
  apply q_P 14 rfl (by kernel_rfl) rfl rfl rfl
  exact q_R (w := (by first | exact zj zN pls k _ hk (by decide) | exact zx zN pls k _ _ hk (by decide) | exact zR zN pls k _ _ _ hk (by decide) | rfl))
  refine zal (j := 1) (k := 8) (by kernel_rfl) ?_ ?_
  ·apply zp rfl rfl rfl rfl
   exact q_7
   refine ze (j := 8) (by kernel_rfl) ?_
   refine zbl za rfl rfl rfl rfl rfl rfl rfl rfl ?_
   refine ze (j := 15) (by kernel_rfl) ?_
   refine zaf (rid := 88) za rfl rfl rfl rfl rfl rfl rfl rfl rfl rfl rfl rfl rfl (Src.dat _ _) (zT zaH _) rfl (by omega) ?_
   refine zat (zaq (id := 88) rfl) ?_
   apply q_P 16 rfl (by kernel_rfl) rfl rfl rfl
   exact q_24
   refine ze (j := 17) (by kernel_rfl) ?_
   refine zaD za rfl rfl rfl rfl rfl rfl rfl rfl rfl rfl rfl rfl ?_
   refine ze (j := 18) (by kernel_rfl) ?_
   refine zaf (rid := 98) za rfl rfl rfl rfl rfl rfl rfl rfl rfl rfl rfl rfl rfl (Src.row rfl) rfl rfl (by omega) ?_
   apply q_P 19 rfl (by kernel_rfl) rfl rfl rfl
   exact q_8
   refine ze (j := 20) (by kernel_rfl) ?_
   refine zD za rfl rfl rfl rfl rfl rfl rfl rfl rfl rfl rfl rfl rfl ?_
   refine zQ (by kernel_rfl) ?_
   repeat (first | refine q_Z ?_ | ((first | apply q_K rfl | apply q_X rfl); (exact q_H)) | refine q_U ?_)
   exact ⟨k + 1, by omega, by omega, zr ⟨rfl, rfl, rfl, rfl, trivial⟩ ⟨rfl, rfl, KR, KR, KR, KR, zag rfl (by rw [List.take_succ_eq_append_getElem hk, List.flatMap_append]; simp [plstD]) rfl, trivial⟩⟩
  ·refine zbl za rfl rfl rfl rfl rfl rfl rfl rfl ?_
   refine zal (j := 1) (k := 15) (by kernel_rfl) ?_ ?_
   ·apply zp rfl rfl rfl rfl
    exact q_7
    refine ze (j := 15) (by kernel_rfl) ?_
    refine zaf (rid := 88) za rfl rfl rfl rfl rfl rfl rfl rfl rfl rfl rfl rfl rfl (Src.dat _ _) (zT zaH _) rfl (by omega) ?_
    refine zat (zaq (id := 88) rfl) ?_
    apply q_P 16 rfl (by kernel_rfl) rfl rfl rfl
    exact q_24
    refine ze (j := 17) (by kernel_rfl) ?_
    refine zaD za rfl rfl rfl rfl rfl rfl rfl rfl rfl rfl rfl rfl ?_
    refine ze (j := 18) (by kernel_rfl) ?_
    refine zaf (rid := 98) za rfl rfl rfl rfl rfl rfl rfl rfl rfl rfl rfl rfl rfl (Src.row rfl) rfl rfl (by omega) ?_
    apply q_P 19 rfl (by kernel_rfl) rfl rfl rfl
    exact q_8
    refine ze (j := 20) (by kernel_rfl) ?_
    refine zD za rfl rfl rfl rfl rfl rfl rfl rfl rfl rfl rfl rfl rfl ?_
    refine zQ (by kernel_rfl) ?_
    repeat (first | refine q_Z ?_ | ((first | apply q_K rfl | apply q_X rfl); (exact q_H)) | refine q_U ?_)
    exact ⟨k + 1, by omega, by omega, zr ⟨rfl, rfl, rfl, rfl, trivial⟩ ⟨rfl, rfl, KR, KR, KR, KR, zag rfl (by rw [List.take_succ_eq_append_getElem hk, List.flatMap_append]; simp [plstD]) rfl, trivial⟩⟩
   ·refine zaf (rid := 88) za rfl rfl rfl rfl rfl rfl rfl rfl rfl rfl rfl rfl rfl (Src.dat _ _) (zT zaH _) rfl (by omega) ?_
    refine zat (zaq (id := 88) rfl) ?_
    apply q_P 16 rfl (by kernel_rfl) rfl rfl rfl
    exact q_24
    refine zal (j := 1) (k := 17) (by kernel_rfl) ?_ ?_
    ·apply zp rfl rfl rfl rfl
     exact q_7
     refine ze (j := 17) (by kernel_rfl) ?_
     refine zaD za rfl rfl rfl rfl rfl rfl rfl rfl rfl rfl rfl rfl ?_
     refine ze (j := 18) (by kernel_rfl) ?_
     refine zaf (rid := 98) za rfl rfl rfl rfl rfl rfl rfl rfl rfl rfl rfl rfl rfl (Src.row rfl) rfl rfl (by omega) ?_
     apply q_P 19 rfl (by kernel_rfl) rfl rfl rfl
     exact q_8
     refine ze (j := 20) (by kernel_rfl) ?_
     refine zD za rfl rfl rfl rfl rfl rfl rfl rfl rfl rfl rfl rfl rfl ?_
     refine zQ (by kernel_rfl) ?_
     repeat (first | refine q_Z ?_ | ((first | apply q_K rfl | apply q_X rfl); (exact q_H)) | refine q_U ?_)
     exact ⟨k + 1, by omega, by omega, zr ⟨rfl, rfl, rfl, rfl, trivial⟩ ⟨rfl, rfl, KR, KR, KR, KR, zag rfl (by rw [List.take_succ_eq_append_getElem hk, List.flatMap_append]; simp [plstD]) rfl, trivial⟩⟩
    ·refine zaD za rfl rfl rfl rfl rfl rfl rfl rfl rfl rfl rfl rfl ?_
     refine ze (j := 1) (by kernel_rfl) ?_
     apply zp rfl rfl rfl rfl
     exact q_7
     refine ze (j := 18) (by kernel_rfl) ?_
     refine zaf (rid := 98) za rfl rfl rfl rfl rfl rfl rfl rfl rfl rfl rfl rfl rfl (Src.row rfl) rfl rfl (by omega) ?_
     apply q_P 19 rfl (by kernel_rfl) rfl rfl rfl
     exact q_8
     refine ze (j := 20) (by kernel_rfl) ?_
     refine zD za rfl rfl rfl rfl rfl rfl rfl rfl rfl rfl rfl rfl rfl ?_
     refine zQ (by kernel_rfl) ?_
     repeat (first | refine q_Z ?_ | ((first | apply q_K rfl | apply q_X rfl); (exact q_H)) | refine q_U ?_)
     exact ⟨k + 1, by omega, by omega, zr ⟨rfl, rfl, rfl, rfl, trivial⟩ ⟨rfl, rfl, KR, KR, KR, KR, zag rfl (by rw [List.take_succ_eq_append_getElem hk, List.flatMap_append]; simp [plstD]) rfl, trivial⟩⟩
 obtain rfl : k = pls.length := by omega
 rw [List.take_length]
 repeat (first | refine q_Z ?_ | ((first | apply q_K rfl | apply q_X rfl); (exact q_H)) | refine q_U ?_)
 refine zd (zbI (b := 3) (id := 150) (i := 8) 88 2 rfl rfl rfl rfl) ?_
 refine zw (fun k : Nat => [(1, .iptr [sD nm, cD kd, .sl (vrfs.flatMap s1D) vrfs.length, .sl (ifs.flatMap ifxD) ifs.length, .sl (fils.flatMap filD) fils.length, .sl (rws.flatMap rwrD) rws.length, .sl (sts.flatMap staD) sts.length, .sl (pls.flatMap plstD) pls.length, .sl (cls.flatMap clstD) cls.length, .sl (pols.flatMap polD) pols.length, .sl (osp.flatMap ospD) osp.length, .sl (bgp.flatMap bgiD) bgp.length] 0), (2, .ptr 2 0), (3, .ptr 3 0), (6, intA (k : Int))]) (fun k => [(2, .var dvcO), (3, .var [.d (sD nm), .d (cD kd), .row 26, .row 32, .row 59, .d (.sl (rws.flatMap rwrD) rws.length), .row 71, .row 98, .row 150, .d (.sc (.slice none 0 0)), .d (.sc (.slice none 0 0)), .d (.sc (.slice none 0 0))]), (26, .row 9 1 vrfs.length (vrfs.flatMap s1D)), (32, .row 38 11 ifs.length (ifs.flatMap ifxD)), (59, .row 82 2 fils.length (fils.flatMap filD)), (71, .row 97 7 sts.length (sts.flatMap staD)), (98, .row 85 2 pls.length (pls.flatMap plstD)), (150, .row 88 2 k ((cls.take k).flatMap clstD))]) (fun k => k ≤ cls.length) (fun k => cls.length - k) 0 (Nat.zero_le _) (zr ⟨rfl, rfl, rfl, rfl, trivial⟩ ⟨rfl, rfl, KR, KR, KR, KR, KR, rfl, trivial⟩) ?_
 intro k hkl
 try dsimp only
 by_cases hk : k < cls.length
 ·have hms : cls[k].ms.length * 32 ≤ 140737488351232 := (q8 _ (List.getElem_mem hk)).2
  have hmm := (q8 _ (List.getElem_mem hk)).1
  obtain ⟨cn, ms, hcn⟩ : ∃ cn ms, cls[k] = ⟨cn, ms⟩ := ⟨_, _, rfl⟩
  rw [hcn] at hms hmm
  dsimp only at hms hmm
  have hw0 : win (cls.flatMap clstD) (k * 2 + 0) 1 = [sD cn] := (zx zaA cls k 0 1 hk (by decide)).trans (by rw [hcn]; rfl)
  have hw1 : win (cls.flatMap clstD) (k * 2 + 1) 1 = [.sl (ms.flatMap memD) ms.length] := (zx zaA cls k 1 1 hk (by decide)).trans (by rw [hcn]; rfl)
  repeat (first | refine q_Z ?_ | ((first | apply q_K rfl | apply q_X rfl); (first | exact q_A | exact q_R (w := (by first | exact hw0 | exact hw1 | rfl)) | exact q_B | exact q_I k hk)) | refine q_U ?_)
  refine zd (zbI (b := 7) (id := 144) (i := 1) 102 2 rfl rfl rfl rfl) ?_
  refine zw (fun j : Nat => [(1, .iptr [sD nm, cD kd, .sl (vrfs.flatMap s1D) vrfs.length, .sl (ifs.flatMap ifxD) ifs.length, .sl (fils.flatMap filD) fils.length, .sl (rws.flatMap rwrD) rws.length, .sl (sts.flatMap staD) sts.length, .sl (pls.flatMap plstD) pls.length, .sl (cls.flatMap clstD) cls.length, .sl (pols.flatMap polD) pols.length, .sl (osp.flatMap ospD) osp.length, .sl (bgp.flatMap bgiD) bgp.length] 0), (2, .ptr 2 0), (3, .ptr 3 0), (6, intA (k : Int)), (7, .ptr 7 0), (8, intA (j : Int))]) (fun j => [(2, .var dvcO), (3, .var [.d (sD nm), .d (cD kd), .row 26, .row 32, .row 59, .d (.sl (rws.flatMap rwrD) rws.length), .row 71, .row 98, .row 150, .d (.sc (.slice none 0 0)), .d (.sc (.slice none 0 0)), .d (.sc (.slice none 0 0))]), (26, .row 9 1 vrfs.length (vrfs.flatMap s1D)), (32, .row 38 11 ifs.length (ifs.flatMap ifxD)), (59, .row 82 2 fils.length (fils.flatMap filD)), (71, .row 97 7 sts.length (sts.flatMap staD)), (98, .row 85 2 pls.length (pls.flatMap plstD)), (150, .row 88 2 k ((cls.take k).flatMap clstD)), (7, .var [.d (sD cn), .row 144]), (144, .row 102 2 j ((ms.take j).flatMap memD))]) (fun j => j ≤ ms.length) (fun j => ms.length - j) 0 (Nat.zero_le _) (zr ⟨rfl, rfl, rfl, rfl, rfl, rfl, trivial⟩ ⟨rfl, rfl, KR, KR, KR, KR, KR, rfl, rfl, rfl, trivial⟩) ?_
  intro j hjl
  try dsimp only
  by_cases hj : j < ms.length
  ·have ha : ms[j].all.length * 4 ≤ 140737488351232 := (hmm _ (List.getElem_mem hj)).2
   have hw2 := zj zbE ms j 2 hj (by decide)
   repeat (first | refine q_Z ?_ | ((first | apply q_K rfl | apply q_X rfl); (first | exact q_A | exact q_R (w := (by first | exact hw0 | exact hw1 | exact hw2 | rfl)) | exact q_B | (first | exact q_I k hk | exact q_I j hj))) | refine q_U ?_)
   refine zad [138, 144, 7] mixed ?_
   apply q_P 0 rfl (by kernel_rfl) rfl rfl rfl
   exact q_8
   apply q_P 2 rfl (by kernel_rfl) rfl rfl rfl
   exact q_8
   apply q_P 3 rfl (by kernel_rfl) rfl rfl rfl
   exact q_7
   apply q_P 5 rfl (by kernel_rfl) rfl rfl rfl
   exact q_8
   apply q_P 6 rfl (by kernel_rfl) rfl rfl rfl
   exact q_7
   refine zal (j := 1) (k := 4) (by kernel_rfl) ?_ ?_
   ·apply zp rfl rfl rfl rfl
    exact q_7
    refine ze (j := 4) (by kernel_rfl) ?_
    refine zbl za rfl rfl rfl rfl rfl rfl rfl rfl ?_
    refine ze (j := 7) (by kernel_rfl) ?_
    refine zaf (rid := 138) za rfl rfl rfl rfl rfl rfl rfl rfl rfl rfl rfl rfl rfl (Src.dat _ _) (zT zbf _) rfl (by omega) ?_
    refine zat (zaq (id := 138) rfl) ?_
    apply q_P 8 rfl (by kernel_rfl) rfl rfl rfl
    exact q_24
    refine ze (j := 9) (by kernel_rfl) ?_
    refine zaD za rfl rfl rfl rfl rfl rfl rfl rfl rfl rfl rfl rfl ?_
    refine ze (j := 10) (by kernel_rfl) ?_
    refine zaf (rid := 144) za rfl rfl rfl rfl rfl rfl rfl rfl rfl rfl rfl rfl rfl (Src.row rfl) rfl rfl (by omega) ?_
    apply q_P 11 rfl (by kernel_rfl) rfl rfl rfl
    exact q_8
    refine ze (j := 12) (by kernel_rfl) ?_
    refine zD za rfl rfl rfl rfl rfl rfl rfl rfl rfl rfl rfl rfl rfl ?_
    refine zQ (by kernel_rfl) ?_
    repeat (first | refine q_Z ?_ | ((first | apply q_K rfl | apply q_X rfl); (exact q_H)) | refine q_U ?_)
    exact ⟨j + 1, by omega, by omega, zr ⟨rfl, rfl, rfl, rfl, rfl, rfl, trivial⟩ ⟨rfl, rfl, KR, KR, KR, KR, KR, rfl, rfl, zag rfl (by rw [List.take_succ_eq_append_getElem hj, List.flatMap_append]; simp [memD, usD]) rfl, trivial⟩⟩
   ·refine zbl za rfl rfl rfl rfl rfl rfl rfl rfl ?_
    refine zal (j := 1) (k := 7) (by kernel_rfl) ?_ ?_
    ·apply zp rfl rfl rfl rfl
     exact q_7
     refine ze (j := 7) (by kernel_rfl) ?_
     refine zaf (rid := 138) za rfl rfl rfl rfl rfl rfl rfl rfl rfl rfl rfl rfl rfl (Src.dat _ _) (zT zbf _) rfl (by omega) ?_
     refine zat (zaq (id := 138) rfl) ?_
     apply q_P 8 rfl (by kernel_rfl) rfl rfl rfl
     exact q_24
     refine ze (j := 9) (by kernel_rfl) ?_
     refine zaD za rfl rfl rfl rfl rfl rfl rfl rfl rfl rfl rfl rfl ?_
     refine ze (j := 10) (by kernel_rfl) ?_
     refine zaf (rid := 144) za rfl rfl rfl rfl rfl rfl rfl rfl rfl rfl rfl rfl rfl (Src.row rfl) rfl rfl (by omega) ?_
     apply q_P 11 rfl (by kernel_rfl) rfl rfl rfl
     exact q_8
     refine ze (j := 12) (by kernel_rfl) ?_
     refine zD za rfl rfl rfl rfl rfl rfl rfl rfl rfl rfl rfl rfl rfl ?_
     refine zQ (by kernel_rfl) ?_
     repeat (first | refine q_Z ?_ | ((first | apply q_K rfl | apply q_X rfl); (exact q_H)) | refine q_U ?_)
     exact ⟨j + 1, by omega, by omega, zr ⟨rfl, rfl, rfl, rfl, rfl, rfl, trivial⟩ ⟨rfl, rfl, KR, KR, KR, KR, KR, rfl, rfl, zag rfl (by rw [List.take_succ_eq_append_getElem hj, List.flatMap_append]; simp [memD, usD]) rfl, trivial⟩⟩
    ·refine zaf (rid := 138) za rfl rfl rfl rfl rfl rfl rfl rfl rfl rfl rfl rfl rfl (Src.dat _ _) (zT zbf _) rfl (by omega) ?_
     refine zat (zaq (id := 138) rfl) ?_
     apply q_P 8 rfl (by kernel_rfl) rfl rfl rfl
     exact q_24
     refine zal (j := 1) (k := 9) (by kernel_rfl) ?_ ?_
     ·apply zp rfl rfl rfl rfl
      exact q_7
      refine ze (j := 9) (by kernel_rfl) ?_
      refine zaD za rfl rfl rfl rfl rfl rfl rfl rfl rfl rfl rfl rfl ?_
      refine ze (j := 10) (by kernel_rfl) ?_
      refine zaf (rid := 144) za rfl rfl rfl rfl rfl rfl rfl rfl rfl rfl rfl rfl rfl (Src.row rfl) rfl rfl (by omega) ?_
      apply q_P 11 rfl (by kernel_rfl) rfl rfl rfl
      exact q_8
      refine ze (j := 12) (by kernel_rfl) ?_
      refine zD za rfl rfl rfl rfl rfl rfl rfl rfl rfl rfl rfl rfl rfl ?_
      refine zQ (by kernel_rfl) ?_
      repeat (first | refine q_Z ?_ | ((first | apply q_K rfl | apply q_X rfl); (exact q_H)) | refine q_U ?_)
      exact ⟨j + 1, by omega, by omega, zr ⟨rfl, rfl, rfl, rfl, rfl, rfl, trivial⟩ ⟨rfl, rfl, KR, KR, KR, KR, KR, rfl, rfl, zag rfl (by rw [List.take_succ_eq_append_getElem hj, List.flatMap_append]; simp [memD, usD]) rfl, trivial⟩⟩
     ·refine zaD za rfl rfl rfl rfl rfl rfl rfl rfl rfl rfl rfl rfl ?_
      refine ze (j := 1) (by kernel_rfl) ?_
      apply zp rfl rfl rfl rfl
      exact q_7
      refine ze (j := 10) (by kernel_rfl) ?_
      refine zaf (rid := 144) za rfl rfl rfl rfl rfl rfl rfl rfl rfl rfl rfl rfl rfl (Src.row rfl) rfl rfl (by omega) ?_
      apply q_P 11 rfl (by kernel_rfl) rfl rfl rfl
      exact q_8
      refine ze (j := 12) (by kernel_rfl) ?_
      refine zD za rfl rfl rfl rfl rfl rfl rfl rfl rfl rfl rfl rfl rfl ?_
      refine zQ (by kernel_rfl) ?_
      repeat (first | refine q_Z ?_ | ((first | apply q_K rfl | apply q_X rfl); (exact q_H)) | refine q_U ?_)
      exact ⟨j + 1, by omega, by omega, zr ⟨rfl, rfl, rfl, rfl, rfl, rfl, trivial⟩ ⟨rfl, rfl, KR, KR, KR, KR, KR, rfl, rfl, zag rfl (by rw [List.take_succ_eq_append_getElem hj, List.flatMap_append]; simp [memD, usD]) rfl, trivial⟩⟩
  obtain rfl : j = ms.length := by omega
  rw [List.take_length]
  refine zd (zB (id := 144) rfl) ?_
  repeat (first | refine q_Z ?_ | ((first | apply q_K rfl | apply q_X rfl); (first | exact q_A | exact q_R (w := (by first | exact hw0 | exact hw1 | rfl)) | exact q_B | exact q_I k hk)) | refine q_U ?_ | refine zac (rid := 150) za rfl rfl rfl rfl rfl rfl rfl rfl rfl rfl rfl rfl (Src.row rfl) rfl (by omega) ?_)
  exact ⟨k + 1, by omega, by omega, zr ⟨rfl, rfl, rfl, rfl, trivial⟩ ⟨rfl, rfl, KR, KR, KR, KR, KR, zag rfl (by rw [List.take_succ_eq_append_getElem hk, List.flatMap_append, hcn]; simp [clstD]) rfl, trivial⟩⟩
 obtain rfl : k = cls.length := by omega
 rw [List.take_length]
 repeat (first | refine q_Z ?_ | ((first | apply q_K rfl | apply q_X rfl); (exact q_H)) | refine q_U ?_)
 refine zd (zB (id := 150) rfl) ?_
 refine zd (zbI (b := 3) (id := 212) (i := 9) 91 3 rfl rfl rfl rfl) ?_
 refine zw (fun k : Nat => [(1, .iptr [sD nm, cD kd, .sl (vrfs.flatMap s1D) vrfs.length, .sl (ifs.flatMap ifxD) ifs.length, .sl (fils.flatMap filD) fils.length, .sl (rws.flatMap rwrD) rws.length, .sl (sts.flatMap staD) sts.length, .sl (pls.flatMap plstD) pls.length, .sl (cls.flatMap clstD) cls.length, .sl (pols.flatMap polD) pols.length, .sl (osp.flatMap ospD) osp.length, .sl (bgp.flatMap bgiD) bgp.length] 0), (2, .ptr 2 0), (3, .ptr 3 0), (10, intA (k : Int))]) (fun k => [(2, .var dvcO), (3, .var [.d (sD nm), .d (cD kd), .row 26, .row 32, .row 59, .d (.sl (rws.flatMap rwrD) rws.length), .row 71, .row 98, .d (.sl (cls.flatMap clstD) cls.length), .row 212, .d (.sc (.slice none 0 0)), .d (.sc (.slice none 0 0))]), (26, .row 9 1 vrfs.length (vrfs.flatMap s1D)), (32, .row 38 11 ifs.length (ifs.flatMap ifxD)), (59, .row 82 2 fils.length (fils.flatMap filD)), (71, .row 97 7 sts.length (sts.flatMap staD)), (98, .row 85 2 pls.length (pls.flatMap plstD)), (212, .row 91 3 k ((pols.take k).flatMap polD))]) (fun k => k ≤ pols.length) (fun k => pols.length - k) 0 (Nat.zero_le _) (zr ⟨rfl, rfl, rfl, rfl, trivial⟩ ⟨rfl, rfl, KR, KR, KR, KR, KR, rfl, trivial⟩) ?_
 intro k hkl
 try dsimp only
 by_cases hk : k < pols.length
 ·have hcs : pols[k].cs.length * 168 ≤ 140737488351232 := (q9 _ (List.getElem_mem hk)).2
  have hcc := (q9 _ (List.getElem_mem hk)).1
  obtain ⟨pn, cs, pd, hpn⟩ : ∃ pn cs pd, pols[k] = ⟨pn, cs, pd⟩ := ⟨_, _, _, rfl⟩
  rw [hpn] at hcs hcc
  dsimp only at hcs hcc
  have hw0 : win (pols.flatMap polD) (k * 3 + 0) 1 = [sD pn] := (zx zan pols k 0 1 hk (by decide)).trans (by rw [hpn]; rfl)
  have hw1 : win (pols.flatMap polD) (k * 3 + 1) 1 = [.sl (cs.flatMap clsD) cs.length] := (zx zan pols k 1 1 hk (by decide)).trans (by rw [hpn]; rfl)
  have hw2 : win (pols.flatMap polD) (k * 3 + 2) 1 = [bD pd] := (zx zan pols k 2 1 hk (by decide)).trans (by rw [hpn]; rfl)
  repeat (first | refine q_Z ?_ | ((first | apply q_K rfl | apply q_X rfl); (first | exact q_A | exact q_R (w := (by first | exact hw0 | exact hw1 | exact hw2 | rfl)) | exact q_B | exact q_I k hk)) | refine q_U ?_)
  refine zad [11] mixed ?_
  apply q_P 0 rfl (by kernel_rfl) rfl rfl rfl
  exact q_4
  apply q_P 1 rfl (by kernel_rfl) rfl rfl rfl
  exact q_R (w := (by first | exact hw0 | exact hw1 | exact hw2 | rfl))
  apply q_P 2 rfl (by kernel_rfl) rfl rfl rfl
  exact q_1
  apply q_P 3 rfl (by kernel_rfl) rfl rfl rfl
  exact q_I k hk
  apply q_P 4 rfl (by kernel_rfl) rfl rfl rfl
  exact q_4
  apply q_P 5 rfl (by kernel_rfl) rfl rfl rfl
  exact q_R (w := (by first | exact hw0 | exact hw1 | exact hw2 | rfl))
  apply q_P 6 rfl (by kernel_rfl) rfl rfl rfl
  exact q_4
  apply q_P 7 rfl (by kernel_rfl) rfl rfl rfl
  exact q_R (w := (by first | exact hw0 | exact hw1 | exact hw2 | rfl))
  apply q_P 8 rfl (by kernel_rfl) rfl rfl rfl
  exact q_1
  apply q_P 9 rfl (by kernel_rfl) rfl rfl rfl
  exact q_I k hk
  apply q_P 10 rfl (by kernel_rfl) rfl rfl rfl
  exact q_4
  apply q_P 11 rfl (by kernel_rfl) rfl rfl rfl
  exact q_R (w := (by first | exact hw0 | exact hw1 | exact hw2 | rfl))
  apply q_P 12 rfl (by kernel_rfl) rfl rfl rfl
  exact q_24
  refine ze (j := 13) (by kernel_rfl) ?_
  refine zaa za rfl rfl rfl rfl rfl rfl rfl ?_
  refine ze (j := 14) (by kernel_rfl) ?_
  refine zD za rfl rfl rfl rfl rfl rfl rfl rfl rfl rfl rfl rfl rfl ?_
  refine zQ (by kernel_rfl) ?_
  repeat (first | refine q_Z ?_ | ((first | apply q_K rfl | apply q_X rfl); (exact q_H)) | refine q_U ?_)
  refine zd (zbI (b := 11) (id := 206) (i := 1) 104 15 rfl rfl rfl rfl) ?_
  refine zw (fun j : Nat => [(1, .iptr [sD nm, cD kd, .sl (vrfs.flatMap s1D) vrfs.length, .sl (ifs.flatMap ifxD) ifs.length, .sl (fils.flatMap filD) fils.length, .sl (rws.flatMap rwrD) rws.length, .sl (sts.flatMap staD) sts.length, .sl (pls.flatMap plstD) pls.length, .sl (cls.flatMap clstD) cls.length, .sl (pols.flatMap polD) pols.length, .sl (osp.flatMap ospD) osp.length, .sl (bgp.flatMap bgiD) bgp.length] 0), (2, .ptr 2 0), (3, .ptr 3 0), (10, intA (k : Int)), (11, .ptr 11 0), (12, intA (j : Int))]) (fun j => [(2, .var dvcO), (3, .var [.d (sD nm), .d (cD kd), .row 26, .row 32, .row 59, .d (.sl (rws.flatMap rwrD) rws.length), .row 71, .row 98, .d (.sl (cls.flatMap clstD) cls.length), .row 212, .d (.sc (.slice none 0 0)), .d (.sc (.slice none 0 0))]), (26, .row 9 1 vrfs.length (vrfs.flatMap s1D)), (32, .row 38 11 ifs.length (ifs.flatMap ifxD)), (59, .row 82 2 fils.length (fils.flatMap filD)), (71, .row 97 7 sts.length (sts.flatMap staD)), (98, .row 85 2 pls.length (pls.flatMap plstD)), (212, .row 91 3 k ((pols.take k).flatMap polD)), (11, .var [.d (sD pn), .row 206, .d (bD pd)]), (206, .row 104 15 j ((cs.take j).flatMap clsD))]) (fun j => j ≤ cs.length) (fun j => cs.length - j) 0 (Nat.zero_le _) (zr ⟨rfl, rfl, rfl, rfl, rfl, rfl, trivial⟩ ⟨rfl, rfl, KR, KR, KR, KR, KR, rfl, rfl, rfl, trivial⟩) ?_
  intro j hjl
  try dsimp only
  by_cases hj : j < cs.length
  ·have ha := (hcc _ (List.getElem_mem hj)).b1
   have hb := (hcc _ (List.getElem_mem hj)).b2
   obtain ⟨c1, c2, c3, c4, c5, c6, c7, c8, c9, c10, c11, c12, c13, c14, c15, hcj⟩ : ∃ c1 c2 c3 c4 c5 c6 c7 c8 c9 c10 c11 c12 c13 c14 c15, cs[j] = ⟨c1, c2, c3, c4, c5, c6, c7, c8, c9, c10, c11, c12, c13, c14, c15⟩ := ⟨_, _, _, _, _, _, _, _, _, _, _, _, _, _, _, rfl⟩
   rw [hcj] at ha hb
   have hw3 : win (cs.flatMap clsD) (j * 15) 15 = [iD c1, cD c2, sD c3, sD c4, iD c5, iD c6, iD c7, iD c8, iD c9, iD c10, .sl (c11.flatMap u1D) c11.length, bD c12, .sl (c13.flatMap u1D) c13.length, uD c14, iD c15] := (zj zcs cs j 15 hj (by decide)).trans (by rw [hcj]; rfl)
   have ha : c11.length * 4 ≤ 140737488351232 := ha
   have hb : c13.length * 4 ≤ 140737488351232 := hb
   repeat (first | refine q_Z ?_ | ((first | apply q_K rfl | apply q_X rfl); (first | exact q_A | exact q_R (w := (by first | exact hw0 | exact hw1 | exact hw2 | exact hw3 | rfl)) | exact q_B | (first | exact q_I k hk | exact q_I j hj))) | refine q_U ?_ | refine zaz za rfl rfl rfl rfl rfl rfl rfl ?_)
   refine zac (rid := 192) za rfl rfl rfl rfl rfl rfl rfl rfl rfl rfl rfl rfl (Src.dat _ _) (zT zbf _) (by omega) ?_
   repeat (first | refine q_Z ?_ | ((first | apply q_K rfl | apply q_X rfl); (exact q_H)) | refine q_U ?_ | refine zaz za rfl rfl rfl rfl rfl rfl rfl ?_)
   refine zac (rid := 197) za rfl rfl rfl rfl rfl rfl rfl rfl rfl rfl rfl rfl (Src.dat _ _) (zT zbf _) (by omega) ?_
   refine z6 (zB (id := 192) rfl) ?_
   refine z6 (zB (id := 197) rfl) ?_
   refine z6 (zr (e1 := [(1, .iptr [sD nm, cD kd, .sl (vrfs.flatMap s1D) vrfs.length, .sl (ifs.flatMap ifxD) ifs.length, .sl (fils.flatMap filD) fils.length, .sl (rws.flatMap rwrD) rws.length, .sl (sts.flatMap staD) sts.length, .sl (pls.flatMap plstD) pls.length, .sl (cls.flatMap clstD) cls.length, .sl (pols.flatMap polD) pols.length, .sl (osp.flatMap ospD) osp.length, .sl (bgp.flatMap bgiD) bgp.length] 0), (2, .ptr 2 0), (3, .ptr 3 0), (10, intA (k : Int)), (11, .ptr 11 0), (12, intA (j : Int)), (13, .ptr 13 0), (200, .d (.sl (c13.flatMap u1D) (0 + c13.length)))]) (h1 := [(2, .var dvcO), (3, .var [.d (sD nm), .d (cD kd), .row 26, .row 32, .row 59, .d (.sl (rws.flatMap rwrD) rws.length), .row 71, .row 98, .d (.sl (cls.flatMap clstD) cls.length), .row 212, .d (.sc (.slice none 0 0)), .d (.sc (.slice none 0 0))]), (26, .row 9 1 vrfs.length (vrfs.flatMap s1D)), (32, .row 38 11 ifs.length (ifs.flatMap ifxD)), (59, .row 82 2 fils.length (fils.flatMap filD)), (71, .row 97 7 sts.length (sts.flatMap staD)), (98, .row 85 2 pls.length (pls.flatMap plstD)), (212, .row 91 3 k ((pols.take k).flatMap polD)), (11, .var [.d (sD pn), .row 206, .d (bD pd)]), (206, .row 104 15 j ((cs.take j).flatMap clsD)), (13, .var [.d (iD c1), .d (cD c2), .d (sD c3), .d (sD c4), .d (iD c5), .d (iD c6), .d (iD c7), .d (iD c8), .d (iD c9), .d (iD c10), .d (.sl (c11.flatMap u1D) (0 + c11.length)), .d (bD c12), .d (.sl (c13.flatMap u1D) c13.length), .d (uD c14), .d (iD c15)])]) ⟨rfl, rfl, rfl, rfl, rfl, rfl, rfl, rfl, trivial⟩ ⟨rfl, rfl, KR, KR, KR, KR, KR, rfl, rfl, rfl, rfl, trivial⟩) ?_
   repeat (first | refine q_Z ?_ | ((first | apply q_K rfl | apply q_X rfl); (exact q_H)) | refine q_U ?_ | refine zac (rid := 206) za rfl rfl rfl rfl rfl rfl rfl rfl rfl rfl rfl rfl (Src.row rfl) rfl (by omega) ?_)
   exact ⟨j + 1, by omega, by omega, zr ⟨rfl, rfl, rfl, rfl, rfl, rfl, trivial⟩ ⟨rfl, rfl, KR, KR, KR, KR, KR, rfl, rfl, zag rfl (by rw [List.take_succ_eq_append_getElem hj, List.flatMap_append, hcj]; simp [clsD, usD]) rfl, trivial⟩⟩
  obtain rfl : j = cs.length := by omega
  rw [List.take_length]
  refine zd (zB (id := 206) rfl) ?_
  repeat (first | refine q_Z ?_ | ((first | apply q_K rfl | apply q_X rfl); (first | exact q_A | exact q_R (w := (by first | exact hw0 | exact hw1 | exact hw2 | rfl)) | exact q_B | exact q_I k hk)) | refine q_U ?_ | refine zac (rid := 212) za rfl rfl rfl rfl rfl rfl rfl rfl rfl rfl rfl rfl (Src.row rfl) rfl (by omega) ?_)
  exact ⟨k + 1, by omega, by omega, zr ⟨rfl, rfl, rfl, rfl, trivial⟩ ⟨rfl, rfl, KR, KR, KR, KR, KR, zag rfl (by rw [List.take_succ_eq_append_getElem hk, List.flatMap_append, hpn]; simp [polD]) rfl, trivial⟩⟩
 obtain rfl : k = pols.length := by omega
 rw [List.take_length]
 repeat (first | refine q_Z ?_ | ((first | apply q_K rfl | apply q_X rfl); (exact q_H)) | refine q_U ?_)
 refine zd (zbI (b := 3) (id := 245) (i := 10) 73 3 rfl rfl rfl rfl) ?_
 refine zw (fun k : Nat => [(1, .iptr [sD nm, cD kd, .sl (vrfs.flatMap s1D) vrfs.length, .sl (ifs.flatMap ifxD) ifs.length, .sl (fils.flatMap filD) fils.length, .sl (rws.flatMap rwrD) rws.length, .sl (sts.flatMap staD) sts.length, .sl (pls.flatMap plstD) pls.length, .sl (cls.flatMap clstD) cls.length, .sl (pols.flatMap polD) pols.length, .sl (osp.flatMap ospD) osp.length, .sl (bgp.flatMap bgiD) bgp.length] 0), (2, .ptr 2 0), (3, .ptr 3 0), (14, intA (k : Int))]) (fun k => [(2, .var dvcO), (3, .var [.d (sD nm), .d (cD kd), .row 26, .row 32, .row 59, .d (.sl (rws.flatMap rwrD) rws.length), .row 71, .row 98, .d (.sl (cls.flatMap clstD) cls.length), .row 212, .row 245, .d (.sc (.slice none 0 0))]), (26, .row 9 1 vrfs.length (vrfs.flatMap s1D)), (32, .row 38 11 ifs.length (ifs.flatMap ifxD)), (59, .row 82 2 fils.length (fils.flatMap filD)), (71, .row 97 7 sts.length (sts.flatMap staD)), (98, .row 85 2 pls.length (pls.flatMap plstD)), (212, .row 91 3 pols.length (pols.flatMap polD)), (245, .row 73 3 k ((osp.take k).flatMap ospD))]) (fun k => k ≤ osp.length) (fun k => osp.length - k) 0 (Nat.zero_le _) (zr ⟨rfl, rfl, rfl, rfl, trivial⟩ ⟨rfl, rfl, KR, KR, KR, KR, KR, KR, rfl, trivial⟩) ?_
 intro k hkl
 try dsimp only
 by_cases hk : k < osp.length
 ·have hr : osp[k].fr.length * 40 ≤ 140737488351232 := q10 _ (List.getElem_mem hk)
  repeat (first | refine q_Z ?_ | ((first | apply q_K rfl | apply q_X rfl); (exact q_H)) | refine q_U ?_)
  refine zad [235, 245, 3] mixed ?_
  apply q_P 0 rfl (by kernel_rfl) rfl rfl rfl
  exact q_8
  apply q_P 2 rfl (by kernel_rfl) rfl rfl rfl
  exact q_4
  apply q_P 3 rfl (by kernel_rfl) rfl rfl rfl
  exact q_R (w := (by first | exact zj z8 osp k _ hk (by decide) | exact zx z8 osp k _ _ hk (by decide) | exact zR z8 osp k _ _ _ hk (by decide) | rfl))
  apply q_P 4 rfl (by kernel_rfl) rfl rfl rfl
  exact q_1
  apply q_P 5 rfl (by kernel_rfl) rfl rfl rfl
  exact q_I k hk
  apply q_P 6 rfl (by kernel_rfl) rfl rfl rfl
  exact q_4
  apply q_P 7 rfl (by kernel_rfl) rfl rfl rfl
  exact q_R (w := (by first | exact zj z8 osp k _ hk (by decide) | exact zx z8 osp k _ _ hk (by decide) | exact zR z8 osp k _ _ _ hk (by decide) | rfl))
  apply q_P 8 rfl (by kernel_rfl) rfl rfl rfl
  exact q_4
  apply q_P 9 rfl (by kernel_rfl) rfl rfl rfl
  exact q_R (w := (by first | exact zj z8 osp k _ hk (by decide) | exact zx z8 osp k _ _ hk (by decide) | exact zR z8 osp k _ _ _ hk (by decide) | rfl))
  apply q_P 10 rfl (by kernel_rfl) rfl rfl rfl
  exact q_1
  apply q_P 11 rfl (by kernel_rfl) rfl rfl rfl
  exact q_I k hk
  apply q_P 12 rfl (by kernel_rfl) rfl rfl rfl
  exact q_4
  apply q_P 13 rfl (by kernel_rfl) rfl rfl rfl
  exact q_R (w := (by first | exact zj z8 osp k _ hk (by decide) | exact zx z8 osp k _ _ hk (by decide) | exact zR z8 osp k _ _ _ hk (by decide) | rfl))
  apply q_P 15 rfl (by kernel_rfl) rfl rfl rfl
  exact q_4
  apply q_P 16 rfl (by kernel_rfl) rfl rfl rfl
  exact q_R (w := (by first | exact zj z8 osp k _ hk (by decide) | exact zx z8 osp k _ _ hk (by decide) | exact zR z8 osp k _ _ _ hk (by decide) | rfl))
  apply q_P 17 rfl (by kernel_rfl) rfl rfl rfl
  exact q_1
  apply q_P 18 rfl (by kernel_rfl) rfl rfl rfl
  exact q_I k hk
  apply q_P 19 rfl (by kernel_rfl) rfl rfl rfl
  exact q_4
  apply q_P 20 rfl (by kernel_rfl) rfl rfl rfl
  exact q_R (w := (by first | exact zj z8 osp k _ hk (by decide) | exact zx z8 osp k _ _ hk (by decide) | exact zR z8 osp k _ _ _ hk (by decide) | rfl))
  refine zal (j := 1) (k := 14) (by kernel_rfl) ?_ ?_
  ·apply zp rfl rfl rfl rfl
   exact q_7
   refine ze (j := 14) (by kernel_rfl) ?_
   refine zbl za rfl rfl rfl rfl rfl rfl rfl rfl ?_
   refine ze (j := 21) (by kernel_rfl) ?_
   refine zaf (rid := 235) za rfl rfl rfl rfl rfl rfl rfl rfl rfl rfl rfl rfl rfl (Src.dat _ _) (zT za7 _) rfl (by omega) ?_
   refine zat (zaq (id := 235) rfl) ?_
   apply q_P 22 rfl (by kernel_rfl) rfl rfl rfl
   exact q_24
   refine ze (j := 23) (by kernel_rfl) ?_
   refine zaD za rfl rfl rfl rfl rfl rfl rfl rfl rfl rfl rfl rfl ?_
   refine ze (j := 24) (by kernel_rfl) ?_
   refine zaf (rid := 245) za rfl rfl rfl rfl rfl rfl rfl rfl rfl rfl rfl rfl rfl (Src.row rfl) rfl rfl (by omega) ?_
   apply q_P 25 rfl (by kernel_rfl) rfl rfl rfl
   exact q_8
   refine ze (j := 26) (by kernel_rfl) ?_
   refine zD za rfl rfl rfl rfl rfl rfl rfl rfl rfl rfl rfl rfl rfl ?_
   refine zQ (by kernel_rfl) ?_
   repeat (first | refine q_Z ?_ | ((first | apply q_K rfl | apply q_X rfl); (exact q_H)) | refine q_U ?_)
   exact ⟨k + 1, by omega, by omega, zr ⟨rfl, rfl, rfl, rfl, trivial⟩ ⟨rfl, rfl, KR, KR, KR, KR, KR, KR, zag rfl (by rw [List.take_succ_eq_append_getElem hk, List.flatMap_append]; simp [ospD]) rfl, trivial⟩⟩
  ·refine zbl za rfl rfl rfl rfl rfl rfl rfl rfl ?_
   refine zal (j := 1) (k := 21) (by kernel_rfl) ?_ ?_
   ·apply zp rfl rfl rfl rfl
    exact q_7
    refine ze (j := 21) (by kernel_rfl) ?_
    refine zaf (rid := 235) za rfl rfl rfl rfl rfl rfl rfl rfl rfl rfl rfl rfl rfl (Src.dat _ _) (zT za7 _) rfl (by omega) ?_
    refine zat (zaq (id := 235) rfl) ?_
    apply q_P 22 rfl (by kernel_rfl) rfl rfl rfl
    exact q_24
    refine ze (j := 23) (by kernel_rfl) ?_
    refine zaD za rfl rfl rfl rfl rfl rfl rfl rfl rfl rfl rfl rfl ?_
    refine ze (j := 24) (by kernel_rfl) ?_
    refine zaf (rid := 245) za rfl rfl rfl rfl rfl rfl rfl rfl rfl rfl rfl rfl rfl (Src.row rfl) rfl rfl (by omega) ?_
    apply q_P 25 rfl (by kernel_rfl) rfl rfl rfl
    exact q_8
    refine ze (j := 26) (by kernel_rfl) ?_
    refine zD za rfl rfl rfl rfl rfl rfl rfl rfl rfl rfl rfl rfl rfl ?_
    refine zQ (by kernel_rfl) ?_
    repeat (first | refine q_Z ?_ | ((first | apply q_K rfl | apply q_X rfl); (exact q_H)) | refine q_U ?_)
    exact ⟨k + 1, by omega, by omega, zr ⟨rfl, rfl, rfl, rfl, trivial⟩ ⟨rfl, rfl, KR, KR, KR, KR, KR, KR, zag rfl (by rw [List.take_succ_eq_append_getElem hk, List.flatMap_append]; simp [ospD]) rfl, trivial⟩⟩
   ·refine zaf (rid := 235) za rfl rfl rfl rfl rfl rfl rfl rfl rfl rfl rfl rfl rfl (Src.dat _ _) (zT za7 _) rfl (by omega) ?_
    refine zat (zaq (id := 235) rfl) ?_
    apply q_P 22 rfl (by kernel_rfl) rfl rfl rfl
    exact q_24
    refine zal (j := 1) (k := 23) (by kernel_rfl) ?_ ?_
    ·apply zp rfl rfl rfl rfl
     exact q_7
     refine ze (j := 23) (by kernel_rfl) ?_
     refine zaD za rfl rfl rfl rfl rfl rfl rfl rfl rfl rfl rfl rfl ?_
     refine ze (j := 24) (by kernel_rfl) ?_
     refine zaf (rid := 245) za rfl rfl rfl rfl rfl rfl rfl rfl rfl rfl rfl rfl rfl (Src.row rfl) rfl rfl (by omega) ?_
     apply q_P 25 rfl (by kernel_rfl) rfl rfl rfl
     exact q_8
     refine ze (j := 26) (by kernel_rfl) ?_
     refine zD za rfl rfl rfl rfl rfl rfl rfl rfl rfl rfl rfl rfl rfl ?_
     refine zQ (by kernel_rfl) ?_
     repeat (first | refine q_Z ?_ | ((first | apply q_K rfl | apply q_X rfl); (exact q_H)) | refine q_U ?_)
     exact ⟨k + 1, by omega, by omega, zr ⟨rfl, rfl, rfl, rfl, trivial⟩ ⟨rfl, rfl, KR, KR, KR, KR, KR, KR, zag rfl (by rw [List.take_succ_eq_append_getElem hk, List.flatMap_append]; simp [ospD]) rfl, trivial⟩⟩
    ·refine zaD za rfl rfl rfl rfl rfl rfl rfl rfl rfl rfl rfl rfl ?_
     refine ze (j := 1) (by kernel_rfl) ?_
     apply zp rfl rfl rfl rfl
     exact q_7
     refine ze (j := 24) (by kernel_rfl) ?_
     refine zaf (rid := 245) za rfl rfl rfl rfl rfl rfl rfl rfl rfl rfl rfl rfl rfl (Src.row rfl) rfl rfl (by omega) ?_
     apply q_P 25 rfl (by kernel_rfl) rfl rfl rfl
     exact q_8
     refine ze (j := 26) (by kernel_rfl) ?_
     refine zD za rfl rfl rfl rfl rfl rfl rfl rfl rfl rfl rfl rfl rfl ?_
     refine zQ (by kernel_rfl) ?_
     repeat (first | refine q_Z ?_ | ((first | apply q_K rfl | apply q_X rfl); (exact q_H)) | refine q_U ?_)
     exact ⟨k + 1, by omega, by omega, zr ⟨rfl, rfl, rfl, rfl, trivial⟩ ⟨rfl, rfl, KR, KR, KR, KR, KR, KR, zag rfl (by rw [List.take_succ_eq_append_getElem hk, List.flatMap_append]; simp [ospD]) rfl, trivial⟩⟩
 obtain rfl : k = osp.length := by omega
 rw [List.take_length]
 repeat (first | refine q_Z ?_ | ((first | apply q_K rfl | apply q_X rfl); (exact q_H)) | refine q_U ?_)
 refine zd (zB (id := 245) rfl) ?_
 refine zd (zbI (b := 3) (id := 278) (i := 11) 77 6 rfl rfl rfl rfl) ?_
 refine zw (fun k : Nat => [(1, .iptr [sD nm, cD kd, .sl (vrfs.flatMap s1D) vrfs.length, .sl (ifs.flatMap ifxD) ifs.length, .sl (fils.flatMap filD) fils.length, .sl (rws.flatMap rwrD) rws.length, .sl (sts.flatMap staD) sts.length, .sl (pls.flatMap plstD) pls.length, .sl (cls.flatMap clstD) cls.length, .sl (pols.flatMap polD) pols.length, .sl (osp.flatMap ospD) osp.length, .sl (bgp.flatMap bgiD) bgp.length] 0), (2, .ptr 2 0), (3, .ptr 3 0), (15, intA (k : Int))]) (fun k => [(2, .var dvcO), (3, .var [.d (sD nm), .d (cD kd), .row 26, .row 32, .row 59, .d (.sl (rws.flatMap rwrD) rws.length), .row 71, .row 98, .d (.sl (cls.flatMap clstD) cls.length), .row 212, .d (.sl (osp.flatMap ospD) osp.length), .row 278]), (26, .row 9 1 vrfs.length (vrfs.flatMap s1D)), (32, .row 38 11 ifs.length (ifs.flatMap ifxD)), (59, .row 82 2 fils.length (fils.flatMap filD)), (71, .row 97 7 sts.length (sts.flatMap staD)), (98, .row 85 2 pls.length (pls.flatMap plstD)), (212, .row 91 3 pols.length (pols.flatMap polD)), (278, .row 77 6 k ((bgp.take k).flatMap bgiD))]) (fun k => k ≤ bgp.length) (fun k => bgp.length - k) 0 (Nat.zero_le _) (zr ⟨rfl, rfl, rfl, rfl, trivial⟩ ⟨rfl, rfl, KR, KR, KR, KR, KR, KR, rfl, trivial⟩) ?_
 intro k hkl
 try dsimp only
 by_cases hk : k < bgp.length
 ·have g := q11 _ (List.getElem_mem hk)
  obtain ⟨b1, b2, b3, b4, b5, b6, hbk⟩ : ∃ b1 b2 b3 b4 b5 b6, bgp[k] = ⟨b1, b2, b3, b4, b5, b6⟩ := ⟨_, _, _, _, _, _, rfl⟩
  rw [hbk] at g
  have g1 : b4.length * 16 ≤ 140737488351232 := g.1
  have g2 : b5.length * 48 ≤ 140737488351232 := g.2.1
  have g3 : b6.length * 40 ≤ 140737488351232 := g.2.2
  have hw3 : win (bgp.flatMap bgiD) (k * 6) 6 = [sD b1, uD b2, uD b3, .sl (b4.flatMap pfxD) b4.length, .sl (b5.flatMap perD) b5.length, .sl (b6.flatMap rdsD) b6.length] := (zj za1 bgp k 6 hk (by decide)).trans (by rw [hbk]; rfl)
  repeat (first | refine q_Z ?_ | ((first | apply q_K rfl | apply q_X rfl); (first | exact q_A | exact q_R (w := (by first | exact hw3 | rfl)) | exact q_B | exact q_I k hk)) | refine q_U ?_ | refine zaz za rfl rfl rfl rfl rfl rfl rfl ?_)
  refine zac (rid := 259) za rfl rfl rfl rfl rfl rfl rfl rfl rfl rfl rfl rfl (Src.dat _ _) (zT zbB _) (by omega) ?_
  repeat (first | refine q_Z ?_ | ((first | apply q_K rfl | apply q_X rfl); (exact q_H)) | refine q_U ?_ | refine zaz za rfl rfl rfl rfl rfl rfl rfl ?_)
  refine zac (rid := 264) za rfl rfl rfl rfl rfl rfl rfl rfl rfl rfl rfl rfl (Src.dat _ _) (zT za8 _) (by omega) ?_
  repeat (first | refine q_Z ?_ | ((first | apply q_K rfl | apply q_X rfl); (exact q_H)) | refine q_U ?_ | refine zaz za rfl rfl rfl rfl rfl rfl rfl ?_)
  refine zac (rid := 269) za rfl rfl rfl rfl rfl rfl rfl rfl rfl rfl rfl rfl (Src.dat _ _) (zT za7 _) (by omega) ?_
  refine z6 (zB (id := 259) rfl) ?_
  refine z6 (zB (id := 264) rfl) ?_
  refine z6 (zB (id := 269) rfl) ?_
  refine z6 (zr (e1 := [(1, .iptr [sD nm, cD kd, .sl (vrfs.flatMap s1D) vrfs.length, .sl (ifs.flatMap ifxD) ifs.length, .sl (fils.flatMap filD) fils.length, .sl (rws.flatMap rwrD) rws.length, .sl (sts.flatMap staD) sts.length, .sl (pls.flatMap plstD) pls.length, .sl (cls.flatMap clstD) cls.length, .sl (pols.flatMap polD) pols.length, .sl (osp.flatMap ospD) osp.length, .sl (bgp.flatMap bgiD) bgp.length] 0), (2, .ptr 2 0), (3, .ptr 3 0), (15, intA (k : Int)), (16, .ptr 16 0), (272, .d (.sl (b6.flatMap rdsD) (0 + b6.length)))]) (h1 := [(2, .var dvcO), (3, .var [.d (sD nm), .d (cD kd), .row 26, .row 32, .row 59, .d (.sl (rws.flatMap rwrD) rws.length), .row 71, .row 98, .d (.sl (cls.flatMap clstD) cls.length), .row 212, .d (.sl (osp.flatMap ospD) osp.length), .row 278]), (26, .row 9 1 vrfs.length (vrfs.flatMap s1D)), (32, .row 38 11 ifs.length (ifs.flatMap ifxD)), (59, .row 82 2 fils.length (fils.flatMap filD)), (71, .row 97 7 sts.length (sts.flatMap staD)), (98, .row 85 2 pls.length (pls.flatMap plstD)), (212, .row 91 3 pols.length (pols.flatMap polD)), (278, .row 77 6 k ((bgp.take k).flatMap bgiD)), (16, .var [.d (sD b1), .d (uD b2), .d (uD b3), .d (.sl (b4.flatMap pfxD) (0 + b4.length)), .d (.sl (b5.flatMap perD) (0 + b5.length)), .d (.sl (b6.flatMap rdsD) b6.length)])]) ⟨rfl, rfl, rfl, rfl, rfl, rfl, trivial⟩ ⟨rfl, rfl, KR, KR, KR, KR, KR, KR, rfl, rfl, trivial⟩) ?_
  repeat (first | refine q_Z ?_ | ((first | apply q_K rfl | apply q_X rfl); (exact q_H)) | refine q_U ?_ | refine zac (rid := 278) za rfl rfl rfl rfl rfl rfl rfl rfl rfl rfl rfl rfl (Src.row rfl) rfl (by omega) ?_)
  exact ⟨k + 1, by omega, by omega, zr ⟨rfl, rfl, rfl, rfl, trivial⟩ ⟨rfl, rfl, KR, KR, KR, KR, KR, KR, zag rfl (by rw [List.take_succ_eq_append_getElem hk, List.flatMap_append, hbk]; simp [bgiD]) rfl, trivial⟩⟩
 obtain rfl : k = bgp.length := by omega
 rw [List.take_length]
 refine zd (zB (id := 278) rfl) ?_
 repeat (first | refine q_Z ?_ | ((first | apply q_K rfl | apply q_X rfl); (exact q_H)) | refine q_U ?_)
 exact zG AWk.refl rfl (h2 := toH ⟨nm, kd, vrfs, ifs, fils, rws, sts, pls, cls, pols, osp, bgp⟩) ⟨KR, KR, KR, KR, KR, KR, trivial⟩ ⟨rfl, rfl⟩
end Go.Proofs.YtoahnbmedcjpeaaGreatDoor.Ab

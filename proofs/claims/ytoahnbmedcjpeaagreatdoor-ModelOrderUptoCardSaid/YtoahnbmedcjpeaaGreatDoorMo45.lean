/-
 Texts of a proof, one behind the other (part 46).
-/
import Derived.Test.YtoahnbmedcjpeaaGreatDoorMo3
import Derived.Test.YtoahnbmedcjpeaaGreatDoorMo30
set_option linter.unusedSimpArgs false
set_option linter.unusedVariables false
namespace Go.Proofs.YtoahnbmedcjpeaaGreatDoor.Ab
set_option maxRecDepth 100000
open Go.RowKit Go.Lib
attribute [local irreducible] AWp AOps AQ AYield AEff ACall AWk AAny AAt AThen AIn APost NoPanic
abbrev addW (n : Int) (k : Nat) : Int := IntKind.i64.wrap (n + (k : Int))
theorem zbW {α : Type} (f : Int → α → Int) (n : Int) (l : List α) (k : Nat) (h : k < l.length) : (l.take (k + 1)).foldl f n = f ((l.take k).foldl f n) l[k] := by
 rw [List.take_succ_eq_append_getElem h, List.foldl_append]; rfl
theorem zcr {α : Type} (f : Int → α → Int) (n : Int) (l : List α) (k : Nat) (h : ¬ k < l.length) : (l.take k).foldl f n = l.foldl f n := by
 rw [List.take_of_length_le (by omega)]
set_option maxHeartbeats 16000000 in
theorem zhH (d : Dvc) (hd : d.ok) : ∃ r : Bool, ACall Tryz.prog 10 [dvcA d] [] (Just (boolA r)) := by
 have b2 : d.vrfs.length * 16 ≤ 140737488351232 := hd.b2
 have b3 : d.ifs.length * 120 ≤ 140737488351232 := hd.b3
 have b4 : d.fils.length * 40 ≤ 140737488351232 := hd.b4
 have b5 : d.rws.length * 32 ≤ 140737488351232 := hd.b5
 have b6 : d.sts.length * 56 ≤ 140737488351232 := hd.b6
 have b7 : d.pls.length * 40 ≤ 140737488351232 := hd.b7
 have b8 : d.cls.length * 40 ≤ 140737488351232 := hd.b8
 have b9 : d.pols.length * 48 ≤ 140737488351232 := hd.b9
 have b10 : d.osp.length * 48 ≤ 140737488351232 := hd.b10
 have b11 : d.bgp.length * 96 ≤ 140737488351232 := hd.b11
 clear hd
 obtain ⟨N0, hN0⟩ : ∃ n : Nat, n = d.vrfs.length + d.ifs.length + d.fils.length + d.rws.length + d.sts.length + d.pls.length + d.cls.length + d.pols.length + d.osp.length + d.bgp.length := ⟨_, rfl⟩
 obtain ⟨N1, hN1⟩ : ∃ n : Int, n = d.fils.foldl (fun n y => addW n y.rs.length) (N0 : Int) := ⟨_, rfl⟩
 obtain ⟨N2, hN2⟩ : ∃ n : Int, n = d.pls.foldl (fun n y => addW n y.es.length) N1 := ⟨_, rfl⟩
 obtain ⟨N3, hN3⟩ : ∃ n : Int, n = d.cls.foldl (fun n y => addW n y.ms.length) N2 := ⟨_, rfl⟩
 obtain ⟨N4, hN4⟩ : ∃ n : Int, n = d.pols.foldl (fun n y => addW n y.cs.length) N3 := ⟨_, rfl⟩
 obtain ⟨N5, hN5⟩ : ∃ n : Int, n = d.bgp.foldl (fun n y => addW (addW (addW n y.nets.length) y.ps.length) y.fr.length) N4 := ⟨_, rfl⟩
 refine ⟨decide (N5 > 800), ?_⟩
 refine zb za Tryz.func10 rfl Tryz.ntmps10 (congrArg Array.toList Tryz.results10) (by kernel_rfl) rfl ?_
 refine zt ?_
 (first | refine zi ?_ | refine zl rfl mixed (by kernel_rfl) ?_)
 repeat' (first | ((first | apply q_K rfl | apply q_X rfl); (first | exact q_H | fail)) | refine q_d ?_ | refine q_a ?_ | refine q_b ?_ | refine q_e ?_ | refine q_f ?_ | refine q_g ?_ | ((fail_if_success (refine O_wt rfl ?_)); refine O_gs rfl rfl (fun _ => ?_) (fun _ => ?_)) | ((fail_if_success (refine Q_wt rfl ?_)); refine Q_gs rfl rfl (fun _ => ?_) (fun _ => ?_)) | refine zo ?_ | refine zq ?_ | refine q_j ?_ | fail)
 refine zd (zC (id := 1) (ds := dvcD d) rfl rfl) ?_
 refine zK [(1, .iptr (dvcD d) 0), (3, intA (N0 : Int))] [] ?_ ?_
 ·
  (first | refine zi ?_ | refine zl rfl mixed (by kernel_rfl) ?_)
  repeat' (first | ((first | apply q_K rfl | apply q_X rfl); (first | exact q_H | fail)) | refine q_d ?_ | refine q_a ?_ | refine q_b ?_ | refine q_e ?_ | refine q_f ?_ | refine q_g ?_ | ((fail_if_success (refine O_wt rfl ?_)); refine O_gs rfl rfl (fun _ => ?_) (fun _ => ?_)) | ((fail_if_success (refine Q_wt rfl ?_)); refine Q_gs rfl rfl (fun _ => ?_) (fun _ => ?_)) | refine zo ?_ | refine zq ?_ | refine q_j ?_ | fail)
  rw [hN0]
  exact q_S
 refine zK [(1, .iptr (dvcD d) 0), (3, intA N1)] [] ?_ ?_
 ·refine zt ?_
  (first | refine zi ?_ | refine zl rfl mixed (by kernel_rfl) ?_)
  repeat' (first | ((first | apply q_K rfl | apply q_X rfl); (first | exact q_H | fail)) | refine q_d ?_ | refine q_a ?_ | refine q_b ?_ | refine q_e ?_ | refine q_f ?_ | refine q_g ?_ | ((fail_if_success (refine O_wt rfl ?_)); refine O_gs rfl rfl (fun _ => ?_) (fun _ => ?_)) | ((fail_if_success (refine Q_wt rfl ?_)); refine Q_gs rfl rfl (fun _ => ?_) (fun _ => ?_)) | refine zo ?_ | refine zq ?_ | refine q_j ?_ | fail)
  refine zz ?_
  refine zw (fun x : Nat × Int => [(1, .iptr (dvcD d) 0), (3, intA x.2), (4, natA x.1)]) (fun _ => []) (fun x => x.1 ≤ d.fils.length ∧ x.2 = (d.fils.take x.1).foldl (fun n y => addW n y.rs.length) (N0 : Int)) (fun x => d.fils.length - x.1) (0, (N0 : Int)) ⟨Nat.zero_le _, rfl⟩ (q_S) ?_
  rintro ⟨k, n⟩ ⟨hk, hn⟩
  try dsimp only at hk hn ⊢
  by_cases hkl : k < d.fils.length
  ·have hw := zx zU d.fils k 1 1 hkl (by decide)
   repeat (first | refine q_Y ?_ | ((first | apply q_K rfl | apply q_X rfl); (first | exact q_A | exact q_R (w := (by first | exact hw | rfl)) | exact q_B | (exact q_I k hkl))) | refine q_U ?_)
   exact ⟨(k + 1, addW n d.fils[k].rs.length), ⟨hkl, by (try dsimp only); rw [zbW _ _ _ _ hkl, ← hn]⟩, by (try dsimp only); omega, q_S⟩
  ·rw [zcr _ _ _ _ hkl, ← hN1] at hn
   subst hn
   repeat (first | refine q_Y ?_ | ((first | apply q_K rfl | apply q_X rfl); (exact q_H)) | refine q_U ?_)
   exact q_S
 refine zK [(1, .iptr (dvcD d) 0), (3, intA N2)] [] ?_ ?_
 ·refine zt ?_
  (first | refine zi ?_ | refine zl rfl mixed (by kernel_rfl) ?_)
  repeat' (first | ((first | apply q_K rfl | apply q_X rfl); (first | exact q_H | fail)) | refine q_d ?_ | refine q_a ?_ | refine q_b ?_ | refine q_e ?_ | refine q_f ?_ | refine q_g ?_ | ((fail_if_success (refine O_wt rfl ?_)); refine O_gs rfl rfl (fun _ => ?_) (fun _ => ?_)) | ((fail_if_success (refine Q_wt rfl ?_)); refine Q_gs rfl rfl (fun _ => ?_) (fun _ => ?_)) | refine zo ?_ | refine zq ?_ | refine q_j ?_ | fail)
  refine zz ?_
  refine zw (fun x : Nat × Int => [(1, .iptr (dvcD d) 0), (3, intA x.2), (5, natA x.1)]) (fun _ => []) (fun x => x.1 ≤ d.pls.length ∧ x.2 = (d.pls.take x.1).foldl (fun n y => addW n y.es.length) N1) (fun x => d.pls.length - x.1) (0, N1) ⟨Nat.zero_le _, rfl⟩ (q_S) ?_
  rintro ⟨k, n⟩ ⟨hk, hn⟩
  try dsimp only at hk hn ⊢
  by_cases hkl : k < d.pls.length
  ·have hw := zx zN d.pls k 1 1 hkl (by decide)
   repeat (first | refine q_Y ?_ | ((first | apply q_K rfl | apply q_X rfl); (first | exact q_A | exact q_R (w := (by first | exact hw | rfl)) | exact q_B | (exact q_I k hkl))) | refine q_U ?_)
   exact ⟨(k + 1, addW n d.pls[k].es.length), ⟨hkl, by (try dsimp only); rw [zbW _ _ _ _ hkl, ← hn]⟩, by (try dsimp only); omega, q_S⟩
  ·rw [zcr _ _ _ _ hkl, ← hN2] at hn
   subst hn
   repeat (first | refine q_Y ?_ | ((first | apply q_K rfl | apply q_X rfl); (exact q_H)) | refine q_U ?_)
   exact q_S
 refine zK [(1, .iptr (dvcD d) 0), (3, intA N3)] [] ?_ ?_
 ·refine zt ?_
  (first | refine zi ?_ | refine zl rfl mixed (by kernel_rfl) ?_)
  repeat' (first | ((first | apply q_K rfl | apply q_X rfl); (first | exact q_H | fail)) | refine q_d ?_ | refine q_a ?_ | refine q_b ?_ | refine q_e ?_ | refine q_f ?_ | refine q_g ?_ | ((fail_if_success (refine O_wt rfl ?_)); refine O_gs rfl rfl (fun _ => ?_) (fun _ => ?_)) | ((fail_if_success (refine Q_wt rfl ?_)); refine Q_gs rfl rfl (fun _ => ?_) (fun _ => ?_)) | refine zo ?_ | refine zq ?_ | refine q_j ?_ | fail)
  refine zz ?_
  refine zw (fun x : Nat × Int => [(1, .iptr (dvcD d) 0), (3, intA x.2), (6, natA x.1)]) (fun _ => []) (fun x => x.1 ≤ d.cls.length ∧ x.2 = (d.cls.take x.1).foldl (fun n y => addW n y.ms.length) N2) (fun x => d.cls.length - x.1) (0, N2) ⟨Nat.zero_le _, rfl⟩ (q_S) ?_
  rintro ⟨k, n⟩ ⟨hk, hn⟩
  try dsimp only at hk hn ⊢
  by_cases hkl : k < d.cls.length
  ·have hw := zx zaA d.cls k 1 1 hkl (by decide)
   repeat (first | refine q_Y ?_ | ((first | apply q_K rfl | apply q_X rfl); (first | exact q_A | exact q_R (w := (by first | exact hw | rfl)) | exact q_B | (exact q_I k hkl))) | refine q_U ?_)
   exact ⟨(k + 1, addW n d.cls[k].ms.length), ⟨hkl, by (try dsimp only); rw [zbW _ _ _ _ hkl, ← hn]⟩, by (try dsimp only); omega, q_S⟩
  ·rw [zcr _ _ _ _ hkl, ← hN3] at hn
   subst hn
   repeat (first | refine q_Y ?_ | ((first | apply q_K rfl | apply q_X rfl); (exact q_H)) | refine q_U ?_)
   exact q_S
 refine zK [(1, .iptr (dvcD d) 0), (3, intA N4)] [] ?_ ?_
 ·refine zt ?_
  (first | refine zi ?_ | refine zl rfl mixed (by kernel_rfl) ?_)
  repeat' (first | ((first | apply q_K rfl | apply q_X rfl); (first | exact q_H | fail)) | refine q_d ?_ | refine q_a ?_ | refine q_b ?_ | refine q_e ?_ | refine q_f ?_ | refine q_g ?_ | ((fail_if_success (refine O_wt rfl ?_)); refine O_gs rfl rfl (fun _ => ?_) (fun _ => ?_)) | ((fail_if_success (refine Q_wt rfl ?_)); refine Q_gs rfl rfl (fun _ => ?_) (fun _ => ?_)) | refine zo ?_ | refine zq ?_ | refine q_j ?_ | fail)
  refine zz ?_
  refine zw (fun x : Nat × Int => [(1, .iptr (dvcD d) 0), (3, intA x.2), (7, natA x.1)]) (fun _ => []) (fun x => x.1 ≤ d.pols.length ∧ x.2 = (d.pols.take x.1).foldl (fun n y => addW n y.cs.length) N3) (fun x => d.pols.length - x.1) (0, N3) ⟨Nat.zero_le _, rfl⟩ (q_S) ?_
  rintro ⟨k, n⟩ ⟨hk, hn⟩
  try dsimp only at hk hn ⊢
  by_cases hkl : k < d.pols.length
  ·have hw := zx zan d.pols k 1 1 hkl (by decide)
   repeat (first | refine q_Y ?_ | ((first | apply q_K rfl | apply q_X rfl); (first | exact q_A | exact q_R (w := (by first | exact hw | rfl)) | exact q_B | (exact q_I k hkl))) | refine q_U ?_)
   exact ⟨(k + 1, addW n d.pols[k].cs.length), ⟨hkl, by (try dsimp only); rw [zbW _ _ _ _ hkl, ← hn]⟩, by (try dsimp only); omega, q_S⟩
  ·rw [zcr _ _ _ _ hkl, ← hN4] at hn
   subst hn
   repeat (first | refine q_Y ?_ | ((first | apply q_K rfl | apply q_X rfl); (exact q_H)) | refine q_U ?_)
   exact q_S
 refine zK [(1, .iptr (dvcD d) 0), (3, intA N5)] [] ?_ ?_
 ·refine zt ?_
  (first | refine zi ?_ | refine zl rfl mixed (by kernel_rfl) ?_)
  repeat' (first | ((first | apply q_K rfl | apply q_X rfl); (first | exact q_H | fail)) | refine q_d ?_ | refine q_a ?_ | refine q_b ?_ | refine q_e ?_ | refine q_f ?_ | refine q_g ?_ | ((fail_if_success (refine O_wt rfl ?_)); refine O_gs rfl rfl (fun _ => ?_) (fun _ => ?_)) | ((fail_if_success (refine Q_wt rfl ?_)); refine Q_gs rfl rfl (fun _ => ?_) (fun _ => ?_)) | refine zo ?_ | refine zq ?_ | refine q_j ?_ | fail)
  refine zz ?_
  refine zw (fun x : Nat × Int => [(1, .iptr (dvcD d) 0), (3, intA x.2), (8, natA x.1)]) (fun _ => []) (fun x => x.1 ≤ d.bgp.length ∧ x.2 = (d.bgp.take x.1).foldl (fun n y => addW (addW (addW n y.nets.length) y.ps.length) y.fr.length) N4) (fun x => d.bgp.length - x.1) (0, N4) ⟨Nat.zero_le _, rfl⟩ (q_S) ?_
  rintro ⟨k, n⟩ ⟨hk, hn⟩
  try dsimp only at hk hn ⊢
  by_cases hkl : k < d.bgp.length
  ·have hw1 := zx za1 d.bgp k 3 1 hkl (by decide)
   have hw2 := zx za1 d.bgp k 4 1 hkl (by decide)
   have hw3 := zx za1 d.bgp k 5 1 hkl (by decide)
   repeat (first | refine q_Y ?_ | ((first | apply q_K rfl | apply q_X rfl); (first | exact q_A | exact q_R (w := (by first | exact hw1 | exact hw2 | exact hw3 | rfl)) | exact q_B | (exact q_I k hkl))) | refine q_U ?_)
   exact ⟨(k + 1, addW (addW (addW n d.bgp[k].nets.length) d.bgp[k].ps.length) d.bgp[k].fr.length), ⟨hkl, by (try dsimp only); rw [zbW _ _ _ _ hkl, ← hn]⟩, by (try dsimp only); omega, q_S⟩
  ·rw [zcr _ _ _ _ hkl, ← hN5] at hn
   subst hn
   repeat (first | refine q_Y ?_ | ((first | apply q_K rfl | apply q_X rfl); (exact q_H)) | refine q_U ?_)
   exact q_S
 repeat (first | refine q_Y ?_ | ((first | apply q_K rfl | apply q_X rfl); (first | exact q_H | (exact q_13))) | refine q_U ?_)
 exact zA rfl ⟨rfl, rfl⟩
end Go.Proofs.YtoahnbmedcjpeaaGreatDoor.Ab

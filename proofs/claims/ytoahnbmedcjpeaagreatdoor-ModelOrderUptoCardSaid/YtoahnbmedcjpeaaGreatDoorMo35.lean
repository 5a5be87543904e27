/-
 Texts of a proof, one behind the other (part 36).
-/
import Derived.Test.YtoahnbmedcjpeaaGreatDoorMo3
import Derived.Test.YtoahnbmedcjpeaaGreatDoorMo29
import Derived.Test.YtoahnbmedcjpeaaGreatDoorMo34
set_option linter.unusedSimpArgs false
set_option linter.unusedVariables false
namespace Go.Proofs.YtoahnbmedcjpeaaGreatDoor.Ab
set_option maxRecDepth 100000
open Go.RowKit Go.Lib
attribute [local irreducible] AWp AOps AQ AYield AEff ACall AWk AAny AAt AThen AIn APost NoPanic
section
variable {P : Program} {nt : Nat} {Q : Post} {e : Env} {h : Heap} {ops : Array Oper} {o : Oper} {rest : List Oper} {T : List Nat} {tab : TTab}
theorem stopR {z : Bool} (k : Nat) {y : Code} {a : Array Oper} {b : Bool} (H : AWp z P nt (.seq (.region k a b) y) Q e h) : AWp z P nt (.seq (.region k a b) y) Q e h := H
theorem zfb {t K E id n : Nat} {x y : Operand} {s : List UInt8} {l : List (List UInt8)} (hn : (aget (cntL l) s).getD 0 = n) (TO : TabOk P tab) (ho : o.op = .lookup t x y false) (ht : tmap tab t = some (K, E)) (hK : tstr tab K = true) (hz : ∀ W, (zeroValue E).run P W = .ok (.int .i64 0) W) (hx : aev e x = some (.mp id)) (hb : look h id = some (cntB l)) (hT : T.contains id = false) (hy : aev e y = some (strA s)) :
  AYield P T e h o (natA' n) := by
 subst hn; exact zcb TO ho ht hK hz hx hb hT hy
theorem zjP {t K E id n : Nat} {x y z : Operand} {s : List UInt8} {l : List (List UInt8)} (hn : (aget (cntL l) s).getD 0 = n) (TO : TabOk P tab) (hw : awant ops e o = some true) (hdst : o.dst = none) (ho : o.op = .mapUpdate t x y z) (ht : tmap tab t = some (K, E)) (hK : tstr tab K = true) (hx : aev e x = some (.mp id)) (hb : look h id = some (cntB l)) (hy : aev e y = some (strA s)) (hq : aev e z = some (natA' (n + 1)))
  (HK : AOps P nt ops Q rest e ((id, cntB (l ++ [s])) :: h)) : AOps P nt ops Q (o :: rest) e h := by
 subst hn; exact zcx TO hw hdst ho ht hK hx hb hy hq HK
end
def aliveB (x : Ifx) : Bool := !x.down && ((x.a != 0) || (x.b != 0))
theorem zfY (x : Ifx) : ACall Tryz.prog 143 [gA ifxD x] [] (Just (boolA ((x.a != 0) || (x.b != 0)))) := by
 obtain ⟨x0, x1, xa, xb, xd, x5, x6, x7, x8, x9, x10⟩ := x
 dsimp only
 refine zb za Tryz.func143 rfl Tryz.ntmps143 (congrArg Array.toList Tryz.results143) (by kernel_rfl) rfl ?_
 refine zt ?_
 (first | refine zi ?_ | refine zl rfl mixed (by kernel_rfl) ?_)
 repeat' (first | ((first | apply q_K rfl | apply q_X rfl); (first | exact q_H | fail)) | refine q_d ?_ | refine q_a ?_ | refine q_b ?_ | refine q_e ?_ | refine q_f ?_ | refine q_g ?_ | ((fail_if_success (refine O_wt rfl ?_)); refine O_gs rfl rfl (fun _ => ?_) (fun _ => ?_)) | ((fail_if_success (refine Q_wt rfl ?_)); refine Q_gs rfl rfl (fun _ => ?_) (fun _ => ?_)) | refine zo ?_ | refine zq ?_ | refine q_j ?_ | fail)
 refine zt ?_
 (first | refine zi ?_ | refine zl rfl mixed (by kernel_rfl) ?_)
 repeat' (first | ((first | apply q_K rfl | apply q_X rfl); (first | exact q_H | (exact q_13))) | refine q_d ?_ | refine q_a ?_ | refine q_b ?_ | refine q_e ?_ | refine q_f ?_ | refine q_g ?_ | ((fail_if_success (refine O_wt rfl ?_)); refine O_gs rfl rfl (fun _ => ?_) (fun _ => ?_)) | ((fail_if_success (refine Q_wt rfl ?_)); refine Q_gs rfl rfl (fun _ => ?_) (fun _ => ?_)) | refine zo ?_ | refine zq ?_ | refine q_j ?_ | fail)
 all_goals (refine zau ?_)
 all_goals (exact zA rfl ⟨congrArg boolA (by simp only [*, Bool.or_true, Bool.or_false, Bool.true_or, Bool.false_or]), rfl⟩)
theorem zhd (x : Ifx) : ACall Tryz.prog 30 [gA ifxD x] [] (Just (boolA (aliveB x))) := by
 have h1 := zfY x
 unfold aliveB
 obtain ⟨x0, x1, xa, xb, xd, x5, x6, x7, x8, x9, x10⟩ := x
 dsimp only at h1 ⊢
 obtain ⟨q, hq⟩ : ∃ q, ((xa != 0) || (xb != 0)) = q := ⟨_, rfl⟩
 rw [hq] at h1 ⊢
 refine zb za Tryz.func30 rfl Tryz.ntmps30 (congrArg Array.toList Tryz.results30) (by kernel_rfl) rfl ?_
 refine zt ?_
 (first | refine zi ?_ | refine zl rfl mixed (by kernel_rfl) ?_)
 repeat' (first | ((first | apply q_K rfl | apply q_X rfl); (first | exact q_H | fail)) | refine q_d ?_ | refine q_a ?_ | refine q_b ?_ | refine q_e ?_ | refine q_f ?_ | refine q_g ?_ | ((fail_if_success (refine O_wt rfl ?_)); refine O_gs rfl rfl (fun _ => ?_) (fun _ => ?_)) | ((fail_if_success (refine Q_wt rfl ?_)); refine Q_gs rfl rfl (fun _ => ?_) (fun _ => ?_)) | refine zo ?_ | refine zq ?_ | refine q_j ?_ | fail)
 refine zt ?_
 (first | refine zi ?_ | refine zl rfl mixed (by kernel_rfl) ?_)
 repeat' (first | ((first | apply q_K rfl | apply q_X rfl); (first | exact q_H | fail)) | refine q_d ?_ | refine q_a ?_ | refine q_b ?_ | refine q_e ?_ | refine q_f ?_ | refine q_g ?_ | ((fail_if_success (refine O_wt rfl ?_)); refine O_gs rfl rfl (fun _ => ?_) (fun _ => ?_)) | ((fail_if_success (refine Q_wt rfl ?_)); refine Q_gs rfl rfl (fun _ => ?_) (fun _ => ?_)) | refine zo ?_ | refine zq ?_ | refine q_j ?_ | refine q_O h1 ?_)
 all_goals (refine zau ?_)
 all_goals (exact zA rfl ⟨congrArg boolA (by simp only [*, Bool.and_true, Bool.and_false, Bool.true_and, Bool.false_and]), rfl⟩)
abbrev dvsA (l : List Dvc) : AVal := .d (.sl (l.flatMap dvcD) l.length)
theorem zaL (d : Dvc) : (dvcD d).length = 12 := rfl
abbrev snE (l : List Dvc) (k : Nat) : Env := [(9, .mp 943), (10, .mp 944), (11, .mp 945), (12, .mp 946), (13, .row 13), (47, dvsA l), (48, intA (l.length : Int)), (49, intA (k : Int))]
abbrev snH (ns : List (List UInt8)) (o : List Dvc) : Heap := [(943, cntB ns), (944, .map []), (945, .map []), (946, .map []), (13, gR 33 12 dvcD o)]
abbrev dnm (d : Dvc) : List UInt8 := d.nm
set_option maxHeartbeats 32000000 in
theorem zj7 (hby : ∀ o : List Dvc, o.length ≤ 100000000000 → ACall Tryz.prog 31 [.row 1000, .fn 32 []] [(1000, gR 33 12 dvcD o)] (fun c h => c = .tup [] ∧ h = [(1000, gR 33 12 dvcD (srtN dnm o))])) (l : List Dvc) (hf : ∀ d ∈ l, OkF d) (h32 : l.length ≤ 32) (hc : ∀ d ∈ l, (checkL d).2 = 0) (hn : (l.map dnm).Nodup) (ha : ∀ d ∈ l, (∀ x ∈ d.ifs, aliveB x = false) ∧ d.osp = [] ∧ d.bgp = []) :
  ACall Tryz.prog 9 [dvsA l] [] (Just (.tup [dvsA (srtN dnm (l.map formL)), intA 0, intA 0])) := by
 refine zb za Tryz.func9 rfl Tryz.ntmps9 (congrArg Array.toList Tryz.results9) (by kernel_rfl) rfl ?_
 repeat (first | refine q_Z ?_ | ((first | apply q_K rfl | apply q_X rfl); (exact q_H)) | refine q_U ?_)
 refine zw (fun k : Nat => [(0, dvsA l), (26, dvsA l), (27, intA (l.length : Int)), (28, intA (k : Int))]) (fun _ => []) (fun k => k ≤ l.length) (fun k => l.length - k) 0 (Nat.zero_le _) (q_S) ?_
 intro k hkl
 try dsimp only
 by_cases hk : k < l.length
 ·have hw := zj zaL l k 12 hk (by decide)
  have hq := zcM l[k] (zeT (hf _ (List.getElem_mem hk)).ok)
  rw [hc _ (List.getElem_mem hk)] at hq
  repeat (first | refine q_Z ?_ | ((first | apply q_K rfl | apply q_X rfl); (first | exact q_A | exact q_R (w := hw) | exact q_B | (exact zP rfl rfl rfl))) | refine q_U ?_ | refine q_O hq ?_)
  exact ⟨k + 1, by omega, by omega, q_S⟩
 obtain rfl : k = l.length := by omega
 repeat ((fail_if_success (refine stopR 10 ?_)); first
  | refine zt ?_
  | refine zz ?_
  | refine zi ?_
  | ((first | apply q_K rfl | apply q_X rfl); (first | exact q_H | fail))
  | refine zo ?_
  | refine zq ?_
  | refine q_j ?_
  | refine q_k ?_
  | refine q_a ?_
  | refine q_b ?_
  | refine A_ct rfl ?_
  | refine A_cf rfl ?_
  | refine zM ?_
  | refine zW ?_
  | refine q_l ?_
  | refine q_n ?_
  | refine q_h ?_
  | fail)
 refine zt ?_
 refine zi ?_
 refine zas 943 rfl rfl rfl rfl rfl ?_
 refine zas 944 rfl rfl rfl rfl rfl ?_
 refine zas 945 rfl rfl rfl rfl rfl ?_
 refine zas 946 rfl rfl rfl rfl rfl ?_
 repeat ((fail_if_success (refine stopR 11 ?_)); first
  | refine zt ?_
  | refine zz ?_
  | refine zi ?_
  | ((first | apply q_K rfl | apply q_X rfl); (first | exact q_H | fail))
  | refine zo ?_
  | refine zq ?_
  | refine q_j ?_
  | refine q_k ?_
  | refine q_a ?_
  | refine q_b ?_
  | refine A_ct rfl ?_
  | refine A_cf rfl ?_
  | refine zM ?_
  | refine zW ?_
  | refine q_l ?_
  | refine q_n ?_
  | refine q_h ?_
  | fail)
 refine zt ?_
 (first | refine zi ?_ | refine zl rfl mixed (by kernel_rfl) ?_)
 repeat' (first | ((first | apply q_K rfl | apply q_X rfl); (first | exact q_H | fail)) | refine q_d ?_ | refine q_a ?_ | refine q_b ?_ | refine q_e ?_ | refine q_f ?_ | refine q_g ?_ | ((fail_if_success (refine O_wt rfl ?_)); refine O_gs rfl rfl (fun _ => ?_) (fun _ => ?_)) | ((fail_if_success (refine Q_wt rfl ?_)); refine Q_gs rfl rfl (fun _ => ?_) (fun _ => ?_)) | refine zo ?_ | refine zq ?_ | refine q_j ?_ | fail)
 refine zd (zaF 33 12 (t := 13) (id := 13) rfl rfl) ?_
 repeat (first | refine q_Z ?_ | ((first | apply q_K rfl | apply q_X rfl); (exact q_H)) | refine q_U ?_)
 refine zw (fun k : Nat => snE l k) (fun k => snH ((l.take k).map dnm) ((l.take k).map formL)) (fun k => k ≤ l.length) (fun k => l.length - k) 0 (Nat.zero_le _) (q_S) ?_
 intro k hkl
 try dsimp only
 by_cases hk : k < l.length
 ·have hw := zj zaL l k 12 hk (by decide)
  have hq := zi6 l[k] (hf _ (List.getElem_mem hk))
  obtain ⟨hal, ho, hb⟩ := ha _ (List.getElem_mem hk)
  have hil := (hf _ (List.getElem_mem hk)).n3
  have hnot : ((l.take k).map dnm).count l[k].nm = 0 := by
   rw [List.count_eq_zero]
   intro hm
   have e1 : l = l.take k ++ l[k] :: l.drop (k + 1) := by rw [← List.drop_eq_getElem_cons hk, List.take_append_drop]
   have h2 := hn
   rw [e1, List.map_append, List.nodup_append] at h2
   exact h2.2.2 _ hm _ (List.mem_map.2 ⟨l[k], List.mem_cons_self .., rfl⟩) rfl
  have c0 : (aget (cntL ((l.take k).map dnm)) l[k].nm).getD 0 = 0 := by rw [za0]; exact hnot
  have c1 : (aget (cntL ((l.take k).map dnm ++ [l[k].nm])) l[k].nm).getD 0 = 1 := by rw [za0, List.count_append, hnot]; simp
  have eN : (l.take (k + 1)).map dnm = (l.take k).map dnm ++ [l[k].nm] := by rw [List.take_succ_eq_append_getElem hk, List.map_append]; rfl
  have eF : (l.take (k + 1)).map formL = (l.take k).map formL ++ [formL l[k]] := by rw [List.take_succ_eq_append_getElem hk, List.map_append]; rfl
  have eL : ((l.take k).map formL).length = k := by rw [List.length_map, List.length_take]; omega
  generalize (l.take k).map dnm = ns at c0 c1 eN ⊢
  generalize (l.take k).map formL = os at eF eL ⊢
  generalize l[k] = d at hw hq hal ho hb c0 c1 eN eF hil
  obtain ⟨nm, kd, vrfs, ifs, fils, rws, sts, pls, cls, pols, osp, bgp⟩ := d
  dsimp only at hal ho hb c0 c1 eN hil
  subst ho hb
  obtain ⟨f, hfm⟩ : ∃ f, formL ⟨nm, kd, vrfs, ifs, fils, rws, sts, pls, cls, pols, [], []⟩ = f := ⟨_, rfl⟩
  rw [hfm] at hq eF
  clear hfm
  repeat ((fail_if_success (refine stopR 15 ?_)); first
   | refine zt ?_
   | refine zz ?_
   | refine zi ?_
   | ((first | apply q_K rfl | apply q_X rfl); (first | exact q_A | exact q_R (w := (by first | exact hw | rfl)) | exact q_B | fail))
   | refine zo ?_
   | refine zq ?_
   | refine q_j ?_
   | refine q_k ?_
   | refine q_a ?_
   | refine q_b ?_
   | refine A_ct rfl ?_
   | refine A_cf rfl ?_
   | refine zM ?_
   | refine zW ?_
   | refine q_l ?_
   | refine q_n ?_
   | refine q_h ?_
   | fail)
  refine zd (zr (e1 := (14, intA (k : Int)) :: (15, .ptr 15 0) :: snE l k) (h1 := (15, .var ((dvcD ⟨nm, kd, vrfs, ifs, fils, rws, sts, pls, cls, pols, [], []⟩).map .d)) :: snH ns os) ⟨rfl, rfl, rfl, rfl, rfl, rfl, rfl, rfl, rfl, rfl, trivial⟩ ⟨rfl, (by first | rfl | exact kc1 _ _ | exact kc2 _ _ _), rfl, rfl, rfl, rfl, trivial⟩) ?_
  repeat ((fail_if_success (refine stopR 16 ?_)); first
   | refine zt ?_
   | refine zz ?_
   | refine zi ?_
   | ((first | apply q_K rfl | apply q_X rfl); (first | exact q_H | (exact zfb c0 za rfl rfl rfl zX rfl (by first | rfl | exact kc1 _ _ | exact kc2 _ _ _) rfl rfl)))
   | refine zo ?_
   | refine zq ?_
   | refine q_j ?_
   | refine q_k ?_
   | refine q_a ?_
   | refine q_b ?_
   | refine A_ct rfl ?_
   | refine A_cf rfl ?_
   | refine zM ?_
   | refine zW ?_
   | refine q_l ?_
   | refine q_n ?_
   | refine q_h ?_
   | (refine zjP c0 za rfl rfl rfl rfl rfl rfl (by first | rfl | exact kc1 _ _ | exact kc2 _ _ _) rfl rfl ?_))
  refine zd (zr (e1 := (14, intA (k : Int)) :: (15, .ptr 15 0) :: snE l k) (h1 := (15, .var ((dvcD ⟨nm, kd, vrfs, ifs, fils, rws, sts, pls, cls, pols, [], []⟩).map .d)) :: snH (ns ++ [nm]) os) ⟨rfl, rfl, rfl, rfl, rfl, rfl, rfl, rfl, rfl, rfl, trivial⟩ ⟨rfl, (by first | rfl | exact kc1 _ _ | exact kc2 _ _ _), rfl, rfl, rfl, rfl, trivial⟩) ?_
  repeat ((fail_if_success (refine stopR 17 ?_)); first
   | refine zt ?_
   | refine zz ?_
   | refine zi ?_
   | ((first | apply q_K rfl | apply q_X rfl); (first | exact q_H | (exact zfb c1 za rfl rfl rfl zX rfl (by first | rfl | exact kc1 _ _ | exact kc2 _ _ _) rfl rfl)))
   | refine zo ?_
   | refine zq ?_
   | refine q_j ?_
   | refine q_k ?_
   | refine q_a ?_
   | refine q_b ?_
   | refine A_ct rfl ?_
   | refine A_cf rfl ?_
   | refine zM ?_
   | refine zW ?_
   | refine q_l ?_
   | refine q_n ?_
   | refine q_h ?_
   | fail)
  repeat (first | refine q_Z ?_ | ((first | apply q_K rfl | apply q_X rfl); (exact q_H)) | refine q_U ?_)
  refine zw (fun j : Nat => (65, .d (.sl (ifs.flatMap ifxD) ifs.length)) :: (66, intA (ifs.length : Int)) :: (67, intA (j : Int)) :: (14, intA (k : Int)) :: (15, .ptr 15 0) :: (16, boolA false) :: snE l k) (fun _ => (15, .var ((dvcD ⟨nm, kd, vrfs, ifs, fils, rws, sts, pls, cls, pols, [], []⟩).map .d)) :: snH (ns ++ [nm]) os) (fun j => j ≤ ifs.length) (fun j => ifs.length - j) 0 (Nat.zero_le _) (zr ⟨rfl, rfl, rfl, rfl, rfl, rfl, rfl, rfl, rfl, rfl, rfl, rfl, rfl, rfl, trivial⟩ ⟨rfl, (by first | rfl | exact kc1 _ _ | exact kc2 _ _ _), rfl, rfl, rfl, rfl, trivial⟩) ?_
  intro j hjl
  try dsimp only
  by_cases hj : j < ifs.length
  ·have hwj := zj zao ifs j 11 hj (by decide)
   have hA := zhd ifs[j]
   rw [hal _ (List.getElem_mem hj)] at hA
   repeat (first | refine q_Z ?_ | ((first | apply q_K rfl | apply q_X rfl); (first | exact q_A | exact q_R (w := (by first | exact hwj | rfl)) | exact q_B | (exact q_I j hj))) | refine q_U ?_ | refine q_O hA ?_)
   exact ⟨j + 1, by omega, by omega, zr ⟨rfl, rfl, rfl, rfl, rfl, rfl, rfl, rfl, rfl, rfl, rfl, rfl, rfl, rfl, trivial⟩ ⟨rfl, (by first | rfl | exact kc1 _ _ | exact kc2 _ _ _), rfl, rfl, rfl, rfl, trivial⟩⟩
  obtain rfl : j = ifs.length := by omega
  repeat (first | refine q_Z ?_ | ((first | apply q_K rfl | apply q_X rfl); (exact q_H)) | refine q_U ?_)
  refine zw (fun _ : Unit => (89, intA 0) :: (90, intA 0) :: (14, intA (k : Int)) :: (15, .ptr 15 0) :: (16, boolA false) :: snE l k) (fun _ => (15, .var ((dvcD ⟨nm, kd, vrfs, ifs, fils, rws, sts, pls, cls, pols, [], []⟩).map .d)) :: snH (ns ++ [nm]) os) (fun _ => True) (fun _ => 0) () trivial (zr ⟨rfl, rfl, rfl, rfl, rfl, rfl, rfl, rfl, rfl, rfl, rfl, rfl, rfl, trivial⟩ ⟨rfl, (by first | rfl | exact kc1 _ _ | exact kc2 _ _ _), rfl, rfl, rfl, rfl, trivial⟩) ?_
  intro _ _
  repeat (first | refine q_Z ?_ | ((first | apply q_K rfl | apply q_X rfl); (exact q_H)) | refine q_U ?_)
  refine zw (fun _ : Unit => (110, intA 0) :: (111, intA 0) :: (14, intA (k : Int)) :: (15, .ptr 15 0) :: (16, boolA false) :: snE l k) (fun _ => (15, .var ((dvcD ⟨nm, kd, vrfs, ifs, fils, rws, sts, pls, cls, pols, [], []⟩).map .d)) :: snH (ns ++ [nm]) os) (fun _ => True) (fun _ => 0) () trivial (zr ⟨rfl, rfl, rfl, rfl, rfl, rfl, rfl, rfl, rfl, rfl, rfl, rfl, rfl, trivial⟩ ⟨rfl, (by first | rfl | exact kc1 _ _ | exact kc2 _ _ _), rfl, rfl, rfl, rfl, trivial⟩) ?_
  intro _ _
  repeat (first | refine q_Z ?_ | ((first | apply q_K rfl | apply q_X rfl); (exact q_H)) | refine q_U ?_ | (first | refine q_O hq ?_ | refine zac (rid := 13) za rfl rfl rfl rfl rfl rfl rfl rfl rfl rfl rfl rfl (Src.row rfl) rfl (by omega) ?_))
  refine ⟨k + 1, by omega, by omega, ?_⟩
  rw [eN, eF]
  exact zr ⟨rfl, rfl, rfl, rfl, rfl, rfl, rfl, rfl, trivial⟩ ⟨(by first | rfl | exact kc1 _ _ | exact kc2 _ _ _), rfl, rfl, rfl, zag (by simp) (by rw [List.flatMap_append]; simp [dvcD]) rfl, trivial⟩
 obtain rfl : k = l.length := by omega
 rw [List.take_length]
 have hs := hby (l.map formL) (by rw [List.length_map]; omega)
 repeat ((fail_if_success (refine stopR 41 ?_)); first
  | refine zt ?_
  | refine zz ?_
  | refine zi ?_
  | ((first | apply q_K rfl | apply q_X rfl); (first | exact q_H | fail))
  | refine zo ?_
  | refine zq ?_
  | refine q_j ?_
  | refine q_k ?_
  | refine q_a ?_
  | refine q_b ?_
  | refine A_ct rfl ?_
  | refine A_cf rfl ?_
  | refine zM ?_
  | refine zW ?_
  | refine q_l ?_
  | refine q_n ?_
  | refine q_h ?_
  | (refine O_cU 13 hs rfl rfl rfl rfl rfl rfl rfl rfl ?_))
 refine zd (zB (id := 13) rfl) ?_
 repeat (first | refine q_Z ?_ | ((first | apply q_K rfl | apply q_X rfl); (exact q_H)) | refine q_U ?_)
 exact zA rfl ⟨rfl, rfl⟩
end Go.Proofs.YtoahnbmedcjpeaaGreatDoor.Ab

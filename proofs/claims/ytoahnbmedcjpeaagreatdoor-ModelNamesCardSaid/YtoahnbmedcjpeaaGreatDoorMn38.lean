/-
 Texts of a proof, one behind the other (part 39).
-/
import Derived.Test.YtoahnbmedcjpeaaGreatDoorMn3
import Derived.Test.YtoahnbmedcjpeaaGreatDoorMn23
import Derived.Test.YtoahnbmedcjpeaaGreatDoorMn36
import Derived.Test.YtoahnbmedcjpeaaGreatDoorMn37
set_option linter.unusedSimpArgs false
set_option linter.unusedVariables false
namespace Go.Proofs.YtoahnbmedcjpeaaGreatDoor.Ab
set_option maxRecDepth 100000
open Go.RowKit Go.Lib
attribute [local irreducible] AWp AOps AQ AYield AEff ACall AWk AAny AAt AThen AIn APost NoPanic
theorem ki2 (i j : Nat) (l : List Int) : some (killB i (killB j (cntIB l))) = some (cntIB l) := by rw [zbU, zbU]
theorem KC {a b : Option ABlk} (h : a = b := by first | rfl | exact kc1 _ _ | exact kc2 _ _ _ | exact ki1 _ _ | exact ki2 _ _ _) : a = b := h
def snapC (l : List Dvc) : AVal := match snErr l with
 | some (k, e) => .tup [.d (.sc (.slice none 0 0)), intA (k : Int), intA e]
 | none => .tup [dvsA (srtN dnm (l.map formL)), intA 0, intA 0]
theorem zcR {l : List Dvc} (h : SnOk l) : snapC l = .tup [dvsA (srtN dnm (l.map formL)), intA 0, intA 0] := by unfold snapC; rw [zgB h]
theorem zba {l : List Dvc} {k : Nat} {e : Int} (h : snErr l = some (k, e)) : .tup [.d (.sc (.slice none 0 0)), intA (k : Int), intA e] = snapC l := by unfold snapC; rw [h]
theorem zft {α : Type} [BEq α] [LawfulBEq α] [DecidableEq α] {L : List α} {a : α} {t b : Bool} {c : Nat} (hc : L.count a = c) (hb : (t || !decide L.Nodup) = b) : (b || decide (((c + 1 : Nat) : Int) > 1)) = (t || !decide (L ++ [a]).Nodup) := by
 rw [zgS, ← Bool.or_assoc, hb]
 congr 1
 rw [decide_eq_decide]
 have h : 0 < L.count a ↔ a ∈ L := List.count_pos_iff
 rw [hc] at h
 rw [← h]; omega
theorem zeZ {α : Type} [BEq α] [LawfulBEq α] [DecidableEq α] {L : List α} {a : α} {t : Bool} {c : Nat} (hc : L.count a = c) (hb : (t || !decide L.Nodup) = true) : true = (t || !decide (L ++ [a]).Nodup) := by
 rw [← zft hc hb]; rfl
theorem zdJ {α : Type} [BEq α] [LawfulBEq α] [DecidableEq α] {L : List α} {a : α} {t : Bool} {c : Nat} (hc : L.count a = c) (hb : (t || !decide L.Nodup) = false) : decide (((c + 1 : Nat) : Int) > 1) = (t || !decide (L ++ [a]).Nodup) := by
 rw [← zft hc hb]; rfl
def preO (d : Dvc) (j : Nat) : List Int := (d.osp.take j).map fun x => x.id_
def preB (d : Dvc) (j : Nat) : List Int := (d.bgp.take j).map fun x => x.id_
theorem zjt {d : Dvc} {j : Nat} (hj : j < d.osp.length) : preO d (j + 1) = preO d j ++ [d.osp[j].id_] := by
 unfold preO; rw [List.take_succ_eq_append_getElem hj, List.map_append]; rfl
theorem zju {d : Dvc} {j : Nat} (hj : j < d.bgp.length) : preB d (j + 1) = preB d j ++ [d.bgp[j].id_] := by
 unfold preB; rw [List.take_succ_eq_append_getElem hj, List.map_append]; rfl
theorem zgH (d : Dvc) : preO d d.osp.length = idsO d := by unfold preO idsO; rw [List.take_length]
theorem zgI (d : Dvc) : preB d d.bgp.length = idsB d := by unfold preB idsB; rw [List.take_length]
abbrev soE (l : List Dvc) (k : Nat) : Env := [(9, .mp 943), (10, .mp 944), (11, .mp 945), (12, .mp 946), (13, .row 13), (47, dvsA l), (48, intA (l.length : Int)), (49, intA (k : Int))]
abbrev soH (ns : List (List UInt8)) (as0 os bs : List Int) (o : List Dvc) : Heap := [(943, cntB ns), (944, cntIB as0), (945, cntIB os), (946, cntIB bs), (13, gR 33 12 dvcD o)]
abbrev soHd (d : Dvc) (ns : List (List UInt8)) (as0 os bs : List Int) (o : List Dvc) : Heap := (15, .var ((dvcD d).map .d)) :: soH ns as0 os bs o
abbrev soEd (l : List Dvc) (k : Nat) (b : Bool) : Env := (14, intA (k : Int)) :: (15, .ptr 15 0) :: (16, boolA b) :: soE l k
theorem zkN (L : List (List UInt8)) (a : List UInt8) : (aget (cntL (L ++ [a])) a).getD 0 = L.count a + 1 := by rw [zaF, List.count_append, List.count_singleton_self]
theorem zhh (L : List Int) (a : Int) : (aget (cntI (L ++ [a])) a).getD 0 = L.count a + 1 := by rw [za7, List.count_append, List.count_singleton_self]
set_option maxHeartbeats 64000000 in
theorem zbR (l : List Dvc) (hf : ∀ d ∈ l, OkF d) (hln : l.length ≤ 140737488355328) :
  ACall Tryz.prog 9 [dvsA l] [] (Just (snapC l)) := by
 by_cases hm : 32 < l.length
 ·refine zc za Tryz.func9 rfl Tryz.ntmps9 (congrArg Array.toList Tryz.results9) (by kernel_rfl) rfl ?_
  repeat (first | refine q_Z ?_ | ((first | apply q_K rfl | apply q_X rfl); (exact q_H)) | refine q_U ?_)
  exact zo rfl ⟨zba (zcT hm), rfl⟩
 have h32 : l.length ≤ 32 := by omega
 refine zc za Tryz.func9 rfl Tryz.ntmps9 (congrArg Array.toList Tryz.results9) (by kernel_rfl) rfl ?_
 repeat (first | refine q_Z ?_ | ((first | apply q_K rfl | apply q_X rfl); (exact q_H)) | refine q_U ?_)
 refine zw (fun k : Nat => [(0, dvsA l), (26, dvsA l), (27, intA (l.length : Int)), (28, intA (k : Int))]) (fun _ => []) (fun k => k ≤ l.length ∧ ∀ j (hj : j < l.length), j < k → (checkL l[j]).2 = 0) (fun k => l.length - k) 0 ⟨Nat.zero_le _, fun j _ h => absurd h (Nat.not_lt_zero j)⟩ (q_S) ?_
 rintro k ⟨hkl, hall⟩
 try dsimp only
 by_cases hk : k < l.length
 ·have hw := zj zeq l k 12 hk (by decide)
  have hq := za8 l[k] (zcX (hf _ (List.getElem_mem hk)).ok)
  by_cases he : (checkL l[k]).2 = 0
  ·rw [he] at hq
   repeat (first | refine q_Z ?_ | ((first | apply q_K rfl | apply q_X rfl); (first | exact q_A | exact q_R (w := hw) | exact q_B | (exact R_neInt rfl rfl rfl))) | refine q_U ?_ | refine q_O hq ?_)
   refine ⟨k + 1, ⟨by omega, fun j hj h => ?_⟩, by omega, q_S⟩
   by_cases hjk : j = k
   ·subst hjk; exact he
   ·exact hall j hj (by omega)
  ·have hE := zfW h32 hk (fun j hj => hall j (by omega) hj) he
   obtain ⟨⟨m, v⟩, hr⟩ : ∃ r, checkL l[k] = r := ⟨_, rfl⟩
   rw [hr] at hq he hE
   dsimp only at hq he hE
   repeat (first | refine q_Z ?_ | ((first | apply q_K rfl | apply q_X rfl); (first | exact q_A | exact q_R (w := hw) | exact q_B)) | refine q_U ?_ | refine q_O hq ?_)
   exact zo rfl ⟨zba hE, rfl⟩
 obtain rfl : k = l.length := by omega
 have hc : ∀ d ∈ l, (checkL d).2 = 0 := fun d hd => by
  obtain ⟨j, hj, rfl⟩ := List.getElem_of_mem hd
  exact hall j hj hj
 clear hall hk hkl
 repeat ((fail_if_success (refine stopR 10 ?_)); first
  | refine zn ?_
  | refine zp ?_
  | refine ze ?_
  | ((first | apply q_K rfl | apply q_X rfl); (first | exact q_H | fail))
  | refine zi ?_
  | refine zk ?_
  | refine q_j ?_
  | refine q_k ?_
  | refine q_a ?_
  | refine q_b ?_
  | refine A_ct rfl ?_
  | refine A_cf rfl ?_
  | refine zz ?_
  | refine zA ?_
  | refine q_l ?_
  | refine q_n ?_
  | refine q_h ?_
  | fail)
 refine zn ?_
 refine ze ?_
 refine zac 943 rfl rfl rfl rfl rfl ?_
 refine zac 944 rfl rfl rfl rfl rfl ?_
 refine zac 945 rfl rfl rfl rfl rfl ?_
 refine zac 946 rfl rfl rfl rfl rfl ?_
 repeat ((fail_if_success (refine stopR 11 ?_)); first
  | refine zn ?_
  | refine zp ?_
  | refine ze ?_
  | ((first | apply q_K rfl | apply q_X rfl); (first | exact q_H | fail))
  | refine zi ?_
  | refine zk ?_
  | refine q_j ?_
  | refine q_k ?_
  | refine q_a ?_
  | refine q_b ?_
  | refine A_ct rfl ?_
  | refine A_cf rfl ?_
  | refine zz ?_
  | refine zA ?_
  | refine q_l ?_
  | refine q_n ?_
  | refine q_h ?_
  | fail)
 refine zn ?_
 (first | refine ze ?_ | refine zg rfl mixed (by kernel_rfl) ?_)
 repeat' (first | ((first | apply q_K rfl | apply q_X rfl); (first | exact q_H | fail)) | refine q_d ?_ | refine q_a ?_ | refine q_b ?_ | refine q_e ?_ | refine q_f ?_ | refine q_g ?_ | ((fail_if_success (refine O_wt rfl ?_)); refine O_gs rfl rfl (fun _ => ?_) (fun _ => ?_)) | ((fail_if_success (refine Q_wt rfl ?_)); refine Q_gs rfl rfl (fun _ => ?_) (fun _ => ?_)) | refine zi ?_ | refine zk ?_ | refine q_j ?_ | fail)
 refine zf (z6 33 12 (t := 13) (id := 13) rfl rfl) ?_
 repeat (first | refine q_Z ?_ | ((first | apply q_K rfl | apply q_X rfl); (exact q_H)) | refine q_U ?_)
 refine zw (fun k : Nat => soE l k) (fun k => soH ((l.take k).map dnm) ((l.take k).flatMap alvL) ((l.take k).flatMap idsO) ((l.take k).flatMap idsB) ((l.take k).map formL)) (fun k => k ≤ l.length ∧ SnG (l.take k)) (fun k => l.length - k) 0 ⟨Nat.zero_le _, ⟨List.nodup_nil, List.nodup_nil, List.nodup_nil, List.nodup_nil⟩⟩ (q_S) ?_
 rintro k ⟨hkl, hG⟩
 try dsimp only
 by_cases hk : k < l.length
 ·have hw := zj zeq l k 12 hk (by decide)
  have hq := zj1 l[k] (hf _ (List.getElem_mem hk))
  have hB := zgA hk
  have hT2 := fun h => zfV h32 hc hk hG h
  have hil := (hf _ (List.getElem_mem hk)).n3
  have hol : l[k].osp.length * 48 ≤ 140737488351232 := (hf _ (List.getElem_mem hk)).ok.b10
  have hbl : l[k].bgp.length * 96 ≤ 140737488351232 := (hf _ (List.getElem_mem hk)).ok.b11
  have hgn := hG.n
  have hga := hG.a
  have hgo := hG.o
  have hgb := hG.b
  have eN : (l.take (k + 1)).map dnm = (l.take k).map dnm ++ [l[k].nm] := by rw [List.take_succ_eq_append_getElem hk, List.map_append]; rfl
  have eA := zaN alvL hk
  have eO := zaN idsO hk
  have eB := zaN idsB hk
  have eF : (l.take (k + 1)).map formL = (l.take k).map formL ++ [formL l[k]] := by rw [List.take_succ_eq_append_getElem hk, List.map_append]; rfl
  have eL : ((l.take k).map formL).length = k := by rw [List.length_map, List.length_take]; omega
  have lT : (l.take k).length ≤ 32 := by rw [List.length_take]; omega
  have lN : ((l.take k).map dnm).length ≤ 32 := by rw [List.length_map]; exact lT
  have lA := zcH alvL (B := 100000000000) (l.take k) fun d hd => Nat.le_trans (by unfold alvL; rw [List.length_map]; exact List.length_filter_le ..) (hf d (List.mem_of_mem_take hd)).n3
  have lO := zcH idsO (B := 3000000000000) (l.take k) fun d hd => by
   have : d.osp.length * 48 ≤ 140737488351232 := (hf d (List.mem_of_mem_take hd)).ok.b10
   unfold idsO; rw [List.length_map]; omega
  have lB := zcH idsB (B := 3000000000000) (l.take k) fun d hd => by
   have : d.bgp.length * 96 ≤ 140737488351232 := (hf d (List.mem_of_mem_take hd)).ok.b11
   unfold idsB; rw [List.length_map]; omega
  generalize (l.take k).map dnm = ns at *
  generalize (l.take k).flatMap alvL = as_ at *
  generalize (l.take k).flatMap idsO = os at *
  generalize (l.take k).flatMap idsB = bs at *
  generalize (l.take k).map formL = out at *
  generalize l[k] = d at *
  obtain ⟨f, hfm⟩ : ∃ f, formL d = f := ⟨_, rfl⟩
  rw [hfm] at hq eF
  clear hfm hG
  obtain ⟨cn, hcn⟩ : ∃ c, ns.count d.nm = c := ⟨_, rfl⟩
  have hcl : cn ≤ 32 := by rw [← hcn]; exact Nat.le_trans List.count_le_length lN
  have c0 : (aget (cntL ns) d.nm).getD 0 = cn := by rw [zaF]; exact hcn
  have c1 : (aget (cntL (ns ++ [d.nm])) d.nm).getD 0 = cn + 1 := by rw [zkN, hcn]
  have fN : decide (((cn + 1 : Nat) : Int) > 1) = !decide (ns ++ [d.nm]).Nodup := by
   have := zdJ (t := false) hcn (by rw [decide_eq_true hgn]; rfl)
   rwa [Bool.false_or] at this
  repeat ((fail_if_success (refine stopR 15 ?_)); first
   | refine zn ?_
   | refine zp ?_
   | refine ze ?_
   | ((first | apply q_K rfl | apply q_X rfl); (first | exact q_A | exact q_R (w := (by first | exact hw | rfl)) | exact q_B | fail))
   | refine zi ?_
   | refine zk ?_
   | refine q_j ?_
   | refine q_k ?_
   | refine q_a ?_
   | refine q_b ?_
   | refine A_ct rfl ?_
   | refine A_cf rfl ?_
   | refine zz ?_
   | refine zA ?_
   | refine q_l ?_
   | refine q_n ?_
   | refine q_h ?_
   | fail)
  refine zf (zq (e1 := (14, intA (k : Int)) :: (15, .ptr 15 0) :: soE l k) (h1 := soHd d ns as_ os bs out) ⟨rfl, rfl, rfl, rfl, rfl, rfl, rfl, rfl, rfl, rfl, trivial⟩ ⟨rfl, KC, KC, KC, KC, rfl, trivial⟩) ?_
  repeat ((fail_if_success (refine stopR 16 ?_)); first
   | refine zn ?_
   | refine zp ?_
   | refine ze ?_
   | ((first | apply q_K rfl | apply q_X rfl); (first | exact q_H | (exact zhV c0 za rfl rfl rfl zC rfl KC rfl rfl)))
   | refine zi ?_
   | refine zk ?_
   | refine q_j ?_
   | refine q_k ?_
   | refine q_a ?_
   | refine q_b ?_
   | refine A_ct rfl ?_
   | refine A_cf rfl ?_
   | refine zz ?_
   | refine zA ?_
   | refine q_l ?_
   | refine q_n ?_
   | refine q_h ?_
   | (refine zkt c0 za rfl rfl rfl rfl rfl rfl KC rfl rfl ?_))
  refine zf (zq (e1 := (14, intA (k : Int)) :: (15, .ptr 15 0) :: soE l k) (h1 := soHd d (ns ++ [d.nm]) as_ os bs out) ⟨rfl, rfl, rfl, rfl, rfl, rfl, rfl, rfl, rfl, rfl, trivial⟩ ⟨rfl, KC, KC, KC, KC, rfl, trivial⟩) ?_
  repeat ((fail_if_success (refine stopR 17 ?_)); first
   | refine zn ?_
   | refine zp ?_
   | refine ze ?_
   | ((first | apply q_K rfl | apply q_X rfl); (first | exact q_H | (first | exact zhV c1 za rfl rfl rfl zC rfl KC rfl rfl | exact q_13)))
   | refine zi ?_
   | refine zk ?_
   | refine q_j ?_
   | refine q_k ?_
   | refine q_a ?_
   | refine q_b ?_
   | refine A_ct rfl ?_
   | refine A_cf rfl ?_
   | refine zz ?_
   | refine zA ?_
   | refine q_l ?_
   | refine q_n ?_
   | refine q_h ?_
   | fail)
  refine zf (zq (e1 := soEd l k (!decide (ns ++ [d.nm]).Nodup)) (h1 := soHd d (ns ++ [d.nm]) as_ os bs out) ⟨rfl, rfl, congrArg (fun b => some (boolA b)) fN, rfl, rfl, rfl, rfl, rfl, rfl, rfl, rfl, trivial⟩ ⟨rfl, KC, KC, KC, KC, rfl, trivial⟩) ?_
  generalize (!decide (ns ++ [d.nm]).Nodup) = bN at *
  generalize ns ++ [d.nm] = ns1 at *
  clear c0 c1 fN hcn hcl
  repeat (first | refine q_Z ?_ | ((first | apply q_K rfl | apply q_X rfl); (exact q_H)) | refine q_U ?_)
  refine zw (fun j : Nat => (65, .d (.sl (d.ifs.flatMap ifxD) d.ifs.length)) :: (66, intA (d.ifs.length : Int)) :: (67, intA (j : Int)) :: soEd l k (bN || !decide (as_ ++ preA d j).Nodup)) (fun j => soHd d ns1 (as_ ++ preA d j) os bs out) (fun j => j ≤ d.ifs.length) (fun j => d.ifs.length - j) 0 (Nat.zero_le _) (zq ⟨rfl, rfl, rfl, rfl, rfl, congrArg (fun b => some (boolA b)) (by rw [show preA d 0 = [] from rfl, List.append_nil, decide_eq_true hga]; cases bN <;> rfl), rfl, rfl, rfl, rfl, rfl, rfl, rfl, rfl, trivial⟩ ⟨rfl, KC, (by rw [show preA d 0 = [] from rfl, List.append_nil]; exact KC), KC, KC, rfl, trivial⟩) ?_
  intro j hjl
  try dsimp only
  by_cases hj : j < d.ifs.length
  ·have hwj := zj za4 d.ifs j 11 hj (by decide)
   have hA := ziR d.ifs[j]
   cases hal : aliveB d.ifs[j] with
   | false =>
    rw [hal] at hA
    have eP := zjw hj hal
    repeat (first | refine q_Z ?_ | ((first | apply q_K rfl | apply q_X rfl); (first | exact q_A | exact q_R (w := (by first | exact hwj | rfl)) | exact q_B | (exact q_I j hj))) | refine q_U ?_ | refine q_O hA ?_)
    exact ⟨j + 1, by omega, by omega, by rw [eP]; exact zq ⟨rfl, rfl, rfl, rfl, rfl, rfl, rfl, rfl, rfl, rfl, rfl, rfl, rfl, rfl, trivial⟩ ⟨rfl, KC, KC, KC, KC, rfl, trivial⟩⟩
   | true =>
    rw [hal] at hA
    have eP : as_ ++ preA d (j + 1) = (as_ ++ preA d j) ++ [d.ifs[j].a] := by rw [zjv hj hal, List.append_assoc]
    have hpl : (preA d j).length ≤ d.ifs.length := by unfold preA; rw [List.length_map]; exact Nat.le_trans (List.length_filter_le ..) (by rw [List.length_take]; omega)
    have hL : (as_ ++ preA d j).length ≤ 33 * 100000000000 := by rw [List.length_append]; omega
    generalize as_ ++ preA d j = L at *
    generalize d.ifs[j] = x at *
    obtain ⟨c, hcc⟩ : ∃ c, L.count x.a = c := ⟨_, rfl⟩
    have hcl : c ≤ 33 * 100000000000 := by rw [← hcc]; exact Nat.le_trans List.count_le_length hL
    have c0 : (aget (cntI L) x.a).getD 0 = c := by rw [za7]; exact hcc
    have c1 : (aget (cntI (L ++ [x.a])) x.a).getD 0 = c + 1 := by rw [zhh, hcc]
    obtain ⟨b, hb⟩ : ∃ b, (bN || !decide L.Nodup) = b := ⟨_, rfl⟩
    rw [hb]
    cases b
    rotate_left
    ·
     repeat (first | refine q_Z ?_ | ((first | apply q_K rfl | apply q_X rfl); (first | exact q_A | exact q_R (w := (by first | exact hwj | rfl)) | exact q_B | (first | exact q_I j hj | exact zae c0 za rfl rfl rfl zC rfl KC rfl rfl | exact zae c1 za rfl rfl rfl zC rfl KC rfl rfl | exact q_13))) | refine q_U ?_ | (first | refine q_O hA ?_ | (refine zbd c0 za rfl rfl rfl rfl rfl rfl KC rfl rfl ?_)))
     refine ⟨j + 1, by omega, by omega, ?_⟩
     try dsimp only
     rw [eP, ← zeZ hcc hb]
     exact zq ⟨rfl, rfl, rfl, rfl, rfl, rfl, rfl, rfl, rfl, rfl, rfl, rfl, rfl, rfl, trivial⟩ ⟨rfl, KC, KC, KC, KC, rfl, trivial⟩
    ·
     repeat (first | refine q_Z ?_ | ((first | apply q_K rfl | apply q_X rfl); (first | exact q_A | exact q_R (w := (by first | exact hwj | rfl)) | exact q_B | (first | exact q_I j hj | exact zae c0 za rfl rfl rfl zC rfl KC rfl rfl | exact zae c1 za rfl rfl rfl zC rfl KC rfl rfl | exact q_13))) | refine q_U ?_ | (first | refine q_O hA ?_ | (refine zbd c0 za rfl rfl rfl rfl rfl rfl KC rfl rfl ?_)))
     refine ⟨j + 1, by omega, by omega, ?_⟩
     try dsimp only
     rw [eP, ← zdJ hcc hb]
     exact zq ⟨rfl, rfl, rfl, rfl, rfl, rfl, rfl, rfl, rfl, rfl, rfl, rfl, rfl, rfl, trivial⟩ ⟨rfl, KC, KC, KC, KC, rfl, trivial⟩
  obtain rfl : j = d.ifs.length := by omega
  rw [zgJ]
  obtain ⟨bA, hbA⟩ : ∃ b, (bN || !decide (as_ ++ alvL d).Nodup) = b := ⟨_, rfl⟩
  rw [hbA] at hB ⊢
  generalize as_ ++ alvL d = as1 at *
  clear hbA hjl hj
  repeat (first | refine q_Z ?_ | ((first | apply q_K rfl | apply q_X rfl); (exact q_H)) | refine q_U ?_)
  refine zw (fun j : Nat => (88, .d (.sl (d.osp.flatMap ospD) d.osp.length)) :: (89, intA (d.osp.length : Int)) :: (90, intA (j : Int)) :: soEd l k (bA || !decide (os ++ preO d j).Nodup)) (fun j => soHd d ns1 as1 (os ++ preO d j) bs out) (fun j => j ≤ d.osp.length) (fun j => d.osp.length - j) 0 (Nat.zero_le _) (zq ⟨rfl, rfl, rfl, rfl, rfl, congrArg (fun b => some (boolA b)) (by rw [show preO d 0 = [] from rfl, List.append_nil, decide_eq_true hgo]; cases bA <;> rfl), rfl, rfl, rfl, rfl, rfl, rfl, rfl, rfl, trivial⟩ ⟨rfl, KC, KC, (by rw [show preO d 0 = [] from rfl, List.append_nil]; exact KC), KC, rfl, trivial⟩) ?_
  intro j hjl
  try dsimp only
  by_cases hj : j < d.osp.length
  ·have hwj := zj zbp d.osp j 3 hj (by decide)
   have eP : os ++ preO d (j + 1) = (os ++ preO d j) ++ [d.osp[j].id_] := by rw [zjt hj, List.append_assoc]
   have hpl : (preO d j).length ≤ d.osp.length := by unfold preO; rw [List.length_map, List.length_take]; omega
   have hL : (os ++ preO d j).length ≤ 33 * 3000000000000 := by rw [List.length_append]; omega
   generalize os ++ preO d j = L at *
   generalize d.osp[j] = x at *
   obtain ⟨c, hcc⟩ : ∃ c, L.count x.id_ = c := ⟨_, rfl⟩
   have hcl : c ≤ 33 * 3000000000000 := by rw [← hcc]; exact Nat.le_trans List.count_le_length hL
   have c0 : (aget (cntI L) x.id_).getD 0 = c := by rw [za7]; exact hcc
   have c1 : (aget (cntI (L ++ [x.id_])) x.id_).getD 0 = c + 1 := by rw [zhh, hcc]
   obtain ⟨b, hb⟩ : ∃ b, (bA || !decide L.Nodup) = b := ⟨_, rfl⟩
   rw [hb]
   cases b
   rotate_left
   ·
    repeat (first | refine q_Z ?_ | ((first | apply q_K rfl | apply q_X rfl); (first | exact q_A | exact q_R (w := (by first | exact hwj | rfl)) | exact q_B | (first | exact q_I j hj | exact zae c0 za rfl rfl rfl zC rfl KC rfl rfl | exact zae c1 za rfl rfl rfl zC rfl KC rfl rfl | exact q_13))) | refine q_U ?_ | (first | (refine zbd c0 za rfl rfl rfl rfl rfl rfl KC rfl rfl ?_)))
    refine ⟨j + 1, by omega, by omega, ?_⟩
    try dsimp only
    rw [eP, ← zeZ hcc hb]
    exact zq ⟨rfl, rfl, rfl, rfl, rfl, rfl, rfl, rfl, rfl, rfl, rfl, rfl, rfl, rfl, trivial⟩ ⟨rfl, KC, KC, KC, KC, rfl, trivial⟩
   ·
    repeat (first | refine q_Z ?_ | ((first | apply q_K rfl | apply q_X rfl); (first | exact q_A | exact q_R (w := (by first | exact hwj | rfl)) | exact q_B | (first | exact q_I j hj | exact zae c0 za rfl rfl rfl zC rfl KC rfl rfl | exact zae c1 za rfl rfl rfl zC rfl KC rfl rfl | exact q_13))) | refine q_U ?_ | (first | (refine zbd c0 za rfl rfl rfl rfl rfl rfl KC rfl rfl ?_)))
    refine ⟨j + 1, by omega, by omega, ?_⟩
    try dsimp only
    rw [eP, ← zdJ hcc hb]
    exact zq ⟨rfl, rfl, rfl, rfl, rfl, rfl, rfl, rfl, rfl, rfl, rfl, rfl, rfl, rfl, trivial⟩ ⟨rfl, KC, KC, KC, KC, rfl, trivial⟩
  obtain rfl : j = d.osp.length := by omega
  rw [zgH]
  obtain ⟨bO, hbO⟩ : ∃ b, (bA || !decide (os ++ idsO d).Nodup) = b := ⟨_, rfl⟩
  rw [hbO] at hB ⊢
  generalize os ++ idsO d = os1 at *
  clear hbO hjl hj
  repeat (first | refine q_Z ?_ | ((first | apply q_K rfl | apply q_X rfl); (exact q_H)) | refine q_U ?_)
  refine zw (fun j : Nat => (109, .d (.sl (d.bgp.flatMap bgiD) d.bgp.length)) :: (110, intA (d.bgp.length : Int)) :: (111, intA (j : Int)) :: soEd l k (bO || !decide (bs ++ preB d j).Nodup)) (fun j => soHd d ns1 as1 os1 (bs ++ preB d j) out) (fun j => j ≤ d.bgp.length) (fun j => d.bgp.length - j) 0 (Nat.zero_le _) (zq ⟨rfl, rfl, rfl, rfl, rfl, congrArg (fun b => some (boolA b)) (by rw [show preB d 0 = [] from rfl, List.append_nil, decide_eq_true hgb]; cases bO <;> rfl), rfl, rfl, rfl, rfl, rfl, rfl, rfl, rfl, trivial⟩ ⟨rfl, KC, KC, KC, (by rw [show preB d 0 = [] from rfl, List.append_nil]; exact KC), rfl, trivial⟩) ?_
  intro j hjl
  try dsimp only
  by_cases hj : j < d.bgp.length
  ·have hwj := zj zbv d.bgp j 6 hj (by decide)
   have eP : bs ++ preB d (j + 1) = (bs ++ preB d j) ++ [d.bgp[j].id_] := by rw [zju hj, List.append_assoc]
   have hpl : (preB d j).length ≤ d.bgp.length := by unfold preB; rw [List.length_map, List.length_take]; omega
   have hL : (bs ++ preB d j).length ≤ 33 * 3000000000000 := by rw [List.length_append]; omega
   generalize bs ++ preB d j = L at *
   generalize d.bgp[j] = x at *
   obtain ⟨c, hcc⟩ : ∃ c, L.count x.id_ = c := ⟨_, rfl⟩
   have hcl : c ≤ 33 * 3000000000000 := by rw [← hcc]; exact Nat.le_trans List.count_le_length hL
   have c0 : (aget (cntI L) x.id_).getD 0 = c := by rw [za7]; exact hcc
   have c1 : (aget (cntI (L ++ [x.id_])) x.id_).getD 0 = c + 1 := by rw [zhh, hcc]
   obtain ⟨b, hb⟩ : ∃ b, (bO || !decide L.Nodup) = b := ⟨_, rfl⟩
   rw [hb]
   cases b
   rotate_left
   ·
    repeat (first | refine q_Z ?_ | ((first | apply q_K rfl | apply q_X rfl); (first | exact q_A | exact q_R (w := (by first | exact hwj | rfl)) | exact q_B | (first | exact q_I j hj | exact zae c0 za rfl rfl rfl zC rfl KC rfl rfl | exact zae c1 za rfl rfl rfl zC rfl KC rfl rfl | exact q_13))) | refine q_U ?_ | (first | (refine zbd c0 za rfl rfl rfl rfl rfl rfl KC rfl rfl ?_)))
    refine ⟨j + 1, by omega, by omega, ?_⟩
    try dsimp only
    rw [eP, ← zeZ hcc hb]
    exact zq ⟨rfl, rfl, rfl, rfl, rfl, rfl, rfl, rfl, rfl, rfl, rfl, rfl, rfl, rfl, trivial⟩ ⟨rfl, KC, KC, KC, KC, rfl, trivial⟩
   ·
    repeat (first | refine q_Z ?_ | ((first | apply q_K rfl | apply q_X rfl); (first | exact q_A | exact q_R (w := (by first | exact hwj | rfl)) | exact q_B | (first | exact q_I j hj | exact zae c0 za rfl rfl rfl zC rfl KC rfl rfl | exact zae c1 za rfl rfl rfl zC rfl KC rfl rfl | exact q_13))) | refine q_U ?_ | (first | (refine zbd c0 za rfl rfl rfl rfl rfl rfl KC rfl rfl ?_)))
    refine ⟨j + 1, by omega, by omega, ?_⟩
    try dsimp only
    rw [eP, ← zdJ hcc hb]
    exact zq ⟨rfl, rfl, rfl, rfl, rfl, rfl, rfl, rfl, rfl, rfl, rfl, rfl, rfl, rfl, trivial⟩ ⟨rfl, KC, KC, KC, KC, rfl, trivial⟩
  obtain rfl : j = d.bgp.length := by omega
  rw [zgI]
  obtain ⟨bT, hbT⟩ : ∃ b, (bO || !decide (bs ++ idsB d).Nodup) = b := ⟨_, rfl⟩
  rw [hbT] at hB ⊢
  generalize bs ++ idsB d = bs1 at *
  clear hbT hjl hj
  cases bT with
  | true =>
   repeat (first | refine q_Z ?_ | ((first | apply q_K rfl | apply q_X rfl); (exact q_H)) | refine q_U ?_)
   exact zo rfl ⟨zba (hT2 (by simpa using hB)), rfl⟩
  | false =>
   repeat (first | refine q_Z ?_ | ((first | apply q_K rfl | apply q_X rfl); (exact q_H)) | refine q_U ?_ | (first | refine q_O hq ?_ | refine zO (rid := 13) za rfl rfl rfl rfl rfl rfl rfl rfl rfl rfl rfl rfl (Src.row rfl) rfl (by omega) ?_))
   refine ⟨k + 1, ⟨by omega, by simpa using hB⟩, by omega, ?_⟩
   rw [eN, eA, eO, eB, eF]
   exact zq ⟨rfl, rfl, rfl, rfl, rfl, rfl, rfl, rfl, trivial⟩ ⟨KC, KC, KC, KC, zaH (by simp [eL]) (by rw [List.flatMap_append]; simp [dvcD]) rfl, trivial⟩
 obtain rfl : k = l.length := by omega
 rw [List.take_length] at hG ⊢
 have hs := zhy (l.map formL) (by rw [List.length_map]; omega)
 repeat ((fail_if_success (refine stopR 41 ?_)); first
  | refine zn ?_
  | refine zp ?_
  | refine ze ?_
  | ((first | apply q_K rfl | apply q_X rfl); (first | exact q_H | fail))
  | refine zi ?_
  | refine zk ?_
  | refine q_j ?_
  | refine q_k ?_
  | refine q_a ?_
  | refine q_b ?_
  | refine A_ct rfl ?_
  | refine A_cf rfl ?_
  | refine zz ?_
  | refine zA ?_
  | refine q_l ?_
  | refine q_n ?_
  | refine q_h ?_
  | (refine O_cU 13 hs rfl rfl rfl rfl rfl rfl rfl rfl ?_))
 refine zf (zy (id := 13) rfl) ?_
 repeat (first | refine q_Z ?_ | ((first | apply q_K rfl | apply q_X rfl); (exact q_H)) | refine q_U ?_)
 exact zo rfl ⟨(zcR ⟨h32, hc, hG⟩).symm, rfl⟩
end Go.Proofs.YtoahnbmedcjpeaaGreatDoor.Ab

/-
 Texts of a proof, one behind the other (part 25).
-/
import Derived.Test.YtoahnbmedcjpeaaGreatDoorMn3
import Derived.Test.YtoahnbmedcjpeaaGreatDoorMn23
set_option linter.unusedSimpArgs false
set_option linter.unusedVariables false
namespace Go.Proofs.YtoahnbmedcjpeaaGreatDoor
open Go.RowKit Go.Lib
theorem zfO {n lo hi : Int} (h : withB n lo hi = true) : lo ≤ n ∧ n ≤ hi := by
 unfold withB at h; simpa using h
theorem ziQ {p : Nat → Bool} {n k : Nat} (hk : k < n) (h : p k = false) : allK p n = false := by
 unfold allK
 rw [List.all_eq_false]
 exact ⟨k, List.mem_range.2 hk, by simp [h]⟩
def clsNum (c : Cls) : List Int := [c.tag, c.met, c.sMet, c.sPref, c.sTag]
def cls8 (last : Int) (c : Cls) : Bool := withB c.seq (last + 1) 65535 && decide (c.act ≤ 2) && ((c.thr == -1) || withB c.thr 1 4294967295)
def cls9 (last : Int) (c : Cls) : Bool := cls8 last c && allK (fun j => withB ((clsNum c).getD j 0) (-1) 16777216) 5
def clsO (last : Int) (c : Cls) : Bool := cls9 last c && decide ((c.sCom.length : Int) ≤ 64) && decide ((c.pre.length : Int) ≤ 64) && !(c.pre.any fun x => 0 == x) && ((c.jump == 0) || withB c.jump (c.seq + 1) 65535) && (!c.add || decide ((c.sCom.length : Int) > 0))
theorem zes {last : Int} {c : Cls} (h : cls9 last c = true) : last + 1 ≤ c.seq ∧ c.seq ≤ 65535 := by
 unfold cls9 cls8 at h
 simp only [Bool.and_eq_true] at h
 exact zfO h.1.1.1
theorem zhl {last : Int} {c : Cls} (h : clsO last c = true) : last + 1 ≤ c.seq ∧ c.seq ≤ 65535 := by
 unfold clsO at h
 simp only [Bool.and_eq_true] at h
 exact zes h.1.1.1.1.1
def lastK (l : List Cls) : Nat → Int
 | 0 => 0
 | k + 1 => match l[k]? with
  | some c => c.seq
  | none => 0
def clsK (l : List Cls) (k : Nat) : Bool := match l[k]? with
 | some c => clsO (lastK l k) c
 | none => true
def clsN (b : Bk) (c : Cls) : Bool := noneB b.p c.pfx && noneB b.c c.com
def clsP (b : Bk) (l : List Cls) : Bool × Bool := if decide ((l.length : Int) > 256) then (false, true) else if allK (clsK l) l.length then (true, l.all (clsN b)) else (false, true)
namespace Ab
set_option maxRecDepth 100000
def i1D (x : Int) : List Dat := [iD x]
theorem ziv (x : Int) : (i1D x).length = 1 := rfl
attribute [local irreducible] AWp AOps AQ AYield AEff ACall AWk AAny AAt AThen AIn APost NoPanic
theorem zkF (L : List Int) (v : Int) (hn : L.length ≤ 140737488355328) : ACall Tryz.prog 246 [usA L, u32A v] [] (Just (intA (idxOf (fun x => v == x) L))) := by
 refine zc za Tryz.func246 rfl Tryz.ntmps246 (congrArg Array.toList Tryz.results246) (by kernel_rfl) rfl ?_
 repeat (first | refine q_Z ?_ | ((first | apply q_K rfl | apply q_X rfl); (exact q_H)) | refine q_U ?_)
 refine zw (fun k : Nat => [(0, usA L), (1, u32A v), (7, intA (L.length : Int)), (8, intA (k : Int))]) (fun _ => []) (fun k => k ≤ L.length ∧ ∀ j (hj : j < L.length), j < k → (v == L[j]) = false) (fun k => L.length - k) 0 ⟨Nat.zero_le _, fun j _ h => absurd h (Nat.not_lt_zero j)⟩ (q_S) ?_
 rintro k ⟨hk, hall⟩
 try dsimp only
 by_cases hkL : k < L.length
 ·have hw := zj zfl L k 1 hkL (by decide)
  by_cases hp : v = L[k]
  ·
   repeat (first | refine q_Z ?_ | ((first | apply q_K rfl | apply q_X rfl); (first | exact q_A | exact q_R (w := hw) | exact q_B)) | refine q_U ?_)
   refine zo rfl ⟨?_, rfl⟩
   rw [zY _ L k hkL (fun j hj => hall j (by omega) hj) (by simpa using hp)]
  ·
   repeat (first | refine q_Z ?_ | ((first | apply q_K rfl | apply q_X rfl); (first | exact q_A | exact q_R (w := hw) | exact q_B)) | refine q_U ?_)
   refine ⟨k + 1, ⟨by omega, fun j hj h => ?_⟩, by omega, q_S⟩
   by_cases hjk : j = k
   ·subst hjk; simpa using hp
   ·exact hall j hj (by omega)
 ·
  repeat (first | refine q_Z ?_ | ((first | apply q_K rfl | apply q_X rfl); (exact q_H)) | refine q_U ?_)
  refine zo rfl ⟨?_, rfl⟩
  rw [zN _ L fun x hx => by
   obtain ⟨j, hj, rfl⟩ := List.mem_iff_getElem.1 hx
   exact hall j hj (by omega)]; rfl
theorem ziH (L : List Int) (v : Int) (hn : L.length ≤ 140737488355328) : ACall Tryz.prog 203 [usA L, u32A v] [] (Just (boolA (L.any fun x => v == x))) := by
 have hi := zkF L v hn
 rw [← zbJ]
 obtain ⟨i, hii⟩ : ∃ i, idxOf (fun x => v == x) L = i := ⟨_, rfl⟩
 rw [hii] at hi ⊢
 refine zc za Tryz.func203 rfl Tryz.ntmps203 (congrArg Array.toList Tryz.results203) (by kernel_rfl) rfl ?_
 repeat (first | refine q_Z ?_ | ((first | apply q_K rfl | apply q_X rfl); (exact q_H)) | refine q_U ?_ | refine q_O hi ?_)
 exact zo rfl ⟨rfl, rfl⟩
attribute [local irreducible] noneB withB
set_option maxHeartbeats 32000000 in
theorem zgd (b : Bk) (l : List Cls) (hn : l.length ≤ 140737488355328) (hp : ∀ c ∈ l, c.pre.length ≤ 140737488355328) : ACall Tryz.prog 136 [bkA, .d (.sl (l.flatMap clsD) l.length)] (bkH b) (fun c h => c = .tup [boolA (clsP b l).1, boolA (clsP b l).2] ∧ h = bkH b) := by
 refine zc za Tryz.func136 rfl Tryz.ntmps136 (congrArg Array.toList Tryz.results136) (by kernel_rfl) rfl ?_
 refine zF [(1, .d (.sl (l.flatMap clsD) l.length)), (2, .ptr 2 0)] ((2, .var bkM) :: bkH b) ?_ ?_
 ·
  (first | refine ze ?_ | refine zg rfl mixed (by kernel_rfl) ?_)
  repeat' (first | ((first | apply q_K rfl | apply q_X rfl); (first | exact q_H | fail)) | refine q_d ?_ | refine q_a ?_ | refine q_b ?_ | refine q_e ?_ | refine q_f ?_ | refine q_g ?_ | ((fail_if_success (refine O_wt rfl ?_)); refine O_gs rfl rfl (fun _ => ?_) (fun _ => ?_)) | ((fail_if_success (refine Q_wt rfl ?_)); refine Q_gs rfl rfl (fun _ => ?_) (fun _ => ?_)) | refine zi ?_ | refine zk ?_ | refine q_j ?_ | fail)
  exact zq ⟨rfl, rfl, trivial⟩ ⟨rfl, kc1 _ _, kc1 _ _, kc1 _ _, kc1 _ _, kc1 _ _, trivial⟩
 unfold clsP
 by_cases h0 : (l.length : Int) > 256
 ·rw [decide_eq_true h0]
  repeat (first | refine q_Y ?_ | ((first | apply q_K rfl | apply q_X rfl); (exact q_H)) | refine q_U ?_)
  exact zt (h2 := bkH b) AWk.refl rfl ⟨rfl, rfl, rfl, rfl, rfl, trivial⟩ ⟨rfl, rfl⟩
 rw [decide_eq_false h0]
 simp only [Bool.false_eq_true, if_false]
 repeat (first | refine q_Y ?_ | ((first | apply q_K rfl | apply q_X rfl); (exact q_H)) | refine q_U ?_)
 refine zw (fun k : Nat => [(2, .ptr 2 0), (4, boolA true), (5, boolA ((l.take k).all (clsN b))), (6, intA (lastK l k)), (14, .d (.sl (l.flatMap clsD) l.length)), (15, intA (l.length : Int)), (16, intA (k : Int))]) (fun k => (2, .var bkM) :: bkH b) (fun k => k ≤ l.length ∧ allK (clsK l) k = true ∧ 0 ≤ lastK l k ∧ lastK l k ≤ 65535) (fun k => l.length - k) 0 ⟨Nat.zero_le _, rfl, Int.le_refl _, (by show (0 : Int) ≤ 65535; decide)⟩ (q_S) ?_
 rintro k ⟨hk, hall, hl0, hl1⟩
 try dsimp only
 by_cases hkl : k < l.length
 ·have hw := zj zer l k 15 hkl (by decide)
  have hA := zey (clsN b) l hkl
  have hK : clsK l k = clsO (lastK l k) l[k] := by unfold clsK; rw [List.getElem?_eq_getElem hkl]
  have hL : lastK l (k + 1) = l[k].seq := by show (match l[k]? with | some c => c.seq | none => 0) = _; rw [List.getElem?_eq_getElem hkl]
  have hpre := hp _ (List.getElem_mem hkl)
  have hS : allK (clsK l) (k + 1) = clsK l k := by rw [za9, hall, Bool.true_and]
  have hbad := ziQ (p := clsK l) hkl
  obtain ⟨c, hc⟩ : ∃ c, l[k] = c := ⟨_, rfl⟩
  rw [hc] at hw hA hK hL hpre
  obtain ⟨last, hlast⟩ : ∃ n, lastK l k = n := ⟨_, rfl⟩
  rw [hlast] at hl0 hl1 hK ⊢
  obtain ⟨al, hal⟩ : ∃ a, (l.take k).all (clsN b) = a := ⟨_, rfl⟩
  rw [hal] at hA ⊢
  rw [hK] at hS hbad
  clear hc hlast hal hK hp
  have w1 := zam c.seq (last + 1) 65535
  have w2 := zam c.thr 1 4294967295
  have hcu := ziH c.pre 0 hpre
  refine zn ?_
  (first | refine ze ?_ | refine zg rfl mixed (by kernel_rfl) ?_)
  repeat' (first | ((first | apply q_K rfl | apply q_X rfl); (first | exact q_H | fail)) | refine q_d ?_ | refine q_a ?_ | refine q_b ?_ | refine q_e ?_ | refine q_f ?_ | refine q_g ?_ | ((fail_if_success (refine O_wt rfl ?_)); refine O_gs rfl rfl (fun _ => ?_) (fun _ => ?_)) | ((fail_if_success (refine Q_wt rfl ?_)); refine Q_gs rfl rfl (fun _ => ?_) (fun _ => ?_)) | refine zi ?_ | refine zk ?_ | refine q_j ?_ | fail)
  refine zn ?_
  refine A_ct rfl ?_
  refine zz ?_
  refine q_j ?_
  refine zn ?_
  refine zp ?_
  refine zF [(2, .ptr 2 0), (4, boolA true), (5, boolA al), (6, intA last), (8, .ptr 8 0), (14, .d (.sl (l.flatMap clsD) l.length)), (15, intA (l.length : Int)), (16, intA (k : Int))] ((8, .var ((clsD c).map .d)) :: (2, .var bkM) :: bkH b) ?_ ?_
  ·
   (first | refine ze ?_ | refine zg rfl mixed (by kernel_rfl) ?_)
   repeat' (first | ((first | apply q_K rfl | apply q_X rfl); (first | exact q_A | exact q_R (w := (by first | exact hw | rfl)) | exact q_B | fail)) | refine q_d ?_ | refine q_a ?_ | refine q_b ?_ | refine q_e ?_ | refine q_f ?_ | refine q_g ?_ | ((fail_if_success (refine O_wt rfl ?_)); refine O_gs rfl rfl (fun _ => ?_) (fun _ => ?_)) | ((fail_if_success (refine Q_wt rfl ?_)); refine Q_gs rfl rfl (fun _ => ?_) (fun _ => ?_)) | refine zi ?_ | refine zk ?_ | refine q_j ?_ | fail)
   exact zq ⟨rfl, rfl, rfl, rfl, rfl, rfl, rfl, rfl, trivial⟩ ⟨rfl, rfl, kc1 _ _, kc1 _ _, kc1 _ _, kc1 _ _, kc1 _ _, trivial⟩
  refine zF [(2, .ptr 2 0), (4, boolA (cls8 last c)), (5, boolA al), (8, .ptr 8 0), (14, .d (.sl (l.flatMap clsD) l.length)), (15, intA (l.length : Int)), (16, intA (k : Int))] ((8, .var ((clsD c).map .d)) :: (2, .var bkM) :: bkH b) ?_ ?_
  ·
   (first | refine ze ?_ | refine zg rfl mixed (by kernel_rfl) ?_)
   repeat' (first | ((first | apply q_K rfl | apply q_X rfl); (first | exact q_H | fail)) | refine q_d ?_ | refine q_a ?_ | refine q_b ?_ | refine q_e ?_ | refine q_f ?_ | refine q_g ?_ | ((fail_if_success (refine O_wt rfl ?_)); refine O_gs rfl rfl (fun _ => ?_) (fun _ => ?_)) | ((fail_if_success (refine Q_wt rfl ?_)); refine Q_gs rfl rfl (fun _ => ?_) (fun _ => ?_)) | refine zi ?_ | refine zk ?_ | refine q_j ?_ | (first | refine q_O w1 ?_ | refine q_O w2 ?_))
   all_goals exact zq ⟨rfl, congrArg (fun b => some (boolA b)) (by simp only [cls8, *, Bool.true_and, Bool.false_and, Bool.true_or, Bool.false_or, Bool.and_true]), rfl, rfl, rfl, rfl, rfl, trivial⟩ ⟨rfl, rfl, rfl, rfl, rfl, rfl, rfl, trivial⟩
  refine zF [(2, .ptr 2 0), (4, boolA (cls9 last c)), (5, boolA al), (8, .ptr 8 0), (14, .d (.sl (l.flatMap clsD) l.length)), (15, intA (l.length : Int)), (16, intA (k : Int))] ((8, .var ((clsD c).map .d)) :: (2, .var bkM) :: bkH b) ?_ ?_
  ·
   repeat (first | refine q_Y ?_ | ((first | apply q_K rfl | apply q_X rfl); (exact q_H)) | refine q_U ?_)
   refine zw (fun j : Nat => [(2, .ptr 2 0), (4, boolA (cls8 last c && allK (fun j => withB ((clsNum c).getD j 0) (-1) 16777216) j)), (5, boolA al), (8, .ptr 8 0), (14, .d (.sl (l.flatMap clsD) l.length)), (15, intA (l.length : Int)), (16, intA (k : Int)), (53, .row 53), (54, intA 5), (55, intA (j : Int))]) (fun j => (53, .row 3 1 5 ((clsNum c).flatMap i1D)) :: (8, .var ((clsD c).map .d)) :: (2, .var bkM) :: bkH b) (fun j => j ≤ 5) (fun j => 5 - j) 0 (Nat.zero_le _) (zq ⟨rfl, by rw [show allK (fun j => withB ((clsNum c).getD j 0) (-1) 16777216) 0 = true from rfl, Bool.and_true]; rfl, rfl, rfl, rfl, rfl, rfl, rfl, rfl, rfl, trivial⟩ ⟨rfl, rfl, rfl, kc1 _ _, kc1 _ _, kc1 _ _, kc1 _ _, kc1 _ _, trivial⟩) ?_
   intro j hj
   try dsimp only
   by_cases hj5 : j < 5
   ·have hwj := zj ziv (clsNum c) j 1 hj5 (by decide)
    have hg : (clsNum c).getD j 0 = (clsNum c)[j] := by rw [List.getD_eq_getElem?_getD, List.getElem?_eq_getElem hj5]; rfl
    have hnext := za9 (fun j => withB ((clsNum c).getD j 0) (-1) 16777216) j
    rw [hg] at hnext
    obtain ⟨x, hx⟩ : ∃ x, (clsNum c)[j] = x := ⟨_, rfl⟩
    rw [hx] at hwj hnext
    have wx := zam x (-1) 16777216
    obtain ⟨o8, e8⟩ : ∃ o, cls8 last c = o := ⟨_, rfl⟩
    rw [e8]
    obtain ⟨oj, ej⟩ : ∃ o, (o8 && allK (fun j => withB ((clsNum c).getD j 0) (-1) 16777216) j) = o := ⟨_, rfl⟩
    have hn2 : (o8 && allK (fun j => withB ((clsNum c).getD j 0) (-1) 16777216) (j + 1)) = (oj && withB x (-1) 16777216) := by rw [hnext, ← ej, Bool.and_assoc]
    rw [ej]
    repeat' (first | refine zn ?_ | refine zp ?_ | refine ze ?_ | refine zg rfl mixed (by kernel_rfl) ?_ | ((first | apply q_K rfl | apply q_X rfl); (first | exact q_H | (exact zdR za rfl rfl rfl rfl rfl rfl hwj rfl rfl))) | refine zi ?_ | refine zk ?_ | refine q_j ?_ | refine q_k ?_ | refine q_d ?_ | refine q_a ?_ | refine q_b ?_ | refine q_e ?_ | refine q_f ?_ | refine q_g ?_ | ((fail_if_success (refine O_wt rfl ?_)); refine O_gs rfl rfl (fun _ => ?_) (fun _ => ?_)) | ((fail_if_success (refine Q_wt rfl ?_)); refine Q_gs rfl rfl (fun _ => ?_) (fun _ => ?_)) | refine A_ct rfl ?_ | refine A_cf rfl ?_ | refine zU rfl (fun _ => ?_) (fun _ => ?_) | refine zz ?_ | refine zA ?_ | refine zS ?_ | refine q_l ?_ | refine q_m ?_ | refine q_n ?_ | refine q_h ?_ | refine q_o ?_ | refine q_O wx ?_)
    all_goals exact ⟨j + 1, by omega, by omega, zq ⟨rfl, congrArg (fun b => some (boolA b)) (by rw [hn2]; simp only [*, Bool.true_and, Bool.false_and]), rfl, rfl, rfl, rfl, rfl, rfl, rfl, rfl, trivial⟩ ⟨rfl, rfl, rfl, rfl, rfl, rfl, rfl, rfl, trivial⟩⟩
   ·obtain rfl : j = 5 := by omega
    repeat (first | refine q_Y ?_ | ((first | apply q_K rfl | apply q_X rfl); (exact q_H)) | refine q_U ?_)
    exact q_S
  have hsq9 := zes (last := last) (c := c)
  have hsqO := zhl (last := last) (c := c)
  obtain ⟨o14, h14⟩ : ∃ o, clsO last c = o := ⟨_, rfl⟩
  rw [h14] at hS hbad hsqO
  unfold clsO at h14
  obtain ⟨o9, h9⟩ : ∃ o, cls9 last c = o := ⟨_, rfl⟩
  rw [h9] at hsq9 h14 ⊢
  clear h9 w1 w2
  refine zF [(2, .ptr 2 0), (4, boolA o14), (5, boolA al), (8, .ptr 8 0), (14, .d (.sl (l.flatMap clsD) l.length)), (15, intA (l.length : Int)), (16, intA (k : Int))] ((8, .var ((clsD c).map .d)) :: (2, .var bkM) :: bkH b) ?_ ?_
  ·cases o9 with
   | false =>
    (first | refine ze ?_ | refine zg rfl mixed (by kernel_rfl) ?_)
    repeat' (first | ((first | apply q_K rfl | apply q_X rfl); (first | exact q_H | fail)) | refine q_d ?_ | refine q_a ?_ | refine q_b ?_ | refine q_e ?_ | refine q_f ?_ | refine q_g ?_ | ((fail_if_success (refine O_wt rfl ?_)); refine O_gs rfl rfl (fun _ => ?_) (fun _ => ?_)) | ((fail_if_success (refine Q_wt rfl ?_)); refine Q_gs rfl rfl (fun _ => ?_) (fun _ => ?_)) | refine zi ?_ | refine zk ?_ | refine q_j ?_ | fail)
    exact zq ⟨rfl, congrArg (fun b => some (boolA b)) (by rw [← h14]; simp only [Bool.false_and]), rfl, rfl, rfl, rfl, rfl, trivial⟩ ⟨rfl, rfl, rfl, rfl, rfl, rfl, rfl, trivial⟩
   | true =>
    have hsq := hsq9 rfl
    have w3 := zam c.jump (c.seq + 1) 65535
    (first | refine ze ?_ | refine zg rfl mixed (by kernel_rfl) ?_)
    repeat' (first | ((first | apply q_K rfl | apply q_X rfl); (first | exact q_H | fail)) | refine q_d ?_ | refine q_a ?_ | refine q_b ?_ | refine q_e ?_ | refine q_f ?_ | refine q_g ?_ | ((fail_if_success (refine O_wt rfl ?_)); refine O_gs rfl rfl (fun _ => ?_) (fun _ => ?_)) | ((fail_if_success (refine Q_wt rfl ?_)); refine Q_gs rfl rfl (fun _ => ?_) (fun _ => ?_)) | refine zi ?_ | refine zk ?_ | refine q_j ?_ | (first | refine q_O hcu ?_ | refine q_O w3 ?_))
    all_goals exact zq ⟨rfl, congrArg (fun b => some (boolA b)) (by rw [← h14]; simp only [*, Bool.true_and, Bool.false_and, Bool.and_true, Bool.true_or, Bool.false_or, Bool.not_true, Bool.not_false]), rfl, rfl, rfl, rfl, rfl, trivial⟩ ⟨rfl, rfl, rfl, rfl, rfl, rfl, rfl, trivial⟩
  clear h14
  cases o14 with
  | false =>
   repeat (first | refine q_Y ?_ | ((first | apply q_K rfl | apply q_X rfl); (exact q_H)) | refine q_U ?_)
   exact zt (h2 := bkH b) AWk.refl rfl ⟨rfl, rfl, rfl, rfl, rfl, trivial⟩ ⟨by rw [hbad rfl]; rfl, rfl⟩
  | true =>
   have hsq := hsqO rfl
   repeat' (first | refine zn ?_ | refine zp ?_ | refine ze ?_ | refine zg rfl mixed (by kernel_rfl) ?_ | ((first | apply q_K rfl | apply q_X rfl); (first | exact q_H | fail)) | refine zi ?_ | refine zk ?_ | refine q_j ?_ | refine q_k ?_ | refine q_d ?_ | refine q_a ?_ | refine q_b ?_ | refine q_e ?_ | refine q_f ?_ | refine q_g ?_ | ((fail_if_success (refine O_wt rfl ?_)); refine O_gs rfl rfl (fun _ => ?_) (fun _ => ?_)) | ((fail_if_success (refine Q_wt rfl ?_)); refine Q_gs rfl rfl (fun _ => ?_) (fun _ => ?_)) | refine A_ct rfl ?_ | refine A_cf rfl ?_ | refine zU rfl (fun _ => ?_) (fun _ => ?_) | refine zz ?_ | refine zA ?_ | refine zS ?_ | refine q_l ?_ | refine q_m ?_ | refine q_n ?_ | refine q_h ?_ | refine q_o ?_ | (first | refine zbx rfl rfl rfl rfl rfl rfl ?_))
   all_goals exact ⟨k + 1, ⟨by omega, hS, by rw [hL]; omega, by rw [hL]; omega⟩, by omega, zq ⟨rfl, rfl, congrArg (fun b => some (boolA b)) (by rw [hA]; simp only [clsN, *, Bool.true_and, Bool.false_and]), by rw [hL]; rfl, rfl, rfl, rfl, trivial⟩ ⟨rfl, rfl, rfl, rfl, rfl, rfl, trivial⟩⟩
 ·obtain rfl : k = l.length := by omega
  rw [hall]
  simp only [if_true]
  rw [List.take_length]
  repeat (first | refine q_Y ?_ | ((first | apply q_K rfl | apply q_X rfl); (exact q_H)) | refine q_U ?_)
  exact zt (h2 := bkH b) AWk.refl rfl ⟨rfl, rfl, rfl, rfl, rfl, trivial⟩ ⟨rfl, rfl⟩
end Ab
end Go.Proofs.YtoahnbmedcjpeaaGreatDoor

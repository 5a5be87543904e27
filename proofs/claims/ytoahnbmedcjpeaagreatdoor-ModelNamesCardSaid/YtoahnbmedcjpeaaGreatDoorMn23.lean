/-
 Texts of a proof, one behind the other (part 24).
-/
import Derived.Test.YtoahnbmedcjpeaaGreatDoorMn3
import Derived.Test.YtoahnbmedcjpeaaGreatDoorMn22
set_option linter.unusedSimpArgs false
set_option linter.unusedVariables false
namespace Go.Proofs.YtoahnbmedcjpeaaGreatDoor
open Go.RowKit Go.Lib
def allK (p : Nat → Bool) (n : Nat) : Bool := (List.range n).all p
theorem za9 (p : Nat → Bool) (n : Nat) : allK p (n + 1) = (allK p n && p n) := by
 unfold allK; rw [List.range_succ, List.all_append]; simp
def cntI (l : List Int) : List (Int × Nat) := l.foldl (fun m x => aput m x ((aget m x).getD 0 + 1)) []
theorem zcs (l : List Int) (x : Int) : cntI (l ++ [x]) = aput (cntI l) x ((aget (cntI l) x).getD 0 + 1) := by
 unfold cntI; rw [List.foldl_append]; rfl
theorem zbc (l : List Int) : ((cntI l).map (·.1)).Nodup := by
 refine zb0 (p := fun l => ((cntI l).map (·.1)).Nodup) (by simp [cntI]) (fun l x ih => ?_) l
 rw [zcs]; exact zaV ih
theorem za7 (l : List Int) (s : Int) : (aget (cntI l) s).getD 0 = l.count s := by
 refine zb0 (p := fun l => (aget (cntI l) s).getD 0 = l.count s) (by simp [cntI, aget, mget]) (fun l x ih => ?_) l
 rw [zcs, zdv (zbc l), List.count_append]
 by_cases h : s = x
 ·subst h; rw [if_pos rfl, ih]; simp
 ·rw [if_neg h, ih, List.count_singleton, if_neg (by simpa using fun e => h (Eq.symm e))]
  omega
def netK (l : List Pfx) (k : Nat) : Bool := match l[k]? with
 | some p => (chk p == 0) && (idxOf (fun y => p == y) l == (k : Int))
 | none => true
def perK (l : List Per) (k : Nat) : Bool := match l[k]? with
 | some p => (p.a != 0) && (p.as_ != 0) && (((((l.map (·.a)).take (k + 1)).count p.a : Nat) : Int) == 1)
 | none => true
def pnmK (b : Bk) (l : List Per) (k : Nat) : Bool := match l[k]? with
 | some p => noneB b.o p.pin && noneB b.o p.pout
 | none => true
def bgiO (b : Bk) (l : List Bgi) (i : Nat) (x : Bgi) : Bool := (redsP b 7 false x.fr).1 && (x.as_ != 0) && (x.id_ != 0) && Ab.fstB (fun y : Bgi => y.vrf) l i && decide ((x.nets.length : Int) ≤ 256) && decide ((x.ps.length : Int) ≤ 256)
def bgiF (b : Bk) (l : List Bgi) (i : Nat) (x : Bgi) : Int := failP ((bgiO b l i x && allK (netK x.nets) x.nets.length) && allK (perK x.ps) x.ps.length) (((redsP b 7 false x.fr).2 && allK (pnmK b x.ps) x.ps.length) && noneB b.v x.vrf)
namespace Ab
set_option maxRecDepth 100000
def cntIB (l : List Int) : ABlk := .map (ents (fun s : Int => u32A s) (fun n : Nat => natA' n) (cntI l))
theorem zbU (i : Nat) (l : List Int) : killB i (cntIB l) = cntIB l := by
 show ABlk.map _ = ABlk.map _
 congr 1
 unfold ents
 rw [List.map_map]
 rfl
theorem ki1 (i : Nat) (l : List Int) : some (killB i (cntIB l)) = some (cntIB l) := by rw [zbU]
section
variable {P : Program} {nt : Nat} {Q : Post} {e : Env} {h : Heap} {ops : Array Oper} {o : Oper} {rest : List Oper} {T : List Nat} {tab : TTab}
theorem zkn {t K E id : Nat} {x y : Operand} {s : Int} {l : List Int} (TO : TabOk P tab) (ho : o.op = .lookup t x y false) (ht : tmap tab t = some (K, E)) (hK : tint tab K = some .u32) (hz : ∀ W, (zeroValue E).run P W = .ok (.int .i64 0) W) (hx : aev e x = some (.mp id)) (hb : look h id = some (cntIB l)) (hT : T.contains id = false) (hy : aev e y = some (u32A s)) :
  AYield P T e h o (natA' ((aget (cntI l) s).getD 0)) := by
 cases hg : aget (cntI l) s with
 | none => exact zjl (zv := .int .i64 0) (natA' 0) (fun w F ι => zd4 0 w F ι) (intKey (zaZ TO hK)) (fun _ => rfl) hz trivial (fun _ _ => trivial) (zbc l) hg TO ho ht hx hb hT hy
 | some z => exact zjk (zv := .int .i64 0) (intKey (zaZ TO hK)) (fun _ => rfl) hz trivial (fun _ _ => trivial) (zbc l) hg TO ho ht hx hb hT hy
theorem zks {t K E id : Nat} {x y z : Operand} {s : Int} {l : List Int} (TO : TabOk P tab) (hw : awant ops e o = some true) (hdst : o.dst = none) (ho : o.op = .mapUpdate t x y z) (ht : tmap tab t = some (K, E)) (hK : tint tab K = some .u32) (hx : aev e x = some (.mp id)) (hb : look h id = some (cntIB l)) (hy : aev e y = some (u32A s)) (hq : aev e z = some (natA' ((aget (cntI l) s).getD 0 + 1)))
  (HK : AOps P nt ops Q rest e ((id, cntIB (l ++ [s])) :: h)) : AOps P nt ops Q (o :: rest) e h := by
 unfold cntIB at HK
 rw [zcs] at HK
 exact zjn (intKey (zaZ TO hK)) (fun _ => rfl) (fun k w F ι => .d _ _ (.sc _ rfl)) trivial (fun _ _ => trivial) (zbc l) TO hw hdst ho ht hx hb hy hq HK
theorem zae {t K E id n : Nat} {x y : Operand} {s : Int} {l : List Int} (hn : (aget (cntI l) s).getD 0 = n) (TO : TabOk P tab) (ho : o.op = .lookup t x y false) (ht : tmap tab t = some (K, E)) (hK : tint tab K = some .u32) (hz : ∀ W, (zeroValue E).run P W = .ok (.int .i64 0) W) (hx : aev e x = some (.mp id)) (hb : look h id = some (cntIB l)) (hT : T.contains id = false) (hy : aev e y = some (u32A s)) :
  AYield P T e h o (natA' n) := by
 subst hn; exact zkn TO ho ht hK hz hx hb hT hy
theorem zbd {t K E id n : Nat} {x y z : Operand} {s : Int} {l : List Int} (hn : (aget (cntI l) s).getD 0 = n) (TO : TabOk P tab) (hw : awant ops e o = some true) (hdst : o.dst = none) (ho : o.op = .mapUpdate t x y z) (ht : tmap tab t = some (K, E)) (hK : tint tab K = some .u32) (hx : aev e x = some (.mp id)) (hb : look h id = some (cntIB l)) (hy : aev e y = some (u32A s)) (hq : aev e z = some (natA' (n + 1)))
  (HK : AOps P nt ops Q rest e ((id, cntIB (l ++ [s])) :: h)) : AOps P nt ops Q (o :: rest) e h := by
 subst hn; exact zks TO hw hdst ho ht hK hx hb hy hq HK
end
attribute [local irreducible] AWp AOps AQ AYield AEff ACall AWk AAny AAt AThen AIn APost NoPanic
set_option maxHeartbeats 4000000 in
theorem zit (L : List Pfx) (v : Pfx) (hn : L.length ≤ 140737488355328) : ACall Tryz.prog 211 [.d (.sl (L.flatMap pfxD) L.length), pfxA v] [] (Just (intA (idxOf (fun y => v == y) L))) := by
 refine zc za Tryz.func211 rfl Tryz.ntmps211 (congrArg Array.toList Tryz.results211) (by kernel_rfl) rfl ?_
 repeat (first | refine q_Y ?_ | ((first | apply q_K rfl | apply q_X rfl); (exact q_H)) | refine q_U ?_)
 refine zw (fun k : Nat => [(0, .d (.sl (L.flatMap pfxD) L.length)), (3, .ptr 3 0), (7, intA (L.length : Int)), (8, intA (k : Int))]) (fun _ => [(3, .var [.d (.sc (.int .u32 v.a)), .d (.sc (.int .i64 v.b))])]) (fun k => k ≤ L.length ∧ ∀ j (hj : j < L.length), j < k → (v == L[j]) = false) (fun k => L.length - k) 0 ⟨Nat.zero_le _, fun j _ h => absurd h (Nat.not_lt_zero j)⟩ (q_S) ?_
 rintro k ⟨hk, hall⟩
 try dsimp only
 by_cases hkL : k < L.length
 ·have hw := zj zcW L k 2 hkL (by decide)
  cases hp : (v == L[k]) with
  | true =>
   repeat (first | refine q_Y ?_ | ((first | apply q_K rfl | apply q_X rfl); (first | exact q_A | exact q_R (w := (by first | exact hw | rfl)) | exact q_B | (first | exact Y_eq za zfp rfl rfl rfl rfl rfl rfl rfl rfl rfl (by kernel_rfl) (pfxEq v L[k]) rfl))) | refine q_U ?_ | (refine zfM rfl hp ?_))
   refine zo rfl ⟨?_, rfl⟩
   rw [zY _ L k hkL (fun j hj => hall j (by omega) hj) hp]
  | false =>
   repeat (first | refine q_Y ?_ | ((first | apply q_K rfl | apply q_X rfl); (first | exact q_A | exact q_R (w := (by first | exact hw | rfl)) | exact q_B | (first | exact Y_eq za zfp rfl rfl rfl rfl rfl rfl rfl rfl rfl (by kernel_rfl) (pfxEq v L[k]) rfl))) | refine q_U ?_ | (refine zfN rfl hp ?_))
   refine ⟨k + 1, ⟨by omega, fun j hj h => ?_⟩, by omega, q_S⟩
   by_cases hjk : j = k
   ·subst hjk; exact hp
   ·exact hall j hj (by omega)
 ·
  repeat (first | refine q_Y ?_ | ((first | apply q_K rfl | apply q_X rfl); (exact q_H)) | refine q_U ?_)
  refine zo rfl ⟨?_, rfl⟩
  rw [zN _ L fun x hx => by
   obtain ⟨j, hj, rfl⟩ := List.mem_iff_getElem.1 hx
   exact hall j hj (by omega)]; rfl
attribute [local irreducible] noneB redsP chk
set_option maxHeartbeats 32000000 in
theorem zkS (b : Bk) (d : Dvc) (i : Nat) (hi : i < d.bgp.length) (hn : d.bgp.length ≤ 140737488355328) (hfr : d.bgp[i].fr.length ≤ 140737488355328) (hne : d.bgp[i].nets.length ≤ 140737488355328) (hps : d.bgp[i].ps.length ≤ 140737488355328) (hok : ∀ p ∈ d.bgp[i].nets, p.ok) : ACall Tryz.prog 141 [bkA, dvcA d, intA (i : Int)] (bkH b) (fun c h => c = intA (bgiF b d.bgp i d.bgp[i]) ∧ h = bkH b) := by
 have hw := zj zbv d.bgp i 6 hi (by decide)
 have h1 := zj0 d.bgp 210 i hi (fun y => y.vrf) (fun y => zkx y) hn
 obtain ⟨fb, ef⟩ : ∃ fb, fstB (fun y : Bgi => y.vrf) d.bgp i = fb := ⟨_, rfl⟩
 unfold bgiF bgiO
 rw [ef] at h1 ⊢
 obtain ⟨x, hx⟩ : ∃ x, d.bgp[i] = x := ⟨_, rfl⟩
 rw [hx] at hw hfr hne hps hok ⊢
 clear hx ef
 obtain ⟨nm, kd, vrfs, ifs, fils, rws, sts, pls, cls, pols, osp, bgp⟩ := d
 obtain ⟨xv, xas, xid, nets, ps, fr⟩ := x
 dsimp only at hi hn hw h1 hfr hne hps hok ⊢
 have h2 := zdp b fr 7 false hfr
 obtain ⟨r1, e1⟩ : ∃ r, (redsP b 7 false fr).1 = r := ⟨_, rfl⟩
 obtain ⟨r2, e2⟩ : ∃ r, (redsP b 7 false fr).2 = r := ⟨_, rfl⟩
 rw [e1, e2] at h2 ⊢
 clear e1 e2 hfr
 obtain ⟨o1, ho1⟩ : ∃ c, (r1 && (xas != 0) && (xid != 0) && fb && decide ((nets.length : Int) ≤ 256) && decide ((ps.length : Int) ≤ 256)) = c := ⟨_, rfl⟩
 rw [ho1]
 refine zc za Tryz.func141 rfl Tryz.ntmps141 (congrArg Array.toList Tryz.results141) (by kernel_rfl) rfl ?_
 refine zF [(2, intA (i : Int)), (3, .ptr 3 0), (4, .ptr 4 0)] ((3, .var bkM) :: (4, .var ((dvcD ⟨nm, kd, vrfs, ifs, fils, rws, sts, pls, cls, pols, osp, bgp⟩).map .d)) :: bkH b) ?_ ?_
 ·
  (first | refine ze ?_ | refine zg rfl mixed (by kernel_rfl) ?_)
  repeat' (first | ((first | apply q_K rfl | apply q_X rfl); (first | exact q_H | fail)) | refine q_d ?_ | refine q_a ?_ | refine q_b ?_ | refine q_e ?_ | refine q_f ?_ | refine q_g ?_ | ((fail_if_success (refine O_wt rfl ?_)); refine O_gs rfl rfl (fun _ => ?_) (fun _ => ?_)) | ((fail_if_success (refine Q_wt rfl ?_)); refine Q_gs rfl rfl (fun _ => ?_) (fun _ => ?_)) | refine zi ?_ | refine zk ?_ | refine q_j ?_ | fail)
  exact zq ⟨rfl, rfl, rfl, trivial⟩ ⟨rfl, rfl, kc2 _ _ _, kc2 _ _ _, kc2 _ _ _, kc2 _ _ _, kc2 _ _ _, trivial⟩
 refine zF [(2, intA (i : Int)), (3, .ptr 3 0), (4, .ptr 4 0), (7, .ptr 7 0)] ((7, .var ((bgiD ⟨xv, xas, xid, nets, ps, fr⟩).map .d)) :: (3, .var bkM) :: (4, .var ((dvcD ⟨nm, kd, vrfs, ifs, fils, rws, sts, pls, cls, pols, osp, bgp⟩).map .d)) :: bkH b) ?_ ?_
 ·
  (first | refine ze ?_ | refine zg rfl mixed (by kernel_rfl) ?_)
  repeat' (first | ((first | apply q_K rfl | apply q_X rfl); (first | exact q_A | exact q_R (w := (by first | exact hw | rfl)) | exact q_B | fail)) | refine q_d ?_ | refine q_a ?_ | refine q_b ?_ | refine q_e ?_ | refine q_f ?_ | refine q_g ?_ | ((fail_if_success (refine O_wt rfl ?_)); refine O_gs rfl rfl (fun _ => ?_) (fun _ => ?_)) | ((fail_if_success (refine Q_wt rfl ?_)); refine Q_gs rfl rfl (fun _ => ?_) (fun _ => ?_)) | refine zi ?_ | refine zk ?_ | refine q_j ?_ | fail)
  exact zq ⟨rfl, rfl, rfl, rfl, trivial⟩ ⟨rfl, rfl, rfl, kc1 _ _, kc1 _ _, kc1 _ _, kc1 _ _, kc1 _ _, trivial⟩
 refine zF [(2, intA (i : Int)), (3, .ptr 3 0), (4, .ptr 4 0), (7, .ptr 7 0), (8, boolA r1), (9, boolA r2)] ((7, .var ((bgiD ⟨xv, xas, xid, nets, ps, fr⟩).map .d)) :: (3, .var bkM) :: (4, .var ((dvcD ⟨nm, kd, vrfs, ifs, fils, rws, sts, pls, cls, pols, osp, bgp⟩).map .d)) :: bkH b) ?_ ?_
 ·
  (first | refine ze ?_ | refine zg rfl mixed (by kernel_rfl) ?_)
  repeat' (first | ((first | apply q_K rfl | apply q_X rfl); (first | exact q_H | fail)) | refine q_d ?_ | refine q_a ?_ | refine q_b ?_ | refine q_e ?_ | refine q_f ?_ | refine q_g ?_ | ((fail_if_success (refine O_wt rfl ?_)); refine O_gs rfl rfl (fun _ => ?_) (fun _ => ?_)) | ((fail_if_success (refine Q_wt rfl ?_)); refine Q_gs rfl rfl (fun _ => ?_) (fun _ => ?_)) | refine zi ?_ | refine zk ?_ | refine q_j ?_ | (refine O_bk h2 rfl rfl rfl rfl rfl rfl rfl rfl rfl rfl rfl rfl rfl ?_))
  exact q_S
 refine zF [(3, .ptr 3 0), (7, .ptr 7 0), (8, boolA o1), (9, boolA r2)] ((7, .var ((bgiD ⟨xv, xas, xid, nets, ps, fr⟩).map .d)) :: (3, .var bkM) :: bkH b) ?_ ?_
 ·
  (first | refine ze ?_ | refine zg rfl mixed (by kernel_rfl) ?_)
  repeat' (first | ((first | apply q_K rfl | apply q_X rfl); (first | exact q_H | fail)) | refine q_d ?_ | refine q_a ?_ | refine q_b ?_ | refine q_e ?_ | refine q_f ?_ | refine q_g ?_ | ((fail_if_success (refine O_wt rfl ?_)); refine O_gs rfl rfl (fun _ => ?_) (fun _ => ?_)) | ((fail_if_success (refine Q_wt rfl ?_)); refine Q_gs rfl rfl (fun _ => ?_) (fun _ => ?_)) | refine zi ?_ | refine zk ?_ | refine q_j ?_ | refine q_O h1 ?_)
  all_goals exact zq ⟨rfl, rfl, congrArg (fun b => some (boolA b)) (by rw [← ho1]; simp only [*, Bool.true_and, Bool.false_and]), rfl, trivial⟩ ⟨rfl, rfl, rfl, rfl, rfl, rfl, rfl, trivial⟩
 clear ho1 h1 h2 hw
 repeat (first | refine q_Y ?_ | ((first | apply q_K rfl | apply q_X rfl); (exact q_H)) | refine q_U ?_)
 refine zw (fun k : Nat => [(3, .ptr 3 0), (7, .ptr 7 0), (8, boolA (o1 && allK (netK nets) k)), (9, boolA r2), (57, .d (.sl (nets.flatMap pfxD) nets.length)), (58, intA (nets.length : Int)), (59, intA (k : Int))]) (fun k => (7, .var ((bgiD ⟨xv, xas, xid, nets, ps, fr⟩).map .d)) :: (3, .var bkM) :: bkH b) (fun k => k ≤ nets.length) (fun k => nets.length - k) 0 (Nat.zero_le _) (zq ⟨rfl, rfl, by rw [show allK (netK nets) 0 = true from rfl, Bool.and_true]; rfl, rfl, rfl, rfl, rfl, trivial⟩ ⟨rfl, rfl, rfl, rfl, rfl, rfl, rfl, trivial⟩) ?_
 intro k hk
 try dsimp only
 by_cases hkl : k < nets.length
 ·have hw := zj zcW nets k 2 hkl (by decide)
  have h1 := zcf nets[k] (hok _ (List.getElem_mem hkl))
  have h2 := zit nets nets[k] hne
  have hnext : (o1 && allK (netK nets) (k + 1)) = ((o1 && allK (netK nets) k) && (chk nets[k] == 0) && (idxOf (fun y => nets[k] == y) nets == (k : Int))) := by
   rw [za9, show netK nets k = ((chk nets[k] == 0) && (idxOf (fun y => nets[k] == y) nets == (k : Int))) by unfold netK; rw [List.getElem?_eq_getElem hkl], Bool.and_assoc, Bool.and_assoc]
  obtain ⟨c1, e1⟩ : ∃ c, chk nets[k] = c := ⟨_, rfl⟩
  obtain ⟨c2, e2⟩ : ∃ c, idxOf (fun y => nets[k] == y) nets = c := ⟨_, rfl⟩
  obtain ⟨ok, e3⟩ : ∃ c, (o1 && allK (netK nets) k) = c := ⟨_, rfl⟩
  rw [e1] at h1 hnext
  rw [e2] at h2 hnext
  rw [e3] at hnext ⊢
  repeat' (first | refine zn ?_ | refine zp ?_ | refine ze ?_ | refine zg rfl mixed (by kernel_rfl) ?_ | ((first | apply q_K rfl | apply q_X rfl); (first | exact q_A | exact q_R (w := (by first | exact hw | rfl)) | exact q_B | fail)) | refine zi ?_ | refine zk ?_ | refine q_j ?_ | refine q_k ?_ | refine q_d ?_ | refine q_a ?_ | refine q_b ?_ | refine q_e ?_ | refine q_f ?_ | refine q_g ?_ | ((fail_if_success (refine O_wt rfl ?_)); refine O_gs rfl rfl (fun _ => ?_) (fun _ => ?_)) | ((fail_if_success (refine Q_wt rfl ?_)); refine Q_gs rfl rfl (fun _ => ?_) (fun _ => ?_)) | refine A_ct rfl ?_ | refine A_cf rfl ?_ | refine zU rfl (fun _ => ?_) (fun _ => ?_) | refine zz ?_ | refine zA ?_ | refine zS ?_ | refine q_l ?_ | refine q_m ?_ | refine q_n ?_ | refine q_h ?_ | refine q_o ?_ | (first | refine q_O h1 ?_ | refine q_O h2 ?_))
  all_goals exact ⟨k + 1, by omega, by omega, zq ⟨rfl, rfl, congrArg (fun b => some (boolA b)) (by rw [hnext]; simp only [*, Bool.true_and, Bool.false_and]), rfl, rfl, rfl, rfl, trivial⟩ ⟨rfl, rfl, kc1 _ _, kc1 _ _, kc1 _ _, kc1 _ _, kc1 _ _, trivial⟩⟩
 ·obtain rfl : k = nets.length := by omega
  obtain ⟨o2, e3⟩ : ∃ c, (o1 && allK (netK nets) nets.length) = c := ⟨_, rfl⟩
  rw [e3]
  clear e3
  repeat (first | refine q_Y ?_ | ((first | apply q_K rfl | apply q_X rfl); (exact q_H)) | refine q_U ?_ | (refine zac 79 rfl rfl rfl rfl rfl ?_))
  refine zw (fun k : Nat => [(3, .ptr 3 0), (7, .ptr 7 0), (8, boolA (o2 && allK (perK ps) k)), (9, boolA (r2 && allK (pnmK b ps) k)), (12, .mp 79), (81, .d (.sl (ps.flatMap perD) ps.length)), (82, intA (ps.length : Int)), (83, intA (k : Int))]) (fun k => (79, cntIB ((ps.map (·.a)).take k)) :: (7, .var ((bgiD ⟨xv, xas, xid, nets, ps, fr⟩).map .d)) :: (3, .var bkM) :: bkH b) (fun k => k ≤ ps.length) (fun k => ps.length - k) 0 (Nat.zero_le _) (zq ⟨rfl, rfl, by rw [show allK (perK ps) 0 = true from rfl, Bool.and_true]; rfl, by rw [show allK (pnmK b ps) 0 = true from rfl, Bool.and_true]; rfl, rfl, rfl, rfl, rfl, trivial⟩ ⟨rfl, rfl, rfl, kc1 _ _, kc1 _ _, kc1 _ _, kc1 _ _, kc1 _ _, trivial⟩) ?_
  intro k hk
  try dsimp only
  by_cases hkl : k < ps.length
  ·have hw := zj zec ps k 6 hkl (by decide)
   have hkm : k < (ps.map (·.a)).length := by rw [List.length_map]; exact hkl
   have ht : (ps.map (·.a)).take (k + 1) = (ps.map (·.a)).take k ++ [ps[k].a] := by rw [List.take_succ_eq_append_getElem hkm, List.getElem_map]
   have hown : (o2 && allK (perK ps) (k + 1)) = ((o2 && allK (perK ps) k) && (ps[k].a != 0) && (ps[k].as_ != 0) && (((((ps.map (·.a)).take k ++ [ps[k].a]).count ps[k].a : Nat) : Int) == 1)) := by
    rw [za9, show perK ps k = ((ps[k].a != 0) && (ps[k].as_ != 0) && (((((ps.map (·.a)).take (k + 1)).count ps[k].a : Nat) : Int) == 1)) by unfold perK; rw [List.getElem?_eq_getElem hkl], ht, Bool.and_assoc, Bool.and_assoc, Bool.and_assoc, Bool.and_assoc]
   have hnam : (r2 && allK (pnmK b ps) (k + 1)) = ((r2 && allK (pnmK b ps) k) && noneB b.o ps[k].pin && noneB b.o ps[k].pout) := by
    rw [za9, show pnmK b ps k = (noneB b.o ps[k].pin && noneB b.o ps[k].pout) by unfold pnmK; rw [List.getElem?_eq_getElem hkl], Bool.and_assoc, Bool.and_assoc]
   have hc := za7 ((ps.map (·.a)).take k) ps[k].a
   have hc2 := za7 ((ps.map (·.a)).take k ++ [ps[k].a]) ps[k].a
   have hle : ((ps.map (·.a)).take k).count ps[k].a ≤ 140737488355328 := by
    refine Nat.le_trans List.count_le_length ?_
    rw [List.length_take]; omega
   obtain ⟨n0, en⟩ : ∃ n, ((ps.map (·.a)).take k).count ps[k].a = n := ⟨_, rfl⟩
   obtain ⟨n1, en1⟩ : ∃ n, ((ps.map (·.a)).take k ++ [ps[k].a]).count ps[k].a = n := ⟨_, rfl⟩
   rw [en] at hc hle
   rw [en1] at hc2 hown
   clear en en1
   obtain ⟨ok, e3⟩ : ∃ c, (o2 && allK (perK ps) k) = c := ⟨_, rfl⟩
   obtain ⟨rk, e4⟩ : ∃ c, (r2 && allK (pnmK b ps) k) = c := ⟨_, rfl⟩
   rw [e3] at hown ⊢
   rw [e4] at hnam ⊢
   obtain ⟨x, hx⟩ : ∃ x, ps[k] = x := ⟨_, rfl⟩
   rw [hx] at hw hown hnam ht hc hc2
   clear hx e3 e4
   obtain ⟨pa, pas, pin, pout, pcl, psl⟩ := x
   dsimp only at hown hnam ht hc hc2
   repeat' (first | refine zn ?_ | refine zp ?_ | refine ze ?_ | refine zg rfl mixed (by kernel_rfl) ?_ | ((first | apply q_K rfl | apply q_X rfl); (first | exact q_A | exact q_R (w := (by first | exact hw | rfl)) | exact q_B | (first | exact zae hc za rfl rfl rfl zC rfl (ki1 _ _) rfl rfl | exact zae hc2 za rfl rfl rfl zC rfl rfl rfl rfl))) | refine zi ?_ | refine zk ?_ | refine q_j ?_ | refine q_k ?_ | refine q_d ?_ | refine q_a ?_ | refine q_b ?_ | refine q_e ?_ | refine q_f ?_ | refine q_g ?_ | ((fail_if_success (refine O_wt rfl ?_)); refine O_gs rfl rfl (fun _ => ?_) (fun _ => ?_)) | ((fail_if_success (refine Q_wt rfl ?_)); refine Q_gs rfl rfl (fun _ => ?_) (fun _ => ?_)) | refine A_ct rfl ?_ | refine A_cf rfl ?_ | refine zU rfl (fun _ => ?_) (fun _ => ?_) | refine zz ?_ | refine zA ?_ | refine zS ?_ | refine q_l ?_ | refine q_m ?_ | refine q_n ?_ | refine q_h ?_ | refine q_o ?_ | (first | refine zbd hc za rfl rfl rfl rfl rfl rfl (ki1 _ _) rfl rfl ?_ | refine zbx rfl rfl rfl rfl rfl (kc1 _ _) ?_))
   all_goals exact ⟨k + 1, by omega, by omega, zq ⟨rfl, rfl, congrArg (fun b => some (boolA b)) (by rw [hown]; simp only [*, Bool.true_and, Bool.false_and]), congrArg (fun b => some (boolA b)) (by rw [hnam]; simp only [*, Bool.true_and, Bool.false_and]), rfl, rfl, rfl, rfl, trivial⟩ ⟨by rw [ht]; rfl, rfl, rfl, kc1 _ _, kc1 _ _, kc1 _ _, kc1 _ _, kc1 _ _, trivial⟩⟩
  ·obtain rfl : k = ps.length := by omega
   obtain ⟨o3, e3⟩ : ∃ c, (o2 && allK (perK ps) ps.length) = c := ⟨_, rfl⟩
   obtain ⟨r3, e4⟩ : ∃ c, (r2 && allK (pnmK b ps) ps.length) = c := ⟨_, rfl⟩
   rw [e3, e4]
   clear e3 e4
   repeat' (first | refine zn ?_ | refine zp ?_ | refine ze ?_ | refine zg rfl mixed (by kernel_rfl) ?_ | ((first | apply q_K rfl | apply q_X rfl); (first | exact q_H | fail)) | refine zi ?_ | refine zk ?_ | refine q_j ?_ | refine q_k ?_ | refine q_d ?_ | refine q_a ?_ | refine q_b ?_ | refine q_e ?_ | refine q_f ?_ | refine q_g ?_ | ((fail_if_success (refine O_wt rfl ?_)); refine O_gs rfl rfl (fun _ => ?_) (fun _ => ?_)) | ((fail_if_success (refine Q_wt rfl ?_)); refine Q_gs rfl rfl (fun _ => ?_) (fun _ => ?_)) | refine A_ct rfl ?_ | refine A_cf rfl ?_ | refine zU rfl (fun _ => ?_) (fun _ => ?_) | refine zz ?_ | refine zA ?_ | refine zS ?_ | refine q_l ?_ | refine q_m ?_ | refine q_n ?_ | refine q_h ?_ | refine q_o ?_ | (first | refine zbx rfl rfl rfl rfl rfl rfl ?_ | (refine O_c rfl rfl rfl rfl rfl (zah _ _) (fun _ => rfl) ?_)))
   all_goals exact zt (h2 := bkH b) AWk.refl rfl ⟨rfl, rfl, rfl, rfl, rfl, trivial⟩ ⟨by simp only [*, Bool.true_and, Bool.false_and], rfl⟩
end Ab
end Go.Proofs.YtoahnbmedcjpeaaGreatDoor

/-
 Texts of a proof, one behind the other (part 23).
-/
import Derived.Test.YtoahnbmedcjpeaaGreatDoorMn3
import Derived.Test.YtoahnbmedcjpeaaGreatDoorMn21
set_option linter.unusedSimpArgs false
set_option linter.unusedVariables false
namespace Go.Proofs.YtoahnbmedcjpeaaGreatDoor
open Go.RowKit Go.Lib
def ospF (b : Bk) (l : List Osp) (i : Nat) (x : Osp) : Int := failP ((redsP b 11 true x.fr).1 && (x.id_ != 0) && Ab.fstB (fun y : Osp => y.vrf) l i) ((redsP b 11 true x.fr).2 && noneB b.v x.vrf)
namespace Ab
set_option maxRecDepth 100000
abbrev bkR : List (Nat × Nat) := [(1001, 1001), (1002, 1002), (1003, 1003), (1004, 1004), (1005, 1005)]
theorem zbu {p i : Nat} (h : look bkR p = some i) : i = p ∧ 1001 ≤ p ∧ p ≤ 1005 := by
 by_cases h1 : 1001 = p
 ·subst h1; rw [zb] at h; cases h; exact ⟨rfl, by omega, by omega⟩
 rw [zd _ _ h1] at h
 by_cases h2 : 1002 = p
 ·subst h2; rw [zb] at h; cases h; exact ⟨rfl, by omega, by omega⟩
 rw [zd _ _ h2] at h
 by_cases h3 : 1003 = p
 ·subst h3; rw [zb] at h; cases h; exact ⟨rfl, by omega, by omega⟩
 rw [zd _ _ h3] at h
 by_cases h4 : 1004 = p
 ·subst h4; rw [zb] at h; cases h; exact ⟨rfl, by omega, by omega⟩
 rw [zd _ _ h4] at h
 by_cases h5 : 1005 = p
 ·subst h5; rw [zb] at h; cases h; exact ⟨rfl, by omega, by omega⟩
 rw [zd _ _ h5] at h
 cases h
theorem zeu (b : Bk) {p : Nat} (h1 : 1001 ≤ p) (h2 : p ≤ 1005) : (look (bkH b) p).isSome = true := by
 rcases (by omega : p = 1001 ∨ p = 1002 ∨ p = 1003 ∨ p = 1004 ∨ p = 1005) with rfl | rfl | rfl | rfl | rfl <;> rfl
theorem zhA (b : Bk) {h : Heap} (h1 : look h 1001 = some (cntB b.v)) (h2 : look h 1002 = some (cntB b.f)) (h3 : look h 1003 = some (cntB b.p)) (h4 : look h 1004 = some (cntB b.c)) (h5 : look h 1005 = some (cntB b.o)) (j : Nat) : look h j = look (renH bkR (bkH b) ++ h) j := by
 show look h j = look ((1001, renB _ (cntB b.v)) :: (1002, renB _ (cntB b.f)) :: (1003, renB _ (cntB b.p)) :: (1004, renB _ (cntB b.c)) :: (1005, renB _ (cntB b.o)) :: h) j
 simp only [zX]
 by_cases e1 : 1001 = j
 ·subst e1; rw [zb, h1]
 rw [zd _ _ e1]
 by_cases e2 : 1002 = j
 ·subst e2; rw [zb, h2]
 rw [zd _ _ e2]
 by_cases e3 : 1003 = j
 ·subst e3; rw [zb, h3]
 rw [zd _ _ e3]
 by_cases e4 : 1004 = j
 ·subst e4; rw [zb, h4]
 rw [zd _ _ e4]
 by_cases e5 : 1005 = j
 ·subst e5; rw [zb, h5]
 rw [zd _ _ e5]
section
variable {nt : Nat} {Q : Post} {e : Env} {h : Heap} {ops : Array Oper} {o : Oper} {rest : List Oper} {T : List Nat} {fuel i : Nat} {listed : Array Bool}
theorem zfC (b : Bk) (h1 : look h 1001 = some (cntB b.v)) (h2 : look h 1002 = some (cntB b.f)) (h3 : look h 1003 = some (cntB b.p)) (h4 : look h 1004 = some (cntB b.c)) (h5 : look h 1005 = some (cntB b.o)) : Lent bkR h (bkH b) :=
 ⟨⟨1001, _, rfl, h1, zX _ _, zaI _ _⟩, ⟨1002, _, rfl, h2, zX _ _, zaI _ _⟩, ⟨1003, _, rfl, h3, zX _ _, zaI _ _⟩, ⟨1004, _, rfl, h4, zX _ _, zaI _ _⟩, ⟨1005, _, rfl, h5, zX _ _, zaI _ _⟩, trivial⟩
theorem zfD : ∀ p p' i, look bkR p = some i → look bkR p' = some i → p = p' := fun p p' i a c => by rw [← (zbu a).1, ← (zbu c).1]
theorem zcI (b : Bk) : ∀ p i, look bkR p = some i → 1000 ≤ p ∧ (look (bkH b) p).isSome = true ∧ (look (bkH b) p).isSome = true := fun p i a => ⟨by have := (zbu a).2.1; omega, zeu b (zbu a).2.1 (zbu a).2.2, zeu b (zbu a).2.1 (zbu a).2.2⟩
theorem O_bk {f : FuncId} {args : Array Operand} {ats : Array TypeId} {d : Nat} {cs : List AVal} {c0 : AVal} {b : Bk} (H : ACall Tryz.prog f cs (bkH b) (fun c h => c = c0 ∧ h = bkH b)) (hok : cs.all (okV bkR) = true) (hren : cs.map (renV bkR) = cs) (hc : renV bkR c0 = c0) (hw : awant ops e o = some true) (hdst : o.dst = some d) (hd : Nat.blt d nt = true) (ho : o.op = .call { callee := .value (.func f), args := args, argTypes := ats }) (hx : aevs e args.toList = some cs)
  (h1 : look h 1001 = some (cntB b.v)) (h2 : look h 1002 = some (cntB b.f)) (h3 : look h 1003 = some (cntB b.p)) (h4 : look h 1004 = some (cntB b.c)) (h5 : look h 1005 = some (cntB b.o))
  (HK : AOps Tryz.prog nt ops Q rest ((d, c0) :: e) h) : AOps Tryz.prog nt ops Q (o :: rest) e h :=
 O_cP bkR zfD (zcI b) H (fun c h => List.all_eq_true.1 hok c h) (zfC b h1 h2 h3 h4 h5) hw hdst hd ho hx hren (by rw [hc]; exact zR (zcu (zhA b h1 h2 h3 h4 h5)) HK)
end
attribute [local irreducible] AWp AOps AQ AYield AEff ACall AWk AAny AAt AThen AIn APost NoPanic
attribute [local irreducible] noneB redsP
set_option maxHeartbeats 16000000 in
theorem zjJ (b : Bk) (d : Dvc) (i : Nat) (hi : i < d.osp.length) (hn : d.osp.length ≤ 140737488355328) (hf : d.osp[i].fr.length ≤ 140737488355328) : ACall Tryz.prog 139 [bkA, dvcA d, intA (i : Int)] (bkH b) (fun c h => c = intA (ospF b d.osp i d.osp[i]) ∧ h = bkH b) := by
 have hw := zj zbp d.osp i 3 hi (by decide)
 have h1 := zjT d.osp 208 i hi (fun y => y.vrf) (fun y => zkv y) hn
 obtain ⟨fb, ef⟩ : ∃ fb, fstB (fun y : Osp => y.vrf) d.osp i = fb := ⟨_, rfl⟩
 unfold ospF
 rw [ef] at h1 ⊢
 obtain ⟨x, hx⟩ : ∃ x, d.osp[i] = x := ⟨_, rfl⟩
 rw [hx] at hw hf ⊢
 clear hx ef
 obtain ⟨nm, kd, vrfs, ifs, fils, rws, sts, pls, cls, pols, osp, bgp⟩ := d
 obtain ⟨xv, xi, fr⟩ := x
 dsimp only at hi hn hw h1 hf ⊢
 have h2 := zdp b fr 11 true hf
 obtain ⟨r1, e1⟩ : ∃ r, (redsP b 11 true fr).1 = r := ⟨_, rfl⟩
 obtain ⟨r2, e2⟩ : ∃ r, (redsP b 11 true fr).2 = r := ⟨_, rfl⟩
 rw [e1, e2] at h2 ⊢
 clear e1 e2 hf
 refine zc za Tryz.func139 rfl Tryz.ntmps139 (congrArg Array.toList Tryz.results139) (by kernel_rfl) rfl ?_
 refine zF [(2, intA (i : Int)), (3, .ptr 3 0), (4, .ptr 4 0)] ((3, .var bkM) :: (4, .var ((dvcD ⟨nm, kd, vrfs, ifs, fils, rws, sts, pls, cls, pols, osp, bgp⟩).map .d)) :: bkH b) ?_ ?_
 ·
  (first | refine ze ?_ | refine zg rfl mixed (by kernel_rfl) ?_)
  repeat' (first | ((first | apply q_K rfl | apply q_X rfl); (first | exact q_H | fail)) | refine q_d ?_ | refine q_a ?_ | refine q_b ?_ | refine q_e ?_ | refine q_f ?_ | refine q_g ?_ | ((fail_if_success (refine O_wt rfl ?_)); refine O_gs rfl rfl (fun _ => ?_) (fun _ => ?_)) | ((fail_if_success (refine Q_wt rfl ?_)); refine Q_gs rfl rfl (fun _ => ?_) (fun _ => ?_)) | refine zi ?_ | refine zk ?_ | refine q_j ?_ | fail)
  exact zq ⟨rfl, rfl, rfl, trivial⟩ ⟨rfl, rfl, kc2 _ _ _, kc2 _ _ _, kc2 _ _ _, kc2 _ _ _, kc2 _ _ _, trivial⟩
 refine zF [(2, intA (i : Int)), (3, .ptr 3 0), (4, .ptr 4 0), (7, .ptr 7 0)] ((7, .var ((ospD ⟨xv, xi, fr⟩).map .d)) :: (3, .var bkM) :: (4, .var ((dvcD ⟨nm, kd, vrfs, ifs, fils, rws, sts, pls, cls, pols, osp, bgp⟩).map .d)) :: bkH b) ?_ ?_
 ·
  (first | refine ze ?_ | refine zg rfl mixed (by kernel_rfl) ?_)
  repeat' (first | ((first | apply q_K rfl | apply q_X rfl); (first | exact q_A | exact q_R (w := (by first | exact hw | rfl)) | exact q_B | fail)) | refine q_d ?_ | refine q_a ?_ | refine q_b ?_ | refine q_e ?_ | refine q_f ?_ | refine q_g ?_ | ((fail_if_success (refine O_wt rfl ?_)); refine O_gs rfl rfl (fun _ => ?_) (fun _ => ?_)) | ((fail_if_success (refine Q_wt rfl ?_)); refine Q_gs rfl rfl (fun _ => ?_) (fun _ => ?_)) | refine zi ?_ | refine zk ?_ | refine q_j ?_ | fail)
  exact zq ⟨rfl, rfl, rfl, rfl, trivial⟩ ⟨rfl, rfl, rfl, kc1 _ _, kc1 _ _, kc1 _ _, kc1 _ _, kc1 _ _, trivial⟩
 have hf1 := zah (r1 && (xi != 0) && fb) false
 have hf2 := zah (r1 && (xi != 0) && fb) (noneB b.v xv)
 repeat' (first | refine zn ?_ | refine zp ?_ | refine ze ?_ | refine zg rfl mixed (by kernel_rfl) ?_ | ((first | apply q_K rfl | apply q_X rfl); (first | exact q_H | fail)) | refine zi ?_ | refine zk ?_ | refine q_j ?_ | refine q_k ?_ | refine q_d ?_ | refine q_a ?_ | refine q_b ?_ | refine q_e ?_ | refine q_f ?_ | refine q_g ?_ | ((fail_if_success (refine O_wt rfl ?_)); refine O_gs rfl rfl (fun _ => ?_) (fun _ => ?_)) | ((fail_if_success (refine Q_wt rfl ?_)); refine Q_gs rfl rfl (fun _ => ?_) (fun _ => ?_)) | refine A_ct rfl ?_ | refine A_cf rfl ?_ | refine zU rfl (fun _ => ?_) (fun _ => ?_) | refine zz ?_ | refine zA ?_ | refine zS ?_ | refine q_l ?_ | refine q_m ?_ | refine q_n ?_ | refine q_h ?_ | refine q_o ?_ | (first | refine q_O h1 ?_ | refine zbx rfl rfl rfl rfl rfl rfl ?_ | refine O_bk h2 rfl rfl rfl rfl rfl rfl rfl rfl rfl rfl rfl rfl rfl ?_ | (refine O_c rfl rfl rfl rfl rfl (zah _ _) (fun _ => rfl) ?_)))
 all_goals exact zt (h2 := bkH b) AWk.refl rfl ⟨rfl, rfl, rfl, rfl, rfl, trivial⟩ ⟨by simp only [*, Bool.true_and, Bool.false_and], rfl⟩
end Ab
end Go.Proofs.YtoahnbmedcjpeaaGreatDoor

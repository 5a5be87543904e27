/-
 Texts of a proof, one behind the other (part 27).
-/
import Derived.Test.YtoahnbmedcjpeaaGreatDoorMn3
import Derived.Test.YtoahnbmedcjpeaaGreatDoorMn25
set_option linter.unusedSimpArgs false
set_option linter.unusedVariables false
namespace Go.Proofs.YtoahnbmedcjpeaaGreatDoor
open Go.RowKit Go.Lib
def flt0 (d : Dvc) (i : Nat) : Int := match d.vrfs[i]? with
 | some x => failP (nameB x && Ab.fstB (fun x => x) d.vrfs i) true
 | none => 0
def flt1 (d : Dvc) (i : Nat) : Int := match d.ifs[i]? with
 | some x => ifxF (bkOf d) d.ifs i x
 | none => 0
def flt2 (d : Dvc) (i : Nat) : Int := match d.fils[i]? with
 | some x => failP (nameB x.nm && Ab.fstB (fun x : Fil => x.nm) d.fils i && filB x) true
 | none => 0
def flt3 (d : Dvc) (i : Nat) : Int := match d.rws[i]? with
 | some x => failP (x.to != 0) (noneB (bkOf d).f x.fil)
 | none => 0
def flt4 (d : Dvc) (i : Nat) : Int := match d.sts[i]? with
 | some x => staF (bkOf d) x
 | none => 0
def flt5 (d : Dvc) (i : Nat) : Int := match d.pls[i]? with
 | some x => failP (nameB x.nm && Ab.fstB (fun x : PLst => x.nm) d.pls i && entsB x.es) true
 | none => 0
def flt6 (d : Dvc) (i : Nat) : Int := match d.cls[i]? with
 | some x => failP (nameB x.nm && Ab.fstB (fun x : CLst => x.nm) d.cls i && memsB x.ms) true
 | none => 0
def flt7 (d : Dvc) (i : Nat) : Int := match d.pols[i]? with
 | some x => failP (nameB x.nm && Ab.fstB (fun x : Pol => x.nm) d.pols i && (clsP (bkOf d) x.cs).1) (clsP (bkOf d) x.cs).2
 | none => 0
def flt8 (d : Dvc) (i : Nat) : Int := match d.osp[i]? with
 | some x => ospF (bkOf d) d.osp i x
 | none => 0
def flt9 (d : Dvc) (i : Nat) : Int := match d.bgp[i]? with
 | some x => bgiF (bkOf d) d.bgp i x
 | none => 0
namespace Ab
set_option maxRecDepth 100000
abbrev hK (b : Bk) : Heap := (1000, .var bkM) :: bkH b
theorem ze0 (x : Bool) : ((if x = true then (0 : Int) else 121) == 0) = x := by cases x <;> rfl
section
variable {nt : Nat} {Q : Post} {e : Env} {h : Heap} {ops : Array Oper} {o : Oper} {T : List Nat} {fuel i : Nat} {listed : Array Bool}
theorem T_bk {f : FuncId} {args : Array Operand} {ats : Array TypeId} {d : Nat} {cs : List AVal} {c0 : AVal} {b : Bk} (H : ACall Tryz.prog f cs (bkH b) (fun c h => c = c0 ∧ h = bkH b)) (hok : cs.all (okV bkR) = true) (hren : cs.map (renV bkR) = cs) (hc : renV bkR c0 = c0) (hT : T.contains 1001 = true ∧ T.contains 1002 = true ∧ T.contains 1003 = true ∧ T.contains 1004 = true ∧ T.contains 1005 = true) (hi : ops[i]? = some o) (hw : awant ops e o = some true) (hdst : o.dst = some d) (hd : Nat.blt d nt = true) (ho : o.op = .call { callee := .value (.func f), args := args, argTypes := ats }) (hx : aevs e args.toList = some cs)
  (h1 : look h 1001 = some (cntB b.v)) (h2 : look h 1002 = some (cntB b.f)) (h3 : look h 1003 = some (cntB b.p)) (h4 : look h 1004 = some (cntB b.c)) (h5 : look h 1005 = some (cntB b.o))
  (HK : AAny Tryz.prog nt ops Q T fuel (listed.setIfInBounds i true) ((d, c0) :: e) (renH bkR (bkH b) ++ h)) : AAt Tryz.prog nt ops Q T fuel listed i e h :=
 zbf hi hw (zdX bkR ho hdst hx hren (fun c h => List.all_eq_true.1 hok c h) (zfC b h1 h2 h3 h4 h5) (fun p i hp => ⟨(zcI b p i hp).1, (zcI b p i hp).2.1⟩) zfD H hd (fun p q hp => by
  obtain ⟨rfl, h6, h7⟩ := zbu hp
  rcases (by omega : q = 1001 ∨ q = 1002 ∨ q = 1003 ∨ q = 1004 ∨ q = 1005) with rfl | rfl | rfl | rfl | rfl
  ·exact hT.1
  ·exact hT.2.1
  ·exact hT.2.2.1
  ·exact hT.2.2.2.1
  ·exact hT.2.2.2.2) (fun c' h' ⟨h6, h7⟩ p q hp => by subst h7; exact (zcI b p q hp).2.2)) fun e' h' ⟨c', h6, ⟨h7, h8⟩, h9, h10⟩ => by
   subst h7 h8 h9 h10
   rw [hc]; exact HK
theorem zki {args : Array Operand} {ats : Array TypeId} {d m : Nat} {s : List UInt8} {l : List (List UInt8)} (hT : T.contains m = true) (hi : ops[i]? = some o) (hw : awant ops e o = some true) (hdst : o.dst = some d) (hd : Nat.blt d nt = true) (ho : o.op = .call { callee := .value (.func 126), args := args, argTypes := ats }) (hx : aevs e args.toList = some [.mp m, strA s]) (hb : look h m = some (cntB l))
  (HK : AAny Tryz.prog nt ops Q T fuel (listed.setIfInBounds i true) ((d, boolA (noneB l s)) :: e) ((m, cntB l) :: h)) : AAt Tryz.prog nt ops Q T fuel listed i e h :=
 zbf hi hw (zdX (h0 := [(1000, cntB l)]) [(1000, m)] ho hdst hx rfl (fun c hc => by
  rcases List.mem_cons.1 hc with rfl | hc
  ·rfl
  ·rcases List.mem_cons.1 hc with rfl | hc
   ·rfl
   ·cases hc) ⟨⟨m, cntB l, rfl, hb, zX _ _, zaI _ _⟩, trivial⟩ (fun p i hp => ⟨(zcF (x := cntB l) (y := cntB l) (Nat.le_refl _) p i hp).1, (zcF (x := cntB l) (y := cntB l) (Nat.le_refl _) p i hp).2.1⟩) (zfo _ _) (zgR l s) hd (fun p q hp => by
   by_cases h3 : 1000 = p
   ·subst h3; rw [zb] at hp; cases hp; exact hT
   ·rw [zd _ _ h3] at hp; cases hp) (fun c' h' ⟨h6, h7⟩ p q hp => by subst h7; exact (zcF (x := cntB l) (y := cntB l) (Nat.le_refl _) p q hp).2.2)) fun e' h' ⟨c', h6, ⟨h7, h8⟩, h9, h10⟩ => by
   subst h7 h8 h9 h10
   have e1 : renH [(1000, m)] [(1000, cntB l)] = [(m, cntB l)] := by
    show [(m, renB _ (cntB l))] = _
    rw [zX]
   rw [e1]; exact HK
end
attribute [local irreducible] AWp AOps AQ AYield AEff ACall AWk AAny AAt AThen AIn APost NoPanic
attribute [local irreducible] nameB noneB filB entsB memsB fstB failP
set_option maxHeartbeats 8000000 in
theorem zjI (b : Bk) (d : Dvc) (i : Nat) (hi : i < d.vrfs.length) (hn : d.vrfs.length ≤ 140737488355328) : ACall Tryz.prog 116 ([intA (i : Int)] ++ [.iptr (dvcD d) 0]) (hK b) (fun c h => c = intA (flt0 d i) ∧ h = hK b) := by
 have hw := zj zb1 d.vrfs i 1 hi (by decide)
 have h1 := zjU d.vrfs 119 i hi (fun x => x) (fun x => zje x) hn
 unfold flt0
 rw [List.getElem?_eq_getElem hi]
 obtain ⟨fb, ef⟩ : ∃ fb, fstB (fun x : List UInt8 => x) d.vrfs i = fb := ⟨_, rfl⟩
 have h2 := zbS d.vrfs[i]
 obtain ⟨nb, en⟩ : ∃ fb, nameB d.vrfs[i] = fb := ⟨_, rfl⟩
 dsimp only
 rw [ef] at h1 ⊢
 rw [en] at h2 ⊢
 clear ef en
 obtain ⟨nm, kd, vrfs, ifs, fils, rws, sts, pls, cls, pols, osp, bgp⟩ := d
 dsimp only at hi hn hw h1 h2
 refine zc za Tryz.func116 rfl Tryz.ntmps116 (congrArg Array.toList Tryz.results116) (by kernel_rfl) rfl ?_
 repeat' (first | refine zn ?_ | refine zp ?_ | refine ze ?_ | refine zg rfl mixed (by kernel_rfl) ?_ | ((first | apply q_K rfl | apply q_X rfl); (first | exact q_A | exact q_R (w := (by first | exact hw | rfl)) | exact q_B | fail)) | refine zi ?_ | refine zk ?_ | refine q_j ?_ | refine q_k ?_ | refine q_d ?_ | refine q_a ?_ | refine q_b ?_ | refine q_e ?_ | refine q_f ?_ | refine q_g ?_ | ((fail_if_success (refine O_wt rfl ?_)); refine O_gs rfl rfl (fun _ => ?_) (fun _ => ?_)) | ((fail_if_success (refine Q_wt rfl ?_)); refine Q_gs rfl rfl (fun _ => ?_) (fun _ => ?_)) | refine A_ct rfl ?_ | refine A_cf rfl ?_ | refine zU rfl (fun _ => ?_) (fun _ => ?_) | refine zz ?_ | refine zA ?_ | refine zS ?_ | refine q_l ?_ | refine q_m ?_ | refine q_n ?_ | refine q_h ?_ | refine q_o ?_ | (first | refine q_O h1 ?_ | refine q_O h2 ?_ | (refine O_c rfl rfl rfl rfl rfl (zah _ _) (fun _ => rfl) ?_)))
 all_goals exact zt (h2 := hK b) AWk.refl rfl ⟨rfl, rfl, rfl, rfl, rfl, rfl, trivial⟩ ⟨by simp only [*, Bool.true_and, Bool.false_and], rfl⟩
set_option maxHeartbeats 8000000 in
theorem zjG (b : Bk) (d : Dvc) (i : Nat) (hi : i < d.fils.length) (hn : d.fils.length ≤ 140737488355328) (hf1 : ∀ x ∈ d.fils, x.ok) (hf2 : ∀ x ∈ d.fils, ∀ r ∈ x.rs, r.ok') : ACall Tryz.prog 122 ([intA (i : Int)] ++ [.iptr (dvcD d) 0]) (hK b) (fun c h => c = intA (flt2 d i) ∧ h = hK b) := by
 have hw := zj zaE d.fils i 2 hi (by decide)
 have hw1 := zW zaE d.fils i 1 1 hi (by decide)
 have hw0 := zW zaE d.fils i 0 1 hi (by decide)
 have h1 := zjY d.fils 79 i hi (fun x => x.nm) (fun x => zgP x) hn
 have h3 := zhc d.fils[i] (hf1 _ (List.getElem_mem hi)) (hf2 _ (List.getElem_mem hi))
 unfold flt2
 rw [List.getElem?_eq_getElem hi]
 obtain ⟨fb, ef⟩ : ∃ fb, fstB (fun x : Fil => x.nm) d.fils i = fb := ⟨_, rfl⟩
 obtain ⟨x, hx⟩ : ∃ x, d.fils[i] = x := ⟨_, rfl⟩
 rw [hx] at hw hw0 hw1 h3 ⊢
 have h2 := zbS x.nm
 obtain ⟨nb, en⟩ : ∃ fb, nameB x.nm = fb := ⟨_, rfl⟩
 obtain ⟨xb, ex⟩ : ∃ fb, filB x = fb := ⟨_, rfl⟩
 dsimp only
 rw [ef] at h1 ⊢
 rw [en] at h2 ⊢
 rw [ex] at h3 ⊢
 clear ef en ex hx
 obtain ⟨nm, kd, vrfs, ifs, fils, rws, sts, pls, cls, pols, osp, bgp⟩ := d
 obtain ⟨xn, xl⟩ := x
 dsimp only at hi hn hw hw0 hw1 h1 h2 h3
 refine zc za Tryz.func122 rfl Tryz.ntmps122 (congrArg Array.toList Tryz.results122) (by kernel_rfl) rfl ?_
 repeat' (first | refine zn ?_ | refine zp ?_ | refine ze ?_ | refine zg rfl mixed (by kernel_rfl) ?_ | ((first | apply q_K rfl | apply q_X rfl); (first | exact q_A | exact q_R (w := (by first | exact hw | exact hw0 | exact hw1 | rfl)) | exact q_B | fail)) | refine zi ?_ | refine zk ?_ | refine q_j ?_ | refine q_k ?_ | refine q_d ?_ | refine q_a ?_ | refine q_b ?_ | refine q_e ?_ | refine q_f ?_ | refine q_g ?_ | ((fail_if_success (refine O_wt rfl ?_)); refine O_gs rfl rfl (fun _ => ?_) (fun _ => ?_)) | ((fail_if_success (refine Q_wt rfl ?_)); refine Q_gs rfl rfl (fun _ => ?_) (fun _ => ?_)) | refine A_ct rfl ?_ | refine A_cf rfl ?_ | refine zU rfl (fun _ => ?_) (fun _ => ?_) | refine zz ?_ | refine zA ?_ | refine zS ?_ | refine q_l ?_ | refine q_m ?_ | refine q_n ?_ | refine q_h ?_ | refine q_o ?_ | (first | refine q_O h1 ?_ | refine q_O h2 ?_ | refine q_O h3 ?_ | (refine O_c rfl rfl rfl rfl rfl (zah _ _) (fun _ => rfl) ?_)))
 all_goals exact zt (h2 := hK b) AWk.refl rfl ⟨rfl, rfl, rfl, rfl, rfl, rfl, trivial⟩ ⟨by simp only [*, Bool.true_and, Bool.false_and, ze0], rfl⟩
set_option maxHeartbeats 8000000 in
theorem zjD (b : Bk) (d : Dvc) (i : Nat) (hi : i < d.pls.length) (hn : d.pls.length ≤ 140737488355328) (hf1 : ∀ x ∈ d.pls, ∀ e ∈ x.es, e.ok') (hf2 : ∀ x ∈ d.pls, x.es.length ≤ 140737488355328) : ACall Tryz.prog 129 ([intA (i : Int)] ++ [.iptr (dvcD d) 0]) (hK b) (fun c h => c = intA (flt5 d i) ∧ h = hK b) := by
 have hw := zj zas d.pls i 2 hi (by decide)
 have hw1 := zW zas d.pls i 1 1 hi (by decide)
 have hw0 := zW zas d.pls i 0 1 hi (by decide)
 have h1 := zjV d.pls 81 i hi (fun x => x.nm) (fun x => zgN x) hn
 have h3 := zf5 d.pls[i].es (hf1 _ (List.getElem_mem hi)) (hf2 _ (List.getElem_mem hi))
 unfold flt5
 rw [List.getElem?_eq_getElem hi]
 obtain ⟨fb, ef⟩ : ∃ fb, fstB (fun x : PLst => x.nm) d.pls i = fb := ⟨_, rfl⟩
 obtain ⟨x, hx⟩ : ∃ x, d.pls[i] = x := ⟨_, rfl⟩
 rw [hx] at hw hw0 hw1 h3 ⊢
 have h2 := zbS x.nm
 obtain ⟨nb, en⟩ : ∃ fb, nameB x.nm = fb := ⟨_, rfl⟩
 obtain ⟨xb, ex⟩ : ∃ fb, entsB x.es = fb := ⟨_, rfl⟩
 dsimp only
 rw [ef] at h1 ⊢
 rw [en] at h2 ⊢
 rw [ex] at h3 ⊢
 clear ef en ex hx
 obtain ⟨nm, kd, vrfs, ifs, fils, rws, sts, pls, cls, pols, osp, bgp⟩ := d
 obtain ⟨xn, xl⟩ := x
 dsimp only at hi hn hw hw0 hw1 h1 h2 h3
 refine zc za Tryz.func129 rfl Tryz.ntmps129 (congrArg Array.toList Tryz.results129) (by kernel_rfl) rfl ?_
 repeat' (first | refine zn ?_ | refine zp ?_ | refine ze ?_ | refine zg rfl mixed (by kernel_rfl) ?_ | ((first | apply q_K rfl | apply q_X rfl); (first | exact q_A | exact q_R (w := (by first | exact hw | exact hw0 | exact hw1 | rfl)) | exact q_B | fail)) | refine zi ?_ | refine zk ?_ | refine q_j ?_ | refine q_k ?_ | refine q_d ?_ | refine q_a ?_ | refine q_b ?_ | refine q_e ?_ | refine q_f ?_ | refine q_g ?_ | ((fail_if_success (refine O_wt rfl ?_)); refine O_gs rfl rfl (fun _ => ?_) (fun _ => ?_)) | ((fail_if_success (refine Q_wt rfl ?_)); refine Q_gs rfl rfl (fun _ => ?_) (fun _ => ?_)) | refine A_ct rfl ?_ | refine A_cf rfl ?_ | refine zU rfl (fun _ => ?_) (fun _ => ?_) | refine zz ?_ | refine zA ?_ | refine zS ?_ | refine q_l ?_ | refine q_m ?_ | refine q_n ?_ | refine q_h ?_ | refine q_o ?_ | (first | refine q_O h1 ?_ | refine q_O h2 ?_ | refine q_O h3 ?_ | (refine O_c rfl rfl rfl rfl rfl (zah _ _) (fun _ => rfl) ?_)))
 all_goals exact zt (h2 := hK b) AWk.refl rfl ⟨rfl, rfl, rfl, rfl, rfl, rfl, trivial⟩ ⟨by simp only [*, Bool.true_and, Bool.false_and, ze0], rfl⟩
set_option maxHeartbeats 8000000 in
theorem zjC (b : Bk) (d : Dvc) (i : Nat) (hi : i < d.cls.length) (hn : d.cls.length ≤ 140737488355328) (hf2 : ∀ x ∈ d.cls, x.ms.length ≤ 140737488355328) : ACall Tryz.prog 132 ([intA (i : Int)] ++ [.iptr (dvcD d) 0]) (hK b) (fun c h => c = intA (flt6 d i) ∧ h = hK b) := by
 have hw := zj zav d.cls i 2 hi (by decide)
 have hw1 := zW zav d.cls i 1 1 hi (by decide)
 have hw0 := zW zav d.cls i 0 1 hi (by decide)
 have h1 := zjZ d.cls 83 i hi (fun x => x.nm) (fun x => zgQ x) hn
 have h3 := zf0 d.cls[i].ms (hf2 _ (List.getElem_mem hi))
 unfold flt6
 rw [List.getElem?_eq_getElem hi]
 obtain ⟨fb, ef⟩ : ∃ fb, fstB (fun x : CLst => x.nm) d.cls i = fb := ⟨_, rfl⟩
 obtain ⟨x, hx⟩ : ∃ x, d.cls[i] = x := ⟨_, rfl⟩
 rw [hx] at hw hw0 hw1 h3 ⊢
 have h2 := zbS x.nm
 obtain ⟨nb, en⟩ : ∃ fb, nameB x.nm = fb := ⟨_, rfl⟩
 obtain ⟨xb, ex⟩ : ∃ fb, memsB x.ms = fb := ⟨_, rfl⟩
 dsimp only
 rw [ef] at h1 ⊢
 rw [en] at h2 ⊢
 rw [ex] at h3 ⊢
 clear ef en ex hx
 obtain ⟨nm, kd, vrfs, ifs, fils, rws, sts, pls, cls, pols, osp, bgp⟩ := d
 obtain ⟨xn, xl⟩ := x
 dsimp only at hi hn hw hw0 hw1 h1 h2 h3
 refine zc za Tryz.func132 rfl Tryz.ntmps132 (congrArg Array.toList Tryz.results132) (by kernel_rfl) rfl ?_
 repeat' (first | refine zn ?_ | refine zp ?_ | refine ze ?_ | refine zg rfl mixed (by kernel_rfl) ?_ | ((first | apply q_K rfl | apply q_X rfl); (first | exact q_A | exact q_R (w := (by first | exact hw | exact hw0 | exact hw1 | rfl)) | exact q_B | fail)) | refine zi ?_ | refine zk ?_ | refine q_j ?_ | refine q_k ?_ | refine q_d ?_ | refine q_a ?_ | refine q_b ?_ | refine q_e ?_ | refine q_f ?_ | refine q_g ?_ | ((fail_if_success (refine O_wt rfl ?_)); refine O_gs rfl rfl (fun _ => ?_) (fun _ => ?_)) | ((fail_if_success (refine Q_wt rfl ?_)); refine Q_gs rfl rfl (fun _ => ?_) (fun _ => ?_)) | refine A_ct rfl ?_ | refine A_cf rfl ?_ | refine zU rfl (fun _ => ?_) (fun _ => ?_) | refine zz ?_ | refine zA ?_ | refine zS ?_ | refine q_l ?_ | refine q_m ?_ | refine q_n ?_ | refine q_h ?_ | refine q_o ?_ | (first | refine q_O h1 ?_ | refine q_O h2 ?_ | refine q_O h3 ?_ | (refine O_c rfl rfl rfl rfl rfl (zah _ _) (fun _ => rfl) ?_)))
 all_goals exact zt (h2 := hK b) AWk.refl rfl ⟨rfl, rfl, rfl, rfl, rfl, rfl, trivial⟩ ⟨by simp only [*, Bool.true_and, Bool.false_and, ze0], rfl⟩
end Ab
end Go.Proofs.YtoahnbmedcjpeaaGreatDoor

/-
 Texts of a proof, one behind the other (part 26).
-/
import Derived.Test.YtoahnbmedcjpeaaGreatDoorMn3
import Derived.Test.YtoahnbmedcjpeaaGreatDoorMn9
import Derived.Test.YtoahnbmedcjpeaaGreatDoorMn24
set_option linter.unusedSimpArgs false
set_option linter.unusedVariables false
namespace Go.Proofs.YtoahnbmedcjpeaaGreatDoor
open Go.RowKit Go.Lib
def bkOf (d : Dvc) : Bk := ⟨d.vrfs.map fun x => x, d.fils.map fun x => x.nm, d.pls.map fun x => x.nm, d.cls.map fun x => x.nm, d.pols.map fun x => x.nm⟩
namespace Ab
set_option maxRecDepth 100000
theorem zZ (i : List Nat) (l : List (List UInt8)) : killBs i (cntB l) = cntB l := by
 show ABlk.map _ = ABlk.map _
 congr 1
 unfold ents
 rw [List.map_map]
 have hk : ∀ (i : List Nat) (v : Value), killVs i (.d (.sc v)) = .d (.sc v) := fun i v => by
  unfold killVs
  rw [show hasAny i (.d (.sc v)) = false from by
   unfold hasAny
   induction i with
   | nil => rfl
   | cons a r ih => rw [List.any_cons, ih]; rfl]
  rfl
 apply List.map_congr_left
 intro p _
 show (killVs i (strA p.1), killVs i (natA' p.2)) = _
 rw [hk, hk]
theorem ks1 (a : List Nat) (l : List (List UInt8)) : some (killBs a (cntB l)) = some (cntB l) := by rw [zZ]
theorem ks2 (a b : List Nat) (l : List (List UInt8)) : some (killBs a (killBs b (cntB l))) = some (cntB l) := by rw [zZ, zZ]
theorem ks3 (a b c : List Nat) (l : List (List UInt8)) : some (killBs a (killBs b (killBs c (cntB l)))) = some (cntB l) := by rw [zZ, zZ, zZ]
theorem ks4 (a b c d : List Nat) (l : List (List UInt8)) : some (killBs a (killBs b (killBs c (killBs d (cntB l))))) = some (cntB l) := by rw [zZ, zZ, zZ, zZ]
theorem zbK (j : Nat) (l : List (List UInt8)) : blkHas j (cntB l) = false := by
 show List.any _ _ = false
 rw [List.any_eq_false]
 intro p hp
 obtain ⟨x, _, rfl⟩ := List.mem_map.1 hp
 exact fun h => by cases h
section
variable {P : Program} {nt : Nat} {Q : Post} {e : Env} {h : Heap} {ops : Array Oper} {o : Oper} {T : List Nat} {fuel i : Nat} {listed : Array Bool}
theorem zeI {f : FuncId} {args : Array Operand} {ats : Array TypeId} {cs : List AVal} {d id : Nat} {l : List (List UInt8)} (hi : ops[i]? = some o) (hw : awant ops e o = some true) (hdst : o.dst = some d) (hd : Nat.blt d nt = true) (ho : o.op = .call { callee := .value (.func f), args := args, argTypes := ats }) (hx : aevs e args.toList = some cs)
  (H : ACall P f cs [] (fun c h => c = .mp id ∧ h = [(id, cntB l)])) (hid : Nat.blt id 1000 = true)
  (HK : AAny P nt ops Q T fuel (listed.setIfInBounds i true) ((d, .mp id) :: killEs [id] e) ((id, cntB l) :: killHs [id] h)) : AAt P nt ops Q T fuel listed i e h :=
 T_cN hi hw hdst hd ho hx H (by
   rw [List.all_eq_true]
   intro j hj
   have : j = id := by simpa using hj
   rw [this]; exact hid) (fun q b j hb hj => by
   by_cases h1 : id = q
   ·subst h1; rw [zb] at hb; cases hb; rw [zbK] at hj; cases hj
   ·rw [zd _ _ h1] at hb; cases hb) (fun j hj => by
   have : id = j := by simpa [AVal.has] using hj
   subst this; rw [zb]; rfl) HK
end
attribute [local irreducible] AWp AOps AQ AYield AEff ACall AWk AAny AAt AThen AIn APost NoPanic
theorem qqaz0 {T : List Nat} {e : Env} {h : Heap} {o : Oper} {c : AVal} (hy : AYield Tryz.prog T e h o c := by first | exact q_5 | exact q_6 | exact q_7 | exact q_15 | exact q_16 | exact q_19) : AYield Tryz.prog T e h o c := hy
set_option maxHeartbeats 64000000 in
theorem zhz (d : Dvc) (h2 : d.vrfs.length ≤ 140737488355328) (h4 : d.fils.length ≤ 140737488355328) (h7 : d.pls.length ≤ 140737488355328) (h8 : d.cls.length ≤ 140737488355328) (h9 : d.pols.length ≤ 140737488355328) : ACall Tryz.prog 115 [dvcA d] [] (fun c h => c = .agg [.mp 501, .mp 502, .mp 503, .mp 504, .mp 505] ∧ h = [(501, cntB (bkOf d).v), (502, cntB (bkOf d).f), (503, cntB (bkOf d).p), (504, cntB (bkOf d).c), (505, cntB (bkOf d).o)]) := by
 have c1 := zj5 501 d.vrfs 119 (fun x => x) (fun x => zje x) h2 rfl
 have c2 := zj8 502 d.fils 79 (fun x => x.nm) (fun x => zgP x) h4 rfl
 have c3 := zj6 503 d.pls 81 (fun x => x.nm) (fun x => zgN x) h7 rfl
 have c4 := zj9 504 d.cls 83 (fun x => x.nm) (fun x => zgQ x) h8 rfl
 have c5 := zj7 505 d.pols 85 (fun x => x.nm) (fun x => zgO x) h9 rfl
 unfold bkOf
 obtain ⟨nm, kd, vrfs, ifs, fils, rws, sts, pls, cls, pols, osp, bgp⟩ := d
 dsimp only at h2 h4 h7 h8 h9 c1 c2 c3 c4 c5 ⊢
 refine zc za Tryz.func115 rfl Tryz.ntmps115 (congrArg Array.toList Tryz.results115) (by kernel_rfl) rfl ?_
 refine zn ?_
 (first | refine ze ?_ | refine zg rfl mixed (by kernel_rfl) ?_)
 repeat' (first | ((first | apply q_K rfl | apply q_X rfl); (first | exact q_H | fail)) | refine q_d ?_ | refine q_a ?_ | refine q_b ?_ | refine q_e ?_ | refine q_f ?_ | refine q_g ?_ | ((fail_if_success (refine O_wt rfl ?_)); refine O_gs rfl rfl (fun _ => ?_) (fun _ => ?_)) | ((fail_if_success (refine Q_wt rfl ?_)); refine Q_gs rfl rfl (fun _ => ?_) (fun _ => ?_)) | refine zi ?_ | refine zk ?_ | refine q_j ?_ | fail)
 refine zf (zr (id := 1) (ds := dvcD ⟨nm, kd, vrfs, ifs, fils, rws, sts, pls, cls, pols, osp, bgp⟩) rfl rfl) ?_
 refine zf (q_S (e1 := [(1, .iptr (dvcD ⟨nm, kd, vrfs, ifs, fils, rws, sts, pls, cls, pols, osp, bgp⟩) 0), (2, .ptr 2 0)]) (h1 := [(2, .var [.d (.sc (.map none)), .d (.sc (.map none)), .d (.sc (.map none)), .d (.sc (.map none)), .d (.sc (.map none))])])) ?_
 refine zn ?_
 refine zaq [2] mixed ?_
 repeat (first | ((first | apply q_M 0 rfl rfl (by kernel_rfl) (by decide +kernel) (by decide +kernel) rfl rfl rfl | apply q_M 1 rfl rfl (by kernel_rfl) (by decide +kernel) (by decide +kernel) rfl rfl rfl | apply q_M 2 rfl rfl (by kernel_rfl) (by decide +kernel) (by decide +kernel) rfl rfl rfl | apply q_M 3 rfl rfl (by kernel_rfl) (by decide +kernel) (by decide +kernel) rfl rfl rfl | apply q_M 4 rfl rfl (by kernel_rfl) (by decide +kernel) (by decide +kernel) rfl rfl rfl | apply q_M 5 rfl rfl (by kernel_rfl) (by decide +kernel) (by decide +kernel) rfl rfl rfl | apply q_M 6 rfl rfl (by kernel_rfl) (by decide +kernel) (by decide +kernel) rfl rfl rfl | apply q_M 7 rfl rfl (by kernel_rfl) (by decide +kernel) (by decide +kernel) rfl rfl rfl | apply q_M 8 rfl rfl (by kernel_rfl) (by decide +kernel) (by decide +kernel) rfl rfl rfl | apply q_M 9 rfl rfl (by kernel_rfl) (by decide +kernel) (by decide +kernel) rfl rfl rfl | apply q_M 10 rfl rfl (by kernel_rfl) (by decide +kernel) (by decide +kernel) rfl rfl rfl | apply q_M 11 rfl rfl (by kernel_rfl) (by decide +kernel) (by decide +kernel) rfl rfl rfl | apply q_M 12 rfl rfl (by kernel_rfl) (by decide +kernel) (by decide +kernel) rfl rfl rfl | apply q_M 13 rfl rfl (by kernel_rfl) (by decide +kernel) (by decide +kernel) rfl rfl rfl | apply q_M 14 rfl rfl (by kernel_rfl) (by decide +kernel) (by decide +kernel) rfl rfl rfl | apply q_M 15 rfl rfl (by kernel_rfl) (by decide +kernel) (by decide +kernel) rfl rfl rfl | apply q_M 16 rfl rfl (by kernel_rfl) (by decide +kernel) (by decide +kernel) rfl rfl rfl | apply q_M 17 rfl rfl (by kernel_rfl) (by decide +kernel) (by decide +kernel) rfl rfl rfl | apply q_M 18 rfl rfl (by kernel_rfl) (by decide +kernel) (by decide +kernel) rfl rfl rfl | apply q_M 19 rfl rfl (by kernel_rfl) (by decide +kernel) (by decide +kernel) rfl rfl rfl | apply q_M 20 rfl rfl (by kernel_rfl) (by decide +kernel) (by decide +kernel) rfl rfl rfl | apply q_M 21 rfl rfl (by kernel_rfl) (by decide +kernel) (by decide +kernel) rfl rfl rfl | apply q_M 22 rfl rfl (by kernel_rfl) (by decide +kernel) (by decide +kernel) rfl rfl rfl | apply q_M 23 rfl rfl (by kernel_rfl) (by decide +kernel) (by decide +kernel) rfl rfl rfl | apply q_M 24 rfl rfl (by kernel_rfl) (by decide +kernel) (by decide +kernel) rfl rfl rfl ); (exact q_H)) | (apply q_L 0 rfl rfl (by kernel_rfl) (by decide +kernel) (by decide +kernel) rfl rfl rfl; (exact qqaz0)) | (apply q_L 1 rfl rfl (by kernel_rfl) (by decide +kernel) (by decide +kernel) rfl rfl rfl; (exact qqaz0)) | (apply q_L 2 rfl rfl (by kernel_rfl) (by decide +kernel) (by decide +kernel) rfl rfl rfl; (exact qqaz0)) | (apply q_L 3 rfl rfl (by kernel_rfl) (by decide +kernel) (by decide +kernel) rfl rfl rfl; (exact qqaz0)) | (apply q_L 4 rfl rfl (by kernel_rfl) (by decide +kernel) (by decide +kernel) rfl rfl rfl; (exact qqaz0)) | (apply q_L 5 rfl rfl (by kernel_rfl) (by decide +kernel) (by decide +kernel) rfl rfl rfl; (exact qqaz0)) | (apply q_L 6 rfl rfl (by kernel_rfl) (by decide +kernel) (by decide +kernel) rfl rfl rfl; (exact qqaz0)) | (apply q_L 7 rfl rfl (by kernel_rfl) (by decide +kernel) (by decide +kernel) rfl rfl rfl; (exact qqaz0)) | (apply q_L 8 rfl rfl (by kernel_rfl) (by decide +kernel) (by decide +kernel) rfl rfl rfl; (exact qqaz0)) | (apply q_L 9 rfl rfl (by kernel_rfl) (by decide +kernel) (by decide +kernel) rfl rfl rfl; (exact qqaz0)) | (apply q_L 10 rfl rfl (by kernel_rfl) (by decide +kernel) (by decide +kernel) rfl rfl rfl; (exact qqaz0)) | (apply q_L 11 rfl rfl (by kernel_rfl) (by decide +kernel) (by decide +kernel) rfl rfl rfl; (exact qqaz0)) | (apply q_L 12 rfl rfl (by kernel_rfl) (by decide +kernel) (by decide +kernel) rfl rfl rfl; (exact qqaz0)) | (apply q_L 13 rfl rfl (by kernel_rfl) (by decide +kernel) (by decide +kernel) rfl rfl rfl; (exact qqaz0)) | (apply q_L 14 rfl rfl (by kernel_rfl) (by decide +kernel) (by decide +kernel) rfl rfl rfl; (exact qqaz0)) | (apply q_L 15 rfl rfl (by kernel_rfl) (by decide +kernel) (by decide +kernel) rfl rfl rfl; (exact qqaz0)) | (apply q_L 16 rfl rfl (by kernel_rfl) (by decide +kernel) (by decide +kernel) rfl rfl rfl; (exact qqaz0)) | (apply q_L 17 rfl rfl (by kernel_rfl) (by decide +kernel) (by decide +kernel) rfl rfl rfl; (exact qqaz0)) | (apply q_L 18 rfl rfl (by kernel_rfl) (by decide +kernel) (by decide +kernel) rfl rfl rfl; (exact qqaz0)) | (apply q_L 19 rfl rfl (by kernel_rfl) (by decide +kernel) (by decide +kernel) rfl rfl rfl; (exact qqaz0)) | (apply q_L 20 rfl rfl (by kernel_rfl) (by decide +kernel) (by decide +kernel) rfl rfl rfl; (exact qqaz0)) | (apply q_L 21 rfl rfl (by kernel_rfl) (by decide +kernel) (by decide +kernel) rfl rfl rfl; (exact qqaz0)) | (apply q_L 22 rfl rfl (by kernel_rfl) (by decide +kernel) (by decide +kernel) rfl rfl rfl; (exact qqaz0)) | (apply q_L 23 rfl rfl (by kernel_rfl) (by decide +kernel) (by decide +kernel) rfl rfl rfl; (exact qqaz0)) | (apply q_L 24 rfl rfl (by kernel_rfl) (by decide +kernel) (by decide +kernel) rfl rfl rfl; (exact qqaz0)) | refine zh (j := 0) (by decide +kernel) ?_ | refine zh (j := 1) (by decide +kernel) ?_ | refine zh (j := 2) (by decide +kernel) ?_ | refine zh (j := 3) (by decide +kernel) ?_ | refine zh (j := 4) (by decide +kernel) ?_ | refine zh (j := 5) (by decide +kernel) ?_ | refine zh (j := 6) (by decide +kernel) ?_ | refine zh (j := 7) (by decide +kernel) ?_ | refine zh (j := 8) (by decide +kernel) ?_ | refine zh (j := 9) (by decide +kernel) ?_ | refine zh (j := 10) (by decide +kernel) ?_ | refine zh (j := 11) (by decide +kernel) ?_ | refine zh (j := 12) (by decide +kernel) ?_ | refine zh (j := 13) (by decide +kernel) ?_ | refine zh (j := 14) (by decide +kernel) ?_ | refine zh (j := 15) (by decide +kernel) ?_ | refine zh (j := 16) (by decide +kernel) ?_ | refine zh (j := 17) (by decide +kernel) ?_ | refine zh (j := 18) (by decide +kernel) ?_ | refine zh (j := 19) (by decide +kernel) ?_ | refine zh (j := 20) (by decide +kernel) ?_ | refine zh (j := 21) (by decide +kernel) ?_ | refine zh (j := 22) (by decide +kernel) ?_ | refine zh (j := 23) (by decide +kernel) ?_ | refine zh (j := 24) (by decide +kernel) ?_ | refine zcJ za rfl rfl rfl rfl rfl rfl rfl ?_ | refine zai za rfl rfl rfl rfl rfl rfl rfl rfl rfl rfl rfl rfl rfl ?_ | refine zfF rfl rfl rfl rfl rfl rfl rfl rfl ?_ | (apply zl rfl rfl rfl rfl; (exact q_H)) | refine zaz (by decide +kernel) ?_)
 repeat (first | refine zeI rfl rfl rfl rfl rfl rfl c1 rfl ?_ | refine zeI rfl rfl rfl rfl rfl rfl c2 rfl ?_ | refine zeI rfl rfl rfl rfl rfl rfl c3 rfl ?_ | refine zeI rfl rfl rfl rfl rfl rfl c4 rfl ?_ | refine zeI rfl rfl rfl rfl rfl rfl c5 rfl ?_ | refine zh (j := 5) (by decide +kernel) ?_ | refine zh (j := 8) (by decide +kernel) ?_ | refine zh (j := 11) (by decide +kernel) ?_ | refine zh (j := 14) (by decide +kernel) ?_ | refine zh (j := 15) (by decide +kernel) ?_ | refine zh (j := 16) (by decide +kernel) ?_ | (apply zl rfl rfl rfl rfl; exact q_24) | refine zai za rfl rfl rfl rfl rfl rfl rfl rfl rfl rfl rfl rfl rfl ?_ | refine zaz (by decide +kernel) ?_ | refine q_j ?_ | refine zS ?_ | exact zt (h2 := [(501, cntB (vrfs.map fun x => x)), (502, cntB (fils.map fun x => x.nm)), (503, cntB (pls.map fun x => x.nm)), (504, cntB (cls.map fun x => x.nm)), (505, cntB (pols.map fun x => x.nm))]) AWk.refl rfl ⟨(by first | rfl | exact ks1 _ _ | exact ks2 _ _ _ | exact ks3 _ _ _ _ | exact ks4 _ _ _ _ _), (by first | rfl | exact ks1 _ _ | exact ks2 _ _ _ | exact ks3 _ _ _ _ | exact ks4 _ _ _ _ _), (by first | rfl | exact ks1 _ _ | exact ks2 _ _ _ | exact ks3 _ _ _ _ | exact ks4 _ _ _ _ _), (by first | rfl | exact ks1 _ _ | exact ks2 _ _ _ | exact ks3 _ _ _ _ | exact ks4 _ _ _ _ _), (by first | rfl | exact ks1 _ _ | exact ks2 _ _ _ | exact ks3 _ _ _ _ | exact ks4 _ _ _ _ _), trivial⟩ ⟨rfl, rfl⟩)
end Ab
end Go.Proofs.YtoahnbmedcjpeaaGreatDoor

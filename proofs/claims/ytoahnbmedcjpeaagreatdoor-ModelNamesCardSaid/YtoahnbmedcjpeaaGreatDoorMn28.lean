/-
 Texts of a proof, one behind the other (part 29).
-/
import Derived.Test.YtoahnbmedcjpeaaGreatDoorMn3
import Derived.Test.YtoahnbmedcjpeaaGreatDoorMn27
set_option linter.unusedSimpArgs false
set_option linter.unusedVariables false
namespace Go.Proofs.YtoahnbmedcjpeaaGreatDoor
open Go.RowKit Go.Lib
def prtW : Nat → List UInt8
 | 0 => [118, 114, 102]
 | 1 => [105, 102, 97, 99, 101]
 | 2 => [102, 105, 108, 116, 101, 114]
 | 3 => [114, 101, 119, 114, 105, 116, 101]
 | 4 => [115, 116, 97, 116, 105, 99]
 | 5 => [112, 114, 101, 102, 105, 120, 101, 115]
 | 6 => [99, 111, 109, 109, 117, 110, 105, 116, 105, 101, 115]
 | 7 => [112, 111, 108, 105, 99, 121]
 | 8 => [111, 115, 112, 102]
 | _ => [98, 103, 112]
def prtN (d : Dvc) : Nat → Nat
 | 0 => d.vrfs.length
 | 1 => d.ifs.length
 | 2 => d.fils.length
 | 3 => d.rws.length
 | 4 => d.sts.length
 | 5 => d.pls.length
 | 6 => d.cls.length
 | 7 => d.pols.length
 | 8 => d.osp.length
 | _ => d.bgp.length
def prtM : Nat → Int
 | 1 => 64
 | _ => 256
def prtX (d : Dvc) : Nat → Nat → Int
 | 0 => flt0 d
 | 1 => flt1 d
 | 2 => flt2 d
 | 3 => flt3 d
 | 4 => flt4 d
 | 5 => flt5 d
 | 6 => flt6 d
 | 7 => flt7 d
 | 8 => flt8 d
 | _ => flt9 d
def prtF : Nat → FuncId
 | 0 => 116
 | 1 => 120
 | 2 => 122
 | 3 => 125
 | 4 => 127
 | 5 => 129
 | 6 => 132
 | 7 => 135
 | 8 => 138
 | _ => 140
namespace Ab
set_option maxRecDepth 100000
def prtC (d : Dvc) (p : Nat) : Nat → List AVal
 | 0 => [.iptr (dvcD d) 0]
 | 1 => [.ptr p 0, .iptr (dvcD d) 0]
 | 2 => [.iptr (dvcD d) 0]
 | 3 => [.iptr (dvcD d) 0, .ptr p 0]
 | 4 => [.ptr p 0, .iptr (dvcD d) 0]
 | 5 => [.iptr (dvcD d) 0]
 | 6 => [.iptr (dvcD d) 0]
 | 7 => [.ptr p 0, .iptr (dvcD d) 0]
 | 8 => [.ptr p 0, .iptr (dvcD d) 0]
 | _ => [.ptr p 0, .iptr (dvcD d) 0]
def prtA (d : Dvc) (p j : Nat) : List AVal := [.d (sD (prtW j)), .d (iD (prtN d j : Int)), .d (iD (prtM j)), .fn (prtF j) (prtC d p j)]
abbrev parL (d : Dvc) (p : Nat) : List AVal := [0, 1, 2, 3, 4, 5, 6, 7, 8, 9].flatMap (prtA d p)
structure OkD (d : Dvc) : Prop where
 n : ∀ j, prtN d j ≤ 140737488355328
 fok : ∀ x ∈ d.fils, x.ok
 rok : ∀ x ∈ d.fils, ∀ r ∈ x.rs, r.ok'
 sok : ∀ x ∈ d.sts, x.p.ok
 eok : ∀ x ∈ d.pls, ∀ e ∈ x.es, e.ok'
 en : ∀ x ∈ d.pls, x.es.length ≤ 140737488355328
 mn : ∀ x ∈ d.cls, x.ms.length ≤ 140737488355328
 cn : ∀ x ∈ d.pols, x.cs.length ≤ 140737488355328
 pn : ∀ x ∈ d.pols, ∀ c ∈ x.cs, c.pre.length ≤ 140737488355328
 on : ∀ x ∈ d.osp, x.fr.length ≤ 140737488355328
 bn : ∀ x ∈ d.bgp, x.fr.length ≤ 140737488355328
 bt : ∀ x ∈ d.bgp, x.nets.length ≤ 140737488355328
 bp : ∀ x ∈ d.bgp, x.ps.length ≤ 140737488355328
 nok : ∀ x ∈ d.bgp, ∀ p ∈ x.nets, p.ok
theorem zcX {d : Dvc} (h : d.ok) : OkD d := by
 have b2 : d.vrfs.length * 16 ≤ 140737488351232 := h.b2
 have b3 : d.ifs.length * 120 ≤ 140737488351232 := h.b3
 have b4 : d.fils.length * 40 ≤ 140737488351232 := h.b4
 have b5 : d.rws.length * 32 ≤ 140737488351232 := h.b5
 have b6 : d.sts.length * 56 ≤ 140737488351232 := h.b6
 have b7 : d.pls.length * 40 ≤ 140737488351232 := h.b7
 have b8 : d.cls.length * 40 ≤ 140737488351232 := h.b8
 have b9 : d.pols.length * 48 ≤ 140737488351232 := h.b9
 have b10 : d.osp.length * 48 ≤ 140737488351232 := h.b10
 have b11 : d.bgp.length * 96 ≤ 140737488351232 := h.b11
 refine ⟨fun j => ?_, h.fils, h.rok, fun x hx => (h.sts x hx).1, fun x hx => (h.pls x hx).1, fun x hx => ?_, fun x hx => ?_, fun x hx => ?_, fun x hx c hc => ?_, fun x hx => ?_, fun x hx => ?_, fun x hx => ?_, fun x hx => ?_, h.nok⟩
 ·unfold prtN
  split <;> omega
 ·have := (h.pls x hx).2; unfold Bd at this; omega
 ·have := (h.cls x hx).2; unfold Bd at this; omega
 ·have := (h.pols x hx).2; unfold Bd at this; omega
 ·have := ((h.pols x hx).1 c hc).b2; unfold Bd at this; omega
 ·have := h.osp x hx; unfold Osp.ok Bd at this; omega
 ·have := (h.bgp x hx).2.2; unfold Bd at this; omega
 ·have := (h.bgp x hx).1; unfold Bd at this; omega
 ·have := (h.bgp x hx).2.1; unfold Bd at this; omega
theorem zjy (d : Dvc) (hd : OkD d) (j i : Nat) (hj : j < 10) (hi : i < prtN d j) : ACall Tryz.prog (prtF j) ([intA (i : Int)] ++ prtC d 1000 j) (hK (bkOf d)) (fun c h => c = intA (prtX d j i) ∧ h = hK (bkOf d)) := by
 have hn := hd.n j
 match j, hj with
 | 0, _ => exact zjI (bkOf d) d i hi hn
 | 1, _ => exact zjH d i hi hn
 | 2, _ => exact zjG (bkOf d) d i hi hn hd.fok hd.rok
 | 3, _ => exact zjF d i hi
 | 4, _ => exact zjE d i hi hd.sok
 | 5, _ => exact zjD (bkOf d) d i hi hn hd.eok hd.en
 | 6, _ => exact zjC (bkOf d) d i hi hn hd.mn
 | 7, _ => exact zjB d i hi hn hd.cn hd.pn
 | 8, _ => exact zjA d i hi hn hd.on
 | 9, _ => exact zjz d i hi hn hd.bn hd.bt hd.bp hd.nok
abbrev bkM5 : List AVal := [.mp 501, .mp 502, .mp 503, .mp 504, .mp 505]
abbrev bkH5 (b : Bk) : Heap := [(501, cntB b.v), (502, cntB b.f), (503, cntB b.p), (504, cntB b.c), (505, cntB b.o)]
theorem zhB (k : Bk) (q : Nat) (b : ABlk) (j : Nat) (h1 : look (bkH5 k) q = some b) (h2 : blkHas j b = true) : (look (bkH5 k) j).isSome = true := by
 by_cases e1 : 501 = q
 ·subst e1; rw [zb] at h1; cases h1; rw [zbK] at h2; cases h2
 rw [zd _ _ e1] at h1
 by_cases e2 : 502 = q
 ·subst e2; rw [zb] at h1; cases h1; rw [zbK] at h2; cases h2
 rw [zd _ _ e2] at h1
 by_cases e3 : 503 = q
 ·subst e3; rw [zb] at h1; cases h1; rw [zbK] at h2; cases h2
 rw [zd _ _ e3] at h1
 by_cases e4 : 504 = q
 ·subst e4; rw [zb] at h1; cases h1; rw [zbK] at h2; cases h2
 rw [zd _ _ e4] at h1
 by_cases e5 : 505 = q
 ·subst e5; rw [zb] at h1; cases h1; rw [zbK] at h2; cases h2
 rw [zd _ _ e5] at h1; cases h1
theorem zfE {k : Bk} (j : Nat) (hj : (AVal.agg bkM5).has j = true) : (look (bkH5 k) j).isSome = true := by
 have hj2 : ((501 == j) || ((502 == j) || ((503 == j) || ((504 == j) || ((505 == j) || false))))) = true := hj
 simp only [Bool.or_eq_true, beq_iff_eq, Bool.or_false] at hj2
 rcases hj2 with rfl | rfl | rfl | rfl | rfl <;> rfl
attribute [local irreducible] AWp AOps AQ AYield AEff ACall AWk AAny AAt AThen AIn APost NoPanic
set_option maxHeartbeats 16000000 in
theorem zfY (d : Dvc) (hd : OkD d) : ACall Tryz.prog 28 [dvcA d] [] (fun c h => c = .row 56 ∧ h = (56, .rowA 66 4 10 (parL d 3)) :: (3, .var bkM5) :: bkH5 (bkOf d)) := by
 have hb := zhz d (hd.n 0) (hd.n 2) (hd.n 5) (hd.n 6) (hd.n 7)
 obtain ⟨bk, ebk⟩ : ∃ b, bkOf d = b := ⟨_, rfl⟩
 rw [ebk] at hb ⊢
 clear ebk hd
 refine zc za Tryz.func28 rfl Tryz.ntmps28 (congrArg Array.toList Tryz.results28) (by kernel_rfl) rfl ?_
 refine zn ?_
 (first | refine ze ?_ | refine zg rfl mixed (by kernel_rfl) ?_)
 repeat' (first | ((first | apply q_K rfl | apply q_X rfl); (first | exact q_H | fail)) | refine q_d ?_ | refine q_a ?_ | refine q_b ?_ | refine q_e ?_ | refine q_f ?_ | refine q_g ?_ | ((fail_if_success (refine O_wt rfl ?_)); refine O_gs rfl rfl (fun _ => ?_) (fun _ => ?_)) | ((fail_if_success (refine Q_wt rfl ?_)); refine Q_gs rfl rfl (fun _ => ?_) (fun _ => ?_)) | refine zi ?_ | refine zk ?_ | refine q_j ?_ | fail)
 refine zf (zr (id := 1) (ds := dvcD d) rfl rfl) ?_
 refine zF [(1, .iptr (dvcD d) 0), (3, .ptr 3 0)] ((3, .var bkM5) :: bkH5 bk) ?_ ?_
 ·
  (first | refine ze ?_ | refine zg rfl mixed (by kernel_rfl) ?_)
  repeat' (first | ((first | apply q_K rfl | apply q_X rfl); (first | exact q_H | fail)) | refine q_d ?_ | refine q_a ?_ | refine q_b ?_ | refine q_e ?_ | refine q_f ?_ | refine q_g ?_ | ((fail_if_success (refine O_wt rfl ?_)); refine O_gs rfl rfl (fun _ => ?_) (fun _ => ?_)) | ((fail_if_success (refine Q_wt rfl ?_)); refine Q_gs rfl rfl (fun _ => ?_) (fun _ => ?_)) | refine zi ?_ | refine zk ?_ | refine q_j ?_ | (refine O_cN rfl rfl rfl rfl rfl hb rfl (zhB bk) (zfE) ?_))
  exact zq ⟨rfl, rfl, trivial⟩ ⟨rfl, kc1 _ _, kc1 _ _, kc1 _ _, kc1 _ _, kc1 _ _, trivial⟩
 refine zn ?_
 (first | refine ze ?_ | refine zg rfl mixed (by kernel_rfl) ?_)
 repeat' (first | ((first | apply q_K rfl | apply q_X rfl); (first | exact q_H | (exact zK rfl rfl))) | refine q_d ?_ | refine q_a ?_ | refine q_b ?_ | refine q_e ?_ | refine q_f ?_ | refine q_g ?_ | ((fail_if_success (refine O_wt rfl ?_)); refine O_gs rfl rfl (fun _ => ?_) (fun _ => ?_)) | ((fail_if_success (refine Q_wt rfl ?_)); refine Q_gs rfl rfl (fun _ => ?_) (fun _ => ?_)) | refine zi ?_ | refine zk ?_ | refine q_j ?_ | (refine zhY (xs := parL d 3) za rfl rfl rfl rfl rfl rfl rfl rfl rfl (by kernel_rfl) ?_))
 refine zS ?_
 exact zt (h2 := (56, .rowA 66 4 10 (parL d 3)) :: (3, .var bkM5) :: bkH5 bk) AWk.refl rfl ⟨rfl, rfl, kc1 _ _, kc1 _ _, kc1 _ _, kc1 _ _, kc1 _ _, trivial⟩ ⟨rfl, rfl⟩
end Ab
end Go.Proofs.YtoahnbmedcjpeaaGreatDoor

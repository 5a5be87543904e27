/-
 Texts of a proof, one behind the other (part 30).
-/
import Derived.Test.YtoahnbmedcjpeaaGreatDoorMn3
import Derived.Test.YtoahnbmedcjpeaaGreatDoorMn4
import Derived.Test.YtoahnbmedcjpeaaGreatDoorMn19
import Derived.Test.YtoahnbmedcjpeaaGreatDoorMn28
set_option maxRecDepth 100000
set_option linter.unusedSimpArgs false
set_option linter.unusedVariables false
namespace Go.Proofs.YtoahnbmedcjpeaaGreatDoor
open Go.RowKit Go.Lib
def numW (w : List UInt8) (n : Int) : List UInt8 := w ++ [32] ++ Lib.itoa n
def badAt (f : Nat → Int) (n : Nat) : Option Nat := (List.range n).find? fun i => (f i == 1) || (f i == 2)
def prtR (d : Dvc) (j : Nat) : Option (List UInt8 × Int) := if (prtN d j : Int) > prtM j then some (numW (prtW j) (prtM j), 121) else match badAt (prtX d j) (prtN d j) with
 | some i => some (numW (prtW j) (i : Int), if prtX d j i == 1 then 121 else 120)
 | none => none
def prtsR (d : Dvc) (n : Nat) : Option (List UInt8 × Int) := (List.range n).findSome? (prtR d)
def checkL (d : Dvc) : List UInt8 × Int := if nameB d.nm then (if (d.kd != 1) && (d.kd != 2) then ([107, 105, 110, 100], 121) else (prtsR d 10).getD ([], 0)) else ([110, 97, 109, 101], 121)
theorem ze7 {f : Nat → Int} {n : Nat} (h : ∀ i, i < n → ((f i == 1) || (f i == 2)) = false) : badAt f n = none := by
 unfold badAt
 rw [List.find?_eq_none]
 intro i hi
 rw [h i (List.mem_range.1 hi)]
 simp
theorem ze6 {f : Nat → Int} {n i : Nat} (hi : i < n) (h : ∀ k, k < i → ((f k == 1) || (f k == 2)) = false) (hb : ((f i == 1) || (f i == 2)) = true) : badAt f n = some i := by
 unfold badAt
 obtain ⟨m, rfl⟩ : ∃ m, n = i + (m + 1) := ⟨n - i - 1, by omega⟩
 have e1 : (List.range i).find? (fun i => (f i == 1) || (f i == 2)) = none := by
  rw [List.find?_eq_none]
  intro k hk
  rw [h k (List.mem_range.1 hk)]
  simp
 rw [List.range_add, List.find?_append, e1, Option.none_or, List.range_succ_eq_map]
 simp [hb]
theorem zeR {d : Dvc} {n : Nat} (h : ∀ j, j < n → prtR d j = none) : prtsR d n = none := by
 unfold prtsR
 rw [List.findSome?_eq_none_iff]
 intro j hj
 exact h j (List.mem_range.1 hj)
theorem zeQ {d : Dvc} {n j : Nat} {r : List UInt8 × Int} (hj : j < n) (h : ∀ k, k < j → prtR d k = none) (hr : prtR d j = some r) : prtsR d n = some r := by
 unfold prtsR
 obtain ⟨m, rfl⟩ : ∃ m, n = j + (m + 1) := ⟨n - j - 1, by omega⟩
 have e1 : (List.range j).findSome? (prtR d) = none := by
  rw [List.findSome?_eq_none_iff]
  intro k hk
  exact h k (List.mem_range.1 hk)
 rw [List.range_add, List.findSome?_append, e1, Option.none_or, List.range_succ_eq_map]
 simp [hr]
theorem zb3 (j : Nat) : 0 ≤ prtM j ∧ prtM j ≤ 256 := by
 unfold prtM; split <;> omega
namespace Ab
section
variable {P : Program} {nt : Nat} {Q : Post} {e : Env} {h : Heap} {ops : Array Oper} {o : Oper} {rest : List Oper} {T : List Nat}
theorem bappend (a b : List UInt8) : (⟨⟨a⟩⟩ : ByteArray) ++ ⟨⟨b⟩⟩ = ⟨⟨a ++ b⟩⟩ := by
 apply ByteArray.ext
 apply Array.toList_inj.1
 simp [ByteArray.data_append]
theorem zde {t u : TypeId} {x y : Operand} {a b : List UInt8} (ho : o.op = .binOp .add t x y u) (hx : aev e x = some (strA a)) (hy : aev e y = some (strA b)) (hl : a.length + b.length ≤ 1000) : AYield P T e h o (strA (a ++ b)) := zE _ fun w F ι ac E =>
 ⟨.string ⟨⟨a ++ b⟩⟩, zQ rfl, fun w' => by
  simp only [execOp, ho, (zL (zm E hx)).1, (zL (zm E hy)).1]
  have h1 : ¬ (((⟨⟨a⟩⟩ : ByteArray).size + (⟨⟨b⟩⟩ : ByteArray).size : Nat) : Int) > IntKind.i64.max := by
   show ¬ ((a.length + b.length : Nat) : Int) > 9223372036854775807
   omega
  simp only [eqGuard, binOp, Op.stringOp]
  rw [if_neg h1, bappend]
  rfl⟩
end
abbrev ρ6 : List (Nat × Nat) := [(1000, 3), (1001, 501), (1002, 502), (1003, 503), (1004, 504), (1005, 505)]
theorem ρ6_in {p i : Nat} (h : look ρ6 p = some i) : (p = 1000 ∧ i = 3) ∨ (i + 500 = p ∧ 1001 ≤ p ∧ p ≤ 1005) := by
 by_cases h0 : 1000 = p
 ·subst h0; rw [zb] at h; cases h; exact .inl ⟨rfl, rfl⟩
 rw [zd _ _ h0] at h
 by_cases h1 : 1001 = p
 ·subst h1; rw [zb] at h; cases h; exact .inr ⟨rfl, by omega, by omega⟩
 rw [zd _ _ h1] at h
 by_cases h2 : 1002 = p
 ·subst h2; rw [zb] at h; cases h; exact .inr ⟨rfl, by omega, by omega⟩
 rw [zd _ _ h2] at h
 by_cases h3 : 1003 = p
 ·subst h3; rw [zb] at h; cases h; exact .inr ⟨rfl, by omega, by omega⟩
 rw [zd _ _ h3] at h
 by_cases h4 : 1004 = p
 ·subst h4; rw [zb] at h; cases h; exact .inr ⟨rfl, by omega, by omega⟩
 rw [zd _ _ h4] at h
 by_cases h5 : 1005 = p
 ·subst h5; rw [zb] at h; cases h; exact .inr ⟨rfl, by omega, by omega⟩
 rw [zd _ _ h5] at h
 cases h
theorem zfs (b : Bk) {p i : Nat} (h : look ρ6 p = some i) : (look (hK b) p).isSome = true := by
 rcases ρ6_in h with ⟨rfl, _⟩ | ⟨_, h1, h2⟩
 ·rfl
 ·rcases (by omega : p = 1001 ∨ p = 1002 ∨ p = 1003 ∨ p = 1004 ∨ p = 1005) with rfl | rfl | rfl | rfl | rfl <;> rfl
theorem zgG (d : Dvc) (i : Int) (j : Nat) : ([intA i] ++ prtC d 1000 j).map (renV ρ6) = [intA i] ++ prtC d 3 j := by
 unfold prtC
 split <;> rfl
theorem zim (d : Dvc) (i : Int) (j : Nat) : ([intA i] ++ prtC d 1000 j).all (okV ρ6) = true := by
 unfold prtC
 split <;> rfl
section
variable {nt : Nat} {Q : Post} {e : Env} {h : Heap} {ops : Array Oper} {o : Oper} {rest : List Oper}
theorem ziw (b : Bk) (h0 : look h 3 = some (.var bkM5)) (h1 : look h 501 = some (cntB b.v)) (h2 : look h 502 = some (cntB b.f)) (h3 : look h 503 = some (cntB b.p)) (h4 : look h 504 = some (cntB b.c)) (h5 : look h 505 = some (cntB b.o)) (j : Nat) : look h j = look (renH ρ6 (hK b) ++ h) j := by
 show look h j = look ((3, .var bkM5) :: (501, renB _ (cntB b.v)) :: (502, renB _ (cntB b.f)) :: (503, renB _ (cntB b.p)) :: (504, renB _ (cntB b.c)) :: (505, renB _ (cntB b.o)) :: h) j
 simp only [zX]
 by_cases e0 : 3 = j
 ·subst e0; rw [zb, h0]
 rw [zd _ _ e0]
 by_cases e1 : 501 = j
 ·subst e1; rw [zb, h1]
 rw [zd _ _ e1]
 by_cases e2 : 502 = j
 ·subst e2; rw [zb, h2]
 rw [zd _ _ e2]
 by_cases e3 : 503 = j
 ·subst e3; rw [zb, h3]
 rw [zd _ _ e3]
 by_cases e4 : 504 = j
 ·subst e4; rw [zb, h4]
 rw [zd _ _ e4]
 by_cases e5 : 505 = j
 ·subst e5; rw [zb, h5]
 rw [zd _ _ e5]
theorem zfj {x0 : Operand} {args : Array Operand} {ats : Array TypeId} {t : Nat} {d : Dvc} {j i : Nat} {v : Int} (H : ACall Tryz.prog (prtF j) ([intA (i : Int)] ++ prtC d 1000 j) (hK (bkOf d)) (fun c h => c = intA v ∧ h = hK (bkOf d))) (hw : awant ops e o = some true) (hdst : o.dst = some t) (hd : Nat.blt t nt = true) (ho : o.op = .call { callee := .value x0, args := args, argTypes := ats }) (hfn : aev e x0 = some (.fn (prtF j) (prtC d 3 j))) (hx : aevs e args.toList = some [intA (i : Int)])
  (h0 : look h 3 = some (.var bkM5)) (h1 : look h 501 = some (cntB (bkOf d).v)) (h2 : look h 502 = some (cntB (bkOf d).f)) (h3 : look h 503 = some (cntB (bkOf d).p)) (h4 : look h 504 = some (cntB (bkOf d).c)) (h5 : look h 505 = some (cntB (bkOf d).o))
  (HK : AOps Tryz.prog nt ops Q rest ((t, intA v) :: e) h) : AOps Tryz.prog nt ops Q (o :: rest) e h :=
 zkW ρ6 (fun p p' i a c => by
   rcases ρ6_in a with ⟨a1, a2⟩ | ⟨a1, a2, a3⟩ <;> rcases ρ6_in c with ⟨c1, c2⟩ | ⟨c1, c2, c3⟩ <;> omega)
  (fun p i a => ⟨by rcases ρ6_in a with ⟨a1, a2⟩ | ⟨a1, a2, a3⟩ <;> omega, zfs _ a, zfs _ a⟩) H (fun c hc => List.all_eq_true.1 (zim d i j) c hc)
  ⟨⟨3, _, rfl, h0, rfl, fun c hc => by
   rcases List.mem_cons.1 hc with rfl | hc
   ·rfl
   rcases List.mem_cons.1 hc with rfl | hc
   ·rfl
   rcases List.mem_cons.1 hc with rfl | hc
   ·rfl
   rcases List.mem_cons.1 hc with rfl | hc
   ·rfl
   rcases List.mem_cons.1 hc with rfl | hc
   ·rfl
   ·cases hc⟩, ⟨501, _, rfl, h1, zX _ _, zaI _ _⟩, ⟨502, _, rfl, h2, zX _ _, zaI _ _⟩, ⟨503, _, rfl, h3, zX _ _, zaI _ _⟩, ⟨504, _, rfl, h4, zX _ _, zaI _ _⟩, ⟨505, _, rfl, h5, zX _ _, zaI _ _⟩, trivial⟩
  hw hdst hd ho hfn hx rfl (zgG d i j) (zR (zcu (ziw _ h0 h1 h2 h3 h4 h5)) HK)
end
theorem zh5 (d : Dvc) (p j : Nat) (hj : j < 10) : win (parL d p) (j * 4) 4 = prtA d p j := by
 match j, hj with
 | 0, _ => rfl
 | 1, _ => rfl
 | 2, _ => rfl
 | 3, _ => rfl
 | 4, _ => rfl
 | 5, _ => rfl
 | 6, _ => rfl
 | 7, _ => rfl
 | 8, _ => rfl
 | 9, _ => rfl
theorem zjs (d : Dvc) (k : Bk) (q : Nat) (b : ABlk) (j : Nat) (h1 : look ((56, ABlk.rowA 66 4 10 (parL d 3)) :: (3, .var bkM5) :: bkH5 k) q = some b) (h2 : blkHas j b = true) : (look ((56, ABlk.rowA 66 4 10 (parL d 3)) :: (3, .var bkM5) :: bkH5 k) j).isSome = true := by
 by_cases e1 : 56 = q
 ·subst e1
  rw [zb] at h1
  cases h1
  have h3 : hasL j (parL d 3) = true := h2
  have : 3 = j := by
   simp [parL, prtA, hasL, AVal.has, prtC] at h3
   exact h3
  subst this
  rfl
 rw [zd _ _ e1] at h1
 have up : (look (bkH5 k) j).isSome = true → (look ((56, ABlk.rowA 66 4 10 (parL d 3)) :: (3, .var bkM5) :: bkH5 k) j).isSome = true := fun h => by
  by_cases e2 : 56 = j
  ·subst e2; rfl
  rw [zd _ _ e2]
  by_cases e3 : 3 = j
  ·subst e3; rfl
  rw [zd _ _ e3]
  exact h
 by_cases e2 : 3 = q
 ·subst e2
  rw [zb] at h1
  cases h1
  exact up (zfE j h2)
 rw [zd _ _ e2] at h1
 exact up (zhB k q b j h1 h2)
theorem zil (d : Dvc) (k : Bk) (j : Nat) (hj : (AVal.row 56).has j = true) : (look ((56, ABlk.rowA 66 4 10 (parL d 3)) :: (3, .var bkM5) :: bkH5 k) j).isSome = true := by
 have : 56 = j := by simpa [AVal.has] using hj
 subst this
 rfl
theorem zen (n : Nat) (h : n ≤ 256) : (Lib.itoa (n : Int)).length ≤ 20 := by
 have k : ((List.range 257).all fun n => decide ((Lib.itoa (n : Int)).length ≤ 20)) = true := by decide +kernel
 exact of_decide_eq_true (List.all_eq_true.1 k n (List.mem_range.2 (by omega)))
theorem zeb (j : Nat) : (prtW j).length ≤ 11 := by unfold prtW; split <;> decide
theorem zfX (d : Dvc) (j : Nat) : some (killV 5 (.agg (prtA d 3 j))) = some (.agg (prtA d 3 j)) := by
 unfold prtA prtC
 split <;> rfl
theorem zfZ (d : Dvc) : some (killB 5 (.rowA 66 4 10 (parL d 3))) = some (.rowA 66 4 10 (parL d 3)) := rfl
attribute [local irreducible] AWp AOps AQ AYield AEff ACall AWk AAny AAt AThen AIn APost NoPanic
attribute [local irreducible] nameB prtX prtW prtM prtN bkOf
set_option maxHeartbeats 64000000 in
theorem za8 (d : Dvc) (hd : OkD d) : ACall Tryz.prog 8 [dvcA d] [] (Just (.tup [strA (checkL d).1, intA (checkL d).2])) := by
 have hp := zfY d hd
 have h1 := zbS d.nm
 cases hnm : nameB d.nm with
 | false =>
  have hc : checkL d = ([110, 97, 109, 101], 121) := by unfold checkL; rw [hnm]; rfl
  rw [hc]
  rw [hnm] at h1
  refine zc za Tryz.func8 rfl Tryz.ntmps8 (congrArg Array.toList Tryz.results8) (by kernel_rfl) rfl ?_
  repeat (first | refine q_Y ?_ | ((first | apply q_K rfl | apply q_X rfl); (exact q_H)) | refine q_U ?_ | refine q_O h1 ?_)
  exact zo rfl ⟨rfl, rfl⟩
 | true =>
 cases hk1 : (d.kd != 1) && (d.kd != 2) with
 | true =>
  have hc : checkL d = ([107, 105, 110, 100], 121) := by unfold checkL; rw [hnm, hk1]; rfl
  rw [hc]
  rw [hnm] at h1
  rw [Bool.and_eq_true] at hk1
  obtain ⟨k1, k2⟩ := hk1
  refine zc za Tryz.func8 rfl Tryz.ntmps8 (congrArg Array.toList Tryz.results8) (by kernel_rfl) rfl ?_
  repeat' (first | refine zn ?_ | refine zp ?_ | refine ze ?_ | refine zg rfl mixed (by kernel_rfl) ?_ | ((first | apply q_K rfl | apply q_X rfl); (first | exact q_H | fail)) | refine zi ?_ | refine zk ?_ | refine q_j ?_ | refine q_k ?_ | refine q_d ?_ | refine q_a ?_ | refine q_b ?_ | refine q_e ?_ | refine q_f ?_ | refine q_g ?_ | ((fail_if_success (refine O_wt rfl ?_)); refine O_gs rfl rfl (fun _ => ?_) (fun _ => ?_)) | ((fail_if_success (refine Q_wt rfl ?_)); refine Q_gs rfl rfl (fun _ => ?_) (fun _ => ?_)) | refine A_ct rfl ?_ | refine A_cf rfl ?_ | refine zU rfl (fun _ => ?_) (fun _ => ?_) | refine zz ?_ | refine zA ?_ | refine zS ?_ | refine q_l ?_ | refine q_m ?_ | refine q_n ?_ | refine q_h ?_ | refine q_o ?_ | refine q_O h1 ?_)
  all_goals first
   | exact zo rfl ⟨rfl, rfl⟩
   | (exfalso; simp_all; done)
 | false =>
  have hc : checkL d = (prtsR d 10).getD ([], 0) := by unfold checkL; rw [hnm, hk1]; rfl
  have hW : ∀ r, prtsR d 10 = some r → checkL d = r := fun r h => by rw [hc, h]; rfl
  have hN : prtsR d 10 = none → checkL d = ([], 0) := fun h => by rw [hc, h]; rfl
  clear hc
  rw [hnm] at h1
  clear hnm
  obtain ⟨C, hC⟩ : ∃ C, checkL d = C := ⟨_, rfl⟩
  rw [hC] at hW hN ⊢
  clear hC
  have hpa := zjy d hd
  have hnn := hd.n
  refine zc za Tryz.func8 rfl Tryz.ntmps8 (congrArg Array.toList Tryz.results8) (by kernel_rfl) rfl ?_
  refine zn ?_
  (first | refine ze ?_ | refine zg rfl mixed (by kernel_rfl) ?_)
  repeat' (first | ((first | apply q_K rfl | apply q_X rfl); (first | exact q_H | fail)) | refine q_d ?_ | refine q_a ?_ | refine q_b ?_ | refine q_e ?_ | refine q_f ?_ | refine q_g ?_ | ((fail_if_success (refine O_wt rfl ?_)); refine O_gs rfl rfl (fun _ => ?_) (fun _ => ?_)) | ((fail_if_success (refine Q_wt rfl ?_)); refine Q_gs rfl rfl (fun _ => ?_) (fun _ => ?_)) | refine zi ?_ | refine zk ?_ | refine q_j ?_ | fail)
  refine zf (zr (id := 1) (ds := dvcD d) rfl rfl) ?_
  refine zF [(1, .iptr (dvcD d) 0)] [] ?_ ?_
  ·
   repeat' (first | refine zn ?_ | refine zp ?_ | refine ze ?_ | refine zg rfl mixed (by kernel_rfl) ?_ | ((first | apply q_K rfl | apply q_X rfl); (first | exact q_H | fail)) | refine zi ?_ | refine zk ?_ | refine q_j ?_ | refine q_k ?_ | refine q_d ?_ | refine q_a ?_ | refine q_b ?_ | refine q_e ?_ | refine q_f ?_ | refine q_g ?_ | ((fail_if_success (refine O_wt rfl ?_)); refine O_gs rfl rfl (fun _ => ?_) (fun _ => ?_)) | ((fail_if_success (refine Q_wt rfl ?_)); refine Q_gs rfl rfl (fun _ => ?_) (fun _ => ?_)) | refine A_ct rfl ?_ | refine A_cf rfl ?_ | refine zU rfl (fun _ => ?_) (fun _ => ?_) | refine zz ?_ | refine zA ?_ | refine zS ?_ | refine q_l ?_ | refine q_m ?_ | refine q_n ?_ | refine q_h ?_ | refine q_o ?_ | refine q_O h1 ?_)
   all_goals exact q_S
  refine zF [(1, .iptr (dvcD d) 0)] [] ?_ ?_
  ·clear hpa hnn hW hN hp
   repeat' (first | refine zn ?_ | refine zp ?_ | refine ze ?_ | refine zg rfl mixed (by kernel_rfl) ?_ | ((first | apply q_K rfl | apply q_X rfl); (first | exact q_H | fail)) | refine zi ?_ | refine zk ?_ | refine q_j ?_ | refine q_k ?_ | refine q_d ?_ | refine q_a ?_ | refine q_b ?_ | refine q_e ?_ | refine q_f ?_ | refine q_g ?_ | ((fail_if_success (refine O_wt rfl ?_)); refine O_gs rfl rfl (fun _ => ?_) (fun _ => ?_)) | ((fail_if_success (refine Q_wt rfl ?_)); refine Q_gs rfl rfl (fun _ => ?_) (fun _ => ?_)) | refine A_ct rfl ?_ | refine A_cf rfl ?_ | refine zU rfl (fun _ => ?_) (fun _ => ?_) | refine zz ?_ | refine zA ?_ | refine zS ?_ | refine q_l ?_ | refine q_m ?_ | refine q_n ?_ | refine q_h ?_ | refine q_o ?_ | fail)
   all_goals first
    | exact q_S
    | (exfalso; simp_all; done)
  clear hk1 h1 hd
  refine zn ?_
  refine zn ?_
  (first | refine ze ?_ | refine zg rfl mixed (by kernel_rfl) ?_)
  repeat' (first | ((first | apply q_K rfl | apply q_X rfl); (first | exact q_H | (exact zkm za rfl rfl rfl rfl))) | refine q_d ?_ | refine q_a ?_ | refine q_b ?_ | refine q_e ?_ | refine q_f ?_ | refine q_g ?_ | ((fail_if_success (refine O_wt rfl ?_)); refine O_gs rfl rfl (fun _ => ?_) (fun _ => ?_)) | ((fail_if_success (refine Q_wt rfl ?_)); refine Q_gs rfl rfl (fun _ => ?_) (fun _ => ?_)) | refine zi ?_ | refine zk ?_ | refine q_j ?_ | (refine O_cN rfl rfl rfl rfl rfl hp rfl (zjs d _) (zil d _) ?_))
  refine zp ?_
  refine zw (fun j : Nat => [(20, .row 56), (21, intA 10), (22, intA (j : Int))]) (fun j => (56, .rowA 66 4 10 (parL d 3)) :: (3, .var bkM5) :: bkH5 (bkOf d)) (fun j => j ≤ 10 ∧ ∀ k, k < j → prtR d k = none) (fun j => 10 - j) 0 ⟨Nat.zero_le _, fun k h => absurd h (Nat.not_lt_zero k)⟩ (q_S) ?_
  rintro j ⟨hj, hall⟩
  try dsimp only
  by_cases hj10 : j < 10
  ·have hw := zh5 d 3 j hj10
   have hpj := fun i h => hpa j i hj10 h
   have hnj := hnn j
   have hres : ∀ r, prtR d j = some r → C = r := fun r h => hW r (zeQ hj10 hall h)
   clear hpa hnn hW hN hp
   refine zn ?_
   (first | refine ze ?_ | refine zg rfl mixed (by kernel_rfl) ?_)
   repeat' (first | ((first | apply q_K rfl | apply q_X rfl); (first | exact q_H | fail)) | refine q_d ?_ | refine q_a ?_ | refine q_b ?_ | refine q_e ?_ | refine q_f ?_ | refine q_g ?_ | ((fail_if_success (refine O_wt rfl ?_)); refine O_gs rfl rfl (fun _ => ?_) (fun _ => ?_)) | ((fail_if_success (refine Q_wt rfl ?_)); refine Q_gs rfl rfl (fun _ => ?_) (fun _ => ?_)) | refine zi ?_ | refine zk ?_ | refine q_j ?_ | fail)
   refine zn ?_
   refine A_ct rfl ?_
   refine zz ?_
   refine q_j ?_
   refine zn ?_
   refine zp ?_
   refine zF [(5, .ptr 5 0), (20, .row 56), (21, intA 10), (22, intA (j : Int))] ((5, .var (prtA d 3 j)) :: (56, .rowA 66 4 10 (parL d 3)) :: (3, .var bkM5) :: bkH5 (bkOf d)) ?_ ?_
   ·
    (first | refine ze ?_ | refine zg rfl mixed (by kernel_rfl) ?_)
    repeat' (first | ((first | apply q_K rfl | apply q_X rfl); (first | exact q_H | (first | exact zhS za rfl rfl rfl rfl rfl rfl rfl (by omega) | exact ziY za rfl rfl rfl rfl rfl rfl hw rfl rfl))) | refine q_d ?_ | refine q_a ?_ | refine q_b ?_ | refine q_e ?_ | refine q_f ?_ | refine q_g ?_ | ((fail_if_success (refine O_wt rfl ?_)); refine O_gs rfl rfl (fun _ => ?_) (fun _ => ?_)) | ((fail_if_success (refine Q_wt rfl ?_)); refine Q_gs rfl rfl (fun _ => ?_) (fun _ => ?_)) | refine zi ?_ | refine zk ?_ | refine q_j ?_ | fail)
    refine zR (zq (e1 := [(25, .agg (prtA d 3 j)), (5, .ptr 5 0), (20, .row 56), (21, intA 10), (22, intA (j : Int))]) (h1 := (5, .var [.d (.sc (.string ⟨#[]⟩)), .d (.sc (.int .i64 0)), .d (.sc (.int .i64 0)), .d (.sc .nilFunc)]) :: (56, .rowA 66 4 10 (parL d 3)) :: (3, .var bkM5) :: bkH5 (bkOf d)) ⟨zfX d j, rfl, rfl, rfl, rfl, trivial⟩ ⟨rfl, zfZ d, rfl, kc1 _ _, kc1 _ _, kc1 _ _, kc1 _ _, kc1 _ _, trivial⟩) ?_
    refine q_b ?_
    refine zi ?_
    refine q_j ?_
    exact q_S
   by_cases hm : (prtN d j : Int) > prtM j
   ·have hres := hres _ (by unfold prtR; rw [if_pos hm])
    have hit := zg7 (prtM j) (by have := zb3 j; omega) (by have := zb3 j; omega)
    have hle : (Lib.itoa (prtM j)).length ≤ 20 := by
     obtain ⟨n, hn⟩ := Int.eq_ofNat_of_zero_le (zb3 j).1
     have := (zb3 j).2
     rw [hn]; exact zen n (by omega)
    have hwl := zeb j
    subst hres
    repeat (first | refine q_Y ?_ | ((first | apply q_K rfl | apply q_X rfl); (first | exact q_H | (exact zde rfl rfl rfl (by first | (simp only [List.length_append, List.length_cons, List.length_nil]; omega) | omega)))) | refine q_U ?_ | (refine q_Q hit ?_))
    exact zo rfl ⟨rfl, rfl⟩
   ·have hle := (zb3 j).2
    have hwl := zeb j
    repeat (first | refine q_Y ?_ | ((first | apply q_K rfl | apply q_X rfl); (exact q_H)) | refine q_U ?_)
    refine zw (fun i : Nat => [(5, .ptr 5 0), (20, .row 56), (21, intA 10), (22, intA (j : Int)), (39, intA (prtN d j : Int)), (40, intA (i : Int))]) (fun i => (5, .var (prtA d 3 j)) :: (56, .rowA 66 4 10 (parL d 3)) :: (3, .var bkM5) :: bkH5 (bkOf d)) (fun i => i ≤ prtN d j ∧ ∀ k, k < i → ((prtX d j k == 1) || (prtX d j k == 2)) = false) (fun i => prtN d j - i) 0 ⟨Nat.zero_le _, fun k h => absurd h (Nat.not_lt_zero k)⟩ (q_S) ?_
    rintro i ⟨hi, hb⟩
    try dsimp only
    by_cases hin : i < prtN d j
    ·have hc := hpj i hin
     have hit := zg7 (i : Int) (by omega) (by omega)
     have hil := zen i (by omega)
     have hsome : ((prtX d j i == 1) || (prtX d j i == 2)) = true → C = (numW (prtW j) (i : Int), if prtX d j i == 1 then 121 else 120) := fun h => hres _ (by unfold prtR; rw [if_neg hm, ze6 hin hb h])
     have hnext : ((prtX d j i == 1) || (prtX d j i == 2)) = false → ∀ k, k < i + 1 → ((prtX d j k == 1) || (prtX d j k == 2)) = false := fun h k hk => by
      by_cases hki : k = i
      ·subst hki; exact h
      ·exact hb k (by omega)
     obtain ⟨x, hx⟩ : ∃ x, prtX d j i = x := ⟨_, rfl⟩
     rw [hx] at hc hsome hnext
     clear hx hb hpj hres
     by_cases x1 : x = 1
     ·have := hsome (by rw [x1]; rfl)
      subst this x1
      repeat (first | refine q_Y ?_ | ((first | apply q_K rfl | apply q_X rfl); (first | exact q_H | (exact zde rfl rfl rfl (by first | (simp only [List.length_append, List.length_cons, List.length_nil]; omega) | omega)))) | refine q_U ?_ | (first | refine zfj hc rfl rfl rfl rfl rfl rfl rfl rfl rfl rfl rfl rfl ?_ | refine q_Q hit ?_))
      exact zo rfl ⟨rfl, rfl⟩
     ·by_cases x2 : x = 2
      ·have := hsome (by rw [x2]; rfl)
       subst this x2
       repeat (first | refine q_Y ?_ | ((first | apply q_K rfl | apply q_X rfl); (first | exact q_H | (exact zde rfl rfl rfl (by first | (simp only [List.length_append, List.length_cons, List.length_nil]; omega) | omega)))) | refine q_U ?_ | (first | refine zfj hc rfl rfl rfl rfl rfl rfl rfl rfl rfl rfl rfl rfl ?_ | refine q_Q hit ?_))
       exact zo rfl ⟨rfl, rfl⟩
      ·have hn := hnext (by simp [x1, x2])
       clear hsome hnext
       repeat (first | refine q_Y ?_ | ((first | apply q_K rfl | apply q_X rfl); (exact q_H)) | refine q_U ?_ | (first | refine zfj hc rfl rfl rfl rfl rfl rfl rfl rfl rfl rfl rfl rfl ?_))
       exact ⟨i + 1, ⟨by omega, hn⟩, by omega, q_S⟩
    ·obtain rfl : i = prtN d j := by omega
     have hnone : prtR d j = none := by unfold prtR; rw [if_neg hm, ze7 hb]
     repeat (first | refine q_Y ?_ | ((first | apply q_K rfl | apply q_X rfl); (exact q_H)) | refine q_U ?_)
     refine ⟨j + 1, ⟨by omega, fun k hk => ?_⟩, by omega, q_S⟩
     by_cases hkj : k = j
     ·subst hkj; exact hnone
     ·exact hall k (by omega)
  ·obtain rfl : j = 10 := by omega
   have := hN (zeR hall)
   subst this
   repeat (first | refine q_Y ?_ | ((first | apply q_K rfl | apply q_X rfl); (exact q_H)) | refine q_U ?_)
   exact zo rfl ⟨rfl, rfl⟩
end Ab
end Go.Proofs.YtoahnbmedcjpeaaGreatDoor

namespace Go.Proofs.YtoahnbmedcjpeaaGreatDoor.Ab
open Go.RowKit Go.Lib
theorem zaR (x y : List UInt8) : ACall Tryz.prog 146 [strA x, strA y] [] (Just (intA (compareBytes x y))) :=
 zaP (by kernel_rfl) rfl rfl rfl fun w => (Any.strings_Compare Tryz.laysCmpS ⟨⟨x⟩⟩ ⟨⟨y⟩⟩ w).mono fun _ _ ⟨he, hw⟩ => ⟨he, by rw [hw]; exact Below.refl _ _⟩
end Go.Proofs.YtoahnbmedcjpeaaGreatDoor.Ab

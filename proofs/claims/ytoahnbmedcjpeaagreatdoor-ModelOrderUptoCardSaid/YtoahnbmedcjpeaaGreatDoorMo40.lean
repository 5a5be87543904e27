/-
 Texts of a proof, one behind the other (part 41).
-/
import Derived.Test.YtoahnbmedcjpeaaGreatDoorMo3
import Derived.Test.YtoahnbmedcjpeaaGreatDoorMo36
import Derived.Test.YtoahnbmedcjpeaaGreatDoorMo39
set_option linter.unusedSimpArgs false
set_option linter.unusedVariables false
namespace Go.Proofs.YtoahnbmedcjpeaaGreatDoor.Ab
set_option maxRecDepth 100000
open Go.RowKit Go.Lib
attribute [local irreducible] AWp AOps AQ AYield AEff ACall AWk AAny AAt AThen AIn APost NoPanic
theorem zkc {α : Type} {l A M B : List α} (h : A ++ (M ++ B) = l) (hm : M.length ≤ 1) : B.reverse ++ (M ++ A.reverse) = l.reverse := by
 have e : M.reverse = M := by
  match M, hm with
  | [], _ => rfl
  | [x], _ => rfl
 rw [← h, List.reverse_append, List.reverse_append, e, List.append_assoc]
theorem zkd {α : Type} {M : List α} (hm : 2 ≤ M.length) : ∃ x N y, M = x :: (N ++ [y]) := by
 match M, hm with
 | x :: M, hm =>
  rcases List.eq_nil_or_concat M with rfl | ⟨N, y, h⟩
  ·simp at hm
  ·exact ⟨x, N, y, by rw [h, List.concat_eq_append]⟩
def RevS {α : Type} (l : List α) (x : Nat × List α) : Prop := ∃ A M B : List α, x.2 = B.reverse ++ (M ++ A.reverse) ∧ A ++ (M ++ B) = l ∧ A.length = x.1 ∧ B.length = x.1
theorem zdx {α : Type} (l : List α) : RevS l (0, l) := ⟨[], l, [], by simp, by simp, rfl, rfl⟩
theorem zcE {α : Type} {l : List α} {x : Nat × List α} (h : RevS l x) : x.1 + x.1 ≤ l.length ∧ x.2.length = l.length := by
 obtain ⟨A, M, B, h1, h2, h3, h4⟩ := h
 have := congrArg List.length h2
 have e := congrArg List.length h1
 simp only [List.length_append, List.length_reverse] at this e
 omega
theorem zbR {α : Type} {l : List α} {x : Nat × List α} (h : RevS l x) (hk : ¬ (x.1 : Int) < (l.length : Int) - 1 - (x.1 : Int)) : x.2 = l.reverse := by
 obtain ⟨A, M, B, h1, h2, h3, h4⟩ := h
 have := congrArg List.length h2
 simp only [List.length_append] at this
 rw [h1]
 exact zkc h2 (by omega)
theorem zbt {α : Type} {enc : α → List Dat} {k : Nat} (hk : ∀ x, (enc x).length = k) {l : List α} {i : Nat} {L : List α} (h : RevS l (i, L)) (hlt : (i : Int) < (l.length : Int) - 1 - (i : Int)) :
  ∃ (x y : α) (p : Nat) (L2 : List α), L[i]? = some x ∧ L[p]? = some y ∧ (l.length : Int) - 1 - (i : Int) = (p : Int) ∧ i < L.length ∧ p < L.length ∧ (L.flatMap enc).length = L.length * k ∧ (setW (L.flatMap enc) (i * k) (enc y)).length = L.length * k ∧ setW (setW (L.flatMap enc) (i * k) (enc y)) (p * k) (enc x) = L2.flatMap enc ∧ L2.length = L.length ∧ RevS l (i + 1, L2) := by
 obtain ⟨A, M, B, h1, h2, h3, h4⟩ := h
 dsimp only at h1 h3 h4
 have hl := congrArg List.length h2
 simp only [List.length_append] at hl
 obtain ⟨x, N, y, rfl⟩ := zkd (M := M) (by omega)
 simp only [List.length_cons, List.length_append, List.length_nil] at hl
 have e : L = B.reverse ++ x :: (N ++ y :: A.reverse) := by rw [h1]; simp
 have hLl : L.length = l.length := by rw [e]; simp; omega
 have e1 : i = B.reverse.length := by rw [List.length_reverse]; omega
 have e2 : A.length + 1 + N.length = B.reverse.length + 1 + N.length := by rw [List.length_reverse]; omega
 refine ⟨x, y, A.length + 1 + N.length, B.reverse ++ y :: (N ++ x :: A.reverse), ?_, ?_, by omega, by omega, by omega, zb9 hk L, ?_, ?_, ?_, ?_⟩
 ·rw [e]; exact zaW e1
 ·rw [e]; exact zel e2
 ·rw [e, zdf hk _ _ x y (by rw [e1]), zb9 hk]; simp
 ·rw [e]; exact zeZ hk _ _ _ _ _ (by rw [e1]) (by rw [e2])
 ·rw [e]; simp
 ·exact ⟨A ++ [x], N, y :: B, by simp, by rw [← h2]; simp, by simp; omega, by simp; omega⟩
section
variable {P : Program} {nt : Nat} {Q : Post} {e : Env} {h : Heap} {ops : Array Oper} {o : Oper} {T : List Nat} {tab : TTab} {fuel i : Nat} {listed : Array Bool} {rest : List Oper} {el : Nat}
theorem zdU {t id j : Nat} {x : Operand} {l : List (List UInt8)} {y : List UInt8} (TO : TabOk P tab) (ho : o.op = .load t x) (hs : tsize tab t = some 1) (ha : tagg tab t = some false) (hx : aev e x = some (.eptr id (j * 1))) (hb : look h id = some (gR el 1 s1D l)) (hT : T.contains id = false) (hi : l[j]? = some y) : AYield P T e h o (strA y) :=
 zdT TO ho hs ha hx hb hT (zlo za6 hi) rfl rfl
theorem zf6 {t : TypeId} {x y : Operand} {id off n : Nat} {cs : List Dat} {z : List UInt8} (TO : TabOk P tab) (hi : ops[i]? = some o) (hw : awant ops e o = some true) (hdst : o.dst = none) (ho : o.op = .store t x y)
  (hx : aev e x = some (.eptr id off)) (hb : look h id = some (.row el 1 n cs)) (hy : aev e y = some (strA z)) (hs : tsize tab t = some 1)
  (hT : T.contains id = true) (hle : off + 1 ≤ cs.length) (h0 : 0 < n)
  (HK : AAny P nt ops Q T fuel (listed.setIfInBounds i true) e ((id, .row el 1 n (setW cs off (s1D z))) :: h)) : AAt P nt ops Q T fuel listed i e h :=
 zf5 TO hi hw hdst ho hx hb hy rfl rfl hs rfl hT hle h0 HK
end
theorem zlB {d : Dvc} (j : Nat) (hj : (AVal.agg (toV d)).has j = true) : (look (toH d) j).isSome = true := by
 have hj2 : (false || (false || ((26 == j) || ((32 == j) || ((59 == j) || (false || ((71 == j) || ((98 == j) || (false || ((212 == j) || (false || (false || false)))))))))))) = true := hj
 simp only [Bool.or_eq_true, beq_iff_eq, Bool.or_false, Bool.false_or] at hj2
 rcases hj2 with rfl | rfl | rfl | rfl | rfl | rfl <;> rfl
set_option maxHeartbeats 64000000 in
theorem zk0 (d : Dvc) (hd : d.ok) (hn : OkF d) : ACall Tryz.prog 12 [dvcA d] [] (Just (dvcA (aboutL d))) := by
 have ht := zjY d hd
 have b2 : d.vrfs.length * 16 ≤ 140737488351232 := hd.b2
 have n3 := hn.n3
 have n4 := hn.n4
 have n6 := hn.n6
 have n7 := hn.n7
 have n9 := hn.n9
 clear hd hn
 refine zb za Tryz.func12 rfl Tryz.ntmps12 (congrArg Array.toList Tryz.results12) (by kernel_rfl) rfl ?_
 refine zt ?_
 (first | refine zi ?_ | refine zl rfl mixed (by kernel_rfl) ?_)
 repeat' (first | ((first | apply q_K rfl | apply q_X rfl); (first | exact q_H | fail)) | refine q_d ?_ | refine q_a ?_ | refine q_b ?_ | refine q_e ?_ | refine q_f ?_ | refine q_g ?_ | ((fail_if_success (refine O_wt rfl ?_)); refine O_gs rfl rfl (fun _ => ?_) (fun _ => ?_)) | ((fail_if_success (refine Q_wt rfl ?_)); refine Q_gs rfl rfl (fun _ => ?_) (fun _ => ?_)) | refine zo ?_ | refine zq ?_ | refine q_j ?_ | fail)
 refine zK [(1, .ptr 1 0), (2, .ptr 2 0)] [(1, .var (toV d)), (2, dvZ), (26, gR 9 1 s1D d.vrfs), (32, gR 38 11 ifxD d.ifs), (59, gR 82 2 filD d.fils), (71, gR 97 7 staD d.sts), (98, gR 85 2 plstD d.pls), (212, gR 91 3 polD d.pols)] ?_ ?_
 ·
  (first | refine zi ?_ | refine zl rfl mixed (by kernel_rfl) ?_)
  repeat' (first | ((first | apply q_K rfl | apply q_X rfl); (first | exact q_H | fail)) | refine q_d ?_ | refine q_a ?_ | refine q_b ?_ | refine q_e ?_ | refine q_f ?_ | refine q_g ?_ | ((fail_if_success (refine O_wt rfl ?_)); refine O_gs rfl rfl (fun _ => ?_) (fun _ => ?_)) | ((fail_if_success (refine Q_wt rfl ?_)); refine Q_gs rfl rfl (fun _ => ?_) (fun _ => ?_)) | refine zo ?_ | refine zq ?_ | refine q_j ?_ | (refine O_cN rfl rfl rfl rfl rfl ht rfl (zgW rfl) zlB ?_))
  exact q_S
 refine zK [(1, .ptr 1 0), (2, .ptr 2 0)] [(1, .var (toV d)), (2, dvZ), (26, gR 9 1 s1D d.vrfs.reverse), (32, gR 38 11 ifxD d.ifs), (59, gR 82 2 filD d.fils), (71, gR 97 7 staD d.sts), (98, gR 85 2 plstD d.pls), (212, gR 91 3 polD d.pols)] ?_ ?_
 ·refine zt ?_
  (first | refine zi ?_ | refine zl rfl mixed (by kernel_rfl) ?_)
  repeat' (first | ((first | apply q_K rfl | apply q_X rfl); (first | exact q_H | fail)) | refine q_d ?_ | refine q_a ?_ | refine q_b ?_ | refine q_e ?_ | refine q_f ?_ | refine q_g ?_ | ((fail_if_success (refine O_wt rfl ?_)); refine O_gs rfl rfl (fun _ => ?_) (fun _ => ?_)) | ((fail_if_success (refine Q_wt rfl ?_)); refine Q_gs rfl rfl (fun _ => ?_) (fun _ => ?_)) | refine zo ?_ | refine zq ?_ | refine q_j ?_ | fail)
  refine zz ?_
  refine zw (fun x : Nat × List (List UInt8) => [(1, .ptr 1 0), (2, .ptr 2 0), (3, natA x.1), (4, intA ((d.vrfs.length : Int) - 1 - (x.1 : Int)))]) (fun x => [(1, .var (toV d)), (2, dvZ), (26, gR 9 1 s1D x.2), (32, gR 38 11 ifxD d.ifs), (59, gR 82 2 filD d.fils), (71, gR 97 7 staD d.sts), (98, gR 85 2 plstD d.pls), (212, gR 91 3 polD d.pols)]) (RevS d.vrfs) (fun x => d.vrfs.length - x.1) (0, d.vrfs) (zdx _) (zr ⟨rfl, rfl, rfl, congrArg (fun z => some (intA z)) (by show _ = (d.vrfs.length : Int) - 1 - 0; omega), trivial⟩ ⟨rfl, rfl, rfl, rfl, rfl, rfl, rfl, rfl, trivial⟩) ?_
  rintro ⟨i, L⟩ hR
  have hle := zcE hR
  try dsimp only at hle ⊢
  by_cases hlt : (i : Int) < (d.vrfs.length : Int) - 1 - (i : Int)
  ·obtain ⟨x, y, p, L2, g1, g2, g3, g4, g5, g6, g7, g8, g9, hR2⟩ := zbt (enc := s1D) za6 hR hlt
   clear hR
   repeat (first | refine q_Z ?_ | ((first | apply q_K rfl | apply q_X rfl); (exact q_H)) | refine q_U ?_)
   refine zad [26] mixed ?_
   apply zm (i := 0) rfl (by kernel_rfl) (by kernel_rfl) (by kernel_rfl) (by repeat (first | exact zg | exact zn | apply zf | apply zu)) rfl rfl rfl
   exact q_8
   apply zm (i := 1) rfl (by kernel_rfl) (by kernel_rfl) (by kernel_rfl) (by repeat (first | exact zg | exact zn | apply zf | apply zu)) rfl rfl rfl
   exact q_7
   apply zm (i := 2) rfl (by kernel_rfl) (by kernel_rfl) (by kernel_rfl) (by repeat (first | exact zg | exact zn | apply zf | apply zu)) rfl rfl rfl
   exact q_1
   apply zm (i := 3) rfl (by kernel_rfl) (by kernel_rfl) (by kernel_rfl) (by repeat (first | exact zg | exact zn | apply zf | apply zu)) rfl rfl rfl
   exact q_8
   apply zm (i := 4) rfl (by kernel_rfl) (by kernel_rfl) (by kernel_rfl) (by repeat (first | exact zg | exact zn | apply zf | apply zu)) rfl rfl rfl
   exact q_7
   apply zm (i := 5) rfl (by kernel_rfl) (by kernel_rfl) (by kernel_rfl) (by repeat (first | exact zg | exact zn | apply zf | apply zu)) rfl rfl rfl
   exact q_1
   apply zm (i := 6) rfl (by kernel_rfl) (by kernel_rfl) (by kernel_rfl) (by repeat (first | exact zg | exact zn | apply zf | apply zu)) rfl rfl rfl
   exact q_8
   apply zm (i := 7) rfl (by kernel_rfl) (by kernel_rfl) (by kernel_rfl) (by repeat (first | exact zg | exact zn | apply zf | apply zu)) rfl rfl rfl
   exact q_7
   apply zm (i := 8) rfl (by kernel_rfl) (by kernel_rfl) (by kernel_rfl) (by repeat (first | exact zg | exact zn | apply zf | apply zu)) rfl rfl rfl
   exact q_1
   apply zm (i := 9) rfl (by kernel_rfl) (by kernel_rfl) (by kernel_rfl) (by repeat (first | exact zg | exact zn | apply zf | apply zu)) rfl rfl rfl
   exact zab (j := p) za rfl rfl rfl rfl rfl rfl g3 (by omega)
   apply zm (i := 11) rfl (by kernel_rfl) (by kernel_rfl) (by kernel_rfl) (by repeat (first | exact zg | exact zn | apply zf | apply zu)) rfl rfl rfl
   exact q_8
   apply zm (i := 12) rfl (by kernel_rfl) (by kernel_rfl) (by kernel_rfl) (by repeat (first | exact zg | exact zn | apply zf | apply zu)) rfl rfl rfl
   exact q_7
   apply zm (i := 13) rfl (by kernel_rfl) (by kernel_rfl) (by kernel_rfl) (by repeat (first | exact zg | exact zn | apply zf | apply zu)) rfl rfl rfl
   exact q_1
   apply zm (i := 14) rfl (by kernel_rfl) (by kernel_rfl) (by kernel_rfl) (by repeat (first | exact zg | exact zn | apply zf | apply zu)) rfl rfl rfl
   exact zab (j := i) za rfl rfl rfl rfl rfl rfl rfl (by omega)
   refine zbL (j := 10) (k := 15) (l2 := #[true, true, true, true, true, true, true, true, true, true, true, true, true, true, true, true, false, false, false, false]) (by kernel_rfl) (by kernel_rfl) (by kernel_rfl) (by kernel_rfl) (by kernel_rfl) rfl rfl rfl rfl rfl rfl rfl rfl rfl rfl rfl (zdU za rfl rfl rfl rfl rfl rfl g2) (zdU za rfl rfl rfl rfl rfl rfl g1) (zdU za rfl rfl rfl rfl rfl rfl g2) (zdU za rfl rfl rfl rfl rfl rfl g1) ?_
   apply zm (i := 16) rfl (by kernel_rfl) (by kernel_rfl) (by kernel_rfl) (by repeat (first | exact zg | exact zn | apply zf | apply zu)) rfl rfl rfl
   exact zab (j := i) za rfl rfl rfl rfl rfl rfl rfl (by omega)
   refine ze (j := 17) (by kernel_rfl) ?_
   refine zf6 za rfl rfl rfl rfl rfl rfl rfl rfl rfl (by omega) (by omega) ?_
   apply zm (i := 18) rfl (by kernel_rfl) (by kernel_rfl) (by kernel_rfl) (by repeat (first | exact zg | exact zn | apply zf | apply zu)) rfl rfl rfl
   exact zab (j := p) za rfl rfl rfl rfl rfl rfl g3 (by omega)
   refine ze (j := 19) (by kernel_rfl) ?_
   refine zf6 za rfl rfl rfl rfl rfl rfl rfl rfl rfl (by omega) (by omega) ?_
   refine zQ (by kernel_rfl) ?_
   repeat (first | refine q_Z ?_ | ((first | apply q_K rfl | apply q_X rfl); (exact q_H)) | refine q_U ?_)
   exact ⟨(i + 1, L2), hR2, by (try dsimp only); omega, zr ⟨rfl, rfl, rfl, congrArg (fun z => some (intA z)) (by (try dsimp only); omega), trivial⟩ ⟨rfl, rfl, (by show some (ABlk.row _ _ _ _) = _; rw [g8, ← g9]; rfl), rfl, rfl, rfl, rfl, rfl, trivial⟩⟩
  ·have hE := zbR hR hlt
   dsimp only at hE
   subst hE
   repeat (first | refine q_Z ?_ | ((first | apply q_K rfl | apply q_X rfl); (exact q_H)) | refine q_U ?_)
   exact q_S
 refine zK [(1, .ptr 1 0), (2, .ptr 2 0)] [(1, .var (toV d)), (2, dvZ), (26, gR 9 1 s1D d.vrfs.reverse), (32, gR 38 11 ifxD d.ifs.reverse), (59, gR 82 2 filD d.fils), (71, gR 97 7 staD d.sts), (98, gR 85 2 plstD d.pls), (212, gR 91 3 polD d.pols)] ?_ ?_
 ·refine zt ?_
  (first | refine zi ?_ | refine zl rfl mixed (by kernel_rfl) ?_)
  repeat' (first | ((first | apply q_K rfl | apply q_X rfl); (first | exact q_H | fail)) | refine q_d ?_ | refine q_a ?_ | refine q_b ?_ | refine q_e ?_ | refine q_f ?_ | refine q_g ?_ | ((fail_if_success (refine O_wt rfl ?_)); refine O_gs rfl rfl (fun _ => ?_) (fun _ => ?_)) | ((fail_if_success (refine Q_wt rfl ?_)); refine Q_gs rfl rfl (fun _ => ?_) (fun _ => ?_)) | refine zo ?_ | refine zq ?_ | refine q_j ?_ | fail)
  refine zz ?_
  refine zw (fun x : Nat × List (Ifx) => [(1, .ptr 1 0), (2, .ptr 2 0), (5, natA x.1), (6, intA ((d.ifs.length : Int) - 1 - (x.1 : Int)))]) (fun x => [(1, .var (toV d)), (2, dvZ), (26, gR 9 1 s1D d.vrfs.reverse), (32, gR 38 11 ifxD x.2), (59, gR 82 2 filD d.fils), (71, gR 97 7 staD d.sts), (98, gR 85 2 plstD d.pls), (212, gR 91 3 polD d.pols)]) (RevS d.ifs) (fun x => d.ifs.length - x.1) (0, d.ifs) (zdx _) (zr ⟨rfl, rfl, rfl, congrArg (fun z => some (intA z)) (by show _ = (d.ifs.length : Int) - 1 - 0; omega), trivial⟩ ⟨rfl, rfl, rfl, rfl, rfl, rfl, rfl, rfl, trivial⟩) ?_
  rintro ⟨i, L⟩ hR
  have hle := zcE hR
  try dsimp only at hle ⊢
  by_cases hlt : (i : Int) < (d.ifs.length : Int) - 1 - (i : Int)
  ·obtain ⟨x, y, p, L2, g1, g2, g3, g4, g5, g6, g7, g8, g9, hR2⟩ := zbt (enc := ifxD) zao hR hlt
   clear hR
   repeat (first | refine q_Z ?_ | ((first | apply q_K rfl | apply q_X rfl); (exact q_H)) | refine q_U ?_)
   refine zad [32] mixed ?_
   apply zm (i := 0) rfl (by kernel_rfl) (by kernel_rfl) (by kernel_rfl) (by repeat (first | exact zg | exact zn | apply zf | apply zu)) rfl rfl rfl
   exact q_8
   apply zm (i := 1) rfl (by kernel_rfl) (by kernel_rfl) (by kernel_rfl) (by repeat (first | exact zg | exact zn | apply zf | apply zu)) rfl rfl rfl
   exact q_7
   apply zm (i := 2) rfl (by kernel_rfl) (by kernel_rfl) (by kernel_rfl) (by repeat (first | exact zg | exact zn | apply zf | apply zu)) rfl rfl rfl
   exact q_1
   apply zm (i := 3) rfl (by kernel_rfl) (by kernel_rfl) (by kernel_rfl) (by repeat (first | exact zg | exact zn | apply zf | apply zu)) rfl rfl rfl
   exact q_8
   apply zm (i := 4) rfl (by kernel_rfl) (by kernel_rfl) (by kernel_rfl) (by repeat (first | exact zg | exact zn | apply zf | apply zu)) rfl rfl rfl
   exact q_7
   apply zm (i := 5) rfl (by kernel_rfl) (by kernel_rfl) (by kernel_rfl) (by repeat (first | exact zg | exact zn | apply zf | apply zu)) rfl rfl rfl
   exact q_1
   apply zm (i := 6) rfl (by kernel_rfl) (by kernel_rfl) (by kernel_rfl) (by repeat (first | exact zg | exact zn | apply zf | apply zu)) rfl rfl rfl
   exact q_8
   apply zm (i := 7) rfl (by kernel_rfl) (by kernel_rfl) (by kernel_rfl) (by repeat (first | exact zg | exact zn | apply zf | apply zu)) rfl rfl rfl
   exact q_7
   apply zm (i := 8) rfl (by kernel_rfl) (by kernel_rfl) (by kernel_rfl) (by repeat (first | exact zg | exact zn | apply zf | apply zu)) rfl rfl rfl
   exact q_1
   apply zm (i := 9) rfl (by kernel_rfl) (by kernel_rfl) (by kernel_rfl) (by repeat (first | exact zg | exact zn | apply zf | apply zu)) rfl rfl rfl
   exact zab (j := p) za rfl rfl rfl rfl rfl rfl g3 (by omega)
   apply zm (i := 11) rfl (by kernel_rfl) (by kernel_rfl) (by kernel_rfl) (by repeat (first | exact zg | exact zn | apply zf | apply zu)) rfl rfl rfl
   exact q_8
   apply zm (i := 12) rfl (by kernel_rfl) (by kernel_rfl) (by kernel_rfl) (by repeat (first | exact zg | exact zn | apply zf | apply zu)) rfl rfl rfl
   exact q_7
   apply zm (i := 13) rfl (by kernel_rfl) (by kernel_rfl) (by kernel_rfl) (by repeat (first | exact zg | exact zn | apply zf | apply zu)) rfl rfl rfl
   exact q_1
   apply zm (i := 14) rfl (by kernel_rfl) (by kernel_rfl) (by kernel_rfl) (by repeat (first | exact zg | exact zn | apply zf | apply zu)) rfl rfl rfl
   exact zab (j := i) za rfl rfl rfl rfl rfl rfl rfl (by omega)
   refine zbL (j := 10) (k := 15) (l2 := #[true, true, true, true, true, true, true, true, true, true, true, true, true, true, true, true, false, false, false, false]) (by kernel_rfl) (by kernel_rfl) (by kernel_rfl) (by kernel_rfl) (by kernel_rfl) rfl rfl rfl rfl rfl rfl rfl rfl rfl rfl rfl (zE za zao rfl rfl rfl rfl rfl rfl g2) (zE za zao rfl rfl rfl rfl rfl rfl g1) (zE za zao rfl rfl rfl rfl rfl rfl g2) (zE za zao rfl rfl rfl rfl rfl rfl g1) ?_
   apply zm (i := 16) rfl (by kernel_rfl) (by kernel_rfl) (by kernel_rfl) (by repeat (first | exact zg | exact zn | apply zf | apply zu)) rfl rfl rfl
   exact zab (j := i) za rfl rfl rfl rfl rfl rfl rfl (by omega)
   refine ze (j := 17) (by kernel_rfl) ?_
   refine zap za zao rfl rfl rfl rfl rfl rfl rfl rfl rfl (by omega) (by omega) ?_
   apply zm (i := 18) rfl (by kernel_rfl) (by kernel_rfl) (by kernel_rfl) (by repeat (first | exact zg | exact zn | apply zf | apply zu)) rfl rfl rfl
   exact zab (j := p) za rfl rfl rfl rfl rfl rfl g3 (by omega)
   refine ze (j := 19) (by kernel_rfl) ?_
   refine zap za zao rfl rfl rfl rfl rfl rfl rfl rfl rfl (by omega) (by omega) ?_
   refine zQ (by kernel_rfl) ?_
   repeat (first | refine q_Z ?_ | ((first | apply q_K rfl | apply q_X rfl); (exact q_H)) | refine q_U ?_)
   exact ⟨(i + 1, L2), hR2, by (try dsimp only); omega, zr ⟨rfl, rfl, rfl, congrArg (fun z => some (intA z)) (by (try dsimp only); omega), trivial⟩ ⟨rfl, rfl, rfl, (by show some (ABlk.row _ _ _ _) = _; rw [g8, ← g9]; rfl), rfl, rfl, rfl, rfl, trivial⟩⟩
  ·have hE := zbR hR hlt
   dsimp only at hE
   subst hE
   repeat (first | refine q_Z ?_ | ((first | apply q_K rfl | apply q_X rfl); (exact q_H)) | refine q_U ?_)
   exact q_S
 refine zK [(1, .ptr 1 0), (2, .ptr 2 0)] [(1, .var (toV d)), (2, dvZ), (26, gR 9 1 s1D d.vrfs.reverse), (32, gR 38 11 ifxD d.ifs.reverse), (59, gR 82 2 filD d.fils.reverse), (71, gR 97 7 staD d.sts), (98, gR 85 2 plstD d.pls), (212, gR 91 3 polD d.pols)] ?_ ?_
 ·refine zt ?_
  (first | refine zi ?_ | refine zl rfl mixed (by kernel_rfl) ?_)
  repeat' (first | ((first | apply q_K rfl | apply q_X rfl); (first | exact q_H | fail)) | refine q_d ?_ | refine q_a ?_ | refine q_b ?_ | refine q_e ?_ | refine q_f ?_ | refine q_g ?_ | ((fail_if_success (refine O_wt rfl ?_)); refine O_gs rfl rfl (fun _ => ?_) (fun _ => ?_)) | ((fail_if_success (refine Q_wt rfl ?_)); refine Q_gs rfl rfl (fun _ => ?_) (fun _ => ?_)) | refine zo ?_ | refine zq ?_ | refine q_j ?_ | fail)
  refine zz ?_
  refine zw (fun x : Nat × List (Fil) => [(1, .ptr 1 0), (2, .ptr 2 0), (7, natA x.1), (8, intA ((d.fils.length : Int) - 1 - (x.1 : Int)))]) (fun x => [(1, .var (toV d)), (2, dvZ), (26, gR 9 1 s1D d.vrfs.reverse), (32, gR 38 11 ifxD d.ifs.reverse), (59, gR 82 2 filD x.2), (71, gR 97 7 staD d.sts), (98, gR 85 2 plstD d.pls), (212, gR 91 3 polD d.pols)]) (RevS d.fils) (fun x => d.fils.length - x.1) (0, d.fils) (zdx _) (zr ⟨rfl, rfl, rfl, congrArg (fun z => some (intA z)) (by show _ = (d.fils.length : Int) - 1 - 0; omega), trivial⟩ ⟨rfl, rfl, rfl, rfl, rfl, rfl, rfl, rfl, trivial⟩) ?_
  rintro ⟨i, L⟩ hR
  have hle := zcE hR
  try dsimp only at hle ⊢
  by_cases hlt : (i : Int) < (d.fils.length : Int) - 1 - (i : Int)
  ·obtain ⟨x, y, p, L2, g1, g2, g3, g4, g5, g6, g7, g8, g9, hR2⟩ := zbt (enc := filD) zU hR hlt
   clear hR
   repeat (first | refine q_Z ?_ | ((first | apply q_K rfl | apply q_X rfl); (exact q_H)) | refine q_U ?_)
   refine zad [59] mixed ?_
   apply zm (i := 0) rfl (by kernel_rfl) (by kernel_rfl) (by kernel_rfl) (by repeat (first | exact zg | exact zn | apply zf | apply zu)) rfl rfl rfl
   exact q_8
   apply zm (i := 1) rfl (by kernel_rfl) (by kernel_rfl) (by kernel_rfl) (by repeat (first | exact zg | exact zn | apply zf | apply zu)) rfl rfl rfl
   exact q_7
   apply zm (i := 2) rfl (by kernel_rfl) (by kernel_rfl) (by kernel_rfl) (by repeat (first | exact zg | exact zn | apply zf | apply zu)) rfl rfl rfl
   exact q_1
   apply zm (i := 3) rfl (by kernel_rfl) (by kernel_rfl) (by kernel_rfl) (by repeat (first | exact zg | exact zn | apply zf | apply zu)) rfl rfl rfl
   exact q_8
   apply zm (i := 4) rfl (by kernel_rfl) (by kernel_rfl) (by kernel_rfl) (by repeat (first | exact zg | exact zn | apply zf | apply zu)) rfl rfl rfl
   exact q_7
   apply zm (i := 5) rfl (by kernel_rfl) (by kernel_rfl) (by kernel_rfl) (by repeat (first | exact zg | exact zn | apply zf | apply zu)) rfl rfl rfl
   exact q_1
   apply zm (i := 6) rfl (by kernel_rfl) (by kernel_rfl) (by kernel_rfl) (by repeat (first | exact zg | exact zn | apply zf | apply zu)) rfl rfl rfl
   exact q_8
   apply zm (i := 7) rfl (by kernel_rfl) (by kernel_rfl) (by kernel_rfl) (by repeat (first | exact zg | exact zn | apply zf | apply zu)) rfl rfl rfl
   exact q_7
   apply zm (i := 8) rfl (by kernel_rfl) (by kernel_rfl) (by kernel_rfl) (by repeat (first | exact zg | exact zn | apply zf | apply zu)) rfl rfl rfl
   exact q_1
   apply zm (i := 9) rfl (by kernel_rfl) (by kernel_rfl) (by kernel_rfl) (by repeat (first | exact zg | exact zn | apply zf | apply zu)) rfl rfl rfl
   exact zab (j := p) za rfl rfl rfl rfl rfl rfl g3 (by omega)
   apply zm (i := 11) rfl (by kernel_rfl) (by kernel_rfl) (by kernel_rfl) (by repeat (first | exact zg | exact zn | apply zf | apply zu)) rfl rfl rfl
   exact q_8
   apply zm (i := 12) rfl (by kernel_rfl) (by kernel_rfl) (by kernel_rfl) (by repeat (first | exact zg | exact zn | apply zf | apply zu)) rfl rfl rfl
   exact q_7
   apply zm (i := 13) rfl (by kernel_rfl) (by kernel_rfl) (by kernel_rfl) (by repeat (first | exact zg | exact zn | apply zf | apply zu)) rfl rfl rfl
   exact q_1
   apply zm (i := 14) rfl (by kernel_rfl) (by kernel_rfl) (by kernel_rfl) (by repeat (first | exact zg | exact zn | apply zf | apply zu)) rfl rfl rfl
   exact zab (j := i) za rfl rfl rfl rfl rfl rfl rfl (by omega)
   refine zbL (j := 10) (k := 15) (l2 := #[true, true, true, true, true, true, true, true, true, true, true, true, true, true, true, true, false, false, false, false]) (by kernel_rfl) (by kernel_rfl) (by kernel_rfl) (by kernel_rfl) (by kernel_rfl) rfl rfl rfl rfl rfl rfl rfl rfl rfl rfl rfl (zE za zU rfl rfl rfl rfl rfl rfl g2) (zE za zU rfl rfl rfl rfl rfl rfl g1) (zE za zU rfl rfl rfl rfl rfl rfl g2) (zE za zU rfl rfl rfl rfl rfl rfl g1) ?_
   apply zm (i := 16) rfl (by kernel_rfl) (by kernel_rfl) (by kernel_rfl) (by repeat (first | exact zg | exact zn | apply zf | apply zu)) rfl rfl rfl
   exact zab (j := i) za rfl rfl rfl rfl rfl rfl rfl (by omega)
   refine ze (j := 17) (by kernel_rfl) ?_
   refine zap za zU rfl rfl rfl rfl rfl rfl rfl rfl rfl (by omega) (by omega) ?_
   apply zm (i := 18) rfl (by kernel_rfl) (by kernel_rfl) (by kernel_rfl) (by repeat (first | exact zg | exact zn | apply zf | apply zu)) rfl rfl rfl
   exact zab (j := p) za rfl rfl rfl rfl rfl rfl g3 (by omega)
   refine ze (j := 19) (by kernel_rfl) ?_
   refine zap za zU rfl rfl rfl rfl rfl rfl rfl rfl rfl (by omega) (by omega) ?_
   refine zQ (by kernel_rfl) ?_
   repeat (first | refine q_Z ?_ | ((first | apply q_K rfl | apply q_X rfl); (exact q_H)) | refine q_U ?_)
   exact ⟨(i + 1, L2), hR2, by (try dsimp only); omega, zr ⟨rfl, rfl, rfl, congrArg (fun z => some (intA z)) (by (try dsimp only); omega), trivial⟩ ⟨rfl, rfl, rfl, rfl, (by show some (ABlk.row _ _ _ _) = _; rw [g8, ← g9]; rfl), rfl, rfl, rfl, trivial⟩⟩
  ·have hE := zbR hR hlt
   dsimp only at hE
   subst hE
   repeat (first | refine q_Z ?_ | ((first | apply q_K rfl | apply q_X rfl); (exact q_H)) | refine q_U ?_)
   exact q_S
 refine zK [(1, .ptr 1 0), (2, .ptr 2 0)] [(1, .var (toV d)), (2, dvZ), (26, gR 9 1 s1D d.vrfs.reverse), (32, gR 38 11 ifxD d.ifs.reverse), (59, gR 82 2 filD d.fils.reverse), (71, gR 97 7 staD d.sts.reverse), (98, gR 85 2 plstD d.pls), (212, gR 91 3 polD d.pols)] ?_ ?_
 ·refine zt ?_
  (first | refine zi ?_ | refine zl rfl mixed (by kernel_rfl) ?_)
  repeat' (first | ((first | apply q_K rfl | apply q_X rfl); (first | exact q_H | fail)) | refine q_d ?_ | refine q_a ?_ | refine q_b ?_ | refine q_e ?_ | refine q_f ?_ | refine q_g ?_ | ((fail_if_success (refine O_wt rfl ?_)); refine O_gs rfl rfl (fun _ => ?_) (fun _ => ?_)) | ((fail_if_success (refine Q_wt rfl ?_)); refine Q_gs rfl rfl (fun _ => ?_) (fun _ => ?_)) | refine zo ?_ | refine zq ?_ | refine q_j ?_ | fail)
  refine zz ?_
  refine zw (fun x : Nat × List (Sta) => [(1, .ptr 1 0), (2, .ptr 2 0), (9, natA x.1), (10, intA ((d.sts.length : Int) - 1 - (x.1 : Int)))]) (fun x => [(1, .var (toV d)), (2, dvZ), (26, gR 9 1 s1D d.vrfs.reverse), (32, gR 38 11 ifxD d.ifs.reverse), (59, gR 82 2 filD d.fils.reverse), (71, gR 97 7 staD x.2), (98, gR 85 2 plstD d.pls), (212, gR 91 3 polD d.pols)]) (RevS d.sts) (fun x => d.sts.length - x.1) (0, d.sts) (zdx _) (zr ⟨rfl, rfl, rfl, congrArg (fun z => some (intA z)) (by show _ = (d.sts.length : Int) - 1 - 0; omega), trivial⟩ ⟨rfl, rfl, rfl, rfl, rfl, rfl, rfl, rfl, trivial⟩) ?_
  rintro ⟨i, L⟩ hR
  have hle := zcE hR
  try dsimp only at hle ⊢
  by_cases hlt : (i : Int) < (d.sts.length : Int) - 1 - (i : Int)
  ·obtain ⟨x, y, p, L2, g1, g2, g3, g4, g5, g6, g7, g8, g9, hR2⟩ := zbt (enc := staD) zaB hR hlt
   clear hR
   repeat (first | refine q_Z ?_ | ((first | apply q_K rfl | apply q_X rfl); (exact q_H)) | refine q_U ?_)
   refine zad [71] mixed ?_
   apply zm (i := 0) rfl (by kernel_rfl) (by kernel_rfl) (by kernel_rfl) (by repeat (first | exact zg | exact zn | apply zf | apply zu)) rfl rfl rfl
   exact q_8
   apply zm (i := 1) rfl (by kernel_rfl) (by kernel_rfl) (by kernel_rfl) (by repeat (first | exact zg | exact zn | apply zf | apply zu)) rfl rfl rfl
   exact q_7
   apply zm (i := 2) rfl (by kernel_rfl) (by kernel_rfl) (by kernel_rfl) (by repeat (first | exact zg | exact zn | apply zf | apply zu)) rfl rfl rfl
   exact q_1
   apply zm (i := 3) rfl (by kernel_rfl) (by kernel_rfl) (by kernel_rfl) (by repeat (first | exact zg | exact zn | apply zf | apply zu)) rfl rfl rfl
   exact q_8
   apply zm (i := 4) rfl (by kernel_rfl) (by kernel_rfl) (by kernel_rfl) (by repeat (first | exact zg | exact zn | apply zf | apply zu)) rfl rfl rfl
   exact q_7
   apply zm (i := 5) rfl (by kernel_rfl) (by kernel_rfl) (by kernel_rfl) (by repeat (first | exact zg | exact zn | apply zf | apply zu)) rfl rfl rfl
   exact q_1
   apply zm (i := 6) rfl (by kernel_rfl) (by kernel_rfl) (by kernel_rfl) (by repeat (first | exact zg | exact zn | apply zf | apply zu)) rfl rfl rfl
   exact q_8
   apply zm (i := 7) rfl (by kernel_rfl) (by kernel_rfl) (by kernel_rfl) (by repeat (first | exact zg | exact zn | apply zf | apply zu)) rfl rfl rfl
   exact q_7
   apply zm (i := 8) rfl (by kernel_rfl) (by kernel_rfl) (by kernel_rfl) (by repeat (first | exact zg | exact zn | apply zf | apply zu)) rfl rfl rfl
   exact q_1
   apply zm (i := 9) rfl (by kernel_rfl) (by kernel_rfl) (by kernel_rfl) (by repeat (first | exact zg | exact zn | apply zf | apply zu)) rfl rfl rfl
   exact zab (j := p) za rfl rfl rfl rfl rfl rfl g3 (by omega)
   apply zm (i := 11) rfl (by kernel_rfl) (by kernel_rfl) (by kernel_rfl) (by repeat (first | exact zg | exact zn | apply zf | apply zu)) rfl rfl rfl
   exact q_8
   apply zm (i := 12) rfl (by kernel_rfl) (by kernel_rfl) (by kernel_rfl) (by repeat (first | exact zg | exact zn | apply zf | apply zu)) rfl rfl rfl
   exact q_7
   apply zm (i := 13) rfl (by kernel_rfl) (by kernel_rfl) (by kernel_rfl) (by repeat (first | exact zg | exact zn | apply zf | apply zu)) rfl rfl rfl
   exact q_1
   apply zm (i := 14) rfl (by kernel_rfl) (by kernel_rfl) (by kernel_rfl) (by repeat (first | exact zg | exact zn | apply zf | apply zu)) rfl rfl rfl
   exact zab (j := i) za rfl rfl rfl rfl rfl rfl rfl (by omega)
   refine zbL (j := 10) (k := 15) (l2 := #[true, true, true, true, true, true, true, true, true, true, true, true, true, true, true, true, false, false, false, false]) (by kernel_rfl) (by kernel_rfl) (by kernel_rfl) (by kernel_rfl) (by kernel_rfl) rfl rfl rfl rfl rfl rfl rfl rfl rfl rfl rfl (zE za zaB rfl rfl rfl rfl rfl rfl g2) (zE za zaB rfl rfl rfl rfl rfl rfl g1) (zE za zaB rfl rfl rfl rfl rfl rfl g2) (zE za zaB rfl rfl rfl rfl rfl rfl g1) ?_
   apply zm (i := 16) rfl (by kernel_rfl) (by kernel_rfl) (by kernel_rfl) (by repeat (first | exact zg | exact zn | apply zf | apply zu)) rfl rfl rfl
   exact zab (j := i) za rfl rfl rfl rfl rfl rfl rfl (by omega)
   refine ze (j := 17) (by kernel_rfl) ?_
   refine zap za zaB rfl rfl rfl rfl rfl rfl rfl rfl rfl (by omega) (by omega) ?_
   apply zm (i := 18) rfl (by kernel_rfl) (by kernel_rfl) (by kernel_rfl) (by repeat (first | exact zg | exact zn | apply zf | apply zu)) rfl rfl rfl
   exact zab (j := p) za rfl rfl rfl rfl rfl rfl g3 (by omega)
   refine ze (j := 19) (by kernel_rfl) ?_
   refine zap za zaB rfl rfl rfl rfl rfl rfl rfl rfl rfl (by omega) (by omega) ?_
   refine zQ (by kernel_rfl) ?_
   repeat (first | refine q_Z ?_ | ((first | apply q_K rfl | apply q_X rfl); (exact q_H)) | refine q_U ?_)
   exact ⟨(i + 1, L2), hR2, by (try dsimp only); omega, zr ⟨rfl, rfl, rfl, congrArg (fun z => some (intA z)) (by (try dsimp only); omega), trivial⟩ ⟨rfl, rfl, rfl, rfl, rfl, (by show some (ABlk.row _ _ _ _) = _; rw [g8, ← g9]; rfl), rfl, rfl, trivial⟩⟩
  ·have hE := zbR hR hlt
   dsimp only at hE
   subst hE
   repeat (first | refine q_Z ?_ | ((first | apply q_K rfl | apply q_X rfl); (exact q_H)) | refine q_U ?_)
   exact q_S
 refine zK [(1, .ptr 1 0), (2, .ptr 2 0)] [(1, .var (toV d)), (2, dvZ), (26, gR 9 1 s1D d.vrfs.reverse), (32, gR 38 11 ifxD d.ifs.reverse), (59, gR 82 2 filD d.fils.reverse), (71, gR 97 7 staD d.sts.reverse), (98, gR 85 2 plstD d.pls), (212, gR 91 3 polD d.pols.reverse)] ?_ ?_
 ·refine zt ?_
  (first | refine zi ?_ | refine zl rfl mixed (by kernel_rfl) ?_)
  repeat' (first | ((first | apply q_K rfl | apply q_X rfl); (first | exact q_H | fail)) | refine q_d ?_ | refine q_a ?_ | refine q_b ?_ | refine q_e ?_ | refine q_f ?_ | refine q_g ?_ | ((fail_if_success (refine O_wt rfl ?_)); refine O_gs rfl rfl (fun _ => ?_) (fun _ => ?_)) | ((fail_if_success (refine Q_wt rfl ?_)); refine Q_gs rfl rfl (fun _ => ?_) (fun _ => ?_)) | refine zo ?_ | refine zq ?_ | refine q_j ?_ | fail)
  refine zz ?_
  refine zw (fun x : Nat × List (Pol) => [(1, .ptr 1 0), (2, .ptr 2 0), (11, natA x.1), (12, intA ((d.pols.length : Int) - 1 - (x.1 : Int)))]) (fun x => [(1, .var (toV d)), (2, dvZ), (26, gR 9 1 s1D d.vrfs.reverse), (32, gR 38 11 ifxD d.ifs.reverse), (59, gR 82 2 filD d.fils.reverse), (71, gR 97 7 staD d.sts.reverse), (98, gR 85 2 plstD d.pls), (212, gR 91 3 polD x.2)]) (RevS d.pols) (fun x => d.pols.length - x.1) (0, d.pols) (zdx _) (zr ⟨rfl, rfl, rfl, congrArg (fun z => some (intA z)) (by show _ = (d.pols.length : Int) - 1 - 0; omega), trivial⟩ ⟨rfl, rfl, rfl, rfl, rfl, rfl, rfl, rfl, trivial⟩) ?_
  rintro ⟨i, L⟩ hR
  have hle := zcE hR
  try dsimp only at hle ⊢
  by_cases hlt : (i : Int) < (d.pols.length : Int) - 1 - (i : Int)
  ·obtain ⟨x, y, p, L2, g1, g2, g3, g4, g5, g6, g7, g8, g9, hR2⟩ := zbt (enc := polD) zan hR hlt
   clear hR
   repeat (first | refine q_Z ?_ | ((first | apply q_K rfl | apply q_X rfl); (exact q_H)) | refine q_U ?_)
   refine zad [212] mixed ?_
   apply zm (i := 0) rfl (by kernel_rfl) (by kernel_rfl) (by kernel_rfl) (by repeat (first | exact zg | exact zn | apply zf | apply zu)) rfl rfl rfl
   exact q_8
   apply zm (i := 1) rfl (by kernel_rfl) (by kernel_rfl) (by kernel_rfl) (by repeat (first | exact zg | exact zn | apply zf | apply zu)) rfl rfl rfl
   exact q_7
   apply zm (i := 2) rfl (by kernel_rfl) (by kernel_rfl) (by kernel_rfl) (by repeat (first | exact zg | exact zn | apply zf | apply zu)) rfl rfl rfl
   exact q_1
   apply zm (i := 3) rfl (by kernel_rfl) (by kernel_rfl) (by kernel_rfl) (by repeat (first | exact zg | exact zn | apply zf | apply zu)) rfl rfl rfl
   exact q_8
   apply zm (i := 4) rfl (by kernel_rfl) (by kernel_rfl) (by kernel_rfl) (by repeat (first | exact zg | exact zn | apply zf | apply zu)) rfl rfl rfl
   exact q_7
   apply zm (i := 5) rfl (by kernel_rfl) (by kernel_rfl) (by kernel_rfl) (by repeat (first | exact zg | exact zn | apply zf | apply zu)) rfl rfl rfl
   exact q_1
   apply zm (i := 6) rfl (by kernel_rfl) (by kernel_rfl) (by kernel_rfl) (by repeat (first | exact zg | exact zn | apply zf | apply zu)) rfl rfl rfl
   exact q_8
   apply zm (i := 7) rfl (by kernel_rfl) (by kernel_rfl) (by kernel_rfl) (by repeat (first | exact zg | exact zn | apply zf | apply zu)) rfl rfl rfl
   exact q_7
   apply zm (i := 8) rfl (by kernel_rfl) (by kernel_rfl) (by kernel_rfl) (by repeat (first | exact zg | exact zn | apply zf | apply zu)) rfl rfl rfl
   exact q_1
   apply zm (i := 9) rfl (by kernel_rfl) (by kernel_rfl) (by kernel_rfl) (by repeat (first | exact zg | exact zn | apply zf | apply zu)) rfl rfl rfl
   exact zab (j := p) za rfl rfl rfl rfl rfl rfl g3 (by omega)
   apply zm (i := 11) rfl (by kernel_rfl) (by kernel_rfl) (by kernel_rfl) (by repeat (first | exact zg | exact zn | apply zf | apply zu)) rfl rfl rfl
   exact q_8
   apply zm (i := 12) rfl (by kernel_rfl) (by kernel_rfl) (by kernel_rfl) (by repeat (first | exact zg | exact zn | apply zf | apply zu)) rfl rfl rfl
   exact q_7
   apply zm (i := 13) rfl (by kernel_rfl) (by kernel_rfl) (by kernel_rfl) (by repeat (first | exact zg | exact zn | apply zf | apply zu)) rfl rfl rfl
   exact q_1
   apply zm (i := 14) rfl (by kernel_rfl) (by kernel_rfl) (by kernel_rfl) (by repeat (first | exact zg | exact zn | apply zf | apply zu)) rfl rfl rfl
   exact zab (j := i) za rfl rfl rfl rfl rfl rfl rfl (by omega)
   refine zbL (j := 10) (k := 15) (l2 := #[true, true, true, true, true, true, true, true, true, true, true, true, true, true, true, true, false, false, false, false]) (by kernel_rfl) (by kernel_rfl) (by kernel_rfl) (by kernel_rfl) (by kernel_rfl) rfl rfl rfl rfl rfl rfl rfl rfl rfl rfl rfl (zE za zan rfl rfl rfl rfl rfl rfl g2) (zE za zan rfl rfl rfl rfl rfl rfl g1) (zE za zan rfl rfl rfl rfl rfl rfl g2) (zE za zan rfl rfl rfl rfl rfl rfl g1) ?_
   apply zm (i := 16) rfl (by kernel_rfl) (by kernel_rfl) (by kernel_rfl) (by repeat (first | exact zg | exact zn | apply zf | apply zu)) rfl rfl rfl
   exact zab (j := i) za rfl rfl rfl rfl rfl rfl rfl (by omega)
   refine ze (j := 17) (by kernel_rfl) ?_
   refine zap za zan rfl rfl rfl rfl rfl rfl rfl rfl rfl (by omega) (by omega) ?_
   apply zm (i := 18) rfl (by kernel_rfl) (by kernel_rfl) (by kernel_rfl) (by repeat (first | exact zg | exact zn | apply zf | apply zu)) rfl rfl rfl
   exact zab (j := p) za rfl rfl rfl rfl rfl rfl g3 (by omega)
   refine ze (j := 19) (by kernel_rfl) ?_
   refine zap za zan rfl rfl rfl rfl rfl rfl rfl rfl rfl (by omega) (by omega) ?_
   refine zQ (by kernel_rfl) ?_
   repeat (first | refine q_Z ?_ | ((first | apply q_K rfl | apply q_X rfl); (exact q_H)) | refine q_U ?_)
   exact ⟨(i + 1, L2), hR2, by (try dsimp only); omega, zr ⟨rfl, rfl, rfl, congrArg (fun z => some (intA z)) (by (try dsimp only); omega), trivial⟩ ⟨rfl, rfl, rfl, rfl, rfl, rfl, rfl, (by show some (ABlk.row _ _ _ _) = _; rw [g8, ← g9]; rfl), trivial⟩⟩
  ·have hE := zbR hR hlt
   dsimp only at hE
   subst hE
   repeat (first | refine q_Z ?_ | ((first | apply q_K rfl | apply q_X rfl); (exact q_H)) | refine q_U ?_)
   exact q_S
 refine zK [(1, .ptr 1 0), (2, .ptr 2 0)] [(1, .var (toV d)), (2, dvZ), (26, gR 9 1 s1D d.vrfs.reverse), (32, gR 38 11 ifxD d.ifs.reverse), (59, gR 82 2 filD d.fils.reverse), (71, gR 97 7 staD d.sts.reverse), (98, gR 85 2 plstD d.pls.reverse), (212, gR 91 3 polD d.pols.reverse)] ?_ ?_
 ·refine zt ?_
  (first | refine zi ?_ | refine zl rfl mixed (by kernel_rfl) ?_)
  repeat' (first | ((first | apply q_K rfl | apply q_X rfl); (first | exact q_H | fail)) | refine q_d ?_ | refine q_a ?_ | refine q_b ?_ | refine q_e ?_ | refine q_f ?_ | refine q_g ?_ | ((fail_if_success (refine O_wt rfl ?_)); refine O_gs rfl rfl (fun _ => ?_) (fun _ => ?_)) | ((fail_if_success (refine Q_wt rfl ?_)); refine Q_gs rfl rfl (fun _ => ?_) (fun _ => ?_)) | refine zo ?_ | refine zq ?_ | refine q_j ?_ | fail)
  refine zz ?_
  refine zw (fun x : Nat × List (PLst) => [(1, .ptr 1 0), (2, .ptr 2 0), (13, natA x.1), (14, intA ((d.pls.length : Int) - 1 - (x.1 : Int)))]) (fun x => [(1, .var (toV d)), (2, dvZ), (26, gR 9 1 s1D d.vrfs.reverse), (32, gR 38 11 ifxD d.ifs.reverse), (59, gR 82 2 filD d.fils.reverse), (71, gR 97 7 staD d.sts.reverse), (98, gR 85 2 plstD x.2), (212, gR 91 3 polD d.pols.reverse)]) (RevS d.pls) (fun x => d.pls.length - x.1) (0, d.pls) (zdx _) (zr ⟨rfl, rfl, rfl, congrArg (fun z => some (intA z)) (by show _ = (d.pls.length : Int) - 1 - 0; omega), trivial⟩ ⟨rfl, rfl, rfl, rfl, rfl, rfl, rfl, rfl, trivial⟩) ?_
  rintro ⟨i, L⟩ hR
  have hle := zcE hR
  try dsimp only at hle ⊢
  by_cases hlt : (i : Int) < (d.pls.length : Int) - 1 - (i : Int)
  ·obtain ⟨x, y, p, L2, g1, g2, g3, g4, g5, g6, g7, g8, g9, hR2⟩ := zbt (enc := plstD) zN hR hlt
   clear hR
   repeat (first | refine q_Z ?_ | ((first | apply q_K rfl | apply q_X rfl); (exact q_H)) | refine q_U ?_)
   refine zad [98] mixed ?_
   apply zm (i := 0) rfl (by kernel_rfl) (by kernel_rfl) (by kernel_rfl) (by repeat (first | exact zg | exact zn | apply zf | apply zu)) rfl rfl rfl
   exact q_8
   apply zm (i := 1) rfl (by kernel_rfl) (by kernel_rfl) (by kernel_rfl) (by repeat (first | exact zg | exact zn | apply zf | apply zu)) rfl rfl rfl
   exact q_7
   apply zm (i := 2) rfl (by kernel_rfl) (by kernel_rfl) (by kernel_rfl) (by repeat (first | exact zg | exact zn | apply zf | apply zu)) rfl rfl rfl
   exact q_1
   apply zm (i := 3) rfl (by kernel_rfl) (by kernel_rfl) (by kernel_rfl) (by repeat (first | exact zg | exact zn | apply zf | apply zu)) rfl rfl rfl
   exact q_8
   apply zm (i := 4) rfl (by kernel_rfl) (by kernel_rfl) (by kernel_rfl) (by repeat (first | exact zg | exact zn | apply zf | apply zu)) rfl rfl rfl
   exact q_7
   apply zm (i := 5) rfl (by kernel_rfl) (by kernel_rfl) (by kernel_rfl) (by repeat (first | exact zg | exact zn | apply zf | apply zu)) rfl rfl rfl
   exact q_1
   apply zm (i := 6) rfl (by kernel_rfl) (by kernel_rfl) (by kernel_rfl) (by repeat (first | exact zg | exact zn | apply zf | apply zu)) rfl rfl rfl
   exact q_8
   apply zm (i := 7) rfl (by kernel_rfl) (by kernel_rfl) (by kernel_rfl) (by repeat (first | exact zg | exact zn | apply zf | apply zu)) rfl rfl rfl
   exact q_7
   apply zm (i := 8) rfl (by kernel_rfl) (by kernel_rfl) (by kernel_rfl) (by repeat (first | exact zg | exact zn | apply zf | apply zu)) rfl rfl rfl
   exact q_1
   apply zm (i := 9) rfl (by kernel_rfl) (by kernel_rfl) (by kernel_rfl) (by repeat (first | exact zg | exact zn | apply zf | apply zu)) rfl rfl rfl
   exact zab (j := p) za rfl rfl rfl rfl rfl rfl g3 (by omega)
   apply zm (i := 11) rfl (by kernel_rfl) (by kernel_rfl) (by kernel_rfl) (by repeat (first | exact zg | exact zn | apply zf | apply zu)) rfl rfl rfl
   exact q_8
   apply zm (i := 12) rfl (by kernel_rfl) (by kernel_rfl) (by kernel_rfl) (by repeat (first | exact zg | exact zn | apply zf | apply zu)) rfl rfl rfl
   exact q_7
   apply zm (i := 13) rfl (by kernel_rfl) (by kernel_rfl) (by kernel_rfl) (by repeat (first | exact zg | exact zn | apply zf | apply zu)) rfl rfl rfl
   exact q_1
   apply zm (i := 14) rfl (by kernel_rfl) (by kernel_rfl) (by kernel_rfl) (by repeat (first | exact zg | exact zn | apply zf | apply zu)) rfl rfl rfl
   exact zab (j := i) za rfl rfl rfl rfl rfl rfl rfl (by omega)
   refine zbL (j := 10) (k := 15) (l2 := #[true, true, true, true, true, true, true, true, true, true, true, true, true, true, true, true, false, false, false, false]) (by kernel_rfl) (by kernel_rfl) (by kernel_rfl) (by kernel_rfl) (by kernel_rfl) rfl rfl rfl rfl rfl rfl rfl rfl rfl rfl rfl (zE za zN rfl rfl rfl rfl rfl rfl g2) (zE za zN rfl rfl rfl rfl rfl rfl g1) (zE za zN rfl rfl rfl rfl rfl rfl g2) (zE za zN rfl rfl rfl rfl rfl rfl g1) ?_
   apply zm (i := 16) rfl (by kernel_rfl) (by kernel_rfl) (by kernel_rfl) (by repeat (first | exact zg | exact zn | apply zf | apply zu)) rfl rfl rfl
   exact zab (j := i) za rfl rfl rfl rfl rfl rfl rfl (by omega)
   refine ze (j := 17) (by kernel_rfl) ?_
   refine zap za zN rfl rfl rfl rfl rfl rfl rfl rfl rfl (by omega) (by omega) ?_
   apply zm (i := 18) rfl (by kernel_rfl) (by kernel_rfl) (by kernel_rfl) (by repeat (first | exact zg | exact zn | apply zf | apply zu)) rfl rfl rfl
   exact zab (j := p) za rfl rfl rfl rfl rfl rfl g3 (by omega)
   refine ze (j := 19) (by kernel_rfl) ?_
   refine zap za zN rfl rfl rfl rfl rfl rfl rfl rfl rfl (by omega) (by omega) ?_
   refine zQ (by kernel_rfl) ?_
   repeat (first | refine q_Z ?_ | ((first | apply q_K rfl | apply q_X rfl); (exact q_H)) | refine q_U ?_)
   exact ⟨(i + 1, L2), hR2, by (try dsimp only); omega, zr ⟨rfl, rfl, rfl, congrArg (fun z => some (intA z)) (by (try dsimp only); omega), trivial⟩ ⟨rfl, rfl, rfl, rfl, rfl, rfl, (by show some (ABlk.row _ _ _ _) = _; rw [g8, ← g9]; rfl), rfl, trivial⟩⟩
  ·have hE := zbR hR hlt
   dsimp only at hE
   subst hE
   repeat (first | refine q_Z ?_ | ((first | apply q_K rfl | apply q_X rfl); (exact q_H)) | refine q_U ?_)
   exact q_S
 refine zd (zB (id := 26) rfl) ?_
 refine zd (zB (id := 32) rfl) ?_
 refine zd (zB (id := 59) rfl) ?_
 refine zd (zB (id := 71) rfl) ?_
 refine zd (zB (id := 98) rfl) ?_
 refine zd (zB (id := 212) rfl) ?_
 repeat (first | refine q_Z ?_ | ((first | apply q_K rfl | apply q_X rfl); (exact q_H)) | refine q_U ?_)
 exact zA rfl ⟨rfl, rfl⟩
end Go.Proofs.YtoahnbmedcjpeaaGreatDoor.Ab

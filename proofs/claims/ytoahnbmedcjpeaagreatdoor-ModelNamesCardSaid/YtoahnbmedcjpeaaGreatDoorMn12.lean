/-
 Texts of a proof, one behind the other (part 13).
-/
import Derived.Test.YtoahnbmedcjpeaaGreatDoorMn3
import Derived.Test.YtoahnbmedcjpeaaGreatDoorMn4
import Derived.Test.YtoahnbmedcjpeaaGreatDoorMn11
set_option linter.unusedVariables false
set_option linter.unusedSimpArgs false
namespace Go.Proofs.YtoahnbmedcjpeaaGreatDoor.Ab
set_option maxRecDepth 100000
open Go.RowKit Go.Lib Go.Proofs.YtoahnbmedcjpeaaGreatDoor.St
def SwrSt (el k f : Nat) : Prop := ∀ ⦃α : Type⦄ {enc : α → List Dat} (hk : ∀ x, (enc x).length = k) {K : AVal} (A X M Y B : List α) (a b n : Nat) (ha : a = A.length) (hb : b = A.length + X.length + M.length) (hn : n = X.length) (hxy : X.length = Y.length) (hN2 : A.length + X.length + M.length + Y.length + B.length ≤ 1000000000000), ACall Tryz.prog f [.row 1000, natA a, natA b, natA n, K] [(1000, gR el k enc (A ++ (X ++ (M ++ (Y ++ B)))))] (fun c h => c = .tup [] ∧ h = [(1000, gR el k enc (A ++ (Y ++ (M ++ (X ++ B)))))])
theorem qqam0 {T : List Nat} {e : Env} {h : Heap} {o : Oper} {c : AVal} (hy : AYield Tryz.prog T e h o c := by first | exact q_D | exact zeJ za rfl rfl rfl rfl rfl | exact zdT rfl rfl rfl | exact zfG za rfl rfl rfl rfl rfl | exact q_11 | exact q_12 | exact q_20 | exact q_25 | exact q_26 | exact q_23) : AYield Tryz.prog T e h o c := hy
theorem zcL {G : Prop} (s : G := by
 unfold SwrSt
 intro α enc hk K A X M Y B a b n ha hb hn hxy hN2
 refine zc za d_swr rfl n_swr (congrArg Array.toList r_swr) (by kernel_rfl) rfl ?_
 repeat ((fail_if_success refine zu ?_); first | refine q_Y ?_ | ((first | apply q_K rfl | apply q_X rfl); (exact qqam0)) | refine q_T ?_)
 refine zw (fun x : Nat × List α => [(0, .row 1000), (1, natA a), (2, natA b), (3, natA n), (10, natA x.1)]) (fun x => [(1000, gR cE cK enc x.2)]) (fun x => ∃ Yd Xr Xd Yr, x.2 = A ++ (Yd ++ (Xr ++ (M ++ (Xd ++ (Yr ++ B))))) ∧ Yd ++ Yr = Y ∧ Xd ++ Xr = X ∧ Yd.length = x.1 ∧ Xd.length = x.1) (fun x => n - x.1) (0, A ++ (X ++ (M ++ (Y ++ B)))) ⟨[], X, [], Y, rfl, rfl, rfl, rfl, rfl⟩ (q_S) ?_
 rintro ⟨i, L⟩ ⟨Yd, Xr, Xd, Yr, hL, hY, hX, hyd, hxd⟩
 try dsimp only at hL hY hX hyd hxd ⊢
 have hY2 := congrArg List.length hY
 have hX2 := congrArg List.length hX
 rw [List.length_append] at hY2 hX2
 by_cases hlt : i < n
 ·cases Xr with
  | nil => rw [List.length_nil] at hX2; omega
  | cons x Xr =>
  cases Yr with
  | nil => rw [List.length_nil] at hY2; omega
  | cons y Yr =>
  rw [List.length_cons] at hX2 hY2
  have hL2 : L = (A ++ Yd) ++ x :: ((Xr ++ (M ++ Xd)) ++ y :: (Yr ++ B)) := by rw [hL]; simp [List.append_assoc]
  have hlen : L.length = A.length + X.length + M.length + Y.length + B.length := by rw [hL]; simp; omega
  have e1 : a + i = (A ++ Yd).length := by simp; omega
  have e2 : b + i = (A ++ Yd).length + 1 + (Xr ++ (M ++ Xd)).length := by simp; omega
  have g1 : L[a + i]? = some x := by rw [hL2]; exact zar e1
  have g2 : L[b + i]? = some y := by rw [hL2]; exact zdM e2
  have g3 : setW (setW (L.flatMap enc) ((a + i) * cK) (enc y)) ((b + i) * cK) (enc x) = ((A ++ Yd) ++ y :: ((Xr ++ (M ++ Xd)) ++ x :: (Yr ++ B))).flatMap enc := by unfold cK; rw [hL2]; exact zfv hk _ _ _ _ _ (by rw [e1]) (by rw [e2])
  have g4 : (L.flatMap enc).length = L.length * cK := zbO hk L
  have g5 : (setW (L.flatMap enc) ((a + i) * cK) (enc y)).length = L.length * cK := by unfold cK; rw [hL2, zcz hk _ _ x y (by rw [e1]), zbO hk]; simp
  unfold cK at g3 g4 g5
  have g6 : ((A ++ Yd) ++ y :: ((Xr ++ (M ++ Xd)) ++ x :: (Yr ++ B))).length = L.length := by rw [hL2]; simp
  repeat ((fail_if_success refine zu ?_); first | refine q_Y ?_ | ((first | apply q_K rfl | apply q_X rfl); (exact qqam0)) | refine q_T ?_)
  refine zaq [1000] mixed ?_
  apply q_P 0 rfl (by kernel_rfl) rfl rfl rfl
  first | exact q_1 | exact q_F | exact q_9 | exact q_10 | exact q_17
  apply q_P 1 rfl (by kernel_rfl) rfl rfl rfl
  first | exact q_1 | exact q_F | exact q_9 | exact q_10 | exact q_17
  apply q_P 2 rfl (by kernel_rfl) rfl rfl rfl
  first | exact q_1 | exact q_F | exact q_9 | exact q_10 | exact q_17
  apply q_P 3 rfl (by kernel_rfl) rfl rfl rfl
  first | exact q_1 | exact q_F | exact q_9 | exact q_10 | exact q_17
  apply q_P 4 rfl (by kernel_rfl) rfl rfl rfl
  first | exact q_1 | exact q_F | exact q_9 | exact q_10 | exact q_17
  apply q_P 5 rfl (by kernel_rfl) rfl rfl rfl
  first | exact q_1 | exact q_F | exact q_9 | exact q_10 | exact q_17
  apply q_P 6 rfl (by kernel_rfl) rfl rfl rfl
  first | exact q_1 | exact q_F | exact q_9 | exact q_10 | exact q_17
  apply q_P 7 rfl (by kernel_rfl) rfl rfl rfl
  first | exact q_1 | exact q_F | exact q_9 | exact q_10 | exact q_17
  apply q_P 8 rfl (by kernel_rfl) rfl rfl rfl
  first | exact q_1 | exact q_F | exact q_9 | exact q_10 | exact q_17
  apply q_P 9 rfl (by kernel_rfl) rfl rfl rfl
  first | exact q_1 | exact q_F | exact q_9 | exact q_10 | exact q_17
  apply q_P 10 rfl (by kernel_rfl) rfl rfl rfl
  first | exact q_1 | exact q_F | exact q_9 | exact q_10 | exact q_17
  apply q_P 11 rfl (by kernel_rfl) rfl rfl rfl
  first | exact q_1 | exact q_F | exact q_9 | exact q_10 | exact q_17
  apply q_P 12 rfl (by kernel_rfl) rfl rfl rfl
  first | exact q_1 | exact q_F | exact q_9 | exact q_10 | exact q_17
  apply q_P 14 rfl (by kernel_rfl) rfl rfl rfl
  first | exact q_1 | exact q_F | exact q_9 | exact q_10 | exact q_17
  apply q_P 15 rfl (by kernel_rfl) rfl rfl rfl
  first | exact q_1 | exact q_F | exact q_9 | exact q_10 | exact q_17
  apply q_P 16 rfl (by kernel_rfl) rfl rfl rfl
  first | exact q_1 | exact q_F | exact q_9 | exact q_10 | exact q_17
  apply q_P 17 rfl (by kernel_rfl) rfl rfl rfl
  first | exact q_1 | exact q_F | exact q_9 | exact q_10 | exact q_17
  apply q_P 18 rfl (by kernel_rfl) rfl rfl rfl
  first | exact q_1 | exact q_F | exact q_9 | exact q_10 | exact q_17
  refine zdV (j := 13) (k := 19) (l2 := #[true, true, true, true, true, true, true, true, true, true, true, true, true, true, true, true, true, true, true, true, false, false, false, false]) (by kernel_rfl) (by kernel_rfl) (by kernel_rfl) (by kernel_rfl) (by kernel_rfl) rfl rfl rfl rfl rfl rfl rfl rfl rfl rfl rfl (zD za hk rfl rfl rfl rfl rfl rfl g2) (zD za hk rfl rfl rfl rfl rfl rfl g1) (zD za hk rfl rfl rfl rfl rfl rfl g2) (zD za hk rfl rfl rfl rfl rfl rfl g1) ?_
  apply q_P 20 rfl (by kernel_rfl) rfl rfl rfl
  first | exact q_1 | exact q_F | exact q_9 | exact q_10 | exact q_17
  refine zh (j := 21) (by kernel_rfl) ?_
  refine zaG za hk rfl rfl rfl rfl rfl rfl rfl rfl rfl (by omega) (by omega) ?_
  apply q_P 22 rfl (by kernel_rfl) rfl rfl rfl
  first | exact q_1 | exact q_F | exact q_9 | exact q_10 | exact q_17
  refine zh (j := 23) (by kernel_rfl) ?_
  refine zaG za hk rfl rfl rfl rfl rfl rfl rfl rfl rfl (by omega) (by omega) ?_
  refine zaz (by kernel_rfl) ?_
  repeat ((fail_if_success refine zu ?_); first | refine q_Y ?_ | ((first | apply q_K rfl | apply q_X rfl); (exact qqam0)) | refine q_T ?_)
  exact ⟨(i + 1, (A ++ Yd) ++ y :: ((Xr ++ (M ++ Xd)) ++ x :: (Yr ++ B))), ⟨Yd ++ [y], Xr, Xd ++ [x], Yr, by simp [List.append_assoc], by rw [← hY]; simp, by rw [← hX]; simp, by simp [hyd], by simp [hxd]⟩, by (try dsimp only); omega, zq ⟨rfl, rfl, rfl, rfl, rfl, trivial⟩ ⟨by rw [← zfw g3 g6.symm]; rfl, trivial⟩⟩
 ·have h1 : Xr = [] := List.eq_nil_of_length_eq_zero (by omega)
  have h2 : Yr = [] := List.eq_nil_of_length_eq_zero (by omega)
  subst h1 h2
  rw [List.append_nil] at hX hY
  subst hX hY
  repeat ((fail_if_success refine zu ?_); first | refine q_Y ?_ | ((first | apply q_K rfl | apply q_X rfl); (exact qqam0)) | refine q_T ?_)
  exact zal AWk.refl rfl (h2 := [(1000, gR cE cK enc (A ++ (Yd ++ (M ++ (Xd ++ B)))))]) ⟨by rw [hL]; rfl, trivial⟩ ⟨rfl, rfl⟩) : G := s
def RotSt (el k f : Nat) : Prop := ∀ ⦃α : Type⦄ {enc : α → List Dat} (hk : ∀ x, (enc x).length = k) {K : AVal} (hK : KOk K) (A X Y B : List α) (a m b : Nat) (ha : a = A.length) (hm : m = A.length + X.length) (hb : b = A.length + X.length + Y.length) (hx : 0 < X.length) (hy : 0 < Y.length) (hN : A.length + X.length + Y.length + B.length ≤ 1000000000000), ACall Tryz.prog f [.row 1000, natA a, natA m, natA b, K] [(1000, gR el k enc (A ++ (X ++ (Y ++ B))))] (fun c h => c = .tup [] ∧ h = [(1000, gR el k enc (A ++ (Y ++ (X ++ B))))])
theorem zcO {G : Prop} (s : G := by
 unfold RotSt
 intro α enc hk K hK A X Y B a m b ha hm hb hx hy hN
 refine zc za d_rot rfl n_rot (congrArg Array.toList r_rot) (by kernel_rfl) rfl ?_
 repeat ((fail_if_success refine zu ?_); first | refine q_Y ?_ | ((first | apply q_K rfl | apply q_X rfl); (exact qqam0)) | refine q_T ?_)
 refine zp ?_
 refine zw (fun x : Nat × Nat × List α => [(0, .row 1000), (1, natA a), (2, natA m), (3, natA b), (4, K), (10, natA x.1), (11, natA x.2.1)]) (fun x => [(1000, gR cE cK enc x.2.2)]) (fun x => ∃ A' X' Y' B', x.2.2 = A' ++ (X' ++ (Y' ++ B')) ∧ A' ++ (Y' ++ (X' ++ B')) = A ++ (Y ++ (X ++ B)) ∧ A'.length + X'.length = m ∧ X'.length = x.1 ∧ Y'.length = x.2.1 ∧ 0 < x.1 ∧ 0 < x.2.1 ∧ A'.length + X'.length + Y'.length + B'.length ≤ 1000000000000) (fun x => x.1 + x.2.1) (m - a, b - m, A ++ (X ++ (Y ++ B))) ⟨A, X, Y, B, rfl, rfl, hm.symm, by (try dsimp only); omega, by (try dsimp only); omega, by (try dsimp only); omega, by (try dsimp only); omega, hN⟩ (q_S) ?_
 rintro ⟨i, j, L⟩ ⟨A', X', Y', B', hL, hT, hm', hi, hj, hi0, hj0, hN'⟩
 try dsimp only at hL hT hm' hi hj hi0 hj0 hN' ⊢
 subst hL
 by_cases hij : i = j
 ·
  repeat ((fail_if_success refine zu ?_); first | refine q_Y ?_ | ((first | apply q_K rfl | apply q_X rfl); (exact qqam0)) | refine q_T ?_)
  refine O_cU 1000 (swr hk (K := K) A' X' [] Y' B' (m - i) m i (by omega) (by simp; omega) hi.symm (by omega) (by simp; omega)) (ok5 hK _ _ _) rfl rfl rfl rfl rfl rfl (ren5 hK _ _ _) ?_
  repeat ((fail_if_success refine zu ?_); first | refine q_Y ?_ | ((first | apply q_K rfl | apply q_X rfl); (exact qqam0)) | refine q_T ?_)
  exact zal AWk.refl rfl (h2 := [(1000, gR cE cK enc (A ++ (Y ++ (X ++ B))))]) ⟨by rw [← hT]; rfl, trivial⟩ ⟨rfl, rfl⟩
 ·rcases Nat.lt_or_gt_of_ne hij with hlt | hlt
  ·
   repeat ((fail_if_success refine zu ?_); first | refine q_Y ?_ | ((first | apply q_K rfl | apply q_X rfl); (exact qqam0)) | refine q_T ?_)
   have e0 : Y' = Y'.take (j - i) ++ Y'.drop (j - i) := (List.take_append_drop ..).symm
   have e1 : (Y'.take (j - i)).length = j - i := by rw [List.length_take]; omega
   have e2 : (Y'.drop (j - i)).length = i := by rw [List.length_drop]; omega
   generalize Y'.take (j - i) = Y1 at e0 e1
   generalize Y'.drop (j - i) = Y2 at e0 e2
   subst e0
   rw [List.length_append] at hN'
   rw [show A' ++ (X' ++ ((Y1 ++ Y2) ++ B')) = A' ++ (X' ++ (Y1 ++ (Y2 ++ B'))) by rw [List.append_assoc]]
   refine O_cU 1000 (swr hk (K := K) A' X' Y1 Y2 B' (m - i) (m + j - i) i (by omega) (by omega) hi.symm (by omega) (by omega)) (ok5 hK _ _ _) rfl rfl rfl rfl rfl rfl (ren5 hK _ _ _) ?_
   repeat ((fail_if_success refine zu ?_); first | refine q_Y ?_ | ((first | apply q_K rfl | apply q_X rfl); (exact qqam0)) | refine q_T ?_)
   exact ⟨(i, j - i, A' ++ (Y2 ++ (Y1 ++ (X' ++ B')))), ⟨A', Y2, Y1, X' ++ B', rfl, by rw [← hT]; simp [List.append_assoc], by omega, e2, e1, hi0, by (try dsimp only); omega, by rw [List.length_append]; omega⟩, by (try dsimp only); omega, q_S⟩
  ·
   repeat ((fail_if_success refine zu ?_); first | refine q_Y ?_ | ((first | apply q_K rfl | apply q_X rfl); (exact qqam0)) | refine q_T ?_)
   have e0 : X' = X'.take j ++ X'.drop j := (List.take_append_drop ..).symm
   have e1 : (X'.take j).length = j := by rw [List.length_take]; omega
   have e2 : (X'.drop j).length = i - j := by rw [List.length_drop]; omega
   generalize X'.take j = X1 at e0 e1
   generalize X'.drop j = X2 at e0 e2
   subst e0
   rw [List.length_append] at hN' hi hm'
   rw [show A' ++ ((X1 ++ X2) ++ (Y' ++ B')) = A' ++ (X1 ++ (X2 ++ (Y' ++ B'))) by rw [List.append_assoc]]
   refine O_cU 1000 (swr hk (K := K) A' X1 X2 Y' B' (m - i) m j (by omega) (by omega) e1.symm (by omega) (by omega)) (ok5 hK _ _ _) rfl rfl rfl rfl rfl rfl (ren5 hK _ _ _) ?_
   repeat ((fail_if_success refine zu ?_); first | refine q_Y ?_ | ((first | apply q_K rfl | apply q_X rfl); (exact qqam0)) | refine q_T ?_)
   exact ⟨(i - j, j, A' ++ (Y' ++ (X2 ++ (X1 ++ B')))), ⟨A' ++ Y', X2, X1, B', by simp [List.append_assoc], by rw [← hT]; simp [List.append_assoc], by rw [List.length_append]; omega, e2, e1, by (try dsimp only); omega, hj0, by rw [List.length_append]; omega⟩, by (try dsimp only); omega, q_S⟩) : G := s
def InsSt (el k f : Nat) : Prop := ∀ ⦃α : Type⦄ {enc : α → List Dat} (hk : ∀ x, (enc x).length = k) {fc : FuncId} {caps : List AVal} {lt : α → α → Bool} {cmpI : α → α → Int} (W : Weak lt) (hlt : ∀ x y, lt x y = decide (cmpI x y < 0)) (HC : ∀ x y, ACall Tryz.prog fc ([gA enc x, gA enc y] ++ caps) [] (Just (intA (cmpI x y)))) (A S B : List α) (a b : Nat) (ha : a = A.length) (hb : b = A.length + S.length) (hN : A.length + S.length + B.length ≤ 1000000000000), ACall Tryz.prog f [.row 1000, natA a, natA b, .fn fc caps] [(1000, gR el k enc (A ++ (S ++ B)))] (fun c h => c = .tup [] ∧ h = [(1000, gR el k enc (A ++ (stS lt S ++ B)))])
theorem zcP {G : Prop} (s : G := by
 unfold InsSt
 intro α enc hk fc caps lt cmpI W hlt HC A S B a b ha hb hN
 refine zc za d_ins rfl n_ins (congrArg Array.toList r_ins) (by kernel_rfl) rfl ?_
 repeat ((fail_if_success refine zu ?_); first | refine q_Y ?_ | ((first | apply q_K rfl | apply q_X rfl); (exact qqam0)) | refine q_T ?_)
 refine zw (fun x : Nat × List α => [(0, .row 1000), (1, natA a), (2, natA b), (3, .fn fc caps), (8, natA x.1)]) (fun x => [(1000, gR cE cK enc x.2)]) (fun x => ∃ S1 S2, S = S1 ++ S2 ∧ x.2 = A ++ (stS lt S1 ++ (S2 ++ B)) ∧ (x.1 = a + S1.length ∨ (S = [] ∧ x.1 = a + 1))) (fun x => b - x.1) (a + 1, A ++ (S ++ B)) (by
  cases S with
  | nil => exact ⟨[], [], rfl, rfl, Or.inr ⟨rfl, rfl⟩⟩
  | cons x r => exact ⟨[x], r, rfl, by rw [zdz]; rfl, Or.inl rfl⟩) (q_S) ?_
 rintro ⟨i, L⟩ ⟨S1, S2, hS, hL, hi⟩
 try dsimp only at hS hL hi ⊢
 have hS' := congrArg List.length hS
 rw [List.length_append] at hS'
 by_cases hlb : i < b
 ·have hi : i = a + S1.length := hi.elim id fun h => by rw [h.1] at hb; simp at hb; omega
  cases S2 with
  | nil => simp at hS'; omega
  | cons x S2 =>
  rw [List.length_cons] at hS'
  repeat ((fail_if_success refine zu ?_); first | refine q_Y ?_ | ((first | apply q_K rfl | apply q_X rfl); (exact qqam0)) | refine q_T ?_)
  refine zw (fun y : Nat × List α => [(0, .row 1000), (1, natA a), (2, natA b), (3, .fn fc caps), (8, natA i), (9, natA y.1)]) (fun y => [(1000, gR cE cK enc y.2)]) (fun y => ∃ p q, y.2 = A ++ (p ++ x :: (q ++ (S2 ++ B))) ∧ y.1 = a + p.length ∧ Srt lt p ∧ mrg lt p [x] ++ q = mrg lt (stS lt S1) [x] ∧ p.length + q.length = S1.length) (fun y => y.1 - a) (i, L) ⟨stS lt S1, [], by rw [hL]; rfl, by rw [zaL]; exact hi, zbz W _, by rw [List.append_nil], by rw [zaL]; rfl⟩ (q_S) ?_
  rintro ⟨j, L2⟩ ⟨p, q, hL2, hj, hp, hm, hpq⟩
  try dsimp only at hL2 hj hp hm hpq ⊢
  have hlen : L2.length = A.length + S.length + B.length := by rw [hL2]; simp; omega
  rcases List.eq_nil_or_concat p with rfl | ⟨p', y, hpy⟩
  ·have hja : j = a := by simpa using hj
   have hnj : ¬ a < j := by omega
   repeat ((fail_if_success refine zu ?_); first | refine q_Y ?_ | ((first | apply q_K rfl | apply q_X rfl); (exact qqam0)) | refine q_T ?_)
   refine ⟨(i + 1, L2), ⟨S1 ++ [x], S2, by rw [hS]; simp, ?_, Or.inl (by simp; omega)⟩, by (try dsimp only); omega, q_S⟩
   rw [zbA W, zdz, ← hm, zaK, hL2]; simp
  ·rw [List.concat_eq_append] at hpy
   subst hpy
   rw [List.length_append, List.length_cons, List.length_nil] at hj hpq
   have hja : a < j := by omega
   have hL3 : L2 = (A ++ p') ++ y :: ([] ++ x :: (q ++ (S2 ++ B))) := by rw [hL2]; simp
   have e1 : j - 1 = (A ++ p').length := by simp; omega
   have e2 : j = (A ++ p').length + 1 + ([] : List α).length := by simp; omega
   have g1 : L2[j - 1]? = some y := by rw [hL3]; exact zar e1
   have g2 : L2[j]? = some x := by rw [hL3]; exact zdM e2
   have hj1 : j < L2.length := by omega
   have hc := HC x y
   cases hl : lt x y
   ·have hz : ¬ cmpI x y < 0 := by rw [hlt] at hl; exact of_decide_eq_false hl
    repeat ((fail_if_success refine zu ?_); first | refine q_Y ?_ | ((first | apply q_K rfl | apply q_X rfl); (exact qqam0)) | refine q_T ?_ | first | ((first | apply q_K rfl | apply q_X rfl); exact zD za hk rfl rfl rfl rfl rfl rfl g1) | ((first | apply q_K rfl | apply q_X rfl); exact zD za hk rfl rfl rfl rfl rfl rfl g2) | refine Q_cF rfl rfl rfl rfl rfl rfl hc rfl (fun _ _ _ => zB _ _ _ _ _ rfl rfl) ?_)
    refine ⟨(i + 1, L2), ⟨S1 ++ [x], S2, by rw [hS]; simp, ?_, Or.inl (by simp; omega)⟩, by (try dsimp only); omega, q_S⟩
    rw [zbA W, zdz, ← hm, zb5 W hp hl, hL2]; simp
   ·have hz : cmpI x y < 0 := by rw [hlt] at hl; exact of_decide_eq_true hl
    have g3 : setW (setW (L2.flatMap enc) (j * cK) (enc y)) ((j - 1) * cK) (enc x) = ((A ++ p') ++ x :: ([] ++ y :: (q ++ (S2 ++ B)))).flatMap enc := by
     unfold cK
     rw [hL3]
     exact zfu hk _ _ _ _ _ (by rw [e1]) (by rw [← e2])
    have g4 : (L2.flatMap enc).length = L2.length * cK := zbO hk L2
    have g5 : (setW (L2.flatMap enc) (j * cK) (enc y)).length = L2.length * cK := by unfold cK; rw [hL3, show (A ++ p') ++ y :: ([] ++ x :: (q ++ (S2 ++ B))) = ((A ++ p') ++ y :: []) ++ x :: (q ++ (S2 ++ B)) by simp, zcz hk _ _ x y (by rw [e2]; simp; omega), zbO hk]; simp
    unfold cK at g3 g4 g5
    have g6 : ((A ++ p') ++ x :: ([] ++ y :: (q ++ (S2 ++ B)))).length = L2.length := by rw [hL3]; simp
    repeat ((fail_if_success refine zu ?_); first | refine q_Y ?_ | ((first | apply q_K rfl | apply q_X rfl); (exact qqam0)) | refine q_T ?_ | first | ((first | apply q_K rfl | apply q_X rfl); exact zD za hk rfl rfl rfl rfl rfl rfl g1) | ((first | apply q_K rfl | apply q_X rfl); exact zD za hk rfl rfl rfl rfl rfl rfl g2) | refine Q_cF rfl rfl rfl rfl rfl rfl hc rfl (fun _ _ _ => zB _ _ _ _ _ rfl rfl) ?_)
    refine zaq [1000] mixed ?_
    apply q_P 0 rfl (by kernel_rfl) rfl rfl rfl
    first | exact q_1 | exact q_F | exact q_9 | exact q_10 | exact q_17
    apply q_P 1 rfl (by kernel_rfl) rfl rfl rfl
    first | exact q_1 | exact q_F | exact q_9 | exact q_10 | exact q_17
    apply q_P 2 rfl (by kernel_rfl) rfl rfl rfl
    first | exact q_1 | exact q_F | exact q_9 | exact q_10 | exact q_17
    apply q_P 3 rfl (by kernel_rfl) rfl rfl rfl
    first | exact q_1 | exact q_F | exact q_9 | exact q_10 | exact q_17
    apply q_P 4 rfl (by kernel_rfl) rfl rfl rfl
    first | exact q_1 | exact q_F | exact q_9 | exact q_10 | exact q_17
    apply q_P 5 rfl (by kernel_rfl) rfl rfl rfl
    first | exact q_1 | exact q_F | exact q_9 | exact q_10 | exact q_17
    apply q_P 6 rfl (by kernel_rfl) rfl rfl rfl
    first | exact q_1 | exact q_F | exact q_9 | exact q_10 | exact q_17
    apply q_P 7 rfl (by kernel_rfl) rfl rfl rfl
    first | exact q_1 | exact q_F | exact q_9 | exact q_10 | exact q_17
    apply q_P 8 rfl (by kernel_rfl) rfl rfl rfl
    first | exact q_1 | exact q_F | exact q_9 | exact q_10 | exact q_17
    apply q_P 10 rfl (by kernel_rfl) rfl rfl rfl
    first | exact q_1 | exact q_F | exact q_9 | exact q_10 | exact q_17
    apply q_P 11 rfl (by kernel_rfl) rfl rfl rfl
    first | exact q_1 | exact q_F | exact q_9 | exact q_10 | exact q_17
    apply q_P 12 rfl (by kernel_rfl) rfl rfl rfl
    first | exact q_1 | exact q_F | exact q_9 | exact q_10 | exact q_17
    refine zdV (j := 9) (k := 13) (l2 := #[true, true, true, true, true, true, true, true, true, true, true, true, true, true, false, false, false, false]) (by kernel_rfl) (by kernel_rfl) (by kernel_rfl) (by kernel_rfl) (by kernel_rfl) rfl rfl rfl rfl rfl rfl rfl rfl rfl rfl rfl (zD za hk rfl rfl rfl rfl rfl rfl g1) (zD za hk rfl rfl rfl rfl rfl rfl g2) (zD za hk rfl rfl rfl rfl rfl rfl g1) (zD za hk rfl rfl rfl rfl rfl rfl g2) ?_
    apply q_P 14 rfl (by kernel_rfl) rfl rfl rfl
    first | exact q_1 | exact q_F | exact q_9 | exact q_10 | exact q_17
    refine zh (j := 15) (by kernel_rfl) ?_
    refine zaG za hk rfl rfl rfl rfl rfl rfl rfl rfl rfl (by omega) (by omega) ?_
    apply q_P 16 rfl (by kernel_rfl) rfl rfl rfl
    first | exact q_1 | exact q_F | exact q_9 | exact q_10 | exact q_17
    refine zh (j := 17) (by kernel_rfl) ?_
    refine zaG za hk rfl rfl rfl rfl rfl rfl rfl rfl rfl (by omega) (by omega) ?_
    refine zaz (by kernel_rfl) ?_
    repeat ((fail_if_success refine zu ?_); first | refine q_Y ?_ | ((first | apply q_K rfl | apply q_X rfl); (exact qqam0)) | refine q_T ?_)
    exact ⟨(j - 1, (A ++ p') ++ x :: ([] ++ y :: (q ++ (S2 ++ B)))), ⟨p', y :: q, by simp, by (try dsimp only); omega, hp.app.1, by rw [← hm, zdH W hl]; simp, by rw [List.length_cons]; omega⟩, by (try dsimp only); omega, zq ⟨rfl, rfl, rfl, rfl, rfl, rfl, trivial⟩ ⟨by rw [← zfw g3 g6.symm]; rfl, trivial⟩⟩
 ·have h3 : S2.length = 0 := by
   rcases hi with hi | ⟨hi, _⟩
   ·omega
   ·rw [hi, List.length_nil] at hS'; omega
  have h2 : S2 = [] := List.eq_nil_of_length_eq_zero h3
  subst h2
  rw [List.append_nil] at hS
  subst hS
  repeat ((fail_if_success refine zu ?_); first | refine q_Y ?_ | ((first | apply q_K rfl | apply q_X rfl); (exact qqam0)) | refine q_T ?_)
  exact zal AWk.refl rfl (h2 := [(1000, gR cE cK enc (A ++ (stS lt S ++ B)))]) ⟨by rw [hL]; rfl, trivial⟩ ⟨rfl, rfl⟩) : G := s
def SymSt (el k f : Nat) : Prop := ∀ ⦃α : Type⦄ {enc : α → List Dat} (hk : ∀ x, (enc x).length = k) {fc : FuncId} {caps : List AVal} (hK : KOk (.fn fc caps)) {lt : α → α → Bool} {cmpI : α → α → Int} (W : Weak lt) (hlt : ∀ x y, lt x y = decide (cmpI x y < 0)) (HC : ∀ x y, ACall Tryz.prog fc ([gA enc x, gA enc y] ++ caps) [] (Just (intA (cmpI x y)))), ∀ (N : Nat) (A L R B : List α) (a m b : Nat), L.length + R.length ≤ N → a = A.length → m = A.length + L.length → b = A.length + L.length + R.length → 0 < L.length → 0 < R.length → Srt lt L → Srt lt R → A.length + L.length + R.length + B.length ≤ 1000000000000 →
  ACall Tryz.prog f [.row 1000, natA a, natA m, natA b, .fn fc caps] [(1000, gR el k enc (A ++ (L ++ (R ++ B))))] (fun c h => c = .tup [] ∧ h = [(1000, gR el k enc (A ++ (mrg lt L R ++ B)))])
theorem zcK {G : Prop} (s : G := by
 unfold SymSt
 intro α enc hk fc caps hK lt cmpI W hlt HC
 intro N
 induction N using Nat.strongRecOn with
 | ind N ih =>
 intro A L R B a m b hLR ha hm hb hL0 hR0 hSL hSR hN
 have hDl : (A ++ (L ++ (R ++ B))).length = A.length + L.length + R.length + B.length := by simp; omega
 refine zc za d_sym rfl n_sym (congrArg Array.toList r_sym) (by kernel_rfl) rfl ?_
 by_cases hL1 : L.length = 1
 ·have c1 : m - a = 1 := by omega
  obtain ⟨x, hx⟩ : ∃ x, L = [x] := List.length_eq_one_iff.1 hL1
  subst hx
  repeat ((fail_if_success refine zu ?_); first | refine q_Y ?_ | ((first | apply q_K rfl | apply q_X rfl); (exact qqam0)) | refine q_T ?_)
  refine zp ?_
  generalize hD : A ++ ([x] ++ (R ++ B)) = D at hDl
  refine zw (fun y : Nat × Nat => [(0, .row 1000), (1, natA a), (2, natA m), (3, natA b), (4, .fn fc caps), (10, natA y.1), (11, natA y.2)]) (fun y => [(1000, gR cE cK enc D)]) (fun y => m ≤ y.1 ∧ y.1 ≤ y.2 ∧ y.2 ≤ b ∧ (y.1 = m ∨ ∃ u, D[y.1 - 1]? = some u ∧ lt u x = true) ∧ (y.2 = b ∨ ∃ u, D[y.2]? = some u ∧ lt u x = false)) (fun y => y.2 - y.1) (m, b) ⟨Nat.le_refl _, by (try dsimp only); omega, Nat.le_refl _, Or.inl rfl, Or.inl rfl⟩ (zq ⟨rfl, rfl, rfl, rfl, rfl, rfl, rfl, trivial⟩ ⟨by rw [← hD]; rfl, trivial⟩) ?_
  rintro ⟨i, j⟩ ⟨h1, h2, h3, h4, h5⟩
  try dsimp only at h1 h2 h3 h4 h5 ⊢
  have hxa : D[a]? = some x := by rw [← hD]; exact zar ha
  by_cases hij : i < j
  ·obtain ⟨u, hu⟩ : ∃ u, D[(i + j) / 2]? = some u := ⟨_, List.getElem?_eq_getElem (by rw [hDl, List.length_singleton] at *; omega)⟩
   have hc := HC u x
   cases hl : lt u x
   ·have hz : ¬ cmpI u x < 0 := by rw [hlt] at hl; exact of_decide_eq_false hl
    repeat ((fail_if_success refine zu ?_); first | refine q_Y ?_ | ((first | apply q_K rfl | apply q_X rfl); (exact qqam0)) | refine q_T ?_ | first | ((first | apply q_K rfl | apply q_X rfl); exact zD za hk rfl rfl rfl rfl rfl rfl hu) | ((first | apply q_K rfl | apply q_X rfl); exact zD za hk rfl rfl rfl rfl rfl rfl hxa) | refine Q_cF rfl rfl rfl rfl rfl rfl hc rfl (fun _ _ _ => zB _ _ _ _ _ rfl rfl) ?_)
    exact ⟨(i, (i + j) / 2), ⟨h1, by (try dsimp only); omega, by (try dsimp only); omega, h4, Or.inr ⟨u, hu, hl⟩⟩, by (try dsimp only); omega, q_S⟩
   ·have hz : cmpI u x < 0 := by rw [hlt] at hl; exact of_decide_eq_true hl
    repeat ((fail_if_success refine zu ?_); first | refine q_Y ?_ | ((first | apply q_K rfl | apply q_X rfl); (exact qqam0)) | refine q_T ?_ | first | ((first | apply q_K rfl | apply q_X rfl); exact zD za hk rfl rfl rfl rfl rfl rfl hu) | ((first | apply q_K rfl | apply q_X rfl); exact zD za hk rfl rfl rfl rfl rfl rfl hxa) | refine Q_cF rfl rfl rfl rfl rfl rfl hc rfl (fun _ _ _ => zB _ _ _ _ _ rfl rfl) ?_)
    exact ⟨((i + j) / 2 + 1, j), ⟨by (try dsimp only); omega, by (try dsimp only); omega, h3, Or.inr ⟨u, by rw [Nat.add_sub_cancel]; exact hu, hl⟩, h5⟩, by (try dsimp only); omega, q_S⟩
  ·have hji : j = i := by omega
   subst hji
   have e0 : R = R.take (j - m) ++ R.drop (j - m) := (List.take_append_drop ..).symm
   have e1 : (R.take (j - m)).length = j - m := by rw [List.length_take]; omega
   generalize R.take (j - m) = R1 at e0 e1
   generalize R.drop (j - m) = R2 at e0
   subst e0
   rw [List.length_append] at hDl hb hN hR0 hLR
   rw [List.length_singleton] at *
   have hM : mrg lt [x] (R1 ++ R2) = R1 ++ x :: R2 := zdG W hSR (fun r' u he => by
     rcases h4 with h4 | ⟨u', h6, h7⟩
     ·rw [he, List.length_append, List.length_singleton] at e1; omega
     ·have : D[j - 1]? = some u := by
       rw [← hD, he, show A ++ ([x] ++ (r' ++ [u] ++ R2 ++ B)) = (A ++ x :: r') ++ u :: (R2 ++ B) by simp]
       rw [he, List.length_append, List.length_singleton] at e1
       exact zar (by simp; omega)
      rw [this] at h6; cases h6; exact h7) (fun v r' he => by
     rcases h5 with h5 | ⟨u', h6, h7⟩
     ·rw [he, List.length_cons] at hb; omega
     ·have : D[j]? = some v := by
       rw [← hD, he, show A ++ ([x] ++ (R1 ++ v :: r' ++ B)) = (A ++ x :: R1) ++ v :: (r' ++ B) by simp]
       exact zar (by simp; omega)
      rw [this] at h6; cases h6; exact h7)
   rw [hM]
   repeat ((fail_if_success refine zu ?_); first | refine q_Y ?_ | ((first | apply q_K rfl | apply q_X rfl); (exact qqam0)) | refine q_T ?_)
   refine zp ?_
   refine zw (fun y : Nat × List α => [(0, .row 1000), (10, natA j), (13, natA y.1)]) (fun y => [(1000, gR cE cK enc y.2)]) (fun y => ∃ Rd Rr, y.2 = A ++ (Rd ++ x :: (Rr ++ (R2 ++ B))) ∧ Rd ++ Rr = R1 ∧ y.1 = a + Rd.length) (fun y => j - y.1) (a, D) ⟨[], R1, by rw [← hD]; simp, rfl, rfl⟩ (q_S) ?_
   rintro ⟨k, L2⟩ ⟨Rd, Rr, hL2, hR1, hkk⟩
   try dsimp only at hL2 hR1 hkk ⊢
   have hlen : L2.length = A.length + 1 + (R1.length + R2.length) + B.length := by rw [hL2, ← hR1]; simp; omega
   have hR1' := congrArg List.length hR1
   rw [List.length_append] at hR1'
   by_cases hkj : k < j - 1
   ·cases Rr with
    | nil => rw [List.length_nil] at hR1'; omega
    | cons y Rr =>
    have hL3 : L2 = (A ++ Rd) ++ x :: ([] ++ y :: (Rr ++ (R2 ++ B))) := by rw [hL2]; simp
    have e3 : k = (A ++ Rd).length := by simp; omega
    have e4 : k + 1 = (A ++ Rd).length + 1 + ([] : List α).length := by simp; omega
    have g1 : L2[k]? = some x := by rw [hL3]; exact zar e3
    have g2 : L2[k + 1]? = some y := by rw [hL3]; exact zdM e4
    have g3 : setW (setW (L2.flatMap enc) (k * cK) (enc y)) ((k + 1) * cK) (enc x) = ((A ++ Rd) ++ y :: ([] ++ x :: (Rr ++ (R2 ++ B)))).flatMap enc := by
     unfold cK
     rw [hL3]
     exact zfv hk _ _ _ _ _ (by rw [e3]) (by rw [e4])
    have g4 : (L2.flatMap enc).length = L2.length * cK := zbO hk L2
    have g5 : (setW (L2.flatMap enc) (k * cK) (enc y)).length = L2.length * cK := by unfold cK; rw [hL3, zcz hk _ _ x y (by rw [e3]), zbO hk]; simp
    unfold cK at g3 g4 g5
    have g6 : ((A ++ Rd) ++ y :: ([] ++ x :: (Rr ++ (R2 ++ B)))).length = L2.length := by rw [hL3]; simp
    rw [List.length_cons] at hR1'
    repeat ((fail_if_success refine zu ?_); first | refine q_Y ?_ | ((first | apply q_K rfl | apply q_X rfl); (exact qqam0)) | refine q_T ?_)
    refine zaq [1000] mixed ?_
    apply q_P 0 rfl (by kernel_rfl) rfl rfl rfl
    first | exact q_1 | exact q_F | exact q_9 | exact q_10 | exact q_17
    apply q_P 1 rfl (by kernel_rfl) rfl rfl rfl
    first | exact q_1 | exact q_F | exact q_9 | exact q_10 | exact q_17
    apply q_P 2 rfl (by kernel_rfl) rfl rfl rfl
    first | exact q_1 | exact q_F | exact q_9 | exact q_10 | exact q_17
    apply q_P 3 rfl (by kernel_rfl) rfl rfl rfl
    first | exact q_1 | exact q_F | exact q_9 | exact q_10 | exact q_17
    apply q_P 4 rfl (by kernel_rfl) rfl rfl rfl
    first | exact q_1 | exact q_F | exact q_9 | exact q_10 | exact q_17
    apply q_P 5 rfl (by kernel_rfl) rfl rfl rfl
    first | exact q_1 | exact q_F | exact q_9 | exact q_10 | exact q_17
    apply q_P 6 rfl (by kernel_rfl) rfl rfl rfl
    first | exact q_1 | exact q_F | exact q_9 | exact q_10 | exact q_17
    apply q_P 7 rfl (by kernel_rfl) rfl rfl rfl
    first | exact q_1 | exact q_F | exact q_9 | exact q_10 | exact q_17
    apply q_P 8 rfl (by kernel_rfl) rfl rfl rfl
    first | exact q_1 | exact q_F | exact q_9 | exact q_10 | exact q_17
    apply q_P 10 rfl (by kernel_rfl) rfl rfl rfl
    first | exact q_1 | exact q_F | exact q_9 | exact q_10 | exact q_17
    apply q_P 11 rfl (by kernel_rfl) rfl rfl rfl
    first | exact q_1 | exact q_F | exact q_9 | exact q_10 | exact q_17
    apply q_P 12 rfl (by kernel_rfl) rfl rfl rfl
    first | exact q_1 | exact q_F | exact q_9 | exact q_10 | exact q_17
    refine zdV (j := 9) (k := 13) (l2 := #[true, true, true, true, true, true, true, true, true, true, true, true, true, true, false, false, false, false]) (by kernel_rfl) (by kernel_rfl) (by kernel_rfl) (by kernel_rfl) (by kernel_rfl) rfl rfl rfl rfl rfl rfl rfl rfl rfl rfl rfl (zD za hk rfl rfl rfl rfl rfl rfl g2) (zD za hk rfl rfl rfl rfl rfl rfl g1) (zD za hk rfl rfl rfl rfl rfl rfl g2) (zD za hk rfl rfl rfl rfl rfl rfl g1) ?_
    apply q_P 14 rfl (by kernel_rfl) rfl rfl rfl
    first | exact q_1 | exact q_F | exact q_9 | exact q_10 | exact q_17
    refine zh (j := 15) (by kernel_rfl) ?_
    refine zaG za hk rfl rfl rfl rfl rfl rfl rfl rfl rfl (by omega) (by omega) ?_
    apply q_P 16 rfl (by kernel_rfl) rfl rfl rfl
    first | exact q_1 | exact q_F | exact q_9 | exact q_10 | exact q_17
    refine zh (j := 17) (by kernel_rfl) ?_
    refine zaG za hk rfl rfl rfl rfl rfl rfl rfl rfl rfl (by omega) (by omega) ?_
    refine zaz (by kernel_rfl) ?_
    repeat ((fail_if_success refine zu ?_); first | refine q_Y ?_ | ((first | apply q_K rfl | apply q_X rfl); (exact qqam0)) | refine q_T ?_)
    exact ⟨(k + 1, (A ++ Rd) ++ y :: ([] ++ x :: (Rr ++ (R2 ++ B)))), ⟨Rd ++ [y], Rr, by simp, by rw [← hR1]; simp, by simp; omega⟩, by (try dsimp only); omega, zq ⟨rfl, rfl, rfl, trivial⟩ ⟨by rw [← zfw g3 g6.symm]; rfl, trivial⟩⟩
   ·have h6 : Rr = [] := List.eq_nil_of_length_eq_zero (by omega)
    subst h6
    rw [List.append_nil] at hR1
    subst hR1
    repeat ((fail_if_success refine zu ?_); first | refine q_Y ?_ | ((first | apply q_K rfl | apply q_X rfl); (exact qqam0)) | refine q_T ?_)
    have hLe : L2 = A ++ ((Rd ++ x :: R2) ++ B) := by rw [hL2]; simp
    exact zt AWk.refl rfl (h2 := [(1000, gR cE cK enc (A ++ ((Rd ++ x :: R2) ++ B)))]) ⟨by rw [← hLe]; rfl, trivial⟩ ⟨rfl, rfl⟩
 by_cases hR1 : R.length = 1
 ·have c1 : ¬ m - a = 1 := by omega
  have c2 : b - m = 1 := by omega
  obtain ⟨x, hx⟩ : ∃ x, R = [x] := List.length_eq_one_iff.1 hR1
  subst hx
  repeat ((fail_if_success refine zu ?_); first | refine q_Y ?_ | ((first | apply q_K rfl | apply q_X rfl); (exact qqam0)) | refine q_T ?_)
  refine zp ?_
  generalize hD : A ++ (L ++ ([x] ++ B)) = D at hDl
  refine zw (fun y : Nat × Nat => [(0, .row 1000), (1, natA a), (2, natA m), (3, natA b), (4, .fn fc caps), (14, natA y.1), (15, natA y.2)]) (fun y => [(1000, gR cE cK enc D)]) (fun y => a ≤ y.1 ∧ y.1 ≤ y.2 ∧ y.2 ≤ m ∧ (y.1 = a ∨ ∃ u, D[y.1 - 1]? = some u ∧ lt x u = false) ∧ (y.2 = m ∨ ∃ u, D[y.2]? = some u ∧ lt x u = true)) (fun y => y.2 - y.1) (a, m) ⟨Nat.le_refl _, by (try dsimp only); omega, Nat.le_refl _, Or.inl rfl, Or.inl rfl⟩ (zq ⟨rfl, rfl, rfl, rfl, rfl, rfl, rfl, trivial⟩ ⟨by rw [← hD]; rfl, trivial⟩) ?_
  rintro ⟨i, j⟩ ⟨h1, h2, h3, h4, h5⟩
  try dsimp only at h1 h2 h3 h4 h5 ⊢
  have hxm : D[m]? = some x := by
   rw [← hD, show A ++ (L ++ ([x] ++ B)) = (A ++ L) ++ x :: B by simp]
   exact zar (by simp; omega)
  by_cases hij : i < j
  ·obtain ⟨u, hu⟩ : ∃ u, D[(i + j) / 2]? = some u := ⟨_, List.getElem?_eq_getElem (by rw [hDl, List.length_singleton] at *; omega)⟩
   have hc := HC x u
   cases hl : lt x u
   ·have hz : ¬ cmpI x u < 0 := by rw [hlt] at hl; exact of_decide_eq_false hl
    repeat ((fail_if_success refine zu ?_); first | refine q_Y ?_ | ((first | apply q_K rfl | apply q_X rfl); (exact qqam0)) | refine q_T ?_ | first | ((first | apply q_K rfl | apply q_X rfl); exact zD za hk rfl rfl rfl rfl rfl rfl hu) | ((first | apply q_K rfl | apply q_X rfl); exact zD za hk rfl rfl rfl rfl rfl rfl hxm) | refine Q_cF rfl rfl rfl rfl rfl rfl hc rfl (fun _ _ _ => zB _ _ _ _ _ rfl rfl) ?_)
    exact ⟨((i + j) / 2 + 1, j), ⟨by (try dsimp only); omega, by (try dsimp only); omega, h3, Or.inr ⟨u, by rw [Nat.add_sub_cancel]; exact hu, hl⟩, h5⟩, by (try dsimp only); omega, q_S⟩
   ·have hz : cmpI x u < 0 := by rw [hlt] at hl; exact of_decide_eq_true hl
    repeat ((fail_if_success refine zu ?_); first | refine q_Y ?_ | ((first | apply q_K rfl | apply q_X rfl); (exact qqam0)) | refine q_T ?_ | first | ((first | apply q_K rfl | apply q_X rfl); exact zD za hk rfl rfl rfl rfl rfl rfl hu) | ((first | apply q_K rfl | apply q_X rfl); exact zD za hk rfl rfl rfl rfl rfl rfl hxm) | refine Q_cF rfl rfl rfl rfl rfl rfl hc rfl (fun _ _ _ => zB _ _ _ _ _ rfl rfl) ?_)
    exact ⟨(i, (i + j) / 2), ⟨h1, by (try dsimp only); omega, by (try dsimp only); omega, h4, Or.inr ⟨u, hu, hl⟩⟩, by (try dsimp only); omega, q_S⟩
  ·have hji : j = i := by omega
   subst hji
   have e0 : L = L.take (j - a) ++ L.drop (j - a) := (List.take_append_drop ..).symm
   have e1 : (L.take (j - a)).length = j - a := by rw [List.length_take]; omega
   generalize L.take (j - a) = L1 at e0 e1
   generalize L.drop (j - a) = L2 at e0
   subst e0
   rw [List.length_append] at hDl hb hN hL0 hLR hm hL1
   rw [List.length_singleton] at *
   have hM : mrg lt (L1 ++ L2) [x] = L1 ++ x :: L2 := zdF W hSL (fun r' u he => by
     rcases h4 with h4 | ⟨u', h6, h7⟩
     ·rw [he, List.length_append, List.length_singleton] at e1; omega
     ·have : D[j - 1]? = some u := by
       rw [← hD, he, show A ++ ((r' ++ [u] ++ L2) ++ ([x] ++ B)) = (A ++ r') ++ u :: (L2 ++ x :: B) by simp]
       rw [he, List.length_append, List.length_singleton] at e1
       exact zar (by simp; omega)
      rw [this] at h6; cases h6; exact h7) (fun v r' he => by
     rcases h5 with h5 | ⟨u', h6, h7⟩
     ·rw [he, List.length_cons] at hm; omega
     ·have : D[j]? = some v := by
       rw [← hD, he, show A ++ ((L1 ++ v :: r') ++ ([x] ++ B)) = (A ++ L1) ++ v :: (r' ++ x :: B) by simp]
       exact zar (by simp; omega)
      rw [this] at h6; cases h6; exact h7)
   rw [hM]
   repeat ((fail_if_success refine zu ?_); first | refine q_Y ?_ | ((first | apply q_K rfl | apply q_X rfl); (exact qqam0)) | refine q_T ?_)
   refine zp ?_
   refine zw (fun y : Nat × List α => [(0, .row 1000), (14, natA j), (17, natA y.1)]) (fun y => [(1000, gR cE cK enc y.2)]) (fun y => ∃ Lr Ld, y.2 = A ++ (L1 ++ (Lr ++ x :: (Ld ++ B))) ∧ Lr ++ Ld = L2 ∧ y.1 = a + L1.length + Lr.length) (fun y => y.1 - j) (m, D) ⟨L2, [], by rw [← hD]; simp, by simp, by (try dsimp only); omega⟩ (q_S) ?_
   rintro ⟨k, M⟩ ⟨Lr, Ld, hM2, hL2, hkk⟩
   try dsimp only at hM2 hL2 hkk ⊢
   have hlen : M.length = A.length + (L1.length + L2.length) + 1 + B.length := by rw [hM2, ← hL2]; simp; omega
   rcases List.eq_nil_or_concat Lr with rfl | ⟨Lr', y, hLy⟩
   ·have hkj : ¬ j < k := by rw [List.length_nil] at hkk; omega
    repeat ((fail_if_success refine zu ?_); first | refine q_Y ?_ | ((first | apply q_K rfl | apply q_X rfl); (exact qqam0)) | refine q_T ?_)
    have hLe : M = A ++ ((L1 ++ x :: L2) ++ B) := by rw [hM2, ← hL2]; simp
    exact zt AWk.refl rfl (h2 := [(1000, gR cE cK enc (A ++ ((L1 ++ x :: L2) ++ B)))]) ⟨by rw [← hLe]; rfl, trivial⟩ ⟨rfl, rfl⟩
   ·rw [List.concat_eq_append] at hLy
    subst hLy
    rw [List.length_append, List.length_singleton] at hkk
    have hL2' := congrArg List.length hL2
    simp only [List.length_append, List.length_singleton] at hL2'
    have hkj : j < k := by omega
    have hM3 : M = (A ++ (L1 ++ Lr')) ++ y :: ([] ++ x :: (Ld ++ B)) := by rw [hM2]; simp
    have e3 : k - 1 = (A ++ (L1 ++ Lr')).length := by simp; omega
    have e4 : k = (A ++ (L1 ++ Lr')).length + 1 + ([] : List α).length := by simp; omega
    have g1 : M[k - 1]? = some y := by rw [hM3]; exact zar e3
    have g2 : M[k]? = some x := by rw [hM3]; exact zdM e4
    have g3 : setW (setW (M.flatMap enc) (k * cK) (enc y)) ((k - 1) * cK) (enc x) = ((A ++ (L1 ++ Lr')) ++ x :: ([] ++ y :: (Ld ++ B))).flatMap enc := by
     unfold cK
     rw [hM3]
     exact zfu hk _ _ _ _ _ (by rw [e3]) (by rw [← e4])
    have g4 : (M.flatMap enc).length = M.length * cK := zbO hk M
    have g5 : (setW (M.flatMap enc) (k * cK) (enc y)).length = M.length * cK := by unfold cK; rw [hM3, show (A ++ (L1 ++ Lr')) ++ y :: ([] ++ x :: (Ld ++ B)) = ((A ++ (L1 ++ Lr')) ++ y :: []) ++ x :: (Ld ++ B) by simp, zcz hk _ _ x y (by rw [e4]; simp; omega), zbO hk]; simp
    unfold cK at g3 g4 g5
    have g6 : ((A ++ (L1 ++ Lr')) ++ x :: ([] ++ y :: (Ld ++ B))).length = M.length := by rw [hM3]; simp
    repeat ((fail_if_success refine zu ?_); first | refine q_Y ?_ | ((first | apply q_K rfl | apply q_X rfl); (exact qqam0)) | refine q_T ?_)
    refine zaq [1000] mixed ?_
    apply q_P 0 rfl (by kernel_rfl) rfl rfl rfl
    first | exact q_1 | exact q_F | exact q_9 | exact q_10 | exact q_17
    apply q_P 1 rfl (by kernel_rfl) rfl rfl rfl
    first | exact q_1 | exact q_F | exact q_9 | exact q_10 | exact q_17
    apply q_P 2 rfl (by kernel_rfl) rfl rfl rfl
    first | exact q_1 | exact q_F | exact q_9 | exact q_10 | exact q_17
    apply q_P 3 rfl (by kernel_rfl) rfl rfl rfl
    first | exact q_1 | exact q_F | exact q_9 | exact q_10 | exact q_17
    apply q_P 4 rfl (by kernel_rfl) rfl rfl rfl
    first | exact q_1 | exact q_F | exact q_9 | exact q_10 | exact q_17
    apply q_P 5 rfl (by kernel_rfl) rfl rfl rfl
    first | exact q_1 | exact q_F | exact q_9 | exact q_10 | exact q_17
    apply q_P 6 rfl (by kernel_rfl) rfl rfl rfl
    first | exact q_1 | exact q_F | exact q_9 | exact q_10 | exact q_17
    apply q_P 7 rfl (by kernel_rfl) rfl rfl rfl
    first | exact q_1 | exact q_F | exact q_9 | exact q_10 | exact q_17
    apply q_P 8 rfl (by kernel_rfl) rfl rfl rfl
    first | exact q_1 | exact q_F | exact q_9 | exact q_10 | exact q_17
    apply q_P 10 rfl (by kernel_rfl) rfl rfl rfl
    first | exact q_1 | exact q_F | exact q_9 | exact q_10 | exact q_17
    apply q_P 11 rfl (by kernel_rfl) rfl rfl rfl
    first | exact q_1 | exact q_F | exact q_9 | exact q_10 | exact q_17
    apply q_P 12 rfl (by kernel_rfl) rfl rfl rfl
    first | exact q_1 | exact q_F | exact q_9 | exact q_10 | exact q_17
    refine zdV (j := 9) (k := 13) (l2 := #[true, true, true, true, true, true, true, true, true, true, true, true, true, true, false, false, false, false]) (by kernel_rfl) (by kernel_rfl) (by kernel_rfl) (by kernel_rfl) (by kernel_rfl) rfl rfl rfl rfl rfl rfl rfl rfl rfl rfl rfl (zD za hk rfl rfl rfl rfl rfl rfl g1) (zD za hk rfl rfl rfl rfl rfl rfl g2) (zD za hk rfl rfl rfl rfl rfl rfl g1) (zD za hk rfl rfl rfl rfl rfl rfl g2) ?_
    apply q_P 14 rfl (by kernel_rfl) rfl rfl rfl
    first | exact q_1 | exact q_F | exact q_9 | exact q_10 | exact q_17
    refine zh (j := 15) (by kernel_rfl) ?_
    refine zaG za hk rfl rfl rfl rfl rfl rfl rfl rfl rfl (by omega) (by omega) ?_
    apply q_P 16 rfl (by kernel_rfl) rfl rfl rfl
    first | exact q_1 | exact q_F | exact q_9 | exact q_10 | exact q_17
    refine zh (j := 17) (by kernel_rfl) ?_
    refine zaG za hk rfl rfl rfl rfl rfl rfl rfl rfl rfl (by omega) (by omega) ?_
    refine zaz (by kernel_rfl) ?_
    repeat ((fail_if_success refine zu ?_); first | refine q_Y ?_ | ((first | apply q_K rfl | apply q_X rfl); (exact qqam0)) | refine q_T ?_)
    exact ⟨(k - 1, (A ++ (L1 ++ Lr')) ++ x :: ([] ++ y :: (Ld ++ B))), ⟨Lr', y :: Ld, by simp, by rw [← hL2]; simp, by (try dsimp only); omega⟩, by (try dsimp only); omega, zq ⟨rfl, rfl, rfl, trivial⟩ ⟨by rw [← zfw g3 g6.symm]; rfl, trivial⟩⟩
 have c1 : ¬ m - a = 1 := by omega
 have c2 : ¬ b - m = 1 := by omega
 repeat ((fail_if_success refine zu ?_); (fail_if_success (refine stopS 27 ?_)); first
  | refine zn ?_
  | refine zp ?_
  | refine ze ?_
  | refine zg rfl mixed (by kernel_rfl) ?_
  | ((first | apply q_K rfl | apply q_X rfl); (exact qqam0))
  | refine zi ?_
  | refine zk ?_
  | refine q_j ?_
  | refine q_k ?_
  | refine A_ct rfl ?_
  | refine A_cf rfl ?_
  | refine zz ?_
  | refine zA ?_
  | refine zS ?_
  | refine q_l ?_
  | refine q_m ?_
  | refine q_n ?_
  | refine q_h ?_
  | refine q_o ?_
  | refine q_e ?_
  | refine q_f ?_
  | refine q_g ?_
  | fail)
 generalize hmid : (a + b) / 2 = mid
 generalize hn : mid + m = n
 obtain ⟨s0, r0, hs⟩ : ∃ s0 r0 : Nat, (mid < m ∧ s0 = n - b ∧ r0 = mid) ∨ (m ≤ mid ∧ s0 = a ∧ r0 = m) := by
  by_cases h : mid < m
  ·exact ⟨_, _, Or.inl ⟨h, rfl, rfl⟩⟩
  ·exact ⟨_, _, Or.inr ⟨by omega, rfl, rfl⟩⟩
 refine zdg [(0, .row 1000), (1, natA a), (2, natA m), (3, natA b), (4, .fn fc caps), (18, natA mid), (19, natA n), (20, natA s0), (21, natA r0)] [(1000, gR cE cK enc (A ++ (L ++ (R ++ B))))] ?_ ?_
 ·rcases hs with ⟨h, h6, h7⟩ | ⟨h, h6, h7⟩
  ·rw [h6, h7]
   repeat ((fail_if_success refine zu ?_); first | refine q_Y ?_ | ((first | apply q_K rfl | apply q_X rfl); (exact qqam0)) | refine q_T ?_)
   exact q_S
  ·rw [h6, h7]
   repeat ((fail_if_success refine zu ?_); first | refine q_Y ?_ | ((first | apply q_K rfl | apply q_X rfl); (exact qqam0)) | refine q_T ?_)
   exact q_S
 repeat ((fail_if_success refine zu ?_); first | refine q_Y ?_ | ((first | apply q_K rfl | apply q_X rfl); (exact qqam0)) | refine q_T ?_)
 refine zp ?_
 generalize hD : A ++ (L ++ (R ++ B)) = D at hDl
 refine zw (fun y : Nat × Nat => [(0, .row 1000), (1, natA a), (2, natA m), (3, natA b), (4, .fn fc caps), (18, natA mid), (19, natA n), (20, natA y.1), (21, natA y.2), (22, natA (n - 1))]) (fun y => [(1000, gR cE cK enc D)]) (fun y => s0 ≤ y.1 ∧ y.1 ≤ y.2 ∧ y.2 ≤ r0 ∧ (y.1 = s0 ∨ ∃ u v, D[n - y.1]? = some u ∧ D[y.1 - 1]? = some v ∧ lt u v = false) ∧ (y.2 = r0 ∨ ∃ u v, D[n - 1 - y.2]? = some u ∧ D[y.2]? = some v ∧ lt u v = true)) (fun y => y.2 - y.1) (s0, r0) ⟨Nat.le_refl _, by (try dsimp only); omega, Nat.le_refl _, Or.inl rfl, Or.inl rfl⟩ (zq ⟨rfl, rfl, rfl, rfl, rfl, rfl, rfl, rfl, rfl, rfl, trivial⟩ ⟨by rw [← hD]; rfl, trivial⟩) ?_
 rintro ⟨st, r⟩ ⟨h1, h2, h3, h4, h5⟩
 try dsimp only at h1 h2 h3 h4 h5 ⊢
 by_cases hij : st < r
 ·obtain ⟨v, hv⟩ : ∃ v, D[(st + r) / 2]? = some v := ⟨_, List.getElem?_eq_getElem (by rw [hDl]; omega)⟩
  obtain ⟨u, hu⟩ : ∃ u, D[n - 1 - (st + r) / 2]? = some u := ⟨_, List.getElem?_eq_getElem (by rw [hDl]; omega)⟩
  have hc := HC u v
  cases hl : lt u v
  ·have hz : ¬ cmpI u v < 0 := by rw [hlt] at hl; exact of_decide_eq_false hl
   repeat ((fail_if_success refine zu ?_); first | refine q_Y ?_ | ((first | apply q_K rfl | apply q_X rfl); (exact qqam0)) | refine q_T ?_ | first | ((first | apply q_K rfl | apply q_X rfl); exact zD za hk rfl rfl rfl rfl rfl rfl hu) | ((first | apply q_K rfl | apply q_X rfl); exact zD za hk rfl rfl rfl rfl rfl rfl hv) | refine Q_cF rfl rfl rfl rfl rfl rfl hc rfl (fun _ _ _ => zB _ _ _ _ _ rfl rfl) ?_)
   exact ⟨((st + r) / 2 + 1, r), ⟨by (try dsimp only); omega, by (try dsimp only); omega, h3, Or.inr ⟨u, v, by rw [show n - ((st + r) / 2 + 1) = n - 1 - (st + r) / 2 by omega]; exact hu, by rw [Nat.add_sub_cancel]; exact hv, hl⟩, h5⟩, by (try dsimp only); omega, q_S⟩
  ·have hz : cmpI u v < 0 := by rw [hlt] at hl; exact of_decide_eq_true hl
   repeat ((fail_if_success refine zu ?_); first | refine q_Y ?_ | ((first | apply q_K rfl | apply q_X rfl); (exact qqam0)) | refine q_T ?_ | first | ((first | apply q_K rfl | apply q_X rfl); exact zD za hk rfl rfl rfl rfl rfl rfl hu) | ((first | apply q_K rfl | apply q_X rfl); exact zD za hk rfl rfl rfl rfl rfl rfl hv) | refine Q_cF rfl rfl rfl rfl rfl rfl hc rfl (fun _ _ _ => zB _ _ _ _ _ rfl rfl) ?_)
   exact ⟨(st, (st + r) / 2), ⟨h1, by (try dsimp only); omega, by (try dsimp only); omega, h4, Or.inr ⟨u, v, hu, hv, hl⟩⟩, by (try dsimp only); omega, q_S⟩
 have hrs : r = st := by omega
 subst hrs
 have e0 : L = L.take (r - a) ++ L.drop (r - a) := (List.take_append_drop ..).symm
 have e1 : (L.take (r - a)).length = r - a := by rw [List.length_take]; omega
 generalize L.take (r - a) = l1 at e0 e1
 generalize L.drop (r - a) = l2 at e0
 have f0 : R = R.take (n - r - m) ++ R.drop (n - r - m) := (List.take_append_drop ..).symm
 have f1 : (R.take (n - r - m)).length = n - r - m := by rw [List.length_take]; omega
 generalize R.take (n - r - m) = r1 at f0 f1
 generalize R.drop (n - r - m) = r2 at f0
 subst e0 f0
 simp only [List.length_append] at hDl hb hN hL0 hR0 hLR hm hL1 hR1
 have hM : mrg lt (l1 ++ l2) (r1 ++ r2) = mrg lt l1 r1 ++ mrg lt l2 r2 := zcY W hSL hSR (fun r' u v l' he he2 => by
   rw [he, List.length_append, List.length_singleton] at f1
   rw [he2, List.length_cons] at hm
   rcases h5 with h5 | ⟨u', v', h6, h7, h8⟩
   ·omega
   ·have q1 : D[n - 1 - r]? = some u := by
     rw [← hD, he, show A ++ ((l1 ++ l2) ++ ((r' ++ [u] ++ r2) ++ B)) = (A ++ (l1 ++ (l2 ++ r'))) ++ u :: (r2 ++ B) by simp]
     exact zar (by rw [he2]; simp; omega)
    have q2 : D[r]? = some v := by
     rw [← hD, he2, show A ++ ((l1 ++ v :: l') ++ ((r1 ++ r2) ++ B)) = (A ++ l1) ++ v :: (l' ++ ((r1 ++ r2) ++ B)) by simp]
     exact zar (by simp; omega)
    rw [q1] at h6; rw [q2] at h7; cases h6; cases h7; exact h8) (fun l' u v r' he he2 => by
   rw [he, List.length_append, List.length_singleton] at e1
   rw [he2, List.length_cons] at hb
   rcases h4 with h4 | ⟨u', v', h6, h7, h8⟩
   ·omega
   ·have q1 : D[n - r]? = some v := by
     rw [← hD, he2, show A ++ ((l1 ++ l2) ++ ((r1 ++ v :: r') ++ B)) = (A ++ (l1 ++ (l2 ++ r1))) ++ v :: (r' ++ B) by simp]
     exact zar (by simp; omega)
    have q2 : D[r - 1]? = some u := by
     rw [← hD, he, show A ++ ((l' ++ [u] ++ l2) ++ ((r1 ++ r2) ++ B)) = (A ++ l') ++ u :: (l2 ++ ((r1 ++ r2) ++ B)) by simp]
     exact zar (by simp; omega)
    rw [q1] at h6; rw [q2] at h7; cases h6; cases h7; exact h8)
 rw [hM]
 subst hD
 have hmr := zfq (lt := lt) l1 r1
 have v1 : a ≤ r := by omega
 have v2 : r ≤ m := by omega
 have v3 : m ≤ n - r := by omega
 have v4 : n - r ≤ b := by omega
 have v5 : r ≤ n := by omega
 have v6 : r ≤ mid := by omega
 have v7 : mid ≤ n - r := by omega
 have w1 : a < mid := by omega
 have w2 : mid < b := by omega
 clear hM h4 h5 hs h1 h2 h3 hij hmid c1 c2 hL1 hR1 hDl
 have u1 : a + l1.length = r := by omega
 have u3 : m + r1.length = n - r := by omega
 clear e1 f1
 repeat ((fail_if_success refine zu ?_); (fail_if_success (refine stopS 39 ?_)); first
  | refine zn ?_
  | refine zp ?_
  | refine ze ?_
  | refine zg rfl mixed (by kernel_rfl) ?_
  | ((first | apply q_K rfl | apply q_X rfl); (exact qqam0))
  | refine zi ?_
  | refine zk ?_
  | refine q_j ?_
  | refine q_k ?_
  | refine A_ct rfl ?_
  | refine A_cf rfl ?_
  | refine zz ?_
  | refine zA ?_
  | refine zS ?_
  | refine q_l ?_
  | refine q_m ?_
  | refine q_n ?_
  | refine q_h ?_
  | refine q_o ?_
  | refine q_e ?_
  | refine q_f ?_
  | refine q_g ?_
  | fail)
 generalize hen : n - r = en at *
 have u2 : r + l2.length = m := by omega
 have u4 : en + r2.length = b := by omega
 have u5 : r + r1.length = mid := by omega
 have u6 : mid + l2.length = en := by omega
 clear hen hn v5 v3 v4 v7
 refine zdg [(0, .row 1000), (1, natA a), (2, natA m), (3, natA b), (4, .fn fc caps), (18, natA mid), (20, natA r), (24, natA en)] [(1000, gR cE cK enc (A ++ (l1 ++ (r1 ++ (l2 ++ (r2 ++ B))))))] ?_ ?_
 ·by_cases d1 : r < m
  ·by_cases d2 : m < en
   ·rw [show A ++ ((l1 ++ l2) ++ ((r1 ++ r2) ++ B)) = (A ++ l1) ++ (l2 ++ (r1 ++ (r2 ++ B))) by simp]
    repeat ((fail_if_success refine zu ?_); first | refine q_Y ?_ | ((first | apply q_K rfl | apply q_X rfl); (exact qqam0)) | refine q_T ?_)
    refine O_cU 1000 (rot hk hK (A ++ l1) l2 r1 (r2 ++ B) r m en (by simp; omega) (by simp; omega) (by simp; omega) (by omega) (by omega) (by simp; omega)) (ok5 hK _ _ _) rfl rfl rfl rfl rfl rfl (ren5 hK _ _ _) ?_
    repeat ((fail_if_success refine zu ?_); first | refine q_Y ?_ | ((first | apply q_K rfl | apply q_X rfl); (exact qqam0)) | refine q_T ?_)
    exact zq ⟨rfl, rfl, rfl, rfl, rfl, rfl, rfl, rfl, trivial⟩ ⟨by rw [show A ++ (l1 ++ (r1 ++ (l2 ++ (r2 ++ B)))) = (A ++ l1) ++ (r1 ++ (l2 ++ (r2 ++ B))) by simp]; rfl, trivial⟩
   ·have d3 : r1 = [] := List.eq_nil_of_length_eq_zero (by omega)
    subst d3
    repeat ((fail_if_success refine zu ?_); first | refine q_Y ?_ | ((first | apply q_K rfl | apply q_X rfl); (exact qqam0)) | refine q_T ?_)
    exact zq ⟨rfl, rfl, rfl, rfl, rfl, rfl, rfl, rfl, trivial⟩ ⟨by rw [show A ++ (l1 ++ ([] ++ (l2 ++ (r2 ++ B)))) = A ++ ((l1 ++ l2) ++ (([] ++ r2) ++ B)) by simp]; rfl, trivial⟩
  ·have d3 : l2 = [] := List.eq_nil_of_length_eq_zero (by omega)
   subst d3
   repeat ((fail_if_success refine zu ?_); first | refine q_Y ?_ | ((first | apply q_K rfl | apply q_X rfl); (exact qqam0)) | refine q_T ?_)
   exact zq ⟨rfl, rfl, rfl, rfl, rfl, rfl, rfl, rfl, trivial⟩ ⟨by rw [show A ++ (l1 ++ (r1 ++ ([] ++ (r2 ++ B)))) = A ++ ((l1 ++ []) ++ ((r1 ++ r2) ++ B)) by simp]; rfl, trivial⟩
 repeat ((fail_if_success refine zu ?_); (fail_if_success (refine stopS 41 ?_)); first
  | refine zn ?_
  | refine zp ?_
  | refine ze ?_
  | refine zg rfl mixed (by kernel_rfl) ?_
  | ((first | apply q_K rfl | apply q_X rfl); (exact qqam0))
  | refine zi ?_
  | refine zk ?_
  | refine q_j ?_
  | refine q_k ?_
  | refine A_ct rfl ?_
  | refine A_cf rfl ?_
  | refine zz ?_
  | refine zA ?_
  | refine zS ?_
  | refine q_l ?_
  | refine q_m ?_
  | refine q_n ?_
  | refine q_h ?_
  | refine q_o ?_
  | refine q_e ?_
  | refine q_f ?_
  | refine q_g ?_
  | fail)
 refine zdg [(0, .row 1000), (1, natA a), (2, natA m), (3, natA b), (4, .fn fc caps), (18, natA mid), (24, natA en)] [(1000, gR cE cK enc (A ++ (mrg lt l1 r1 ++ (l2 ++ (r2 ++ B)))))] ?_ ?_
 ·by_cases d1 : a < r
  ·by_cases d2 : r < mid
   ·
    repeat ((fail_if_success refine zu ?_); first | refine q_Y ?_ | ((first | apply q_K rfl | apply q_X rfl); (exact qqam0)) | refine q_T ?_)
    refine O_cU 1000 (ih (l1.length + r1.length) (by omega) A l1 r1 (l2 ++ (r2 ++ B)) a r mid (Nat.le_refl _) ha (by omega) (by omega) (by omega) (by omega) hSL.app.1 hSR.app.1 (by simp; omega)) (ok5 hK _ _ _) rfl rfl rfl rfl rfl rfl (ren5 hK _ _ _) ?_
    repeat ((fail_if_success refine zu ?_); first | refine q_Y ?_ | ((first | apply q_K rfl | apply q_X rfl); (exact qqam0)) | refine q_T ?_)
    exact q_S
   ·have d3 : r1 = [] := List.eq_nil_of_length_eq_zero (by omega)
    subst d3
    rw [zaW]
    repeat ((fail_if_success refine zu ?_); first | refine q_Y ?_ | ((first | apply q_K rfl | apply q_X rfl); (exact qqam0)) | refine q_T ?_)
    exact q_S
  ·have d3 : l1 = [] := List.eq_nil_of_length_eq_zero (by omega)
   subst d3
   rw [zaK]
   repeat ((fail_if_success refine zu ?_); first | refine q_Y ?_ | ((first | apply q_K rfl | apply q_X rfl); (exact qqam0)) | refine q_T ?_)
   exact q_S
 have hfin : A ++ ((mrg lt l1 r1 ++ mrg lt l2 r2) ++ B) = (A ++ mrg lt l1 r1) ++ (mrg lt l2 r2 ++ B) := by simp
 rw [hfin, show A ++ (mrg lt l1 r1 ++ (l2 ++ (r2 ++ B))) = (A ++ mrg lt l1 r1) ++ (l2 ++ (r2 ++ B)) by simp]
 by_cases d1 : mid < en
 ·by_cases d2 : en < b
  ·
   repeat ((fail_if_success refine zu ?_); first | refine q_Y ?_ | ((first | apply q_K rfl | apply q_X rfl); (exact qqam0)) | refine q_T ?_)
   refine O_cU 1000 (ih (l2.length + r2.length) (by omega) (A ++ mrg lt l1 r1) l2 r2 B mid en b (Nat.le_refl _) (by rw [List.length_append]; omega) (by rw [List.length_append]; omega) (by rw [List.length_append]; omega) (by omega) (by omega) hSL.app.2 hSR.app.2 (by rw [List.length_append]; omega)) (ok5 hK _ _ _) rfl rfl rfl rfl rfl rfl (ren5 hK _ _ _) ?_
   repeat ((fail_if_success refine zu ?_); first | refine q_Y ?_ | ((first | apply q_K rfl | apply q_X rfl); (exact qqam0)) | refine q_T ?_)
   exact zal AWk.refl rfl (h2 := [(1000, gR cE cK enc ((A ++ mrg lt l1 r1) ++ (mrg lt l2 r2 ++ B)))]) ⟨rfl, trivial⟩ ⟨rfl, rfl⟩
  ·have d3 : r2 = [] := List.eq_nil_of_length_eq_zero (by omega)
   subst d3
   rw [zaW]
   repeat ((fail_if_success refine zu ?_); first | refine q_Y ?_ | ((first | apply q_K rfl | apply q_X rfl); (exact qqam0)) | refine q_T ?_)
   exact zal AWk.refl rfl (h2 := [(1000, gR cE cK enc ((A ++ mrg lt l1 r1) ++ (l2 ++ B)))]) ⟨rfl, trivial⟩ ⟨rfl, rfl⟩
 ·have d3 : l2 = [] := List.eq_nil_of_length_eq_zero (by omega)
  subst d3
  rw [zaK]
  repeat ((fail_if_success refine zu ?_); first | refine q_Y ?_ | ((first | apply q_K rfl | apply q_X rfl); (exact qqam0)) | refine q_T ?_)
  exact zal AWk.refl rfl (h2 := [(1000, gR cE cK enc ((A ++ mrg lt l1 r1) ++ (r2 ++ B)))]) ⟨rfl, trivial⟩ ⟨rfl, rfl⟩) : G := s
def StbSt (el k f : Nat) : Prop := ∀ ⦃α : Type⦄ {enc : α → List Dat} (hk : ∀ x, (enc x).length = k) {fc : FuncId} {caps : List AVal} (hK : KOk (.fn fc caps)) {lt : α → α → Bool} {cmpI : α → α → Int} (W : Weak lt) (hlt : ∀ x y, lt x y = decide (cmpI x y < 0)) (HC : ∀ x y, ACall Tryz.prog fc ([gA enc x, gA enc y] ++ caps) [] (Just (intA (cmpI x y)))) (l : List α) (n : Nat) (hn : n = l.length) (hN : n ≤ 100000000000), ACall Tryz.prog f [.row 1000, natA n, .fn fc caps] [(1000, gR el k enc l)] (fun c h => c = .tup [] ∧ h = [(1000, gR el k enc (stS lt l))])
theorem zcM {G : Prop} (s : G := by
 unfold StbSt
 intro α enc hk fc caps hK lt cmpI W hlt HC l n hn hN
 refine zc za d_stb rfl n_stb (congrArg Array.toList r_stb) (by kernel_rfl) rfl ?_
 repeat ((fail_if_success refine zu ?_); first | refine q_Y ?_ | ((first | apply q_K rfl | apply q_X rfl); (exact qqam0)) | refine q_T ?_)
 refine zp ?_
 refine zw (fun y : Nat × List α => [(0, .row 1000), (1, natA n), (2, .fn fc caps), (6, natA 20), (7, natA y.1), (8, natA (y.1 + 20))]) (fun y => [(1000, gR cE cK enc y.2)]) (fun y => ∃ P R, y.2 = P ++ R ∧ P.length = y.1 ∧ y.1 + R.length = n ∧ P ++ bl lt 20 R = bl lt 20 l) (fun y => n - y.1) (0, l) ⟨[], l, rfl, rfl, by (try dsimp only); omega, rfl⟩ (q_S) ?_
 rintro ⟨a, L⟩ ⟨P, R, hL, ha, hR, hT⟩
 try dsimp only at hL ha hR hT ⊢
 by_cases hb : a + 20 ≤ n
 ·have e1 : (R.take 20).length = 20 := by rw [List.length_take]; omega
  have e2 : (R.drop 20).length = R.length - 20 := List.length_drop ..
  rw [zch (by decide) (by omega)] at hT
  have e0 : R = R.take 20 ++ R.drop 20 := (List.take_append_drop ..).symm
  generalize R.take 20 = R1 at e0 e1 hT
  generalize R.drop 20 = R2 at e0 e2 hT
  subst e0 hL
  rw [List.length_append] at hR
  repeat ((fail_if_success refine zu ?_); first | refine q_Y ?_ | ((first | apply q_K rfl | apply q_X rfl); (exact qqam0)) | refine q_T ?_)
  refine O_cU 1000 (ins hk W hlt HC P R1 R2 a (a + 20) ha.symm (by omega) (by omega)) (ok4 hK _ _) rfl rfl rfl rfl rfl rfl (ren4 hK _ _) ?_
  repeat ((fail_if_success refine zu ?_); first | refine q_Y ?_ | ((first | apply q_K rfl | apply q_X rfl); (exact qqam0)) | refine q_T ?_)
  exact ⟨(a + 20, P ++ (stS lt R1 ++ R2)), ⟨P ++ stS lt R1, R2, by simp, by rw [List.length_append, zaL]; omega, by (try dsimp only); omega, by rw [← hT]; simp⟩, by (try dsimp only); omega, q_S⟩
 have hz : P ++ (stS lt R ++ []) = bl lt 20 l := by rw [← hT, zbX (by omega), List.append_nil]
 rw [show L = P ++ (R ++ []) by rw [hL, List.append_nil]]
 repeat ((fail_if_success refine zu ?_); first | refine q_Y ?_ | ((first | apply q_K rfl | apply q_X rfl); (exact qqam0)) | refine q_T ?_)
 refine O_cU 1000 (ins hk W hlt HC P R [] a n ha.symm (by omega) (by simp; omega)) (ok4 hK _ _) rfl rfl rfl rfl rfl rfl (ren4 hK _ _) ?_
 rw [hz]
 repeat ((fail_if_success refine zu ?_); first | refine q_Y ?_ | ((first | apply q_K rfl | apply q_X rfl); (exact qqam0)) | refine q_T ?_)
 refine zw (fun y : Nat × List α => [(0, .row 1000), (1, natA n), (2, .fn fc caps), (6, natA y.1)]) (fun y => [(1000, gR cE cK enc y.2)]) (fun y => y.2 = bl lt y.1 l ∧ 0 < y.1 ∧ y.1 ≤ 200000000000) (fun y => n - y.1) (20, bl lt 20 l) ⟨rfl, by (try dsimp only); omega, by (try dsimp only); omega⟩ (q_S) ?_
 rintro ⟨s, L0⟩ ⟨hL0, hs, hs2⟩
 try dsimp only at hL0 hs hs2 ⊢
 subst hL0
 by_cases hsn : s < n
 ·
  repeat ((fail_if_success refine zu ?_); first | refine q_Y ?_ | ((first | apply q_K rfl | apply q_X rfl); (exact qqam0)) | refine q_T ?_ | ((first | apply q_K rfl | apply q_X rfl); first | exact zdf 2 rfl rfl rfl rfl | exact zbY 2 rfl rfl rfl rfl))
  refine zp ?_
  refine zw (fun y : Nat × List α => [(0, .row 1000), (1, natA n), (2, .fn fc caps), (6, natA s), (7, natA y.1), (8, natA (y.1 + 2 * s))]) (fun y => [(1000, gR cE cK enc y.2)]) (fun y => ∃ P R, y.2 = P ++ bl lt s R ∧ P.length = y.1 ∧ y.1 + R.length = n ∧ P ++ bl lt (2 * s) R = bl lt (2 * s) l) (fun y => n - y.1) (0, bl lt s l) ⟨[], l, rfl, rfl, by (try dsimp only); omega, rfl⟩ (zq ⟨rfl, rfl, rfl, rfl, rfl, by show _ = some (natA (0 + 2 * s)); rw [Nat.zero_add]; rfl, trivial⟩ ⟨rfl, trivial⟩) ?_
  rintro ⟨a, L⟩ ⟨P, R, hL, ha, hR, hT⟩
  try dsimp only at hL ha hR hT ⊢
  by_cases hb : a + 2 * s ≤ n
  ·obtain ⟨b1, b2⟩ := zkb W hs (show 2 * s ≤ R.length by omega)
   rw [b1] at hL
   rw [zch (by omega) (by omega), ← b2] at hT
   have e1 : (stS lt (R.take s)).length = s := by rw [zaL, List.length_take]; omega
   have e2 : (stS lt ((R.drop s).take s)).length = s := by rw [zaL, List.length_take, List.length_drop]; omega
   have e3 : (bl lt s (R.drop (2 * s))).length = R.length - 2 * s := by rw [zkc, List.length_drop]
   have e4 := List.length_drop (i := 2 * s) (l := R)
   have m1 := zfq (lt := lt) (stS lt (R.take s)) (stS lt ((R.drop s).take s))
   have h1 := zbz W (R.take s)
   have h2 := zbz W ((R.drop s).take s)
   generalize stS lt (R.take s) = R1 at *
   generalize stS lt ((R.drop s).take s) = R2 at *
   generalize R.drop (2 * s) = R3 at *
   subst hL
   repeat ((fail_if_success refine zu ?_); first | refine q_Y ?_ | ((first | apply q_K rfl | apply q_X rfl); (exact qqam0)) | refine q_T ?_)
   refine O_cU 1000 (sym hk hK W hlt HC (R1.length + R2.length) P R1 R2 (bl lt s R3) a (a + s) (a + 2 * s) (Nat.le_refl _) ha.symm (by omega) (by omega) (by omega) (by omega) h1 h2 (by omega)) (ok5 hK _ _ _) rfl rfl rfl rfl rfl rfl (ren5 hK _ _ _) ?_
   repeat ((fail_if_success refine zu ?_); first | refine q_Y ?_ | ((first | apply q_K rfl | apply q_X rfl); (exact qqam0)) | refine q_T ?_ | ((first | apply q_K rfl | apply q_X rfl); first | exact zdf 2 rfl rfl rfl rfl | exact zbY 2 rfl rfl rfl rfl))
   exact ⟨(a + 2 * s, P ++ (mrg lt R1 R2 ++ bl lt s R3)), ⟨P ++ mrg lt R1 R2, R3, by simp, by rw [List.length_append, m1]; omega, by (try dsimp only); omega, by rw [← hT]; simp⟩, by (try dsimp only); omega, q_S⟩
  ·have hfin : P ++ stS lt R = bl lt (s * 2) l := by rw [Nat.mul_comm, ← hT, zbX (by omega)]
   by_cases hm : a + s < n
   ·obtain ⟨b1, b2⟩ := ziL W hs (show R.length < 2 * s by omega) (by omega)
    rw [b1] at hL
    rw [← b2] at hfin
    have e1 : (stS lt (R.take s)).length = s := by rw [zaL, List.length_take]; omega
    have e2 : (stS lt (R.drop s)).length = R.length - s := by rw [zaL, List.length_drop]
    have h1 := zbz W (R.take s)
    have h2 := zbz W (R.drop s)
    generalize stS lt (R.take s) = R1 at *
    generalize stS lt (R.drop s) = R2 at *
    rw [show L = P ++ (R1 ++ (R2 ++ [])) by rw [hL]; simp]
    rw [show P ++ mrg lt R1 R2 = P ++ (mrg lt R1 R2 ++ []) by simp] at hfin
    repeat ((fail_if_success refine zu ?_); first | refine q_Y ?_ | ((first | apply q_K rfl | apply q_X rfl); (exact qqam0)) | refine q_T ?_)
    refine O_cU 1000 (sym hk hK W hlt HC (R1.length + R2.length) P R1 R2 [] a (a + s) n (Nat.le_refl _) ha.symm (by omega) (by omega) (by omega) (by omega) h1 h2 (by simp; omega)) (ok5 hK _ _ _) rfl rfl rfl rfl rfl rfl (ren5 hK _ _ _) ?_
    rw [hfin]
    repeat ((fail_if_success refine zu ?_); first | refine q_Y ?_ | ((first | apply q_K rfl | apply q_X rfl); (exact qqam0)) | refine q_T ?_ | ((first | apply q_K rfl | apply q_X rfl); first | exact zdf 2 rfl rfl rfl rfl | exact zbY 2 rfl rfl rfl rfl))
    exact ⟨(s * 2, bl lt (s * 2) l), ⟨rfl, by (try dsimp only); omega, by (try dsimp only); omega⟩, by (try dsimp only); omega, q_S⟩
   ·have hLe : L = bl lt (s * 2) l := by rw [hL, zbX (by omega)]; exact hfin
    subst hLe
    repeat ((fail_if_success refine zu ?_); first | refine q_Y ?_ | ((first | apply q_K rfl | apply q_X rfl); (exact qqam0)) | refine q_T ?_ | ((first | apply q_K rfl | apply q_X rfl); first | exact zdf 2 rfl rfl rfl rfl | exact zbY 2 rfl rfl rfl rfl))
    exact ⟨(s * 2, bl lt (s * 2) l), ⟨rfl, by (try dsimp only); omega, by (try dsimp only); omega⟩, by (try dsimp only); omega, q_S⟩
 ·rw [zbX (by omega)]
  repeat ((fail_if_success refine zu ?_); first | refine q_Y ?_ | ((first | apply q_K rfl | apply q_X rfl); (exact qqam0)) | refine q_T ?_)
  exact zal AWk.refl rfl (h2 := [(1000, gR cE cK enc (stS lt l))]) ⟨rfl, trivial⟩ ⟨rfl, rfl⟩) : G := s
theorem ok3 {K : AVal} (h : KOk K) (a : Nat) : [AVal.row 1000, natA a, K].all (okV [(1000, 1000)]) = true := by
 show (okV _ (AVal.row 1000) && (okV _ (natA a) && (okV _ K && true))) = true
 rw [h.1]; rfl
theorem ren3 {K : AVal} (h : KOk K) (a : Nat) : [AVal.row 1000, natA a, K].map (renV [(1000, 1000)]) = [AVal.row 1000, natA a, K] := by
 show [AVal.row 1000, natA a, renV _ K] = _
 rw [h.2]
def SstSt (el k f : Nat) : Prop := ∀ ⦃α : Type⦄ {enc : α → List Dat} (hk : ∀ x, (enc x).length = k) {fc : FuncId} {caps : List AVal} (hK : KOk (.fn fc caps)) {lt : α → α → Bool} {cmpI : α → α → Int} (W : Weak lt) (hlt : ∀ x y, lt x y = decide (cmpI x y < 0)) (HC : ∀ x y, ACall Tryz.prog fc ([gA enc x, gA enc y] ++ caps) [] (Just (intA (cmpI x y)))) (l : List α) (hN : l.length ≤ 100000000000), ACall Tryz.prog f [.row 1000, .fn fc caps] [(1000, gR el k enc l)] (fun c h => c = .tup [] ∧ h = [(1000, gR el k enc (stS lt l))])
theorem zcN {G : Prop} (s : G := by
 unfold SstSt
 intro α enc hk fc caps hK lt cmpI W hlt HC l hN
 refine zc za d_sst rfl n_sst (congrArg Array.toList r_sst) (by kernel_rfl) rfl ?_
 repeat ((fail_if_success refine zu ?_); first | refine q_Y ?_ | ((first | apply q_K rfl | apply q_X rfl); (exact qqam0)) | refine q_T ?_ | ((first | apply q_K rfl | apply q_X rfl); exact q_15))
 refine O_cU 1000 (stb hk hK W hlt HC l l.length rfl hN) (ok3 hK _) rfl rfl rfl rfl rfl rfl (ren3 hK _) ?_
 repeat ((fail_if_success refine zu ?_); first | refine q_Y ?_ | ((first | apply q_K rfl | apply q_X rfl); (exact qqam0)) | refine q_T ?_)
 exact zal AWk.refl rfl (h2 := [(1000, gR cE cK enc (stS lt l))]) ⟨rfl, trivial⟩ ⟨rfl, rfl⟩) : G := s
end Go.Proofs.YtoahnbmedcjpeaaGreatDoor.Ab

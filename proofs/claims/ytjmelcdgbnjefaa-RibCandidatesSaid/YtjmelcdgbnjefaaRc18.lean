/-
  Texts of a proof, one behind the other (part 19).
-/
import Derived.Test.YtjmelcdgbnjefaaRc0
import Derived.Test.YtjmelcdgbnjefaaRc2
import Derived.Test.YtjmelcdgbnjefaaRc3
import Derived.Test.YtjmelcdgbnjefaaRc5
import Derived.Test.YtjmelcdgbnjefaaRc13
import Derived.Test.YtjmelcdgbnjefaaRc17
set_option linter.unusedVariables false
set_option linter.unusedSimpArgs false
namespace Go.Proofs.Ytjmelcdgbnjefaa
set_option linter.unusedVariables false
open Go.RowKit
def ofIfx (x : Ifx) : Ifc := ⟨.string ⟨⟨x.nm⟩⟩, .string ⟨⟨x.vrf⟩⟩, x.a, x.b, x.down, .string ⟨⟨x.fin⟩⟩, .string ⟨⟨x.fout⟩⟩, .int .u8 x.side, .int .i64 x.area, .int .i64 x.cost, .bool x.pas⟩
def aliveB (x : Ifx) : Bool := (ofIfx x).alive
def subB (x : Ifx) : Bool := (ofIfx x).addressed && decide (0 ≤ x.b ∧ x.b ≤ 32)
def subP (x : Ifx) : Pfx := if subB x then Go.Proofs.Ytjmelcdgbnjefaa.sub x.a x.b else ⟨0, 0⟩
def con1 (vrf : List UInt8) (x : Ifx) : List Rte := if subB x && aliveB x && decide (x.vrf = vrf) then [⟨subP x, 1, 0, 0, 0, x.nm, 0, false⟩] else []
def conR (vrf : List UInt8) (l : List Ifx) : List Rte := l.flatMap (con1 vrf)
def wri1 (vrf : List UInt8) (s : Sta) : List Rte := if s.vrf = vrf then [⟨s.p, 2, s.dist, 0, s.tag, [], s.via, s.x⟩] else []
def wriR (vrf : List UInt8) (l : List Sta) : List Rte := l.flatMap (wri1 vrf)
theorem flat_le1 {α β : Type} (f : α → List β) (hf : ∀ x, (f x).length ≤ 1) : ∀ l : List α, (l.flatMap f).length ≤ l.length
  | [] => by simp
  | x :: r => by
    have := flat_le1 f hf r
    have := hf x
    rw [List.flatMap_cons, List.length_append, List.length_cons]; omega
theorem con1_le (vrf : List UInt8) (x : Ifx) : (con1 vrf x).length ≤ 1 := by unfold con1; split <;> simp
theorem wri1_le (vrf : List UInt8) (x : Sta) : (wri1 vrf x).length ≤ 1 := by unfold wri1; split <;> simp
theorem flat_tk {α β : Type} (f : α → List β) (l : List α) (k : Nat) (hk : k < l.length) : (l.take (k + 1)).flatMap f = (l.take k).flatMap f ++ f l[k] := by
  rw [List.take_succ_eq_append_getElem hk, List.flatMap_append]; simp
theorem flat_tk_le {α β : Type} (f : α → List β) (hf : ∀ x, (f x).length ≤ 1) (l : List α) (k : Nat) : ((l.take k).flatMap f).length ≤ k := by
  have := flat_le1 f hf (l.take k)
  have := List.length_take_le k l
  omega
namespace Ab
set_option maxRecDepth 100000
open Go.Lib
theorem alive_A (x : Ifx) : ACall Try.prog 27 [aggD (ifxD x)] [] (Just (boolA (aliveB x))) := ACall_val (by kernel_rfl) rfl rfl rfl fun w => alive_any (ofIfx x) w
theorem refAlive_A (x : Ifx) : ACall Try.prog 24 [aggD (ifxD x)] [] (Just (boolA (aliveB x))) := ACall_val (by kernel_rfl) rfl rfl rfl fun w => refAlive_any (ofIfx x) w
theorem sub_val (x : Ifx) : (ofIfx x).sub = .tuple #[.agg #[.int .u32 (subP x).a, .int .i64 (subP x).b], .bool (subB x)] := by
  show (if (ofIfx x).addressed && decide (0 ≤ x.b ∧ x.b ≤ 32) then _ else _) = _
  unfold subP subB
  cases h : (ofIfx x).addressed && decide (0 ≤ x.b ∧ x.b ≤ 32)
  · simp
  · simp [ofIfx]
theorem subnetI_A (x : Ifx) (hx : x.ok) : ACall Try.prog 26 [aggD (ifxD x)] [] (Just (.tup [pfxA (subP x), boolA (subB x)])) := ACall_val (v := .tuple #[.agg #[.int .u32 (subP x).a, .int .i64 (subP x).b], .bool (subB x)]) (by kernel_rfl) rfl rfl rfl fun w => by
  rw [← sub_val]; exact subnet_any (ofIfx x) w hx.a
theorem refSubnetI_A (x : Ifx) (hx : x.ok) : ACall Try.prog 23 [aggD (ifxD x)] [] (Just (.tup [pfxA (subP x), boolA (subB x)])) := ACall_val (v := .tuple #[.agg #[.int .u32 (subP x).a, .int .i64 (subP x).b], .bool (subB x)]) (by kernel_rfl) rfl rfl rfl fun w => by
  rw [← sub_val]; exact refSubnetI_any (ofIfx x) w hx.a
set_option linter.unusedSimpArgs false
attribute [local irreducible] AWp AOps AQ AYield AEff ACall AWk AAny AAt AThen AIn APost NoPanic
set_option maxHeartbeats 8000000 in
theorem written_A (d : Dvc) (vrf : List UInt8) (hn : d.sts.length ≤ 300) : ACall Try.prog 13 [dvcA d, strA vrf] [] (fun c h => c = .row 5 ∧ h = [(5, rteB (sortU ordR (wriR vrf d.sts)))]) := by
  have hsort := sort_R (wriR vrf d.sts) (by have := flat_le1 _ (wri1_le vrf) d.sts; unfold wriR; omega)
  refine ACall_of tabOk Try.func13 rfl Try.ntmps13 (congrArg Array.toList Try.results13) (by kernel_rfl) rfl ?_
  refine A_seq ?_
  refine R_list ?_
  refine q_d ?_
  refine O_weaken (Wk_freezeV (id := 2) (ds := dvcD d) rfl rfl) ?_
  repeat (first | refine A_seq ?_ | refine A_block ?_ | refine R_list ?_ | ((first | apply O_y rfl rfl rfl | apply Q_y rfl rfl rfl); (first | exact q_1 | exact q_2 | exact q_3 | exact q_4 | exact q_5 | exact q_6 | exact q_7 | exact q_8 | exact q_9 | exact q_10 | exact q_11 | exact q_12 | exact q_13 | exact q_14 | exact q_15 | exact q_16 | exact q_17 | exact q_18 | exact q_19 | exact q_20 | exact q_21 | exact q_22 | exact q_23 | exact q_24 | fail)) | refine O_nil ?_ | refine Q_nil ?_ | refine q_j ?_ | refine q_k ?_ | refine q_d ?_ | refine q_a ?_ | refine q_b ?_ | refine q_c ?_ | refine A_ct rfl ?_ | refine A_cf rfl ?_ | refine A_skip ?_ | refine A_exit ?_ | refine A_ret ?_ | refine q_l ?_ | refine q_m ?_ | refine q_n ?_ | refine q_h ?_ | refine q_o ?_ | refine q_e ?_ | refine q_f ?_ | refine q_g ?_ | fail)
  refine A_weaken (Wk_nil 58 9 (t := 5) (id := 32) rfl rfl) ?_
  refine A_loop (fun k : Nat => [(1, strA vrf), (5, .row 32), (9, .d (.sl (d.sts.flatMap staD) d.sts.length)), (10, intA (d.sts.length : Int)), (11, intA (k : Int))]) (fun k => [(32, rteB (wriR vrf (d.sts.take k)))]) (fun k => k ≤ d.sts.length) (fun k => d.sts.length - k) 0 (Nat.zero_le _) (Wk_sel ⟨rfl, rfl, rfl, rfl, rfl, trivial⟩ ⟨rfl, trivial⟩) ?_
  intro k hkl
  try dsimp only
  by_cases hk : k < d.sts.length
  · have hle : (wriR vrf (d.sts.take k)).length ≤ k := flat_tk_le _ (wri1_le vrf) d.sts k
    have hst : wriR vrf (d.sts.take (k + 1)) = wriR vrf (d.sts.take k) ++ wri1 vrf d.sts[k] := flat_tk _ _ _ hk
    obtain ⟨sv, ⟨pa, pb⟩, via, sx, sd, tg, hx⟩ : ∃ sv p via sx sd tg, d.sts[k] = ⟨sv, p, via, sx, sd, tg⟩ := ⟨_, _, _, _, _, _, rfl⟩
    have hw : win (d.sts.flatMap staD) (k * 7) 7 = [sD sv, uD pa, iD pb, uD via, bD sx, iD sd, iD tg] := (win_flat0 staD_len d.sts k 7 hk (by decide)).trans (by rw [hx]; rfl)
    rw [hx] at hst
    unfold wri1 at hst
    dsimp only at hst
    repeat (first | refine A_seq ?_ | refine A_block ?_ | refine R_list ?_ | ((first | apply O_y rfl rfl rfl | apply Q_y rfl rfl rfl); (first | exact q_1 | exact q_2 | exact q_3 | exact q_4 | exact R_loadi tabOk rfl rfl rfl rfl hw rfl rfl | exact q_6 | exact q_7 | exact q_8 | exact q_9 | exact q_10 | exact q_11 | exact q_12 | exact q_13 | exact q_14 | exact q_15 | exact q_16 | exact q_17 | exact q_18 | exact q_19 | exact q_20 | exact q_21 | exact q_22 | exact q_23 | exact q_24 | (exact R_index (j := k) tabOk rfl rfl rfl rfl rfl rfl hk))) | refine O_nil ?_ | refine Q_nil ?_ | refine q_j ?_ | refine q_k ?_ | refine q_d ?_ | refine q_a ?_ | refine q_b ?_ | refine q_c ?_ | refine A_ct rfl ?_ | refine A_cf rfl ?_ | refine A_skip ?_ | refine A_exit ?_ | refine A_ret ?_ | refine q_l ?_ | refine q_m ?_ | refine q_n ?_ | refine q_h ?_ | refine q_o ?_ | refine q_e ?_ | refine q_f ?_ | refine q_g ?_ | fail)
    refine O_weaken (Wk_sel (e1 := [(1, strA vrf), (5, .row 32), (7, .ptr 7 0), (9, .d (.sl (d.sts.flatMap staD) d.sts.length)), (10, intA (d.sts.length : Int)), (11, intA (k : Int)), (16, strA sv), (17, strA vrf)]) (h1 := [(32, rteB (wriR vrf (d.sts.take k))), (7, .var [.d (sD sv), .d (uD pa), .d (iD pb), .d (uD via), .d (bD sx), .d (iD sd), .d (iD tg)])]) ⟨rfl, rfl, rfl, rfl, rfl, rfl, rfl, rfl, trivial⟩ ⟨rfl, rfl, trivial⟩) ?_
    by_cases hv : sv = vrf
    · rw [if_pos hv] at hst
      repeat (first | refine A_seq ?_ | refine A_block ?_ | refine R_list ?_ | (apply O_y rfl rfl rfl; (first | exact q_1 | exact q_8 | exact q_7 | (exact R_sT rfl rfl rfl rfl (decide_eq_true hv)))) | refine O_nil ?_ | refine q_j ?_ | refine q_k ?_ | refine A_ct rfl ?_ | refine A_skip ?_)
      apply O_y rfl rfl rfl
      exact R_build (xs := [.d (uD pa), .d (iD pb), .d (cD 2), .d (iD sd), .d (iD 0), .d (iD tg), .d (sD []), .d (uD via), .d (bD sx)]) tabOk rfl rfl rfl rfl rfl (by kernel_rfl)
      refine q_c ?_
      refine O_appR tabOk rfl rfl rfl rfl rfl rfl rfl rfl rfl rfl rfl (Src.row rfl) rfl (by omega) ?_
      repeat (first | refine A_seq ?_ | refine A_block ?_ | refine R_list ?_ | ((first | apply O_y rfl rfl rfl | apply Q_y rfl rfl rfl); (first | exact q_1 | exact q_2 | exact q_3 | exact q_4 | exact q_5 | exact q_6 | exact q_7 | exact q_8 | exact q_9 | exact q_10 | exact q_11 | exact q_12 | exact q_13 | exact q_14 | exact q_15 | exact q_16 | exact q_17 | exact q_18 | exact q_19 | exact q_20 | exact q_21 | exact q_22 | exact q_23 | exact q_24 | fail)) | refine O_nil ?_ | refine Q_nil ?_ | refine q_j ?_ | refine q_k ?_ | refine q_d ?_ | refine q_a ?_ | refine q_b ?_ | refine q_c ?_ | refine A_ct rfl ?_ | refine A_cf rfl ?_ | refine A_skip ?_ | refine A_exit ?_ | refine A_ret ?_ | refine q_l ?_ | refine q_m ?_ | refine q_n ?_ | refine q_h ?_ | refine q_o ?_ | refine q_e ?_ | refine q_f ?_ | refine q_g ?_ | fail)
      refine ⟨k + 1, by omega, by omega, Wk_sel ⟨rfl, rfl, rfl, rfl, rfl, trivial⟩ ⟨?_, trivial⟩⟩
      first
        | exact row_eq (by rw [hst, List.length_append]; rfl) (by rw [hst, List.flatMap_append]; rfl) rfl
        | (rw [hst, List.append_nil]; rfl)
    · rw [if_neg hv] at hst
      repeat (first | refine A_seq ?_ | refine A_block ?_ | refine R_list ?_ | ((first | apply O_y rfl rfl rfl | apply Q_y rfl rfl rfl); (first | exact q_1 | exact q_2 | exact q_3 | exact q_4 | exact q_5 | exact q_6 | exact q_7 | exact q_8 | exact q_9 | exact q_10 | exact q_11 | exact q_12 | exact q_13 | exact q_14 | exact q_15 | exact q_16 | exact q_17 | exact q_18 | exact q_19 | exact q_20 | exact q_21 | exact q_22 | exact q_23 | exact q_24 | (exact R_sF rfl rfl rfl rfl (decide_eq_false hv)))) | refine O_nil ?_ | refine Q_nil ?_ | refine q_j ?_ | refine q_k ?_ | refine q_d ?_ | refine q_a ?_ | refine q_b ?_ | refine q_c ?_ | refine A_ct rfl ?_ | refine A_cf rfl ?_ | refine A_skip ?_ | refine A_exit ?_ | refine A_ret ?_ | refine q_l ?_ | refine q_m ?_ | refine q_n ?_ | refine q_h ?_ | refine q_o ?_ | refine q_e ?_ | refine q_f ?_ | refine q_g ?_ | fail)
      refine ⟨k + 1, by omega, by omega, Wk_sel ⟨rfl, rfl, rfl, rfl, rfl, trivial⟩ ⟨?_, trivial⟩⟩
      first
        | exact row_eq (by rw [hst, List.length_append]; rfl) (by rw [hst, List.flatMap_append]; rfl) rfl
        | (rw [hst, List.append_nil]; rfl)
  · obtain rfl : k = d.sts.length := by omega
    rw [List.take_length]
    refine A_weaken (Wk_freeze (id := 32) rfl) ?_
    repeat (first | refine A_seq ?_ | refine A_block ?_ | refine R_list ?_ | ((first | apply O_y rfl rfl rfl | apply Q_y rfl rfl rfl); (first | exact q_1 | exact q_2 | exact q_3 | exact q_4 | exact q_5 | exact q_6 | exact q_7 | exact q_8 | exact q_9 | exact q_10 | exact q_11 | exact q_12 | exact q_13 | exact q_14 | exact q_15 | exact q_16 | exact q_17 | exact q_18 | exact q_19 | exact q_20 | exact q_21 | exact q_22 | exact q_23 | exact q_24 | fail)) | refine O_nil ?_ | refine Q_nil ?_ | refine q_j ?_ | refine q_k ?_ | refine q_d ?_ | refine q_a ?_ | refine q_b ?_ | refine q_c ?_ | refine A_ct rfl ?_ | refine A_cf rfl ?_ | refine A_skip ?_ | refine A_exit ?_ | refine A_ret ?_ | refine q_l ?_ | refine q_m ?_ | refine q_n ?_ | refine q_h ?_ | refine q_o ?_ | refine q_e ?_ | refine q_f ?_ | refine q_g ?_ | (refine O_cRow rfl rfl rfl rfl rfl hsort rfl ?_))
    exact X_retW AWk.refl rfl (h2 := [(5, rteB (sortU ordR (wriR vrf d.sts)))]) ⟨rfl, trivial⟩ ⟨rfl, rfl⟩
set_option maxHeartbeats 8000000 in
theorem refWritten_A (d : Dvc) (vrf : List UInt8) (hn : d.sts.length ≤ 300) : ACall Try.prog 10 [dvcA d, strA vrf] [] (fun c h => c = .row 3 ∧ h = [(3, rteB (sortU ordR (wriR vrf d.sts)))]) := by
  have hsort := refSort_A (wriR vrf d.sts) (by have := flat_le1 _ (wri1_le vrf) d.sts; unfold wriR; omega)
  refine ACall_of tabOk Try.func10 rfl Try.ntmps10 (congrArg Array.toList Try.results10) (by kernel_rfl) rfl ?_
  refine A_seq ?_
  refine R_list ?_
  refine q_d ?_
  refine O_weaken (Wk_freezeV (id := 2) (ds := dvcD d) rfl rfl) ?_
  repeat (first | refine A_seq ?_ | refine A_block ?_ | refine R_list ?_ | ((first | apply O_y rfl rfl rfl | apply Q_y rfl rfl rfl); (first | exact q_1 | exact q_2 | exact q_3 | exact q_4 | exact q_5 | exact q_6 | exact q_7 | exact q_8 | exact q_9 | exact q_10 | exact q_11 | exact q_12 | exact q_13 | exact q_14 | exact q_15 | exact q_16 | exact q_17 | exact q_18 | exact q_19 | exact q_20 | exact q_21 | exact q_22 | exact q_23 | exact q_24 | fail)) | refine O_nil ?_ | refine Q_nil ?_ | refine q_j ?_ | refine q_k ?_ | refine q_d ?_ | refine q_a ?_ | refine q_b ?_ | refine q_c ?_ | refine A_ct rfl ?_ | refine A_cf rfl ?_ | refine A_skip ?_ | refine A_exit ?_ | refine A_ret ?_ | refine q_l ?_ | refine q_m ?_ | refine q_n ?_ | refine q_h ?_ | refine q_o ?_ | refine q_e ?_ | refine q_f ?_ | refine q_g ?_ | fail)
  refine A_weaken (Wk_nil 58 9 (t := 5) (id := 37) rfl rfl) ?_
  refine A_loop (fun k : Nat => [(1, strA vrf), (2, .iptr (dvcD d) 0), (5, .row 37), (6, intA (k : Int))]) (fun k => [(37, rteB (wriR vrf (d.sts.take k)))]) (fun k => k ≤ d.sts.length) (fun k => d.sts.length - k) 0 (Nat.zero_le _) (Wk_sel ⟨rfl, rfl, rfl, rfl, trivial⟩ ⟨rfl, trivial⟩) ?_
  intro k hkl
  try dsimp only
  by_cases hk : k < d.sts.length
  · have hle : (wriR vrf (d.sts.take k)).length ≤ k := flat_tk_le _ (wri1_le vrf) d.sts k
    have hst : wriR vrf (d.sts.take (k + 1)) = wriR vrf (d.sts.take k) ++ wri1 vrf d.sts[k] := flat_tk _ _ _ hk
    obtain ⟨sv, ⟨pa, pb⟩, via, sx, sd, tg, hx⟩ : ∃ sv p via sx sd tg, d.sts[k] = ⟨sv, p, via, sx, sd, tg⟩ := ⟨_, _, _, _, _, _, rfl⟩
    have hw : win (d.sts.flatMap staD) (k * 7) 7 = [sD sv, uD pa, iD pb, uD via, bD sx, iD sd, iD tg] := (win_flat0 staD_len d.sts k 7 hk (by decide)).trans (by rw [hx]; rfl)
    rw [hx] at hst
    unfold wri1 at hst
    dsimp only at hst
    repeat (first | refine A_seq ?_ | refine A_block ?_ | refine R_list ?_ | ((first | apply O_y rfl rfl rfl | apply Q_y rfl rfl rfl); (first | exact q_1 | exact q_2 | exact q_3 | exact q_4 | exact R_loadi tabOk rfl rfl rfl rfl (by first | exact hw | rfl) rfl rfl | exact q_6 | exact q_7 | exact q_8 | exact q_9 | exact q_10 | exact q_11 | exact q_12 | exact q_13 | exact q_14 | exact q_15 | exact q_16 | exact q_17 | exact q_18 | exact q_19 | exact q_20 | exact q_21 | exact q_22 | exact q_23 | exact q_24 | (exact R_index (j := k) tabOk rfl rfl rfl rfl rfl rfl hk))) | refine O_nil ?_ | refine Q_nil ?_ | refine q_j ?_ | refine q_k ?_ | refine q_d ?_ | refine q_a ?_ | refine q_b ?_ | refine q_c ?_ | refine A_ct rfl ?_ | refine A_cf rfl ?_ | refine A_skip ?_ | refine A_exit ?_ | refine A_ret ?_ | refine q_l ?_ | refine q_m ?_ | refine q_n ?_ | refine q_h ?_ | refine q_o ?_ | refine q_e ?_ | refine q_f ?_ | refine q_g ?_ | fail)
    refine O_weaken (Wk_sel (e1 := [(1, strA vrf), (2, .iptr (dvcD d) 0), (5, .row 37), (6, intA (k : Int)), (7, .ptr 7 0), (21, strA sv), (22, strA vrf)]) (h1 := [(37, rteB (wriR vrf (d.sts.take k))), (7, .var [.d (sD sv), .d (uD pa), .d (iD pb), .d (uD via), .d (bD sx), .d (iD sd), .d (iD tg)])]) ⟨rfl, rfl, rfl, rfl, rfl, rfl, rfl, trivial⟩ ⟨rfl, rfl, trivial⟩) ?_
    by_cases hv : sv = vrf
    · rw [if_pos hv] at hst
      repeat (first | refine A_seq ?_ | refine A_block ?_ | refine R_list ?_ | (apply O_y rfl rfl rfl; (first | exact q_1 | exact q_8 | exact q_7 | (exact R_sT rfl rfl rfl rfl (decide_eq_true hv)))) | refine O_nil ?_ | refine q_j ?_ | refine q_k ?_ | refine A_ct rfl ?_ | refine A_skip ?_)
      apply O_y rfl rfl rfl
      exact R_build (xs := [.d (uD pa), .d (iD pb), .d (cD 2), .d (iD sd), .d (iD 0), .d (iD tg), .d (sD []), .d (uD via), .d (bD sx)]) tabOk rfl rfl rfl rfl rfl (by kernel_rfl)
      refine q_c ?_
      refine O_appR tabOk rfl rfl rfl rfl rfl rfl rfl rfl rfl rfl rfl (Src.row rfl) rfl (by omega) ?_
      repeat (first | refine A_seq ?_ | refine A_block ?_ | refine R_list ?_ | ((first | apply O_y rfl rfl rfl | apply Q_y rfl rfl rfl); (first | exact q_1 | exact q_2 | exact q_3 | exact q_4 | exact q_5 | exact q_6 | exact q_7 | exact q_8 | exact q_9 | exact q_10 | exact q_11 | exact q_12 | exact q_13 | exact q_14 | exact q_15 | exact q_16 | exact q_17 | exact q_18 | exact q_19 | exact q_20 | exact q_21 | exact q_22 | exact q_23 | exact q_24 | fail)) | refine O_nil ?_ | refine Q_nil ?_ | refine q_j ?_ | refine q_k ?_ | refine q_d ?_ | refine q_a ?_ | refine q_b ?_ | refine q_c ?_ | refine A_ct rfl ?_ | refine A_cf rfl ?_ | refine A_skip ?_ | refine A_exit ?_ | refine A_ret ?_ | refine q_l ?_ | refine q_m ?_ | refine q_n ?_ | refine q_h ?_ | refine q_o ?_ | refine q_e ?_ | refine q_f ?_ | refine q_g ?_ | fail)
      refine ⟨k + 1, by omega, by omega, Wk_sel ⟨rfl, rfl, rfl, rfl, trivial⟩ ⟨?_, trivial⟩⟩
      first
        | exact row_eq (by rw [hst, List.length_append]; rfl) (by rw [hst, List.flatMap_append]; rfl) rfl
        | (rw [hst, List.append_nil]; rfl)
    · rw [if_neg hv] at hst
      repeat (first | refine A_seq ?_ | refine A_block ?_ | refine R_list ?_ | ((first | apply O_y rfl rfl rfl | apply Q_y rfl rfl rfl); (first | exact q_1 | exact q_2 | exact q_3 | exact q_4 | exact q_5 | exact q_6 | exact q_7 | exact q_8 | exact q_9 | exact q_10 | exact q_11 | exact q_12 | exact q_13 | exact q_14 | exact q_15 | exact q_16 | exact q_17 | exact q_18 | exact q_19 | exact q_20 | exact q_21 | exact q_22 | exact q_23 | exact q_24 | (exact R_sF rfl rfl rfl rfl (decide_eq_false hv)))) | refine O_nil ?_ | refine Q_nil ?_ | refine q_j ?_ | refine q_k ?_ | refine q_d ?_ | refine q_a ?_ | refine q_b ?_ | refine q_c ?_ | refine A_ct rfl ?_ | refine A_cf rfl ?_ | refine A_skip ?_ | refine A_exit ?_ | refine A_ret ?_ | refine q_l ?_ | refine q_m ?_ | refine q_n ?_ | refine q_h ?_ | refine q_o ?_ | refine q_e ?_ | refine q_f ?_ | refine q_g ?_ | fail)
      refine ⟨k + 1, by omega, by omega, Wk_sel ⟨rfl, rfl, rfl, rfl, trivial⟩ ⟨?_, trivial⟩⟩
      first
        | exact row_eq (by rw [hst, List.length_append]; rfl) (by rw [hst, List.flatMap_append]; rfl) rfl
        | (rw [hst, List.append_nil]; rfl)
  · obtain rfl : k = d.sts.length := by omega
    rw [List.take_length]
    refine A_weaken (Wk_freeze (id := 37) rfl) ?_
    repeat (first | refine A_seq ?_ | refine A_block ?_ | refine R_list ?_ | ((first | apply O_y rfl rfl rfl | apply Q_y rfl rfl rfl); (first | exact q_1 | exact q_2 | exact q_3 | exact q_4 | exact q_5 | exact q_6 | exact q_7 | exact q_8 | exact q_9 | exact q_10 | exact q_11 | exact q_12 | exact q_13 | exact q_14 | exact q_15 | exact q_16 | exact q_17 | exact q_18 | exact q_19 | exact q_20 | exact q_21 | exact q_22 | exact q_23 | exact q_24 | fail)) | refine O_nil ?_ | refine Q_nil ?_ | refine q_j ?_ | refine q_k ?_ | refine q_d ?_ | refine q_a ?_ | refine q_b ?_ | refine q_c ?_ | refine A_ct rfl ?_ | refine A_cf rfl ?_ | refine A_skip ?_ | refine A_exit ?_ | refine A_ret ?_ | refine q_l ?_ | refine q_m ?_ | refine q_n ?_ | refine q_h ?_ | refine q_o ?_ | refine q_e ?_ | refine q_f ?_ | refine q_g ?_ | (refine O_cRow rfl rfl rfl rfl rfl hsort rfl ?_))
    exact X_retW AWk.refl rfl (h2 := [(3, rteB (sortU ordR (wriR vrf d.sts)))]) ⟨rfl, trivial⟩ ⟨rfl, rfl⟩
end Ab
end Go.Proofs.Ytjmelcdgbnjefaa

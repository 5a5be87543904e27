/-
  Texts of a proof, one behind the other (part 22).
-/
import Derived.Test.YtjmelcdgbnjefaaRc5
import Derived.Test.YtjmelcdgbnjefaaRc18
import Derived.Test.YtjmelcdgbnjefaaRc20
set_option linter.unusedVariables false
set_option linter.unusedSimpArgs false
namespace Go.Proofs.Ytjmelcdgbnjefaa
set_option linter.unusedVariables false
open Go.RowKit
def lea1 (kd : Int) (x : Adv) : List Rte := if x.ses < 0 then [] else [⟨x.p, if x.ext then 7 else 8, (distR kd (if x.ext then 7 else 8)).1, x.met, 0, [], x.hop, false⟩]
def leaR (kd : Int) (l : List Adv) : List Rte := l.flatMap (lea1 kd)
theorem lea1_le (kd : Int) (x : Adv) : (lea1 kd x).length ≤ 1 := by unfold lea1; split <;> simp
namespace Ab
set_option maxRecDepth 100000
open Go.Lib
set_option linter.unusedSimpArgs false
attribute [local irreducible] AWp AOps AQ AYield AEff ACall AWk AAny AAt AThen AIn APost NoPanic
set_option maxHeartbeats 8000000 in
theorem conn_A (d : Dvc) (vrf : List UInt8) (hok : ∀ x ∈ d.ifs, x.ok) (hn : d.ifs.length ≤ 200) : ACall Try.prog 12 [dvcA d, strA vrf] [] (fun c h => c = .row 5 ∧ h = [(5, rteB (sortU ordR (conR vrf d.ifs)))]) := by
  have hsort := sort_R (conR vrf d.ifs) (by have := flat_le1 _ (con1_le vrf) d.ifs; unfold conR; omega)
  refine ACall_of tabOk Try.func12 rfl Try.ntmps12 (congrArg Array.toList Try.results12) (by kernel_rfl) rfl ?_
  refine A_seq ?_
  refine R_list ?_
  refine q_d ?_
  refine O_weaken (Wk_freezeV (id := 2) (ds := dvcD d) rfl rfl) ?_
  repeat (first | refine A_seq ?_ | refine A_block ?_ | refine R_list ?_ | ((first | apply O_y rfl rfl rfl | apply Q_y rfl rfl rfl); (first | exact q_1 | exact q_2 | exact q_3 | exact q_4 | exact q_5 | exact q_6 | exact q_7 | exact q_8 | exact q_9 | exact q_10 | exact q_11 | exact q_12 | exact q_13 | exact q_14 | exact q_15 | exact q_16 | exact q_17 | exact q_18 | exact q_19 | exact q_20 | exact q_21 | exact q_22 | exact q_23 | exact q_24 | fail)) | refine O_nil ?_ | refine Q_nil ?_ | refine q_j ?_ | refine q_k ?_ | refine q_d ?_ | refine q_a ?_ | refine q_b ?_ | refine q_c ?_ | refine A_ct rfl ?_ | refine A_cf rfl ?_ | refine A_skip ?_ | refine A_exit ?_ | refine A_ret ?_ | refine q_l ?_ | refine q_m ?_ | refine q_n ?_ | refine q_h ?_ | refine q_o ?_ | refine q_e ?_ | refine q_f ?_ | refine q_g ?_ | fail)
  refine A_weaken (Wk_nil 58 9 (t := 5) (id := 39) rfl rfl) ?_
  refine A_loop (fun k : Nat => [(1, strA vrf), (5, .row 39), (11, .d (.sl (d.ifs.flatMap ifxD) d.ifs.length)), (12, intA (d.ifs.length : Int)), (13, intA (k : Int))]) (fun k => [(39, rteB (conR vrf (d.ifs.take k)))]) (fun k => k ≤ d.ifs.length) (fun k => d.ifs.length - k) 0 (Nat.zero_le _) (Wk_sel ⟨rfl, rfl, rfl, rfl, rfl, trivial⟩ ⟨rfl, trivial⟩) ?_
  intro k hkl
  try dsimp only
  by_cases hk : k < d.ifs.length
  · skip
    have hle : (conR vrf (d.ifs.take k)).length ≤ k := flat_tk_le _ (con1_le vrf) d.ifs k
    have hst : conR vrf (d.ifs.take (k + 1)) = conR vrf (d.ifs.take k) ++ con1 vrf d.ifs[k] := flat_tk _ _ _ hk
    have hxo := hok _ (List.getElem_mem hk)
    obtain ⟨x, hx⟩ : ∃ x, d.ifs[k] = x := ⟨_, rfl⟩
    rw [hx] at hst hxo
    have hsub := subnetI_A x hxo
    have hali := alive_A x
    obtain ⟨sp, hsp⟩ : ∃ sp, subP x = sp := ⟨_, rfl⟩
    obtain ⟨sb, hsb⟩ : ∃ sb, subB x = sb := ⟨_, rfl⟩
    obtain ⟨al, hal⟩ : ∃ al, aliveB x = al := ⟨_, rfl⟩
    unfold con1 at hst
    rw [hsp, hsb, hal] at hst
    rw [hsp, hsb] at hsub
    rw [hal] at hali
    clear hsp hsb hal hxo
    obtain ⟨nm, vr, a, b, dn, fi, fo, sd, ar, co, pas⟩ := x
    obtain ⟨sa, sbb⟩ := sp
    dsimp only at hst
    have hw : win (d.ifs.flatMap ifxD) (k * 11) 11 = [sD nm, sD vr, uD a, iD b, bD dn, sD fi, sD fo, cD sd, iD ar, iD co, bD pas] := (win_flat0 ifxD_len d.ifs k 11 hk (by decide)).trans (by rw [hx]; rfl)
    repeat (first | refine A_seq ?_ | refine A_block ?_ | refine R_list ?_ | ((first | apply O_y rfl rfl rfl | apply Q_y rfl rfl rfl); (first | exact q_1 | exact q_2 | exact q_3 | exact q_4 | exact R_loadi tabOk rfl rfl rfl rfl hw rfl rfl | exact q_6 | exact q_7 | exact q_8 | exact q_9 | exact q_10 | exact q_11 | exact q_12 | exact q_13 | exact q_14 | exact q_15 | exact q_16 | exact q_17 | exact q_18 | exact q_19 | exact q_20 | exact q_21 | exact q_22 | exact q_23 | exact q_24 | (exact R_index (j := k) tabOk rfl rfl rfl rfl rfl rfl hk))) | refine O_nil ?_ | refine Q_nil ?_ | refine q_j ?_ | refine q_k ?_ | refine q_d ?_ | refine q_a ?_ | refine q_b ?_ | refine q_c ?_ | refine A_ct rfl ?_ | refine A_cf rfl ?_ | refine A_skip ?_ | refine A_exit ?_ | refine A_ret ?_ | refine q_l ?_ | refine q_m ?_ | refine q_n ?_ | refine q_h ?_ | refine q_o ?_ | refine q_e ?_ | refine q_f ?_ | refine q_g ?_ | refine O_c rfl rfl rfl rfl rfl hsub (fun _ => rfl) ?_)
    refine O_weaken (Wk_sel (e1 := [(1, strA vrf), (5, .row 39), (11, .d (.sl (d.ifs.flatMap ifxD) d.ifs.length)), (12, intA (d.ifs.length : Int)), (13, intA (k : Int)), (7, .ptr 7 0), (8, .ptr 8 0), (23, boolA sb)]) (h1 := [(39, rteB (conR vrf (d.ifs.take k))), (7, .var [.d (sD nm), .d (sD vr), .d (uD a), .d (iD b), .d (bD dn), .d (sD fi), .d (sD fo), .d (cD sd), .d (iD ar), .d (iD co), .d (bD pas)]), (8, .var [.d (uD sa), .d (iD sbb)])]) ⟨rfl, rfl, rfl, rfl, rfl, rfl, rfl, rfl, trivial⟩ ⟨rfl, rfl, rfl, trivial⟩) ?_
    cases sb
    · have hst : conR vrf (d.ifs.take (k + 1)) = conR vrf (d.ifs.take k) ++ [] := hst
      repeat (first | refine A_seq ?_ | refine A_block ?_ | refine R_list ?_ | ((first | apply O_y rfl rfl rfl | apply Q_y rfl rfl rfl); (first | exact q_1 | exact q_2 | exact q_3 | exact q_4 | exact q_5 | exact q_6 | exact q_7 | exact q_8 | exact q_9 | exact q_10 | exact q_11 | exact q_12 | exact q_13 | exact q_14 | exact q_15 | exact q_16 | exact q_17 | exact q_18 | exact q_19 | exact q_20 | exact q_21 | exact q_22 | exact q_23 | exact q_24 | fail)) | refine O_nil ?_ | refine Q_nil ?_ | refine q_j ?_ | refine q_k ?_ | refine q_d ?_ | refine q_a ?_ | refine q_b ?_ | refine q_c ?_ | refine A_ct rfl ?_ | refine A_cf rfl ?_ | refine A_skip ?_ | refine A_exit ?_ | refine A_ret ?_ | refine q_l ?_ | refine q_m ?_ | refine q_n ?_ | refine q_h ?_ | refine q_o ?_ | refine q_e ?_ | refine q_f ?_ | refine q_g ?_ | fail)
      refine ⟨k + 1, by omega, by omega, Wk_sel ⟨rfl, rfl, rfl, rfl, rfl, trivial⟩ ⟨?_, trivial⟩⟩
      first
        | exact row_eq (by rw [hst, List.length_append]; rfl) (by rw [hst, List.flatMap_append]; rfl) rfl
        | (rw [hst, List.append_nil]; rfl)
    cases al
    · have hst : conR vrf (d.ifs.take (k + 1)) = conR vrf (d.ifs.take k) ++ [] := hst
      repeat (first | refine A_seq ?_ | refine A_block ?_ | refine R_list ?_ | ((first | apply O_y rfl rfl rfl | apply Q_y rfl rfl rfl); (first | exact q_1 | exact q_2 | exact q_3 | exact q_4 | exact q_5 | exact q_6 | exact q_7 | exact q_8 | exact q_9 | exact q_10 | exact q_11 | exact q_12 | exact q_13 | exact q_14 | exact q_15 | exact q_16 | exact q_17 | exact q_18 | exact q_19 | exact q_20 | exact q_21 | exact q_22 | exact q_23 | exact q_24 | fail)) | refine O_nil ?_ | refine Q_nil ?_ | refine q_j ?_ | refine q_k ?_ | refine q_d ?_ | refine q_a ?_ | refine q_b ?_ | refine q_c ?_ | refine A_ct rfl ?_ | refine A_cf rfl ?_ | refine A_skip ?_ | refine A_exit ?_ | refine A_ret ?_ | refine q_l ?_ | refine q_m ?_ | refine q_n ?_ | refine q_h ?_ | refine q_o ?_ | refine q_e ?_ | refine q_f ?_ | refine q_g ?_ | refine O_c rfl rfl rfl rfl rfl hali (fun _ => rfl) ?_)
      refine ⟨k + 1, by omega, by omega, Wk_sel ⟨rfl, rfl, rfl, rfl, rfl, trivial⟩ ⟨?_, trivial⟩⟩
      first
        | exact row_eq (by rw [hst, List.length_append]; rfl) (by rw [hst, List.flatMap_append]; rfl) rfl
        | (rw [hst, List.append_nil]; rfl)
    by_cases hv : vr = vrf
    · rw [show (true && true && decide (vr = vrf)) = true by simpa using hv, if_pos rfl] at hst
      repeat (first | (apply O_y rfl rfl rfl; (first | exact q_1 | exact q_8 | exact q_7 | exact q_25 | exact R_sT rfl rfl rfl rfl (decide_eq_true hv))) | refine O_c rfl rfl rfl rfl rfl hali (fun _ => rfl) ?_ | refine O_nil ?_ | refine q_j ?_ | refine q_k ?_ | refine A_ct rfl ?_ | refine A_seq ?_ | refine R_list ?_ | refine A_block ?_)
      apply O_y rfl rfl rfl
      exact R_build (xs := [.d (uD sa), .d (iD sbb), .d (cD 1), .d (iD 0), .d (iD 0), .d (iD 0), .d (sD nm), .d (uD 0), .d (bD false)]) tabOk rfl rfl rfl rfl rfl (by kernel_rfl)
      refine q_c ?_
      refine O_appR tabOk rfl rfl rfl rfl rfl rfl rfl rfl rfl rfl rfl (Src.row rfl) rfl (by omega) ?_
      repeat (first | refine A_seq ?_ | refine A_block ?_ | refine R_list ?_ | ((first | apply O_y rfl rfl rfl | apply Q_y rfl rfl rfl); (first | exact q_1 | exact q_2 | exact q_3 | exact q_4 | exact q_5 | exact q_6 | exact q_7 | exact q_8 | exact q_9 | exact q_10 | exact q_11 | exact q_12 | exact q_13 | exact q_14 | exact q_15 | exact q_16 | exact q_17 | exact q_18 | exact q_19 | exact q_20 | exact q_21 | exact q_22 | exact q_23 | exact q_24 | fail)) | refine O_nil ?_ | refine Q_nil ?_ | refine q_j ?_ | refine q_k ?_ | refine q_d ?_ | refine q_a ?_ | refine q_b ?_ | refine q_c ?_ | refine A_ct rfl ?_ | refine A_cf rfl ?_ | refine A_skip ?_ | refine A_exit ?_ | refine A_ret ?_ | refine q_l ?_ | refine q_m ?_ | refine q_n ?_ | refine q_h ?_ | refine q_o ?_ | refine q_e ?_ | refine q_f ?_ | refine q_g ?_ | fail)
      refine ⟨k + 1, by omega, by omega, Wk_sel ⟨rfl, rfl, rfl, rfl, rfl, trivial⟩ ⟨?_, trivial⟩⟩
      first
        | exact row_eq (by rw [hst, List.length_append]; rfl) (by rw [hst, List.flatMap_append]; rfl) rfl
        | (rw [hst, List.append_nil]; rfl)
    · rw [show (true && true && decide (vr = vrf)) = false by simpa using hv, if_neg (by simp)] at hst
      repeat (first | refine A_seq ?_ | refine A_block ?_ | refine R_list ?_ | ((first | apply O_y rfl rfl rfl | apply Q_y rfl rfl rfl); (first | exact q_1 | exact q_2 | exact q_3 | exact q_4 | exact q_5 | exact q_6 | exact q_7 | exact q_8 | exact q_9 | exact q_10 | exact q_11 | exact q_12 | exact q_13 | exact q_14 | exact q_15 | exact q_16 | exact q_17 | exact q_18 | exact q_19 | exact q_20 | exact q_21 | exact q_22 | exact q_23 | exact q_24 | (exact R_sF rfl rfl rfl rfl (decide_eq_false hv)))) | refine O_nil ?_ | refine Q_nil ?_ | refine q_j ?_ | refine q_k ?_ | refine q_d ?_ | refine q_a ?_ | refine q_b ?_ | refine q_c ?_ | refine A_ct rfl ?_ | refine A_cf rfl ?_ | refine A_skip ?_ | refine A_exit ?_ | refine A_ret ?_ | refine q_l ?_ | refine q_m ?_ | refine q_n ?_ | refine q_h ?_ | refine q_o ?_ | refine q_e ?_ | refine q_f ?_ | refine q_g ?_ | refine O_c rfl rfl rfl rfl rfl hali (fun _ => rfl) ?_)
      refine ⟨k + 1, by omega, by omega, Wk_sel ⟨rfl, rfl, rfl, rfl, rfl, trivial⟩ ⟨?_, trivial⟩⟩
      first
        | exact row_eq (by rw [hst, List.length_append]; rfl) (by rw [hst, List.flatMap_append]; rfl) rfl
        | (rw [hst, List.append_nil]; rfl)
  · obtain rfl : k = d.ifs.length := by omega
    rw [List.take_length]
    refine A_weaken (Wk_freeze (id := 39) rfl) ?_
    repeat (first | refine A_seq ?_ | refine A_block ?_ | refine R_list ?_ | ((first | apply O_y rfl rfl rfl | apply Q_y rfl rfl rfl); (first | exact q_1 | exact q_2 | exact q_3 | exact q_4 | exact q_5 | exact q_6 | exact q_7 | exact q_8 | exact q_9 | exact q_10 | exact q_11 | exact q_12 | exact q_13 | exact q_14 | exact q_15 | exact q_16 | exact q_17 | exact q_18 | exact q_19 | exact q_20 | exact q_21 | exact q_22 | exact q_23 | exact q_24 | fail)) | refine O_nil ?_ | refine Q_nil ?_ | refine q_j ?_ | refine q_k ?_ | refine q_d ?_ | refine q_a ?_ | refine q_b ?_ | refine q_c ?_ | refine A_ct rfl ?_ | refine A_cf rfl ?_ | refine A_skip ?_ | refine A_exit ?_ | refine A_ret ?_ | refine q_l ?_ | refine q_m ?_ | refine q_n ?_ | refine q_h ?_ | refine q_o ?_ | refine q_e ?_ | refine q_f ?_ | refine q_g ?_ | (refine O_cRow rfl rfl rfl rfl rfl hsort rfl ?_))
    exact X_retW AWk.refl rfl (h2 := [(5, rteB (sortU ordR (conR vrf d.ifs)))]) ⟨rfl, trivial⟩ ⟨rfl, rfl⟩
set_option maxHeartbeats 8000000 in
theorem refConn_A (d : Dvc) (vrf : List UInt8) (hok : ∀ x ∈ d.ifs, x.ok) (hn : d.ifs.length ≤ 200) : ACall Try.prog 9 [dvcA d, strA vrf] [] (fun c h => c = .row 3 ∧ h = [(3, rteB (sortU ordR (conR vrf d.ifs)))]) := by
  have hsort := refSort_A (conR vrf d.ifs) (by have := flat_le1 _ (con1_le vrf) d.ifs; unfold conR; omega)
  refine ACall_of tabOk Try.func9 rfl Try.ntmps9 (congrArg Array.toList Try.results9) (by kernel_rfl) rfl ?_
  refine A_seq ?_
  refine R_list ?_
  refine q_d ?_
  refine O_weaken (Wk_freezeV (id := 2) (ds := dvcD d) rfl rfl) ?_
  repeat (first | refine A_seq ?_ | refine A_block ?_ | refine R_list ?_ | ((first | apply O_y rfl rfl rfl | apply Q_y rfl rfl rfl); (first | exact q_1 | exact q_2 | exact q_3 | exact q_4 | exact q_5 | exact q_6 | exact q_7 | exact q_8 | exact q_9 | exact q_10 | exact q_11 | exact q_12 | exact q_13 | exact q_14 | exact q_15 | exact q_16 | exact q_17 | exact q_18 | exact q_19 | exact q_20 | exact q_21 | exact q_22 | exact q_23 | exact q_24 | fail)) | refine O_nil ?_ | refine Q_nil ?_ | refine q_j ?_ | refine q_k ?_ | refine q_d ?_ | refine q_a ?_ | refine q_b ?_ | refine q_c ?_ | refine A_ct rfl ?_ | refine A_cf rfl ?_ | refine A_skip ?_ | refine A_exit ?_ | refine A_ret ?_ | refine q_l ?_ | refine q_m ?_ | refine q_n ?_ | refine q_h ?_ | refine q_o ?_ | refine q_e ?_ | refine q_f ?_ | refine q_g ?_ | fail)
  refine A_weaken (Wk_nil 58 9 (t := 5) (id := 54) rfl rfl) ?_
  refine A_loop (fun k : Nat => [(1, strA vrf), (2, .iptr (dvcD d) 0), (5, .row 54), (6, intA (k : Int))]) (fun k => [(54, rteB (conR vrf (d.ifs.take k)))]) (fun k => k ≤ d.ifs.length) (fun k => d.ifs.length - k) 0 (Nat.zero_le _) (Wk_sel ⟨rfl, rfl, rfl, rfl, trivial⟩ ⟨rfl, trivial⟩) ?_
  intro k hkl
  try dsimp only
  by_cases hk : k < d.ifs.length
  · skip
    have hle : (conR vrf (d.ifs.take k)).length ≤ k := flat_tk_le _ (con1_le vrf) d.ifs k
    have hst : conR vrf (d.ifs.take (k + 1)) = conR vrf (d.ifs.take k) ++ con1 vrf d.ifs[k] := flat_tk _ _ _ hk
    have hxo := hok _ (List.getElem_mem hk)
    obtain ⟨x, hx⟩ : ∃ x, d.ifs[k] = x := ⟨_, rfl⟩
    rw [hx] at hst hxo
    have hsub := refSubnetI_A x hxo
    have hali := refAlive_A x
    obtain ⟨sp, hsp⟩ : ∃ sp, subP x = sp := ⟨_, rfl⟩
    obtain ⟨sb, hsb⟩ : ∃ sb, subB x = sb := ⟨_, rfl⟩
    obtain ⟨al, hal⟩ : ∃ al, aliveB x = al := ⟨_, rfl⟩
    unfold con1 at hst
    rw [hsp, hsb, hal] at hst
    rw [hsp, hsb] at hsub
    rw [hal] at hali
    clear hsp hsb hal hxo
    obtain ⟨nm, vr, a, b, dn, fi, fo, sd, ar, co, pas⟩ := x
    obtain ⟨sa, sbb⟩ := sp
    dsimp only at hst
    have hw : win (d.ifs.flatMap ifxD) (k * 11) 11 = [sD nm, sD vr, uD a, iD b, bD dn, sD fi, sD fo, cD sd, iD ar, iD co, bD pas] := (win_flat0 ifxD_len d.ifs k 11 hk (by decide)).trans (by rw [hx]; rfl)
    have hw1 : win (d.ifs.flatMap ifxD) (k * 11 + 1) 1 = [sD vr] := (win_flat ifxD_len d.ifs k 1 1 hk (by decide)).trans (by rw [hx]; rfl)
    have hw0 : win (d.ifs.flatMap ifxD) (k * 11 + 0) 1 = [sD nm] := (win_flat ifxD_len d.ifs k 0 1 hk (by decide)).trans (by rw [hx]; rfl)
    repeat (first | refine A_seq ?_ | refine A_block ?_ | refine R_list ?_ | ((first | apply O_y rfl rfl rfl | apply Q_y rfl rfl rfl); (first | exact q_1 | exact q_2 | exact q_3 | exact q_4 | exact R_loadi tabOk rfl rfl rfl rfl (by first | exact hw | rfl) rfl rfl | exact q_6 | exact q_7 | exact q_8 | exact q_9 | exact q_10 | exact q_11 | exact q_12 | exact q_13 | exact q_14 | exact q_15 | exact q_16 | exact q_17 | exact q_18 | exact q_19 | exact q_20 | exact q_21 | exact q_22 | exact q_23 | exact q_24 | (exact R_index (j := k) tabOk rfl rfl rfl rfl rfl rfl hk))) | refine O_nil ?_ | refine Q_nil ?_ | refine q_j ?_ | refine q_k ?_ | refine q_d ?_ | refine q_a ?_ | refine q_b ?_ | refine q_c ?_ | refine A_ct rfl ?_ | refine A_cf rfl ?_ | refine A_skip ?_ | refine A_exit ?_ | refine A_ret ?_ | refine q_l ?_ | refine q_m ?_ | refine q_n ?_ | refine q_h ?_ | refine q_o ?_ | refine q_e ?_ | refine q_f ?_ | refine q_g ?_ | (first | refine O_c rfl rfl rfl rfl rfl hsub (fun _ => rfl) ?_ | refine O_c rfl rfl rfl rfl rfl hali (fun _ => rfl) ?_))
    refine O_weaken (Wk_sel (e1 := [(1, strA vrf), (2, .iptr (dvcD d) 0), (5, .row 54), (6, intA (k : Int)), (7, .ptr 7 0), (8, boolA sb), (31, boolA al)]) (h1 := [(54, rteB (conR vrf (d.ifs.take k))), (7, .var [.d (uD sa), .d (iD sbb)])]) ⟨rfl, rfl, rfl, rfl, rfl, rfl, rfl, trivial⟩ ⟨rfl, rfl, trivial⟩) ?_
    cases al
    · have hst : conR vrf (d.ifs.take (k + 1)) = conR vrf (d.ifs.take k) ++ [] := by rw [hst]; cases sb <;> rfl
      repeat (first | refine A_seq ?_ | refine A_block ?_ | refine R_list ?_ | ((first | apply O_y rfl rfl rfl | apply Q_y rfl rfl rfl); (first | exact q_1 | exact q_2 | exact q_3 | exact q_4 | exact q_5 | exact q_6 | exact q_7 | exact q_8 | exact q_9 | exact q_10 | exact q_11 | exact q_12 | exact q_13 | exact q_14 | exact q_15 | exact q_16 | exact q_17 | exact q_18 | exact q_19 | exact q_20 | exact q_21 | exact q_22 | exact q_23 | exact q_24 | fail)) | refine O_nil ?_ | refine Q_nil ?_ | refine q_j ?_ | refine q_k ?_ | refine q_d ?_ | refine q_a ?_ | refine q_b ?_ | refine q_c ?_ | refine A_ct rfl ?_ | refine A_cf rfl ?_ | refine A_skip ?_ | refine A_exit ?_ | refine A_ret ?_ | refine q_l ?_ | refine q_m ?_ | refine q_n ?_ | refine q_h ?_ | refine q_o ?_ | refine q_e ?_ | refine q_f ?_ | refine q_g ?_ | fail)
      refine ⟨k + 1, by omega, by omega, Wk_sel ⟨rfl, rfl, rfl, rfl, trivial⟩ ⟨?_, trivial⟩⟩
      first
        | exact row_eq (by rw [hst, List.length_append]; rfl) (by rw [hst, List.flatMap_append]; rfl) rfl
        | (rw [hst, List.append_nil]; rfl)
    cases sb
    · have hst : conR vrf (d.ifs.take (k + 1)) = conR vrf (d.ifs.take k) ++ [] := hst
      repeat (first | refine A_seq ?_ | refine A_block ?_ | refine R_list ?_ | ((first | apply O_y rfl rfl rfl | apply Q_y rfl rfl rfl); (first | exact q_1 | exact q_2 | exact q_3 | exact q_4 | exact q_5 | exact q_6 | exact q_7 | exact q_8 | exact q_9 | exact q_10 | exact q_11 | exact q_12 | exact q_13 | exact q_14 | exact q_15 | exact q_16 | exact q_17 | exact q_18 | exact q_19 | exact q_20 | exact q_21 | exact q_22 | exact q_23 | exact q_24 | fail)) | refine O_nil ?_ | refine Q_nil ?_ | refine q_j ?_ | refine q_k ?_ | refine q_d ?_ | refine q_a ?_ | refine q_b ?_ | refine q_c ?_ | refine A_ct rfl ?_ | refine A_cf rfl ?_ | refine A_skip ?_ | refine A_exit ?_ | refine A_ret ?_ | refine q_l ?_ | refine q_m ?_ | refine q_n ?_ | refine q_h ?_ | refine q_o ?_ | refine q_e ?_ | refine q_f ?_ | refine q_g ?_ | fail)
      refine ⟨k + 1, by omega, by omega, Wk_sel ⟨rfl, rfl, rfl, rfl, trivial⟩ ⟨?_, trivial⟩⟩
      first
        | exact row_eq (by rw [hst, List.length_append]; rfl) (by rw [hst, List.flatMap_append]; rfl) rfl
        | (rw [hst, List.append_nil]; rfl)
    by_cases hv : vr = vrf
    · rw [show (true && true && decide (vr = vrf)) = true by simpa using hv, if_pos rfl] at hst
      repeat (first | refine A_seq ?_ | refine A_block ?_ | refine R_list ?_ | ((first | apply O_y rfl rfl rfl | apply Q_y rfl rfl rfl); (first | exact q_1 | exact q_2 | exact q_3 | exact q_4 | exact R_loadi tabOk rfl rfl rfl rfl (by first | exact hw1 | rfl) rfl rfl | exact q_6 | exact q_7 | exact q_8 | exact q_9 | exact q_10 | exact q_11 | exact q_12 | exact q_13 | exact q_14 | exact q_15 | exact q_16 | exact q_17 | exact q_18 | exact q_19 | exact q_20 | exact q_21 | exact q_22 | exact q_23 | exact q_24 | (first | exact R_index (j := k) tabOk rfl rfl rfl rfl rfl rfl hk | exact R_sT rfl rfl rfl rfl (decide_eq_true hv)))) | refine O_nil ?_ | refine Q_nil ?_ | refine q_j ?_ | refine q_k ?_ | refine q_d ?_ | refine q_a ?_ | refine q_b ?_ | refine q_c ?_ | refine A_ct rfl ?_ | refine A_cf rfl ?_ | refine A_skip ?_ | refine A_exit ?_ | refine A_ret ?_ | refine q_l ?_ | refine q_m ?_ | refine q_n ?_ | refine q_h ?_ | refine q_o ?_ | refine q_e ?_ | refine q_f ?_ | refine q_g ?_ | fail)
      refine N_begin [54] mixed ?_
      apply q_P 0 rfl (by kernel_rfl) rfl rfl rfl
      exact q_1
      apply q_P 1 rfl (by kernel_rfl) rfl rfl rfl
      exact q_7
      apply q_P 2 rfl (by kernel_rfl) rfl rfl rfl
      exact q_4
      apply q_P 3 rfl (by kernel_rfl) rfl rfl rfl
      exact R_loadi tabOk rfl rfl rfl rfl (by first | exact hw0 | rfl) rfl rfl
      apply q_P 4 rfl (by kernel_rfl) rfl rfl rfl
      exact q_1
      apply q_P 5 rfl (by kernel_rfl) rfl rfl rfl
      exact R_index (j := k) tabOk rfl rfl rfl rfl rfl rfl hk
      apply q_P 6 rfl (by kernel_rfl) rfl rfl rfl
      exact q_4
      apply q_P 7 rfl (by kernel_rfl) rfl rfl rfl
      exact R_loadi tabOk rfl rfl rfl rfl (by first | exact hw0 | rfl) rfl rfl
      apply q_P 8 rfl (by kernel_rfl) rfl rfl rfl
      exact R_build (xs := [.d (uD sa), .d (iD sbb), .d (cD 1), .d (iD 0), .d (iD 0), .d (iD 0), .d (sD nm), .d (uD 0), .d (bD false)]) tabOk rfl rfl rfl rfl rfl (by kernel_rfl)
      refine N_one (j := 9) (by kernel_rfl) ?_
      refine T_slice tabOk rfl rfl rfl rfl rfl rfl rfl rfl rfl rfl rfl rfl ?_
      refine N_one (j := 10) (by kernel_rfl) ?_
      refine T_appR tabOk rfl rfl rfl rfl rfl rfl rfl rfl rfl rfl rfl rfl (Src.row rfl) rfl (by omega) rfl ?_
      apply q_P 11 rfl (by kernel_rfl) rfl rfl rfl
      exact q_2
      refine N_done (by kernel_rfl) ?_
      repeat (first | refine A_seq ?_ | refine A_block ?_ | refine R_list ?_ | ((first | apply O_y rfl rfl rfl | apply Q_y rfl rfl rfl); (first | exact q_1 | exact q_2 | exact q_3 | exact q_4 | exact q_5 | exact q_6 | exact q_7 | exact q_8 | exact q_9 | exact q_10 | exact q_11 | exact q_12 | exact q_13 | exact q_14 | exact q_15 | exact q_16 | exact q_17 | exact q_18 | exact q_19 | exact q_20 | exact q_21 | exact q_22 | exact q_23 | exact q_24 | fail)) | refine O_nil ?_ | refine Q_nil ?_ | refine q_j ?_ | refine q_k ?_ | refine q_d ?_ | refine q_a ?_ | refine q_b ?_ | refine q_c ?_ | refine A_ct rfl ?_ | refine A_cf rfl ?_ | refine A_skip ?_ | refine A_exit ?_ | refine A_ret ?_ | refine q_l ?_ | refine q_m ?_ | refine q_n ?_ | refine q_h ?_ | refine q_o ?_ | refine q_e ?_ | refine q_f ?_ | refine q_g ?_ | fail)
      refine ⟨k + 1, by omega, by omega, Wk_sel ⟨rfl, rfl, rfl, rfl, trivial⟩ ⟨?_, trivial⟩⟩
      first
        | exact row_eq (by rw [hst, List.length_append]; rfl) (by rw [hst, List.flatMap_append]; rfl) rfl
        | (rw [hst, List.append_nil]; rfl)
    · rw [show (true && true && decide (vr = vrf)) = false by simpa using hv, if_neg (by simp)] at hst
      repeat (first | refine A_seq ?_ | refine A_block ?_ | refine R_list ?_ | ((first | apply O_y rfl rfl rfl | apply Q_y rfl rfl rfl); (first | exact q_1 | exact q_2 | exact q_3 | exact q_4 | exact R_loadi tabOk rfl rfl rfl rfl (by first | exact hw1 | rfl) rfl rfl | exact q_6 | exact q_7 | exact q_8 | exact q_9 | exact q_10 | exact q_11 | exact q_12 | exact q_13 | exact q_14 | exact q_15 | exact q_16 | exact q_17 | exact q_18 | exact q_19 | exact q_20 | exact q_21 | exact q_22 | exact q_23 | exact q_24 | (first | exact R_index (j := k) tabOk rfl rfl rfl rfl rfl rfl hk | exact R_sF rfl rfl rfl rfl (decide_eq_false hv)))) | refine O_nil ?_ | refine Q_nil ?_ | refine q_j ?_ | refine q_k ?_ | refine q_d ?_ | refine q_a ?_ | refine q_b ?_ | refine q_c ?_ | refine A_ct rfl ?_ | refine A_cf rfl ?_ | refine A_skip ?_ | refine A_exit ?_ | refine A_ret ?_ | refine q_l ?_ | refine q_m ?_ | refine q_n ?_ | refine q_h ?_ | refine q_o ?_ | refine q_e ?_ | refine q_f ?_ | refine q_g ?_ | fail)
      refine ⟨k + 1, by omega, by omega, Wk_sel ⟨rfl, rfl, rfl, rfl, trivial⟩ ⟨?_, trivial⟩⟩
      first
        | exact row_eq (by rw [hst, List.length_append]; rfl) (by rw [hst, List.flatMap_append]; rfl) rfl
        | (rw [hst, List.append_nil]; rfl)
  · obtain rfl : k = d.ifs.length := by omega
    rw [List.take_length]
    refine A_weaken (Wk_freeze (id := 54) rfl) ?_
    repeat (first | refine A_seq ?_ | refine A_block ?_ | refine R_list ?_ | ((first | apply O_y rfl rfl rfl | apply Q_y rfl rfl rfl); (first | exact q_1 | exact q_2 | exact q_3 | exact q_4 | exact q_5 | exact q_6 | exact q_7 | exact q_8 | exact q_9 | exact q_10 | exact q_11 | exact q_12 | exact q_13 | exact q_14 | exact q_15 | exact q_16 | exact q_17 | exact q_18 | exact q_19 | exact q_20 | exact q_21 | exact q_22 | exact q_23 | exact q_24 | fail)) | refine O_nil ?_ | refine Q_nil ?_ | refine q_j ?_ | refine q_k ?_ | refine q_d ?_ | refine q_a ?_ | refine q_b ?_ | refine q_c ?_ | refine A_ct rfl ?_ | refine A_cf rfl ?_ | refine A_skip ?_ | refine A_exit ?_ | refine A_ret ?_ | refine q_l ?_ | refine q_m ?_ | refine q_n ?_ | refine q_h ?_ | refine q_o ?_ | refine q_e ?_ | refine q_f ?_ | refine q_g ?_ | (refine O_cRow rfl rfl rfl rfl rfl hsort rfl ?_))
    exact X_retW AWk.refl rfl (h2 := [(3, rteB (sortU ordR (conR vrf d.ifs)))]) ⟨rfl, trivial⟩ ⟨rfl, rfl⟩
end Ab
end Go.Proofs.Ytjmelcdgbnjefaa

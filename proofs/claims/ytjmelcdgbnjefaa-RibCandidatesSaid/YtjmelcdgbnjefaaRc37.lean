/-
  Texts of a proof, one behind the other (part 38).
-/
import Derived.Test.YtjmelcdgbnjefaaRc5
import Derived.Test.YtjmelcdgbnjefaaRc14
import Derived.Test.YtjmelcdgbnjefaaRc22
import Derived.Test.YtjmelcdgbnjefaaRc24
import Derived.Test.YtjmelcdgbnjefaaRc26
import Derived.Test.YtjmelcdgbnjefaaRc28
import Derived.Test.YtjmelcdgbnjefaaRc29
import Derived.Test.YtjmelcdgbnjefaaRc30
import Derived.Test.YtjmelcdgbnjefaaRc36
set_option linter.unusedVariables false
set_option linter.unusedSimpArgs false
namespace Go.Proofs.Ytjmelcdgbnjefaa.Ab
set_option linter.unusedVariables false
set_option maxRecDepth 100000
open Go.RowKit Go.Lib
section
variable {P : Program} {nt : Nat} {Q : Post} {e : Env} {h : Heap} {ops : Array Oper} {o : Oper} {T : List Nat} {tab : TTab} {fuel i : Nat} {listed : Array Bool}
theorem T_sliceA {t el k len d : Nat} {ps : Array (Nat × Operand)} {al : List (Nat × AVal)} {xs : List AVal} (TO : TabOk P tab) (hi : ops[i]? = some o) (hw : awant ops e o = some true) (hdst : o.dst = some d) (hd : Nat.blt d nt = true) (hid : Nat.blt d 1000 = true) (ho : o.op = .buildSlice t len ps)
    (hel : telem tab t = some el) (hsz : tsize tab el = some k) (hok : (match tlook tab el with | some te => te.zero.all (·.oneCell') && Nat.blt 0 te.size && Nat.beq te.zero.length te.size && Nat.blt (len * te.size) 16777216 && Nat.blt 0 len | none => false) = true)
    (hal : aparts e ps.toList = some al) (hf : (match tlook tab el with
      | some te => afill (fun i => some (i * te.size, te.size)) ((List.range (len * te.size)).map fun j => match te.zero[j % te.size]? with | some v => .d (.sc v) | none => .top) al
      | none => none) = some xs)
    (HK : AAny P nt ops Q T fuel (listed.setIfInBounds i true) ((d, .row d) :: killE d e) ((d, .rowA el k len (xs.map (killV d))) :: killH d h)) : AAt P nt ops Q T fuel listed i e h := by
  obtain ⟨te, h1, h2⟩ := telem_spec hel
  obtain ⟨te', h3, rfl⟩ := tsize_spec hsz
  rw [h3] at hok hf
  simp only [Bool.and_eq_true] at hok
  exact T_eff hi hw (E_buildSliceA TO ho hdst h1 h2 h3 hok.1.1.1.1 hok.1.1.1.2 hok.1.1.2 hok.1.2 hok.2 hal hf hid hd) fun e' h' ⟨h1, h2⟩ => by subst h1 h2; exact HK
end
set_option linter.unusedSimpArgs false
attribute [local irreducible] AWp AOps AQ AYield AEff ACall AWk AAny AAt AThen AIn APost NoPanic
set_option maxHeartbeats 16000000 in
theorem cand_A (d : Dvc) (vrf : List UInt8) (l : List Adv) (kind from_ : Int) (hd : d.ok) (hk0 : okC kind) (hl : ∀ x ∈ l, x.ok) :
    ACall Try.prog 3 [dvcA d, strA vrf, advsA l, u8A kind, u8A from_] [] (Just (boolA true)) := by
  by_cases s1 : 200 < d.ifs.length
  · refine ACall_of tabOk Try.func3 rfl Try.ntmps3 (congrArg Array.toList Try.results3) (by kernel_rfl) rfl ?_
    refine A_seq ?_
    refine R_list ?_
    refine q_d ?_
    refine O_weaken (Wk_freezeV (id := 5) (ds := dvcD d) rfl rfl) ?_
    repeat (first | refine A_seq ?_ | refine A_block ?_ | refine R_list ?_ | ((first | apply O_y rfl rfl rfl | apply Q_y rfl rfl rfl); (first | exact q_1 | exact q_2 | exact q_3 | exact q_4 | exact q_5 | exact q_6 | exact q_7 | exact q_8 | exact q_9 | exact q_10 | exact q_11 | exact q_12 | exact q_13 | exact q_14 | exact q_15 | exact q_16 | exact q_17 | exact q_18 | exact q_19 | exact q_20 | exact q_21 | exact q_22 | exact q_23 | exact q_24 | (exact q_25))) | refine O_nil ?_ | refine Q_nil ?_ | refine q_j ?_ | refine q_k ?_ | refine q_d ?_ | refine q_a ?_ | refine q_b ?_ | refine q_c ?_ | refine A_ct rfl ?_ | refine A_cf rfl ?_ | refine A_skip ?_ | refine A_exit ?_ | refine A_ret ?_ | refine q_l ?_ | refine q_m ?_ | refine q_n ?_ | refine q_h ?_ | refine q_o ?_ | refine q_e ?_ | refine q_f ?_ | refine q_g ?_ | refine O_c rfl rfl rfl rfl rfl ribAwake_A (fun _ => rfl) ?_)
    exact X_ret rfl ⟨rfl, rfl⟩
  by_cases s2 : 300 < d.sts.length
  · refine ACall_of tabOk Try.func3 rfl Try.ntmps3 (congrArg Array.toList Try.results3) (by kernel_rfl) rfl ?_
    refine A_seq ?_
    refine R_list ?_
    refine q_d ?_
    refine O_weaken (Wk_freezeV (id := 5) (ds := dvcD d) rfl rfl) ?_
    repeat (first | refine A_seq ?_ | refine A_block ?_ | refine R_list ?_ | ((first | apply O_y rfl rfl rfl | apply Q_y rfl rfl rfl); (first | exact q_1 | exact q_2 | exact q_3 | exact q_4 | exact q_5 | exact q_6 | exact q_7 | exact q_8 | exact q_9 | exact q_10 | exact q_11 | exact q_12 | exact q_13 | exact q_14 | exact q_15 | exact q_16 | exact q_17 | exact q_18 | exact q_19 | exact q_20 | exact q_21 | exact q_22 | exact q_23 | exact q_24 | (exact q_25))) | refine O_nil ?_ | refine Q_nil ?_ | refine q_j ?_ | refine q_k ?_ | refine q_d ?_ | refine q_a ?_ | refine q_b ?_ | refine q_c ?_ | refine A_ct rfl ?_ | refine A_cf rfl ?_ | refine A_skip ?_ | refine A_exit ?_ | refine A_ret ?_ | refine q_l ?_ | refine q_m ?_ | refine q_n ?_ | refine q_h ?_ | refine q_o ?_ | refine q_e ?_ | refine q_f ?_ | refine q_g ?_ | refine O_c rfl rfl rfl rfl rfl ribAwake_A (fun _ => rfl) ?_)
    exact X_ret rfl ⟨rfl, rfl⟩
  by_cases s3 : 200 < l.length
  · refine ACall_of tabOk Try.func3 rfl Try.ntmps3 (congrArg Array.toList Try.results3) (by kernel_rfl) rfl ?_
    refine A_seq ?_
    refine R_list ?_
    refine q_d ?_
    refine O_weaken (Wk_freezeV (id := 5) (ds := dvcD d) rfl rfl) ?_
    repeat (first | refine A_seq ?_ | refine A_block ?_ | refine R_list ?_ | ((first | apply O_y rfl rfl rfl | apply Q_y rfl rfl rfl); (first | exact q_1 | exact q_2 | exact q_3 | exact q_4 | exact q_5 | exact q_6 | exact q_7 | exact q_8 | exact q_9 | exact q_10 | exact q_11 | exact q_12 | exact q_13 | exact q_14 | exact q_15 | exact q_16 | exact q_17 | exact q_18 | exact q_19 | exact q_20 | exact q_21 | exact q_22 | exact q_23 | exact q_24 | (exact q_25))) | refine O_nil ?_ | refine Q_nil ?_ | refine q_j ?_ | refine q_k ?_ | refine q_d ?_ | refine q_a ?_ | refine q_b ?_ | refine q_c ?_ | refine A_ct rfl ?_ | refine A_cf rfl ?_ | refine A_skip ?_ | refine A_exit ?_ | refine A_ret ?_ | refine q_l ?_ | refine q_m ?_ | refine q_n ?_ | refine q_h ?_ | refine q_o ?_ | refine q_e ?_ | refine q_f ?_ | refine q_g ?_ | refine O_c rfl rfl rfl rfl rfl ribAwake_A (fun _ => rfl) ?_)
    exact X_ret rfl ⟨rfl, rfl⟩
  have hdi := ribDist_A kind from_ hk0
  have hdr := refRibDist_A kind from_
  obtain ⟨dn, hdn⟩ : ∃ n, (distR kind from_).1 = n := ⟨_, rfl⟩
  obtain ⟨db, hdb⟩ : ∃ n, (distR kind from_).2 = n := ⟨_, rfl⟩
  rw [hdn, hdb] at hdi hdr
  have htw := twin_A d hd
  have heq := equalD_A d hd
  have hsa := sameAdvs_A l hl (by omega)
  have hw1 := refConn_A d vrf hd.ifs (by omega)
  have hw2 := refWritten_A d vrf (by omega)
  have hw3 := refLearnt_A d l hd.kd (by omega)
  have hb1 := conn_A d vrf hd.ifs (by omega)
  have hb2 := written_A d vrf (by omega)
  have hb3 := learnt_A d l hd.kd (by omega)
  have ha1 := (conn_A d vrf hd.ifs (by omega)).reid (id := 201) rfl
  have ha2 := (written_A d vrf (by omega)).reid (id := 202) rfl
  have ha3 := (learnt_A d l hd.kd (by omega)).reid (id := 203) rfl
  have l1 : (sortU ordR (conR vrf d.ifs)).length ≤ 200 := Nat.le_trans (sortU_len _) (Nat.le_trans (flat_le1 _ (con1_le vrf) _) (by omega))
  have l2 : (sortU ordR (wriR vrf d.sts)).length ≤ 300 := Nat.le_trans (sortU_len _) (Nat.le_trans (flat_le1 _ (wri1_le vrf) _) (by omega))
  have l3 : (sortU ordR (leaR d.kd l)).length ≤ 200 := Nat.le_trans (sortU_len _) (Nat.le_trans (flat_le1 _ (lea1_le d.kd) _) (by omega))
  obtain ⟨C, hC⟩ : ∃ C, sortU ordR (conR vrf d.ifs) = C := ⟨_, rfl⟩
  obtain ⟨W, hW⟩ : ∃ C, sortU ordR (wriR vrf d.sts) = C := ⟨_, rfl⟩
  obtain ⟨Le, hLe⟩ : ∃ C, sortU ordR (leaR d.kd l) = C := ⟨_, rfl⟩
  rw [hC] at hw1 hb1 ha1 l1
  rw [hW] at hw2 hb2 ha2 l2
  rw [hLe] at hw3 hb3 ha3 l3
  clear hC hW hLe
  have c1 := refSame_A C C (by omega)
  rw [show decide (C = C) = true by simp] at c1
  have c2 := refSame_A W W (by omega)
  rw [show decide (W = W) = true by simp] at c2
  have c3 := refSame_A Le Le (by omega)
  rw [show decide (Le = Le) = true by simp] at c3
  have p1 := spoil_A C (by omega)
  have p2 := spoil_A W (by omega)
  have p3 := spoil_A Le (by omega)
  refine ACall_of tabOk Try.func3 rfl Try.ntmps3 (congrArg Array.toList Try.results3) (by kernel_rfl) rfl ?_
  refine A_seq ?_
  refine R_list ?_
  refine q_d ?_
  refine O_weaken (Wk_freezeV (id := 5) (ds := dvcD d) rfl rfl) ?_
  repeat (first | refine A_seq ?_ | refine A_block ?_ | refine R_list ?_ | ((first | apply O_y rfl rfl rfl | apply Q_y rfl rfl rfl); (first | exact q_1 | exact q_2 | exact q_3 | exact q_4 | exact q_5 | exact q_6 | exact q_7 | exact q_8 | exact q_9 | exact q_10 | exact q_11 | exact q_12 | exact q_13 | exact q_14 | exact q_15 | exact q_16 | exact q_17 | exact q_18 | exact q_19 | exact q_20 | exact q_21 | exact q_22 | exact q_23 | exact q_24 | (first | exact R_neInt rfl rfl rfl | exact R_neBool tabOk rfl rfl rfl rfl))) | refine O_nil ?_ | refine Q_nil ?_ | refine q_j ?_ | refine q_k ?_ | refine q_d ?_ | refine q_a ?_ | refine q_b ?_ | refine q_c ?_ | refine A_ct rfl ?_ | refine A_cf rfl ?_ | refine A_skip ?_ | refine A_exit ?_ | refine A_ret ?_ | refine q_l ?_ | refine q_m ?_ | refine q_n ?_ | refine q_h ?_ | refine q_o ?_ | refine q_e ?_ | refine q_f ?_ | refine q_g ?_ | (first | refine O_c rfl rfl rfl rfl rfl hdi (fun _ => rfl) ?_ | refine O_c rfl rfl rfl rfl rfl hdr (fun _ => rfl) ?_ | refine O_c rfl rfl rfl rfl rfl htw (fun _ => rfl) ?_))
  refine A_weaken (Wk_freezeV (id := 15) (ds := dvcD d) rfl rfl) ?_
  refine A_weaken (Wk_nil 46 13 (t := 16) (id := 73) rfl rfl) ?_
  refine A_loop (fun k : Nat => [(1, strA vrf), (2, advsA l), (5, .iptr (dvcD d) 0), (15, .iptr (dvcD d) 0), (16, .row 73), (17, intA (k : Int))]) (fun k => [(73, .row 46 13 k ((l.take k).flatMap advD))]) (fun k => k ≤ l.length) (fun k => l.length - k) 0 (Nat.zero_le _) (Wk_sel ⟨rfl, rfl, rfl, rfl, rfl, rfl, trivial⟩ ⟨rfl, trivial⟩) ?_
  intro k hkl
  try dsimp only
  by_cases hk : k < l.length
  · have htx := twinAdv_A l[k] (hl _ (List.getElem_mem hk))
    have hwx := win_flat0 advD_len l k 13 hk (by decide)
    repeat (first | refine A_seq ?_ | refine A_block ?_ | refine R_list ?_ | ((first | apply O_y rfl rfl rfl | apply Q_y rfl rfl rfl); (first | exact q_1 | exact q_2 | exact q_3 | exact q_4 | exact R_loadi tabOk rfl rfl rfl rfl hwx rfl rfl | exact q_6 | exact q_7 | exact q_8 | exact q_9 | exact q_10 | exact q_11 | exact q_12 | exact q_13 | exact q_14 | exact q_15 | exact q_16 | exact q_17 | exact q_18 | exact q_19 | exact q_20 | exact q_21 | exact q_22 | exact q_23 | exact q_24 | (exact R_index (j := k) tabOk rfl rfl rfl rfl rfl rfl hk))) | refine O_nil ?_ | refine Q_nil ?_ | refine q_j ?_ | refine q_k ?_ | refine q_d ?_ | refine q_a ?_ | refine q_b ?_ | refine q_c ?_ | refine A_ct rfl ?_ | refine A_cf rfl ?_ | refine A_skip ?_ | refine A_exit ?_ | refine A_ret ?_ | refine q_l ?_ | refine q_m ?_ | refine q_n ?_ | refine q_h ?_ | refine q_o ?_ | refine q_e ?_ | refine q_f ?_ | refine q_g ?_ | (first | refine O_c rfl rfl rfl rfl rfl htx (fun _ => rfl) ?_ | refine O_appR tabOk rfl rfl rfl rfl rfl rfl rfl rfl rfl rfl rfl (Src.row rfl) rfl (by omega) ?_))
    exact ⟨k + 1, by omega, by omega, Wk_sel ⟨rfl, rfl, rfl, rfl, rfl, rfl, trivial⟩ ⟨row_eq rfl (by rw [List.take_succ_eq_append_getElem hk, List.flatMap_append]; rfl) rfl, trivial⟩⟩
  obtain rfl : k = l.length := by omega
  rw [List.take_length]
  refine A_weaken (Wk_freeze (id := 73) rfl) ?_
  repeat (first | refine A_seq ?_ | refine A_block ?_ | refine R_list ?_ | ((first | apply O_y rfl rfl rfl | apply Q_y rfl rfl rfl); (first | exact q_1 | exact q_2 | exact q_3 | exact q_4 | exact q_5 | exact q_6 | exact q_7 | exact q_8 | exact q_9 | exact q_10 | exact q_11 | exact q_12 | exact q_13 | exact q_14 | exact q_15 | exact q_16 | exact q_17 | exact q_18 | exact q_19 | exact q_20 | exact q_21 | exact q_22 | exact q_23 | exact q_24 | fail)) | refine O_nil ?_ | refine Q_nil ?_ | refine q_j ?_ | refine q_k ?_ | refine q_d ?_ | refine q_a ?_ | refine q_b ?_ | refine q_c ?_ | refine A_ct rfl ?_ | refine A_cf rfl ?_ | refine A_skip ?_ | refine A_exit ?_ | refine A_ret ?_ | refine q_l ?_ | refine q_m ?_ | refine q_n ?_ | refine q_h ?_ | refine q_o ?_ | refine q_e ?_ | refine q_f ?_ | refine q_g ?_ | fail)
  refine N_begin [] mixed ?_
  apply q_P 0 rfl (by kernel_rfl) rfl rfl rfl
  exact q_5
  apply q_P 1 rfl (by kernel_rfl) rfl rfl rfl
  exact q_1
  apply q_P 3 rfl (by kernel_rfl) rfl rfl rfl
  exact q_5
  apply q_P 4 rfl (by kernel_rfl) rfl rfl rfl
  exact q_1
  apply q_P 6 rfl (by kernel_rfl) rfl rfl rfl
  exact q_5
  apply q_P 7 rfl (by kernel_rfl) rfl rfl rfl
  exact q_1
  refine N_one (j := 2) (by kernel_rfl) ?_
  refine T_cRow rfl rfl rfl rfl rfl rfl hw1 rfl ?_
  refine N_weakenS (Wk_freezeS (id := 3) rfl) ?_
  refine N_one (j := 5) (by kernel_rfl) ?_
  refine T_cRow rfl rfl rfl rfl rfl rfl hw2 rfl ?_
  refine N_weakenS (Wk_freezeS (id := 3) rfl) ?_
  refine N_one (j := 8) (by kernel_rfl) ?_
  refine T_cRow rfl rfl rfl rfl rfl rfl hw3 rfl ?_
  refine N_weakenS (Wk_freezeS (id := 3) rfl) ?_
  refine N_one (j := 9) (by kernel_rfl) ?_
  refine T_slice (xs := [rtesA C, rtesA W, rtesA Le]) (ds := [.sl (C.flatMap rteD) C.length, .sl (W.flatMap rteD) W.length, .sl (Le.flatMap rteD) Le.length]) tabOk rfl rfl rfl rfl rfl rfl rfl rfl rfl rfl (by kernel_rfl) (by kernel_rfl) ?_
  apply q_P 10 rfl (by kernel_rfl) rfl rfl rfl
  exact q_2
  refine N_done (by kernel_rfl) ?_
  refine q_j ?_
  refine A_weaken (Wk_freeze (id := 83) rfl) ?_
  refine A_weaken (Wk_sel (e1 := [(1, strA vrf), (2, advsA l), (5, .iptr (dvcD d) 0), (15, .iptr (dvcD d) 0), (16, advsA l), (18, (.d (.sl [.sl (C.flatMap rteD) C.length, .sl (W.flatMap rteD) W.length, .sl (Le.flatMap rteD) Le.length] 3)))]) (h1 := []) ⟨rfl, rfl, rfl, rfl, rfl, rfl, trivial⟩ trivial) ?_
  refine A_seq ?_
  refine N_begin [] mixed ?_
  apply q_P 0 rfl (by kernel_rfl) rfl rfl rfl
  exact q_5
  apply q_P 1 rfl (by kernel_rfl) rfl rfl rfl
  exact q_1
  apply q_P 3 rfl (by kernel_rfl) rfl rfl rfl
  exact q_5
  apply q_P 4 rfl (by kernel_rfl) rfl rfl rfl
  exact q_1
  apply q_P 6 rfl (by kernel_rfl) rfl rfl rfl
  exact q_5
  apply q_P 7 rfl (by kernel_rfl) rfl rfl rfl
  exact q_1
  refine N_one (j := 2) (by kernel_rfl) ?_
  refine T_cRow rfl rfl rfl rfl rfl rfl ha1 rfl ?_
  refine N_one (j := 5) (by kernel_rfl) ?_
  refine T_cRow rfl rfl rfl rfl rfl rfl ha2 rfl ?_
  refine N_one (j := 8) (by kernel_rfl) ?_
  refine T_cRow rfl rfl rfl rfl rfl rfl ha3 rfl ?_
  refine N_one (j := 9) (by kernel_rfl) ?_
  refine T_sliceA (xs := [.row 201, .row 202, .row 203]) tabOk rfl rfl rfl rfl rfl rfl rfl rfl rfl rfl (by kernel_rfl) ?_
  apply q_P 10 rfl (by kernel_rfl) rfl rfl rfl
  exact q_2
  refine N_done (by kernel_rfl) ?_
  refine q_j ?_
  refine A_weaken (Wk_sel (e1 := [(1, strA vrf), (2, advsA l), (5, .iptr (dvcD d) 0), (15, .iptr (dvcD d) 0), (16, advsA l), (18, (.d (.sl [.sl (C.flatMap rteD) C.length, .sl (W.flatMap rteD) W.length, .sl (Le.flatMap rteD) Le.length] 3))), (19, .row 93)]) (h1 := [(93, .rowA 48 1 3 [.row 201, .row 202, .row 203]), (201, rteB C), (202, rteB W), (203, rteB Le)]) ⟨rfl, rfl, rfl, rfl, rfl, rfl, rfl, trivial⟩ ⟨rfl, rfl, rfl, rfl, trivial⟩) ?_
  refine A_seq ?_
  refine N_begin [] mixed ?_
  apply q_P 0 rfl (by kernel_rfl) rfl rfl rfl
  exact q_5
  apply q_P 1 rfl (by kernel_rfl) rfl rfl rfl
  exact q_1
  apply q_P 3 rfl (by kernel_rfl) rfl rfl rfl
  exact q_5
  apply q_P 4 rfl (by kernel_rfl) rfl rfl rfl
  exact q_1
  apply q_P 6 rfl (by kernel_rfl) rfl rfl rfl
  exact q_5
  apply q_P 7 rfl (by kernel_rfl) rfl rfl rfl
  exact q_1
  refine N_one (j := 2) (by kernel_rfl) ?_
  refine T_cRow rfl rfl rfl rfl rfl rfl hb1 rfl ?_
  refine N_weakenS (Wk_freezeS (id := 5) rfl) ?_
  refine N_one (j := 5) (by kernel_rfl) ?_
  refine T_cRow rfl rfl rfl rfl rfl rfl hb2 rfl ?_
  refine N_weakenS (Wk_freezeS (id := 5) rfl) ?_
  refine N_one (j := 8) (by kernel_rfl) ?_
  refine T_cRow rfl rfl rfl rfl rfl rfl hb3 rfl ?_
  refine N_weakenS (Wk_freezeS (id := 5) rfl) ?_
  refine N_one (j := 9) (by kernel_rfl) ?_
  refine T_slice (xs := [rtesA C, rtesA W, rtesA Le]) (ds := [.sl (C.flatMap rteD) C.length, .sl (W.flatMap rteD) W.length, .sl (Le.flatMap rteD) Le.length]) tabOk rfl rfl rfl rfl rfl rfl rfl rfl rfl rfl (by kernel_rfl) (by kernel_rfl) ?_
  apply q_P 10 rfl (by kernel_rfl) rfl rfl rfl
  exact q_2
  refine N_done (by kernel_rfl) ?_
  refine q_j ?_
  refine A_weaken (Wk_freeze (id := 103) rfl) ?_
  repeat (first | refine A_seq ?_ | refine A_block ?_ | refine R_list ?_ | ((first | apply O_y rfl rfl rfl | apply Q_y rfl rfl rfl); (first | exact q_1 | exact q_2 | exact q_3 | exact q_4 | exact q_5 | exact q_6 | exact q_7 | exact q_8 | exact q_9 | exact q_10 | exact q_11 | exact q_12 | exact q_13 | exact q_14 | exact q_15 | exact q_16 | exact q_17 | exact q_18 | exact q_19 | exact q_20 | exact q_21 | exact q_22 | exact q_23 | exact q_24 | fail)) | refine O_nil ?_ | refine Q_nil ?_ | refine q_j ?_ | refine q_k ?_ | refine q_d ?_ | refine q_a ?_ | refine q_b ?_ | refine q_c ?_ | refine A_ct rfl ?_ | refine A_cf rfl ?_ | refine A_skip ?_ | refine A_exit ?_ | refine A_ret ?_ | refine q_l ?_ | refine q_m ?_ | refine q_n ?_ | refine q_h ?_ | refine q_o ?_ | refine q_e ?_ | refine q_f ?_ | refine q_g ?_ | fail)
  refine A_loop (fun k : Nat => [(1, strA vrf), (2, advsA l), (5, .iptr (dvcD d) 0), (15, .iptr (dvcD d) 0), (16, advsA l), (18, (.d (.sl [.sl (C.flatMap rteD) C.length, .sl (W.flatMap rteD) W.length, .sl (Le.flatMap rteD) Le.length] 3))), (19, .row 93), (20, (.d (.sl [.sl (C.flatMap rteD) C.length, .sl (W.flatMap rteD) W.length, .sl (Le.flatMap rteD) Le.length] 3))), (21, intA (k : Int))]) (fun k => match k with
      | 0 => [(93, .rowA 48 1 3 [.row 201, .row 202, .row 203]), (201, rteB C), (202, rteB W), (203, rteB Le)]
      | 1 => [(93, .rowA 48 1 3 [.top, .row 202, .row 203]), (202, rteB W), (203, rteB Le)]
      | 2 => [(93, .rowA 48 1 3 [.top, .top, .row 203]), (203, rteB Le)]
      | _ => [(93, .rowA 48 1 3 [.top, .top, .top])]) (fun k => k ≤ 3) (fun k => 3 - k) 0 (Nat.zero_le _) (Wk_sel ⟨rfl, rfl, rfl, rfl, rfl, rfl, rfl, rfl, rfl, trivial⟩ ⟨rfl, rfl, rfl, rfl, trivial⟩) ?_
  intro k hk3
  match k, hk3 with
  | 0, _ =>
    try dsimp only
    repeat (first | refine A_seq ?_ | refine A_block ?_ | refine R_list ?_ | ((first | apply O_y rfl rfl rfl | apply Q_y rfl rfl rfl); (first | exact q_1 | exact q_2 | exact q_3 | exact q_4 | exact q_5 | exact q_6 | exact q_7 | exact q_8 | exact q_9 | exact q_10 | exact q_11 | exact q_12 | exact q_13 | exact q_14 | exact q_15 | exact q_16 | exact q_17 | exact q_18 | exact q_19 | exact q_20 | exact q_21 | exact q_22 | exact q_23 | exact q_24 | fail)) | refine O_nil ?_ | refine Q_nil ?_ | refine q_j ?_ | refine q_k ?_ | refine q_d ?_ | refine q_a ?_ | refine q_b ?_ | refine q_c ?_ | refine A_ct rfl ?_ | refine A_cf rfl ?_ | refine A_skip ?_ | refine A_exit ?_ | refine A_ret ?_ | refine q_l ?_ | refine q_m ?_ | refine q_n ?_ | refine q_h ?_ | refine q_o ?_ | refine q_e ?_ | refine q_f ?_ | refine q_g ?_ | fail)
    refine N_begin [201] mixed ?_
    apply q_P 0 rfl (by kernel_rfl) rfl rfl rfl
    exact q_1
    apply q_P 1 rfl (by kernel_rfl) rfl rfl rfl
    exact q_1
    apply q_P 2 rfl (by kernel_rfl) rfl rfl rfl
    first | exact R_indexA (j := 0) tabOk rfl rfl rfl rfl rfl rfl rfl (by decide) | exact R_index (j := 0) tabOk rfl rfl rfl rfl rfl rfl (by decide)
    apply q_P 3 rfl (by kernel_rfl) rfl rfl rfl
    first | exact q_5 | exact R_loadA tabOk rfl rfl rfl rfl rfl rfl rfl rfl rfl
    apply q_P 4 rfl (by kernel_rfl) rfl rfl rfl
    exact q_1
    apply q_P 5 rfl (by kernel_rfl) rfl rfl rfl
    exact q_1
    apply q_P 6 rfl (by kernel_rfl) rfl rfl rfl
    first | exact R_indexA (j := 0) tabOk rfl rfl rfl rfl rfl rfl rfl (by decide) | exact R_index (j := 0) tabOk rfl rfl rfl rfl rfl rfl (by decide)
    apply q_P 7 rfl (by kernel_rfl) rfl rfl rfl
    first | exact q_5 | exact R_loadA tabOk rfl rfl rfl rfl rfl rfl rfl rfl rfl
    refine N_one (j := 8) (by kernel_rfl) ?_
    refine T_cL rfl rfl rfl rfl rfl rfl c1 rfl (fun _ _ _ => val_mk _ _ _ _ _ rfl rfl) ?_
    apply q_P 9 rfl (by kernel_rfl) rfl rfl rfl
    exact q_20
    apply q_P 10 rfl (by kernel_rfl) rfl rfl rfl
    exact q_1
    apply q_P 11 rfl (by kernel_rfl) rfl rfl rfl
    exact q_1
    apply q_P 12 rfl (by kernel_rfl) rfl rfl rfl
    exact q_1
    apply q_P 13 rfl (by kernel_rfl) rfl rfl rfl
    first | exact R_indexA (j := 0) tabOk rfl rfl rfl rfl rfl rfl rfl (by decide) | exact R_index (j := 0) tabOk rfl rfl rfl rfl rfl rfl (by decide)
    apply q_P 14 rfl (by kernel_rfl) rfl rfl rfl
    first | exact q_5 | exact R_loadA tabOk rfl rfl rfl rfl rfl rfl rfl rfl rfl
    apply q_P 16 rfl (by kernel_rfl) rfl rfl rfl
    exact q_1
    apply q_P 17 rfl (by kernel_rfl) rfl rfl rfl
    exact q_1
    apply q_P 18 rfl (by kernel_rfl) rfl rfl rfl
    first | exact R_indexA (j := 0) tabOk rfl rfl rfl rfl rfl rfl rfl (by decide) | exact R_index (j := 0) tabOk rfl rfl rfl rfl rfl rfl (by decide)
    apply q_P 19 rfl (by kernel_rfl) rfl rfl rfl
    first | exact q_5 | exact R_loadA tabOk rfl rfl rfl rfl rfl rfl rfl rfl rfl
    apply q_P 20 rfl (by kernel_rfl) rfl rfl rfl
    exact q_6
    apply q_P 21 rfl (by kernel_rfl) rfl rfl rfl
    exact q_9
    refine N_one (j := 15) (by kernel_rfl) ?_
    refine T_cMv rfl rfl rfl rfl rfl rfl p1 rfl (fun _ _ _ => val_mk _ _ _ _ _ rfl rfl) rfl (fun c hc => by simp at hc; subst hc; rfl) rfl rfl rfl fun n1 ds1 => ?_
    apply q_P 22 rfl (by kernel_rfl) rfl rfl rfl
    exact q_12
    apply q_P 23 rfl (by kernel_rfl) rfl rfl rfl
    exact q_26
    apply q_P 24 rfl (by kernel_rfl) rfl rfl rfl
    exact q_1
    apply q_P 25 rfl (by kernel_rfl) rfl rfl rfl
    exact q_1
    apply q_P 26 rfl (by kernel_rfl) rfl rfl rfl
    exact q_1
    apply q_P 27 rfl (by kernel_rfl) rfl rfl rfl
    first | exact R_indexA (j := 0) tabOk rfl rfl rfl rfl rfl rfl rfl (by decide) | exact R_index (j := 0) tabOk rfl rfl rfl rfl rfl rfl (by decide)
    apply q_P 28 rfl (by kernel_rfl) rfl rfl rfl
    first | exact q_5 | exact R_loadA tabOk rfl rfl rfl rfl rfl rfl rfl rfl rfl
    apply q_P 29 rfl (by kernel_rfl) rfl rfl rfl
    exact q_1
    apply q_P 30 rfl (by kernel_rfl) rfl rfl rfl
    exact q_1
    apply q_P 31 rfl (by kernel_rfl) rfl rfl rfl
    first | exact R_indexA (j := 0) tabOk rfl rfl rfl rfl rfl rfl rfl (by decide) | exact R_index (j := 0) tabOk rfl rfl rfl rfl rfl rfl (by decide)
    apply q_P 32 rfl (by kernel_rfl) rfl rfl rfl
    first | exact q_5 | exact R_loadA tabOk rfl rfl rfl rfl rfl rfl rfl rfl rfl
    refine N_one (j := 33) (by kernel_rfl) ?_
    refine T_call rfl rfl rfl rfl rfl rfl c1 (fun _ => rfl) ?_
    apply q_P 34 rfl (by kernel_rfl) rfl rfl rfl
    exact q_20
    apply q_P 35 rfl (by kernel_rfl) rfl rfl rfl
    exact q_26
    refine N_done (by kernel_rfl) ?_
    repeat (first | refine A_seq ?_ | refine A_block ?_ | refine R_list ?_ | ((first | apply O_y rfl rfl rfl | apply Q_y rfl rfl rfl); (first | exact q_1 | exact q_2 | exact q_3 | exact q_4 | exact q_5 | exact q_6 | exact q_7 | exact q_8 | exact q_9 | exact q_10 | exact q_11 | exact q_12 | exact q_13 | exact q_14 | exact q_15 | exact q_16 | exact q_17 | exact q_18 | exact q_19 | exact q_20 | exact q_21 | exact q_22 | exact q_23 | exact q_24 | fail)) | refine O_nil ?_ | refine Q_nil ?_ | refine q_j ?_ | refine q_k ?_ | refine q_d ?_ | refine q_a ?_ | refine q_b ?_ | refine q_c ?_ | refine A_ct rfl ?_ | refine A_cf rfl ?_ | refine A_skip ?_ | refine A_exit ?_ | refine A_ret ?_ | refine q_l ?_ | refine q_m ?_ | refine q_n ?_ | refine q_h ?_ | refine q_o ?_ | refine q_e ?_ | refine q_f ?_ | refine q_g ?_ | fail)
    exact ⟨1, by omega, by omega, Wk_sel ⟨rfl, rfl, rfl, rfl, rfl, rfl, rfl, rfl, rfl, trivial⟩ ⟨rfl, rfl, rfl, trivial⟩⟩
  | 1, _ =>
    try dsimp only
    repeat (first | refine A_seq ?_ | refine A_block ?_ | refine R_list ?_ | ((first | apply O_y rfl rfl rfl | apply Q_y rfl rfl rfl); (first | exact q_1 | exact q_2 | exact q_3 | exact q_4 | exact q_5 | exact q_6 | exact q_7 | exact q_8 | exact q_9 | exact q_10 | exact q_11 | exact q_12 | exact q_13 | exact q_14 | exact q_15 | exact q_16 | exact q_17 | exact q_18 | exact q_19 | exact q_20 | exact q_21 | exact q_22 | exact q_23 | exact q_24 | fail)) | refine O_nil ?_ | refine Q_nil ?_ | refine q_j ?_ | refine q_k ?_ | refine q_d ?_ | refine q_a ?_ | refine q_b ?_ | refine q_c ?_ | refine A_ct rfl ?_ | refine A_cf rfl ?_ | refine A_skip ?_ | refine A_exit ?_ | refine A_ret ?_ | refine q_l ?_ | refine q_m ?_ | refine q_n ?_ | refine q_h ?_ | refine q_o ?_ | refine q_e ?_ | refine q_f ?_ | refine q_g ?_ | fail)
    refine N_begin [202] mixed ?_
    apply q_P 0 rfl (by kernel_rfl) rfl rfl rfl
    exact q_1
    apply q_P 1 rfl (by kernel_rfl) rfl rfl rfl
    exact q_1
    apply q_P 2 rfl (by kernel_rfl) rfl rfl rfl
    first | exact R_indexA (j := 1) tabOk rfl rfl rfl rfl rfl rfl rfl (by decide) | exact R_index (j := 1) tabOk rfl rfl rfl rfl rfl rfl (by decide)
    apply q_P 3 rfl (by kernel_rfl) rfl rfl rfl
    first | exact q_5 | exact R_loadA tabOk rfl rfl rfl rfl rfl rfl rfl rfl rfl
    apply q_P 4 rfl (by kernel_rfl) rfl rfl rfl
    exact q_1
    apply q_P 5 rfl (by kernel_rfl) rfl rfl rfl
    exact q_1
    apply q_P 6 rfl (by kernel_rfl) rfl rfl rfl
    first | exact R_indexA (j := 1) tabOk rfl rfl rfl rfl rfl rfl rfl (by decide) | exact R_index (j := 1) tabOk rfl rfl rfl rfl rfl rfl (by decide)
    apply q_P 7 rfl (by kernel_rfl) rfl rfl rfl
    first | exact q_5 | exact R_loadA tabOk rfl rfl rfl rfl rfl rfl rfl rfl rfl
    refine N_one (j := 8) (by kernel_rfl) ?_
    refine T_cL rfl rfl rfl rfl rfl rfl c2 rfl (fun _ _ _ => val_mk _ _ _ _ _ rfl rfl) ?_
    apply q_P 9 rfl (by kernel_rfl) rfl rfl rfl
    exact q_20
    apply q_P 10 rfl (by kernel_rfl) rfl rfl rfl
    exact q_1
    apply q_P 11 rfl (by kernel_rfl) rfl rfl rfl
    exact q_1
    apply q_P 12 rfl (by kernel_rfl) rfl rfl rfl
    exact q_1
    apply q_P 13 rfl (by kernel_rfl) rfl rfl rfl
    first | exact R_indexA (j := 1) tabOk rfl rfl rfl rfl rfl rfl rfl (by decide) | exact R_index (j := 1) tabOk rfl rfl rfl rfl rfl rfl (by decide)
    apply q_P 14 rfl (by kernel_rfl) rfl rfl rfl
    first | exact q_5 | exact R_loadA tabOk rfl rfl rfl rfl rfl rfl rfl rfl rfl
    apply q_P 16 rfl (by kernel_rfl) rfl rfl rfl
    exact q_1
    apply q_P 17 rfl (by kernel_rfl) rfl rfl rfl
    exact q_1
    apply q_P 18 rfl (by kernel_rfl) rfl rfl rfl
    first | exact R_indexA (j := 1) tabOk rfl rfl rfl rfl rfl rfl rfl (by decide) | exact R_index (j := 1) tabOk rfl rfl rfl rfl rfl rfl (by decide)
    apply q_P 19 rfl (by kernel_rfl) rfl rfl rfl
    first | exact q_5 | exact R_loadA tabOk rfl rfl rfl rfl rfl rfl rfl rfl rfl
    apply q_P 20 rfl (by kernel_rfl) rfl rfl rfl
    exact q_6
    apply q_P 21 rfl (by kernel_rfl) rfl rfl rfl
    exact q_9
    refine N_one (j := 15) (by kernel_rfl) ?_
    refine T_cMv rfl rfl rfl rfl rfl rfl p2 rfl (fun _ _ _ => val_mk _ _ _ _ _ rfl rfl) rfl (fun c hc => by simp at hc; subst hc; rfl) rfl rfl rfl fun n1 ds1 => ?_
    apply q_P 22 rfl (by kernel_rfl) rfl rfl rfl
    exact q_12
    apply q_P 23 rfl (by kernel_rfl) rfl rfl rfl
    exact q_26
    apply q_P 24 rfl (by kernel_rfl) rfl rfl rfl
    exact q_1
    apply q_P 25 rfl (by kernel_rfl) rfl rfl rfl
    exact q_1
    apply q_P 26 rfl (by kernel_rfl) rfl rfl rfl
    exact q_1
    apply q_P 27 rfl (by kernel_rfl) rfl rfl rfl
    first | exact R_indexA (j := 1) tabOk rfl rfl rfl rfl rfl rfl rfl (by decide) | exact R_index (j := 1) tabOk rfl rfl rfl rfl rfl rfl (by decide)
    apply q_P 28 rfl (by kernel_rfl) rfl rfl rfl
    first | exact q_5 | exact R_loadA tabOk rfl rfl rfl rfl rfl rfl rfl rfl rfl
    apply q_P 29 rfl (by kernel_rfl) rfl rfl rfl
    exact q_1
    apply q_P 30 rfl (by kernel_rfl) rfl rfl rfl
    exact q_1
    apply q_P 31 rfl (by kernel_rfl) rfl rfl rfl
    first | exact R_indexA (j := 1) tabOk rfl rfl rfl rfl rfl rfl rfl (by decide) | exact R_index (j := 1) tabOk rfl rfl rfl rfl rfl rfl (by decide)
    apply q_P 32 rfl (by kernel_rfl) rfl rfl rfl
    first | exact q_5 | exact R_loadA tabOk rfl rfl rfl rfl rfl rfl rfl rfl rfl
    refine N_one (j := 33) (by kernel_rfl) ?_
    refine T_call rfl rfl rfl rfl rfl rfl c2 (fun _ => rfl) ?_
    apply q_P 34 rfl (by kernel_rfl) rfl rfl rfl
    exact q_20
    apply q_P 35 rfl (by kernel_rfl) rfl rfl rfl
    exact q_26
    refine N_done (by kernel_rfl) ?_
    repeat (first | refine A_seq ?_ | refine A_block ?_ | refine R_list ?_ | ((first | apply O_y rfl rfl rfl | apply Q_y rfl rfl rfl); (first | exact q_1 | exact q_2 | exact q_3 | exact q_4 | exact q_5 | exact q_6 | exact q_7 | exact q_8 | exact q_9 | exact q_10 | exact q_11 | exact q_12 | exact q_13 | exact q_14 | exact q_15 | exact q_16 | exact q_17 | exact q_18 | exact q_19 | exact q_20 | exact q_21 | exact q_22 | exact q_23 | exact q_24 | fail)) | refine O_nil ?_ | refine Q_nil ?_ | refine q_j ?_ | refine q_k ?_ | refine q_d ?_ | refine q_a ?_ | refine q_b ?_ | refine q_c ?_ | refine A_ct rfl ?_ | refine A_cf rfl ?_ | refine A_skip ?_ | refine A_exit ?_ | refine A_ret ?_ | refine q_l ?_ | refine q_m ?_ | refine q_n ?_ | refine q_h ?_ | refine q_o ?_ | refine q_e ?_ | refine q_f ?_ | refine q_g ?_ | fail)
    exact ⟨2, by omega, by omega, Wk_sel ⟨rfl, rfl, rfl, rfl, rfl, rfl, rfl, rfl, rfl, trivial⟩ ⟨rfl, rfl, trivial⟩⟩
  | 2, _ =>
    try dsimp only
    repeat (first | refine A_seq ?_ | refine A_block ?_ | refine R_list ?_ | ((first | apply O_y rfl rfl rfl | apply Q_y rfl rfl rfl); (first | exact q_1 | exact q_2 | exact q_3 | exact q_4 | exact q_5 | exact q_6 | exact q_7 | exact q_8 | exact q_9 | exact q_10 | exact q_11 | exact q_12 | exact q_13 | exact q_14 | exact q_15 | exact q_16 | exact q_17 | exact q_18 | exact q_19 | exact q_20 | exact q_21 | exact q_22 | exact q_23 | exact q_24 | fail)) | refine O_nil ?_ | refine Q_nil ?_ | refine q_j ?_ | refine q_k ?_ | refine q_d ?_ | refine q_a ?_ | refine q_b ?_ | refine q_c ?_ | refine A_ct rfl ?_ | refine A_cf rfl ?_ | refine A_skip ?_ | refine A_exit ?_ | refine A_ret ?_ | refine q_l ?_ | refine q_m ?_ | refine q_n ?_ | refine q_h ?_ | refine q_o ?_ | refine q_e ?_ | refine q_f ?_ | refine q_g ?_ | fail)
    refine N_begin [203] mixed ?_
    apply q_P 0 rfl (by kernel_rfl) rfl rfl rfl
    exact q_1
    apply q_P 1 rfl (by kernel_rfl) rfl rfl rfl
    exact q_1
    apply q_P 2 rfl (by kernel_rfl) rfl rfl rfl
    first | exact R_indexA (j := 2) tabOk rfl rfl rfl rfl rfl rfl rfl (by decide) | exact R_index (j := 2) tabOk rfl rfl rfl rfl rfl rfl (by decide)
    apply q_P 3 rfl (by kernel_rfl) rfl rfl rfl
    first | exact q_5 | exact R_loadA tabOk rfl rfl rfl rfl rfl rfl rfl rfl rfl
    apply q_P 4 rfl (by kernel_rfl) rfl rfl rfl
    exact q_1
    apply q_P 5 rfl (by kernel_rfl) rfl rfl rfl
    exact q_1
    apply q_P 6 rfl (by kernel_rfl) rfl rfl rfl
    first | exact R_indexA (j := 2) tabOk rfl rfl rfl rfl rfl rfl rfl (by decide) | exact R_index (j := 2) tabOk rfl rfl rfl rfl rfl rfl (by decide)
    apply q_P 7 rfl (by kernel_rfl) rfl rfl rfl
    first | exact q_5 | exact R_loadA tabOk rfl rfl rfl rfl rfl rfl rfl rfl rfl
    refine N_one (j := 8) (by kernel_rfl) ?_
    refine T_cL rfl rfl rfl rfl rfl rfl c3 rfl (fun _ _ _ => val_mk _ _ _ _ _ rfl rfl) ?_
    apply q_P 9 rfl (by kernel_rfl) rfl rfl rfl
    exact q_20
    apply q_P 10 rfl (by kernel_rfl) rfl rfl rfl
    exact q_1
    apply q_P 11 rfl (by kernel_rfl) rfl rfl rfl
    exact q_1
    apply q_P 12 rfl (by kernel_rfl) rfl rfl rfl
    exact q_1
    apply q_P 13 rfl (by kernel_rfl) rfl rfl rfl
    first | exact R_indexA (j := 2) tabOk rfl rfl rfl rfl rfl rfl rfl (by decide) | exact R_index (j := 2) tabOk rfl rfl rfl rfl rfl rfl (by decide)
    apply q_P 14 rfl (by kernel_rfl) rfl rfl rfl
    first | exact q_5 | exact R_loadA tabOk rfl rfl rfl rfl rfl rfl rfl rfl rfl
    apply q_P 16 rfl (by kernel_rfl) rfl rfl rfl
    exact q_1
    apply q_P 17 rfl (by kernel_rfl) rfl rfl rfl
    exact q_1
    apply q_P 18 rfl (by kernel_rfl) rfl rfl rfl
    first | exact R_indexA (j := 2) tabOk rfl rfl rfl rfl rfl rfl rfl (by decide) | exact R_index (j := 2) tabOk rfl rfl rfl rfl rfl rfl (by decide)
    apply q_P 19 rfl (by kernel_rfl) rfl rfl rfl
    first | exact q_5 | exact R_loadA tabOk rfl rfl rfl rfl rfl rfl rfl rfl rfl
    apply q_P 20 rfl (by kernel_rfl) rfl rfl rfl
    exact q_6
    apply q_P 21 rfl (by kernel_rfl) rfl rfl rfl
    exact q_9
    refine N_one (j := 15) (by kernel_rfl) ?_
    refine T_cMv rfl rfl rfl rfl rfl rfl p3 rfl (fun _ _ _ => val_mk _ _ _ _ _ rfl rfl) rfl (fun c hc => by simp at hc; subst hc; rfl) rfl rfl rfl fun n1 ds1 => ?_
    apply q_P 22 rfl (by kernel_rfl) rfl rfl rfl
    exact q_12
    apply q_P 23 rfl (by kernel_rfl) rfl rfl rfl
    exact q_26
    apply q_P 24 rfl (by kernel_rfl) rfl rfl rfl
    exact q_1
    apply q_P 25 rfl (by kernel_rfl) rfl rfl rfl
    exact q_1
    apply q_P 26 rfl (by kernel_rfl) rfl rfl rfl
    exact q_1
    apply q_P 27 rfl (by kernel_rfl) rfl rfl rfl
    first | exact R_indexA (j := 2) tabOk rfl rfl rfl rfl rfl rfl rfl (by decide) | exact R_index (j := 2) tabOk rfl rfl rfl rfl rfl rfl (by decide)
    apply q_P 28 rfl (by kernel_rfl) rfl rfl rfl
    first | exact q_5 | exact R_loadA tabOk rfl rfl rfl rfl rfl rfl rfl rfl rfl
    apply q_P 29 rfl (by kernel_rfl) rfl rfl rfl
    exact q_1
    apply q_P 30 rfl (by kernel_rfl) rfl rfl rfl
    exact q_1
    apply q_P 31 rfl (by kernel_rfl) rfl rfl rfl
    first | exact R_indexA (j := 2) tabOk rfl rfl rfl rfl rfl rfl rfl (by decide) | exact R_index (j := 2) tabOk rfl rfl rfl rfl rfl rfl (by decide)
    apply q_P 32 rfl (by kernel_rfl) rfl rfl rfl
    first | exact q_5 | exact R_loadA tabOk rfl rfl rfl rfl rfl rfl rfl rfl rfl
    refine N_one (j := 33) (by kernel_rfl) ?_
    refine T_call rfl rfl rfl rfl rfl rfl c3 (fun _ => rfl) ?_
    apply q_P 34 rfl (by kernel_rfl) rfl rfl rfl
    exact q_20
    apply q_P 35 rfl (by kernel_rfl) rfl rfl rfl
    exact q_26
    refine N_done (by kernel_rfl) ?_
    repeat (first | refine A_seq ?_ | refine A_block ?_ | refine R_list ?_ | ((first | apply O_y rfl rfl rfl | apply Q_y rfl rfl rfl); (first | exact q_1 | exact q_2 | exact q_3 | exact q_4 | exact q_5 | exact q_6 | exact q_7 | exact q_8 | exact q_9 | exact q_10 | exact q_11 | exact q_12 | exact q_13 | exact q_14 | exact q_15 | exact q_16 | exact q_17 | exact q_18 | exact q_19 | exact q_20 | exact q_21 | exact q_22 | exact q_23 | exact q_24 | fail)) | refine O_nil ?_ | refine Q_nil ?_ | refine q_j ?_ | refine q_k ?_ | refine q_d ?_ | refine q_a ?_ | refine q_b ?_ | refine q_c ?_ | refine A_ct rfl ?_ | refine A_cf rfl ?_ | refine A_skip ?_ | refine A_exit ?_ | refine A_ret ?_ | refine q_l ?_ | refine q_m ?_ | refine q_n ?_ | refine q_h ?_ | refine q_o ?_ | refine q_e ?_ | refine q_f ?_ | refine q_g ?_ | fail)
    exact ⟨3, by omega, by omega, Wk_sel ⟨rfl, rfl, rfl, rfl, rfl, rfl, rfl, rfl, rfl, trivial⟩ ⟨rfl, trivial⟩⟩
  | 3, _ =>
    try dsimp only
    repeat (first | refine A_seq ?_ | refine A_block ?_ | refine R_list ?_ | ((first | apply O_y rfl rfl rfl | apply Q_y rfl rfl rfl); (first | exact q_1 | exact q_2 | exact q_3 | exact q_4 | exact q_5 | exact q_6 | exact q_7 | exact q_8 | exact q_9 | exact q_10 | exact q_11 | exact q_12 | exact q_13 | exact q_14 | exact q_15 | exact q_16 | exact q_17 | exact q_18 | exact q_19 | exact q_20 | exact q_21 | exact q_22 | exact q_23 | exact q_24 | (exact q_25))) | refine O_nil ?_ | refine Q_nil ?_ | refine q_j ?_ | refine q_k ?_ | refine q_d ?_ | refine q_a ?_ | refine q_b ?_ | refine q_c ?_ | refine A_ct rfl ?_ | refine A_cf rfl ?_ | refine A_skip ?_ | refine A_exit ?_ | refine A_ret ?_ | refine q_l ?_ | refine q_m ?_ | refine q_n ?_ | refine q_h ?_ | refine q_o ?_ | refine q_e ?_ | refine q_f ?_ | refine q_g ?_ | (first | refine O_c rfl rfl rfl rfl rfl heq (fun _ => rfl) ?_ | refine O_c rfl rfl rfl rfl rfl hsa (fun _ => rfl) ?_ | refine O_c rfl rfl rfl rfl rfl ribAwake_A (fun _ => rfl) ?_))
    exact X_ret rfl ⟨rfl, rfl⟩
end Go.Proofs.Ytjmelcdgbnjefaa.Ab

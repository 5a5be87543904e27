/-
  Texts of a proof, one behind the other (part 9).
-/
import Derived.Test.YtamnhhjcgloceaaFe7
set_option linter.unusedVariables false
set_option linter.unusedSimpArgs false
namespace Go.Proofs.Ytamnhhjcgloceaa.Ab
set_option linter.unusedVariables false
set_option maxRecDepth 100000
open Go.RowKit Go.Lib
set_option linter.unusedSimpArgs false
attribute [local irreducible] AWp AOps AQ AYield AEff ACall AWk AAny AAt AThen AIn APost NoPanic
def entsA (l : List Ent) : AVal := .d (.sl (l.flatMap entD) l.length)
abbrev eaE (l : List Rte) (E : List Ent) (L : List Pfx) : Env := [(0, rtesA l), (3, entsA E), (4, pfxsA L)]
set_option maxHeartbeats 16000000 in
theorem each_A (hawake : ACall Try.prog 4 [] [] (Just (boolA true))) (l rest : List Rte) (hok : ∀ s ∈ l, okR s) (hh : ∀ s ∈ l, 0 ≤ s.h ∧ s.h < 4294967296) (hn : l.length ≤ 80) (hr : rest ≠ [] → l.length = 80) :
    ACall Try.prog 3 [.d (.sl (l.flatMap rteD ++ rest.flatMap rteD) (l.length + rest.length))] [] (Just (boolA true)) := by
  have hent := entries_A l hok hh (by omega)
  have hlost := (lost_A l hok hh (by omega)).reid (id := 951) rfl
  have hEl := entsE_len l
  have hLl := lostE_len l
  have hone := fun r => each_one (l := l) (r := r)
  have hex := fun r e => each_x (l := l) (r := r) (e := e)
  have hxe := fun e => each_xe (l := l) (e := e)
  have hup := each_up (l := l)
  have hhop := fun e x => each_hop (l := l) (e := e) (x := x)
  have hhl := fun e => each_len (l := l) (e := e)
  have hsq : l.length * ((l.length + 1) * l.length + 1) ≤ 80 * (81 * 80 + 1) := Nat.mul_le_mul hn (Nat.add_le_add_right (Nat.mul_le_mul (by omega) hn) 1)
  obtain ⟨E, hE⟩ : ∃ E, entsE l = E := ⟨_, rfl⟩
  obtain ⟨L, hL⟩ : ∃ L, lostE l = L := ⟨_, rfl⟩
  simp only [hE, hL] at hent hlost hEl hLl hone hex hxe hup hhop hhl
  clear hE hL
  have hup := List.pairwise_iff_getElem.1 hup
  have hmin : (if (80 : Int) < ((l.length + rest.length : Nat) : Int) then (80 : Int) else ((l.length + rest.length : Nat) : Int)) = (l.length : Int) := by
    cases rest with
    | nil => simp; omega
    | cons b r => have := hr (by simp); simp; omega
  refine ACall_of tabOk Try.func3 rfl Try.ntmps3 (congrArg Array.toList Try.results3) (by kernel_rfl) rfl ?_
  repeat (first | refine A_seq ?_ | refine A_block ?_ | refine R_list ?_ | ((first | apply O_y rfl rfl rfl | apply Q_y rfl rfl rfl); (first | exact q_1 | exact q_2 | exact q_3 | exact q_4 | exact q_5 | exact q_6 | exact q_7 | exact q_8 | exact q_9 | exact q_10 | exact q_11 | exact q_12 | exact q_13 | exact q_14 | exact q_15 | exact q_16 | exact q_17 | exact q_18 | exact q_19 | exact q_20 | exact q_21 | exact q_22 | exact q_23 | exact q_24 | (first | exact R_min rfl rfl rfl hmin | exact R_sliceD tabOk rfl rfl rfl rfl rfl rfl (by omega)))) | refine O_nil ?_ | refine Q_nil ?_ | refine q_j ?_ | refine q_k ?_ | refine q_d ?_ | refine q_a ?_ | refine q_b ?_ | refine q_c ?_ | refine A_ct rfl ?_ | refine A_cf rfl ?_ | refine A_skip ?_ | refine A_exit ?_ | refine A_ret ?_ | refine q_l ?_ | refine q_m ?_ | refine q_n ?_ | refine q_h ?_ | refine q_o ?_ | refine q_e ?_ | refine q_f ?_ | refine q_g ?_ | refine O_c rfl rfl rfl rfl rfl hawake (fun _ => rfl) ?_)
  refine O_weaken (Wk_see (t := 0) rfl see_pfx) ?_
  refine O_weaken (Wk_see (t := 20) rfl see_pfx) ?_
  refine O_weaken (Wk_sel (e1 := [(0, rtesA l), (20, rtesA l)]) (h1 := []) ⟨rfl, rfl, trivial⟩ trivial) ?_
  refine O_cRow rfl rfl rfl rfl rfl hent rfl ?_
  refine O_weaken (Wk_freeze (id := 950) rfl) ?_
  repeat (first | refine A_seq ?_ | refine A_block ?_ | refine R_list ?_ | ((first | apply O_y rfl rfl rfl | apply Q_y rfl rfl rfl); (first | exact q_1 | exact q_2 | exact q_3 | exact q_4 | exact q_5 | exact q_6 | exact q_7 | exact q_8 | exact q_9 | exact q_10 | exact q_11 | exact q_12 | exact q_13 | exact q_14 | exact q_15 | exact q_16 | exact q_17 | exact q_18 | exact q_19 | exact q_20 | exact q_21 | exact q_22 | exact q_23 | exact q_24 | fail)) | refine O_nil ?_ | refine Q_nil ?_ | refine q_j ?_ | refine q_k ?_ | refine q_d ?_ | refine q_a ?_ | refine q_b ?_ | refine q_c ?_ | refine A_ct rfl ?_ | refine A_cf rfl ?_ | refine A_skip ?_ | refine A_exit ?_ | refine A_ret ?_ | refine q_l ?_ | refine q_m ?_ | refine q_n ?_ | refine q_h ?_ | refine q_o ?_ | refine q_e ?_ | refine q_f ?_ | refine q_g ?_ | fail)
  refine O_cRow rfl rfl rfl rfl rfl hlost rfl ?_
  refine O_weaken (Wk_freeze (id := 951) rfl) ?_
  refine O_weaken (Wk_sel (e1 := [(0, rtesA l), (21, entsA E), (23, pfxsA L)]) (h1 := []) ⟨rfl, rfl, rfl, trivial⟩ trivial) ?_
  repeat (first | refine A_seq ?_ | refine A_block ?_ | refine R_list ?_ | ((first | apply O_y rfl rfl rfl | apply Q_y rfl rfl rfl); (first | exact q_1 | exact q_2 | exact q_3 | exact q_4 | exact q_5 | exact q_6 | exact q_7 | exact q_8 | exact q_9 | exact q_10 | exact q_11 | exact q_12 | exact q_13 | exact q_14 | exact q_15 | exact q_16 | exact q_17 | exact q_18 | exact q_19 | exact q_20 | exact q_21 | exact q_22 | exact q_23 | exact q_24 | fail)) | refine O_nil ?_ | refine Q_nil ?_ | refine q_j ?_ | refine q_k ?_ | refine q_d ?_ | refine q_a ?_ | refine q_b ?_ | refine q_c ?_ | refine A_ct rfl ?_ | refine A_cf rfl ?_ | refine A_skip ?_ | refine A_exit ?_ | refine A_ret ?_ | refine q_l ?_ | refine q_m ?_ | refine q_n ?_ | refine q_h ?_ | refine q_o ?_ | refine q_e ?_ | refine q_f ?_ | refine q_g ?_ | fail)
  refine A_loop (fun i : Nat => (5, intA (i : Int)) :: eaE l E L) (fun _ => []) (fun i => i ≤ l.length) (fun i => l.length - i) 0 (Nat.zero_le _) (Wk_sel ⟨rfl, rfl, rfl, rfl, trivial⟩ trivial) ?_
  intro i hi
  try dsimp only
  by_cases hil : i < l.length
  · have hm := List.getElem_mem hil
    have hck := refCheck_A l[i].p (hok _ hm).2
    have hone := hone _ hm
    have hex := fun e => hex _ e hm
    rcases chk_cases l[i].p with hc | hc | hc
    · rw [hc] at hck
      have hone := hone hc
      have hex := fun e => hex e hc
      repeat (first | refine A_seq ?_ | refine A_block ?_ | refine R_list ?_ | refine R_quiet rfl mixed (by kernel_rfl) ?_ | ((first | apply O_y rfl rfl rfl | apply Q_y rfl rfl rfl); (first | exact q_1 | exact q_2 | exact q_3 | exact q_4 | exact R_loadi tabOk rfl rfl rfl rfl (by first | exact win_flat0 rteD_len l i _ hil (by decide) | exact win_flat rteD_len l i _ _ hil (by decide) | exact win_flat2 rteD_len l i _ _ _ hil (by decide) | rfl) rfl rfl | exact q_6 | exact q_7 | exact q_8 | exact q_9 | exact q_10 | exact q_11 | exact q_12 | exact q_13 | exact q_14 | exact q_15 | exact q_16 | exact q_17 | exact q_18 | exact q_19 | exact q_20 | exact q_21 | exact q_22 | exact q_23 | exact q_24 | fail)) | refine O_nil ?_ | refine Q_nil ?_ | refine q_j ?_ | refine q_k ?_ | refine q_d ?_ | refine q_a ?_ | refine q_b ?_ | refine q_c ?_ | refine A_ct rfl ?_ | refine A_cf rfl ?_ | refine A_skip ?_ | refine A_exit ?_ | refine A_ret ?_ | refine q_l ?_ | refine q_m ?_ | refine q_n ?_ | refine q_h ?_ | refine q_o ?_ | refine q_e ?_ | refine q_f ?_ | refine q_g ?_ | refine O_c rfl rfl rfl rfl rfl hck (fun _ => rfl) ?_)
      refine A_loop (fun x : Nat × Nat => (5, intA (i : Int)) :: (6, intA (x.2 : Int)) :: (7, intA (x.1 : Int)) :: eaE l E L) (fun _ => []) (fun x => x.1 ≤ E.length ∧ x.2 = (E.take x.1).countP (fun e => decide (e.p = l[i].p))) (fun x => E.length - x.1) (0, 0) ⟨Nat.zero_le _, rfl⟩ (Wk_sel ⟨rfl, rfl, rfl, rfl, rfl, rfl, trivial⟩ trivial) ?_
      rintro ⟨k, n⟩ ⟨hk, hnc⟩
      dsimp only at hk hnc ⊢
      have hnl : n ≤ 80 := by
        rw [hnc]
        exact Nat.le_trans List.countP_le_length (by rw [List.length_take]; omega)
      by_cases hkE : k < E.length
      · have hct := countP_take (fun e : Ent => decide (e.p = l[i].p)) E k hkE
        rw [← hnc] at hct
        have hpe := pfxEq E[k].p l[i].p
        by_cases he : E[k].p = l[i].p
        · rw [show (E[k].p == l[i].p) = true by simpa using he] at hpe
          rw [if_pos (by simpa using he)] at hct
          cases hx : l[i].x with
          | true =>
            have hxk := hex E[k] hx (List.getElem_mem hkE) he
            have hwx : win (l.flatMap rteD) (i * 9 + 8) 1 = [.sc (.bool true)] := (win_flat rteD_len l i 8 1 hil (by decide)).trans (by show [Dat.sc (.bool l[i].x)] = _; rw [hx])
            have hwe : win (E.flatMap entD) (k * 4 + 2) 1 = [.sc (.bool true)] := (win_flat entD_len E k 2 1 hkE (by decide)).trans (by show [Dat.sc (.bool E[k].x)] = _; rw [hxk])
            repeat (first | refine A_seq ?_ | refine A_block ?_ | refine R_list ?_ | refine R_quiet rfl mixed (by kernel_rfl) ?_ | ((first | apply O_y rfl rfl rfl | apply Q_y rfl rfl rfl); (first | exact q_1 | exact q_2 | exact q_3 | exact q_4 | exact R_loadi tabOk rfl rfl rfl rfl (by first | exact hwx | exact hwe | exact win_flat0 rteD_len l i _ hil (by decide)) rfl rfl | exact q_6 | exact q_7 | exact q_8 | exact q_9 | exact q_10 | exact q_11 | exact q_12 | exact q_13 | exact q_14 | exact q_15 | exact q_16 | exact q_17 | exact q_18 | exact q_19 | exact q_20 | exact q_21 | exact q_22 | exact q_23 | exact q_24 | (first | exact R_loadi tabOk rfl rfl rfl rfl (by first | exact win_flat0 entD_len E k _ hkE (by decide) | exact win_flat entD_len E k _ _ hkE (by decide) | exact win_flat2 entD_len E k _ _ _ hkE (by decide) | rfl) rfl rfl | exact Y_eq tabOk noStand rfl rfl rfl rfl rfl rfl rfl rfl rfl (by kernel_rfl) hpe rfl))) | refine O_nil ?_ | refine Q_nil ?_ | refine q_j ?_ | refine q_k ?_ | refine q_d ?_ | refine q_a ?_ | refine q_b ?_ | refine q_c ?_ | refine A_ct rfl ?_ | refine A_cf rfl ?_ | refine A_skip ?_ | refine A_exit ?_ | refine A_ret ?_ | refine q_l ?_ | refine q_m ?_ | refine q_n ?_ | refine q_h ?_ | refine q_o ?_ | refine q_e ?_ | refine q_f ?_ | refine q_g ?_ | fail)
            exact ⟨(k + 1, n + 1), ⟨by dsimp only; omega, hct.symm⟩, by dsimp only; omega, Wk_sel ⟨rfl, rfl, rfl, rfl, rfl, rfl, trivial⟩ trivial⟩
          | false =>
            have hwx : win (l.flatMap rteD) (i * 9 + 8) 1 = [.sc (.bool false)] := (win_flat rteD_len l i 8 1 hil (by decide)).trans (by show [Dat.sc (.bool l[i].x)] = _; rw [hx])
            repeat (first | refine A_seq ?_ | refine A_block ?_ | refine R_list ?_ | refine R_quiet rfl mixed (by kernel_rfl) ?_ | ((first | apply O_y rfl rfl rfl | apply Q_y rfl rfl rfl); (first | exact q_1 | exact q_2 | exact q_3 | exact q_4 | exact R_loadi tabOk rfl rfl rfl rfl (by first | exact hwx | exact win_flat0 rteD_len l i _ hil (by decide)) rfl rfl | exact q_6 | exact q_7 | exact q_8 | exact q_9 | exact q_10 | exact q_11 | exact q_12 | exact q_13 | exact q_14 | exact q_15 | exact q_16 | exact q_17 | exact q_18 | exact q_19 | exact q_20 | exact q_21 | exact q_22 | exact q_23 | exact q_24 | (first | exact R_loadi tabOk rfl rfl rfl rfl (by first | exact win_flat0 entD_len E k _ hkE (by decide) | exact win_flat entD_len E k _ _ hkE (by decide) | exact win_flat2 entD_len E k _ _ _ hkE (by decide) | rfl) rfl rfl | exact Y_eq tabOk noStand rfl rfl rfl rfl rfl rfl rfl rfl rfl (by kernel_rfl) hpe rfl))) | refine O_nil ?_ | refine Q_nil ?_ | refine q_j ?_ | refine q_k ?_ | refine q_d ?_ | refine q_a ?_ | refine q_b ?_ | refine q_c ?_ | refine A_ct rfl ?_ | refine A_cf rfl ?_ | refine A_skip ?_ | refine A_exit ?_ | refine A_ret ?_ | refine q_l ?_ | refine q_m ?_ | refine q_n ?_ | refine q_h ?_ | refine q_o ?_ | refine q_e ?_ | refine q_f ?_ | refine q_g ?_ | fail)
            exact ⟨(k + 1, n + 1), ⟨by dsimp only; omega, hct.symm⟩, by dsimp only; omega, Wk_sel ⟨rfl, rfl, rfl, rfl, rfl, rfl, trivial⟩ trivial⟩
        · rw [show (E[k].p == l[i].p) = false by simpa using he] at hpe
          rw [if_neg (by simpa using he)] at hct
          repeat (first | refine A_seq ?_ | refine A_block ?_ | refine R_list ?_ | refine R_quiet rfl mixed (by kernel_rfl) ?_ | ((first | apply O_y rfl rfl rfl | apply Q_y rfl rfl rfl); (first | exact q_1 | exact q_2 | exact q_3 | exact q_4 | exact R_loadi tabOk rfl rfl rfl rfl (by first | exact win_flat0 rteD_len l i _ hil (by decide) | exact win_flat rteD_len l i _ _ hil (by decide) | exact win_flat2 rteD_len l i _ _ _ hil (by decide) | rfl) rfl rfl | exact q_6 | exact q_7 | exact q_8 | exact q_9 | exact q_10 | exact q_11 | exact q_12 | exact q_13 | exact q_14 | exact q_15 | exact q_16 | exact q_17 | exact q_18 | exact q_19 | exact q_20 | exact q_21 | exact q_22 | exact q_23 | exact q_24 | (first | exact R_loadi tabOk rfl rfl rfl rfl (by first | exact win_flat0 entD_len E k _ hkE (by decide) | exact win_flat entD_len E k _ _ hkE (by decide) | exact win_flat2 entD_len E k _ _ _ hkE (by decide) | rfl) rfl rfl | exact Y_eq tabOk noStand rfl rfl rfl rfl rfl rfl rfl rfl rfl (by kernel_rfl) hpe rfl))) | refine O_nil ?_ | refine Q_nil ?_ | refine q_j ?_ | refine q_k ?_ | refine q_d ?_ | refine q_a ?_ | refine q_b ?_ | refine q_c ?_ | refine A_ct rfl ?_ | refine A_cf rfl ?_ | refine A_skip ?_ | refine A_exit ?_ | refine A_ret ?_ | refine q_l ?_ | refine q_m ?_ | refine q_n ?_ | refine q_h ?_ | refine q_o ?_ | refine q_e ?_ | refine q_f ?_ | refine q_g ?_ | fail)
          exact ⟨(k + 1, n), ⟨by dsimp only; omega, hct.symm⟩, by dsimp only; omega, Wk_sel ⟨rfl, rfl, rfl, rfl, rfl, rfl, trivial⟩ trivial⟩
      · have : k = E.length := by omega
        subst this
        rw [List.take_length] at hnc
        rw [← hnc] at hone
        clear hnc
        repeat (first | refine A_seq ?_ | refine A_block ?_ | refine R_list ?_ | refine R_quiet rfl mixed (by kernel_rfl) ?_ | ((first | apply O_y rfl rfl rfl | apply Q_y rfl rfl rfl); (first | exact q_1 | exact q_2 | exact q_3 | exact q_4 | exact q_5 | exact q_6 | exact q_7 | exact q_8 | exact q_9 | exact q_10 | exact q_11 | exact q_12 | exact q_13 | exact q_14 | exact q_15 | exact q_16 | exact q_17 | exact q_18 | exact q_19 | exact q_20 | exact q_21 | exact q_22 | exact q_23 | exact q_24 | fail)) | refine O_nil ?_ | refine Q_nil ?_ | refine q_j ?_ | refine q_k ?_ | refine q_d ?_ | refine q_a ?_ | refine q_b ?_ | refine q_c ?_ | refine A_ct rfl ?_ | refine A_cf rfl ?_ | refine A_skip ?_ | refine A_exit ?_ | refine A_ret ?_ | refine q_l ?_ | refine q_m ?_ | refine q_n ?_ | refine q_h ?_ | refine q_o ?_ | refine q_e ?_ | refine q_f ?_ | refine q_g ?_ | fail)
        refine A_loop (fun x : Nat × Nat => (5, intA (i : Int)) :: (6, intA (x.2 : Int)) :: (8, intA (x.1 : Int)) :: eaE l E L) (fun _ => []) (fun x => x.1 ≤ L.length ∧ x.2 = n + (L.take x.1).countP (fun q => decide (q = l[i].p))) (fun x => L.length - x.1) (0, n) ⟨Nat.zero_le _, rfl⟩ (Wk_sel ⟨rfl, rfl, rfl, rfl, rfl, rfl, trivial⟩ trivial) ?_
        rintro ⟨k, m⟩ ⟨hk, hmc⟩
        dsimp only at hk hmc ⊢
        have hml : m ≤ 160 := by
          rw [hmc]
          have : (L.take k).countP (fun q => decide (q = l[i].p)) ≤ 80 := Nat.le_trans List.countP_le_length (by rw [List.length_take]; omega)
          omega
        by_cases hkL : k < L.length
        · have hct := countP_take (fun q : Pfx => decide (q = l[i].p)) L k hkL
          have hpe := pfxEq L[k] l[i].p
          by_cases he : L[k] = l[i].p
          · rw [show (L[k] == l[i].p) = true by simpa using he] at hpe
            rw [if_pos (by simpa using he)] at hct
            repeat (first | refine A_seq ?_ | refine A_block ?_ | refine R_list ?_ | refine R_quiet rfl mixed (by kernel_rfl) ?_ | ((first | apply O_y rfl rfl rfl | apply Q_y rfl rfl rfl); (first | exact q_1 | exact q_2 | exact q_3 | exact q_4 | exact R_loadi tabOk rfl rfl rfl rfl (by first | exact win_flat0 rteD_len l i _ hil (by decide) | exact win_flat rteD_len l i _ _ hil (by decide) | exact win_flat2 rteD_len l i _ _ _ hil (by decide) | rfl) rfl rfl | exact q_6 | exact q_7 | exact q_8 | exact q_9 | exact q_10 | exact q_11 | exact q_12 | exact q_13 | exact q_14 | exact q_15 | exact q_16 | exact q_17 | exact q_18 | exact q_19 | exact q_20 | exact q_21 | exact q_22 | exact q_23 | exact q_24 | (first | exact R_loadi tabOk rfl rfl rfl rfl (by first | exact win_flat0 pfxD_len L k _ hkL (by decide) | exact win_flat pfxD_len L k _ _ hkL (by decide) | exact win_flat2 pfxD_len L k _ _ _ hkL (by decide) | rfl) rfl rfl | exact Y_eq tabOk noStand rfl rfl rfl rfl rfl rfl rfl rfl rfl (by kernel_rfl) hpe rfl))) | refine O_nil ?_ | refine Q_nil ?_ | refine q_j ?_ | refine q_k ?_ | refine q_d ?_ | refine q_a ?_ | refine q_b ?_ | refine q_c ?_ | refine A_ct rfl ?_ | refine A_cf rfl ?_ | refine A_skip ?_ | refine A_exit ?_ | refine A_ret ?_ | refine q_l ?_ | refine q_m ?_ | refine q_n ?_ | refine q_h ?_ | refine q_o ?_ | refine q_e ?_ | refine q_f ?_ | refine q_g ?_ | fail)
            exact ⟨(k + 1, m + 1), ⟨by dsimp only; omega, by dsimp only; omega⟩, by dsimp only; omega, Wk_sel ⟨rfl, rfl, rfl, rfl, rfl, rfl, trivial⟩ trivial⟩
          · rw [show (L[k] == l[i].p) = false by simpa using he] at hpe
            rw [if_neg (by simpa using he)] at hct
            repeat (first | refine A_seq ?_ | refine A_block ?_ | refine R_list ?_ | refine R_quiet rfl mixed (by kernel_rfl) ?_ | ((first | apply O_y rfl rfl rfl | apply Q_y rfl rfl rfl); (first | exact q_1 | exact q_2 | exact q_3 | exact q_4 | exact R_loadi tabOk rfl rfl rfl rfl (by first | exact win_flat0 rteD_len l i _ hil (by decide) | exact win_flat rteD_len l i _ _ hil (by decide) | exact win_flat2 rteD_len l i _ _ _ hil (by decide) | rfl) rfl rfl | exact q_6 | exact q_7 | exact q_8 | exact q_9 | exact q_10 | exact q_11 | exact q_12 | exact q_13 | exact q_14 | exact q_15 | exact q_16 | exact q_17 | exact q_18 | exact q_19 | exact q_20 | exact q_21 | exact q_22 | exact q_23 | exact q_24 | (first | exact R_loadi tabOk rfl rfl rfl rfl (by first | exact win_flat0 pfxD_len L k _ hkL (by decide) | exact win_flat pfxD_len L k _ _ hkL (by decide) | exact win_flat2 pfxD_len L k _ _ _ hkL (by decide) | rfl) rfl rfl | exact Y_eq tabOk noStand rfl rfl rfl rfl rfl rfl rfl rfl rfl (by kernel_rfl) hpe rfl))) | refine O_nil ?_ | refine Q_nil ?_ | refine q_j ?_ | refine q_k ?_ | refine q_d ?_ | refine q_a ?_ | refine q_b ?_ | refine q_c ?_ | refine A_ct rfl ?_ | refine A_cf rfl ?_ | refine A_skip ?_ | refine A_exit ?_ | refine A_ret ?_ | refine q_l ?_ | refine q_m ?_ | refine q_n ?_ | refine q_h ?_ | refine q_o ?_ | refine q_e ?_ | refine q_f ?_ | refine q_g ?_ | fail)
            exact ⟨(k + 1, m), ⟨by dsimp only; omega, by dsimp only; omega⟩, by dsimp only; omega, Wk_sel ⟨rfl, rfl, rfl, rfl, rfl, rfl, trivial⟩ trivial⟩
        · have : k = L.length := by omega
          subst this
          rw [List.take_length, hone] at hmc
          subst hmc
          repeat (first | refine A_seq ?_ | refine A_block ?_ | refine R_list ?_ | refine R_quiet rfl mixed (by kernel_rfl) ?_ | ((first | apply O_y rfl rfl rfl | apply Q_y rfl rfl rfl); (first | exact q_1 | exact q_2 | exact q_3 | exact q_4 | exact q_5 | exact q_6 | exact q_7 | exact q_8 | exact q_9 | exact q_10 | exact q_11 | exact q_12 | exact q_13 | exact q_14 | exact q_15 | exact q_16 | exact q_17 | exact q_18 | exact q_19 | exact q_20 | exact q_21 | exact q_22 | exact q_23 | exact q_24 | fail)) | refine O_nil ?_ | refine Q_nil ?_ | refine q_j ?_ | refine q_k ?_ | refine q_d ?_ | refine q_a ?_ | refine q_b ?_ | refine q_c ?_ | refine A_ct rfl ?_ | refine A_cf rfl ?_ | refine A_skip ?_ | refine A_exit ?_ | refine A_ret ?_ | refine q_l ?_ | refine q_m ?_ | refine q_n ?_ | refine q_h ?_ | refine q_o ?_ | refine q_e ?_ | refine q_f ?_ | refine q_g ?_ | fail)
          exact ⟨i + 1, by omega, by omega, Wk_sel ⟨rfl, rfl, rfl, rfl, trivial⟩ trivial⟩
    · rw [hc] at hck
      repeat (first | refine A_seq ?_ | refine A_block ?_ | refine R_list ?_ | refine R_quiet rfl mixed (by kernel_rfl) ?_ | ((first | apply O_y rfl rfl rfl | apply Q_y rfl rfl rfl); (first | exact q_1 | exact q_2 | exact q_3 | exact q_4 | exact R_loadi tabOk rfl rfl rfl rfl (by first | exact win_flat0 rteD_len l i _ hil (by decide) | exact win_flat rteD_len l i _ _ hil (by decide) | exact win_flat2 rteD_len l i _ _ _ hil (by decide) | rfl) rfl rfl | exact q_6 | exact q_7 | exact q_8 | exact q_9 | exact q_10 | exact q_11 | exact q_12 | exact q_13 | exact q_14 | exact q_15 | exact q_16 | exact q_17 | exact q_18 | exact q_19 | exact q_20 | exact q_21 | exact q_22 | exact q_23 | exact q_24 | fail)) | refine O_nil ?_ | refine Q_nil ?_ | refine q_j ?_ | refine q_k ?_ | refine q_d ?_ | refine q_a ?_ | refine q_b ?_ | refine q_c ?_ | refine A_ct rfl ?_ | refine A_cf rfl ?_ | refine A_skip ?_ | refine A_exit ?_ | refine A_ret ?_ | refine q_l ?_ | refine q_m ?_ | refine q_n ?_ | refine q_h ?_ | refine q_o ?_ | refine q_e ?_ | refine q_f ?_ | refine q_g ?_ | refine O_c rfl rfl rfl rfl rfl hck (fun _ => rfl) ?_)
      exact ⟨i + 1, by omega, by omega, Wk_sel ⟨rfl, rfl, rfl, rfl, trivial⟩ trivial⟩
    · rw [hc] at hck
      repeat (first | refine A_seq ?_ | refine A_block ?_ | refine R_list ?_ | refine R_quiet rfl mixed (by kernel_rfl) ?_ | ((first | apply O_y rfl rfl rfl | apply Q_y rfl rfl rfl); (first | exact q_1 | exact q_2 | exact q_3 | exact q_4 | exact R_loadi tabOk rfl rfl rfl rfl (by first | exact win_flat0 rteD_len l i _ hil (by decide) | exact win_flat rteD_len l i _ _ hil (by decide) | exact win_flat2 rteD_len l i _ _ _ hil (by decide) | rfl) rfl rfl | exact q_6 | exact q_7 | exact q_8 | exact q_9 | exact q_10 | exact q_11 | exact q_12 | exact q_13 | exact q_14 | exact q_15 | exact q_16 | exact q_17 | exact q_18 | exact q_19 | exact q_20 | exact q_21 | exact q_22 | exact q_23 | exact q_24 | fail)) | refine O_nil ?_ | refine Q_nil ?_ | refine q_j ?_ | refine q_k ?_ | refine q_d ?_ | refine q_a ?_ | refine q_b ?_ | refine q_c ?_ | refine A_ct rfl ?_ | refine A_cf rfl ?_ | refine A_skip ?_ | refine A_exit ?_ | refine A_ret ?_ | refine q_l ?_ | refine q_m ?_ | refine q_n ?_ | refine q_h ?_ | refine q_o ?_ | refine q_e ?_ | refine q_f ?_ | refine q_g ?_ | refine O_c rfl rfl rfl rfl rfl hck (fun _ => rfl) ?_)
      exact ⟨i + 1, by omega, by omega, Wk_sel ⟨rfl, rfl, rfl, rfl, trivial⟩ trivial⟩
  ·
    repeat (first | refine A_seq ?_ | refine A_block ?_ | refine R_list ?_ | refine R_quiet rfl mixed (by kernel_rfl) ?_ | ((first | apply O_y rfl rfl rfl | apply Q_y rfl rfl rfl); (first | exact q_1 | exact q_2 | exact q_3 | exact q_4 | exact q_5 | exact q_6 | exact q_7 | exact q_8 | exact q_9 | exact q_10 | exact q_11 | exact q_12 | exact q_13 | exact q_14 | exact q_15 | exact q_16 | exact q_17 | exact q_18 | exact q_19 | exact q_20 | exact q_21 | exact q_22 | exact q_23 | exact q_24 | fail)) | refine O_nil ?_ | refine Q_nil ?_ | refine q_j ?_ | refine q_k ?_ | refine q_d ?_ | refine q_a ?_ | refine q_b ?_ | refine q_c ?_ | refine A_ct rfl ?_ | refine A_cf rfl ?_ | refine A_skip ?_ | refine A_exit ?_ | refine A_ret ?_ | refine q_l ?_ | refine q_m ?_ | refine q_n ?_ | refine q_h ?_ | refine q_o ?_ | refine q_e ?_ | refine q_f ?_ | refine q_g ?_ | fail)
    refine A_loop (fun k : Nat => (9, intA (k : Int)) :: eaE l E L) (fun _ => []) (fun k => k ≤ E.length) (fun k => E.length - k) 0 (Nat.zero_le _) (Wk_sel ⟨rfl, rfl, rfl, rfl, trivial⟩ trivial) ?_
    intro k hk
    try dsimp only
    by_cases hkE : k < E.length
    · have hem := List.getElem_mem hkE
      have hhop := fun x => hhop _ x hem
      have hhl := hhl _ hem
      have hxe := hxe _ hem
      obtain ⟨b, hb⟩ : ∃ b, E[k].x = b := ⟨_, rfl⟩
      obtain ⟨hs, hhs⟩ : ∃ hs, E[k].hs = hs := ⟨_, rfl⟩
      have hw1 : win (E.flatMap entD) (k * 4 + 2) 1 = [.sc (.bool b)] := (win_flat entD_len E k 2 1 hkE (by decide)).trans (by show [Dat.sc (.bool E[k].x)] = _; rw [hb])
      have hw2 : win (E.flatMap entD) (k * 4 + 3) 1 = [.sl (hs.flatMap hopD) hs.length] := (win_flat entD_len E k 3 1 hkE (by decide)).trans (by show [Dat.sl (E[k].hs.flatMap hopD) E[k].hs.length] = _; rw [hhs])
      rw [hb, hhs] at hxe
      rw [hhs] at hhop hhl
      repeat (first | refine A_seq ?_ | refine A_block ?_ | refine R_list ?_ | ((first | apply O_y rfl rfl rfl | apply Q_y rfl rfl rfl); (first | exact q_1 | exact q_2 | exact q_3 | exact q_4 | exact q_5 | exact q_6 | exact q_7 | exact q_8 | exact q_9 | exact q_10 | exact q_11 | exact q_12 | exact q_13 | exact q_14 | exact q_15 | exact q_16 | exact q_17 | exact q_18 | exact q_19 | exact q_20 | exact q_21 | exact q_22 | exact q_23 | exact q_24 | fail)) | refine O_nil ?_ | refine Q_nil ?_ | refine q_j ?_ | refine q_k ?_ | refine q_d ?_ | refine q_a ?_ | refine q_b ?_ | refine q_c ?_ | refine A_ct rfl ?_ | refine A_cf rfl ?_ | refine A_skip ?_ | refine A_exit ?_ | refine A_ret ?_ | refine q_l ?_ | refine q_m ?_ | refine q_n ?_ | refine q_h ?_ | refine q_o ?_ | refine q_e ?_ | refine q_f ?_ | refine q_g ?_ | fail)
      refine A_cutF ((126, boolA false) :: (9, intA (k : Int)) :: eaE l E L) [] ?_ ?_
      · by_cases h0 : 0 < k
        · have hk1 : k - 1 < E.length := by omega
          have hlt : ordP E[k - 1].p E[k].p < 0 := hup (k - 1) k hk1 hkE (by omega)
          have hcm := refCmp_A E[k - 1].p E[k].p
          rw [cmpP_ord] at hcm
          obtain ⟨v, hv⟩ : ∃ v, ordP E[k - 1].p E[k].p = v := ⟨_, rfl⟩
          rw [hv] at hlt hcm
          rcases hxe with ⟨rfl, h1⟩ | ⟨rfl, h1⟩
          ·
            repeat (first | refine A_seq ?_ | refine A_block ?_ | refine R_list ?_ | refine R_quiet rfl mixed (by kernel_rfl) ?_ | ((first | apply O_y rfl rfl rfl | apply Q_y rfl rfl rfl); (first | exact q_1 | exact q_2 | exact q_3 | exact q_4 | exact R_loadi tabOk rfl rfl rfl rfl (by first | exact hw1 | exact hw2 | exact win_flat0 entD_len E (k - 1) _ hk1 (by decide) | exact win_flat0 entD_len E k _ hkE (by decide) | exact win_flat entD_len E (k - 1) _ _ hk1 (by decide) | exact win_flat entD_len E k _ _ hkE (by decide)) rfl rfl | exact q_6 | exact q_7 | exact q_8 | exact q_9 | exact q_10 | exact q_11 | exact q_12 | exact q_13 | exact q_14 | exact q_15 | exact q_16 | exact q_17 | exact q_18 | exact q_19 | exact q_20 | exact q_21 | exact q_22 | exact q_23 | exact q_24 | (first | exact R_index (j := k - 1) tabOk rfl rfl rfl rfl rfl rfl hk1 | exact Y_bbin tabOk rfl rfl rfl rfl rfl))) | refine O_nil ?_ | refine Q_nil ?_ | refine q_j ?_ | refine q_k ?_ | refine q_d ?_ | refine q_a ?_ | refine q_b ?_ | refine q_c ?_ | refine A_ct rfl ?_ | refine A_cf rfl ?_ | refine A_skip ?_ | refine A_exit ?_ | refine A_ret ?_ | refine q_l ?_ | refine q_m ?_ | refine q_n ?_ | refine q_h ?_ | refine q_o ?_ | refine q_e ?_ | refine q_f ?_ | refine q_g ?_ | (first | refine Q_c rfl rfl rfl rfl rfl hcm rfl (fun _ _ _ => val_mk _ _ _ _ _ rfl rfl) ?_ | refine O_c rfl rfl rfl rfl rfl hcm (fun _ => rfl) ?_))
            exact Wk_sel ⟨rfl, rfl, rfl, rfl, rfl, trivial⟩ trivial
          ·
            repeat (first | refine A_seq ?_ | refine A_block ?_ | refine R_list ?_ | refine R_quiet rfl mixed (by kernel_rfl) ?_ | ((first | apply O_y rfl rfl rfl | apply Q_y rfl rfl rfl); (first | exact q_1 | exact q_2 | exact q_3 | exact q_4 | exact R_loadi tabOk rfl rfl rfl rfl (by first | exact hw1 | exact hw2 | exact win_flat0 entD_len E (k - 1) _ hk1 (by decide) | exact win_flat0 entD_len E k _ hkE (by decide) | exact win_flat entD_len E (k - 1) _ _ hk1 (by decide) | exact win_flat entD_len E k _ _ hkE (by decide)) rfl rfl | exact q_6 | exact q_7 | exact q_8 | exact q_9 | exact q_10 | exact q_11 | exact q_12 | exact q_13 | exact q_14 | exact q_15 | exact q_16 | exact q_17 | exact q_18 | exact q_19 | exact q_20 | exact q_21 | exact q_22 | exact q_23 | exact q_24 | (first | exact R_index (j := k - 1) tabOk rfl rfl rfl rfl rfl rfl hk1 | exact Y_bbin tabOk rfl rfl rfl rfl rfl))) | refine O_nil ?_ | refine Q_nil ?_ | refine q_j ?_ | refine q_k ?_ | refine q_d ?_ | refine q_a ?_ | refine q_b ?_ | refine q_c ?_ | refine A_ct rfl ?_ | refine A_cf rfl ?_ | refine A_skip ?_ | refine A_exit ?_ | refine A_ret ?_ | refine q_l ?_ | refine q_m ?_ | refine q_n ?_ | refine q_h ?_ | refine q_o ?_ | refine q_e ?_ | refine q_f ?_ | refine q_g ?_ | (first | refine Q_c rfl rfl rfl rfl rfl hcm rfl (fun _ _ _ => val_mk _ _ _ _ _ rfl rfl) ?_ | refine O_c rfl rfl rfl rfl rfl hcm (fun _ => rfl) ?_))
            exact Wk_sel ⟨rfl, rfl, rfl, rfl, rfl, trivial⟩ trivial
        · rcases hxe with ⟨rfl, h1⟩ | ⟨rfl, h1⟩
          ·
            repeat (first | refine A_seq ?_ | refine A_block ?_ | refine R_list ?_ | refine R_quiet rfl mixed (by kernel_rfl) ?_ | ((first | apply O_y rfl rfl rfl | apply Q_y rfl rfl rfl); (first | exact q_1 | exact q_2 | exact q_3 | exact q_4 | exact R_loadi tabOk rfl rfl rfl rfl (by first | exact hw1 | exact hw2) rfl rfl | exact q_6 | exact q_7 | exact q_8 | exact q_9 | exact q_10 | exact q_11 | exact q_12 | exact q_13 | exact q_14 | exact q_15 | exact q_16 | exact q_17 | exact q_18 | exact q_19 | exact q_20 | exact q_21 | exact q_22 | exact q_23 | exact q_24 | (exact Y_bbin tabOk rfl rfl rfl rfl rfl))) | refine O_nil ?_ | refine Q_nil ?_ | refine q_j ?_ | refine q_k ?_ | refine q_d ?_ | refine q_a ?_ | refine q_b ?_ | refine q_c ?_ | refine A_ct rfl ?_ | refine A_cf rfl ?_ | refine A_skip ?_ | refine A_exit ?_ | refine A_ret ?_ | refine q_l ?_ | refine q_m ?_ | refine q_n ?_ | refine q_h ?_ | refine q_o ?_ | refine q_e ?_ | refine q_f ?_ | refine q_g ?_ | fail)
            exact Wk_sel ⟨rfl, rfl, rfl, rfl, rfl, trivial⟩ trivial
          ·
            repeat (first | refine A_seq ?_ | refine A_block ?_ | refine R_list ?_ | refine R_quiet rfl mixed (by kernel_rfl) ?_ | ((first | apply O_y rfl rfl rfl | apply Q_y rfl rfl rfl); (first | exact q_1 | exact q_2 | exact q_3 | exact q_4 | exact R_loadi tabOk rfl rfl rfl rfl (by first | exact hw1 | exact hw2) rfl rfl | exact q_6 | exact q_7 | exact q_8 | exact q_9 | exact q_10 | exact q_11 | exact q_12 | exact q_13 | exact q_14 | exact q_15 | exact q_16 | exact q_17 | exact q_18 | exact q_19 | exact q_20 | exact q_21 | exact q_22 | exact q_23 | exact q_24 | (exact Y_bbin tabOk rfl rfl rfl rfl rfl))) | refine O_nil ?_ | refine Q_nil ?_ | refine q_j ?_ | refine q_k ?_ | refine q_d ?_ | refine q_a ?_ | refine q_b ?_ | refine q_c ?_ | refine A_ct rfl ?_ | refine A_cf rfl ?_ | refine A_skip ?_ | refine A_exit ?_ | refine A_ret ?_ | refine q_l ?_ | refine q_m ?_ | refine q_n ?_ | refine q_h ?_ | refine q_o ?_ | refine q_e ?_ | refine q_f ?_ | refine q_g ?_ | fail)
            exact Wk_sel ⟨rfl, rfl, rfl, rfl, rfl, trivial⟩ trivial
      ·
        repeat (first | refine A_seq ?_ | refine A_block ?_ | refine R_list ?_ | ((first | apply O_y rfl rfl rfl | apply Q_y rfl rfl rfl); (first | exact q_1 | exact q_2 | exact q_3 | exact q_4 | exact q_5 | exact q_6 | exact q_7 | exact q_8 | exact q_9 | exact q_10 | exact q_11 | exact q_12 | exact q_13 | exact q_14 | exact q_15 | exact q_16 | exact q_17 | exact q_18 | exact q_19 | exact q_20 | exact q_21 | exact q_22 | exact q_23 | exact q_24 | fail)) | refine O_nil ?_ | refine Q_nil ?_ | refine q_j ?_ | refine q_k ?_ | refine q_d ?_ | refine q_a ?_ | refine q_b ?_ | refine q_c ?_ | refine A_ct rfl ?_ | refine A_cf rfl ?_ | refine A_skip ?_ | refine A_exit ?_ | refine A_ret ?_ | refine q_l ?_ | refine q_m ?_ | refine q_n ?_ | refine q_h ?_ | refine q_o ?_ | refine q_e ?_ | refine q_f ?_ | refine q_g ?_ | fail)
        refine A_loop (fun n : Nat => (9, intA (k : Int)) :: (10, intA (n : Int)) :: eaE l E L) (fun _ => []) (fun n => n ≤ hs.length) (fun n => hs.length - n) 0 (Nat.zero_le _) (Wk_sel ⟨rfl, rfl, rfl, rfl, rfl, trivial⟩ trivial) ?_
        intro n hn2
        try dsimp only
        by_cases hnh : n < hs.length
        · obtain ⟨r0, hr0, hr1, hr2⟩ := hhop hs[n] (List.getElem_mem hnh)
          obtain ⟨hp, hhp⟩ : ∃ hp, hs[n] = hp := ⟨_, rfl⟩
          have hw3 : win (hs.flatMap hopD) (n * 2 + 0) 1 = [.sc (.string ⟨⟨hp.i⟩⟩)] := (win_flat hopD_len hs n 0 1 hnh (by decide)).trans (by rw [hhp]; rfl)
          rw [hhp] at hr2
          have hall : l.any (fun r => !decide (r.i = []) && decide (r.i = hp.i)) = true := List.any_eq_true.2 ⟨r0, hr0, by rw [decide_eq_false hr1, decide_eq_true hr2]; rfl⟩
          repeat (first | refine A_seq ?_ | refine A_block ?_ | refine R_list ?_ | refine R_quiet rfl mixed (by kernel_rfl) ?_ | ((first | apply O_y rfl rfl rfl | apply Q_y rfl rfl rfl); (first | exact q_1 | exact q_2 | exact q_3 | exact q_4 | exact R_loadi tabOk rfl rfl rfl rfl hw2 rfl rfl | exact q_6 | exact q_7 | exact q_8 | exact q_9 | exact q_10 | exact q_11 | exact q_12 | exact q_13 | exact q_14 | exact q_15 | exact q_16 | exact q_17 | exact q_18 | exact q_19 | exact q_20 | exact q_21 | exact q_22 | exact q_23 | exact q_24 | fail)) | refine O_nil ?_ | refine Q_nil ?_ | refine q_j ?_ | refine q_k ?_ | refine q_d ?_ | refine q_a ?_ | refine q_b ?_ | refine q_c ?_ | refine A_ct rfl ?_ | refine A_cf rfl ?_ | refine A_skip ?_ | refine A_exit ?_ | refine A_ret ?_ | refine q_l ?_ | refine q_m ?_ | refine q_n ?_ | refine q_h ?_ | refine q_o ?_ | refine q_e ?_ | refine q_f ?_ | refine q_g ?_ | fail)
          refine A_loop (fun x : Nat × Bool => (9, intA (k : Int)) :: (10, intA (n : Int)) :: (11, boolA x.2) :: (12, intA (x.1 : Int)) :: eaE l E L) (fun _ => []) (fun x => x.1 ≤ l.length ∧ x.2 = (l.take x.1).any (fun r => !decide (r.i = []) && decide (r.i = hp.i))) (fun x => l.length - x.1) (0, false) ⟨Nat.zero_le _, rfl⟩ (Wk_sel ⟨rfl, rfl, rfl, rfl, rfl, rfl, rfl, trivial⟩ trivial) ?_
          rintro ⟨i, b⟩ ⟨hi2, hb2⟩
          dsimp only at hi2 hb2 ⊢
          by_cases hil : i < l.length
          · have hat := any_take (fun r : Rte => !decide (r.i = []) && decide (r.i = hp.i)) l i hil
            rw [← hb2] at hat
            cases b with
            | true =>
              repeat (first | refine A_seq ?_ | refine A_block ?_ | refine R_list ?_ | refine R_quiet rfl mixed (by kernel_rfl) ?_ | ((first | apply O_y rfl rfl rfl | apply Q_y rfl rfl rfl); (first | exact q_1 | exact q_2 | exact q_3 | exact q_4 | exact q_5 | exact q_6 | exact q_7 | exact q_8 | exact q_9 | exact q_10 | exact q_11 | exact q_12 | exact q_13 | exact q_14 | exact q_15 | exact q_16 | exact q_17 | exact q_18 | exact q_19 | exact q_20 | exact q_21 | exact q_22 | exact q_23 | exact q_24 | fail)) | refine O_nil ?_ | refine Q_nil ?_ | refine q_j ?_ | refine q_k ?_ | refine q_d ?_ | refine q_a ?_ | refine q_b ?_ | refine q_c ?_ | refine A_ct rfl ?_ | refine A_cf rfl ?_ | refine A_skip ?_ | refine A_exit ?_ | refine A_ret ?_ | refine q_l ?_ | refine q_m ?_ | refine q_n ?_ | refine q_h ?_ | refine q_o ?_ | refine q_e ?_ | refine q_f ?_ | refine q_g ?_ | fail)
              exact ⟨(i + 1, true), ⟨by dsimp only; omega, hat.symm⟩, by dsimp only; omega, Wk_sel ⟨rfl, rfl, rfl, rfl, rfl, rfl, rfl, trivial⟩ trivial⟩
            | false =>
              have hw4 : win (l.flatMap rteD) (i * 9 + 6) 1 = [.sc (.string ⟨⟨l[i].i⟩⟩)] := win_flat rteD_len l i 6 1 hil (by decide)
              by_cases he : l[i].i = []
              · rw [show (!decide (l[i].i = []) && decide (l[i].i = hp.i)) = false by simp [he]] at hat
                repeat (first | refine A_seq ?_ | refine A_block ?_ | refine R_list ?_ | refine R_quiet rfl mixed (by kernel_rfl) ?_ | ((first | apply O_y rfl rfl rfl | apply Q_y rfl rfl rfl); (first | exact q_1 | exact q_2 | exact q_3 | exact q_4 | exact R_loadi tabOk rfl rfl rfl rfl (by first | exact hw4 | exact hw2 | exact hw3) rfl rfl | exact q_6 | exact q_7 | exact q_8 | exact q_9 | exact q_10 | exact q_11 | exact q_12 | exact q_13 | exact q_14 | exact q_15 | exact q_16 | exact q_17 | exact q_18 | exact q_19 | exact q_20 | exact q_21 | exact q_22 | exact q_23 | exact q_24 | (exact R_sF rfl rfl rfl rfl (by simp [he])))) | refine O_nil ?_ | refine Q_nil ?_ | refine q_j ?_ | refine q_k ?_ | refine q_d ?_ | refine q_a ?_ | refine q_b ?_ | refine q_c ?_ | refine A_ct rfl ?_ | refine A_cf rfl ?_ | refine A_skip ?_ | refine A_exit ?_ | refine A_ret ?_ | refine q_l ?_ | refine q_m ?_ | refine q_n ?_ | refine q_h ?_ | refine q_o ?_ | refine q_e ?_ | refine q_f ?_ | refine q_g ?_ | fail)
                exact ⟨(i + 1, false), ⟨by dsimp only; omega, hat.symm⟩, by dsimp only; omega, Wk_sel ⟨rfl, rfl, rfl, rfl, rfl, rfl, rfl, trivial⟩ trivial⟩
              · by_cases hq : l[i].i = hp.i
                · rw [show (!decide (l[i].i = []) && decide (l[i].i = hp.i)) = true from (by rw [decide_eq_false he, decide_eq_true hq]; rfl)] at hat
                  repeat (first | refine A_seq ?_ | refine A_block ?_ | refine R_list ?_ | refine R_quiet rfl mixed (by kernel_rfl) ?_ | ((first | apply O_y rfl rfl rfl | apply Q_y rfl rfl rfl); (first | exact q_1 | exact q_2 | exact q_3 | exact q_4 | exact R_loadi tabOk rfl rfl rfl rfl (by first | exact hw4 | exact hw2 | exact hw3) rfl rfl | exact q_6 | exact q_7 | exact q_8 | exact q_9 | exact q_10 | exact q_11 | exact q_12 | exact q_13 | exact q_14 | exact q_15 | exact q_16 | exact q_17 | exact q_18 | exact q_19 | exact q_20 | exact q_21 | exact q_22 | exact q_23 | exact q_24 | (first | exact R_index (j := n) tabOk rfl rfl rfl rfl rfl rfl hnh | exact R_sT rfl rfl rfl rfl (decide_eq_true hq) | exact R_sT rfl rfl rfl rfl (by simp [he])))) | refine O_nil ?_ | refine Q_nil ?_ | refine q_j ?_ | refine q_k ?_ | refine q_d ?_ | refine q_a ?_ | refine q_b ?_ | refine q_c ?_ | refine A_ct rfl ?_ | refine A_cf rfl ?_ | refine A_skip ?_ | refine A_exit ?_ | refine A_ret ?_ | refine q_l ?_ | refine q_m ?_ | refine q_n ?_ | refine q_h ?_ | refine q_o ?_ | refine q_e ?_ | refine q_f ?_ | refine q_g ?_ | fail)
                  exact ⟨(i + 1, true), ⟨by dsimp only; omega, hat.symm⟩, by dsimp only; omega, Wk_sel ⟨rfl, rfl, rfl, rfl, rfl, rfl, rfl, trivial⟩ trivial⟩
                · rw [show (!decide (l[i].i = []) && decide (l[i].i = hp.i)) = false by simp [hq]] at hat
                  repeat (first | refine A_seq ?_ | refine A_block ?_ | refine R_list ?_ | refine R_quiet rfl mixed (by kernel_rfl) ?_ | ((first | apply O_y rfl rfl rfl | apply Q_y rfl rfl rfl); (first | exact q_1 | exact q_2 | exact q_3 | exact q_4 | exact R_loadi tabOk rfl rfl rfl rfl (by first | exact hw4 | exact hw2 | exact hw3) rfl rfl | exact q_6 | exact q_7 | exact q_8 | exact q_9 | exact q_10 | exact q_11 | exact q_12 | exact q_13 | exact q_14 | exact q_15 | exact q_16 | exact q_17 | exact q_18 | exact q_19 | exact q_20 | exact q_21 | exact q_22 | exact q_23 | exact q_24 | (first | exact R_index (j := n) tabOk rfl rfl rfl rfl rfl rfl hnh | exact R_sF rfl rfl rfl rfl (decide_eq_false hq) | exact R_sT rfl rfl rfl rfl (by simp [he])))) | refine O_nil ?_ | refine Q_nil ?_ | refine q_j ?_ | refine q_k ?_ | refine q_d ?_ | refine q_a ?_ | refine q_b ?_ | refine q_c ?_ | refine A_ct rfl ?_ | refine A_cf rfl ?_ | refine A_skip ?_ | refine A_exit ?_ | refine A_ret ?_ | refine q_l ?_ | refine q_m ?_ | refine q_n ?_ | refine q_h ?_ | refine q_o ?_ | refine q_e ?_ | refine q_f ?_ | refine q_g ?_ | fail)
                  exact ⟨(i + 1, false), ⟨by dsimp only; omega, hat.symm⟩, by dsimp only; omega, Wk_sel ⟨rfl, rfl, rfl, rfl, rfl, rfl, rfl, trivial⟩ trivial⟩
          · have : i = l.length := by omega
            subst this
            rw [List.take_length, hall] at hb2
            subst hb2
            repeat (first | refine A_seq ?_ | refine A_block ?_ | refine R_list ?_ | refine R_quiet rfl mixed (by kernel_rfl) ?_ | ((first | apply O_y rfl rfl rfl | apply Q_y rfl rfl rfl); (first | exact q_1 | exact q_2 | exact q_3 | exact q_4 | exact q_5 | exact q_6 | exact q_7 | exact q_8 | exact q_9 | exact q_10 | exact q_11 | exact q_12 | exact q_13 | exact q_14 | exact q_15 | exact q_16 | exact q_17 | exact q_18 | exact q_19 | exact q_20 | exact q_21 | exact q_22 | exact q_23 | exact q_24 | fail)) | refine O_nil ?_ | refine Q_nil ?_ | refine q_j ?_ | refine q_k ?_ | refine q_d ?_ | refine q_a ?_ | refine q_b ?_ | refine q_c ?_ | refine A_ct rfl ?_ | refine A_cf rfl ?_ | refine A_skip ?_ | refine A_exit ?_ | refine A_ret ?_ | refine q_l ?_ | refine q_m ?_ | refine q_n ?_ | refine q_h ?_ | refine q_o ?_ | refine q_e ?_ | refine q_f ?_ | refine q_g ?_ | fail)
            exact ⟨n + 1, by omega, by omega, Wk_sel ⟨rfl, rfl, rfl, rfl, rfl, trivial⟩ trivial⟩
        ·
          repeat (first | refine A_seq ?_ | refine A_block ?_ | refine R_list ?_ | refine R_quiet rfl mixed (by kernel_rfl) ?_ | ((first | apply O_y rfl rfl rfl | apply Q_y rfl rfl rfl); (first | exact q_1 | exact q_2 | exact q_3 | exact q_4 | exact R_loadi tabOk rfl rfl rfl rfl hw2 rfl rfl | exact q_6 | exact q_7 | exact q_8 | exact q_9 | exact q_10 | exact q_11 | exact q_12 | exact q_13 | exact q_14 | exact q_15 | exact q_16 | exact q_17 | exact q_18 | exact q_19 | exact q_20 | exact q_21 | exact q_22 | exact q_23 | exact q_24 | fail)) | refine O_nil ?_ | refine Q_nil ?_ | refine q_j ?_ | refine q_k ?_ | refine q_d ?_ | refine q_a ?_ | refine q_b ?_ | refine q_c ?_ | refine A_ct rfl ?_ | refine A_cf rfl ?_ | refine A_skip ?_ | refine A_exit ?_ | refine A_ret ?_ | refine q_l ?_ | refine q_m ?_ | refine q_n ?_ | refine q_h ?_ | refine q_o ?_ | refine q_e ?_ | refine q_f ?_ | refine q_g ?_ | fail)
          exact ⟨k + 1, by omega, by omega, Wk_sel ⟨rfl, rfl, rfl, rfl, trivial⟩ trivial⟩
    ·
      repeat (first | refine A_seq ?_ | refine A_block ?_ | refine R_list ?_ | refine R_quiet rfl mixed (by kernel_rfl) ?_ | ((first | apply O_y rfl rfl rfl | apply Q_y rfl rfl rfl); (first | exact q_1 | exact q_2 | exact q_3 | exact q_4 | exact q_5 | exact q_6 | exact q_7 | exact q_8 | exact q_9 | exact q_10 | exact q_11 | exact q_12 | exact q_13 | exact q_14 | exact q_15 | exact q_16 | exact q_17 | exact q_18 | exact q_19 | exact q_20 | exact q_21 | exact q_22 | exact q_23 | exact q_24 | fail)) | refine O_nil ?_ | refine Q_nil ?_ | refine q_j ?_ | refine q_k ?_ | refine q_d ?_ | refine q_a ?_ | refine q_b ?_ | refine q_c ?_ | refine A_ct rfl ?_ | refine A_cf rfl ?_ | refine A_skip ?_ | refine A_exit ?_ | refine A_ret ?_ | refine q_l ?_ | refine q_m ?_ | refine q_n ?_ | refine q_h ?_ | refine q_o ?_ | refine q_e ?_ | refine q_f ?_ | refine q_g ?_ | fail)
      exact X_ret rfl ⟨rfl, rfl⟩
end Go.Proofs.Ytamnhhjcgloceaa.Ab

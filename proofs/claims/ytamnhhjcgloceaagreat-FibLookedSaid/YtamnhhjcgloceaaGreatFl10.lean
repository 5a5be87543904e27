/-
  Texts of a proof, one behind the other (part 11).
-/
import Derived.Test.YtamnhhjcgloceaaGreatFl9
set_option linter.unusedVariables false
set_option linter.unusedSimpArgs false
namespace Go.Proofs.YtamnhhjcgloceaaGreat.Ab
set_option linter.unusedVariables false
set_option maxRecDepth 100000
open Go.RowKit Go.Lib
set_option linter.unusedSimpArgs false
attribute [local irreducible] AWp AOps AQ AYield AEff ACall AWk AAny AAt AThen AIn APost NoPanic
def entsA (l : List Ent) : AVal := .d (.sl (l.flatMap entD) l.length)
theorem cloneH_A (l : List Hp) (hl : l.length ≤ 2147483648) : ACall Tryz.prog 36 [hopsA l] [] (fun c h => c = .row 950 ∧ h = [(950, hopB l)]) := by
  refine ACall_of tabOk Tryz.func36 rfl Tryz.ntmps36 (congrArg Array.toList Tryz.results36) (by kernel_rfl) rfl ?_
  have hfl : (l.flatMap hopD).length = l.length * 2 := flat_len hopD_len l
  repeat (first | refine A_seq ?_ | refine A_block ?_ | refine R_list ?_ | refine R_quiet rfl mixed (by kernel_rfl) ?_ | ((first | apply O_y rfl rfl rfl | apply Q_y rfl rfl rfl); (first | exact q_1 | exact q_2 | exact q_3 | exact q_4 | exact q_5 | exact q_6 | exact q_7 | exact q_8 | exact q_9 | exact q_10 | exact q_11 | exact q_12 | exact q_13 | exact q_14 | exact q_15 | exact q_16 | exact q_17 | exact q_18 | exact q_19 | exact q_20 | exact q_21 | exact q_22 | exact q_23 | exact q_24 | fail)) | refine O_nil ?_ | refine Q_nil ?_ | refine q_j ?_ | refine q_k ?_ | refine q_d ?_ | refine q_a ?_ | refine q_b ?_ | refine q_c ?_ | refine A_ct rfl ?_ | refine A_cf rfl ?_ | refine A_skip ?_ | refine A_exit ?_ | refine A_ret ?_ | refine q_l ?_ | refine q_m ?_ | refine q_n ?_ | refine q_h ?_ | refine q_o ?_ | refine q_e ?_ | refine q_f ?_ | refine q_g ?_ | (refine O_nilEq tabOk rfl rfl rfl rfl rfl rfl ?_; intro b hb))
  cases b with
  | true =>
    have : l = [] := List.eq_nil_of_length_eq_zero (hb rfl).2
    subst this
    repeat (first | refine A_seq ?_ | refine A_block ?_ | refine R_list ?_ | refine R_quiet rfl mixed (by kernel_rfl) ?_ | ((first | apply O_y rfl rfl rfl | apply Q_y rfl rfl rfl); (first | exact q_1 | exact q_2 | exact q_3 | exact q_4 | exact q_5 | exact q_6 | exact q_7 | exact q_8 | exact q_9 | exact q_10 | exact q_11 | exact q_12 | exact q_13 | exact q_14 | exact q_15 | exact q_16 | exact q_17 | exact q_18 | exact q_19 | exact q_20 | exact q_21 | exact q_22 | exact q_23 | exact q_24 | fail)) | refine O_nil ?_ | refine Q_nil ?_ | refine q_j ?_ | refine q_k ?_ | refine q_d ?_ | refine q_a ?_ | refine q_b ?_ | refine q_c ?_ | refine A_ct rfl ?_ | refine A_cf rfl ?_ | refine A_skip ?_ | refine A_exit ?_ | refine A_ret ?_ | refine q_l ?_ | refine q_m ?_ | refine q_n ?_ | refine q_h ?_ | refine q_o ?_ | refine q_e ?_ | refine q_f ?_ | refine q_g ?_ | fail)
    exact X_retW (Wk_nil 38 2 (t := 2) (id := 950) rfl rfl) rfl (h2 := [(950, hopB [])]) ⟨rfl, trivial⟩ ⟨rfl, rfl⟩
  | false =>
    repeat (first | refine A_seq ?_ | refine A_block ?_ | refine R_list ?_ | refine R_quiet rfl mixed (by kernel_rfl) ?_ | ((first | apply O_y rfl rfl rfl | apply Q_y rfl rfl rfl); (first | exact q_1 | exact q_2 | exact q_3 | exact q_4 | exact q_5 | exact q_6 | exact q_7 | exact q_8 | exact q_9 | exact q_10 | exact q_11 | exact q_12 | exact q_13 | exact q_14 | exact q_15 | exact q_16 | exact q_17 | exact q_18 | exact q_19 | exact q_20 | exact q_21 | exact q_22 | exact q_23 | exact q_24 | fail)) | refine O_nil ?_ | refine Q_nil ?_ | refine q_j ?_ | refine q_k ?_ | refine q_d ?_ | refine q_a ?_ | refine q_b ?_ | refine q_c ?_ | refine A_ct rfl ?_ | refine A_cf rfl ?_ | refine A_skip ?_ | refine A_exit ?_ | refine A_ret ?_ | refine q_l ?_ | refine q_m ?_ | refine q_n ?_ | refine q_h ?_ | refine q_o ?_ | refine q_e ?_ | refine q_f ?_ | refine q_g ?_ | (first | refine O_slice0 tabOk rfl rfl rfl rfl rfl rfl rfl ?_ | (first | refine O_appR tabOk rfl rfl rfl rfl rfl rfl rfl rfl rfl rfl rfl (by first | exact Src.row rfl | exact Src.dat _ _ | exact Src.nil) hfl (by omega) ?_ | refine O_appN tabOk rfl rfl rfl rfl rfl rfl rfl rfl rfl rfl (by first | exact Src.row rfl | exact Src.dat _ _ | exact Src.nil) hfl (by omega) ?_)))
    exact X_retW (Wk_rename (p := 5) (id := 950) (t := 2) rfl rfl) rfl (h2 := [(950, hopB l)]) ⟨by rw [Nat.zero_add]; rfl, trivial⟩ ⟨rfl, rfl⟩
theorem own_A (x : Ent) (hl : x.hs.length ≤ 2147483648) : ACall Tryz.prog 22 [entA x] [] (Just (entA x)) := by
  obtain ⟨⟨pa, pb⟩, xx, hs⟩ := x
  have hc := cloneH_A hs hl
  refine ACall_of tabOk Tryz.func22 rfl Tryz.ntmps22 (congrArg Array.toList Tryz.results22) (by kernel_rfl) rfl ?_
  repeat (first | refine A_seq ?_ | refine A_block ?_ | refine R_list ?_ | ((first | apply O_y rfl rfl rfl | apply Q_y rfl rfl rfl); (first | exact q_1 | exact q_2 | exact q_3 | exact q_4 | exact q_5 | exact q_6 | exact q_7 | exact q_8 | exact q_9 | exact q_10 | exact q_11 | exact q_12 | exact q_13 | exact q_14 | exact q_15 | exact q_16 | exact q_17 | exact q_18 | exact q_19 | exact q_20 | exact q_21 | exact q_22 | exact q_23 | exact q_24 | fail)) | refine O_nil ?_ | refine Q_nil ?_ | refine q_j ?_ | refine q_k ?_ | refine q_d ?_ | refine q_a ?_ | refine q_b ?_ | refine q_c ?_ | refine A_ct rfl ?_ | refine A_cf rfl ?_ | refine A_skip ?_ | refine A_exit ?_ | refine A_ret ?_ | refine q_l ?_ | refine q_m ?_ | refine q_n ?_ | refine q_h ?_ | refine q_o ?_ | refine q_e ?_ | refine q_f ?_ | refine q_g ?_ | fail)
  refine O_cRow rfl rfl rfl rfl rfl hc rfl ?_
  refine O_weaken (Wk_freeze (id := 950) rfl) ?_
  repeat (first | refine A_seq ?_ | refine A_block ?_ | refine R_list ?_ | ((first | apply O_y rfl rfl rfl | apply Q_y rfl rfl rfl); (first | exact q_1 | exact q_2 | exact q_3 | exact q_4 | exact q_5 | exact q_6 | exact q_7 | exact q_8 | exact q_9 | exact q_10 | exact q_11 | exact q_12 | exact q_13 | exact q_14 | exact q_15 | exact q_16 | exact q_17 | exact q_18 | exact q_19 | exact q_20 | exact q_21 | exact q_22 | exact q_23 | exact q_24 | fail)) | refine O_nil ?_ | refine Q_nil ?_ | refine q_j ?_ | refine q_k ?_ | refine q_d ?_ | refine q_a ?_ | refine q_b ?_ | refine q_c ?_ | refine A_ct rfl ?_ | refine A_cf rfl ?_ | refine A_skip ?_ | refine A_exit ?_ | refine A_ret ?_ | refine q_l ?_ | refine q_m ?_ | refine q_n ?_ | refine q_h ?_ | refine q_o ?_ | refine q_e ?_ | refine q_f ?_ | refine q_g ?_ | fail)
  exact X_retW AWk.refl rfl (h2 := []) trivial ⟨rfl, rfl⟩
def tabF (E : List Ent) : Heap := [(1000, .var [entsA E, .ptr 1001 0]), (1001, tblB 1002 (uE E)), (1002, emapB (mE E))]
set_option maxHeartbeats 8000000 in
theorem fibNew_A (l : List Rte) (hok : ∀ s ∈ l, okR s) (hh : ∀ s ∈ l, 0 ≤ s.h ∧ s.h < 4294967296) (hn : l.length ≤ 200) :
    ACall Tryz.prog 6 [rtesA l] [] (fun c h => c = .ptr 10 0 ∧ h = [(10, .var [entsA (entsE l), .ptr 3 0]), (3, tblB 902 (uE (entsE l))), (902, emapB (mE (entsE l)))]) := by
  have hent := entries_A l hok hh hn
  have hEl := entsE_len l
  have hEg := fun x => entsE_good (l := l) (x := x)
  have hnd := entsE_nd l
  have hpo : ∀ x ∈ entsE l, x.p.ok := fun x hx => by
    obtain ⟨_, r, hr, hp⟩ := hEg x hx
    rw [← hp]; exact (hok r hr).2
  obtain ⟨E, hE⟩ : ∃ E, entsE l = E := ⟨_, rfl⟩
  simp only [hE] at hent hEl hEg hnd hpo ⊢
  clear hE
  refine ACall_of tabOk Tryz.func6 rfl Tryz.ntmps6 (congrArg Array.toList Tryz.results6) (by kernel_rfl) rfl ?_
  repeat (first | refine A_seq ?_ | refine A_block ?_ | refine R_list ?_ | ((first | apply O_y rfl rfl rfl | apply Q_y rfl rfl rfl); (first | exact q_1 | exact q_2 | exact q_3 | exact q_4 | exact q_5 | exact q_6 | exact q_7 | exact q_8 | exact q_9 | exact q_10 | exact q_11 | exact q_12 | exact q_13 | exact q_14 | exact q_15 | exact q_16 | exact q_17 | exact q_18 | exact q_19 | exact q_20 | exact q_21 | exact q_22 | exact q_23 | exact q_24 | fail)) | refine O_nil ?_ | refine Q_nil ?_ | refine q_j ?_ | refine q_k ?_ | refine q_d ?_ | refine q_a ?_ | refine q_b ?_ | refine q_c ?_ | refine A_ct rfl ?_ | refine A_cf rfl ?_ | refine A_skip ?_ | refine A_exit ?_ | refine A_ret ?_ | refine q_l ?_ | refine q_m ?_ | refine q_n ?_ | refine q_h ?_ | refine q_o ?_ | refine q_e ?_ | refine q_f ?_ | refine q_g ?_ | fail)
  refine O_cRow rfl rfl rfl rfl rfl hent rfl ?_
  refine O_weaken (Wk_freeze (id := 950) rfl) ?_
  refine O_weaken (Wk_sel (e1 := [(7, entsA E)]) (h1 := []) ⟨rfl, trivial⟩ trivial) ?_
  refine O_cNewE newE_A rfl rfl rfl rfl rfl ?_
  repeat (first | refine A_seq ?_ | refine A_block ?_ | refine R_list ?_ | ((first | apply O_y rfl rfl rfl | apply Q_y rfl rfl rfl); (first | exact q_1 | exact q_2 | exact q_3 | exact q_4 | exact q_5 | exact q_6 | exact q_7 | exact q_8 | exact q_9 | exact q_10 | exact q_11 | exact q_12 | exact q_13 | exact q_14 | exact q_15 | exact q_16 | exact q_17 | exact q_18 | exact q_19 | exact q_20 | exact q_21 | exact q_22 | exact q_23 | exact q_24 | (exact Y_nilCheck rfl rfl rfl))) | refine O_nil ?_ | refine Q_nil ?_ | refine q_j ?_ | refine q_k ?_ | refine q_d ?_ | refine q_a ?_ | refine q_b ?_ | refine q_c ?_ | refine A_ct rfl ?_ | refine A_cf rfl ?_ | refine A_skip ?_ | refine A_exit ?_ | refine A_ret ?_ | refine q_l ?_ | refine q_m ?_ | refine q_n ?_ | refine q_h ?_ | refine q_o ?_ | refine q_e ?_ | refine q_f ?_ | refine q_g ?_ | fail)
  refine A_weaken (Wk_sel (e1 := [(3, .ptr 10 0), (14, entsA E), (15, intA (E.length : Int)), (16, intA 0)]) (h1 := [(10, .var [entsA E, .ptr 3 0]), (3, tblB 902 fun _ => 0), (902, emapB [])]) ⟨rfl, rfl, rfl, rfl, trivial⟩ ⟨rfl, rfl, rfl, trivial⟩) ?_
  rw [show (fun _ => 0 : Nat → Int) = uE (E.take 0) from rfl]
  refine A_loop (fun k : Nat => [(3, .ptr 10 0), (14, entsA E), (15, intA (E.length : Int)), (16, intA (k : Int))]) (fun k => [(10, .var [entsA E, .ptr 3 0]), (3, tblB 902 (uE (E.take k))), (902, emapB (mE (E.take k)))]) (fun k => k ≤ E.length) (fun k => E.length - k) 0 (Nat.zero_le _) (Wk_sel ⟨rfl, rfl, rfl, rfl, trivial⟩ ⟨rfl, rfl, rfl, trivial⟩) ?_
  intro k hk
  try dsimp only
  by_cases hkE : k < E.length
  · have hm := List.getElem_mem hkE
    obtain ⟨hg1, hg2⟩ := mE_put hnd k hkE
    have hub := uE_snoc (E.take k) E[k]
    rw [← List.take_succ_eq_append_getElem hkE] at hub
    have hnk : ((mE (E.take k)).map (·.1)).Nodup := by
      rw [mE_keys]
      exact hnd.sublist ((List.take_sublist k E).map _)
    have hp := putE_A (uE (E.take k)) (mE (E.take k)) E[k].p E[k] (hpo _ hm) hnk (fun j => by have := uE_bd (E.take k) j; rw [List.length_take] at this; omega) (hEg _ hm).1
    rw [hg1, hg2] at hp
    simp only [Option.isSome_none, Bool.false_eq_true, if_false] at hp
    rw [hub] at hp
    obtain ⟨x, hx⟩ : ∃ x, E[k] = x := ⟨_, rfl⟩
    have hw0 : win (E.flatMap entD) (k * 4) 4 = entD x := (win_flat0 entD_len E k 4 hkE (by decide)).trans (by rw [hx]; rfl)
    rw [hx] at hp
    clear hg1 hg2 hub
    obtain ⟨⟨pa, pb⟩, xx, hs⟩ := x
    repeat (first | refine A_seq ?_ | refine A_block ?_ | refine R_list ?_ | ((first | apply O_y rfl rfl rfl | apply Q_y rfl rfl rfl); (first | exact q_1 | exact q_2 | exact q_3 | exact q_4 | exact R_loadi tabOk rfl rfl rfl rfl hw0 rfl rfl | exact q_6 | exact q_7 | exact q_8 | exact q_9 | exact q_10 | exact q_11 | exact q_12 | exact q_13 | exact q_14 | exact q_15 | exact q_16 | exact q_17 | exact q_18 | exact q_19 | exact q_20 | exact q_21 | exact q_22 | exact q_23 | exact q_24 | fail)) | refine O_nil ?_ | refine Q_nil ?_ | refine q_j ?_ | refine q_k ?_ | refine q_d ?_ | refine q_a ?_ | refine q_b ?_ | refine q_c ?_ | refine A_ct rfl ?_ | refine A_cf rfl ?_ | refine A_skip ?_ | refine A_exit ?_ | refine A_ret ?_ | refine q_l ?_ | refine q_m ?_ | refine q_n ?_ | refine q_h ?_ | refine q_o ?_ | refine q_e ?_ | refine q_f ?_ | refine q_g ?_ | fail)
    refine A_weaken (Wk_sel (e1 := [(3, .ptr 10 0), (5, .ptr 5 0), (14, entsA E), (15, intA (E.length : Int)), (16, intA (k : Int))]) (h1 := [(5, entB1 ⟨⟨pa, pb⟩, xx, hs⟩), (10, .var [entsA E, .ptr 3 0]), (3, tblB 902 (uE (E.take k))), (902, emapB (mE (E.take k)))]) ⟨rfl, rfl, rfl, rfl, rfl, trivial⟩ ⟨rfl, rfl, rfl, kill_mapE 5 _, trivial⟩) ?_
    refine N_begin [3, 902] mixed ?_
    repeat (first | ((first | apply q_M 0 rfl rfl (by kernel_rfl) (by decide +kernel) (by decide +kernel) rfl rfl rfl | apply q_M 1 rfl rfl (by kernel_rfl) (by decide +kernel) (by decide +kernel) rfl rfl rfl | apply q_M 2 rfl rfl (by kernel_rfl) (by decide +kernel) (by decide +kernel) rfl rfl rfl | apply q_M 3 rfl rfl (by kernel_rfl) (by decide +kernel) (by decide +kernel) rfl rfl rfl | apply q_M 4 rfl rfl (by kernel_rfl) (by decide +kernel) (by decide +kernel) rfl rfl rfl | apply q_M 5 rfl rfl (by kernel_rfl) (by decide +kernel) (by decide +kernel) rfl rfl rfl | apply q_M 6 rfl rfl (by kernel_rfl) (by decide +kernel) (by decide +kernel) rfl rfl rfl | apply q_M 7 rfl rfl (by kernel_rfl) (by decide +kernel) (by decide +kernel) rfl rfl rfl ); (first | exact q_1 | exact q_2 | exact q_3 | exact q_4 | exact q_5 | exact q_6 | exact q_7 | exact q_8 | exact q_9 | exact q_10 | exact q_11 | exact q_12 | exact q_13 | exact q_14 | exact q_15 | exact q_16 | exact q_17 | exact q_18 | exact q_19 | exact q_20 | exact q_21 | exact q_22 | exact q_23 | exact q_24 | exact Y_nilCheck rfl rfl rfl)) | (apply q_L 3 rfl rfl (by kernel_rfl) (by decide +kernel) (by decide +kernel) rfl rfl rfl; (first | exact q_5 | exact q_7 | exact q_19 | fail)) | (apply q_L 4 rfl rfl (by kernel_rfl) (by decide +kernel) (by decide +kernel) rfl rfl rfl; (first | exact q_5 | exact q_7 | exact q_19 | fail)) | (apply q_L 5 rfl rfl (by kernel_rfl) (by decide +kernel) (by decide +kernel) rfl rfl rfl; (first | exact q_5 | exact q_7 | exact q_19 | fail)) | (apply q_L 6 rfl rfl (by kernel_rfl) (by decide +kernel) (by decide +kernel) rfl rfl rfl; (first | exact q_5 | exact q_7 | exact q_19 | fail)) | refine N_one (j := 0) (by decide +kernel) ?_ | refine N_one (j := 1) (by decide +kernel) ?_ | refine N_one (j := 2) (by decide +kernel) ?_ | refine N_one (j := 3) (by decide +kernel) ?_ | refine N_one (j := 4) (by decide +kernel) ?_ | refine N_one (j := 5) (by decide +kernel) ?_ | refine N_one (j := 6) (by decide +kernel) ?_ | refine N_one (j := 7) (by decide +kernel) ?_ | refine T_alloc tabOk rfl rfl rfl rfl rfl rfl rfl ?_ | refine T_store tabOk rfl rfl rfl rfl rfl rfl rfl rfl rfl rfl rfl rfl rfl ?_ | (apply T_yield rfl rfl rfl rfl; (first | exact q_2 | exact q_1 | first | exact q_5 | exact q_7 | exact q_19 | fail)) | refine N_done (by decide +kernel) ?_ | refine T_cTblE 3 902 (by omega) hp rfl rfl rfl rfl rfl rfl rfl rfl rfl rfl rfl rfl ?_)
    repeat (first | refine A_seq ?_ | refine A_block ?_ | refine R_list ?_ | ((first | apply O_y rfl rfl rfl | apply Q_y rfl rfl rfl); (first | exact q_1 | exact q_2 | exact q_3 | exact q_4 | exact q_5 | exact q_6 | exact q_7 | exact q_8 | exact q_9 | exact q_10 | exact q_11 | exact q_12 | exact q_13 | exact q_14 | exact q_15 | exact q_16 | exact q_17 | exact q_18 | exact q_19 | exact q_20 | exact q_21 | exact q_22 | exact q_23 | exact q_24 | fail)) | refine O_nil ?_ | refine Q_nil ?_ | refine q_j ?_ | refine q_k ?_ | refine q_d ?_ | refine q_a ?_ | refine q_b ?_ | refine q_c ?_ | refine A_ct rfl ?_ | refine A_cf rfl ?_ | refine A_skip ?_ | refine A_exit ?_ | refine A_ret ?_ | refine q_l ?_ | refine q_m ?_ | refine q_n ?_ | refine q_h ?_ | refine q_o ?_ | refine q_e ?_ | refine q_f ?_ | refine q_g ?_ | fail)
    exact ⟨k + 1, by omega, by omega, Wk_sel ⟨rfl, rfl, rfl, rfl, trivial⟩ ⟨rfl, rfl, rfl, trivial⟩⟩
  · have : k = E.length := by omega
    subst this
    rw [List.take_length]
    repeat (first | refine A_seq ?_ | refine A_block ?_ | refine R_list ?_ | ((first | apply O_y rfl rfl rfl | apply Q_y rfl rfl rfl); (first | exact q_1 | exact q_2 | exact q_3 | exact q_4 | exact q_5 | exact q_6 | exact q_7 | exact q_8 | exact q_9 | exact q_10 | exact q_11 | exact q_12 | exact q_13 | exact q_14 | exact q_15 | exact q_16 | exact q_17 | exact q_18 | exact q_19 | exact q_20 | exact q_21 | exact q_22 | exact q_23 | exact q_24 | fail)) | refine O_nil ?_ | refine Q_nil ?_ | refine q_j ?_ | refine q_k ?_ | refine q_d ?_ | refine q_a ?_ | refine q_b ?_ | refine q_c ?_ | refine A_ct rfl ?_ | refine A_cf rfl ?_ | refine A_skip ?_ | refine A_exit ?_ | refine A_ret ?_ | refine q_l ?_ | refine q_m ?_ | refine q_n ?_ | refine q_h ?_ | refine q_o ?_ | refine q_e ?_ | refine q_f ?_ | refine q_g ?_ | fail)
    exact X_retW AWk.refl rfl (h2 := [(10, .var [entsA E, .ptr 3 0]), (3, tblB 902 (uE E)), (902, emapB (mE E))]) ⟨rfl, rfl, rfl, trivial⟩ ⟨rfl, rfl⟩
set_option maxHeartbeats 4000000 in
theorem fibLook_A (E : List Ent) (x : Int) (x0 : 0 ≤ x) (x1 : x < 4294967296) (hn : (E.map (·.p)).Nodup) (hl : ∀ y ∈ E, y.hs.length ≤ 2147483648) (hg : ∀ y ∈ E, Go.Proofs.YtamnhhjcgloceaaGreat.good y.p) :
    ACall Tryz.prog 7 [.ptr 1000 0, .d (.sc (.int .u32 x))] (tabF E) (fun c h => c = .tup [entA (longRE (uE E) (mE E) x).2.1, boolA (longRE (uE E) (mE E) x).2.2] ∧ h = tabF E) := by
  have hlo := longestE_A (uE E) (mE E) x x0 x1 (by rw [mE_keys]; exact hn)
  have hle : (longRE (uE E) (mE E) x).2.1.hs.length ≤ 2147483648 := by
    rcases look_law hn hg x with ⟨_, h, _⟩ | ⟨_, h, _⟩
    · exact hl _ h
    · rw [h]; exact Nat.zero_le _
  obtain ⟨⟨p, z, b⟩, hr⟩ : ∃ r, longRE (uE E) (mE E) x = r := ⟨_, rfl⟩
  rw [hr] at hlo hle ⊢
  obtain ⟨⟨pa, pb⟩, zx, hs⟩ := z
  have hown := own_A ⟨⟨pa, pb⟩, zx, hs⟩ hle
  refine ACall_of tabOk Tryz.func7 rfl Tryz.ntmps7 (congrArg Array.toList Tryz.results7) (by kernel_rfl) rfl ?_
  repeat (first | refine A_seq ?_ | refine A_block ?_ | refine R_list ?_ | ((first | apply O_y rfl rfl rfl | apply Q_y rfl rfl rfl); (first | exact q_1 | exact q_2 | exact q_3 | exact q_4 | exact q_5 | exact q_6 | exact q_7 | exact q_8 | exact q_9 | exact q_10 | exact q_11 | exact q_12 | exact q_13 | exact q_14 | exact q_15 | exact q_16 | exact q_17 | exact q_18 | exact q_19 | exact q_20 | exact q_21 | exact q_22 | exact q_23 | exact q_24 | (first | exact R_pnil tabOk rfl rfl rfl rfl rfl | exact Y_nilCheck rfl rfl rfl))) | refine O_nil ?_ | refine Q_nil ?_ | refine q_j ?_ | refine q_k ?_ | refine q_d ?_ | refine q_a ?_ | refine q_b ?_ | refine q_c ?_ | refine A_ct rfl ?_ | refine A_cf rfl ?_ | refine A_skip ?_ | refine A_exit ?_ | refine A_ret ?_ | refine q_l ?_ | refine q_m ?_ | refine q_n ?_ | refine q_h ?_ | refine q_o ?_ | refine q_e ?_ | refine q_f ?_ | refine q_g ?_ | (first | refine O_cTblE 1001 1002 (by omega) hlo rfl rfl rfl rfl rfl rfl rfl rfl (kill_mapE 4 _) ?_ | refine O_c rfl rfl rfl rfl rfl hown (fun _ => rfl) ?_))
  exact X_retW AWk.refl rfl (h2 := tabF E) ⟨rfl, rfl, (by show some _ = _; exact kill2E _ _ _), trivial⟩ ⟨rfl, rfl⟩
end Go.Proofs.YtamnhhjcgloceaaGreat.Ab

/-
  Texts of a proof, one behind the other (part 33).
-/
import Derived.Test.YtjmelcdgbnjefaaRc0
import Derived.Test.YtjmelcdgbnjefaaRc4
import Derived.Test.YtjmelcdgbnjefaaRc5
import Derived.Test.YtjmelcdgbnjefaaRc12
import Derived.Test.YtjmelcdgbnjefaaRc13
set_option linter.unusedVariables false
set_option linter.unusedSimpArgs false
namespace Go.Proofs.Ytjmelcdgbnjefaa.Ab
set_option linter.unusedVariables false
set_option maxRecDepth 100000
open Go.RowKit Go.Lib
set_option linter.unusedSimpArgs false
attribute [local irreducible] AWp AOps AQ AYield AEff ACall AWk AAny AAt AThen AIn APost NoPanic
def rte0 : Rte := ⟨⟨0, 0⟩, 0, 0, 0, 0, [], 0, false⟩
theorem rteA_rel (w : World) (F : Nat → Prop) (ι : Nat → Option Value) (r : Rte) : VRel w F ι (rteA r) (.agg (rteV r).toArray) := val_mk _ _ _ _ _ rfl rfl
theorem zeroRte (W : World) : (zeroValue 58).run Try.prog W = .ok (.agg (rteV rte0).toArray) W := by
  have h : tlook tab 58 = some _ := rfl
  obtain ⟨z, h1, h2, i, h3, h4, _⟩ := (tabOk _ _ h).zero W
  have h5 : (Try.prog.info? 58).bind (·.zero) = some (.agg (rteV rte0).toArray) := by kernel_rfl
  rw [h3] at h5
  simp only [Option.bind_some] at h5
  rw [h4] at h5
  cases h5
  exact h1
def bestB (l : List (Pfx × Rte)) : ABlk := .map (ents pfxA rteA l)
theorem kill_best (id : Nat) (l : List (Pfx × Rte)) : some (killB id (bestB l)) = some (bestB l) := by
  show some (ABlk.map ((l.map fun p => (pfxA p.1, rteA p.2)).map fun p => (killV id p.1, killV id p.2))) = _
  rw [List.map_map]
  rfl
theorem kill_best2 (i j : Nat) (l : List (Pfx × Rte)) : some (killB i (killB j (bestB l))) = some (bestB l) := by
  rw [Option.some.inj (kill_best j l)]; exact kill_best i l
theorem kill_best3 (i j m : Nat) (l : List (Pfx × Rte)) : some (killB i (killB j (killB m (bestB l)))) = some (bestB l) := by
  rw [Option.some.inj (kill_best m l)]; exact kill_best2 i j l
theorem take_snoc {α : Type} (l : List α) (k : Nat) (h : k < l.length) : l.take (k + 1) = l.take k ++ [l[k]] := List.take_succ_eq_append_getElem h
theorem filter_takeR (p : Rte → Bool) (l : List Rte) (k : Nat) (h : k < l.length) : (l.take (k + 1)).filter p = (l.take k).filter p ++ (if p l[k] then [l[k]] else []) := by
  rw [take_snoc l k h, List.filter_append]
  congr 1
  cases hp : p l[k] <;> simp [hp]
def okR (r : Rte) : Prop := (0 ≤ r.f ∧ r.f < 256) ∧ r.p.ok
set_option maxHeartbeats 8000000 in
theorem take_A (l : List Rte) (hok : ∀ r ∈ l, okR r) (hn : l.length ≤ 1000000) : ACall Try.prog 19 [rtesA l] [] (fun c h => c = .row 5 ∧ h = [(5, rteB (takeR l))]) := by
  refine ACall_of tabOk Try.func19 rfl Try.ntmps19 (congrArg Array.toList Try.results19) (by kernel_rfl) rfl ?_
  repeat (first | refine A_seq ?_ | refine A_block ?_ | refine R_list ?_ | refine R_quiet rfl mixed (by kernel_rfl) ?_ | ((first | apply O_y rfl rfl rfl | apply Q_y rfl rfl rfl); (first | exact q_1 | exact q_2 | exact q_3 | exact q_4 | exact q_5 | exact q_6 | exact q_7 | exact q_8 | exact q_9 | exact q_10 | exact q_11 | exact q_12 | exact q_13 | exact q_14 | exact q_15 | exact q_16 | exact q_17 | exact q_18 | exact q_19 | exact q_20 | exact q_21 | exact q_22 | exact q_23 | exact q_24 | fail)) | refine O_nil ?_ | refine Q_nil ?_ | refine q_j ?_ | refine q_k ?_ | refine q_d ?_ | refine q_a ?_ | refine q_b ?_ | refine q_c ?_ | refine A_ct rfl ?_ | refine A_cf rfl ?_ | refine A_skip ?_ | refine A_exit ?_ | refine A_ret ?_ | refine q_l ?_ | refine q_m ?_ | refine q_n ?_ | refine q_h ?_ | refine q_o ?_ | refine q_e ?_ | refine q_f ?_ | refine q_g ?_ | (refine O_makeMap 903 rfl rfl rfl rfl rfl ?_))
  refine A_loop (fun x : Nat × List (Pfx × Rte) => [(0, rtesA l), (3, .mp 903), (12, rtesA l), (13, intA (l.length : Int)), (14, intA (x.1 : Int))]) (fun x => [(903, bestB x.2)]) (fun x => x.1 ≤ l.length ∧ Kept (l.take x.1) x.2 ∧ (x.2.map (·.1)).Nodup) (fun x => l.length - x.1) (0, []) ⟨Nat.zero_le _, kept_nil, .nil⟩ (Wk_sel ⟨rfl, rfl, rfl, rfl, rfl, trivial⟩ ⟨rfl, trivial⟩) ?_
  rintro ⟨k, es⟩ ⟨hk, K, hn2⟩
  dsimp only at hk K hn2 ⊢
  by_cases hlt : k < l.length
  · have hkr := hok _ (List.getElem_mem hlt)
    repeat (first | refine A_seq ?_ | refine A_block ?_ | refine R_list ?_ | refine R_quiet rfl mixed (by kernel_rfl) ?_ | ((first | apply O_y rfl rfl rfl | apply Q_y rfl rfl rfl); (first | exact q_1 | exact q_2 | exact q_3 | exact q_4 | exact R_loadi tabOk rfl rfl rfl rfl (by first | exact win_flat0 rteD_len l k _ hlt (by decide) | exact win_flat rteD_len l k _ _ hlt (by decide) | exact win_flat2 rteD_len l k _ _ _ hlt (by decide) | rfl) rfl rfl | exact q_6 | exact q_7 | exact q_8 | exact q_9 | exact q_10 | exact q_11 | exact q_12 | exact q_13 | exact q_14 | exact q_15 | exact q_16 | exact q_17 | exact q_18 | exact q_19 | exact q_20 | exact q_21 | exact q_22 | exact q_23 | exact q_24 | fail)) | refine O_nil ?_ | refine Q_nil ?_ | refine q_j ?_ | refine q_k ?_ | refine q_d ?_ | refine q_a ?_ | refine q_b ?_ | refine q_c ?_ | refine A_ct rfl ?_ | refine A_cf rfl ?_ | refine A_skip ?_ | refine A_exit ?_ | refine A_ret ?_ | refine q_l ?_ | refine q_m ?_ | refine q_n ?_ | refine q_h ?_ | refine q_o ?_ | refine q_e ?_ | refine q_f ?_ | refine q_g ?_ | fail)
    cases hag : aget es l[k].p with
    | none =>
      repeat (first | refine A_seq ?_ | refine A_block ?_ | refine R_list ?_ | refine R_quiet rfl mixed (by kernel_rfl) ?_ | ((first | apply O_y rfl rfl rfl | apply Q_y rfl rfl rfl); (first | exact q_1 | exact q_2 | exact q_3 | exact q_4 | exact q_5 | exact q_6 | exact q_7 | exact q_8 | exact q_9 | exact q_10 | exact q_11 | exact q_12 | exact q_13 | exact q_14 | exact q_15 | exact q_16 | exact q_17 | exact q_18 | exact q_19 | exact q_20 | exact q_21 | exact q_22 | exact q_23 | exact q_24 | (exact R_lkOutA (k := l[k].p) (rteA rte0) (fun w F ι => rteA_rel w F ι rte0) pfxKey pfxA_val zeroRte trivial (fun _ _ => trivial) hn2 hag tabOk rfl rfl rfl (kill_best 5 es) rfl rfl))) | refine O_nil ?_ | refine Q_nil ?_ | refine q_j ?_ | refine q_k ?_ | refine q_d ?_ | refine q_a ?_ | refine q_b ?_ | refine q_c ?_ | refine A_ct rfl ?_ | refine A_cf rfl ?_ | refine A_skip ?_ | refine A_exit ?_ | refine A_ret ?_ | refine q_l ?_ | refine q_m ?_ | refine q_n ?_ | refine q_h ?_ | refine q_o ?_ | refine q_e ?_ | refine q_f ?_ | refine q_g ?_ | fail)
      refine O_upd (k := l[k].p) (xa := rteA) (q := l[k]) pfxKey pfxA_val pfxA_rel trivial (fun _ _ => trivial) hn2 tabOk rfl rfl rfl rfl rfl (kill_best2 6 5 es) rfl rfl ?_
      repeat (first | refine A_seq ?_ | refine A_block ?_ | refine R_list ?_ | refine R_quiet rfl mixed (by kernel_rfl) ?_ | ((first | apply O_y rfl rfl rfl | apply Q_y rfl rfl rfl); (first | exact q_1 | exact q_2 | exact q_3 | exact q_4 | exact q_5 | exact q_6 | exact q_7 | exact q_8 | exact q_9 | exact q_10 | exact q_11 | exact q_12 | exact q_13 | exact q_14 | exact q_15 | exact q_16 | exact q_17 | exact q_18 | exact q_19 | exact q_20 | exact q_21 | exact q_22 | exact q_23 | exact q_24 | fail)) | refine O_nil ?_ | refine Q_nil ?_ | refine q_j ?_ | refine q_k ?_ | refine q_d ?_ | refine q_a ?_ | refine q_b ?_ | refine q_c ?_ | refine A_ct rfl ?_ | refine A_cf rfl ?_ | refine A_skip ?_ | refine A_exit ?_ | refine A_ret ?_ | refine q_l ?_ | refine q_m ?_ | refine q_n ?_ | refine q_h ?_ | refine q_o ?_ | refine q_e ?_ | refine q_f ?_ | refine q_g ?_ | fail)
      exact ⟨(k + 1, Go.Proofs.Ytjmelcdgbnjefaa.aput es l[k].p l[k]), ⟨by dsimp only; omega, by dsimp only; rw [take_snoc l k hlt]; exact kept_put K hn2 (fun b hb => by (rw [hag] at hb; cases hb)), by dsimp only; exact aput_nodup hn2⟩, by dsimp only; omega, Wk_sel ⟨rfl, rfl, rfl, rfl, rfl, trivial⟩ ⟨rfl, trivial⟩⟩
    | some b =>
      have hbm := K.mem _ (mem_of_aget hag)
      have hbr := hok b (List.mem_of_mem_take hbm.1)
      have hcm := cmpRoutes_A l[k] b hkr.1 hbr.1
      by_cases hlt2 : rank l[k] b < 0
      ·
        repeat (first | refine A_seq ?_ | refine A_block ?_ | refine R_list ?_ | refine R_quiet rfl mixed (by kernel_rfl) ?_ | ((first | apply O_y rfl rfl rfl | apply Q_y rfl rfl rfl); (first | exact q_1 | exact q_2 | exact q_3 | exact q_4 | exact q_5 | exact q_6 | exact q_7 | exact q_8 | exact q_9 | exact q_10 | exact q_11 | exact q_12 | exact q_13 | exact q_14 | exact q_15 | exact q_16 | exact q_17 | exact q_18 | exact q_19 | exact q_20 | exact q_21 | exact q_22 | exact q_23 | exact q_24 | (exact R_lkIn (k := l[k].p) pfxKey pfxA_val zeroRte trivial (fun _ _ => trivial) hn2 hag tabOk rfl rfl rfl (kill_best 5 es) rfl rfl))) | refine O_nil ?_ | refine Q_nil ?_ | refine q_j ?_ | refine q_k ?_ | refine q_d ?_ | refine q_a ?_ | refine q_b ?_ | refine q_c ?_ | refine A_ct rfl ?_ | refine A_cf rfl ?_ | refine A_skip ?_ | refine A_exit ?_ | refine A_ret ?_ | refine q_l ?_ | refine q_m ?_ | refine q_n ?_ | refine q_h ?_ | refine q_o ?_ | refine q_e ?_ | refine q_f ?_ | refine q_g ?_ | refine O_c rfl rfl rfl rfl rfl hcm (fun _ => rfl) ?_)
        refine O_upd (k := l[k].p) (xa := rteA) (q := l[k]) pfxKey pfxA_val pfxA_rel trivial (fun _ _ => trivial) hn2 tabOk rfl rfl rfl rfl rfl (kill_best2 6 5 es) rfl rfl ?_
        repeat (first | refine A_seq ?_ | refine A_block ?_ | refine R_list ?_ | refine R_quiet rfl mixed (by kernel_rfl) ?_ | ((first | apply O_y rfl rfl rfl | apply Q_y rfl rfl rfl); (first | exact q_1 | exact q_2 | exact q_3 | exact q_4 | exact q_5 | exact q_6 | exact q_7 | exact q_8 | exact q_9 | exact q_10 | exact q_11 | exact q_12 | exact q_13 | exact q_14 | exact q_15 | exact q_16 | exact q_17 | exact q_18 | exact q_19 | exact q_20 | exact q_21 | exact q_22 | exact q_23 | exact q_24 | fail)) | refine O_nil ?_ | refine Q_nil ?_ | refine q_j ?_ | refine q_k ?_ | refine q_d ?_ | refine q_a ?_ | refine q_b ?_ | refine q_c ?_ | refine A_ct rfl ?_ | refine A_cf rfl ?_ | refine A_skip ?_ | refine A_exit ?_ | refine A_ret ?_ | refine q_l ?_ | refine q_m ?_ | refine q_n ?_ | refine q_h ?_ | refine q_o ?_ | refine q_e ?_ | refine q_f ?_ | refine q_g ?_ | fail)
        exact ⟨(k + 1, Go.Proofs.Ytjmelcdgbnjefaa.aput es l[k].p l[k]), ⟨by dsimp only; omega, by dsimp only; rw [take_snoc l k hlt]; exact kept_put K hn2 (fun b2 hb => by (rw [hag] at hb; cases hb; exact hlt2)), by dsimp only; exact aput_nodup hn2⟩, by dsimp only; omega, Wk_sel ⟨rfl, rfl, rfl, rfl, rfl, trivial⟩ ⟨rfl, trivial⟩⟩
      ·
        repeat (first | refine A_seq ?_ | refine A_block ?_ | refine R_list ?_ | refine R_quiet rfl mixed (by kernel_rfl) ?_ | ((first | apply O_y rfl rfl rfl | apply Q_y rfl rfl rfl); (first | exact q_1 | exact q_2 | exact q_3 | exact q_4 | exact q_5 | exact q_6 | exact q_7 | exact q_8 | exact q_9 | exact q_10 | exact q_11 | exact q_12 | exact q_13 | exact q_14 | exact q_15 | exact q_16 | exact q_17 | exact q_18 | exact q_19 | exact q_20 | exact q_21 | exact q_22 | exact q_23 | exact q_24 | (exact R_lkIn (k := l[k].p) pfxKey pfxA_val zeroRte trivial (fun _ _ => trivial) hn2 hag tabOk rfl rfl rfl (kill_best 5 es) rfl rfl))) | refine O_nil ?_ | refine Q_nil ?_ | refine q_j ?_ | refine q_k ?_ | refine q_d ?_ | refine q_a ?_ | refine q_b ?_ | refine q_c ?_ | refine A_ct rfl ?_ | refine A_cf rfl ?_ | refine A_skip ?_ | refine A_exit ?_ | refine A_ret ?_ | refine q_l ?_ | refine q_m ?_ | refine q_n ?_ | refine q_h ?_ | refine q_o ?_ | refine q_e ?_ | refine q_f ?_ | refine q_g ?_ | refine O_c rfl rfl rfl rfl rfl hcm (fun _ => rfl) ?_)
        exact ⟨(k + 1, es), ⟨by dsimp only; omega, by dsimp only; rw [take_snoc l k hlt]; exact kept_stay K hag (by omega), hn2⟩, by dsimp only; omega, Wk_sel ⟨rfl, rfl, rfl, rfl, rfl, trivial⟩ ⟨kill_best2 6 5 es, trivial⟩⟩
  · have hkk : k = l.length := by omega
    subst hkk
    rw [List.take_length] at K
    repeat (first | refine A_seq ?_ | refine A_block ?_ | refine R_list ?_ | refine R_quiet rfl mixed (by kernel_rfl) ?_ | ((first | apply O_y rfl rfl rfl | apply Q_y rfl rfl rfl); (first | exact q_1 | exact q_2 | exact q_3 | exact q_4 | exact q_5 | exact q_6 | exact q_7 | exact q_8 | exact q_9 | exact q_10 | exact q_11 | exact q_12 | exact q_13 | exact q_14 | exact q_15 | exact q_16 | exact q_17 | exact q_18 | exact q_19 | exact q_20 | exact q_21 | exact q_22 | exact q_23 | exact q_24 | fail)) | refine O_nil ?_ | refine Q_nil ?_ | refine q_j ?_ | refine q_k ?_ | refine q_d ?_ | refine q_a ?_ | refine q_b ?_ | refine q_c ?_ | refine A_ct rfl ?_ | refine A_cf rfl ?_ | refine A_skip ?_ | refine A_exit ?_ | refine A_ret ?_ | refine q_l ?_ | refine q_m ?_ | refine q_n ?_ | refine q_h ?_ | refine q_o ?_ | refine q_e ?_ | refine q_f ?_ | refine q_g ?_ | fail)
    refine A_weaken (Wk_nil 58 9 (t := 8) (id := 8) rfl rfl) ?_
    refine A_loop (fun k : Nat => [(3, .mp 903), (8, .row 8), (38, rtesA l), (39, intA (l.length : Int)), (40, intA (k : Int))]) (fun k => [(8, rteB ((l.take k).filter (winB l))), (903, bestB es)]) (fun k => k ≤ l.length) (fun k => l.length - k) 0 (Nat.zero_le _) (Wk_sel ⟨rfl, rfl, rfl, rfl, rfl, trivial⟩ ⟨rfl, kill_best 8 es, trivial⟩) ?_
    intro k hk
    try dsimp only
    have hfl : ((l.take k).filter (winB l)).length ≤ l.length := Nat.le_trans (List.length_filter_le _ _) (by rw [List.length_take]; omega)
    by_cases hlt : k < l.length
    · have hkr := hok _ (List.getElem_mem hlt)
      obtain ⟨⟨q, b⟩, hem, he1, he2⟩ := K.all l[k] (List.getElem_mem hlt)
      dsimp only at he1 he2
      subst he1
      have hag := aget_of_mem hn2 hem
      have hbm := K.mem _ hem
      have hbr := hok b hbm.1
      have hcm := cmpRoutes_A l[k] b hkr.1 hbr.1
      have hst := filter_takeR (winB l) l k hlt
      have hwin := kept_win K hn2 hem (List.getElem_mem hlt)
      cases hw : winB l l[k] with
      | true =>
        rw [hw, if_pos rfl] at hst
        have hr0 : rank l[k] b = 0 := hwin.1 hw
        rw [hr0] at hcm
        repeat (first | refine A_seq ?_ | refine A_block ?_ | refine R_list ?_ | refine R_quiet rfl mixed (by kernel_rfl) ?_ | ((first | apply O_y rfl rfl rfl | apply Q_y rfl rfl rfl); (first | exact q_1 | exact q_2 | exact q_3 | exact q_4 | exact R_loadi tabOk rfl rfl rfl rfl (by first | exact win_flat0 rteD_len l k _ hlt (by decide) | exact win_flat rteD_len l k _ _ hlt (by decide) | exact win_flat2 rteD_len l k _ _ _ hlt (by decide) | rfl) rfl rfl | exact q_6 | exact q_7 | exact q_8 | exact q_9 | exact q_10 | exact q_11 | exact q_12 | exact q_13 | exact q_14 | exact q_15 | exact q_16 | exact q_17 | exact q_18 | exact q_19 | exact q_20 | exact q_21 | exact q_22 | exact q_23 | exact q_24 | (exact R_lk1 (k := l[k].p) pfxKey pfxA_val zeroRte trivial (fun _ _ => trivial) hn2 hag tabOk rfl rfl rfl (kill_best 10 es) rfl rfl))) | refine O_nil ?_ | refine Q_nil ?_ | refine q_j ?_ | refine q_k ?_ | refine q_d ?_ | refine q_a ?_ | refine q_b ?_ | refine q_c ?_ | refine A_ct rfl ?_ | refine A_cf rfl ?_ | refine A_skip ?_ | refine A_exit ?_ | refine A_ret ?_ | refine q_l ?_ | refine q_m ?_ | refine q_n ?_ | refine q_h ?_ | refine q_o ?_ | refine q_e ?_ | refine q_f ?_ | refine q_g ?_ | (first | refine Q_c rfl rfl rfl rfl rfl hcm rfl (fun _ _ _ => val_mk _ _ _ _ _ rfl rfl) ?_ | (first | refine O_appR tabOk rfl rfl rfl rfl rfl rfl rfl rfl rfl rfl rfl (by first | exact Src.row rfl | exact Src.dat _ _ | exact Src.nil) rfl (by omega) ?_ | refine O_appN tabOk rfl rfl rfl rfl rfl rfl rfl rfl rfl rfl (by first | exact Src.row rfl | exact Src.dat _ _ | exact Src.nil) rfl (by omega) ?_)))
        exact ⟨k + 1, by omega, by omega, Wk_sel ⟨rfl, rfl, rfl, rfl, rfl, trivial⟩ ⟨row_eq (by rw [hst]; simp) (by rw [hst]; simp [rteD]) rfl, kill_best3 _ _ _ es, trivial⟩⟩
      | false =>
        rw [hw] at hst
        have hst : (l.take (k + 1)).filter (winB l) = (l.take k).filter (winB l) := by simpa using hst
        have hr0 : rank l[k] b ≠ 0 := fun h => by rw [hwin.2 h] at hw; cases hw
        repeat (first | refine A_seq ?_ | refine A_block ?_ | refine R_list ?_ | refine R_quiet rfl mixed (by kernel_rfl) ?_ | ((first | apply O_y rfl rfl rfl | apply Q_y rfl rfl rfl); (first | exact q_1 | exact q_2 | exact q_3 | exact q_4 | exact R_loadi tabOk rfl rfl rfl rfl (by first | exact win_flat0 rteD_len l k _ hlt (by decide) | exact win_flat rteD_len l k _ _ hlt (by decide) | exact win_flat2 rteD_len l k _ _ _ hlt (by decide) | rfl) rfl rfl | exact q_6 | exact q_7 | exact q_8 | exact q_9 | exact q_10 | exact q_11 | exact q_12 | exact q_13 | exact q_14 | exact q_15 | exact q_16 | exact q_17 | exact q_18 | exact q_19 | exact q_20 | exact q_21 | exact q_22 | exact q_23 | exact q_24 | (exact R_lk1 (k := l[k].p) pfxKey pfxA_val zeroRte trivial (fun _ _ => trivial) hn2 hag tabOk rfl rfl rfl (kill_best 10 es) rfl rfl))) | refine O_nil ?_ | refine Q_nil ?_ | refine q_j ?_ | refine q_k ?_ | refine q_d ?_ | refine q_a ?_ | refine q_b ?_ | refine q_c ?_ | refine A_ct rfl ?_ | refine A_cf rfl ?_ | refine A_skip ?_ | refine A_exit ?_ | refine A_ret ?_ | refine q_l ?_ | refine q_m ?_ | refine q_n ?_ | refine q_h ?_ | refine q_o ?_ | refine q_e ?_ | refine q_f ?_ | refine q_g ?_ | (first | refine Q_c rfl rfl rfl rfl rfl hcm rfl (fun _ _ _ => val_mk _ _ _ _ _ rfl rfl) ?_))
        exact ⟨k + 1, by omega, by omega, Wk_sel ⟨rfl, rfl, rfl, rfl, rfl, trivial⟩ ⟨by rw [hst]; rfl, kill_best 10 es, trivial⟩⟩
    · have hkk : k = l.length := by omega
      subst hkk
      rw [List.take_length]
      have hfl2 : (l.filter (winB l)).length ≤ l.length := List.length_filter_le _ _
      have hso := sort_R (l.filter (winB l)) (by omega)
      repeat (first | refine A_seq ?_ | refine A_block ?_ | refine R_list ?_ | refine R_quiet rfl mixed (by kernel_rfl) ?_ | ((first | apply O_y rfl rfl rfl | apply Q_y rfl rfl rfl); (first | exact q_1 | exact q_2 | exact q_3 | exact q_4 | exact q_5 | exact q_6 | exact q_7 | exact q_8 | exact q_9 | exact q_10 | exact q_11 | exact q_12 | exact q_13 | exact q_14 | exact q_15 | exact q_16 | exact q_17 | exact q_18 | exact q_19 | exact q_20 | exact q_21 | exact q_22 | exact q_23 | exact q_24 | fail)) | refine O_nil ?_ | refine Q_nil ?_ | refine q_j ?_ | refine q_k ?_ | refine q_d ?_ | refine q_a ?_ | refine q_b ?_ | refine q_c ?_ | refine A_ct rfl ?_ | refine A_cf rfl ?_ | refine A_skip ?_ | refine A_exit ?_ | refine A_ret ?_ | refine q_l ?_ | refine q_m ?_ | refine q_n ?_ | refine q_h ?_ | refine q_o ?_ | refine q_e ?_ | refine q_f ?_ | refine q_g ?_ | fail)
      refine O_weaken (Wk_freeze (id := 8) rfl) ?_
      refine O_cRow rfl rfl rfl rfl rfl hso rfl ?_
      repeat (first | refine A_seq ?_ | refine A_block ?_ | refine R_list ?_ | refine R_quiet rfl mixed (by kernel_rfl) ?_ | ((first | apply O_y rfl rfl rfl | apply Q_y rfl rfl rfl); (first | exact q_1 | exact q_2 | exact q_3 | exact q_4 | exact q_5 | exact q_6 | exact q_7 | exact q_8 | exact q_9 | exact q_10 | exact q_11 | exact q_12 | exact q_13 | exact q_14 | exact q_15 | exact q_16 | exact q_17 | exact q_18 | exact q_19 | exact q_20 | exact q_21 | exact q_22 | exact q_23 | exact q_24 | fail)) | refine O_nil ?_ | refine Q_nil ?_ | refine q_j ?_ | refine q_k ?_ | refine q_d ?_ | refine q_a ?_ | refine q_b ?_ | refine q_c ?_ | refine A_ct rfl ?_ | refine A_cf rfl ?_ | refine A_skip ?_ | refine A_exit ?_ | refine A_ret ?_ | refine q_l ?_ | refine q_m ?_ | refine q_n ?_ | refine q_h ?_ | refine q_o ?_ | refine q_e ?_ | refine q_f ?_ | refine q_g ?_ | fail)
      exact X_retW AWk.refl rfl (h2 := [(5, rteB (takeR l))]) ⟨rfl, trivial⟩ ⟨rfl, rfl⟩
end Go.Proofs.Ytjmelcdgbnjefaa.Ab

namespace Go.Proofs.Ytjmelcdgbnjefaa.Ab
set_option linter.unusedVariables false
open Go.RowKit
section
variable {P : Program} {nt : Nat} {Q : Post} {e : Env} {h : Heap} {ops : Array Oper} {o : Oper} {rest : List Oper} {T : List Nat} {tab : TTab} {fuel i : Nat} {listed : Array Bool}
theorem E_appendD {t el : TypeId} {te te' : TE} {d : Option Tmp} {x y : Operand} {n m : Nat} {cy : AVal} {cs ds : List Dat} (TO : TabOk P tab) (ho : o.op = .call { callee := .builtin .append, args := #[x, y], argTypes := #[t, t] }) (hdst : o.dst = d)
    (ht : tlook tab t = some te) (hs : te.sh = .sl el) (hel : tlook tab el = some te') (hk : Nat.blt 0 te'.size = true) (hk2 : Nat.beq te'.zero.length te'.size = true) (hb : Nat.ble te'.bytes 65536 = true)
    (hx : aev e x = some (.full cs n)) (hcs : cs.length = n * te'.size) (hy : aev e y = some cy) (S : Src h cy m ds) (hm : 0 < m) (hl : ds.length = m * te'.size) (hn : n + m ≤ 2147483648) (hd : dstOk nt d = true) :
    AEff P nt T e h o (fun e' h' => e' = aput d (.d (.sl (cs ++ ds) (n + m))) e ∧ h' = h) := fun Pm F w0 pin ι a w R K Qx hK => by
  have hk' : 0 < te'.size := by simp [Nat.blt] at hk; omega
  obtain ⟨news, hnl, hnr, hsrc⟩ := S.cells R.heap (aev_rel R.env hy)
  have hone : ∀ u ∈ news, u.oneCell' = true := fun u hu => by
    obtain ⟨i, hi⟩ := List.mem_iff_getElem?.1 hu
    have hlt : i < ds.length := by rw [← hnl]; exact (List.getElem?_eq_some_iff.1 hi).1
    exact (hnr i ds[i] u (List.getElem?_eq_getElem hlt) hi).one
  have hsrc' : ∃ b o' c', a.eval y = .slice (some ⟨b, o', none⟩) m c' ∧ ∀ (j : Nat) (x : Value), news[j]? = some x → w.cell? ⟨b, o' + j, none⟩ = some x := by
    rcases hsrc with ⟨_, h2, _⟩ | ⟨_, h2, _⟩ | h1
    · omega
    · omega
    · exact h1
  have hxv := aev_rel R.env hx
  obtain ⟨ux, hux⟩ : ∃ ux, a.eval x = ux := ⟨_, rfl⟩
  rw [hux] at hxv
  cases hxv with
  | full _ _ b hD =>
  obtain ⟨olds, hol, hor, hold⟩ : ∃ olds : List Value, olds.length = cs.length ∧ (∀ (i : Nat) (c : Dat) (u : Value), cs[i]? = some c → olds[i]? = some u → DRel w (FreeB F ι) c u) ∧ ((b = none ∧ n = 0) ∨ ∃ ba, b = some ba ∧ ∀ (j : Nat) (x : Value), olds[j]? = some x → w.cell? (ba.add j) = some x) := by
    cases hD with
    | nil => exact ⟨[], rfl, by simp, .inl ⟨rfl, rfl⟩⟩
    | emp ea => exact ⟨[], rfl, by simp, .inr ⟨ea, rfl, fun j x hj => by simp at hj⟩⟩
    | sl _ _ b o cap vs hn hl hf hc hr => exact ⟨vs, hl, hr, .inr ⟨_, rfl, fun j x hj => by rw [add_lit0]; exact hc j x hj⟩⟩
  obtain ⟨v', w', hr, hown', hg⟩ := run_appF (P := P) (ty := o.type) w (TO t te ht) hs (TO el te' hel) hk' (Nat.eq_of_beq_eq_true hk2) b n olds (by rw [hol, hcs]) hold (a.eval y) m news hm (by rw [hnl, hl]) hsrc' hone hn (Nat.le_of_ble_eq_true hb)
  have G : Grew w w' := ⟨hg.os, hg.tape, hg.output, hg.size, fun r hr1 => hg.block r hr1 (by simp)⟩
  have hrun : (execOp a.eval o).run P w = .ok (.value v') w' := by
    simp [execOp, ho, resolve, invoke, builtin, hux, hr]
  have hDR : DRel w' (FreeB F ι) (.sl (cs ++ ds) (n + m)) v' := by
    rcases hown'.2 with ⟨_, h0⟩ | ⟨g, cap, cur, rfl, hge, hg2, hnc, _⟩
    · omega
    · refine .sl _ _ g 0 cap (olds ++ news) hnc (by simp [hol, hnl]) (fun _ => ⟨fun hF => ?_, fun id v hv hb2 => ?_⟩) (fun i u hu => ?_) fun i c u h1 h2 => ?_
      · have := R.heap.forb g hF
        have := R.heap.size
        omega
      · have := R.heap.lt hv hb2
        omega
      · have := hown'.cells (g := g) rfl i u hu
        rwa [Addr.add_mid] at this
      · rw [List.getElem?_append] at h1 h2
        rw [hol] at h2
        split at h1
        · rename_i hlt; rw [if_pos hlt] at h2; exact (hor _ _ _ h1 h2).ext (fun r hr _ => G.mem r hr) fun _ _ hf => hf
        · rename_i hlt; rw [if_neg hlt] at h2; exact (hnr _ _ _ h1 h2).ext (fun r hr _ => G.mem r hr) fun _ _ hf => hf
  unfold Oper.wp
  rw [hrun, Oper.upon_value, hdst]
  exact hK ι _ _ _ w' ⟨rfl, rfl⟩ ((R.grew G).put hd (.d _ _ hDR)) ⟨G.ct T, fun id _ v r h1 h2 _ => ⟨v, h1, h2⟩⟩ (put_defers _ _ _)
theorem T_appD {t el k n m d : Nat} {x y : Operand} {cy : AVal} {cs ds : List Dat} (TO : TabOk P tab) (hi : ops[i]? = some o) (hw : awant ops e o = some true) (hdst : o.dst = some d) (hd : Nat.blt d nt = true) (ho : o.op = .call { callee := .builtin .append, args := #[x, y], argTypes := #[t, t] })
    (hel : telem tab t = some el) (hsz : tsize tab el = some k) (hok : (match tlook tab el with | some te => Nat.blt 0 te.size && Nat.beq te.zero.length te.size && Nat.ble te.bytes 65536 | none => false) = true)
    (hx : aev e x = some (.full cs n)) (hy : aev e y = some cy) (S : Src h cy m ds) (hcs : cs.length = n * k) (hm : 0 < m) (hl : ds.length = m * k) (hn : n + m ≤ 2147483648)
    (HK : AAny P nt ops Q T fuel (listed.setIfInBounds i true) ((d, .d (.sl (cs ++ ds) (n + m))) :: e) h) : AAt P nt ops Q T fuel listed i e h := by
  obtain ⟨te, h1, h2⟩ := telem_spec hel
  obtain ⟨te', h3, rfl⟩ := tsize_spec hsz
  rw [h3] at hok
  simp only [Bool.and_eq_true] at hok
  exact T_eff hi hw (E_appendD TO ho hdst h1 h2 h3 hok.1.1 hok.1.2 hok.2 hx hcs hy S hm hl hn hd) fun e' h' ⟨h4, h5⟩ => by subst h4 h5; exact HK
end
end Go.Proofs.Ytjmelcdgbnjefaa.Ab

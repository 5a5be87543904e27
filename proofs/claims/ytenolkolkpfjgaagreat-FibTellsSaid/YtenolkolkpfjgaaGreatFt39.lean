/-
  Texts of a proof, one behind the other (part 40).
-/
import Derived.Test.YtenolkolkpfjgaaGreatFt8
import Derived.Test.YtenolkolkpfjgaaGreatFt20
import Derived.Test.YtenolkolkpfjgaaGreatFt30
import Derived.Test.YtenolkolkpfjgaaGreatFt38
set_option linter.unusedVariables false
set_option linter.unusedSimpArgs false
namespace Go.Proofs.YtenolkolkpfjgaaGreat.Ab
set_option linter.unusedVariables false
set_option maxRecDepth 100000
open Go.RowKit Go.Lib
def ent2B (l : List Ent) : ABlk := .row 50 4 l.length (l.flatMap entD)
set_option linter.unusedSimpArgs false
attribute [local irreducible] AWp AOps AQ AYield AEff ACall AWk AAny AAt AThen AIn APost NoPanic
set_option maxHeartbeats 16000000 in
theorem refEntries_A (l : List Rte) (hok : ∀ s ∈ l, okR s) (hh : ∀ s ∈ l, 0 ≤ s.h ∧ s.h < 4294967296) (hn : l.length ≤ 80) :
    ACall Tryz.prog 4 [rtesA l] [] (Just (.tup [entsA (entsE l), pfxsA (lostE l)])) := by
  have hpre := prefixes_A l hok (by omega)
  have hPm : ∀ p ∈ sortU ordP (goodP l), chk p = 0 := fun p hp => by
    rw [sortU_mem] at hp
    obtain ⟨r, _, h1, h2⟩ := goodP_mem.1 hp
    rw [← h2]; exact h1
  have hPl := entL_len l
  unfold entsE lostE
  unfold entL at hPl ⊢
  rw [List.length_map] at hPl
  obtain ⟨PS, hPS⟩ : ∃ PS, sortU ordP (goodP l) = PS := ⟨_, rfl⟩
  rw [hPS] at hpre hPm hPl ⊢
  clear hPS
  refine ACall_of tabOk Tryz.func4 rfl Tryz.ntmps4 (congrArg Array.toList Tryz.results4) (by kernel_rfl) rfl ?_
  repeat (first | refine q_Z ?_ | refine R_quiet rfl mixed (by kernel_rfl) ?_ | ((first | apply O_y rfl rfl rfl | apply Q_y rfl rfl rfl); (first | exact q_A | exact q_5 | exact q_B)) | refine q_d ?_ | refine q_a ?_ | refine q_b ?_ | refine q_c ?_ | refine A_ct rfl ?_ | refine A_cf rfl ?_ | refine q_W ?_)
  refine O_cRow rfl rfl rfl rfl rfl hpre rfl ?_
  refine O_weaken (Wk_freeze (id := 3) rfl) ?_
  repeat (first | refine q_Z ?_ | refine R_quiet rfl mixed (by kernel_rfl) ?_ | ((first | apply O_y rfl rfl rfl | apply Q_y rfl rfl rfl); (first | exact q_A | exact q_5 | exact q_B)) | refine q_d ?_ | refine q_a ?_ | refine q_b ?_ | refine q_c ?_ | refine A_ct rfl ?_ | refine A_cf rfl ?_ | refine q_W ?_)
  refine A_weaken (Wk_nil 50 4 (t := 4) (id := 4) rfl rfl) ?_
  refine A_weaken (Wk_nil 39 2 (t := 5) (id := 5) rfl rfl) ?_
  refine A_loop (fun i : Nat => [(0, rtesA l), (4, .row 4), (5, .row 5), (6, pfxsA PS), (7, intA (i : Int))]) (fun i => [(4, ent2B (((PS.take i).map (entOf l)).filter liveE)), (5, pfxB ((((PS.take i).map (entOf l)).filter fun x => !liveE x).map (·.p)))]) (fun i => i ≤ PS.length) (fun i => PS.length - i) 0 (Nat.zero_le _) (Wk_sel ⟨rfl, rfl, rfl, rfl, rfl, trivial⟩ ⟨rfl, rfl, trivial⟩) ?_
  intro i hi
  try dsimp only
  by_cases hiP : i < PS.length
  · have hone := refOne_A l PS[i] (hPm _ (List.getElem_mem hiP)) hok hh hn
    have ht1 : ((PS.take (i + 1)).map (entOf l)).filter liveE = ((PS.take i).map (entOf l)).filter liveE ++ if liveE (entOf l PS[i]) = true then [entOf l PS[i]] else [] := by
      rw [List.take_succ_eq_append_getElem hiP, List.map_append, List.filter_append]
      congr 1
      simp only [List.map_cons, List.map_nil, List.filter_cons, List.filter_nil]
    have ht2 : (((PS.take (i + 1)).map (entOf l)).filter fun x => !liveE x).map (·.p) = (((PS.take i).map (entOf l)).filter fun x => !liveE x).map (·.p) ++ if liveE (entOf l PS[i]) = true then [] else [PS[i]] := by
      rw [List.take_succ_eq_append_getElem hiP, List.map_append, List.filter_append, List.map_append]
      congr 1
      simp only [List.map_cons, List.map_nil, List.filter_cons, List.filter_nil]
      cases liveE (entOf l PS[i]) <;> rfl
    have hl1 : (((PS.take i).map (entOf l)).filter liveE).length ≤ 80 := Nat.le_trans (List.length_filter_le _ _) (by rw [List.length_map, List.length_take]; omega)
    have hl2 : ((((PS.take i).map (entOf l)).filter fun x => !liveE x).map (·.p)).length ≤ 80 := by rw [List.length_map]; exact Nat.le_trans (List.length_filter_le _ _) (by rw [List.length_map, List.length_take]; omega)
    obtain ⟨F, hF⟩ : ∃ F, ((PS.take i).map (entOf l)).filter liveE = F := ⟨_, rfl⟩
    obtain ⟨L, hL⟩ : ∃ L, (((PS.take i).map (entOf l)).filter fun x => !liveE x).map (·.p) = L := ⟨_, rfl⟩
    rw [hF] at ht1 hl1 ⊢
    rw [hL] at ht2 hl2 ⊢
    clear hF hL
    obtain ⟨z, hz⟩ : ∃ z, entOf l PS[i] = z := ⟨_, rfl⟩
    rw [hz] at hone ht1 ht2
    clear hz
    obtain ⟨b, hb⟩ : ∃ b, liveE z = b := ⟨_, rfl⟩
    rw [hb] at hone ht1 ht2
    clear hb
    have hw := win_flat0 pfxD_len PS i 2 hiP (by decide)
    obtain ⟨⟨za, zb⟩, zx, zh⟩ := z
    cases b with
    | true =>
      rw [if_pos rfl] at ht1
      rw [if_pos rfl, List.append_nil] at ht2
      repeat (first | refine q_Z ?_ | refine R_quiet rfl mixed (by kernel_rfl) ?_ | ((first | apply O_y rfl rfl rfl | apply Q_y rfl rfl rfl); (first | exact q_A | exact R_loadi tabOk rfl rfl rfl rfl hw rfl rfl | exact q_B)) | refine q_d ?_ | refine q_a ?_ | refine q_b ?_ | refine q_c ?_ | refine A_ct rfl ?_ | refine A_cf rfl ?_ | refine q_W ?_ | (first | refine O_c rfl rfl rfl rfl rfl hone (fun _ => rfl) ?_ | (first | refine O_appR tabOk rfl rfl rfl rfl rfl rfl rfl rfl rfl rfl rfl (by first | exact Src.row rfl | exact Src.dat _ _ | exact Src.nil) rfl (by omega) ?_ | refine O_appN tabOk rfl rfl rfl rfl rfl rfl rfl rfl rfl rfl (by first | exact Src.row rfl | exact Src.dat _ _ | exact Src.nil) rfl (by omega) ?_)))
      exact ⟨i + 1, by omega, by omega, by rw [ht1, ht2]; exact Wk_sel ⟨rfl, rfl, rfl, rfl, rfl, trivial⟩ ⟨row_eq (by simp) (by simp [entD]) rfl, rfl, trivial⟩⟩
    | false =>
      rw [if_neg (by simp), List.append_nil] at ht1
      rw [if_neg (by simp)] at ht2
      repeat (first | refine q_Z ?_ | refine R_quiet rfl mixed (by kernel_rfl) ?_ | ((first | apply O_y rfl rfl rfl | apply Q_y rfl rfl rfl); (first | exact q_A | exact R_loadi tabOk rfl rfl rfl rfl hw rfl rfl | exact q_B)) | refine q_d ?_ | refine q_a ?_ | refine q_b ?_ | refine q_c ?_ | refine A_ct rfl ?_ | refine A_cf rfl ?_ | refine q_W ?_ | (first | refine O_c rfl rfl rfl rfl rfl hone (fun _ => rfl) ?_ | (first | refine O_appR tabOk rfl rfl rfl rfl rfl rfl rfl rfl rfl rfl rfl (by first | exact Src.row rfl | exact Src.dat _ _ | exact Src.nil) rfl (by omega) ?_ | refine O_appN tabOk rfl rfl rfl rfl rfl rfl rfl rfl rfl rfl (by first | exact Src.row rfl | exact Src.dat _ _ | exact Src.nil) rfl (by omega) ?_)))
      exact ⟨i + 1, by omega, by omega, by rw [ht1, ht2]; exact Wk_sel ⟨rfl, rfl, rfl, rfl, rfl, trivial⟩ ⟨rfl, row_eq (by simp) (by simp [pfxD]) rfl, trivial⟩⟩
  · obtain rfl : i = PS.length := by omega
    rw [List.take_length]
    repeat (first | refine q_Z ?_ | refine R_quiet rfl mixed (by kernel_rfl) ?_ | ((first | apply O_y rfl rfl rfl | apply Q_y rfl rfl rfl); (first | exact q_A | exact q_5 | exact q_B)) | refine q_d ?_ | refine q_a ?_ | refine q_b ?_ | refine q_c ?_ | refine A_ct rfl ?_ | refine A_cf rfl ?_ | refine q_W ?_)
    exact X_retW ((Wk_freeze (id := 4) rfl).trans (Wk_freeze (id := 5) rfl)) rfl (h2 := []) trivial ⟨rfl, rfl⟩
set_option maxHeartbeats 16000000 in
theorem hops_A (L M : List Hp) (hn : L.length ≤ 1000000) : ACall Tryz.prog 26 [hopsA L, hopsA M] [] (Just (boolA (decide (L = M)))) := by
  refine ACall_of tabOk Tryz.func26 rfl Tryz.ntmps26 (congrArg Array.toList Tryz.results26) (by kernel_rfl) rfl ?_
  by_cases hl : L.length = M.length
  ·
    repeat (first | refine q_Z ?_ | refine R_quiet rfl mixed (by kernel_rfl) ?_ | ((first | apply O_y rfl rfl rfl | apply Q_y rfl rfl rfl); (first | exact q_A | exact q_5 | exact q_B)) | refine q_d ?_ | refine q_a ?_ | refine q_b ?_ | refine q_c ?_ | refine A_ct rfl ?_ | refine A_cf rfl ?_ | refine q_W ?_)
    refine A_loop (fun k : Nat => [(0, hopsA L), (1, hopsA M), (5, intA (k : Int))]) (fun _ => []) (fun k => k ≤ L.length ∧ L.take k = M.take k) (fun k => L.length - k) 0 ⟨Nat.zero_le _, rfl⟩ (Wk_sel ⟨rfl, rfl, rfl, trivial⟩ trivial) ?_
    rintro k ⟨hk, he⟩
    dsimp only
    by_cases hlt : k < L.length
    · have hlm : k < M.length := by omega
      have hw0 := fun o h => win_flat hopD_len L k o 1 hlt h
      by_cases hi : L[k].i = M[k].i
      · by_cases hh : L[k].h = M[k].h
        · have hx : L[k] = M[k] := by
            obtain ⟨a, ha⟩ : ∃ a, L[k] = a := ⟨_, rfl⟩
            obtain ⟨b, hb⟩ : ∃ b, M[k] = b := ⟨_, rfl⟩
            rw [ha, hb] at hi hh ⊢
            obtain ⟨a1, a2⟩ := a
            obtain ⟨b1, b2⟩ := b
            simp only at hi hh
            rw [hi, hh]
          repeat (first | refine q_Z ?_ | refine R_quiet rfl mixed (by kernel_rfl) ?_ | ((first | apply O_y rfl rfl rfl | apply Q_y rfl rfl rfl); (first | exact q_A | exact R_loadi tabOk rfl rfl rfl rfl (by first | exact win_flat0 hopD_len L k _ hlt (by decide) | exact win_flat hopD_len L k _ _ hlt (by decide) | exact win_flat2 hopD_len L k _ _ _ hlt (by decide) | rfl) rfl rfl | exact q_B | (first | exact R_loadi tabOk rfl rfl rfl rfl (by first | exact win_flat0 hopD_len M k _ hlm (by decide) | exact win_flat hopD_len M k _ _ hlm (by decide) | exact win_flat2 hopD_len M k _ _ _ hlm (by decide) | rfl) rfl rfl | exact R_sF rfl rfl rfl rfl (by simp [hi])))) | refine q_d ?_ | refine q_a ?_ | refine q_b ?_ | refine q_c ?_ | refine A_ct rfl ?_ | refine A_cf rfl ?_ | refine q_W ?_)
          exact ⟨k + 1, ⟨by omega, by rw [List.take_succ_eq_append_getElem hlt, List.take_succ_eq_append_getElem hlm, he, hx]⟩, by omega, Wk_sel ⟨rfl, rfl, rfl, trivial⟩ trivial⟩
        · have hne : ¬ L = M := fun h => hh (by subst h; rfl)
          rw [show decide (L = M) = false by simpa using hne]
          repeat (first | refine q_Z ?_ | refine R_quiet rfl mixed (by kernel_rfl) ?_ | ((first | apply O_y rfl rfl rfl | apply Q_y rfl rfl rfl); (first | exact q_A | exact R_loadi tabOk rfl rfl rfl rfl (by first | exact win_flat0 hopD_len L k _ hlt (by decide) | exact win_flat hopD_len L k _ _ hlt (by decide) | exact win_flat2 hopD_len L k _ _ _ hlt (by decide) | rfl) rfl rfl | exact q_B | (first | exact R_loadi tabOk rfl rfl rfl rfl (by first | exact win_flat0 hopD_len M k _ hlm (by decide) | exact win_flat hopD_len M k _ _ hlm (by decide) | exact win_flat2 hopD_len M k _ _ _ hlm (by decide) | rfl) rfl rfl | exact R_sF rfl rfl rfl rfl (by simp [hi])))) | refine q_d ?_ | refine q_a ?_ | refine q_b ?_ | refine q_c ?_ | refine A_ct rfl ?_ | refine A_cf rfl ?_ | refine q_W ?_)
          exact X_ret rfl ⟨rfl, rfl⟩
      · have hne : ¬ L = M := fun h => hi (by subst h; rfl)
        rw [show decide (L = M) = false by simpa using hne]
        repeat (first | refine q_Z ?_ | refine R_quiet rfl mixed (by kernel_rfl) ?_ | ((first | apply O_y rfl rfl rfl | apply Q_y rfl rfl rfl); (first | exact q_A | exact R_loadi tabOk rfl rfl rfl rfl (by first | exact win_flat0 hopD_len L k _ hlt (by decide) | exact win_flat hopD_len L k _ _ hlt (by decide) | exact win_flat2 hopD_len L k _ _ _ hlt (by decide) | rfl) rfl rfl | exact q_B | (first | exact R_loadi tabOk rfl rfl rfl rfl (by first | exact win_flat0 hopD_len M k _ hlm (by decide) | exact win_flat hopD_len M k _ _ hlm (by decide) | exact win_flat2 hopD_len M k _ _ _ hlm (by decide) | rfl) rfl rfl | exact R_sT rfl rfl rfl rfl (by simp [hi])))) | refine q_d ?_ | refine q_a ?_ | refine q_b ?_ | refine q_c ?_ | refine A_ct rfl ?_ | refine A_cf rfl ?_ | refine q_W ?_)
        exact X_ret rfl ⟨rfl, rfl⟩
    · have hkk : k = L.length := by omega
      subst hkk
      rw [List.take_length, hl, List.take_length] at he
      rw [show decide (L = M) = true by simpa using he]
      repeat (first | refine q_Z ?_ | refine R_quiet rfl mixed (by kernel_rfl) ?_ | ((first | apply O_y rfl rfl rfl | apply Q_y rfl rfl rfl); (first | exact q_A | exact q_5 | exact q_B)) | refine q_d ?_ | refine q_a ?_ | refine q_b ?_ | refine q_c ?_ | refine A_ct rfl ?_ | refine A_cf rfl ?_ | refine q_W ?_)
      exact X_ret rfl ⟨rfl, rfl⟩
  · rw [show decide (L = M) = false by simpa using fun h => hl (by rw [h])]
    repeat (first | refine q_Z ?_ | refine R_quiet rfl mixed (by kernel_rfl) ?_ | ((first | apply O_y rfl rfl rfl | apply Q_y rfl rfl rfl); (first | exact q_A | exact q_5 | exact q_B)) | refine q_d ?_ | refine q_a ?_ | refine q_b ?_ | refine q_c ?_ | refine A_ct rfl ?_ | refine A_cf rfl ?_ | refine q_W ?_)
    exact X_ret rfl ⟨rfl, rfl⟩
set_option maxHeartbeats 8000000 in
theorem one22_A (x : Ent) (hn : x.hs.length ≤ 1000000) : ACall Tryz.prog 14 [entA x, entA x] [] (Just (boolA true)) := by
  have hh := hops_A x.hs x.hs hn
  rw [show decide (x.hs = x.hs) = true by simp] at hh
  obtain ⟨⟨pa, pb⟩, xx, hs⟩ := x
  have hpe := pfxEq ⟨pa, pb⟩ ⟨pa, pb⟩
  rw [show ((⟨pa, pb⟩ : Pfx) == ⟨pa, pb⟩) = true by simp] at hpe
  cases xx with
  | true =>
    refine ACall_of tabOk Tryz.func14 rfl Tryz.ntmps14 (congrArg Array.toList Tryz.results14) (by kernel_rfl) rfl ?_
    repeat (first | refine q_Z ?_ | refine R_quiet rfl mixed (by kernel_rfl) ?_ | ((first | apply O_y rfl rfl rfl | apply Q_y rfl rfl rfl); (first | exact q_A | exact q_5 | exact q_B | (first | (first | exact q_25 | exact q_26 | exact q_20 | exact Y_bbin tabOk rfl rfl rfl rfl rfl) | exact Y_eq tabOk noStand rfl rfl rfl rfl rfl rfl rfl rfl rfl (by kernel_rfl) hpe rfl))) | refine q_d ?_ | refine q_a ?_ | refine q_b ?_ | refine q_c ?_ | refine A_ct rfl ?_ | refine A_cf rfl ?_ | refine q_W ?_ | (first | refine O_c rfl rfl rfl rfl rfl hh (fun _ => rfl) ?_ | refine Q_c rfl rfl rfl rfl rfl hh rfl (fun _ _ _ => val_mk _ _ _ _ _ rfl rfl) ?_))
    exact X_ret rfl ⟨rfl, rfl⟩
  | false =>
    refine ACall_of tabOk Tryz.func14 rfl Tryz.ntmps14 (congrArg Array.toList Tryz.results14) (by kernel_rfl) rfl ?_
    repeat (first | refine q_Z ?_ | refine R_quiet rfl mixed (by kernel_rfl) ?_ | ((first | apply O_y rfl rfl rfl | apply Q_y rfl rfl rfl); (first | exact q_A | exact q_5 | exact q_B | (first | (first | exact q_25 | exact q_26 | exact q_20 | exact Y_bbin tabOk rfl rfl rfl rfl rfl) | exact Y_eq tabOk noStand rfl rfl rfl rfl rfl rfl rfl rfl rfl (by kernel_rfl) hpe rfl))) | refine q_d ?_ | refine q_a ?_ | refine q_b ?_ | refine q_c ?_ | refine A_ct rfl ?_ | refine A_cf rfl ?_ | refine q_W ?_ | (first | refine O_c rfl rfl rfl rfl rfl hh (fun _ => rfl) ?_ | refine Q_c rfl rfl rfl rfl rfl hh rfl (fun _ _ _ => val_mk _ _ _ _ _ rfl rfl) ?_))
    exact X_ret rfl ⟨rfl, rfl⟩
set_option maxHeartbeats 8000000 in
theorem entries22_A (E : List Ent) (hn : E.length ≤ 1000000) (hb : ∀ y ∈ E, y.hs.length ≤ 1000000) : ACall Tryz.prog 8 [entsA E, entsA E] [] (Just (boolA true)) := by
  refine ACall_of tabOk Tryz.func8 rfl Tryz.ntmps8 (congrArg Array.toList Tryz.results8) (by kernel_rfl) rfl ?_
  repeat (first | refine q_Z ?_ | refine R_quiet rfl mixed (by kernel_rfl) ?_ | ((first | apply O_y rfl rfl rfl | apply Q_y rfl rfl rfl); (first | exact q_A | exact q_5 | exact q_B | (first | exact q_25 | exact q_26 | exact q_20 | exact Y_bbin tabOk rfl rfl rfl rfl rfl))) | refine q_d ?_ | refine q_a ?_ | refine q_b ?_ | refine q_c ?_ | refine A_ct rfl ?_ | refine A_cf rfl ?_ | refine q_W ?_)
  refine A_loop (fun i : Nat => [(0, entsA E), (1, entsA E), (5, intA (i : Int))]) (fun _ => []) (fun i => i ≤ E.length) (fun i => E.length - i) 0 (Nat.zero_le _) (Wk_sel ⟨rfl, rfl, rfl, trivial⟩ trivial) ?_
  intro i hi
  try dsimp only
  by_cases hiE : i < E.length
  · have h1 := one22_A E[i] (hb _ (List.getElem_mem hiE))
    have hw := win_flat0 entD_len E i 4 hiE (by decide)
    repeat (first | refine q_Z ?_ | refine R_quiet rfl mixed (by kernel_rfl) ?_ | ((first | apply O_y rfl rfl rfl | apply Q_y rfl rfl rfl); (first | exact q_A | exact R_loadi tabOk rfl rfl rfl rfl hw rfl rfl | exact q_B | (first | exact q_25 | exact q_26 | exact q_20 | exact Y_bbin tabOk rfl rfl rfl rfl rfl))) | refine q_d ?_ | refine q_a ?_ | refine q_b ?_ | refine q_c ?_ | refine A_ct rfl ?_ | refine A_cf rfl ?_ | refine q_W ?_ | (first | refine O_c rfl rfl rfl rfl rfl h1 (fun _ => rfl) ?_ | refine Q_c rfl rfl rfl rfl rfl h1 rfl (fun _ _ _ => val_mk _ _ _ _ _ rfl rfl) ?_))
    exact ⟨i + 1, by omega, by omega, Wk_sel ⟨rfl, rfl, rfl, trivial⟩ trivial⟩
  · obtain rfl : i = E.length := by omega
    repeat (first | refine q_Z ?_ | refine R_quiet rfl mixed (by kernel_rfl) ?_ | ((first | apply O_y rfl rfl rfl | apply Q_y rfl rfl rfl); (first | exact q_A | exact q_5 | exact q_B | (first | exact q_25 | exact q_26 | exact q_20 | exact Y_bbin tabOk rfl rfl rfl rfl rfl))) | refine q_d ?_ | refine q_a ?_ | refine q_b ?_ | refine q_c ?_ | refine A_ct rfl ?_ | refine A_cf rfl ?_ | refine q_W ?_)
    exact X_ret rfl ⟨rfl, rfl⟩
end Go.Proofs.YtenolkolkpfjgaaGreat.Ab

namespace Go.Proofs.YtenolkolkpfjgaaGreat.Ab
set_option linter.unusedVariables false
set_option maxRecDepth 100000
open Go.RowKit Go.Lib
set_option linter.unusedSimpArgs false
attribute [local irreducible] AWp AOps AQ AYield AEff ACall AWk AAny AAt AThen AIn APost NoPanic
set_option maxHeartbeats 4000000 in
theorem pfxsSame_A (l : List Pfx) (hn : l.length ≤ 140737488355328) : ACall Tryz.prog 9 [pfxsA l, pfxsA l] [] (Just (boolA true)) := by
  refine ACall_of tabOk Tryz.func9 rfl Tryz.ntmps9 (congrArg Array.toList Tryz.results9) (by kernel_rfl) rfl ?_
  repeat (first | refine q_Z ?_ | refine R_quiet rfl mixed (by kernel_rfl) ?_ | ((first | apply O_y rfl rfl rfl | apply Q_y rfl rfl rfl); (first | exact q_A | exact q_5 | exact q_B)) | refine q_d ?_ | refine q_a ?_ | refine q_b ?_ | refine q_c ?_ | refine A_ct rfl ?_ | refine A_cf rfl ?_ | refine q_W ?_)
  refine A_loop (fun k : Nat => [(0, pfxsA l), (1, pfxsA l), (5, intA (k : Int))]) (fun _ => []) (fun k => k ≤ l.length) (fun k => l.length - k) 0 (Nat.zero_le _) (Wk_sel ⟨rfl, rfl, rfl, trivial⟩ trivial) ?_
  intro k hkl
  try dsimp only
  by_cases hk : k < l.length
  ·
    repeat (first | refine q_Z ?_ | refine R_quiet rfl mixed (by kernel_rfl) ?_ | ((first | apply O_y rfl rfl rfl | apply Q_y rfl rfl rfl); (first | exact q_A | exact R_loadi tabOk rfl rfl rfl rfl (by first | exact win_flat0 pfxD_len l k _ hk (by decide) | exact win_flat pfxD_len l k _ _ hk (by decide) | exact win_flat2 pfxD_len l k _ _ _ hk (by decide) | rfl) rfl rfl | exact q_B | (first | exact q_26))) | refine q_d ?_ | refine q_a ?_ | refine q_b ?_ | refine q_c ?_ | refine A_ct rfl ?_ | refine A_cf rfl ?_ | refine q_W ?_)
    exact ⟨k + 1, by omega, by omega, Wk_sel ⟨rfl, rfl, rfl, trivial⟩ trivial⟩
  · obtain rfl : k = l.length := by omega
    repeat (first | refine q_Z ?_ | refine R_quiet rfl mixed (by kernel_rfl) ?_ | ((first | apply O_y rfl rfl rfl | apply Q_y rfl rfl rfl); (first | exact q_A | exact q_5 | exact q_B)) | refine q_d ?_ | refine q_a ?_ | refine q_b ?_ | refine q_c ?_ | refine A_ct rfl ?_ | refine A_cf rfl ?_ | refine q_W ?_)
    exact X_ret rfl ⟨rfl, rfl⟩
end Go.Proofs.YtenolkolkpfjgaaGreat.Ab

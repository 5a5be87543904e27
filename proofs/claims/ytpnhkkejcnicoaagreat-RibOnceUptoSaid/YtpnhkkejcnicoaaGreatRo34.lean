/-
  Texts of a proof, one behind the other (part 35).
-/
import Derived.Test.YtpnhkkejcnicoaaGreatRo6
import Derived.Test.YtpnhkkejcnicoaaGreatRo12
import Derived.Test.YtpnhkkejcnicoaaGreatRo27
import Derived.Test.YtpnhkkejcnicoaaGreatRo28
import Derived.Test.YtpnhkkejcnicoaaGreatRo33
set_option linter.unusedVariables false
set_option linter.unusedSimpArgs false
namespace Go.Proofs.YtpnhkkejcnicoaaGreat.Ab
set_option linter.unusedVariables false
set_option maxRecDepth 100000
open Go.RowKit Go.Lib
set_option linter.unusedSimpArgs false
attribute [local irreducible] AWp AOps AQ AYield AEff ACall AWk AAny AAt AThen AIn APost NoPanic
set_option maxHeartbeats 8000000 in
theorem comes_A (r : Rte) (fr : Int) (hf : 0 ≤ r.f ∧ r.f < 256) : ACall Tryz.prog 14 [rteA r, .d (.sc (.int .u8 fr))] [] (Just (boolA (comesB r.f fr))) := by
  obtain ⟨p, f, d, m, t, i, h, x⟩ := r
  dsimp only at hf ⊢
  unfold comesB
  refine ACall_of tabOk Tryz.func14 rfl Tryz.ntmps14 (congrArg Array.toList Tryz.results14) (by kernel_rfl) rfl ?_
  by_cases h1 : f = 1
  · rw [if_pos h1]
    obtain ⟨v, hv⟩ : ∃ v, andC fr 1 = v := ⟨_, rfl⟩
    rw [hv]
    by_cases hz : v = 0
    · rw [decide_eq_false (fun h => h hz)]
      repeat ((fail_if_success (refine stopL ?_)); first | refine q_Z ?_ | refine R_quiet rfl mixed (by kernel_rfl) ?_ | ((first | apply O_y rfl rfl rfl | apply Q_y rfl rfl rfl); (first | exact R_addN rfl rfl rfl | exact R_subN rfl rfl rfl | (first | exact q_A | exact q_5 | exact q_B | (exact R_and8 rfl rfl rfl hv)))) | refine q_d ?_ | refine q_a ?_ | refine q_b ?_ | refine q_c ?_ | refine A_ct rfl ?_ | refine A_cf rfl ?_ | refine q_W ?_)
      exact X_ret rfl ⟨rfl, rfl⟩
    · rw [decide_eq_true hz]
      repeat ((fail_if_success (refine stopL ?_)); first | refine q_Z ?_ | refine R_quiet rfl mixed (by kernel_rfl) ?_ | ((first | apply O_y rfl rfl rfl | apply Q_y rfl rfl rfl); (first | exact R_addN rfl rfl rfl | exact R_subN rfl rfl rfl | (first | exact q_A | exact q_5 | exact q_B | (exact R_and8 rfl rfl rfl hv)))) | refine q_d ?_ | refine q_a ?_ | refine q_b ?_ | refine q_c ?_ | refine A_ct rfl ?_ | refine A_cf rfl ?_ | refine q_W ?_)
      exact X_ret rfl ⟨rfl, rfl⟩
  rw [if_neg h1]
  by_cases h2 : f = 2
  · rw [if_pos h2]
    obtain ⟨v, hv⟩ : ∃ v, andC fr 2 = v := ⟨_, rfl⟩
    rw [hv]
    by_cases hz : v = 0
    · rw [decide_eq_false (fun h => h hz)]
      repeat ((fail_if_success (refine stopL ?_)); first | refine q_Z ?_ | refine R_quiet rfl mixed (by kernel_rfl) ?_ | ((first | apply O_y rfl rfl rfl | apply Q_y rfl rfl rfl); (first | exact R_addN rfl rfl rfl | exact R_subN rfl rfl rfl | (first | exact q_A | exact q_5 | exact q_B | (exact R_and8 rfl rfl rfl hv)))) | refine q_d ?_ | refine q_a ?_ | refine q_b ?_ | refine q_c ?_ | refine A_ct rfl ?_ | refine A_cf rfl ?_ | refine q_W ?_)
      exact X_ret rfl ⟨rfl, rfl⟩
    · rw [decide_eq_true hz]
      repeat ((fail_if_success (refine stopL ?_)); first | refine q_Z ?_ | refine R_quiet rfl mixed (by kernel_rfl) ?_ | ((first | apply O_y rfl rfl rfl | apply Q_y rfl rfl rfl); (first | exact R_addN rfl rfl rfl | exact R_subN rfl rfl rfl | (first | exact q_A | exact q_5 | exact q_B | (exact R_and8 rfl rfl rfl hv)))) | refine q_d ?_ | refine q_a ?_ | refine q_b ?_ | refine q_c ?_ | refine A_ct rfl ?_ | refine A_cf rfl ?_ | refine q_W ?_)
      exact X_ret rfl ⟨rfl, rfl⟩
  rw [if_neg h2]
  by_cases h3 : 3 ≤ f ∧ f ≤ 6
  · rw [if_pos h3]
    obtain ⟨v, hv⟩ : ∃ v, andC fr 4 = v := ⟨_, rfl⟩
    rw [hv]
    have h5 : f = 3 ∨ f = 4 ∨ f = 5 ∨ f = 6 := by omega
    rcases h5 with h5 | h5 | h5 | h5
    ·
      by_cases hz : v = 0
      · rw [decide_eq_false (fun h => h hz)]
        repeat ((fail_if_success (refine stopL ?_)); first | refine q_Z ?_ | refine R_quiet rfl mixed (by kernel_rfl) ?_ | ((first | apply O_y rfl rfl rfl | apply Q_y rfl rfl rfl); (first | exact R_addN rfl rfl rfl | exact R_subN rfl rfl rfl | (first | exact q_A | exact q_5 | exact q_B | (exact R_and8 rfl rfl rfl hv)))) | refine q_d ?_ | refine q_a ?_ | refine q_b ?_ | refine q_c ?_ | refine A_ct rfl ?_ | refine A_cf rfl ?_ | refine q_W ?_)
        exact X_ret rfl ⟨rfl, rfl⟩
      · rw [decide_eq_true hz]
        repeat ((fail_if_success (refine stopL ?_)); first | refine q_Z ?_ | refine R_quiet rfl mixed (by kernel_rfl) ?_ | ((first | apply O_y rfl rfl rfl | apply Q_y rfl rfl rfl); (first | exact R_addN rfl rfl rfl | exact R_subN rfl rfl rfl | (first | exact q_A | exact q_5 | exact q_B | (exact R_and8 rfl rfl rfl hv)))) | refine q_d ?_ | refine q_a ?_ | refine q_b ?_ | refine q_c ?_ | refine A_ct rfl ?_ | refine A_cf rfl ?_ | refine q_W ?_)
        exact X_ret rfl ⟨rfl, rfl⟩
    ·
      by_cases hz : v = 0
      · rw [decide_eq_false (fun h => h hz)]
        repeat ((fail_if_success (refine stopL ?_)); first | refine q_Z ?_ | refine R_quiet rfl mixed (by kernel_rfl) ?_ | ((first | apply O_y rfl rfl rfl | apply Q_y rfl rfl rfl); (first | exact R_addN rfl rfl rfl | exact R_subN rfl rfl rfl | (first | exact q_A | exact q_5 | exact q_B | (exact R_and8 rfl rfl rfl hv)))) | refine q_d ?_ | refine q_a ?_ | refine q_b ?_ | refine q_c ?_ | refine A_ct rfl ?_ | refine A_cf rfl ?_ | refine q_W ?_)
        exact X_ret rfl ⟨rfl, rfl⟩
      · rw [decide_eq_true hz]
        repeat ((fail_if_success (refine stopL ?_)); first | refine q_Z ?_ | refine R_quiet rfl mixed (by kernel_rfl) ?_ | ((first | apply O_y rfl rfl rfl | apply Q_y rfl rfl rfl); (first | exact R_addN rfl rfl rfl | exact R_subN rfl rfl rfl | (first | exact q_A | exact q_5 | exact q_B | (exact R_and8 rfl rfl rfl hv)))) | refine q_d ?_ | refine q_a ?_ | refine q_b ?_ | refine q_c ?_ | refine A_ct rfl ?_ | refine A_cf rfl ?_ | refine q_W ?_)
        exact X_ret rfl ⟨rfl, rfl⟩
    ·
      by_cases hz : v = 0
      · rw [decide_eq_false (fun h => h hz)]
        repeat ((fail_if_success (refine stopL ?_)); first | refine q_Z ?_ | refine R_quiet rfl mixed (by kernel_rfl) ?_ | ((first | apply O_y rfl rfl rfl | apply Q_y rfl rfl rfl); (first | exact R_addN rfl rfl rfl | exact R_subN rfl rfl rfl | (first | exact q_A | exact q_5 | exact q_B | (exact R_and8 rfl rfl rfl hv)))) | refine q_d ?_ | refine q_a ?_ | refine q_b ?_ | refine q_c ?_ | refine A_ct rfl ?_ | refine A_cf rfl ?_ | refine q_W ?_)
        exact X_ret rfl ⟨rfl, rfl⟩
      · rw [decide_eq_true hz]
        repeat ((fail_if_success (refine stopL ?_)); first | refine q_Z ?_ | refine R_quiet rfl mixed (by kernel_rfl) ?_ | ((first | apply O_y rfl rfl rfl | apply Q_y rfl rfl rfl); (first | exact R_addN rfl rfl rfl | exact R_subN rfl rfl rfl | (first | exact q_A | exact q_5 | exact q_B | (exact R_and8 rfl rfl rfl hv)))) | refine q_d ?_ | refine q_a ?_ | refine q_b ?_ | refine q_c ?_ | refine A_ct rfl ?_ | refine A_cf rfl ?_ | refine q_W ?_)
        exact X_ret rfl ⟨rfl, rfl⟩
    ·
      by_cases hz : v = 0
      · rw [decide_eq_false (fun h => h hz)]
        repeat ((fail_if_success (refine stopL ?_)); first | refine q_Z ?_ | refine R_quiet rfl mixed (by kernel_rfl) ?_ | ((first | apply O_y rfl rfl rfl | apply Q_y rfl rfl rfl); (first | exact R_addN rfl rfl rfl | exact R_subN rfl rfl rfl | (first | exact q_A | exact q_5 | exact q_B | (exact R_and8 rfl rfl rfl hv)))) | refine q_d ?_ | refine q_a ?_ | refine q_b ?_ | refine q_c ?_ | refine A_ct rfl ?_ | refine A_cf rfl ?_ | refine q_W ?_)
        exact X_ret rfl ⟨rfl, rfl⟩
      · rw [decide_eq_true hz]
        repeat ((fail_if_success (refine stopL ?_)); first | refine q_Z ?_ | refine R_quiet rfl mixed (by kernel_rfl) ?_ | ((first | apply O_y rfl rfl rfl | apply Q_y rfl rfl rfl); (first | exact R_addN rfl rfl rfl | exact R_subN rfl rfl rfl | (first | exact q_A | exact q_5 | exact q_B | (exact R_and8 rfl rfl rfl hv)))) | refine q_d ?_ | refine q_a ?_ | refine q_b ?_ | refine q_c ?_ | refine A_ct rfl ?_ | refine A_cf rfl ?_ | refine q_W ?_)
        exact X_ret rfl ⟨rfl, rfl⟩
  rw [if_neg h3]
  by_cases h4 : f = 7 ∨ f = 8
  · rw [if_pos h4]
    obtain ⟨v, hv⟩ : ∃ v, andC fr 8 = v := ⟨_, rfl⟩
    rw [hv]
    rcases h4 with h4 | h4
    ·
      by_cases hz : v = 0
      · rw [decide_eq_false (fun h => h hz)]
        repeat ((fail_if_success (refine stopL ?_)); first | refine q_Z ?_ | refine R_quiet rfl mixed (by kernel_rfl) ?_ | ((first | apply O_y rfl rfl rfl | apply Q_y rfl rfl rfl); (first | exact R_addN rfl rfl rfl | exact R_subN rfl rfl rfl | (first | exact q_A | exact q_5 | exact q_B | (exact R_and8 rfl rfl rfl hv)))) | refine q_d ?_ | refine q_a ?_ | refine q_b ?_ | refine q_c ?_ | refine A_ct rfl ?_ | refine A_cf rfl ?_ | refine q_W ?_)
        exact X_ret rfl ⟨rfl, rfl⟩
      · rw [decide_eq_true hz]
        repeat ((fail_if_success (refine stopL ?_)); first | refine q_Z ?_ | refine R_quiet rfl mixed (by kernel_rfl) ?_ | ((first | apply O_y rfl rfl rfl | apply Q_y rfl rfl rfl); (first | exact R_addN rfl rfl rfl | exact R_subN rfl rfl rfl | (first | exact q_A | exact q_5 | exact q_B | (exact R_and8 rfl rfl rfl hv)))) | refine q_d ?_ | refine q_a ?_ | refine q_b ?_ | refine q_c ?_ | refine A_ct rfl ?_ | refine A_cf rfl ?_ | refine q_W ?_)
        exact X_ret rfl ⟨rfl, rfl⟩
    ·
      by_cases hz : v = 0
      · rw [decide_eq_false (fun h => h hz)]
        repeat ((fail_if_success (refine stopL ?_)); first | refine q_Z ?_ | refine R_quiet rfl mixed (by kernel_rfl) ?_ | ((first | apply O_y rfl rfl rfl | apply Q_y rfl rfl rfl); (first | exact R_addN rfl rfl rfl | exact R_subN rfl rfl rfl | (first | exact q_A | exact q_5 | exact q_B | (exact R_and8 rfl rfl rfl hv)))) | refine q_d ?_ | refine q_a ?_ | refine q_b ?_ | refine q_c ?_ | refine A_ct rfl ?_ | refine A_cf rfl ?_ | refine q_W ?_)
        exact X_ret rfl ⟨rfl, rfl⟩
      · rw [decide_eq_true hz]
        repeat ((fail_if_success (refine stopL ?_)); first | refine q_Z ?_ | refine R_quiet rfl mixed (by kernel_rfl) ?_ | ((first | apply O_y rfl rfl rfl | apply Q_y rfl rfl rfl); (first | exact R_addN rfl rfl rfl | exact R_subN rfl rfl rfl | (first | exact q_A | exact q_5 | exact q_B | (exact R_and8 rfl rfl rfl hv)))) | refine q_d ?_ | refine q_a ?_ | refine q_b ?_ | refine q_c ?_ | refine A_ct rfl ?_ | refine A_cf rfl ?_ | refine q_W ?_)
        exact X_ret rfl ⟨rfl, rfl⟩
  · rw [if_neg h4]
    by_cases h5 : 3 ≤ f
    ·
      repeat ((fail_if_success (refine stopL ?_)); first | refine q_Z ?_ | refine R_quiet rfl mixed (by kernel_rfl) ?_ | ((first | apply O_y rfl rfl rfl | apply Q_y rfl rfl rfl); (first | exact R_addN rfl rfl rfl | exact R_subN rfl rfl rfl | (first | exact q_A | exact q_5 | exact q_B))) | refine q_d ?_ | refine q_a ?_ | refine q_b ?_ | refine q_c ?_ | refine A_ct rfl ?_ | refine A_cf rfl ?_ | refine q_W ?_)
      exact X_ret rfl ⟨rfl, rfl⟩
    ·
      repeat ((fail_if_success (refine stopL ?_)); first | refine q_Z ?_ | refine R_quiet rfl mixed (by kernel_rfl) ?_ | ((first | apply O_y rfl rfl rfl | apply Q_y rfl rfl rfl); (first | exact R_addN rfl rfl rfl | exact R_subN rfl rfl rfl | (first | exact q_A | exact q_5 | exact q_B))) | refine q_d ?_ | refine q_a ?_ | refine q_b ?_ | refine q_c ?_ | refine A_ct rfl ?_ | refine A_cf rfl ?_ | refine q_W ?_)
      exact X_ret rfl ⟨rfl, rfl⟩
end Go.Proofs.YtpnhkkejcnicoaaGreat.Ab

namespace Go.Proofs.YtpnhkkejcnicoaaGreat
set_option linter.unusedVariables false
open Go.RowKit Go.Lib
def comeV {α : Type} (m : List α) (js : List Nat) : List α := js.filterMap fun j => m[j]?
theorem comeV_snoc {α : Type} (m : List α) (js : List Nat) (j : Nat) (x : α) (h : m[j]? = some x) : comeV m (js ++ [j]) = comeV m js ++ [x] := by
  unfold comeV
  rw [List.filterMap_append]
  congr 1
  simp [h]
theorem comeV_len {α : Type} (m : List α) (js : List Nat) : (comeV m js).length ≤ js.length := List.length_filterMap_le _ _
theorem comeV_all {α : Type} (m : List α) (js : List Nat) (hn : js.Nodup) (hl : ∀ j ∈ js, j < m.length) (ha : ∀ j, j < m.length → j ∈ js) : (comeV m js).Perm m := by
  have hp : js.Perm (List.range m.length) := by
    refine (List.perm_ext_iff_of_nodup hn List.nodup_range).2 fun j => ?_
    rw [List.mem_range]
    exact ⟨hl j, ha j⟩
  have h1 := hp.filterMap fun j => m[j]?
  have h2 : (List.range m.length).filterMap (fun j => m[j]?) = m := by
    clear h1 hp ha hl hn
    have : ∀ (m : List α) (k : Nat) (M : List α), (∀ j, M[k + j]? = m[j]?) → (List.range' k m.length).filterMap (fun j => M[j]?) = m := by
      intro m
      induction m with
      | nil => intro k M _; rfl
      | cons p m ih =>
        intro k M hM
        rw [List.length_cons, List.range'_succ, List.filterMap_cons]
        have h0 := hM 0
        simp at h0
        rw [h0]
        simp only
        rw [ih (k + 1) M fun j => by have := hM (j + 1); rw [show k + 1 + j = k + (j + 1) by omega, this]; simp]
    rw [List.range_eq_range']
    exact this m 0 m fun j => by simp
  rw [h2] at h1
  exact h1
theorem ents_apart {tk : List (Pfx × Tkn)} (h : Ents tk) : (tk.map (·.2)).Pairwise fun x y => x.2.p ≠ y.2.p := by
  rw [List.pairwise_map]
  have h4 : tk.Pairwise fun a b => a.1 ≠ b.1 := List.pairwise_map.1 h.nd
  exact h4.imp_of_mem fun {a b} ha hb hne => by rw [h.key a ha, h.key b hb]; exact hne
theorem apart_perm {L M : List Tkn} (h : L.Perm M) (hM : M.Pairwise fun x y => x.2.p ≠ y.2.p) : L.Pairwise fun x y => x.2.p ≠ y.2.p := h.symm.pairwise hM fun {a b} hne => fun e => hne e.symm
theorem srtT_rising {L : List Tkn} (h : L.Pairwise fun x y => x.2.p ≠ y.2.p) : Rising cmpT (srt cmpT L) := by
  have h1 := srt_pair good_cmpT L
  have h2 : (srt cmpT L).Pairwise fun x y => x.2.p ≠ y.2.p := (List.mergeSort_perm _ _).symm.pairwise h fun {a b} hne => fun e => hne e.symm
  exact h1.and h2 |>.imp fun {x y} ⟨a, b⟩ => by
    rcases Int.lt_or_eq_of_le a with h | h
    · exact h
    · exact absurd (cmpP_zero h) b
theorem srtT_perm {L M : List Tkn} (h : L.Perm M) (hM : M.Pairwise fun x y => x.2.p ≠ y.2.p) : srt cmpT L = srt cmpT M :=
  rising_ext good_cmpT (srtT_rising (apart_perm h hM)) (srtT_rising hM) fun x => by rw [srt_mem, srt_mem]; exact h.mem_iff
theorem apart_idx {L : List Tkn} (h : L.Pairwise fun x y => x.2.p ≠ y.2.p) (i j : Nat) (hi : i < L.length) (hj : j < L.length) (hc : cmpT L[i] L[j] = 0) : i = j := by
  have hp := List.pairwise_iff_getElem.1 h
  have he := cmpP_zero hc
  rcases Nat.lt_trichotomy i j with h1 | h1 | h1
  · exact absurd he (hp i j hi hj h1)
  · exact h1
  · exact absurd he.symm (hp j i hj hi h1)
theorem ents_len {tk : List (Pfx × Tkn)} (h : Ents tk) {rs : List Rte} (hr : ∀ e ∈ tk, ∃ r ∈ rs, r.p = e.1) : tk.length ≤ rs.length := by
  have := h.nd.length_le_of_subset (l₂ := rs.map (·.p)) fun p hp => by
    obtain ⟨e, he, rfl⟩ := List.mem_map.1 hp
    obtain ⟨r, h1, h2⟩ := hr e he
    exact List.mem_map.2 ⟨r, h1, h2⟩
  simpa using this
def lkM (lk : List Pfx) : List (Pfx × Int) := lk.map fun p => (p, 1)
theorem lkM_keys (lk : List Pfx) : (lkM lk).map (·.1) = lk := by unfold lkM; rw [List.map_map]; exact List.map_id lk
theorem lkM_in {lk : List Pfx} (hn : lk.Nodup) {p : Pfx} (h : p ∈ lk) : aget (lkM lk) p = some 1 := aget_of_mem (by rw [lkM_keys]; exact hn) (List.mem_map.2 ⟨p, h, rfl⟩)
theorem lkM_out {lk : List Pfx} {p : Pfx} (h : p ∉ lk) : aget (lkM lk) p = none := by
  cases hg : aget (lkM lk) p with
  | none => rfl
  | some v =>
    have := mem_of_aget hg
    obtain ⟨q, hq, he⟩ := List.mem_map.1 this
    cases he
    exact absurd hq h
theorem lkM_snoc (lk : List Pfx) (p : Pfx) : lkM (lk ++ [p]) = lkM lk ++ [(p, 1)] := by unfold lkM; rw [List.map_append]; rfl
end Go.Proofs.YtpnhkkejcnicoaaGreat

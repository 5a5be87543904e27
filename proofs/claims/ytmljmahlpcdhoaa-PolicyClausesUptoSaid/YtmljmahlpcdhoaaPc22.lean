/-
  Texts of a proof, one behind the other (part 23).
-/
import Derived.Test.YtmljmahlpcdhoaaPc1
import Derived.Test.YtmljmahlpcdhoaaPc2
import Derived.Test.YtmljmahlpcdhoaaPc12
import Derived.Test.YtmljmahlpcdhoaaPc16
import Derived.Test.YtmljmahlpcdhoaaPc17
import Derived.Test.YtmljmahlpcdhoaaPc21
set_option linter.unusedVariables false
set_option linter.unusedSimpArgs false
namespace Go.Proofs.Ytmljmahlpcdhoaa.Ab
set_option linter.unusedVariables false
set_option maxRecDepth 100000
open Go.RowKit Go.Lib
set_option linter.unusedSimpArgs false
attribute [local irreducible] AWp AOps AQ AYield AEff ACall AWk AAny AAt AThen AIn APost NoPanic
set_option maxHeartbeats 8000000 in
theorem rnormal_A (l : List Int) (hn : l.length ≤ 1000000000) : ACall Try.prog 28 [usA l] [] (Just (usA (nrm l))) := by
  have hN := nrm_strict l
  have hNm := nrm_mem l
  have hNl := nrm_len l
  obtain ⟨N, hNe⟩ : ∃ N, nrm l = N := ⟨_, rfl⟩
  rw [hNe] at hN hNm hNl ⊢
  clear hNe
  refine ACall_of tabOk Try.func28 rfl Try.ntmps28 (congrArg Array.toList Try.results28) (by kernel_rfl) rfl ?_
  repeat ((fail_if_success (refine stopL ?_)); first | refine A_seq ?_ | refine A_block ?_ | refine R_list ?_ | refine R_quiet rfl mixed (by kernel_rfl) ?_ | ((first | apply O_y rfl rfl rfl | apply Q_y rfl rfl rfl); (first | exact R_addN rfl rfl rfl | exact R_subN rfl rfl rfl | (first | exact q_A | exact q_5 | exact q_B | fail))) | refine O_nil ?_ | refine Q_nil ?_ | refine q_j ?_ | refine q_k ?_ | refine q_d ?_ | refine q_a ?_ | refine q_b ?_ | refine q_c ?_ | refine A_ct rfl ?_ | refine A_cf rfl ?_ | refine A_skip ?_ | refine A_exit ?_ | refine A_ret ?_ | refine q_l ?_ | refine q_m ?_ | refine q_n ?_ | refine q_h ?_ | refine q_o ?_ | refine q_e ?_ | refine q_f ?_ | refine q_g ?_ | fail)
  refine A_weaken (Wk_nil 43 1 (t := 3) (id := 3) rfl rfl) ?_
  refine A_loop (fun j : Nat => [(0, usA l), (3, .row 3)]) (fun j => [(3, uB (N.take j))]) (fun j => j ≤ N.length) (fun j => N.length - j) 0 (Nat.zero_le _) (Wk_sel ⟨rfl, rfl, trivial⟩ ⟨rfl, trivial⟩) ?_
  intro j hj
  try dsimp only
  obtain ⟨s1, s2⟩ := seek_next hN hNm j hj
  have hol : (N.take j).length ≤ 1000000000 := by rw [List.length_take]; omega
  have hsn : ∀ h : j < N.length, N.take (j + 1) = N.take j ++ [N[j]] := fun h => List.take_succ_eq_append_getElem h
  obtain ⟨out, ho⟩ : ∃ out, N.take j = out := ⟨_, rfl⟩
  rw [ho] at s1 s2 hol hsn ⊢
  repeat ((fail_if_success (refine stopL ?_)); first | refine A_seq ?_ | refine A_block ?_ | refine R_list ?_ | refine R_quiet rfl mixed (by kernel_rfl) ?_ | ((first | apply O_y rfl rfl rfl | apply Q_y rfl rfl rfl); (first | exact R_addN rfl rfl rfl | exact R_subN rfl rfl rfl | (first | exact q_A | exact q_5 | exact q_B | fail))) | refine O_nil ?_ | refine Q_nil ?_ | refine q_j ?_ | refine q_k ?_ | refine q_d ?_ | refine q_a ?_ | refine q_b ?_ | refine q_c ?_ | refine A_ct rfl ?_ | refine A_cf rfl ?_ | refine A_skip ?_ | refine A_exit ?_ | refine A_ret ?_ | refine q_l ?_ | refine q_m ?_ | refine q_n ?_ | refine q_h ?_ | refine q_o ?_ | refine q_e ?_ | refine q_f ?_ | refine q_g ?_ | fail)
  try refine A_block ?_
  refine A_loop (fun x : Nat × Bool × Int => [(0, usA l), (3, .row 3), (4, boolA x.2.1), (5, u32A x.2.2), (6, natA x.1)]) (fun _ => [(3, uB out)]) (fun x => x.1 ≤ l.length ∧ x.2 = seekL out (l.take x.1) (false, 0)) (fun x => l.length - x.1) (0, false, 0) ⟨Nat.zero_le _, rfl⟩ (Wk_sel ⟨rfl, rfl, rfl, rfl, rfl, trivial⟩ ⟨rfl, trivial⟩) ?_
  rintro ⟨i, f, m⟩ ⟨hi, hx⟩
  try dsimp only at hi hx ⊢
  by_cases hil : i < l.length
  · have hw := win_flat0 u1D_len l i 1 hil (by decide)
    have hh := rhas_A out l[i] hol
    have hs := seek_snoc out l[i] (l.take i) (false, 0)
    rw [← List.take_succ_eq_append_getElem hil, ← hx] at hs
    dsimp only at hs
    obtain ⟨r, hr⟩ : ∃ r, (out.any fun d => d == l[i]) = r := ⟨_, rfl⟩
    rw [hr] at hh hs
    have key : ∀ y : Bool × Int, y = (if r = false ∧ (f = false ∨ l[i] < m) then (true, l[i]) else (f, m)) → y = seekL out (l.take (i + 1)) (false, 0) := fun y h => by rw [hs, h]
    obtain ⟨c, hc⟩ : ∃ c, l[i] = c := ⟨_, rfl⟩
    rw [hc] at hw hh key
    clear hs hr hc
    cases r with
    | true =>
      repeat ((fail_if_success (refine stopL ?_)); first | refine A_seq ?_ | refine A_block ?_ | refine R_list ?_ | refine R_quiet rfl mixed (by kernel_rfl) ?_ | ((first | apply O_y rfl rfl rfl | apply Q_y rfl rfl rfl); (first | exact R_addN rfl rfl rfl | exact R_subN rfl rfl rfl | (first | exact q_A | exact R_loadi tabOk rfl rfl rfl rfl hw rfl rfl | exact q_B | fail))) | refine O_nil ?_ | refine Q_nil ?_ | refine q_j ?_ | refine q_k ?_ | refine q_d ?_ | refine q_a ?_ | refine q_b ?_ | refine q_c ?_ | refine A_ct rfl ?_ | refine A_cf rfl ?_ | refine A_skip ?_ | refine A_exit ?_ | refine A_ret ?_ | refine q_l ?_ | refine q_m ?_ | refine q_n ?_ | refine q_h ?_ | refine q_o ?_ | refine q_e ?_ | refine q_f ?_ | refine q_g ?_ | (refine O_cL rfl rfl rfl rfl rfl hh rfl (fun _ _ _ => val_mk _ _ _ _ _ rfl rfl) ?_))
      exact ⟨(i + 1, f, m), ⟨hil, key (f, m) (by rw [if_neg (by simp)])⟩, by (try dsimp only); omega, Wk_sel ⟨rfl, rfl, rfl, rfl, rfl, trivial⟩ ⟨rfl, trivial⟩⟩
    | false =>
      cases f with
      | false =>
        repeat ((fail_if_success (refine stopL ?_)); first | refine A_seq ?_ | refine A_block ?_ | refine R_list ?_ | refine R_quiet rfl mixed (by kernel_rfl) ?_ | ((first | apply O_y rfl rfl rfl | apply Q_y rfl rfl rfl); (first | exact R_addN rfl rfl rfl | exact R_subN rfl rfl rfl | (first | exact q_A | exact R_loadi tabOk rfl rfl rfl rfl hw rfl rfl | exact q_B | fail))) | refine O_nil ?_ | refine Q_nil ?_ | refine q_j ?_ | refine q_k ?_ | refine q_d ?_ | refine q_a ?_ | refine q_b ?_ | refine q_c ?_ | refine A_ct rfl ?_ | refine A_cf rfl ?_ | refine A_skip ?_ | refine A_exit ?_ | refine A_ret ?_ | refine q_l ?_ | refine q_m ?_ | refine q_n ?_ | refine q_h ?_ | refine q_o ?_ | refine q_e ?_ | refine q_f ?_ | refine q_g ?_ | (refine O_cL rfl rfl rfl rfl rfl hh rfl (fun _ _ _ => val_mk _ _ _ _ _ rfl rfl) ?_))
        exact ⟨(i + 1, true, c), ⟨hil, key (true, c) (by simp)⟩, by (try dsimp only); omega, Wk_sel ⟨rfl, rfl, rfl, rfl, rfl, trivial⟩ ⟨rfl, trivial⟩⟩
      | true =>
        by_cases hcm : c < m
        ·
          repeat ((fail_if_success (refine stopL ?_)); first | refine A_seq ?_ | refine A_block ?_ | refine R_list ?_ | refine R_quiet rfl mixed (by kernel_rfl) ?_ | ((first | apply O_y rfl rfl rfl | apply Q_y rfl rfl rfl); (first | exact R_addN rfl rfl rfl | exact R_subN rfl rfl rfl | (first | exact q_A | exact R_loadi tabOk rfl rfl rfl rfl hw rfl rfl | exact q_B | fail))) | refine O_nil ?_ | refine Q_nil ?_ | refine q_j ?_ | refine q_k ?_ | refine q_d ?_ | refine q_a ?_ | refine q_b ?_ | refine q_c ?_ | refine A_ct rfl ?_ | refine A_cf rfl ?_ | refine A_skip ?_ | refine A_exit ?_ | refine A_ret ?_ | refine q_l ?_ | refine q_m ?_ | refine q_n ?_ | refine q_h ?_ | refine q_o ?_ | refine q_e ?_ | refine q_f ?_ | refine q_g ?_ | (refine O_cL rfl rfl rfl rfl rfl hh rfl (fun _ _ _ => val_mk _ _ _ _ _ rfl rfl) ?_))
          exact ⟨(i + 1, true, c), ⟨hil, key (true, c) (by simp [hcm])⟩, by (try dsimp only); omega, Wk_sel ⟨rfl, rfl, rfl, rfl, rfl, trivial⟩ ⟨rfl, trivial⟩⟩
        ·
          repeat ((fail_if_success (refine stopL ?_)); first | refine A_seq ?_ | refine A_block ?_ | refine R_list ?_ | refine R_quiet rfl mixed (by kernel_rfl) ?_ | ((first | apply O_y rfl rfl rfl | apply Q_y rfl rfl rfl); (first | exact R_addN rfl rfl rfl | exact R_subN rfl rfl rfl | (first | exact q_A | exact R_loadi tabOk rfl rfl rfl rfl hw rfl rfl | exact q_B | fail))) | refine O_nil ?_ | refine Q_nil ?_ | refine q_j ?_ | refine q_k ?_ | refine q_d ?_ | refine q_a ?_ | refine q_b ?_ | refine q_c ?_ | refine A_ct rfl ?_ | refine A_cf rfl ?_ | refine A_skip ?_ | refine A_exit ?_ | refine A_ret ?_ | refine q_l ?_ | refine q_m ?_ | refine q_n ?_ | refine q_h ?_ | refine q_o ?_ | refine q_e ?_ | refine q_f ?_ | refine q_g ?_ | (refine O_cL rfl rfl rfl rfl rfl hh rfl (fun _ _ _ => val_mk _ _ _ _ _ rfl rfl) ?_))
          exact ⟨(i + 1, true, m), ⟨hil, key (true, m) (by simp [hcm])⟩, by (try dsimp only); omega, Wk_sel ⟨rfl, rfl, rfl, rfl, rfl, trivial⟩ ⟨rfl, trivial⟩⟩
  · obtain rfl : i = l.length := by omega
    rw [List.take_length] at hx
    rcases Nat.lt_or_ge j N.length with h | h
    · rw [s2 h] at hx
      cases hx
      have hfl : (out.flatMap u1D).length = out.length * 1 := flat_len u1D_len _
      repeat ((fail_if_success (refine stopL ?_)); first | refine A_seq ?_ | refine A_block ?_ | refine R_list ?_ | refine R_quiet rfl mixed (by kernel_rfl) ?_ | ((first | apply O_y rfl rfl rfl | apply Q_y rfl rfl rfl); (first | exact R_addN rfl rfl rfl | exact R_subN rfl rfl rfl | (first | exact q_A | exact q_5 | exact q_B | fail))) | refine O_nil ?_ | refine Q_nil ?_ | refine q_j ?_ | refine q_k ?_ | refine q_d ?_ | refine q_a ?_ | refine q_b ?_ | refine q_c ?_ | refine A_ct rfl ?_ | refine A_cf rfl ?_ | refine A_skip ?_ | refine A_exit ?_ | refine A_ret ?_ | refine q_l ?_ | refine q_m ?_ | refine q_n ?_ | refine q_h ?_ | refine q_o ?_ | refine q_e ?_ | refine q_f ?_ | refine q_g ?_ | (first | refine O_appR tabOk rfl rfl rfl rfl rfl rfl rfl rfl rfl rfl rfl (by first | exact Src.row rfl | exact Src.dat _ _ | exact Src.nil) rfl (by omega) ?_ | refine O_appN tabOk rfl rfl rfl rfl rfl rfl rfl rfl rfl rfl (by first | exact Src.row rfl | exact Src.dat _ _ | exact Src.nil) rfl (by omega) ?_))
      exact ⟨j + 1, h, by omega, Wk_sel ⟨rfl, rfl, trivial⟩ ⟨row_eq (by rw [hsn h, List.length_append]; rfl) (by rw [hsn h, List.flatMap_append]; rfl) rfl, trivial⟩⟩
    · have he : j = N.length := by omega
      have h1 := s1 he
      rw [← hx] at h1
      obtain rfl : f = false := h1
      have ho : out = N := by rw [← ho, he, List.take_length]
      subst ho
      repeat ((fail_if_success (refine stopL ?_)); first | refine A_seq ?_ | refine A_block ?_ | refine R_list ?_ | refine R_quiet rfl mixed (by kernel_rfl) ?_ | ((first | apply O_y rfl rfl rfl | apply Q_y rfl rfl rfl); (first | exact R_addN rfl rfl rfl | exact R_subN rfl rfl rfl | (first | exact q_A | exact q_5 | exact q_B | fail))) | refine O_nil ?_ | refine Q_nil ?_ | refine q_j ?_ | refine q_k ?_ | refine q_d ?_ | refine q_a ?_ | refine q_b ?_ | refine q_c ?_ | refine A_ct rfl ?_ | refine A_cf rfl ?_ | refine A_skip ?_ | refine A_exit ?_ | refine A_ret ?_ | refine q_l ?_ | refine q_m ?_ | refine q_n ?_ | refine q_h ?_ | refine q_o ?_ | refine q_e ?_ | refine q_f ?_ | refine q_g ?_ | fail)
      exact X_retW (Wk_freeze (id := 3) rfl) rfl (h2 := []) trivial ⟨rfl, rfl⟩
set_option maxHeartbeats 4000000 in
theorem rjoin_A (a b : List Int) (hn : a.length + b.length ≤ 1000000000) : ACall Try.prog 27 [usA a, usA b] [] (Just (usA (nrm (a ++ b)))) := by
  have hc := rnormal_A (a ++ b) (by rw [List.length_append]; omega)
  have f1 : (a.flatMap u1D).length = a.length * 1 := flat_len u1D_len _
  have f2 : (b.flatMap u1D).length = b.length * 1 := flat_len u1D_len _
  refine ACall_of tabOk Try.func27 rfl Try.ntmps27 (congrArg Array.toList Try.results27) (by kernel_rfl) rfl ?_
  refine A_seq ?_
  refine R_list ?_
  apply O_y rfl rfl rfl
  exact q_2
  refine O_nil ?_
  refine q_j ?_
  refine A_seq ?_
  refine R_list ?_
  apply O_y rfl rfl rfl
  exact q_2
  refine O_nil ?_
  refine q_j ?_
  refine A_weaken (Wk_nil 43 1 (t := 5) (id := 5) rfl rfl) ?_
  refine A_cut [(0, usA a), (1, usA b), (5, .row 5)] [(5, uB a)] ?_ ?_
  ·
    repeat ((fail_if_success (refine stopL ?_)); first | refine A_seq ?_ | refine A_block ?_ | refine R_list ?_ | refine R_quiet rfl mixed (by kernel_rfl) ?_ | ((first | apply O_y rfl rfl rfl | apply Q_y rfl rfl rfl); (first | exact R_addN rfl rfl rfl | exact R_subN rfl rfl rfl | (first | exact q_A | exact q_5 | exact q_B | fail))) | refine O_nil ?_ | refine Q_nil ?_ | refine q_j ?_ | refine q_k ?_ | refine q_d ?_ | refine q_a ?_ | refine q_b ?_ | refine q_c ?_ | refine A_ct rfl ?_ | refine A_cf rfl ?_ | refine A_skip ?_ | refine A_exit ?_ | refine A_ret ?_ | refine q_l ?_ | refine q_m ?_ | refine q_n ?_ | refine q_h ?_ | refine q_o ?_ | refine q_e ?_ | refine q_f ?_ | refine q_g ?_ | (first | refine O_appR tabOk rfl rfl rfl rfl rfl rfl rfl rfl rfl rfl rfl (by first | exact Src.row rfl | exact Src.dat _ _ | exact Src.nil) f1 (by omega) ?_ | refine O_appN tabOk rfl rfl rfl rfl rfl rfl rfl rfl rfl rfl (by first | exact Src.row rfl | exact Src.dat _ _ | exact Src.nil) f1 (by omega) ?_))
    exact Wk_sel ⟨rfl, rfl, rfl, trivial⟩ ⟨row_eq (by simp) (by simp) rfl, trivial⟩
  refine A_cut [(0, usA a), (1, usA b), (5, .row 5)] [(5, uB (a ++ b))] ?_ ?_
  ·
    repeat ((fail_if_success (refine stopL ?_)); first | refine A_seq ?_ | refine A_block ?_ | refine R_list ?_ | refine R_quiet rfl mixed (by kernel_rfl) ?_ | ((first | apply O_y rfl rfl rfl | apply Q_y rfl rfl rfl); (first | exact R_addN rfl rfl rfl | exact R_subN rfl rfl rfl | (first | exact q_A | exact q_5 | exact q_B | fail))) | refine O_nil ?_ | refine Q_nil ?_ | refine q_j ?_ | refine q_k ?_ | refine q_d ?_ | refine q_a ?_ | refine q_b ?_ | refine q_c ?_ | refine A_ct rfl ?_ | refine A_cf rfl ?_ | refine A_skip ?_ | refine A_exit ?_ | refine A_ret ?_ | refine q_l ?_ | refine q_m ?_ | refine q_n ?_ | refine q_h ?_ | refine q_o ?_ | refine q_e ?_ | refine q_f ?_ | refine q_g ?_ | (first | refine O_appR tabOk rfl rfl rfl rfl rfl rfl rfl rfl rfl rfl rfl (by first | exact Src.row rfl | exact Src.dat _ _ | exact Src.nil) f2 (by omega) ?_ | refine O_appN tabOk rfl rfl rfl rfl rfl rfl rfl rfl rfl rfl (by first | exact Src.row rfl | exact Src.dat _ _ | exact Src.nil) f2 (by omega) ?_))
    exact Wk_sel ⟨rfl, rfl, rfl, trivial⟩ ⟨row_eq (by simp) (by simp) rfl, trivial⟩
  refine A_weaken (Wk_freeze (id := 5) rfl) ?_
  repeat ((fail_if_success (refine stopL ?_)); first | refine A_seq ?_ | refine A_block ?_ | refine R_list ?_ | refine R_quiet rfl mixed (by kernel_rfl) ?_ | ((first | apply O_y rfl rfl rfl | apply Q_y rfl rfl rfl); (first | exact R_addN rfl rfl rfl | exact R_subN rfl rfl rfl | (first | exact q_A | exact q_5 | exact q_B | fail))) | refine O_nil ?_ | refine Q_nil ?_ | refine q_j ?_ | refine q_k ?_ | refine q_d ?_ | refine q_a ?_ | refine q_b ?_ | refine q_c ?_ | refine A_ct rfl ?_ | refine A_cf rfl ?_ | refine A_skip ?_ | refine A_exit ?_ | refine A_ret ?_ | refine q_l ?_ | refine q_m ?_ | refine q_n ?_ | refine q_h ?_ | refine q_o ?_ | refine q_e ?_ | refine q_f ?_ | refine q_g ?_ | refine O_c rfl rfl rfl rfl rfl hc (fun _ => rfl) ?_)
  exact X_ret rfl ⟨rfl, rfl⟩
end Go.Proofs.Ytmljmahlpcdhoaa.Ab

namespace Go.Proofs.Ytmljmahlpcdhoaa.Ab
set_option linter.unusedVariables false
set_option maxRecDepth 100000
open Go.RowKit Go.Lib
set_option linter.unusedSimpArgs false
attribute [local irreducible] AWp AOps AQ AYield AEff ACall AWk AAny AAt AThen AIn APost NoPanic
def lstD (l : List Int) : List Dat := [usD l]
theorem lstD_len (l : List Int) : (lstD l).length = 1 := rfl
theorem flatten_take {α : Type} (L : List (List α)) (k : Nat) (h : k < L.length) : (L.take (k + 1)).flatten = (L.take k).flatten ++ L[k] := by
  rw [List.take_succ_eq_append_getElem h, List.flatten_append]; simp
theorem flatten_le {α : Type} (L : List (List α)) (k : Nat) : (L.take k).flatten.length ≤ L.flatten.length := by
  have : L.flatten = (L.take k).flatten ++ (L.drop k).flatten := by rw [← List.flatten_append, List.take_append_drop]
  rw [this, List.length_append]; omega
set_option maxHeartbeats 4000000 in
theorem concat_A (L : List (List Int)) (hn : L.length ≤ 1000000) (hL : L.flatten.length ≤ 1000000000) : ACall Try.prog 54 [.d (.sl (L.flatMap lstD) L.length)] [] (fun c h => c = .row 5 ∧ h = [(5, uB L.flatten)]) := by
  have hg := grow_A L.flatten.length (by omega)
  refine ACall_of tabOk Try.func54 rfl Try.ntmps54 (congrArg Array.toList Try.results54) (by kernel_rfl) rfl ?_
  repeat ((fail_if_success (refine stopL ?_)); (fail_if_success (refine stopC ?_)); first | refine A_seq ?_ | refine A_block ?_ | refine R_list ?_ | refine R_quiet rfl mixed (by kernel_rfl) ?_ | ((first | apply O_y rfl rfl rfl | apply Q_y rfl rfl rfl); (first | exact R_addN rfl rfl rfl | exact R_subN rfl rfl rfl | (first | exact q_A | exact q_5 | exact q_B | fail))) | refine O_nil ?_ | refine Q_nil ?_ | refine q_j ?_ | refine q_k ?_ | refine q_d ?_ | refine q_a ?_ | refine q_b ?_ | refine q_c ?_ | refine A_ct rfl ?_ | refine A_cf rfl ?_ | refine A_skip ?_ | refine A_exit ?_ | refine A_ret ?_ | refine q_l ?_ | refine q_m ?_ | refine q_n ?_ | refine q_h ?_ | refine q_o ?_ | refine q_e ?_ | refine q_f ?_ | refine q_g ?_ | fail)
  refine A_loopS (fun k : Nat => [(0, .d (.sl (L.flatMap lstD) L.length)), (3, intA ((L.take k).flatten.length : Int)), (9, .d (.sl (L.flatMap lstD) L.length)), (10, intA (L.length : Int)), (11, intA (k : Int))]) (fun _ => []) (fun k => k ≤ L.length) (fun k => L.length - k) 0 [(0, .d (.sl (L.flatMap lstD) L.length)), (3, intA (L.flatten.length : Int))] [] (Nat.zero_le _) (Wk_sel ⟨rfl, rfl, rfl, rfl, rfl, trivial⟩ trivial) ?_ ?_
  · intro k hk
    by_cases hkl : k < L.length
    · have hw := win_flat0 lstD_len L k 1 hkl (by decide)
      have h1 := flatten_le L k
      have h2 := flatten_le L (k + 1)
      have h3 := congrArg List.length (flatten_take L k hkl)
      rw [List.length_append] at h3
      repeat (first | refine A_seq ?_ | refine A_block ?_ | refine R_list ?_ | refine R_quiet rfl mixed (by kernel_rfl) ?_ | ((first | apply O_y rfl rfl rfl | apply Q_y rfl rfl rfl); (first | exact q_A | exact R_loadi tabOk rfl rfl rfl rfl hw rfl rfl | exact q_B | (exact R_index tabOk rfl rfl rfl rfl rfl rfl hkl))) | refine O_nil ?_ | refine Q_nil ?_ | refine q_j ?_ | refine q_k ?_ | refine q_d ?_ | refine q_a ?_ | refine q_b ?_ | refine q_c ?_ | refine A_ct rfl ?_ | refine A_cf rfl ?_ | refine A_skip ?_ | refine A_exit ?_ | refine A_ret ?_ | refine q_l ?_ | refine q_m ?_ | refine q_n ?_ | refine q_h ?_ | refine q_o ?_ | refine q_e ?_ | refine q_f ?_ | refine q_g ?_ | fail)
      exact ⟨k + 1, by (try dsimp only); omega, by (try dsimp only); omega, Wk_sel ⟨rfl, intE (by omega), rfl, rfl, rfl, trivial⟩ trivial⟩
    · have hkk : k = L.length := by omega
      subst hkk
      repeat (first | refine A_seq ?_ | refine A_block ?_ | refine R_list ?_ | refine R_quiet rfl mixed (by kernel_rfl) ?_ | ((first | apply O_y rfl rfl rfl | apply Q_y rfl rfl rfl); (first | exact q_A | exact q_5 | exact q_B | fail)) | refine O_nil ?_ | refine Q_nil ?_ | refine q_j ?_ | refine q_k ?_ | refine q_d ?_ | refine q_a ?_ | refine q_b ?_ | refine q_c ?_ | refine A_ct rfl ?_ | refine A_cf rfl ?_ | refine A_skip ?_ | refine A_exit ?_ | refine A_ret ?_ | refine q_l ?_ | refine q_m ?_ | refine q_n ?_ | refine q_h ?_ | refine q_o ?_ | refine q_e ?_ | refine q_f ?_ | refine q_g ?_ | fail)
      exact Wk_sel ⟨rfl, by rw [List.take_length]; rfl, trivial⟩ trivial
  ·
    repeat ((fail_if_success (refine stopL ?_)); (fail_if_success (refine stopC ?_)); first | refine A_seq ?_ | refine A_block ?_ | refine R_list ?_ | refine R_quiet rfl mixed (by kernel_rfl) ?_ | ((first | apply O_y rfl rfl rfl | apply Q_y rfl rfl rfl); (first | exact R_addN rfl rfl rfl | exact R_subN rfl rfl rfl | (first | exact q_A | exact q_5 | exact q_B | fail))) | refine O_nil ?_ | refine Q_nil ?_ | refine q_j ?_ | refine q_k ?_ | refine q_d ?_ | refine q_a ?_ | refine q_b ?_ | refine q_c ?_ | refine A_ct rfl ?_ | refine A_cf rfl ?_ | refine A_skip ?_ | refine A_exit ?_ | refine A_ret ?_ | refine q_l ?_ | refine q_m ?_ | refine q_n ?_ | refine q_h ?_ | refine q_o ?_ | refine q_e ?_ | refine q_f ?_ | refine q_g ?_ | (refine O_cRow rfl rfl rfl rfl rfl hg rfl ?_))
    refine A_loopS (fun k : Nat => [(6, .row 5), (25, .d (.sl (L.flatMap lstD) L.length)), (26, intA (L.length : Int)), (27, intA (k : Int))]) (fun k => [(5, uB (L.take k).flatten)]) (fun k => k ≤ L.length) (fun k => L.length - k) 0 [(6, .row 5)] [(5, uB L.flatten)] (Nat.zero_le _) (Wk_sel ⟨rfl, rfl, rfl, rfl, trivial⟩ ⟨rfl, trivial⟩) ?_ ?_
    · intro k hk
      by_cases hkl : k < L.length
      · have hw := win_flat0 lstD_len L k 1 hkl (by decide)
        have h1 := flatten_le L k
        have h2 := flatten_le L (k + 1)
        have h3 := congrArg List.length (flatten_take L k hkl)
        rw [List.length_append] at h3
        have hfl : (L[k].flatMap u1D).length = L[k].length * 1 := flat_len u1D_len _
        repeat (first | refine A_seq ?_ | refine A_block ?_ | refine R_list ?_ | refine R_quiet rfl mixed (by kernel_rfl) ?_ | ((first | apply O_y rfl rfl rfl | apply Q_y rfl rfl rfl); (first | exact q_A | exact R_loadi tabOk rfl rfl rfl rfl hw rfl rfl | exact q_B | (exact R_index tabOk rfl rfl rfl rfl rfl rfl hkl))) | refine O_nil ?_ | refine Q_nil ?_ | refine q_j ?_ | refine q_k ?_ | refine q_d ?_ | refine q_a ?_ | refine q_b ?_ | refine q_c ?_ | refine A_ct rfl ?_ | refine A_cf rfl ?_ | refine A_skip ?_ | refine A_exit ?_ | refine A_ret ?_ | refine q_l ?_ | refine q_m ?_ | refine q_n ?_ | refine q_h ?_ | refine q_o ?_ | refine q_e ?_ | refine q_f ?_ | refine q_g ?_ | (first | refine O_appR tabOk rfl rfl rfl rfl rfl rfl rfl rfl rfl rfl rfl (by first | exact Src.row rfl | exact Src.dat _ _ | exact Src.nil) hfl (by omega) ?_ | refine O_appN tabOk rfl rfl rfl rfl rfl rfl rfl rfl rfl rfl (by first | exact Src.row rfl | exact Src.dat _ _ | exact Src.nil) hfl (by omega) ?_))
        exact ⟨k + 1, by (try dsimp only); omega, by (try dsimp only); omega, Wk_sel ⟨rfl, rfl, rfl, rfl, trivial⟩ ⟨row_eq h3.symm (by rw [flatten_take L k hkl, List.flatMap_append]) rfl, trivial⟩⟩
      · have hkk : k = L.length := by omega
        subst hkk
        repeat (first | refine A_seq ?_ | refine A_block ?_ | refine R_list ?_ | refine R_quiet rfl mixed (by kernel_rfl) ?_ | ((first | apply O_y rfl rfl rfl | apply Q_y rfl rfl rfl); (first | exact q_A | exact q_5 | exact q_B | fail)) | refine O_nil ?_ | refine Q_nil ?_ | refine q_j ?_ | refine q_k ?_ | refine q_d ?_ | refine q_a ?_ | refine q_b ?_ | refine q_c ?_ | refine A_ct rfl ?_ | refine A_cf rfl ?_ | refine A_skip ?_ | refine A_exit ?_ | refine A_ret ?_ | refine q_l ?_ | refine q_m ?_ | refine q_n ?_ | refine q_h ?_ | refine q_o ?_ | refine q_e ?_ | refine q_f ?_ | refine q_g ?_ | fail)
        exact Wk_sel ⟨rfl, trivial⟩ ⟨by rw [List.take_length]; rfl, trivial⟩
    ·
      repeat (first | refine A_seq ?_ | refine A_block ?_ | refine R_list ?_ | refine R_quiet rfl mixed (by kernel_rfl) ?_ | ((first | apply O_y rfl rfl rfl | apply Q_y rfl rfl rfl); (first | exact q_A | exact q_5 | exact q_B | fail)) | refine O_nil ?_ | refine Q_nil ?_ | refine q_j ?_ | refine q_k ?_ | refine q_d ?_ | refine q_a ?_ | refine q_b ?_ | refine q_c ?_ | refine A_ct rfl ?_ | refine A_cf rfl ?_ | refine A_skip ?_ | refine A_exit ?_ | refine A_ret ?_ | refine q_l ?_ | refine q_m ?_ | refine q_n ?_ | refine q_h ?_ | refine q_o ?_ | refine q_e ?_ | refine q_f ?_ | refine q_g ?_ | fail)
      exact X_retW AWk.refl rfl (h2 := [(5, uB L.flatten)]) ⟨rfl, trivial⟩ ⟨rfl, rfl⟩
theorem join_A (a b : List Int) (h : a.length + b.length ≤ 1000000000) : ACall Try.prog 29 [usA a, usA b] [] (fun c h => c = .row 5 ∧ h = [(5, uB (nrm (a ++ b)))]) := by
  have e1 : [a, b].flatten = a ++ b := by simp
  have h1 := concat_A [a, b] (by simp) (by rw [e1, List.length_append]; omega)
  rw [e1] at h1
  have h2 := normal_A (a ++ b) (by rw [List.length_append]; omega)
  refine ACall_of tabOk Try.func29 rfl Try.ntmps29 (congrArg Array.toList Try.results29) (by kernel_rfl) rfl ?_
  repeat (first | refine A_seq ?_ | refine A_block ?_ | refine R_list ?_ | refine R_quiet rfl mixed (by kernel_rfl) ?_ | ((first | apply O_y rfl rfl rfl | apply Q_y rfl rfl rfl); (first | exact q_A | exact q_5 | exact q_B | fail)) | refine O_nil ?_ | refine Q_nil ?_ | refine q_j ?_ | refine q_k ?_ | refine q_d ?_ | refine q_a ?_ | refine q_b ?_ | refine q_c ?_ | refine A_ct rfl ?_ | refine A_cf rfl ?_ | refine A_skip ?_ | refine A_exit ?_ | refine A_ret ?_ | refine q_l ?_ | refine q_m ?_ | refine q_n ?_ | refine q_h ?_ | refine q_o ?_ | refine q_e ?_ | refine q_f ?_ | refine q_g ?_ | fail)
  refine O_weaken (Wk_freeze (id := 7) rfl) ?_
  refine O_cRow rfl rfl rfl rfl rfl h1 rfl ?_
  refine O_weaken (Wk_freeze (id := 5) rfl) ?_
  refine O_cRow rfl rfl rfl rfl rfl h2 rfl ?_
  repeat (first | refine A_seq ?_ | refine A_block ?_ | refine R_list ?_ | refine R_quiet rfl mixed (by kernel_rfl) ?_ | ((first | apply O_y rfl rfl rfl | apply Q_y rfl rfl rfl); (first | exact q_A | exact q_5 | exact q_B | fail)) | refine O_nil ?_ | refine Q_nil ?_ | refine q_j ?_ | refine q_k ?_ | refine q_d ?_ | refine q_a ?_ | refine q_b ?_ | refine q_c ?_ | refine A_ct rfl ?_ | refine A_cf rfl ?_ | refine A_skip ?_ | refine A_exit ?_ | refine A_ret ?_ | refine q_l ?_ | refine q_m ?_ | refine q_n ?_ | refine q_h ?_ | refine q_o ?_ | refine q_e ?_ | refine q_f ?_ | refine q_g ?_ | fail)
  exact X_retW AWk.refl rfl (h2 := [(5, uB (nrm (a ++ b)))]) ⟨rfl, trivial⟩ ⟨rfl, rfl⟩
end Go.Proofs.Ytmljmahlpcdhoaa.Ab

namespace Go.Proofs.Ytmljmahlpcdhoaa.Ab
set_option linter.unusedVariables false
open Go.RowKit
section
variable {P : Program} {nt : Nat} {Q : Post} {e : Env} {h : Heap} {ops : Array Oper} {o : Oper} {T : List Nat} {fuel i : Nat} {listed : Array Bool}
theorem T_cRow {f : FuncId} {args : Array Operand} {ats : Array TypeId} {cs : List AVal} {d id el k n : Nat} {ds : List Dat} (hi : ops[i]? = some o) (hw : awant ops e o = some true) (hdst : o.dst = some d) (hd : Nat.blt d nt = true) (ho : o.op = .call { callee := .value (.func f), args := args, argTypes := ats }) (hx : aevs e args.toList = some cs)
    (H : ACall P f cs [] (fun c' h' => c' = .row id ∧ h' = [(id, .row el k n ds)])) (hid : Nat.blt id 1000 = true) (HK : AAny P nt ops Q T fuel (listed.setIfInBounds i true) ((d, .row id) :: killEs [id] e) ((id, .row el k n ds) :: killHs [id] h)) : AAt P nt ops Q T fuel listed i e h :=
  T_eff hi hw (E_callQ ho hdst hx H hd fun c' h' ⟨h1, h2⟩ => by
    subst h1 h2
    refine ⟨by simp [hid], fun j b i hb hh => ?_, fun j hj => ?_⟩
    · unfold look at hb
      cases hj : Nat.beq id j with
      | true => rw [hj] at hb; cases hb; simp [blkHas] at hh
      | false => rw [hj] at hb; cases hb
    · simp [AVal.has] at hj
      subst hj
      simp [look]) fun e' h' ⟨c, h2, ⟨h3, h4⟩, h5, h6⟩ => by subst h3 h4 h5 h6; exact HK
end
end Go.Proofs.Ytmljmahlpcdhoaa.Ab

/-
  Texts of a proof, one behind the other (part 22).
-/
import Derived.Test.YtmljmahlpcdhoaaPc2
import Derived.Test.YtmljmahlpcdhoaaPc3
import Derived.Test.YtmljmahlpcdhoaaPc20
set_option linter.unusedVariables false
set_option linter.unusedSimpArgs false
namespace Go.Proofs.Ytmljmahlpcdhoaa
set_option linter.unusedVariables false
open Go.RowKit Go.Lib
theorem any_take {α : Type} (p : α → Bool) (l : List α) (k : Nat) (h : k < l.length) : (l.take (k + 1)).any p = ((l.take k).any p || p l[k]) := by rw [List.take_succ_eq_append_getElem h, List.any_append]; simp
theorem all_take {α : Type} (p : α → Bool) (l : List α) (k : Nat) (h : k < l.length) : (l.take (k + 1)).all p = ((l.take k).all p && p l[k]) := by rw [List.take_succ_eq_append_getElem h, List.all_append]; simp
namespace Ab
set_option maxRecDepth 100000
set_option linter.unusedSimpArgs false
attribute [local irreducible] AWp AOps AQ AYield AEff ACall AWk AAny AAt AThen AIn APost NoPanic
set_option maxHeartbeats 4000000 in
theorem rfits_A (e : LEnt) (p : Pfx) (he : e.p.ok) (hp : p.ok) : ACall Try.prog 74 [aggD (lentD e), pfxA p] [] (Just (boolA (fitsLE e p))) := by
  have hw := refWithin_A p e.p hp he
  obtain ⟨ok, ⟨ea, eb⟩, ge, le⟩ := e
  obtain ⟨pa, pb⟩ := p
  obtain ⟨b, hb⟩ : ∃ b, withinB ⟨pa, pb⟩ ⟨ea, eb⟩ = b := ⟨_, rfl⟩
  unfold fitsLE
  dsimp only at hw ⊢
  rw [hb] at hw ⊢
  refine ACall_of tabOk Try.func74 rfl Try.ntmps74 (congrArg Array.toList Try.results74) (by kernel_rfl) rfl ?_
  cases b with
  | false =>
    repeat (first | refine A_seq ?_ | refine A_block ?_ | refine R_list ?_ | ((first | apply O_y rfl rfl rfl | apply Q_y rfl rfl rfl); (first | exact q_A | exact q_5 | exact q_B | fail)) | refine O_nil ?_ | refine Q_nil ?_ | refine q_j ?_ | refine q_k ?_ | refine q_d ?_ | refine q_a ?_ | refine q_b ?_ | refine q_c ?_ | refine A_ct rfl ?_ | refine A_cf rfl ?_ | refine A_skip ?_ | refine A_exit ?_ | refine A_ret ?_ | refine q_l ?_ | refine q_m ?_ | refine q_n ?_ | refine q_h ?_ | refine q_o ?_ | refine q_e ?_ | refine q_f ?_ | refine q_g ?_ | refine O_c rfl rfl rfl rfl rfl hw (fun _ => rfl) ?_)
    exact X_ret rfl ⟨rfl, rfl⟩
  | true =>
    by_cases h1 : ge ≤ pb
    · by_cases h2 : pb ≤ le
      · rw [decide_eq_true h1, decide_eq_true h2]
        repeat (first | refine A_seq ?_ | refine A_block ?_ | refine R_list ?_ | ((first | apply O_y rfl rfl rfl | apply Q_y rfl rfl rfl); (first | exact q_A | exact q_5 | exact q_B | fail)) | refine O_nil ?_ | refine Q_nil ?_ | refine q_j ?_ | refine q_k ?_ | refine q_d ?_ | refine q_a ?_ | refine q_b ?_ | refine q_c ?_ | refine A_ct rfl ?_ | refine A_cf rfl ?_ | refine A_skip ?_ | refine A_exit ?_ | refine A_ret ?_ | refine q_l ?_ | refine q_m ?_ | refine q_n ?_ | refine q_h ?_ | refine q_o ?_ | refine q_e ?_ | refine q_f ?_ | refine q_g ?_ | refine O_c rfl rfl rfl rfl rfl hw (fun _ => rfl) ?_)
        exact X_ret rfl ⟨rfl, rfl⟩
      · rw [decide_eq_true h1, decide_eq_false h2]
        repeat (first | refine A_seq ?_ | refine A_block ?_ | refine R_list ?_ | ((first | apply O_y rfl rfl rfl | apply Q_y rfl rfl rfl); (first | exact q_A | exact q_5 | exact q_B | fail)) | refine O_nil ?_ | refine Q_nil ?_ | refine q_j ?_ | refine q_k ?_ | refine q_d ?_ | refine q_a ?_ | refine q_b ?_ | refine q_c ?_ | refine A_ct rfl ?_ | refine A_cf rfl ?_ | refine A_skip ?_ | refine A_exit ?_ | refine A_ret ?_ | refine q_l ?_ | refine q_m ?_ | refine q_n ?_ | refine q_h ?_ | refine q_o ?_ | refine q_e ?_ | refine q_f ?_ | refine q_g ?_ | refine O_c rfl rfl rfl rfl rfl hw (fun _ => rfl) ?_)
        exact X_ret rfl ⟨rfl, rfl⟩
    · rw [decide_eq_false h1]
      repeat (first | refine A_seq ?_ | refine A_block ?_ | refine R_list ?_ | ((first | apply O_y rfl rfl rfl | apply Q_y rfl rfl rfl); (first | exact q_A | exact q_5 | exact q_B | fail)) | refine O_nil ?_ | refine Q_nil ?_ | refine q_j ?_ | refine q_k ?_ | refine q_d ?_ | refine q_a ?_ | refine q_b ?_ | refine q_c ?_ | refine A_ct rfl ?_ | refine A_cf rfl ?_ | refine A_skip ?_ | refine A_exit ?_ | refine A_ret ?_ | refine q_l ?_ | refine q_m ?_ | refine q_n ?_ | refine q_h ?_ | refine q_o ?_ | refine q_e ?_ | refine q_f ?_ | refine q_g ?_ | refine O_c rfl rfl rfl rfl rfl hw (fun _ => rfl) ?_)
      exact X_ret rfl ⟨rfl, rfl⟩
set_option maxHeartbeats 4000000 in
theorem rhas_A (l : List Int) (x : Int) (hn : l.length ≤ 1000000000) : ACall Try.prog 53 [usA l, u32A x] [] (Just (boolA (l.any fun d => d == x))) := by
  obtain ⟨b, hb⟩ : ∃ b, (l.any fun d => d == x) = b := ⟨_, rfl⟩
  rw [hb]
  refine ACall_of tabOk Try.func53 rfl Try.ntmps53 (congrArg Array.toList Try.results53) (by kernel_rfl) rfl ?_
  repeat ((fail_if_success (refine stopL ?_)); first | refine A_seq ?_ | refine A_block ?_ | refine R_list ?_ | refine R_quiet rfl mixed (by kernel_rfl) ?_ | ((first | apply O_y rfl rfl rfl | apply Q_y rfl rfl rfl); (first | exact R_addN rfl rfl rfl | exact R_subN rfl rfl rfl | (first | exact q_A | exact q_5 | exact q_B | fail))) | refine O_nil ?_ | refine Q_nil ?_ | refine q_j ?_ | refine q_k ?_ | refine q_d ?_ | refine q_a ?_ | refine q_b ?_ | refine q_c ?_ | refine A_ct rfl ?_ | refine A_cf rfl ?_ | refine A_skip ?_ | refine A_exit ?_ | refine A_ret ?_ | refine q_l ?_ | refine q_m ?_ | refine q_n ?_ | refine q_h ?_ | refine q_o ?_ | refine q_e ?_ | refine q_f ?_ | refine q_g ?_ | fail)
  try refine A_block ?_
  refine A_loop (fun k : Nat => [(0, usA l), (1, u32A x), (5, natA k)]) (fun _ => []) (fun k => k ≤ l.length ∧ ((l.take k).any fun d => d == x) = false) (fun k => l.length - k) 0 ⟨Nat.zero_le _, rfl⟩ (Wk_sel ⟨rfl, rfl, rfl, trivial⟩ trivial) ?_
  rintro k ⟨hk, ha⟩
  try dsimp only
  by_cases hkl : k < l.length
  · have hw := win_flat0 u1D_len l k 1 hkl (by decide)
    have ht := any_take (fun d => d == x) l k hkl
    rw [ha, Bool.false_or] at ht
    by_cases he : l[k] = x
    · obtain rfl : true = b := by
        rw [← hb]
        symm
        exact List.any_eq_true.2 ⟨l[k], List.getElem_mem hkl, by simp [he]⟩
      rw [he] at hw
      repeat ((fail_if_success (refine stopL ?_)); first | refine A_seq ?_ | refine A_block ?_ | refine R_list ?_ | refine R_quiet rfl mixed (by kernel_rfl) ?_ | ((first | apply O_y rfl rfl rfl | apply Q_y rfl rfl rfl); (first | exact R_addN rfl rfl rfl | exact R_subN rfl rfl rfl | (first | exact q_A | exact R_loadi tabOk rfl rfl rfl rfl hw rfl rfl | exact q_B | fail))) | refine O_nil ?_ | refine Q_nil ?_ | refine q_j ?_ | refine q_k ?_ | refine q_d ?_ | refine q_a ?_ | refine q_b ?_ | refine q_c ?_ | refine A_ct rfl ?_ | refine A_cf rfl ?_ | refine A_skip ?_ | refine A_exit ?_ | refine A_ret ?_ | refine q_l ?_ | refine q_m ?_ | refine q_n ?_ | refine q_h ?_ | refine q_o ?_ | refine q_e ?_ | refine q_f ?_ | refine q_g ?_ | fail)
      exact X_ret rfl ⟨rfl, rfl⟩
    · have ht : ((l.take (k + 1)).any fun d => d == x) = false := by rw [ht]; simp [he]
      repeat ((fail_if_success (refine stopL ?_)); first | refine A_seq ?_ | refine A_block ?_ | refine R_list ?_ | refine R_quiet rfl mixed (by kernel_rfl) ?_ | ((first | apply O_y rfl rfl rfl | apply Q_y rfl rfl rfl); (first | exact R_addN rfl rfl rfl | exact R_subN rfl rfl rfl | (first | exact q_A | exact R_loadi tabOk rfl rfl rfl rfl hw rfl rfl | exact q_B | fail))) | refine O_nil ?_ | refine Q_nil ?_ | refine q_j ?_ | refine q_k ?_ | refine q_d ?_ | refine q_a ?_ | refine q_b ?_ | refine q_c ?_ | refine A_ct rfl ?_ | refine A_cf rfl ?_ | refine A_skip ?_ | refine A_exit ?_ | refine A_ret ?_ | refine q_l ?_ | refine q_m ?_ | refine q_n ?_ | refine q_h ?_ | refine q_o ?_ | refine q_e ?_ | refine q_f ?_ | refine q_g ?_ | fail)
      exact ⟨k + 1, ⟨hkl, ht⟩, by omega, Wk_sel ⟨rfl, rfl, rfl, trivial⟩ trivial⟩
  · obtain rfl : k = l.length := by omega
    rw [List.take_length, hb] at ha
    subst ha
    repeat ((fail_if_success (refine stopL ?_)); first | refine A_seq ?_ | refine A_block ?_ | refine R_list ?_ | refine R_quiet rfl mixed (by kernel_rfl) ?_ | ((first | apply O_y rfl rfl rfl | apply Q_y rfl rfl rfl); (first | exact R_addN rfl rfl rfl | exact R_subN rfl rfl rfl | (first | exact q_A | exact q_5 | exact q_B | fail))) | refine O_nil ?_ | refine Q_nil ?_ | refine q_j ?_ | refine q_k ?_ | refine q_d ?_ | refine q_a ?_ | refine q_b ?_ | refine q_c ?_ | refine A_ct rfl ?_ | refine A_cf rfl ?_ | refine A_skip ?_ | refine A_exit ?_ | refine A_ret ?_ | refine q_l ?_ | refine q_m ?_ | refine q_n ?_ | refine q_h ?_ | refine q_o ?_ | refine q_e ?_ | refine q_f ?_ | refine q_g ?_ | fail)
    exact X_ret rfl ⟨rfl, rfl⟩
set_option maxHeartbeats 4000000 in
theorem rentry_A (l : PLst) (p : Pfx) (hl : ∀ e ∈ l.es, e.p.ok) (hp : p.ok) (hn : l.es.length ≤ 1000000000) : ACall Try.prog 60 [aggD (plstD l), pfxA p] [] (Just (intA (idxOf (fun e => fitsLE e p) l.es))) := by
  obtain ⟨nm, es⟩ := l
  dsimp only at hl hn ⊢
  refine ACall_of tabOk Try.func60 rfl Try.ntmps60 (congrArg Array.toList Try.results60) (by kernel_rfl) rfl ?_
  refine A_seq ?_
  refine R_list ?_
  refine q_d ?_
  refine q_d ?_
  refine O_weaken (Wk_freezeV (id := 2) (ds := plstD ⟨nm, es⟩) rfl rfl) ?_
  refine O_weaken (Wk_freezeV (id := 3) (ds := pfxD p) rfl rfl) ?_
  repeat ((fail_if_success (refine stopL ?_)); first | refine A_seq ?_ | refine A_block ?_ | refine R_list ?_ | refine R_quiet rfl mixed (by kernel_rfl) ?_ | ((first | apply O_y rfl rfl rfl | apply Q_y rfl rfl rfl); (first | exact R_addN rfl rfl rfl | exact R_subN rfl rfl rfl | (first | exact q_A | exact q_5 | exact q_B | fail))) | refine O_nil ?_ | refine Q_nil ?_ | refine q_j ?_ | refine q_k ?_ | refine q_d ?_ | refine q_a ?_ | refine q_b ?_ | refine q_c ?_ | refine A_ct rfl ?_ | refine A_cf rfl ?_ | refine A_skip ?_ | refine A_exit ?_ | refine A_ret ?_ | refine q_l ?_ | refine q_m ?_ | refine q_n ?_ | refine q_h ?_ | refine q_o ?_ | refine q_e ?_ | refine q_f ?_ | refine q_g ?_ | fail)
  try refine A_block ?_
  refine A_loop (fun k : Nat => [(2, .iptr (plstD ⟨nm, es⟩) 0), (3, .iptr (pfxD p) 0), (5, natA k)]) (fun _ => []) (fun k => k ≤ es.length ∧ ∀ j (hj : j < es.length), j < k → fitsLE es[j] p = false) (fun k => es.length - k) 0 ⟨Nat.zero_le _, fun j hj h => absurd h (Nat.not_lt_zero _)⟩ (Wk_sel ⟨rfl, rfl, rfl, trivial⟩ trivial) ?_
  rintro k ⟨hk, hall⟩
  try dsimp only
  by_cases hkl : k < es.length
  · have hq := rfits_A es[k] p (hl _ (List.getElem_mem hkl)) hp
    have hw := win_flat0 lentD_len es k 5 hkl (by decide)
    cases hpb : fitsLE es[k] p with
    | true =>
      rw [hpb] at hq
      repeat ((fail_if_success (refine stopL ?_)); first | refine A_seq ?_ | refine A_block ?_ | refine R_list ?_ | refine R_quiet rfl mixed (by kernel_rfl) ?_ | ((first | apply O_y rfl rfl rfl | apply Q_y rfl rfl rfl); (first | exact R_addN rfl rfl rfl | exact R_subN rfl rfl rfl | (first | exact q_A | exact R_loadi tabOk rfl rfl rfl rfl (by first | exact hw | rfl) rfl rfl | exact q_B | (exact R_index (j := k) tabOk rfl rfl rfl rfl rfl rfl hkl)))) | refine O_nil ?_ | refine Q_nil ?_ | refine q_j ?_ | refine q_k ?_ | refine q_d ?_ | refine q_a ?_ | refine q_b ?_ | refine q_c ?_ | refine A_ct rfl ?_ | refine A_cf rfl ?_ | refine A_skip ?_ | refine A_exit ?_ | refine A_ret ?_ | refine q_l ?_ | refine q_m ?_ | refine q_n ?_ | refine q_h ?_ | refine q_o ?_ | refine q_e ?_ | refine q_f ?_ | refine q_g ?_ | refine Q_c rfl rfl rfl rfl rfl hq rfl (fun _ _ _ => val_mk _ _ _ _ _ rfl rfl) ?_)
      refine X_ret rfl ⟨?_, rfl⟩
      rw [idxOf_at _ es k hkl (fun j hj => hall j (by omega) hj) hpb]; rfl
    | false =>
      rw [hpb] at hq
      repeat ((fail_if_success (refine stopL ?_)); first | refine A_seq ?_ | refine A_block ?_ | refine R_list ?_ | refine R_quiet rfl mixed (by kernel_rfl) ?_ | ((first | apply O_y rfl rfl rfl | apply Q_y rfl rfl rfl); (first | exact R_addN rfl rfl rfl | exact R_subN rfl rfl rfl | (first | exact q_A | exact R_loadi tabOk rfl rfl rfl rfl (by first | exact hw | rfl) rfl rfl | exact q_B | (exact R_index (j := k) tabOk rfl rfl rfl rfl rfl rfl hkl)))) | refine O_nil ?_ | refine Q_nil ?_ | refine q_j ?_ | refine q_k ?_ | refine q_d ?_ | refine q_a ?_ | refine q_b ?_ | refine q_c ?_ | refine A_ct rfl ?_ | refine A_cf rfl ?_ | refine A_skip ?_ | refine A_exit ?_ | refine A_ret ?_ | refine q_l ?_ | refine q_m ?_ | refine q_n ?_ | refine q_h ?_ | refine q_o ?_ | refine q_e ?_ | refine q_f ?_ | refine q_g ?_ | refine Q_c rfl rfl rfl rfl rfl hq rfl (fun _ _ _ => val_mk _ _ _ _ _ rfl rfl) ?_)
      refine ⟨k + 1, ⟨by omega, fun j hj h => ?_⟩, by omega, Wk_sel ⟨rfl, rfl, rfl, trivial⟩ trivial⟩
      by_cases hjk : j = k
      · subst hjk; exact hpb
      · exact hall j hj (by omega)
  ·
    repeat ((fail_if_success (refine stopL ?_)); first | refine A_seq ?_ | refine A_block ?_ | refine R_list ?_ | refine R_quiet rfl mixed (by kernel_rfl) ?_ | ((first | apply O_y rfl rfl rfl | apply Q_y rfl rfl rfl); (first | exact R_addN rfl rfl rfl | exact R_subN rfl rfl rfl | (first | exact q_A | exact q_5 | exact q_B | fail))) | refine O_nil ?_ | refine Q_nil ?_ | refine q_j ?_ | refine q_k ?_ | refine q_d ?_ | refine q_a ?_ | refine q_b ?_ | refine q_c ?_ | refine A_ct rfl ?_ | refine A_cf rfl ?_ | refine A_skip ?_ | refine A_exit ?_ | refine A_ret ?_ | refine q_l ?_ | refine q_m ?_ | refine q_n ?_ | refine q_h ?_ | refine q_o ?_ | refine q_e ?_ | refine q_f ?_ | refine q_g ?_ | fail)
    refine X_ret rfl ⟨?_, rfl⟩
    rw [idxOf_none _ es fun x hx => by
      obtain ⟨j, hj, rfl⟩ := List.mem_iff_getElem.1 hx
      exact hall j hj (by omega)]
    rfl
set_option maxHeartbeats 4000000 in
theorem rpermits_A (l : PLst) (p : Pfx) (hl : ∀ e ∈ l.es, e.p.ok) (hp : p.ok) (hn : l.es.length ≤ 1000000000) : ACall Try.prog 44 [aggD (plstD l), pfxA p] [] (Just (boolA (permitsL l p))) := by
  have he := rentry_A l p hl hp hn
  unfold permitsL
  have hfi := idxOf_find (fun e => fitsLE e p) l.es
  obtain ⟨nm, es⟩ := l
  dsimp only at he hfi ⊢
  rcases hfi with ⟨h1, h2⟩ | ⟨k, hk, h1, h2⟩
  · rw [h1] at he
    rw [h2]
    refine ACall_of tabOk Try.func44 rfl Try.ntmps44 (congrArg Array.toList Try.results44) (by kernel_rfl) rfl ?_
    repeat ((fail_if_success (refine stopL ?_)); first | refine A_seq ?_ | refine A_block ?_ | refine R_list ?_ | refine R_quiet rfl mixed (by kernel_rfl) ?_ | ((first | apply O_y rfl rfl rfl | apply Q_y rfl rfl rfl); (first | exact R_addN rfl rfl rfl | exact R_subN rfl rfl rfl | (first | exact q_A | exact q_5 | exact q_B | fail))) | refine O_nil ?_ | refine Q_nil ?_ | refine q_j ?_ | refine q_k ?_ | refine q_d ?_ | refine q_a ?_ | refine q_b ?_ | refine q_c ?_ | refine A_ct rfl ?_ | refine A_cf rfl ?_ | refine A_skip ?_ | refine A_exit ?_ | refine A_ret ?_ | refine q_l ?_ | refine q_m ?_ | refine q_n ?_ | refine q_h ?_ | refine q_o ?_ | refine q_e ?_ | refine q_f ?_ | refine q_g ?_ | refine O_c rfl rfl rfl rfl rfl he (fun _ => rfl) ?_)
    exact X_ret rfl ⟨rfl, rfl⟩
  · rw [h1] at he
    rw [h2]
    have hw : win (es.flatMap lentD) (k * 5 + 0) 1 = [.sc (.bool es[k].ok)] := win_flat lentD_len es k 0 1 hk (by decide)
    refine ACall_of tabOk Try.func44 rfl Try.ntmps44 (congrArg Array.toList Try.results44) (by kernel_rfl) rfl ?_
    repeat ((fail_if_success (refine stopL ?_)); first | refine A_seq ?_ | refine A_block ?_ | refine R_list ?_ | refine R_quiet rfl mixed (by kernel_rfl) ?_ | ((first | apply O_y rfl rfl rfl | apply Q_y rfl rfl rfl); (first | exact R_addN rfl rfl rfl | exact R_subN rfl rfl rfl | (first | exact q_A | exact R_loadi tabOk rfl rfl rfl rfl (by first | exact hw | rfl) rfl rfl | exact q_B | (exact R_index (j := k) tabOk rfl rfl rfl rfl rfl rfl hk)))) | refine O_nil ?_ | refine Q_nil ?_ | refine q_j ?_ | refine q_k ?_ | refine q_d ?_ | refine q_a ?_ | refine q_b ?_ | refine q_c ?_ | refine A_ct rfl ?_ | refine A_cf rfl ?_ | refine A_skip ?_ | refine A_exit ?_ | refine A_ret ?_ | refine q_l ?_ | refine q_m ?_ | refine q_n ?_ | refine q_h ?_ | refine q_o ?_ | refine q_e ?_ | refine q_f ?_ | refine q_g ?_ | refine O_c rfl rfl rfl rfl rfl he (fun _ => rfl) ?_)
    exact X_ret rfl ⟨rfl, rfl⟩
set_option maxHeartbeats 8000000 in
theorem rmember_A (l : CLst) (com : List Int) (hl : ∀ m ∈ l.ms, m.all.length ≤ 1000000000) (hc : com.length ≤ 1000000000) (hn : l.ms.length ≤ 1000000000) : ACall Try.prog 61 [aggD (clstD l), usA com] [] (Just (intA (idxOf (fun m => fitsM m com) l.ms))) := by
  obtain ⟨nm, ms⟩ := l
  dsimp only at hl hn ⊢
  refine ACall_of tabOk Try.func61 rfl Try.ntmps61 (congrArg Array.toList Try.results61) (by kernel_rfl) rfl ?_
  refine A_seq ?_
  refine R_list ?_
  refine q_d ?_
  refine O_weaken (Wk_freezeV (id := 2) (ds := clstD ⟨nm, ms⟩) rfl rfl) ?_
  repeat ((fail_if_success (refine stopL ?_)); first | refine A_seq ?_ | refine A_block ?_ | refine R_list ?_ | refine R_quiet rfl mixed (by kernel_rfl) ?_ | ((first | apply O_y rfl rfl rfl | apply Q_y rfl rfl rfl); (first | exact R_addN rfl rfl rfl | exact R_subN rfl rfl rfl | (first | exact q_A | exact q_5 | exact q_B | fail))) | refine O_nil ?_ | refine Q_nil ?_ | refine q_j ?_ | refine q_k ?_ | refine q_d ?_ | refine q_a ?_ | refine q_b ?_ | refine q_c ?_ | refine A_ct rfl ?_ | refine A_cf rfl ?_ | refine A_skip ?_ | refine A_exit ?_ | refine A_ret ?_ | refine q_l ?_ | refine q_m ?_ | refine q_n ?_ | refine q_h ?_ | refine q_o ?_ | refine q_e ?_ | refine q_f ?_ | refine q_g ?_ | fail)
  try refine A_block ?_
  refine A_loop (fun k : Nat => [(1, usA com), (2, .iptr (clstD ⟨nm, ms⟩) 0), (5, natA k)]) (fun _ => []) (fun k => k ≤ ms.length ∧ ∀ j (hj : j < ms.length), j < k → fitsM ms[j] com = false) (fun k => ms.length - k) 0 ⟨Nat.zero_le _, fun j hj h => absurd h (Nat.not_lt_zero _)⟩ (Wk_sel ⟨rfl, rfl, rfl, trivial⟩ trivial) ?_
  rintro k ⟨hk, hall⟩
  try dsimp only
  by_cases hkl : k < ms.length
  · have hml := hl _ (List.getElem_mem hkl)
    have hend : ∀ b, fitsM ms[k] com = b → b = false → ∀ j (hj : j < ms.length), j < k + 1 → fitsM ms[j] com = false := fun b h1 h2 j hj h => by
      by_cases hjk : j = k
      · subst hjk; rw [h1, h2]
      · exact hall j hj (by omega)
    have hat : fitsM ms[k] com = true → idxOf (fun m => fitsM m com) ms = (k : Int) := fun h => idxOf_at _ ms k hkl (fun j hj => hall j (by omega) hj) h
    have hw1 : win (ms.flatMap memD) (k * 2 + 1) 1 = [usD ms[k].all] := win_flat memD_len ms k 1 1 hkl (by decide)
    obtain ⟨m, hm⟩ : ∃ m, ms[k] = m := ⟨_, rfl⟩
    rw [hm] at hml hend hat hw1
    obtain ⟨ok, all⟩ := m
    dsimp only at hml hw1
    have hfm : fitsM ⟨ok, all⟩ com = all.all fun c => com.any fun d => d == c := rfl
    repeat ((fail_if_success (refine stopL ?_)); first | refine A_seq ?_ | refine A_block ?_ | refine R_list ?_ | refine R_quiet rfl mixed (by kernel_rfl) ?_ | ((first | apply O_y rfl rfl rfl | apply Q_y rfl rfl rfl); (first | exact R_addN rfl rfl rfl | exact R_subN rfl rfl rfl | (first | exact q_A | exact q_5 | exact q_B | fail))) | refine O_nil ?_ | refine Q_nil ?_ | refine q_j ?_ | refine q_k ?_ | refine q_d ?_ | refine q_a ?_ | refine q_b ?_ | refine q_c ?_ | refine A_ct rfl ?_ | refine A_cf rfl ?_ | refine A_skip ?_ | refine A_exit ?_ | refine A_ret ?_ | refine q_l ?_ | refine q_m ?_ | refine q_n ?_ | refine q_h ?_ | refine q_o ?_ | refine q_e ?_ | refine q_f ?_ | refine q_g ?_ | fail)
    try refine A_block ?_
    refine A_loop (fun x : Nat × Bool => [(1, usA com), (2, .iptr (clstD ⟨nm, ms⟩) 0), (5, natA k), (6, boolA x.2), (7, natA x.1)]) (fun _ => []) (fun x => x.1 ≤ all.length ∧ x.2 = (all.take x.1).all fun c => com.any fun d => d == c) (fun x => all.length - x.1) (0, true) ⟨Nat.zero_le _, rfl⟩ (Wk_sel ⟨rfl, rfl, rfl, rfl, rfl, trivial⟩ trivial) ?_
    rintro ⟨q, b⟩ ⟨hq, hb⟩
    try dsimp only at hq hb ⊢
    by_cases hql : q < all.length
    · have hw2 := win_flat0 u1D_len all q 1 hql (by decide)
      have hh := rhas_A com all[q] hc
      have hnx := all_take (fun c => com.any fun d => d == c) all q hql
      rw [← hb] at hnx
      try dsimp only at hnx
      obtain ⟨r, hr⟩ : ∃ r, (com.any fun d => d == all[q]) = r := ⟨_, rfl⟩
      rw [hr] at hh hnx
      cases b with
      | false =>
        repeat ((fail_if_success (refine stopL ?_)); first | refine A_seq ?_ | refine A_block ?_ | refine R_list ?_ | refine R_quiet rfl mixed (by kernel_rfl) ?_ | ((first | apply O_y rfl rfl rfl | apply Q_y rfl rfl rfl); (first | exact R_addN rfl rfl rfl | exact R_subN rfl rfl rfl | (first | exact q_A | exact R_loadi tabOk rfl rfl rfl rfl (by first | exact hw1 | exact hw2 | rfl) rfl rfl | exact q_B | (first | exact R_index (j := k) tabOk rfl rfl rfl rfl rfl rfl hkl | exact R_index (j := q) tabOk rfl rfl rfl rfl rfl rfl hql)))) | refine O_nil ?_ | refine Q_nil ?_ | refine q_j ?_ | refine q_k ?_ | refine q_d ?_ | refine q_a ?_ | refine q_b ?_ | refine q_c ?_ | refine A_ct rfl ?_ | refine A_cf rfl ?_ | refine A_skip ?_ | refine A_exit ?_ | refine A_ret ?_ | refine q_l ?_ | refine q_m ?_ | refine q_n ?_ | refine q_h ?_ | refine q_o ?_ | refine q_e ?_ | refine q_f ?_ | refine q_g ?_ | fail)
        exact ⟨(q + 1, false), ⟨hql, by (try dsimp only); rw [hnx]; rfl⟩, by (try dsimp only); omega, Wk_sel ⟨rfl, rfl, rfl, rfl, rfl, trivial⟩ trivial⟩
      | true =>
        repeat ((fail_if_success (refine stopL ?_)); first | refine A_seq ?_ | refine A_block ?_ | refine R_list ?_ | refine R_quiet rfl mixed (by kernel_rfl) ?_ | ((first | apply O_y rfl rfl rfl | apply Q_y rfl rfl rfl); (first | exact R_addN rfl rfl rfl | exact R_subN rfl rfl rfl | (first | exact q_A | exact R_loadi tabOk rfl rfl rfl rfl (by first | exact hw1 | exact hw2 | rfl) rfl rfl | exact q_B | (first | exact R_index (j := k) tabOk rfl rfl rfl rfl rfl rfl hkl | exact R_index (j := q) tabOk rfl rfl rfl rfl rfl rfl hql)))) | refine O_nil ?_ | refine Q_nil ?_ | refine q_j ?_ | refine q_k ?_ | refine q_d ?_ | refine q_a ?_ | refine q_b ?_ | refine q_c ?_ | refine A_ct rfl ?_ | refine A_cf rfl ?_ | refine A_skip ?_ | refine A_exit ?_ | refine A_ret ?_ | refine q_l ?_ | refine q_m ?_ | refine q_n ?_ | refine q_h ?_ | refine q_o ?_ | refine q_e ?_ | refine q_f ?_ | refine q_g ?_ | refine O_c rfl rfl rfl rfl rfl hh (fun _ => rfl) ?_)
        exact ⟨(q + 1, r), ⟨hql, by (try dsimp only); rw [hnx]; rfl⟩, by (try dsimp only); omega, Wk_sel ⟨rfl, rfl, rfl, rfl, rfl, trivial⟩ trivial⟩
    · obtain rfl : q = all.length := by omega
      rw [List.take_length] at hb
      cases b with
      | true =>
        repeat ((fail_if_success (refine stopL ?_)); first | refine A_seq ?_ | refine A_block ?_ | refine R_list ?_ | refine R_quiet rfl mixed (by kernel_rfl) ?_ | ((first | apply O_y rfl rfl rfl | apply Q_y rfl rfl rfl); (first | exact R_addN rfl rfl rfl | exact R_subN rfl rfl rfl | (first | exact q_A | exact R_loadi tabOk rfl rfl rfl rfl (by first | exact hw1 | rfl) rfl rfl | exact q_B | (exact R_index (j := k) tabOk rfl rfl rfl rfl rfl rfl hkl)))) | refine O_nil ?_ | refine Q_nil ?_ | refine q_j ?_ | refine q_k ?_ | refine q_d ?_ | refine q_a ?_ | refine q_b ?_ | refine q_c ?_ | refine A_ct rfl ?_ | refine A_cf rfl ?_ | refine A_skip ?_ | refine A_exit ?_ | refine A_ret ?_ | refine q_l ?_ | refine q_m ?_ | refine q_n ?_ | refine q_h ?_ | refine q_o ?_ | refine q_e ?_ | refine q_f ?_ | refine q_g ?_ | fail)
        exact X_ret rfl ⟨by rw [hat (by rw [hfm]; exact hb.symm)]; rfl, rfl⟩
      | false =>
        repeat ((fail_if_success (refine stopL ?_)); first | refine A_seq ?_ | refine A_block ?_ | refine R_list ?_ | refine R_quiet rfl mixed (by kernel_rfl) ?_ | ((first | apply O_y rfl rfl rfl | apply Q_y rfl rfl rfl); (first | exact R_addN rfl rfl rfl | exact R_subN rfl rfl rfl | (first | exact q_A | exact R_loadi tabOk rfl rfl rfl rfl (by first | exact hw1 | rfl) rfl rfl | exact q_B | (exact R_index (j := k) tabOk rfl rfl rfl rfl rfl rfl hkl)))) | refine O_nil ?_ | refine Q_nil ?_ | refine q_j ?_ | refine q_k ?_ | refine q_d ?_ | refine q_a ?_ | refine q_b ?_ | refine q_c ?_ | refine A_ct rfl ?_ | refine A_cf rfl ?_ | refine A_skip ?_ | refine A_exit ?_ | refine A_ret ?_ | refine q_l ?_ | refine q_m ?_ | refine q_n ?_ | refine q_h ?_ | refine q_o ?_ | refine q_e ?_ | refine q_f ?_ | refine q_g ?_ | fail)
        exact ⟨k + 1, ⟨hkl, hend false (by rw [hfm]; exact hb.symm) rfl⟩, by omega, Wk_sel ⟨rfl, rfl, rfl, trivial⟩ trivial⟩
  ·
    repeat ((fail_if_success (refine stopL ?_)); first | refine A_seq ?_ | refine A_block ?_ | refine R_list ?_ | refine R_quiet rfl mixed (by kernel_rfl) ?_ | ((first | apply O_y rfl rfl rfl | apply Q_y rfl rfl rfl); (first | exact R_addN rfl rfl rfl | exact R_subN rfl rfl rfl | (first | exact q_A | exact q_5 | exact q_B | fail))) | refine O_nil ?_ | refine Q_nil ?_ | refine q_j ?_ | refine q_k ?_ | refine q_d ?_ | refine q_a ?_ | refine q_b ?_ | refine q_c ?_ | refine A_ct rfl ?_ | refine A_cf rfl ?_ | refine A_skip ?_ | refine A_exit ?_ | refine A_ret ?_ | refine q_l ?_ | refine q_m ?_ | refine q_n ?_ | refine q_h ?_ | refine q_o ?_ | refine q_e ?_ | refine q_f ?_ | refine q_g ?_ | fail)
    refine X_ret rfl ⟨?_, rfl⟩
    rw [idxOf_none _ ms fun x hx => by
      obtain ⟨j, hj, rfl⟩ := List.mem_iff_getElem.1 hx
      exact hall j hj (by omega)]
    rfl
set_option maxHeartbeats 4000000 in
theorem rallows_A (l : CLst) (com : List Int) (hl : ∀ m ∈ l.ms, m.all.length ≤ 1000000000) (hc : com.length ≤ 1000000000) (hn : l.ms.length ≤ 1000000000) : ACall Try.prog 45 [aggD (clstD l), usA com] [] (Just (boolA (allowsL l com))) := by
  have he := rmember_A l com hl hc hn
  unfold allowsL
  have hfi := idxOf_find (fun m => fitsM m com) l.ms
  obtain ⟨nm, ms⟩ := l
  dsimp only at he hfi ⊢
  rcases hfi with ⟨h1, h2⟩ | ⟨k, hk, h1, h2⟩
  · rw [h1] at he
    rw [h2]
    refine ACall_of tabOk Try.func45 rfl Try.ntmps45 (congrArg Array.toList Try.results45) (by kernel_rfl) rfl ?_
    repeat ((fail_if_success (refine stopL ?_)); first | refine A_seq ?_ | refine A_block ?_ | refine R_list ?_ | refine R_quiet rfl mixed (by kernel_rfl) ?_ | ((first | apply O_y rfl rfl rfl | apply Q_y rfl rfl rfl); (first | exact R_addN rfl rfl rfl | exact R_subN rfl rfl rfl | (first | exact q_A | exact q_5 | exact q_B | fail))) | refine O_nil ?_ | refine Q_nil ?_ | refine q_j ?_ | refine q_k ?_ | refine q_d ?_ | refine q_a ?_ | refine q_b ?_ | refine q_c ?_ | refine A_ct rfl ?_ | refine A_cf rfl ?_ | refine A_skip ?_ | refine A_exit ?_ | refine A_ret ?_ | refine q_l ?_ | refine q_m ?_ | refine q_n ?_ | refine q_h ?_ | refine q_o ?_ | refine q_e ?_ | refine q_f ?_ | refine q_g ?_ | refine O_c rfl rfl rfl rfl rfl he (fun _ => rfl) ?_)
    exact X_ret rfl ⟨rfl, rfl⟩
  · rw [h1] at he
    rw [h2]
    have hw : win (ms.flatMap memD) (k * 2 + 0) 1 = [.sc (.bool ms[k].ok)] := win_flat memD_len ms k 0 1 hk (by decide)
    refine ACall_of tabOk Try.func45 rfl Try.ntmps45 (congrArg Array.toList Try.results45) (by kernel_rfl) rfl ?_
    repeat ((fail_if_success (refine stopL ?_)); first | refine A_seq ?_ | refine A_block ?_ | refine R_list ?_ | refine R_quiet rfl mixed (by kernel_rfl) ?_ | ((first | apply O_y rfl rfl rfl | apply Q_y rfl rfl rfl); (first | exact R_addN rfl rfl rfl | exact R_subN rfl rfl rfl | (first | exact q_A | exact R_loadi tabOk rfl rfl rfl rfl (by first | exact hw | rfl) rfl rfl | exact q_B | (exact R_index (j := k) tabOk rfl rfl rfl rfl rfl rfl hk)))) | refine O_nil ?_ | refine Q_nil ?_ | refine q_j ?_ | refine q_k ?_ | refine q_d ?_ | refine q_a ?_ | refine q_b ?_ | refine q_c ?_ | refine A_ct rfl ?_ | refine A_cf rfl ?_ | refine A_skip ?_ | refine A_exit ?_ | refine A_ret ?_ | refine q_l ?_ | refine q_m ?_ | refine q_n ?_ | refine q_h ?_ | refine q_o ?_ | refine q_e ?_ | refine q_f ?_ | refine q_g ?_ | refine O_c rfl rfl rfl rfl rfl he (fun _ => rfl) ?_)
    exact X_ret rfl ⟨rfl, rfl⟩
end Ab
end Go.Proofs.Ytmljmahlpcdhoaa

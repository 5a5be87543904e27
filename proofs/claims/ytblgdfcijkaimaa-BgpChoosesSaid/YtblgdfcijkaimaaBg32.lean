/-
  Texts of a proof, one behind the other (part 33).
-/
import Derived.Test.YtblgdfcijkaimaaBg11
import Derived.Test.YtblgdfcijkaimaaBg25
import Derived.Test.YtblgdfcijkaimaaBg30
import Derived.Test.YtblgdfcijkaimaaBg31
set_option linter.unusedVariables false
set_option linter.unusedSimpArgs false
namespace Go.Proofs.Ytblgdfcijkaimaa.Ab
set_option linter.unusedVariables false
set_option maxRecDepth 100000
open Go.RowKit Go.Lib
theorem bet_eq (a b : Adv) (x y : Int) : decide (ordT a b x y < 0) = betR a b x y := by
  cases h : betR a b x y with
  | true => exact decide_eq_true ((ordT_lt _ _ _ _).2 h)
  | false => exact decide_eq_false fun h2 => by rw [(ordT_lt _ _ _ _).1 h2] at h; cases h
def setPref (x : Adv) (v : Int) : Adv := { x with pref := v }
def setPfx (x : Adv) (p : Pfx) : Adv := { x with p := p }
theorem setPref_ok {x : Adv} {v : Int} (h : x.ok) (hv : okI v) : (setPref x v).ok := { h with pref := hv }
theorem setPfx_ok {x : Adv} {p : Pfx} (h : x.ok) (hv : p.ok) : (setPfx x p).ok := { h with p := hv }
theorem set_ok {M : List Adv} {i : Nat} {x : Adv} (h : ∀ y ∈ M, y.ok) (hx : x.ok) : ∀ y ∈ M.set i x, y.ok := fun y hy => by
  rcases List.mem_or_eq_of_mem_set hy with h1 | rfl
  · exact h y h1
  · exact hx
theorem advs_pref (M : List Adv) (i : Nat) (hi : i < M.length) (v : Int) : setW (M.flatMap advD) (i * 13 + 3) [iD v] = (M.set i (setPref M[i] v)).flatMap advD := setW_advs M i 3 hi _ _ (Nat.le_of_ble_eq_true rfl) rfl
theorem advs_pfx (M : List Adv) (i : Nat) (hi : i < M.length) (p : Pfx) : setW (M.flatMap advD) (i * 13) (pfxD p) = (M.set i (setPfx M[i] p)).flatMap advD := setW_advs M i 0 hi _ _ (Nat.le_of_ble_eq_true rfl) rfl
theorem min40 {α : Type} (l rest : List α) (hr : rest ≠ [] → l.length = 40) (hn : l.length ≤ 40) : (if (40 : Int) < ((l.length + rest.length : Nat) : Int) then (40 : Int) else ((l.length + rest.length : Nat) : Int)) = (l.length : Int) := by
  cases rest with
  | nil => simp; omega
  | cons b r => have := hr (by simp); simp; omega
set_option linter.unusedSimpArgs false
attribute [local irreducible] AWp AOps AQ AYield AEff ACall AWk AAny AAt AThen AIn APost NoPanic
set_option maxHeartbeats 64000000 in
theorem chooses_A (l rest : List Adv) (r rrest : List Rte) (ca cb : Int) (hl : ∀ x ∈ l, x.ok) (hr : ∀ x ∈ r, x.p.ok) (hn : l.length ≤ 40) (hrn : r.length ≤ 40) (hre : rest ≠ [] → l.length = 40) (hrre : rrest ≠ [] → r.length = 40) :
    ACall Try.prog 3 [.d (.sl (l.flatMap advD ++ rest.flatMap advD) (l.length + rest.length)), .d (.sl (r.flatMap rteD ++ rrest.flatMap rteD) (r.length + rrest.length)), intA ca, intA cb] [] (Just (boolA true)) := by
  have hm1 := min40 l rest hre hn
  have hm2 := min40 r rrest hrre hrn
  have hcp := (copyD_A l hl (by omega)).reid (id := 70) rfl
  refine ACall_of tabOk Try.func3 rfl Try.ntmps3 (congrArg Array.toList Try.results3) (by kernel_rfl) rfl ?_
  repeat (first | refine q_Z ?_ | refine R_quiet rfl mixed (by kernel_rfl) ?_ | ((first | apply O_y rfl rfl rfl | apply Q_y rfl rfl rfl); (first | exact q_A | exact q_5 | exact q_B | (first | exact R_min rfl rfl rfl hm1 | exact R_min rfl rfl rfl hm2 | exact R_sliceD tabOk rfl rfl rfl rfl rfl rfl (by omega)))) | refine q_d ?_ | refine q_a ?_ | refine q_b ?_ | refine q_c ?_ | refine A_ct rfl ?_ | refine A_cf rfl ?_ | refine q_W ?_)
  refine O_weaken (Wk_see (t := 30) rfl see_pfx) ?_
  refine O_weaken (Wk_see (t := 1) rfl see_pfx) ?_
  refine O_weaken (Wk_sel (e1 := [(1, rtesA r), (2, intA ca), (3, intA cb), (30, advsA l)]) (h1 := []) ⟨rfl, rfl, rfl, rfl, trivial⟩ trivial) ?_
  refine O_cRow rfl rfl rfl rfl rfl hcp rfl ?_
  repeat (first | refine q_Z ?_ | refine R_quiet rfl mixed (by kernel_rfl) ?_ | ((first | apply O_y rfl rfl rfl | apply Q_y rfl rfl rfl); (first | exact q_A | exact q_5 | exact q_B)) | refine q_d ?_ | refine q_a ?_ | refine q_b ?_ | refine q_c ?_ | refine A_ct rfl ?_ | refine A_cf rfl ?_ | refine q_W ?_)
  refine A_loop (fun s : Nat × List Adv => [(1, rtesA r), (2, intA ca), (3, intA cb), (9, .row 70), (10, intA (s.1 : Int))]) (fun s => [(70, aB s.2)]) (fun s => s.1 ≤ 2 ∧ s.2.length ≤ 40 ∧ ∀ x ∈ s.2, x.ok) (fun s => 2 - s.1) (0, l) ⟨Nat.zero_le _, hn, hl⟩ (by dsimp only; exact Wk_sel ⟨rfl, rfl, rfl, rfl, rfl, trivial⟩ ⟨rfl, trivial⟩) ?_
  clear hm1 hm2 hcp hl hn hre rest hrre rrest l
  rintro ⟨k, M⟩ ⟨hk2, hM, hok⟩
  dsimp only at hk2 hM hok
  try dsimp only
  by_cases hk : k < 2
  rotate_left
  ·
    repeat (first | refine q_Z ?_ | refine R_quiet rfl mixed (by kernel_rfl) ?_ | ((first | apply O_y rfl rfl rfl | apply Q_y rfl rfl rfl); (first | exact q_A | exact q_5 | exact q_B)) | refine q_d ?_ | refine q_a ?_ | refine q_b ?_ | refine q_c ?_ | refine A_ct rfl ?_ | refine A_cf rfl ?_ | refine q_W ?_)
    exact X_ret rfl ⟨rfl, rfl⟩
  have hcr := copyR_A M hok (by omega)
  have hsa := sameAdvs_A M hok (by omega)
  repeat (first | refine q_Z ?_ | refine R_quiet rfl mixed (by kernel_rfl) ?_ | ((first | apply O_y rfl rfl rfl | apply Q_y rfl rfl rfl); (first | exact q_A | exact q_5 | exact q_B)) | refine q_d ?_ | refine q_a ?_ | refine q_b ?_ | refine q_c ?_ | refine A_ct rfl ?_ | refine A_cf rfl ?_ | refine q_W ?_)
  refine O_cX (α := Unit) (C := fun _ => .row 3) (H1 := fun _ => [(3, aB M), (1000, aB M)]) (Φ := fun _ => True) [(1000, 70)] [(3, 71)] (fun p p' i h1 h2 => by rw [(look_oneB h1).1, (look_oneB h2).1]) (fun p i h1 => by rw [(look_oneB h1).1]; exact ⟨Nat.le_refl _, rfl, fun _ => rfl⟩) (fun p i h1 => by rw [(look_oneB h1).1, (look_oneB h1).2]; exact ⟨by decide, by decide, fun q h2 => by have := (look_oneB h2).2; omega⟩) (fun p p' i h1 h2 => by rw [(look_oneB h1).1, (look_oneB h2).1]) (by simp)
    (hcr.mono fun c h ⟨h1, h2⟩ => ⟨(), trivial, h1, h2⟩) rfl ⟨⟨70, _, rfl, rfl, rfl, trivial⟩, trivial⟩ rfl rfl rfl rfl rfl rfl fun _ _ => ?_
  refine O_weaken (Wk_freeze (id := 71) rfl) ?_
  repeat (first | refine q_Z ?_ | refine R_quiet rfl mixed (by kernel_rfl) ?_ | ((first | apply O_y rfl rfl rfl | apply Q_y rfl rfl rfl); (first | exact q_A | exact q_5 | exact q_B)) | refine q_d ?_ | refine q_a ?_ | refine q_b ?_ | refine q_c ?_ | refine A_ct rfl ?_ | refine A_cf rfl ?_ | refine q_W ?_)
  refine A_loop (fun i : Nat => [(1, rtesA r), (2, intA ca), (3, intA cb), (9, .row 70), (10, intA (k : Int)), (11, advsA M), (12, intA (i : Int))]) (fun _ => [(70, aB M)]) (fun i => i ≤ M.length) (fun i => M.length - i) 0 (Nat.zero_le _) (Wk_sel ⟨rfl, rfl, rfl, rfl, rfl, rfl, rfl, trivial⟩ ⟨rfl, trivial⟩) ?_
  intro i hi
  try dsimp only
  by_cases him : i < M.length
  · have h0 : 0 < M.length := by omega
    have wi := win_flat0 advD_len M i 13 him (by decide)
    have w0 := win_flat0 advD_len M 0 13 h0 (by decide)
    have hu := bgpUse_A M[i] (hok _ (List.getElem_mem him)) r hr (by omega)
    have hv := refUse_A M[i] (hok _ (List.getElem_mem him)) r hr (by omega)
    rw [use_eq] at hv
    have hb := better_A M[i] M[0] ca cb
    have hd := refBetter_A M[i] M[0] ca cb
    rw [bet_eq] at hb
    obtain ⟨bb, hbb⟩ : ∃ b, betR M[i] M[0] ca cb = b := ⟨_, rfl⟩
    rw [hbb] at hb hd
    obtain ⟨u, hu0⟩ : ∃ u, useP M[i] r = u := ⟨_, rfl⟩
    rw [hu0] at hu hv
    clear hu0 hbb
    obtain ⟨c, ok⟩ := u
    repeat (first | refine q_Z ?_ | refine R_quiet rfl mixed (by kernel_rfl) ?_ | ((first | apply O_y rfl rfl rfl | apply Q_y rfl rfl rfl); (first | exact q_A | exact R_loadi tabOk rfl rfl rfl rfl (by first | exact wi | exact w0 | rfl) rfl rfl | exact q_B | (first | exact q_25 | exact q_26 | exact q_20 | exact R_neBool tabOk rfl rfl rfl rfl | exact R_loade tabOk rfl rfl rfl rfl rfl rfl wi rfl rfl | exact R_loade tabOk rfl rfl rfl rfl rfl rfl w0 rfl rfl))) | refine q_d ?_ | refine q_a ?_ | refine q_b ?_ | refine q_c ?_ | refine A_ct rfl ?_ | refine A_cf rfl ?_ | refine q_W ?_ | (first | refine O_c rfl rfl rfl rfl rfl hu (fun _ => rfl) ?_ | refine O_c rfl rfl rfl rfl rfl hv (fun _ => rfl) ?_ | refine Q_c rfl rfl rfl rfl rfl hb rfl (fun _ _ _ => val_mk _ _ _ _ _ rfl rfl) ?_ | refine Q_c rfl rfl rfl rfl rfl hd rfl (fun _ _ _ => val_mk _ _ _ _ _ rfl rfl) ?_))
    exact ⟨i + 1, by omega, by omega, Wk_sel ⟨rfl, rfl, rfl, rfl, rfl, rfl, rfl, trivial⟩ ⟨rfl, trivial⟩⟩
  obtain rfl : i = M.length := by omega
  clear him hi
  repeat (first | refine q_Z ?_ | refine R_quiet rfl mixed (by kernel_rfl) ?_ | ((first | apply O_y rfl rfl rfl | apply Q_y rfl rfl rfl); (first | exact q_A | exact q_5 | exact q_B)) | refine q_d ?_ | refine q_a ?_ | refine q_b ?_ | refine q_c ?_ | refine A_ct rfl ?_ | refine A_cf rfl ?_ | refine q_W ?_)
  refine O_weaken (Wk_sel (e1 := [(1, rtesA r), (2, intA ca), (3, intA cb), (9, .row 70), (10, intA (k : Int)), (11, advsA M), (93, .row 70), (94, rtesA r)]) (h1 := [(70, aB M)]) ⟨rfl, rfl, rfl, rfl, rfl, rfl, rfl, rfl, trivial⟩ ⟨rfl, trivial⟩) ?_
  have hbest := (best_A M r hok hr (by omega) (by omega)).mono fun c h H => H.p
  have href := refBest_A M r hok hr (by omega) (by omega)
  refine O_cRN (α := List AdvR × Heap) (Φ := BestP r M) (C := fun _ => .row 3) (H1 := fun x => (3, rB x.1) :: x.2) (cs := [.row 70, rtesA r]) (cs' := [advsA M, rtesA r]) (.cons (.row 70 _ 13 M.length _ _ rfl (.refl _ _)) (.cons (.same _) .nil)) hbest (fun x hx => hx.q (by omega)) rfl rfl rfl rfl rfl fun x hx => ?_
  obtain ⟨R, G⟩ := x
  obtain ⟨m, β, q1, q2, q3, q4, q5, q6⟩ := hx
  dsimp only at q1 q2 q3 q4 q5 q6
  try dsimp only
  refine O_weaken (Wk_selG (e1 := [(1, rtesA r), (2, intA ca), (3, intA cb), (9, .row 70), (10, intA (k : Int)), (11, advsA M), (95, .row 3)]) (h1 := [(3, rB R), (70, aB M)]) (G := G) ⟨best_e q3 rfl rfl (fun _ _ => rfl), best_e q3 rfl rfl (fun _ _ => rfl), best_e q3 rfl rfl (fun _ _ => rfl), best_e q3 rfl rfl (fun j hj => by show (70 == j) = false; simp; omega), best_e q3 rfl rfl (fun _ _ => rfl), best_e q3 rfl rfl (fun _ _ => rfl), look_cons_same _ _ _, trivial⟩ ⟨look_cons_same _ _ _, best_70 q3, trivial⟩ (best_G q3)) ?_
  repeat (first | refine q_Z ?_ | refine R_quiet rfl mixed (by kernel_rfl) ?_ | ((first | apply O_y rfl rfl rfl | apply Q_y rfl rfl rfl); (first | exact q_A | exact q_5 | exact q_B)) | refine q_d ?_ | refine q_a ?_ | refine q_b ?_ | refine q_c ?_ | refine A_ct rfl ?_ | refine A_cf rfl ?_ | refine q_W ?_)
  refine O_cC (Φ := fun out => BestOk (useL r M) out) (C := fun out => advsA out) href (fun _ _ => rfl) rfl rfl rfl rfl rfl fun S hS => ?_
  have hRS := BestOk.uniq q1 hS
  have hlen : R.length = S.length := by rw [← hRS, List.length_map]
  have hSok : ∀ x ∈ S, x.ok := fun x hx => by
    obtain ⟨c, j, hj, _⟩ := (hS.mem x).1 hx
    exact hok x (useL_mem.1 (List.mem_of_getElem? hj)).1
  have hRok : ∀ (i : Nat) (hi : i < R.length), R[i].a.ok := fun i hi => hSok _ (by rw [← hRS]; exact List.mem_map.2 ⟨R[i], List.getElem_mem hi, rfl⟩)
  have hss := sameAdvs_A S hSok (by omega)
  have hrv1 : RawL ([(3, rB R), (70, aB M)] ++ G) [.row 3, advsA S] [advsA S, advsA S] := by
    refine .cons ?_ (.cons (.same _) .nil)
    show RawV _ _ (.d (.sl (S.flatMap advD) S.length))
    rw [← hlen]
    refine .row 3 _ 13 R.length _ _ rfl (RawDs.flat ?_)
    rw [← hRS]
    refine All2.of_map fun x hx => ?_
    obtain ⟨i, hi, rfl⟩ := List.mem_iff_getElem.1 hx
    exact (q5 i hi).2.raw (best_G2 q3)
  have hrv2 : RawL ([(3, rB R), (70, aB M)] ++ G) [.row 70, advsA M] [advsA M, advsA M] := .cons (.row 70 _ 13 M.length _ _ rfl (.refl _ _)) (.cons (.same _) .nil)
  have hrv3 : RawL [(70, aB M)] [.row 70, advsA M] [advsA M, advsA M] := .cons (.row 70 _ 13 M.length _ _ rfl (.refl _ _)) (.cons (.same _) .nil)
  repeat (first | refine q_Z ?_ | refine R_quiet rfl mixed (by kernel_rfl) ?_ | ((first | apply O_y rfl rfl rfl | apply Q_y rfl rfl rfl); (first | exact q_A | exact q_5 | exact q_B | (first | exact q_25 | exact q_26))) | refine q_d ?_ | refine q_a ?_ | refine q_b ?_ | refine q_c ?_ | refine A_ct rfl ?_ | refine A_cf rfl ?_ | refine q_W ?_ | (first | refine O_cR hrv1 hss rfl rfl rfl rfl rfl rfl (fun _ _ _ => val_mk _ _ _ _ _ rfl rfl) ?_ | refine O_cR hrv2 hsa rfl rfl rfl rfl rfl rfl (fun _ _ _ => val_mk _ _ _ _ _ rfl rfl) ?_))
  refine O_cAway (i0 := 3) (h2 := [(70, aB M)]) (gS R.length β) (if_pos rfl) (away_l q5 rfl (best_G2 q3) q3) (away_dom q5 (by omega)) (away_inj q6) (spoilB_A R (famS R 1001) (away_sp hRok) (by omega)) (away_2 rfl) rfl rfl rfl rfl rfl ?_
  repeat (first | refine q_Z ?_ | refine R_quiet rfl mixed (by kernel_rfl) ?_ | ((first | apply O_y rfl rfl rfl | apply Q_y rfl rfl rfl); (first | exact q_A | exact q_5 | exact q_B | (first | exact q_25 | exact q_26))) | refine q_d ?_ | refine q_a ?_ | refine q_b ?_ | refine q_c ?_ | refine A_ct rfl ?_ | refine A_cf rfl ?_ | refine q_W ?_ | (refine O_cR hrv3 hsa rfl rfl rfl rfl rfl rfl (fun _ _ _ => val_mk _ _ _ _ _ rfl rfl) ?_))
  refine A_loop (fun s : Nat × List Adv => [(1, rtesA r), (2, intA ca), (3, intA cb), (9, .row 70), (10, intA (k : Int)), (19, intA (s.1 : Int))]) (fun s => [(70, aB s.2)]) (fun s => s.1 ≤ s.2.length ∧ s.2.length ≤ 40 ∧ ∀ x ∈ s.2, x.ok) (fun s => s.2.length - s.1) (0, M) ⟨Nat.zero_le _, hM, hok⟩ (by dsimp only; exact Wk_sel ⟨rfl, rfl, rfl, rfl, rfl, rfl, trivial⟩ ⟨rfl, trivial⟩) ?_
  clear hrv1 hrv2 hrv3 hss hRok hSok hlen hRS hS S q1 q2 q3 q4 q5 q6 R G m β hbest href hcr hsa hM hok M
  rintro ⟨i, M⟩ ⟨hi, hM, hok⟩
  dsimp only at hi hM hok
  try dsimp only
  by_cases him : i < M.length
  · have hcl : (M.flatMap advD).length = M.length * 13 := flat_len advD_len M
    have hmu : (i + 1) * 13 ≤ M.length * 13 := Nat.mul_le_mul_right _ him
    have wi := win_flat advD_len M i 3 1 him (by decide)
    repeat (first | refine q_Z ?_ | refine R_quiet rfl mixed (by kernel_rfl) ?_ | ((first | apply O_y rfl rfl rfl | apply Q_y rfl rfl rfl); (first | exact q_A | exact q_5 | exact q_B | (first | exact R_loade tabOk rfl rfl rfl rfl rfl rfl wi rfl rfl | exact R_xor rfl rfl rfl rfl))) | refine q_d ?_ | refine q_a ?_ | refine q_b ?_ | refine q_c ?_ | refine A_ct rfl ?_ | refine A_cf rfl ?_ | refine q_W ?_)
    refine O_storee (ds := [iD (xorI M[i].pref 1)]) tabOk rfl rfl rfl rfl rfl rfl rfl rfl rfl rfl (by omega) (by omega) ?_
    have ho2 : ∀ y ∈ M.set i (setPref M[i] (xorI M[i].pref 1)), y.ok := set_ok hok (setPref_ok (hok _ (List.getElem_mem him)) (xorI_ok _ _))
    refine O_weaken (Wk_sel (e1 := [(1, rtesA r), (2, intA ca), (3, intA cb), (9, .row 70), (10, intA (k : Int)), (19, intA (i : Int))]) (h1 := [(70, aB (M.set i (setPref M[i] (xorI M[i].pref 1))))]) ⟨rfl, rfl, rfl, rfl, rfl, rfl, trivial⟩ ⟨row_eq (List.length_set ..).symm (advs_pref M i him _) rfl, trivial⟩) ?_
    have hln : (M.set i (setPref M[i] (xorI M[i].pref 1))).length = M.length := List.length_set ..
    obtain ⟨M2, hM2⟩ : ∃ M2, M.set i (setPref M[i] (xorI M[i].pref 1)) = M2 := ⟨_, rfl⟩
    rw [hM2] at ho2 hln ⊢
    clear hM2 hcl wi hok
    have him2 : i < M2.length := by omega
    have h02 : 0 < M2.length := by omega
    have hcl : (M2.flatMap advD).length = M2.length * 13 := flat_len advD_len M2
    have w0 := win_flat advD_len M2 0 0 2 h02 (by decide)
    repeat (first | refine q_Z ?_ | refine R_quiet rfl mixed (by kernel_rfl) ?_ | ((first | apply O_y rfl rfl rfl | apply Q_y rfl rfl rfl); (first | exact q_A | exact q_5 | exact q_B | (exact R_loade tabOk rfl rfl rfl rfl rfl rfl w0 rfl rfl))) | refine q_d ?_ | refine q_a ?_ | refine q_b ?_ | refine q_c ?_ | refine A_ct rfl ?_ | refine A_cf rfl ?_ | refine q_W ?_)
    refine O_storee (ds := pfxD M2[0].p) tabOk rfl rfl rfl rfl rfl rfl rfl rfl rfl rfl (by omega) (by omega) ?_
    repeat (first | refine q_Z ?_ | refine R_quiet rfl mixed (by kernel_rfl) ?_ | ((first | apply O_y rfl rfl rfl | apply Q_y rfl rfl rfl); (first | exact q_A | exact q_5 | exact q_B)) | refine q_d ?_ | refine q_a ?_ | refine q_b ?_ | refine q_c ?_ | refine A_ct rfl ?_ | refine A_cf rfl ?_ | refine q_W ?_)
    exact ⟨(i + 1, M2.set i (setPfx M2[i] M2[0].p)), ⟨by dsimp only; rw [List.length_set]; omega, by dsimp only; rw [List.length_set]; omega, set_ok ho2 (setPfx_ok (ho2 _ (List.getElem_mem him2)) (ho2 _ (List.getElem_mem h02)).p)⟩, by dsimp only; rw [List.length_set]; omega, by dsimp only; exact Wk_sel ⟨rfl, rfl, rfl, rfl, rfl, rfl, trivial⟩ ⟨row_eq (List.length_set ..).symm (advs_pfx M2 i him2 _) rfl, trivial⟩⟩
  · obtain rfl : i = M.length := by omega
    repeat (first | refine q_Z ?_ | refine R_quiet rfl mixed (by kernel_rfl) ?_ | ((first | apply O_y rfl rfl rfl | apply Q_y rfl rfl rfl); (first | exact q_A | exact q_5 | exact q_B)) | refine q_d ?_ | refine q_a ?_ | refine q_b ?_ | refine q_c ?_ | refine A_ct rfl ?_ | refine A_cf rfl ?_ | refine q_W ?_)
    exact ⟨(k + 1, M), ⟨by dsimp only; omega, hM, hok⟩, by dsimp only; omega, by dsimp only; exact Wk_sel ⟨rfl, rfl, rfl, rfl, rfl, trivial⟩ ⟨rfl, trivial⟩⟩
end Go.Proofs.Ytblgdfcijkaimaa.Ab

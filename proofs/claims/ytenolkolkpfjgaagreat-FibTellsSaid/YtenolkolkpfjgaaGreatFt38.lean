/-
  Texts of a proof, one behind the other (part 39).
-/
import Derived.Test.YtenolkolkpfjgaaGreatFt8
import Derived.Test.YtenolkolkpfjgaaGreatFt37
set_option linter.unusedVariables false
set_option linter.unusedSimpArgs false
namespace Go.Proofs.YtenolkolkpfjgaaGreat.Ab
set_option linter.unusedVariables false
set_option maxRecDepth 100000
open Go.RowKit Go.Lib
section
variable {P : Program} {nt : Nat} {Q : Post} {e : Env} {h : Heap} {ops : Array Oper} {o : Oper} {rest : List Oper} {T : List Nat} {tab : TTab} {fuel i : Nat} {listed : Array Bool}
theorem T_cM {f : FuncId} {args : Array Operand} {ats : Array TypeId} {cs0 cs : List AVal} {d id j el k n el0 k0 n0 : Nat} {ds0 ds : List Dat} (hi : ops[i]? = some o) (hw : awant ops e o = some true) (hdst : o.dst = some d) (hd : Nat.blt d nt = true) (ho : o.op = .call { callee := .value (.func f), args := args, argTypes := ats }) (hx : aevs e args.toList = some cs0)
    (H : ACall P f cs [(1000, .row el0 k0 n0 ds0)] (fun c h' => c = .row j ∧ h' = [(j, .row el k n ds)])) (hcs : cs.map (renV [(1000, id)]) = cs0) (hok : ∀ c ∈ cs, okV [(1000, id)] c = true) (hb : look h id = some (.row el0 k0 n0 ds0)) (hid : Nat.blt id 1000 = true) (hT : T.contains id = true)
    (HK : AAny P nt ops Q T fuel (listed.setIfInBounds i true) ((d, .row id) :: killE id e) ((id, .row el k n ds) :: killH id h)) : AAt P nt ops Q T fuel listed i e h :=
  T_eff hi hw (E_callM (d := some d) ho hdst hx hcs hok hb H hid hd hT) fun e' h' ⟨h1, h2⟩ => by subst h1 h2; exact HK
end
theorem ofP_good {l : List Rte} {p : Pfx} (hp : chk p = 0) : ofP (goodL l) p = l.filter fun r => decide (r.p = p) := by
  unfold ofP goodL
  rw [List.filter_filter]
  refine List.filter_congr fun r _ => ?_
  by_cases h : r.p = p
  · simp [h, hp]
  · simp [h]
theorem filt_take {α : Type} (f : α → Bool) (l : List α) (i : Nat) (h : i < l.length) : (l.take (i + 1)).filter f = (l.take i).filter f ++ if f l[i] = true then [l[i]] else [] := by
  rw [List.take_succ_eq_append_getElem h, List.filter_append]
  congr 1
  simp only [List.filter_cons, List.filter_nil]
theorem sortH_app (X Y : List Hp) : sortU ordH (sortU ordH X ++ Y) = sortU ordH (X ++ Y) := sortU_ext good_ordH ordH_eq fun x => by rw [List.mem_append, List.mem_append, sortU_mem]
set_option linter.unusedSimpArgs false
attribute [local irreducible] AWp AOps AQ AYield AEff ACall AWk AAny AAt AThen AIn APost NoPanic
set_option maxHeartbeats 16000000 in
theorem refOne_A (l : List Rte) (p : Pfx) (hp : chk p = 0) (hok : ∀ s ∈ l, okR s) (hh : ∀ s ∈ l, 0 ≤ s.h ∧ s.h < 4294967296) (hn : l.length ≤ 80) :
    ACall Tryz.prog 17 [rtesA l, pfxA p] [] (Just (.tup [entA (entOf l p), boolA (liveE (entOf l p))])) := by
  have hent : entOf l p = ⟨p, (l.filter fun r => decide (r.p = p)).any (·.x), if (l.filter fun r => decide (r.p = p)).any (·.x) then [] else sortU ordH ((l.filter fun r => decide (r.p = p)).flatMap (ledH l))⟩ := by unfold entOf; rw [ofP_good hp]
  rw [hent]
  clear hent
  have hLs : ∀ (R : List Rte), R.length ≤ 80 → (R.flatMap (ledH l)).length ≤ 80 * 6481 := fun R hR => by
    have hsq : (l.length + 1) * l.length + 1 ≤ 6481 := by
      have : (l.length + 1) * l.length ≤ 81 * 80 := Nat.mul_le_mul (by omega) hn
      omega
    exact Nat.le_trans (flat_le _ 6481 _ fun s _ => Nat.le_trans (ledH_len l s) hsq) (Nat.mul_le_mul_right _ hR)
  obtain ⟨pa, pb⟩ := p
  refine ACall_of tabOk Tryz.func17 rfl Tryz.ntmps17 (congrArg Array.toList Tryz.results17) (by kernel_rfl) rfl ?_
  repeat (first | refine q_Z ?_ | refine R_quiet rfl mixed (by kernel_rfl) ?_ | ((first | apply O_y rfl rfl rfl | apply Q_y rfl rfl rfl); (first | exact q_A | exact q_5 | exact q_B)) | refine q_d ?_ | refine q_a ?_ | refine q_b ?_ | refine q_c ?_ | refine A_ct rfl ?_ | refine A_cf rfl ?_ | refine q_W ?_)
  refine A_weaken (Wk_nilC (b := 6) (id := 960) (i := 3) 77 2 rfl rfl rfl rfl) ?_
  refine A_loop (fun i : Nat => [(0, rtesA l), (3, .ptr 3 0), (4, .ptr 4 0), (6, .ptr 6 0), (7, intA (i : Int))]) (fun i => [(3, .var [.d (.sc (.int .u32 pa)), .d (.sc (.int .i64 pb))]), (4, .var [.d (.sc (.int .u32 0)), .d (.sc (.int .i64 0)), .d (.sc (.bool false)), .d (.sc (.slice none 0 0))]), (6, .var [.d (.sc (.int .u32 pa)), .d (.sc (.int .i64 pb)), .d (.sc (.bool false)), .row 960]), (960, hop2B (sortU ordH (((l.take i).filter fun r => decide (r.p = ⟨pa, pb⟩)).flatMap (ledH l))))]) (fun i => i ≤ l.length ∧ ((l.take i).filter fun r => decide (r.p = ⟨pa, pb⟩)).any (·.x) = false) (fun i => l.length - i) 0 ⟨Nat.zero_le _, rfl⟩ (Wk_sel ⟨rfl, rfl, rfl, rfl, rfl, trivial⟩ ⟨rfl, rfl, rfl, (by rw [List.take_zero, List.filter_nil, List.flatMap_nil, sortU_nil]; rfl), trivial⟩) ?_
  rintro i ⟨hi, hx⟩
  try dsimp only
  by_cases hil : i < l.length
  · have hft := filt_take (fun r => decide (r.p = ⟨pa, pb⟩)) l i hil
    have hpe := pfxEq l[i].p ⟨pa, pb⟩
    by_cases hpi : l[i].p = ⟨pa, pb⟩
    rotate_left
    · rw [if_neg (by simpa using hpi), List.append_nil] at hft
      rw [show (l[i].p == (⟨pa, pb⟩ : Pfx)) = false by simp [hpi]] at hpe
      repeat (first | refine q_Z ?_ | refine R_quiet rfl mixed (by kernel_rfl) ?_ | ((first | apply O_y rfl rfl rfl | apply Q_y rfl rfl rfl); (first | exact q_A | exact R_loadi tabOk rfl rfl rfl rfl (by first | exact win_flat0 rteD_len l i _ hil (by decide) | exact win_flat rteD_len l i _ _ hil (by decide) | exact win_flat2 rteD_len l i _ _ _ hil (by decide) | rfl) rfl rfl | exact q_B | (first | (first | exact q_25 | exact q_26 | exact q_20) | exact Y_eq tabOk noStand rfl rfl rfl rfl rfl rfl rfl rfl rfl (by kernel_rfl) hpe rfl))) | refine q_d ?_ | refine q_a ?_ | refine q_b ?_ | refine q_c ?_ | refine A_ct rfl ?_ | refine A_cf rfl ?_ | refine q_W ?_)
      exact ⟨i + 1, ⟨by omega, by rw [hft]; exact hx⟩, by omega, by rw [hft]; exact Wk_sel ⟨rfl, rfl, rfl, rfl, rfl, trivial⟩ ⟨rfl, rfl, rfl, rfl, trivial⟩⟩
    rw [if_pos (by simpa using hpi)] at hft
    rw [show (l[i].p == (⟨pa, pb⟩ : Pfx)) = true by simp [hpi]] at hpe
    have hlm := List.getElem_mem hil
    cases hxi : l[i].x with
    | true =>
      have hany : (l.filter fun r => decide (r.p = ⟨pa, pb⟩)).any (·.x) = true := List.any_eq_true.2 ⟨l[i], List.mem_filter.2 ⟨hlm, by simpa using hpi⟩, hxi⟩
      rw [hany, if_pos rfl]
      repeat (first | refine q_Z ?_ | refine R_quiet rfl mixed (by kernel_rfl) ?_ | ((first | apply O_y rfl rfl rfl | apply Q_y rfl rfl rfl); (first | exact q_A | exact R_loadi tabOk rfl rfl rfl rfl (by first | exact win_flat0 rteD_len l i _ hil (by decide) | exact win_flat rteD_len l i _ _ hil (by decide) | exact win_flat2 rteD_len l i _ _ _ hil (by decide) | rfl) rfl rfl | exact q_B | (first | (first | exact q_25 | exact q_26 | exact q_20) | exact Y_eq tabOk noStand rfl rfl rfl rfl rfl rfl rfl rfl rfl (by kernel_rfl) hpe rfl))) | refine q_d ?_ | refine q_a ?_ | refine q_b ?_ | refine q_c ?_ | refine A_ct rfl ?_ | refine A_cf rfl ?_ | refine q_W ?_)
      exact X_retW (Wk_seeC (b := 4) (i := 3) rfl rfl) rfl (h2 := []) trivial ⟨rfl, rfl⟩
    | false =>
      have hxn : (((l.take (i + 1)).filter fun r => decide (r.p = ⟨pa, pb⟩)).any (·.x)) = false := by rw [hft, List.any_append, hx]; simp [hxi]
      have hled := refLed_A l l[i] hok (fun s hs => (List.mem_cons.1 hs).elim (fun h => by rw [h]; exact hh _ hlm) (hh s)) hn
      have hRl : (((l.take i).filter fun r => decide (r.p = ⟨pa, pb⟩)).flatMap (ledH l)).length ≤ 80 * 6481 := hLs _ (Nat.le_trans (List.length_filter_le _ _) (by rw [List.length_take]; omega))
      have hHl : (ledH l l[i]).length ≤ 6481 := by
        have h1 := ledH_len l l[i]
        have : (l.length + 1) * l.length ≤ 81 * 80 := Nat.mul_le_mul (by omega) hn
        omega
      have hnx : ((l.take (i + 1)).filter fun r => decide (r.p = ⟨pa, pb⟩)).flatMap (ledH l) = ((l.take i).filter fun r => decide (r.p = ⟨pa, pb⟩)).flatMap (ledH l) ++ ledH l l[i] := by rw [hft, List.flatMap_append]; simp
      obtain ⟨B, hB⟩ : ∃ B, ((l.take i).filter fun r => decide (r.p = ⟨pa, pb⟩)).flatMap (ledH l) = B := ⟨_, rfl⟩
      rw [hB] at hRl hnx ⊢
      obtain ⟨hs, hhs⟩ : ∃ hs, ledH l l[i] = hs := ⟨_, rfl⟩
      rw [hhs] at hled hHl hnx
      repeat (first | refine q_Z ?_ | refine R_quiet rfl mixed (by kernel_rfl) ?_ | ((first | apply O_y rfl rfl rfl | apply Q_y rfl rfl rfl); (first | exact q_A | exact R_loadi tabOk rfl rfl rfl rfl (by first | exact win_flat0 rteD_len l i _ hil (by decide) | exact win_flat rteD_len l i _ _ hil (by decide) | exact win_flat2 rteD_len l i _ _ _ hil (by decide) | rfl) rfl rfl | exact q_B | (first | (first | exact q_25 | exact q_26 | exact q_20) | exact Y_eq tabOk noStand rfl rfl rfl rfl rfl rfl rfl rfl rfl (by kernel_rfl) hpe rfl))) | refine q_d ?_ | refine q_a ?_ | refine q_b ?_ | refine q_c ?_ | refine A_ct rfl ?_ | refine A_cf rfl ?_ | refine q_W ?_)
      refine O_cRow rfl rfl rfl rfl rfl hled rfl ?_
      refine O_weaken (Wk_freeze (id := 950) rfl) ?_
      repeat (first | refine q_Z ?_ | refine R_quiet rfl mixed (by kernel_rfl) ?_ | ((first | apply O_y rfl rfl rfl | apply Q_y rfl rfl rfl); (first | exact q_A | exact q_5 | exact q_B)) | refine q_d ?_ | refine q_a ?_ | refine q_b ?_ | refine q_c ?_ | refine A_ct rfl ?_ | refine A_cf rfl ?_ | refine q_W ?_)
      refine A_loop (fun k : Nat => [(0, rtesA l), (3, .ptr 3 0), (4, .ptr 4 0), (6, .ptr 6 0), (7, intA (i : Int)), (8, hopsA hs), (9, intA (k : Int))]) (fun k => [(3, .var [.d (.sc (.int .u32 pa)), .d (.sc (.int .i64 pb))]), (4, .var [.d (.sc (.int .u32 0)), .d (.sc (.int .i64 0)), .d (.sc (.bool false)), .d (.sc (.slice none 0 0))]), (6, .var [.d (.sc (.int .u32 pa)), .d (.sc (.int .i64 pb)), .d (.sc (.bool false)), .row 960]), (960, hop2B (sortU ordH (B ++ hs.take k)))]) (fun k => k ≤ hs.length) (fun k => hs.length - k) 0 (Nat.zero_le _) (Wk_sel ⟨rfl, rfl, rfl, rfl, rfl, rfl, rfl, trivial⟩ ⟨rfl, rfl, rfl, (by rw [List.take_zero, List.append_nil]; rfl), trivial⟩) ?_
      intro k hk
      try dsimp only
      by_cases hkl : k < hs.length
      · have hOk : sortU ordH (B ++ hs.take (k + 1)) = sortU ordH (sortU ordH (B ++ hs.take k) ++ [hs[k]]) := by rw [sortH_app, List.take_succ_eq_append_getElem hkl, List.append_assoc]
        have hOl : (sortU ordH (B ++ hs.take k)).length ≤ 1000000 := Nat.le_trans (sortU_len _) (by rw [List.length_append, List.length_take]; omega)
        have hput := refPut_A (sortU ordH (B ++ hs.take k)) (sortU_rising good_ordH ordH_eq _) hs[k] hOl
        have hw := win_flat0 hopD_len hs k 2 hkl (by decide)
        obtain ⟨O, hO⟩ : ∃ O, sortU ordH (B ++ hs.take k) = O := ⟨_, rfl⟩
        rw [hO] at hOk hput ⊢
        repeat (first | refine q_Z ?_ | ((first | apply O_y rfl rfl rfl | apply Q_y rfl rfl rfl); (first | exact q_A | exact q_5 | exact q_B)) | refine q_d ?_ | refine q_a ?_ | refine q_b ?_ | refine q_c ?_ | refine A_ct rfl ?_ | refine A_cf rfl ?_ | refine q_W ?_)
        refine N_begin [6, 960] mixed ?_
        (apply q_P 0 rfl (by kernel_rfl) rfl rfl rfl; (first | exact q_A | exact q_5 | exact q_B | fail))
        (apply q_P 2 rfl (by kernel_rfl) rfl rfl rfl; (first | exact q_A | exact q_5 | exact q_B | fail))
        (apply q_P 3 rfl (by kernel_rfl) rfl rfl rfl; (first | exact q_A | exact q_5 | exact q_B | fail))
        (apply q_P 4 rfl (by kernel_rfl) rfl rfl rfl; (first | exact q_A | exact q_5 | exact q_B | fail))
        refine N_two (j := 1) (k := 5) (by kernel_rfl) ?_ ?_
        · apply T_yield rfl rfl rfl rfl ((by first | exact q_7 | exact q_19))
          refine N_one (j := 5) (by kernel_rfl) ?_
          apply T_yield rfl rfl rfl rfl (by exact R_loadi tabOk rfl rfl rfl rfl hw rfl rfl)
          refine N_one (j := 6) (by kernel_rfl) ?_
          refine T_cM rfl rfl rfl rfl rfl rfl hput rfl (fun c hc => by simp at hc; rcases hc with rfl | rfl <;> rfl) rfl rfl rfl ?_
          (apply q_P 7 rfl (by kernel_rfl) rfl rfl rfl; (first | exact q_A | exact q_5 | exact q_B | fail))
          refine N_one (j := 8) (by kernel_rfl) ?_
          refine T_store tabOk rfl rfl rfl rfl rfl rfl rfl rfl rfl rfl rfl rfl rfl ?_
          refine N_done (by kernel_rfl) ?_
          repeat (first | refine q_Z ?_ | ((first | apply O_y rfl rfl rfl | apply Q_y rfl rfl rfl); (first | exact q_A | exact q_5 | exact q_B)) | refine q_d ?_ | refine q_a ?_ | refine q_b ?_ | refine q_c ?_ | refine A_ct rfl ?_ | refine A_cf rfl ?_ | refine q_W ?_)
          exact ⟨k + 1, by omega, by omega, Wk_sel ⟨rfl, rfl, rfl, rfl, rfl, rfl, rfl, trivial⟩ ⟨rfl, rfl, rfl, (by rw [hOk]; rfl), trivial⟩⟩
        · apply T_yield rfl rfl rfl rfl (by exact R_loadi tabOk rfl rfl rfl rfl hw rfl rfl)
          refine N_one (j := 1) (by kernel_rfl) ?_
          apply T_yield rfl rfl rfl rfl ((by first | exact q_7 | exact q_19))
          refine N_one (j := 6) (by kernel_rfl) ?_
          refine T_cM rfl rfl rfl rfl rfl rfl hput rfl (fun c hc => by simp at hc; rcases hc with rfl | rfl <;> rfl) rfl rfl rfl ?_
          (apply q_P 7 rfl (by kernel_rfl) rfl rfl rfl; (first | exact q_A | exact q_5 | exact q_B | fail))
          refine N_one (j := 8) (by kernel_rfl) ?_
          refine T_store tabOk rfl rfl rfl rfl rfl rfl rfl rfl rfl rfl rfl rfl rfl ?_
          refine N_done (by kernel_rfl) ?_
          repeat (first | refine q_Z ?_ | ((first | apply O_y rfl rfl rfl | apply Q_y rfl rfl rfl); (first | exact q_A | exact q_5 | exact q_B)) | refine q_d ?_ | refine q_a ?_ | refine q_b ?_ | refine q_c ?_ | refine A_ct rfl ?_ | refine A_cf rfl ?_ | refine q_W ?_)
          exact ⟨k + 1, by omega, by omega, Wk_sel ⟨rfl, rfl, rfl, rfl, rfl, rfl, rfl, trivial⟩ ⟨rfl, rfl, rfl, (by rw [hOk]; rfl), trivial⟩⟩
      · obtain rfl : k = hs.length := by omega
        rw [List.take_length]
        repeat (first | refine q_Z ?_ | refine R_quiet rfl mixed (by kernel_rfl) ?_ | ((first | apply O_y rfl rfl rfl | apply Q_y rfl rfl rfl); (first | exact q_A | exact q_5 | exact q_B)) | refine q_d ?_ | refine q_a ?_ | refine q_b ?_ | refine q_c ?_ | refine A_ct rfl ?_ | refine A_cf rfl ?_ | refine q_W ?_)
        exact ⟨i + 1, ⟨by omega, hxn⟩, by omega, by rw [hnx]; exact Wk_sel ⟨rfl, rfl, rfl, rfl, rfl, trivial⟩ ⟨rfl, rfl, rfl, rfl, trivial⟩⟩
  · obtain rfl : i = l.length := by omega
    rw [List.take_length] at hx ⊢
    rw [hx, if_neg (by simp)]
    unfold liveE
    dsimp only
    obtain ⟨O, hO⟩ : ∃ O, sortU ordH ((l.filter fun r => decide (r.p = ⟨pa, pb⟩)).flatMap (ledH l)) = O := ⟨_, rfl⟩
    rw [hO]
    by_cases h0 : 0 < O.length
    · rw [decide_eq_true h0]
      repeat (first | refine q_Z ?_ | refine R_quiet rfl mixed (by kernel_rfl) ?_ | ((first | apply O_y rfl rfl rfl | apply Q_y rfl rfl rfl); (first | exact q_A | exact q_5 | exact q_B)) | refine q_d ?_ | refine q_a ?_ | refine q_b ?_ | refine q_c ?_ | refine A_ct rfl ?_ | refine A_cf rfl ?_ | refine q_W ?_)
      refine N_begin [4] mixed ?_
      (apply q_P 1 rfl (by kernel_rfl) rfl rfl rfl; (first | exact q_A | exact q_5 | exact q_B | fail))
      refine N_two (j := 0) (k := 2) (by kernel_rfl) ?_ ?_
      · apply T_yield rfl rfl rfl rfl ((by first | exact q_7 | exact q_19))
        refine N_two (j := 2) (k := 5) (by kernel_rfl) ?_ ?_
        · apply T_yield rfl rfl rfl rfl ((by first | exact q_7 | exact q_19))
          (apply q_P 3 rfl (by kernel_rfl) rfl rfl rfl; (first | exact q_A | exact q_5 | exact q_B | fail))
          (apply q_P 4 rfl (by kernel_rfl) rfl rfl rfl; (first | exact q_A | exact q_5 | exact q_B | fail))
          refine N_one (j := 5) (by kernel_rfl) ?_
          refine T_store tabOk rfl rfl rfl rfl rfl rfl rfl rfl rfl rfl rfl rfl rfl ?_
          (apply q_P 6 rfl (by kernel_rfl) rfl rfl rfl; (first | exact q_A | exact q_5 | exact q_B | fail))
          refine N_done (by kernel_rfl) ?_
          repeat (first | refine q_Z ?_ | ((first | apply O_y rfl rfl rfl | apply Q_y rfl rfl rfl); (first | exact q_A | exact q_5 | exact q_B)) | refine q_d ?_ | refine q_a ?_ | refine q_b ?_ | refine q_c ?_ | refine A_ct rfl ?_ | refine A_cf rfl ?_ | refine q_W ?_)
          exact X_retW (Wk_freeze (id := 960) rfl) rfl (h2 := []) trivial ⟨rfl, rfl⟩
        · refine T_store tabOk rfl rfl rfl rfl rfl rfl rfl rfl rfl rfl rfl rfl rfl ?_
          refine N_one (j := 2) (by kernel_rfl) ?_
          apply T_yield rfl rfl rfl rfl ((by first | exact q_7 | exact q_19))
          (apply q_P 3 rfl (by kernel_rfl) rfl rfl rfl; (first | exact q_A | exact q_5 | exact q_B | fail))
          (apply q_P 4 rfl (by kernel_rfl) rfl rfl rfl; (first | exact q_A | exact q_5 | exact q_B | fail))
          (apply q_P 6 rfl (by kernel_rfl) rfl rfl rfl; (first | exact q_A | exact q_5 | exact q_B | fail))
          refine N_done (by kernel_rfl) ?_
          repeat (first | refine q_Z ?_ | ((first | apply O_y rfl rfl rfl | apply Q_y rfl rfl rfl); (first | exact q_A | exact q_5 | exact q_B)) | refine q_d ?_ | refine q_a ?_ | refine q_b ?_ | refine q_c ?_ | refine A_ct rfl ?_ | refine A_cf rfl ?_ | refine q_W ?_)
          exact X_retW (Wk_freeze (id := 960) rfl) rfl (h2 := []) trivial ⟨rfl, rfl⟩
      · apply T_yield rfl rfl rfl rfl ((by first | exact q_7 | exact q_19))
        (apply q_P 3 rfl (by kernel_rfl) rfl rfl rfl; (first | exact q_A | exact q_5 | exact q_B | fail))
        (apply q_P 4 rfl (by kernel_rfl) rfl rfl rfl; (first | exact q_A | exact q_5 | exact q_B | fail))
        refine N_one (j := 0) (by kernel_rfl) ?_
        apply T_yield rfl rfl rfl rfl ((by first | exact q_7 | exact q_19))
        refine N_one (j := 5) (by kernel_rfl) ?_
        refine T_store tabOk rfl rfl rfl rfl rfl rfl rfl rfl rfl rfl rfl rfl rfl ?_
        (apply q_P 6 rfl (by kernel_rfl) rfl rfl rfl; (first | exact q_A | exact q_5 | exact q_B | fail))
        refine N_done (by kernel_rfl) ?_
        repeat (first | refine q_Z ?_ | ((first | apply O_y rfl rfl rfl | apply Q_y rfl rfl rfl); (first | exact q_A | exact q_5 | exact q_B)) | refine q_d ?_ | refine q_a ?_ | refine q_b ?_ | refine q_c ?_ | refine A_ct rfl ?_ | refine A_cf rfl ?_ | refine q_W ?_)
        exact X_retW (Wk_freeze (id := 960) rfl) rfl (h2 := []) trivial ⟨rfl, rfl⟩
    · rw [decide_eq_false h0]
      repeat (first | refine q_Z ?_ | refine R_quiet rfl mixed (by kernel_rfl) ?_ | ((first | apply O_y rfl rfl rfl | apply Q_y rfl rfl rfl); (first | exact q_A | exact q_5 | exact q_B)) | refine q_d ?_ | refine q_a ?_ | refine q_b ?_ | refine q_c ?_ | refine A_ct rfl ?_ | refine A_cf rfl ?_ | refine q_W ?_)
      refine N_begin [4] mixed ?_
      (apply q_P 1 rfl (by kernel_rfl) rfl rfl rfl; (first | exact q_A | exact q_5 | exact q_B | fail))
      refine N_two (j := 0) (k := 2) (by kernel_rfl) ?_ ?_
      · apply T_yield rfl rfl rfl rfl ((by first | exact q_7 | exact q_19))
        refine N_two (j := 2) (k := 5) (by kernel_rfl) ?_ ?_
        · apply T_yield rfl rfl rfl rfl ((by first | exact q_7 | exact q_19))
          (apply q_P 3 rfl (by kernel_rfl) rfl rfl rfl; (first | exact q_A | exact q_5 | exact q_B | fail))
          (apply q_P 4 rfl (by kernel_rfl) rfl rfl rfl; (first | exact q_A | exact q_5 | exact q_B | fail))
          refine N_one (j := 5) (by kernel_rfl) ?_
          refine T_store tabOk rfl rfl rfl rfl rfl rfl rfl rfl rfl rfl rfl rfl rfl ?_
          (apply q_P 6 rfl (by kernel_rfl) rfl rfl rfl; (first | exact q_A | exact q_5 | exact q_B | fail))
          refine N_done (by kernel_rfl) ?_
          repeat (first | refine q_Z ?_ | ((first | apply O_y rfl rfl rfl | apply Q_y rfl rfl rfl); (first | exact q_A | exact q_5 | exact q_B)) | refine q_d ?_ | refine q_a ?_ | refine q_b ?_ | refine q_c ?_ | refine A_ct rfl ?_ | refine A_cf rfl ?_ | refine q_W ?_)
          exact X_retW (Wk_freeze (id := 960) rfl) rfl (h2 := []) trivial ⟨rfl, rfl⟩
        · refine T_store tabOk rfl rfl rfl rfl rfl rfl rfl rfl rfl rfl rfl rfl rfl ?_
          refine N_one (j := 2) (by kernel_rfl) ?_
          apply T_yield rfl rfl rfl rfl ((by first | exact q_7 | exact q_19))
          (apply q_P 3 rfl (by kernel_rfl) rfl rfl rfl; (first | exact q_A | exact q_5 | exact q_B | fail))
          (apply q_P 4 rfl (by kernel_rfl) rfl rfl rfl; (first | exact q_A | exact q_5 | exact q_B | fail))
          (apply q_P 6 rfl (by kernel_rfl) rfl rfl rfl; (first | exact q_A | exact q_5 | exact q_B | fail))
          refine N_done (by kernel_rfl) ?_
          repeat (first | refine q_Z ?_ | ((first | apply O_y rfl rfl rfl | apply Q_y rfl rfl rfl); (first | exact q_A | exact q_5 | exact q_B)) | refine q_d ?_ | refine q_a ?_ | refine q_b ?_ | refine q_c ?_ | refine A_ct rfl ?_ | refine A_cf rfl ?_ | refine q_W ?_)
          exact X_retW (Wk_freeze (id := 960) rfl) rfl (h2 := []) trivial ⟨rfl, rfl⟩
      · apply T_yield rfl rfl rfl rfl ((by first | exact q_7 | exact q_19))
        (apply q_P 3 rfl (by kernel_rfl) rfl rfl rfl; (first | exact q_A | exact q_5 | exact q_B | fail))
        (apply q_P 4 rfl (by kernel_rfl) rfl rfl rfl; (first | exact q_A | exact q_5 | exact q_B | fail))
        refine N_one (j := 0) (by kernel_rfl) ?_
        apply T_yield rfl rfl rfl rfl ((by first | exact q_7 | exact q_19))
        refine N_one (j := 5) (by kernel_rfl) ?_
        refine T_store tabOk rfl rfl rfl rfl rfl rfl rfl rfl rfl rfl rfl rfl rfl ?_
        (apply q_P 6 rfl (by kernel_rfl) rfl rfl rfl; (first | exact q_A | exact q_5 | exact q_B | fail))
        refine N_done (by kernel_rfl) ?_
        repeat (first | refine q_Z ?_ | ((first | apply O_y rfl rfl rfl | apply Q_y rfl rfl rfl); (first | exact q_A | exact q_5 | exact q_B)) | refine q_d ?_ | refine q_a ?_ | refine q_b ?_ | refine q_c ?_ | refine A_ct rfl ?_ | refine A_cf rfl ?_ | refine q_W ?_)
        exact X_retW (Wk_freeze (id := 960) rfl) rfl (h2 := []) trivial ⟨rfl, rfl⟩
end Go.Proofs.YtenolkolkpfjgaaGreat.Ab

/-
  Texts of a proof, one behind the other (part 40).
-/
import Derived.Test.YtmljmahlpcdhoaaPc2
import Derived.Test.YtmljmahlpcdhoaaPc38
set_option linter.unusedVariables false
set_option linter.unusedSimpArgs false
namespace Go.Proofs.Ytmljmahlpcdhoaa
set_option linter.unusedVariables false
set_option maxRecDepth 100000
open Go.RowKit Go.Lib
def noneC (q a : Int) : Cls := ⟨q, a, [], [], -1, -1, -1, -1, -1, -1, [], false, [], 0, 0⟩
def awC1 : Cls := ⟨10, 1, [], [], -1, -1, -1, -1, 200, -1, [], false, [], 0, 30⟩
def awC2 : Cls := noneC 20 0
def awC3 : Cls := ⟨30, 2, [], [], -1, -1, -1, -1, -1, -1, [], false, [7], 0, 0⟩
def awP : Pol := ⟨[109], [awC1, awC2, awC3], false⟩
def awD : Dvc := ⟨[], 0, [], [], [], [], [], [], [], [awP], [], []⟩
def awS : Sbj := ⟨⟨0, 0⟩, 0, 0, 100, [], [], 0⟩
def awR : Sbj := ⟨⟨0, 0⟩, 0, 0, 200, [7], [], 0⟩
theorem aw_apply : applyP awD [109] awS = (awR, true, 0) := by
  have hr : runP awD awP awS = (true, 0, [(0, ⟨⟨0, 0⟩, 0, 0, 200, [], [], 0⟩), (2, awR)]) := by
    have hs : skipJ [awC1, awC2, awC3] 30 1 = 2 := by
      rw [skipJ, dif_pos (by decide), if_pos (by decide), skipJ, dif_pos (by decide), if_neg (by decide)]
    unfold runP
    show runL awD [awC1, awC2, awC3] false [awC1, awC2, awC3] 0 0 (-1) awS [] = _
    rw [runL, if_neg (by decide), if_neg (by decide), if_neg (by decide), if_pos (by decide), if_neg (by decide)]
    rw [show awC1.jump = 30 from rfl, show (0 + 1 : Nat) = 1 from rfl, hs]
    rw [runL, if_pos (by decide), runL, if_neg (by decide), if_neg (by decide), if_neg (by decide), if_neg (by decide), runL]
    rfl
  unfold applyP
  rw [if_neg (by decide), show awD.pols.find? (fun p => decide (p.nm = [109])) = some awP by rfl]
  dsimp only
  rw [hr]
  rfl
namespace Ab
def nils (xs : List AVal) : List AVal := xs.map fun x => match x with
  | .d (.sc (.slice none 0 0)) => .d (.sl [] 0)
  | x => x
theorem nils_rel {w : World} {F : Nat → Prop} {ι : Nat → Option Value} {xs : List AVal} {i : Nat} {c : AVal} {u : Value} (hc : (nils xs)[i]? = some c) (h : ∀ c0, xs[i]? = some c0 → VRel w F ι c0 u) : VRel w F ι c u := by
  unfold nils at hc
  rw [List.getElem?_map] at hc
  cases hx : xs[i]? with
  | none => rw [hx] at hc; cases hc
  | some c0 =>
    rw [hx] at hc
    have h0 := h c0 hx
    simp only [Option.map_some, Option.some.injEq] at hc
    split at hc
    · subst hc; exact see_nil _ _ _ _ h0
    · subst hc; exact h0
theorem see_nils {xs : List AVal} (w : World) (F : Nat → Prop) (ι : Nat → Option Value) (u : Value) (h : VRel w F ι (.agg xs) u) : VRel w F ι (.agg (nils xs)) u := by
  cases h with
  | agg _ C hl h => exact .agg _ C (by rw [hl]; simp [nils]) fun i c u hc hu => nils_rel hc fun c0 h0 => h i c0 u h0 hu
theorem Wk_seeN {nt : Nat} {e : Env} {h : Heap} {b : Nat} {cs : List AVal} (hb : look h b = some (.var cs)) : AWk nt e h e ((b, .var (nils cs)) :: h) := fun Pm F w0 pin ι a w R => by
  obtain ⟨v, hv, r, C, T, rfl, hC, hlC, hrr⟩ := R.heap.blk b _ hb
  have hW : Wrote w (.pointer (some ⟨r, 0, none⟩)) w := ⟨rfl, rfl, rfl, Nat.le_refl _, fun _ _ _ => rfl⟩
  have H2 := R.heap.wrote (b' := .var (nils cs)) hW hv ⟨r, C, T, rfl, hC, by rw [hlC]; simp [nils], fun j c u h1 h2 => nils_rel h1 fun c0 h0 => hrr j c0 u h0 h2⟩
  exact ⟨_, H2, R.env, R.defers, R.size⟩
set_option linter.unusedSimpArgs false
attribute [local irreducible] AWp AOps AQ AYield AEff ACall AWk AAny AAt AThen AIn APost NoPanic
def noneX (q a : Int) : List AVal := [.d (iD q), .d (cD a), .d (sD []), .d (sD []), .d (iD (-1)), .d (iD (-1)), .d (iD (-1)), .d (iD (-1)), .d (iD (-1)), .d (iD (-1)), .d (.sc (.slice none 0 0)), .d (bD false), .d (.sc (.slice none 0 0)), .d (uD 0), .d (iD 0)]
theorem noneC_A (q a : Int) : ACall Try.prog 20 [intA q, .d (cD a)] [] (Just (aggD (clsD (noneC q a)))) := by
  refine ACall_of tabOk Try.func20 rfl Try.ntmps20 (congrArg Array.toList Try.results20) (by kernel_rfl) rfl ?_
  refine A_seq ?_
  refine R_list ?_
  refine q_a ?_
  refine O_nil ?_
  refine q_j ?_
  refine A_seq ?_
  refine R_list ?_
  (apply O_y rfl rfl rfl; (exact q_1))
  (apply O_y rfl rfl rfl; (exact q_1))
  (apply O_y rfl rfl rfl; (exact R_build (xs := noneX q a) tabOk rfl rfl rfl rfl rfl (by kernel_rfl)))
  refine O_store tabOk rfl rfl rfl rfl rfl rfl rfl (by kernel_rfl) rfl (by kernel_rfl) (by kernel_rfl) ?_
  refine O_nil ?_
  refine q_j ?_
  refine A_ret ?_
  exact X_retW (Wk_seeN (b := 4) rfl) rfl (h2 := []) trivial ⟨by kernel_rfl, rfl⟩
def awX : List AVal := [.d (sD []), .d (cD 0), .d (.sc (.slice none 0 0)), .d (.sc (.slice none 0 0)), .d (.sc (.slice none 0 0)), .d (.sc (.slice none 0 0)), .d (.sc (.slice none 0 0)), .d (.sc (.slice none 0 0)), .d (.sc (.slice none 0 0)), .d (.sl (polD awP) 1), .d (.sc (.slice none 0 0)), .d (.sc (.slice none 0 0))]
def awY : List AVal := [.d (uD 0), .d (iD 0), .d (iD 0), .d (iD 0), .d (iD 100), .d (.sc (.slice none 0 0)), .d (.sc (.slice none 0 0)), .d (uD 0)]
theorem awake_ok : OkA awD awS := by
  refine ⟨⟨by decide, by simp [awD], by decide, by simp [awD]⟩, by decide, ⟨by unfold Pfx.ok; decide, by decide, by decide, by simp [awS]⟩, fun p hp => ?_⟩
  obtain rfl : p = awP := by simpa [awD] using hp
  refine ⟨by decide, by unfold Pfx.ok; decide, by simp [awS], ?_, by decide, by decide⟩
  intro c hc n hn
  simp [awP] at hc
  rcases hc with rfl | rfl | rfl
  · simp [awC1] at hn
  · simp [awC2, noneC] at hn
  · simp [awC3] at hn; subst hn; decide
set_option maxHeartbeats 4000000 in
theorem awake16_A : ACall Try.prog 5 [] [] (Just (boolA true)) := by
  have c1 := noneC_A 10 1
  have c2 := noneC_A 20 0
  have c3 := noneC_A 30 2
  have ca := apply_A awD [109] awS awake_ok
  rw [aw_apply] at ca
  try dsimp only at ca
  refine ACall_of tabOk Try.func5 rfl Try.ntmps5 (congrArg Array.toList Try.results5) (by kernel_rfl) rfl ?_
  refine A_seq ?_
  refine R_list ?_
  (apply O_y rfl rfl rfl; (exact q_2))
  refine O_nil ?_
  refine q_j ?_
  refine A_seq ?_
  refine R_list ?_
  refine O_c rfl rfl rfl rfl rfl c1 (fun _ => rfl) ?_
  refine O_c rfl rfl rfl rfl rfl c2 (fun _ => rfl) ?_
  refine O_c rfl rfl rfl rfl rfl c3 (fun _ => rfl) ?_
  refine q_a ?_
  refine q_a ?_
  refine q_a ?_
  refine O_store tabOk rfl rfl rfl rfl rfl rfl rfl (by kernel_rfl) rfl (by kernel_rfl) (by kernel_rfl) ?_
  refine O_store tabOk rfl rfl rfl rfl rfl rfl rfl (by kernel_rfl) rfl (by kernel_rfl) (by kernel_rfl) ?_
  refine O_store tabOk rfl rfl rfl rfl rfl rfl rfl (by kernel_rfl) rfl (by kernel_rfl) (by kernel_rfl) ?_
  refine O_nil ?_
  refine q_j ?_
  refine A_weaken (Wk_sel (e1 := [(1, .ptr 1 0), (2, .ptr 2 0), (3, .ptr 3 0)]) (h1 := [(1, .var ((clsD (noneC 10 1)).map .d)), (2, .var ((clsD (noneC 20 0)).map .d)), (3, .var ((clsD (noneC 30 2)).map .d))]) ⟨rfl, rfl, rfl, trivial⟩ ⟨by kernel_rfl, by kernel_rfl, by kernel_rfl, trivial⟩) ?_
  refine A_seq ?_
  refine R_list ?_
  refine O_slice (xs := [.d (uD 7)]) (ds := [uD 7]) tabOk rfl rfl rfl rfl rfl rfl rfl rfl rfl (by kernel_rfl) (by kernel_rfl) ?_
  refine O_weaken (Wk_freeze (id := 11) rfl) ?_
  (apply O_y rfl rfl rfl; (exact q_8))
  refine O_store tabOk rfl rfl rfl rfl rfl rfl rfl (by kernel_rfl) rfl (by kernel_rfl) (by kernel_rfl) ?_
  (apply O_y rfl rfl rfl; (exact q_8))
  refine O_store tabOk rfl rfl rfl rfl rfl rfl rfl (by kernel_rfl) rfl (by kernel_rfl) (by kernel_rfl) ?_
  (apply O_y rfl rfl rfl; (exact q_8))
  refine O_store tabOk rfl rfl rfl rfl rfl rfl rfl (by kernel_rfl) rfl (by kernel_rfl) (by kernel_rfl) ?_
  refine O_nil ?_
  refine q_j ?_
  refine A_weaken (Wk_sel (e1 := [(1, .ptr 1 0), (2, .ptr 2 0), (3, .ptr 3 0)]) (h1 := [(1, .var ((clsD awC1).map .d)), (2, .var ((clsD awC2).map .d)), (3, .var ((clsD awC3).map .d))]) ⟨rfl, rfl, rfl, trivial⟩ ⟨by kernel_rfl, by kernel_rfl, by kernel_rfl, trivial⟩) ?_
  refine A_weaken (Wk_freezeV (id := 1) (ds := clsD awC1) rfl rfl) ?_
  refine A_weaken (Wk_freezeV (id := 2) (ds := clsD awC2) rfl rfl) ?_
  refine A_weaken (Wk_freezeV (id := 3) (ds := clsD awC3) rfl rfl) ?_
  refine A_seq ?_
  refine R_list ?_
  (apply O_y rfl rfl rfl; (exact q_5))
  (apply O_y rfl rfl rfl; (exact q_5))
  (apply O_y rfl rfl rfl; (exact q_5))
  refine O_slice (xs := (awP.cs.flatMap clsD).map .d) (ds := awP.cs.flatMap clsD) tabOk rfl rfl rfl rfl rfl rfl rfl rfl rfl (by kernel_rfl) (by kernel_rfl) ?_
  refine O_weaken (Wk_freeze (id := 18) rfl) ?_
  (apply O_y rfl rfl rfl; (exact R_build (xs := (polD awP).map .d) tabOk rfl rfl rfl rfl rfl (by kernel_rfl)))
  refine O_slice (xs := (polD awP).map .d) (ds := polD awP) tabOk rfl rfl rfl rfl rfl rfl rfl rfl rfl (by kernel_rfl) (by kernel_rfl) ?_
  refine O_weaken (Wk_freeze (id := 20) rfl) ?_
  (apply O_y rfl rfl rfl; (exact R_build (xs := awX) tabOk rfl rfl rfl rfl rfl (by kernel_rfl)))
  refine q_a ?_
  refine O_store tabOk rfl rfl rfl rfl rfl rfl rfl (by kernel_rfl) rfl (by kernel_rfl) (by kernel_rfl) ?_
  refine O_nil ?_
  refine q_j ?_
  refine A_weaken (Wk_seeN (b := 4) rfl) ?_
  refine A_weaken (Wk_sel (e1 := [(4, .ptr 4 0)]) (h1 := [(4, .var ((dvcD awD).map .d))]) ⟨rfl, trivial⟩ ⟨by kernel_rfl, trivial⟩) ?_
  refine A_weaken (Wk_freezeV (id := 4) (ds := dvcD awD) rfl rfl) ?_
  refine A_seq ?_
  refine R_list ?_
  (apply O_y rfl rfl rfl; (exact q_5))
  (apply O_y rfl rfl rfl; (exact R_build (xs := awY) tabOk rfl rfl rfl rfl rfl (by kernel_rfl)))
  refine O_weaken (Wk_see (t := 24) rfl see_nils) ?_
  refine O_c rfl rfl rfl rfl rfl ca (fun _ => rfl) ?_
  repeat (first | refine A_seq ?_ | refine A_block ?_ | refine R_list ?_ | refine R_quiet rfl mixed (by kernel_rfl) ?_ | ((first | apply O_y rfl rfl rfl | apply Q_y rfl rfl rfl); (first | exact q_A | exact q_5 | exact q_B | (first | exact R_index (j := 0) tabOk rfl rfl rfl rfl rfl rfl (by decide) | exact q_5))) | refine O_nil ?_ | refine Q_nil ?_ | refine q_j ?_ | refine q_k ?_ | refine q_d ?_ | refine q_a ?_ | refine q_b ?_ | refine q_c ?_ | refine A_ct rfl ?_ | refine A_cf rfl ?_ | refine A_skip ?_ | refine A_exit ?_ | refine A_ret ?_ | refine q_l ?_ | refine q_m ?_ | refine q_n ?_ | refine q_h ?_ | refine q_o ?_ | refine q_e ?_ | refine q_f ?_ | refine q_g ?_ | fail)
  exact X_retW AWk.refl rfl (h2 := []) trivial ⟨rfl, rfl⟩
end Ab
end Go.Proofs.Ytmljmahlpcdhoaa

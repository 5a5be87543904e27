/-
  Texts of a proof, one behind the other (part 27).
-/
import Derived.Test.YtmljmahlpcdhoaaPn4
import Derived.Test.YtmljmahlpcdhoaaPn24
import Derived.Test.YtmljmahlpcdhoaaPn25
set_option linter.unusedVariables false
set_option linter.unusedSimpArgs false
namespace Go.Proofs.Ytmljmahlpcdhoaa
set_option linter.unusedVariables false
set_option maxRecDepth 100000
open Go.RowKit Go.Lib
def noneC (q a : Int) : Cls := ⟨q, a, [], [], -1, -1, -1, -1, -1, -1, [], false, [], 0, 0⟩
def awC1 : Cls := ⟨10, 1, [], [], -1, -1, -1, -1, 200, -1, [], false, [], 0, 30⟩
def awC2 : Cls := noneC 20 0
def awC3 : Cls := ⟨30, 2, [], [], -1, -1, -1, -1, -1, -1, [], false, [7], 0, 0⟩
def awP : Pol := ⟨[109], [awC1, awC2, awC3], false⟩
def awD : Dvc := ⟨[], 0, [], [], [], [], [], [], [], [awP], [], []⟩
def awS : Sbj := ⟨⟨0, 0⟩, 0, 0, 100, [], [], 0⟩
def awR : Sbj := ⟨⟨0, 0⟩, 0, 0, 200, [7], [], 0⟩
theorem aw_apply : applyP awD [109] awS = (awR, true, 0) := by
  have hr : runP awD awP awS = (true, 0, [(0, ⟨⟨0, 0⟩, 0, 0, 200, [], [], 0⟩), (2, awR)]) := by
    have hs : skipJ [awC1, awC2, awC3] 30 1 = 2 := by
      rw [skipJ, dif_pos (by decide), if_pos (by decide), skipJ, dif_pos (by decide), if_neg (by decide)]
    unfold runP
    show runL awD [awC1, awC2, awC3] false [awC1, awC2, awC3] 0 0 (-1) awS [] = _
    rw [runL, if_neg (by decide), if_neg (by decide), if_neg (by decide), if_pos (by decide), if_neg (by decide)]
    rw [show awC1.jump = 30 from rfl, show (0 + 1 : Nat) = 1 from rfl, hs]
    rw [runL, if_pos (by decide), runL, if_neg (by decide), if_neg (by decide), if_neg (by decide), if_neg (by decide), runL]
    rfl
  unfold applyP
  rw [if_neg (by decide), show awD.pols.find? (fun p => decide (p.nm = [109])) = some awP by rfl]
  dsimp only
  rw [hr]
  rfl
namespace Ab
def nils (xs : List AVal) : List AVal := xs.map fun x => match x with
  | .d (.sc (.slice none 0 0)) => .d (.sl [] 0)
  | x => x
theorem nils_rel {w : World} {F : Nat → Prop} {ι : Nat → Option Value} {xs : List AVal} {i : Nat} {c : AVal} {u : Value} (hc : (nils xs)[i]? = some c) (h : ∀ c0, xs[i]? = some c0 → VRel w F ι c0 u) : VRel w F ι c u := by
  unfold nils at hc
  rw [List.getElem?_map] at hc
  cases hx : xs[i]? with
  | none => rw [hx] at hc; cases hc
  | some c0 =>
    rw [hx] at hc
    have h0 := h c0 hx
    simp only [Option.map_some, Option.some.injEq] at hc
    split at hc
    · subst hc; exact see_nil _ _ _ _ h0
    · subst hc; exact h0
theorem see_nils {xs : List AVal} (w : World) (F : Nat → Prop) (ι : Nat → Option Value) (u : Value) (h : VRel w F ι (.agg xs) u) : VRel w F ι (.agg (nils xs)) u := by
  cases h with
  | agg _ C hl h => exact .agg _ C (by rw [hl]; simp [nils]) fun i c u hc hu => nils_rel hc fun c0 h0 => h i c0 u h0 hu
theorem Wk_seeN {nt : Nat} {e : Env} {h : Heap} {b : Nat} {cs : List AVal} (hb : look h b = some (.var cs)) : AWk nt e h e ((b, .var (nils cs)) :: h) := fun Pm F w0 pin ι a w R => by
  obtain ⟨v, hv, r, C, T, rfl, hC, hlC, hrr⟩ := R.heap.blk b _ hb
  have hW : Wrote w (.pointer (some ⟨r, 0, none⟩)) w := ⟨rfl, rfl, rfl, Nat.le_refl _, fun _ _ _ => rfl⟩
  have H2 := R.heap.wrote (b' := .var (nils cs)) hW hv ⟨r, C, T, rfl, hC, by rw [hlC]; simp [nils], fun j c u h1 h2 => nils_rel h1 fun c0 h0 => hrr j c0 u h0 h2⟩
  exact ⟨_, H2, R.env, R.defers, R.size⟩
set_option linter.unusedSimpArgs false
attribute [local irreducible] AWp AOps AQ AYield AEff ACall AWk AAny AAt AThen AIn APost NoPanic
def noneX (q a : Int) : List AVal := [.d (iD q), .d (cD a), .d (sD []), .d (sD []), .d (iD (-1)), .d (iD (-1)), .d (iD (-1)), .d (iD (-1)), .d (iD (-1)), .d (iD (-1)), .d (.sc (.slice none 0 0)), .d (bD false), .d (.sc (.slice none 0 0)), .d (uD 0), .d (iD 0)]
theorem noneC_A (q a : Int) : ACall Try.prog 20 [intA q, .d (cD a)] [] (Just (aggD (clsD (noneC q a)))) := by
  refine ACall_of tabOk Try.func20 rfl Try.ntmps20 (congrArg Array.toList Try.results20) (by kernel_rfl) rfl ?_
  refine A_seq ?_
  refine R_list ?_
  refine q_a ?_
  refine O_nil ?_
  refine q_j ?_
  refine A_seq ?_
  refine R_list ?_
  (apply O_y rfl rfl rfl; (exact q_1))
  (apply O_y rfl rfl rfl; (exact q_1))
  (apply O_y rfl rfl rfl; (exact R_build (xs := noneX q a) tabOk rfl rfl rfl rfl rfl (by kernel_rfl)))
  refine O_store tabOk rfl rfl rfl rfl rfl rfl rfl (by kernel_rfl) rfl (by kernel_rfl) (by kernel_rfl) ?_
  refine O_nil ?_
  refine q_j ?_
  refine A_ret ?_
  exact X_retW (Wk_seeN (b := 4) rfl) rfl (h2 := []) trivial ⟨by kernel_rfl, rfl⟩
def awX : List AVal := [.d (sD []), .d (cD 0), .d (.sc (.slice none 0 0)), .d (.sc (.slice none 0 0)), .d (.sc (.slice none 0 0)), .d (.sc (.slice none 0 0)), .d (.sc (.slice none 0 0)), .d (.sc (.slice none 0 0)), .d (.sc (.slice none 0 0)), .d (.sl (polD awP) 1), .d (.sc (.slice none 0 0)), .d (.sc (.slice none 0 0))]
def awY : List AVal := [.d (uD 0), .d (iD 0), .d (iD 0), .d (iD 0), .d (iD 100), .d (.sc (.slice none 0 0)), .d (.sc (.slice none 0 0)), .d (uD 0)]
theorem awake_ok : OkA awD awS := by
  refine ⟨⟨by decide, by simp [awD], by decide, by simp [awD]⟩, by decide, ⟨by unfold Pfx.ok; decide, by decide, by decide, by simp [awS]⟩, fun p hp => ?_⟩
  obtain rfl : p = awP := by simpa [awD] using hp
  refine ⟨by decide, by unfold Pfx.ok; decide, by simp [awS], ?_, by decide, by decide⟩
  intro c hc n hn
  simp [awP] at hc
  rcases hc with rfl | rfl | rfl
  · simp [awC1] at hn
  · simp [awC2, noneC] at hn
  · simp [awC3] at hn; subst hn; decide
set_option maxHeartbeats 4000000 in
theorem awake16_A : ACall Try.prog 5 [] [] (Just (boolA true)) := by
  have c1 := noneC_A 10 1
  have c2 := noneC_A 20 0
  have c3 := noneC_A 30 2
  have ca := apply_A awD [109] awS awake_ok
  rw [aw_apply] at ca
  try dsimp only at ca
  refine ACall_of tabOk Try.func5 rfl Try.ntmps5 (congrArg Array.toList Try.results5) (by kernel_rfl) rfl ?_
  refine A_seq ?_
  refine R_list ?_
  (apply O_y rfl rfl rfl; (exact q_2))
  refine O_nil ?_
  refine q_j ?_
  refine A_seq ?_
  refine R_list ?_
  refine O_c rfl rfl rfl rfl rfl c1 (fun _ => rfl) ?_
  refine O_c rfl rfl rfl rfl rfl c2 (fun _ => rfl) ?_
  refine O_c rfl rfl rfl rfl rfl c3 (fun _ => rfl) ?_
  refine q_a ?_
  refine q_a ?_
  refine q_a ?_
  refine O_store tabOk rfl rfl rfl rfl rfl rfl rfl (by kernel_rfl) rfl (by kernel_rfl) (by kernel_rfl) ?_
  refine O_store tabOk rfl rfl rfl rfl rfl rfl rfl (by kernel_rfl) rfl (by kernel_rfl) (by kernel_rfl) ?_
  refine O_store tabOk rfl rfl rfl rfl rfl rfl rfl (by kernel_rfl) rfl (by kernel_rfl) (by kernel_rfl) ?_
  refine O_nil ?_
  refine q_j ?_
  refine A_weaken (Wk_sel (e1 := [(1, .ptr 1 0), (2, .ptr 2 0), (3, .ptr 3 0)]) (h1 := [(1, .var ((clsD (noneC 10 1)).map .d)), (2, .var ((clsD (noneC 20 0)).map .d)), (3, .var ((clsD (noneC 30 2)).map .d))]) ⟨rfl, rfl, rfl, trivial⟩ ⟨by kernel_rfl, by kernel_rfl, by kernel_rfl, trivial⟩) ?_
  refine A_seq ?_
  refine R_list ?_
  refine O_slice (xs := [.d (uD 7)]) (ds := [uD 7]) tabOk rfl rfl rfl rfl rfl rfl rfl rfl rfl (by kernel_rfl) (by kernel_rfl) ?_
  refine O_weaken (Wk_freeze (id := 11) rfl) ?_
  (apply O_y rfl rfl rfl; (exact q_8))
  refine O_store tabOk rfl rfl rfl rfl rfl rfl rfl (by kernel_rfl) rfl (by kernel_rfl) (by kernel_rfl) ?_
  (apply O_y rfl rfl rfl; (exact q_8))
  refine O_store tabOk rfl rfl rfl rfl rfl rfl rfl (by kernel_rfl) rfl (by kernel_rfl) (by kernel_rfl) ?_
  (apply O_y rfl rfl rfl; (exact q_8))
  refine O_store tabOk rfl rfl rfl rfl rfl rfl rfl (by kernel_rfl) rfl (by kernel_rfl) (by kernel_rfl) ?_
  refine O_nil ?_
  refine q_j ?_
  refine A_weaken (Wk_sel (e1 := [(1, .ptr 1 0), (2, .ptr 2 0), (3, .ptr 3 0)]) (h1 := [(1, .var ((clsD awC1).map .d)), (2, .var ((clsD awC2).map .d)), (3, .var ((clsD awC3).map .d))]) ⟨rfl, rfl, rfl, trivial⟩ ⟨by kernel_rfl, by kernel_rfl, by kernel_rfl, trivial⟩) ?_
  refine A_weaken (Wk_freezeV (id := 1) (ds := clsD awC1) rfl rfl) ?_
  refine A_weaken (Wk_freezeV (id := 2) (ds := clsD awC2) rfl rfl) ?_
  refine A_weaken (Wk_freezeV (id := 3) (ds := clsD awC3) rfl rfl) ?_
  refine A_seq ?_
  refine R_list ?_
  (apply O_y rfl rfl rfl; (exact q_5))
  (apply O_y rfl rfl rfl; (exact q_5))
  (apply O_y rfl rfl rfl; (exact q_5))
  refine O_slice (xs := (awP.cs.flatMap clsD).map .d) (ds := awP.cs.flatMap clsD) tabOk rfl rfl rfl rfl rfl rfl rfl rfl rfl (by kernel_rfl) (by kernel_rfl) ?_
  refine O_weaken (Wk_freeze (id := 18) rfl) ?_
  (apply O_y rfl rfl rfl; (exact R_build (xs := (polD awP).map .d) tabOk rfl rfl rfl rfl rfl (by kernel_rfl)))
  refine O_slice (xs := (polD awP).map .d) (ds := polD awP) tabOk rfl rfl rfl rfl rfl rfl rfl rfl rfl (by kernel_rfl) (by kernel_rfl) ?_
  refine O_weaken (Wk_freeze (id := 20) rfl) ?_
  (apply O_y rfl rfl rfl; (exact R_build (xs := awX) tabOk rfl rfl rfl rfl rfl (by kernel_rfl)))
  refine q_a ?_
  refine O_store tabOk rfl rfl rfl rfl rfl rfl rfl (by kernel_rfl) rfl (by kernel_rfl) (by kernel_rfl) ?_
  refine O_nil ?_
  refine q_j ?_
  refine A_weaken (Wk_seeN (b := 4) rfl) ?_
  refine A_weaken (Wk_sel (e1 := [(4, .ptr 4 0)]) (h1 := [(4, .var ((dvcD awD).map .d))]) ⟨rfl, trivial⟩ ⟨by kernel_rfl, trivial⟩) ?_
  refine A_weaken (Wk_freezeV (id := 4) (ds := dvcD awD) rfl rfl) ?_
  refine A_seq ?_
  refine R_list ?_
  (apply O_y rfl rfl rfl; (exact q_5))
  (apply O_y rfl rfl rfl; (exact R_build (xs := awY) tabOk rfl rfl rfl rfl rfl (by kernel_rfl)))
  refine O_weaken (Wk_see (t := 24) rfl see_nils) ?_
  refine O_c rfl rfl rfl rfl rfl ca (fun _ => rfl) ?_
  repeat (first | refine A_seq ?_ | refine A_block ?_ | refine R_list ?_ | refine R_quiet rfl mixed (by kernel_rfl) ?_ | ((first | apply O_y rfl rfl rfl | apply Q_y rfl rfl rfl); (first | exact q_1 | exact q_2 | exact q_3 | exact q_4 | exact q_5 | exact q_6 | exact q_7 | exact q_8 | exact q_9 | exact q_10 | exact q_11 | exact q_12 | exact q_13 | exact q_14 | exact q_15 | exact q_16 | exact q_17 | exact q_18 | exact q_19 | exact q_20 | exact q_21 | exact q_22 | exact q_23 | exact q_24 | (first | exact R_index (j := 0) tabOk rfl rfl rfl rfl rfl rfl (by decide) | exact q_5))) | refine O_nil ?_ | refine Q_nil ?_ | refine q_j ?_ | refine q_k ?_ | refine q_d ?_ | refine q_a ?_ | refine q_b ?_ | refine q_c ?_ | refine A_ct rfl ?_ | refine A_cf rfl ?_ | refine A_skip ?_ | refine A_exit ?_ | refine A_ret ?_ | refine q_l ?_ | refine q_m ?_ | refine q_n ?_ | refine q_h ?_ | refine q_o ?_ | refine q_e ?_ | refine q_f ?_ | refine q_g ?_ | fail)
  exact X_retW AWk.refl rfl (h2 := []) trivial ⟨rfl, rfl⟩
end Ab
end Go.Proofs.Ytmljmahlpcdhoaa

namespace Go.Proofs.Ytmljmahlpcdhoaa
set_option linter.unusedVariables false
set_option maxRecDepth 100000
open Go.RowKit Go.Lib
def Rise (cs : List Cls) : Prop := cs.Pairwise fun a b => a.seq < b.seq
def runT (d : Dvc) (dft : Bool) : List Cls → Nat → (Int → Bool) → Bool → Sbj → Bool × Sbj × List Nat
  | [], i, sk, b, s => (b || dft, s, [])
  | c :: r, i, sk, b, s =>
    if sk c.seq = true then runT d dft r (i + 1) sk b s
    else if fitsC d c s = false then runT d dft r (i + 1) sk b s
    else if c.act = 0 then (false, s, [i])
    else if c.act = 1 then
      (if c.jump = 0 then (true, setC c s, [i]) else
        ((runT d dft r (i + 1) (fun q => decide (q < c.jump)) true (setC c s)).1, (runT d dft r (i + 1) (fun q => decide (q < c.jump)) true (setC c s)).2.1, i :: (runT d dft r (i + 1) (fun q => decide (q < c.jump)) true (setC c s)).2.2))
    else ((runT d dft r (i + 1) sk b (setC c s)).1, (runT d dft r (i + 1) sk b (setC c s)).2.1, i :: (runT d dft r (i + 1) sk b (setC c s)).2.2)
theorem skip_iff (cs : List Cls) (hR : Rise cs) (j : Int) : ∀ (n k : Nat), cs.length - k = n → ∀ (m : Nat) (hm : m < cs.length), k ≤ m → (m < skipJ cs j k ↔ cs[m].seq < j) := fun n => by
  induction n with
  | zero => intro k h m hm hk; omega
  | succ n ih =>
    intro k h m hm hk
    rw [skipJ, dif_pos (by omega)]
    split
    · rename_i hlt
      rcases Nat.lt_or_ge k m with h2 | h2
      · exact ih (k + 1) (by omega) m hm h2
      · obtain rfl : k = m := by omega
        have := (skip_le cs j n (k + 1) (by omega)).1
        exact ⟨fun _ => hlt, fun _ => by omega⟩
    · rename_i hge
      constructor
      · intro h2; omega
      · intro h2
        rcases Nat.lt_or_ge k m with h3 | h3
        · have := List.pairwise_iff_getElem.1 hR k m (by omega) hm h3
          omega
        · obtain rfl : k = m := by omega
          exact absurd h2 hge
theorem runL_T (d : Dvc) (cs : List Cls) (dft : Bool) (hR : Rise cs) (s0 : Sbj) : ∀ (r : List Cls) (i fr : Nat) (b : Int) (s : Sbj) (ms : List (Nat × Sbj)) (sk : Int → Bool), cs.drop i = r →
    (∀ (m : Nat) (hm : m < cs.length), i ≤ m → (m < fr ↔ sk cs[m].seq = true)) → lastS s0 ms = s →
    (runL d cs dft r i fr b s ms).1 = (runT d dft r i sk (decide (0 ≤ b)) s).1 ∧ lastS s0 (runL d cs dft r i fr b s ms).2.2 = (runT d dft r i sk (decide (0 ≤ b)) s).2.1 ∧
      (runL d cs dft r i fr b s ms).2.2.map Prod.fst = ms.map Prod.fst ++ (runT d dft r i sk (decide (0 ≤ b)) s).2.2 := fun r => by
  induction r with
  | nil => intro i fr b s ms sk hd ha hl; exact ⟨rfl, hl, by simp [runL, runT]⟩
  | cons c r ih =>
    intro i fr b s ms sk hd ha hl
    have hi : i < cs.length := by
      rcases Nat.lt_or_ge i cs.length with h | h
      · exact h
      · rw [List.drop_of_length_le h] at hd; cases hd
    rw [List.drop_eq_getElem_cons hi] at hd
    obtain ⟨hc, hr⟩ := List.cons.inj hd
    have h0 := ha i hi (Nat.le_refl _)
    rw [hc] at h0
    have hn : ∀ (m : Nat) (hm : m < cs.length), i + 1 ≤ m → (m < fr ↔ sk cs[m].seq = true) := fun m hm h => ha m hm (by omega)
    rw [runL, runT]
    by_cases hs : sk c.seq = true
    · rw [if_pos hs, if_pos (h0.2 hs)]
      exact ih (i + 1) fr b s ms sk hr hn hl
    rw [if_neg hs, if_neg (fun h => hs (h0.1 h))]
    by_cases hf : fitsC d c s = false
    · rw [if_pos hf, if_pos hf]
      exact ih (i + 1) fr b s ms sk hr hn hl
    rw [if_neg hf, if_neg hf]
    by_cases a0 : c.act = 0
    · rw [if_pos a0, if_pos a0]
      exact ⟨rfl, by rw [lastS_snoc], by simp⟩
    rw [if_neg a0, if_neg a0]
    by_cases a1 : c.act = 1
    · rw [if_pos a1, if_pos a1]
      by_cases hj : c.jump = 0
      · rw [if_pos hj, if_pos hj]
        exact ⟨rfl, by rw [lastS_snoc], by simp⟩
      · rw [if_neg hj, if_neg hj]
        obtain ⟨e1, e2, e3⟩ := ih (i + 1) (skipJ cs c.jump (i + 1)) (i : Int) (setC c s) (ms ++ [(i, setC c s)]) (fun q => decide (q < c.jump)) hr
          (fun m hm h => by rw [skip_iff cs hR c.jump _ (i + 1) rfl m hm h, decide_eq_true_iff]) (by rw [lastS_snoc])
        rw [decide_eq_true (show (0 : Int) ≤ (i : Int) by omega)] at e1 e2 e3
        exact ⟨e1, e2, by rw [e3]; simp⟩
    · rw [if_neg a1, if_neg a1]
      obtain ⟨e1, e2, e3⟩ := ih (i + 1) fr b (setC c s) (ms ++ [(i, setC c s)]) sk hr hn (by rw [lastS_snoc])
      exact ⟨e1, e2, by rw [e3]; simp⟩
def keepU (U : Nat → Bool) : Nat → List Cls → List Cls
  | _, [] => []
  | i, c :: r => if U i = true then c :: keepU U (i + 1) r else keepU U (i + 1) r
theorem keep_sub (U : Nat → Bool) : ∀ (r : List Cls) (i : Nat), (keepU U i r).Sublist r
  | [], _ => List.Sublist.slnil
  | c :: r, i => by
    unfold keepU
    split
    · exact (keep_sub U r (i + 1)).cons_cons c
    · exact (keep_sub U r (i + 1)).cons c
theorem keep_rise {U : Nat → Bool} {cs : List Cls} (h : Rise cs) : Rise (keepU U 0 cs) := h.sublist (keep_sub U cs 0)
theorem keep_snoc (U : Nat → Bool) (c : Cls) : ∀ (r : List Cls) (i : Nat), keepU U i (r ++ [c]) = keepU U i r ++ (if U (i + r.length) = true then [c] else [])
  | [], i => by simp [keepU]
  | x :: r, i => by
    rw [List.cons_append, keepU, keepU, keep_snoc U c r (i + 1), List.length_cons, show i + 1 + r.length = i + (r.length + 1) by omega]
    split <;> rfl
theorem runT_keep (d : Dvc) (dft : Bool) (U : Nat → Bool) : ∀ (r : List Cls) (i k : Nat) (sk : Int → Bool) (b : Bool) (s : Sbj), (∀ m ∈ (runT d dft r i sk b s).2.2, U m = true) →
    (runT d dft (keepU U i r) k sk b s).1 = (runT d dft r i sk b s).1 ∧ (runT d dft (keepU U i r) k sk b s).2.1 = (runT d dft r i sk b s).2.1 := fun r => by
  induction r with
  | nil => intro i k sk b s h; exact ⟨rfl, rfl⟩
  | cons c r ih =>
    intro i k sk b s h
    rw [keepU]
    rw [runT] at h ⊢
    by_cases hs : sk c.seq = true
    · rw [if_pos hs] at h ⊢
      split
      · rw [runT, if_pos hs]; exact ih (i + 1) (k + 1) sk b s h
      · exact ih (i + 1) k sk b s h
    rw [if_neg hs] at h ⊢
    by_cases hf : fitsC d c s = false
    · rw [if_pos hf] at h ⊢
      split
      · rw [runT, if_neg hs, if_pos hf]; exact ih (i + 1) (k + 1) sk b s h
      · exact ih (i + 1) k sk b s h
    rw [if_neg hf] at h ⊢
    by_cases a0 : c.act = 0
    · rw [if_pos a0] at h ⊢
      rw [if_pos (h i (by simp)), runT, if_neg hs, if_neg hf, if_pos a0]
      exact ⟨rfl, rfl⟩
    rw [if_neg a0] at h ⊢
    by_cases a1 : c.act = 1
    · rw [if_pos a1] at h ⊢
      by_cases hj : c.jump = 0
      · rw [if_pos hj] at h ⊢
        rw [if_pos (h i (by simp)), runT, if_neg hs, if_neg hf, if_neg a0, if_pos a1, if_pos hj]
        exact ⟨rfl, rfl⟩
      · rw [if_neg hj] at h ⊢
        rw [if_pos (h i (by simp)), runT, if_neg hs, if_neg hf, if_neg a0, if_pos a1, if_neg hj]
        exact ih (i + 1) (k + 1) _ _ _ fun m hm => h m (by simp [hm])
    · rw [if_neg a1] at h ⊢
      rw [if_pos (h i (by simp)), runT, if_neg hs, if_neg hf, if_neg a0, if_neg a1]
      exact ih (i + 1) (k + 1) _ _ _ fun m hm => h m (by simp [hm])
theorem runT_idx (d : Dvc) (dft : Bool) : ∀ (r : List Cls) (i : Nat) (sk : Int → Bool) (b : Bool) (s : Sbj), ∀ m ∈ (runT d dft r i sk b s).2.2, m < i + r.length := fun r => by
  induction r with
  | nil => intro i sk b s m hm; simp [runT] at hm
  | cons c r ih =>
    intro i sk b s m hm
    rw [runT] at hm
    rw [List.length_cons]
    split at hm
    · have := ih _ _ _ _ m hm; omega
    split at hm
    · have := ih _ _ _ _ m hm; omega
    split at hm
    · simp at hm; omega
    split at hm
    · split at hm
      · simp at hm; omega
      · rcases List.mem_cons.1 hm with rfl | hm
        · omega
        · have := ih _ _ _ _ m hm; omega
    · rcases List.mem_cons.1 hm with rfl | hm
      · omega
      · have := ih _ _ _ _ m hm; omega
def setsC (c : Cls) : Bool := decide (c.sMet ≠ -1) || decide (c.sPref ≠ -1) || decide (c.sTag ≠ -1) || decide (c.sHop ≠ 0) || decide (0 < c.sCom.length) || decide (0 < c.pre.length)
theorem setC_none {c : Cls} (h : setsC c = false) (s : Sbj) : setC c s = s := by
  simp [setsC] at h
  obtain ⟨⟨⟨⟨⟨h1, h2⟩, h3⟩, h4⟩, h5⟩, h6⟩ := h
  unfold setC
  simp [h1, h2, h3, h4, h5, h6]
theorem runT_p (d : Dvc) (dft : Bool) : ∀ (r : List Cls) (i : Nat) (sk : Int → Bool) (b : Bool) (s : Sbj), (runT d dft r i sk b s).2.1.p = s.p := fun r => by
  induction r with
  | nil => intro i sk b s; rfl
  | cons c r ih =>
    intro i sk b s
    rw [runT]
    split
    · exact ih _ _ _ _
    split
    · exact ih _ _ _ _
    split
    · rfl
    split
    · split
      · rfl
      · exact ih _ _ _ _
    · exact ih _ _ _ _
theorem runT_stay (d : Dvc) (dft : Bool) : ∀ (r : List Cls) (i : Nat) (sk : Int → Bool) (b : Bool) (s : Sbj), (∀ c ∈ r, setsC c = false) → (runT d dft r i sk b s).2.1 = s := fun r => by
  induction r with
  | nil => intro i sk b s _; rfl
  | cons c r ih =>
    intro i sk b s h
    have hc := setC_none (h c (by simp)) s
    have hr : ∀ c ∈ r, setsC c = false := fun x hx => h x (by simp [hx])
    rw [runT, hc]
    split
    · exact ih _ _ _ _ hr
    split
    · exact ih _ _ _ _ hr
    split
    · rfl
    split
    · split
      · rfl
      · exact ih _ _ _ _ hr
    · exact ih _ _ _ _ hr
theorem runL_dev {d d' : Dvc} (h : ∀ c s, fitsC d c s = fitsC d' c s) (cs : List Cls) (dft : Bool) : ∀ (r : List Cls) (i fr : Nat) (b : Int) (s : Sbj) (ms : List (Nat × Sbj)), runL d cs dft r i fr b s ms = runL d' cs dft r i fr b s ms := fun r => by
  induction r with
  | nil => intro i fr b s ms; rfl
  | cons c r ih => intro i fr b s ms; rw [runL, runL, h]; simp only [ih]
theorem runP_dev {d d' : Dvc} (h : ∀ c s, fitsC d c s = fitsC d' c s) (p : Pol) (s : Sbj) : runP d p s = runP d' p s := runL_dev h p.cs p.dft p.cs 0 0 (-1) s []
theorem runP_T (d : Dvc) (p : Pol) (hR : Rise p.cs) (s : Sbj) : (runP d p s).1 = (runT d p.dft p.cs 0 (fun _ => false) false s).1 ∧ lastS s (runP d p s).2.2 = (runT d p.dft p.cs 0 (fun _ => false) false s).2.1 ∧
    (runP d p s).2.2.map Prod.fst = (runT d p.dft p.cs 0 (fun _ => false) false s).2.2 := by
  have := runL_T d p.cs p.dft hR s p.cs 0 0 (-1) s [] (fun _ => false) rfl (fun m hm _ => by simp) rfl
  exact this
theorem runP_thin (d : Dvc) (p : Pol) (hR : Rise p.cs) (s : Sbj) (U : Nat → Bool) (nm : List UInt8) (hU : ∀ m ∈ (runP d p s).2.2, U m.1 = true) :
    (runP d ⟨nm, keepU U 0 p.cs, p.dft⟩ s).1 = (runP d p s).1 ∧ lastS s (runP d ⟨nm, keepU U 0 p.cs, p.dft⟩ s).2.2 = lastS s (runP d p s).2.2 := by
  obtain ⟨a1, a2, a3⟩ := runP_T d p hR s
  obtain ⟨b1, b2, _⟩ := runP_T d ⟨nm, keepU U 0 p.cs, p.dft⟩ (keep_rise hR) s
  obtain ⟨c1, c2⟩ := runT_keep d p.dft U p.cs 0 0 (fun _ => false) false s (fun m hm => by
    rw [← a3] at hm
    obtain ⟨x, hx, rfl⟩ := List.mem_map.1 hm
    exact hU x hx)
  exact ⟨b1.trans (c1.trans a1.symm), b2.trans (c2.trans a2.symm)⟩
theorem runP_idx (d : Dvc) (p : Pol) (hR : Rise p.cs) (s : Sbj) : ∀ m ∈ (runP d p s).2.2, m.1 < p.cs.length := fun m hm => by
  have h := runT_idx d p.dft p.cs 0 (fun _ => false) false s m.1 (by rw [← (runP_T d p hR s).2.2]; exact List.mem_map.2 ⟨m, hm, rfl⟩)
  omega
theorem runP_p (d : Dvc) (p : Pol) (hR : Rise p.cs) (s : Sbj) : (lastS s (runP d p s).2.2).p = s.p := by rw [(runP_T d p hR s).2.1]; exact runT_p ..
theorem runP_stay (d : Dvc) (p : Pol) (hR : Rise p.cs) (s : Sbj) (h : ∀ c ∈ p.cs, setsC c = false) : lastS s (runP d p s).2.2 = s := by rw [(runP_T d p hR s).2.1]; exact runT_stay _ _ _ _ _ _ _ h
end Go.Proofs.Ytmljmahlpcdhoaa

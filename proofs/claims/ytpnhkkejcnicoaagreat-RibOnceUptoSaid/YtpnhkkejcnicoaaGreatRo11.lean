/-
  Texts of a proof, one behind the other (part 12).
-/
import Derived.Test.YtpnhkkejcnicoaaGreatRo4
import Derived.Test.YtpnhkkejcnicoaaGreatRo6
import Derived.Test.YtpnhkkejcnicoaaGreatRo10
set_option linter.unusedVariables false
set_option linter.unusedSimpArgs false
namespace Go.Proofs.YtpnhkkejcnicoaaGreat.Ab
set_option linter.unusedVariables false
set_option maxRecDepth 100000
open Go.RowKit Go.Lib
set_option linter.unusedSimpArgs false
attribute [local irreducible] AWp AOps AQ AYield AEff ACall AWk AAny AAt AThen AIn APost NoPanic
theorem fits51_A (n : Int) (c : Cls) (h0 : 0 ≤ n ∧ n < 4294967296) : ACall Tryz.prog 84 ([u32A n] ++ [.iptr (clsD c) 0]) [] (Just (boolA (decide (n = c.thr)))) := by
  have hw : IntKind.i64.wrap n = n := wrap_i64 ⟨by omega, by omega⟩
  refine ACall_of tabOk Tryz.func84 rfl Tryz.ntmps84 (congrArg Array.toList Tryz.results84) (by kernel_rfl) rfl ?_
  by_cases h : n = c.thr
  · rw [decide_eq_true h]
    repeat (first | refine q_Z ?_ | ((first | apply O_y rfl rfl rfl | apply Q_y rfl rfl rfl); (first | exact q_A | exact q_5 | exact q_B | (exact Y_conv tabOk rfl rfl rfl rfl rfl hw))) | refine q_d ?_ | refine q_a ?_ | refine q_b ?_ | refine q_c ?_ | refine A_ct rfl ?_ | refine A_cf rfl ?_ | refine q_W ?_)
    exact X_ret rfl ⟨rfl, rfl⟩
  · rw [decide_eq_false h]
    repeat (first | refine q_Z ?_ | ((first | apply O_y rfl rfl rfl | apply Q_y rfl rfl rfl); (first | exact q_A | exact q_5 | exact q_B | (exact Y_conv tabOk rfl rfl rfl rfl rfl hw))) | refine q_d ?_ | refine q_a ?_ | refine q_b ?_ | refine q_c ?_ | refine A_ct rfl ?_ | refine A_cf rfl ?_ | refine q_W ?_)
    exact X_ret rfl ⟨rfl, rfl⟩
theorem containsG_A (L : List Int) (f : FuncId) (caps : List AVal) (p : Int → Bool) (hf : ∀ x ∈ L, ACall Tryz.prog f ([u32A x] ++ caps) [] (Just (boolA (p x)))) (hn : L.length ≤ 1000000000) {b : Bool} (hb : L.any p = b) :
    ACall Tryz.prog 83 [usA L, .fn f caps] [] (Just (boolA b)) := by rw [← hb]; exact containsF_A L f caps p hf hn
theorem fits5_A (c : Cls) (s : Sbj) (hs : OkS s) : ACall Tryz.prog 82 [.iptr (clsD c) 0, .iptr (sbjD s) 0] [] (Just (boolA (fit5 c s))) := by
  unfold fit5
  obtain ⟨b, hb⟩ : ∃ b, (s.path.any fun n => decide (n = c.thr)) = b := ⟨_, rfl⟩
  have hc := containsG_A s.path 84 [.iptr (clsD c) 0] (fun n => decide (n = c.thr)) (fun n hn => fits51_A n c (hs.pu n hn)) hs.path hb
  rw [hb]
  refine ACall_of tabOk Tryz.func82 rfl Tryz.ntmps82 (congrArg Array.toList Tryz.results82) (by kernel_rfl) rfl ?_
  by_cases h1 : c.thr = -1
  · rw [decide_eq_true h1]
    repeat (first | refine q_Z ?_ | ((first | apply O_y rfl rfl rfl | apply Q_y rfl rfl rfl); (first | exact q_A | exact q_5 | exact q_B | (exact Y_makeFunc rfl rfl))) | refine q_d ?_ | refine q_a ?_ | refine q_b ?_ | refine q_c ?_ | refine A_ct rfl ?_ | refine A_cf rfl ?_ | refine q_W ?_)
    exact X_ret rfl ⟨rfl, rfl⟩
  · rw [decide_eq_false h1, Bool.false_or]
    repeat (first | refine q_Z ?_ | ((first | apply O_y rfl rfl rfl | apply Q_y rfl rfl rfl); (first | exact q_A | exact q_5 | exact q_B | (exact Y_makeFunc rfl rfl))) | refine q_d ?_ | refine q_a ?_ | refine q_b ?_ | refine q_c ?_ | refine A_ct rfl ?_ | refine A_cf rfl ?_ | refine q_W ?_ | refine O_c rfl rfl rfl rfl rfl hc (fun _ => rfl) ?_)
    exact X_ret rfl ⟨rfl, rfl⟩
set_option maxHeartbeats 8000000 in
theorem fits_A (d : Dvc) (c : Cls) (s : Sbj) (hd : OkD d) (hs : OkS s) : ACall Tryz.prog 52 [dvcA d, aggD (clsD c), aggD (sbjD s)] [] (Just (boolA (fitsC d c s))) := by
  have a1 : ACall Tryz.prog 72 ([] ++ [.iptr (dvcD d) 0, .iptr (clsD c) 0, .iptr (sbjD s) 0]) [] (Just (boolA (fit1 d c s))) := fits1_A d c s hd hs
  have a2 : ACall Tryz.prog 76 ([] ++ [.iptr (dvcD d) 0, .iptr (clsD c) 0, .iptr (sbjD s) 0]) [] (Just (boolA (fit2 d c s))) := fits2_A d c s hd hs
  have a3 : ACall Tryz.prog 80 ([] ++ [.iptr (clsD c) 0, .iptr (sbjD s) 0]) [] (Just (boolA (fit3 c s))) := fits3_A c s
  have a4 : ACall Tryz.prog 81 ([] ++ [.iptr (clsD c) 0, .iptr (sbjD s) 0]) [] (Just (boolA (fit4 c s))) := fits4_A c s
  have a5 : ACall Tryz.prog 82 ([] ++ [.iptr (clsD c) 0, .iptr (sbjD s) 0]) [] (Just (boolA (fit5 c s))) := fits5_A c s hs
  refine ACall_of tabOk Tryz.func52 rfl Tryz.ntmps52 (congrArg Array.toList Tryz.results52) (by kernel_rfl) rfl ?_
  refine A_seq ?_
  refine R_list ?_
  refine q_d ?_
  refine q_d ?_
  refine q_d ?_
  refine O_weaken (Wk_freezeV (id := 3) (ds := dvcD d) rfl rfl) ?_
  refine O_weaken (Wk_freezeV (id := 4) (ds := clsD c) rfl rfl) ?_
  refine O_weaken (Wk_freezeV (id := 5) (ds := sbjD s) rfl rfl) ?_
  repeat (first | refine q_Z ?_ | ((first | apply O_y rfl rfl rfl | apply Q_y rfl rfl rfl); (first | exact q_A | exact q_5 | exact q_B | (first | exact Y_makeFunc rfl rfl | exact R_lenA tabOk rfl rfl rfl rfl))) | refine q_d ?_ | refine q_a ?_ | refine q_b ?_ | refine q_c ?_ | refine A_ct rfl ?_ | refine A_cf rfl ?_ | refine q_W ?_ | (refine O_sliceA tabOk rfl rfl rfl rfl rfl rfl rfl rfl rfl rfl ?_))
  refine A_loop (fun k : Nat => [(16, .row 15), (17, intA 5), (18, intA (k : Int))]) (fun _ => [(15, .rowA 36 1 5 [.fn 72 [.iptr (dvcD d) 0, .iptr (clsD c) 0, .iptr (sbjD s) 0], .fn 76 [.iptr (dvcD d) 0, .iptr (clsD c) 0, .iptr (sbjD s) 0], .fn 80 [.iptr (clsD c) 0, .iptr (sbjD s) 0], .fn 81 [.iptr (clsD c) 0, .iptr (sbjD s) 0], .fn 82 [.iptr (clsD c) 0, .iptr (sbjD s) 0]])])
    (fun k => k ≤ 5 ∧ (0 < k → fit1 d c s = true) ∧ (1 < k → fit2 d c s = true) ∧ (2 < k → fit3 c s = true) ∧ (3 < k → fit4 c s = true) ∧ (4 < k → fit5 c s = true)) (fun k => 5 - k) 0 ⟨by omega, by omega, by omega, by omega, by omega, by omega⟩ (Wk_sel ⟨rfl, rfl, rfl, trivial⟩ ⟨rfl, trivial⟩) ?_
  rintro k ⟨hk, h1, h2, h3, h4, h5⟩
  try dsimp only
  match k, hk, h1, h2, h3, h4, h5 with
  | 0, _, h1, h2, h3, h4, h5 =>
    cases hb0 : fit1 d c s
    · rw [hb0] at a1
      repeat (first | refine q_Z ?_ | ((first | apply O_y rfl rfl rfl | apply Q_y rfl rfl rfl); (first | exact q_A | exact q_5 | exact q_B | (first | exact R_indexA (j := 0) (n := 5) tabOk rfl rfl rfl rfl rfl rfl rfl (by omega) | exact R_loadA tabOk rfl rfl rfl rfl rfl rfl rfl rfl rfl))) | refine q_d ?_ | refine q_a ?_ | refine q_b ?_ | refine q_c ?_ | refine A_ct rfl ?_ | refine A_cf rfl ?_ | refine q_W ?_ | (refine O_cF rfl rfl rfl rfl rfl rfl a1 (fun _ => rfl) ?_))
      exact X_ret rfl ⟨by unfold fitsC; rw [hb0]; simp; rfl, rfl⟩
    · rw [hb0] at a1
      repeat (first | refine q_Z ?_ | ((first | apply O_y rfl rfl rfl | apply Q_y rfl rfl rfl); (first | exact q_A | exact q_5 | exact q_B | (first | exact R_indexA (j := 0) (n := 5) tabOk rfl rfl rfl rfl rfl rfl rfl (by omega) | exact R_loadA tabOk rfl rfl rfl rfl rfl rfl rfl rfl rfl))) | refine q_d ?_ | refine q_a ?_ | refine q_b ?_ | refine q_c ?_ | refine A_ct rfl ?_ | refine A_cf rfl ?_ | refine q_W ?_ | (refine O_cF rfl rfl rfl rfl rfl rfl a1 (fun _ => rfl) ?_))
      exact ⟨0 + 1, ⟨by omega, by first | exact fun _ => rfl | exact fun _ => h1 (by decide) | exact fun h => absurd h (by decide), by first | exact fun _ => rfl | exact fun _ => h2 (by decide) | exact fun h => absurd h (by decide), by first | exact fun _ => rfl | exact fun _ => h3 (by decide) | exact fun h => absurd h (by decide), by first | exact fun _ => rfl | exact fun _ => h4 (by decide) | exact fun h => absurd h (by decide), by first | exact fun _ => rfl | exact fun h => absurd h (by decide)⟩, by omega, Wk_sel ⟨rfl, rfl, rfl, trivial⟩ ⟨rfl, trivial⟩⟩
  | 1, _, h1, h2, h3, h4, h5 =>
    cases hb1 : fit2 d c s
    · rw [hb1] at a2
      repeat (first | refine q_Z ?_ | ((first | apply O_y rfl rfl rfl | apply Q_y rfl rfl rfl); (first | exact q_A | exact q_5 | exact q_B | (first | exact R_indexA (j := 1) (n := 5) tabOk rfl rfl rfl rfl rfl rfl rfl (by omega) | exact R_loadA tabOk rfl rfl rfl rfl rfl rfl rfl rfl rfl))) | refine q_d ?_ | refine q_a ?_ | refine q_b ?_ | refine q_c ?_ | refine A_ct rfl ?_ | refine A_cf rfl ?_ | refine q_W ?_ | (refine O_cF rfl rfl rfl rfl rfl rfl a2 (fun _ => rfl) ?_))
      exact X_ret rfl ⟨by unfold fitsC; rw [hb1]; simp; rfl, rfl⟩
    · rw [hb1] at a2
      repeat (first | refine q_Z ?_ | ((first | apply O_y rfl rfl rfl | apply Q_y rfl rfl rfl); (first | exact q_A | exact q_5 | exact q_B | (first | exact R_indexA (j := 1) (n := 5) tabOk rfl rfl rfl rfl rfl rfl rfl (by omega) | exact R_loadA tabOk rfl rfl rfl rfl rfl rfl rfl rfl rfl))) | refine q_d ?_ | refine q_a ?_ | refine q_b ?_ | refine q_c ?_ | refine A_ct rfl ?_ | refine A_cf rfl ?_ | refine q_W ?_ | (refine O_cF rfl rfl rfl rfl rfl rfl a2 (fun _ => rfl) ?_))
      exact ⟨1 + 1, ⟨by omega, by first | exact fun _ => rfl | exact fun _ => h1 (by decide) | exact fun h => absurd h (by decide), by first | exact fun _ => rfl | exact fun _ => h2 (by decide) | exact fun h => absurd h (by decide), by first | exact fun _ => rfl | exact fun _ => h3 (by decide) | exact fun h => absurd h (by decide), by first | exact fun _ => rfl | exact fun _ => h4 (by decide) | exact fun h => absurd h (by decide), by first | exact fun _ => rfl | exact fun h => absurd h (by decide)⟩, by omega, Wk_sel ⟨rfl, rfl, rfl, trivial⟩ ⟨rfl, trivial⟩⟩
  | 2, _, h1, h2, h3, h4, h5 =>
    cases hb2 : fit3 c s
    · rw [hb2] at a3
      repeat (first | refine q_Z ?_ | ((first | apply O_y rfl rfl rfl | apply Q_y rfl rfl rfl); (first | exact q_A | exact q_5 | exact q_B | (first | exact R_indexA (j := 2) (n := 5) tabOk rfl rfl rfl rfl rfl rfl rfl (by omega) | exact R_loadA tabOk rfl rfl rfl rfl rfl rfl rfl rfl rfl))) | refine q_d ?_ | refine q_a ?_ | refine q_b ?_ | refine q_c ?_ | refine A_ct rfl ?_ | refine A_cf rfl ?_ | refine q_W ?_ | (refine O_cF rfl rfl rfl rfl rfl rfl a3 (fun _ => rfl) ?_))
      exact X_ret rfl ⟨by unfold fitsC; rw [hb2]; simp; rfl, rfl⟩
    · rw [hb2] at a3
      repeat (first | refine q_Z ?_ | ((first | apply O_y rfl rfl rfl | apply Q_y rfl rfl rfl); (first | exact q_A | exact q_5 | exact q_B | (first | exact R_indexA (j := 2) (n := 5) tabOk rfl rfl rfl rfl rfl rfl rfl (by omega) | exact R_loadA tabOk rfl rfl rfl rfl rfl rfl rfl rfl rfl))) | refine q_d ?_ | refine q_a ?_ | refine q_b ?_ | refine q_c ?_ | refine A_ct rfl ?_ | refine A_cf rfl ?_ | refine q_W ?_ | (refine O_cF rfl rfl rfl rfl rfl rfl a3 (fun _ => rfl) ?_))
      exact ⟨2 + 1, ⟨by omega, by first | exact fun _ => rfl | exact fun _ => h1 (by decide) | exact fun h => absurd h (by decide), by first | exact fun _ => rfl | exact fun _ => h2 (by decide) | exact fun h => absurd h (by decide), by first | exact fun _ => rfl | exact fun _ => h3 (by decide) | exact fun h => absurd h (by decide), by first | exact fun _ => rfl | exact fun _ => h4 (by decide) | exact fun h => absurd h (by decide), by first | exact fun _ => rfl | exact fun h => absurd h (by decide)⟩, by omega, Wk_sel ⟨rfl, rfl, rfl, trivial⟩ ⟨rfl, trivial⟩⟩
  | 3, _, h1, h2, h3, h4, h5 =>
    cases hb3 : fit4 c s
    · rw [hb3] at a4
      repeat (first | refine q_Z ?_ | ((first | apply O_y rfl rfl rfl | apply Q_y rfl rfl rfl); (first | exact q_A | exact q_5 | exact q_B | (first | exact R_indexA (j := 3) (n := 5) tabOk rfl rfl rfl rfl rfl rfl rfl (by omega) | exact R_loadA tabOk rfl rfl rfl rfl rfl rfl rfl rfl rfl))) | refine q_d ?_ | refine q_a ?_ | refine q_b ?_ | refine q_c ?_ | refine A_ct rfl ?_ | refine A_cf rfl ?_ | refine q_W ?_ | (refine O_cF rfl rfl rfl rfl rfl rfl a4 (fun _ => rfl) ?_))
      exact X_ret rfl ⟨by unfold fitsC; rw [hb3]; simp; rfl, rfl⟩
    · rw [hb3] at a4
      repeat (first | refine q_Z ?_ | ((first | apply O_y rfl rfl rfl | apply Q_y rfl rfl rfl); (first | exact q_A | exact q_5 | exact q_B | (first | exact R_indexA (j := 3) (n := 5) tabOk rfl rfl rfl rfl rfl rfl rfl (by omega) | exact R_loadA tabOk rfl rfl rfl rfl rfl rfl rfl rfl rfl))) | refine q_d ?_ | refine q_a ?_ | refine q_b ?_ | refine q_c ?_ | refine A_ct rfl ?_ | refine A_cf rfl ?_ | refine q_W ?_ | (refine O_cF rfl rfl rfl rfl rfl rfl a4 (fun _ => rfl) ?_))
      exact ⟨3 + 1, ⟨by omega, by first | exact fun _ => rfl | exact fun _ => h1 (by decide) | exact fun h => absurd h (by decide), by first | exact fun _ => rfl | exact fun _ => h2 (by decide) | exact fun h => absurd h (by decide), by first | exact fun _ => rfl | exact fun _ => h3 (by decide) | exact fun h => absurd h (by decide), by first | exact fun _ => rfl | exact fun _ => h4 (by decide) | exact fun h => absurd h (by decide), by first | exact fun _ => rfl | exact fun h => absurd h (by decide)⟩, by omega, Wk_sel ⟨rfl, rfl, rfl, trivial⟩ ⟨rfl, trivial⟩⟩
  | 4, _, h1, h2, h3, h4, h5 =>
    cases hb4 : fit5 c s
    · rw [hb4] at a5
      repeat (first | refine q_Z ?_ | ((first | apply O_y rfl rfl rfl | apply Q_y rfl rfl rfl); (first | exact q_A | exact q_5 | exact q_B | (first | exact R_indexA (j := 4) (n := 5) tabOk rfl rfl rfl rfl rfl rfl rfl (by omega) | exact R_loadA tabOk rfl rfl rfl rfl rfl rfl rfl rfl rfl))) | refine q_d ?_ | refine q_a ?_ | refine q_b ?_ | refine q_c ?_ | refine A_ct rfl ?_ | refine A_cf rfl ?_ | refine q_W ?_ | (refine O_cF rfl rfl rfl rfl rfl rfl a5 (fun _ => rfl) ?_))
      exact X_ret rfl ⟨by unfold fitsC; rw [hb4]; simp; rfl, rfl⟩
    · rw [hb4] at a5
      repeat (first | refine q_Z ?_ | ((first | apply O_y rfl rfl rfl | apply Q_y rfl rfl rfl); (first | exact q_A | exact q_5 | exact q_B | (first | exact R_indexA (j := 4) (n := 5) tabOk rfl rfl rfl rfl rfl rfl rfl (by omega) | exact R_loadA tabOk rfl rfl rfl rfl rfl rfl rfl rfl rfl))) | refine q_d ?_ | refine q_a ?_ | refine q_b ?_ | refine q_c ?_ | refine A_ct rfl ?_ | refine A_cf rfl ?_ | refine q_W ?_ | (refine O_cF rfl rfl rfl rfl rfl rfl a5 (fun _ => rfl) ?_))
      exact ⟨4 + 1, ⟨by omega, by first | exact fun _ => rfl | exact fun _ => h1 (by decide) | exact fun h => absurd h (by decide), by first | exact fun _ => rfl | exact fun _ => h2 (by decide) | exact fun h => absurd h (by decide), by first | exact fun _ => rfl | exact fun _ => h3 (by decide) | exact fun h => absurd h (by decide), by first | exact fun _ => rfl | exact fun _ => h4 (by decide) | exact fun h => absurd h (by decide), by first | exact fun _ => rfl | exact fun h => absurd h (by decide)⟩, by omega, Wk_sel ⟨rfl, rfl, rfl, trivial⟩ ⟨rfl, trivial⟩⟩
  | 5, _, h1, h2, h3, h4, h5 =>
    repeat (first | refine q_Z ?_ | ((first | apply O_y rfl rfl rfl | apply Q_y rfl rfl rfl); (first | exact q_A | exact q_5 | exact q_B)) | refine q_d ?_ | refine q_a ?_ | refine q_b ?_ | refine q_c ?_ | refine A_ct rfl ?_ | refine A_cf rfl ?_ | refine q_W ?_)
    exact X_ret rfl ⟨by unfold fitsC; rw [h1 (by omega), h2 (by omega), h3 (by omega), h4 (by omega), h5 (by omega)]; rfl, rfl⟩
  | k + 6, hk, _, _, _, _, _ => exact absurd hk (by omega)
end Go.Proofs.YtpnhkkejcnicoaaGreat.Ab

namespace Go.Proofs.YtpnhkkejcnicoaaGreat.Ab
set_option linter.unusedVariables false
open Go.RowKit

open Classical in
noncomputable def invN (ν : List (Nat × Nat)) (i : Nat) : Option Nat := if h : ∃ p, look ν p = some i then some (Classical.choose h) else none
end Go.Proofs.YtpnhkkejcnicoaaGreat.Ab

namespace Go.Proofs.YtpnhkkejcnicoaaGreat.Ab
set_option linter.unusedVariables false
open Go.RowKit
section
variable {P : Program} {nt : Nat} {T : List Nat} {Q0 : Post} {ops : Array Oper} {rest : List Oper} {e : Env} {h : Heap} {o : Oper} {tab : TTab}
end
end Go.Proofs.YtpnhkkejcnicoaaGreat.Ab

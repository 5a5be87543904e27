/-
 Texts of a proof, one behind the other (part 10).
-/
import Derived.Test.YtmmdkjanmegjdaaGreatRv2
import Derived.Test.YtmmdkjanmegjdaaGreatRv4
import Derived.Test.YtmmdkjanmegjdaaGreatRv8
set_option linter.unusedSimpArgs false
set_option linter.unusedVariables false
namespace Go.Proofs.YtmmdkjanmegjdaaGreat.Ab
set_option maxRecDepth 100000
open Go.RowKit Go.Lib
attribute [local irreducible] AWp AOps AQ AYield AEff ACall AWk AAny AAt AThen AIn APost NoPanic
theorem zly (n : Int) (c : Cls) (h0 : 0 ≤ n ∧ n < 4294967296) : ACall Tryz.prog 101 ([u32A n] ++ [.iptr (clsD c) 0]) [] (Just (boolA (decide (n = c.thr)))) := by
 have hw : IntKind.i64.wrap n = n := zaL ⟨by omega, by omega⟩
 refine zf za Tryz.func101 rfl Tryz.ntmps101 (congrArg Array.toList Tryz.results101) (by kernel_rfl) rfl ?_
 by_cases h : n = c.thr
 ·rw [decide_eq_true h]
  repeat (first | refine q_Z ?_ | ((first | apply q_K rfl | apply q_X rfl); (first | exact q_H | (exact zcK za rfl rfl rfl rfl rfl hw))) | refine q_U ?_)
  exact zk rfl ⟨rfl, rfl⟩
 ·rw [decide_eq_false h]
  repeat (first | refine q_Z ?_ | ((first | apply q_K rfl | apply q_X rfl); (first | exact q_H | (exact zcK za rfl rfl rfl rfl rfl hw))) | refine q_U ?_)
  exact zk rfl ⟨rfl, rfl⟩
theorem zhh (L : List Int) (f : FuncId) (caps : List AVal) (p : Int → Bool) (hf : ∀ x ∈ L, ACall Tryz.prog f ([u32A x] ++ caps) [] (Just (boolA (p x)))) (hn : L.length ≤ 1000000000) {b : Bool} (hb : L.any p = b) :
  ACall Tryz.prog 100 [usA L, .fn f caps] [] (Just (boolA b)) := by rw [← hb]; exact zem L f caps p hf hn
theorem znh (c : Cls) (s : Sbj) (hs : OkS s) : ACall Tryz.prog 99 [.iptr (clsD c) 0, .iptr (sbjD s) 0] [] (Just (boolA (fit5 c s))) := by
 unfold fit5
 obtain ⟨b, hb⟩ : ∃ b, (s.path.any fun n => decide (n = c.thr)) = b := ⟨_, rfl⟩
 have hc := zhh s.path 101 [.iptr (clsD c) 0] (fun n => decide (n = c.thr)) (fun n hn => zly n c (hs.pu n hn)) hs.path hb
 rw [hb]
 refine zf za Tryz.func99 rfl Tryz.ntmps99 (congrArg Array.toList Tryz.results99) (by kernel_rfl) rfl ?_
 by_cases h1 : c.thr = -1
 ·rw [decide_eq_true h1]
  repeat (first | refine q_Z ?_ | ((first | apply q_K rfl | apply q_X rfl); (first | exact q_H | (exact zU rfl rfl))) | refine q_U ?_)
  exact zk rfl ⟨rfl, rfl⟩
 ·rw [decide_eq_false h1, Bool.false_or]
  repeat (first | refine q_Z ?_ | ((first | apply q_K rfl | apply q_X rfl); (first | exact q_H | (exact zU rfl rfl))) | refine q_U ?_ | refine q_O hc ?_)
  exact zk rfl ⟨rfl, rfl⟩
set_option maxHeartbeats 8000000 in
theorem zoY (d : Dvc) (c : Cls) (s : Sbj) (hd : OkD d) (hs : OkS s) : ACall Tryz.prog 65 [dvcA d, aggD (clsD c), aggD (sbjD s)] [] (Just (boolA (fitsC d c s))) := by
 have a1 : ACall Tryz.prog 89 ([] ++ [.iptr (dvcD d) 0, .iptr (clsD c) 0, .iptr (sbjD s) 0]) [] (Just (boolA (fit1 d c s))) := znl d c s hd hs
 have a2 : ACall Tryz.prog 93 ([] ++ [.iptr (dvcD d) 0, .iptr (clsD c) 0, .iptr (sbjD s) 0]) [] (Just (boolA (fit2 d c s))) := znk d c s hd hs
 have a3 : ACall Tryz.prog 97 ([] ++ [.iptr (clsD c) 0, .iptr (sbjD s) 0]) [] (Just (boolA (fit3 c s))) := znj c s
 have a4 : ACall Tryz.prog 98 ([] ++ [.iptr (clsD c) 0, .iptr (sbjD s) 0]) [] (Just (boolA (fit4 c s))) := zni c s
 have a5 : ACall Tryz.prog 99 ([] ++ [.iptr (clsD c) 0, .iptr (sbjD s) 0]) [] (Just (boolA (fit5 c s))) := znh c s hs
 refine zf za Tryz.func65 rfl Tryz.ntmps65 (congrArg Array.toList Tryz.results65) (by kernel_rfl) rfl ?_
 refine z7 ?_
 refine zab ?_
 refine q_d ?_
 refine q_d ?_
 refine q_d ?_
 refine zB (zG (id := 3) (ds := dvcD d) rfl rfl) ?_
 refine zB (zG (id := 4) (ds := clsD c) rfl rfl) ?_
 refine zB (zG (id := 5) (ds := sbjD s) rfl rfl) ?_
 repeat (first | refine q_Z ?_ | ((first | apply q_K rfl | apply q_X rfl); (first | exact q_H | (first | exact zU rfl rfl | exact zph za rfl rfl rfl rfl))) | refine q_U ?_ | (refine zmk za rfl rfl rfl rfl rfl rfl rfl rfl rfl rfl ?_))
 refine zw (fun k : Nat => [(16, .row 15), (17, intA 5), (18, intA (k : Int))]) (fun _ => [(15, .rowA 36 1 5 [.fn 89 [.iptr (dvcD d) 0, .iptr (clsD c) 0, .iptr (sbjD s) 0], .fn 93 [.iptr (dvcD d) 0, .iptr (clsD c) 0, .iptr (sbjD s) 0], .fn 97 [.iptr (clsD c) 0, .iptr (sbjD s) 0], .fn 98 [.iptr (clsD c) 0, .iptr (sbjD s) 0], .fn 99 [.iptr (clsD c) 0, .iptr (sbjD s) 0]])])
  (fun k => k ≤ 5 ∧ (0 < k → fit1 d c s = true) ∧ (1 < k → fit2 d c s = true) ∧ (2 < k → fit3 c s = true) ∧ (3 < k → fit4 c s = true) ∧ (4 < k → fit5 c s = true)) (fun k => 5 - k) 0 ⟨by omega, by omega, by omega, by omega, by omega, by omega⟩ (q_S) ?_
 rintro k ⟨hk, h1, h2, h3, h4, h5⟩
 try dsimp only
 match k, hk, h1, h2, h3, h4, h5 with
 | 0, _, h1, h2, h3, h4, h5 =>
  cases hb0 : fit1 d c s
  ·rw [hb0] at a1
   repeat (first | refine q_Z ?_ | ((first | apply q_K rfl | apply q_X rfl); (first | exact q_H | (first | exact za6 (j := 0) (n := 5) za rfl rfl rfl rfl rfl rfl rfl (by omega) | exact zbq za rfl rfl rfl rfl rfl rfl rfl rfl rfl))) | refine q_U ?_ | (refine O_cF rfl rfl rfl rfl rfl rfl a1 (fun _ => rfl) ?_))
   exact zk rfl ⟨by unfold fitsC; rw [hb0]; simp; rfl, rfl⟩
  ·rw [hb0] at a1
   repeat (first | refine q_Z ?_ | ((first | apply q_K rfl | apply q_X rfl); (first | exact q_H | (first | exact za6 (j := 0) (n := 5) za rfl rfl rfl rfl rfl rfl rfl (by omega) | exact zbq za rfl rfl rfl rfl rfl rfl rfl rfl rfl))) | refine q_U ?_ | (refine O_cF rfl rfl rfl rfl rfl rfl a1 (fun _ => rfl) ?_))
   exact ⟨0 + 1, ⟨by omega, by first | exact fun _ => rfl | exact fun _ => h1 (by decide) | exact fun h => absurd h (by decide), by first | exact fun _ => rfl | exact fun _ => h2 (by decide) | exact fun h => absurd h (by decide), by first | exact fun _ => rfl | exact fun _ => h3 (by decide) | exact fun h => absurd h (by decide), by first | exact fun _ => rfl | exact fun _ => h4 (by decide) | exact fun h => absurd h (by decide), by first | exact fun _ => rfl | exact fun h => absurd h (by decide)⟩, by omega, q_S⟩
 | 1, _, h1, h2, h3, h4, h5 =>
  cases hb1 : fit2 d c s
  ·rw [hb1] at a2
   repeat (first | refine q_Z ?_ | ((first | apply q_K rfl | apply q_X rfl); (first | exact q_H | (first | exact za6 (j := 1) (n := 5) za rfl rfl rfl rfl rfl rfl rfl (by omega) | exact zbq za rfl rfl rfl rfl rfl rfl rfl rfl rfl))) | refine q_U ?_ | (refine O_cF rfl rfl rfl rfl rfl rfl a2 (fun _ => rfl) ?_))
   exact zk rfl ⟨by unfold fitsC; rw [hb1]; simp; rfl, rfl⟩
  ·rw [hb1] at a2
   repeat (first | refine q_Z ?_ | ((first | apply q_K rfl | apply q_X rfl); (first | exact q_H | (first | exact za6 (j := 1) (n := 5) za rfl rfl rfl rfl rfl rfl rfl (by omega) | exact zbq za rfl rfl rfl rfl rfl rfl rfl rfl rfl))) | refine q_U ?_ | (refine O_cF rfl rfl rfl rfl rfl rfl a2 (fun _ => rfl) ?_))
   exact ⟨1 + 1, ⟨by omega, by first | exact fun _ => rfl | exact fun _ => h1 (by decide) | exact fun h => absurd h (by decide), by first | exact fun _ => rfl | exact fun _ => h2 (by decide) | exact fun h => absurd h (by decide), by first | exact fun _ => rfl | exact fun _ => h3 (by decide) | exact fun h => absurd h (by decide), by first | exact fun _ => rfl | exact fun _ => h4 (by decide) | exact fun h => absurd h (by decide), by first | exact fun _ => rfl | exact fun h => absurd h (by decide)⟩, by omega, q_S⟩
 | 2, _, h1, h2, h3, h4, h5 =>
  cases hb2 : fit3 c s
  ·rw [hb2] at a3
   repeat (first | refine q_Z ?_ | ((first | apply q_K rfl | apply q_X rfl); (first | exact q_H | (first | exact za6 (j := 2) (n := 5) za rfl rfl rfl rfl rfl rfl rfl (by omega) | exact zbq za rfl rfl rfl rfl rfl rfl rfl rfl rfl))) | refine q_U ?_ | (refine O_cF rfl rfl rfl rfl rfl rfl a3 (fun _ => rfl) ?_))
   exact zk rfl ⟨by unfold fitsC; rw [hb2]; simp; rfl, rfl⟩
  ·rw [hb2] at a3
   repeat (first | refine q_Z ?_ | ((first | apply q_K rfl | apply q_X rfl); (first | exact q_H | (first | exact za6 (j := 2) (n := 5) za rfl rfl rfl rfl rfl rfl rfl (by omega) | exact zbq za rfl rfl rfl rfl rfl rfl rfl rfl rfl))) | refine q_U ?_ | (refine O_cF rfl rfl rfl rfl rfl rfl a3 (fun _ => rfl) ?_))
   exact ⟨2 + 1, ⟨by omega, by first | exact fun _ => rfl | exact fun _ => h1 (by decide) | exact fun h => absurd h (by decide), by first | exact fun _ => rfl | exact fun _ => h2 (by decide) | exact fun h => absurd h (by decide), by first | exact fun _ => rfl | exact fun _ => h3 (by decide) | exact fun h => absurd h (by decide), by first | exact fun _ => rfl | exact fun _ => h4 (by decide) | exact fun h => absurd h (by decide), by first | exact fun _ => rfl | exact fun h => absurd h (by decide)⟩, by omega, q_S⟩
 | 3, _, h1, h2, h3, h4, h5 =>
  cases hb3 : fit4 c s
  ·rw [hb3] at a4
   repeat (first | refine q_Z ?_ | ((first | apply q_K rfl | apply q_X rfl); (first | exact q_H | (first | exact za6 (j := 3) (n := 5) za rfl rfl rfl rfl rfl rfl rfl (by omega) | exact zbq za rfl rfl rfl rfl rfl rfl rfl rfl rfl))) | refine q_U ?_ | (refine O_cF rfl rfl rfl rfl rfl rfl a4 (fun _ => rfl) ?_))
   exact zk rfl ⟨by unfold fitsC; rw [hb3]; simp; rfl, rfl⟩
  ·rw [hb3] at a4
   repeat (first | refine q_Z ?_ | ((first | apply q_K rfl | apply q_X rfl); (first | exact q_H | (first | exact za6 (j := 3) (n := 5) za rfl rfl rfl rfl rfl rfl rfl (by omega) | exact zbq za rfl rfl rfl rfl rfl rfl rfl rfl rfl))) | refine q_U ?_ | (refine O_cF rfl rfl rfl rfl rfl rfl a4 (fun _ => rfl) ?_))
   exact ⟨3 + 1, ⟨by omega, by first | exact fun _ => rfl | exact fun _ => h1 (by decide) | exact fun h => absurd h (by decide), by first | exact fun _ => rfl | exact fun _ => h2 (by decide) | exact fun h => absurd h (by decide), by first | exact fun _ => rfl | exact fun _ => h3 (by decide) | exact fun h => absurd h (by decide), by first | exact fun _ => rfl | exact fun _ => h4 (by decide) | exact fun h => absurd h (by decide), by first | exact fun _ => rfl | exact fun h => absurd h (by decide)⟩, by omega, q_S⟩
 | 4, _, h1, h2, h3, h4, h5 =>
  cases hb4 : fit5 c s
  ·rw [hb4] at a5
   repeat (first | refine q_Z ?_ | ((first | apply q_K rfl | apply q_X rfl); (first | exact q_H | (first | exact za6 (j := 4) (n := 5) za rfl rfl rfl rfl rfl rfl rfl (by omega) | exact zbq za rfl rfl rfl rfl rfl rfl rfl rfl rfl))) | refine q_U ?_ | (refine O_cF rfl rfl rfl rfl rfl rfl a5 (fun _ => rfl) ?_))
   exact zk rfl ⟨by unfold fitsC; rw [hb4]; simp; rfl, rfl⟩
  ·rw [hb4] at a5
   repeat (first | refine q_Z ?_ | ((first | apply q_K rfl | apply q_X rfl); (first | exact q_H | (first | exact za6 (j := 4) (n := 5) za rfl rfl rfl rfl rfl rfl rfl (by omega) | exact zbq za rfl rfl rfl rfl rfl rfl rfl rfl rfl))) | refine q_U ?_ | (refine O_cF rfl rfl rfl rfl rfl rfl a5 (fun _ => rfl) ?_))
   exact ⟨4 + 1, ⟨by omega, by first | exact fun _ => rfl | exact fun _ => h1 (by decide) | exact fun h => absurd h (by decide), by first | exact fun _ => rfl | exact fun _ => h2 (by decide) | exact fun h => absurd h (by decide), by first | exact fun _ => rfl | exact fun _ => h3 (by decide) | exact fun h => absurd h (by decide), by first | exact fun _ => rfl | exact fun _ => h4 (by decide) | exact fun h => absurd h (by decide), by first | exact fun _ => rfl | exact fun h => absurd h (by decide)⟩, by omega, q_S⟩
 | 5, _, h1, h2, h3, h4, h5 =>
  repeat (first | refine q_Z ?_ | ((first | apply q_K rfl | apply q_X rfl); (exact q_H)) | refine q_U ?_)
  exact zk rfl ⟨by unfold fitsC; rw [h1 (by omega), h2 (by omega), h3 (by omega), h4 (by omega), h5 (by omega)]; rfl, rfl⟩
 | k + 6, hk, _, _, _, _, _ => exact absurd hk (by omega)
end Go.Proofs.YtmmdkjanmegjdaaGreat.Ab

namespace Go.Proofs.YtmmdkjanmegjdaaGreat.Ab
open Go.RowKit

open Classical in
noncomputable def invN (ν : List (Nat × Nat)) (i : Nat) : Option Nat := if h : ∃ p, look ν p = some i then some (Classical.choose h) else none
end Go.Proofs.YtmmdkjanmegjdaaGreat.Ab

namespace Go.Proofs.YtmmdkjanmegjdaaGreat.Ab
open Go.RowKit
section
variable {P : Program} {nt : Nat} {T : List Nat} {Q0 : Post} {ops : Array Oper} {rest : List Oper} {e : Env} {h : Heap} {o : Oper} {tab : TTab}
end
end Go.Proofs.YtmmdkjanmegjdaaGreat.Ab

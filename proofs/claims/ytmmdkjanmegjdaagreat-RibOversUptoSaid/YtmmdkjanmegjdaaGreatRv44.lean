/-
 Texts of a proof, one behind the other (part 45).
-/
import Derived.Test.YtmmdkjanmegjdaaGreatRv1
import Derived.Test.YtmmdkjanmegjdaaGreatRv2
import Derived.Test.YtmmdkjanmegjdaaGreatRv4
import Derived.Test.YtmmdkjanmegjdaaGreatRv43
set_option linter.unusedSimpArgs false
set_option linter.unusedVariables false
namespace Go.Proofs.YtmmdkjanmegjdaaGreat.Ab
set_option maxRecDepth 100000
open Go.RowKit Go.Lib
attribute [local irreducible] AWp AOps AQ AYield AEff ACall AWk AAny AAt AThen AIn APost NoPanic
theorem qqbs0 {T : List Nat} {e : Env} {h : Heap} {o : Oper} {c : AVal} (hy : AYield Tryz.prog T e h o c := by first | exact q_1 | exact q_2 | exact q_8 | exact q_7 | exact q_13 | exact zgj rfl rfl rfl rfl | exact q_20 | exact q_25 | exact q_26) : AYield Tryz.prog T e h o c := hy
set_option maxHeartbeats 16000000 in
theorem zjs (x y : Rte) : ACall Tryz.prog 35 [rteA x, rteA y] [] (Just (intA (ordR x y))) := by
 have h0 := zgP x.p y.p
 have h1 := zda x.f y.f
 have h2 := zda x.d y.d
 have h3 := zda x.m y.m
 have h4 := zda x.t y.t
 have h5 := zda x.h y.h
 have h6 := zjC x.i y.i
 have h9 := ziR [ordP x.p y.p, c2 x.f y.f, c2 x.d y.d, c2 x.m y.m, c2 x.t y.t, c2 x.h y.h, compareBytes x.i y.i, cB x.x y.x] (by simp)
 rw [zeR] at h9
 obtain ⟨P, f, d, m, t, i, h, X⟩ := x
 dsimp only at *
 refine zf za Tryz.func35 rfl Tryz.ntmps35 (congrArg Array.toList Tryz.results35) (by kernel_rfl) rfl ?_
 refine z7 ?_
 refine zab ?_
 repeat (first | refine q_Y ?_ | ((first | apply q_K rfl | apply q_X rfl); (exact q_H)) | refine q_U ?_)
 cases X with
 | false =>
  have h7 := ziJ y.x false
  rw [zk5] at h7
  refine zA [] mixed ?_
  (apply q_P 0 rfl (by kernel_rfl) rfl rfl rfl; (exact qqbs0))
  (apply q_P 1 rfl (by kernel_rfl) rfl rfl rfl; (exact qqbs0))
  (apply q_P 2 rfl (by kernel_rfl) rfl rfl rfl; (exact qqbs0))
  (apply q_P 3 rfl (by kernel_rfl) rfl rfl rfl; (exact qqbs0))
  (apply q_P 5 rfl (by kernel_rfl) rfl rfl rfl; (exact qqbs0))
  (apply q_P 6 rfl (by kernel_rfl) rfl rfl rfl; (exact qqbs0))
  (apply q_P 7 rfl (by kernel_rfl) rfl rfl rfl; (exact qqbs0))
  (apply q_P 8 rfl (by kernel_rfl) rfl rfl rfl; (exact qqbs0))
  (apply q_P 9 rfl (by kernel_rfl) rfl rfl rfl; (exact qqbs0))
  (apply q_P 10 rfl (by kernel_rfl) rfl rfl rfl; (exact qqbs0))
  (apply q_P 11 rfl (by kernel_rfl) rfl rfl rfl; (exact qqbs0))
  (apply q_P 12 rfl (by kernel_rfl) rfl rfl rfl; (exact qqbs0))
  (apply q_P 13 rfl (by kernel_rfl) rfl rfl rfl; (exact qqbs0))
  (apply q_P 14 rfl (by kernel_rfl) rfl rfl rfl; (exact qqbs0))
  (apply q_P 16 rfl (by kernel_rfl) rfl rfl rfl; (exact qqbs0))
  (apply q_P 17 rfl (by kernel_rfl) rfl rfl rfl; (exact qqbs0))
  (apply q_P 18 rfl (by kernel_rfl) rfl rfl rfl; (exact qqbs0))
  (apply q_P 19 rfl (by kernel_rfl) rfl rfl rfl; (exact qqbs0))
  (apply q_P 20 rfl (by kernel_rfl) rfl rfl rfl; (exact qqbs0))
  (apply q_P 21 rfl (by kernel_rfl) rfl rfl rfl; (exact qqbs0))
  (apply q_P 22 rfl (by kernel_rfl) rfl rfl rfl; (exact qqbs0))
  (apply q_P 23 rfl (by kernel_rfl) rfl rfl rfl; (exact qqbs0))
  (apply q_P 24 rfl (by kernel_rfl) rfl rfl rfl; (exact qqbs0))
  (apply q_P 25 rfl (by kernel_rfl) rfl rfl rfl; (exact qqbs0))
  (apply q_P 27 rfl (by kernel_rfl) rfl rfl rfl; (exact qqbs0))
  (apply q_P 28 rfl (by kernel_rfl) rfl rfl rfl; (exact qqbs0))
  (apply q_P 29 rfl (by kernel_rfl) rfl rfl rfl; (exact qqbs0))
  (apply q_P 30 rfl (by kernel_rfl) rfl rfl rfl; (exact qqbs0))
  (apply q_P 31 rfl (by kernel_rfl) rfl rfl rfl; (exact qqbs0))
  (apply q_P 32 rfl (by kernel_rfl) rfl rfl rfl; (exact qqbs0))
  (apply q_P 33 rfl (by kernel_rfl) rfl rfl rfl; (exact qqbs0))
  (apply q_P 34 rfl (by kernel_rfl) rfl rfl rfl; (exact qqbs0))
  (apply q_P 35 rfl (by kernel_rfl) rfl rfl rfl; (exact qqbs0))
  (apply q_P 36 rfl (by kernel_rfl) rfl rfl rfl; (exact qqbs0))
  (apply q_P 38 rfl (by kernel_rfl) rfl rfl rfl; (exact qqbs0))
  (apply q_P 39 rfl (by kernel_rfl) rfl rfl rfl; (exact qqbs0))
  (apply q_P 40 rfl (by kernel_rfl) rfl rfl rfl; (exact qqbs0))
  (apply q_P 41 rfl (by kernel_rfl) rfl rfl rfl; (exact qqbs0))
  (apply q_P 42 rfl (by kernel_rfl) rfl rfl rfl; (exact qqbs0))
  (apply q_P 43 rfl (by kernel_rfl) rfl rfl rfl; (exact qqbs0))
  (apply q_P 44 rfl (by kernel_rfl) rfl rfl rfl; (exact qqbs0))
  (apply q_P 45 rfl (by kernel_rfl) rfl rfl rfl; (exact qqbs0))
  (apply q_P 46 rfl (by kernel_rfl) rfl rfl rfl; (exact qqbs0))
  (apply q_P 47 rfl (by kernel_rfl) rfl rfl rfl; (exact qqbs0))
  (apply q_P 49 rfl (by kernel_rfl) rfl rfl rfl; (exact qqbs0))
  (apply q_P 50 rfl (by kernel_rfl) rfl rfl rfl; (exact qqbs0))
  (apply q_P 51 rfl (by kernel_rfl) rfl rfl rfl; (exact qqbs0))
  (apply q_P 52 rfl (by kernel_rfl) rfl rfl rfl; (exact qqbs0))
  (apply q_P 53 rfl (by kernel_rfl) rfl rfl rfl; (exact qqbs0))
  (apply q_P 54 rfl (by kernel_rfl) rfl rfl rfl; (exact qqbs0))
  (apply q_P 55 rfl (by kernel_rfl) rfl rfl rfl; (exact qqbs0))
  (apply q_P 56 rfl (by kernel_rfl) rfl rfl rfl; (exact qqbs0))
  (apply q_P 57 rfl (by kernel_rfl) rfl rfl rfl; (exact qqbs0))
  (apply q_P 58 rfl (by kernel_rfl) rfl rfl rfl; (exact qqbs0))
  (apply q_P 60 rfl (by kernel_rfl) rfl rfl rfl; (exact qqbs0))
  (apply q_P 61 rfl (by kernel_rfl) rfl rfl rfl; (exact qqbs0))
  (apply q_P 62 rfl (by kernel_rfl) rfl rfl rfl; (exact qqbs0))
  (apply q_P 63 rfl (by kernel_rfl) rfl rfl rfl; (exact qqbs0))
  (apply q_P 64 rfl (by kernel_rfl) rfl rfl rfl; (exact qqbs0))
  (apply q_P 65 rfl (by kernel_rfl) rfl rfl rfl; (exact qqbs0))
  (apply q_P 66 rfl (by kernel_rfl) rfl rfl rfl; (exact qqbs0))
  (apply q_P 67 rfl (by kernel_rfl) rfl rfl rfl; (exact qqbs0))
  (apply q_P 68 rfl (by kernel_rfl) rfl rfl rfl; (exact qqbs0))
  (apply q_P 69 rfl (by kernel_rfl) rfl rfl rfl; (exact qqbs0))
  (apply q_P 71 rfl (by kernel_rfl) rfl rfl rfl; (exact qqbs0))
  (apply q_P 72 rfl (by kernel_rfl) rfl rfl rfl; (exact qqbs0))
  (apply q_P 73 rfl (by kernel_rfl) rfl rfl rfl; (exact qqbs0))
  (apply q_P 78 rfl (by kernel_rfl) rfl rfl rfl; (exact qqbs0))
  (apply q_P 79 rfl (by kernel_rfl) rfl rfl rfl; (exact qqbs0))
  refine zd (j := 4) (by kernel_rfl) ?_
  refine zR rfl rfl rfl rfl rfl rfl h0 (fun _ => rfl) ?_
  refine zd (j := 15) (by kernel_rfl) ?_
  refine zR rfl rfl rfl rfl rfl rfl h1 (fun _ => rfl) ?_
  refine zd (j := 26) (by kernel_rfl) ?_
  refine zR rfl rfl rfl rfl rfl rfl h2 (fun _ => rfl) ?_
  refine zd (j := 37) (by kernel_rfl) ?_
  refine zR rfl rfl rfl rfl rfl rfl h3 (fun _ => rfl) ?_
  refine zd (j := 48) (by kernel_rfl) ?_
  refine zR rfl rfl rfl rfl rfl rfl h4 (fun _ => rfl) ?_
  refine zd (j := 59) (by kernel_rfl) ?_
  refine zR rfl rfl rfl rfl rfl rfl h5 (fun _ => rfl) ?_
  refine zd (j := 70) (by kernel_rfl) ?_
  refine zR rfl rfl rfl rfl rfl rfl h6 (fun _ => rfl) ?_
  (apply q_P 74 rfl (by kernel_rfl) rfl rfl rfl; (exact qqbs0))
  (apply q_P 75 rfl (by kernel_rfl) rfl rfl rfl; (exact qqbs0))
  (apply q_P 76 rfl (by kernel_rfl) rfl rfl rfl; (exact qqbs0))
  (apply q_P 77 rfl (by kernel_rfl) rfl rfl rfl; (exact qqbs0))
  (apply q_P 80 rfl (by kernel_rfl) rfl rfl rfl; (exact qqbs0))
  refine zfe (i := 81) rfl (by kernel_rfl) (by kernel_rfl) (by kernel_rfl) (by repeat (first | exact zaX | refine zaW ?_ | refine zbT ?_)) rfl rfl rfl ?_
  refine zfe (i := 82) rfl (by kernel_rfl) (by kernel_rfl) (by kernel_rfl) (by repeat (first | exact zaX | refine zaW ?_ | refine zbT ?_)) rfl rfl rfl ?_
  refine zfe (i := 83) rfl (by kernel_rfl) (by kernel_rfl) (by kernel_rfl) (by repeat (first | exact zaX | refine zaW ?_ | refine zbT ?_)) rfl rfl rfl ?_
  (apply q_P 84 rfl (by kernel_rfl) rfl rfl rfl; (exact qqbs0))
  refine zd (j := 85) (by kernel_rfl) ?_
  refine zR rfl rfl rfl rfl rfl rfl h7 (fun _ => rfl) ?_
  refine zd (j := 86) (by kernel_rfl) ?_
  refine zbE za rfl rfl rfl rfl rfl rfl rfl rfl rfl rfl rfl rfl ?_
  refine zd (j := 87) (by kernel_rfl) ?_
  refine T_cL rfl rfl rfl rfl rfl rfl h9 rfl (fun _ _ _ => zaJ _ _ _ _ _ rfl rfl) ?_
  (apply q_P 88 rfl (by kernel_rfl) rfl rfl rfl; (exact qqbs0))
  refine zz (by kernel_rfl) ?_
  repeat (first | refine q_Y ?_ | ((first | apply q_K rfl | apply q_X rfl); (exact q_H)) | refine q_U ?_)
  exact zk rfl ⟨rfl, rfl⟩
 | true =>
  have h7 := ziJ false (!y.x)
  rw [zk4] at h7
  refine zA [] mixed ?_
  (apply q_P 0 rfl (by kernel_rfl) rfl rfl rfl; (exact qqbs0))
  (apply q_P 1 rfl (by kernel_rfl) rfl rfl rfl; (exact qqbs0))
  (apply q_P 2 rfl (by kernel_rfl) rfl rfl rfl; (exact qqbs0))
  (apply q_P 3 rfl (by kernel_rfl) rfl rfl rfl; (exact qqbs0))
  (apply q_P 5 rfl (by kernel_rfl) rfl rfl rfl; (exact qqbs0))
  (apply q_P 6 rfl (by kernel_rfl) rfl rfl rfl; (exact qqbs0))
  (apply q_P 7 rfl (by kernel_rfl) rfl rfl rfl; (exact qqbs0))
  (apply q_P 8 rfl (by kernel_rfl) rfl rfl rfl; (exact qqbs0))
  (apply q_P 9 rfl (by kernel_rfl) rfl rfl rfl; (exact qqbs0))
  (apply q_P 10 rfl (by kernel_rfl) rfl rfl rfl; (exact qqbs0))
  (apply q_P 11 rfl (by kernel_rfl) rfl rfl rfl; (exact qqbs0))
  (apply q_P 12 rfl (by kernel_rfl) rfl rfl rfl; (exact qqbs0))
  (apply q_P 13 rfl (by kernel_rfl) rfl rfl rfl; (exact qqbs0))
  (apply q_P 14 rfl (by kernel_rfl) rfl rfl rfl; (exact qqbs0))
  (apply q_P 16 rfl (by kernel_rfl) rfl rfl rfl; (exact qqbs0))
  (apply q_P 17 rfl (by kernel_rfl) rfl rfl rfl; (exact qqbs0))
  (apply q_P 18 rfl (by kernel_rfl) rfl rfl rfl; (exact qqbs0))
  (apply q_P 19 rfl (by kernel_rfl) rfl rfl rfl; (exact qqbs0))
  (apply q_P 20 rfl (by kernel_rfl) rfl rfl rfl; (exact qqbs0))
  (apply q_P 21 rfl (by kernel_rfl) rfl rfl rfl; (exact qqbs0))
  (apply q_P 22 rfl (by kernel_rfl) rfl rfl rfl; (exact qqbs0))
  (apply q_P 23 rfl (by kernel_rfl) rfl rfl rfl; (exact qqbs0))
  (apply q_P 24 rfl (by kernel_rfl) rfl rfl rfl; (exact qqbs0))
  (apply q_P 25 rfl (by kernel_rfl) rfl rfl rfl; (exact qqbs0))
  (apply q_P 27 rfl (by kernel_rfl) rfl rfl rfl; (exact qqbs0))
  (apply q_P 28 rfl (by kernel_rfl) rfl rfl rfl; (exact qqbs0))
  (apply q_P 29 rfl (by kernel_rfl) rfl rfl rfl; (exact qqbs0))
  (apply q_P 30 rfl (by kernel_rfl) rfl rfl rfl; (exact qqbs0))
  (apply q_P 31 rfl (by kernel_rfl) rfl rfl rfl; (exact qqbs0))
  (apply q_P 32 rfl (by kernel_rfl) rfl rfl rfl; (exact qqbs0))
  (apply q_P 33 rfl (by kernel_rfl) rfl rfl rfl; (exact qqbs0))
  (apply q_P 34 rfl (by kernel_rfl) rfl rfl rfl; (exact qqbs0))
  (apply q_P 35 rfl (by kernel_rfl) rfl rfl rfl; (exact qqbs0))
  (apply q_P 36 rfl (by kernel_rfl) rfl rfl rfl; (exact qqbs0))
  (apply q_P 38 rfl (by kernel_rfl) rfl rfl rfl; (exact qqbs0))
  (apply q_P 39 rfl (by kernel_rfl) rfl rfl rfl; (exact qqbs0))
  (apply q_P 40 rfl (by kernel_rfl) rfl rfl rfl; (exact qqbs0))
  (apply q_P 41 rfl (by kernel_rfl) rfl rfl rfl; (exact qqbs0))
  (apply q_P 42 rfl (by kernel_rfl) rfl rfl rfl; (exact qqbs0))
  (apply q_P 43 rfl (by kernel_rfl) rfl rfl rfl; (exact qqbs0))
  (apply q_P 44 rfl (by kernel_rfl) rfl rfl rfl; (exact qqbs0))
  (apply q_P 45 rfl (by kernel_rfl) rfl rfl rfl; (exact qqbs0))
  (apply q_P 46 rfl (by kernel_rfl) rfl rfl rfl; (exact qqbs0))
  (apply q_P 47 rfl (by kernel_rfl) rfl rfl rfl; (exact qqbs0))
  (apply q_P 49 rfl (by kernel_rfl) rfl rfl rfl; (exact qqbs0))
  (apply q_P 50 rfl (by kernel_rfl) rfl rfl rfl; (exact qqbs0))
  (apply q_P 51 rfl (by kernel_rfl) rfl rfl rfl; (exact qqbs0))
  (apply q_P 52 rfl (by kernel_rfl) rfl rfl rfl; (exact qqbs0))
  (apply q_P 53 rfl (by kernel_rfl) rfl rfl rfl; (exact qqbs0))
  (apply q_P 54 rfl (by kernel_rfl) rfl rfl rfl; (exact qqbs0))
  (apply q_P 55 rfl (by kernel_rfl) rfl rfl rfl; (exact qqbs0))
  (apply q_P 56 rfl (by kernel_rfl) rfl rfl rfl; (exact qqbs0))
  (apply q_P 57 rfl (by kernel_rfl) rfl rfl rfl; (exact qqbs0))
  (apply q_P 58 rfl (by kernel_rfl) rfl rfl rfl; (exact qqbs0))
  (apply q_P 60 rfl (by kernel_rfl) rfl rfl rfl; (exact qqbs0))
  (apply q_P 61 rfl (by kernel_rfl) rfl rfl rfl; (exact qqbs0))
  (apply q_P 62 rfl (by kernel_rfl) rfl rfl rfl; (exact qqbs0))
  (apply q_P 63 rfl (by kernel_rfl) rfl rfl rfl; (exact qqbs0))
  (apply q_P 64 rfl (by kernel_rfl) rfl rfl rfl; (exact qqbs0))
  (apply q_P 65 rfl (by kernel_rfl) rfl rfl rfl; (exact qqbs0))
  (apply q_P 66 rfl (by kernel_rfl) rfl rfl rfl; (exact qqbs0))
  (apply q_P 67 rfl (by kernel_rfl) rfl rfl rfl; (exact qqbs0))
  (apply q_P 68 rfl (by kernel_rfl) rfl rfl rfl; (exact qqbs0))
  (apply q_P 69 rfl (by kernel_rfl) rfl rfl rfl; (exact qqbs0))
  (apply q_P 71 rfl (by kernel_rfl) rfl rfl rfl; (exact qqbs0))
  (apply q_P 72 rfl (by kernel_rfl) rfl rfl rfl; (exact qqbs0))
  (apply q_P 73 rfl (by kernel_rfl) rfl rfl rfl; (exact qqbs0))
  (apply q_P 78 rfl (by kernel_rfl) rfl rfl rfl; (exact qqbs0))
  (apply q_P 79 rfl (by kernel_rfl) rfl rfl rfl; (exact qqbs0))
  refine zd (j := 4) (by kernel_rfl) ?_
  refine zR rfl rfl rfl rfl rfl rfl h0 (fun _ => rfl) ?_
  refine zd (j := 15) (by kernel_rfl) ?_
  refine zR rfl rfl rfl rfl rfl rfl h1 (fun _ => rfl) ?_
  refine zd (j := 26) (by kernel_rfl) ?_
  refine zR rfl rfl rfl rfl rfl rfl h2 (fun _ => rfl) ?_
  refine zd (j := 37) (by kernel_rfl) ?_
  refine zR rfl rfl rfl rfl rfl rfl h3 (fun _ => rfl) ?_
  refine zd (j := 48) (by kernel_rfl) ?_
  refine zR rfl rfl rfl rfl rfl rfl h4 (fun _ => rfl) ?_
  refine zd (j := 59) (by kernel_rfl) ?_
  refine zR rfl rfl rfl rfl rfl rfl h5 (fun _ => rfl) ?_
  refine zd (j := 70) (by kernel_rfl) ?_
  refine zR rfl rfl rfl rfl rfl rfl h6 (fun _ => rfl) ?_
  (apply q_P 74 rfl (by kernel_rfl) rfl rfl rfl; (exact qqbs0))
  refine zfe (i := 75) rfl (by kernel_rfl) (by kernel_rfl) (by kernel_rfl) (by repeat (first | exact zaX | refine zaW ?_ | refine zbT ?_)) rfl rfl rfl ?_
  refine zfe (i := 76) rfl (by kernel_rfl) (by kernel_rfl) (by kernel_rfl) (by repeat (first | exact zaX | refine zaW ?_ | refine zbT ?_)) rfl rfl rfl ?_
  (apply q_P 77 rfl (by kernel_rfl) rfl rfl rfl; (exact qqbs0))
  (apply q_P 80 rfl (by kernel_rfl) rfl rfl rfl; (exact qqbs0))
  (apply q_P 81 rfl (by kernel_rfl) rfl rfl rfl; (exact qqbs0))
  (apply q_P 82 rfl (by kernel_rfl) rfl rfl rfl; (exact qqbs0))
  (apply q_P 83 rfl (by kernel_rfl) rfl rfl rfl; (exact qqbs0))
  (apply q_P 84 rfl (by kernel_rfl) rfl rfl rfl; (exact qqbs0))
  refine zd (j := 85) (by kernel_rfl) ?_
  refine zR rfl rfl rfl rfl rfl rfl h7 (fun _ => rfl) ?_
  refine zd (j := 86) (by kernel_rfl) ?_
  refine zbE za rfl rfl rfl rfl rfl rfl rfl rfl rfl rfl rfl rfl ?_
  refine zd (j := 87) (by kernel_rfl) ?_
  refine T_cL rfl rfl rfl rfl rfl rfl h9 rfl (fun _ _ _ => zaJ _ _ _ _ _ rfl rfl) ?_
  (apply q_P 88 rfl (by kernel_rfl) rfl rfl rfl; (exact qqbs0))
  refine zz (by kernel_rfl) ?_
  repeat (first | refine q_Y ?_ | ((first | apply q_K rfl | apply q_X rfl); (exact q_H)) | refine q_U ?_)
  exact zk rfl ⟨rfl, rfl⟩
end Go.Proofs.YtmmdkjanmegjdaaGreat.Ab

namespace Go.Proofs.YtmmdkjanmegjdaaGreat
section
variable {α : Type} [DecidableEq α] {c : α → α → Int}
theorem zln (G : Good c) (hi : ∀ x y, c x y = 0 → x = y) {L out : List α} {x : α} (h : sortU c L = out) (hx : x ∈ out) : sortU c (L ++ [x]) = out := by
 rw [← h]
 refine zjj G hi fun y => ?_
 rw [List.mem_append, List.mem_singleton]
 refine ⟨fun h1 => h1.elim id fun h2 => ?_, .inl⟩
 rw [h2, ← zay (c := c), h]
 exact hx
theorem zg5 (G : Good c) (hi : ∀ x y, c x y = 0 → x = y) {L out : List α} {x : α} (h : sortU c L = out) {k : Nat} (hk : k ≤ out.length) (hb : ∀ (j : Nat) (hj : j < out.length), k ≤ j → c x out[j] < 0)
  (ha : ∀ (j : Nat) (hj : j < out.length), j + 1 = k → 0 < c x out[j]) : sortU c (L ++ [x]) = out.take k ++ x :: out.drop k := by
 have hr : Rising c out := by rw [← h]; exact zas G hi L
 have hb' : ∀ y ∈ out.drop k, c x y < 0 := fun y hy => by
  obtain ⟨j, hj, rfl⟩ := List.mem_iff_getElem.1 hy
  rw [List.length_drop] at hj
  rw [List.getElem_drop]
  exact hb (k + j) (by omega) (by omega)
 have ha' : ∀ y ∈ out.take k, c y x < 0 := fun y hy => by
  obtain ⟨j, hj, rfl⟩ := List.mem_iff_getElem.1 hy
  rw [List.length_take] at hj
  rw [List.getElem_take]
  have h1 := ha (k - 1) (by omega) (by omega)
  have h2 := G.anti x (out[k - 1]'(by omega))
  by_cases hjk : j = k - 1
  ·subst hjk; omega
  ·have h3 := List.pairwise_iff_getElem.1 hr j (k - 1) (by omega) (by omega) (by omega)
   exact G.lt_lt h3 (by omega)
 refine zaY G (zas G hi _) ?_ fun y => ?_
 ·have hsp : Rising c (out.take k ++ out.drop k) := by rw [List.take_append_drop]; exact hr
  unfold Rising at hsp ⊢
  rw [List.pairwise_append] at hsp ⊢
  refine ⟨hsp.1, List.pairwise_cons.2 ⟨hb', hsp.2.1⟩, fun y hy z hz => ?_⟩
  rcases List.mem_cons.1 hz with rfl | hz
  ·exact ha' y hy
  ·exact hsp.2.2 y hy z hz
 ·rw [zay, List.mem_append, List.mem_singleton, List.mem_append, List.mem_cons, ← zay (c := c), h]
  constructor
  ·rintro (h1 | h1)
   ·rw [← List.take_append_drop k out, List.mem_append] at h1
    rcases h1 with h2 | h2
    ·exact .inl h2
    ·exact .inr (.inr h2)
   ·exact .inr (.inl h1)
  ·rintro (h1 | h1 | h1)
   ·exact .inl (List.mem_of_mem_take h1)
   ·exact .inr h1
   ·exact .inl (List.mem_of_mem_drop h1)
end
namespace Ab
theorem zhc {α : Type} {enc : α → List Dat} {sz : Nat} (hsz : ∀ x, (enc x).length = sz) (out : List α) (x : α) (Z : List Dat) (hZ : Z.length = sz) (k : Nat) (hk : k ≤ out.length) :
  (setW (out.flatMap enc ++ Z) ((k + 1) * sz) (win (out.flatMap enc ++ Z) (k * sz) ((out.length - k) * sz))).length = (out.length + 1) * sz ∧
  setW (setW (out.flatMap enc ++ Z) ((k + 1) * sz) (win (out.flatMap enc ++ Z) (k * sz) ((out.length - k) * sz))) (k * sz) (enc x) = (out.take k ++ x :: out.drop k).flatMap enc := by
 obtain ⟨A, hA⟩ : ∃ A, (out.take k).flatMap enc = A := ⟨_, rfl⟩
 obtain ⟨B, hB⟩ : ∃ B, (out.drop k).flatMap enc = B := ⟨_, rfl⟩
 have hAl : A.length = k * sz := by rw [← hA, zM hsz, List.length_take, Nat.min_eq_left hk]
 have hBl : B.length = (out.length - k) * sz := by rw [← hB, zM hsz, List.length_drop]
 have hF : out.flatMap enc = A ++ B := by rw [← hA, ← hB, ← List.flatMap_append, List.take_append_drop]
 have hx := hsz x
 have hG : (out.take k ++ x :: out.drop k).flatMap enc = A ++ enc x ++ B := by rw [List.flatMap_append, List.flatMap_cons, hA, hB, List.append_assoc]
 have e1 : (k + 1) * sz = k * sz + sz := Nat.succ_mul k sz
 have e2 : (out.length + 1) * sz = k * sz + (out.length - k) * sz + sz := by
  rw [← Nat.add_mul, Nat.succ_mul]; congr 2; omega
 have hw : win (A ++ B ++ Z) (k * sz) ((out.length - k) * sz) = B := by
  unfold win
  rw [List.append_assoc, ← hAl, List.drop_left, ← hBl, List.take_left]
 have hs : setW (A ++ B ++ Z) ((k + 1) * sz) B = (A ++ B ++ Z).take ((k + 1) * sz) ++ B := by
  unfold setW
  rw [List.drop_eq_nil_of_le (by simp only [List.length_append]; omega), List.append_nil]
 have hl : ((A ++ B ++ Z).take ((k + 1) * sz)).length = k * sz + sz := by
  rw [List.length_take]; simp only [List.length_append]; omega
 rw [hF, hw, hs, hG]
 refine ⟨by rw [List.length_append, hl, hBl, e2]; omega, ?_⟩
 have h1 : ((A ++ B ++ Z).take ((k + 1) * sz) ++ B).take (k * sz) = A := by
  rw [List.take_append_of_le_length (by rw [hl]; omega), List.take_take, Nat.min_eq_left (by rw [e1]; omega), List.append_assoc, ← hAl, List.take_left]
 have h2 : ((A ++ B ++ Z).take ((k + 1) * sz) ++ B).drop (k * sz + sz) = B := by rw [← hl, List.drop_left]
 unfold setW
 rw [hx, h1, h2]
end Ab
end Go.Proofs.YtmmdkjanmegjdaaGreat

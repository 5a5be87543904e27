/-
 Texts of a proof, one behind the other (part 38).
-/
import Derived.Test.YtoahnbmedcjpeaaGreatDoorMf3
import Derived.Test.YtoahnbmedcjpeaaGreatDoorMf4
import Derived.Test.YtoahnbmedcjpeaaGreatDoorMf36
set_option linter.unusedSimpArgs false
set_option linter.unusedVariables false
namespace Go.Proofs.YtoahnbmedcjpeaaGreatDoor.Ab
set_option maxRecDepth 100000
open Go.RowKit Go.Lib
attribute [local irreducible] AWp AOps AQ AYield AEff ACall AWk AAny AAt AThen AIn APost NoPanic
set_option maxHeartbeats 4000000 in
theorem zib (L M : List Fil) (f : FuncId) (hf : ∀ x ∈ L, ∀ y ∈ M, ∃ r : Bool, (r = true ↔ x = y) ∧ ACall Tryz.prog f [gA filD x, gA filD y] [] (Just (boolA r))) (hL : L.length ≤ 140737488355328) (hM : M.length ≤ 140737488355328) : ∃ r : Bool, (r = true ↔ L = M) ∧ ACall Tryz.prog 49 [.d (.sl (L.flatMap filD) L.length), .d (.sl (M.flatMap filD) M.length), .fn f []] [] (Just (boolA r)) := by
 obtain ⟨r, hr⟩ := zan (L = M)
 refine ⟨r, hr, ?_⟩
 by_cases hlen : L.length = M.length
 ·rw [← hlen]
  refine zb za Tryz.func49 rfl Tryz.ntmps49 (congrArg Array.toList Tryz.results49) (by kernel_rfl) rfl ?_
  repeat (first | refine q_Z ?_ | ((first | apply q_K rfl | apply q_X rfl); (first | exact q_H | (exact zz rfl rfl rfl))) | refine q_U ?_)
  refine zt (fun k : Nat => [(1, .d (.sl (M.flatMap filD) L.length)), (2, .fn f []), (15, .d (.sl (L.flatMap filD) L.length)), (16, intA (L.length : Int)), (17, intA (k : Int))]) (fun _ => []) (fun k => k ≤ L.length ∧ ∀ j (hj : j < L.length), j < k → L[j] = M[j]'(by omega)) (fun k => L.length - k) 0 ⟨Nat.zero_le _, fun j _ h => absurd h (Nat.not_lt_zero j)⟩ (q_S) ?_
  rintro k ⟨hk, hall⟩
  try dsimp only
  by_cases hkL : k < L.length
  ·have hkM : k < M.length := by omega
   have hw1 := zd zau L k 2 hkL (by decide)
   have hw2 := zd zau M k 2 hkM (by decide)
   obtain ⟨c, hc1, hc2⟩ := hf _ (List.getElem_mem hkL) _ (List.getElem_mem hkM)
   cases c with
   | true =>
    have he := hc1.1 rfl
    repeat (first | refine q_Z ?_ | ((first | apply q_K rfl | apply q_X rfl); (first | exact q_A | exact q_R (w := (by first | exact hw1 | exact hw2 | rfl)) | exact q_B)) | refine q_U ?_ | (refine O_cF rfl rfl rfl rfl rfl rfl hc2 (fun _ => rfl) ?_))
    refine ⟨k + 1, ⟨by omega, fun j hj h => ?_⟩, by omega, q_S⟩
    by_cases hjk : j = k
    ·subst hjk; exact he
    ·exact hall j hj (by omega)
   | false =>
    have he : ¬ L[k] = M[k] := fun h => by have := hc1.2 h; cases this
    repeat (first | refine q_Z ?_ | ((first | apply q_K rfl | apply q_X rfl); (first | exact q_A | exact q_R (w := (by first | exact hw1 | exact hw2 | rfl)) | exact q_B)) | refine q_U ?_ | (refine O_cF rfl rfl rfl rfl rfl rfl hc2 (fun _ => rfl) ?_))
    refine zn rfl ⟨?_, rfl⟩
    have : r = false := Bool.eq_false_iff.2 fun h => he (by have := hr.1 h; subst this; rfl)
    rw [this]; rfl
  ·have : r = true := hr.2 (zW hlen fun j hj => hall j hj (by omega))
   rw [this]
   repeat (first | refine q_Z ?_ | ((first | apply q_K rfl | apply q_X rfl); (exact q_H)) | refine q_U ?_)
   exact zn rfl ⟨rfl, rfl⟩
 ·have : r = false := Bool.eq_false_iff.2 fun h => hlen (by rw [hr.1 h])
  rw [this]
  have hne : ((L.length : Int) != (M.length : Int)) = true := by simp; omega
  refine zb za Tryz.func49 rfl Tryz.ntmps49 (congrArg Array.toList Tryz.results49) (by kernel_rfl) rfl ?_
  repeat (first | refine q_Z ?_ | ((first | apply q_K rfl | apply q_X rfl); (first | exact q_H | (exact q_13))) | refine q_U ?_ | (refine zad rfl hne ?_))
  exact zn rfl ⟨rfl, rfl⟩
set_option maxHeartbeats 4000000 in
theorem zgG (L M : List PLst) (f : FuncId) (hf : ∀ x ∈ L, ∀ y ∈ M, ∃ r : Bool, (r = true ↔ x = y) ∧ ACall Tryz.prog f [gA plstD x, gA plstD y] [] (Just (boolA r))) (hL : L.length ≤ 140737488355328) (hM : M.length ≤ 140737488355328) : ∃ r : Bool, (r = true ↔ L = M) ∧ ACall Tryz.prog 52 [.d (.sl (L.flatMap plstD) L.length), .d (.sl (M.flatMap plstD) M.length), .fn f []] [] (Just (boolA r)) := by
 obtain ⟨r, hr⟩ := zan (L = M)
 refine ⟨r, hr, ?_⟩
 by_cases hlen : L.length = M.length
 ·rw [← hlen]
  refine zb za Tryz.func52 rfl Tryz.ntmps52 (congrArg Array.toList Tryz.results52) (by kernel_rfl) rfl ?_
  repeat (first | refine q_Z ?_ | ((first | apply q_K rfl | apply q_X rfl); (first | exact q_H | (exact zz rfl rfl rfl))) | refine q_U ?_)
  refine zt (fun k : Nat => [(1, .d (.sl (M.flatMap plstD) L.length)), (2, .fn f []), (15, .d (.sl (L.flatMap plstD) L.length)), (16, intA (L.length : Int)), (17, intA (k : Int))]) (fun _ => []) (fun k => k ≤ L.length ∧ ∀ j (hj : j < L.length), j < k → L[j] = M[j]'(by omega)) (fun k => L.length - k) 0 ⟨Nat.zero_le _, fun j _ h => absurd h (Nat.not_lt_zero j)⟩ (q_S) ?_
  rintro k ⟨hk, hall⟩
  try dsimp only
  by_cases hkL : k < L.length
  ·have hkM : k < M.length := by omega
   have hw1 := zd zaq L k 2 hkL (by decide)
   have hw2 := zd zaq M k 2 hkM (by decide)
   obtain ⟨c, hc1, hc2⟩ := hf _ (List.getElem_mem hkL) _ (List.getElem_mem hkM)
   cases c with
   | true =>
    have he := hc1.1 rfl
    repeat (first | refine q_Z ?_ | ((first | apply q_K rfl | apply q_X rfl); (first | exact q_A | exact q_R (w := (by first | exact hw1 | exact hw2 | rfl)) | exact q_B)) | refine q_U ?_ | (refine O_cF rfl rfl rfl rfl rfl rfl hc2 (fun _ => rfl) ?_))
    refine ⟨k + 1, ⟨by omega, fun j hj h => ?_⟩, by omega, q_S⟩
    by_cases hjk : j = k
    ·subst hjk; exact he
    ·exact hall j hj (by omega)
   | false =>
    have he : ¬ L[k] = M[k] := fun h => by have := hc1.2 h; cases this
    repeat (first | refine q_Z ?_ | ((first | apply q_K rfl | apply q_X rfl); (first | exact q_A | exact q_R (w := (by first | exact hw1 | exact hw2 | rfl)) | exact q_B)) | refine q_U ?_ | (refine O_cF rfl rfl rfl rfl rfl rfl hc2 (fun _ => rfl) ?_))
    refine zn rfl ⟨?_, rfl⟩
    have : r = false := Bool.eq_false_iff.2 fun h => he (by have := hr.1 h; subst this; rfl)
    rw [this]; rfl
  ·have : r = true := hr.2 (zW hlen fun j hj => hall j hj (by omega))
   rw [this]
   repeat (first | refine q_Z ?_ | ((first | apply q_K rfl | apply q_X rfl); (exact q_H)) | refine q_U ?_)
   exact zn rfl ⟨rfl, rfl⟩
 ·have : r = false := Bool.eq_false_iff.2 fun h => hlen (by rw [hr.1 h])
  rw [this]
  have hne : ((L.length : Int) != (M.length : Int)) = true := by simp; omega
  refine zb za Tryz.func52 rfl Tryz.ntmps52 (congrArg Array.toList Tryz.results52) (by kernel_rfl) rfl ?_
  repeat (first | refine q_Z ?_ | ((first | apply q_K rfl | apply q_X rfl); (first | exact q_H | (exact q_13))) | refine q_U ?_ | (refine zad rfl hne ?_))
  exact zn rfl ⟨rfl, rfl⟩
set_option maxHeartbeats 4000000 in
theorem zgH (L M : List CLst) (f : FuncId) (hf : ∀ x ∈ L, ∀ y ∈ M, ∃ r : Bool, (r = true ↔ x = y) ∧ ACall Tryz.prog f [gA clstD x, gA clstD y] [] (Just (boolA r))) (hL : L.length ≤ 140737488355328) (hM : M.length ≤ 140737488355328) : ∃ r : Bool, (r = true ↔ L = M) ∧ ACall Tryz.prog 55 [.d (.sl (L.flatMap clstD) L.length), .d (.sl (M.flatMap clstD) M.length), .fn f []] [] (Just (boolA r)) := by
 obtain ⟨r, hr⟩ := zan (L = M)
 refine ⟨r, hr, ?_⟩
 by_cases hlen : L.length = M.length
 ·rw [← hlen]
  refine zb za Tryz.func55 rfl Tryz.ntmps55 (congrArg Array.toList Tryz.results55) (by kernel_rfl) rfl ?_
  repeat (first | refine q_Z ?_ | ((first | apply q_K rfl | apply q_X rfl); (first | exact q_H | (exact zz rfl rfl rfl))) | refine q_U ?_)
  refine zt (fun k : Nat => [(1, .d (.sl (M.flatMap clstD) L.length)), (2, .fn f []), (15, .d (.sl (L.flatMap clstD) L.length)), (16, intA (L.length : Int)), (17, intA (k : Int))]) (fun _ => []) (fun k => k ≤ L.length ∧ ∀ j (hj : j < L.length), j < k → L[j] = M[j]'(by omega)) (fun k => L.length - k) 0 ⟨Nat.zero_le _, fun j _ h => absurd h (Nat.not_lt_zero j)⟩ (q_S) ?_
  rintro k ⟨hk, hall⟩
  try dsimp only
  by_cases hkL : k < L.length
  ·have hkM : k < M.length := by omega
   have hw1 := zd zar L k 2 hkL (by decide)
   have hw2 := zd zar M k 2 hkM (by decide)
   obtain ⟨c, hc1, hc2⟩ := hf _ (List.getElem_mem hkL) _ (List.getElem_mem hkM)
   cases c with
   | true =>
    have he := hc1.1 rfl
    repeat (first | refine q_Z ?_ | ((first | apply q_K rfl | apply q_X rfl); (first | exact q_A | exact q_R (w := (by first | exact hw1 | exact hw2 | rfl)) | exact q_B)) | refine q_U ?_ | (refine O_cF rfl rfl rfl rfl rfl rfl hc2 (fun _ => rfl) ?_))
    refine ⟨k + 1, ⟨by omega, fun j hj h => ?_⟩, by omega, q_S⟩
    by_cases hjk : j = k
    ·subst hjk; exact he
    ·exact hall j hj (by omega)
   | false =>
    have he : ¬ L[k] = M[k] := fun h => by have := hc1.2 h; cases this
    repeat (first | refine q_Z ?_ | ((first | apply q_K rfl | apply q_X rfl); (first | exact q_A | exact q_R (w := (by first | exact hw1 | exact hw2 | rfl)) | exact q_B)) | refine q_U ?_ | (refine O_cF rfl rfl rfl rfl rfl rfl hc2 (fun _ => rfl) ?_))
    refine zn rfl ⟨?_, rfl⟩
    have : r = false := Bool.eq_false_iff.2 fun h => he (by have := hr.1 h; subst this; rfl)
    rw [this]; rfl
  ·have : r = true := hr.2 (zW hlen fun j hj => hall j hj (by omega))
   rw [this]
   repeat (first | refine q_Z ?_ | ((first | apply q_K rfl | apply q_X rfl); (exact q_H)) | refine q_U ?_)
   exact zn rfl ⟨rfl, rfl⟩
 ·have : r = false := Bool.eq_false_iff.2 fun h => hlen (by rw [hr.1 h])
  rw [this]
  have hne : ((L.length : Int) != (M.length : Int)) = true := by simp; omega
  refine zb za Tryz.func55 rfl Tryz.ntmps55 (congrArg Array.toList Tryz.results55) (by kernel_rfl) rfl ?_
  repeat (first | refine q_Z ?_ | ((first | apply q_K rfl | apply q_X rfl); (first | exact q_H | (exact q_13))) | refine q_U ?_ | (refine zad rfl hne ?_))
  exact zn rfl ⟨rfl, rfl⟩
set_option maxHeartbeats 4000000 in
theorem zia (L M : List Mem) (f : FuncId) (hf : ∀ x ∈ L, ∀ y ∈ M, ∃ r : Bool, (r = true ↔ x = y) ∧ ACall Tryz.prog f [gA memD x, gA memD y] [] (Just (boolA r))) (hL : L.length ≤ 140737488355328) (hM : M.length ≤ 140737488355328) : ∃ r : Bool, (r = true ↔ L = M) ∧ ACall Tryz.prog 57 [.d (.sl (L.flatMap memD) L.length), .d (.sl (M.flatMap memD) M.length), .fn f []] [] (Just (boolA r)) := by
 obtain ⟨r, hr⟩ := zan (L = M)
 refine ⟨r, hr, ?_⟩
 by_cases hlen : L.length = M.length
 ·rw [← hlen]
  refine zb za Tryz.func57 rfl Tryz.ntmps57 (congrArg Array.toList Tryz.results57) (by kernel_rfl) rfl ?_
  repeat (first | refine q_Z ?_ | ((first | apply q_K rfl | apply q_X rfl); (first | exact q_H | (exact zz rfl rfl rfl))) | refine q_U ?_)
  refine zt (fun k : Nat => [(1, .d (.sl (M.flatMap memD) L.length)), (2, .fn f []), (15, .d (.sl (L.flatMap memD) L.length)), (16, intA (L.length : Int)), (17, intA (k : Int))]) (fun _ => []) (fun k => k ≤ L.length ∧ ∀ j (hj : j < L.length), j < k → L[j] = M[j]'(by omega)) (fun k => L.length - k) 0 ⟨Nat.zero_le _, fun j _ h => absurd h (Nat.not_lt_zero j)⟩ (q_S) ?_
  rintro k ⟨hk, hall⟩
  try dsimp only
  by_cases hkL : k < L.length
  ·have hkM : k < M.length := by omega
   have hw1 := zd za9 L k 2 hkL (by decide)
   have hw2 := zd za9 M k 2 hkM (by decide)
   obtain ⟨c, hc1, hc2⟩ := hf _ (List.getElem_mem hkL) _ (List.getElem_mem hkM)
   cases c with
   | true =>
    have he := hc1.1 rfl
    repeat (first | refine q_Z ?_ | ((first | apply q_K rfl | apply q_X rfl); (first | exact q_A | exact q_R (w := (by first | exact hw1 | exact hw2 | rfl)) | exact q_B)) | refine q_U ?_ | (refine O_cF rfl rfl rfl rfl rfl rfl hc2 (fun _ => rfl) ?_))
    refine ⟨k + 1, ⟨by omega, fun j hj h => ?_⟩, by omega, q_S⟩
    by_cases hjk : j = k
    ·subst hjk; exact he
    ·exact hall j hj (by omega)
   | false =>
    have he : ¬ L[k] = M[k] := fun h => by have := hc1.2 h; cases this
    repeat (first | refine q_Z ?_ | ((first | apply q_K rfl | apply q_X rfl); (first | exact q_A | exact q_R (w := (by first | exact hw1 | exact hw2 | rfl)) | exact q_B)) | refine q_U ?_ | (refine O_cF rfl rfl rfl rfl rfl rfl hc2 (fun _ => rfl) ?_))
    refine zn rfl ⟨?_, rfl⟩
    have : r = false := Bool.eq_false_iff.2 fun h => he (by have := hr.1 h; subst this; rfl)
    rw [this]; rfl
  ·have : r = true := hr.2 (zW hlen fun j hj => hall j hj (by omega))
   rw [this]
   repeat (first | refine q_Z ?_ | ((first | apply q_K rfl | apply q_X rfl); (exact q_H)) | refine q_U ?_)
   exact zn rfl ⟨rfl, rfl⟩
 ·have : r = false := Bool.eq_false_iff.2 fun h => hlen (by rw [hr.1 h])
  rw [this]
  have hne : ((L.length : Int) != (M.length : Int)) = true := by simp; omega
  refine zb za Tryz.func57 rfl Tryz.ntmps57 (congrArg Array.toList Tryz.results57) (by kernel_rfl) rfl ?_
  repeat (first | refine q_Z ?_ | ((first | apply q_K rfl | apply q_X rfl); (first | exact q_H | (exact q_13))) | refine q_U ?_ | (refine zad rfl hne ?_))
  exact zn rfl ⟨rfl, rfl⟩
set_option maxHeartbeats 4000000 in
theorem zh8 (L M : List Pol) (f : FuncId) (hf : ∀ x ∈ L, ∀ y ∈ M, ∃ r : Bool, (r = true ↔ x = y) ∧ ACall Tryz.prog f [gA polD x, gA polD y] [] (Just (boolA r))) (hL : L.length ≤ 140737488355328) (hM : M.length ≤ 140737488355328) : ∃ r : Bool, (r = true ↔ L = M) ∧ ACall Tryz.prog 60 [.d (.sl (L.flatMap polD) L.length), .d (.sl (M.flatMap polD) M.length), .fn f []] [] (Just (boolA r)) := by
 obtain ⟨r, hr⟩ := zan (L = M)
 refine ⟨r, hr, ?_⟩
 by_cases hlen : L.length = M.length
 ·rw [← hlen]
  refine zb za Tryz.func60 rfl Tryz.ntmps60 (congrArg Array.toList Tryz.results60) (by kernel_rfl) rfl ?_
  repeat (first | refine q_Z ?_ | ((first | apply q_K rfl | apply q_X rfl); (first | exact q_H | (exact zz rfl rfl rfl))) | refine q_U ?_)
  refine zt (fun k : Nat => [(1, .d (.sl (M.flatMap polD) L.length)), (2, .fn f []), (15, .d (.sl (L.flatMap polD) L.length)), (16, intA (L.length : Int)), (17, intA (k : Int))]) (fun _ => []) (fun k => k ≤ L.length ∧ ∀ j (hj : j < L.length), j < k → L[j] = M[j]'(by omega)) (fun k => L.length - k) 0 ⟨Nat.zero_le _, fun j _ h => absurd h (Nat.not_lt_zero j)⟩ (q_S) ?_
  rintro k ⟨hk, hall⟩
  try dsimp only
  by_cases hkL : k < L.length
  ·have hkM : k < M.length := by omega
   have hw1 := zd zaF L k 3 hkL (by decide)
   have hw2 := zd zaF M k 3 hkM (by decide)
   obtain ⟨c, hc1, hc2⟩ := hf _ (List.getElem_mem hkL) _ (List.getElem_mem hkM)
   cases c with
   | true =>
    have he := hc1.1 rfl
    repeat (first | refine q_Z ?_ | ((first | apply q_K rfl | apply q_X rfl); (first | exact q_A | exact q_R (w := (by first | exact hw1 | exact hw2 | rfl)) | exact q_B)) | refine q_U ?_ | (refine O_cF rfl rfl rfl rfl rfl rfl hc2 (fun _ => rfl) ?_))
    refine ⟨k + 1, ⟨by omega, fun j hj h => ?_⟩, by omega, q_S⟩
    by_cases hjk : j = k
    ·subst hjk; exact he
    ·exact hall j hj (by omega)
   | false =>
    have he : ¬ L[k] = M[k] := fun h => by have := hc1.2 h; cases this
    repeat (first | refine q_Z ?_ | ((first | apply q_K rfl | apply q_X rfl); (first | exact q_A | exact q_R (w := (by first | exact hw1 | exact hw2 | rfl)) | exact q_B)) | refine q_U ?_ | (refine O_cF rfl rfl rfl rfl rfl rfl hc2 (fun _ => rfl) ?_))
    refine zn rfl ⟨?_, rfl⟩
    have : r = false := Bool.eq_false_iff.2 fun h => he (by have := hr.1 h; subst this; rfl)
    rw [this]; rfl
  ·have : r = true := hr.2 (zW hlen fun j hj => hall j hj (by omega))
   rw [this]
   repeat (first | refine q_Z ?_ | ((first | apply q_K rfl | apply q_X rfl); (exact q_H)) | refine q_U ?_)
   exact zn rfl ⟨rfl, rfl⟩
 ·have : r = false := Bool.eq_false_iff.2 fun h => hlen (by rw [hr.1 h])
  rw [this]
  have hne : ((L.length : Int) != (M.length : Int)) = true := by simp; omega
  refine zb za Tryz.func60 rfl Tryz.ntmps60 (congrArg Array.toList Tryz.results60) (by kernel_rfl) rfl ?_
  repeat (first | refine q_Z ?_ | ((first | apply q_K rfl | apply q_X rfl); (first | exact q_H | (exact q_13))) | refine q_U ?_ | (refine zad rfl hne ?_))
  exact zn rfl ⟨rfl, rfl⟩
set_option maxHeartbeats 4000000 in
theorem zic (L M : List Cls) (f : FuncId) (hf : ∀ x ∈ L, ∀ y ∈ M, ∃ r : Bool, (r = true ↔ x = y) ∧ ACall Tryz.prog f [gA clsD x, gA clsD y] [] (Just (boolA r))) (hL : L.length ≤ 140737488355328) (hM : M.length ≤ 140737488355328) : ∃ r : Bool, (r = true ↔ L = M) ∧ ACall Tryz.prog 62 [.d (.sl (L.flatMap clsD) L.length), .d (.sl (M.flatMap clsD) M.length), .fn f []] [] (Just (boolA r)) := by
 obtain ⟨r, hr⟩ := zan (L = M)
 refine ⟨r, hr, ?_⟩
 by_cases hlen : L.length = M.length
 ·rw [← hlen]
  refine zb za Tryz.func62 rfl Tryz.ntmps62 (congrArg Array.toList Tryz.results62) (by kernel_rfl) rfl ?_
  repeat (first | refine q_Z ?_ | ((first | apply q_K rfl | apply q_X rfl); (first | exact q_H | (exact zz rfl rfl rfl))) | refine q_U ?_)
  refine zt (fun k : Nat => [(1, .d (.sl (M.flatMap clsD) L.length)), (2, .fn f []), (15, .d (.sl (L.flatMap clsD) L.length)), (16, intA (L.length : Int)), (17, intA (k : Int))]) (fun _ => []) (fun k => k ≤ L.length ∧ ∀ j (hj : j < L.length), j < k → L[j] = M[j]'(by omega)) (fun k => L.length - k) 0 ⟨Nat.zero_le _, fun j _ h => absurd h (Nat.not_lt_zero j)⟩ (q_S) ?_
  rintro k ⟨hk, hall⟩
  try dsimp only
  by_cases hkL : k < L.length
  ·have hkM : k < M.length := by omega
   have hw1 := zd zbH L k 15 hkL (by decide)
   have hw2 := zd zbH M k 15 hkM (by decide)
   obtain ⟨c, hc1, hc2⟩ := hf _ (List.getElem_mem hkL) _ (List.getElem_mem hkM)
   cases c with
   | true =>
    have he := hc1.1 rfl
    repeat (first | refine q_Z ?_ | ((first | apply q_K rfl | apply q_X rfl); (first | exact q_A | exact q_R (w := (by first | exact hw1 | exact hw2 | rfl)) | exact q_B)) | refine q_U ?_ | (refine O_cF rfl rfl rfl rfl rfl rfl hc2 (fun _ => rfl) ?_))
    refine ⟨k + 1, ⟨by omega, fun j hj h => ?_⟩, by omega, q_S⟩
    by_cases hjk : j = k
    ·subst hjk; exact he
    ·exact hall j hj (by omega)
   | false =>
    have he : ¬ L[k] = M[k] := fun h => by have := hc1.2 h; cases this
    repeat (first | refine q_Z ?_ | ((first | apply q_K rfl | apply q_X rfl); (first | exact q_A | exact q_R (w := (by first | exact hw1 | exact hw2 | rfl)) | exact q_B)) | refine q_U ?_ | (refine O_cF rfl rfl rfl rfl rfl rfl hc2 (fun _ => rfl) ?_))
    refine zn rfl ⟨?_, rfl⟩
    have : r = false := Bool.eq_false_iff.2 fun h => he (by have := hr.1 h; subst this; rfl)
    rw [this]; rfl
  ·have : r = true := hr.2 (zW hlen fun j hj => hall j hj (by omega))
   rw [this]
   repeat (first | refine q_Z ?_ | ((first | apply q_K rfl | apply q_X rfl); (exact q_H)) | refine q_U ?_)
   exact zn rfl ⟨rfl, rfl⟩
 ·have : r = false := Bool.eq_false_iff.2 fun h => hlen (by rw [hr.1 h])
  rw [this]
  have hne : ((L.length : Int) != (M.length : Int)) = true := by simp; omega
  refine zb za Tryz.func62 rfl Tryz.ntmps62 (congrArg Array.toList Tryz.results62) (by kernel_rfl) rfl ?_
  repeat (first | refine q_Z ?_ | ((first | apply q_K rfl | apply q_X rfl); (first | exact q_H | (exact q_13))) | refine q_U ?_ | (refine zad rfl hne ?_))
  exact zn rfl ⟨rfl, rfl⟩
set_option maxHeartbeats 4000000 in
theorem zh9 (L M : List Osp) (f : FuncId) (hf : ∀ x ∈ L, ∀ y ∈ M, ∃ r : Bool, (r = true ↔ x = y) ∧ ACall Tryz.prog f [gA ospD x, gA ospD y] [] (Just (boolA r))) (hL : L.length ≤ 140737488355328) (hM : M.length ≤ 140737488355328) : ∃ r : Bool, (r = true ↔ L = M) ∧ ACall Tryz.prog 64 [.d (.sl (L.flatMap ospD) L.length), .d (.sl (M.flatMap ospD) M.length), .fn f []] [] (Just (boolA r)) := by
 obtain ⟨r, hr⟩ := zan (L = M)
 refine ⟨r, hr, ?_⟩
 by_cases hlen : L.length = M.length
 ·rw [← hlen]
  refine zb za Tryz.func64 rfl Tryz.ntmps64 (congrArg Array.toList Tryz.results64) (by kernel_rfl) rfl ?_
  repeat (first | refine q_Z ?_ | ((first | apply q_K rfl | apply q_X rfl); (first | exact q_H | (exact zz rfl rfl rfl))) | refine q_U ?_)
  refine zt (fun k : Nat => [(1, .d (.sl (M.flatMap ospD) L.length)), (2, .fn f []), (15, .d (.sl (L.flatMap ospD) L.length)), (16, intA (L.length : Int)), (17, intA (k : Int))]) (fun _ => []) (fun k => k ≤ L.length ∧ ∀ j (hj : j < L.length), j < k → L[j] = M[j]'(by omega)) (fun k => L.length - k) 0 ⟨Nat.zero_le _, fun j _ h => absurd h (Nat.not_lt_zero j)⟩ (q_S) ?_
  rintro k ⟨hk, hall⟩
  try dsimp only
  by_cases hkL : k < L.length
  ·have hkM : k < M.length := by omega
   have hw1 := zd zaZ L k 3 hkL (by decide)
   have hw2 := zd zaZ M k 3 hkM (by decide)
   obtain ⟨c, hc1, hc2⟩ := hf _ (List.getElem_mem hkL) _ (List.getElem_mem hkM)
   cases c with
   | true =>
    have he := hc1.1 rfl
    repeat (first | refine q_Z ?_ | ((first | apply q_K rfl | apply q_X rfl); (first | exact q_A | exact q_R (w := (by first | exact hw1 | exact hw2 | rfl)) | exact q_B)) | refine q_U ?_ | (refine O_cF rfl rfl rfl rfl rfl rfl hc2 (fun _ => rfl) ?_))
    refine ⟨k + 1, ⟨by omega, fun j hj h => ?_⟩, by omega, q_S⟩
    by_cases hjk : j = k
    ·subst hjk; exact he
    ·exact hall j hj (by omega)
   | false =>
    have he : ¬ L[k] = M[k] := fun h => by have := hc1.2 h; cases this
    repeat (first | refine q_Z ?_ | ((first | apply q_K rfl | apply q_X rfl); (first | exact q_A | exact q_R (w := (by first | exact hw1 | exact hw2 | rfl)) | exact q_B)) | refine q_U ?_ | (refine O_cF rfl rfl rfl rfl rfl rfl hc2 (fun _ => rfl) ?_))
    refine zn rfl ⟨?_, rfl⟩
    have : r = false := Bool.eq_false_iff.2 fun h => he (by have := hr.1 h; subst this; rfl)
    rw [this]; rfl
  ·have : r = true := hr.2 (zW hlen fun j hj => hall j hj (by omega))
   rw [this]
   repeat (first | refine q_Z ?_ | ((first | apply q_K rfl | apply q_X rfl); (exact q_H)) | refine q_U ?_)
   exact zn rfl ⟨rfl, rfl⟩
 ·have : r = false := Bool.eq_false_iff.2 fun h => hlen (by rw [hr.1 h])
  rw [this]
  have hne : ((L.length : Int) != (M.length : Int)) = true := by simp; omega
  refine zb za Tryz.func64 rfl Tryz.ntmps64 (congrArg Array.toList Tryz.results64) (by kernel_rfl) rfl ?_
  repeat (first | refine q_Z ?_ | ((first | apply q_K rfl | apply q_X rfl); (first | exact q_H | (exact q_13))) | refine q_U ?_ | (refine zad rfl hne ?_))
  exact zn rfl ⟨rfl, rfl⟩
set_option maxHeartbeats 4000000 in
theorem zid (L M : List Bgi) (f : FuncId) (hf : ∀ x ∈ L, ∀ y ∈ M, ∃ r : Bool, (r = true ↔ x = y) ∧ ACall Tryz.prog f [gA bgiD x, gA bgiD y] [] (Just (boolA r))) (hL : L.length ≤ 140737488355328) (hM : M.length ≤ 140737488355328) : ∃ r : Bool, (r = true ↔ L = M) ∧ ACall Tryz.prog 67 [.d (.sl (L.flatMap bgiD) L.length), .d (.sl (M.flatMap bgiD) M.length), .fn f []] [] (Just (boolA r)) := by
 obtain ⟨r, hr⟩ := zan (L = M)
 refine ⟨r, hr, ?_⟩
 by_cases hlen : L.length = M.length
 ·rw [← hlen]
  refine zb za Tryz.func67 rfl Tryz.ntmps67 (congrArg Array.toList Tryz.results67) (by kernel_rfl) rfl ?_
  repeat (first | refine q_Z ?_ | ((first | apply q_K rfl | apply q_X rfl); (first | exact q_H | (exact zz rfl rfl rfl))) | refine q_U ?_)
  refine zt (fun k : Nat => [(1, .d (.sl (M.flatMap bgiD) L.length)), (2, .fn f []), (15, .d (.sl (L.flatMap bgiD) L.length)), (16, intA (L.length : Int)), (17, intA (k : Int))]) (fun _ => []) (fun k => k ≤ L.length ∧ ∀ j (hj : j < L.length), j < k → L[j] = M[j]'(by omega)) (fun k => L.length - k) 0 ⟨Nat.zero_le _, fun j _ h => absurd h (Nat.not_lt_zero j)⟩ (q_S) ?_
  rintro k ⟨hk, hall⟩
  try dsimp only
  by_cases hkL : k < L.length
  ·have hkM : k < M.length := by omega
   have hw1 := zd zaT L k 6 hkL (by decide)
   have hw2 := zd zaT M k 6 hkM (by decide)
   obtain ⟨c, hc1, hc2⟩ := hf _ (List.getElem_mem hkL) _ (List.getElem_mem hkM)
   cases c with
   | true =>
    have he := hc1.1 rfl
    repeat (first | refine q_Z ?_ | ((first | apply q_K rfl | apply q_X rfl); (first | exact q_A | exact q_R (w := (by first | exact hw1 | exact hw2 | rfl)) | exact q_B)) | refine q_U ?_ | (refine O_cF rfl rfl rfl rfl rfl rfl hc2 (fun _ => rfl) ?_))
    refine ⟨k + 1, ⟨by omega, fun j hj h => ?_⟩, by omega, q_S⟩
    by_cases hjk : j = k
    ·subst hjk; exact he
    ·exact hall j hj (by omega)
   | false =>
    have he : ¬ L[k] = M[k] := fun h => by have := hc1.2 h; cases this
    repeat (first | refine q_Z ?_ | ((first | apply q_K rfl | apply q_X rfl); (first | exact q_A | exact q_R (w := (by first | exact hw1 | exact hw2 | rfl)) | exact q_B)) | refine q_U ?_ | (refine O_cF rfl rfl rfl rfl rfl rfl hc2 (fun _ => rfl) ?_))
    refine zn rfl ⟨?_, rfl⟩
    have : r = false := Bool.eq_false_iff.2 fun h => he (by have := hr.1 h; subst this; rfl)
    rw [this]; rfl
  ·have : r = true := hr.2 (zW hlen fun j hj => hall j hj (by omega))
   rw [this]
   repeat (first | refine q_Z ?_ | ((first | apply q_K rfl | apply q_X rfl); (exact q_H)) | refine q_U ?_)
   exact zn rfl ⟨rfl, rfl⟩
 ·have : r = false := Bool.eq_false_iff.2 fun h => hlen (by rw [hr.1 h])
  rw [this]
  have hne : ((L.length : Int) != (M.length : Int)) = true := by simp; omega
  refine zb za Tryz.func67 rfl Tryz.ntmps67 (congrArg Array.toList Tryz.results67) (by kernel_rfl) rfl ?_
  repeat (first | refine q_Z ?_ | ((first | apply q_K rfl | apply q_X rfl); (first | exact q_H | (exact q_13))) | refine q_U ?_ | (refine zad rfl hne ?_))
  exact zn rfl ⟨rfl, rfl⟩
end Go.Proofs.YtoahnbmedcjpeaaGreatDoor.Ab

/-
 Texts of a proof, one behind the other (part 37).
-/
import Derived.Test.YtoahnbmedcjpeaaGreatDoorMf3
import Derived.Test.YtoahnbmedcjpeaaGreatDoorMf35
set_option linter.unusedSimpArgs false
set_option linter.unusedVariables false
namespace Go.Proofs.YtoahnbmedcjpeaaGreatDoor.Ab
set_option maxRecDepth 100000
open Go.RowKit Go.Lib
attribute [local irreducible] AWp AOps AQ AYield AEff ACall AWk AAny AAt AThen AIn APost NoPanic
theorem zan (p : Prop) : ∃ r : Bool, r = true ↔ p := by
 rcases Classical.em p with h | h
 ·exact ⟨true, fun _ => h, fun _ => rfl⟩
 ·exact ⟨false, fun h2 => (by cases h2), fun h2 => absurd h2 h⟩
theorem zW {α : Type} {L M : List α} (hl : L.length = M.length) (h : ∀ j (hj : j < L.length), L[j] = M[j]'(by omega)) : L = M := List.ext_getElem hl fun i h1 _ => h i h1
def ifxV (x : Ifx) : List Value := [.string ⟨⟨x.nm⟩⟩, .string ⟨⟨x.vrf⟩⟩, .int .u32 x.a, .int .i64 x.b, .bool x.down, .string ⟨⟨x.fin⟩⟩, .string ⟨⟨x.fout⟩⟩, .int .u8 x.side, .int .i64 x.area, .int .i64 x.cost, .bool x.pas]
theorem ifxEqv (x y : Ifx) : ∃ c, eqCells (ifxV x) (ifxV y) = some c ∧ (c = true ↔ x = y) := by
 obtain ⟨_, _, _, _, _, _, _, _, _, _, _⟩ := x
 obtain ⟨_, _, _, _, _, _, _, _, _, _, _⟩ := y
 simp only [ifxV, eqCells, eqV, if_true, Bool.and_true, Option.some.injEq, exists_eq_left']
 simp [and_assoc]
theorem zh6 (L M : List Ifx) (hL : L.length ≤ 140737488355328) (hM : M.length ≤ 140737488355328) : ∃ r : Bool, (r = true ↔ L = M) ∧ ACall Tryz.prog 46 [.d (.sl (L.flatMap ifxD) L.length), .d (.sl (M.flatMap ifxD) M.length)] [] (Just (boolA r)) := by
 obtain ⟨r, hr⟩ := zan (L = M)
 refine ⟨r, hr, ?_⟩
 by_cases hlen : L.length = M.length
 ·rw [← hlen]
  refine zb za Tryz.func46 rfl Tryz.ntmps46 (congrArg Array.toList Tryz.results46) (by kernel_rfl) rfl ?_
  repeat (first | refine q_Y ?_ | ((first | apply q_K rfl | apply q_X rfl); (first | exact q_H | (exact zz rfl rfl rfl))) | refine q_U ?_)
  refine zt (fun k : Nat => [(0, .d (.sl (L.flatMap ifxD) L.length)), (1, .d (.sl (M.flatMap ifxD) L.length)), (12, intA (L.length : Int)), (13, intA (k : Int))]) (fun _ => []) (fun k => k ≤ L.length ∧ ∀ j (hj : j < L.length), j < k → L[j] = M[j]'(by omega)) (fun k => L.length - k) 0 ⟨Nat.zero_le _, fun j _ h => absurd h (Nat.not_lt_zero j)⟩ (q_S) ?_
  rintro k ⟨hk, hall⟩
  try dsimp only
  by_cases hkL : k < L.length
  ·have hkM : k < M.length := by omega
   have hw1 := zd zaG L k 11 hkL (by decide)
   have hw2 := zd zaG M k 11 hkM (by decide)
   by_cases he : L[k] = M[k]
   ·(obtain ⟨c, hc1, hc2⟩ := ifxEqv L[k] M[k]; cases c <;> (first | (exact absurd he (by simpa using hc2)) | (exact absurd (hc2.1 rfl) he) | skip))
    repeat (first | refine q_Y ?_ | ((first | apply q_K rfl | apply q_X rfl); (first | exact q_A | exact q_R (w := (by first | exact hw1 | exact hw2 | rfl)) | exact q_B | (exact Y_eq za zB rfl rfl rfl rfl rfl rfl rfl rfl rfl (by kernel_rfl) hc1 rfl))) | refine q_U ?_)
    refine ⟨k + 1, ⟨by omega, fun j hj h => ?_⟩, by omega, q_S⟩
    by_cases hjk : j = k
    ·subst hjk; exact he
    ·exact hall j hj (by omega)
   ·(obtain ⟨c, hc1, hc2⟩ := ifxEqv L[k] M[k]; cases c <;> (first | (exact absurd he (by simpa using hc2)) | (exact absurd (hc2.1 rfl) he) | skip))
    repeat (first | refine q_Y ?_ | ((first | apply q_K rfl | apply q_X rfl); (first | exact q_A | exact q_R (w := (by first | exact hw1 | exact hw2 | rfl)) | exact q_B | (exact Y_eq za zB rfl rfl rfl rfl rfl rfl rfl rfl rfl (by kernel_rfl) hc1 rfl))) | refine q_U ?_)
    refine zn rfl ⟨?_, rfl⟩
    have : r = false := Bool.eq_false_iff.2 fun h => he (by have := hr.1 h; subst this; rfl)
    rw [this]; rfl
  ·have : r = true := hr.2 (zW hlen fun j hj => hall j hj (by omega))
   rw [this]
   repeat (first | refine q_Y ?_ | ((first | apply q_K rfl | apply q_X rfl); (exact q_H)) | refine q_U ?_)
   exact zn rfl ⟨rfl, rfl⟩
 ·have : r = false := Bool.eq_false_iff.2 fun h => hlen (by rw [hr.1 h])
  rw [this]
  have hne : ((L.length : Int) != (M.length : Int)) = true := by simp; omega
  refine zb za Tryz.func46 rfl Tryz.ntmps46 (congrArg Array.toList Tryz.results46) (by kernel_rfl) rfl ?_
  repeat (first | refine q_Y ?_ | ((first | apply q_K rfl | apply q_X rfl); (first | exact q_H | (exact q_13))) | refine q_U ?_ | (refine zad rfl hne ?_))
  exact zn rfl ⟨rfl, rfl⟩
def rwrV (x : Rwr) : List Value := [.bool x.dst, .string ⟨⟨x.fil⟩⟩, .int .u32 x.to]
theorem rwrEqv (x y : Rwr) : ∃ c, eqCells (rwrV x) (rwrV y) = some c ∧ (c = true ↔ x = y) := by
 obtain ⟨_, _, _⟩ := x
 obtain ⟨_, _, _⟩ := y
 simp only [rwrV, eqCells, eqV, if_true, Bool.and_true, Option.some.injEq, exists_eq_left']
 simp [and_assoc]
theorem zh2 (L M : List Rwr) (hL : L.length ≤ 140737488355328) (hM : M.length ≤ 140737488355328) : ∃ r : Bool, (r = true ↔ L = M) ∧ ACall Tryz.prog 47 [.d (.sl (L.flatMap rwrD) L.length), .d (.sl (M.flatMap rwrD) M.length)] [] (Just (boolA r)) := by
 obtain ⟨r, hr⟩ := zan (L = M)
 refine ⟨r, hr, ?_⟩
 by_cases hlen : L.length = M.length
 ·rw [← hlen]
  refine zb za Tryz.func47 rfl Tryz.ntmps47 (congrArg Array.toList Tryz.results47) (by kernel_rfl) rfl ?_
  repeat (first | refine q_Y ?_ | ((first | apply q_K rfl | apply q_X rfl); (first | exact q_H | (exact zz rfl rfl rfl))) | refine q_U ?_)
  refine zt (fun k : Nat => [(0, .d (.sl (L.flatMap rwrD) L.length)), (1, .d (.sl (M.flatMap rwrD) L.length)), (12, intA (L.length : Int)), (13, intA (k : Int))]) (fun _ => []) (fun k => k ≤ L.length ∧ ∀ j (hj : j < L.length), j < k → L[j] = M[j]'(by omega)) (fun k => L.length - k) 0 ⟨Nat.zero_le _, fun j _ h => absurd h (Nat.not_lt_zero j)⟩ (q_S) ?_
  rintro k ⟨hk, hall⟩
  try dsimp only
  by_cases hkL : k < L.length
  ·have hkM : k < M.length := by omega
   have hw1 := zd za6 L k 3 hkL (by decide)
   have hw2 := zd za6 M k 3 hkM (by decide)
   by_cases he : L[k] = M[k]
   ·(obtain ⟨c, hc1, hc2⟩ := rwrEqv L[k] M[k]; cases c <;> (first | (exact absurd he (by simpa using hc2)) | (exact absurd (hc2.1 rfl) he) | skip))
    repeat (first | refine q_Y ?_ | ((first | apply q_K rfl | apply q_X rfl); (first | exact q_A | exact q_R (w := (by first | exact hw1 | exact hw2 | rfl)) | exact q_B | (exact Y_eq za zB rfl rfl rfl rfl rfl rfl rfl rfl rfl (by kernel_rfl) hc1 rfl))) | refine q_U ?_)
    refine ⟨k + 1, ⟨by omega, fun j hj h => ?_⟩, by omega, q_S⟩
    by_cases hjk : j = k
    ·subst hjk; exact he
    ·exact hall j hj (by omega)
   ·(obtain ⟨c, hc1, hc2⟩ := rwrEqv L[k] M[k]; cases c <;> (first | (exact absurd he (by simpa using hc2)) | (exact absurd (hc2.1 rfl) he) | skip))
    repeat (first | refine q_Y ?_ | ((first | apply q_K rfl | apply q_X rfl); (first | exact q_A | exact q_R (w := (by first | exact hw1 | exact hw2 | rfl)) | exact q_B | (exact Y_eq za zB rfl rfl rfl rfl rfl rfl rfl rfl rfl (by kernel_rfl) hc1 rfl))) | refine q_U ?_)
    refine zn rfl ⟨?_, rfl⟩
    have : r = false := Bool.eq_false_iff.2 fun h => he (by have := hr.1 h; subst this; rfl)
    rw [this]; rfl
  ·have : r = true := hr.2 (zW hlen fun j hj => hall j hj (by omega))
   rw [this]
   repeat (first | refine q_Y ?_ | ((first | apply q_K rfl | apply q_X rfl); (exact q_H)) | refine q_U ?_)
   exact zn rfl ⟨rfl, rfl⟩
 ·have : r = false := Bool.eq_false_iff.2 fun h => hlen (by rw [hr.1 h])
  rw [this]
  have hne : ((L.length : Int) != (M.length : Int)) = true := by simp; omega
  refine zb za Tryz.func47 rfl Tryz.ntmps47 (congrArg Array.toList Tryz.results47) (by kernel_rfl) rfl ?_
  repeat (first | refine q_Y ?_ | ((first | apply q_K rfl | apply q_X rfl); (first | exact q_H | (exact q_13))) | refine q_U ?_ | (refine zad rfl hne ?_))
  exact zn rfl ⟨rfl, rfl⟩
def staV (x : Sta) : List Value := [.string ⟨⟨x.vrf⟩⟩, .int .u32 x.p.a, .int .i64 x.p.b, .int .u32 x.via, .bool x.x, .int .i64 x.dist, .int .i64 x.tag]
theorem staEqv (x y : Sta) : ∃ c, eqCells (staV x) (staV y) = some c ∧ (c = true ↔ x = y) := by
 obtain ⟨_, ⟨_, _⟩, _, _, _, _⟩ := x
 obtain ⟨_, ⟨_, _⟩, _, _, _, _⟩ := y
 simp only [staV, eqCells, eqV, if_true, Bool.and_true, Option.some.injEq, exists_eq_left']
 simp [and_assoc]
theorem zh1 (L M : List Sta) (hL : L.length ≤ 140737488355328) (hM : M.length ≤ 140737488355328) : ∃ r : Bool, (r = true ↔ L = M) ∧ ACall Tryz.prog 48 [.d (.sl (L.flatMap staD) L.length), .d (.sl (M.flatMap staD) M.length)] [] (Just (boolA r)) := by
 obtain ⟨r, hr⟩ := zan (L = M)
 refine ⟨r, hr, ?_⟩
 by_cases hlen : L.length = M.length
 ·rw [← hlen]
  refine zb za Tryz.func48 rfl Tryz.ntmps48 (congrArg Array.toList Tryz.results48) (by kernel_rfl) rfl ?_
  repeat (first | refine q_Y ?_ | ((first | apply q_K rfl | apply q_X rfl); (first | exact q_H | (exact zz rfl rfl rfl))) | refine q_U ?_)
  refine zt (fun k : Nat => [(0, .d (.sl (L.flatMap staD) L.length)), (1, .d (.sl (M.flatMap staD) L.length)), (12, intA (L.length : Int)), (13, intA (k : Int))]) (fun _ => []) (fun k => k ≤ L.length ∧ ∀ j (hj : j < L.length), j < k → L[j] = M[j]'(by omega)) (fun k => L.length - k) 0 ⟨Nat.zero_le _, fun j _ h => absurd h (Nat.not_lt_zero j)⟩ (q_S) ?_
  rintro k ⟨hk, hall⟩
  try dsimp only
  by_cases hkL : k < L.length
  ·have hkM : k < M.length := by omega
   have hw1 := zd za5 L k 7 hkL (by decide)
   have hw2 := zd za5 M k 7 hkM (by decide)
   by_cases he : L[k] = M[k]
   ·(obtain ⟨c, hc1, hc2⟩ := staEqv L[k] M[k]; cases c <;> (first | (exact absurd he (by simpa using hc2)) | (exact absurd (hc2.1 rfl) he) | skip))
    repeat (first | refine q_Y ?_ | ((first | apply q_K rfl | apply q_X rfl); (first | exact q_A | exact q_R (w := (by first | exact hw1 | exact hw2 | rfl)) | exact q_B | (exact Y_eq za zB rfl rfl rfl rfl rfl rfl rfl rfl rfl (by kernel_rfl) hc1 rfl))) | refine q_U ?_)
    refine ⟨k + 1, ⟨by omega, fun j hj h => ?_⟩, by omega, q_S⟩
    by_cases hjk : j = k
    ·subst hjk; exact he
    ·exact hall j hj (by omega)
   ·(obtain ⟨c, hc1, hc2⟩ := staEqv L[k] M[k]; cases c <;> (first | (exact absurd he (by simpa using hc2)) | (exact absurd (hc2.1 rfl) he) | skip))
    repeat (first | refine q_Y ?_ | ((first | apply q_K rfl | apply q_X rfl); (first | exact q_A | exact q_R (w := (by first | exact hw1 | exact hw2 | rfl)) | exact q_B | (exact Y_eq za zB rfl rfl rfl rfl rfl rfl rfl rfl rfl (by kernel_rfl) hc1 rfl))) | refine q_U ?_)
    refine zn rfl ⟨?_, rfl⟩
    have : r = false := Bool.eq_false_iff.2 fun h => he (by have := hr.1 h; subst this; rfl)
    rw [this]; rfl
  ·have : r = true := hr.2 (zW hlen fun j hj => hall j hj (by omega))
   rw [this]
   repeat (first | refine q_Y ?_ | ((first | apply q_K rfl | apply q_X rfl); (exact q_H)) | refine q_U ?_)
   exact zn rfl ⟨rfl, rfl⟩
 ·have : r = false := Bool.eq_false_iff.2 fun h => hlen (by rw [hr.1 h])
  rw [this]
  have hne : ((L.length : Int) != (M.length : Int)) = true := by simp; omega
  refine zb za Tryz.func48 rfl Tryz.ntmps48 (congrArg Array.toList Tryz.results48) (by kernel_rfl) rfl ?_
  repeat (first | refine q_Y ?_ | ((first | apply q_K rfl | apply q_X rfl); (first | exact q_H | (exact q_13))) | refine q_U ?_ | (refine zad rfl hne ?_))
  exact zn rfl ⟨rfl, rfl⟩
def rulV (x : Rul) : List Value := [.bool x.ok, .int .i64 x.pr, .int .u32 x.src.a, .int .i64 x.src.b, .int .u32 x.dst.a, .int .i64 x.dst.b, .int .u32 x.s1, .int .u32 x.s2, .int .u32 x.d1, .int .u32 x.d2]
theorem rulEqv (x y : Rul) : ∃ c, eqCells (rulV x) (rulV y) = some c ∧ (c = true ↔ x = y) := by
 obtain ⟨_, _, ⟨_, _⟩, ⟨_, _⟩, _, _, _, _⟩ := x
 obtain ⟨_, _, ⟨_, _⟩, ⟨_, _⟩, _, _, _, _⟩ := y
 simp only [rulV, eqCells, eqV, if_true, Bool.and_true, Option.some.injEq, exists_eq_left']
 simp [and_assoc]
theorem zh3 (L M : List Rul) (hL : L.length ≤ 140737488355328) (hM : M.length ≤ 140737488355328) : ∃ r : Bool, (r = true ↔ L = M) ∧ ACall Tryz.prog 51 [.d (.sl (L.flatMap rulD) L.length), .d (.sl (M.flatMap rulD) M.length)] [] (Just (boolA r)) := by
 obtain ⟨r, hr⟩ := zan (L = M)
 refine ⟨r, hr, ?_⟩
 by_cases hlen : L.length = M.length
 ·rw [← hlen]
  refine zb za Tryz.func51 rfl Tryz.ntmps51 (congrArg Array.toList Tryz.results51) (by kernel_rfl) rfl ?_
  repeat (first | refine q_Y ?_ | ((first | apply q_K rfl | apply q_X rfl); (first | exact q_H | (exact zz rfl rfl rfl))) | refine q_U ?_)
  refine zt (fun k : Nat => [(0, .d (.sl (L.flatMap rulD) L.length)), (1, .d (.sl (M.flatMap rulD) L.length)), (12, intA (L.length : Int)), (13, intA (k : Int))]) (fun _ => []) (fun k => k ≤ L.length ∧ ∀ j (hj : j < L.length), j < k → L[j] = M[j]'(by omega)) (fun k => L.length - k) 0 ⟨Nat.zero_le _, fun j _ h => absurd h (Nat.not_lt_zero j)⟩ (q_S) ?_
  rintro k ⟨hk, hall⟩
  try dsimp only
  by_cases hkL : k < L.length
  ·have hkM : k < M.length := by omega
   have hw1 := zd zbn L k 10 hkL (by decide)
   have hw2 := zd zbn M k 10 hkM (by decide)
   by_cases he : L[k] = M[k]
   ·(obtain ⟨c, hc1, hc2⟩ := rulEqv L[k] M[k]; cases c <;> (first | (exact absurd he (by simpa using hc2)) | (exact absurd (hc2.1 rfl) he) | skip))
    repeat (first | refine q_Y ?_ | ((first | apply q_K rfl | apply q_X rfl); (first | exact q_A | exact q_R (w := (by first | exact hw1 | exact hw2 | rfl)) | exact q_B | (exact Y_eq za zB rfl rfl rfl rfl rfl rfl rfl rfl rfl (by kernel_rfl) hc1 rfl))) | refine q_U ?_)
    refine ⟨k + 1, ⟨by omega, fun j hj h => ?_⟩, by omega, q_S⟩
    by_cases hjk : j = k
    ·subst hjk; exact he
    ·exact hall j hj (by omega)
   ·(obtain ⟨c, hc1, hc2⟩ := rulEqv L[k] M[k]; cases c <;> (first | (exact absurd he (by simpa using hc2)) | (exact absurd (hc2.1 rfl) he) | skip))
    repeat (first | refine q_Y ?_ | ((first | apply q_K rfl | apply q_X rfl); (first | exact q_A | exact q_R (w := (by first | exact hw1 | exact hw2 | rfl)) | exact q_B | (exact Y_eq za zB rfl rfl rfl rfl rfl rfl rfl rfl rfl (by kernel_rfl) hc1 rfl))) | refine q_U ?_)
    refine zn rfl ⟨?_, rfl⟩
    have : r = false := Bool.eq_false_iff.2 fun h => he (by have := hr.1 h; subst this; rfl)
    rw [this]; rfl
  ·have : r = true := hr.2 (zW hlen fun j hj => hall j hj (by omega))
   rw [this]
   repeat (first | refine q_Y ?_ | ((first | apply q_K rfl | apply q_X rfl); (exact q_H)) | refine q_U ?_)
   exact zn rfl ⟨rfl, rfl⟩
 ·have : r = false := Bool.eq_false_iff.2 fun h => hlen (by rw [hr.1 h])
  rw [this]
  have hne : ((L.length : Int) != (M.length : Int)) = true := by simp; omega
  refine zb za Tryz.func51 rfl Tryz.ntmps51 (congrArg Array.toList Tryz.results51) (by kernel_rfl) rfl ?_
  repeat (first | refine q_Y ?_ | ((first | apply q_K rfl | apply q_X rfl); (first | exact q_H | (exact q_13))) | refine q_U ?_ | (refine zad rfl hne ?_))
  exact zn rfl ⟨rfl, rfl⟩
def entV (x : LEnt) : List Value := [.bool x.ok, .int .u32 x.p.a, .int .i64 x.p.b, .int .i64 x.ge, .int .i64 x.le]
theorem entEqv (x y : LEnt) : ∃ c, eqCells (entV x) (entV y) = some c ∧ (c = true ↔ x = y) := by
 obtain ⟨_, ⟨_, _⟩, _, _⟩ := x
 obtain ⟨_, ⟨_, _⟩, _, _⟩ := y
 simp only [entV, eqCells, eqV, if_true, Bool.and_true, Option.some.injEq, exists_eq_left']
 simp [and_assoc]
theorem zh7 (L M : List LEnt) (hL : L.length ≤ 140737488355328) (hM : M.length ≤ 140737488355328) : ∃ r : Bool, (r = true ↔ L = M) ∧ ACall Tryz.prog 54 [.d (.sl (L.flatMap lentD) L.length), .d (.sl (M.flatMap lentD) M.length)] [] (Just (boolA r)) := by
 obtain ⟨r, hr⟩ := zan (L = M)
 refine ⟨r, hr, ?_⟩
 by_cases hlen : L.length = M.length
 ·rw [← hlen]
  refine zb za Tryz.func54 rfl Tryz.ntmps54 (congrArg Array.toList Tryz.results54) (by kernel_rfl) rfl ?_
  repeat (first | refine q_Y ?_ | ((first | apply q_K rfl | apply q_X rfl); (first | exact q_H | (exact zz rfl rfl rfl))) | refine q_U ?_)
  refine zt (fun k : Nat => [(0, .d (.sl (L.flatMap lentD) L.length)), (1, .d (.sl (M.flatMap lentD) L.length)), (12, intA (L.length : Int)), (13, intA (k : Int))]) (fun _ => []) (fun k => k ≤ L.length ∧ ∀ j (hj : j < L.length), j < k → L[j] = M[j]'(by omega)) (fun k => L.length - k) 0 ⟨Nat.zero_le _, fun j _ h => absurd h (Nat.not_lt_zero j)⟩ (q_S) ?_
  rintro k ⟨hk, hall⟩
  try dsimp only
  by_cases hkL : k < L.length
  ·have hkM : k < M.length := by omega
   have hw1 := zd zaA L k 5 hkL (by decide)
   have hw2 := zd zaA M k 5 hkM (by decide)
   by_cases he : L[k] = M[k]
   ·(obtain ⟨c, hc1, hc2⟩ := entEqv L[k] M[k]; cases c <;> (first | (exact absurd he (by simpa using hc2)) | (exact absurd (hc2.1 rfl) he) | skip))
    repeat (first | refine q_Y ?_ | ((first | apply q_K rfl | apply q_X rfl); (first | exact q_A | exact q_R (w := (by first | exact hw1 | exact hw2 | rfl)) | exact q_B | (exact Y_eq za zB rfl rfl rfl rfl rfl rfl rfl rfl rfl (by kernel_rfl) hc1 rfl))) | refine q_U ?_)
    refine ⟨k + 1, ⟨by omega, fun j hj h => ?_⟩, by omega, q_S⟩
    by_cases hjk : j = k
    ·subst hjk; exact he
    ·exact hall j hj (by omega)
   ·(obtain ⟨c, hc1, hc2⟩ := entEqv L[k] M[k]; cases c <;> (first | (exact absurd he (by simpa using hc2)) | (exact absurd (hc2.1 rfl) he) | skip))
    repeat (first | refine q_Y ?_ | ((first | apply q_K rfl | apply q_X rfl); (first | exact q_A | exact q_R (w := (by first | exact hw1 | exact hw2 | rfl)) | exact q_B | (exact Y_eq za zB rfl rfl rfl rfl rfl rfl rfl rfl rfl (by kernel_rfl) hc1 rfl))) | refine q_U ?_)
    refine zn rfl ⟨?_, rfl⟩
    have : r = false := Bool.eq_false_iff.2 fun h => he (by have := hr.1 h; subst this; rfl)
    rw [this]; rfl
  ·have : r = true := hr.2 (zW hlen fun j hj => hall j hj (by omega))
   rw [this]
   repeat (first | refine q_Y ?_ | ((first | apply q_K rfl | apply q_X rfl); (exact q_H)) | refine q_U ?_)
   exact zn rfl ⟨rfl, rfl⟩
 ·have : r = false := Bool.eq_false_iff.2 fun h => hlen (by rw [hr.1 h])
  rw [this]
  have hne : ((L.length : Int) != (M.length : Int)) = true := by simp; omega
  refine zb za Tryz.func54 rfl Tryz.ntmps54 (congrArg Array.toList Tryz.results54) (by kernel_rfl) rfl ?_
  repeat (first | refine q_Y ?_ | ((first | apply q_K rfl | apply q_X rfl); (first | exact q_H | (exact q_13))) | refine q_U ?_ | (refine zad rfl hne ?_))
  exact zn rfl ⟨rfl, rfl⟩
def rdsV (x : Rds) : List Value := [.int .u8 x.from_, .int .i64 x.met, .int .u8 x.ty, .string ⟨⟨x.pol⟩⟩]
theorem rdsEqv (x y : Rds) : ∃ c, eqCells (rdsV x) (rdsV y) = some c ∧ (c = true ↔ x = y) := by
 obtain ⟨_, _, _, _⟩ := x
 obtain ⟨_, _, _, _⟩ := y
 simp only [rdsV, eqCells, eqV, if_true, Bool.and_true, Option.some.injEq, exists_eq_left']
 simp [and_assoc]
theorem ze2 (L M : List Rds) (hL : L.length ≤ 140737488355328) (hM : M.length ≤ 140737488355328) : ∃ r : Bool, (r = true ↔ L = M) ∧ ACall Tryz.prog 66 [.d (.sl (L.flatMap rdsD) L.length), .d (.sl (M.flatMap rdsD) M.length)] [] (Just (boolA r)) := by
 obtain ⟨r, hr⟩ := zan (L = M)
 refine ⟨r, hr, ?_⟩
 by_cases hlen : L.length = M.length
 ·rw [← hlen]
  refine zb za Tryz.func66 rfl Tryz.ntmps66 (congrArg Array.toList Tryz.results66) (by kernel_rfl) rfl ?_
  repeat (first | refine q_Y ?_ | ((first | apply q_K rfl | apply q_X rfl); (first | exact q_H | (exact zz rfl rfl rfl))) | refine q_U ?_)
  refine zt (fun k : Nat => [(0, .d (.sl (L.flatMap rdsD) L.length)), (1, .d (.sl (M.flatMap rdsD) L.length)), (12, intA (L.length : Int)), (13, intA (k : Int))]) (fun _ => []) (fun k => k ≤ L.length ∧ ∀ j (hj : j < L.length), j < k → L[j] = M[j]'(by omega)) (fun k => L.length - k) 0 ⟨Nat.zero_le _, fun j _ h => absurd h (Nat.not_lt_zero j)⟩ (q_S) ?_
  rintro k ⟨hk, hall⟩
  try dsimp only
  by_cases hkL : k < L.length
  ·have hkM : k < M.length := by omega
   have hw1 := zd zbo L k 4 hkL (by decide)
   have hw2 := zd zbo M k 4 hkM (by decide)
   by_cases he : L[k] = M[k]
   ·(obtain ⟨c, hc1, hc2⟩ := rdsEqv L[k] M[k]; cases c <;> (first | (exact absurd he (by simpa using hc2)) | (exact absurd (hc2.1 rfl) he) | skip))
    repeat (first | refine q_Y ?_ | ((first | apply q_K rfl | apply q_X rfl); (first | exact q_A | exact q_R (w := (by first | exact hw1 | exact hw2 | rfl)) | exact q_B | (exact Y_eq za zB rfl rfl rfl rfl rfl rfl rfl rfl rfl (by kernel_rfl) hc1 rfl))) | refine q_U ?_)
    refine ⟨k + 1, ⟨by omega, fun j hj h => ?_⟩, by omega, q_S⟩
    by_cases hjk : j = k
    ·subst hjk; exact he
    ·exact hall j hj (by omega)
   ·(obtain ⟨c, hc1, hc2⟩ := rdsEqv L[k] M[k]; cases c <;> (first | (exact absurd he (by simpa using hc2)) | (exact absurd (hc2.1 rfl) he) | skip))
    repeat (first | refine q_Y ?_ | ((first | apply q_K rfl | apply q_X rfl); (first | exact q_A | exact q_R (w := (by first | exact hw1 | exact hw2 | rfl)) | exact q_B | (exact Y_eq za zB rfl rfl rfl rfl rfl rfl rfl rfl rfl (by kernel_rfl) hc1 rfl))) | refine q_U ?_)
    refine zn rfl ⟨?_, rfl⟩
    have : r = false := Bool.eq_false_iff.2 fun h => he (by have := hr.1 h; subst this; rfl)
    rw [this]; rfl
  ·have : r = true := hr.2 (zW hlen fun j hj => hall j hj (by omega))
   rw [this]
   repeat (first | refine q_Y ?_ | ((first | apply q_K rfl | apply q_X rfl); (exact q_H)) | refine q_U ?_)
   exact zn rfl ⟨rfl, rfl⟩
 ·have : r = false := Bool.eq_false_iff.2 fun h => hlen (by rw [hr.1 h])
  rw [this]
  have hne : ((L.length : Int) != (M.length : Int)) = true := by simp; omega
  refine zb za Tryz.func66 rfl Tryz.ntmps66 (congrArg Array.toList Tryz.results66) (by kernel_rfl) rfl ?_
  repeat (first | refine q_Y ?_ | ((first | apply q_K rfl | apply q_X rfl); (first | exact q_H | (exact q_13))) | refine q_U ?_ | (refine zad rfl hne ?_))
  exact zn rfl ⟨rfl, rfl⟩
def pfxV (x : Pfx) : List Value := [.int .u32 x.a, .int .i64 x.b]
theorem pfxEqv (x y : Pfx) : ∃ c, eqCells (pfxV x) (pfxV y) = some c ∧ (c = true ↔ x = y) := by
 obtain ⟨_, _⟩ := x
 obtain ⟨_, _⟩ := y
 simp only [pfxV, eqCells, eqV, if_true, Bool.and_true, Option.some.injEq, exists_eq_left']
 simp [and_assoc]
theorem zh4 (L M : List Pfx) (hL : L.length ≤ 140737488355328) (hM : M.length ≤ 140737488355328) : ∃ r : Bool, (r = true ↔ L = M) ∧ ACall Tryz.prog 69 [.d (.sl (L.flatMap pfxD) L.length), .d (.sl (M.flatMap pfxD) M.length)] [] (Just (boolA r)) := by
 obtain ⟨r, hr⟩ := zan (L = M)
 refine ⟨r, hr, ?_⟩
 by_cases hlen : L.length = M.length
 ·rw [← hlen]
  refine zb za Tryz.func69 rfl Tryz.ntmps69 (congrArg Array.toList Tryz.results69) (by kernel_rfl) rfl ?_
  repeat (first | refine q_Y ?_ | ((first | apply q_K rfl | apply q_X rfl); (first | exact q_H | (exact zz rfl rfl rfl))) | refine q_U ?_)
  refine zt (fun k : Nat => [(0, .d (.sl (L.flatMap pfxD) L.length)), (1, .d (.sl (M.flatMap pfxD) L.length)), (12, intA (L.length : Int)), (13, intA (k : Int))]) (fun _ => []) (fun k => k ≤ L.length ∧ ∀ j (hj : j < L.length), j < k → L[j] = M[j]'(by omega)) (fun k => L.length - k) 0 ⟨Nat.zero_le _, fun j _ h => absurd h (Nat.not_lt_zero j)⟩ (q_S) ?_
  rintro k ⟨hk, hall⟩
  try dsimp only
  by_cases hkL : k < L.length
  ·have hkM : k < M.length := by omega
   have hw1 := zd za8 L k 2 hkL (by decide)
   have hw2 := zd za8 M k 2 hkM (by decide)
   by_cases he : L[k] = M[k]
   ·(obtain ⟨c, hc1, hc2⟩ := pfxEqv L[k] M[k]; cases c <;> (first | (exact absurd he (by simpa using hc2)) | (exact absurd (hc2.1 rfl) he) | skip))
    repeat (first | refine q_Y ?_ | ((first | apply q_K rfl | apply q_X rfl); (first | exact q_A | exact q_R (w := (by first | exact hw1 | exact hw2 | rfl)) | exact q_B | (exact Y_eq za zB rfl rfl rfl rfl rfl rfl rfl rfl rfl (by kernel_rfl) hc1 rfl))) | refine q_U ?_)
    refine ⟨k + 1, ⟨by omega, fun j hj h => ?_⟩, by omega, q_S⟩
    by_cases hjk : j = k
    ·subst hjk; exact he
    ·exact hall j hj (by omega)
   ·(obtain ⟨c, hc1, hc2⟩ := pfxEqv L[k] M[k]; cases c <;> (first | (exact absurd he (by simpa using hc2)) | (exact absurd (hc2.1 rfl) he) | skip))
    repeat (first | refine q_Y ?_ | ((first | apply q_K rfl | apply q_X rfl); (first | exact q_A | exact q_R (w := (by first | exact hw1 | exact hw2 | rfl)) | exact q_B | (exact Y_eq za zB rfl rfl rfl rfl rfl rfl rfl rfl rfl (by kernel_rfl) hc1 rfl))) | refine q_U ?_)
    refine zn rfl ⟨?_, rfl⟩
    have : r = false := Bool.eq_false_iff.2 fun h => he (by have := hr.1 h; subst this; rfl)
    rw [this]; rfl
  ·have : r = true := hr.2 (zW hlen fun j hj => hall j hj (by omega))
   rw [this]
   repeat (first | refine q_Y ?_ | ((first | apply q_K rfl | apply q_X rfl); (exact q_H)) | refine q_U ?_)
   exact zn rfl ⟨rfl, rfl⟩
 ·have : r = false := Bool.eq_false_iff.2 fun h => hlen (by rw [hr.1 h])
  rw [this]
  have hne : ((L.length : Int) != (M.length : Int)) = true := by simp; omega
  refine zb za Tryz.func69 rfl Tryz.ntmps69 (congrArg Array.toList Tryz.results69) (by kernel_rfl) rfl ?_
  repeat (first | refine q_Y ?_ | ((first | apply q_K rfl | apply q_X rfl); (first | exact q_H | (exact q_13))) | refine q_U ?_ | (refine zad rfl hne ?_))
  exact zn rfl ⟨rfl, rfl⟩
def perV (x : Per) : List Value := [.int .u32 x.a, .int .u32 x.as_, .string ⟨⟨x.pin⟩⟩, .string ⟨⟨x.pout⟩⟩, .bool x.cl, .bool x.slf]
theorem perEqv (x y : Per) : ∃ c, eqCells (perV x) (perV y) = some c ∧ (c = true ↔ x = y) := by
 obtain ⟨_, _, _, _, _, _⟩ := x
 obtain ⟨_, _, _, _, _, _⟩ := y
 simp only [perV, eqCells, eqV, if_true, Bool.and_true, Option.some.injEq, exists_eq_left']
 simp [and_assoc]
theorem zh5 (L M : List Per) (hL : L.length ≤ 140737488355328) (hM : M.length ≤ 140737488355328) : ∃ r : Bool, (r = true ↔ L = M) ∧ ACall Tryz.prog 70 [.d (.sl (L.flatMap perD) L.length), .d (.sl (M.flatMap perD) M.length)] [] (Just (boolA r)) := by
 obtain ⟨r, hr⟩ := zan (L = M)
 refine ⟨r, hr, ?_⟩
 by_cases hlen : L.length = M.length
 ·rw [← hlen]
  refine zb za Tryz.func70 rfl Tryz.ntmps70 (congrArg Array.toList Tryz.results70) (by kernel_rfl) rfl ?_
  repeat (first | refine q_Y ?_ | ((first | apply q_K rfl | apply q_X rfl); (first | exact q_H | (exact zz rfl rfl rfl))) | refine q_U ?_)
  refine zt (fun k : Nat => [(0, .d (.sl (L.flatMap perD) L.length)), (1, .d (.sl (M.flatMap perD) L.length)), (12, intA (L.length : Int)), (13, intA (k : Int))]) (fun _ => []) (fun k => k ≤ L.length ∧ ∀ j (hj : j < L.length), j < k → L[j] = M[j]'(by omega)) (fun k => L.length - k) 0 ⟨Nat.zero_le _, fun j _ h => absurd h (Nat.not_lt_zero j)⟩ (q_S) ?_
  rintro k ⟨hk, hall⟩
  try dsimp only
  by_cases hkL : k < L.length
  ·have hkM : k < M.length := by omega
   have hw1 := zd zaQ L k 6 hkL (by decide)
   have hw2 := zd zaQ M k 6 hkM (by decide)
   by_cases he : L[k] = M[k]
   ·(obtain ⟨c, hc1, hc2⟩ := perEqv L[k] M[k]; cases c <;> (first | (exact absurd he (by simpa using hc2)) | (exact absurd (hc2.1 rfl) he) | skip))
    repeat (first | refine q_Y ?_ | ((first | apply q_K rfl | apply q_X rfl); (first | exact q_A | exact q_R (w := (by first | exact hw1 | exact hw2 | rfl)) | exact q_B | (exact Y_eq za zB rfl rfl rfl rfl rfl rfl rfl rfl rfl (by kernel_rfl) hc1 rfl))) | refine q_U ?_)
    refine ⟨k + 1, ⟨by omega, fun j hj h => ?_⟩, by omega, q_S⟩
    by_cases hjk : j = k
    ·subst hjk; exact he
    ·exact hall j hj (by omega)
   ·(obtain ⟨c, hc1, hc2⟩ := perEqv L[k] M[k]; cases c <;> (first | (exact absurd he (by simpa using hc2)) | (exact absurd (hc2.1 rfl) he) | skip))
    repeat (first | refine q_Y ?_ | ((first | apply q_K rfl | apply q_X rfl); (first | exact q_A | exact q_R (w := (by first | exact hw1 | exact hw2 | rfl)) | exact q_B | (exact Y_eq za zB rfl rfl rfl rfl rfl rfl rfl rfl rfl (by kernel_rfl) hc1 rfl))) | refine q_U ?_)
    refine zn rfl ⟨?_, rfl⟩
    have : r = false := Bool.eq_false_iff.2 fun h => he (by have := hr.1 h; subst this; rfl)
    rw [this]; rfl
  ·have : r = true := hr.2 (zW hlen fun j hj => hall j hj (by omega))
   rw [this]
   repeat (first | refine q_Y ?_ | ((first | apply q_K rfl | apply q_X rfl); (exact q_H)) | refine q_U ?_)
   exact zn rfl ⟨rfl, rfl⟩
 ·have : r = false := Bool.eq_false_iff.2 fun h => hlen (by rw [hr.1 h])
  rw [this]
  have hne : ((L.length : Int) != (M.length : Int)) = true := by simp; omega
  refine zb za Tryz.func70 rfl Tryz.ntmps70 (congrArg Array.toList Tryz.results70) (by kernel_rfl) rfl ?_
  repeat (first | refine q_Y ?_ | ((first | apply q_K rfl | apply q_X rfl); (first | exact q_H | (exact q_13))) | refine q_U ?_ | (refine zad rfl hne ?_))
  exact zn rfl ⟨rfl, rfl⟩
theorem zh0 (L M : List (List UInt8)) (hL : L.length ≤ 140737488355328) (hM : M.length ≤ 140737488355328) : ∃ r : Bool, (r = true ↔ L = M) ∧ ACall Tryz.prog 45 [.d (.sl (L.flatMap s1D) L.length), .d (.sl (M.flatMap s1D) M.length)] [] (Just (boolA r)) := by
 obtain ⟨r, hr⟩ := zan (L = M)
 refine ⟨r, hr, ?_⟩
 by_cases hlen : L.length = M.length
 ·rw [← hlen]
  refine zb za Tryz.func45 rfl Tryz.ntmps45 (congrArg Array.toList Tryz.results45) (by kernel_rfl) rfl ?_
  repeat (first | refine q_Y ?_ | ((first | apply q_K rfl | apply q_X rfl); (first | exact q_H | (exact zz rfl rfl rfl))) | refine q_U ?_)
  refine zt (fun k : Nat => [(0, .d (.sl (L.flatMap s1D) L.length)), (1, .d (.sl (M.flatMap s1D) L.length)), (12, intA (L.length : Int)), (13, intA (k : Int))]) (fun _ => []) (fun k => k ≤ L.length ∧ ∀ j (hj : j < L.length), j < k → L[j] = M[j]'(by omega)) (fun k => L.length - k) 0 ⟨Nat.zero_le _, fun j _ h => absurd h (Nat.not_lt_zero j)⟩ (q_S) ?_
  rintro k ⟨hk, hall⟩
  try dsimp only
  by_cases hkL : k < L.length
  ·have hkM : k < M.length := by omega
   have hw1 := zd za2 L k 1 hkL (by decide)
   have hw2 := zd za2 M k 1 hkM (by decide)
   by_cases he : L[k] = M[k]
   ·(have hp1 : L[k] = M[k] → (!decide (L[k] = M[k])) = false := (fun h => by simp [h]); have hp2 : ¬ L[k] = M[k] → (!decide (L[k] = M[k])) = true := (fun h => by simp [h]))
    repeat (first | refine q_Y ?_ | ((first | apply q_K rfl | apply q_X rfl); (first | exact q_A | exact q_R (w := (by first | exact hw1 | exact hw2 | rfl)) | exact q_B | (exact zaH rfl rfl rfl rfl))) | refine q_U ?_ | (refine zdn rfl (hp1 he) ?_))
    refine ⟨k + 1, ⟨by omega, fun j hj h => ?_⟩, by omega, q_S⟩
    by_cases hjk : j = k
    ·subst hjk; exact he
    ·exact hall j hj (by omega)
   ·(have hp1 : L[k] = M[k] → (!decide (L[k] = M[k])) = false := (fun h => by simp [h]); have hp2 : ¬ L[k] = M[k] → (!decide (L[k] = M[k])) = true := (fun h => by simp [h]))
    repeat (first | refine q_Y ?_ | ((first | apply q_K rfl | apply q_X rfl); (first | exact q_A | exact q_R (w := (by first | exact hw1 | exact hw2 | rfl)) | exact q_B | (exact zaH rfl rfl rfl rfl))) | refine q_U ?_ | (refine zad rfl (hp2 he) ?_))
    refine zn rfl ⟨?_, rfl⟩
    have : r = false := Bool.eq_false_iff.2 fun h => he (by have := hr.1 h; subst this; rfl)
    rw [this]; rfl
  ·have : r = true := hr.2 (zW hlen fun j hj => hall j hj (by omega))
   rw [this]
   repeat (first | refine q_Y ?_ | ((first | apply q_K rfl | apply q_X rfl); (exact q_H)) | refine q_U ?_)
   exact zn rfl ⟨rfl, rfl⟩
 ·have : r = false := Bool.eq_false_iff.2 fun h => hlen (by rw [hr.1 h])
  rw [this]
  have hne : ((L.length : Int) != (M.length : Int)) = true := by simp; omega
  refine zb za Tryz.func45 rfl Tryz.ntmps45 (congrArg Array.toList Tryz.results45) (by kernel_rfl) rfl ?_
  repeat (first | refine q_Y ?_ | ((first | apply q_K rfl | apply q_X rfl); (first | exact q_H | (exact q_13))) | refine q_U ?_ | (refine zad rfl hne ?_))
  exact zn rfl ⟨rfl, rfl⟩
theorem zdJ (L M : List Int) (hL : L.length ≤ 140737488355328) (hM : M.length ≤ 140737488355328) : ∃ r : Bool, (r = true ↔ L = M) ∧ ACall Tryz.prog 59 [.d (.sl (L.flatMap u1D) L.length), .d (.sl (M.flatMap u1D) M.length)] [] (Just (boolA r)) := by
 obtain ⟨r, hr⟩ := zan (L = M)
 refine ⟨r, hr, ?_⟩
 by_cases hlen : L.length = M.length
 ·rw [← hlen]
  refine zb za Tryz.func59 rfl Tryz.ntmps59 (congrArg Array.toList Tryz.results59) (by kernel_rfl) rfl ?_
  repeat (first | refine q_Y ?_ | ((first | apply q_K rfl | apply q_X rfl); (first | exact q_H | (exact zz rfl rfl rfl))) | refine q_U ?_)
  refine zt (fun k : Nat => [(0, .d (.sl (L.flatMap u1D) L.length)), (1, .d (.sl (M.flatMap u1D) L.length)), (12, intA (L.length : Int)), (13, intA (k : Int))]) (fun _ => []) (fun k => k ≤ L.length ∧ ∀ j (hj : j < L.length), j < k → L[j] = M[j]'(by omega)) (fun k => L.length - k) 0 ⟨Nat.zero_le _, fun j _ h => absurd h (Nat.not_lt_zero j)⟩ (q_S) ?_
  rintro k ⟨hk, hall⟩
  try dsimp only
  by_cases hkL : k < L.length
  ·have hkM : k < M.length := by omega
   have hw1 := zd zbK L k 1 hkL (by decide)
   have hw2 := zd zbK M k 1 hkM (by decide)
   by_cases he : L[k] = M[k]
   ·(have hp1 : L[k] = M[k] → (L[k] != M[k]) = false := (fun h => by simp [h]); have hp2 : ¬ L[k] = M[k] → (L[k] != M[k]) = true := (fun h => by simp [h]))
    repeat (first | refine q_Y ?_ | ((first | apply q_K rfl | apply q_X rfl); (first | exact q_A | exact q_R (w := (by first | exact hw1 | exact hw2 | rfl)) | exact q_B | (exact q_13))) | refine q_U ?_ | (refine zdn rfl (hp1 he) ?_))
    refine ⟨k + 1, ⟨by omega, fun j hj h => ?_⟩, by omega, q_S⟩
    by_cases hjk : j = k
    ·subst hjk; exact he
    ·exact hall j hj (by omega)
   ·(have hp1 : L[k] = M[k] → (L[k] != M[k]) = false := (fun h => by simp [h]); have hp2 : ¬ L[k] = M[k] → (L[k] != M[k]) = true := (fun h => by simp [h]))
    repeat (first | refine q_Y ?_ | ((first | apply q_K rfl | apply q_X rfl); (first | exact q_A | exact q_R (w := (by first | exact hw1 | exact hw2 | rfl)) | exact q_B | (exact q_13))) | refine q_U ?_ | (refine zad rfl (hp2 he) ?_))
    refine zn rfl ⟨?_, rfl⟩
    have : r = false := Bool.eq_false_iff.2 fun h => he (by have := hr.1 h; subst this; rfl)
    rw [this]; rfl
  ·have : r = true := hr.2 (zW hlen fun j hj => hall j hj (by omega))
   rw [this]
   repeat (first | refine q_Y ?_ | ((first | apply q_K rfl | apply q_X rfl); (exact q_H)) | refine q_U ?_)
   exact zn rfl ⟨rfl, rfl⟩
 ·have : r = false := Bool.eq_false_iff.2 fun h => hlen (by rw [hr.1 h])
  rw [this]
  have hne : ((L.length : Int) != (M.length : Int)) = true := by simp; omega
  refine zb za Tryz.func59 rfl Tryz.ntmps59 (congrArg Array.toList Tryz.results59) (by kernel_rfl) rfl ?_
  repeat (first | refine q_Y ?_ | ((first | apply q_K rfl | apply q_X rfl); (first | exact q_H | (exact q_13))) | refine q_U ?_ | (refine zad rfl hne ?_))
  exact zn rfl ⟨rfl, rfl⟩
end Go.Proofs.YtoahnbmedcjpeaaGreatDoor.Ab

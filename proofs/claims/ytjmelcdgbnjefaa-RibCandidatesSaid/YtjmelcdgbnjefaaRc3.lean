/-
  Texts of a proof, one behind the other (part 4).
-/
import Derived.Deep.MidRow
import Derived.Test.YtjmelcdgbnjefaaRc1
set_option linter.unusedVariables false
set_option linter.unusedSimpArgs false
namespace Go.Proofs.Ytjmelcdgbnjefaa
set_option linter.unusedVariables false
open Go.RowKit Go.Sort

structure Ifc where
  name : Value
  vrf : Value
  a : Int
  b : Int
  down : Bool
  fin : Value
  fout : Value
  side : Value
  area : Value
  cost : Value
  passive : Value
abbrev Ifc.cs (i : Ifc) : List Value := [i.name, i.vrf, .int .u32 i.a, .int .i64 i.b, .bool i.down, i.fin, i.fout, i.side, i.area, i.cost, i.passive]
abbrev Ifc.v (i : Ifc) : Value := .agg i.cs.toArray
def Ifc.addressed (i : Ifc) : Bool := i.a != 0 || i.b != 0
def Ifc.alive (i : Ifc) : Bool := !i.down && i.addressed
def Ifc.sub (i : Ifc) : Value := if i.addressed && decide (0 ≤ i.b ∧ i.b ≤ 32) then .tuple #[(Go.Proofs.Ytjmelcdgbnjefaa.sub i.a i.b).v, .bool true] else .tuple #[.agg #[.int .u32 0, .int .i64 0], .bool false]
def Ifc.ok (i : Ifc) : Prop := 0 ≤ i.a ∧ i.a < 4294967296

set_option maxHeartbeats 400000 in
theorem addressed_any (i : Ifc) (w : World) : Calls Try.prog 46 #[i.v] w (Ret w (.bool i.addressed)) := by
  obtain ⟨n, v, a, b, d, fi, fo, s, ar, c, p⟩ := i
  unfold Ifc.addressed
  dsimp only
  by_cases ha : a = 0
  · subst ha
    go_enter Try.func46, Try.ntmps46
    go_wp2_with fail
    go_ret
    exact ⟨rfl, (Below.refl _ _).alloc (Nat.le_refl _) _⟩
  · have hB : (a != 0) = true := by simpa using ha
    rw [hB, Bool.true_or]
    go_enter Try.func46, Try.ntmps46
    go_wp2_with fail
    go_ret
    exact ⟨rfl, (Below.refl _ _).alloc (Nat.le_refl _) _⟩

set_option maxHeartbeats 400000 in
theorem refAlive_any (i : Ifc) (w : World) : Calls Try.prog 24 #[i.v] w (Ret w (.bool i.alive)) := by
  obtain ⟨n, v, a, b, d, fi, fo, s, ar, c, p⟩ := i
  unfold Ifc.alive Ifc.addressed
  dsimp only
  cases d
  · by_cases ha : a = 0
    · subst ha
      go_enter Try.func24, Try.ntmps24
      go_wp2_with fail
      go_ret
      exact ⟨rfl, (Below.refl _ _).alloc (Nat.le_refl _) _⟩
    · have hB : (a != 0) = true := by simpa using ha
      rw [hB, Bool.true_or]
      go_enter Try.func24, Try.ntmps24
      go_wp2_with fail
      go_ret
      exact ⟨rfl, (Below.refl _ _).alloc (Nat.le_refl _) _⟩
  · go_enter Try.func24, Try.ntmps24
    go_wp2_with fail
    go_ret
    exact ⟨rfl, (Below.refl _ _).alloc (Nat.le_refl _) _⟩

set_option maxHeartbeats 400000 in
theorem alive_any (i : Ifc) (w : World) : Calls Try.prog 27 #[i.v] w (Ret w (.bool i.alive)) := by
  have hA := fun W => addressed_any i W
  unfold Ifc.alive
  obtain ⟨n, v, a, b, d, fi, fo, s, ar, c, p⟩ := i
  dsimp only
  cases d
  · go_enter Try.func27, Try.ntmps27
    go_wp2_with fail
    refine (hA _).mono ?_
    rintro e w1 ⟨rfl, hb1⟩
    go_wp2_with fail
    go_ret
    exact ⟨rfl, below_trans ((Below.refl _ _).alloc (Nat.le_refl _) _) hb1⟩
  · go_enter Try.func27, Try.ntmps27
    go_wp2_with fail
    go_ret
    exact ⟨rfl, (Below.refl _ _).alloc (Nat.le_refl _) _⟩

theorem boxres (i : Ifc) (w : World) (t1 t2 : TypeId) (u v : Value) : Kn ((w.alloc (.cells i.cs.toArray t1)).alloc (.cells #[u, v] t2)) w.heap.size 2 (.int .u32 i.a) ∧ Kn ((w.alloc (.cells i.cs.toArray t1)).alloc (.cells #[u, v] t2)) w.heap.size 3 (.int .i64 i.b) ∧
    Kn ((w.alloc (.cells i.cs.toArray t1)).alloc (.cells #[u, v] t2)) (w.heap.size + 1) 0 u ∧ Kn ((w.alloc (.cells i.cs.toArray t1)).alloc (.cells #[u, v] t2)) (w.heap.size + 1) 1 v := by
  have h : (w.alloc (.cells i.cs.toArray t1)).heap.size = w.heap.size + 1 := by simp
  refine ⟨(Kn.new rfl).alloc _, (Kn.new rfl).alloc _, ?_, ?_⟩
  · rw [← h]; exact Kn.new rfl
  · rw [← h]; exact Kn.new rfl
theorem boxbelow (w : World) (a b : Obj) : Below w.heap.size w ((w.alloc a).alloc b) := ((Below.refl _ _).alloc (Nat.le_refl _) _).alloc (by simp) _

set_option maxHeartbeats 800000 in
theorem subnet_any (i : Ifc) (w : World) (hi : i.ok) : Calls Try.prog 26 #[i.v] w (Ret w i.sub) := by
  have hA := fun W => addressed_any i W
  obtain ⟨k2, k3, r0, r1⟩ := boxres i w 92 42 (.int .u32 0) (.int .i64 0)
  have hbb := Lib.hid (boxbelow w (.cells i.cs.toArray 92) (.cells #[.int .u32 0, .int .i64 0] 42))
  unfold Ifc.sub
  cases hAA : i.addressed
  · rw [hAA] at hA
    rw [Bool.false_and]
    rw [if_neg (by simp)]
    obtain ⟨n, v, a, b, d, fi, fo, s, ar, c, p⟩ := i
    clear hAA
    go_enter Try.func26, Try.ntmps26
    go_wp2_with fail
    refine (hA _).mono ?_
    rintro e w1 ⟨rfl, hb1⟩
    have R0 := r0.keep hb1
    have R1 := r1.keep hb1
    have ⟨c0, f0⟩ := R0
    have ⟨c1, f1⟩ := R1
    go_wp2_with fail
    refine bodyPost_ret (v := .tuple #[.agg #[.int .u32 0, .int .i64 0], .bool false]) (by simp [results, Try.results26, go_sem, c0, c1]) rfl ⟨rfl, ?_⟩
    exact ((below_trans hbb.out hb1).setCell (by simp) _).setCell (by simp) _
  · rw [hAA] at hA
    rw [Bool.true_and]
    obtain ⟨n, v, a, b, d, fi, fo, s, ar, c, p⟩ := i
    obtain ⟨a0, a1⟩ := hi
    clear hAA
    dsimp only at *
    by_cases hb : 0 ≤ b ∧ b ≤ 32
    · rw [if_pos (by simpa using hb)]
      have hS := fun W => addrSubnet_any a b W hb.1 hb.2 a0 a1
      clear hb
      go_enter Try.func26, Try.ntmps26
      go_wp2_with fail
      refine (hA _).mono ?_
      rintro e w1 ⟨rfl, hb1⟩
      have ⟨c2, f2⟩ := k2.keep hb1
      have ⟨c3, f3⟩ := k3.keep hb1
      go_wp2_with fail
      refine (hS _).mono ?_
      rintro e w2 ⟨rfl, hb2⟩
      have R0 := (r0.keep hb1).keep hb2
      have R1 := (r1.keep hb1).keep hb2
      have z0 := R0.lt
      have ⟨c0, f0⟩ := R0
      have ⟨c1, f1⟩ := R1
      go_wp2_with fail
      refine bodyPost_ret (v := .tuple #[(sub a b).v, .bool true]) (by simp [results, Try.results26, go_sem, c0, c1, z0]) rfl ⟨rfl, ?_⟩
      have hB := below_trans (below_trans hbb.out hb1) hb2
      repeat (first | exact hB | apply Below.drew | apply below_drewN | (refine Below.setCell ?_ (by first | (dsimp only; omega) | (simp; done) | (simp; omega)) _) | (refine Below.alloc ?_ (by first | exact Nat.le_refl _ | (simp; done) | (simp; omega) | (have hsz9 := Below.size hB; simp at hsz9 ⊢; omega)) _))
    · rw [if_neg (by simpa using hb)]
      have hS := fun W => addrSubnet_bad a b W (by omega)
      clear hb
      go_enter Try.func26, Try.ntmps26
      go_wp2_with fail
      refine (hA _).mono ?_
      rintro e w1 ⟨rfl, hb1⟩
      have ⟨c2, f2⟩ := k2.keep hb1
      have ⟨c3, f3⟩ := k3.keep hb1
      go_wp2_with fail
      refine (hS _).mono ?_
      rintro e w2 ⟨rfl, hb2⟩
      have R0 := (r0.keep hb1).keep hb2
      have R1 := (r1.keep hb1).keep hb2
      have z0 := R0.lt
      have ⟨c0, f0⟩ := R0
      have ⟨c1, f1⟩ := R1
      go_wp2_with fail
      refine bodyPost_ret (v := .tuple #[.agg #[.int .u32 0, .int .i64 0], .bool false]) (by simp [results, Try.results26, go_sem, c0, c1, z0]) rfl ⟨rfl, ?_⟩
      have hB := below_trans (below_trans hbb.out hb1) hb2
      repeat (first | exact hB | apply Below.drew | apply below_drewN | (refine Below.setCell ?_ (by first | (dsimp only; omega) | (simp; done) | (simp; omega)) _) | (refine Below.alloc ?_ (by first | exact Nat.le_refl _ | (simp; done) | (simp; omega) | (have hsz9 := Below.size hB; simp at hsz9 ⊢; omega)) _))

set_option maxHeartbeats 800000 in
theorem refSubnetI_any (i : Ifc) (w : World) (hi : i.ok) : Calls Try.prog 23 #[i.v] w (Ret w i.sub) := by
  obtain ⟨k2, k3, r0, r1⟩ := boxres i w 92 42 (.int .u32 0) (.int .i64 0)
  have hbb := Lib.hid (boxbelow w (.cells i.cs.toArray 92) (.cells #[.int .u32 0, .int .i64 0] 42))
  unfold Ifc.sub Ifc.addressed
  obtain ⟨n, v, a, b, d, fi, fo, s, ar, c, p⟩ := i
  obtain ⟨a0, a1⟩ := hi
  dsimp only at *
  by_cases ha : a = 0 ∧ b = 0
  · obtain ⟨rfl, rfl⟩ := ha
    rw [if_neg (by simp)]
    go_enter Try.func23, Try.ntmps23
    go_wp2_with fail
    refine bodyPost_ret (v := .tuple #[.agg #[.int .u32 0, .int .i64 0], .bool false]) (by simp [results, Try.results23, go_sem]) rfl ⟨rfl, ?_⟩
    exact hbb.out
  · have hn : (a != 0 || b != 0) = true := by simp; omega
    rw [hn, Bool.true_and]
    clear hn
    by_cases hb : 0 ≤ b ∧ b ≤ 32
    · rw [if_pos (by simpa using hb)]
      have hS := fun W => refSubnet_any a b W hb.1 hb.2 a0 a1
      clear hb
      by_cases ha0 : a = 0
      · subst ha0
        have hb0 : (b == 0) = false := by simp; omega
        clear ha
        go_enter Try.func23, Try.ntmps23
        go_wp2_with fail
        refine (hS _).mono ?_
        rintro e w2 ⟨rfl, hb2⟩
        have R0 := r0.keep hb2
        have R1 := r1.keep hb2
        have z0 := R0.lt
        have ⟨c0, f0⟩ := R0
        have ⟨c1, f1⟩ := R1
        go_wp2_with fail
        refine bodyPost_ret (v := .tuple #[(sub 0 b).v, .bool true]) (by simp [results, Try.results23, go_sem, c0, c1, z0]) rfl ⟨rfl, ?_⟩
        have hB := below_trans hbb.out hb2
        repeat (first | exact hB | apply Below.drew | apply below_drewN | (refine Below.setCell ?_ (by first | (dsimp only; omega) | (simp; done) | (simp; omega)) _) | (refine Below.alloc ?_ (by first | exact Nat.le_refl _ | (simp; done) | (simp; omega) | (have hsz9 := Below.size hB; simp at hsz9 ⊢; omega)) _))
      · have hb0 : (a == 0) = false := by simpa using ha0
        clear ha ha0
        go_enter Try.func23, Try.ntmps23
        go_wp2_with fail
        refine (hS _).mono ?_
        rintro e w2 ⟨rfl, hb2⟩
        have R0 := r0.keep hb2
        have R1 := r1.keep hb2
        have z0 := R0.lt
        have ⟨c0, f0⟩ := R0
        have ⟨c1, f1⟩ := R1
        go_wp2_with fail
        refine bodyPost_ret (v := .tuple #[(sub a b).v, .bool true]) (by simp [results, Try.results23, go_sem, c0, c1, z0]) rfl ⟨rfl, ?_⟩
        have hB := below_trans hbb.out hb2
        repeat (first | exact hB | apply Below.drew | apply below_drewN | (refine Below.setCell ?_ (by first | (dsimp only; omega) | (simp; done) | (simp; omega)) _) | (refine Below.alloc ?_ (by first | exact Nat.le_refl _ | (simp; done) | (simp; omega) | (have hsz9 := Below.size hB; simp at hsz9 ⊢; omega)) _))
    · rw [if_neg (by simpa using hb)]
      have hS := fun W => refSubnet_bad a b W (by omega)
      by_cases ha0 : a = 0
      · subst ha0
        have hb0 : (b == 0) = false := by simp; omega
        clear ha hb
        go_enter Try.func23, Try.ntmps23
        go_wp2_with fail
        refine (hS _).mono ?_
        rintro e w2 ⟨rfl, hb2⟩
        have R0 := r0.keep hb2
        have R1 := r1.keep hb2
        have z0 := R0.lt
        have ⟨c0, f0⟩ := R0
        have ⟨c1, f1⟩ := R1
        go_wp2_with fail
        refine bodyPost_ret (v := .tuple #[.agg #[.int .u32 0, .int .i64 0], .bool false]) (by simp [results, Try.results23, go_sem, c0, c1, z0]) rfl ⟨rfl, ?_⟩
        have hB := below_trans hbb.out hb2
        repeat (first | exact hB | apply Below.drew | apply below_drewN | (refine Below.setCell ?_ (by first | (dsimp only; omega) | (simp; done) | (simp; omega)) _) | (refine Below.alloc ?_ (by first | exact Nat.le_refl _ | (simp; done) | (simp; omega) | (have hsz9 := Below.size hB; simp at hsz9 ⊢; omega)) _))
      · have hb0 : (a == 0) = false := by simpa using ha0
        clear ha ha0 hb
        go_enter Try.func23, Try.ntmps23
        go_wp2_with fail
        refine (hS _).mono ?_
        rintro e w2 ⟨rfl, hb2⟩
        have R0 := r0.keep hb2
        have R1 := r1.keep hb2
        have z0 := R0.lt
        have ⟨c0, f0⟩ := R0
        have ⟨c1, f1⟩ := R1
        go_wp2_with fail
        refine bodyPost_ret (v := .tuple #[.agg #[.int .u32 0, .int .i64 0], .bool false]) (by simp [results, Try.results23, go_sem, c0, c1, z0]) rfl ⟨rfl, ?_⟩
        have hB := below_trans hbb.out hb2
        repeat (first | exact hB | apply Below.drew | apply below_drewN | (refine Below.setCell ?_ (by first | (dsimp only; omega) | (simp; done) | (simp; omega)) _) | (refine Below.alloc ?_ (by first | exact Nat.le_refl _ | (simp; done) | (simp; omega) | (have hsz9 := Below.size hB; simp at hsz9 ⊢; omega)) _))
end Go.Proofs.Ytjmelcdgbnjefaa

/-
  More walks through the functions of addresses and prefixes.
-/
import Derived.Test.YtaecjmjdhbjbkaaAddrW
namespace Go.Proofs.Ytaecjmjdhbjbkaa
set_option linter.unusedVariables false
open Go.RowKit Go.Sort

set_option maxHeartbeats 400000 in
theorem refIn_any (x : Int) (p : Pfx) (w : World) (hp : p.ok) (x0 : 0 ≤ x) (x1 : x < 4294967296) : Calls Try.prog 13 #[.int .u32 x, p.v] w (Ret w (.bool (inB x p))) := by
  have hC := fun W => refCheck_any p W hp
  by_cases hg : good p
  · have hc : chk p = 0 := (chk_eq p).2 hg
    have hS := fun W => size_any p.b W hg.1 hg.2.1
    rw [hc] at hC
    have hp0 := sz_pos p.b
    have hI : inB x p = (decide (p.a ≤ x) && decide (x < p.a + sz p.b)) := by unfold inB; simp [hg]
    obtain ⟨a, b⟩ := p
    obtain ⟨a0, a1, b0, b1⟩ := hp
    clear hc hg
    dsimp only at *
    rw [hI]; clear hI
    have k := new2 w (.int .u32 a) (.int .i64 b) 26
    have k0 := cell_regrown k.1
    have k1 := cell_regrown k.2
    clear k
    have e1 : IntKind.u64.wrap x = x := by simp [IntKind.wrap, IntKind.bits, IntKind.signed]; omega
    have e2 : IntKind.u64.wrap a = a := by simp [IntKind.wrap, IntKind.bits, IntKind.signed]; omega
    by_cases hle : a ≤ x
    · have hd : decide (a ≤ x) = true := by simpa using hle
      have e3 : IntKind.u64.wrap (x - a) = x - a := by simp [IntKind.wrap, IntKind.bits, IntKind.signed]; omega
      have e4 : decide (x < a + sz b) = decide (x - a < sz b) := by rw [decide_eq_decide]; omega
      rw [hd, Bool.true_and, e4]; clear e4
      go_enter Try.func13, Try.ntmps13
      go_wp2_with fail
      refine wp_region_quiet_below (by kernel_rfl) (by kernel_rfl) ?_
      repeat (first | go_big_quiet_step ((first | (go_at_call 25; exact Ret.q0 hC) | (go_at_call 49; exact RetS.q0 hS))) | quiet_step ((first | (go_at_call 25; exact Ret.q0 hC) | (go_at_call 49; exact RetS.q0 hS))))
      refine wpQuiet_nil ?_
      intro wq hq'
      have hq := below_of_regrown hq'
      clear hq'
      go_wp2_with fail
      go_ret
      exact ⟨by rfl, below_trans ((Below.refl _ _).alloc (Nat.le_refl _) _) hq⟩
    · have hd : decide (a ≤ x) = false := by simpa using hle
      rw [hd, Bool.false_and]
      go_enter Try.func13, Try.ntmps13
      go_wp2_with fail
      refine wp_region_quiet_below (by kernel_rfl) (by kernel_rfl) ?_
      repeat (first | go_big_quiet_step ((first | (go_at_call 25; exact Ret.q0 hC) | (go_at_call 49; exact RetS.q0 hS))) | quiet_step ((first | (go_at_call 25; exact Ret.q0 hC) | (go_at_call 49; exact RetS.q0 hS))))
      refine wpQuiet_nil ?_
      intro wq hq'
      have hq := below_of_regrown hq'
      clear hq'
      go_wp2_with fail
      go_ret
      exact ⟨by rfl, below_trans ((Below.refl _ _).alloc (Nat.le_refl _) _) hq⟩
  · have hc : (chk p == 0) = false := by have := mt (chk_eq p).1 hg; simpa using this
    rw [inB_no x p hg]
    obtain ⟨a, b⟩ := p
    clear hg
    have k := new2 w (.int .u32 a) (.int .i64 b) 26
    have k0 := cell_regrown k.1
    have k1 := cell_regrown k.2
    clear k
    go_enter Try.func13, Try.ntmps13
    go_wp2_with fail
    refine wp_region_quiet_below (by kernel_rfl) (by kernel_rfl) ?_
    repeat (first | go_big_quiet_step ((first | (go_at_call 25; exact Ret.q0 hC))) | quiet_step ((first | (go_at_call 25; exact Ret.q0 hC))))
    refine wpQuiet_nil ?_
    intro wq hq'
    have hq := below_of_regrown hq'
    clear hq'
    go_wp2_with fail
    go_ret
    exact ⟨rfl, below_trans ((Below.refl _ _).alloc (Nat.le_refl _) _) hq⟩

/-- Two boxes, behind a call. -/
theorem box2 {w w1 : World} {a b c d : Value} {t : TypeId} (hb : Below ((w.alloc (.cells #[a, b] t)).alloc (.cells #[c, d] t)).heap.size ((w.alloc (.cells #[a, b] t)).alloc (.cells #[c, d] t)) w1) :
    Below w.heap.size w w1 ∧ w.heap.size + 2 ≤ w1.heap.size ∧ w1.cell? ⟨w.heap.size, 0, none⟩ = some a ∧ w1.cell? ⟨w.heap.size, 1, none⟩ = some b ∧ w1.cell? ⟨w.heap.size + 1, 0, none⟩ = some c ∧ w1.cell? ⟨w.heap.size + 1, 1, none⟩ = some d := by
  have hs := hb.size
  simp at hs
  refine ⟨below_trans (((Below.refl _ _).alloc (Nat.le_refl _) _).alloc (by simp) _) hb, by omega, ?_, ?_, ?_, ?_⟩
  · rw [hb.cell (by simp; omega)]; simp
  · rw [hb.cell (by simp; omega)]; simp
  · rw [hb.cell (by simp)]; simp
  · rw [hb.cell (by simp)]; simp

set_option maxHeartbeats 400000 in
theorem within_any (p q : Pfx) (w : World) (hp : p.ok) (hq : q.ok) : Calls Try.prog 47 #[p.v, q.v] w (Ret w (.bool (withinB p q))) := by
  have hC := fun W => check_any p W hp
  by_cases hg : good p
  · have hc : chk p = 0 := (chk_eq p).2 hg
    rw [hc] at hC
    have hI := fun W => in_any p.a q W hq hp.1 hp.2.1
    have hW : withinB p q = (decide (q.b ≤ p.b) && inB p.a q) := by unfold withinB; simp [hg]
    obtain ⟨a, b⟩ := p
    obtain ⟨c, d⟩ := q
    dsimp only at *
    rw [hW]; clear hW hc hg
    by_cases hle : d ≤ b
    · have hd : decide (d ≤ b) = true := by simpa using hle
      rw [hd, Bool.true_and]; clear hd
      go_enter Try.func47, Try.ntmps47
      go_wp2_with fail
      refine (hC _).mono ?_
      rintro e w1 ⟨rfl, hb1⟩
      obtain ⟨hB, hs, c0, c1, c2, c3⟩ := box2 hb1
      go_wp2_with fail
      refine (hI _).mono ?_
      rintro e w2 ⟨rfl, hb2⟩
      go_wp2_with fail
      go_ret
      exact ⟨rfl, below_trans hB hb2⟩
    · have hd : decide (d ≤ b) = false := by simpa using hle
      rw [hd, Bool.false_and]; clear hd
      go_enter Try.func47, Try.ntmps47
      go_wp2_with fail
      refine (hC _).mono ?_
      rintro e w1 ⟨rfl, hb1⟩
      obtain ⟨hB, hs, c0, c1, c2, c3⟩ := box2 hb1
      go_wp2_with fail
      go_ret
      exact ⟨rfl, hB⟩
  · have hc : (chk p == 0) = false := by have := mt (chk_eq p).1 hg; simpa using this
    have hW : withinB p q = false := by unfold withinB; simp [hg]
    rw [hW]; clear hW
    obtain ⟨a, b⟩ := p
    obtain ⟨c, d⟩ := q
    clear hg
    go_enter Try.func47, Try.ntmps47
    go_wp2_with fail
    refine (hC _).mono ?_
    rintro e w1 ⟨rfl, hb1⟩
    obtain ⟨hB, hs, c0, c1, c2, c3⟩ := box2 hb1
    go_wp2_with fail
    go_ret
    exact ⟨rfl, hB⟩

/-! ### Compare, Or, Cmp -/
def cmpI (x y : Int) : Int := if x < y then -1 else if y < x then 1 else 0

set_option maxHeartbeats 400000 in
theorem compareA_any (x y : Int) (w : World) : Calls Try.prog 67 #[.int .u32 x, .int .u32 y] w (RetS w (.int .i64 (cmpI x y))) := by
  unfold cmpI
  by_cases h1 : x < y
  · rw [if_pos h1]
    go_enter Try.func67, Try.ntmps67
    go_wp2
    go_ret
    exact ⟨rfl, rfl⟩
  · rw [if_neg h1]
    by_cases h2 : y < x
    · rw [if_pos h2]
      go_enter Try.func67, Try.ntmps67
      go_wp2
      go_ret
      exact ⟨rfl, rfl⟩
    · rw [if_neg h2]
      go_enter Try.func67, Try.ntmps67
      go_wp2
      go_ret
      exact ⟨rfl, rfl⟩
set_option maxHeartbeats 400000 in
theorem compareI_any (x y : Int) (w : World) : Calls Try.prog 68 #[.int .i64 x, .int .i64 y] w (RetS w (.int .i64 (cmpI x y))) := by
  unfold cmpI
  by_cases h1 : x < y
  · rw [if_pos h1]
    go_enter Try.func68, Try.ntmps68
    go_wp2
    go_ret
    exact ⟨rfl, rfl⟩
  · rw [if_neg h1]
    by_cases h2 : y < x
    · rw [if_pos h2]
      go_enter Try.func68, Try.ntmps68
      go_wp2
      go_ret
      exact ⟨rfl, rfl⟩
    · rw [if_neg h2]
      go_enter Try.func68, Try.ntmps68
      go_wp2
      go_ret
      exact ⟨rfl, rfl⟩
set_option maxHeartbeats 400000 in
/-- cmp.Or of two numbers. -/
theorem or2_any (x y : Int) (b : Nat) (w : World) (h0 : w.cell? ⟨b, 0, none⟩ = some (.int .i64 x)) (h1 : w.cell? ⟨b, 1, none⟩ = some (.int .i64 y)) :
    Calls Try.prog 66 #[.slice (some ⟨b, 0, none⟩) 2 2] w (RetS w (.int .i64 (if x = 0 then y else x))) := by
  by_cases hx : x = 0
  · subst hx
    rw [if_pos rfl]
    by_cases hy : y = 0
    · subst hy
      go_enter Try.func66, Try.ntmps66
      go_wp2
      refine wp_loop_rounds 3 ?_
      rw [rounds_succ]; go_wp2
      rw [rounds_succ]; go_wp2
      rw [rounds_succ]; go_wp2
      go_ret
      exact ⟨rfl, rfl⟩
    · have hB : (y != 0) = true := by simpa using hy
      go_enter Try.func66, Try.ntmps66
      go_wp2
      refine wp_loop_rounds 3 ?_
      rw [rounds_succ]; go_wp2
      rw [rounds_succ]; go_wp2
      go_ret
      exact ⟨rfl, rfl⟩
  · rw [if_neg hx]
    have hB : (x != 0) = true := by simpa using hx
    go_enter Try.func66, Try.ntmps66
    go_wp2
    refine wp_loop_rounds 3 ?_
    rw [rounds_succ]; go_wp2
    go_ret
    exact ⟨rfl, rfl⟩
theorem or2_to (x y r : Int) (b : Nat) (w : World) (hr : Hid ((if x = 0 then y else x) = r)) (h0 : w.cell? ⟨b, 0, none⟩ = some (.int .i64 x)) (h1 : w.cell? ⟨b, 1, none⟩ = some (.int .i64 y)) :
    Calls Try.prog 66 #[.slice (some ⟨b, 0, none⟩) 2 2] w (RetS w (.int .i64 r)) := by
  have h := or2_any x y b w h0 h1
  rw [hr.out] at h
  exact h
end Go.Proofs.Ytaecjmjdhbjbkaa

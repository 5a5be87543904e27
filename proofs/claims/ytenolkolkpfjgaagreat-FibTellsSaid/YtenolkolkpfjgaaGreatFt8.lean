/-
  Texts of a proof, one behind the other (part 9).
-/
import Derived.Test.YtenolkolkpfjgaaGreatRows
import Derived.StillTailTactics
import Derived.Deep.RegionHeld3
import Derived.Shelf.SlGeneric
import Derived.Shelf.SlSortCmp.WholeK
import Derived.Shelf.Small.Bits
import Derived.Shelf.Strconv.Itoa0
import Derived.Test.YtenolkolkpfjgaaGreatProg
import Derived.Lib.BitFns
import Derived.Lib.Bytealg
import Derived.ArgAppend
import Derived.Deep.AppendLies
import Derived.Laws.CopyRow
import Derived.Test.YtenolkolkpfjgaaGreatFt1
import Derived.Test.YtenolkolkpfjgaaGreatFt2
import Derived.Test.YtenolkolkpfjgaaGreatFt5
import Derived.Test.YtenolkolkpfjgaaGreatFt7
set_option linter.unusedVariables false
set_option linter.unusedSimpArgs false
namespace Go.Proofs.YtenolkolkpfjgaaGreat
set_option linter.unusedVariables false
open Go.RowKit Go.Sort

abbrev Pfx.v (p : Pfx) : Value := .agg #[.int .u32 p.a, .int .i64 p.b]

set_option maxHeartbeats 400000 in
theorem behind_any (n : Int) (w : World) (h0 : 0 ≤ n) (h1 : n ≤ 32) : Calls Tryz.prog 45 #[.int .i64 n] w (RetS w (.int .u32 (sz n - 1))) := by
  go_enter Tryz.func45, Tryz.ntmps45
  go_wp2
  go_ret
  refine ⟨ret_int ?_, rfl⟩
  have h2 := sz_pos n
  have h3 := sz_le n h0
  have e : (2 : Int) ^ (32 - n).toNat = sz n := rfl
  simp only [IntKind.wrap, IntKind.bits, IntKind.signed]
  rw [e]; simp; omega

set_option maxHeartbeats 400000 in
theorem size_any (n : Int) (w : World) (h0 : 0 ≤ n) (h1 : n ≤ 32) : Calls Tryz.prog 39 #[.int .i64 n] w (RetS w (.int .u64 (sz n))) := by
  go_enter Tryz.func39, Tryz.ntmps39
  go_wp2
  go_loop [3, 4] (fun o i => ∃ (k : Int) (x : Int), n ≤ k ∧ k ≤ 32 ∧ i = .int .i64 k ∧ o = .int .u64 x ∧ 0 ≤ x ∧ x ≤ 4294967296 ∧ Hid (x * sz k = sz n)) (fun _ i => (32 - intOf i).toNat)
  case atStart => exact ⟨n, 1, by omega, h1, rfl, rfl, by omega, by omega, Int.one_mul _⟩
  case round =>
    obtain ⟨k, x, hk, hk2, rfl, rfl, hx0, hx1, H⟩ := hrel
    by_cases hlt : k < 32
    · go_wp2
      go_round
      case rel =>
        have h := sz_step n k x hlt h0 hx0 H.out
        exact ⟨k + 1, 2 * x, by omega, by omega, rfl, rfl, by omega, h.2, h.1⟩
      case measure => simp [intOf]; omega
    · obtain rfl : k = 32 := by omega
      go_wp2
      go_ret
      refine ⟨ret_int ?_, rfl⟩
      have h := H.out
      rw [sz_32] at h; omega

theorem andNot_u32 (x n : Int) (h0 : 0 ≤ n) (h1 : n ≤ 32) (x0 : 0 ≤ x) (x1 : x < 4294967296) : bits .andNot .u32 x (sz n - 1) = x / sz n * sz n := by
  have h2 := sz_pos n
  have h3 := sz_le n h0
  rw [u32_andNot _ _ x0 x1 (by omega) (by omega)]
  obtain ⟨a, rfl⟩ := Int.eq_ofNat_of_zero_le x0
  have e : (sz n - 1).toNat = 2 ^ (32 - n).toNat - 1 := by rw [sz_nat]; omega
  rw [e, Int.toNat_natCast, andNot_low a _ (by omega) (by omega), sz_nat]
  simp
theorem and_u32 (x n : Int) (h0 : 0 ≤ n) (x0 : 0 ≤ x) (x1 : x < 4294967296) : bits .and .u32 x (sz n - 1) = x % sz n := by
  have h2 := sz_pos n
  have h3 := sz_le n h0
  rw [u32_and _ _ x0 x1 (by omega) (by omega)]
  obtain ⟨a, rfl⟩ := Int.eq_ofNat_of_zero_le x0
  have e : (sz n - 1).toNat = 2 ^ (32 - n).toNat - 1 := by rw [sz_nat]; omega
  rw [e, Int.toNat_natCast, and_low a, sz_nat]
  simp

set_option maxHeartbeats 400000 in
theorem addrSubnet_any (x n : Int) (w : World) (h0 : 0 ≤ n) (h1 : n ≤ 32) (x0 : 0 ≤ x) (x1 : x < 4294967296) :
    Calls Tryz.prog 55 #[.int .u32 x, .int .i64 n] w (Ret w (.tuple #[(sub x n).v, .int .i64 0])) := by
  have hbit := andNot_u32 x n h0 h1 x0 x1
  go_enter Tryz.func55, Tryz.ntmps55
  go_wp2_with (go_at_call 45; refine (behind_any _ _ (by omega) (by omega)).mono ?_; rintro e w' ⟨rfl, rfl⟩)
  refine bodyPost_ret (v := .tuple #[(sub x n).v, .int .i64 0]) (by simp [results, Tryz.results55, go_sem, sub]) rfl ⟨rfl, (Below.refl _ _).alloc (Nat.le_refl _) _⟩

set_option maxHeartbeats 400000 in
theorem check_any (p : Pfx) (w : World) (hp : p.ok) : Calls Tryz.prog 32 #[p.v] w (Ret w (.int .i64 (chk p))) := by
  obtain ⟨a, b⟩ := p
  obtain ⟨a0, a1, b0, b1⟩ := hp
  dsimp only at a0 a1 b0 b1
  by_cases hb : b < 0 ∨ 32 < b
  · have hc : chk ⟨a, b⟩ = 1 := if_pos hb
    rw [hc]; clear hc
    rcases hb with hb | hb
    · go_enter Tryz.func32, Tryz.ntmps32
      go_wp2_with fail
      go_ret
      exact ⟨rfl, (Below.refl _ _).alloc (Nat.le_refl _) _⟩
    · have hb' : ¬ b < 0 := by omega
      go_enter Tryz.func32, Tryz.ntmps32
      go_wp2_with fail
      go_ret
      exact ⟨rfl, (Below.refl _ _).alloc (Nat.le_refl _) _⟩
  · have h0 : 0 ≤ b := by omega
    have h1 : b ≤ 32 := by omega
    have hbit := and_u32 a b h0 a0 a1
    have hc : chk ⟨a, b⟩ = if a % sz b = 0 then 0 else 10 := if_neg hb
    rw [hc]; clear hc hb
    by_cases hm : a % sz b = 0
    · rw [if_pos hm]
      have hB : (bits .and .u32 a (sz b - 1) != 0) = false := by rw [hbit, hm]; rfl
      clear hbit hm
      go_enter Tryz.func32, Tryz.ntmps32
      go_wp2_with fail
      go_quiet ((go_at_call 45; exact RetS.d (behind_any _ _ h0 h1)))
      go_wp2_with fail
      go_ret
      exact ⟨rfl, below_drewN ((Below.refl _ _).alloc (Nat.le_refl _) _) _⟩
    · rw [if_neg hm]
      have hB : (bits .and .u32 a (sz b - 1) != 0) = true := by rw [hbit]; simpa using hm
      clear hbit hm
      go_enter Tryz.func32, Tryz.ntmps32
      go_wp2_with fail
      go_quiet ((go_at_call 45; exact RetS.d (behind_any _ _ h0 h1)))
      go_wp2_with fail
      go_ret
      exact ⟨rfl, below_drewN ((Below.refl _ _).alloc (Nat.le_refl _) _) _⟩
set_option maxHeartbeats 400000 in
theorem refCheck_any (p : Pfx) (w : World) (hp : p.ok) : Calls Tryz.prog 29 #[p.v] w (Ret w (.int .i64 (chk p))) := by
  obtain ⟨a, b⟩ := p
  obtain ⟨a0, a1, b0, b1⟩ := hp
  dsimp only at a0 a1 b0 b1
  by_cases hb : b < 0 ∨ 32 < b
  · have hc : chk ⟨a, b⟩ = 1 := if_pos hb
    rw [hc]; clear hc
    rcases hb with hb | hb
    · go_enter Tryz.func29, Tryz.ntmps29
      go_wp2_with fail
      go_ret
      exact ⟨rfl, (Below.refl _ _).alloc (Nat.le_refl _) _⟩
    · have hb' : ¬ b < 0 := by omega
      go_enter Tryz.func29, Tryz.ntmps29
      go_wp2_with fail
      go_ret
      exact ⟨rfl, (Below.refl _ _).alloc (Nat.le_refl _) _⟩
  · have h0 : 0 ≤ b := by omega
    have h1 : b ≤ 32 := by omega
    have hp := sz_pos b
    have hz : ¬ sz b = 0 := by omega
    have e1 : IntKind.u64.wrap a = a := by simp [IntKind.wrap, IntKind.bits, IntKind.signed]; omega
    have e2 : a.tmod (sz b) = a % sz b := Int.tmod_eq_emod_of_nonneg a0
    have hc : chk ⟨a, b⟩ = if a % sz b = 0 then 0 else 10 := if_neg hb
    rw [hc]; clear hc hb
    by_cases hm : a % sz b = 0
    · rw [if_pos hm]
      have hB : (a % sz b != 0) = false := by rw [hm]; rfl
      clear hm e2
      go_enter Tryz.func29, Tryz.ntmps29
      go_wp2_with fail
      go_quiet ((go_at_call 39; exact RetS.d (size_any _ _ h0 h1)))
      go_wp2_with fail
      go_ret
      exact ⟨rfl, below_drewN ((Below.refl _ _).alloc (Nat.le_refl _) _) _⟩
    · rw [if_neg hm]
      have hB : (a % sz b != 0) = true := by simpa using hm
      clear hm e2
      go_enter Tryz.func29, Tryz.ntmps29
      go_wp2_with fail
      go_quiet ((go_at_call 39; exact RetS.d (size_any _ _ h0 h1)))
      go_wp2_with fail
      go_ret
      exact ⟨rfl, below_drewN ((Below.refl _ _).alloc (Nat.le_refl _) _) _⟩

theorem new2 (w : World) (u v : Value) (t : TypeId) : (w.alloc (.cells #[u, v] t)).cell? ⟨w.heap.size, 0, none⟩ = some u ∧ (w.alloc (.cells #[u, v] t)).cell? ⟨w.heap.size, 1, none⟩ = some v := by
  constructor <;> simp

end Go.Proofs.YtenolkolkpfjgaaGreat

namespace Go.Proofs.YtenolkolkpfjgaaGreat
set_option linter.unusedVariables false
open Go.RowKit Go.Sort

set_option maxHeartbeats 400000 in
theorem refIn_any (x : Int) (p : Pfx) (w : World) (hp : p.ok) (x0 : 0 ≤ x) (x1 : x < 4294967296) : Calls Tryz.prog 25 #[.int .u32 x, p.v] w (Ret w (.bool (inB x p))) := by
  have hC := fun W => refCheck_any p W hp
  by_cases hg : good p
  · have hc : chk p = 0 := (chk_eq p).2 hg
    have hS := fun W => size_any p.b W hg.1 hg.2.1
    rw [hc] at hC
    have hp0 := sz_pos p.b
    have hI : inB x p = (decide (p.a ≤ x) && decide (x < p.a + sz p.b)) := by unfold inB; simp [hg]
    obtain ⟨a, b⟩ := p
    obtain ⟨a0, a1, b0, b1⟩ := hp
    clear hc hg
    dsimp only at *
    rw [hI]; clear hI
    have k := new2 w (.int .u32 a) (.int .i64 b) 39
    have k0 := cell_regrown k.1
    have k1 := cell_regrown k.2
    clear k
    have e1 : IntKind.u64.wrap x = x := by simp [IntKind.wrap, IntKind.bits, IntKind.signed]; omega
    have e2 : IntKind.u64.wrap a = a := by simp [IntKind.wrap, IntKind.bits, IntKind.signed]; omega
    by_cases hle : a ≤ x
    · have hd : decide (a ≤ x) = true := by simpa using hle
      have e3 : IntKind.u64.wrap (x - a) = x - a := by simp [IntKind.wrap, IntKind.bits, IntKind.signed]; omega
      have e4 : decide (x < a + sz b) = decide (x - a < sz b) := by rw [decide_eq_decide]; omega
      rw [hd, Bool.true_and, e4]; clear e4
      go_enter Tryz.func25, Tryz.ntmps25
      go_wp2_with fail
      refine wp_region_quiet_below (by kernel_rfl) (by kernel_rfl) ?_
      repeat (first | go_big_quiet_step ((first | (go_at_call 29; exact Ret.q0 hC) | (go_at_call 39; exact RetS.q0 hS))) | quiet_step ((first | (go_at_call 29; exact Ret.q0 hC) | (go_at_call 39; exact RetS.q0 hS))))
      refine wpQuiet_nil ?_
      intro wq hq'
      have hq := below_of_regrown hq'
      clear hq'
      go_wp2_with fail
      go_ret
      exact ⟨by rfl, below_trans ((Below.refl _ _).alloc (Nat.le_refl _) _) hq⟩
    · have hd : decide (a ≤ x) = false := by simpa using hle
      rw [hd, Bool.false_and]
      go_enter Tryz.func25, Tryz.ntmps25
      go_wp2_with fail
      refine wp_region_quiet_below (by kernel_rfl) (by kernel_rfl) ?_
      repeat (first | go_big_quiet_step ((first | (go_at_call 29; exact Ret.q0 hC) | (go_at_call 39; exact RetS.q0 hS))) | quiet_step ((first | (go_at_call 29; exact Ret.q0 hC) | (go_at_call 39; exact RetS.q0 hS))))
      refine wpQuiet_nil ?_
      intro wq hq'
      have hq := below_of_regrown hq'
      clear hq'
      go_wp2_with fail
      go_ret
      exact ⟨by rfl, below_trans ((Below.refl _ _).alloc (Nat.le_refl _) _) hq⟩
  · have hc : (chk p == 0) = false := by have := mt (chk_eq p).1 hg; simpa using this
    rw [inB_no x p hg]
    obtain ⟨a, b⟩ := p
    clear hg
    have k := new2 w (.int .u32 a) (.int .i64 b) 39
    have k0 := cell_regrown k.1
    have k1 := cell_regrown k.2
    clear k
    go_enter Tryz.func25, Tryz.ntmps25
    go_wp2_with fail
    refine wp_region_quiet_below (by kernel_rfl) (by kernel_rfl) ?_
    repeat (first | go_big_quiet_step ((first | (go_at_call 29; exact Ret.q0 hC))) | quiet_step ((first | (go_at_call 29; exact Ret.q0 hC))))
    refine wpQuiet_nil ?_
    intro wq hq'
    have hq := below_of_regrown hq'
    clear hq'
    go_wp2_with fail
    go_ret
    exact ⟨rfl, below_trans ((Below.refl _ _).alloc (Nat.le_refl _) _) hq⟩

def cmpI (x y : Int) : Int := if x < y then -1 else if y < x then 1 else 0

set_option maxHeartbeats 400000 in
theorem compareA_any (x y : Int) (w : World) : Calls Tryz.prog 49 #[.int .u32 x, .int .u32 y] w (RetS w (.int .i64 (cmpI x y))) := by
  unfold cmpI
  by_cases h1 : x < y
  · rw [if_pos h1]
    go_enter Tryz.func49, Tryz.ntmps49
    go_wp2
    go_ret
    exact ⟨rfl, rfl⟩
  · rw [if_neg h1]
    by_cases h2 : y < x
    · rw [if_pos h2]
      go_enter Tryz.func49, Tryz.ntmps49
      go_wp2
      go_ret
      exact ⟨rfl, rfl⟩
    · rw [if_neg h2]
      go_enter Tryz.func49, Tryz.ntmps49
      go_wp2
      go_ret
      exact ⟨rfl, rfl⟩
set_option maxHeartbeats 400000 in
theorem compareI_any (x y : Int) (w : World) : Calls Tryz.prog 50 #[.int .i64 x, .int .i64 y] w (RetS w (.int .i64 (cmpI x y))) := by
  unfold cmpI
  by_cases h1 : x < y
  · rw [if_pos h1]
    go_enter Tryz.func50, Tryz.ntmps50
    go_wp2
    go_ret
    exact ⟨rfl, rfl⟩
  · rw [if_neg h1]
    by_cases h2 : y < x
    · rw [if_pos h2]
      go_enter Tryz.func50, Tryz.ntmps50
      go_wp2
      go_ret
      exact ⟨rfl, rfl⟩
    · rw [if_neg h2]
      go_enter Tryz.func50, Tryz.ntmps50
      go_wp2
      go_ret
      exact ⟨rfl, rfl⟩
set_option maxHeartbeats 400000 in
theorem or2_any (x y : Int) (b : Nat) (w : World) (h0 : w.cell? ⟨b, 0, none⟩ = some (.int .i64 x)) (h1 : w.cell? ⟨b, 1, none⟩ = some (.int .i64 y)) :
    Calls Tryz.prog 48 #[.slice (some ⟨b, 0, none⟩) 2 2] w (RetS w (.int .i64 (if x = 0 then y else x))) := by
  by_cases hx : x = 0
  · subst hx
    rw [if_pos rfl]
    by_cases hy : y = 0
    · subst hy
      go_enter Tryz.func48, Tryz.ntmps48
      go_wp2
      refine wp_loop_rounds 3 ?_
      rw [rounds_succ]; go_wp2
      rw [rounds_succ]; go_wp2
      rw [rounds_succ]; go_wp2
      go_ret
      exact ⟨rfl, rfl⟩
    · have hB : (y != 0) = true := by simpa using hy
      go_enter Tryz.func48, Tryz.ntmps48
      go_wp2
      refine wp_loop_rounds 3 ?_
      rw [rounds_succ]; go_wp2
      rw [rounds_succ]; go_wp2
      go_ret
      exact ⟨rfl, rfl⟩
  · rw [if_neg hx]
    have hB : (x != 0) = true := by simpa using hx
    go_enter Tryz.func48, Tryz.ntmps48
    go_wp2
    refine wp_loop_rounds 3 ?_
    rw [rounds_succ]; go_wp2
    go_ret
    exact ⟨rfl, rfl⟩
theorem or2_to (x y r : Int) (b : Nat) (w : World) (hr : Hid ((if x = 0 then y else x) = r)) (h0 : w.cell? ⟨b, 0, none⟩ = some (.int .i64 x)) (h1 : w.cell? ⟨b, 1, none⟩ = some (.int .i64 y)) :
    Calls Tryz.prog 48 #[.slice (some ⟨b, 0, none⟩) 2 2] w (RetS w (.int .i64 r)) := by
  have h := or2_any x y b w h0 h1
  rw [hr.out] at h
  exact h
end Go.Proofs.YtenolkolkpfjgaaGreat

namespace Go.Proofs
open Go.Shelf
def Tryz.sortPrefix_ren : Go.Shelf.Ren := ⟨fun | 6 => 33 | 15 => 47 | 14 => 46 | 28 => 73 | 29 => 74 | 20 => 65 | 21 => 66 | 22 => 67 | 23 => 68 | 24 => 69 | 25 => 70 | 26 => 71 | 27 => 72 | 46 => 84 | 47 => 85 | 48 => 86 | 49 => 87 | 50 => 88 | 57 => 103 | n => n, fun | 22 => 25 | 24 => 39 | 25 => 80 | 3 => 3 | 39 => 98 | 0 => 0 | 53 => 36 | 55 => 88 | 4 => 4 | 46 => 119 | 45 => 118 | 50 => 123 | 5 => 5 | 9 => 9 | 66 => 133 | 70 => 137 | 76 => 146 | 77 => 147 | n => n, fun | n => n⟩
theorem Tryz.sortPrefix : Go.Proofs.SlLaysF0.n6 Tryz.prog Tryz.sortPrefix_ren := {
  mixed := by kernel_rfl
  f6 := ⟨Tryz.f33.name, by decide, Tryz.func33.trans (congrArg some (by kernel_rfl))⟩
  f14 := ⟨Tryz.f46.name, by decide, Tryz.func46.trans (congrArg some (by kernel_rfl))⟩
  f15 := Tryz.func47.trans (congrArg some (by kernel_rfl))
  f20 := ⟨Tryz.f65.name, by decide, Tryz.func65.trans (congrArg some (by kernel_rfl))⟩
  f21 := ⟨Tryz.f66.name, by decide, Tryz.func66.trans (congrArg some (by kernel_rfl))⟩
  f22 := ⟨Tryz.f67.name, by decide, Tryz.func67.trans (congrArg some (by kernel_rfl))⟩
  f23 := ⟨Tryz.f68.name, by decide, Tryz.func68.trans (congrArg some (by kernel_rfl))⟩
  f24 := ⟨Tryz.f69.name, by decide, Tryz.func69.trans (congrArg some (by kernel_rfl))⟩
  f25 := ⟨Tryz.f70.name, by decide, Tryz.func70.trans (congrArg some (by kernel_rfl))⟩
  f26 := ⟨Tryz.f71.name, by decide, Tryz.func71.trans (congrArg some (by kernel_rfl))⟩
  f27 := ⟨Tryz.f72.name, by decide, Tryz.func72.trans (congrArg some (by kernel_rfl))⟩
  f28 := Tryz.func73.trans (congrArg some (by kernel_rfl))
  f29 := Tryz.func74.trans (congrArg some (by kernel_rfl))
  f46 := ⟨Tryz.f84.name, by decide, Tryz.func84.trans (congrArg some (by kernel_rfl))⟩
  f47 := Tryz.func85.trans (congrArg some (by kernel_rfl))
  f48 := Tryz.func86.trans (congrArg some (by kernel_rfl))
  f49 := ⟨Tryz.f87.name, by decide, Tryz.func87.trans (congrArg some (by kernel_rfl))⟩
  f50 := ⟨Tryz.f88.name, by decide, Tryz.func88.trans (congrArg some (by kernel_rfl))⟩
  f57 := ⟨Tryz.f103.name, by decide, Tryz.func103.trans (congrArg some (by kernel_rfl))⟩
  t0 := Tryz.underlying0
  a0 := Tryz.isAgg0
  z0 := Tryz.sizeOf0
  v0 := Tryz.zeroValue0
  t3 := Tryz.underlying3
  a3 := Tryz.isAgg3
  z3 := Tryz.sizeOf3
  v3 := Tryz.zeroValue3
  t4 := Tryz.underlying4
  a4 := Tryz.isAgg4
  z4 := Tryz.sizeOf4
  v4 := Tryz.zeroValue4
  t5 := Tryz.underlying5
  a5 := Tryz.isAgg5
  z5 := Tryz.sizeOf5
  v5 := Tryz.zeroValue5
  t9 := Tryz.underlying9
  a9 := Tryz.isAgg9
  z9 := Tryz.sizeOf9
  v9 := Tryz.zeroValue9
  t22 := Tryz.underlying25
  a22 := Tryz.isAgg25
  z22 := Tryz.sizeOf25
  v22 := Tryz.zeroValue25
  t25 := Tryz.underlying80
  a25 := Tryz.isAgg80
  z25 := Tryz.sizeOf80
  v25 := Tryz.zeroValue80
  t39 := Tryz.underlying98
  a39 := Tryz.isAgg98
  z39 := Tryz.sizeOf98
  v39 := Tryz.zeroValue98
  t45 := Tryz.underlying118
  a45 := Tryz.isAgg118
  z45 := Tryz.sizeOf118
  v45 := Tryz.zeroValue118
  t46 := Tryz.underlying119
  a46 := Tryz.isAgg119
  z46 := Tryz.sizeOf119
  v46 := Tryz.zeroValue119
  t50 := Tryz.underlying123
  a50 := Tryz.isAgg123
  z50 := Tryz.sizeOf123
  v50 := Tryz.zeroValue123
  t53 := Tryz.underlying36
  a53 := Tryz.isAgg36
  z53 := Tryz.sizeOf36
  v53 := Tryz.zeroValue36
  t55 := Tryz.underlying88
  a55 := Tryz.isAgg88
  z55 := Tryz.sizeOf88
  v55 := Tryz.zeroValue88
  t66 := Tryz.underlying133
  a66 := Tryz.isAgg133
  z66 := Tryz.sizeOf133
  v66 := Tryz.zeroValue133
  t70 := Tryz.underlying137
  a70 := Tryz.isAgg137
  z70 := Tryz.sizeOf137
  v70 := Tryz.zeroValue137
  t76 := Tryz.underlying146
  a76 := Tryz.isAgg146
  z76 := Tryz.sizeOf146
  v76 := Tryz.zeroValue146
  t77 := Tryz.underlying147
  a77 := Tryz.isAgg147
  z77 := Tryz.sizeOf147
  v77 := Tryz.zeroValue147 }
def Tryz.sortRoute_ren : Go.Shelf.Ren := ⟨fun | 6 => 81 | 15 => 47 | 14 => 98 | 28 => 73 | 29 => 74 | 20 => 107 | 21 => 108 | 22 => 109 | 23 => 110 | 24 => 111 | 25 => 112 | 26 => 113 | 27 => 114 | 46 => 118 | 47 => 85 | 48 => 86 | 49 => 119 | 50 => 120 | 57 => 121 | n => n, fun | 22 => 22 | 24 => 41 | 25 => 93 | 3 => 3 | 39 => 98 | 0 => 0 | 53 => 36 | 55 => 88 | 4 => 4 | 46 => 119 | 45 => 118 | 50 => 123 | 5 => 5 | 9 => 9 | 66 => 133 | 70 => 137 | 76 => 146 | 77 => 147 | n => n, fun | n => n⟩
theorem Tryz.sortRoute : Go.Proofs.SlLaysF0.n6 Tryz.prog Tryz.sortRoute_ren := {
  mixed := by kernel_rfl
  f6 := ⟨Tryz.f81.name, by decide, Tryz.func81.trans (congrArg some (by kernel_rfl))⟩
  f14 := ⟨Tryz.f98.name, by decide, Tryz.func98.trans (congrArg some (by kernel_rfl))⟩
  f15 := Tryz.func47.trans (congrArg some (by kernel_rfl))
  f20 := ⟨Tryz.f107.name, by decide, Tryz.func107.trans (congrArg some (by kernel_rfl))⟩
  f21 := ⟨Tryz.f108.name, by decide, Tryz.func108.trans (congrArg some (by kernel_rfl))⟩
  f22 := ⟨Tryz.f109.name, by decide, Tryz.func109.trans (congrArg some (by kernel_rfl))⟩
  f23 := ⟨Tryz.f110.name, by decide, Tryz.func110.trans (congrArg some (by kernel_rfl))⟩
  f24 := ⟨Tryz.f111.name, by decide, Tryz.func111.trans (congrArg some (by kernel_rfl))⟩
  f25 := ⟨Tryz.f112.name, by decide, Tryz.func112.trans (congrArg some (by kernel_rfl))⟩
  f26 := ⟨Tryz.f113.name, by decide, Tryz.func113.trans (congrArg some (by kernel_rfl))⟩
  f27 := ⟨Tryz.f114.name, by decide, Tryz.func114.trans (congrArg some (by kernel_rfl))⟩
  f28 := Tryz.func73.trans (congrArg some (by kernel_rfl))
  f29 := Tryz.func74.trans (congrArg some (by kernel_rfl))
  f46 := ⟨Tryz.f118.name, by decide, Tryz.func118.trans (congrArg some (by kernel_rfl))⟩
  f47 := Tryz.func85.trans (congrArg some (by kernel_rfl))
  f48 := Tryz.func86.trans (congrArg some (by kernel_rfl))
  f49 := ⟨Tryz.f119.name, by decide, Tryz.func119.trans (congrArg some (by kernel_rfl))⟩
  f50 := ⟨Tryz.f120.name, by decide, Tryz.func120.trans (congrArg some (by kernel_rfl))⟩
  f57 := ⟨Tryz.f121.name, by decide, Tryz.func121.trans (congrArg some (by kernel_rfl))⟩
  t0 := Tryz.underlying0
  a0 := Tryz.isAgg0
  z0 := Tryz.sizeOf0
  v0 := Tryz.zeroValue0
  t3 := Tryz.underlying3
  a3 := Tryz.isAgg3
  z3 := Tryz.sizeOf3
  v3 := Tryz.zeroValue3
  t4 := Tryz.underlying4
  a4 := Tryz.isAgg4
  z4 := Tryz.sizeOf4
  v4 := Tryz.zeroValue4
  t5 := Tryz.underlying5
  a5 := Tryz.isAgg5
  z5 := Tryz.sizeOf5
  v5 := Tryz.zeroValue5
  t9 := Tryz.underlying9
  a9 := Tryz.isAgg9
  z9 := Tryz.sizeOf9
  v9 := Tryz.zeroValue9
  t22 := Tryz.underlying22
  a22 := Tryz.isAgg22
  z22 := Tryz.sizeOf22
  v22 := Tryz.zeroValue22
  t25 := Tryz.underlying93
  a25 := Tryz.isAgg93
  z25 := Tryz.sizeOf93
  v25 := Tryz.zeroValue93
  t39 := Tryz.underlying98
  a39 := Tryz.isAgg98
  z39 := Tryz.sizeOf98
  v39 := Tryz.zeroValue98
  t45 := Tryz.underlying118
  a45 := Tryz.isAgg118
  z45 := Tryz.sizeOf118
  v45 := Tryz.zeroValue118
  t46 := Tryz.underlying119
  a46 := Tryz.isAgg119
  z46 := Tryz.sizeOf119
  v46 := Tryz.zeroValue119
  t50 := Tryz.underlying123
  a50 := Tryz.isAgg123
  z50 := Tryz.sizeOf123
  v50 := Tryz.zeroValue123
  t53 := Tryz.underlying36
  a53 := Tryz.isAgg36
  z53 := Tryz.sizeOf36
  v53 := Tryz.zeroValue36
  t55 := Tryz.underlying88
  a55 := Tryz.isAgg88
  z55 := Tryz.sizeOf88
  v55 := Tryz.zeroValue88
  t66 := Tryz.underlying133
  a66 := Tryz.isAgg133
  z66 := Tryz.sizeOf133
  v66 := Tryz.zeroValue133
  t70 := Tryz.underlying137
  a70 := Tryz.isAgg137
  z70 := Tryz.sizeOf137
  v70 := Tryz.zeroValue137
  t76 := Tryz.underlying146
  a76 := Tryz.isAgg146
  z76 := Tryz.sizeOf146
  v76 := Tryz.zeroValue146
  t77 := Tryz.underlying147
  a77 := Tryz.isAgg147
  z77 := Tryz.sizeOf147
  v77 := Tryz.zeroValue147 }
def Tryz.sortHop_ren : Go.Shelf.Ren := ⟨fun | 6 => 51 | 15 => 47 | 14 => 77 | 28 => 73 | 29 => 74 | 20 => 89 | 21 => 90 | 22 => 91 | 23 => 92 | 24 => 93 | 25 => 94 | 26 => 95 | 27 => 96 | 46 => 104 | 47 => 85 | 48 => 86 | 49 => 105 | 50 => 106 | 57 => 117 | n => n, fun | 22 => 43 | 24 => 66 | 25 => 104 | 3 => 3 | 39 => 98 | 0 => 0 | 53 => 36 | 55 => 88 | 4 => 4 | 46 => 119 | 45 => 118 | 50 => 123 | 5 => 5 | 9 => 9 | 66 => 133 | 70 => 137 | 76 => 146 | 77 => 147 | n => n, fun | n => n⟩
theorem Tryz.sortHop : Go.Proofs.SlLaysF0.n6 Tryz.prog Tryz.sortHop_ren := {
  mixed := by kernel_rfl
  f6 := ⟨Tryz.f51.name, by decide, Tryz.func51.trans (congrArg some (by kernel_rfl))⟩
  f14 := ⟨Tryz.f77.name, by decide, Tryz.func77.trans (congrArg some (by kernel_rfl))⟩
  f15 := Tryz.func47.trans (congrArg some (by kernel_rfl))
  f20 := ⟨Tryz.f89.name, by decide, Tryz.func89.trans (congrArg some (by kernel_rfl))⟩
  f21 := ⟨Tryz.f90.name, by decide, Tryz.func90.trans (congrArg some (by kernel_rfl))⟩
  f22 := ⟨Tryz.f91.name, by decide, Tryz.func91.trans (congrArg some (by kernel_rfl))⟩
  f23 := ⟨Tryz.f92.name, by decide, Tryz.func92.trans (congrArg some (by kernel_rfl))⟩
  f24 := ⟨Tryz.f93.name, by decide, Tryz.func93.trans (congrArg some (by kernel_rfl))⟩
  f25 := ⟨Tryz.f94.name, by decide, Tryz.func94.trans (congrArg some (by kernel_rfl))⟩
  f26 := ⟨Tryz.f95.name, by decide, Tryz.func95.trans (congrArg some (by kernel_rfl))⟩
  f27 := ⟨Tryz.f96.name, by decide, Tryz.func96.trans (congrArg some (by kernel_rfl))⟩
  f28 := Tryz.func73.trans (congrArg some (by kernel_rfl))
  f29 := Tryz.func74.trans (congrArg some (by kernel_rfl))
  f46 := ⟨Tryz.f104.name, by decide, Tryz.func104.trans (congrArg some (by kernel_rfl))⟩
  f47 := Tryz.func85.trans (congrArg some (by kernel_rfl))
  f48 := Tryz.func86.trans (congrArg some (by kernel_rfl))
  f49 := ⟨Tryz.f105.name, by decide, Tryz.func105.trans (congrArg some (by kernel_rfl))⟩
  f50 := ⟨Tryz.f106.name, by decide, Tryz.func106.trans (congrArg some (by kernel_rfl))⟩
  f57 := ⟨Tryz.f117.name, by decide, Tryz.func117.trans (congrArg some (by kernel_rfl))⟩
  t0 := Tryz.underlying0
  a0 := Tryz.isAgg0
  z0 := Tryz.sizeOf0
  v0 := Tryz.zeroValue0
  t3 := Tryz.underlying3
  a3 := Tryz.isAgg3
  z3 := Tryz.sizeOf3
  v3 := Tryz.zeroValue3
  t4 := Tryz.underlying4
  a4 := Tryz.isAgg4
  z4 := Tryz.sizeOf4
  v4 := Tryz.zeroValue4
  t5 := Tryz.underlying5
  a5 := Tryz.isAgg5
  z5 := Tryz.sizeOf5
  v5 := Tryz.zeroValue5
  t9 := Tryz.underlying9
  a9 := Tryz.isAgg9
  z9 := Tryz.sizeOf9
  v9 := Tryz.zeroValue9
  t22 := Tryz.underlying43
  a22 := Tryz.isAgg43
  z22 := Tryz.sizeOf43
  v22 := Tryz.zeroValue43
  t25 := Tryz.underlying104
  a25 := Tryz.isAgg104
  z25 := Tryz.sizeOf104
  v25 := Tryz.zeroValue104
  t39 := Tryz.underlying98
  a39 := Tryz.isAgg98
  z39 := Tryz.sizeOf98
  v39 := Tryz.zeroValue98
  t45 := Tryz.underlying118
  a45 := Tryz.isAgg118
  z45 := Tryz.sizeOf118
  v45 := Tryz.zeroValue118
  t46 := Tryz.underlying119
  a46 := Tryz.isAgg119
  z46 := Tryz.sizeOf119
  v46 := Tryz.zeroValue119
  t50 := Tryz.underlying123
  a50 := Tryz.isAgg123
  z50 := Tryz.sizeOf123
  v50 := Tryz.zeroValue123
  t53 := Tryz.underlying36
  a53 := Tryz.isAgg36
  z53 := Tryz.sizeOf36
  v53 := Tryz.zeroValue36
  t55 := Tryz.underlying88
  a55 := Tryz.isAgg88
  z55 := Tryz.sizeOf88
  v55 := Tryz.zeroValue88
  t66 := Tryz.underlying133
  a66 := Tryz.isAgg133
  z66 := Tryz.sizeOf133
  v66 := Tryz.zeroValue133
  t70 := Tryz.underlying137
  a70 := Tryz.isAgg137
  z70 := Tryz.sizeOf137
  v70 := Tryz.zeroValue137
  t76 := Tryz.underlying146
  a76 := Tryz.isAgg146
  z76 := Tryz.sizeOf146
  v76 := Tryz.zeroValue146
  t77 := Tryz.underlying147
  a77 := Tryz.isAgg147
  z77 := Tryz.sizeOf147
  v77 := Tryz.zeroValue147 }
def Tryz.lays129_ren : Go.Shelf.Ren := ⟨fun | 129 => 74 | n => n, fun | 53 => 88 | 3 => 3 | 4 => 4 | 46 => 98 | 5 => 5 | 9 => 9 | n => n, fun | n => n⟩
def Tryz.lays125_ren : Go.Shelf.Ren := ⟨fun | 125 => 47 | 128 => 73 | 129 => 74 | n => n, fun | 46 => 98 | 3 => 3 | 51 => 36 | 53 => 88 | 4 => 4 | 5 => 5 | 9 => 9 | n => n, fun | n => n⟩
end Go.Proofs

namespace Go.Proofs.YtenolkolkpfjgaaGreat
set_option linter.unusedVariables false
open Go.RowKit Go.Sort

theorem cmpP_or (p q : Pfx) : (if cmpI p.a q.a = 0 then cmpI p.b q.b else cmpI p.a q.a) = cmpP p q := by
  obtain ⟨a, b⟩ := p
  obtain ⟨c, d⟩ := q
  unfold cmpP cmpI
  dsimp only
  by_cases h1 : a < c
  · simp [h1]
  · by_cases h2 : c < a
    · have : ¬ a = c := by omega
      simp [h1, h2, this]
    · have : a = c := by omega
      subst this
      by_cases h3 : b < d
      · simp [h3]
      · by_cases h4 : d < b
        · have : ¬ b = d := by omega
          simp [h3, h4, this]
        · have : b = d := by omega
          subst this
          simp

theorem alloc3_drew (w : World) (x y z : Obj) : (((w.alloc x).alloc y).alloc z).drew = grow (w.drewN 1) #[x, y, z] := by
  have e : ((w.heap.push x).push y).push z = w.heap ++ #[x, y, z] := by
    rw [Array.push_eq_append, Array.push_eq_append, Array.push_eq_append, Array.append_assoc, Array.append_assoc]; rfl
  show World.mk .. = World.mk ..
  simp only [World.alloc, World.drew, World.drewN, grow]
  simp only [e]

set_option maxHeartbeats 800000 in
theorem cmp_lays (p q : Pfx) (w : World) : Calls Tryz.prog 34 #[p.v, q.v] w (fun e w' => e = .returned (.int .i64 (cmpP p q)) ∧ ∃ n os, w' = grow (w.drewN n) os) := by
  have hr := cmpP_or p q
  obtain ⟨r, hR⟩ : ∃ r, r = cmpP p q := ⟨_, rfl⟩
  rw [← hR] at hr ⊢
  clear hR
  obtain ⟨a, b⟩ := p
  obtain ⟨c, d⟩ := q
  dsimp only at hr
  have HR := Lib.hid hr
  clear hr
  go_enter Tryz.func34, Tryz.ntmps34
  go_wp2_with fail
  go_region_held3 (fun w' => w'.cell? ⟨w.heap.size, 0, none⟩ = some (.int .u32 a) ∧ w'.cell? ⟨w.heap.size, 1, none⟩ = some (.int .i64 b) ∧ w'.cell? ⟨w.heap.size + 1, 0, none⟩ = some (.int .u32 c) ∧ w'.cell? ⟨w.heap.size + 1, 1, none⟩ = some (.int .i64 d)) (go_keep)
    (first | (go_at_call 49; refine (compareA_any a c _).mono ?_; rintro e w' ⟨rfl, rfl⟩) | (go_at_call 50; refine (compareI_any b d _).mono ?_; rintro e w' ⟨rfl, rfl⟩) | (go_at_call 48; refine (or2_to (cmpI a c) (cmpI b d) r _ _ HR ?_ ?_).mono ?_; (go_simp); (go_simp); rintro e w' ⟨rfl, rfl⟩))
  go_wp2_with fail
  go_ret
  exact ⟨rfl, 1, #[_, _, _], alloc3_drew _ _ _ _⟩
theorem below_grow (w : World) (n : Nat) (os : Array Obj) : Below w.heap.size w (grow (w.drewN n) os) := ⟨rfl, rfl, rfl, by simp [grow, World.drewN], fun k hk => by
  show (w.heap ++ os)[k]? = w.heap[k]?
  rw [Array.getElem?_append, if_pos hk]⟩
theorem cmp_any (p q : Pfx) (w : World) : Calls Tryz.prog 34 #[p.v, q.v] w (Ret w (.int .i64 (cmpP p q))) :=
  (cmp_lays p q w).mono fun _ _ ⟨he, n, os, hw⟩ => ⟨he, hw ▸ below_grow w n os⟩

end Go.Proofs.YtenolkolkpfjgaaGreat

namespace Go.Proofs.YtenolkolkpfjgaaGreat
set_option linter.unusedVariables false

def cb : Nat → Int → Int → Nat
  | 0, _, _ => 0
  | n + 1, x, y => if x / sz (n + 1 : Nat) = y / sz (n + 1 : Nat) then n + 1 else cb n x y
def commonP (p q : Pfx) : Pfx := sub p.a (cb (min p.b q.b).toNat p.a q.a)

end Go.Proofs.YtenolkolkpfjgaaGreat

namespace Go.Proofs.YtenolkolkpfjgaaGreat
set_option linter.unusedVariables false
open Go.RowKit Go.Sort

end Go.Proofs.YtenolkolkpfjgaaGreat

namespace Go.Proofs.YtenolkolkpfjgaaGreat
set_option linter.unusedVariables false
open Go.RowKit Go.Sort

theorem sub_zero (x : Int) (h0 : 0 ≤ x) (h1 : x < 4294967296) : sub x 0 = ⟨0, 0⟩ := by
  unfold sub
  rw [sz_0, Int.ediv_eq_zero_of_lt h0 h1]; rfl

end Go.Proofs.YtenolkolkpfjgaaGreat

namespace Go.Proofs.YtenolkolkpfjgaaGreat.Ab
set_option linter.unusedVariables false
open Go.RowKit

def intA (n : Int) : AVal := .d (.sc (.int .i64 n))
def boolA (b : Bool) : AVal := .d (.sc (.bool b))
def pfxD (p : Pfx) : List Dat := [.sc (.int .u32 p.a), .sc (.int .i64 p.b)]
theorem pfxD_len (p : Pfx) : (pfxD p).length = 2 := rfl
def pfxA (p : Pfx) : AVal := .agg [.d (.sc (.int .u32 p.a)), .d (.sc (.int .i64 p.b))]
def pfxsA (l : List Pfx) : AVal := .d (.sl (l.flatMap pfxD) l.length)
theorem pfxEq (x y : Pfx) : eqCells [.int .u32 x.a, .int .i64 x.b] [.int .u32 y.a, .int .i64 y.b] = some (x == y) := by
  obtain ⟨a, b⟩ := x
  obtain ⟨c, d⟩ := y
  simp only [eqCells, eqV, if_true, Bool.and_true, Option.some.injEq]
  rw [Bool.eq_iff_iff]
  simp [Pfx.mk.injEq]
theorem noStand : ∀ t, (tlook tab t).isSome = true → Tryz.prog.stoodInHeld t = false := by
  have h : tab.all (fun t _ => !Tryz.prog.stoodInHeld t) = true := by kernel_rfl
  intro t ht
  obtain ⟨te, hte⟩ := Option.isSome_iff_exists.1 ht
  simpa using TTab.of_all h hte
abbrev Just (c : AVal) : AVal → Heap → Prop := fun c' h' => c' = c ∧ h' = []

theorem refCheck_A (p : Pfx) (hp : p.ok) : ACall Tryz.prog 29 [pfxA p] [] (Just (intA (chk p))) := ACall_val (by kernel_rfl) rfl rfl rfl fun w => refCheck_any p w hp
theorem check_A (p : Pfx) (hp : p.ok) : ACall Tryz.prog 32 [pfxA p] [] (Just (intA (chk p))) := ACall_val (by kernel_rfl) rfl rfl rfl fun w => check_any p w hp
theorem refIn_A (x : Int) (p : Pfx) (hp : p.ok) (x0 : 0 ≤ x) (x1 : x < 4294967296) : ACall Tryz.prog 25 [.d (.sc (.int .u32 x)), pfxA p] [] (Just (boolA (inB x p))) := ACall_val (by kernel_rfl) rfl rfl rfl fun w => refIn_any x p w hp x0 x1
theorem cmp_A (p q : Pfx) : ACall Tryz.prog 34 [pfxA p, pfxA q] [] (Just (intA (cmpP p q))) := ACall_val (by kernel_rfl) rfl rfl rfl fun w => cmp_any p q w
end Go.Proofs.YtenolkolkpfjgaaGreat.Ab

namespace Go.Proofs.YtenolkolkpfjgaaGreat.Ab
set_option linter.unusedVariables false
set_option linter.unusedSimpArgs false
set_option maxRecDepth 100000
open Go.RowKit

def pfxV (p : Pfx) : Value := .agg #[.int .u32 p.a, .int .i64 p.b]
theorem pfxA_val (p : Pfx) : valA (pfxA p) = some (pfxV p) := rfl
theorem pfxA_rel (p : Pfx) (w : World) (F : Nat → Prop) (ι : Nat → Option Value) : VRel w F ι (pfxA p) (pfxV p) := val_mk _ _ _ _ _ rfl rfl
theorem chk_int (b : Bool) (n : Nat) (t : TypeId) (q : IntKind) (x : Int) (w : World) (ht : Tryz.prog.underlying t = some (.int q)) : (Instr.checkKey b (n + 1) t (.int q x)).run Tryz.prog w = .ok () w := by
  unfold Instr.checkKey
  simp [run_underlying ht]
theorem part_u32 (p : Pfx) (w : World) : (part 37 #[.int .u32 p.a, .int .i64 p.b] 0).run Tryz.prog w = .ok (.int .u32 p.a) w := by
  have h : tlook tab 37 = some _ := rfl
  unfold part
  simp [(tabOk _ _ h).run_agg]
theorem part_i64 (p : Pfx) (w : World) : (part 3 #[.int .u32 p.a, .int .i64 p.b] 1).run Tryz.prog w = .ok (.int .i64 p.b) w := by
  have h : tlook tab 3 = some _ := rfl
  unfold part
  simp [(tabOk _ _ h).run_agg]
theorem chk_pfx (b : Bool) (k : Pfx) (w : World) (n : Nat) : (Instr.checkKey b (n + 2) 39 (pfxV k)).run Tryz.prog w = .ok () w := by
  unfold Instr.checkKey
  simp [pfxV, run_underlying Tryz.underlying39, part_u32, part_i64, chk_int b n _ _ _ _ Tryz.underlying37, chk_int b n _ _ _ _ Tryz.underlying3]
theorem pfxKey : KeyLaw Tryz.prog 39 pfxV (fun _ => True) := by
  refine KeyLaw.of_agg Tryz.underlying39 (fun k => ⟨_, rfl⟩) ?_ ?_ ?_
  · intro b k w _
    exact chk_pfx b k w 9998
  · intro a b w _ _
    have h := run_eqLeafs tabOk noStand 8 39 _ [.int .u32 a.a, .int .i64 a.b] [.int .u32 b.a, .int .i64 b.b] _ 9999 _ w rfl rfl rfl rfl (pfxEq a b) (by omega)
    have e : (a == b) = decide (a = b) := by rw [Bool.eq_iff_iff]; simp
    rw [e] at h
    exact h
  · intro a _
    simp [Instr.sameBits, pfxV]
end Go.Proofs.YtenolkolkpfjgaaGreat.Ab

namespace Go.Proofs.YtenolkolkpfjgaaGreat
set_option linter.unusedVariables false
open Go.Lib

structure Good {α : Type} (c : α → α → Int) : Prop where
  anti : ∀ x y, c y x = - c x y
  trans : ∀ x y z, c x y ≤ 0 → c y z ≤ 0 → c x z ≤ 0
section
variable {α β : Type} {c d : α → α → Int}
theorem Good.refl (G : Good c) (x : α) : c x x = 0 := by have := G.anti x x; omega
theorem Good.lt_le (G : Good c) {x y z : α} (h1 : c x y < 0) (h2 : c y z ≤ 0) : c x z < 0 := by
  have h3 := G.trans x y z (by omega) h2
  rcases Int.lt_or_eq_of_le h3 with h4 | h4
  · exact h4
  · have h5 := G.anti x z
    have h6 := G.trans y z x h2 (by omega)
    have h7 := G.anti x y
    omega
theorem Good.le_lt (G : Good c) {x y z : α} (h1 : c x y ≤ 0) (h2 : c y z < 0) : c x z < 0 := by
  have h3 := G.trans x y z h1 (by omega)
  rcases Int.lt_or_eq_of_le h3 with h4 | h4
  · exact h4
  · have h5 := G.anti x z
    have h6 := G.trans z x y (by omega) h1
    have h7 := G.anti y z
    omega
theorem Good.lt_lt (G : Good c) {x y z : α} (h1 : c x y < 0) (h2 : c y z < 0) : c x z < 0 := G.lt_le h1 (by omega)
def lexc (c d : α → α → Int) : α → α → Int := fun x y => if c x y = 0 then d x y else c x y
theorem Good.lex (G : Good c) (H : Good d) : Good (lexc c d) := by
  refine ⟨fun x y => ?_, fun x y z h1 h2 => ?_⟩
  · unfold lexc
    have h := G.anti x y
    by_cases h0 : c x y = 0
    · rw [if_pos h0, if_pos (by omega)]; exact H.anti x y
    · rw [if_neg h0, if_neg (by omega)]; exact h
  · unfold lexc at *
    by_cases hxy : c x y = 0
    · rw [if_pos hxy] at h1
      by_cases hyz : c y z = 0
      · rw [if_pos hyz] at h2
        have e1 := G.trans x y z (by omega) (by omega)
        have e2 := G.anti x y
        have e3 := G.anti y z
        have e4 := G.trans z y x (by omega) (by omega)
        have e5 := G.anti x z
        rw [if_pos (by omega)]
        exact H.trans x y z h1 h2
      · rw [if_neg hyz] at h2
        have := G.le_lt (x := x) (y := y) (z := z) (by omega) (by omega)
        rw [if_neg (by omega)]; omega
    · rw [if_neg hxy] at h1
      have h3 : c y z ≤ 0 := by
        by_cases hyz : c y z = 0
        · omega
        · rw [if_neg hyz] at h2; exact h2
      have := G.lt_le (x := x) (y := y) (z := z) (by omega) h3
      rw [if_neg (by omega)]; omega
theorem Good.of (G : Good c) (g : β → α) : Good fun x y => c (g x) (g y) := ⟨fun x y => G.anti _ _, fun x y z => G.trans _ _ _⟩
theorem lexc_zero {x y : α} : lexc c d x y = 0 ↔ c x y = 0 ∧ d x y = 0 := by
  unfold lexc
  by_cases h : c x y = 0
  · rw [if_pos h]; exact ⟨fun h2 => ⟨h, h2⟩, fun h2 => h2.2⟩
  · rw [if_neg h]; exact ⟨fun h2 => absurd h2 h, fun h2 => absurd h2.1 h⟩
end
def c2 (x y : Int) : Int := if x < y then -1 else if y < x then 1 else 0
theorem good_c2 : Good c2 := ⟨fun x y => by unfold c2; split <;> split <;> omega, fun x y z h1 h2 => by unfold c2 at *; split at h1 <;> split at h2 <;> (try split at h1) <;> (try split at h2) <;> split <;> (try split) <;> omega⟩
theorem c2_zero {x y : Int} : c2 x y = 0 ↔ x = y := by unfold c2; split <;> (try split) <;> omega
theorem c2_gt {x y : Int} : 0 < c2 x y ↔ y < x := by unfold c2; split <;> (try split) <;> omega
def cB (x y : Bool) : Int := if x = y then 0 else if y then -1 else 1
theorem good_cB : Good cB := ⟨fun x y => by cases x <;> cases y <;> decide, fun x y z h1 h2 => by cases x <;> cases y <;> cases z <;> revert h1 h2 <;> decide⟩
theorem cB_zero {x y : Bool} : cB x y = 0 ↔ x = y := by cases x <;> cases y <;> decide
theorem good_bytes : Good compareBytes := by
  refine ⟨fun x => ?_, fun x => ?_⟩
  · induction x with
    | nil => intro y; cases y <;> simp [compareBytes]
    | cons a x ih =>
      intro y
      cases y with
      | nil => simp [compareBytes]
      | cons b y =>
        simp only [compareBytes]
        by_cases h1 : a < b
        · have h2 : ¬ b < a := fun h => by have := UInt8.lt_trans h1 h; exact UInt8.lt_irrefl _ this
          simp [h1, h2]
        · by_cases h2 : b < a
          · simp [h1, h2]
          · simp [h1, h2, ih y]
  · induction x with
    | nil => intro y z _ h2; cases z <;> simp [compareBytes]
    | cons a x ih =>
      intro y z h1 h2
      cases y with
      | nil => simp [compareBytes] at h1
      | cons b y =>
        cases z with
        | nil => simp [compareBytes] at h2
        | cons d z =>
          simp only [compareBytes] at *
          simp only [UInt8.lt_iff_toNat_lt] at *
          split at h1
          · split at h2
            · rw [if_pos (by omega)]; omega
            · split at h2
              · omega
              · rw [if_pos (by omega)]; omega
          · split at h1
            · omega
            · split at h2
              · rw [if_pos (by omega)]; omega
              · split at h2
                · omega
                · rw [if_neg (by omega), if_neg (by omega)]
                  exact ih y z h1 h2
theorem bytes_zero : ∀ {x y : List UInt8}, compareBytes x y = 0 ↔ x = y
  | [], [] => by simp [compareBytes]
  | [], _ :: _ => by simp [compareBytes]
  | _ :: _, [] => by simp [compareBytes]
  | a :: x, b :: y => by
    simp only [compareBytes, List.cons.injEq]
    split
    · rename_i h
      exact ⟨fun h2 => by omega, fun h2 => by rw [h2.1] at h; exact absurd h (UInt8.lt_irrefl _)⟩
    · split
      · rename_i h
        exact ⟨fun h2 => by omega, fun h2 => by rw [h2.1] at h; exact absurd h (UInt8.lt_irrefl _)⟩
      · rename_i h1 h2
        rw [bytes_zero]
        refine ⟨fun h => ⟨?_, h⟩, fun h => h.2⟩
        rw [UInt8.lt_iff_toNat_lt] at h1 h2
        exact UInt8.toNat_inj.1 (by omega)

section
variable {α : Type} {c : α → α → Int}
def Rising (c : α → α → Int) (l : List α) : Prop := l.Pairwise fun x y => c x y < 0
theorem rising_ext (G : Good c) : ∀ {l m : List α}, Rising c l → Rising c m → (∀ x, x ∈ l ↔ x ∈ m) → l = m
  | [], [], _, _, _ => rfl
  | [], b :: m, _, _, h => absurd ((h b).2 (List.mem_cons_self ..)) (by simp)
  | a :: l, [], _, _, h => absurd ((h a).1 (List.mem_cons_self ..)) (by simp)
  | a :: l, b :: m, h1, h2, h => by
    unfold Rising at h1 h2
    rw [List.pairwise_cons] at h1 h2
    have hab : a = b := by
      rcases List.mem_cons.1 ((h a).1 (List.mem_cons_self ..)) with e | e
      · exact e
      · rcases List.mem_cons.1 ((h b).2 (List.mem_cons_self ..)) with e2 | e2
        · exact e2.symm
        · have q1 := h2.1 a e
          have q2 := h1.1 b e2
          have q3 := G.anti a b
          omega
    subst hab
    congr 1
    refine rising_ext G h1.2 h2.2 fun x => ⟨fun hx => ?_, fun hx => ?_⟩
    · rcases List.mem_cons.1 ((h x).1 (List.mem_cons_of_mem _ hx)) with e | e
      · subst e; have := h1.1 x hx; rw [G.refl] at this; omega
      · exact e
    · rcases List.mem_cons.1 ((h x).2 (List.mem_cons_of_mem _ hx)) with e | e
      · subst e; have := h2.1 x hx; rw [G.refl] at this; omega
      · exact e
def srt (c : α → α → Int) (l : List α) : List α := l.mergeSort fun x y => !(decide (c y x < 0))
theorem srt_mem (l : List α) (x : α) : x ∈ srt c l ↔ x ∈ l := List.mem_mergeSort
theorem srt_len (l : List α) : (srt c l).length = l.length := List.length_mergeSort _
theorem srt_pair (G : Good c) (l : List α) : (srt c l).Pairwise fun x y => c x y ≤ 0 := by
  have := List.pairwise_mergeSort (le := fun x y => !(decide (c y x < 0))) (fun x y z h1 h2 => by
    simp only [Bool.not_eq_true', decide_eq_false_iff_not] at *
    have e1 := G.anti x y
    have e2 := G.anti y z
    have e3 := G.anti x z
    have := G.trans x y z (by omega) (by omega)
    omega) (fun x y => by
    simp only [Bool.or_eq_true, Bool.not_eq_true', decide_eq_false_iff_not]
    have e1 := G.anti x y
    omega) l
  refine this.imp fun {x y} h => ?_
  simp only [Bool.not_eq_true', decide_eq_false_iff_not] at h
  have e1 := G.anti x y
  omega
variable [DecidableEq α]
def dedA : List α → List α
  | [] => []
  | [x] => [x]
  | x :: y :: r => if x = y then dedA (y :: r) else x :: dedA (y :: r)
theorem dedA_mem : ∀ (l : List α) (x : α), x ∈ dedA l ↔ x ∈ l
  | [], x => Iff.rfl
  | [y], x => Iff.rfl
  | y :: z :: r, x => by
    unfold dedA
    split
    · rename_i h
      rw [dedA_mem (z :: r)]
      subst h
      simp
    · rw [List.mem_cons, dedA_mem (z :: r), List.mem_cons (l := z :: r)]
theorem dedA_rising (G : Good c) (hi : ∀ x y, c x y = 0 → x = y) : ∀ (l : List α), l.Pairwise (fun x y => c x y ≤ 0) → Rising c (dedA l)
  | [], _ => List.Pairwise.nil
  | [y], _ => by unfold dedA Rising; simp
  | y :: z :: r, h => by
    have h' := (List.pairwise_cons.1 h).2
    have ih := dedA_rising G hi (z :: r) h'
    unfold dedA
    split
    · exact ih
    · rename_i hne
      unfold Rising
      rw [List.pairwise_cons]
      refine ⟨fun x hx => ?_, ih⟩
      rw [dedA_mem] at hx
      have h1 := (List.pairwise_cons.1 h).1 z (List.mem_cons_self ..)
      have h2 : c y z < 0 := by
        rcases Int.lt_or_eq_of_le h1 with q | q
        · exact q
        · exact absurd (hi _ _ q) hne
      rcases List.mem_cons.1 hx with rfl | hx
      · exact h2
      · exact G.lt_le h2 ((List.pairwise_cons.1 h').1 x hx)
theorem dedA_len : ∀ (l : List α), (dedA l).length ≤ l.length
  | [] => Nat.le_refl _
  | [y] => Nat.le_refl _
  | y :: z :: r => by
    unfold dedA
    have := dedA_len (z :: r)
    split <;> simp at * <;> omega
def sortU (c : α → α → Int) (l : List α) : List α := dedA (srt c l)
theorem sortU_mem (l : List α) (x : α) : x ∈ sortU c l ↔ x ∈ l := by unfold sortU; rw [dedA_mem, srt_mem]
theorem sortU_rising (G : Good c) (hi : ∀ x y, c x y = 0 → x = y) (l : List α) : Rising c (sortU c l) := dedA_rising G hi _ (srt_pair G l)
theorem sortU_len (l : List α) : (sortU c l).length ≤ l.length := by unfold sortU; have := dedA_len (srt c l); rw [srt_len] at this; exact this
theorem sortU_ext (G : Good c) (hi : ∀ x y, c x y = 0 → x = y) {l m : List α} (h : ∀ x, x ∈ l ↔ x ∈ m) : sortU c l = sortU c m :=
  rising_ext G (sortU_rising G hi l) (sortU_rising G hi m) fun x => by rw [sortU_mem, sortU_mem]; exact h x
theorem sortU_of_rising (G : Good c) (hi : ∀ x y, c x y = 0 → x = y) {l : List α} (h : Rising c l) : sortU c l = l :=
  rising_ext G (sortU_rising G hi l) h fun x => sortU_mem l x
end
end Go.Proofs.YtenolkolkpfjgaaGreat

namespace Go.Proofs.YtenolkolkpfjgaaGreat.Ab
set_option linter.unusedVariables false
open Go.RowKit Go.Lib

theorem bytesLess_cmp : ∀ (a b : List UInt8), Op.bytesLess a b = decide (compareBytes a b < 0)
  | [], [] => by simp [Op.bytesLess, compareBytes]
  | [], _ :: _ => by simp [Op.bytesLess, compareBytes]
  | _ :: _, [] => by simp [Op.bytesLess, compareBytes]
  | a :: x, b :: y => by
    rw [Op.bytesLess, compareBytes, bytesLess_cmp x y]
    by_cases h : a < b
    · simp [h]
    · by_cases h2 : b < a
      · have : (a == b) = false := by
          rw [beq_eq_false_iff_ne]
          rintro rfl
          exact UInt8.lt_irrefl _ h2
        simp [h, h2, this]
      · have : a = b := by
          rw [UInt8.lt_iff_toNat_lt] at h h2
          exact UInt8.toNat_inj.1 (by omega)
        subst this
        simp [h]
theorem mk_toList (l : List UInt8) : (ByteArray.mk (Array.mk l)).toList = l := by
  rw [ByteArray.toList_eq]
abbrev strA (l : List UInt8) : AVal := .d (.sc (.string ⟨⟨l⟩⟩))
def sbin (op : BinOp) (a b : List UInt8) : Option Bool := match op with
  | .eql => some (decide (a = b))
  | .neq => some (!decide (a = b))
  | .lss => some (decide (compareBytes a b < 0))
  | .leq => some (decide (compareBytes a b ≤ 0))
  | .gtr => some (decide (0 < compareBytes a b))
  | .geq => some (decide (0 ≤ compareBytes a b))
  | _ => none
section
variable {P : Program} {nt : Nat} {Q : Post} {e : Env} {h : Heap} {ops : Array Oper} {o : Oper} {rest : List Oper} {T : List Nat} {tab : TTab}
theorem Y_sbin {op : BinOp} {t u : TypeId} {x y : Operand} {a b : List UInt8} {r : Bool} (ho : o.op = .binOp op t x y u) (hx : aev e x = some (strA a)) (hy : aev e y = some (strA b)) (hr : sbin op a b = some r) : AYield P T e h o (.d (.sc (.bool r))) := yield_of _ fun w F ι ac E =>
  ⟨.bool r, sc_rel rfl, fun w' => by
    have hz : (a == b) = decide (compareBytes a b = 0) := by rw [Bool.eq_iff_iff]; simp [bytes_zero]
    have hz2 : decide (a = b) = decide (compareBytes a b = 0) := by rw [Bool.eq_iff_iff]; simp [bytes_zero]
    simp only [execOp, ho, (sc_of (aev_rel E hx)).1, (sc_of (aev_rel E hy)).1]
    cases op <;> first | cases hr; done | (injection hr with hr; subst hr; (try simp only [hz2]); simp [eqGuard, binOp, Op.stringOp, mk_toList, bytesLess_cmp, hz]; done) | (injection hr with hr; subst hr; (try simp only [hz2]); simp [eqGuard, binOp, Op.stringOp, mk_toList, bytesLess_cmp, hz]; generalize compareBytes a b = c; rw [Bool.eq_iff_iff]; simp <;> omega)⟩
theorem R_sT {op : BinOp} {t u : TypeId} {x y : Operand} {a b : List UInt8} {r : Bool} (ho : o.op = .binOp op t x y u) (hx : aev e x = some (strA a)) (hy : aev e y = some (strA b)) (hr : sbin op a b = some r) (hc : r = true) : AYield P T e h o (.d (.sc (.bool true))) := by
  subst hc; exact Y_sbin ho hx hy hr
theorem R_sF {op : BinOp} {t u : TypeId} {x y : Operand} {a b : List UInt8} {r : Bool} (ho : o.op = .binOp op t x y u) (hx : aev e x = some (strA a)) (hy : aev e y = some (strA b)) (hr : sbin op a b = some r) (hc : r = false) : AYield P T e h o (.d (.sc (.bool false))) := by
  subst hc; exact Y_sbin ho hx hy hr
def bbin (op : BinOp) (a b : Bool) : Option Bool := match op with
  | .eql => some (a == b)
  | .neq => some (a != b)
  | _ => none
def tbool (tab : TTab) (t : TypeId) : Bool := match tlook tab t with
  | some ⟨_, _, _, _, .bo⟩ => true
  | _ => false
theorem tbool_spec {tab : TTab} {t : TypeId} (TO : TabOk P tab) (h : tbool tab t = true) : P.underlying t = some .bool := by
  unfold tbool at h
  split at h
  · rename_i heq
    obtain ⟨d, hd, _, hs⟩ := (TO t _ heq).und
    rw [hd]; congr 1
  · cases h
theorem Y_bbin {op : BinOp} {t u : TypeId} {x y : Operand} {a b : Bool} {r : Bool} (TO : TabOk P tab) (ho : o.op = .binOp op t x y u) (ht : tbool tab t = true) (hx : aev e x = some (.d (.sc (.bool a)))) (hy : aev e y = some (.d (.sc (.bool b)))) (hr : bbin op a b = some r) : AYield P T e h o (.d (.sc (.bool r))) := yield_of _ fun w F ι ac E =>
  ⟨.bool r, sc_rel rfl, fun w' => by
    have hu := tbool_spec TO ht
    simp only [execOp, ho, (sc_of (aev_rel E hx)).1, (sc_of (aev_rel E hy)).1]
    cases op <;> first | cases hr; done | (injection hr with hr; subst hr; simp [eqGuard, binOp, run_equal_bool w' t a b hu]; done) | (injection hr with hr; subst hr; simp [eqGuard, binOp, run_equal_bool w' t a b hu]; cases a <;> cases b <;> rfl)⟩
end
end Go.Proofs.YtenolkolkpfjgaaGreat.Ab

namespace Go.Proofs.YtenolkolkpfjgaaGreat.Ab
set_option linter.unusedVariables false
open Go.RowKit

section
variable {P : Program} {nt : Nat} {Q : Post} {e : Env} {h : Heap} {ops : Array Oper} {o : Oper} {rest : List Oper} {T : List Nat} {tab : TTab}
theorem HRel.relook {Pm F : Nat → Prop} {w0 w : World} {pin ι : Nat → Option Value} {h h' : Heap} (H : HRel Pm F w0 pin ι h w) (hs : ∀ j, look h' j = look h j) : HRel Pm F w0 pin ι h' w :=
  ⟨fun j b hj => H.blk j b (by rw [← hs]; exact hj), fun j v hj => by rw [hs]; exact H.dom j v hj, H.inj, H.pm, H.os, H.tape, H.output, H.size, H.keep, H.fresh, H.pinned, H.nf, H.forb⟩
theorem run_cutFrom {t el : TypeId} {te te' : TE} (w' : World) (Ft : TFacts P t te) (hs : te.sh = .sl el) (Fe : TFacts P el te') (b : Option Addr) (n cap : Nat) (k : IntKind) (m : Nat) (hm : m ≤ n) :
    (Instr.sliceAt t (.slice b n cap) (some (.int k m)) none none).run P w' = .ok (.slice (if cap = m then b else b.map (·.add (m * te'.size))) (n - m) (cap - m)) w' := by
  have hu := Ft.slice hs
  have he : P.elem t = el := Ft.elem hs
  rw [run_sliceAt_slice (t := t) (h := by rw [he]; exact hu), run_slice_l (P := P) (w := w') (t := t) (a := b) (len := n) (cap := cap) (ht := by rw [he]; exact hu) (kl := k) (l := (m : Int)) (by omega) (by omega), he, Fe.size]
  simp only [Result.andThen, sliced, Int.toNat_natCast]
theorem run_cut3 {t el : TypeId} {te te' : TE} (w' : World) (Ft : TFacts P t te) (hs : te.sh = .sl el) (Fe : TFacts P el te') (b : Option Addr) (hb : ∀ a, b = some a → a.add 0 = a) (n cap : Nat) (k k2 : IntKind) (m : Nat) (hm : m ≤ cap) :
    (Instr.sliceAt t (.slice b n cap) none (some (.int k m)) (some (.int k2 m))).run P w' = .ok (.slice b m m) w' := by
  have hu := Ft.slice hs
  have he : P.elem t = el := Ft.elem hs
  rw [run_sliceAt_slice (t := t) (h := by rw [he]; exact hu), run_slice_hm (P := P) (w := w') (t := t) (a := b) (len := n) (cap := cap) (ht := by rw [he]; exact hu) (kh := k) (km := k2) (h := (m : Int)) (m := (m : Int)) (by omega) (by omega) (by omega), he, Fe.size]
  simp only [Result.andThen, sliced, Int.toNat_natCast, Nat.zero_mul, Nat.sub_zero]
  congr 2
  split
  · rfl
  · cases b with
    | none => rfl
    | some a => simp [hb a rfl]
theorem add_lit0 (g o j : Nat) : (⟨g, o, none⟩ : Addr).add j = ⟨g, o + j, none⟩ := by unfold Addr.add; split <;> simp_all

theorem R_rowFrom {t el el' k kk m id : Nat} {x y : Operand} {cs : List Dat} {n : Nat} {q : IntKind} {i : Int} (TO : TabOk P tab) (ho : o.op = .slice t x (some y) none none) (hel : telem tab t = some el) (hsz : tsize tab el = some k) (hx : aev e x = some (.row id)) (hb : look h id = some (.row el' kk n cs)) (hy : aev e y = some (.d (.sc (.int q i)))) (hi : i = (m : Int)) (hm : m ≤ n) :
    AYield P T e h o (.srow id (m * k) (n - m)) := by
  obtain ⟨te, h1, h2⟩ := telem_spec hel
  obtain ⟨te', h3, rfl⟩ := tsize_spec hsz
  subst hi
  intro Pm F w0 pin ι a w H E
  obtain ⟨v, hv, xs, hown, _⟩ := H.blk id _ hb
  have hr := aev_rel E hx
  have hk := (sc_of (aev_rel E hy)).1
  generalize hau : a.eval x = u at hr
  cases hr with
  | row _ _ g1 g2 =>
    have g3 := g2 v hv
    subst g3
    rcases hown.2 with ⟨rfl, h4⟩ | ⟨g, cap, cur, rfl, _, _, hnc, _⟩
    · subst h4
      have : m = 0 := by omega
      subst this
      refine ⟨.slice none 0 0, .srow id _ _ _ rfl fun v' hv' => ⟨none, 0, rfl, by omega, fun h => by omega⟩, fun w' _ => ?_⟩
      simp only [execOp, ho, hau]; simp [hk]; rw [show (0 : Int) = ((0 : Nat) : Int) from rfl, run_cutFrom w' (TO t te h1) h2 (TO el te' h3) none 0 0 q 0 (Nat.le_refl _)]; rfl
    · refine ⟨_, .srow id _ _ (.slice (if cap = m then (some ⟨g, 0, none⟩) else some ⟨g, m * te'.size, none⟩) (n - m) (cap - m)) rfl fun v' hv' => ?_, fun w' _ => ?_⟩
      · rw [hv] at hv'; cases hv'
        refine ⟨_, _, rfl, by omega, fun hpos => ⟨g, n, cap, rfl, ?_⟩⟩
        rw [if_neg (by omega)]
      · simp only [execOp, ho, hau]; simp [hk]; rw [run_cutFrom w' (TO t te h1) h2 (TO el te' h3) _ n cap q m hm]
        simp only [Option.map_some, add_lit0, Nat.zero_add]
        rfl
theorem R_indexs {t el k j id off n : Nat} {x y : Operand} {el' kk nn : Nat} {cs : List Dat} {q : IntKind} {i : Int} (TO : TabOk P tab) (ho : o.op = .indexAddr t x y) (hel : telem tab t = some el) (hsz : tsize tab el = some k) (hx : aev e x = some (.srow id off n)) (hb : look h id = some (.row el' kk nn cs)) (hy : aev e y = some (.d (.sc (.int q i)))) (hj : i = (j : Int)) (hlt : j < n) :
    AYield P T e h o (.eptr id (off + j * k)) := by
  obtain ⟨te, h1, h2⟩ := telem_spec hel
  obtain ⟨te', h3, rfl⟩ := tsize_spec hsz
  subst hj
  intro Pm F w0 pin ι a w H E
  obtain ⟨v, hv, xs, hown, _⟩ := H.blk id _ hb
  have hr := aev_rel E hx
  have hk := (sc_of (aev_rel E hy)).1
  have hu := (TO t te h1).slice h2
  generalize hau : a.eval x = u at hr
  cases hr with
  | srow _ _ _ _ g1 g2 =>
    obtain ⟨b', c', rfl, _, g3⟩ := g2 v hv
    obtain ⟨g, N, cap, rfl, rfl⟩ := g3 (by omega)
    refine ⟨.pointer (some ⟨g, off + j * te'.size, none⟩), .eptr id _ _ rfl fun v' hv' => ?_, fun w' _ => ?_⟩
    · rw [hv] at hv'; cases hv'; exact ⟨g, N, cap, rfl, rfl⟩
    · simp [execOp, ho, hau, hk, run_indexAt w' hu (TO el te' h3) g off n c' q (j : Int) ⟨by omega, by omega⟩]
theorem R_lens {t el id off n : Nat} {x : Operand} {el' kk nn : Nat} {cs : List Dat} (TO : TabOk P tab) (ho : o.op = .call { callee := .builtin .len, args := #[x], argTypes := #[t] }) (hel : telem tab t = some el) (hx : aev e x = some (.srow id off n)) (hb : look h id = some (.row el' kk nn cs)) : AYield P T e h o (.d (.sc (.int .i64 (n : Int)))) := by
  obtain ⟨te, h1, h2⟩ := telem_spec hel
  intro Pm F w0 pin ι a w H E
  obtain ⟨v, hv, xs, hown, _⟩ := H.blk id _ hb
  have hu := (TO t te h1).slice h2
  have hr := aev_rel E hx
  generalize hau : a.eval x = u at hr
  cases hr with
  | srow _ _ _ _ g1 g2 =>
    obtain ⟨b', c', rfl, _, g3⟩ := g2 v hv
    exact ⟨_, sc_rel rfl, fun w' _ => by simp [execOp, ho, resolve, invoke, builtin, hau, Builtin.len_, run_underlying hu, goInt]⟩
theorem R_clip {t el k : Nat} {x y z : Operand} {cs : List Dat} {n : Nat} {q q2 : IntKind} {i j : Int} (TO : TabOk P tab) (ho : o.op = .slice t x none (some y) (some z)) (hel : telem tab t = some el) (hsz : tsize tab el = some k) (hx : aev e x = some (.d (.sl cs n))) (hy : aev e y = some (.d (.sc (.int q i)))) (hz : aev e z = some (.d (.sc (.int q2 j)))) (hi : i = (n : Int)) (hj : j = (n : Int)) :
    AYield P T e h o (.full cs n) := by
  obtain ⟨te, h1, h2⟩ := telem_spec hel
  obtain ⟨te', h3, rfl⟩ := tsize_spec hsz
  subst hi hj
  refine yield_of _ fun w F ι a E => ?_
  have hv := aev_rel E hx
  have hk := (sc_of (aev_rel E hy)).1
  have hk2 := (sc_of (aev_rel E hz)).1
  generalize hau : a.eval x = u at hv
  cases hv with
  | d _ _ hd =>
    cases hd with
    | nil => exact ⟨_, .full [] 0 none .nil, fun w' => by simp only [execOp, ho, hau]; simp [hk, hk2]; rw [show (0 : Int) = ((0 : Nat) : Int) from rfl, run_cut3 w' (TO t te h1) h2 (TO el te' h3) none (fun a h => by cases h) 0 0 q q2 0 (Nat.le_refl _)]; rfl⟩
    | emp ea => exact ⟨_, .full [] 0 _ (.emp ea), fun w' => by simp only [execOp, ho, hau]; simp [hk, hk2]; rw [show (0 : Int) = ((0 : Nat) : Int) from rfl, run_cut3 w' (TO t te h1) h2 (TO el te' h3) (some ea) (fun a h => rfl) 0 0 q q2 0 (Nat.le_refl _)]; rfl⟩
    | sl _ _ b off cap vs hn hl hf hc hr =>
      exact ⟨_, .full cs n _ (.sl cs n b off n vs (Nat.le_refl _) hl hf hc hr), fun w' => by simp only [execOp, ho, hau]; simp [hk, hk2]; rw [run_cut3 w' (TO t te h1) h2 (TO el te' h3) _ (fun a h => by cases h; exact add0 _ _) n cap q q2 n hn]; rfl⟩

theorem E_rowTo {t el : TypeId} {te te' : TE} {d : Option Tmp} {x y : Operand} {rid n m : Nat} {cs : List Dat} {q : IntKind} {el' kk : Nat} (TO : TabOk P tab) (ho : o.op = .slice t x none (some y) none) (hdst : o.dst = d)
    (ht : tlook tab t = some te) (hs : te.sh = .sl el) (hel : tlook tab el = some te') (hx : aev e x = some (.row rid)) (hb : look h rid = some (.row el' kk n cs)) (hy : aev e y = some (.d (.sc (.int q (m : Int))))) (hm : m ≤ n) (hid : Nat.blt rid 1000 = true) (hd : dstOk nt d = true) (hT : T.contains rid = true) :
    AEff P nt T e h o (fun e' h' => e' = aput d (.row rid) (killE rid e) ∧ h' = (rid, .row el' kk m (cs.take (m * kk))) :: killH rid h) := fun Pm F w0 pin ι a w R K Qx hK => by
  have hid' : rid < 1000 := by simp [Nat.blt] at hid; omega
  obtain ⟨v, hv, xs, hown, hxl, hxr⟩ := R.heap.blk _ _ hb
  have hr := aev_rel R.env hx
  have hk := (sc_of (aev_rel R.env hy)).1
  obtain ⟨b, N, cap, hvv, hN, hadd⟩ : ∃ b N cap, v = .slice b N cap ∧ m ≤ cap ∧ ∀ a, b = some a → a.add 0 = a := by
    rcases hown.2 with ⟨h1, h2⟩ | ⟨g, cap, cur, h1, _, _, h2, _⟩
    · exact ⟨none, 0, 0, h1, by omega, fun a h => by cases h⟩
    · exact ⟨_, _, cap, h1, by omega, fun a h => by cases h; exact add0 _ _⟩
  have hval : a.eval x = v := by
    generalize a.eval x = u at hr
    cases hr with
    | row _ _ g1 g2 => exact g2 v hv
  have hlen : (xs.take (m * kk)).length = m * kk := by rw [List.length_take, hown.1]; exact Nat.min_eq_left (Nat.mul_le_mul_right kk hm)
  have hown' : w.ownsRow 0 el' kk (.slice b m cap) m (xs.take (m * kk)) := by
    refine ⟨hlen, ?_⟩
    rcases hown.2 with ⟨h1, h2⟩ | ⟨g, cap2, cur, h1, g2, g3, g4, g5, g6, g7⟩
    · rw [hvv] at h1; cases h1; exact .inl ⟨by rw [show m = 0 by omega], by omega⟩
    · rw [hvv] at h1; cases h1
      refine .inr ⟨g, cap, cur, rfl, g2, g3, hN, g5, g6, ?_⟩
      rw [← g7, List.take_take, Nat.min_eq_left (Nat.mul_le_mul_right kk hm)]
  have hblk : blockOf (.slice b m cap) = blockOf v := by subst hvv; cases b <;> rfl
  have TT : Touch w ι rid (.slice b m cap) w := ⟨rfl, rfl, rfl, Nat.le_refl _, fun r _ _ => rfl, fun r hr1 => .inr ⟨v, hv, by rw [← hblk]; exact hr1⟩⟩
  have hrun : (execOp a.eval o).run P w = .ok (.value (.slice b m cap)) w := by
    simp only [execOp, ho, hval, hvv, Option.map_some, Option.map_none, hk]
    simp
    rw [run_cutTo w (TO t te ht) hs (TO el te' hel) b hadd N cap q m hN]
    rfl
  unfold Oper.wp
  rw [hrun, Oper.upon_value, hdst]
  refine hK _ _ _ _ _ ⟨rfl, rfl⟩ ⟨R.heap.touch TT (.inl hid') ⟨xs.take (m * kk), hown', by rw [List.length_take, List.length_take, hxl], fun i c u h1 h2 => ?_⟩, (R.env.killed TT.ext).aput hd R.size (.row rid _ (own_one hown') fun v hv => by simp [upd] at hv; exact hv), by rw [put_defers]; exact R.defers.ext TT.ext, by rw [put_size]; exact R.size⟩ ?_ (put_defers _ _ _)
  · rw [List.getElem?_take] at h1 h2
    split at h1
    · rename_i hlt
      rw [if_pos hlt] at h2
      exact (hxr _ _ _ h1 h2).ext TT.ext.mem TT.ext.free
    · cases h1
  · refine ⟨⟨rfl, rfl, rfl, Nat.le_refl _, fun r _ _ => rfl⟩, fun j _ u r hj hr1 hlt => ?_⟩
    unfold upd at hj
    split at hj
    · rename_i hjr
      subst hjr
      cases hj
      exact ⟨v, hv, by rw [← hblk]; exact hr1⟩
    · exact ⟨u, hj, hr1⟩

theorem run_copyK {P : Program} (w : World) (dT sT ty elem : TypeId) (k : Nat) (g o dLen dCap : Nat) (a : Addr) (sLen sCap : Nat) (cur : Array Value) (t : TypeId) (cs : List Value)
    (hu : P.underlying dT = some (.slice elem)) (hs : (P.info? elem).map (·.size) = some k)
    (hg : w.heap[g]? = some (.cells cur t (0, 0))) (hn : cs.length = Nat.min sLen dLen * k)
    (hsrc : ∀ j v, cs[j]? = some v → w.cell? (a.add j) = some v) (hfit : o + cs.length ≤ cur.size) (h1 : ∀ v ∈ cs, v.oneCell' = true) :
    (Builtin.copy_ #[dT, sT] ty #[.slice (some ⟨g, o, none⟩) dLen dCap, .slice (some a) sLen sCap]).run P w =
      .ok (goInt (Nat.min sLen dLen)) (w.setRow g (setW cur.toList o cs).toArray) := by
  have hl := run_loadCells_list (P := P) w a cs hsrc
  have hst := run_storeCells_at P g o t cs 0 cur w hg (by simpa using hfit) h1
  cases hq : P.info? elem with
  | none => simp [hq] at hs
  | some i =>
    have hi : i.size = k := by simpa [hq] using hs
    simp [Builtin.copy_, run_underlying hu, Builtin.lenOf, Builtin.firstCells, sizeOf, typeInfo, hq, hi, ← hn, hl, hst, setW]
theorem run_copyK0 {P : Program} (w : World) (dT sT ty elem : TypeId) (k : Nat) (d a : Option Addr) (dLen dCap sLen sCap : Nat) (hu : P.underlying dT = some (.slice elem)) (hs : (P.info? elem).map (·.size) = some k) (hn : Nat.min sLen dLen = 0) :
    (Builtin.copy_ #[dT, sT] ty #[.slice d dLen dCap, .slice a sLen sCap]).run P w = .ok (goInt 0) w := by
  cases hq : P.info? elem with
  | none => simp [hq] at hs
  | some i =>
    have hl : ∀ (x : Addr), (loadCells x 0).run P w = .ok #[] w := fun x => by simpa using run_loadCells_list (P := P) w x [] (by simp)
    cases d <;> cases a <;> simp [Builtin.copy_, run_underlying hu, Builtin.lenOf, Builtin.firstCells, sizeOf, typeInfo, hq, hn, storeCells, hl]
theorem win_get' {α : Type} (cs : List α) (off k j : Nat) (hj : j < k) : (win cs off k)[j]? = cs[off + j]? := by
  unfold win
  rw [List.getElem?_take_of_lt hj, List.getElem?_drop]
theorem win_len {α : Type} (cs : List α) (off k : Nat) (h : off + k ≤ cs.length) : (win cs off k).length = k := by
  unfold win
  rw [List.length_take, List.length_drop]; omega
theorem setW_nil {α : Type} (cs : List α) (off : Nat) : setW cs off [] = cs := by unfold setW; simp
theorem setW_len {α : Type} (cs xs : List α) (off : Nat) (h : off + xs.length ≤ cs.length) : (setW cs off xs).length = cs.length := by
  unfold setW
  simp; omega
theorem own_set {w : World} {e k n g cap off : Nat} {cur : Array Value} {xs news : List Value} (hg : w.heap[g]? = some (.cells cur e (0, 0))) (hlen : xs.length = n * k) (hcap : n ≤ cap) (hmax : cap ≤ maxLen) (hsz : cur.size = cap * k) (ht : cur.toList.take (n * k) = xs) (hfit : off + news.length ≤ n * k) :
    (w.setRow g (setW cur.toList off news).toArray).ownsRow 0 e k (.slice (some ⟨g, 0, none⟩) n cap) n (setW xs off news) := by
  have hle : n * k ≤ cur.size := by rw [hsz]; exact Nat.mul_le_mul_right k hcap
  have h1 := setRow_heap w g cur (setW cur.toList off news).toArray e (0, 0) hg
  refine ⟨by rw [setW_len _ _ _ (by omega), hlen], .inr ⟨g, cap, _, rfl, Nat.zero_le _, h1, hcap, hmax, ?_, ?_⟩⟩
  · rw [List.size_toArray, setW_len _ _ _ (by rw [Array.length_toList (xs := cur)]; omega), Array.length_toList, hsz]
  · rw [List.toList_toArray, ← ht]
    apply List.ext_getElem?
    intro i
    by_cases hi : i < n * k
    · rw [List.getElem?_take_of_lt hi, setW_get (by rw [Array.length_toList (xs := cur)]; omega), setW_get (by rw [List.length_take, Array.length_toList (xs := cur)]; omega), List.getElem?_take_of_lt hi]
    · rw [List.getElem?_eq_none (by rw [List.length_take]; omega), List.getElem?_eq_none (by rw [setW_len _ _ _ (by rw [List.length_take, Array.length_toList (xs := cur)]; omega), List.length_take]; omega)]
theorem E_copyS {t sT el : TypeId} {te te' : TE} {d : Option Tmp} {x y : Operand} {id off1 n1 off2 n2 n k : Nat} {cs : List Dat} (TO : TabOk P tab) (ho : o.op = .call { callee := .builtin .copy, args := #[x, y], argTypes := #[t, sT] }) (hdst : o.dst = d)
    (ht : tlook tab t = some te) (hs : te.sh = .sl el) (hel : tlook tab el = some te') (hk : te'.size = k) (hx : aev e x = some (.srow id off1 n1)) (hy : aev e y = some (.srow id off2 n2)) (hb : look h id = some (.row el k n cs))
    (h1 : off1 + Nat.min n2 n1 * k ≤ n * k) (h2 : off2 + Nat.min n2 n1 * k ≤ n * k) (hd : dstOk nt d = true) (hT : T.contains id = true) :
    AEff P nt T e h o (fun e' h' => e' = aput d (.d (.sc (.int .i64 ((Nat.min n2 n1 : Nat) : Int)))) e ∧ h' = (id, .row el k n (setW cs off1 (win cs off2 (Nat.min n2 n1 * k)))) :: h) := fun Pm F w0 pin ι a w R K Qx hK => by
  subst hk
  obtain ⟨v, hv, xs, hown, hxl, hxr⟩ := R.heap.blk _ _ hb
  have hu := (TO t te ht).slice hs
  have hsz : (P.info? el).map (·.size) = some te'.size := by
    obtain ⟨z, _, _, i, hi, _, hsz, _⟩ := (TO el te' hel).zero w
    rw [hi]; simp [hsz]
  have hrx := aev_rel R.env hx
  have hry := aev_rel R.env hy
  have hcl : cs.length = n * te'.size := by rw [← hxl]; exact hown.1
  obtain ⟨ux, hux⟩ : ∃ ux, a.eval x = ux := ⟨_, rfl⟩
  obtain ⟨uy, huy⟩ : ∃ uy, a.eval y = uy := ⟨_, rfl⟩
  rw [hux] at hrx
  rw [huy] at hry
  cases hrx with
  | srow _ _ _ _ g1 g2 =>
  cases hry with
  | srow _ _ _ _ g3 g4 =>
    obtain ⟨b1, c1, rfl, _, k1⟩ := g2 v hv
    obtain ⟨b2, c2, rfl, _, k2⟩ := g4 v hv
    by_cases h0 : Nat.min n2 n1 = 0
    · have hrun : (execOp a.eval o).run P w = .ok (.value (goInt 0)) w := by
        simp [execOp, ho, resolve, invoke, builtin, hux, huy, run_copyK0 w t sT o.type el te'.size b1 b2 n1 c1 n2 c2 hu hsz h0]
      unfold Oper.wp
      rw [hrun, Oper.upon_value, hdst]
      refine hK ι _ _ _ _ ⟨rfl, rfl⟩ ?_ ⟨CT.refl T ι w, fun id _ v r hv hr _ => ⟨v, hv, hr⟩⟩ (put_defers _ _ _)
      rw [h0]
      refine ⟨?_, R.env.aput hd R.size (sc_rel rfl), by rw [put_defers]; exact R.defers, by rw [put_size]; exact R.size⟩
      have e1 : setW cs off1 (win cs off2 (0 * te'.size)) = cs := by unfold win; rw [Nat.zero_mul, List.take_zero]; exact setW_nil _ _
      rw [e1]
      refine R.heap.relook fun j => ?_
      by_cases hj2 : id = j
      · subst hj2; rw [look_cons_same, hb]
      · rw [look_cons_ne _ _ hj2]
    · have hm1 : 0 < n1 := by have e : Nat.min n2 n1 = min n2 n1 := rfl; omega
      have hm2 : 0 < n2 := by have e : Nat.min n2 n1 = min n2 n1 := rfl; omega
      obtain ⟨g, N, cap, hvv, rfl⟩ := k1 hm1
      obtain ⟨g', N', cap', hvv2, rfl⟩ := k2 hm2
      rw [hvv] at hvv2; cases hvv2
      rcases hown.2 with ⟨q1, _⟩ | ⟨g0, cap0, cur, q1, _, hg, q4, q5, q6, q7⟩
      · rw [hvv] at q1; cases q1
      rw [hvv] at q1; cases q1
      have hle : n * te'.size ≤ cur.size := by rw [q6]; exact Nat.mul_le_mul_right _ q4
      have hwl : (win cur.toList off2 (Nat.min n2 n1 * te'.size)).length = Nat.min n2 n1 * te'.size := win_len _ _ _ (by rw [Array.length_toList (xs := cur)]; omega)
      have hcell : ∀ j v, (win cur.toList off2 (Nat.min n2 n1 * te'.size))[j]? = some v → w.cell? ((⟨g, off2, none⟩ : Addr).add j) = some v := fun j v hj => by
        have hjl : j < Nat.min n2 n1 * te'.size := by rw [← hwl]; exact (List.getElem?_eq_some_iff.1 hj).1
        rw [win_get' _ _ _ _ hjl, Array.getElem?_toList] at hj
        rw [add_lit0, cell_of_row w g (off2 + j) cur el (0, 0) hg]
        exact hj
      have hxw : win cur.toList off2 (Nat.min n2 n1 * te'.size) = win xs off2 (Nat.min n2 n1 * te'.size) := by
        rw [← q7]
        apply List.ext_getElem?
        intro i
        by_cases hi : i < Nat.min n2 n1 * te'.size
        · rw [win_get' _ _ _ _ hi, win_get' _ _ _ _ hi, List.getElem?_take_of_lt (by omega)]
        · rw [List.getElem?_eq_none (by omega), List.getElem?_eq_none (by rw [win_len _ _ _ (by rw [List.length_take, Array.length_toList (xs := cur)]; omega)]; omega)]
      have hone : ∀ u ∈ win cur.toList off2 (Nat.min n2 n1 * te'.size), u.oneCell' = true := fun u hu => by
        rw [hxw] at hu
        obtain ⟨i, hi⟩ := List.mem_iff_getElem?.1 hu
        have hlt : i < Nat.min n2 n1 * te'.size := by
          have := (List.getElem?_eq_some_iff.1 hi).1
          rw [win_len _ _ _ (by rw [hown.1]; omega)] at this
          exact this
        rw [win_get' _ _ _ _ hlt] at hi
        have hlt2 : off2 + i < cs.length := by rw [← hxl]; exact (List.getElem?_eq_some_iff.1 hi).1
        exact (hxr _ _ _ (List.getElem?_eq_getElem hlt2) hi).one
      have hrun0 := run_copyK (P := P) w t sT o.type el te'.size g off1 n1 c1 ⟨g, off2, none⟩ n2 c2 cur el _ hu hsz hg hwl hcell (by rw [hwl]; omega) hone
      have hrun : (execOp a.eval o).run P w = .ok (.value (goInt (Nat.min n2 n1))) (w.setRow g (setW cur.toList off1 (win cur.toList off2 (Nat.min n2 n1 * te'.size))).toArray) := by
        simp only [execOp, ho, resolve, invoke, builtin]
        simp [hux, huy, hrun0]
      obtain ⟨hW, hnew⟩ := wrote_setRow (C' := (setW cur.toList off1 (win cur.toList off2 (Nat.min n2 n1 * te'.size))).toArray) hg (v := v) (by rw [hvv]; rfl)
      have hown2 := own_set (off := off1) (news := win cur.toList off2 (Nat.min n2 n1 * te'.size)) hg hown.1 q4 q5 q6 q7 (by rw [hwl]; exact h1)
      unfold Oper.wp
      rw [hrun, Oper.upon_value, hdst]
      refine hK ι _ _ _ _ ⟨rfl, rfl⟩ ?_ ⟨⟨hW.os, hW.tape, hW.output, hW.size, fun r hr hne => hW.mem r hr fun he => hne id (List.contains_iff_mem.1 hT) v hv he⟩, fun id _ v r hv hr _ => ⟨v, hv, hr⟩⟩ (put_defers _ _ _)
      refine ⟨R.heap.wrote hW hv ⟨_, by rw [hvv]; exact hown2, by rw [setW_len _ _ _ (by rw [hwl, hown.1]; omega), setW_len _ _ _ (by rw [win_len _ _ _ (by omega)]; omega), hxl], fun i c u h4 h5 => ?_⟩, (R.env.mono fun _ _ _ _ hv' => hv'.wrote hW hv).aput hd R.size (sc_rel rfl), by rw [put_defers]; exact R.defers.ext (hW.ext hv), by rw [put_size]; exact R.size⟩
      rw [setW_get (by rw [win_len _ _ _ (by omega)]; omega), win_len _ _ _ (by omega)] at h4
      rw [setW_get (by rw [hwl, hown.1]; omega), hwl] at h5
      split at h4
      · rename_i hin
        rw [if_pos hin] at h5
        rw [hxw] at h5
        rw [win_get' _ _ _ _ (by omega)] at h4 h5
        exact (hxr _ _ _ h4 h5).ext (hW.ext hv).mem (hW.ext hv).free
      · rename_i hin
        rw [if_neg hin] at h5
        exact (hxr _ _ _ h4 h5).ext (hW.ext hv).mem (hW.ext hv).free

theorem run_appF {P : Program} {t el : TypeId} {te te' : TE} {ty : TypeId} (w : World) (Ft : TFacts P t te) (hs : te.sh = .sl el) (Fe : TFacts P el te') (hk : 0 < te'.size) (hk2 : te'.zero.length = te'.size) (b : Option Addr) (n : Nat) (olds : List Value)
    (hol : olds.length = n * te'.size) (hold : (b = none ∧ n = 0) ∨ ∃ ba, b = some ba ∧ ∀ (j : Nat) (x : Value), olds[j]? = some x → w.cell? (ba.add j) = some x) (u : Value) (m : Nat) (news : List Value) (hm : 0 < m)
    (hl : news.length = m * te'.size) (hu : ∃ b o' c', u = .slice (some ⟨b, o', none⟩) m c' ∧ ∀ (j : Nat) (x : Value), news[j]? = some x → w.cell? ⟨b, o' + j, none⟩ = some x)
    (h1 : ∀ x ∈ news, x.oneCell' = true) (hn : n + m ≤ 2147483648) (hb : te'.bytes ≤ 65536) :
    ∃ v' w', (Builtin.append_ #[t, t] ty #[.slice b n n, u]).run P w = .ok v' w' ∧ w'.ownsRow w.heap.size el te'.size v' (n + m) (olds ++ news) ∧ w.grownBy w' none := by
  have hut := Ft.slice hs
  obtain ⟨z, _, hz2, i, hi, hz3, hsz, hby⟩ := Fe.zero w
  have hzs : z.cells.size = te'.size := by rw [← Array.length_toList, hz2, hk2]
  have hbb : (n + m) * te'.bytes ≤ 140737488355328 := by have := Nat.mul_le_mul hn hb; omega
  obtain ⟨b2, o', c', rfl, hc⟩ := hu
  rcases hold with ⟨rfl, rfl⟩ | ⟨ba, rfl, hco⟩
  · have hnil : olds = [] := by simpa using hol
    subst hnil
    obtain ⟨v', w', hr, h2, h3, _, h5⟩ := run_append_own_at (P := P) w w.heap.size t ty el i z te'.size te'.bytes hut hi hz3 hsz hby hzs hk (.slice none 0 0) 0 [] (World.ownsRow_nil _ _ _ _) ⟨b2, o', none⟩ m c' news hl
      (fun j x hj => by rw [Addr.add_mid]; exact hc j x hj) h1 (by unfold maxLen; omega) hbb (Nat.le_refl _)
    exact ⟨v', w', hr, h2, h3⟩
  · exact run_append_arg_grows (P := P) w t ty el i z te'.size te'.bytes hut hi hz3 hsz hby hzs hk ba n n olds hol (fun j x hj => hco j x hj) ⟨b2, o', none⟩ m c' news hl
      (fun j x hj => by rw [add_lit0]; exact hc j x hj) (by omega) (by unfold maxLen; omega) hbb
end
end Go.Proofs.YtenolkolkpfjgaaGreat.Ab

namespace Go.Proofs.YtenolkolkpfjgaaGreat
set_option linter.unusedVariables false
open Go.RowKit Go.Lib
structure Rte where
  p : Pfx
  f : Int
  d : Int
  m : Int
  t : Int
  i : List UInt8
  h : Int
  x : Bool
  deriving DecidableEq
def ordP : Pfx → Pfx → Int := lexc (fun x y => c2 x.a y.a) (fun x y => c2 x.b y.b)
def ordR : Rte → Rte → Int := lexc (fun x y => ordP x.p y.p) (lexc (fun x y => c2 x.f y.f) (lexc (fun x y => c2 x.d y.d) (lexc (fun x y => c2 x.m y.m) (lexc (fun x y => c2 x.t y.t) (lexc (fun x y => c2 x.h y.h) (lexc (fun x y => compareBytes x.i y.i) (fun x y => cB x.x y.x)))))))
theorem good_ordP : Good ordP := (good_c2.of _).lex (good_c2.of _)
theorem good_ordR : Good ordR := (good_ordP.of _).lex ((good_c2.of _).lex ((good_c2.of _).lex ((good_c2.of _).lex ((good_c2.of _).lex ((good_c2.of _).lex ((good_bytes.of _).lex (good_cB.of _)))))))
theorem ordP_zero (x y : Pfx) : ordP x y = 0 ↔ x = y := by
  obtain ⟨a, b⟩ := x
  obtain ⟨c, d⟩ := y
  simp [ordP, lexc_zero, c2_zero]
theorem ordR_zero (x y : Rte) : ordR x y = 0 ↔ x = y := by
  obtain ⟨a, b, c, d, e, f, g, h⟩ := x
  obtain ⟨a', b', c', d', e', f', g', h'⟩ := y
  simp only [ordR, lexc_zero, c2_zero, bytes_zero, cB_zero, ordP_zero, Rte.mk.injEq]
  constructor
  · rintro ⟨h1, h2, h3, h4, h5, h6, h7, h8⟩; exact ⟨h1, h2, h3, h4, h5, h7, h6, h8⟩
  · rintro ⟨h1, h2, h3, h4, h5, h7, h6, h8⟩; exact ⟨h1, h2, h3, h4, h5, h6, h7, h8⟩
def rank : Rte → Rte → Int := lexc (fun x y => c2 x.d y.d) (lexc (fun x y => c2 x.f y.f) (fun x y => c2 x.m y.m))
def firstI : List Int → Int
  | [] => 0
  | x :: r => if x = 0 then firstI r else x
theorem ordP_first (x y : Pfx) : firstI [c2 x.a y.a, c2 x.b y.b] = ordP x y := by
  simp only [firstI, ordP, lexc]
  split
  · split
    · rename_i h; exact h.symm
    · rfl
  · rfl
theorem ordR_first (x y : Rte) : firstI [ordP x.p y.p, c2 x.f y.f, c2 x.d y.d, c2 x.m y.m, c2 x.t y.t, c2 x.h y.h, compareBytes x.i y.i, cB x.x y.x] = ordR x y := by
  have key : ∀ a : Int, (if a = 0 then 0 else a) = a := fun a => by split <;> omega
  simp only [firstI, ordR, lexc, key]
namespace Ab
def rteD (r : Rte) : List Dat := [.sc (.int .u32 r.p.a), .sc (.int .i64 r.p.b), .sc (.int .u8 r.f), .sc (.int .i64 r.d), .sc (.int .i64 r.m), .sc (.int .i64 r.t), .sc (.string ⟨⟨r.i⟩⟩), .sc (.int .u32 r.h), .sc (.bool r.x)]
theorem rteD_len (r : Rte) : (rteD r).length = 9 := rfl
def rteA (r : Rte) : AVal := .agg [.d (.sc (.int .u32 r.p.a)), .d (.sc (.int .i64 r.p.b)), .d (.sc (.int .u8 r.f)), .d (.sc (.int .i64 r.d)), .d (.sc (.int .i64 r.m)), .d (.sc (.int .i64 r.t)), .d (.sc (.string ⟨⟨r.i⟩⟩)), .d (.sc (.int .u32 r.h)), .d (.sc (.bool r.x))]
def rtesA (l : List Rte) : AVal := .d (.sl (l.flatMap rteD) l.length)
end Ab
end Go.Proofs.YtenolkolkpfjgaaGreat

namespace Go.Proofs.YtenolkolkpfjgaaGreat.Ab
set_option linter.unusedVariables false
open Go.RowKit
class NPc (Q : Post) : Prop where
  np : NoPanic Q
instance {K : Env → Heap → Prop} {Q : Post} [I : NPc Q] : NPc (AThen K Q) := ⟨np_then I.np⟩
instance {j : Nat} {Q : Post} [I : NPc Q] : NPc (AIn j Q) := ⟨np_in I.np⟩
instance {nt : Nat} {tab : TTab} {rs : List ResultVar} {R : AVal → Heap → Prop} : NPc (APost nt tab rs R) := ⟨np_post⟩
instance : NPc RF := ⟨fun _ _ _ h => h⟩
section
variable {nt : Nat} {Q : Post} {e : Env} {h : Heap} {ops : Array Oper} {o : Oper} {T : List Nat} {fuel : Nat} {listed : Array Bool}
theorem q_1 {x : Operand} {c : AVal} (ho : o.op = .move x := by exact rfl) (hx : aev e x = some c := by exact rfl) : AYield Tryz.prog T e h o c := Y_move ho hx
theorem q_2 {x : Operand} {c : AVal} (ho : o.op = .assign x := by exact rfl) (hx : aev e x = some c := by exact rfl) : AYield Tryz.prog T e h o c := Y_assign ho hx
theorem q_3 {t el k j : Nat} {x y : Operand} {cs : List Dat} {n : Nat} {q : IntKind} {i : Int} (ho : o.op = .indexAddr t x y := by exact rfl) (hel : telem tab t = some el := by exact rfl) (hsz : tsize tab el = some k := by exact rfl) (hx : aev e x = some (.d (.sl cs n)) := by exact rfl) (hy : aev e y = some (.d (.sc (.int q i))) := by exact rfl) (hj : i = (j : Int) := by exact rfl) (hlt : j < n := by omega) : AYield Tryz.prog T e h o (.iptr cs (j * k)) := R_index tabOk ho hel hsz hx hy hj hlt
theorem q_4 {t f off o1 : Nat} {x : Operand} {cs : List Dat} (ho : o.op = .fieldAddr t x f := by exact rfl) (hf : tfield tab t f = some off := by exact rfl) (hx : aev e x = some (.iptr cs o1) := by exact rfl) : AYield Tryz.prog T e h o (.iptr cs (o1 + off)) := R_fieldi tabOk ho hf hx
theorem q_5 {t o1 s : Nat} {x : Operand} {cs xs : List Dat} {c : AVal} {ag : Bool} (ho : o.op = .load t x := by exact rfl) (hs : tsize tab t = some s := by exact rfl) (ha : tagg tab t = some ag := by exact rfl) (hx : aev e x = some (.iptr cs o1) := by exact rfl) (hw : win cs o1 s = xs := by exact rfl) (hl : Nat.beq xs.length s = true := by exact rfl) (hc : lval ag (xs.map AVal.d) = some c := by exact rfl) : AYield Tryz.prog T e h o c := R_loadi tabOk ho hs ha hx hw hl hc
theorem q_6 {t el : Nat} {x : Operand} {cs : List Dat} {n : Nat} (ho : o.op = .call { callee := .builtin .len, args := #[x], argTypes := #[t] } := by exact rfl) (hel : telem tab t = some el := by exact rfl) (hx : aev e x = some (.d (.sl cs n)) := by exact rfl) : AYield Tryz.prog T e h o (.d (.sc (.int .i64 (n : Int)))) := R_len tabOk ho hel hx
theorem q_7 {t id o1 s : Nat} {x : Operand} {cs xs : List AVal} {c : AVal} {ag : Bool} (ho : o.op = .load t x := by exact rfl) (hs : tsize tab t = some s := by exact rfl) (ha : tagg tab t = some ag := by exact rfl) (hx : aev e x = some (.ptr id o1) := by exact rfl) (hb : look h id = some (.var cs) := by exact rfl) (hT : T.contains id = false := by exact rfl) (hw : win cs o1 s = xs := by exact rfl) (hl : Nat.beq xs.length s = true := by exact rfl) (hc : lval ag xs = some c := by exact rfl) : AYield Tryz.prog T e h o c := R_load tabOk ho hs ha hx hb hT hw hl hc
theorem q_8 {t f off o1 id : Nat} {x : Operand} (ho : o.op = .fieldAddr t x f := by exact rfl) (hf : tfield tab t f = some off := by exact rfl) (hx : aev e x = some (.ptr id o1) := by exact rfl) (hb : (look h id).isSome = true := by exact rfl) : AYield Tryz.prog T e h o (.ptr id (o1 + off)) := R_field tabOk ho hf hx hb
theorem q_9 {t u : TypeId} {x y : Operand} {k : IntKind} {a b r : Int} (ho : o.op = .binOp .add t x y u := by exact rfl) (hx : aev e x = some (.d (.sc (.int k a))) := by exact rfl) (hy : aev e y = some (.d (.sc (.int k b))) := by exact rfl) (hr : k.wrap (a + b) = r := by first | exact wrap_succ (by omega) | exact wrap_pred (by omega) (by omega) | exact wrap_i64 ⟨by omega, by omega⟩ | rfl) : AYield Tryz.prog T e h o (.d (.sc (.int k r))) := Y_add ho hx hy hr
theorem q_10 {t u : TypeId} {x y : Operand} {k : IntKind} {a b r : Int} (ho : o.op = .binOp .sub t x y u := by exact rfl) (hx : aev e x = some (.d (.sc (.int k a))) := by exact rfl) (hy : aev e y = some (.d (.sc (.int k b))) := by exact rfl) (hr : k.wrap (a - b) = r := by first | exact wrap_succ (by omega) | exact wrap_pred (by omega) (by omega) | exact wrap_i64 ⟨by omega, by omega⟩ | rfl) : AYield Tryz.prog T e h o (.d (.sc (.int k r))) := Y_sub ho hx hy hr
theorem q_11 {op : BinOp} {t u : TypeId} {x y : Operand} {k : IntKind} {a b : Int} {c : Bool} (ho : o.op = .binOp op t x y u := by exact rfl) (hx : aev e x = some (.d (.sc (.int k a))) := by exact rfl) (hy : aev e y = some (.d (.sc (.int k b))) := by exact rfl) (hr : ibin op k a b = some (.bool c) := by exact rfl) (hc : c = true := by first | (simp only [decide_eq_true_eq, beq_iff_eq, bne_iff_ne, ne_eq]; done) | (simp only [decide_eq_true_eq, beq_iff_eq, bne_iff_ne, ne_eq]; omega)) : AYield Tryz.prog T e h o (.d (.sc (.bool true))) := R_cmpT ho hx hy hr hc
theorem q_12 {op : BinOp} {t u : TypeId} {x y : Operand} {k : IntKind} {a b : Int} {c : Bool} (ho : o.op = .binOp op t x y u := by exact rfl) (hx : aev e x = some (.d (.sc (.int k a))) := by exact rfl) (hy : aev e y = some (.d (.sc (.int k b))) := by exact rfl) (hr : ibin op k a b = some (.bool c) := by exact rfl) (hc : c = false := by first | (simp only [decide_eq_false_iff_not, beq_eq_false_iff_ne, bne_eq_false_iff_eq, ne_eq]; done) | (simp only [decide_eq_false_iff_not, beq_eq_false_iff_ne, bne_eq_false_iff_eq, ne_eq]; omega)) : AYield Tryz.prog T e h o (.d (.sc (.bool false))) := R_cmpF ho hx hy hr hc
theorem q_13 {op : BinOp} {t u : TypeId} {x y : Operand} {k : IntKind} {a b : Int} {r : Value} (ho : o.op = .binOp op t x y u := by exact rfl) (hx : aev e x = some (.d (.sc (.int k a))) := by exact rfl) (hy : aev e y = some (.d (.sc (.int k b))) := by exact rfl) (hr : ibin op k a b = some r := by exact rfl) : AYield Tryz.prog T e h o (.d (.sc r)) := Y_ibin ho hx hy hr
theorem q_14 {x : Operand} {i : Nat} {cs : List AVal} {c : AVal} (ho : o.op = .extract x i := by exact rfl) (hx : aev e x = some (.tup cs) := by exact rfl) (hi : cs[i]? = some c := by exact rfl) : AYield Tryz.prog T e h o c := Y_extract ho hx hi
theorem q_15 {t el el' id k n : Nat} {x : Operand} {cs : List Dat} (ho : o.op = .call { callee := .builtin .len, args := #[x], argTypes := #[t] } := by exact rfl) (hel : telem tab t = some el := by exact rfl) (hx : aev e x = some (.row id) := by exact rfl) (hb : look h id = some (.row el' k n cs) := by exact rfl) : AYield Tryz.prog T e h o (.d (.sc (.int .i64 (n : Int)))) := R_lenr tabOk ho hel hx hb
theorem q_16 {t el : Nat} {x : Operand} (ho : o.op = .call { callee := .builtin .len, args := #[x], argTypes := #[t] } := by exact rfl) (hel : telem tab t = some el := by exact rfl) (hx : aev e x = some (.d (.sc (.slice none 0 0))) := by exact rfl) : AYield Tryz.prog T e h o (.d (.sc (.int .i64 0))) := R_lenn tabOk ho hel hx
theorem q_17 {t el el' k kk j id : Nat} {x y : Operand} {cs : List Dat} {n : Nat} {q : IntKind} {i : Int} (ho : o.op = .indexAddr t x y := by exact rfl) (hel : telem tab t = some el := by exact rfl) (hsz : tsize tab el = some k := by exact rfl) (hx : aev e x = some (.row id) := by exact rfl) (hb : look h id = some (.row el' kk n cs) := by exact rfl) (hy : aev e y = some (.d (.sc (.int q i))) := by exact rfl) (hj : i = (j : Int) := by exact rfl) (hlt : j < n := by omega) : AYield Tryz.prog T e h o (.eptr id (j * k)) := R_indexr tabOk ho hel hsz hx hb hy hj hlt
theorem q_18 {t f off o1 id : Nat} {x : Operand} (ho : o.op = .fieldAddr t x f := by exact rfl) (hf : tfield tab t f = some off := by exact rfl) (hx : aev e x = some (.eptr id o1) := by exact rfl) (hb : (look h id).isSome = true := by exact rfl) : AYield Tryz.prog T e h o (.eptr id (o1 + off)) := R_fielde tabOk ho hf hx hb
theorem q_19 {t id o1 s el k n : Nat} {x : Operand} {cs xs : List Dat} {c : AVal} {ag : Bool} (ho : o.op = .load t x := by exact rfl) (hs : tsize tab t = some s := by exact rfl) (ha : tagg tab t = some ag := by exact rfl) (hx : aev e x = some (.eptr id o1) := by exact rfl) (hb : look h id = some (.row el k n cs) := by exact rfl) (hT : T.contains id = false := by exact rfl) (hw : win cs o1 s = xs := by exact rfl) (hl : Nat.beq xs.length s = true := by exact rfl) (hc : lval ag (xs.map AVal.d) = some c := by exact rfl) : AYield Tryz.prog T e h o c := R_loade tabOk ho hs ha hx hb hT hw hl hc
theorem q_20 {t : TypeId} {x : Operand} {b : Bool} (ho : o.op = .unOp .not t x := by exact rfl) (hx : aev e x = some (.d (.sc (.bool b))) := by exact rfl) : AYield Tryz.prog T e h o (.d (.sc (.bool !b))) := Y_not ho hx
theorem q_21 {x y z : Operand} {b : Bool} {c : AVal} (ho : o.op = .pick x y z := by exact rfl) (hx : aev e x = some (.d (.sc (.bool b))) := by exact rfl) (hb : b = true := by first | rfl | assumption) (hy : aev e y = some c := by exact rfl) : AYield Tryz.prog T e h o c := Y_pick_t ho hx hb hy
theorem q_22 {x y z : Operand} {b : Bool} {c : AVal} (ho : o.op = .pick x y z := by exact rfl) (hx : aev e x = some (.d (.sc (.bool b))) := by exact rfl) (hb : b = false := by first | rfl | assumption) (hz : aev e z = some c := by exact rfl) : AYield Tryz.prog T e h o c := Y_pick_f ho hx hb hz
theorem q_23 {x y z : Operand} {b p q : Bool} (ho : o.op = .pick x y z := by exact rfl) (hx : aev e x = some (.d (.sc (.bool b))) := by exact rfl) (hy : aev e y = some (.d (.sc (.bool p))) := by exact rfl) (hz : aev e z = some (.d (.sc (.bool q))) := by exact rfl) : AYield Tryz.prog T e h o (.d (.sc (.bool (cond b p q)))) := Y_pick_b ho hx hy hz
theorem q_24 {t : TypeId} {ps : Array (Nat × Operand)} {al : List (Nat × AVal)} {z xs : List AVal} {fs : List (Nat × TypeId)} (ho : o.op = .build t ps := by exact rfl) (hz : tzero tab t = some z := by exact rfl) (hfs : (match tlook tab t with | some ⟨_, _, _, _, .st fs⟩ => some fs | _ => none) = some fs := by exact rfl) (hal' : fs.all (fun f => (tlook tab f.2).isSome) = true := by exact rfl) (hal : aparts e ps.toList = some al := by exact rfl) (hf : afill (stPlace tab fs) z al = some xs := by exact rfl) : AYield Tryz.prog T e h o (.agg xs) := R_build tabOk ho hz hfs hal' hal hf
theorem q_M (i : Nat) {c : AVal} {d : Nat} [I : NPc Q] (hi : ops[i]? = some o) (hk : memOp o.op = false) (hs : Region.noSelect ops = true) (hf : Region.free .any ops listed i = true) (hr : (Region.ready .any ops listed).contains i = true)
    (hw : awant ops e o = some true) (hdst : o.dst = some d) (hd : Nat.blt d nt = true) (hy : AYield Tryz.prog T e h o c) (H : AAny Tryz.prog nt ops Q T fuel (listed.setIfInBounds i true) ((d, c) :: e) h) : AAny Tryz.prog nt ops Q T (fuel + 1) listed e h := N_take hi hs hf hr I.np hw hdst hd hy H
theorem q_L (i : Nat) {c : AVal} {d : Nat} [I : NPc Q] (hi : ops[i]? = some o) (hk : memOp o.op = true) (hs : Region.noSelect ops = true) (hf : Region.free .any ops listed i = true) (hr : (Region.ready .any ops listed).contains i = true)
    (hw : awant ops e o = some true) (hdst : o.dst = some d) (hd : Nat.blt d nt = true) (hy : AYield Tryz.prog T e h o c) (H : AAny Tryz.prog nt ops Q T fuel (listed.setIfInBounds i true) ((d, c) :: e) h) : AAny Tryz.prog nt ops Q T (fuel + 1) listed e h := N_take hi hs hf hr I.np hw hdst hd hy H
theorem q_25 {x y z : Operand} {b : Bool} {c : AVal} (ho : o.op = .pick x y z := by exact rfl) (hx : aev e x = some (.d (.sc (.bool b))) := by exact rfl) (hb : b = true := by exact rfl) (hy : aev e y = some c := by exact rfl) : AYield Tryz.prog T e h o c := Y_pick_t ho hx hb hy
theorem q_26 {x y z : Operand} {b : Bool} {c : AVal} (ho : o.op = .pick x y z := by exact rfl) (hx : aev e x = some (.d (.sc (.bool b))) := by exact rfl) (hb : b = false := by exact rfl) (hz : aev e z = some c := by exact rfl) : AYield Tryz.prog T e h o c := Y_pick_f ho hx hb hz
theorem q_A {c : AVal} (hy : AYield Tryz.prog T e h o c := by first | exact q_1 | exact q_2 | exact q_3 | exact q_4) : AYield Tryz.prog T e h o c := hy
theorem q_B {c : AVal} (hy : AYield Tryz.prog T e h o c := by first | exact q_6 | exact q_7 | exact q_8 | exact q_9 | exact q_10 | exact q_11 | exact q_12 | exact q_13 | exact q_14 | exact q_15 | exact q_16 | exact q_17 | exact q_18 | exact q_19 | exact q_20 | exact q_21 | exact q_22 | exact q_23 | exact q_24) : AYield Tryz.prog T e h o c := hy
variable {rest : List Oper} {K : Env → Heap → Prop}
theorem q_a {t : TypeId} {d : Nat} {z : List AVal} (HK : AOps Tryz.prog nt ops Q rest ((d, .ptr d 0) :: killE d e) ((d, .var z) :: killH d h)) (hw : awant ops e o = some true := by exact rfl) (hdst : o.dst = some d := by exact rfl) (hd : Nat.blt d nt = true := by exact rfl) (hid : Nat.blt d 1000 = true := by exact rfl) (ho : o.op = .alloc t := by exact rfl) (hz : tzero tab t = some z := by exact rfl) : AOps Tryz.prog nt ops Q (o :: rest) e h := O_alloc tabOk hw hdst hd hid ho hz HK
theorem q_b {t : TypeId} {x y : Operand} {id off s : Nat} {cs xs : List AVal} {c : AVal} (HK : AOps Tryz.prog nt ops Q rest e ((id, .var (setW cs off xs)) :: h)) (hw : awant ops e o = some true := by exact rfl) (hdst : o.dst = none := by exact rfl) (ho : o.op = .store t x y := by exact rfl) (hx : aev e x = some (.ptr id off) := by exact rfl) (hb : look h id = some (.var cs) := by exact rfl)
    (hy : aev e y = some c := by exact rfl) (hcs : cellsA c = some xs := by exact rfl) (hp : xs.all plainC = true := by exact rfl) (hs : tsize tab t = some s := by exact rfl) (hl : Nat.beq xs.length s = true := by exact rfl) (hle : Nat.ble (off + s) cs.length = true := by exact rfl) : AOps Tryz.prog nt ops Q (o :: rest) e h := O_store tabOk hw hdst ho hx hb hy hcs hp hs hl hle HK
theorem q_c {t el k len d : Nat} {ps : Array (Nat × Operand)} {al : List (Nat × AVal)} {xs : List AVal} {ds : List Dat} (HK : AOps Tryz.prog nt ops Q rest ((d, .row d) :: killE d e) ((d, .row el k len ds) :: killH d h)) (hw : awant ops e o = some true := by exact rfl) (hdst : o.dst = some d := by exact rfl) (hd : Nat.blt d nt = true := by exact rfl) (hid : Nat.blt d 1000 = true := by exact rfl) (ho : o.op = .buildSlice t len ps := by exact rfl)
    (hel : telem tab t = some el := by exact rfl) (hsz : tsize tab el = some k := by exact rfl) (hok : (match tlook tab el with | some te => te.zero.all (·.oneCell') && Nat.blt 0 te.size && Nat.beq te.zero.length te.size && Nat.blt (len * te.size) 16777216 && Nat.blt 0 len | none => false) = true := by exact rfl)
    (hal : aparts e ps.toList = some al := by exact rfl) (hf : (match tlook tab el with
      | some te => afill (fun i => some (i * te.size, te.size)) ((List.range (len * te.size)).map fun j => match te.zero[j % te.size]? with | some v => .d (.sc v) | none => .top) al
      | none => none) = some xs := by exact rfl) (hds : datsA xs = some ds := by exact rfl) : AOps Tryz.prog nt ops Q (o :: rest) e h := O_slice tabOk hw hdst hd hid ho hel hsz hok hal hf hds HK
theorem q_d {t : TypeId} {x : Operand} {d : Nat} {c : AVal} {cs : List AVal} (HK : AOps Tryz.prog nt ops Q rest ((d, .ptr d 0) :: killE d e) ((d, .var (cs.map (killV d))) :: killH d h)) (hw : awant ops e o = some true := by exact rfl) (hdst : o.dst = some d := by exact rfl) (hd : Nat.blt d nt = true := by exact rfl) (hid : Nat.blt d 1000 = true := by exact rfl) (ho : o.op = .box t x := by exact rfl) (hx : aev e x = some c := by exact rfl) (hcs : cellsA c = some cs := by exact rfl) : AOps Tryz.prog nt ops Q (o :: rest) e h := O_box hw hdst hd hid ho hx hcs HK
theorem q_e {d : Nat} (H : AOps Tryz.prog nt ops Q rest ((d, .und) :: e) h) (hw : awant ops e o = some false := by exact rfl) (hdst : o.dst = some d := by exact rfl) (hd : Nat.blt d nt = true := by exact rfl) : AOps Tryz.prog nt ops Q (o :: rest) e h := O_s hw hdst hd H
theorem q_f {d : Nat} (H : AQ Tryz.prog nt ops Q rest ((d, .und) :: e) h) (hw : awant ops e o = some false := by exact rfl) (hdst : o.dst = some d := by exact rfl) (hd : Nat.blt d nt = true := by exact rfl) : AQ Tryz.prog nt ops Q (o :: rest) e h := Q_s hw hdst hd H
theorem q_g (H : AOps Tryz.prog nt ops Q rest e h) (hw : awant ops e o = some false := by exact rfl) (hdst : o.dst = none := by exact rfl) : AOps Tryz.prog nt ops Q (o :: rest) e h := O_sn hw hdst H
theorem q_h {i j : Nat} (H : Q (.exit i) e h) (hb : Nat.beq i j = false := by exact rfl) : AIn j Q (.exit i) e h := X_in_other hb H
theorem q_j (H : K e h) : AThen K Q .normal e h := H
theorem q_k {j : Nat} (H : Q .normal e h) : AIn j Q .normal e h := H
theorem q_l {j : Nat} (H : Q (.exit j) e h) : AThen K Q (.exit j) e h := H
theorem q_m (H : Q .ret e h) : AThen K Q .ret e h := H
theorem q_n {j : Nat} (H : Q .normal e h) : AIn j Q (.exit j) e h := X_in_same H
theorem q_o {j : Nat} (H : Q .ret e h) : AIn j Q .ret e h := H
theorem q_Z {G G' : Prop} (h : G') (s : G' → G := by first | exact A_seq | exact A_block | exact fun x => R_list x | exact O_nil | exact Q_nil | exact q_j | exact q_k | exact A_skip | exact A_exit | exact A_ret | exact q_l | exact q_m | exact q_n | exact q_o) : G := s h
theorem q_W {G G' : Prop} (h : G') (s : G' → G := by first | exact fun x => q_h x | exact fun x => q_e x | exact fun x => q_f x | exact fun x => q_g x) : G := s h
theorem q_P (i : Nat) {c : AVal} {d : Nat} [I : NPc Q] (hi : ops[i]? = some o) (hs : (Region.noSelect ops && Region.free .any ops listed i && (Region.ready .any ops listed).contains i) = true)
    (hw : awant ops e o = some true) (hdst : o.dst = some d) (hd : Nat.blt d nt = true) (hy : AYield Tryz.prog T e h o c) (H : AAny Tryz.prog nt ops Q T fuel (listed.setIfInBounds i true) ((d, c) :: e) h) : AAny Tryz.prog nt ops Q T (fuel + 1) listed e h := by
  simp only [Bool.and_eq_true] at hs
  exact N_take hi hs.1.1 hs.1.2 hs.2 I.np hw hdst hd hy H
end
end Go.Proofs.YtenolkolkpfjgaaGreat.Ab

/-
  Texts of a proof, one behind the other (part 5).
-/
import Derived.Test.YtblgdfcijkaimaaRows
import Derived.StillTailTactics
import Derived.Deep.RegionHeld3
import Derived.Shelf.SlGeneric
import Derived.Shelf.Small.Bits
import Derived.Shelf.Strconv.Itoa0
import Derived.Shelf.SlSortCmp.WholeK
import Derived.Test.YtblgdfcijkaimaaProg
import Derived.Lib.BitFns
import Derived.Lib.Bytealg
import Derived.Test.YtblgdfcijkaimaaBg1
import Derived.Test.YtblgdfcijkaimaaBg2
import Derived.Test.YtblgdfcijkaimaaBg3
set_option linter.unusedVariables false
set_option linter.unusedSimpArgs false
namespace Go.Proofs.Ytblgdfcijkaimaa
set_option linter.unusedVariables false
open Go.RowKit Go.Sort

abbrev Pfx.v (p : Pfx) : Value := .agg #[.int .u32 p.a, .int .i64 p.b]

set_option maxHeartbeats 400000 in
theorem behind_any (n : Int) (w : World) (h0 : 0 ≤ n) (h1 : n ≤ 32) : Calls Try.prog 26 #[.int .i64 n] w (RetS w (.int .u32 (sz n - 1))) := by
  go_enter Try.func26, Try.ntmps26
  go_wp2
  go_ret
  refine ⟨ret_int ?_, rfl⟩
  have h2 := sz_pos n
  have h3 := sz_le n h0
  have e : (2 : Int) ^ (32 - n).toNat = sz n := rfl
  simp only [IntKind.wrap, IntKind.bits, IntKind.signed]
  rw [e]; simp; omega

set_option maxHeartbeats 400000 in
theorem size_any (n : Int) (w : World) (h0 : 0 ≤ n) (h1 : n ≤ 32) : Calls Try.prog 28 #[.int .i64 n] w (RetS w (.int .u64 (sz n))) := by
  go_enter Try.func28, Try.ntmps28
  go_wp2
  go_loop [3, 4] (fun o i => ∃ (k : Int) (x : Int), n ≤ k ∧ k ≤ 32 ∧ i = .int .i64 k ∧ o = .int .u64 x ∧ 0 ≤ x ∧ x ≤ 4294967296 ∧ Hid (x * sz k = sz n)) (fun _ i => (32 - intOf i).toNat)
  case atStart => exact ⟨n, 1, by omega, h1, rfl, rfl, by omega, by omega, Int.one_mul _⟩
  case round =>
    obtain ⟨k, x, hk, hk2, rfl, rfl, hx0, hx1, H⟩ := hrel
    by_cases hlt : k < 32
    · go_wp2
      go_round
      case rel =>
        have h := sz_step n k x hlt h0 hx0 H.out
        exact ⟨k + 1, 2 * x, by omega, by omega, rfl, rfl, by omega, h.2, h.1⟩
      case measure => simp [intOf]; omega
    · obtain rfl : k = 32 := by omega
      go_wp2
      go_ret
      refine ⟨ret_int ?_, rfl⟩
      have h := H.out
      rw [sz_32] at h; omega

theorem andNot_u32 (x n : Int) (h0 : 0 ≤ n) (h1 : n ≤ 32) (x0 : 0 ≤ x) (x1 : x < 4294967296) : bits .andNot .u32 x (sz n - 1) = x / sz n * sz n := by
  have h2 := sz_pos n
  have h3 := sz_le n h0
  rw [u32_andNot _ _ x0 x1 (by omega) (by omega)]
  obtain ⟨a, rfl⟩ := Int.eq_ofNat_of_zero_le x0
  have e : (sz n - 1).toNat = 2 ^ (32 - n).toNat - 1 := by rw [sz_nat]; omega
  rw [e, Int.toNat_natCast, andNot_low a _ (by omega) (by omega), sz_nat]
  simp
theorem and_u32 (x n : Int) (h0 : 0 ≤ n) (x0 : 0 ≤ x) (x1 : x < 4294967296) : bits .and .u32 x (sz n - 1) = x % sz n := by
  have h2 := sz_pos n
  have h3 := sz_le n h0
  rw [u32_and _ _ x0 x1 (by omega) (by omega)]
  obtain ⟨a, rfl⟩ := Int.eq_ofNat_of_zero_le x0
  have e : (sz n - 1).toNat = 2 ^ (32 - n).toNat - 1 := by rw [sz_nat]; omega
  rw [e, Int.toNat_natCast, and_low a, sz_nat]
  simp

set_option maxHeartbeats 400000 in
theorem check_any (p : Pfx) (w : World) (hp : p.ok) : Calls Try.prog 25 #[p.v] w (Ret w (.int .i64 (chk p))) := by
  obtain ⟨a, b⟩ := p
  obtain ⟨a0, a1, b0, b1⟩ := hp
  dsimp only at a0 a1 b0 b1
  by_cases hb : b < 0 ∨ 32 < b
  · have hc : chk ⟨a, b⟩ = 1 := if_pos hb
    rw [hc]; clear hc
    rcases hb with hb | hb
    · go_enter Try.func25, Try.ntmps25
      go_wp2_with fail
      go_ret
      exact ⟨rfl, (Below.refl _ _).alloc (Nat.le_refl _) _⟩
    · have hb' : ¬ b < 0 := by omega
      go_enter Try.func25, Try.ntmps25
      go_wp2_with fail
      go_ret
      exact ⟨rfl, (Below.refl _ _).alloc (Nat.le_refl _) _⟩
  · have h0 : 0 ≤ b := by omega
    have h1 : b ≤ 32 := by omega
    have hbit := and_u32 a b h0 a0 a1
    have hc : chk ⟨a, b⟩ = if a % sz b = 0 then 0 else 10 := if_neg hb
    rw [hc]; clear hc hb
    by_cases hm : a % sz b = 0
    · rw [if_pos hm]
      have hB : (bits .and .u32 a (sz b - 1) != 0) = false := by rw [hbit, hm]; rfl
      clear hbit hm
      go_enter Try.func25, Try.ntmps25
      go_wp2_with fail
      go_quiet ((go_at_call 26; exact RetS.d (behind_any _ _ h0 h1)))
      go_wp2_with fail
      go_ret
      exact ⟨rfl, below_drewN ((Below.refl _ _).alloc (Nat.le_refl _) _) _⟩
    · rw [if_neg hm]
      have hB : (bits .and .u32 a (sz b - 1) != 0) = true := by rw [hbit]; simpa using hm
      clear hbit hm
      go_enter Try.func25, Try.ntmps25
      go_wp2_with fail
      go_quiet ((go_at_call 26; exact RetS.d (behind_any _ _ h0 h1)))
      go_wp2_with fail
      go_ret
      exact ⟨rfl, below_drewN ((Below.refl _ _).alloc (Nat.le_refl _) _) _⟩
set_option maxHeartbeats 400000 in
theorem refCheck_any (p : Pfx) (w : World) (hp : p.ok) : Calls Try.prog 27 #[p.v] w (Ret w (.int .i64 (chk p))) := by
  obtain ⟨a, b⟩ := p
  obtain ⟨a0, a1, b0, b1⟩ := hp
  dsimp only at a0 a1 b0 b1
  by_cases hb : b < 0 ∨ 32 < b
  · have hc : chk ⟨a, b⟩ = 1 := if_pos hb
    rw [hc]; clear hc
    rcases hb with hb | hb
    · go_enter Try.func27, Try.ntmps27
      go_wp2_with fail
      go_ret
      exact ⟨rfl, (Below.refl _ _).alloc (Nat.le_refl _) _⟩
    · have hb' : ¬ b < 0 := by omega
      go_enter Try.func27, Try.ntmps27
      go_wp2_with fail
      go_ret
      exact ⟨rfl, (Below.refl _ _).alloc (Nat.le_refl _) _⟩
  · have h0 : 0 ≤ b := by omega
    have h1 : b ≤ 32 := by omega
    have hp := sz_pos b
    have hz : ¬ sz b = 0 := by omega
    have e1 : IntKind.u64.wrap a = a := by simp [IntKind.wrap, IntKind.bits, IntKind.signed]; omega
    have e2 : a.tmod (sz b) = a % sz b := Int.tmod_eq_emod_of_nonneg a0
    have hc : chk ⟨a, b⟩ = if a % sz b = 0 then 0 else 10 := if_neg hb
    rw [hc]; clear hc hb
    by_cases hm : a % sz b = 0
    · rw [if_pos hm]
      have hB : (a % sz b != 0) = false := by rw [hm]; rfl
      clear hm e2
      go_enter Try.func27, Try.ntmps27
      go_wp2_with fail
      go_quiet ((go_at_call 28; exact RetS.d (size_any _ _ h0 h1)))
      go_wp2_with fail
      go_ret
      exact ⟨rfl, below_drewN ((Below.refl _ _).alloc (Nat.le_refl _) _) _⟩
    · rw [if_neg hm]
      have hB : (a % sz b != 0) = true := by simpa using hm
      clear hm e2
      go_enter Try.func27, Try.ntmps27
      go_wp2_with fail
      go_quiet ((go_at_call 28; exact RetS.d (size_any _ _ h0 h1)))
      go_wp2_with fail
      go_ret
      exact ⟨rfl, below_drewN ((Below.refl _ _).alloc (Nat.le_refl _) _) _⟩

theorem new2 (w : World) (u v : Value) (t : TypeId) : (w.alloc (.cells #[u, v] t)).cell? ⟨w.heap.size, 0, none⟩ = some u ∧ (w.alloc (.cells #[u, v] t)).cell? ⟨w.heap.size, 1, none⟩ = some v := by
  constructor <;> simp

set_option maxHeartbeats 400000 in
theorem in_any (x : Int) (p : Pfx) (w : World) (hp : p.ok) (x0 : 0 ≤ x) (x1 : x < 4294967296) : Calls Try.prog 15 #[.int .u32 x, p.v] w (Ret w (.bool (inB x p))) := by
  have hC := fun W => check_any p W hp
  by_cases hg : good p
  · have hc : chk p = 0 := (chk_eq p).2 hg
    have hI := inB_low x p hg
    have hbit := andNot_u32 x p.b hg.1 hg.2.1 x0 x1
    have hBe := fun W => behind_any p.b W hg.1 hg.2.1
    rw [hc] at hC
    obtain ⟨a, b⟩ := p
    clear hc hg
    dsimp only at *
    have k := new2 w (.int .u32 a) (.int .i64 b) 30
    have k0 := cell_regrown k.1
    have k1 := cell_regrown k.2
    clear k
    go_enter Try.func15, Try.ntmps15
    go_wp2_with fail
    refine wp_region_quiet_below (by kernel_rfl) (by kernel_rfl) ?_
    repeat (first | go_big_quiet_step ((first | (go_at_call 25; exact Ret.q0 hC) | (go_at_call 26; exact RetS.q0 hBe))) | quiet_step ((first | (go_at_call 25; exact Ret.q0 hC) | (go_at_call 26; exact RetS.q0 hBe))))
    refine wpQuiet_nil ?_
    intro wq hq'
    have hq := below_of_regrown hq'
    clear hq'
    go_wp2_with fail
    go_ret
    refine ⟨ret_bool ?_, below_trans ((Below.refl _ _).alloc (Nat.le_refl _) _) hq⟩
    rw [← hI]; rfl
  · have hc : (chk p == 0) = false := by have := mt (chk_eq p).1 hg; simpa using this
    rw [inB_no x p hg]
    obtain ⟨a, b⟩ := p
    clear hg
    have k := new2 w (.int .u32 a) (.int .i64 b) 30
    have k0 := cell_regrown k.1
    have k1 := cell_regrown k.2
    clear k
    go_enter Try.func15, Try.ntmps15
    go_wp2_with fail
    refine wp_region_quiet_below (by kernel_rfl) (by kernel_rfl) ?_
    repeat (first | go_big_quiet_step ((first | (go_at_call 25; exact Ret.q0 hC))) | quiet_step ((first | (go_at_call 25; exact Ret.q0 hC))))
    refine wpQuiet_nil ?_
    intro wq hq'
    have hq := below_of_regrown hq'
    clear hq'
    go_wp2_with fail
    go_ret
    exact ⟨rfl, below_trans ((Below.refl _ _).alloc (Nat.le_refl _) _) hq⟩
end Go.Proofs.Ytblgdfcijkaimaa

namespace Go.Proofs.Ytblgdfcijkaimaa
set_option linter.unusedVariables false
open Go.RowKit Go.Sort

set_option maxHeartbeats 400000 in
theorem refIn_any (x : Int) (p : Pfx) (w : World) (hp : p.ok) (x0 : 0 ≤ x) (x1 : x < 4294967296) : Calls Try.prog 16 #[.int .u32 x, p.v] w (Ret w (.bool (inB x p))) := by
  have hC := fun W => refCheck_any p W hp
  by_cases hg : good p
  · have hc : chk p = 0 := (chk_eq p).2 hg
    have hS := fun W => size_any p.b W hg.1 hg.2.1
    rw [hc] at hC
    have hp0 := sz_pos p.b
    have hI : inB x p = (decide (p.a ≤ x) && decide (x < p.a + sz p.b)) := by unfold inB; simp [hg]
    obtain ⟨a, b⟩ := p
    obtain ⟨a0, a1, b0, b1⟩ := hp
    clear hc hg
    dsimp only at *
    rw [hI]; clear hI
    have k := new2 w (.int .u32 a) (.int .i64 b) 30
    have k0 := cell_regrown k.1
    have k1 := cell_regrown k.2
    clear k
    have e1 : IntKind.u64.wrap x = x := by simp [IntKind.wrap, IntKind.bits, IntKind.signed]; omega
    have e2 : IntKind.u64.wrap a = a := by simp [IntKind.wrap, IntKind.bits, IntKind.signed]; omega
    by_cases hle : a ≤ x
    · have hd : decide (a ≤ x) = true := by simpa using hle
      have e3 : IntKind.u64.wrap (x - a) = x - a := by simp [IntKind.wrap, IntKind.bits, IntKind.signed]; omega
      have e4 : decide (x < a + sz b) = decide (x - a < sz b) := by rw [decide_eq_decide]; omega
      rw [hd, Bool.true_and, e4]; clear e4
      go_enter Try.func16, Try.ntmps16
      go_wp2_with fail
      refine wp_region_quiet_below (by kernel_rfl) (by kernel_rfl) ?_
      repeat (first | go_big_quiet_step ((first | (go_at_call 27; exact Ret.q0 hC) | (go_at_call 28; exact RetS.q0 hS))) | quiet_step ((first | (go_at_call 27; exact Ret.q0 hC) | (go_at_call 28; exact RetS.q0 hS))))
      refine wpQuiet_nil ?_
      intro wq hq'
      have hq := below_of_regrown hq'
      clear hq'
      go_wp2_with fail
      go_ret
      exact ⟨by rfl, below_trans ((Below.refl _ _).alloc (Nat.le_refl _) _) hq⟩
    · have hd : decide (a ≤ x) = false := by simpa using hle
      rw [hd, Bool.false_and]
      go_enter Try.func16, Try.ntmps16
      go_wp2_with fail
      refine wp_region_quiet_below (by kernel_rfl) (by kernel_rfl) ?_
      repeat (first | go_big_quiet_step ((first | (go_at_call 27; exact Ret.q0 hC) | (go_at_call 28; exact RetS.q0 hS))) | quiet_step ((first | (go_at_call 27; exact Ret.q0 hC) | (go_at_call 28; exact RetS.q0 hS))))
      refine wpQuiet_nil ?_
      intro wq hq'
      have hq := below_of_regrown hq'
      clear hq'
      go_wp2_with fail
      go_ret
      exact ⟨by rfl, below_trans ((Below.refl _ _).alloc (Nat.le_refl _) _) hq⟩
  · have hc : (chk p == 0) = false := by have := mt (chk_eq p).1 hg; simpa using this
    rw [inB_no x p hg]
    obtain ⟨a, b⟩ := p
    clear hg
    have k := new2 w (.int .u32 a) (.int .i64 b) 30
    have k0 := cell_regrown k.1
    have k1 := cell_regrown k.2
    clear k
    go_enter Try.func16, Try.ntmps16
    go_wp2_with fail
    refine wp_region_quiet_below (by kernel_rfl) (by kernel_rfl) ?_
    repeat (first | go_big_quiet_step ((first | (go_at_call 27; exact Ret.q0 hC))) | quiet_step ((first | (go_at_call 27; exact Ret.q0 hC))))
    refine wpQuiet_nil ?_
    intro wq hq'
    have hq := below_of_regrown hq'
    clear hq'
    go_wp2_with fail
    go_ret
    exact ⟨rfl, below_trans ((Below.refl _ _).alloc (Nat.le_refl _) _) hq⟩

def cmpI (x y : Int) : Int := if x < y then -1 else if y < x then 1 else 0

set_option maxHeartbeats 400000 in
theorem compareA_any (x y : Int) (w : World) : Calls Try.prog 34 #[.int .u32 x, .int .u32 y] w (RetS w (.int .i64 (cmpI x y))) := by
  unfold cmpI
  by_cases h1 : x < y
  · rw [if_pos h1]
    go_enter Try.func34, Try.ntmps34
    go_wp2
    go_ret
    exact ⟨rfl, rfl⟩
  · rw [if_neg h1]
    by_cases h2 : y < x
    · rw [if_pos h2]
      go_enter Try.func34, Try.ntmps34
      go_wp2
      go_ret
      exact ⟨rfl, rfl⟩
    · rw [if_neg h2]
      go_enter Try.func34, Try.ntmps34
      go_wp2
      go_ret
      exact ⟨rfl, rfl⟩
set_option maxHeartbeats 400000 in
theorem compareI_any (x y : Int) (w : World) : Calls Try.prog 33 #[.int .i64 x, .int .i64 y] w (RetS w (.int .i64 (cmpI x y))) := by
  unfold cmpI
  by_cases h1 : x < y
  · rw [if_pos h1]
    go_enter Try.func33, Try.ntmps33
    go_wp2
    go_ret
    exact ⟨rfl, rfl⟩
  · rw [if_neg h1]
    by_cases h2 : y < x
    · rw [if_pos h2]
      go_enter Try.func33, Try.ntmps33
      go_wp2
      go_ret
      exact ⟨rfl, rfl⟩
    · rw [if_neg h2]
      go_enter Try.func33, Try.ntmps33
      go_wp2
      go_ret
      exact ⟨rfl, rfl⟩
set_option maxHeartbeats 400000 in
theorem or2_any (x y : Int) (b : Nat) (w : World) (h0 : w.cell? ⟨b, 0, none⟩ = some (.int .i64 x)) (h1 : w.cell? ⟨b, 1, none⟩ = some (.int .i64 y)) :
    Calls Try.prog 50 #[.slice (some ⟨b, 0, none⟩) 2 2] w (RetS w (.int .i64 (if x = 0 then y else x))) := by
  by_cases hx : x = 0
  · subst hx
    rw [if_pos rfl]
    by_cases hy : y = 0
    · subst hy
      go_enter Try.func50, Try.ntmps50
      go_wp2
      refine wp_loop_rounds 3 ?_
      rw [rounds_succ]; go_wp2
      rw [rounds_succ]; go_wp2
      rw [rounds_succ]; go_wp2
      go_ret
      exact ⟨rfl, rfl⟩
    · have hB : (y != 0) = true := by simpa using hy
      go_enter Try.func50, Try.ntmps50
      go_wp2
      refine wp_loop_rounds 3 ?_
      rw [rounds_succ]; go_wp2
      rw [rounds_succ]; go_wp2
      go_ret
      exact ⟨rfl, rfl⟩
  · rw [if_neg hx]
    have hB : (x != 0) = true := by simpa using hx
    go_enter Try.func50, Try.ntmps50
    go_wp2
    refine wp_loop_rounds 3 ?_
    rw [rounds_succ]; go_wp2
    go_ret
    exact ⟨rfl, rfl⟩
theorem or2_to (x y r : Int) (b : Nat) (w : World) (hr : Hid ((if x = 0 then y else x) = r)) (h0 : w.cell? ⟨b, 0, none⟩ = some (.int .i64 x)) (h1 : w.cell? ⟨b, 1, none⟩ = some (.int .i64 y)) :
    Calls Try.prog 50 #[.slice (some ⟨b, 0, none⟩) 2 2] w (RetS w (.int .i64 r)) := by
  have h := or2_any x y b w h0 h1
  rw [hr.out] at h
  exact h
end Go.Proofs.Ytblgdfcijkaimaa

namespace Go.Proofs
open Go.Shelf
def Try.lays129_ren : Go.Shelf.Ren := ⟨fun | 129 => 60 | n => n, fun | 53 => 58 | 3 => 3 | 4 => 4 | 46 => 78 | 5 => 5 | 9 => 9 | n => n, fun | n => n⟩
def Try.lays125_ren : Go.Shelf.Ren := ⟨fun | 125 => 49 | 128 => 59 | 129 => 60 | n => n, fun | 46 => 78 | 3 => 3 | 51 => 27 | 53 => 58 | 4 => 4 | 5 => 5 | 9 => 9 | n => n, fun | n => n⟩
def Try.sortAdvert_ren : Go.Shelf.Ren := ⟨fun | 6 => 37 | 15 => 49 | 14 => 48 | 28 => 59 | 29 => 60 | 20 => 51 | 21 => 52 | 22 => 53 | 23 => 54 | 24 => 55 | 25 => 56 | 26 => 57 | 27 => 58 | 46 => 61 | 47 => 62 | 48 => 63 | 49 => 64 | 50 => 65 | 57 => 66 | n => n, fun | 22 => 22 | 24 => 34 | 25 => 54 | 3 => 3 | 39 => 78 | 0 => 0 | 53 => 27 | 55 => 58 | 4 => 4 | 46 => 81 | 45 => 80 | 50 => 25 | 5 => 5 | 9 => 9 | 66 => 88 | 70 => 92 | 76 => 94 | 77 => 95 | n => n, fun | n => n⟩
theorem Try.sortAdvert : Go.Proofs.SlLaysF0.n6 Try.prog Try.sortAdvert_ren := {
  mixed := by kernel_rfl
  f6 := ⟨Try.f37.name, by decide, Try.func37.trans (congrArg some (by kernel_rfl))⟩
  f14 := ⟨Try.f48.name, by decide, Try.func48.trans (congrArg some (by kernel_rfl))⟩
  f15 := Try.func49.trans (congrArg some (by kernel_rfl))
  f20 := ⟨Try.f51.name, by decide, Try.func51.trans (congrArg some (by kernel_rfl))⟩
  f21 := ⟨Try.f52.name, by decide, Try.func52.trans (congrArg some (by kernel_rfl))⟩
  f22 := ⟨Try.f53.name, by decide, Try.func53.trans (congrArg some (by kernel_rfl))⟩
  f23 := ⟨Try.f54.name, by decide, Try.func54.trans (congrArg some (by kernel_rfl))⟩
  f24 := ⟨Try.f55.name, by decide, Try.func55.trans (congrArg some (by kernel_rfl))⟩
  f25 := ⟨Try.f56.name, by decide, Try.func56.trans (congrArg some (by kernel_rfl))⟩
  f26 := ⟨Try.f57.name, by decide, Try.func57.trans (congrArg some (by kernel_rfl))⟩
  f27 := ⟨Try.f58.name, by decide, Try.func58.trans (congrArg some (by kernel_rfl))⟩
  f28 := Try.func59.trans (congrArg some (by kernel_rfl))
  f29 := Try.func60.trans (congrArg some (by kernel_rfl))
  f46 := ⟨Try.f61.name, by decide, Try.func61.trans (congrArg some (by kernel_rfl))⟩
  f47 := Try.func62.trans (congrArg some (by kernel_rfl))
  f48 := Try.func63.trans (congrArg some (by kernel_rfl))
  f49 := ⟨Try.f64.name, by decide, Try.func64.trans (congrArg some (by kernel_rfl))⟩
  f50 := ⟨Try.f65.name, by decide, Try.func65.trans (congrArg some (by kernel_rfl))⟩
  f57 := ⟨Try.f66.name, by decide, Try.func66.trans (congrArg some (by kernel_rfl))⟩
  t0 := Try.underlying0
  a0 := Try.isAgg0
  z0 := Try.sizeOf0
  v0 := Try.zeroValue0
  t3 := Try.underlying3
  a3 := Try.isAgg3
  z3 := Try.sizeOf3
  v3 := Try.zeroValue3
  t4 := Try.underlying4
  a4 := Try.isAgg4
  z4 := Try.sizeOf4
  v4 := Try.zeroValue4
  t5 := Try.underlying5
  a5 := Try.isAgg5
  z5 := Try.sizeOf5
  v5 := Try.zeroValue5
  t9 := Try.underlying9
  a9 := Try.isAgg9
  z9 := Try.sizeOf9
  v9 := Try.zeroValue9
  t22 := Try.underlying22
  a22 := Try.isAgg22
  z22 := Try.sizeOf22
  v22 := Try.zeroValue22
  t25 := Try.underlying54
  a25 := Try.isAgg54
  z25 := Try.sizeOf54
  v25 := Try.zeroValue54
  t39 := Try.underlying78
  a39 := Try.isAgg78
  z39 := Try.sizeOf78
  v39 := Try.zeroValue78
  t45 := Try.underlying80
  a45 := Try.isAgg80
  z45 := Try.sizeOf80
  v45 := Try.zeroValue80
  t46 := Try.underlying81
  a46 := Try.isAgg81
  z46 := Try.sizeOf81
  v46 := Try.zeroValue81
  t50 := Try.underlying25
  a50 := Try.isAgg25
  z50 := Try.sizeOf25
  v50 := Try.zeroValue25
  t53 := Try.underlying27
  a53 := Try.isAgg27
  z53 := Try.sizeOf27
  v53 := Try.zeroValue27
  t55 := Try.underlying58
  a55 := Try.isAgg58
  z55 := Try.sizeOf58
  v55 := Try.zeroValue58
  t66 := Try.underlying88
  a66 := Try.isAgg88
  z66 := Try.sizeOf88
  v66 := Try.zeroValue88
  t70 := Try.underlying92
  a70 := Try.isAgg92
  z70 := Try.sizeOf92
  v70 := Try.zeroValue92
  t76 := Try.underlying94
  a76 := Try.isAgg94
  z76 := Try.sizeOf94
  v76 := Try.zeroValue94
  t77 := Try.underlying95
  a77 := Try.isAgg95
  z77 := Try.sizeOf95
  v77 := Try.zeroValue95 }
end Go.Proofs

namespace Go.Proofs.Ytblgdfcijkaimaa
set_option linter.unusedVariables false
open Go.RowKit Go.Sort

set_option maxHeartbeats 400000 in
theorem refCmp_any (p q : Pfx) (w : World) : Calls Try.prog 40 #[p.v, q.v] w (Ret w (.int .i64 (cmpP p q))) := by
  obtain ⟨a, b⟩ := p
  obtain ⟨c, d⟩ := q
  by_cases h1 : a < c
  · have hr : cmpP ⟨a, b⟩ ⟨c, d⟩ = -1 := if_pos (Or.inl h1)
    rw [hr]; clear hr
    go_enter Try.func40, Try.ntmps40
    go_wp2_with fail
    go_ret
    exact ⟨rfl, ((Below.refl _ _).alloc (Nat.le_refl _) _).alloc (by simp) _⟩
  · by_cases h2 : a = c
    · subst h2
      by_cases h3 : b < d
      · have hr : cmpP ⟨a, b⟩ ⟨a, d⟩ = -1 := if_pos (Or.inr ⟨rfl, h3⟩)
        rw [hr]; clear hr
        go_enter Try.func40, Try.ntmps40
        go_wp2_with fail
        go_ret
        exact ⟨rfl, ((Below.refl _ _).alloc (Nat.le_refl _) _).alloc (by simp) _⟩
      · by_cases h4 : b = d
        · subst h4
          have hr : cmpP ⟨a, b⟩ ⟨a, b⟩ = 0 := by unfold cmpP; rw [if_neg (by dsimp only; omega), if_pos rfl]
          rw [hr]; clear hr
          go_enter Try.func40, Try.ntmps40
          go_wp2_with fail
          go_ret
          exact ⟨rfl, ((Below.refl _ _).alloc (Nat.le_refl _) _).alloc (by simp) _⟩
        · have hr : cmpP ⟨a, b⟩ ⟨a, d⟩ = 1 := by unfold cmpP; rw [if_neg (by dsimp only; omega), if_neg (by simpa using h4)]
          rw [hr]; clear hr
          have hB : (b == d) = false := by simpa using h4
          go_enter Try.func40, Try.ntmps40
          go_wp2_with fail
          go_ret
          exact ⟨rfl, ((Below.refl _ _).alloc (Nat.le_refl _) _).alloc (by simp) _⟩
    · have hr : cmpP ⟨a, b⟩ ⟨c, d⟩ = 1 := by unfold cmpP; rw [if_neg (by dsimp only; omega), if_neg (by intro h; injection h with h; exact h2 h)]
      rw [hr]; clear hr
      have hB : (a == c) = false := by simpa using h2
      go_enter Try.func40, Try.ntmps40
      go_wp2_with fail
      go_ret
      exact ⟨rfl, ((Below.refl _ _).alloc (Nat.le_refl _) _).alloc (by simp) _⟩

theorem cmpP_or (p q : Pfx) : (if cmpI p.a q.a = 0 then cmpI p.b q.b else cmpI p.a q.a) = cmpP p q := by
  obtain ⟨a, b⟩ := p
  obtain ⟨c, d⟩ := q
  unfold cmpP cmpI
  dsimp only
  by_cases h1 : a < c
  · simp [h1]
  · by_cases h2 : c < a
    · have : ¬ a = c := by omega
      simp [h1, h2, this]
    · have : a = c := by omega
      subst this
      by_cases h3 : b < d
      · simp [h3]
      · by_cases h4 : d < b
        · have : ¬ b = d := by omega
          simp [h3, h4, this]
        · have : b = d := by omega
          subst this
          simp

theorem alloc3_drew (w : World) (x y z : Obj) : (((w.alloc x).alloc y).alloc z).drew = grow (w.drewN 1) #[x, y, z] := by
  have e : ((w.heap.push x).push y).push z = w.heap ++ #[x, y, z] := by
    rw [Array.push_eq_append, Array.push_eq_append, Array.push_eq_append, Array.append_assoc, Array.append_assoc]; rfl
  show World.mk .. = World.mk ..
  simp only [World.alloc, World.drew, World.drewN, grow]
  simp only [e]

set_option maxHeartbeats 800000 in
theorem cmp_lays (p q : Pfx) (w : World) : Calls Try.prog 39 #[p.v, q.v] w (fun e w' => e = .returned (.int .i64 (cmpP p q)) ∧ ∃ n os, w' = grow (w.drewN n) os) := by
  have hr := cmpP_or p q
  obtain ⟨r, hR⟩ : ∃ r, r = cmpP p q := ⟨_, rfl⟩
  rw [← hR] at hr ⊢
  clear hR
  obtain ⟨a, b⟩ := p
  obtain ⟨c, d⟩ := q
  dsimp only at hr
  have HR := Lib.hid hr
  clear hr
  go_enter Try.func39, Try.ntmps39
  go_wp2_with fail
  go_region_held3 (fun w' => w'.cell? ⟨w.heap.size, 0, none⟩ = some (.int .u32 a) ∧ w'.cell? ⟨w.heap.size, 1, none⟩ = some (.int .i64 b) ∧ w'.cell? ⟨w.heap.size + 1, 0, none⟩ = some (.int .u32 c) ∧ w'.cell? ⟨w.heap.size + 1, 1, none⟩ = some (.int .i64 d)) (go_keep)
    (first | (go_at_call 34; refine (compareA_any a c _).mono ?_; rintro e w' ⟨rfl, rfl⟩) | (go_at_call 33; refine (compareI_any b d _).mono ?_; rintro e w' ⟨rfl, rfl⟩) | (go_at_call 50; refine (or2_to (cmpI a c) (cmpI b d) r _ _ HR ?_ ?_).mono ?_; (go_simp); (go_simp); rintro e w' ⟨rfl, rfl⟩))
  go_wp2_with fail
  go_ret
  exact ⟨rfl, 1, #[_, _, _], alloc3_drew _ _ _ _⟩
theorem below_grow (w : World) (n : Nat) (os : Array Obj) : Below w.heap.size w (grow (w.drewN n) os) := ⟨rfl, rfl, rfl, by simp [grow, World.drewN], fun k hk => by
  show (w.heap ++ os)[k]? = w.heap[k]?
  rw [Array.getElem?_append, if_pos hk]⟩
theorem cmp_any (p q : Pfx) (w : World) : Calls Try.prog 39 #[p.v, q.v] w (Ret w (.int .i64 (cmpP p q))) :=
  (cmp_lays p q w).mono fun _ _ ⟨he, n, os, hw⟩ => ⟨he, hw ▸ below_grow w n os⟩

end Go.Proofs.Ytblgdfcijkaimaa

namespace Go.Proofs.Ytblgdfcijkaimaa
set_option linter.unusedVariables false

def cb : Nat → Int → Int → Nat
  | 0, _, _ => 0
  | n + 1, x, y => if x / sz (n + 1 : Nat) = y / sz (n + 1 : Nat) then n + 1 else cb n x y
def commonP (p q : Pfx) : Pfx := sub p.a (cb (min p.b q.b).toNat p.a q.a)

end Go.Proofs.Ytblgdfcijkaimaa

namespace Go.Proofs.Ytblgdfcijkaimaa
set_option linter.unusedVariables false
open Go.RowKit Go.Sort

end Go.Proofs.Ytblgdfcijkaimaa

namespace Go.Proofs.Ytblgdfcijkaimaa
set_option linter.unusedVariables false
open Go.RowKit Go.Sort

theorem sub_zero (x : Int) (h0 : 0 ≤ x) (h1 : x < 4294967296) : sub x 0 = ⟨0, 0⟩ := by
  unfold sub
  rw [sz_0, Int.ediv_eq_zero_of_lt h0 h1]; rfl

end Go.Proofs.Ytblgdfcijkaimaa

namespace Go.Proofs.Ytblgdfcijkaimaa.Ab
set_option linter.unusedVariables false
open Go.RowKit

def intA (n : Int) : AVal := .d (.sc (.int .i64 n))
def boolA (b : Bool) : AVal := .d (.sc (.bool b))
def pfxD (p : Pfx) : List Dat := [.sc (.int .u32 p.a), .sc (.int .i64 p.b)]
def pfxA (p : Pfx) : AVal := .agg [.d (.sc (.int .u32 p.a)), .d (.sc (.int .i64 p.b))]
def pfxsA (l : List Pfx) : AVal := .d (.sl (l.flatMap pfxD) l.length)
theorem pfxEq (x y : Pfx) : eqCells [.int .u32 x.a, .int .i64 x.b] [.int .u32 y.a, .int .i64 y.b] = some (x == y) := by
  obtain ⟨a, b⟩ := x
  obtain ⟨c, d⟩ := y
  simp only [eqCells, eqV, if_true, Bool.and_true, Option.some.injEq]
  rw [Bool.eq_iff_iff]
  simp [Pfx.mk.injEq]
theorem noStand : ∀ t, (tlook tab t).isSome = true → Try.prog.stoodInHeld t = false := by
  have h : tab.all (fun t _ => !Try.prog.stoodInHeld t) = true := by kernel_rfl
  intro t ht
  obtain ⟨te, hte⟩ := Option.isSome_iff_exists.1 ht
  simpa using TTab.of_all h hte
abbrev Just (c : AVal) : AVal → Heap → Prop := fun c' h' => c' = c ∧ h' = []

theorem refIn_A (x : Int) (p : Pfx) (hp : p.ok) (x0 : 0 ≤ x) (x1 : x < 4294967296) : ACall Try.prog 16 [.d (.sc (.int .u32 x)), pfxA p] [] (Just (boolA (inB x p))) := ACall_val (by kernel_rfl) rfl rfl rfl fun w => refIn_any x p w hp x0 x1
theorem in_A (x : Int) (p : Pfx) (hp : p.ok) (x0 : 0 ≤ x) (x1 : x < 4294967296) : ACall Try.prog 15 [.d (.sc (.int .u32 x)), pfxA p] [] (Just (boolA (inB x p))) := ACall_val (by kernel_rfl) rfl rfl rfl fun w => in_any x p w hp x0 x1
theorem refCmp_A (p q : Pfx) : ACall Try.prog 40 [pfxA p, pfxA q] [] (Just (intA (cmpP p q))) := ACall_val (by kernel_rfl) rfl rfl rfl fun w => refCmp_any p q w
theorem cmp_A (p q : Pfx) : ACall Try.prog 39 [pfxA p, pfxA q] [] (Just (intA (cmpP p q))) := ACall_val (by kernel_rfl) rfl rfl rfl fun w => cmp_any p q w
end Go.Proofs.Ytblgdfcijkaimaa.Ab

namespace Go.Proofs.Ytblgdfcijkaimaa
set_option linter.unusedVariables false
open Go.Lib

structure Good {α : Type} (c : α → α → Int) : Prop where
  anti : ∀ x y, c y x = - c x y
  trans : ∀ x y z, c x y ≤ 0 → c y z ≤ 0 → c x z ≤ 0
section
variable {α β : Type} {c d : α → α → Int}
theorem Good.refl (G : Good c) (x : α) : c x x = 0 := by have := G.anti x x; omega
theorem Good.lt_le (G : Good c) {x y z : α} (h1 : c x y < 0) (h2 : c y z ≤ 0) : c x z < 0 := by
  have h3 := G.trans x y z (by omega) h2
  rcases Int.lt_or_eq_of_le h3 with h4 | h4
  · exact h4
  · have h5 := G.anti x z
    have h6 := G.trans y z x h2 (by omega)
    have h7 := G.anti x y
    omega
theorem Good.le_lt (G : Good c) {x y z : α} (h1 : c x y ≤ 0) (h2 : c y z < 0) : c x z < 0 := by
  have h3 := G.trans x y z h1 (by omega)
  rcases Int.lt_or_eq_of_le h3 with h4 | h4
  · exact h4
  · have h5 := G.anti x z
    have h6 := G.trans z x y (by omega) h1
    have h7 := G.anti y z
    omega
theorem Good.lt_lt (G : Good c) {x y z : α} (h1 : c x y < 0) (h2 : c y z < 0) : c x z < 0 := G.lt_le h1 (by omega)
def lexc (c d : α → α → Int) : α → α → Int := fun x y => if c x y = 0 then d x y else c x y
theorem Good.lex (G : Good c) (H : Good d) : Good (lexc c d) := by
  refine ⟨fun x y => ?_, fun x y z h1 h2 => ?_⟩
  · unfold lexc
    have h := G.anti x y
    by_cases h0 : c x y = 0
    · rw [if_pos h0, if_pos (by omega)]; exact H.anti x y
    · rw [if_neg h0, if_neg (by omega)]; exact h
  · unfold lexc at *
    by_cases hxy : c x y = 0
    · rw [if_pos hxy] at h1
      by_cases hyz : c y z = 0
      · rw [if_pos hyz] at h2
        have e1 := G.trans x y z (by omega) (by omega)
        have e2 := G.anti x y
        have e3 := G.anti y z
        have e4 := G.trans z y x (by omega) (by omega)
        have e5 := G.anti x z
        rw [if_pos (by omega)]
        exact H.trans x y z h1 h2
      · rw [if_neg hyz] at h2
        have := G.le_lt (x := x) (y := y) (z := z) (by omega) (by omega)
        rw [if_neg (by omega)]; omega
    · rw [if_neg hxy] at h1
      have h3 : c y z ≤ 0 := by
        by_cases hyz : c y z = 0
        · omega
        · rw [if_neg hyz] at h2; exact h2
      have := G.lt_le (x := x) (y := y) (z := z) (by omega) h3
      rw [if_neg (by omega)]; omega
theorem Good.of (G : Good c) (g : β → α) : Good fun x y => c (g x) (g y) := ⟨fun x y => G.anti _ _, fun x y z => G.trans _ _ _⟩
theorem lexc_lt {x y : α} : lexc c d x y < 0 ↔ c x y < 0 ∨ c x y = 0 ∧ d x y < 0 := by
  unfold lexc
  by_cases h : c x y = 0
  · rw [if_pos h]; exact ⟨fun h2 => .inr ⟨h, h2⟩, fun h2 => by rcases h2 with h2 | h2; omega; exact h2.2⟩
  · rw [if_neg h]; exact ⟨fun h2 => .inl h2, fun h2 => by rcases h2 with h2 | h2; exact h2; exact absurd h2.1 h⟩
end
def c2 (x y : Int) : Int := if x < y then -1 else if y < x then 1 else 0
theorem good_c2 : Good c2 := ⟨fun x y => by unfold c2; split <;> split <;> omega, fun x y z h1 h2 => by unfold c2 at *; split at h1 <;> split at h2 <;> (try split at h1) <;> (try split at h2) <;> split <;> (try split) <;> omega⟩
theorem c2_zero {x y : Int} : c2 x y = 0 ↔ x = y := by unfold c2; split <;> (try split) <;> omega
theorem c2_lt {x y : Int} : c2 x y < 0 ↔ x < y := by unfold c2; split <;> (try split) <;> omega
def cB (x y : Bool) : Int := if x = y then 0 else if y then -1 else 1
theorem bytes_zero : ∀ {x y : List UInt8}, compareBytes x y = 0 ↔ x = y
  | [], [] => by simp [compareBytes]
  | [], _ :: _ => by simp [compareBytes]
  | _ :: _, [] => by simp [compareBytes]
  | a :: x, b :: y => by
    simp only [compareBytes, List.cons.injEq]
    split
    · rename_i h
      exact ⟨fun h2 => by omega, fun h2 => by rw [h2.1] at h; exact absurd h (UInt8.lt_irrefl _)⟩
    · split
      · rename_i h
        exact ⟨fun h2 => by omega, fun h2 => by rw [h2.1] at h; exact absurd h (UInt8.lt_irrefl _)⟩
      · rename_i h1 h2
        rw [bytes_zero]
        refine ⟨fun h => ⟨?_, h⟩, fun h => h.2⟩
        rw [UInt8.lt_iff_toNat_lt] at h1 h2
        exact UInt8.toNat_inj.1 (by omega)

section
variable {α : Type} {c : α → α → Int}
def Rising (c : α → α → Int) (l : List α) : Prop := l.Pairwise fun x y => c x y < 0
theorem rising_ext (G : Good c) : ∀ {l m : List α}, Rising c l → Rising c m → (∀ x, x ∈ l ↔ x ∈ m) → l = m
  | [], [], _, _, _ => rfl
  | [], b :: m, _, _, h => absurd ((h b).2 (List.mem_cons_self ..)) (by simp)
  | a :: l, [], _, _, h => absurd ((h a).1 (List.mem_cons_self ..)) (by simp)
  | a :: l, b :: m, h1, h2, h => by
    unfold Rising at h1 h2
    rw [List.pairwise_cons] at h1 h2
    have hab : a = b := by
      rcases List.mem_cons.1 ((h a).1 (List.mem_cons_self ..)) with e | e
      · exact e
      · rcases List.mem_cons.1 ((h b).2 (List.mem_cons_self ..)) with e2 | e2
        · exact e2.symm
        · have q1 := h2.1 a e
          have q2 := h1.1 b e2
          have q3 := G.anti a b
          omega
    subst hab
    congr 1
    refine rising_ext G h1.2 h2.2 fun x => ⟨fun hx => ?_, fun hx => ?_⟩
    · rcases List.mem_cons.1 ((h x).1 (List.mem_cons_of_mem _ hx)) with e | e
      · subst e; have := h1.1 x hx; rw [G.refl] at this; omega
      · exact e
    · rcases List.mem_cons.1 ((h x).2 (List.mem_cons_of_mem _ hx)) with e | e
      · subst e; have := h2.1 x hx; rw [G.refl] at this; omega
      · exact e
def srt (c : α → α → Int) (l : List α) : List α := l.mergeSort fun x y => !(decide (c y x < 0))
theorem srt_mem (l : List α) (x : α) : x ∈ srt c l ↔ x ∈ l := List.mem_mergeSort
theorem srt_len (l : List α) : (srt c l).length = l.length := List.length_mergeSort _
theorem srt_pair (G : Good c) (l : List α) : (srt c l).Pairwise fun x y => c x y ≤ 0 := by
  have := List.pairwise_mergeSort (le := fun x y => !(decide (c y x < 0))) (fun x y z h1 h2 => by
    simp only [Bool.not_eq_true', decide_eq_false_iff_not] at *
    have e1 := G.anti x y
    have e2 := G.anti y z
    have e3 := G.anti x z
    have := G.trans x y z (by omega) (by omega)
    omega) (fun x y => by
    simp only [Bool.or_eq_true, Bool.not_eq_true', decide_eq_false_iff_not]
    have e1 := G.anti x y
    omega) l
  refine this.imp fun {x y} h => ?_
  simp only [Bool.not_eq_true', decide_eq_false_iff_not] at h
  have e1 := G.anti x y
  omega
variable [DecidableEq α]
def dedA : List α → List α
  | [] => []
  | [x] => [x]
  | x :: y :: r => if x = y then dedA (y :: r) else x :: dedA (y :: r)
def sortU (c : α → α → Int) (l : List α) : List α := dedA (srt c l)
end
end Go.Proofs.Ytblgdfcijkaimaa

namespace Go.Proofs.Ytblgdfcijkaimaa.Ab
set_option linter.unusedVariables false
open Go.RowKit Go.Lib

theorem bytesLess_cmp : ∀ (a b : List UInt8), Op.bytesLess a b = decide (compareBytes a b < 0)
  | [], [] => by simp [Op.bytesLess, compareBytes]
  | [], _ :: _ => by simp [Op.bytesLess, compareBytes]
  | _ :: _, [] => by simp [Op.bytesLess, compareBytes]
  | a :: x, b :: y => by
    rw [Op.bytesLess, compareBytes, bytesLess_cmp x y]
    by_cases h : a < b
    · simp [h]
    · by_cases h2 : b < a
      · have : (a == b) = false := by
          rw [beq_eq_false_iff_ne]
          rintro rfl
          exact UInt8.lt_irrefl _ h2
        simp [h, h2, this]
      · have : a = b := by
          rw [UInt8.lt_iff_toNat_lt] at h h2
          exact UInt8.toNat_inj.1 (by omega)
        subst this
        simp [h]
theorem mk_toList (l : List UInt8) : (ByteArray.mk (Array.mk l)).toList = l := by
  rw [ByteArray.toList_eq]
abbrev strA (l : List UInt8) : AVal := .d (.sc (.string ⟨⟨l⟩⟩))
def sbin (op : BinOp) (a b : List UInt8) : Option Bool := match op with
  | .eql => some (decide (a = b))
  | .neq => some (!decide (a = b))
  | .lss => some (decide (compareBytes a b < 0))
  | .leq => some (decide (compareBytes a b ≤ 0))
  | .gtr => some (decide (0 < compareBytes a b))
  | .geq => some (decide (0 ≤ compareBytes a b))
  | _ => none
section
variable {P : Program} {nt : Nat} {Q : Post} {e : Env} {h : Heap} {ops : Array Oper} {o : Oper} {rest : List Oper} {T : List Nat} {tab : TTab}
theorem Y_sbin {op : BinOp} {t u : TypeId} {x y : Operand} {a b : List UInt8} {r : Bool} (ho : o.op = .binOp op t x y u) (hx : aev e x = some (strA a)) (hy : aev e y = some (strA b)) (hr : sbin op a b = some r) : AYield P T e h o (.d (.sc (.bool r))) := yield_of _ fun w F ι ac E =>
  ⟨.bool r, sc_rel rfl, fun w' => by
    have hz : (a == b) = decide (compareBytes a b = 0) := by rw [Bool.eq_iff_iff]; simp [bytes_zero]
    have hz2 : decide (a = b) = decide (compareBytes a b = 0) := by rw [Bool.eq_iff_iff]; simp [bytes_zero]
    simp only [execOp, ho, (sc_of (aev_rel E hx)).1, (sc_of (aev_rel E hy)).1]
    cases op <;> first | cases hr; done | (injection hr with hr; subst hr; (try simp only [hz2]); simp [eqGuard, binOp, Op.stringOp, mk_toList, bytesLess_cmp, hz]; done) | (injection hr with hr; subst hr; (try simp only [hz2]); simp [eqGuard, binOp, Op.stringOp, mk_toList, bytesLess_cmp, hz]; generalize compareBytes a b = c; rw [Bool.eq_iff_iff]; simp <;> omega)⟩
def bbin (op : BinOp) (a b : Bool) : Option Bool := match op with
  | .eql => some (a == b)
  | .neq => some (a != b)
  | _ => none
def tbool (tab : TTab) (t : TypeId) : Bool := match tlook tab t with
  | some ⟨_, _, _, _, .bo⟩ => true
  | _ => false
theorem tbool_spec {tab : TTab} {t : TypeId} (TO : TabOk P tab) (h : tbool tab t = true) : P.underlying t = some .bool := by
  unfold tbool at h
  split at h
  · rename_i heq
    obtain ⟨d, hd, _, hs⟩ := (TO t _ heq).und
    rw [hd]; congr 1
  · cases h
theorem Y_bbin {op : BinOp} {t u : TypeId} {x y : Operand} {a b : Bool} {r : Bool} (TO : TabOk P tab) (ho : o.op = .binOp op t x y u) (ht : tbool tab t = true) (hx : aev e x = some (.d (.sc (.bool a)))) (hy : aev e y = some (.d (.sc (.bool b)))) (hr : bbin op a b = some r) : AYield P T e h o (.d (.sc (.bool r))) := yield_of _ fun w F ι ac E =>
  ⟨.bool r, sc_rel rfl, fun w' => by
    have hu := tbool_spec TO ht
    simp only [execOp, ho, (sc_of (aev_rel E hx)).1, (sc_of (aev_rel E hy)).1]
    cases op <;> first | cases hr; done | (injection hr with hr; subst hr; simp [eqGuard, binOp, run_equal_bool w' t a b hu]; done) | (injection hr with hr; subst hr; simp [eqGuard, binOp, run_equal_bool w' t a b hu]; cases a <;> cases b <;> rfl)⟩
end
end Go.Proofs.Ytblgdfcijkaimaa.Ab

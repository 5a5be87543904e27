/-
  The walks through the functions of addresses and prefixes (packages addr and waymarkref01): each returns what the plain arithmetic says.
-/
import Derived.Test.YtmpbjfoffbgckaaRows
import Derived.Test.YtmpbjfoffbgckaaAddr
import Derived.Test.YtmpbjfoffbgckaaBase
import Derived.StillTailTactics
import Derived.Deep.RegionHeld3
namespace Go.Proofs.Ytmpbjfoffbgckaa
set_option linter.unusedVariables false
open Go.RowKit Go.Sort

abbrev Pfx.v (p : Pfx) : Value := .agg #[.int .u32 p.a, .int .i64 p.b]

set_option maxHeartbeats 400000 in
theorem behind_any (n : Int) (w : World) (h0 : 0 ≤ n) (h1 : n ≤ 32) : Calls Try.prog 11 #[.int .i64 n] w (RetS w (.int .u32 (sz n - 1))) := by
  go_enter Try.func11, Try.ntmps11
  go_wp2
  go_ret
  refine ⟨ret_int ?_, rfl⟩
  have h2 := sz_pos n
  have h3 := sz_le n h0
  have e : (2 : Int) ^ (32 - n).toNat = sz n := rfl
  simp only [IntKind.wrap, IntKind.bits, IntKind.signed]
  rw [e]; simp; omega

set_option maxHeartbeats 400000 in
theorem size_any (n : Int) (w : World) (h0 : 0 ≤ n) (h1 : n ≤ 32) : Calls Try.prog 12 #[.int .i64 n] w (RetS w (.int .u64 (sz n))) := by
  go_enter Try.func12, Try.ntmps12
  go_wp2
  go_loop [3, 4] (fun o i => ∃ (k : Int) (x : Int), n ≤ k ∧ k ≤ 32 ∧ i = .int .i64 k ∧ o = .int .u64 x ∧ 0 ≤ x ∧ x ≤ 4294967296 ∧ Hid (x * sz k = sz n)) (fun _ i => (32 - intOf i).toNat)
  case atStart => exact ⟨n, 1, by omega, h1, rfl, rfl, by omega, by omega, Int.one_mul _⟩
  case round =>
    obtain ⟨k, x, hk, hk2, rfl, rfl, hx0, hx1, H⟩ := hrel
    by_cases hlt : k < 32
    · go_wp2
      go_round
      case rel =>
        have h := sz_step n k x hlt h0 hx0 H.out
        exact ⟨k + 1, 2 * x, by omega, by omega, rfl, rfl, by omega, h.2, h.1⟩
      case measure => simp [intOf]; omega
    · obtain rfl : k = 32 := by omega
      go_wp2
      go_ret
      refine ⟨ret_int ?_, rfl⟩
      have h := H.out
      rw [sz_32] at h; omega

theorem andNot_u32 (x n : Int) (h0 : 0 ≤ n) (h1 : n ≤ 32) (x0 : 0 ≤ x) (x1 : x < 4294967296) : bits .andNot .u32 x (sz n - 1) = x / sz n * sz n := by
  have h2 := sz_pos n
  have h3 := sz_le n h0
  rw [u32_andNot _ _ x0 x1 (by omega) (by omega)]
  obtain ⟨a, rfl⟩ := Int.eq_ofNat_of_zero_le x0
  have e : (sz n - 1).toNat = 2 ^ (32 - n).toNat - 1 := by rw [sz_nat]; omega
  rw [e, Int.toNat_natCast, andNot_low a _ (by omega) (by omega), sz_nat]
  simp
theorem and_u32 (x n : Int) (h0 : 0 ≤ n) (x0 : 0 ≤ x) (x1 : x < 4294967296) : bits .and .u32 x (sz n - 1) = x % sz n := by
  have h2 := sz_pos n
  have h3 := sz_le n h0
  rw [u32_and _ _ x0 x1 (by omega) (by omega)]
  obtain ⟨a, rfl⟩ := Int.eq_ofNat_of_zero_le x0
  have e : (sz n - 1).toNat = 2 ^ (32 - n).toNat - 1 := by rw [sz_nat]; omega
  rw [e, Int.toNat_natCast, and_low a, sz_nat]
  simp

set_option maxHeartbeats 400000 in
theorem addrSubnet_any (x n : Int) (w : World) (h0 : 0 ≤ n) (h1 : n ≤ 32) (x0 : 0 ≤ x) (x1 : x < 4294967296) :
    Calls Try.prog 9 #[.int .u32 x, .int .i64 n] w (Ret w (.tuple #[(sub x n).v, .int .i64 0])) := by
  have hbit := andNot_u32 x n h0 h1 x0 x1
  go_enter Try.func9, Try.ntmps9
  go_wp2_with (go_at_call 11; refine (behind_any _ _ (by omega) (by omega)).mono ?_; rintro e w' ⟨rfl, rfl⟩)
  refine bodyPost_ret (v := .tuple #[(sub x n).v, .int .i64 0]) (by simp [results, Try.results9, go_sem, sub]) rfl ⟨rfl, (Below.refl _ _).alloc (Nat.le_refl _) _⟩

set_option maxHeartbeats 400000 in
theorem addrSubnet_bad (x n : Int) (w : World) (h : n < 0 ∨ 32 < n) :
    Calls Try.prog 9 #[.int .u32 x, .int .i64 n] w (Ret w (.tuple #[.agg #[.int .u32 0, .int .i64 0], .int .i64 1])) := by
  rcases h with h | h
  · go_enter Try.func9, Try.ntmps9
    go_wp2_with fail
    refine bodyPost_ret (v := .tuple #[.agg #[.int .u32 0, .int .i64 0], .int .i64 1]) (by simp [results, Try.results9, go_sem]) rfl ⟨rfl, (Below.refl _ _).alloc (Nat.le_refl _) _⟩
  · have h' : ¬ n < 0 := by omega
    go_enter Try.func9, Try.ntmps9
    go_wp2_with fail
    refine bodyPost_ret (v := .tuple #[.agg #[.int .u32 0, .int .i64 0], .int .i64 1]) (by simp [results, Try.results9, go_sem]) rfl ⟨rfl, (Below.refl _ _).alloc (Nat.le_refl _) _⟩

set_option maxHeartbeats 400000 in
theorem refSubnet_bad (x n : Int) (w : World) (h : n < 0 ∨ 32 < n) :
    Calls Try.prog 10 #[.int .u32 x, .int .i64 n] w (Ret w (.tuple #[.agg #[.int .u32 0, .int .i64 0], .int .i64 1])) := by
  rcases h with h | h
  · go_enter Try.func10, Try.ntmps10
    go_wp2_with fail
    refine bodyPost_ret (v := .tuple #[.agg #[.int .u32 0, .int .i64 0], .int .i64 1]) (by simp [results, Try.results10, go_sem]) rfl ⟨rfl, (Below.refl _ _).alloc (Nat.le_refl _) _⟩
  · have h' : ¬ n < 0 := by omega
    go_enter Try.func10, Try.ntmps10
    go_wp2_with fail
    refine bodyPost_ret (v := .tuple #[.agg #[.int .u32 0, .int .i64 0], .int .i64 1]) (by simp [results, Try.results10, go_sem]) rfl ⟨rfl, (Below.refl _ _).alloc (Nat.le_refl _) _⟩

theorem sub_wraps (x n : Int) (h0 : 0 ≤ n) (x0 : 0 ≤ x) (x1 : x < 4294967296) : IntKind.u32.wrap (IntKind.u64.wrap (IntKind.u64.wrap ((IntKind.u64.wrap x).tdiv (sz n)) * sz n)) = x / sz n * sz n := by
  have hp := sz_pos n
  have hd0 : 0 ≤ x / sz n := Int.ediv_nonneg x0 (by omega)
  have hd1 : x / sz n ≤ x := Int.ediv_le_self _ x0
  have hm : x / sz n * sz n ≤ x := by have := Int.mul_ediv_add_emod x (sz n); have h9 := Int.emod_nonneg x (Int.ne_of_gt hp); rw [Int.mul_comm]; omega
  have hm0 : 0 ≤ x / sz n * sz n := Int.mul_nonneg hd0 (by omega)
  have e1 : IntKind.u64.wrap x = x := by simp [IntKind.wrap, IntKind.bits, IntKind.signed]; omega
  have e2 : IntKind.u64.wrap (x / sz n) = x / sz n := by simp [IntKind.wrap, IntKind.bits, IntKind.signed]; omega
  have e3 : IntKind.u64.wrap (x / sz n * sz n) = x / sz n * sz n := by simp [IntKind.wrap, IntKind.bits, IntKind.signed]; omega
  have e4 : IntKind.u32.wrap (x / sz n * sz n) = x / sz n * sz n := by simp [IntKind.wrap, IntKind.bits, IntKind.signed]; omega
  rw [e1, Int.tdiv_eq_ediv_of_nonneg x0, e2, e3, e4]

set_option maxHeartbeats 400000 in
theorem refSubnet_any (x n : Int) (w : World) (h0 : 0 ≤ n) (h1 : n ≤ 32) (x0 : 0 ≤ x) (x1 : x < 4294967296) :
    Calls Try.prog 10 #[.int .u32 x, .int .i64 n] w (Ret w (.tuple #[(sub x n).v, .int .i64 0])) := by
  have hbit := andNot_u32 x n h0 h1 x0 x1
  have hp := sz_pos n
  have hl := sz_le n h0
  go_enter Try.func10, Try.ntmps10
  have hz : ¬ sz n = 0 := by omega
  go_wp2_with fail
  go_region_held3 (fun _ => True) (trivial)
    (first | (go_at_call 12; refine (size_any n _ h0 h1).mono ?_; rintro e w' ⟨rfl, rfl⟩))
  go_wp2_with fail
  refine bodyPost_ret (v := .tuple #[(sub x n).v, .int .i64 0]) (by simp [results, Try.results10, go_sem, sub, sub_wraps x n h0 x0 x1]) rfl ⟨rfl, ((Below.refl _ _).alloc (Nat.le_refl _) _).drew⟩

/-! ### Check -/
/-! ### In -/
theorem new2 (w : World) (u v : Value) (t : TypeId) : (w.alloc (.cells #[u, v] t)).cell? ⟨w.heap.size, 0, none⟩ = some u ∧ (w.alloc (.cells #[u, v] t)).cell? ⟨w.heap.size, 1, none⟩ = some v := by
  constructor <;> simp

end Go.Proofs.Ytmpbjfoffbgckaa

/-
  The walks through the functions of addresses and prefixes (packages addr and waymarkref01): each returns what the plain arithmetic says.
-/
import Derived.Test.YtaecjmjdhbjbkaaRows
import Derived.Test.YtaecjmjdhbjbkaaAddr
import Derived.Test.YtaecjmjdhbjbkaaBase
import Derived.StillTailTactics
import Derived.Deep.RegionHeld3
namespace Go.Proofs.Ytaecjmjdhbjbkaa
set_option linter.unusedVariables false
open Go.RowKit Go.Sort

abbrev Pfx.v (p : Pfx) : Value := .agg #[.int .u32 p.a, .int .i64 p.b]

set_option maxHeartbeats 400000 in
theorem behind_any (n : Int) (w : World) (h0 : 0 ≤ n) (h1 : n ≤ 32) : Calls Try.prog 63 #[.int .i64 n] w (RetS w (.int .u32 (sz n - 1))) := by
  go_enter Try.func63, Try.ntmps63
  go_wp2
  go_ret
  refine ⟨ret_int ?_, rfl⟩
  have h2 := sz_pos n
  have h3 := sz_le n h0
  have e : (2 : Int) ^ (32 - n).toNat = sz n := rfl
  simp only [IntKind.wrap, IntKind.bits, IntKind.signed]
  rw [e]; simp; omega

set_option maxHeartbeats 400000 in
theorem size_any (n : Int) (w : World) (h0 : 0 ≤ n) (h1 : n ≤ 32) : Calls Try.prog 49 #[.int .i64 n] w (RetS w (.int .u64 (sz n))) := by
  go_enter Try.func49, Try.ntmps49
  go_wp2
  go_loop [3, 4] (fun o i => ∃ (k : Int) (x : Int), n ≤ k ∧ k ≤ 32 ∧ i = .int .i64 k ∧ o = .int .u64 x ∧ 0 ≤ x ∧ x ≤ 4294967296 ∧ Hid (x * sz k = sz n)) (fun _ i => (32 - intOf i).toNat)
  case atStart => exact ⟨n, 1, by omega, h1, rfl, rfl, by omega, by omega, Int.one_mul _⟩
  case round =>
    obtain ⟨k, x, hk, hk2, rfl, rfl, hx0, hx1, H⟩ := hrel
    by_cases hlt : k < 32
    · go_wp2
      go_round
      case rel =>
        have h := sz_step n k x hlt h0 hx0 H.out
        exact ⟨k + 1, 2 * x, by omega, by omega, rfl, rfl, by omega, h.2, h.1⟩
      case measure => simp [intOf]; omega
    · obtain rfl : k = 32 := by omega
      go_wp2
      go_ret
      refine ⟨ret_int ?_, rfl⟩
      have h := H.out
      rw [sz_32] at h; omega

theorem andNot_u32 (x n : Int) (h0 : 0 ≤ n) (h1 : n ≤ 32) (x0 : 0 ≤ x) (x1 : x < 4294967296) : bits .andNot .u32 x (sz n - 1) = x / sz n * sz n := by
  have h2 := sz_pos n
  have h3 := sz_le n h0
  rw [u32_andNot _ _ x0 x1 (by omega) (by omega)]
  obtain ⟨a, rfl⟩ := Int.eq_ofNat_of_zero_le x0
  have e : (sz n - 1).toNat = 2 ^ (32 - n).toNat - 1 := by rw [sz_nat]; omega
  rw [e, Int.toNat_natCast, andNot_low a _ (by omega) (by omega), sz_nat]
  simp
theorem and_u32 (x n : Int) (h0 : 0 ≤ n) (x0 : 0 ≤ x) (x1 : x < 4294967296) : bits .and .u32 x (sz n - 1) = x % sz n := by
  have h2 := sz_pos n
  have h3 := sz_le n h0
  rw [u32_and _ _ x0 x1 (by omega) (by omega)]
  obtain ⟨a, rfl⟩ := Int.eq_ofNat_of_zero_le x0
  have e : (sz n - 1).toNat = 2 ^ (32 - n).toNat - 1 := by rw [sz_nat]; omega
  rw [e, Int.toNat_natCast, and_low a, sz_nat]
  simp

set_option maxHeartbeats 400000 in
theorem addrSubnet_any (x n : Int) (w : World) (h0 : 0 ≤ n) (h1 : n ≤ 32) (x0 : 0 ≤ x) (x1 : x < 4294967296) :
    Calls Try.prog 70 #[.int .u32 x, .int .i64 n] w (Ret w (.tuple #[(sub x n).v, .int .i64 0])) := by
  have hbit := andNot_u32 x n h0 h1 x0 x1
  go_enter Try.func70, Try.ntmps70
  go_wp2_with (go_at_call 63; refine (behind_any _ _ (by omega) (by omega)).mono ?_; rintro e w' ⟨rfl, rfl⟩)
  refine bodyPost_ret (v := .tuple #[(sub x n).v, .int .i64 0]) (by simp [results, Try.results70, go_sem, sub]) rfl ⟨rfl, (Below.refl _ _).alloc (Nat.le_refl _) _⟩

set_option maxHeartbeats 400000 in
theorem addrSubnet_bad (x n : Int) (w : World) (h : n < 0 ∨ 32 < n) :
    Calls Try.prog 70 #[.int .u32 x, .int .i64 n] w (Ret w (.tuple #[.agg #[.int .u32 0, .int .i64 0], .int .i64 1])) := by
  rcases h with h | h
  · go_enter Try.func70, Try.ntmps70
    go_wp2_with fail
    refine bodyPost_ret (v := .tuple #[.agg #[.int .u32 0, .int .i64 0], .int .i64 1]) (by simp [results, Try.results70, go_sem]) rfl ⟨rfl, (Below.refl _ _).alloc (Nat.le_refl _) _⟩
  · have h' : ¬ n < 0 := by omega
    go_enter Try.func70, Try.ntmps70
    go_wp2_with fail
    refine bodyPost_ret (v := .tuple #[.agg #[.int .u32 0, .int .i64 0], .int .i64 1]) (by simp [results, Try.results70, go_sem]) rfl ⟨rfl, (Below.refl _ _).alloc (Nat.le_refl _) _⟩

set_option maxHeartbeats 400000 in
theorem refSubnet_bad (x n : Int) (w : World) (h : n < 0 ∨ 32 < n) :
    Calls Try.prog 50 #[.int .u32 x, .int .i64 n] w (Ret w (.tuple #[.agg #[.int .u32 0, .int .i64 0], .int .i64 1])) := by
  rcases h with h | h
  · go_enter Try.func50, Try.ntmps50
    go_wp2_with fail
    refine bodyPost_ret (v := .tuple #[.agg #[.int .u32 0, .int .i64 0], .int .i64 1]) (by simp [results, Try.results50, go_sem]) rfl ⟨rfl, (Below.refl _ _).alloc (Nat.le_refl _) _⟩
  · have h' : ¬ n < 0 := by omega
    go_enter Try.func50, Try.ntmps50
    go_wp2_with fail
    refine bodyPost_ret (v := .tuple #[.agg #[.int .u32 0, .int .i64 0], .int .i64 1]) (by simp [results, Try.results50, go_sem]) rfl ⟨rfl, (Below.refl _ _).alloc (Nat.le_refl _) _⟩

theorem sub_wraps (x n : Int) (h0 : 0 ≤ n) (x0 : 0 ≤ x) (x1 : x < 4294967296) : IntKind.u32.wrap (IntKind.u64.wrap (IntKind.u64.wrap ((IntKind.u64.wrap x).tdiv (sz n)) * sz n)) = x / sz n * sz n := by
  have hp := sz_pos n
  have hd0 : 0 ≤ x / sz n := Int.ediv_nonneg x0 (by omega)
  have hd1 : x / sz n ≤ x := Int.ediv_le_self _ x0
  have hm : x / sz n * sz n ≤ x := by have := Int.mul_ediv_add_emod x (sz n); have h9 := Int.emod_nonneg x (Int.ne_of_gt hp); rw [Int.mul_comm]; omega
  have hm0 : 0 ≤ x / sz n * sz n := Int.mul_nonneg hd0 (by omega)
  have e1 : IntKind.u64.wrap x = x := by simp [IntKind.wrap, IntKind.bits, IntKind.signed]; omega
  have e2 : IntKind.u64.wrap (x / sz n) = x / sz n := by simp [IntKind.wrap, IntKind.bits, IntKind.signed]; omega
  have e3 : IntKind.u64.wrap (x / sz n * sz n) = x / sz n * sz n := by simp [IntKind.wrap, IntKind.bits, IntKind.signed]; omega
  have e4 : IntKind.u32.wrap (x / sz n * sz n) = x / sz n * sz n := by simp [IntKind.wrap, IntKind.bits, IntKind.signed]; omega
  rw [e1, Int.tdiv_eq_ediv_of_nonneg x0, e2, e3, e4]

set_option maxHeartbeats 400000 in
theorem refSubnet_any (x n : Int) (w : World) (h0 : 0 ≤ n) (h1 : n ≤ 32) (x0 : 0 ≤ x) (x1 : x < 4294967296) :
    Calls Try.prog 50 #[.int .u32 x, .int .i64 n] w (Ret w (.tuple #[(sub x n).v, .int .i64 0])) := by
  have hbit := andNot_u32 x n h0 h1 x0 x1
  have hp := sz_pos n
  have hl := sz_le n h0
  go_enter Try.func50, Try.ntmps50
  have hz : ¬ sz n = 0 := by omega
  go_wp2_with fail
  go_region_held3 (fun _ => True) (trivial)
    (first | (go_at_call 49; refine (size_any n _ h0 h1).mono ?_; rintro e w' ⟨rfl, rfl⟩))
  go_wp2_with fail
  refine bodyPost_ret (v := .tuple #[(sub x n).v, .int .i64 0]) (by simp [results, Try.results50, go_sem, sub, sub_wraps x n h0 x0 x1]) rfl ⟨rfl, ((Below.refl _ _).alloc (Nat.le_refl _) _).drew⟩

/-! ### Check -/
set_option maxHeartbeats 400000 in
theorem check_any (p : Pfx) (w : World) (hp : p.ok) : Calls Try.prog 44 #[p.v] w (Ret w (.int .i64 (chk p))) := by
  obtain ⟨a, b⟩ := p
  obtain ⟨a0, a1, b0, b1⟩ := hp
  dsimp only at a0 a1 b0 b1
  by_cases hb : b < 0 ∨ 32 < b
  · have hc : chk ⟨a, b⟩ = 1 := if_pos hb
    rw [hc]; clear hc
    rcases hb with hb | hb
    · go_enter Try.func44, Try.ntmps44
      go_wp2_with fail
      go_ret
      exact ⟨rfl, (Below.refl _ _).alloc (Nat.le_refl _) _⟩
    · have hb' : ¬ b < 0 := by omega
      go_enter Try.func44, Try.ntmps44
      go_wp2_with fail
      go_ret
      exact ⟨rfl, (Below.refl _ _).alloc (Nat.le_refl _) _⟩
  · have h0 : 0 ≤ b := by omega
    have h1 : b ≤ 32 := by omega
    have hbit := and_u32 a b h0 a0 a1
    have hc : chk ⟨a, b⟩ = if a % sz b = 0 then 0 else 10 := if_neg hb
    rw [hc]; clear hc hb
    by_cases hm : a % sz b = 0
    · rw [if_pos hm]
      have hB : (bits .and .u32 a (sz b - 1) != 0) = false := by rw [hbit, hm]; rfl
      clear hbit hm
      go_enter Try.func44, Try.ntmps44
      go_wp2_with fail
      go_quiet ((go_at_call 63; exact RetS.d (behind_any _ _ h0 h1)))
      go_wp2_with fail
      go_ret
      exact ⟨rfl, below_drewN ((Below.refl _ _).alloc (Nat.le_refl _) _) _⟩
    · rw [if_neg hm]
      have hB : (bits .and .u32 a (sz b - 1) != 0) = true := by rw [hbit]; simpa using hm
      clear hbit hm
      go_enter Try.func44, Try.ntmps44
      go_wp2_with fail
      go_quiet ((go_at_call 63; exact RetS.d (behind_any _ _ h0 h1)))
      go_wp2_with fail
      go_ret
      exact ⟨rfl, below_drewN ((Below.refl _ _).alloc (Nat.le_refl _) _) _⟩
set_option maxHeartbeats 400000 in
theorem refCheck_any (p : Pfx) (w : World) (hp : p.ok) : Calls Try.prog 25 #[p.v] w (Ret w (.int .i64 (chk p))) := by
  obtain ⟨a, b⟩ := p
  obtain ⟨a0, a1, b0, b1⟩ := hp
  dsimp only at a0 a1 b0 b1
  by_cases hb : b < 0 ∨ 32 < b
  · have hc : chk ⟨a, b⟩ = 1 := if_pos hb
    rw [hc]; clear hc
    rcases hb with hb | hb
    · go_enter Try.func25, Try.ntmps25
      go_wp2_with fail
      go_ret
      exact ⟨rfl, (Below.refl _ _).alloc (Nat.le_refl _) _⟩
    · have hb' : ¬ b < 0 := by omega
      go_enter Try.func25, Try.ntmps25
      go_wp2_with fail
      go_ret
      exact ⟨rfl, (Below.refl _ _).alloc (Nat.le_refl _) _⟩
  · have h0 : 0 ≤ b := by omega
    have h1 : b ≤ 32 := by omega
    have hp := sz_pos b
    have hz : ¬ sz b = 0 := by omega
    have e1 : IntKind.u64.wrap a = a := by simp [IntKind.wrap, IntKind.bits, IntKind.signed]; omega
    have e2 : a.tmod (sz b) = a % sz b := Int.tmod_eq_emod_of_nonneg a0
    have hc : chk ⟨a, b⟩ = if a % sz b = 0 then 0 else 10 := if_neg hb
    rw [hc]; clear hc hb
    by_cases hm : a % sz b = 0
    · rw [if_pos hm]
      have hB : (a % sz b != 0) = false := by rw [hm]; rfl
      clear hm e2
      go_enter Try.func25, Try.ntmps25
      go_wp2_with fail
      go_quiet ((go_at_call 49; exact RetS.d (size_any _ _ h0 h1)))
      go_wp2_with fail
      go_ret
      exact ⟨rfl, below_drewN ((Below.refl _ _).alloc (Nat.le_refl _) _) _⟩
    · rw [if_neg hm]
      have hB : (a % sz b != 0) = true := by simpa using hm
      clear hm e2
      go_enter Try.func25, Try.ntmps25
      go_wp2_with fail
      go_quiet ((go_at_call 49; exact RetS.d (size_any _ _ h0 h1)))
      go_wp2_with fail
      go_ret
      exact ⟨rfl, below_drewN ((Below.refl _ _).alloc (Nat.le_refl _) _) _⟩

/-! ### In -/
theorem new2 (w : World) (u v : Value) (t : TypeId) : (w.alloc (.cells #[u, v] t)).cell? ⟨w.heap.size, 0, none⟩ = some u ∧ (w.alloc (.cells #[u, v] t)).cell? ⟨w.heap.size, 1, none⟩ = some v := by
  constructor <;> simp

set_option maxHeartbeats 400000 in
theorem in_any (x : Int) (p : Pfx) (w : World) (hp : p.ok) (x0 : 0 ≤ x) (x1 : x < 4294967296) : Calls Try.prog 69 #[.int .u32 x, p.v] w (Ret w (.bool (inB x p))) := by
  have hC := fun W => check_any p W hp
  by_cases hg : good p
  · have hc : chk p = 0 := (chk_eq p).2 hg
    have hI := inB_low x p hg
    have hbit := andNot_u32 x p.b hg.1 hg.2.1 x0 x1
    have hBe := fun W => behind_any p.b W hg.1 hg.2.1
    rw [hc] at hC
    obtain ⟨a, b⟩ := p
    clear hc hg
    dsimp only at *
    have k := new2 w (.int .u32 a) (.int .i64 b) 26
    have k0 := cell_regrown k.1
    have k1 := cell_regrown k.2
    clear k
    go_enter Try.func69, Try.ntmps69
    go_wp2_with fail
    refine wp_region_quiet_below (by kernel_rfl) (by kernel_rfl) ?_
    repeat (first | go_big_quiet_step ((first | (go_at_call 44; exact Ret.q0 hC) | (go_at_call 63; exact RetS.q0 hBe))) | quiet_step ((first | (go_at_call 44; exact Ret.q0 hC) | (go_at_call 63; exact RetS.q0 hBe))))
    refine wpQuiet_nil ?_
    intro wq hq'
    have hq := below_of_regrown hq'
    clear hq'
    go_wp2_with fail
    go_ret
    refine ⟨ret_bool ?_, below_trans ((Below.refl _ _).alloc (Nat.le_refl _) _) hq⟩
    rw [← hI]; rfl
  · have hc : (chk p == 0) = false := by have := mt (chk_eq p).1 hg; simpa using this
    rw [inB_no x p hg]
    obtain ⟨a, b⟩ := p
    clear hg
    have k := new2 w (.int .u32 a) (.int .i64 b) 26
    have k0 := cell_regrown k.1
    have k1 := cell_regrown k.2
    clear k
    go_enter Try.func69, Try.ntmps69
    go_wp2_with fail
    refine wp_region_quiet_below (by kernel_rfl) (by kernel_rfl) ?_
    repeat (first | go_big_quiet_step ((first | (go_at_call 44; exact Ret.q0 hC))) | quiet_step ((first | (go_at_call 44; exact Ret.q0 hC))))
    refine wpQuiet_nil ?_
    intro wq hq'
    have hq := below_of_regrown hq'
    clear hq'
    go_wp2_with fail
    go_ret
    exact ⟨rfl, below_trans ((Below.refl _ _).alloc (Nat.le_refl _) _) hq⟩
end Go.Proofs.Ytaecjmjdhbjbkaa

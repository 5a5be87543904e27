/-
  Texts of a proof, one behind the other (part 3).
-/
import Derived.Test.YtmljmahlpcdhoaaRows
import Derived.StillTailTactics
import Derived.Deep.RegionHeld3
import Derived.Shelf.SlGeneric
import Derived.Shelf.Small.Bits
import Derived.Shelf.Strconv.Itoa0
import Derived.Test.YtmljmahlpcdhoaaProg
import Derived.Lib.BitFns
import Derived.Test.YtmljmahlpcdhoaaPc1
set_option linter.unusedVariables false
set_option linter.unusedSimpArgs false
namespace Go.Proofs.Ytmljmahlpcdhoaa
set_option linter.unusedVariables false
open Go.RowKit Go.Sort

abbrev Pfx.v (p : Pfx) : Value := .agg #[.int .u32 p.a, .int .i64 p.b]

set_option maxHeartbeats 400000 in
theorem behind_any (n : Int) (w : World) (h0 : 0 ≤ n) (h1 : n ≤ 32) : Calls Try.prog 102 #[.int .i64 n] w (RetS w (.int .u32 (sz n - 1))) := by
  go_enter Try.func102, Try.ntmps102
  go_wp2
  go_ret
  refine ⟨ret_int ?_, rfl⟩
  have h2 := sz_pos n
  have h3 := sz_le n h0
  have e : (2 : Int) ^ (32 - n).toNat = sz n := rfl
  simp only [IntKind.wrap, IntKind.bits, IntKind.signed]
  rw [e]; simp; omega

set_option maxHeartbeats 400000 in
theorem size_any (n : Int) (w : World) (h0 : 0 ≤ n) (h1 : n ≤ 32) : Calls Try.prog 103 #[.int .i64 n] w (RetS w (.int .u64 (sz n))) := by
  go_enter Try.func103, Try.ntmps103
  go_wp2
  go_loop [3, 4] (fun o i => ∃ (k : Int) (x : Int), n ≤ k ∧ k ≤ 32 ∧ i = .int .i64 k ∧ o = .int .u64 x ∧ 0 ≤ x ∧ x ≤ 4294967296 ∧ Hid (x * sz k = sz n)) (fun _ i => (32 - intOf i).toNat)
  case atStart => exact ⟨n, 1, by omega, h1, rfl, rfl, by omega, by omega, Int.one_mul _⟩
  case round =>
    obtain ⟨k, x, hk, hk2, rfl, rfl, hx0, hx1, H⟩ := hrel
    by_cases hlt : k < 32
    · go_wp2
      go_round
      case rel =>
        have h := sz_step n k x hlt h0 hx0 H.out
        exact ⟨k + 1, 2 * x, by omega, by omega, rfl, rfl, by omega, h.2, h.1⟩
      case measure => simp [intOf]; omega
    · obtain rfl : k = 32 := by omega
      go_wp2
      go_ret
      refine ⟨ret_int ?_, rfl⟩
      have h := H.out
      rw [sz_32] at h; omega

theorem andNot_u32 (x n : Int) (h0 : 0 ≤ n) (h1 : n ≤ 32) (x0 : 0 ≤ x) (x1 : x < 4294967296) : bits .andNot .u32 x (sz n - 1) = x / sz n * sz n := by
  have h2 := sz_pos n
  have h3 := sz_le n h0
  rw [u32_andNot _ _ x0 x1 (by omega) (by omega)]
  obtain ⟨a, rfl⟩ := Int.eq_ofNat_of_zero_le x0
  have e : (sz n - 1).toNat = 2 ^ (32 - n).toNat - 1 := by rw [sz_nat]; omega
  rw [e, Int.toNat_natCast, andNot_low a _ (by omega) (by omega), sz_nat]
  simp
theorem and_u32 (x n : Int) (h0 : 0 ≤ n) (x0 : 0 ≤ x) (x1 : x < 4294967296) : bits .and .u32 x (sz n - 1) = x % sz n := by
  have h2 := sz_pos n
  have h3 := sz_le n h0
  rw [u32_and _ _ x0 x1 (by omega) (by omega)]
  obtain ⟨a, rfl⟩ := Int.eq_ofNat_of_zero_le x0
  have e : (sz n - 1).toNat = 2 ^ (32 - n).toNat - 1 := by rw [sz_nat]; omega
  rw [e, Int.toNat_natCast, and_low a, sz_nat]
  simp

set_option maxHeartbeats 400000 in
theorem check_any (p : Pfx) (w : World) (hp : p.ok) : Calls Try.prog 97 #[p.v] w (Ret w (.int .i64 (chk p))) := by
  obtain ⟨a, b⟩ := p
  obtain ⟨a0, a1, b0, b1⟩ := hp
  dsimp only at a0 a1 b0 b1
  by_cases hb : b < 0 ∨ 32 < b
  · have hc : chk ⟨a, b⟩ = 1 := if_pos hb
    rw [hc]; clear hc
    rcases hb with hb | hb
    · go_enter Try.func97, Try.ntmps97
      go_wp2_with fail
      go_ret
      exact ⟨rfl, (Below.refl _ _).alloc (Nat.le_refl _) _⟩
    · have hb' : ¬ b < 0 := by omega
      go_enter Try.func97, Try.ntmps97
      go_wp2_with fail
      go_ret
      exact ⟨rfl, (Below.refl _ _).alloc (Nat.le_refl _) _⟩
  · have h0 : 0 ≤ b := by omega
    have h1 : b ≤ 32 := by omega
    have hbit := and_u32 a b h0 a0 a1
    have hc : chk ⟨a, b⟩ = if a % sz b = 0 then 0 else 10 := if_neg hb
    rw [hc]; clear hc hb
    by_cases hm : a % sz b = 0
    · rw [if_pos hm]
      have hB : (bits .and .u32 a (sz b - 1) != 0) = false := by rw [hbit, hm]; rfl
      clear hbit hm
      go_enter Try.func97, Try.ntmps97
      go_wp2_with fail
      go_quiet ((go_at_call 102; exact RetS.d (behind_any _ _ h0 h1)))
      go_wp2_with fail
      go_ret
      exact ⟨rfl, below_drewN ((Below.refl _ _).alloc (Nat.le_refl _) _) _⟩
    · rw [if_neg hm]
      have hB : (bits .and .u32 a (sz b - 1) != 0) = true := by rw [hbit]; simpa using hm
      clear hbit hm
      go_enter Try.func97, Try.ntmps97
      go_wp2_with fail
      go_quiet ((go_at_call 102; exact RetS.d (behind_any _ _ h0 h1)))
      go_wp2_with fail
      go_ret
      exact ⟨rfl, below_drewN ((Below.refl _ _).alloc (Nat.le_refl _) _) _⟩
set_option maxHeartbeats 400000 in
theorem refCheck_any (p : Pfx) (w : World) (hp : p.ok) : Calls Try.prog 99 #[p.v] w (Ret w (.int .i64 (chk p))) := by
  obtain ⟨a, b⟩ := p
  obtain ⟨a0, a1, b0, b1⟩ := hp
  dsimp only at a0 a1 b0 b1
  by_cases hb : b < 0 ∨ 32 < b
  · have hc : chk ⟨a, b⟩ = 1 := if_pos hb
    rw [hc]; clear hc
    rcases hb with hb | hb
    · go_enter Try.func99, Try.ntmps99
      go_wp2_with fail
      go_ret
      exact ⟨rfl, (Below.refl _ _).alloc (Nat.le_refl _) _⟩
    · have hb' : ¬ b < 0 := by omega
      go_enter Try.func99, Try.ntmps99
      go_wp2_with fail
      go_ret
      exact ⟨rfl, (Below.refl _ _).alloc (Nat.le_refl _) _⟩
  · have h0 : 0 ≤ b := by omega
    have h1 : b ≤ 32 := by omega
    have hp := sz_pos b
    have hz : ¬ sz b = 0 := by omega
    have e1 : IntKind.u64.wrap a = a := by simp [IntKind.wrap, IntKind.bits, IntKind.signed]; omega
    have e2 : a.tmod (sz b) = a % sz b := Int.tmod_eq_emod_of_nonneg a0
    have hc : chk ⟨a, b⟩ = if a % sz b = 0 then 0 else 10 := if_neg hb
    rw [hc]; clear hc hb
    by_cases hm : a % sz b = 0
    · rw [if_pos hm]
      have hB : (a % sz b != 0) = false := by rw [hm]; rfl
      clear hm e2
      go_enter Try.func99, Try.ntmps99
      go_wp2_with fail
      go_quiet ((go_at_call 103; exact RetS.d (size_any _ _ h0 h1)))
      go_wp2_with fail
      go_ret
      exact ⟨rfl, below_drewN ((Below.refl _ _).alloc (Nat.le_refl _) _) _⟩
    · rw [if_neg hm]
      have hB : (a % sz b != 0) = true := by simpa using hm
      clear hm e2
      go_enter Try.func99, Try.ntmps99
      go_wp2_with fail
      go_quiet ((go_at_call 103; exact RetS.d (size_any _ _ h0 h1)))
      go_wp2_with fail
      go_ret
      exact ⟨rfl, below_drewN ((Below.refl _ _).alloc (Nat.le_refl _) _) _⟩

theorem new2 (w : World) (u v : Value) (t : TypeId) : (w.alloc (.cells #[u, v] t)).cell? ⟨w.heap.size, 0, none⟩ = some u ∧ (w.alloc (.cells #[u, v] t)).cell? ⟨w.heap.size, 1, none⟩ = some v := by
  constructor <;> simp

set_option maxHeartbeats 400000 in
theorem in_any (x : Int) (p : Pfx) (w : World) (hp : p.ok) (x0 : 0 ≤ x) (x1 : x < 4294967296) : Calls Try.prog 98 #[.int .u32 x, p.v] w (Ret w (.bool (inB x p))) := by
  have hC := fun W => check_any p W hp
  by_cases hg : good p
  · have hc : chk p = 0 := (chk_eq p).2 hg
    have hI := inB_low x p hg
    have hbit := andNot_u32 x p.b hg.1 hg.2.1 x0 x1
    have hBe := fun W => behind_any p.b W hg.1 hg.2.1
    rw [hc] at hC
    obtain ⟨a, b⟩ := p
    clear hc hg
    dsimp only at *
    have k := new2 w (.int .u32 a) (.int .i64 b) 49
    have k0 := cell_regrown k.1
    have k1 := cell_regrown k.2
    clear k
    go_enter Try.func98, Try.ntmps98
    go_wp2_with fail
    refine wp_region_quiet_below (by kernel_rfl) (by kernel_rfl) ?_
    repeat (first | go_big_quiet_step ((first | (go_at_call 97; exact Ret.q0 hC) | (go_at_call 102; exact RetS.q0 hBe))) | quiet_step ((first | (go_at_call 97; exact Ret.q0 hC) | (go_at_call 102; exact RetS.q0 hBe))))
    refine wpQuiet_nil ?_
    intro wq hq'
    have hq := below_of_regrown hq'
    clear hq'
    go_wp2_with fail
    go_ret
    refine ⟨ret_bool ?_, below_trans ((Below.refl _ _).alloc (Nat.le_refl _) _) hq⟩
    rw [← hI]; rfl
  · have hc : (chk p == 0) = false := by have := mt (chk_eq p).1 hg; simpa using this
    rw [inB_no x p hg]
    obtain ⟨a, b⟩ := p
    clear hg
    have k := new2 w (.int .u32 a) (.int .i64 b) 49
    have k0 := cell_regrown k.1
    have k1 := cell_regrown k.2
    clear k
    go_enter Try.func98, Try.ntmps98
    go_wp2_with fail
    refine wp_region_quiet_below (by kernel_rfl) (by kernel_rfl) ?_
    repeat (first | go_big_quiet_step ((first | (go_at_call 97; exact Ret.q0 hC))) | quiet_step ((first | (go_at_call 97; exact Ret.q0 hC))))
    refine wpQuiet_nil ?_
    intro wq hq'
    have hq := below_of_regrown hq'
    clear hq'
    go_wp2_with fail
    go_ret
    exact ⟨rfl, below_trans ((Below.refl _ _).alloc (Nat.le_refl _) _) hq⟩
end Go.Proofs.Ytmljmahlpcdhoaa

namespace Go.Proofs.Ytmljmahlpcdhoaa
set_option linter.unusedVariables false
open Go.RowKit Go.Sort

set_option maxHeartbeats 400000 in
theorem refIn_any (x : Int) (p : Pfx) (w : World) (hp : p.ok) (x0 : 0 ≤ x) (x1 : x < 4294967296) : Calls Try.prog 100 #[.int .u32 x, p.v] w (Ret w (.bool (inB x p))) := by
  have hC := fun W => refCheck_any p W hp
  by_cases hg : good p
  · have hc : chk p = 0 := (chk_eq p).2 hg
    have hS := fun W => size_any p.b W hg.1 hg.2.1
    rw [hc] at hC
    have hp0 := sz_pos p.b
    have hI : inB x p = (decide (p.a ≤ x) && decide (x < p.a + sz p.b)) := by unfold inB; simp [hg]
    obtain ⟨a, b⟩ := p
    obtain ⟨a0, a1, b0, b1⟩ := hp
    clear hc hg
    dsimp only at *
    rw [hI]; clear hI
    have k := new2 w (.int .u32 a) (.int .i64 b) 49
    have k0 := cell_regrown k.1
    have k1 := cell_regrown k.2
    clear k
    have e1 : IntKind.u64.wrap x = x := by simp [IntKind.wrap, IntKind.bits, IntKind.signed]; omega
    have e2 : IntKind.u64.wrap a = a := by simp [IntKind.wrap, IntKind.bits, IntKind.signed]; omega
    by_cases hle : a ≤ x
    · have hd : decide (a ≤ x) = true := by simpa using hle
      have e3 : IntKind.u64.wrap (x - a) = x - a := by simp [IntKind.wrap, IntKind.bits, IntKind.signed]; omega
      have e4 : decide (x < a + sz b) = decide (x - a < sz b) := by rw [decide_eq_decide]; omega
      rw [hd, Bool.true_and, e4]; clear e4
      go_enter Try.func100, Try.ntmps100
      go_wp2_with fail
      refine wp_region_quiet_below (by kernel_rfl) (by kernel_rfl) ?_
      repeat (first | go_big_quiet_step ((first | (go_at_call 99; exact Ret.q0 hC) | (go_at_call 103; exact RetS.q0 hS))) | quiet_step ((first | (go_at_call 99; exact Ret.q0 hC) | (go_at_call 103; exact RetS.q0 hS))))
      refine wpQuiet_nil ?_
      intro wq hq'
      have hq := below_of_regrown hq'
      clear hq'
      go_wp2_with fail
      go_ret
      exact ⟨by rfl, below_trans ((Below.refl _ _).alloc (Nat.le_refl _) _) hq⟩
    · have hd : decide (a ≤ x) = false := by simpa using hle
      rw [hd, Bool.false_and]
      go_enter Try.func100, Try.ntmps100
      go_wp2_with fail
      refine wp_region_quiet_below (by kernel_rfl) (by kernel_rfl) ?_
      repeat (first | go_big_quiet_step ((first | (go_at_call 99; exact Ret.q0 hC) | (go_at_call 103; exact RetS.q0 hS))) | quiet_step ((first | (go_at_call 99; exact Ret.q0 hC) | (go_at_call 103; exact RetS.q0 hS))))
      refine wpQuiet_nil ?_
      intro wq hq'
      have hq := below_of_regrown hq'
      clear hq'
      go_wp2_with fail
      go_ret
      exact ⟨by rfl, below_trans ((Below.refl _ _).alloc (Nat.le_refl _) _) hq⟩
  · have hc : (chk p == 0) = false := by have := mt (chk_eq p).1 hg; simpa using this
    rw [inB_no x p hg]
    obtain ⟨a, b⟩ := p
    clear hg
    have k := new2 w (.int .u32 a) (.int .i64 b) 49
    have k0 := cell_regrown k.1
    have k1 := cell_regrown k.2
    clear k
    go_enter Try.func100, Try.ntmps100
    go_wp2_with fail
    refine wp_region_quiet_below (by kernel_rfl) (by kernel_rfl) ?_
    repeat (first | go_big_quiet_step ((first | (go_at_call 99; exact Ret.q0 hC))) | quiet_step ((first | (go_at_call 99; exact Ret.q0 hC))))
    refine wpQuiet_nil ?_
    intro wq hq'
    have hq := below_of_regrown hq'
    clear hq'
    go_wp2_with fail
    go_ret
    exact ⟨rfl, below_trans ((Below.refl _ _).alloc (Nat.le_refl _) _) hq⟩

theorem box2 {w w1 : World} {a b c d : Value} {t : TypeId} (hb : Below ((w.alloc (.cells #[a, b] t)).alloc (.cells #[c, d] t)).heap.size ((w.alloc (.cells #[a, b] t)).alloc (.cells #[c, d] t)) w1) :
    Below w.heap.size w w1 ∧ w.heap.size + 2 ≤ w1.heap.size ∧ w1.cell? ⟨w.heap.size, 0, none⟩ = some a ∧ w1.cell? ⟨w.heap.size, 1, none⟩ = some b ∧ w1.cell? ⟨w.heap.size + 1, 0, none⟩ = some c ∧ w1.cell? ⟨w.heap.size + 1, 1, none⟩ = some d := by
  have hs := hb.size
  simp at hs
  refine ⟨below_trans (((Below.refl _ _).alloc (Nat.le_refl _) _).alloc (by simp) _) hb, by omega, ?_, ?_, ?_, ?_⟩
  · rw [hb.cell (by simp; omega)]; simp
  · rw [hb.cell (by simp; omega)]; simp
  · rw [hb.cell (by simp)]; simp
  · rw [hb.cell (by simp)]; simp

set_option maxHeartbeats 400000 in
theorem within_any (p q : Pfx) (w : World) (hp : p.ok) (hq : q.ok) : Calls Try.prog 87 #[p.v, q.v] w (Ret w (.bool (withinB p q))) := by
  have hC := fun W => check_any p W hp
  by_cases hg : good p
  · have hc : chk p = 0 := (chk_eq p).2 hg
    rw [hc] at hC
    have hI := fun W => in_any p.a q W hq hp.1 hp.2.1
    have hW : withinB p q = (decide (q.b ≤ p.b) && inB p.a q) := by unfold withinB; simp [hg]
    obtain ⟨a, b⟩ := p
    obtain ⟨c, d⟩ := q
    dsimp only at *
    rw [hW]; clear hW hc hg
    by_cases hle : d ≤ b
    · have hd : decide (d ≤ b) = true := by simpa using hle
      rw [hd, Bool.true_and]; clear hd
      go_enter Try.func87, Try.ntmps87
      go_wp2_with fail
      refine (hC _).mono ?_
      rintro e w1 ⟨rfl, hb1⟩
      obtain ⟨hB, hs, c0, c1, c2, c3⟩ := box2 hb1
      go_wp2_with fail
      refine (hI _).mono ?_
      rintro e w2 ⟨rfl, hb2⟩
      go_wp2_with fail
      go_ret
      exact ⟨rfl, below_trans hB hb2⟩
    · have hd : decide (d ≤ b) = false := by simpa using hle
      rw [hd, Bool.false_and]; clear hd
      go_enter Try.func87, Try.ntmps87
      go_wp2_with fail
      refine (hC _).mono ?_
      rintro e w1 ⟨rfl, hb1⟩
      obtain ⟨hB, hs, c0, c1, c2, c3⟩ := box2 hb1
      go_wp2_with fail
      go_ret
      exact ⟨rfl, hB⟩
  · have hc : (chk p == 0) = false := by have := mt (chk_eq p).1 hg; simpa using this
    have hW : withinB p q = false := by unfold withinB; simp [hg]
    rw [hW]; clear hW
    obtain ⟨a, b⟩ := p
    obtain ⟨c, d⟩ := q
    clear hg
    go_enter Try.func87, Try.ntmps87
    go_wp2_with fail
    refine (hC _).mono ?_
    rintro e w1 ⟨rfl, hb1⟩
    obtain ⟨hB, hs, c0, c1, c2, c3⟩ := box2 hb1
    go_wp2_with fail
    go_ret
    exact ⟨rfl, hB⟩

def cmpI (x y : Int) : Int := if x < y then -1 else if y < x then 1 else 0

end Go.Proofs.Ytmljmahlpcdhoaa

namespace Go.Proofs
open Go.Shelf
def Try.lays129_ren : Go.Shelf.Ren := ⟨fun | 129 => 85 | n => n, fun | 53 => 153 | 3 => 3 | 4 => 4 | 46 => 39 | 5 => 5 | 9 => 9 | n => n, fun | n => n⟩
def Try.lays125_ren : Go.Shelf.Ren := ⟨fun | 125 => 66 | 128 => 84 | 129 => 85 | n => n, fun | 46 => 39 | 3 => 3 | 51 => 43 | 53 => 153 | 4 => 4 | 5 => 5 | 9 => 9 | n => n, fun | n => n⟩
end Go.Proofs

namespace Go.Proofs.Ytmljmahlpcdhoaa
set_option linter.unusedVariables false
open Go.RowKit Go.Sort

set_option maxHeartbeats 400000 in
theorem refWithin_any (p q : Pfx) (w : World) (hp : p.ok) (hq : q.ok) : Calls Try.prog 90 #[p.v, q.v] w (Ret w (.bool (withinB p q))) := by
  have hC := fun W => refCheck_any p W hp
  have hD := fun W => refCheck_any q W hq
  by_cases hg : good p
  · have hc : chk p = 0 := (chk_eq p).2 hg
    rw [hc] at hC
    by_cases hg2 : good q
    · have hc2 : chk q = 0 := (chk_eq q).2 hg2
      rw [hc2] at hD
      have hI := fun W => refIn_any p.a q W hq hp.1 hp.2.1
      have hW : withinB p q = (decide (q.b ≤ p.b) && inB p.a q) := by unfold withinB; simp [hg]
      obtain ⟨a, b⟩ := p
      obtain ⟨c, d⟩ := q
      dsimp only at *
      rw [hW]; clear hW hc hg hc2 hg2
      by_cases hle : d ≤ b
      · have hd : decide (d ≤ b) = true := by simpa using hle
        rw [hd, Bool.true_and]; clear hd
        go_enter Try.func90, Try.ntmps90
        go_wp2_with fail
        refine (hC _).mono ?_
        rintro e w1 ⟨rfl, hb1⟩
        obtain ⟨hB, hs, c0, c1, c2, c3⟩ := box2 hb1
        go_wp2_with fail
        refine (hD _).mono ?_
        rintro e w2 ⟨rfl, hb2⟩
        have d0 := kc hb2 c0
        have d1 := kc hb2 c1
        have d2 := kc hb2 c2
        have d3 := kc hb2 c3
        go_wp2_with fail
        refine (hI _).mono ?_
        rintro e w3 ⟨rfl, hb3⟩
        go_wp2_with fail
        go_ret
        exact ⟨rfl, below_trans (below_trans hB hb2) hb3⟩
      · have hd : decide (d ≤ b) = false := by simpa using hle
        rw [hd, Bool.false_and]; clear hd
        go_enter Try.func90, Try.ntmps90
        go_wp2_with fail
        refine (hC _).mono ?_
        rintro e w1 ⟨rfl, hb1⟩
        obtain ⟨hB, hs, c0, c1, c2, c3⟩ := box2 hb1
        go_wp2_with fail
        refine (hD _).mono ?_
        rintro e w2 ⟨rfl, hb2⟩
        have d0 := kc hb2 c0
        have d1 := kc hb2 c1
        have d2 := kc hb2 c2
        have d3 := kc hb2 c3
        go_wp2_with fail
        go_ret
        exact ⟨rfl, below_trans hB hb2⟩
    · have hc2 : (chk q == 0) = false := by have := mt (chk_eq q).1 hg2; simpa using this
      have hW : withinB p q = false := by unfold withinB; rw [inB_no _ q hg2]; simp
      rw [hW]; clear hW
      obtain ⟨a, b⟩ := p
      obtain ⟨c, d⟩ := q
      clear hg hg2 hc
      go_enter Try.func90, Try.ntmps90
      go_wp2_with fail
      refine (hC _).mono ?_
      rintro e w1 ⟨rfl, hb1⟩
      obtain ⟨hB, hs, c0, c1, c2, c3⟩ := box2 hb1
      go_wp2_with fail
      refine (hD _).mono ?_
      rintro e w2 ⟨rfl, hb2⟩
      go_wp2_with fail
      go_ret
      exact ⟨rfl, below_trans hB hb2⟩
  · have hc : (chk p == 0) = false := by have := mt (chk_eq p).1 hg; simpa using this
    have hW : withinB p q = false := by unfold withinB; simp [hg]
    rw [hW]; clear hW
    obtain ⟨a, b⟩ := p
    obtain ⟨c, d⟩ := q
    clear hg
    go_enter Try.func90, Try.ntmps90
    go_wp2_with fail
    refine (hC _).mono ?_
    rintro e w1 ⟨rfl, hb1⟩
    obtain ⟨hB, hs, c0, c1, c2, c3⟩ := box2 hb1
    go_wp2_with fail
    go_ret
    exact ⟨rfl, hB⟩

end Go.Proofs.Ytmljmahlpcdhoaa

namespace Go.Proofs.Ytmljmahlpcdhoaa
set_option linter.unusedVariables false

def cb : Nat → Int → Int → Nat
  | 0, _, _ => 0
  | n + 1, x, y => if x / sz (n + 1 : Nat) = y / sz (n + 1 : Nat) then n + 1 else cb n x y
def commonP (p q : Pfx) : Pfx := sub p.a (cb (min p.b q.b).toNat p.a q.a)

end Go.Proofs.Ytmljmahlpcdhoaa

namespace Go.Proofs.Ytmljmahlpcdhoaa
set_option linter.unusedVariables false
open Go.RowKit Go.Sort

end Go.Proofs.Ytmljmahlpcdhoaa

namespace Go.Proofs.Ytmljmahlpcdhoaa
set_option linter.unusedVariables false
open Go.RowKit Go.Sort

theorem sub_zero (x : Int) (h0 : 0 ≤ x) (h1 : x < 4294967296) : sub x 0 = ⟨0, 0⟩ := by
  unfold sub
  rw [sz_0, Int.ediv_eq_zero_of_lt h0 h1]; rfl

end Go.Proofs.Ytmljmahlpcdhoaa

namespace Go.Proofs.Ytmljmahlpcdhoaa.Ab
set_option linter.unusedVariables false
open Go.RowKit

def intA (n : Int) : AVal := .d (.sc (.int .i64 n))
def boolA (b : Bool) : AVal := .d (.sc (.bool b))
def pfxD (p : Pfx) : List Dat := [.sc (.int .u32 p.a), .sc (.int .i64 p.b)]
theorem pfxD_len (p : Pfx) : (pfxD p).length = 2 := rfl
def pfxA (p : Pfx) : AVal := .agg [.d (.sc (.int .u32 p.a)), .d (.sc (.int .i64 p.b))]
def pfxsA (l : List Pfx) : AVal := .d (.sl (l.flatMap pfxD) l.length)
theorem pfxEq (x y : Pfx) : eqCells [.int .u32 x.a, .int .i64 x.b] [.int .u32 y.a, .int .i64 y.b] = some (x == y) := by
  obtain ⟨a, b⟩ := x
  obtain ⟨c, d⟩ := y
  simp only [eqCells, eqV, if_true, Bool.and_true, Option.some.injEq]
  rw [Bool.eq_iff_iff]
  simp [Pfx.mk.injEq]
theorem noStand : ∀ t, (tlook tab t).isSome = true → Try.prog.stoodInHeld t = false := by
  have h : tab.all (fun t _ => !Try.prog.stoodInHeld t) = true := by kernel_rfl
  intro t ht
  obtain ⟨te, hte⟩ := Option.isSome_iff_exists.1 ht
  simpa using TTab.of_all h hte
abbrev Just (c : AVal) : AVal → Heap → Prop := fun c' h' => c' = c ∧ h' = []

theorem refWithin_A (p q : Pfx) (hp : p.ok) (hq : q.ok) : ACall Try.prog 90 [pfxA p, pfxA q] [] (Just (boolA (withinB p q))) := ACall_val (by kernel_rfl) rfl rfl rfl fun w => refWithin_any p q w hp hq
theorem within_A (p q : Pfx) (hp : p.ok) (hq : q.ok) : ACall Try.prog 87 [pfxA p, pfxA q] [] (Just (boolA (withinB p q))) := ACall_val (by kernel_rfl) rfl rfl rfl fun w => within_any p q w hp hq
end Go.Proofs.Ytmljmahlpcdhoaa.Ab

namespace Go.Proofs.Ytmljmahlpcdhoaa.Ab
set_option linter.unusedVariables false
open Go.RowKit
class NPc (Q : Post) : Prop where
  np : NoPanic Q
instance {K : Env → Heap → Prop} {Q : Post} [I : NPc Q] : NPc (AThen K Q) := ⟨np_then I.np⟩
instance {j : Nat} {Q : Post} [I : NPc Q] : NPc (AIn j Q) := ⟨np_in I.np⟩
instance {nt : Nat} {tab : TTab} {rs : List ResultVar} {R : AVal → Heap → Prop} : NPc (APost nt tab rs R) := ⟨np_post⟩
instance : NPc RF := ⟨fun _ _ _ h => h⟩
section
variable {nt : Nat} {Q : Post} {e : Env} {h : Heap} {ops : Array Oper} {o : Oper} {T : List Nat} {fuel : Nat} {listed : Array Bool}
theorem q_1 {x : Operand} {c : AVal} (ho : o.op = .move x := by exact rfl) (hx : aev e x = some c := by exact rfl) : AYield Try.prog T e h o c := Y_move ho hx
theorem q_2 {x : Operand} {c : AVal} (ho : o.op = .assign x := by exact rfl) (hx : aev e x = some c := by exact rfl) : AYield Try.prog T e h o c := Y_assign ho hx
theorem q_3 {t el k j : Nat} {x y : Operand} {cs : List Dat} {n : Nat} {q : IntKind} {i : Int} (ho : o.op = .indexAddr t x y := by exact rfl) (hel : telem tab t = some el := by exact rfl) (hsz : tsize tab el = some k := by exact rfl) (hx : aev e x = some (.d (.sl cs n)) := by exact rfl) (hy : aev e y = some (.d (.sc (.int q i))) := by exact rfl) (hj : i = (j : Int) := by exact rfl) (hlt : j < n := by omega) : AYield Try.prog T e h o (.iptr cs (j * k)) := R_index tabOk ho hel hsz hx hy hj hlt
theorem q_4 {t f off o1 : Nat} {x : Operand} {cs : List Dat} (ho : o.op = .fieldAddr t x f := by exact rfl) (hf : tfield tab t f = some off := by exact rfl) (hx : aev e x = some (.iptr cs o1) := by exact rfl) : AYield Try.prog T e h o (.iptr cs (o1 + off)) := R_fieldi tabOk ho hf hx
theorem q_5 {t o1 s : Nat} {x : Operand} {cs xs : List Dat} {c : AVal} {ag : Bool} (ho : o.op = .load t x := by exact rfl) (hs : tsize tab t = some s := by exact rfl) (ha : tagg tab t = some ag := by exact rfl) (hx : aev e x = some (.iptr cs o1) := by exact rfl) (hw : win cs o1 s = xs := by exact rfl) (hl : Nat.beq xs.length s = true := by exact rfl) (hc : lval ag (xs.map AVal.d) = some c := by exact rfl) : AYield Try.prog T e h o c := R_loadi tabOk ho hs ha hx hw hl hc
theorem q_6 {t el : Nat} {x : Operand} {cs : List Dat} {n : Nat} (ho : o.op = .call { callee := .builtin .len, args := #[x], argTypes := #[t] } := by exact rfl) (hel : telem tab t = some el := by exact rfl) (hx : aev e x = some (.d (.sl cs n)) := by exact rfl) : AYield Try.prog T e h o (.d (.sc (.int .i64 (n : Int)))) := R_len tabOk ho hel hx
theorem q_7 {t id o1 s : Nat} {x : Operand} {cs xs : List AVal} {c : AVal} {ag : Bool} (ho : o.op = .load t x := by exact rfl) (hs : tsize tab t = some s := by exact rfl) (ha : tagg tab t = some ag := by exact rfl) (hx : aev e x = some (.ptr id o1) := by exact rfl) (hb : look h id = some (.var cs) := by exact rfl) (hT : T.contains id = false := by exact rfl) (hw : win cs o1 s = xs := by exact rfl) (hl : Nat.beq xs.length s = true := by exact rfl) (hc : lval ag xs = some c := by exact rfl) : AYield Try.prog T e h o c := R_load tabOk ho hs ha hx hb hT hw hl hc
theorem q_8 {t f off o1 id : Nat} {x : Operand} (ho : o.op = .fieldAddr t x f := by exact rfl) (hf : tfield tab t f = some off := by exact rfl) (hx : aev e x = some (.ptr id o1) := by exact rfl) (hb : (look h id).isSome = true := by exact rfl) : AYield Try.prog T e h o (.ptr id (o1 + off)) := R_field tabOk ho hf hx hb
theorem q_9 {t u : TypeId} {x y : Operand} {k : IntKind} {a b r : Int} (ho : o.op = .binOp .add t x y u := by exact rfl) (hx : aev e x = some (.d (.sc (.int k a))) := by exact rfl) (hy : aev e y = some (.d (.sc (.int k b))) := by exact rfl) (hr : k.wrap (a + b) = r := by first | exact wrap_succ (by omega) | exact wrap_pred (by omega) (by omega) | exact wrap_i64 ⟨by omega, by omega⟩ | rfl) : AYield Try.prog T e h o (.d (.sc (.int k r))) := Y_add ho hx hy hr
theorem q_10 {t u : TypeId} {x y : Operand} {k : IntKind} {a b r : Int} (ho : o.op = .binOp .sub t x y u := by exact rfl) (hx : aev e x = some (.d (.sc (.int k a))) := by exact rfl) (hy : aev e y = some (.d (.sc (.int k b))) := by exact rfl) (hr : k.wrap (a - b) = r := by first | exact wrap_succ (by omega) | exact wrap_pred (by omega) (by omega) | exact wrap_i64 ⟨by omega, by omega⟩ | rfl) : AYield Try.prog T e h o (.d (.sc (.int k r))) := Y_sub ho hx hy hr
theorem q_11 {op : BinOp} {t u : TypeId} {x y : Operand} {k : IntKind} {a b : Int} {c : Bool} (ho : o.op = .binOp op t x y u := by exact rfl) (hx : aev e x = some (.d (.sc (.int k a))) := by exact rfl) (hy : aev e y = some (.d (.sc (.int k b))) := by exact rfl) (hr : ibin op k a b = some (.bool c) := by exact rfl) (hc : c = true := by first | (simp only [decide_eq_true_eq, beq_iff_eq, bne_iff_ne, ne_eq]; done) | (simp only [decide_eq_true_eq, beq_iff_eq, bne_iff_ne, ne_eq]; omega)) : AYield Try.prog T e h o (.d (.sc (.bool true))) := R_cmpT ho hx hy hr hc
theorem q_12 {op : BinOp} {t u : TypeId} {x y : Operand} {k : IntKind} {a b : Int} {c : Bool} (ho : o.op = .binOp op t x y u := by exact rfl) (hx : aev e x = some (.d (.sc (.int k a))) := by exact rfl) (hy : aev e y = some (.d (.sc (.int k b))) := by exact rfl) (hr : ibin op k a b = some (.bool c) := by exact rfl) (hc : c = false := by first | (simp only [decide_eq_false_iff_not, beq_eq_false_iff_ne, bne_eq_false_iff_eq, ne_eq]; done) | (simp only [decide_eq_false_iff_not, beq_eq_false_iff_ne, bne_eq_false_iff_eq, ne_eq]; omega)) : AYield Try.prog T e h o (.d (.sc (.bool false))) := R_cmpF ho hx hy hr hc
theorem q_13 {op : BinOp} {t u : TypeId} {x y : Operand} {k : IntKind} {a b : Int} {r : Value} (ho : o.op = .binOp op t x y u := by exact rfl) (hx : aev e x = some (.d (.sc (.int k a))) := by exact rfl) (hy : aev e y = some (.d (.sc (.int k b))) := by exact rfl) (hr : ibin op k a b = some r := by exact rfl) : AYield Try.prog T e h o (.d (.sc r)) := Y_ibin ho hx hy hr
theorem q_14 {x : Operand} {i : Nat} {cs : List AVal} {c : AVal} (ho : o.op = .extract x i := by exact rfl) (hx : aev e x = some (.tup cs) := by exact rfl) (hi : cs[i]? = some c := by exact rfl) : AYield Try.prog T e h o c := Y_extract ho hx hi
theorem q_15 {t el el' id k n : Nat} {x : Operand} {cs : List Dat} (ho : o.op = .call { callee := .builtin .len, args := #[x], argTypes := #[t] } := by exact rfl) (hel : telem tab t = some el := by exact rfl) (hx : aev e x = some (.row id) := by exact rfl) (hb : look h id = some (.row el' k n cs) := by exact rfl) : AYield Try.prog T e h o (.d (.sc (.int .i64 (n : Int)))) := R_lenr tabOk ho hel hx hb
theorem q_16 {t el : Nat} {x : Operand} (ho : o.op = .call { callee := .builtin .len, args := #[x], argTypes := #[t] } := by exact rfl) (hel : telem tab t = some el := by exact rfl) (hx : aev e x = some (.d (.sc (.slice none 0 0))) := by exact rfl) : AYield Try.prog T e h o (.d (.sc (.int .i64 0))) := R_lenn tabOk ho hel hx
theorem q_17 {t el el' k kk j id : Nat} {x y : Operand} {cs : List Dat} {n : Nat} {q : IntKind} {i : Int} (ho : o.op = .indexAddr t x y := by exact rfl) (hel : telem tab t = some el := by exact rfl) (hsz : tsize tab el = some k := by exact rfl) (hx : aev e x = some (.row id) := by exact rfl) (hb : look h id = some (.row el' kk n cs) := by exact rfl) (hy : aev e y = some (.d (.sc (.int q i))) := by exact rfl) (hj : i = (j : Int) := by exact rfl) (hlt : j < n := by omega) : AYield Try.prog T e h o (.eptr id (j * k)) := R_indexr tabOk ho hel hsz hx hb hy hj hlt
theorem q_18 {t f off o1 id : Nat} {x : Operand} (ho : o.op = .fieldAddr t x f := by exact rfl) (hf : tfield tab t f = some off := by exact rfl) (hx : aev e x = some (.eptr id o1) := by exact rfl) (hb : (look h id).isSome = true := by exact rfl) : AYield Try.prog T e h o (.eptr id (o1 + off)) := R_fielde tabOk ho hf hx hb
theorem q_19 {t id o1 s el k n : Nat} {x : Operand} {cs xs : List Dat} {c : AVal} {ag : Bool} (ho : o.op = .load t x := by exact rfl) (hs : tsize tab t = some s := by exact rfl) (ha : tagg tab t = some ag := by exact rfl) (hx : aev e x = some (.eptr id o1) := by exact rfl) (hb : look h id = some (.row el k n cs) := by exact rfl) (hT : T.contains id = false := by exact rfl) (hw : win cs o1 s = xs := by exact rfl) (hl : Nat.beq xs.length s = true := by exact rfl) (hc : lval ag (xs.map AVal.d) = some c := by exact rfl) : AYield Try.prog T e h o c := R_loade tabOk ho hs ha hx hb hT hw hl hc
theorem q_20 {t : TypeId} {x : Operand} {b : Bool} (ho : o.op = .unOp .not t x := by exact rfl) (hx : aev e x = some (.d (.sc (.bool b))) := by exact rfl) : AYield Try.prog T e h o (.d (.sc (.bool !b))) := Y_not ho hx
theorem q_21 {x y z : Operand} {b : Bool} {c : AVal} (ho : o.op = .pick x y z := by exact rfl) (hx : aev e x = some (.d (.sc (.bool b))) := by exact rfl) (hb : b = true := by first | rfl | assumption) (hy : aev e y = some c := by exact rfl) : AYield Try.prog T e h o c := Y_pick_t ho hx hb hy
theorem q_22 {x y z : Operand} {b : Bool} {c : AVal} (ho : o.op = .pick x y z := by exact rfl) (hx : aev e x = some (.d (.sc (.bool b))) := by exact rfl) (hb : b = false := by first | rfl | assumption) (hz : aev e z = some c := by exact rfl) : AYield Try.prog T e h o c := Y_pick_f ho hx hb hz
theorem q_23 {x y z : Operand} {b p q : Bool} (ho : o.op = .pick x y z := by exact rfl) (hx : aev e x = some (.d (.sc (.bool b))) := by exact rfl) (hy : aev e y = some (.d (.sc (.bool p))) := by exact rfl) (hz : aev e z = some (.d (.sc (.bool q))) := by exact rfl) : AYield Try.prog T e h o (.d (.sc (.bool (cond b p q)))) := Y_pick_b ho hx hy hz
theorem q_24 {t : TypeId} {ps : Array (Nat × Operand)} {al : List (Nat × AVal)} {z xs : List AVal} {fs : List (Nat × TypeId)} (ho : o.op = .build t ps := by exact rfl) (hz : tzero tab t = some z := by exact rfl) (hfs : (match tlook tab t with | some ⟨_, _, _, _, .st fs⟩ => some fs | _ => none) = some fs := by exact rfl) (hal' : fs.all (fun f => (tlook tab f.2).isSome) = true := by exact rfl) (hal : aparts e ps.toList = some al := by exact rfl) (hf : afill (stPlace tab fs) z al = some xs := by exact rfl) : AYield Try.prog T e h o (.agg xs) := R_build tabOk ho hz hfs hal' hal hf
theorem q_N (i : Nat) {c : AVal} {d : Nat} [I : NPc Q] (hi : ops[i]? = some o) (hs : Region.noSelect ops = true) (hf : Region.free .any ops listed i = true) (hr : (Region.ready .any ops listed).contains i = true)
    (hw : awant ops e o = some true) (hdst : o.dst = some d) (hd : Nat.blt d nt = true) (hy : AYield Try.prog T e h o c) (H : AAny Try.prog nt ops Q T fuel (listed.setIfInBounds i true) ((d, c) :: e) h) : AAny Try.prog nt ops Q T (fuel + 1) listed e h := N_take hi hs hf hr I.np hw hdst hd hy H
theorem q_25 {x y z : Operand} {b : Bool} {c : AVal} (ho : o.op = .pick x y z := by exact rfl) (hx : aev e x = some (.d (.sc (.bool b))) := by exact rfl) (hb : b = true := by exact rfl) (hy : aev e y = some c := by exact rfl) : AYield Try.prog T e h o c := Y_pick_t ho hx hb hy
theorem q_26 {x y z : Operand} {b : Bool} {c : AVal} (ho : o.op = .pick x y z := by exact rfl) (hx : aev e x = some (.d (.sc (.bool b))) := by exact rfl) (hb : b = false := by exact rfl) (hz : aev e z = some c := by exact rfl) : AYield Try.prog T e h o c := Y_pick_f ho hx hb hz
theorem q_A {c : AVal} (hy : AYield Try.prog T e h o c := by first | exact q_1 | exact q_2 | exact q_3 | exact q_4) : AYield Try.prog T e h o c := hy
theorem q_B {c : AVal} (hy : AYield Try.prog T e h o c := by first | exact q_6 | exact q_7 | exact q_8 | exact q_9 | exact q_10 | exact q_11 | exact q_12 | exact q_13 | exact q_14 | exact q_15 | exact q_16 | exact q_17 | exact q_18 | exact q_19 | exact q_20 | exact q_21 | exact q_22 | exact q_23 | exact q_24) : AYield Try.prog T e h o c := hy
variable {rest : List Oper} {K : Env → Heap → Prop}
theorem q_a {t : TypeId} {d : Nat} {z : List AVal} (HK : AOps Try.prog nt ops Q rest ((d, .ptr d 0) :: killE d e) ((d, .var z) :: killH d h)) (hw : awant ops e o = some true := by exact rfl) (hdst : o.dst = some d := by exact rfl) (hd : Nat.blt d nt = true := by exact rfl) (hid : Nat.blt d 1000 = true := by exact rfl) (ho : o.op = .alloc t := by exact rfl) (hz : tzero tab t = some z := by exact rfl) : AOps Try.prog nt ops Q (o :: rest) e h := O_alloc tabOk hw hdst hd hid ho hz HK
theorem q_b {t : TypeId} {x y : Operand} {id off s : Nat} {cs xs : List AVal} {c : AVal} (HK : AOps Try.prog nt ops Q rest e ((id, .var (setW cs off xs)) :: h)) (hw : awant ops e o = some true := by exact rfl) (hdst : o.dst = none := by exact rfl) (ho : o.op = .store t x y := by exact rfl) (hx : aev e x = some (.ptr id off) := by exact rfl) (hb : look h id = some (.var cs) := by exact rfl)
    (hy : aev e y = some c := by exact rfl) (hcs : cellsA c = some xs := by exact rfl) (hp : xs.all plainC = true := by exact rfl) (hs : tsize tab t = some s := by exact rfl) (hl : Nat.beq xs.length s = true := by exact rfl) (hle : Nat.ble (off + s) cs.length = true := by exact rfl) : AOps Try.prog nt ops Q (o :: rest) e h := O_store tabOk hw hdst ho hx hb hy hcs hp hs hl hle HK
theorem q_c {t el k len d : Nat} {ps : Array (Nat × Operand)} {al : List (Nat × AVal)} {xs : List AVal} {ds : List Dat} (HK : AOps Try.prog nt ops Q rest ((d, .row d) :: killE d e) ((d, .row el k len ds) :: killH d h)) (hw : awant ops e o = some true := by exact rfl) (hdst : o.dst = some d := by exact rfl) (hd : Nat.blt d nt = true := by exact rfl) (hid : Nat.blt d 1000 = true := by exact rfl) (ho : o.op = .buildSlice t len ps := by exact rfl)
    (hel : telem tab t = some el := by exact rfl) (hsz : tsize tab el = some k := by exact rfl) (hok : (match tlook tab el with | some te => te.zero.all (·.oneCell') && Nat.blt 0 te.size && Nat.beq te.zero.length te.size && Nat.blt (len * te.size) 16777216 && Nat.blt 0 len | none => false) = true := by exact rfl)
    (hal : aparts e ps.toList = some al := by exact rfl) (hf : (match tlook tab el with
      | some te => afill (fun i => some (i * te.size, te.size)) ((List.range (len * te.size)).map fun j => match te.zero[j % te.size]? with | some v => .d (.sc v) | none => .top) al
      | none => none) = some xs := by exact rfl) (hds : datsA xs = some ds := by exact rfl) : AOps Try.prog nt ops Q (o :: rest) e h := O_slice tabOk hw hdst hd hid ho hel hsz hok hal hf hds HK
theorem q_d {t : TypeId} {x : Operand} {d : Nat} {c : AVal} {cs : List AVal} (HK : AOps Try.prog nt ops Q rest ((d, .ptr d 0) :: killE d e) ((d, .var (cs.map (killV d))) :: killH d h)) (hw : awant ops e o = some true := by exact rfl) (hdst : o.dst = some d := by exact rfl) (hd : Nat.blt d nt = true := by exact rfl) (hid : Nat.blt d 1000 = true := by exact rfl) (ho : o.op = .box t x := by exact rfl) (hx : aev e x = some c := by exact rfl) (hcs : cellsA c = some cs := by exact rfl) : AOps Try.prog nt ops Q (o :: rest) e h := O_box hw hdst hd hid ho hx hcs HK
theorem q_e {d : Nat} (H : AOps Try.prog nt ops Q rest ((d, .und) :: e) h) (hw : awant ops e o = some false := by exact rfl) (hdst : o.dst = some d := by exact rfl) (hd : Nat.blt d nt = true := by exact rfl) : AOps Try.prog nt ops Q (o :: rest) e h := O_s hw hdst hd H
theorem q_f {d : Nat} (H : AQ Try.prog nt ops Q rest ((d, .und) :: e) h) (hw : awant ops e o = some false := by exact rfl) (hdst : o.dst = some d := by exact rfl) (hd : Nat.blt d nt = true := by exact rfl) : AQ Try.prog nt ops Q (o :: rest) e h := Q_s hw hdst hd H
theorem q_g (H : AOps Try.prog nt ops Q rest e h) (hw : awant ops e o = some false := by exact rfl) (hdst : o.dst = none := by exact rfl) : AOps Try.prog nt ops Q (o :: rest) e h := O_sn hw hdst H
theorem q_h {i j : Nat} (H : Q (.exit i) e h) (hb : Nat.beq i j = false := by exact rfl) : AIn j Q (.exit i) e h := X_in_other hb H
theorem q_j (H : K e h) : AThen K Q .normal e h := H
theorem q_k {j : Nat} (H : Q .normal e h) : AIn j Q .normal e h := H
theorem q_l {j : Nat} (H : Q (.exit j) e h) : AThen K Q (.exit j) e h := H
theorem q_m (H : Q .ret e h) : AThen K Q .ret e h := H
theorem q_n {j : Nat} (H : Q .normal e h) : AIn j Q (.exit j) e h := X_in_same H
theorem q_o {j : Nat} (H : Q .ret e h) : AIn j Q .ret e h := H
theorem q_P (i : Nat) {c : AVal} {d : Nat} [I : NPc Q] (hi : ops[i]? = some o) (hs : (Region.noSelect ops && Region.free .any ops listed i && (Region.ready .any ops listed).contains i) = true)
    (hw : awant ops e o = some true) (hdst : o.dst = some d) (hd : Nat.blt d nt = true) (hy : AYield Try.prog T e h o c) (H : AAny Try.prog nt ops Q T fuel (listed.setIfInBounds i true) ((d, c) :: e) h) : AAny Try.prog nt ops Q T (fuel + 1) listed e h := by
  simp only [Bool.and_eq_true] at hs
  exact N_take hi hs.1.1 hs.1.2 hs.2 I.np hw hdst hd hy H
end
end Go.Proofs.Ytmljmahlpcdhoaa.Ab

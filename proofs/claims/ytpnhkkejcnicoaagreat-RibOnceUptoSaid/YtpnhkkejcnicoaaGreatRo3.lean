/-
  Texts of a proof, one behind the other (part 4).
-/
import Derived.Test.YtpnhkkejcnicoaaGreatRows
import Derived.StillTailTactics
import Derived.Deep.RegionHeld3
import Derived.Shelf.SlGeneric
import Derived.Shelf.SlSortCmp.WholeK
import Derived.Shelf.Small.Bits
import Derived.Shelf.Strconv.Itoa0
import Derived.Test.YtpnhkkejcnicoaaGreatProg
import Derived.Lib.BitFns
import Derived.Lib.Bytealg
import Derived.Test.YtpnhkkejcnicoaaGreatRo1
import Derived.Test.YtpnhkkejcnicoaaGreatRo2
set_option linter.unusedVariables false
set_option linter.unusedSimpArgs false
namespace Go.Proofs.YtpnhkkejcnicoaaGreat
set_option linter.unusedVariables false
open Go.RowKit Go.Sort

abbrev Pfx.v (p : Pfx) : Value := .agg #[.int .u32 p.a, .int .i64 p.b]

set_option maxHeartbeats 400000 in
theorem behind_any (n : Int) (w : World) (h0 : 0 ≤ n) (h1 : n ≤ 32) : Calls Tryz.prog 70 #[.int .i64 n] w (RetS w (.int .u32 (sz n - 1))) := by
  go_enter Tryz.func70, Tryz.ntmps70
  go_wp2
  go_ret
  refine ⟨ret_int ?_, rfl⟩
  have h2 := sz_pos n
  have h3 := sz_le n h0
  have e : (2 : Int) ^ (32 - n).toNat = sz n := rfl
  simp only [IntKind.wrap, IntKind.bits, IntKind.signed]
  rw [e]; simp; omega

theorem andNot_u32 (x n : Int) (h0 : 0 ≤ n) (h1 : n ≤ 32) (x0 : 0 ≤ x) (x1 : x < 4294967296) : bits .andNot .u32 x (sz n - 1) = x / sz n * sz n := by
  have h2 := sz_pos n
  have h3 := sz_le n h0
  rw [u32_andNot _ _ x0 x1 (by omega) (by omega)]
  obtain ⟨a, rfl⟩ := Int.eq_ofNat_of_zero_le x0
  have e : (sz n - 1).toNat = 2 ^ (32 - n).toNat - 1 := by rw [sz_nat]; omega
  rw [e, Int.toNat_natCast, andNot_low a _ (by omega) (by omega), sz_nat]
  simp
theorem and_u32 (x n : Int) (h0 : 0 ≤ n) (x0 : 0 ≤ x) (x1 : x < 4294967296) : bits .and .u32 x (sz n - 1) = x % sz n := by
  have h2 := sz_pos n
  have h3 := sz_le n h0
  rw [u32_and _ _ x0 x1 (by omega) (by omega)]
  obtain ⟨a, rfl⟩ := Int.eq_ofNat_of_zero_le x0
  have e : (sz n - 1).toNat = 2 ^ (32 - n).toNat - 1 := by rw [sz_nat]; omega
  rw [e, Int.toNat_natCast, and_low a, sz_nat]
  simp

set_option maxHeartbeats 400000 in
theorem addrSubnet_any (x n : Int) (w : World) (h0 : 0 ≤ n) (h1 : n ≤ 32) (x0 : 0 ≤ x) (x1 : x < 4294967296) :
    Calls Tryz.prog 71 #[.int .u32 x, .int .i64 n] w (Ret w (.tuple #[(sub x n).v, .int .i64 0])) := by
  have hbit := andNot_u32 x n h0 h1 x0 x1
  go_enter Tryz.func71, Tryz.ntmps71
  go_wp2_with (go_at_call 70; refine (behind_any _ _ (by omega) (by omega)).mono ?_; rintro e w' ⟨rfl, rfl⟩)
  refine bodyPost_ret (v := .tuple #[(sub x n).v, .int .i64 0]) (by simp [results, Tryz.results71, go_sem, sub]) rfl ⟨rfl, (Below.refl _ _).alloc (Nat.le_refl _) _⟩

set_option maxHeartbeats 400000 in
theorem check_any (p : Pfx) (w : World) (hp : p.ok) : Calls Tryz.prog 45 #[p.v] w (Ret w (.int .i64 (chk p))) := by
  obtain ⟨a, b⟩ := p
  obtain ⟨a0, a1, b0, b1⟩ := hp
  dsimp only at a0 a1 b0 b1
  by_cases hb : b < 0 ∨ 32 < b
  · have hc : chk ⟨a, b⟩ = 1 := if_pos hb
    rw [hc]; clear hc
    rcases hb with hb | hb
    · go_enter Tryz.func45, Tryz.ntmps45
      go_wp2_with fail
      go_ret
      exact ⟨rfl, (Below.refl _ _).alloc (Nat.le_refl _) _⟩
    · have hb' : ¬ b < 0 := by omega
      go_enter Tryz.func45, Tryz.ntmps45
      go_wp2_with fail
      go_ret
      exact ⟨rfl, (Below.refl _ _).alloc (Nat.le_refl _) _⟩
  · have h0 : 0 ≤ b := by omega
    have h1 : b ≤ 32 := by omega
    have hbit := and_u32 a b h0 a0 a1
    have hc : chk ⟨a, b⟩ = if a % sz b = 0 then 0 else 10 := if_neg hb
    rw [hc]; clear hc hb
    by_cases hm : a % sz b = 0
    · rw [if_pos hm]
      have hB : (bits .and .u32 a (sz b - 1) != 0) = false := by rw [hbit, hm]; rfl
      clear hbit hm
      go_enter Tryz.func45, Tryz.ntmps45
      go_wp2_with fail
      go_quiet ((go_at_call 70; exact RetS.d (behind_any _ _ h0 h1)))
      go_wp2_with fail
      go_ret
      exact ⟨rfl, below_drewN ((Below.refl _ _).alloc (Nat.le_refl _) _) _⟩
    · rw [if_neg hm]
      have hB : (bits .and .u32 a (sz b - 1) != 0) = true := by rw [hbit]; simpa using hm
      clear hbit hm
      go_enter Tryz.func45, Tryz.ntmps45
      go_wp2_with fail
      go_quiet ((go_at_call 70; exact RetS.d (behind_any _ _ h0 h1)))
      go_wp2_with fail
      go_ret
      exact ⟨rfl, below_drewN ((Below.refl _ _).alloc (Nat.le_refl _) _) _⟩
theorem new2 (w : World) (u v : Value) (t : TypeId) : (w.alloc (.cells #[u, v] t)).cell? ⟨w.heap.size, 0, none⟩ = some u ∧ (w.alloc (.cells #[u, v] t)).cell? ⟨w.heap.size, 1, none⟩ = some v := by
  constructor <;> simp

set_option maxHeartbeats 400000 in
theorem in_any (x : Int) (p : Pfx) (w : World) (hp : p.ok) (x0 : 0 ≤ x) (x1 : x < 4294967296) : Calls Tryz.prog 135 #[.int .u32 x, p.v] w (Ret w (.bool (inB x p))) := by
  have hC := fun W => check_any p W hp
  by_cases hg : good p
  · have hc : chk p = 0 := (chk_eq p).2 hg
    have hI := inB_low x p hg
    have hbit := andNot_u32 x p.b hg.1 hg.2.1 x0 x1
    have hBe := fun W => behind_any p.b W hg.1 hg.2.1
    rw [hc] at hC
    obtain ⟨a, b⟩ := p
    clear hc hg
    dsimp only at *
    have k := new2 w (.int .u32 a) (.int .i64 b) 44
    have k0 := cell_regrown k.1
    have k1 := cell_regrown k.2
    clear k
    go_enter Tryz.func135, Tryz.ntmps135
    go_wp2_with fail
    refine wp_region_quiet_below (by kernel_rfl) (by kernel_rfl) ?_
    repeat (first | go_big_quiet_step ((first | (go_at_call 45; exact Ret.q0 hC) | (go_at_call 70; exact RetS.q0 hBe))) | quiet_step ((first | (go_at_call 45; exact Ret.q0 hC) | (go_at_call 70; exact RetS.q0 hBe))))
    refine wpQuiet_nil ?_
    intro wq hq'
    have hq := below_of_regrown hq'
    clear hq'
    go_wp2_with fail
    go_ret
    refine ⟨ret_bool ?_, below_trans ((Below.refl _ _).alloc (Nat.le_refl _) _) hq⟩
    rw [← hI]; rfl
  · have hc : (chk p == 0) = false := by have := mt (chk_eq p).1 hg; simpa using this
    rw [inB_no x p hg]
    obtain ⟨a, b⟩ := p
    clear hg
    have k := new2 w (.int .u32 a) (.int .i64 b) 44
    have k0 := cell_regrown k.1
    have k1 := cell_regrown k.2
    clear k
    go_enter Tryz.func135, Tryz.ntmps135
    go_wp2_with fail
    refine wp_region_quiet_below (by kernel_rfl) (by kernel_rfl) ?_
    repeat (first | go_big_quiet_step ((first | (go_at_call 45; exact Ret.q0 hC))) | quiet_step ((first | (go_at_call 45; exact Ret.q0 hC))))
    refine wpQuiet_nil ?_
    intro wq hq'
    have hq := below_of_regrown hq'
    clear hq'
    go_wp2_with fail
    go_ret
    exact ⟨rfl, below_trans ((Below.refl _ _).alloc (Nat.le_refl _) _) hq⟩
end Go.Proofs.YtpnhkkejcnicoaaGreat

namespace Go.Proofs.YtpnhkkejcnicoaaGreat
set_option linter.unusedVariables false
open Go.RowKit Go.Sort

theorem box2 {w w1 : World} {a b c d : Value} {t : TypeId} (hb : Below ((w.alloc (.cells #[a, b] t)).alloc (.cells #[c, d] t)).heap.size ((w.alloc (.cells #[a, b] t)).alloc (.cells #[c, d] t)) w1) :
    Below w.heap.size w w1 ∧ w.heap.size + 2 ≤ w1.heap.size ∧ w1.cell? ⟨w.heap.size, 0, none⟩ = some a ∧ w1.cell? ⟨w.heap.size, 1, none⟩ = some b ∧ w1.cell? ⟨w.heap.size + 1, 0, none⟩ = some c ∧ w1.cell? ⟨w.heap.size + 1, 1, none⟩ = some d := by
  have hs := hb.size
  simp at hs
  refine ⟨below_trans (((Below.refl _ _).alloc (Nat.le_refl _) _).alloc (by simp) _) hb, by omega, ?_, ?_, ?_, ?_⟩
  · rw [hb.cell (by simp; omega)]; simp
  · rw [hb.cell (by simp; omega)]; simp
  · rw [hb.cell (by simp)]; simp
  · rw [hb.cell (by simp)]; simp

set_option maxHeartbeats 400000 in
theorem within_any (p q : Pfx) (w : World) (hp : p.ok) (hq : q.ok) : Calls Tryz.prog 123 #[p.v, q.v] w (Ret w (.bool (withinB p q))) := by
  have hC := fun W => check_any p W hp
  by_cases hg : good p
  · have hc : chk p = 0 := (chk_eq p).2 hg
    rw [hc] at hC
    have hI := fun W => in_any p.a q W hq hp.1 hp.2.1
    have hW : withinB p q = (decide (q.b ≤ p.b) && inB p.a q) := by unfold withinB; simp [hg]
    obtain ⟨a, b⟩ := p
    obtain ⟨c, d⟩ := q
    dsimp only at *
    rw [hW]; clear hW hc hg
    by_cases hle : d ≤ b
    · have hd : decide (d ≤ b) = true := by simpa using hle
      rw [hd, Bool.true_and]; clear hd
      go_enter Tryz.func123, Tryz.ntmps123
      go_wp2_with fail
      refine (hC _).mono ?_
      rintro e w1 ⟨rfl, hb1⟩
      obtain ⟨hB, hs, c0, c1, c2, c3⟩ := box2 hb1
      go_wp2_with fail
      refine (hI _).mono ?_
      rintro e w2 ⟨rfl, hb2⟩
      go_wp2_with fail
      go_ret
      exact ⟨rfl, below_trans hB hb2⟩
    · have hd : decide (d ≤ b) = false := by simpa using hle
      rw [hd, Bool.false_and]; clear hd
      go_enter Tryz.func123, Tryz.ntmps123
      go_wp2_with fail
      refine (hC _).mono ?_
      rintro e w1 ⟨rfl, hb1⟩
      obtain ⟨hB, hs, c0, c1, c2, c3⟩ := box2 hb1
      go_wp2_with fail
      go_ret
      exact ⟨rfl, hB⟩
  · have hc : (chk p == 0) = false := by have := mt (chk_eq p).1 hg; simpa using this
    have hW : withinB p q = false := by unfold withinB; simp [hg]
    rw [hW]; clear hW
    obtain ⟨a, b⟩ := p
    obtain ⟨c, d⟩ := q
    clear hg
    go_enter Tryz.func123, Tryz.ntmps123
    go_wp2_with fail
    refine (hC _).mono ?_
    rintro e w1 ⟨rfl, hb1⟩
    obtain ⟨hB, hs, c0, c1, c2, c3⟩ := box2 hb1
    go_wp2_with fail
    go_ret
    exact ⟨rfl, hB⟩

def cmpI (x y : Int) : Int := if x < y then -1 else if y < x then 1 else 0

set_option maxHeartbeats 400000 in
theorem compareA_any (x y : Int) (w : World) : Calls Tryz.prog 41 #[.int .u32 x, .int .u32 y] w (RetS w (.int .i64 (cmpI x y))) := by
  unfold cmpI
  by_cases h1 : x < y
  · rw [if_pos h1]
    go_enter Tryz.func41, Tryz.ntmps41
    go_wp2
    go_ret
    exact ⟨rfl, rfl⟩
  · rw [if_neg h1]
    by_cases h2 : y < x
    · rw [if_pos h2]
      go_enter Tryz.func41, Tryz.ntmps41
      go_wp2
      go_ret
      exact ⟨rfl, rfl⟩
    · rw [if_neg h2]
      go_enter Tryz.func41, Tryz.ntmps41
      go_wp2
      go_ret
      exact ⟨rfl, rfl⟩
set_option maxHeartbeats 400000 in
theorem compareI_any (x y : Int) (w : World) : Calls Tryz.prog 29 #[.int .i64 x, .int .i64 y] w (RetS w (.int .i64 (cmpI x y))) := by
  unfold cmpI
  by_cases h1 : x < y
  · rw [if_pos h1]
    go_enter Tryz.func29, Tryz.ntmps29
    go_wp2
    go_ret
    exact ⟨rfl, rfl⟩
  · rw [if_neg h1]
    by_cases h2 : y < x
    · rw [if_pos h2]
      go_enter Tryz.func29, Tryz.ntmps29
      go_wp2
      go_ret
      exact ⟨rfl, rfl⟩
    · rw [if_neg h2]
      go_enter Tryz.func29, Tryz.ntmps29
      go_wp2
      go_ret
      exact ⟨rfl, rfl⟩
set_option maxHeartbeats 400000 in
theorem or2_any (x y : Int) (b : Nat) (w : World) (h0 : w.cell? ⟨b, 0, none⟩ = some (.int .i64 x)) (h1 : w.cell? ⟨b, 1, none⟩ = some (.int .i64 y)) :
    Calls Tryz.prog 40 #[.slice (some ⟨b, 0, none⟩) 2 2] w (RetS w (.int .i64 (if x = 0 then y else x))) := by
  by_cases hx : x = 0
  · subst hx
    rw [if_pos rfl]
    by_cases hy : y = 0
    · subst hy
      go_enter Tryz.func40, Tryz.ntmps40
      go_wp2
      refine wp_loop_rounds 3 ?_
      rw [rounds_succ]; go_wp2
      rw [rounds_succ]; go_wp2
      rw [rounds_succ]; go_wp2
      go_ret
      exact ⟨rfl, rfl⟩
    · have hB : (y != 0) = true := by simpa using hy
      go_enter Tryz.func40, Tryz.ntmps40
      go_wp2
      refine wp_loop_rounds 3 ?_
      rw [rounds_succ]; go_wp2
      rw [rounds_succ]; go_wp2
      go_ret
      exact ⟨rfl, rfl⟩
  · rw [if_neg hx]
    have hB : (x != 0) = true := by simpa using hx
    go_enter Tryz.func40, Tryz.ntmps40
    go_wp2
    refine wp_loop_rounds 3 ?_
    rw [rounds_succ]; go_wp2
    go_ret
    exact ⟨rfl, rfl⟩
theorem or2_to (x y r : Int) (b : Nat) (w : World) (hr : Hid ((if x = 0 then y else x) = r)) (h0 : w.cell? ⟨b, 0, none⟩ = some (.int .i64 x)) (h1 : w.cell? ⟨b, 1, none⟩ = some (.int .i64 y)) :
    Calls Tryz.prog 40 #[.slice (some ⟨b, 0, none⟩) 2 2] w (RetS w (.int .i64 r)) := by
  have h := or2_any x y b w h0 h1
  rw [hr.out] at h
  exact h
end Go.Proofs.YtpnhkkejcnicoaaGreat

namespace Go.Proofs
open Go.Shelf
def Tryz.sortRoute_ren : Go.Shelf.Ren := ⟨fun | 6 => 35 | 15 => 39 | 14 => 54 | 28 => 67 | 29 => 68 | 20 => 87 | 21 => 88 | 22 => 89 | 23 => 90 | 24 => 91 | 25 => 92 | 26 => 93 | 27 => 94 | 46 => 108 | 47 => 98 | 48 => 99 | 49 => 109 | 50 => 110 | 57 => 121 | n => n, fun | 22 => 35 | 24 => 52 | 25 => 72 | 3 => 3 | 39 => 96 | 0 => 0 | 53 => 41 | 55 => 130 | 4 => 4 | 46 => 123 | 45 => 122 | 50 => 60 | 5 => 5 | 9 => 9 | 66 => 159 | 70 => 163 | 76 => 176 | 77 => 177 | n => n, fun | n => n⟩
theorem Tryz.sortRoute : Go.Proofs.SlLaysF0.n6 Tryz.prog Tryz.sortRoute_ren := {
  mixed := by kernel_rfl
  f6 := ⟨Tryz.f35.name, by decide, Tryz.func35.trans (congrArg some (by kernel_rfl))⟩
  f14 := ⟨Tryz.f54.name, by decide, Tryz.func54.trans (congrArg some (by kernel_rfl))⟩
  f15 := Tryz.func39.trans (congrArg some (by kernel_rfl))
  f20 := ⟨Tryz.f87.name, by decide, Tryz.func87.trans (congrArg some (by kernel_rfl))⟩
  f21 := ⟨Tryz.f88.name, by decide, Tryz.func88.trans (congrArg some (by kernel_rfl))⟩
  f22 := ⟨Tryz.f89.name, by decide, Tryz.func89.trans (congrArg some (by kernel_rfl))⟩
  f23 := ⟨Tryz.f90.name, by decide, Tryz.func90.trans (congrArg some (by kernel_rfl))⟩
  f24 := ⟨Tryz.f91.name, by decide, Tryz.func91.trans (congrArg some (by kernel_rfl))⟩
  f25 := ⟨Tryz.f92.name, by decide, Tryz.func92.trans (congrArg some (by kernel_rfl))⟩
  f26 := ⟨Tryz.f93.name, by decide, Tryz.func93.trans (congrArg some (by kernel_rfl))⟩
  f27 := ⟨Tryz.f94.name, by decide, Tryz.func94.trans (congrArg some (by kernel_rfl))⟩
  f28 := Tryz.func67.trans (congrArg some (by kernel_rfl))
  f29 := Tryz.func68.trans (congrArg some (by kernel_rfl))
  f46 := ⟨Tryz.f108.name, by decide, Tryz.func108.trans (congrArg some (by kernel_rfl))⟩
  f47 := Tryz.func98.trans (congrArg some (by kernel_rfl))
  f48 := Tryz.func99.trans (congrArg some (by kernel_rfl))
  f49 := ⟨Tryz.f109.name, by decide, Tryz.func109.trans (congrArg some (by kernel_rfl))⟩
  f50 := ⟨Tryz.f110.name, by decide, Tryz.func110.trans (congrArg some (by kernel_rfl))⟩
  f57 := ⟨Tryz.f121.name, by decide, Tryz.func121.trans (congrArg some (by kernel_rfl))⟩
  t0 := Tryz.underlying0
  a0 := Tryz.isAgg0
  z0 := Tryz.sizeOf0
  v0 := Tryz.zeroValue0
  t3 := Tryz.underlying3
  a3 := Tryz.isAgg3
  z3 := Tryz.sizeOf3
  v3 := Tryz.zeroValue3
  t4 := Tryz.underlying4
  a4 := Tryz.isAgg4
  z4 := Tryz.sizeOf4
  v4 := Tryz.zeroValue4
  t5 := Tryz.underlying5
  a5 := Tryz.isAgg5
  z5 := Tryz.sizeOf5
  v5 := Tryz.zeroValue5
  t9 := Tryz.underlying9
  a9 := Tryz.isAgg9
  z9 := Tryz.sizeOf9
  v9 := Tryz.zeroValue9
  t22 := Tryz.underlying35
  a22 := Tryz.isAgg35
  z22 := Tryz.sizeOf35
  v22 := Tryz.zeroValue35
  t25 := Tryz.underlying72
  a25 := Tryz.isAgg72
  z25 := Tryz.sizeOf72
  v25 := Tryz.zeroValue72
  t39 := Tryz.underlying96
  a39 := Tryz.isAgg96
  z39 := Tryz.sizeOf96
  v39 := Tryz.zeroValue96
  t45 := Tryz.underlying122
  a45 := Tryz.isAgg122
  z45 := Tryz.sizeOf122
  v45 := Tryz.zeroValue122
  t46 := Tryz.underlying123
  a46 := Tryz.isAgg123
  z46 := Tryz.sizeOf123
  v46 := Tryz.zeroValue123
  t50 := Tryz.underlying60
  a50 := Tryz.isAgg60
  z50 := Tryz.sizeOf60
  v50 := Tryz.zeroValue60
  t53 := Tryz.underlying41
  a53 := Tryz.isAgg41
  z53 := Tryz.sizeOf41
  v53 := Tryz.zeroValue41
  t55 := Tryz.underlying130
  a55 := Tryz.isAgg130
  z55 := Tryz.sizeOf130
  v55 := Tryz.zeroValue130
  t66 := Tryz.underlying159
  a66 := Tryz.isAgg159
  z66 := Tryz.sizeOf159
  v66 := Tryz.zeroValue159
  t70 := Tryz.underlying163
  a70 := Tryz.isAgg163
  z70 := Tryz.sizeOf163
  v70 := Tryz.zeroValue163
  t76 := Tryz.underlying176
  a76 := Tryz.isAgg176
  z76 := Tryz.sizeOf176
  v76 := Tryz.zeroValue176
  t77 := Tryz.underlying177
  a77 := Tryz.isAgg177
  z77 := Tryz.sizeOf177
  v77 := Tryz.zeroValue177 }
def Tryz.sortTaken_ren : Go.Shelf.Ren := ⟨fun | 6 => 15 | 15 => 39 | 14 => 38 | 28 => 67 | 29 => 68 | 20 => 59 | 21 => 60 | 22 => 61 | 23 => 62 | 24 => 63 | 25 => 64 | 26 => 65 | 27 => 66 | 46 => 97 | 47 => 98 | 48 => 99 | 49 => 100 | 50 => 101 | 57 => 111 | n => n, fun | 22 => 37 | 24 => 49 | 25 => 68 | 3 => 3 | 39 => 96 | 0 => 0 | 53 => 41 | 55 => 130 | 4 => 4 | 46 => 123 | 45 => 122 | 50 => 60 | 5 => 5 | 9 => 9 | 66 => 159 | 70 => 163 | 76 => 176 | 77 => 177 | n => n, fun | n => n⟩
theorem Tryz.sortTaken : Go.Proofs.SlLaysF0.n6 Tryz.prog Tryz.sortTaken_ren := {
  mixed := by kernel_rfl
  f6 := ⟨Tryz.f15.name, by decide, Tryz.func15.trans (congrArg some (by kernel_rfl))⟩
  f14 := ⟨Tryz.f38.name, by decide, Tryz.func38.trans (congrArg some (by kernel_rfl))⟩
  f15 := Tryz.func39.trans (congrArg some (by kernel_rfl))
  f20 := ⟨Tryz.f59.name, by decide, Tryz.func59.trans (congrArg some (by kernel_rfl))⟩
  f21 := ⟨Tryz.f60.name, by decide, Tryz.func60.trans (congrArg some (by kernel_rfl))⟩
  f22 := ⟨Tryz.f61.name, by decide, Tryz.func61.trans (congrArg some (by kernel_rfl))⟩
  f23 := ⟨Tryz.f62.name, by decide, Tryz.func62.trans (congrArg some (by kernel_rfl))⟩
  f24 := ⟨Tryz.f63.name, by decide, Tryz.func63.trans (congrArg some (by kernel_rfl))⟩
  f25 := ⟨Tryz.f64.name, by decide, Tryz.func64.trans (congrArg some (by kernel_rfl))⟩
  f26 := ⟨Tryz.f65.name, by decide, Tryz.func65.trans (congrArg some (by kernel_rfl))⟩
  f27 := ⟨Tryz.f66.name, by decide, Tryz.func66.trans (congrArg some (by kernel_rfl))⟩
  f28 := Tryz.func67.trans (congrArg some (by kernel_rfl))
  f29 := Tryz.func68.trans (congrArg some (by kernel_rfl))
  f46 := ⟨Tryz.f97.name, by decide, Tryz.func97.trans (congrArg some (by kernel_rfl))⟩
  f47 := Tryz.func98.trans (congrArg some (by kernel_rfl))
  f48 := Tryz.func99.trans (congrArg some (by kernel_rfl))
  f49 := ⟨Tryz.f100.name, by decide, Tryz.func100.trans (congrArg some (by kernel_rfl))⟩
  f50 := ⟨Tryz.f101.name, by decide, Tryz.func101.trans (congrArg some (by kernel_rfl))⟩
  f57 := ⟨Tryz.f111.name, by decide, Tryz.func111.trans (congrArg some (by kernel_rfl))⟩
  t0 := Tryz.underlying0
  a0 := Tryz.isAgg0
  z0 := Tryz.sizeOf0
  v0 := Tryz.zeroValue0
  t3 := Tryz.underlying3
  a3 := Tryz.isAgg3
  z3 := Tryz.sizeOf3
  v3 := Tryz.zeroValue3
  t4 := Tryz.underlying4
  a4 := Tryz.isAgg4
  z4 := Tryz.sizeOf4
  v4 := Tryz.zeroValue4
  t5 := Tryz.underlying5
  a5 := Tryz.isAgg5
  z5 := Tryz.sizeOf5
  v5 := Tryz.zeroValue5
  t9 := Tryz.underlying9
  a9 := Tryz.isAgg9
  z9 := Tryz.sizeOf9
  v9 := Tryz.zeroValue9
  t22 := Tryz.underlying37
  a22 := Tryz.isAgg37
  z22 := Tryz.sizeOf37
  v22 := Tryz.zeroValue37
  t25 := Tryz.underlying68
  a25 := Tryz.isAgg68
  z25 := Tryz.sizeOf68
  v25 := Tryz.zeroValue68
  t39 := Tryz.underlying96
  a39 := Tryz.isAgg96
  z39 := Tryz.sizeOf96
  v39 := Tryz.zeroValue96
  t45 := Tryz.underlying122
  a45 := Tryz.isAgg122
  z45 := Tryz.sizeOf122
  v45 := Tryz.zeroValue122
  t46 := Tryz.underlying123
  a46 := Tryz.isAgg123
  z46 := Tryz.sizeOf123
  v46 := Tryz.zeroValue123
  t50 := Tryz.underlying60
  a50 := Tryz.isAgg60
  z50 := Tryz.sizeOf60
  v50 := Tryz.zeroValue60
  t53 := Tryz.underlying41
  a53 := Tryz.isAgg41
  z53 := Tryz.sizeOf41
  v53 := Tryz.zeroValue41
  t55 := Tryz.underlying130
  a55 := Tryz.isAgg130
  z55 := Tryz.sizeOf130
  v55 := Tryz.zeroValue130
  t66 := Tryz.underlying159
  a66 := Tryz.isAgg159
  z66 := Tryz.sizeOf159
  v66 := Tryz.zeroValue159
  t70 := Tryz.underlying163
  a70 := Tryz.isAgg163
  z70 := Tryz.sizeOf163
  v70 := Tryz.zeroValue163
  t76 := Tryz.underlying176
  a76 := Tryz.isAgg176
  z76 := Tryz.sizeOf176
  v76 := Tryz.zeroValue176
  t77 := Tryz.underlying177
  a77 := Tryz.isAgg177
  z77 := Tryz.sizeOf177
  v77 := Tryz.zeroValue177 }
def Tryz.lays129_ren : Go.Shelf.Ren := ⟨fun | 129 => 68 | n => n, fun | 53 => 130 | 3 => 3 | 4 => 4 | 46 => 96 | 5 => 5 | 9 => 9 | n => n, fun | n => n⟩
def Tryz.lays125_ren : Go.Shelf.Ren := ⟨fun | 125 => 39 | 128 => 67 | 129 => 68 | n => n, fun | 46 => 96 | 3 => 3 | 51 => 41 | 53 => 130 | 4 => 4 | 5 => 5 | 9 => 9 | n => n, fun | n => n⟩
end Go.Proofs

namespace Go.Proofs.YtpnhkkejcnicoaaGreat
set_option linter.unusedVariables false
open Go.RowKit Go.Sort

set_option maxHeartbeats 400000 in
theorem refCmp_any (p q : Pfx) (w : World) : Calls Tryz.prog 6 #[p.v, q.v] w (Ret w (.int .i64 (cmpP p q))) := by
  obtain ⟨a, b⟩ := p
  obtain ⟨c, d⟩ := q
  by_cases h1 : a < c
  · have hr : cmpP ⟨a, b⟩ ⟨c, d⟩ = -1 := if_pos (Or.inl h1)
    rw [hr]; clear hr
    go_enter Tryz.func6, Tryz.ntmps6
    go_wp2_with fail
    go_ret
    exact ⟨rfl, ((Below.refl _ _).alloc (Nat.le_refl _) _).alloc (by simp) _⟩
  · by_cases h2 : a = c
    · subst h2
      by_cases h3 : b < d
      · have hr : cmpP ⟨a, b⟩ ⟨a, d⟩ = -1 := if_pos (Or.inr ⟨rfl, h3⟩)
        rw [hr]; clear hr
        go_enter Tryz.func6, Tryz.ntmps6
        go_wp2_with fail
        go_ret
        exact ⟨rfl, ((Below.refl _ _).alloc (Nat.le_refl _) _).alloc (by simp) _⟩
      · by_cases h4 : b = d
        · subst h4
          have hr : cmpP ⟨a, b⟩ ⟨a, b⟩ = 0 := by unfold cmpP; rw [if_neg (by dsimp only; omega), if_pos rfl]
          rw [hr]; clear hr
          go_enter Tryz.func6, Tryz.ntmps6
          go_wp2_with fail
          go_ret
          exact ⟨rfl, ((Below.refl _ _).alloc (Nat.le_refl _) _).alloc (by simp) _⟩
        · have hr : cmpP ⟨a, b⟩ ⟨a, d⟩ = 1 := by unfold cmpP; rw [if_neg (by dsimp only; omega), if_neg (by simpa using h4)]
          rw [hr]; clear hr
          have hB : (b == d) = false := by simpa using h4
          go_enter Tryz.func6, Tryz.ntmps6
          go_wp2_with fail
          go_ret
          exact ⟨rfl, ((Below.refl _ _).alloc (Nat.le_refl _) _).alloc (by simp) _⟩
    · have hr : cmpP ⟨a, b⟩ ⟨c, d⟩ = 1 := by unfold cmpP; rw [if_neg (by dsimp only; omega), if_neg (by intro h; injection h with h; exact h2 h)]
      rw [hr]; clear hr
      have hB : (a == c) = false := by simpa using h2
      go_enter Tryz.func6, Tryz.ntmps6
      go_wp2_with fail
      go_ret
      exact ⟨rfl, ((Below.refl _ _).alloc (Nat.le_refl _) _).alloc (by simp) _⟩

theorem cmpP_or (p q : Pfx) : (if cmpI p.a q.a = 0 then cmpI p.b q.b else cmpI p.a q.a) = cmpP p q := by
  obtain ⟨a, b⟩ := p
  obtain ⟨c, d⟩ := q
  unfold cmpP cmpI
  dsimp only
  by_cases h1 : a < c
  · simp [h1]
  · by_cases h2 : c < a
    · have : ¬ a = c := by omega
      simp [h1, h2, this]
    · have : a = c := by omega
      subst this
      by_cases h3 : b < d
      · simp [h3]
      · by_cases h4 : d < b
        · have : ¬ b = d := by omega
          simp [h3, h4, this]
        · have : b = d := by omega
          subst this
          simp

theorem alloc3_drew (w : World) (x y z : Obj) : (((w.alloc x).alloc y).alloc z).drew = grow (w.drewN 1) #[x, y, z] := by
  have e : ((w.heap.push x).push y).push z = w.heap ++ #[x, y, z] := by
    rw [Array.push_eq_append, Array.push_eq_append, Array.push_eq_append, Array.append_assoc, Array.append_assoc]; rfl
  show World.mk .. = World.mk ..
  simp only [World.alloc, World.drew, World.drewN, grow]
  simp only [e]

set_option maxHeartbeats 800000 in
theorem cmp_lays (p q : Pfx) (w : World) : Calls Tryz.prog 17 #[p.v, q.v] w (fun e w' => e = .returned (.int .i64 (cmpP p q)) ∧ ∃ n os, w' = grow (w.drewN n) os) := by
  have hr := cmpP_or p q
  obtain ⟨r, hR⟩ : ∃ r, r = cmpP p q := ⟨_, rfl⟩
  rw [← hR] at hr ⊢
  clear hR
  obtain ⟨a, b⟩ := p
  obtain ⟨c, d⟩ := q
  dsimp only at hr
  have HR := Lib.hid hr
  clear hr
  go_enter Tryz.func17, Tryz.ntmps17
  go_wp2_with fail
  go_region_held3 (fun w' => w'.cell? ⟨w.heap.size, 0, none⟩ = some (.int .u32 a) ∧ w'.cell? ⟨w.heap.size, 1, none⟩ = some (.int .i64 b) ∧ w'.cell? ⟨w.heap.size + 1, 0, none⟩ = some (.int .u32 c) ∧ w'.cell? ⟨w.heap.size + 1, 1, none⟩ = some (.int .i64 d)) (go_keep)
    (first | (go_at_call 41; refine (compareA_any a c _).mono ?_; rintro e w' ⟨rfl, rfl⟩) | (go_at_call 29; refine (compareI_any b d _).mono ?_; rintro e w' ⟨rfl, rfl⟩) | (go_at_call 40; refine (or2_to (cmpI a c) (cmpI b d) r _ _ HR ?_ ?_).mono ?_; (go_simp); (go_simp); rintro e w' ⟨rfl, rfl⟩))
  go_wp2_with fail
  go_ret
  exact ⟨rfl, 1, #[_, _, _], alloc3_drew _ _ _ _⟩
theorem below_grow (w : World) (n : Nat) (os : Array Obj) : Below w.heap.size w (grow (w.drewN n) os) := ⟨rfl, rfl, rfl, by simp [grow, World.drewN], fun k hk => by
  show (w.heap ++ os)[k]? = w.heap[k]?
  rw [Array.getElem?_append, if_pos hk]⟩
theorem cmp_any (p q : Pfx) (w : World) : Calls Tryz.prog 17 #[p.v, q.v] w (Ret w (.int .i64 (cmpP p q))) :=
  (cmp_lays p q w).mono fun _ _ ⟨he, n, os, hw⟩ => ⟨he, hw ▸ below_grow w n os⟩

end Go.Proofs.YtpnhkkejcnicoaaGreat

namespace Go.Proofs.YtpnhkkejcnicoaaGreat
set_option linter.unusedVariables false

def cb : Nat → Int → Int → Nat
  | 0, _, _ => 0
  | n + 1, x, y => if x / sz (n + 1 : Nat) = y / sz (n + 1 : Nat) then n + 1 else cb n x y
def commonP (p q : Pfx) : Pfx := sub p.a (cb (min p.b q.b).toNat p.a q.a)

end Go.Proofs.YtpnhkkejcnicoaaGreat

namespace Go.Proofs.YtpnhkkejcnicoaaGreat
set_option linter.unusedVariables false
open Go.RowKit Go.Sort

end Go.Proofs.YtpnhkkejcnicoaaGreat

namespace Go.Proofs.YtpnhkkejcnicoaaGreat
set_option linter.unusedVariables false
open Go.RowKit Go.Sort

theorem sub_zero (x : Int) (h0 : 0 ≤ x) (h1 : x < 4294967296) : sub x 0 = ⟨0, 0⟩ := by
  unfold sub
  rw [sz_0, Int.ediv_eq_zero_of_lt h0 h1]; rfl

end Go.Proofs.YtpnhkkejcnicoaaGreat

namespace Go.Proofs.YtpnhkkejcnicoaaGreat.Ab
set_option linter.unusedVariables false
open Go.RowKit

def intA (n : Int) : AVal := .d (.sc (.int .i64 n))
def boolA (b : Bool) : AVal := .d (.sc (.bool b))
def pfxD (p : Pfx) : List Dat := [.sc (.int .u32 p.a), .sc (.int .i64 p.b)]
theorem pfxD_len (p : Pfx) : (pfxD p).length = 2 := rfl
def pfxA (p : Pfx) : AVal := .agg [.d (.sc (.int .u32 p.a)), .d (.sc (.int .i64 p.b))]
def pfxsA (l : List Pfx) : AVal := .d (.sl (l.flatMap pfxD) l.length)
theorem pfxEq (x y : Pfx) : eqCells [.int .u32 x.a, .int .i64 x.b] [.int .u32 y.a, .int .i64 y.b] = some (x == y) := by
  obtain ⟨a, b⟩ := x
  obtain ⟨c, d⟩ := y
  simp only [eqCells, eqV, if_true, Bool.and_true, Option.some.injEq]
  rw [Bool.eq_iff_iff]
  simp [Pfx.mk.injEq]
theorem noStand : ∀ t, (tlook tab t).isSome = true → Tryz.prog.stoodInHeld t = false := by
  have h : tab.all (fun t _ => !Tryz.prog.stoodInHeld t) = true := by kernel_rfl
  intro t ht
  obtain ⟨te, hte⟩ := Option.isSome_iff_exists.1 ht
  simpa using TTab.of_all h hte
abbrev Just (c : AVal) : AVal → Heap → Prop := fun c' h' => c' = c ∧ h' = []

theorem check_A (p : Pfx) (hp : p.ok) : ACall Tryz.prog 45 [pfxA p] [] (Just (intA (chk p))) := ACall_val (by kernel_rfl) rfl rfl rfl fun w => check_any p w hp
theorem refCmp_A (p q : Pfx) : ACall Tryz.prog 6 [pfxA p, pfxA q] [] (Just (intA (cmpP p q))) := ACall_val (by kernel_rfl) rfl rfl rfl fun w => refCmp_any p q w
theorem cmp_A (p q : Pfx) : ACall Tryz.prog 17 [pfxA p, pfxA q] [] (Just (intA (cmpP p q))) := ACall_val (by kernel_rfl) rfl rfl rfl fun w => cmp_any p q w
theorem within_A (p q : Pfx) (hp : p.ok) (hq : q.ok) : ACall Tryz.prog 123 [pfxA p, pfxA q] [] (Just (boolA (withinB p q))) := ACall_val (by kernel_rfl) rfl rfl rfl fun w => within_any p q w hp hq
end Go.Proofs.YtpnhkkejcnicoaaGreat.Ab

namespace Go.Proofs.YtpnhkkejcnicoaaGreat
set_option linter.unusedVariables false
open Go.Lib

structure Good {α : Type} (c : α → α → Int) : Prop where
  anti : ∀ x y, c y x = - c x y
  trans : ∀ x y z, c x y ≤ 0 → c y z ≤ 0 → c x z ≤ 0
section
variable {α β : Type} {c d : α → α → Int}
theorem Good.refl (G : Good c) (x : α) : c x x = 0 := by have := G.anti x x; omega
theorem Good.lt_le (G : Good c) {x y z : α} (h1 : c x y < 0) (h2 : c y z ≤ 0) : c x z < 0 := by
  have h3 := G.trans x y z (by omega) h2
  rcases Int.lt_or_eq_of_le h3 with h4 | h4
  · exact h4
  · have h5 := G.anti x z
    have h6 := G.trans y z x h2 (by omega)
    have h7 := G.anti x y
    omega
theorem Good.le_lt (G : Good c) {x y z : α} (h1 : c x y ≤ 0) (h2 : c y z < 0) : c x z < 0 := by
  have h3 := G.trans x y z h1 (by omega)
  rcases Int.lt_or_eq_of_le h3 with h4 | h4
  · exact h4
  · have h5 := G.anti x z
    have h6 := G.trans z x y (by omega) h1
    have h7 := G.anti y z
    omega
theorem Good.lt_lt (G : Good c) {x y z : α} (h1 : c x y < 0) (h2 : c y z < 0) : c x z < 0 := G.lt_le h1 (by omega)
def lexc (c d : α → α → Int) : α → α → Int := fun x y => if c x y = 0 then d x y else c x y
theorem Good.lex (G : Good c) (H : Good d) : Good (lexc c d) := by
  refine ⟨fun x y => ?_, fun x y z h1 h2 => ?_⟩
  · unfold lexc
    have h := G.anti x y
    by_cases h0 : c x y = 0
    · rw [if_pos h0, if_pos (by omega)]; exact H.anti x y
    · rw [if_neg h0, if_neg (by omega)]; exact h
  · unfold lexc at *
    by_cases hxy : c x y = 0
    · rw [if_pos hxy] at h1
      by_cases hyz : c y z = 0
      · rw [if_pos hyz] at h2
        have e1 := G.trans x y z (by omega) (by omega)
        have e2 := G.anti x y
        have e3 := G.anti y z
        have e4 := G.trans z y x (by omega) (by omega)
        have e5 := G.anti x z
        rw [if_pos (by omega)]
        exact H.trans x y z h1 h2
      · rw [if_neg hyz] at h2
        have := G.le_lt (x := x) (y := y) (z := z) (by omega) (by omega)
        rw [if_neg (by omega)]; omega
    · rw [if_neg hxy] at h1
      have h3 : c y z ≤ 0 := by
        by_cases hyz : c y z = 0
        · omega
        · rw [if_neg hyz] at h2; exact h2
      have := G.lt_le (x := x) (y := y) (z := z) (by omega) h3
      rw [if_neg (by omega)]; omega
theorem Good.of (G : Good c) (g : β → α) : Good fun x y => c (g x) (g y) := ⟨fun x y => G.anti _ _, fun x y z => G.trans _ _ _⟩
theorem lexc_zero {x y : α} : lexc c d x y = 0 ↔ c x y = 0 ∧ d x y = 0 := by
  unfold lexc
  by_cases h : c x y = 0
  · rw [if_pos h]; exact ⟨fun h2 => ⟨h, h2⟩, fun h2 => h2.2⟩
  · rw [if_neg h]; exact ⟨fun h2 => absurd h2 h, fun h2 => absurd h2.1 h⟩
end
def c2 (x y : Int) : Int := if x < y then -1 else if y < x then 1 else 0
theorem good_c2 : Good c2 := ⟨fun x y => by unfold c2; split <;> split <;> omega, fun x y z h1 h2 => by unfold c2 at *; split at h1 <;> split at h2 <;> (try split at h1) <;> (try split at h2) <;> split <;> (try split) <;> omega⟩
theorem c2_zero {x y : Int} : c2 x y = 0 ↔ x = y := by unfold c2; split <;> (try split) <;> omega
theorem c2_lt {x y : Int} : c2 x y < 0 ↔ x < y := by unfold c2; split <;> (try split) <;> omega
def cB (x y : Bool) : Int := if x = y then 0 else if y then -1 else 1
theorem good_cB : Good cB := ⟨fun x y => by cases x <;> cases y <;> decide, fun x y z h1 h2 => by cases x <;> cases y <;> cases z <;> revert h1 h2 <;> decide⟩
theorem cB_zero {x y : Bool} : cB x y = 0 ↔ x = y := by cases x <;> cases y <;> decide
theorem good_bytes : Good compareBytes := by
  refine ⟨fun x => ?_, fun x => ?_⟩
  · induction x with
    | nil => intro y; cases y <;> simp [compareBytes]
    | cons a x ih =>
      intro y
      cases y with
      | nil => simp [compareBytes]
      | cons b y =>
        simp only [compareBytes]
        by_cases h1 : a < b
        · have h2 : ¬ b < a := fun h => by have := UInt8.lt_trans h1 h; exact UInt8.lt_irrefl _ this
          simp [h1, h2]
        · by_cases h2 : b < a
          · simp [h1, h2]
          · simp [h1, h2, ih y]
  · induction x with
    | nil => intro y z _ h2; cases z <;> simp [compareBytes]
    | cons a x ih =>
      intro y z h1 h2
      cases y with
      | nil => simp [compareBytes] at h1
      | cons b y =>
        cases z with
        | nil => simp [compareBytes] at h2
        | cons d z =>
          simp only [compareBytes] at *
          simp only [UInt8.lt_iff_toNat_lt] at *
          split at h1
          · split at h2
            · rw [if_pos (by omega)]; omega
            · split at h2
              · omega
              · rw [if_pos (by omega)]; omega
          · split at h1
            · omega
            · split at h2
              · rw [if_pos (by omega)]; omega
              · split at h2
                · omega
                · rw [if_neg (by omega), if_neg (by omega)]
                  exact ih y z h1 h2
theorem bytes_zero : ∀ {x y : List UInt8}, compareBytes x y = 0 ↔ x = y
  | [], [] => by simp [compareBytes]
  | [], _ :: _ => by simp [compareBytes]
  | _ :: _, [] => by simp [compareBytes]
  | a :: x, b :: y => by
    simp only [compareBytes, List.cons.injEq]
    split
    · rename_i h
      exact ⟨fun h2 => by omega, fun h2 => by rw [h2.1] at h; exact absurd h (UInt8.lt_irrefl _)⟩
    · split
      · rename_i h
        exact ⟨fun h2 => by omega, fun h2 => by rw [h2.1] at h; exact absurd h (UInt8.lt_irrefl _)⟩
      · rename_i h1 h2
        rw [bytes_zero]
        refine ⟨fun h => ⟨?_, h⟩, fun h => h.2⟩
        rw [UInt8.lt_iff_toNat_lt] at h1 h2
        exact UInt8.toNat_inj.1 (by omega)

section
variable {α : Type} {c : α → α → Int}
def Rising (c : α → α → Int) (l : List α) : Prop := l.Pairwise fun x y => c x y < 0
theorem rising_ext (G : Good c) : ∀ {l m : List α}, Rising c l → Rising c m → (∀ x, x ∈ l ↔ x ∈ m) → l = m
  | [], [], _, _, _ => rfl
  | [], b :: m, _, _, h => absurd ((h b).2 (List.mem_cons_self ..)) (by simp)
  | a :: l, [], _, _, h => absurd ((h a).1 (List.mem_cons_self ..)) (by simp)
  | a :: l, b :: m, h1, h2, h => by
    unfold Rising at h1 h2
    rw [List.pairwise_cons] at h1 h2
    have hab : a = b := by
      rcases List.mem_cons.1 ((h a).1 (List.mem_cons_self ..)) with e | e
      · exact e
      · rcases List.mem_cons.1 ((h b).2 (List.mem_cons_self ..)) with e2 | e2
        · exact e2.symm
        · have q1 := h2.1 a e
          have q2 := h1.1 b e2
          have q3 := G.anti a b
          omega
    subst hab
    congr 1
    refine rising_ext G h1.2 h2.2 fun x => ⟨fun hx => ?_, fun hx => ?_⟩
    · rcases List.mem_cons.1 ((h x).1 (List.mem_cons_of_mem _ hx)) with e | e
      · subst e; have := h1.1 x hx; rw [G.refl] at this; omega
      · exact e
    · rcases List.mem_cons.1 ((h x).2 (List.mem_cons_of_mem _ hx)) with e | e
      · subst e; have := h2.1 x hx; rw [G.refl] at this; omega
      · exact e
def srt (c : α → α → Int) (l : List α) : List α := l.mergeSort fun x y => !(decide (c y x < 0))
theorem srt_mem (l : List α) (x : α) : x ∈ srt c l ↔ x ∈ l := List.mem_mergeSort
theorem srt_len (l : List α) : (srt c l).length = l.length := List.length_mergeSort _
theorem srt_pair (G : Good c) (l : List α) : (srt c l).Pairwise fun x y => c x y ≤ 0 := by
  have := List.pairwise_mergeSort (le := fun x y => !(decide (c y x < 0))) (fun x y z h1 h2 => by
    simp only [Bool.not_eq_true', decide_eq_false_iff_not] at *
    have e1 := G.anti x y
    have e2 := G.anti y z
    have e3 := G.anti x z
    have := G.trans x y z (by omega) (by omega)
    omega) (fun x y => by
    simp only [Bool.or_eq_true, Bool.not_eq_true', decide_eq_false_iff_not]
    have e1 := G.anti x y
    omega) l
  refine this.imp fun {x y} h => ?_
  simp only [Bool.not_eq_true', decide_eq_false_iff_not] at h
  have e1 := G.anti x y
  omega
variable [DecidableEq α]
def dedA : List α → List α
  | [] => []
  | [x] => [x]
  | x :: y :: r => if x = y then dedA (y :: r) else x :: dedA (y :: r)
theorem dedA_mem : ∀ (l : List α) (x : α), x ∈ dedA l ↔ x ∈ l
  | [], x => Iff.rfl
  | [y], x => Iff.rfl
  | y :: z :: r, x => by
    unfold dedA
    split
    · rename_i h
      rw [dedA_mem (z :: r)]
      subst h
      simp
    · rw [List.mem_cons, dedA_mem (z :: r), List.mem_cons (l := z :: r)]
theorem dedA_rising (G : Good c) (hi : ∀ x y, c x y = 0 → x = y) : ∀ (l : List α), l.Pairwise (fun x y => c x y ≤ 0) → Rising c (dedA l)
  | [], _ => List.Pairwise.nil
  | [y], _ => by unfold dedA Rising; simp
  | y :: z :: r, h => by
    have h' := (List.pairwise_cons.1 h).2
    have ih := dedA_rising G hi (z :: r) h'
    unfold dedA
    split
    · exact ih
    · rename_i hne
      unfold Rising
      rw [List.pairwise_cons]
      refine ⟨fun x hx => ?_, ih⟩
      rw [dedA_mem] at hx
      have h1 := (List.pairwise_cons.1 h).1 z (List.mem_cons_self ..)
      have h2 : c y z < 0 := by
        rcases Int.lt_or_eq_of_le h1 with q | q
        · exact q
        · exact absurd (hi _ _ q) hne
      rcases List.mem_cons.1 hx with rfl | hx
      · exact h2
      · exact G.lt_le h2 ((List.pairwise_cons.1 h').1 x hx)
theorem dedA_len : ∀ (l : List α), (dedA l).length ≤ l.length
  | [] => Nat.le_refl _
  | [y] => Nat.le_refl _
  | y :: z :: r => by
    unfold dedA
    have := dedA_len (z :: r)
    split <;> simp at * <;> omega
def sortU (c : α → α → Int) (l : List α) : List α := dedA (srt c l)
theorem sortU_mem (l : List α) (x : α) : x ∈ sortU c l ↔ x ∈ l := by unfold sortU; rw [dedA_mem, srt_mem]
theorem sortU_rising (G : Good c) (hi : ∀ x y, c x y = 0 → x = y) (l : List α) : Rising c (sortU c l) := dedA_rising G hi _ (srt_pair G l)
theorem sortU_len (l : List α) : (sortU c l).length ≤ l.length := by unfold sortU; have := dedA_len (srt c l); rw [srt_len] at this; exact this
theorem sortU_of_rising (G : Good c) (hi : ∀ x y, c x y = 0 → x = y) {l : List α} (h : Rising c l) : sortU c l = l :=
  rising_ext G (sortU_rising G hi l) h fun x => sortU_mem l x
end
end Go.Proofs.YtpnhkkejcnicoaaGreat

namespace Go.Proofs.YtpnhkkejcnicoaaGreat.Ab
set_option linter.unusedVariables false
open Go.RowKit Go.Lib

theorem bytesLess_cmp : ∀ (a b : List UInt8), Op.bytesLess a b = decide (compareBytes a b < 0)
  | [], [] => by simp [Op.bytesLess, compareBytes]
  | [], _ :: _ => by simp [Op.bytesLess, compareBytes]
  | _ :: _, [] => by simp [Op.bytesLess, compareBytes]
  | a :: x, b :: y => by
    rw [Op.bytesLess, compareBytes, bytesLess_cmp x y]
    by_cases h : a < b
    · simp [h]
    · by_cases h2 : b < a
      · have : (a == b) = false := by
          rw [beq_eq_false_iff_ne]
          rintro rfl
          exact UInt8.lt_irrefl _ h2
        simp [h, h2, this]
      · have : a = b := by
          rw [UInt8.lt_iff_toNat_lt] at h h2
          exact UInt8.toNat_inj.1 (by omega)
        subst this
        simp [h]
theorem mk_toList (l : List UInt8) : (ByteArray.mk (Array.mk l)).toList = l := by
  rw [ByteArray.toList_eq]
abbrev strA (l : List UInt8) : AVal := .d (.sc (.string ⟨⟨l⟩⟩))
def sbin (op : BinOp) (a b : List UInt8) : Option Bool := match op with
  | .eql => some (decide (a = b))
  | .neq => some (!decide (a = b))
  | .lss => some (decide (compareBytes a b < 0))
  | .leq => some (decide (compareBytes a b ≤ 0))
  | .gtr => some (decide (0 < compareBytes a b))
  | .geq => some (decide (0 ≤ compareBytes a b))
  | _ => none
section
variable {P : Program} {nt : Nat} {Q : Post} {e : Env} {h : Heap} {ops : Array Oper} {o : Oper} {rest : List Oper} {T : List Nat} {tab : TTab}
theorem Y_sbin {op : BinOp} {t u : TypeId} {x y : Operand} {a b : List UInt8} {r : Bool} (ho : o.op = .binOp op t x y u) (hx : aev e x = some (strA a)) (hy : aev e y = some (strA b)) (hr : sbin op a b = some r) : AYield P T e h o (.d (.sc (.bool r))) := yield_of _ fun w F ι ac E =>
  ⟨.bool r, sc_rel rfl, fun w' => by
    have hz : (a == b) = decide (compareBytes a b = 0) := by rw [Bool.eq_iff_iff]; simp [bytes_zero]
    have hz2 : decide (a = b) = decide (compareBytes a b = 0) := by rw [Bool.eq_iff_iff]; simp [bytes_zero]
    simp only [execOp, ho, (sc_of (aev_rel E hx)).1, (sc_of (aev_rel E hy)).1]
    cases op <;> first | cases hr; done | (injection hr with hr; subst hr; (try simp only [hz2]); simp [eqGuard, binOp, Op.stringOp, mk_toList, bytesLess_cmp, hz]; done) | (injection hr with hr; subst hr; (try simp only [hz2]); simp [eqGuard, binOp, Op.stringOp, mk_toList, bytesLess_cmp, hz]; generalize compareBytes a b = c; rw [Bool.eq_iff_iff]; simp <;> omega)⟩
theorem R_sT {op : BinOp} {t u : TypeId} {x y : Operand} {a b : List UInt8} {r : Bool} (ho : o.op = .binOp op t x y u) (hx : aev e x = some (strA a)) (hy : aev e y = some (strA b)) (hr : sbin op a b = some r) (hc : r = true) : AYield P T e h o (.d (.sc (.bool true))) := by
  subst hc; exact Y_sbin ho hx hy hr
theorem R_sF {op : BinOp} {t u : TypeId} {x y : Operand} {a b : List UInt8} {r : Bool} (ho : o.op = .binOp op t x y u) (hx : aev e x = some (strA a)) (hy : aev e y = some (strA b)) (hr : sbin op a b = some r) (hc : r = false) : AYield P T e h o (.d (.sc (.bool false))) := by
  subst hc; exact Y_sbin ho hx hy hr
def bbin (op : BinOp) (a b : Bool) : Option Bool := match op with
  | .eql => some (a == b)
  | .neq => some (a != b)
  | _ => none
def tbool (tab : TTab) (t : TypeId) : Bool := match tlook tab t with
  | some ⟨_, _, _, _, .bo⟩ => true
  | _ => false
theorem tbool_spec {tab : TTab} {t : TypeId} (TO : TabOk P tab) (h : tbool tab t = true) : P.underlying t = some .bool := by
  unfold tbool at h
  split at h
  · rename_i heq
    obtain ⟨d, hd, _, hs⟩ := (TO t _ heq).und
    rw [hd]; congr 1
  · cases h
theorem Y_bbin {op : BinOp} {t u : TypeId} {x y : Operand} {a b : Bool} {r : Bool} (TO : TabOk P tab) (ho : o.op = .binOp op t x y u) (ht : tbool tab t = true) (hx : aev e x = some (.d (.sc (.bool a)))) (hy : aev e y = some (.d (.sc (.bool b)))) (hr : bbin op a b = some r) : AYield P T e h o (.d (.sc (.bool r))) := yield_of _ fun w F ι ac E =>
  ⟨.bool r, sc_rel rfl, fun w' => by
    have hu := tbool_spec TO ht
    simp only [execOp, ho, (sc_of (aev_rel E hx)).1, (sc_of (aev_rel E hy)).1]
    cases op <;> first | cases hr; done | (injection hr with hr; subst hr; simp [eqGuard, binOp, run_equal_bool w' t a b hu]; done) | (injection hr with hr; subst hr; simp [eqGuard, binOp, run_equal_bool w' t a b hu]; cases a <;> cases b <;> rfl)⟩
end
end Go.Proofs.YtpnhkkejcnicoaaGreat.Ab

namespace Go.Proofs.YtpnhkkejcnicoaaGreat.Ab
set_option linter.unusedVariables false
open Go.RowKit
section
variable {P : Program} {nt : Nat} {Q : Post}
def RF : Post := fun _ _ _ => False
theorem A_cut {z : Bool} {x y : Code} {e : Env} {h : Heap} (E1 : Env) (H1 : Heap) (h1 : AWp z P nt x (AThen (fun e' h' => AWk nt e' h' E1 H1) RF) e h) (h2 : AWp z P nt y Q E1 H1) : AWp z P nt (.seq x y) Q e h :=
  A_seq (h1.mono fun ex e h hq => by
    cases ex with
    | normal => exact A_weaken hq h2
    | _ => exact False.elim hq)
end
end Go.Proofs.YtpnhkkejcnicoaaGreat.Ab

namespace Go.Proofs.YtpnhkkejcnicoaaGreat.Ab
set_option linter.unusedVariables false
open Go.RowKit

mutual
def fzV (id : Nat) (ds : List Dat) : AVal → AVal
  | .ptr j off => cond (Nat.beq j id) (.iptr ds off) (.ptr j off)
  | .agg cs => .agg (fzL id ds cs)
  | .tup cs => .tup (fzL id ds cs)
  | .fn f cs => .fn f (fzL id ds cs)
  | .top => .top
  | .und => .und
  | .d x => .d x
  | .eptr j off => .eptr j off
  | .iptr cs off => .iptr cs off
  | .row j => .row j
  | .mp j => .mp j
  | .srow j o n => .srow j o n
  | .full cs n => .full cs n
def fzL (id : Nat) (ds : List Dat) : List AVal → List AVal
  | [] => []
  | c :: r => fzV id ds c :: fzL id ds r
end
theorem fzL_get (id : Nat) (ds : List Dat) (cs : List AVal) (i : Nat) : (fzL id ds cs)[i]? = (cs[i]?).map (fzV id ds) := by
  induction cs generalizing i with
  | nil => rfl
  | cons c r ih =>
    rw [fzL]
    cases i with
    | zero => rfl
    | succ i => simpa using ih i
theorem fzL_len (id : Nat) (ds : List Dat) (cs : List AVal) : (fzL id ds cs).length = cs.length := by
  induction cs with
  | nil => rfl
  | cons c r ih => rw [fzL]; simp [ih]
def fzB (id : Nat) (ds : List Dat) : ABlk → ABlk
  | .var cs => .var (fzL id ds cs)
  | .row e k n cs => .row e k n cs
  | .rowA e k n cs => .rowA e k n (fzL id ds cs)
  | .map es => .map (es.map fun p => (fzV id ds p.1, fzV id ds p.2))
  | .mapx r bs clk es => .mapx r bs clk (es.map fun p => (fzV id ds p.1, fzV id ds p.2))
  | .it o => .it o
def fzE (id : Nat) (ds : List Dat) : Env → Env
  | [] => []
  | (k, c) :: r => (k, fzV id ds c) :: fzE id ds r
def fzH (id : Nat) (ds : List Dat) : Heap → Heap
  | [] => []
  | (k, b) :: r => cond (Nat.beq k id) (fzH id ds r) ((k, fzB id ds b) :: fzH id ds r)
theorem look_fzE (id : Nat) (ds : List Dat) (e : Env) (t : Nat) : look (fzE id ds e) t = (look e t).map (fzV id ds) := by
  induction e with
  | nil => rfl
  | cons p r ih =>
    show cond _ _ _ = Option.map _ (cond _ _ _)
    cases Nat.beq p.1 t
    · exact ih
    · rfl
theorem look_fzH (id : Nat) (ds : List Dat) (h : Heap) (t : Nat) : look (fzH id ds h) t = if t = id then none else (look h t).map (fzB id ds) := by
  induction h with
  | nil => simp [fzH, look]
  | cons p r ih =>
    show look (cond _ _ _) t = _
    by_cases hpt : p.1 = t
    · cases hc : Nat.beq p.1 id
      · have := of_beq_no hc
        have e1 : look (p :: r) t = some p.2 := by rw [← hpt]; exact look_cons_same _ _ _
        rw [cond_false, e1, if_neg (by omega), ← hpt, look_cons_same]; rfl
      · have := Nat.eq_of_beq_eq_true hc
        rw [cond_true, ih, if_pos (by omega), if_pos (by omega)]
    · have e1 : look (p :: r) t = look r t := look_cons_ne _ _ hpt
      rw [e1]
      cases hc : Nat.beq p.1 id
      · rw [cond_false, look_cons_ne _ _ hpt, ih]
      · rw [cond_true, ih]
section
variable {nt : Nat} {e : Env} {h : Heap}
theorem Wk_freezeV {id : Nat} {cs : List AVal} {ds : List Dat} (hb : look h id = some (.var cs)) (hcs : cs = ds.map .d) : AWk nt e h (fzE id ds e) (fzH id ds h) := fun Pm F w0 pin ι a w R => by
  subst hcs
  obtain ⟨v, hv, r, C, T, rfl, hC, hlC, hrr⟩ := R.heap.blk id _ hb
  let ι' : Nat → Option Value := fun j => if j = id then none else ι j
  have hs : ∀ j u, ι' j = some u → j ≠ id ∧ ι j = some u := fun j u hj => by
    simp only [ι'] at hj
    split at hj
    · cases hj
    · exact ⟨by assumption, hj⟩
  have he : Ext w F ι w ι' := ⟨fun _ _ _ => rfl, fun r _ hf => ⟨hf.1, fun j u hj => hf.2 j u (hs j u hj).2⟩⟩
  have hfr : FreeB F ι' r := ⟨R.heap.nf id _ r hv rfl, fun j u hj hb => by
    obtain ⟨h1, h2⟩ := hs j u hj
    exact R.heap.inj j id u _ r h1 h2 hv hb rfl⟩
  have hlen : C.toList.length = ds.length := by simpa using hlC
  have hcell : ∀ (i : Nat) (u : Value), C.toList[i]? = some u → w.cell? ⟨r, 0 + i, none⟩ = some u := fun i u hu => by
    rw [Nat.zero_add]; simp [World.cell?, hC]; simpa using hu
  have hdat : ∀ (i : Nat) (c : Dat) (u : Value), ds[i]? = some c → C.toList[i]? = some u → DRel w (FreeB F ι') c u := fun i c u h1 h2 => by
    have := hrr i (.d c) u (by rw [List.getElem?_map, h1]; rfl) (by simpa using h2)
    cases this with
    | d _ _ hd => exact hd.ext he.mem he.free
  have vk : ∀ c u, VRel w F ι c u → VRel w F ι' (fzV id ds c) u := by
    intro c u hc
    induction hc with
    | top u => exact .top u
    | und => exact .und
    | d x u hd => exact .d x u (hd.ext he.mem he.free)
    | agg cs C hl h ih =>
      refine .agg _ C (by rw [fzL_len]; exact hl) fun i c u h1 h2 => ?_
      rw [fzL_get] at h1
      cases h3 : cs[i]? with
      | none => simp [h3] at h1
      | some c0 => simp [h3] at h1; subst h1; exact ih i c0 u h3 h2
    | tup cs C hl h ih =>
      refine .tup _ C (by rw [fzL_len]; exact hl) fun i c u h1 h2 => ?_
      rw [fzL_get] at h1
      cases h3 : cs[i]? with
      | none => simp [h3] at h1
      | some c0 => simp [h3] at h1; subst h1; exact ih i c0 u h3 h2
    | ptr j off u h1 h =>
      rw [fzV]
      cases hj : Nat.beq j id with
      | true =>
        have := Nat.eq_of_beq_eq_true hj
        subst this
        obtain ⟨g, h3, rfl⟩ := h _ hv
        cases h3
        have := VRel.iptr (w := w) (F := F) (ι := ι') ds off r 0 C.toList hlen (fun _ => hfr) hcell hdat
        rw [Nat.zero_add] at this
        exact this
      | false => exact .ptr j off u h1 fun v hv => h v (hs j v hv).2
    | eptr j off u h1 h => exact .eptr j off u h1 fun v hv => h v (hs j v hv).2
    | iptr cs off b o' vs hl hf hc hr => exact (VRel.iptr cs off b o' vs hl hf hc hr : VRel w F ι _ _).ext he fun j v _ hv => (hs j v hv).2
    | row j u h1 h => exact .row j u h1 fun v hv => h v (hs j v hv).2
    | mp j u h1 h => exact .mp j u h1 fun v hv => h v (hs j v hv).2
    | srow j off n u h1 h => exact .srow j off n u h1 fun v hv => h v (hs j v hv).2
    | full cs n b h => exact .full cs n b (h.ext he.mem he.free)
    | fn f cs C hl h ih =>
      refine .fn f _ C (by rw [fzL_len]; exact hl) fun i c u h1 h2 => ?_
      rw [fzL_get] at h1
      cases h3 : cs[i]? with
      | none => simp [h3] at h1
      | some c0 => simp [h3] at h1; subst h1; exact ih i c0 u h3 h2
  refine ⟨ι', ⟨?_, ?_, fun i j v v' r hij hi hj => R.heap.inj i j v v' r hij (hs i v hi).2 (hs j v' hj).2, fun i v r hi => R.heap.pm i v r (hs i v hi).2, R.heap.os, R.heap.tape, R.heap.output, R.heap.size, R.heap.keep, R.heap.fresh, fun i v h1 hi => R.heap.pinned i v h1 (hs i v hi).2, fun i v r hi => R.heap.nf i v r (hs i v hi).2, R.heap.forb⟩, ?_, R.defers.ext he, R.size⟩
  · intro j b hj
    rw [look_fzH] at hj
    split at hj
    · cases hj
    · rename_i hji
      cases hl2 : look h j with
      | none => simp [hl2] at hj
      | some b0 =>
        simp [hl2] at hj
        subst hj
        obtain ⟨v2, hv2, hB⟩ := R.heap.blk j b0 hl2
        refine ⟨v2, by simp [ι', hji, hv2], ?_⟩
        cases b0 with
        | var es =>
          obtain ⟨r, C, tt, rfl, h3, h4, h5⟩ := hB
          refine ⟨r, C, tt, rfl, h3, by rw [fzL_len]; exact h4, fun i c u h6 h7 => ?_⟩
          rw [fzL_get] at h6
          cases h8 : es[i]? with
          | none => simp [h8] at h6
          | some c0 => simp [h8] at h6; subst h6; exact vk _ _ (h5 i c0 u h8 h7)
        | row el2 k2 n2 es =>
          obtain ⟨ys, hown2, h4, h5⟩ := hB
          exact ⟨ys, hown2, h4, fun i c u h6 h7 => (h5 i c u h6 h7).ext he.mem he.free⟩
        | rowA el2 k2 n2 es =>
          obtain ⟨ys, hown2, h4, h5⟩ := hB
          refine ⟨ys, hown2, by rw [fzL_len]; exact h4, fun i c u h6 h7 => ?_⟩
          rw [fzL_get] at h6
          cases h8 : es[i]? with
          | none => simp [h8] at h6
          | some c0 => simp [h8] at h6; subst h6; exact vk _ _ (h5 i c0 u h8 h7)
        | map es =>
          obtain ⟨r, E, clk, rfl, h3, h4, h5, h6⟩ := hB
          refine ⟨r, E, clk, rfl, h3, by simpa using h4, fun i p m h7 h8 => ?_, h6⟩
          rw [List.getElem?_map] at h7
          cases h9 : es[i]? with
          | none => simp [h9] at h7
          | some p0 => simp [h9] at h7; subst h7; exact ⟨vk _ _ (h5 i p0 m h9 h8).1, vk _ _ (h5 i p0 m h9 h8).2⟩
        | mapx r0 bs0 clk0 es =>
          obtain ⟨E, rfl, h3, h4, h5, h6⟩ := hB
          refine ⟨E, rfl, h3, by simpa using h4, fun i p m h7 h8 => ?_, h6⟩
          rw [List.getElem?_map] at h7
          cases h9 : es[i]? with
          | none => simp [h9] at h7
          | some p0 => simp [h9] at h7; subst h7; exact ⟨vk _ _ (h5 i p0 m h9 h8).1, vk _ _ (h5 i p0 m h9 h8).2⟩
        | it o => exact hB
  · intro j u hj
    obtain ⟨h1, h2⟩ := hs j u hj
    obtain ⟨b, hb⟩ := R.heap.dom j u h2
    exact ⟨fzB id _ b, by rw [look_fzH, if_neg h1, hb]; rfl⟩
  · intro t c ht
    rw [look_fzE] at ht
    cases hl2 : look e t with
    | none => simp [hl2] at ht
    | some c0 =>
      simp [hl2] at ht
      subst ht
      obtain ⟨u, hu, hv2⟩ := R.env t c0 hl2
      exact ⟨u, hu, vk _ _ hv2⟩
end
section
variable {P : Program} {nt : Nat} {Q : Post} {e : Env} {h : Heap} {ops : Array Oper} {T : List Nat} {fuel i : Nat} {listed : Array Bool} {o : Oper} {tab : TTab}
theorem T_slice {t el k len d : Nat} {ps : Array (Nat × Operand)} {al : List (Nat × AVal)} {xs : List AVal} {ds : List Dat} (TO : TabOk P tab) (hi : ops[i]? = some o) (hw : awant ops e o = some true) (hdst : o.dst = some d) (hd : Nat.blt d nt = true) (hid : Nat.blt d 1000 = true) (ho : o.op = .buildSlice t len ps)
    (hel : telem tab t = some el) (hsz : tsize tab el = some k) (hok : (match tlook tab el with | some te => te.zero.all (·.oneCell') && Nat.blt 0 te.size && Nat.beq te.zero.length te.size && Nat.blt (len * te.size) 16777216 && Nat.blt 0 len | none => false) = true)
    (hal : aparts e ps.toList = some al) (hf : (match tlook tab el with
      | some te => afill (fun i => some (i * te.size, te.size)) ((List.range (len * te.size)).map fun j => match te.zero[j % te.size]? with | some v => .d (.sc v) | none => .top) al
      | none => none) = some xs) (hds : datsA xs = some ds)
    (HK : AAny P nt ops Q T fuel (listed.setIfInBounds i true) ((d, .row d) :: killE d e) ((d, .row el k len ds) :: killH d h)) : AAt P nt ops Q T fuel listed i e h := by
  obtain ⟨te, h1, h2⟩ := telem_spec hel
  obtain ⟨te', h3, rfl⟩ := tsize_spec hsz
  rw [h3] at hok hf
  simp only [Bool.and_eq_true] at hok
  exact T_eff hi hw (E_buildSlice TO ho hdst h1 h2 h3 hok.1.1.1.1 hok.1.1.1.2 hok.1.1.2 hok.1.2 hok.2 hal hf (datsA_spec hds) hid hd) fun e' h' ⟨h1, h2⟩ => by subst h1 h2; exact HK
end
end Go.Proofs.YtpnhkkejcnicoaaGreat.Ab

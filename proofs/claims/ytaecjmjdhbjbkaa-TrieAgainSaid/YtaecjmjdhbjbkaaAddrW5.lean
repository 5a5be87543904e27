/-
  The reference's Common: the walk.
-/
import Derived.Test.YtaecjmjdhbjbkaaCarry
import Derived.Test.YtaecjmjdhbjbkaaAddrW4
namespace Go.Proofs.Ytaecjmjdhbjbkaa
set_option linter.unusedVariables false
open Go.RowKit Go.Sort

theorem sub_good (x : Int) (n : Nat) (hn : n ≤ 32) (hx : 0 ≤ x) : good (sub x n) := by
  refine ⟨by show (0 : Int) ≤ n; omega, by show (n : Int) ≤ 32; omega, ?_⟩
  show x / sz n * sz n % sz n = 0
  exact Int.mul_emod_left _ _
theorem in_sub (x y : Int) (n : Nat) (hn : n ≤ 32) (hx : 0 ≤ x) (hy : 0 ≤ y) : inB y (sub x n) = true ↔ y / sz n = x / sz n := by
  rw [← inB_low y (sub x n) (sub_good x n hn hx), decide_eq_true_iff]
  show y / sz n * sz n = x / sz n * sz n ↔ _
  have := sz_pos n
  constructor
  · intro h; exact Int.eq_of_mul_eq_mul_right (by omega) h
  · intro h; rw [h]
theorem within_sub (p : Pfx) (x : Int) (n : Nat) (hn : n ≤ 32) (hp : good p) (hx : 0 ≤ x) (h0 : 0 ≤ p.a) : withinB p (sub x n) = true ↔ (n : Int) ≤ p.b ∧ p.a / sz n = x / sz n := by
  rw [withinB_iff]
  constructor
  · rintro ⟨_, h1, h2⟩; exact ⟨h1, (in_sub x p.a n hn hx h0).1 h2⟩
  · rintro ⟨h1, h2⟩; exact ⟨hp, h1, (in_sub x p.a n hn hx h0).2 h2⟩
/-- What the reference asks, from the most bits down. -/
theorem common_test (p q : Pfx) (hp : p.ok) (hq : q.ok) (gp : good p) (gq : good q) (n : Nat) (hn : n ≤ 32) :
    (withinB p (sub p.a n) && withinB q (sub p.a n)) = decide (n ≤ cb (min p.b q.b).toNat p.a q.a) := by
  have b1 := gp.1
  have b2 := gp.2.1
  have b3 := gq.1
  have b4 := gq.2.1
  rw [Bool.eq_iff_iff, Bool.and_eq_true, decide_eq_true_iff, within_sub p p.a n hn gp hp.1 hp.1, within_sub q p.a n hn gq hp.1 hq.1]
  constructor
  · rintro ⟨⟨h1, _⟩, h2, h3⟩
    exact cb_most _ (by omega) _ _ n (by omega) h3.symm
  · intro h
    have h1 := cb_le (min p.b q.b).toNat p.a q.a
    have h2 := div_up n _ h (by omega) _ _ (cb_same (min p.b q.b).toNat (by omega) p.a q.a ⟨hp.1, hp.2.1⟩ ⟨hq.1, hq.2.1⟩)
    exact ⟨⟨by omega, rfl⟩, by omega, h2.symm⟩
theorem sub_zero (x : Int) (h0 : 0 ≤ x) (h1 : x < 4294967296) : sub x 0 = ⟨0, 0⟩ := by
  unfold sub
  rw [sz_0, Int.ediv_eq_zero_of_lt h0 h1]; rfl

set_option maxRecDepth 100000 in
set_option maxHeartbeats 1600000 in
theorem refCommon_any (p q : Pfx) (w : World) (hp : p.ok) (hq : q.ok) (gp : good p) (gq : good q) : Calls Try.prog 14 #[p.v, q.v] w (Ret w (.tuple #[(commonP p q).v, .int .i64 0])) := by
  have hC := fun W => refCheck_any p W hp
  have hD := fun W => refCheck_any q W hq
  rw [(chk_eq p).2 gp] at hC
  rw [(chk_eq q).2 gq] at hD
  obtain ⟨k0, k1, k2, k3, r0, r1, hbb⟩ := boxes3 w (.int .u32 p.a) (.int .i64 p.b) (.int .u32 q.a) (.int .i64 q.b) (.int .u32 0) (.int .i64 0) 26
  have HB := Lib.hid hbb
  clear hbb
  have hT := fun n hn => common_test p q hp hq gp gq n hn
  have hcm : commonP p q = sub p.a (cb (min p.b q.b).toNat p.a q.a) := rfl
  have hle : cb (min p.b q.b).toNat p.a q.a ≤ 32 := by have := cb_le (min p.b q.b).toNat p.a q.a; have := gp.2.1; omega
  obtain ⟨m, hm⟩ : ∃ m, cb (min p.b q.b).toNat p.a q.a = m := ⟨_, rfl⟩
  rw [hm] at hT hcm hle
  have hS := fun n W h0 h1 => refSubnet_any p.a n W h0 h1 hp.1 hp.2.1
  have hW := fun r W hr => refWithin_any p r W hp hr
  have hX := fun r W hr => refWithin_any q r W hq hr
  have hok : ∀ n : Nat, n ≤ 32 → (sub p.a n).ok := fun n hn => by
    have := sz_pos n
    have h1 : p.a / sz n * sz n ≤ p.a := Int.ediv_mul_le _ (by omega)
    have h2 : 0 ≤ p.a / sz n * sz n := Int.mul_nonneg (Int.ediv_nonneg hp.1 (by omega)) (by omega)
    have h3 := hp.2.1
    exact ⟨h2, Int.lt_of_le_of_lt h1 h3, by show -9223372036854775808 ≤ (n : Int); omega, by show (n : Int) < _; omega⟩
  have hz : sub p.a 0 = ⟨0, 0⟩ := sub_zero p.a hp.1 hp.2.1
  have H := Lib.hid (And.intro hT (And.intro hcm (And.intro hle (And.intro hok hz))))
  obtain ⟨cm, hcm'⟩ : ∃ cm, commonP p q = cm := ⟨_, rfl⟩
  rw [hcm'] at H ⊢
  clear hT hcm hle hok hz gp gq hp hq hm hcm'
  obtain ⟨a, b⟩ := p
  obtain ⟨c, d⟩ := q
  dsimp only at *
  go_enter Try.func14, Try.ntmps14
  go_wp2_with fail
  refine (hC _).mono ?_
  rintro e w1 ⟨rfl, hb1⟩
  have K0 := k0.keep hb1
  have K1 := k1.keep hb1
  have K2 := k2.keep hb1
  have K3 := k3.keep hb1
  have ⟨c2, f2⟩ := K2
  have ⟨c3, f3⟩ := K3
  go_wp2_with fail
  refine (hD _).mono ?_
  rintro e w2 ⟨rfl, hb2⟩
  clear c2 f2 c3 f3
  have L0 := (K0.keep hb2)
  have L1 := (K1.keep hb2)
  have L2 := (K2.keep hb2)
  have L3 := (K3.keep hb2)
  have R0 := ((r0.keep hb1).keep hb2)
  have R1 := ((r1.keep hb1).keep hb2)
  have HB2 := Lib.hid (below_trans (below_trans HB.out hb1) hb2)
  clear HB hb1 hb2 K0 K1 K2 K3 k0 k1 k2 k3 r0 r1
  go_wp2_with fail
  go_loopw [7] (fun i wr => ∃ n : Nat, i = .int .i64 n ∧ n ≤ 32 ∧ m ≤ n ∧ Below w2.heap.size w2 wr) (fun i _ => (intOf i).toNat)
  case atStart => exact ⟨32, rfl, Nat.le_refl _, H.out.2.2.1, Below.refl _ _⟩
  case round =>
    obtain ⟨n, rfl, hn, hmn, hbl⟩ := hrel
    have ⟨c0, f0⟩ := L0.keep hbl
    have ⟨c1, f1⟩ := L1.keep hbl
    have ⟨c2, f2⟩ := L2.keep hbl
    have ⟨c3, f3⟩ := L3.keep hbl
    have ⟨g0, h0⟩ := R0.keep hbl
    have ⟨g1, h1⟩ := R1.keep hbl
    rcases Nat.eq_zero_or_pos n with rfl | hpos
    · go_wp2_with fail
      obtain ⟨hT, hcm, hle, hok, hz⟩ := H.out
      have e0 : cm = ⟨0, 0⟩ := by rw [hcm, show m = 0 by omega]; exact hz
      subst e0
      refine bodyPost_ret (v := .tuple #[(⟨0, 0⟩ : Pfx).v, .int .i64 0]) (by simp [results, Try.results14, go_sem, g0, g1, Pfx.v]) rfl ⟨rfl, ?_⟩
      have H3 := below_trans HB2.out hbl
      repeat (first | exact H3 | apply Below.drew | apply below_drewN | (refine Below.setCell ?_ (by first | (dsimp only; omega) | (simp; done) | (simp; omega)) _) | (refine Below.alloc ?_ (by first | exact Nat.le_refl _ | (simp; done) | (simp; omega) | (have hsz9 := Below.size H3; simp at hsz9 ⊢; omega)) _))
    · have hS1 := fun W => hS n W (by omega) (by omega)
      obtain ⟨hT, hcm, hle, hok, hz⟩ := H.out
      have t1 := hT n hn
      have hW1 := fun W => hW (sub a n) W (hok n hn)
      have hX1 := fun W => hX (sub a n) W (hok n hn)
      have hr : n ≤ m → sub a n = cm := fun h => by rw [show n = m by omega]; exact hcm.symm
      obtain ⟨⟨s, t⟩, hst⟩ : ∃ r, sub a n = r := ⟨_, rfl⟩
      rw [hst] at hS1 t1 hW1 hX1 hr
      have HR := Lib.hid hr
      clear hr
      clear hS hW hX hT hcm hle hok hz
      have Z0 := L0.keep hbl
      have Z1 := L1.keep hbl
      have Z2 := L2.keep hbl
      have Z3 := L3.keep hbl
      have Q0 := R0.keep hbl
      have Q1 := R1.keep hbl
      clear c1 f1 c2 f2 c3 f3 g0 h0 g1 h1
      go_wp2_with fail
      refine (hS1 _).mono ?_
      rintro e w3 ⟨rfl, hb3⟩
      have Y0 := Z0.keep hb3
      have Y1 := Z1.keep hb3
      have Y2 := Z2.keep hb3
      have Y3 := Z3.keep hb3
      have P0 := Q0.keep hb3
      have P1 := Q1.keep hb3
      have HB3 := Lib.hid (below_trans hbl hb3)
      clear c0 f0 Z0 Z1 Z2 Z3 Q0 Q1 hbl hb3
      have ⟨c0, f0⟩ := Y0
      have ⟨c1, f1⟩ := Y1
      have l0 := Y0.lt
      have l2 := Y2.lt
      have l4 := P0.lt
      have B0 : Kn (w3.alloc (.cells #[.int .u32 s, .int .i64 t] 26)) w3.heap.size 0 (.int .u32 s) := Kn.new rfl
      have B1 : Kn (w3.alloc (.cells #[.int .u32 s, .int .i64 t] 26)) w3.heap.size 1 (.int .i64 t) := Kn.new rfl
      cases hw1 : withinB ⟨a, b⟩ ⟨s, t⟩
      · rw [hw1] at hW1 t1
        rw [Bool.false_and] at t1
        have hnm : ¬ n ≤ m := of_decide_eq_false t1.symm
        clear t1 hw1
        go_wp2_with fail
        refine (hW1 _).mono ?_
        rintro e w4 ⟨rfl, hb4⟩
        have B0 := B0.keep hb4
        have B1 := B1.keep hb4
        have Y2 := (Y2.alloc _).keep hb4
        have Y3 := (Y3.alloc _).keep hb4
        have P0 := (P0.alloc _).keep hb4
        have P1 := (P1.alloc _).keep hb4
        have HB4 := Lib.hid (below_trans (HB3.out.alloc (Below.size HB3.out) _) hb4)
        have ⟨c2, f2⟩ := B0
        have ⟨c3, f3⟩ := B1
        clear c0 f0 c1 f1 hb4
        go_wp2_with fail
        go_roundw
        case rel => exact ⟨n - 1, by go_num, by omega, by omega, HB4.out⟩
        case measure => simp [intOf]; omega
      · rw [hw1] at hW1 t1
        rw [Bool.true_and] at t1
        rw [t1] at hX1
        clear t1 hw1
        by_cases hnm : n ≤ m
        · rw [decide_eq_true hnm] at hX1
          go_wp2_with fail
          refine (hW1 _).mono ?_
          rintro e w4 ⟨rfl, hb4⟩
          have B0 := B0.keep hb4
          have B1 := B1.keep hb4
          have Y2 := (Y2.alloc _).keep hb4
          have Y3 := (Y3.alloc _).keep hb4
          have P0 := (P0.alloc _).keep hb4
          have P1 := (P1.alloc _).keep hb4
          have HB4 := Lib.hid (below_trans (HB3.out.alloc (Below.size HB3.out) _) hb4)
          have ⟨c2, f2⟩ := B0
          have ⟨c3, f3⟩ := B1
          clear c0 f0 c1 f1 hb4
          have ⟨c4, f4⟩ := Y2
          have ⟨c5, f5⟩ := Y3
          go_wp2_with fail
          refine (hX1 _).mono ?_
          rintro e w5 ⟨rfl, hb5⟩
          have HB5 := Lib.hid (below_trans HB4.out hb5)
          have B0 := B0.keep hb5
          have B1 := B1.keep hb5
          have P0 := P0.keep hb5
          have P1 := P1.keep hb5
          clear c2 f2 c3 f3 c4 f4 c5 f5 hb5
          have ⟨c2, f2⟩ := B0
          have ⟨c3, f3⟩ := B1
          have ⟨g0, h0⟩ := P0
          have ⟨g1, h1⟩ := P1
          go_wp2_with fail
          have e0 := HR.out hnm
          subst e0
          refine bodyPost_ret (v := .tuple #[(⟨s, t⟩ : Pfx).v, .int .i64 0]) (by simp [results, Try.results14, go_sem, g0, g1, Pfx.v]) rfl ⟨rfl, ?_⟩
          have H3 := below_trans HB2.out HB5.out
          repeat (first | exact H3 | apply Below.drew | apply below_drewN | (refine Below.setCell ?_ (by first | (dsimp only; omega) | (simp; done) | (simp; omega)) _) | (refine Below.alloc ?_ (by first | exact Nat.le_refl _ | (simp; done) | (simp; omega) | (have hsz9 := Below.size H3; simp at hsz9 ⊢; omega)) _))
        · rw [decide_eq_false hnm] at hX1
          go_wp2_with fail
          refine (hW1 _).mono ?_
          rintro e w4 ⟨rfl, hb4⟩
          have B0 := B0.keep hb4
          have B1 := B1.keep hb4
          have Y2 := (Y2.alloc _).keep hb4
          have Y3 := (Y3.alloc _).keep hb4
          have P0 := (P0.alloc _).keep hb4
          have P1 := (P1.alloc _).keep hb4
          have HB4 := Lib.hid (below_trans (HB3.out.alloc (Below.size HB3.out) _) hb4)
          have ⟨c2, f2⟩ := B0
          have ⟨c3, f3⟩ := B1
          clear c0 f0 c1 f1 hb4
          have ⟨c4, f4⟩ := Y2
          have ⟨c5, f5⟩ := Y3
          go_wp2_with fail
          refine (hX1 _).mono ?_
          rintro e w5 ⟨rfl, hb5⟩
          have HB5 := Lib.hid (below_trans HB4.out hb5)
          have B0 := B0.keep hb5
          have B1 := B1.keep hb5
          have P0 := P0.keep hb5
          have P1 := P1.keep hb5
          clear c2 f2 c3 f3 c4 f4 c5 f5 hb5
          have ⟨c2, f2⟩ := B0
          have ⟨c3, f3⟩ := B1
          have ⟨g0, h0⟩ := P0
          have ⟨g1, h1⟩ := P1
          go_wp2_with fail
          go_roundw
          case rel => exact ⟨n - 1, by go_num, by omega, by omega, HB5.out⟩
          case measure => simp [intOf]; omega
end Go.Proofs.Ytaecjmjdhbjbkaa

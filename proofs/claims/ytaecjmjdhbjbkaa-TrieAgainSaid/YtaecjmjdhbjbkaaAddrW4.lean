/-
  Common: the walks.
-/
import Derived.Test.YtaecjmjdhbjbkaaAddrW3
import Derived.Test.YtaecjmjdhbjbkaaAddr2
namespace Go.Proofs.Ytaecjmjdhbjbkaa
set_option linter.unusedVariables false
open Go.RowKit Go.Sort

/-- Two boxes and a result's two cells, behind a call. -/
theorem boxes3 (w : World) (a b c d e f : Value) (t : TypeId) : Kn (((w.alloc (.cells #[a, b] t)).alloc (.cells #[c, d] t)).alloc (.cells #[e, f] t)) w.heap.size 0 a ∧ Kn (((w.alloc (.cells #[a, b] t)).alloc (.cells #[c, d] t)).alloc (.cells #[e, f] t)) w.heap.size 1 b ∧
    Kn (((w.alloc (.cells #[a, b] t)).alloc (.cells #[c, d] t)).alloc (.cells #[e, f] t)) (w.heap.size + 1) 0 c ∧ Kn (((w.alloc (.cells #[a, b] t)).alloc (.cells #[c, d] t)).alloc (.cells #[e, f] t)) (w.heap.size + 1) 1 d ∧
    Kn (((w.alloc (.cells #[a, b] t)).alloc (.cells #[c, d] t)).alloc (.cells #[e, f] t)) (w.heap.size + 1 + 1) 0 e ∧ Kn (((w.alloc (.cells #[a, b] t)).alloc (.cells #[c, d] t)).alloc (.cells #[e, f] t)) (w.heap.size + 1 + 1) 1 f ∧
    Below w.heap.size w (((w.alloc (.cells #[a, b] t)).alloc (.cells #[c, d] t)).alloc (.cells #[e, f] t)) := by
  have h1 : (w.alloc (.cells #[a, b] t)).heap.size = w.heap.size + 1 := by simp
  have h2 : ((w.alloc (.cells #[a, b] t)).alloc (.cells #[c, d] t)).heap.size = w.heap.size + 1 + 1 := by simp
  refine ⟨((Kn.new rfl).alloc _).alloc _, ((Kn.new rfl).alloc _).alloc _, ?_, ?_, ?_, ?_, ?_⟩
  · rw [← h1]; exact (Kn.new rfl).alloc _
  · rw [← h1]; exact (Kn.new rfl).alloc _
  · rw [← h2]; exact Kn.new rfl
  · rw [← h2]; exact Kn.new rfl
  · exact (((Below.refl _ _).alloc (Nat.le_refl _) _).alloc (by simp) _).alloc (by simp; omega) _

theorem commonP_lz (p q : Pfx) (hp : p.ok) (hq : q.ok) (gp : good p) (gq : good q) (k : Int) (hk : k = min (min p.b q.b) (32 - (Lib.bitLen (p.a.toNat ^^^ q.a.toNat) : Int))) : 0 ≤ k ∧ k ≤ 32 ∧ sub p.a k = commonP p q := by
  obtain ⟨g1, g2, _⟩ := gp
  obtain ⟨g3, g4, _⟩ := gq
  obtain ⟨x, hx⟩ := Int.eq_ofNat_of_zero_le hp.1
  obtain ⟨y, hy⟩ := Int.eq_ofNat_of_zero_le hq.1
  have hx2 := hp.2.1
  have hy2 := hq.2.1
  have hb : Lib.bitLen (x ^^^ y) ≤ 32 := by
    have h : x ^^^ y < 2 ^ 32 := Nat.xor_lt_two_pow (by omega) (by omega)
    exact (bitLen_le_iff _ 32 (Nat.lt_trans h (by decide)) (by omega)).2 h
  unfold commonP
  rw [hx, hy, cb_lz _ (by omega) x y (by omega) (by omega)]
  rw [hx, hy, Int.toNat_natCast, Int.toNat_natCast] at hk
  have e : ((min (min p.b q.b).toNat (32 - Lib.bitLen (x ^^^ y)) : Nat) : Int) = k := by omega
  exact ⟨by omega, by omega, by rw [e]⟩

set_option maxRecDepth 100000 in
set_option maxHeartbeats 1600000 in
theorem common_any (p q : Pfx) (w : World) (hp : p.ok) (hq : q.ok) (gp : good p) (gq : good q) : Calls Try.prog 48 #[p.v, q.v] w (Ret w (.tuple #[(commonP p q).v, .int .i64 0])) := by
  have hC := fun W => check_any p W hp
  have hD := fun W => check_any q W hq
  rw [(chk_eq p).2 gp] at hC
  rw [(chk_eq q).2 gq] at hD
  obtain ⟨k0, k1, k2, k3, r0, r1, hbb⟩ := boxes3 w (.int .u32 p.a) (.int .i64 p.b) (.int .u32 q.a) (.int .i64 q.b) (.int .u32 0) (.int .i64 0) 26
  have HB := Lib.hid hbb
  clear hbb
  have hm := commonP_lz p q hp hq gp gq _ rfl
  obtain ⟨L, hL⟩ : ∃ L, L = (Lib.bitLen (p.a.toNat ^^^ q.a.toNat) : Int) := ⟨_, rfl⟩
  rw [← hL] at hm
  have HL := Lib.hid hL
  clear hL
  obtain ⟨m, hM⟩ : ∃ m, (if 32 - L < if q.b < p.b then q.b else p.b then 32 - L else if q.b < p.b then q.b else p.b) = m := ⟨_, rfl⟩
  have hM2 : min (min p.b q.b) (32 - L) = m := by rw [← hM]; split <;> split at * <;> omega
  rw [hM2] at hm
  clear hM2
  obtain ⟨m0, m1, hs⟩ := hm
  have hxor : bits .xor .u32 p.a q.a = ((p.a.toNat ^^^ q.a.toNat : Nat) : Int) := u32_xor p.a q.a hp.1 hp.2.1 hq.1 hq.2.1
  have hxl : (p.a.toNat ^^^ q.a.toNat : Nat) < 2 ^ 32 := Nat.xor_lt_two_pow (by have := hp.2.1; omega) (by have := hq.2.1; omega)
  have hlz : ∀ W, Calls Try.prog 71 #[.int .u32 (bits .xor .u32 p.a q.a)] W (RetS W (.int .i64 (32 - L))) := by
    intro W
    have := lz_any (bits .xor .u32 p.a q.a) W (by rw [hxor]; omega) (by rw [hxor]; omega)
    rw [hxor, Int.toNat_natCast, ← HL.out, ← hxor] at this
    exact this
  have hS := fun W => addrSubnet_any p.a m W m0 m1 hp.1 hp.2.1
  rw [← hs]
  clear hxor hxl hs gp gq
  obtain ⟨a, b⟩ := p
  obtain ⟨c, d⟩ := q
  dsimp only at *
  go_enter Try.func48, Try.ntmps48
  go_wp2_with fail
  refine (hC _).mono ?_
  rintro e w1 ⟨rfl, hb1⟩
  have K0 := k0.keep hb1
  have K1 := k1.keep hb1
  have K2 := k2.keep hb1
  have K3 := k3.keep hb1
  have ⟨c2, f2⟩ := K2
  have ⟨c3, f3⟩ := K3
  go_wp2_with fail
  refine (hD _).mono ?_
  rintro e w2 ⟨rfl, hb2⟩
  clear c2 f2 c3 f3
  have L0 := (K0.keep hb2)
  have L1 := (K1.keep hb2)
  have L2 := (K2.keep hb2)
  have L3 := (K3.keep hb2)
  have R0 := ((r0.keep hb1).keep hb2)
  have R1 := ((r1.keep hb1).keep hb2)
  have HB2 := Lib.hid (below_trans (below_trans HB.out hb1) hb2)
  clear HB hb1 hb2 K0 K1 K2 K3 k0 k1 k2 k3 r0 r1
  go_wp2_with fail
  have ⟨c0, f0⟩ := L0
  have ⟨c1, f1⟩ := L1
  have ⟨c2, f2⟩ := L2
  have ⟨c3, f3⟩ := L3
  go_region_held3 (fun w' => w'.cell? ⟨w.heap.size, 0, none⟩ = some (.int .u32 a) ∧ w'.cell? ⟨w.heap.size, 1, none⟩ = some (.int .i64 b) ∧ w'.cell? ⟨w.heap.size + 1, 0, none⟩ = some (.int .u32 c) ∧ w'.cell? ⟨w.heap.size + 1, 1, none⟩ = some (.int .i64 d)) (first | (refine ⟨?_, ?_, ?_, ?_⟩ <;> (try simp (disch := (dsimp only; omega)) only [World.cell?_setCell_far]) <;> assumption) | go_keep)
    (first | (go_at_call 71; refine (hlz _).mono ?_; rintro e w' ⟨rfl, rfl⟩) | (go_at_call 70; refine (hS _).mono ?_; rintro e w' ⟨rfl, hb3⟩; have ⟨g0, gf0⟩ := Kn.keep (w := World.drew w2) R0 hb3; have ⟨g1, gf1⟩ := Kn.keep (w := World.drew w2) R1 hb3; have ⟨d0, df0⟩ := Kn.keep (w := World.drew w2) L0 hb3; have ⟨d1, df1⟩ := Kn.keep (w := World.drew w2) L1 hb3; have ⟨d2, df2⟩ := Kn.keep (w := World.drew w2) L2 hb3; have ⟨d3, df3⟩ := Kn.keep (w := World.drew w2) L3 hb3))
  go_ways
  go_wp2_with fail
  refine bodyPost_ret (v := .tuple #[(sub a m).v, .int .i64 0]) (by simp [results, Try.results48, go_sem, g0, g1]) rfl ⟨rfl, ?_⟩
  have H := HB2.out
  have H3 := below_trans H.drew hb3
  repeat (first | exact H3 | apply Below.drew | apply below_drewN | (refine Below.setCell ?_ (by first | (dsimp only; omega) | (simp; done) | (simp; omega)) _) | (refine Below.alloc ?_ (by first | exact Nat.le_refl _ | (simp; done) | (simp; omega) | (have hsz9 := Below.size H3; simp at hsz9 ⊢; omega)) _))
end Go.Proofs.Ytaecjmjdhbjbkaa

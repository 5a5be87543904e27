/-
  ModelIfaces: the law, walked: it returns true for every interface.
-/
import Derived.Test.YtmpbjfoffbgckaaIfaces
namespace Go.Proofs.Ytmpbjfoffbgckaa
set_option linter.unusedVariables false
open Go.RowKit Go.Sort

/-! ### The law -/
theorem ifcSub_two (i : Ifc) : ∃ (p : Pfx) (b : Bool), i.sub = .tuple #[p.v, .bool b] := by
  unfold Ifc.sub
  split
  · exact ⟨_, _, rfl⟩
  · exact ⟨⟨0, 0⟩, _, rfl⟩

set_option maxHeartbeats 1600000 in
theorem law_any (i : Ifc) (w : World) (hi : i.ok) : Calls Try.prog 3 #[i.v] w (Ret w (.bool true)) := by
  have h1 := fun W => subnet_any i W hi
  have h2 := fun W => refSubnetI_any i W hi
  have h3 := fun W => alive_any i W
  have h4 := fun W => refAlive_any i W
  obtain ⟨p, s, hps⟩ := ifcSub_two i
  rw [hps] at h1 h2
  clear hps
  obtain ⟨A, hA⟩ : ∃ A, A = i.alive := ⟨_, rfl⟩
  rw [← hA] at h3 h4
  clear hA
  obtain ⟨n, v, a, b, d, fi, fo, si, ar, c, pa⟩ := i
  obtain ⟨pa', pb'⟩ := p
  have kn : ∀ j u, (Ifc.mk n v a b d fi fo si ar c pa).cs[j]? = some u → Kn (w.alloc (.cells (Ifc.mk n v a b d fi fo si ar c pa).cs.toArray 25)) w.heap.size j u := fun j u h => Kn.new (by simpa using h)
  have k0 := kn 0 _ rfl
  have k1 := kn 1 _ rfl
  have k2 := kn 2 _ rfl
  have k3 := kn 3 _ rfl
  have k4 := kn 4 _ rfl
  have k5 := kn 5 _ rfl
  have k6 := kn 6 _ rfl
  have k7 := kn 7 _ rfl
  have k8 := kn 8 _ rfl
  have k9 := kn 9 _ rfl
  have k10 := kn 10 _ rfl
  clear kn
  go_enter Try.func3, Try.ntmps3
  go_wp2_with fail
  refine (h1 _).mono ?_
  rintro e w1 ⟨rfl, hb1⟩
  have K0 := k0.keep hb1
  have K1 := k1.keep hb1
  have K2 := k2.keep hb1
  have K3 := k3.keep hb1
  have K4 := k4.keep hb1
  have K5 := k5.keep hb1
  have K6 := k6.keep hb1
  have K7 := k7.keep hb1
  have K8 := k8.keep hb1
  have K9 := k9.keep hb1
  have K10 := k10.keep hb1
  have ⟨c0, f0⟩ := K0
  have ⟨c1, f1⟩ := K1
  have ⟨c2, f2⟩ := K2
  have ⟨c3, f3⟩ := K3
  have ⟨c4, f4⟩ := K4
  have ⟨c5, f5⟩ := K5
  have ⟨c6, f6⟩ := K6
  have ⟨c7, f7⟩ := K7
  have ⟨c8, f8⟩ := K8
  have ⟨c9, f9⟩ := K9
  have ⟨c10, f10⟩ := K10
  have z1 := K0.lt
  go_wp2_with fail
  refine (h2 _).mono ?_
  rintro e w2 ⟨rfl, hb2⟩
  have P0 : Kn (w1.alloc (.cells #[.int .u32 pa', .int .i64 pb'] 27)) w1.heap.size 0 (.int .u32 pa') := Kn.new rfl
  have P1 : Kn (w1.alloc (.cells #[.int .u32 pa', .int .i64 pb'] 27)) w1.heap.size 1 (.int .i64 pb') := Kn.new rfl
  clear c0 f0
  clear c1 f1
  clear c2 f2
  clear c3 f3
  clear c4 f4
  clear c5 f5
  clear c6 f6
  clear c7 f7
  clear c8 f8
  clear c9 f9
  clear c10 f10
  have L0 := ((K0.alloc _).keep hb2).alloc (.cells #[.int .u32 pa', .int .i64 pb'] 27)
  have L1 := ((K1.alloc _).keep hb2).alloc (.cells #[.int .u32 pa', .int .i64 pb'] 27)
  have L2 := ((K2.alloc _).keep hb2).alloc (.cells #[.int .u32 pa', .int .i64 pb'] 27)
  have L3 := ((K3.alloc _).keep hb2).alloc (.cells #[.int .u32 pa', .int .i64 pb'] 27)
  have L4 := ((K4.alloc _).keep hb2).alloc (.cells #[.int .u32 pa', .int .i64 pb'] 27)
  have L5 := ((K5.alloc _).keep hb2).alloc (.cells #[.int .u32 pa', .int .i64 pb'] 27)
  have L6 := ((K6.alloc _).keep hb2).alloc (.cells #[.int .u32 pa', .int .i64 pb'] 27)
  have L7 := ((K7.alloc _).keep hb2).alloc (.cells #[.int .u32 pa', .int .i64 pb'] 27)
  have L8 := ((K8.alloc _).keep hb2).alloc (.cells #[.int .u32 pa', .int .i64 pb'] 27)
  have L9 := ((K9.alloc _).keep hb2).alloc (.cells #[.int .u32 pa', .int .i64 pb'] 27)
  have L10 := ((K10.alloc _).keep hb2).alloc (.cells #[.int .u32 pa', .int .i64 pb'] 27)
  have Q0 := (P0.keep hb2).alloc (.cells #[.int .u32 pa', .int .i64 pb'] 27)
  have Q1 := (P1.keep hb2).alloc (.cells #[.int .u32 pa', .int .i64 pb'] 27)
  have R0 : Kn (w2.alloc (.cells #[.int .u32 pa', .int .i64 pb'] 27)) w2.heap.size 0 (.int .u32 pa') := Kn.new rfl
  have R1 : Kn (w2.alloc (.cells #[.int .u32 pa', .int .i64 pb'] 27)) w2.heap.size 1 (.int .i64 pb') := Kn.new rfl
  have g0 := cell_regrown L0.1
  have g1 := cell_regrown L1.1
  have g2 := cell_regrown L2.1
  have g3 := cell_regrown L3.1
  have g4 := cell_regrown L4.1
  have g5 := cell_regrown L5.1
  have g6 := cell_regrown L6.1
  have g7 := cell_regrown L7.1
  have g8 := cell_regrown L8.1
  have g9 := cell_regrown L9.1
  have g10 := cell_regrown L10.1
  have q0 := cell_regrown Q0.1
  have q1 := cell_regrown Q1.1
  have r0 := cell_regrown R0.1
  have r1 := cell_regrown R1.1
  have hB : Hid (Below w.heap.size w (w2.alloc (.cells #[.int .u32 pa', .int .i64 pb'] 27))) :=
    Lib.hid ((below_trans (below_trans (below_trans ((Below.refl _ _).alloc (Nat.le_refl _) _) hb1) ((Below.refl _ _).alloc (Nat.le_refl _) _)) hb2).alloc (by have := hb1.size; have := hb2.size; simp at *; omega) _)
  clear hb1 hb2
  clear k0 K0 L0
  clear k1 K1 L1
  clear k2 K2 L2
  clear k3 K3 L3
  clear k4 K4 L4
  clear k5 K5 L5
  clear k6 K6 L6
  clear k7 K7 L7
  clear k8 K8 L8
  clear k9 K9 L9
  clear k10 K10 L10
  clear P0 P1 Q0 Q1 R0 R1
  go_wp2_with fail
  refine wp_region_quiet_below (by kernel_rfl) (by kernel_rfl) ?_
  repeat (first | go_big_quiet_step ((first | (go_at_call 6; exact Ret.q0 h3) | (go_at_call 7; exact Ret.q0 h4))) | quiet_step ((first | (go_at_call 6; exact Ret.q0 h3) | (go_at_call 7; exact Ret.q0 h4))))
  refine wpQuiet_nil ?_
  intro wq hq'
  have hq := below_of_regrown hq'
  clear hq'
  go_wp2_with fail
  go_ret
  exact ⟨rfl, below_trans hB.out hq⟩
end Go.Proofs.Ytmpbjfoffbgckaa

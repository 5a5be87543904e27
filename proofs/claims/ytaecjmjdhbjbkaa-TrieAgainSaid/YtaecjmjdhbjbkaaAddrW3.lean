/-
  Cmp, Common: the walks.
-/
import Derived.Test.YtaecjmjdhbjbkaaAddrW2
import Derived.Test.YtaecjmjdhbjbkaaShelf
namespace Go.Proofs.Ytaecjmjdhbjbkaa
set_option linter.unusedVariables false
open Go.RowKit Go.Sort

set_option maxHeartbeats 400000 in
theorem refCmp_any (p q : Pfx) (w : World) : Calls Try.prog 15 #[p.v, q.v] w (Ret w (.int .i64 (cmpP p q))) := by
  obtain ⟨a, b⟩ := p
  obtain ⟨c, d⟩ := q
  by_cases h1 : a < c
  · have hr : cmpP ⟨a, b⟩ ⟨c, d⟩ = -1 := if_pos (Or.inl h1)
    rw [hr]; clear hr
    go_enter Try.func15, Try.ntmps15
    go_wp2_with fail
    go_ret
    exact ⟨rfl, ((Below.refl _ _).alloc (Nat.le_refl _) _).alloc (by simp) _⟩
  · by_cases h2 : a = c
    · subst h2
      by_cases h3 : b < d
      · have hr : cmpP ⟨a, b⟩ ⟨a, d⟩ = -1 := if_pos (Or.inr ⟨rfl, h3⟩)
        rw [hr]; clear hr
        go_enter Try.func15, Try.ntmps15
        go_wp2_with fail
        go_ret
        exact ⟨rfl, ((Below.refl _ _).alloc (Nat.le_refl _) _).alloc (by simp) _⟩
      · by_cases h4 : b = d
        · subst h4
          have hr : cmpP ⟨a, b⟩ ⟨a, b⟩ = 0 := by unfold cmpP; rw [if_neg (by dsimp only; omega), if_pos rfl]
          rw [hr]; clear hr
          go_enter Try.func15, Try.ntmps15
          go_wp2_with fail
          go_ret
          exact ⟨rfl, ((Below.refl _ _).alloc (Nat.le_refl _) _).alloc (by simp) _⟩
        · have hr : cmpP ⟨a, b⟩ ⟨a, d⟩ = 1 := by unfold cmpP; rw [if_neg (by dsimp only; omega), if_neg (by simpa using h4)]
          rw [hr]; clear hr
          have hB : (b == d) = false := by simpa using h4
          go_enter Try.func15, Try.ntmps15
          go_wp2_with fail
          go_ret
          exact ⟨rfl, ((Below.refl _ _).alloc (Nat.le_refl _) _).alloc (by simp) _⟩
    · have hr : cmpP ⟨a, b⟩ ⟨c, d⟩ = 1 := by unfold cmpP; rw [if_neg (by dsimp only; omega), if_neg (by intro h; injection h with h; exact h2 h)]
      rw [hr]; clear hr
      have hB : (a == c) = false := by simpa using h2
      go_enter Try.func15, Try.ntmps15
      go_wp2_with fail
      go_ret
      exact ⟨rfl, ((Below.refl _ _).alloc (Nat.le_refl _) _).alloc (by simp) _⟩

theorem cmpP_or (p q : Pfx) : (if cmpI p.a q.a = 0 then cmpI p.b q.b else cmpI p.a q.a) = cmpP p q := by
  obtain ⟨a, b⟩ := p
  obtain ⟨c, d⟩ := q
  unfold cmpP cmpI
  dsimp only
  by_cases h1 : a < c
  · simp [h1]
  · by_cases h2 : c < a
    · have : ¬ a = c := by omega
      simp [h1, h2, this]
    · have : a = c := by omega
      subst this
      by_cases h3 : b < d
      · simp [h3]
      · by_cases h4 : d < b
        · have : ¬ b = d := by omega
          simp [h3, h4, this]
        · have : b = d := by omega
          subst this
          simp

theorem alloc3_drew (w : World) (x y z : Obj) : (((w.alloc x).alloc y).alloc z).drew = grow (w.drewN 1) #[x, y, z] := by
  have e : ((w.heap.push x).push y).push z = w.heap ++ #[x, y, z] := by
    rw [Array.push_eq_append, Array.push_eq_append, Array.push_eq_append, Array.append_assoc, Array.append_assoc]; rfl
  show World.mk .. = World.mk ..
  simp only [World.alloc, World.drew, World.drewN, grow]
  simp only [e]

set_option maxHeartbeats 800000 in
theorem cmp_lays (p q : Pfx) (w : World) : Calls Try.prog 46 #[p.v, q.v] w (fun e w' => e = .returned (.int .i64 (cmpP p q)) ∧ ∃ n os, w' = grow (w.drewN n) os) := by
  have hr := cmpP_or p q
  obtain ⟨r, hR⟩ : ∃ r, r = cmpP p q := ⟨_, rfl⟩
  rw [← hR] at hr ⊢
  clear hR
  obtain ⟨a, b⟩ := p
  obtain ⟨c, d⟩ := q
  dsimp only at hr
  have HR := Lib.hid hr
  clear hr
  go_enter Try.func46, Try.ntmps46
  go_wp2_with fail
  go_region_held3 (fun w' => w'.cell? ⟨w.heap.size, 0, none⟩ = some (.int .u32 a) ∧ w'.cell? ⟨w.heap.size, 1, none⟩ = some (.int .i64 b) ∧ w'.cell? ⟨w.heap.size + 1, 0, none⟩ = some (.int .u32 c) ∧ w'.cell? ⟨w.heap.size + 1, 1, none⟩ = some (.int .i64 d)) (go_keep)
    (first | (go_at_call 67; refine (compareA_any a c _).mono ?_; rintro e w' ⟨rfl, rfl⟩) | (go_at_call 68; refine (compareI_any b d _).mono ?_; rintro e w' ⟨rfl, rfl⟩) | (go_at_call 66; refine (or2_to (cmpI a c) (cmpI b d) r _ _ HR ?_ ?_).mono ?_; (go_simp); (go_simp); rintro e w' ⟨rfl, rfl⟩))
  go_wp2_with fail
  go_ret
  exact ⟨rfl, 1, #[_, _, _], alloc3_drew _ _ _ _⟩
theorem below_grow (w : World) (n : Nat) (os : Array Obj) : Below w.heap.size w (grow (w.drewN n) os) := ⟨rfl, rfl, rfl, by simp [grow, World.drewN], fun k hk => by
  show (w.heap ++ os)[k]? = w.heap[k]?
  rw [Array.getElem?_append, if_pos hk]⟩
theorem cmp_any (p q : Pfx) (w : World) : Calls Try.prog 46 #[p.v, q.v] w (Ret w (.int .i64 (cmpP p q))) :=
  (cmp_lays p q w).mono fun _ _ ⟨he, n, os, hw⟩ => ⟨he, hw ▸ below_grow w n os⟩

set_option maxHeartbeats 400000 in
theorem refWithin_any (p q : Pfx) (w : World) (hp : p.ok) (hq : q.ok) : Calls Try.prog 16 #[p.v, q.v] w (Ret w (.bool (withinB p q))) := by
  have hC := fun W => refCheck_any p W hp
  have hD := fun W => refCheck_any q W hq
  by_cases hg : good p
  · have hc : chk p = 0 := (chk_eq p).2 hg
    rw [hc] at hC
    by_cases hg2 : good q
    · have hc2 : chk q = 0 := (chk_eq q).2 hg2
      rw [hc2] at hD
      have hI := fun W => refIn_any p.a q W hq hp.1 hp.2.1
      have hW : withinB p q = (decide (q.b ≤ p.b) && inB p.a q) := by unfold withinB; simp [hg]
      obtain ⟨a, b⟩ := p
      obtain ⟨c, d⟩ := q
      dsimp only at *
      rw [hW]; clear hW hc hg hc2 hg2
      by_cases hle : d ≤ b
      · have hd : decide (d ≤ b) = true := by simpa using hle
        rw [hd, Bool.true_and]; clear hd
        go_enter Try.func16, Try.ntmps16
        go_wp2_with fail
        refine (hC _).mono ?_
        rintro e w1 ⟨rfl, hb1⟩
        obtain ⟨hB, hs, c0, c1, c2, c3⟩ := box2 hb1
        go_wp2_with fail
        refine (hD _).mono ?_
        rintro e w2 ⟨rfl, hb2⟩
        have d0 := kc hb2 c0
        have d1 := kc hb2 c1
        have d2 := kc hb2 c2
        have d3 := kc hb2 c3
        go_wp2_with fail
        refine (hI _).mono ?_
        rintro e w3 ⟨rfl, hb3⟩
        go_wp2_with fail
        go_ret
        exact ⟨rfl, below_trans (below_trans hB hb2) hb3⟩
      · have hd : decide (d ≤ b) = false := by simpa using hle
        rw [hd, Bool.false_and]; clear hd
        go_enter Try.func16, Try.ntmps16
        go_wp2_with fail
        refine (hC _).mono ?_
        rintro e w1 ⟨rfl, hb1⟩
        obtain ⟨hB, hs, c0, c1, c2, c3⟩ := box2 hb1
        go_wp2_with fail
        refine (hD _).mono ?_
        rintro e w2 ⟨rfl, hb2⟩
        have d0 := kc hb2 c0
        have d1 := kc hb2 c1
        have d2 := kc hb2 c2
        have d3 := kc hb2 c3
        go_wp2_with fail
        go_ret
        exact ⟨rfl, below_trans hB hb2⟩
    · have hc2 : (chk q == 0) = false := by have := mt (chk_eq q).1 hg2; simpa using this
      have hW : withinB p q = false := by unfold withinB; rw [inB_no _ q hg2]; simp
      rw [hW]; clear hW
      obtain ⟨a, b⟩ := p
      obtain ⟨c, d⟩ := q
      clear hg hg2 hc
      go_enter Try.func16, Try.ntmps16
      go_wp2_with fail
      refine (hC _).mono ?_
      rintro e w1 ⟨rfl, hb1⟩
      obtain ⟨hB, hs, c0, c1, c2, c3⟩ := box2 hb1
      go_wp2_with fail
      refine (hD _).mono ?_
      rintro e w2 ⟨rfl, hb2⟩
      go_wp2_with fail
      go_ret
      exact ⟨rfl, below_trans hB hb2⟩
  · have hc : (chk p == 0) = false := by have := mt (chk_eq p).1 hg; simpa using this
    have hW : withinB p q = false := by unfold withinB; simp [hg]
    rw [hW]; clear hW
    obtain ⟨a, b⟩ := p
    obtain ⟨c, d⟩ := q
    clear hg
    go_enter Try.func16, Try.ntmps16
    go_wp2_with fail
    refine (hC _).mono ?_
    rintro e w1 ⟨rfl, hb1⟩
    obtain ⟨hB, hs, c0, c1, c2, c3⟩ := box2 hb1
    go_wp2_with fail
    go_ret
    exact ⟨rfl, hB⟩

/-! ### Common -/
set_option maxHeartbeats 400000 in
theorem lz_any (x : Int) (w : World) (x0 : 0 ≤ x) (x1 : x < 4294967296) : Calls Try.prog 71 #[.int .u32 x] w (RetS w (.int .i64 (32 - (Lib.bitLen x.toNat : Int)))) :=
  (Any.bits_LeadingZeros32 Try.lays133 x w x0 (by omega)).mono fun _ _ ⟨he, hw⟩ => ⟨he, hw.symm⟩
end Go.Proofs.Ytaecjmjdhbjbkaa

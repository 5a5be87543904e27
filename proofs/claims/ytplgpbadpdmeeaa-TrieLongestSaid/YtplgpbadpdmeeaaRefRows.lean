/-
  waymarkref04: rows of a prefix and a number; Put.
-/
import Derived.Test.YtplgpbadpdmeeaaPush
import Derived.Test.YtplgpbadpdmeeaaPRows
import Derived.Test.YtplgpbadpdmeeaaAddrW5
namespace Go.Proofs.Ytplgpbadpdmeeaa
set_option linter.unusedVariables false
open Go.RowKit Go.Sort

/-- A row: a prefix, its number. -/
abbrev Row := Pfx × Int
def rcs (l : List Row) : List Value := l.flatMap fun r => [.int .u32 r.1.a, .int .i64 r.1.b, .int .i64 r.2]
theorem rcs_nil : rcs [] = [] := rfl
theorem rcs_cons (r : Row) (l : List Row) : rcs (r :: l) = .int .u32 r.1.a :: .int .i64 r.1.b :: .int .i64 r.2 :: rcs l := rfl
theorem rcs_append (l m : List Row) : rcs (l ++ m) = rcs l ++ rcs m := by simp [rcs]
theorem rcs_push (l : List Row) (r : Row) : rcs l ++ [.int .u32 r.1.a, .int .i64 r.1.b, .int .i64 r.2] = rcs (l ++ [r]) := by rw [rcs_append]; rfl
theorem rcs_length (l : List Row) : (rcs l).length = l.length * 3 := by
  induction l with
  | nil => rfl
  | cons p l ih => rw [rcs_cons]; simp [ih]; omega
theorem rcs_get (l : List Row) (i : Nat) (h : i < l.length) : (rcs l)[3 * i]? = some (.int .u32 l[i].1.a) ∧ (rcs l)[3 * i + 1]? = some (.int .i64 l[i].1.b) ∧ (rcs l)[3 * i + 2]? = some (.int .i64 l[i].2) := by
  induction l generalizing i with
  | nil => simp at h
  | cons p l ih =>
    rw [rcs_cons]
    match i with
    | 0 => simp
    | i + 1 =>
      have := ih i (by simpa using h)
      rw [show 3 * (i + 1) = (3 * i + 2) + 1 by omega]
      simpa using this
abbrev RdR (w : World) (v : Value) (l : List Row) : Prop := Rd w v l.length 3 (rcs l)
theorem Rd.triple {w : World} {b o : Nat} {l : List Row} (h : ∀ j u, (rcs l)[j]? = some u → w.cell? ⟨b, o + j, none⟩ = some u) (i : Nat) (hi : i < l.length) :
    w.cell? ⟨b, o + i * 3, none⟩ = some (.int .u32 l[i].1.a) ∧ w.cell? ⟨b, o + i * 3 + 1, none⟩ = some (.int .i64 l[i].1.b) ∧ w.cell? ⟨b, o + i * 3 + 2, none⟩ = some (.int .i64 l[i].2) := by
  have := rcs_get l i hi
  have e : i * 3 = 3 * i := by omega
  exact ⟨by rw [e]; exact h _ _ this.1, by rw [e, Nat.add_assoc]; exact h _ _ this.2.1, by rw [e, Nat.add_assoc]; exact h _ _ this.2.2⟩

/-! ### Put, plainly -/
/-- What a round of Put does with the row x. -/
def putStep (p : Pfx) (v : Int) (s : List Row × Bool) (x : Row) : List Row × Bool :=
  let c := cmpP p x.1
  let out := if c ≤ 0 ∧ s.2 = false then s.1 ++ [(p, v)] else s.1
  (if c = 0 then out else out ++ [x], s.2 || decide (c ≤ 0))
def putFold (l : List Row) (p : Pfx) (v : Int) : List Row × Bool := l.foldl (putStep p v) ([], false)
def putR (l : List Row) (p : Pfx) (v : Int) : List Row :=
  if chk p = 0 then (let s := putFold l p v; if s.2 then s.1 else s.1 ++ [(p, v)]) else l
theorem putFold_step (l : List Row) (p : Pfx) (v : Int) (k : Nat) (h : k < l.length) : putFold (l.take (k + 1)) p v = putStep p v (putFold (l.take k) p v) l[k] := by
  unfold putFold
  rw [List.take_succ_eq_append_getElem h, List.foldl_append]; rfl
theorem putFold_len (l : List Row) (p : Pfx) (v : Int) : (putFold l p v).1.length + (if (putFold l p v).2 then 0 else 1) ≤ l.length + 1 := by
  unfold putFold
  have key : ∀ (l : List Row) (s : List Row × Bool), (l.foldl (putStep p v) s).1.length + (if (l.foldl (putStep p v) s).2 then 0 else 1) ≤ l.length + s.1.length + (if s.2 then 0 else 1) := by
    intro l
    induction l with
    | nil => intro s; rcases s with ⟨o, d⟩; cases d <;> simp
    | cons x l ih =>
      intro s
      refine Nat.le_trans (ih _) ?_
      unfold putStep
      rcases s with ⟨out, d⟩
      generalize cmpP p x.1 = c
      rcases d <;> by_cases h1 : c ≤ 0 <;> by_cases h2 : c = 0 <;> simp [h1, h2] <;> omega
  have := key l ([], false)
  simpa using this
theorem rowT : RowT Try.prog 57 80 3 24 := by
  refine RowT.of (z := .agg #[.int .u32 0, .int .i64 0, .int .i64 0]) Try.underlying57 (by kernel_rfl) rfl (by omega)

theorem putStep_eq (p : Pfx) (v : Int) (xs : List Row) (d : Bool) (x : Row) (r : Int) (hr : cmpP p x.1 = r) :
    putStep p v (xs, d) x = (if r = 0 then (if r ≤ 0 ∧ d = false then xs ++ [(p, v)] else xs) else (if r ≤ 0 ∧ d = false then xs ++ [(p, v)] else xs) ++ [x], d || decide (r ≤ 0)) := by
  unfold putStep
  rw [hr]

/-- Rows handed back in memory that is the callee's or the caller's. -/
def GotR (w : World) (l : List Row) (n : Int) (e : Ending) (w' : World) : Prop := ∃ v, e = .returned (.tuple #[v, .int .i64 n]) ∧ RdR w' v l ∧ Below w.heap.size w w'

theorem refPut_any (va : Value) (l : List Row) (p : Pfx) (v : Int) (w : World) (hl : RdR w va l) (hp : p.ok) (hn : l.length ≤ 1000000) :
    Calls Try.prog 28 #[va, p.v, .int .i64 v] w (GotR w (putR l p v) (chk p)) := by
  have hC := fun W => refCheck_any p W hp
  obtain ⟨k0, k1⟩ : Kn (w.alloc (.cells #[.int .u32 p.a, .int .i64 p.b] 26)) w.heap.size 0 (.int .u32 p.a) ∧ Kn (w.alloc (.cells #[.int .u32 p.a, .int .i64 p.b] 26)) w.heap.size 1 (.int .i64 p.b) := ⟨Kn.new rfl, Kn.new rfl⟩
  have HK0 := Lib.hid ((Below.refl w.heap.size w).alloc (Nat.le_refl _) (.cells #[.int .u32 p.a, .int .i64 p.b] 26))
  by_cases hg : chk p = 0
  · rw [hg] at hC ⊢
    obtain ⟨R, hR⟩ : ∃ R, putR l p v = R := ⟨_, rfl⟩
    rw [hR]
    unfold putR at hR
    rw [if_pos hg] at hR
    have HR := Lib.hid hR
    clear hR hg
    have hcmp := fun q W => refCmp_any p q W
    obtain ⟨ao, ca, rfl, -, hca⟩ := hl
    obtain ⟨a, b⟩ := p
    dsimp only at *
    go_enter Try.func28, Try.ntmps28
    go_wp2_with fail
    refine (hC _).mono ?_
    rintro e w1 ⟨rfl, hb1⟩
    have K0 := k0.keep hb1
    have K1 := k1.keep hb1
    have HB := Lib.hid (below_trans HK0.out hb1)
    clear k0 k1 hb1 HK0
    go_wp2_with fail
    go_loopw [9, 10, 11] (fun out dn i wr => ∃ k : Nat, i = .int .i64 k ∧ k ≤ l.length ∧ ∃ xs d, putFold (l.take k) ⟨a, b⟩ v = (xs, d) ∧ dn = .bool d ∧ wr.ownsRow w1.heap.size 80 3 out xs.length (rcs xs) ∧ Kp [] w1 wr) (fun _ _ i _ => l.length - (intOf i).toNat)
    case atStart => exact ⟨0, rfl, Nat.zero_le _, [], false, rfl, rfl, World.ownsRow_nil _ _ _ _, Kp.refl _ _⟩
    case round =>
      obtain ⟨k, rfl, hk, xs, d, hf, rfl, hown, hkp⟩ := hrel
      rcases Nat.lt_or_ge k l.length with hlt | hge
      · obtain ⟨b1, o1, rfl, h1⟩ := hca (by omega)
        have T3 := Rd.triple h1 k (by omega)
        have hstep := putFold_step l ⟨a, b⟩ v k hlt
        rw [hf] at hstep
        obtain ⟨⟨⟨c, e⟩, x⟩, hx⟩ : ∃ x, l[k] = x := ⟨_, rfl⟩
        rw [hx] at T3 hstep
        dsimp only at T3
        have HS := Lib.hid (And.intro hstep (And.intro hx hf))
        clear hstep hx hf
        have hlow0 : b1 < w.heap.size := block_lt_of_cell T3.1
        have hlow : b1 < w1.heap.size := Nat.lt_of_lt_of_le hlow0 (Below.size HB.out)
        have hlen : xs.length ≤ 1000001 := by
          have := putFold_len (l.take k) ⟨a, b⟩ v
          rw [HS.out.2.2, List.length_take] at this
          dsimp only at this
          omega
        have bl := hkp.below
        have hcm := fun W => hcmp ⟨c, e⟩ W
        obtain ⟨r, hr⟩ : ∃ r, cmpP ⟨a, b⟩ ⟨c, e⟩ = r := ⟨_, rfl⟩
        rw [hr] at hcm
        have c0 := kc bl K0.1
        have c1 := kc bl K1.1
        have c2 := kc bl (kc HB.out T3.1)
        have c3 := kc bl (kc HB.out T3.2.1)
        have c4 := kc bl (kc HB.out T3.2.2)
        have q0 := cell_regrown c0
        have q1 := cell_regrown c1
        have q2 := cell_regrown c2
        have q3 := cell_regrown c3
        go_wp2_with fail
        refine wp_region_quiet_below (by kernel_rfl) (by kernel_rfl) ?_
        repeat (first | go_big_quiet_step (((go_at_call 15; exact Ret.q0 hcm))) | quiet_step (((go_at_call 15; exact Ret.q0 hcm))))
        refine wpQuiet_nil ?_
        intro wq hq'
        have hq := below_of_regrown hq'
        clear hq'
        have hown2 := owns_kp hown (Kp.of_below hq) (by simp)
        have hkp2 := hkp.more hq
        have hsz := hkp2.size
        replace c0 := kc hq c0
        replace c1 := kc hq c1
        replace c2 := kc hq c2
        replace c3 := kc hq c3
        replace c4 := kc hq c4
        have hlw : w.heap.size < w1.heap.size := K0.lt
        clear q0 q1 q2 q3 hown hkp hq bl hcm
        have HR2 := Lib.hid hr
        clear hr
        rcases d with _ | _
        · rcases Int.lt_trichotomy r 0 with hr0 | rfl | hr0
          · have hr1 : r ≤ 0 := by omega
            have hr2 : r ≠ 0 := by omega
            go_wp2_with (first | (at_builtin; refine push1 rowT rfl _ _ rfl _ _ _ _ _ _ _ hown2 rfl rfl rfl (by simp [Value.oneCell']) (by omega) (by omega) hsz ?_; intro v3 w3 hown3 hk3 hn3; have e2 := hk3.push_cell hown2 c2 hlow; have e3 := hk3.push_cell hown2 c3 hlow; have e4 := hk3.push_cell hown2 c4 hlow; have hsz3 := Nat.le_trans hsz hk3.size; have hkp3 := hkp2.push hown2 hk3 (Nat.le_refl _)) | (at_builtin; refine push1 rowT rfl _ _ rfl _ _ _ _ _ _ _ hown3 rfl rfl rfl (by simp [Value.oneCell']) (by omega) (by omega) hsz3 ?_; intro v4 w4 hown4 hk4 hn4; have hkp4 := hkp3.push hown3 hk4 (Nat.le_refl _)))
            go_roundw
            case rel =>
              have st := HS.out.1
              rw [putStep_eq _ _ _ _ _ r HR2.out] at st
              exact ⟨k + 1, by go_num, by omega, xs ++ [(⟨a, b⟩, v)] ++ [(⟨c, e⟩, x)], true, by rw [st]; simp [hr1, hr2], rfl, by simpa [rcs] using hown4, hkp4⟩
            case measure => simp [intOf]; omega
          · go_wp2_with (first | (at_builtin; refine push1 rowT rfl _ _ rfl _ _ _ _ _ _ _ hown2 rfl rfl rfl (by simp [Value.oneCell']) (by omega) (by omega) hsz ?_; intro v3 w3 hown3 hk3 hn3; have e2 := hk3.push_cell hown2 c2 hlow; have e3 := hk3.push_cell hown2 c3 hlow; have e4 := hk3.push_cell hown2 c4 hlow; have hsz3 := Nat.le_trans hsz hk3.size; have hkp3 := hkp2.push hown2 hk3 (Nat.le_refl _)))
            go_roundw
            case rel =>
              have st := HS.out.1
              rw [putStep_eq _ _ _ _ _ 0 HR2.out] at st
              exact ⟨k + 1, by go_num, by omega, xs ++ [(⟨a, b⟩, v)], true, by rw [st]; simp [], rfl, by simpa [rcs] using hown3, hkp3⟩
            case measure => simp [intOf]; omega
          · have hr1 : ¬ r ≤ 0 := by omega
            have hr2 : r ≠ 0 := by omega
            go_wp2_with (first | (at_builtin; refine push1 rowT rfl _ _ rfl _ _ _ _ _ _ _ hown2 rfl rfl rfl (by simp [Value.oneCell']) (by omega) (by omega) hsz ?_; intro v3 w3 hown3 hk3 hn3; have e2 := hk3.push_cell hown2 c2 hlow; have e3 := hk3.push_cell hown2 c3 hlow; have e4 := hk3.push_cell hown2 c4 hlow; have hsz3 := Nat.le_trans hsz hk3.size; have hkp3 := hkp2.push hown2 hk3 (Nat.le_refl _)))
            go_roundw
            case rel =>
              have st := HS.out.1
              rw [putStep_eq _ _ _ _ _ r HR2.out] at st
              exact ⟨k + 1, by go_num, by omega, xs ++ [(⟨c, e⟩, x)], false, by rw [st]; simp [hr1, hr2], rfl, by simpa [rcs] using hown3, hkp3⟩
            case measure => simp [intOf]; omega
        · by_cases hr2 : r = 0
          · subst hr2
            go_wp2_with fail
            go_roundw
            case rel =>
              have st := HS.out.1
              rw [putStep_eq _ _ _ _ _ 0 HR2.out] at st
              exact ⟨k + 1, by go_num, by omega, xs, true, by rw [st]; simp [], rfl, by simpa [rcs] using hown2, hkp2⟩
            case measure => simp [intOf]; omega
          · go_wp2_with (first | (at_builtin; refine push1 rowT rfl _ _ rfl _ _ _ _ _ _ _ hown2 rfl rfl rfl (by simp [Value.oneCell']) (by omega) (by omega) hsz ?_; intro v3 w3 hown3 hk3 hn3; have e2 := hk3.push_cell hown2 c2 hlow; have e3 := hk3.push_cell hown2 c3 hlow; have e4 := hk3.push_cell hown2 c4 hlow; have hsz3 := Nat.le_trans hsz hk3.size; have hkp3 := hkp2.push hown2 hk3 (Nat.le_refl _)))
            all_goals (
              have st := HS.out.1
              rw [putStep_eq _ _ _ _ _ r HR2.out] at st
              refine ⟨⟨k + 1, by go_num, by omega, xs ++ [(⟨c, e⟩, x)], true, by rw [st]; simp [hr2], rfl, by simpa [rcs] using hown3, hkp3⟩, ?_⟩
              simp [intOf]; omega)
      · have hkk : l.take k = l := List.take_of_length_le hge
        rw [hkk] at hf
        have hlen : xs.length ≤ 1000001 := by
          have := putFold_len l ⟨a, b⟩ v
          rw [hf] at this
          dsimp only at this
          omega
        have hRR := HR.out
        rw [hf] at hRR
        dsimp only at hRR
        have bl := hkp.below
        have c0 := kc bl K0.1
        have c1 := kc bl K1.1
        have hsz := hkp.size
        have hlw : w.heap.size < w1.heap.size := K0.lt
        have HRR := Lib.hid hRR
        clear hRR hf hkk bl
        rcases d with _ | _
        · go_wp2_with (first | (at_builtin; refine push1 rowT rfl _ _ rfl _ _ _ _ _ _ _ hown rfl rfl rfl (by simp [Value.oneCell']) (by omega) (by omega) hsz ?_; intro v3 w3 hown3 hk3 hn3; have hkp3 := hkp.push hown hk3 (Nat.le_refl _)))
          go_ret2
          have e0 := HRR.out
          rw [if_neg (by decide)] at e0
          subst e0
          exact ⟨v3, rfl, by have := Rd.of_owns hown3; simpa [RdR, rcs] using this, below_trans HB.out hkp3.below⟩
        · go_wp2_with fail
          go_ret2
          have e0 := HRR.out
          rw [if_pos trivial] at e0
          subst e0
          exact ⟨_, rfl, Rd.of_owns hown, below_trans HB.out hkp.below⟩
  · have hR : putR l p v = l := by unfold putR; rw [if_neg hg]
    rw [hR]
    clear hR
    have hc2 : (chk p == 0) = false := by simpa using hg
    obtain ⟨n, hnn⟩ : ∃ n, chk p = n := ⟨_, rfl⟩
    rw [hnn] at hC hc2 ⊢
    obtain ⟨ao, ca, rfl, h1, h2⟩ := hl
    obtain ⟨a, b⟩ := p
    have hn0 : n ≠ 0 := by simpa using hc2
    clear hc2 hg hnn
    dsimp only at *
    go_enter Try.func28, Try.ntmps28
    go_wp2_with fail
    refine (hC _).mono ?_
    rintro e w1 ⟨rfl, hb1⟩
    have HB := below_trans HK0.out hb1
    go_wp2_with fail
    go_ret2
    exact ⟨_, rfl, Rd.kp ⟨_, _, rfl, h1, h2⟩ (Kp.of_below HB), HB⟩
end Go.Proofs.Ytplgpbadpdmeeaa

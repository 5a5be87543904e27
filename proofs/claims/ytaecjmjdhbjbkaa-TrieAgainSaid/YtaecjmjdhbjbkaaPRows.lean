/-
  Slices of prefixes: what they hold; Same.
-/
import Derived.Test.YtaecjmjdhbjbkaaCarry
import Derived.Test.YtaecjmjdhbjbkaaAddrW4
namespace Go.Proofs.Ytaecjmjdhbjbkaa
set_option linter.unusedVariables false
open Go.RowKit Go.Sort

/-- The cells of prefixes. -/
def pcs (l : List Pfx) : List Value := l.flatMap fun p => [.int .u32 p.a, .int .i64 p.b]
theorem pcs_nil : pcs [] = [] := rfl
theorem pcs_cons (p : Pfx) (l : List Pfx) : pcs (p :: l) = .int .u32 p.a :: .int .i64 p.b :: pcs l := rfl
theorem pcs_append (l m : List Pfx) : pcs (l ++ m) = pcs l ++ pcs m := by simp [pcs]
theorem pcs_length (l : List Pfx) : (pcs l).length = l.length * 2 := by
  induction l with
  | nil => rfl
  | cons p l ih => rw [pcs_cons]; simp [ih]; omega
theorem pcs_get (l : List Pfx) (i : Nat) (h : i < l.length) : (pcs l)[2 * i]? = some (.int .u32 l[i].a) ∧ (pcs l)[2 * i + 1]? = some (.int .i64 l[i].b) := by
  induction l generalizing i with
  | nil => simp at h
  | cons p l ih =>
    rw [pcs_cons]
    match i with
    | 0 => simp
    | i + 1 =>
      have := ih i (by simpa using h)
      rw [show 2 * (i + 1) = (2 * i + 1) + 1 by omega]
      simpa using this
theorem pcs_one (l : List Pfx) : ∀ u ∈ pcs l, u.oneCell' = true := by
  intro u hu
  simp only [pcs, List.mem_flatMap] at hu
  obtain ⟨p, _, hp⟩ := hu
  simp at hp
  rcases hp with rfl | rfl <;> rfl

/-- The slice v reads as the prefixes l. -/
abbrev RdP (w : World) (v : Value) (l : List Pfx) : Prop := Rd w v l.length 2 (pcs l)

theorem Rd.pair {w : World} {b o : Nat} {l : List Pfx} (h : ∀ j u, (pcs l)[j]? = some u → w.cell? ⟨b, o + j, none⟩ = some u) (i : Nat) (hi : i < l.length) :
    w.cell? ⟨b, o + i * 2, none⟩ = some (.int .u32 l[i].a) ∧ w.cell? ⟨b, o + i * 2 + 1, none⟩ = some (.int .i64 l[i].b) := by
  have := pcs_get l i hi
  have e : i * 2 = 2 * i := by omega
  exact ⟨by rw [e]; exact h _ _ this.1, by rw [e, Nat.add_assoc]; exact h _ _ this.2⟩

/-! ### Same -/
theorem same_any (va vb : Value) (ps qs : List Pfx) (w : World) (ha : RdP w va ps) (hb : RdP w vb qs) (hn : ps.length ≤ 140737488355328) : Calls Try.prog 11 #[va, vb] w (Ret w (.bool (decide (ps = qs)))) := by
  obtain ⟨ao, ca, rfl, -, hca⟩ := ha
  obtain ⟨bo, cb, rfl, -, hcb⟩ := hb
  by_cases hl : ps.length = qs.length
  · go_enter Try.func11, Try.ntmps11
    go_wp2_with fail
    go_loopw [5] (fun i wr => ∃ k : Nat, i = .int .i64 k ∧ k ≤ ps.length ∧ ps.take k = qs.take k ∧ Below w.heap.size w wr) (fun i _ => ps.length - (intOf i).toNat)
    case atStart => exact ⟨0, rfl, Nat.zero_le _, by simp, Below.refl _ _⟩
    case round =>
      obtain ⟨k, rfl, hk, ht, hbl⟩ := hrel
      rcases Nat.lt_or_ge k ps.length with hlt | hge
      · obtain ⟨b1, o1, rfl, h1⟩ := hca (by omega)
        obtain ⟨b2, o2, rfl, h2⟩ := hcb (by omega)
        have P1 := Rd.pair h1 k (by omega)
        have P2 := Rd.pair h2 k (by omega)
        have hs1 := List.take_succ_eq_append_getElem (l := ps) (i := k) (by omega)
        have hs2 := List.take_succ_eq_append_getElem (l := qs) (i := k) (by omega)
        have hne : ps[k] ≠ qs[k] → ps ≠ qs := by rintro hne rfl; exact hne rfl
        obtain ⟨⟨a, b⟩, hx⟩ : ∃ x, ps[k] = x := ⟨_, rfl⟩
        obtain ⟨⟨c, d⟩, hy⟩ : ∃ x, qs[k] = x := ⟨_, rfl⟩
        rw [hx] at P1 hs1 hne
        rw [hy] at P2 hs2 hne
        have c1 := kc hbl P1.1
        have c2 := kc hbl P1.2
        have c3 := kc hbl P2.1
        have c4 := kc hbl P2.2
        have H := Lib.hid (And.intro hne (And.intro hs1 (And.intro hs2 (And.intro ht hbl))))
        clear P1 P2 hne hs1 hs2 ht hbl hx hy
        dsimp only at *
        by_cases hac : a = c
        · subst hac
          by_cases hbd : b = d
          · subst hbd
            go_wp2_with fail
            go_quiet (fail)
            go_wp2_with fail
            obtain ⟨-, hs1, hs2, ht, hbl⟩ := H.out
            go_roundw
            case rel => exact ⟨k + 1, by go_num, by omega, by rw [hs1, hs2, ht], below_drewN hbl _⟩
            case measure => simp [intOf]; omega
          · have hbd' : (b != d) = true := by simpa using hbd
            go_wp2_with fail
            go_quiet (fail)
            go_wp2_with fail
            obtain ⟨hne, -, -, -, hbl⟩ := H.out
            go_ret
            exact ⟨ret_bool (decide_eq_false (hne (by simpa using hbd))).symm, below_drewN hbl _⟩
        · have hac' : (a != c) = true := by simpa using hac
          go_wp2_with fail
          go_quiet (fail)
          go_wp2_with fail
          obtain ⟨hne, -, -, -, hbl⟩ := H.out
          go_ret
          exact ⟨ret_bool (decide_eq_false (hne (by simp [hac]))).symm, below_drewN hbl _⟩
      · go_wp2_with fail
        have hkk : k = ps.length := by omega
        go_ret
        refine ⟨ret_bool (decide_eq_true ?_).symm, hbl⟩
        rw [hkk, List.take_length, hl, List.take_length] at ht
        exact ht
  · go_enter Try.func11, Try.ntmps11
    go_wp2_with fail
    go_ret
    refine ⟨ret_bool (decide_eq_false ?_).symm, Below.refl _ _⟩
    rintro rfl; exact hl rfl
end Go.Proofs.Ytaecjmjdhbjbkaa

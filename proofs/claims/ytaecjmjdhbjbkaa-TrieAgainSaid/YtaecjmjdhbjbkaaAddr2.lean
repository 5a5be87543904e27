/-
  Plain arithmetic of addresses, more: the longest common beginning of two prefixes.
-/
import Derived.Test.YtaecjmjdhbjbkaaAddr
import Derived.Lib.BitFns
namespace Go.Proofs.Ytaecjmjdhbjbkaa
set_option linter.unusedVariables false

/-- The most bits, at most n, in which two addresses are the same. -/
def cb : Nat → Int → Int → Nat
  | 0, _, _ => 0
  | n + 1, x, y => if x / sz (n + 1 : Nat) = y / sz (n + 1 : Nat) then n + 1 else cb n x y
/-- Common of two prefixes that may be. -/
def commonP (p q : Pfx) : Pfx := sub p.a (cb (min p.b q.b).toNat p.a q.a)

theorem cb_le (n : Nat) (x y : Int) : cb n x y ≤ n := by
  induction n with
  | zero => simp [cb]
  | succ n ih => unfold cb; split <;> omega
theorem div_up (m n : Nat) (h : m ≤ n) (hn : n ≤ 32) (x y : Int) (he : x / sz n = y / sz n) : x / sz m = y / sz m := by
  have h1 := sz_add m (n - m) (by omega)
  rw [show ((m : Int) + ((n - m : Nat) : Int)) = (n : Int) by omega] at h1
  rw [h1, Int.mul_comm, ← Int.ediv_ediv_of_nonneg (Int.le_of_lt (sz_pos n)), ← Int.ediv_ediv_of_nonneg (Int.le_of_lt (sz_pos n)), he]
theorem cb_same (n : Nat) (hn : n ≤ 32) (x y : Int) (hx : 0 ≤ x ∧ x < 4294967296) (hy : 0 ≤ y ∧ y < 4294967296) : x / sz (cb n x y) = y / sz (cb n x y) := by
  induction n with
  | zero =>
    unfold cb
    rw [show ((0 : Nat) : Int) = 0 from rfl, sz_0, Int.ediv_eq_zero_of_lt hx.1 hx.2, Int.ediv_eq_zero_of_lt hy.1 hy.2]
  | succ n ih =>
    unfold cb
    split
    · rename_i h; exact h
    · exact ih (by omega)
theorem cb_most (n : Nat) (hn : n ≤ 32) (x y : Int) (m : Nat) (hm : m ≤ n) (he : x / sz m = y / sz m) : m ≤ cb n x y := by
  induction n with
  | zero => omega
  | succ n ih =>
    unfold cb
    split
    · exact hm
    · rename_i h
      rcases Nat.lt_or_ge n m with h1 | h1
      · have : m = n + 1 := by omega
        subst this
        exact absurd he h
      · exact ih (by omega) h1
/-- What determines it. -/
theorem cb_eq (n : Nat) (hn : n ≤ 32) (x y : Int) (hx : 0 ≤ x ∧ x < 4294967296) (hy : 0 ≤ y ∧ y < 4294967296) (m : Nat) (h1 : m ≤ n) (h2 : x / sz m = y / sz m) (h3 : m < n → x / sz (m + 1 : Nat) ≠ y / sz (m + 1 : Nat)) : cb n x y = m := by
  have h4 := cb_most n hn x y m h1 h2
  have h5 := cb_le n x y
  rcases Nat.lt_or_ge m (cb n x y) with h | h
  · exact absurd (div_up (m + 1) (cb n x y) h (by omega) x y (cb_same n hn x y hx hy)) (h3 (by omega))
  · omega

theorem bitLen_le_iff (x k : Nat) (hx : x < 2 ^ 64) (hk : k ≤ 64) : Lib.bitLen x ≤ k ↔ x < 2 ^ k := by
  induction k generalizing x with
  | zero =>
    constructor
    · intro h
      rcases Nat.eq_zero_or_pos x with h0 | h0
      · subst h0; decide
      · rw [Lib.bitLen_half x (by omega) hx] at h; omega
    · intro h
      have : x = 0 := by omega
      subst this; decide
  | succ k ih =>
    rcases Nat.eq_zero_or_pos x with h0 | h0
    · subst h0
      constructor
      · intro _; exact Nat.two_pow_pos _
      · intro _
        have : Lib.bitLen 0 = 0 := by decide
        omega
    · rw [Lib.bitLen_half x (by omega) hx]
      have h1 := ih (x / 2) (by omega) (by omega)
      have e : 2 ^ (k + 1) = 2 * 2 ^ k := by rw [Nat.pow_succ, Nat.mul_comm]
      constructor
      · intro h
        have := h1.1 (by omega)
        rw [e]; omega
      · intro h
        have := h1.2 (by rw [e] at h; omega)
        omega
theorem xor_lt_iff (x y k : Nat) : x ^^^ y < 2 ^ k ↔ x / 2 ^ k = y / 2 ^ k := by
  constructor
  · intro h
    have h1 : (x ^^^ y) >>> k = 0 := by rw [Nat.shiftRight_eq_div_pow]; exact Nat.div_eq_of_lt h
    rw [Nat.shiftRight_xor_distrib, Nat.shiftRight_eq_div_pow, Nat.shiftRight_eq_div_pow] at h1
    apply Nat.eq_of_testBit_eq
    intro i
    have h2 := congrArg (fun n => n.testBit i) h1
    simp only [Nat.testBit_xor, Nat.zero_testBit] at h2
    revert h2
    cases (x / 2 ^ k).testBit i <;> cases (y / 2 ^ k).testBit i <;> simp
  · intro h
    have h1 : (x ^^^ y) >>> k = 0 := by
      rw [Nat.shiftRight_xor_distrib, Nat.shiftRight_eq_div_pow, Nat.shiftRight_eq_div_pow, h, Nat.xor_self]
    rw [Nat.shiftRight_eq_div_pow] at h1
    rcases Nat.lt_or_ge (x ^^^ y) (2 ^ k) with h2 | h2
    · exact h2
    · have := (Nat.one_le_div_iff (Nat.two_pow_pos k)).2 h2
      omega
/-- The leading zeros of the difference tell it. -/
theorem cb_lz (n : Nat) (hn : n ≤ 32) (x y : Nat) (hx : x < 4294967296) (hy : y < 4294967296) : cb n (x : Int) (y : Int) = min n (32 - Lib.bitLen (x ^^^ y)) := by
  have hxor : x ^^^ y < 2 ^ 32 := Nat.xor_lt_two_pow (by omega) (by omega)
  have key : ∀ m : Nat, m ≤ 32 → ((x : Int) / sz m = (y : Int) / sz m ↔ Lib.bitLen (x ^^^ y) ≤ 32 - m) := by
    intro m hm
    rw [bitLen_le_iff _ _ (Nat.lt_trans hxor (by decide)) (by omega), xor_lt_iff]
    rw [sz_nat, show ((32 : Int) - (m : Int)).toNat = 32 - m by omega, ← Int.natCast_ediv, ← Int.natCast_ediv]
    omega
  have h32 : Lib.bitLen (x ^^^ y) ≤ 32 := (bitLen_le_iff _ 32 (Nat.lt_trans hxor (by decide)) (by omega)).2 hxor
  refine cb_eq n hn _ _ (by omega) (by omega) _ (Nat.min_le_left _ _) ((key _ (by omega)).2 (by omega)) ?_
  intro h
  rw [Ne, key _ (by omega)]
  omega
end Go.Proofs.Ytaecjmjdhbjbkaa

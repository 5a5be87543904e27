/-
 Texts of a proof, one behind the other (part 17).
-/
import Derived.Test.YtmmdkjanmegjdaaGreatRv4
import Derived.Test.YtmmdkjanmegjdaaGreatRv15
set_option linter.unusedSimpArgs false
set_option linter.unusedVariables false
namespace Go.Proofs.YtmmdkjanmegjdaaGreat.Ab
set_option maxRecDepth 100000
open Go.RowKit Go.Lib Go.Sort
attribute [local irreducible] AWp AOps AQ AYield AEff ACall AWk AAny AAt AThen AIn APost NoPanic
theorem zoF (n : Nat) (hn : n < 4611686018427387904) : ACall Tryz.prog 115 [natA n] [] (Just (u64A (1 <<< bitsLen n))) :=
 zbo (by kernel_rfl) rfl rfl rfl fun w => (AnyF.nextPowerOfTwo Tryz.laysPow n hn w).mono fun _ _ ⟨h1, h2⟩ => ⟨h1, by subst h2; exact Below.refl _ _⟩
def brk (a l m i0 : Nat) (d : Array Int) : Nat → UInt64 × Array Int
 | 0 => (UInt64.ofNat l, d)
 | k + 1 => breakStep a l m (brk a l m i0 d k) (i0 + k)
theorem zlS (a l m i0 : Nat) (d : Array Int) (k : Nat) : (brk a l m i0 d k).2.size = d.size := by
 induction k with
 | zero => rfl
 | succ k ih => rw [brk, breakStep]; (try dsimp only); rw [size_swp, ih]
set_option maxHeartbeats 16000000 in
theorem zlT (d : Array Int) (a b : Nat) (hn : d.size ≤ 1000000000) (hb : b ≤ d.size) (hl : 12 < b - a) : ACall Tryz.prog 150 [.row 1000, natA a, natA b] [(1000, uR d)] (fun c h => c = .tup [] ∧ h = [(1000, uR (breakPatterns d a b))]) := by
 obtain ⟨l, hle⟩ : ∃ l, b - a = l := ⟨_, rfl⟩
 obtain ⟨m, hm⟩ : ∃ m, 1 <<< bitsLen l = m := ⟨_, rfl⟩
 obtain ⟨i0, hi0⟩ : ∃ i0, a + l / 4 * 2 - 1 = i0 := ⟨_, rfl⟩
 have hml : m ≤ 2 * l := by rw [← hm, Nat.one_shiftLeft]; exact two_pow_bitsLen_le (by omega)
 have hm1 : 0 < m := by rw [← hm, Nat.one_shiftLeft]; exact Nat.pow_pos (by decide)
 have hbk : breakPatterns d a b = (brk a l m i0 d 3).2 := by
  unfold breakPatterns
  simp only [hle]
  rw [if_pos (show l ≥ 8 by omega), hm, hi0]
  rfl
 have cp := zoF l (by omega)
 rw [hm] at cp
 have w64 : IntKind.u64.wrap (l : Int) = (l : Int) := by rw [IntKind.wrap_u64]; omega
 rw [hbk]
 refine zf za Tryz.func150 rfl Tryz.ntmps150 (congrArg Array.toList Tryz.results150) (by kernel_rfl) rfl ?_
 repeat ((fail_if_success refine zb ?_); first | refine q_Y ?_ | ((first | apply q_K rfl | apply q_X rfl); (first | exact q_D | exact q_19 | exact q_E)) | refine q_T ?_)
 refine zB (zm (e1 := [(0, .row 1000), (1, natA a), (6, natA l), (16, natA l)]) (h1 := [(1000, uR d)]) ⟨rfl, rfl, by rw [← hle]; rfl, by rw [← hle]; rfl, trivial⟩ ⟨rfl, trivial⟩) ?_
 apply O_y rfl rfl rfl
 exact zcK za rfl rfl rfl rfl rfl w64
 refine q_a ?_
 refine q_b ?_
 repeat ((fail_if_success refine zb ?_); first | refine q_Y ?_ | ((first | apply q_K rfl | apply q_X rfl); (first | exact q_D | exact q_19 | exact q_E)) | refine q_T ?_ | refine q_O cp ?_)
 refine zw (fun k : Nat => [(0, .row 1000), (1, natA a), (6, natA l), (7, .ptr 7 0), (8, u64A m), (9, natA (i0 + k))]) (fun k => [(1000, uR (brk a l m i0 d k).2), (7, .var [u64A (brk a l m i0 d k).1.toNat])]) (fun k => k ≤ 3) (fun k => 3 - k) 0 (by omega) (zm ⟨rfl, rfl, rfl, rfl, rfl, by rw [← hi0]; rfl, trivial⟩ ⟨rfl, by rw [brk, show (UInt64.ofNat l).toNat = l from by rw [UInt64.toNat_ofNat']; omega]; rfl, trivial⟩) ?_
 intro k hk
 have hsz := zlS a l m i0 d k
 by_cases hk3 : k < 3
 ·have hst : brk a l m i0 d (k + 1) = breakStep a l m (brk a l m i0 d k) (i0 + k) := rfl
  generalize hs : brk a l m i0 d k = st at hst hsz
  obtain ⟨r, d1⟩ := st
  try dsimp only at hst hsz ⊢
  have hr : r.toNat < 18446744073709551616 := r.toNat_lt
  have cn := zm5 r.toNat hr
  have hx := xorNextN_lt r.toNat hr
  have hxe := xorNext_toNat r
  obtain ⟨X, hX⟩ : ∃ X, xorNextN r.toNat = X := ⟨_, rfl⟩
  rw [hX] at cn hx hxe
  have hand : X &&& (m - 1) ≤ m - 1 := Nat.and_le_right
  obtain ⟨ot, hot⟩ : ∃ ot, X &&& (m - 1) = ot := ⟨_, rfl⟩
  have wot : IntKind.i64.wrap (ot : Int) = (ot : Int) := zaL ⟨by omega, by omega⟩
  have hstep : brk a l m i0 d (k + 1) = (xorNext r, swp d1 (i0 + k) (a + if ot ≥ l then ot - l else ot)) := by
   rw [hst, breakStep]
   simp only [hxe, hot]
  repeat ((fail_if_success refine zb ?_); first | refine q_Y ?_ | ((first | apply q_K rfl | apply q_X rfl); (first | exact q_D | exact q_19 | exact q_E)) | refine q_T ?_)
  refine O_cV 7 cn rfl rfl rfl rfl rfl rfl rfl rfl ?_
  apply O_y rfl rfl rfl
  exact q_1
  apply O_y rfl rfl rfl
  exact zpb 1 rfl rfl rfl rfl (by omega) (by omega)
  apply O_y rfl rfl rfl
  exact zpj rfl rfl rfl hx (by omega)
  rw [hot]
  apply O_y rfl rfl rfl
  exact zcK za rfl rfl rfl rfl rfl wot
  have h1 : i0 + k < d1.size := by omega
  by_cases hge : ot ≥ l
  ·rw [if_pos hge] at hstep
   have h2 : a + (ot - l) < d1.size := by omega
   repeat ((fail_if_success refine zb ?_); first | refine q_Y ?_ | ((first | apply q_K rfl | apply q_X rfl); (first | exact q_D | exact q_19 | exact q_E)) | refine q_T ?_)
   refine zA [1000] mixed ?_
   apply q_P 0 rfl (by kernel_rfl) rfl rfl rfl
   exact q_1
   apply q_P 1 rfl (by kernel_rfl) rfl rfl rfl
   exact q_1
   apply q_P 2 rfl (by kernel_rfl) rfl rfl rfl
   exact q_1
   apply q_P 3 rfl (by kernel_rfl) rfl rfl rfl
   exact q_1
   apply q_P 4 rfl (by kernel_rfl) rfl rfl rfl
   exact q_1
   apply q_P 5 rfl (by kernel_rfl) rfl rfl rfl
   first | exact zaD rfl rfl rfl | exact q_9
   apply q_P 6 rfl (by kernel_rfl) rfl rfl rfl
   exact q_1
   apply q_P 7 rfl (by kernel_rfl) rfl rfl rfl
   exact q_1
   apply q_P 8 rfl (by kernel_rfl) rfl rfl rfl
   exact q_1
   apply q_P 9 rfl (by kernel_rfl) rfl rfl rfl
   first | exact zaD rfl rfl rfl | exact q_9
   apply q_P 10 rfl (by kernel_rfl) rfl rfl rfl
   exact zi za rfl rfl rfl rfl rfl rfl rfl (by first | omega | (simp only [size_swp]; omega))
   apply q_P 12 rfl (by kernel_rfl) rfl rfl rfl
   exact q_1
   apply q_P 13 rfl (by kernel_rfl) rfl rfl rfl
   exact q_1
   apply q_P 14 rfl (by kernel_rfl) rfl rfl rfl
   exact zi za rfl rfl rfl rfl rfl rfl rfl (by first | omega | (simp only [size_swp]; omega))
   refine zaV (j := 11) (k := 15) (l2 := #[true, true, true, true, true, true, true, true, true, true, true, true, true, true, true, true, false, false, false, false]) (by kernel_rfl) (by kernel_rfl) (by kernel_rfl) (by kernel_rfl) (by kernel_rfl) rfl rfl rfl rfl rfl rfl rfl rfl rfl rfl rfl (zg (T := []) za rfl rfl rfl rfl rfl rfl (zp (by omega)) rfl rfl) (zg (T := []) za rfl rfl rfl rfl rfl rfl (zp (by omega)) rfl rfl) (zg (T := []) za rfl rfl rfl rfl rfl rfl (zp (by omega)) rfl rfl) (zg (T := []) za rfl rfl rfl rfl rfl rfl (zp (by omega)) rfl rfl) ?_
   apply q_P 16 rfl (by kernel_rfl) rfl rfl rfl
   exact zi za rfl rfl rfl rfl rfl rfl rfl (by first | omega | (simp only [size_swp]; omega))
   refine zd (j := 17) (by kernel_rfl) ?_
   refine zC za rfl rfl rfl rfl rfl rfl rfl rfl rfl rfl rfl rfl (by first | (simp only [zD]; omega) | (simp only [zag, zD, setW, List.length_append, List.length_take, List.length_drop, List.length_cons, List.length_nil]; omega)) (by omega) ?_
   apply q_P 18 rfl (by kernel_rfl) rfl rfl rfl
   exact zi za rfl rfl rfl rfl rfl rfl rfl (by first | omega | (simp only [size_swp]; omega))
   refine zd (j := 19) (by kernel_rfl) ?_
   refine zC za rfl rfl rfl rfl rfl rfl rfl rfl rfl rfl rfl rfl (by first | (simp only [zD]; omega) | (simp only [zag, zD, setW, List.length_append, List.length_take, List.length_drop, List.length_cons, List.length_nil]; omega)) (by omega) ?_
   refine zz (by kernel_rfl) ?_
   repeat ((fail_if_success refine zb ?_); first | refine q_Y ?_ | ((first | apply q_K rfl | apply q_X rfl); (first | exact q_D | exact q_19 | exact q_E)) | refine q_T ?_)
   exact ⟨k + 1, by (try dsimp only); omega, by (try dsimp only); omega, zm ⟨rfl, rfl, rfl, rfl, rfl, rfl, trivial⟩ ⟨by rw [hstep]; exact zaR h1 h2 rfl, by rw [hstep, ← hxe]; rfl, trivial⟩⟩
  ·rw [if_neg hge] at hstep
   have h2 : a + ot < d1.size := by omega
   repeat ((fail_if_success refine zb ?_); first | refine q_Y ?_ | ((first | apply q_K rfl | apply q_X rfl); (first | exact q_D | exact q_19 | exact q_E)) | refine q_T ?_)
   refine zA [1000] mixed ?_
   apply q_P 0 rfl (by kernel_rfl) rfl rfl rfl
   exact q_1
   apply q_P 1 rfl (by kernel_rfl) rfl rfl rfl
   exact q_1
   apply q_P 2 rfl (by kernel_rfl) rfl rfl rfl
   exact q_1
   apply q_P 3 rfl (by kernel_rfl) rfl rfl rfl
   exact q_1
   apply q_P 4 rfl (by kernel_rfl) rfl rfl rfl
   exact q_1
   apply q_P 5 rfl (by kernel_rfl) rfl rfl rfl
   first | exact zaD rfl rfl rfl | exact q_9
   apply q_P 6 rfl (by kernel_rfl) rfl rfl rfl
   exact q_1
   apply q_P 7 rfl (by kernel_rfl) rfl rfl rfl
   exact q_1
   apply q_P 8 rfl (by kernel_rfl) rfl rfl rfl
   exact q_1
   apply q_P 9 rfl (by kernel_rfl) rfl rfl rfl
   first | exact zaD rfl rfl rfl | exact q_9
   apply q_P 10 rfl (by kernel_rfl) rfl rfl rfl
   exact zi za rfl rfl rfl rfl rfl rfl rfl (by first | omega | (simp only [size_swp]; omega))
   apply q_P 12 rfl (by kernel_rfl) rfl rfl rfl
   exact q_1
   apply q_P 13 rfl (by kernel_rfl) rfl rfl rfl
   exact q_1
   apply q_P 14 rfl (by kernel_rfl) rfl rfl rfl
   exact zi za rfl rfl rfl rfl rfl rfl rfl (by first | omega | (simp only [size_swp]; omega))
   refine zaV (j := 11) (k := 15) (l2 := #[true, true, true, true, true, true, true, true, true, true, true, true, true, true, true, true, false, false, false, false]) (by kernel_rfl) (by kernel_rfl) (by kernel_rfl) (by kernel_rfl) (by kernel_rfl) rfl rfl rfl rfl rfl rfl rfl rfl rfl rfl rfl (zg (T := []) za rfl rfl rfl rfl rfl rfl (zp (by omega)) rfl rfl) (zg (T := []) za rfl rfl rfl rfl rfl rfl (zp (by omega)) rfl rfl) (zg (T := []) za rfl rfl rfl rfl rfl rfl (zp (by omega)) rfl rfl) (zg (T := []) za rfl rfl rfl rfl rfl rfl (zp (by omega)) rfl rfl) ?_
   apply q_P 16 rfl (by kernel_rfl) rfl rfl rfl
   exact zi za rfl rfl rfl rfl rfl rfl rfl (by first | omega | (simp only [size_swp]; omega))
   refine zd (j := 17) (by kernel_rfl) ?_
   refine zC za rfl rfl rfl rfl rfl rfl rfl rfl rfl rfl rfl rfl (by first | (simp only [zD]; omega) | (simp only [zag, zD, setW, List.length_append, List.length_take, List.length_drop, List.length_cons, List.length_nil]; omega)) (by omega) ?_
   apply q_P 18 rfl (by kernel_rfl) rfl rfl rfl
   exact zi za rfl rfl rfl rfl rfl rfl rfl (by first | omega | (simp only [size_swp]; omega))
   refine zd (j := 19) (by kernel_rfl) ?_
   refine zC za rfl rfl rfl rfl rfl rfl rfl rfl rfl rfl rfl rfl (by first | (simp only [zD]; omega) | (simp only [zag, zD, setW, List.length_append, List.length_take, List.length_drop, List.length_cons, List.length_nil]; omega)) (by omega) ?_
   refine zz (by kernel_rfl) ?_
   repeat ((fail_if_success refine zb ?_); first | refine q_Y ?_ | ((first | apply q_K rfl | apply q_X rfl); (first | exact q_D | exact q_19 | exact q_E)) | refine q_T ?_)
   exact ⟨k + 1, by (try dsimp only); omega, by (try dsimp only); omega, zm ⟨rfl, rfl, rfl, rfl, rfl, rfl, trivial⟩ ⟨by rw [hstep]; exact zaR h1 h2 rfl, by rw [hstep, ← hxe]; rfl, trivial⟩⟩
 ·have : k = 3 := by omega
  subst this
  repeat ((fail_if_success refine zb ?_); first | refine q_Y ?_ | ((first | apply q_K rfl | apply q_X rfl); (first | exact q_D | exact q_19 | exact q_E)) | refine q_T ?_)
  exact zdd AWk.refl rfl (h2 := [(1000, uR (brk a l m i0 d 3).2)]) ⟨rfl, trivial⟩ ⟨rfl, rfl⟩
end Go.Proofs.YtmmdkjanmegjdaaGreat.Ab

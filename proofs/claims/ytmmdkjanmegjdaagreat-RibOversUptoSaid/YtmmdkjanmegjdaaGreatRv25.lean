/-
 Texts of a proof, one behind the other (part 26).
-/
import Derived.Test.YtmmdkjanmegjdaaGreatRv4
import Derived.Test.YtmmdkjanmegjdaaGreatRv9
import Derived.Test.YtmmdkjanmegjdaaGreatRv24
set_option maxRecDepth 100000
set_option linter.unusedSimpArgs false
set_option linter.unusedVariables false
namespace Go.Proofs.YtmmdkjanmegjdaaGreat.Ab
open Go.RowKit Go.Lib
attribute [local irreducible] AWp AOps AQ AYield AEff ACall AWk AAny AAt AThen AIn APost NoPanic
set_option maxHeartbeats 64000000 in
theorem zkL (d : Dvc) (p : Pol) (s0 : Sbj) (hd : OkD d) (hn : p.cs.length ≤ 1000000) (hs : OkR s0 p.cs) {ok : Bool} {b : Int} {ms : List (Nat × Sbj)} (hr : runP d p s0 = (ok, b, ms)) :
  ACall Tryz.prog 40 [dvcA d, aggD (polD p), aggD (sbjD s0), .fn 41 [.ptr 1000 0]] (([(1000, lastB s0 [])])) (fun c h => c = .tup [boolA ok, .d (.sc (.int .i64 b))] ∧ h = ([(1000, lastB s0 ms)])) := by
 obtain ⟨nm, cs, dft⟩ := p
 try dsimp only at hn hs hr
 unfold runP at hr
 try dsimp only at hr
 refine zf za Tryz.func40 rfl Tryz.ntmps40 (congrArg Array.toList Tryz.results40) (by kernel_rfl) rfl ?_
 refine z7 ?_
 refine zab ?_
 refine q_d ?_
 refine q_d ?_
 refine q_d ?_
 refine zB (zG (id := 4) (ds := dvcD d) rfl rfl) ?_
 refine zB (zG (id := 5) (ds := polD ⟨nm, cs, dft⟩) rfl rfl) ?_
 repeat ((fail_if_success refine zb ?_); (fail_if_success refine zL ?_); first | refine q_Y ?_ | ((first | apply q_K rfl | apply q_X rfl); (exact q_G)) | refine q_U ?_ | first | (refine zn2 ?_) | (refine zn0 zm4 ?_))
 refine zS ?_
 refine zw (fun x : Nat × Nat × Int × Sbj × List (Nat × Sbj) => [(3, .fn 41 [.ptr 1000 0]), (4, .iptr (dvcD d) 0), (5, .iptr (polD ⟨nm, cs, dft⟩) 0), (6, .ptr 6 0), (10, .d (.sc (.int .i64 x.2.2.1))), (11, natA x.2.1), (15, .d (.sl (cs.flatMap clsD) cs.length)), (16, natA cs.length), (17, natA x.1)])
  (fun x => (6, .var ((sbjD x.2.2.2.1).map .d)) :: ([(1000, lastB s0 x.2.2.2.2)]))
  (fun x => runL d cs dft (cs.drop x.1) x.1 x.2.1 x.2.2.1 x.2.2.2.1 x.2.2.2.2 = (ok, b, ms) ∧ x.1 ≤ cs.length ∧ x.2.1 ≤ cs.length ∧ OkR x.2.2.2.1 (cs.drop x.1) ∧ x.2.2.2.2.length ≤ x.1) (fun x => cs.length - x.1)
  (0, 0, -1, s0, []) ⟨hr, Nat.zero_le _, Nat.zero_le _, hs, Nat.le_refl _⟩ (q_S) ?_
 clear hr hs
 rintro ⟨i, fr, bb, s, m⟩ ⟨hr, hi, hfr, hok, hml⟩
 try dsimp only at hr hi hfr hok hml ⊢
 by_cases hil : i < cs.length
 ·rw [List.drop_eq_getElem_cons hil] at hr hok
  have hw := zn zdG cs i 15 hil (by decide)
  obtain ⟨c, hc⟩ : ∃ c, cs[i] = c := ⟨_, rfl⟩
  rw [hc] at hr hok hw
  rw [runL] at hr
  have hwP := hok.wp
  have hwC := hok.wc
  rw [zdg] at hwP
  rw [zdh] at hwC
  by_cases hf : i < fr
  ·rw [if_pos hf] at hr
   repeat ((fail_if_success refine zb ?_); (fail_if_success refine zL ?_); first | refine q_Y ?_ | ((first | apply q_K rfl | apply q_X rfl); (first | exact q_F | (first | exact q_A | exact q_R (w := hw) | exact q_B))) | refine q_U ?_)
   exact ⟨(i + 1, fr, bb, s, m), ⟨hr, hil, hfr, hok.skip, by (try dsimp only); omega⟩, by (try dsimp only); omega, q_S⟩
  rw [if_neg hf] at hr
  have hfit := zoY d c s hd hok.s
  cases hb : fitsC d c s
  ·rw [hb] at hfit hr
   rw [if_pos rfl] at hr
   repeat ((fail_if_success refine zb ?_); (fail_if_success refine zL ?_); first | refine q_Y ?_ | ((first | apply q_K rfl | apply q_X rfl); (first | exact q_F | (first | exact q_A | exact q_R (w := (by first | exact hw | rfl)) | exact q_B))) | refine q_U ?_ | refine q_O hfit ?_)
   exact ⟨(i + 1, fr, bb, s, m), ⟨hr, hil, hfr, hok.skip, by (try dsimp only); omega⟩, by (try dsimp only); omega, q_S⟩
  rw [hb] at hfit hr
  rw [if_neg (by decide)] at hr
  by_cases h0 : c.act = 0
  ·rw [if_pos h0] at hr
   have hcall := zhp s0 m i s
   repeat ((fail_if_success refine zb ?_); (fail_if_success refine zL ?_); first | refine q_Y ?_ | ((first | apply q_K rfl | apply q_X rfl); (first | exact q_F | (first | exact q_A | exact q_R (w := (by first | exact hw | rfl)) | exact q_B))) | refine q_U ?_ | first | refine q_O hfit ?_ | (refine zi6 [(1000, 1000)] (fun p p' i h1 h2 => by rw [(zK h1).1, (zK h2).1]) (fun p i h1 => by rw [(zK h1).1]; exact ⟨Nat.le_refl _, rfl, rfl⟩) hcall (List.all_eq_true.1 (show List.all _ _ = true from rfl)) ⟨⟨1000, _, rfl, rfl, rfl, fun c hc => by obtain ⟨x, _, rfl⟩ := List.mem_map.1 hc; rfl⟩, trivial⟩ rfl rfl rfl rfl rfl rfl rfl rfl ?_))
   cases hr
   exact zo AWk.refl rfl (h2 := ([(1000, lastB s0 (m ++ [(i, s)]))])) ⟨rfl, trivial⟩ ⟨rfl, rfl⟩
  rw [if_neg h0] at hr
  have hset := zpx c s (by omega) (by omega)
  have hok2 := hok.set
  obtain ⟨t, ht⟩ : ∃ t, setC c s = t := ⟨_, rfl⟩
  rw [ht] at hset hok2 hr
  have hcall := zhp s0 m i t
  by_cases h1 : c.act = 1
  ·rw [if_pos h1] at hr
   by_cases hj : c.jump = 0
   ·rw [if_pos hj] at hr
    repeat (first | refine q_Y ?_ | ((first | apply q_K rfl | apply q_X rfl); (first | exact q_A | exact q_R (w := (by first | exact hw | rfl)) | exact q_B)) | refine q_U ?_ | first | refine q_O hfit ?_ | refine q_O hset ?_ | (refine zi6 [(1000, 1000)] (fun p p' i h1 h2 => by rw [(zK h1).1, (zK h2).1]) (fun p i h1 => by rw [(zK h1).1]; exact ⟨Nat.le_refl _, rfl, rfl⟩) hcall (List.all_eq_true.1 (show List.all _ _ = true from rfl)) ⟨⟨1000, _, rfl, rfl, rfl, fun c hc => by obtain ⟨x, _, rfl⟩ := List.mem_map.1 hc; rfl⟩, trivial⟩ rfl rfl rfl rfl rfl rfl rfl rfl ?_))
    cases hr
    exact zo AWk.refl rfl (h2 := ([(1000, lastB s0 (m ++ [(i, t)]))])) ⟨rfl, trivial⟩ ⟨rfl, rfl⟩
   ·rw [if_neg hj] at hr
    repeat (first | refine q_Y ?_ | ((first | apply q_K rfl | apply q_X rfl); (first | exact q_A | exact q_R (w := (by first | exact hw | rfl)) | exact q_B)) | refine q_U ?_ | first | refine q_O hfit ?_ | refine q_O hset ?_ | (refine zi6 [(1000, 1000)] (fun p p' i h1 h2 => by rw [(zK h1).1, (zK h2).1]) (fun p i h1 => by rw [(zK h1).1]; exact ⟨Nat.le_refl _, rfl, rfl⟩) hcall (List.all_eq_true.1 (show List.all _ _ = true from rfl)) ⟨⟨1000, _, rfl, rfl, rfl, fun c hc => by obtain ⟨x, _, rfl⟩ := List.mem_map.1 hc; rfl⟩, trivial⟩ rfl rfl rfl rfl rfl rfl rfl rfl ?_))
    refine zw (fun k : Nat => [(3, .fn 41 [.ptr 1000 0]), (4, .iptr (dvcD d) 0), (5, .iptr (polD ⟨nm, cs, dft⟩) 0), (6, .ptr 6 0), (10, natA i), (11, natA k), (13, .ptr 13 0), (15, .d (.sl (cs.flatMap clsD) cs.length)), (16, natA cs.length), (17, natA i)])
     (fun _ => (13, .var ((clsD c).map .d)) :: (6, .var ((sbjD t).map .d)) :: ([(1000, lastB s0 (m ++ [(i, t)]))])) (fun k => skipJ cs c.jump k = skipJ cs c.jump (i + 1) ∧ k ≤ cs.length) (fun k => cs.length - k) (i + 1) ⟨rfl, hil⟩ (q_S) ?_
    rintro k ⟨hk, hkl⟩
    try dsimp only
    rw [skipJ] at hk
    by_cases hkc : k < cs.length
    ·rw [dif_pos hkc] at hk
     have hw2 := zx zdG cs k 0 1 hkc (by decide)
     by_cases hsq : cs[k].seq < c.jump
     ·rw [if_pos hsq] at hk
      repeat (first | refine q_Y ?_ | ((first | apply q_K rfl | apply q_X rfl); (first | exact q_A | exact q_R (w := (by first | exact hw2 | rfl)) | exact q_B | (exact q_I k hkc))) | refine q_U ?_)
      exact ⟨k + 1, ⟨hk, hkc⟩, by (try dsimp only); omega, q_S⟩
     ·rw [if_neg hsq] at hk
      rw [← hk] at hr
      repeat (first | refine q_Y ?_ | ((first | apply q_K rfl | apply q_X rfl); (first | exact q_A | exact q_R (w := (by first | exact hw2 | rfl)) | exact q_B | (exact q_I k hkc))) | refine q_U ?_)
      exact ⟨(i + 1, k, (i : Int), t, m ++ [(i, t)]), ⟨hr, hil, hkl, hok2, by (try dsimp only); rw [List.length_append]; simp; omega⟩, by (try dsimp only); omega, q_S⟩
    ·rw [dif_neg hkc] at hk
     rw [← hk] at hr
     repeat (first | refine q_Y ?_ | ((first | apply q_K rfl | apply q_X rfl); (exact q_H)) | refine q_U ?_)
     exact ⟨(i + 1, k, (i : Int), t, m ++ [(i, t)]), ⟨hr, hil, hkl, hok2, by (try dsimp only); rw [List.length_append]; simp; omega⟩, by (try dsimp only); omega, q_S⟩
  ·rw [if_neg h1] at hr
   repeat (first | refine q_Y ?_ | ((first | apply q_K rfl | apply q_X rfl); (first | exact q_A | exact q_R (w := (by first | exact hw | rfl)) | exact q_B)) | refine q_U ?_ | first | refine q_O hfit ?_ | refine q_O hset ?_ | (refine zi6 [(1000, 1000)] (fun p p' i h1 h2 => by rw [(zK h1).1, (zK h2).1]) (fun p i h1 => by rw [(zK h1).1]; exact ⟨Nat.le_refl _, rfl, rfl⟩) hcall (List.all_eq_true.1 (show List.all _ _ = true from rfl)) ⟨⟨1000, _, rfl, rfl, rfl, fun c hc => by obtain ⟨x, _, rfl⟩ := List.mem_map.1 hc; rfl⟩, trivial⟩ rfl rfl rfl rfl rfl rfl rfl rfl ?_))
   exact ⟨(i + 1, fr, bb, t, m ++ [(i, t)]), ⟨hr, hil, hfr, hok2, by (try dsimp only); rw [List.length_append]; simp; omega⟩, by (try dsimp only); omega, q_S⟩
 ·rw [List.drop_of_length_le (by omega), runL] at hr
  by_cases hbb : 0 ≤ bb
  ·rw [decide_eq_true hbb, Bool.true_or] at hr
   cases hr
   repeat ((fail_if_success refine zb ?_); (fail_if_success refine zL ?_); first | refine q_Y ?_ | ((first | apply q_K rfl | apply q_X rfl); (exact q_G)) | refine q_U ?_)
   exact zo AWk.refl rfl (h2 := ([(1000, lastB s0 ms)])) ⟨rfl, trivial⟩ ⟨rfl, rfl⟩
  ·rw [decide_eq_false hbb, Bool.false_or] at hr
   cases hr
   repeat ((fail_if_success refine zb ?_); (fail_if_success refine zL ?_); first | refine q_Y ?_ | ((first | apply q_K rfl | apply q_X rfl); (exact q_G)) | refine q_U ?_)
   exact zo AWk.refl rfl (h2 := ([(1000, lastB s0 ms)])) ⟨rfl, trivial⟩ ⟨rfl, rfl⟩
end Go.Proofs.YtmmdkjanmegjdaaGreat.Ab

namespace Go.Proofs.YtmmdkjanmegjdaaGreat
open Go.RowKit Go.Lib
def zeroS : Sbj := ⟨⟨0, 0⟩, 0, 0, 0, [], [], 0⟩
def applyP (d : Dvc) (nm : List UInt8) (s : Sbj) : Sbj × Bool × Int :=
 if nm = [] then (s, true, 0) else match d.pols.find? (fun p => decide (p.nm = nm)) with
  | none => (zeroS, false, 120)
  | some p => if (runP d p s).1 then (lastS s (runP d p s).2.2, true, 0) else (zeroS, false, 0)
def runV (d : Dvc) (nm : List UInt8) (s : Sbj) : List (Nat × Sbj) × Bool × Int :=
 if nm = [] then ([], true, 0) else match d.pols.find? (fun p => decide (p.nm = nm)) with
  | none => ([], false, 120)
  | some p => ((runP d p s).2.2, (runP d p s).1, 0)
structure OkA (d : Dvc) (s : Sbj) : Prop where
 od : OkD d
 n : d.pols.length ≤ 1000000
 os : OkS s
 op : ∀ p ∈ d.pols, p.cs.length ≤ 1000000 ∧ OkR s p.cs
theorem zf2 (d : Dvc) (cs : List Cls) (dft : Bool) : ∀ (r : List Cls) (i fr : Nat) (b : Int) (s s0 : Sbj) (ms : List (Nat × Sbj)), OkR s r → OkS (lastS s0 ms) → OkS (lastS s0 (runL d cs dft r i fr b s ms).2.2) := fun r => by
 induction r with
 | nil => intro i fr b s s0 ms h h2; exact h2
 | cons c r ih =>
  intro i fr b s s0 ms h h2
  rw [runL]
  split
  ·exact ih _ _ _ _ _ _ h.skip h2
  ·split
   ·exact ih _ _ _ _ _ _ h.skip h2
   ·split
    ·show OkS (lastS s0 (ms ++ [(i, s)])); rw [zaK]; exact h.s
    ·split
     ·split
      ·show OkS (lastS s0 (ms ++ [(i, setC c s)])); rw [zaK]; exact h.set.s
      ·exact ih _ _ _ _ _ _ h.set (by rw [zaK]; exact h.set.s)
     ·exact ih _ _ _ _ _ _ h.set (by rw [zaK]; exact h.set.s)
end Go.Proofs.YtmmdkjanmegjdaaGreat

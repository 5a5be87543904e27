/-
 Texts of a proof, one behind the other (part 42).
-/
import Derived.Test.YtmmdkjanmegjdaaGreatRv4
import Derived.Test.YtmmdkjanmegjdaaGreatRv24
import Derived.Test.YtmmdkjanmegjdaaGreatRv25
import Derived.Test.YtmmdkjanmegjdaaGreatRv39
import Derived.Test.YtmmdkjanmegjdaaGreatRv40
set_option linter.unusedSimpArgs false
set_option linter.unusedVariables false
namespace Go.Proofs.YtmmdkjanmegjdaaGreat
set_option maxRecDepth 100000
open Go.RowKit Go.Lib
theorem zmJ (d : Dvc) (cs : List Cls) (dft : Bool) (b : Int) (s : Sbj) (ms : List (Nat × Sbj)) : ∀ (n i fr : Nat), fr - i = n → i ≤ fr → fr ≤ cs.length → runL d cs dft (cs.drop i) i fr b s ms = runL d cs dft (cs.drop fr) fr fr b s ms := fun n => by
  induction n with
  | zero => intro i fr h1 h2 h3; obtain rfl : i = fr := by omega
            rfl
  | succ n ih =>
    intro i fr h1 h2 h3
    rw [List.drop_eq_getElem_cons (by omega : i < cs.length), runL, if_pos (by omega)]
    exact ih (i + 1) fr (by omega) (by omega) h3
theorem OkR.drop {s : Sbj} : ∀ {n : Nat} {r : List Cls}, OkR s r → OkR s (r.drop n)
 | 0, r, h => h
 | n + 1, [], h => h
 | n + 1, c :: r, h => by rw [List.drop_succ_cons]; exact OkR.drop h.skip
theorem zjK (s : Sbj) (ms : List (Nat × Sbj)) (h : 0 < ms.length) : lastS s ms = (ms[ms.length - 1]'(by omega)).2 := by
 unfold lastS
 rw [List.getLast?_eq_getElem?, List.getElem?_eq_getElem (by omega)]
namespace Ab
abbrev rmarkB (l : List (Nat × Sbj)) : ABlk := .row 100 9 l.length (l.flatMap markD)
abbrev rmarksA (l : List (Nat × Sbj)) : AVal := .d (.sl (l.flatMap markD) l.length)
theorem zhU (x : Nat × Sbj) : (markD x).length = 9 := rfl
def rnamA (d : Dvc) (nm : List UInt8) : AVal := match d.pols.find? (fun p => decide (p.nm = nm)) with
 | some p => .tup [aggD (polD p), boolA true]
 | none => .tup [.agg [.d (sD []), .d (.sc (.slice none 0 0)), .d (bD false)], boolA false]
attribute [local irreducible] AWp AOps AQ AYield AEff ACall AWk AAny AAt AThen AIn APost NoPanic
set_option maxHeartbeats 8000000 in
theorem zgN (d : Dvc) (nm : List UInt8) (hn : d.pols.length ≤ 1000000) : ACall Tryz.prog 12 [dvcA d, .d (sD nm)] [] (Just (rnamA d nm)) := by
 unfold rnamA
 refine zf za Tryz.func12 rfl Tryz.ntmps12 (congrArg Array.toList Tryz.results12) (by kernel_rfl) rfl ?_
 refine z7 ?_
 refine zab ?_
 refine q_d ?_
 refine zB (zG (id := 2) (ds := dvcD d) rfl rfl) ?_
 repeat ((fail_if_success refine zb ?_); first | refine q_Y ?_ | ((first | apply q_K rfl | apply q_X rfl); (exact q_G)) | refine q_U ?_)
 try refine zS ?_
 refine zw (fun k : Nat => [(1, .d (sD nm)), (2, .iptr (dvcD d) 0), (4, .ptr 4 0), (6, natA k)]) (fun _ => [(4, .var [.d (sD []), .d (.sc (.slice none 0 0)), .d (bD false)])]) (fun k => k ≤ d.pols.length ∧ (d.pols.drop k).find? (fun p => decide (p.nm = nm)) = d.pols.find? (fun p => decide (p.nm = nm))) (fun k => d.pols.length - k) 0 ⟨Nat.zero_le _, rfl⟩ (q_S) ?_
 rintro k ⟨hk, ha⟩
 try dsimp only
 by_cases hkl : k < d.pols.length
 ·rw [List.drop_eq_getElem_cons hkl, List.find?_cons] at ha
  have hw0 := zx zdp d.pols k 0 1 hkl (by decide)
  have hw := zn zdp d.pols k 3 hkl (by decide)
  obtain ⟨p, hp⟩ : ∃ p, d.pols[k] = p := ⟨_, rfl⟩
  rw [hp] at ha hw0 hw
  by_cases hq : p.nm = nm
  ·rw [decide_eq_true hq] at ha
   try dsimp only at ha
   rw [← ha]
   try dsimp only
   repeat ((fail_if_success refine zb ?_); first | refine q_Y ?_ | ((first | apply q_K rfl | apply q_X rfl); (first | exact q_F | (first | exact q_A | exact q_R (w := (by first | exact hw | exact hw0 | rfl)) | exact q_B | (first | exact R_sT rfl rfl rfl rfl (decide_eq_true hq) | exact q_I k hkl)))) | refine q_U ?_)
   exact zo AWk.refl rfl (h2 := []) trivial ⟨rfl, rfl⟩
  ·rw [decide_eq_false hq] at ha
   try dsimp only at ha
   repeat ((fail_if_success refine zb ?_); first | refine q_Y ?_ | ((first | apply q_K rfl | apply q_X rfl); (first | exact q_F | (first | exact q_A | exact q_R (w := (by first | exact hw | exact hw0 | rfl)) | exact q_B | (first | exact R_sF rfl rfl rfl rfl (decide_eq_false hq) | exact q_I k hkl)))) | refine q_U ?_)
   exact ⟨k + 1, ⟨hkl, ha⟩, by omega, q_S⟩
 ·obtain rfl : k = d.pols.length := by omega
  rw [List.drop_length, List.find?_nil] at ha
  rw [← ha]
  try dsimp only
  repeat ((fail_if_success refine zb ?_); first | refine q_Y ?_ | ((first | apply q_K rfl | apply q_X rfl); (exact q_G)) | refine q_U ?_)
  exact zo AWk.refl rfl (h2 := []) trivial ⟨rfl, rfl⟩
abbrev rrE (d : Dvc) (p : Pol) (b : Int) (i : Nat) : Env := [(3, .iptr (polD p) 0), (4, .iptr (dvcD d) 0), (5, .ptr 5 0), (9, .row 9), (10, .d (.sc (.int .i64 b))), (11, natA i)]
set_option maxHeartbeats 64000000 in
theorem zon (d : Dvc) (p : Pol) (s0 : Sbj) (hd : OkD d) (hn : p.cs.length ≤ 1000000) (hs : OkR s0 p.cs) {ok : Bool} {b : Int} {ms : List (Nat × Sbj)} (hr : runP d p s0 = (ok, b, ms)) :
  ACall Tryz.prog 37 [aggD (polD p), dvcA d, aggD (sbjD s0)] [] (Just (.tup [rmarksA ms, boolA ok, .d (.sc (.int .i64 b))])) := by
 obtain ⟨nm, cs, dft⟩ := p
 try dsimp only at hn hs hr
 unfold runP at hr
 try dsimp only at hr
 have htw0 := zdl s0 hs.s.path hs.s.com
 refine zf za Tryz.func37 rfl Tryz.ntmps37 (congrArg Array.toList Tryz.results37) (by kernel_rfl) rfl ?_
 refine z7 ?_
 refine zab ?_
 refine q_d ?_
 refine q_d ?_
 refine q_d ?_
 refine zB (zG (id := 3) (ds := polD ⟨nm, cs, dft⟩) rfl rfl) ?_
 refine zB (zG (id := 4) (ds := dvcD d) rfl rfl) ?_
 repeat ((fail_if_success refine zb ?_); first | refine q_Y ?_ | ((first | apply q_K rfl | apply q_X rfl); (exact q_G)) | refine q_U ?_ | refine q_O htw0 ?_)
 refine zt (zbn 100 9 (t := 9) (id := 9) rfl rfl) ?_
 try refine zS ?_
 refine zw (fun x : Nat × Nat × Int × Sbj × List (Nat × Sbj) => rrE d ⟨nm, cs, dft⟩ x.2.2.1 x.1) (fun x => [(5, .var ((sbjD x.2.2.2.1).map .d)), (9, rmarkB x.2.2.2.2)])
  (fun x => runL d cs dft (cs.drop x.1) x.1 x.2.1 x.2.2.1 x.2.2.2.1 x.2.2.2.2 = (ok, b, ms) ∧ x.1 ≤ cs.length ∧ x.2.1 ≤ x.1 ∧ OkR x.2.2.2.1 (cs.drop x.1) ∧ x.2.2.2.2.length ≤ x.1) (fun x => cs.length - x.1)
  (0, 0, -1, s0, []) ⟨hr, Nat.zero_le _, Nat.zero_le _, hs, Nat.le_refl _⟩ (q_S) ?_
 clear hr hs htw0
 rintro ⟨i, fr, bb, s, m⟩ ⟨hr, hi, hfr, hok, hml⟩
 try dsimp only at hr hi hfr hok hml ⊢
 by_cases hil : i < cs.length
 ·rw [List.drop_eq_getElem_cons hil] at hr hok
  have hw := zn zdG cs i 15 hil (by decide)
  obtain ⟨c, hc⟩ : ∃ c, cs[i] = c := ⟨_, rfl⟩
  rw [hc] at hr hok hw
  rw [runL, if_neg (by omega)] at hr
  have hwP := hok.wp
  have hwC := hok.wc
  rw [zdg] at hwP
  rw [zdh] at hwC
  have hfit := zjo d c s hd hok.s
  have htw := zdl s hok.s.path hok.s.com
  cases hb : fitsC d c s
  ·rw [hb] at hfit hr
   rw [if_pos rfl] at hr
   repeat ((fail_if_success refine zb ?_); first | refine q_Y ?_ | ((first | apply q_K rfl | apply q_X rfl); (first | exact q_F | (first | exact q_A | exact q_R (w := (by first | exact hw | rfl)) | exact q_B | (exact q_I i hil)))) | refine q_U ?_ | refine q_O hfit ?_)
   exact ⟨(i + 1, fr, bb, s, m), ⟨hr, hil, by (try dsimp only); omega, hok.skip, by (try dsimp only); omega⟩, by (try dsimp only); omega, q_S⟩
  rw [hb] at hfit hr
  rw [if_neg (by decide)] at hr
  by_cases h0 : c.act = 0
  ·rw [if_pos h0] at hr
   repeat ((fail_if_success refine zb ?_); first | refine q_Y ?_ | ((first | apply q_K rfl | apply q_X rfl); (first | exact q_F | (first | exact q_A | exact q_R (w := (by first | exact hw | rfl)) | exact q_B | (exact q_I i hil)))) | refine q_U ?_ | (first | refine q_O hfit ?_ | refine q_O htw ?_ | (first | refine zaE za rfl rfl rfl rfl rfl rfl rfl rfl rfl rfl rfl (by first | exact Src.row rfl | exact Src.dat _ _ | exact Src.nil) rfl (by omega) ?_ | refine zaF za rfl rfl rfl rfl rfl rfl rfl rfl rfl rfl (by first | exact Src.row rfl | exact Src.dat _ _ | exact Src.nil) rfl (by omega) ?_)))
   cases hr
   exact zo ((zm (e1 := [(6, .row 9), (7, boolA false), (8, natA i)]) (h1 := [(9, rmarkB (m ++ [(i, s)]))]) ⟨rfl, rfl, rfl, trivial⟩ ⟨zah (by simp) (by rw [List.flatMap_append]; rfl) rfl, trivial⟩).trans (zF (id := 9) rfl)) rfl (h2 := []) trivial ⟨rfl, rfl⟩
  rw [if_neg h0] at hr
  have hset := zom c s (by omega) (by omega)
  have hok2 := hok.set
  obtain ⟨t, ht⟩ : ∃ t, setC c s = t := ⟨_, rfl⟩
  rw [ht] at hset hok2 hr
  have htw2 := zdl t hok2.s.path hok2.s.com
  have hln : (m ++ [(i, t)]).length ≤ i + 1 := by rw [List.length_append, List.length_singleton]; omega
  by_cases h1 : c.act = 1
  ·rw [if_pos h1] at hr
   by_cases hj : c.jump = 0
   ·rw [if_pos hj] at hr
    repeat ((fail_if_success refine zb ?_); first | refine q_Y ?_ | ((first | apply q_K rfl | apply q_X rfl); (first | exact q_F | (first | exact q_A | exact q_R (w := (by first | exact hw | rfl)) | exact q_B | (exact q_I i hil)))) | refine q_U ?_ | (first | refine q_O hfit ?_ | refine q_O hset ?_ | refine q_O htw2 ?_ | (first | refine zaE za rfl rfl rfl rfl rfl rfl rfl rfl rfl rfl rfl (by first | exact Src.row rfl | exact Src.dat _ _ | exact Src.nil) rfl (by omega) ?_ | refine zaF za rfl rfl rfl rfl rfl rfl rfl rfl rfl rfl (by first | exact Src.row rfl | exact Src.dat _ _ | exact Src.nil) rfl (by omega) ?_)))
    cases hr
    exact zo ((zm (e1 := [(6, .row 9), (7, boolA true), (8, natA i)]) (h1 := [(9, rmarkB (m ++ [(i, t)]))]) ⟨rfl, rfl, rfl, trivial⟩ ⟨zah (by simp) (by rw [List.flatMap_append]; rfl) rfl, trivial⟩).trans (zF (id := 9) rfl)) rfl (h2 := []) trivial ⟨rfl, rfl⟩
   ·rw [if_neg hj] at hr
    have hsk := zmG cs c.jump _ (i + 1) rfl
    rw [zmJ d cs dft _ _ _ _ (i + 1) (skipJ cs c.jump (i + 1)) rfl hsk.1 (by omega)] at hr
    have hok3 : OkR t (cs.drop (skipJ cs c.jump (i + 1))) := by
     have h4 := OkR.drop (n := skipJ cs c.jump (i + 1) - (i + 1)) hok2
     rw [List.drop_drop, show i + 1 + (skipJ cs c.jump (i + 1) - (i + 1)) = skipJ cs c.jump (i + 1) by omega] at h4
     exact h4
    repeat ((fail_if_success refine zb ?_); first | refine q_Y ?_ | ((first | apply q_K rfl | apply q_X rfl); (first | exact q_F | (first | exact q_A | exact q_R (w := (by first | exact hw | rfl)) | exact q_B | (exact q_I i hil)))) | refine q_U ?_ | (first | refine q_O hfit ?_ | refine q_O hset ?_ | refine q_O htw2 ?_ | (first | refine zaE za rfl rfl rfl rfl rfl rfl rfl rfl rfl rfl rfl (by first | exact Src.row rfl | exact Src.dat _ _ | exact Src.nil) rfl (by omega) ?_ | refine zaF za rfl rfl rfl rfl rfl rfl rfl rfl rfl rfl (by first | exact Src.row rfl | exact Src.dat _ _ | exact Src.nil) rfl (by omega) ?_)))
    try refine zS ?_
    refine zw (fun k : Nat => (12, .ptr 12 0) :: rrE d ⟨nm, cs, dft⟩ (i : Int) k) (fun _ => [(12, .var ((clsD c).map .d)), (5, .var ((sbjD t).map .d)), (9, rmarkB (m ++ [(i, t)]))]) (fun k => skipJ cs c.jump k = skipJ cs c.jump (i + 1) ∧ i + 1 ≤ k ∧ k ≤ cs.length) (fun k => cs.length - k) (i + 1) ⟨rfl, Nat.le_refl _, hil⟩ (zm ⟨rfl, rfl, rfl, rfl, rfl, rfl, rfl, trivial⟩ ⟨rfl, rfl, zah (by simp) (by rw [List.flatMap_append]; rfl) rfl, trivial⟩) ?_
    rintro k ⟨hk, hki, hkl⟩
    try dsimp only
    rw [skipJ] at hk
    by_cases hkc : k < cs.length
    ·rw [dif_pos hkc] at hk
     have hw2 := zx zdG cs k 0 1 hkc (by decide)
     by_cases hsq : cs[k].seq < c.jump
     ·rw [if_pos hsq] at hk
      repeat ((fail_if_success refine zb ?_); first | refine q_Y ?_ | ((first | apply q_K rfl | apply q_X rfl); (first | exact q_F | (first | exact q_A | exact q_R (w := (by first | exact hw2 | rfl)) | exact q_B | (exact q_I k hkc)))) | refine q_U ?_)
      exact ⟨k + 1, ⟨hk, by omega, hkc⟩, by (try dsimp only); omega, q_S⟩
     ·rw [if_neg hsq] at hk
      rw [← hk] at hr hok3
      repeat ((fail_if_success refine zb ?_); first | refine q_Y ?_ | ((first | apply q_K rfl | apply q_X rfl); (first | exact q_F | (first | exact q_A | exact q_R (w := (by first | exact hw2 | rfl)) | exact q_B | (exact q_I k hkc)))) | refine q_U ?_)
      exact ⟨(k, k, (i : Int), t, m ++ [(i, t)]), ⟨hr, hkl, Nat.le_refl _, hok3, by (try dsimp only); omega⟩, by (try dsimp only); omega, q_S⟩
    ·rw [dif_neg hkc] at hk
     rw [← hk] at hr hok3
     repeat ((fail_if_success refine zb ?_); first | refine q_Y ?_ | ((first | apply q_K rfl | apply q_X rfl); (exact q_G)) | refine q_U ?_)
     exact ⟨(k, k, (i : Int), t, m ++ [(i, t)]), ⟨hr, hkl, Nat.le_refl _, hok3, by (try dsimp only); omega⟩, by (try dsimp only); omega, q_S⟩
  ·rw [if_neg h1] at hr
   repeat ((fail_if_success refine zb ?_); first | refine q_Y ?_ | ((first | apply q_K rfl | apply q_X rfl); (first | exact q_F | (first | exact q_A | exact q_R (w := (by first | exact hw | rfl)) | exact q_B | (exact q_I i hil)))) | refine q_U ?_ | (first | refine q_O hfit ?_ | refine q_O hset ?_ | refine q_O htw2 ?_ | (first | refine zaE za rfl rfl rfl rfl rfl rfl rfl rfl rfl rfl rfl (by first | exact Src.row rfl | exact Src.dat _ _ | exact Src.nil) rfl (by omega) ?_ | refine zaF za rfl rfl rfl rfl rfl rfl rfl rfl rfl rfl (by first | exact Src.row rfl | exact Src.dat _ _ | exact Src.nil) rfl (by omega) ?_)))
   exact ⟨(i + 1, fr, bb, t, m ++ [(i, t)]), ⟨hr, hil, by (try dsimp only); omega, hok2, by (try dsimp only); omega⟩, by (try dsimp only); omega, zm ⟨rfl, rfl, rfl, rfl, rfl, rfl, trivial⟩ ⟨rfl, zah (by simp) (by rw [List.flatMap_append]; rfl) rfl, trivial⟩⟩
 ·rw [List.drop_of_length_le (by omega), runL] at hr
  by_cases hbb : 0 ≤ bb
  ·rw [decide_eq_true hbb, Bool.true_or] at hr
   cases hr
   repeat ((fail_if_success refine zb ?_); first | refine q_Y ?_ | ((first | apply q_K rfl | apply q_X rfl); (exact q_G)) | refine q_U ?_)
   exact zo ((q_S (e1 := [(6, .row 9), (7, boolA true), (8, .d (.sc (.int .i64 b)))]) (h1 := [(9, rmarkB ms)])).trans (zF (id := 9) rfl)) rfl (h2 := []) trivial ⟨rfl, rfl⟩
  ·rw [decide_eq_false hbb, Bool.false_or] at hr
   cases hr
   repeat ((fail_if_success refine zb ?_); first | refine q_Y ?_ | ((first | apply q_K rfl | apply q_X rfl); (exact q_G)) | refine q_U ?_)
   exact zo ((q_S (e1 := [(6, .row 9), (7, boolA ok), (8, .d (.sc (.int .i64 b)))]) (h1 := [(9, rmarkB ms)])).trans (zF (id := 9) rfl)) rfl (h2 := []) trivial ⟨rfl, rfl⟩
end Ab
end Go.Proofs.YtmmdkjanmegjdaaGreat

/-
 Texts of a proof, one behind the other (part 18).
-/
import Derived.Test.YtmmdkjanmegjdaaGreatRv0
import Derived.Test.YtmmdkjanmegjdaaGreatRv2
import Derived.Test.YtmmdkjanmegjdaaGreatRv4
import Derived.Test.YtmmdkjanmegjdaaGreatRv11
import Derived.Test.YtmmdkjanmegjdaaGreatRv12
import Derived.Test.YtmmdkjanmegjdaaGreatRv13
import Derived.Test.YtmmdkjanmegjdaaGreatRv14
import Derived.Test.YtmmdkjanmegjdaaGreatRv15
import Derived.Test.YtmmdkjanmegjdaaGreatRv16
set_option linter.unusedSimpArgs false
set_option linter.unusedVariables false
namespace Go.Proofs.YtmmdkjanmegjdaaGreat.Ab
set_option maxRecDepth 100000
open Go.RowKit Go.Lib Go.Sort
attribute [local irreducible] AWp AOps AQ AYield AEff ACall AWk AAny AAt AThen AIn APost NoPanic
section
variable {d d1 d2 d4 : Array Int} {a b limit limit1 p pv mid : Nat} {wb wp ap : Bool} {hint hint' : Hint} {pi : Array Int × Bool}
theorem swoI : SWO ltInt := swo_ltInt
theorem zjx (h12 : ¬ b - a ≤ 12) (hb : b ≤ d.size) (hB : Below ltInt a b d) (e1 : (if !wb then breakPatterns d a b else d) = d1) (e3 : (choosePivot ltInt d1 a b).1 = p) (e4 : (if hint = .decreasing then reverseRange d1 a b else d1) = d2)
  (e5 : (if hint = .decreasing then (b - 1) - (p - a) else p) = pv) (e7 : (if wb && wp && decide (hint' = .increasing) then partialInsertionSort ltInt d2 a b else (d2, false)) = pi) :
  d1.size = d.size ∧ d2.size = d.size ∧ (a ≤ p ∧ p < b) ∧ (a ≤ pv ∧ pv < b) ∧ pi.1.size = d.size ∧ Below ltInt a b d2 ∧ Below ltInt a b pi.1 := by
 have s1 : PermIn a b d d1 := by
  rw [← e1]; split
  ·exact breakPatterns_holds d a b (by omega) hb
  ·exact permIn_refl d a b
 have b1 : b ≤ d1.size := by rw [s1.1]; exact hb
 have s2 : PermIn a b d1 d2 := by
  rw [← e4]; split
  ·exact reverseRange_holds d1 a b (by omega) b1
  ·exact permIn_refl d1 a b
 have b2 : b ≤ d2.size := by rw [s2.1]; exact b1
 have B1 := Below.perm hB hb s1
 have B2 := Below.perm B1 b1 s2
 have s3 : PermIn a b d2 pi.1 := by
  rw [← e7]; split
  ·exact (partialInsertionSort_holds swoI d2 a b (by omega) b2 B2).1
  ·exact permIn_refl d2 a b
 have hc := choosePivot_holds ltInt d1 a b (by omega)
 rw [e3] at hc
 have hp : a ≤ pv ∧ pv < b := by rw [← e5]; split <;> omega
 exact ⟨s1.1, s2.1.trans s1.1, hc, hp, s3.1.trans (s2.1.trans s1.1), B2, Below.perm B2 b2 s3⟩
section
variable (h12 : ¬ b - a ≤ 12) (hl : limit ≠ 0) (e1 : (if !wb then breakPatterns d a b else d) = d1) (e2 : (if !wb then limit - 1 else limit) = limit1) (e3 : (choosePivot ltInt d1 a b).1 = p) (e3' : (choosePivot ltInt d1 a b).2 = hint) (e4 : (if hint = .decreasing then reverseRange d1 a b else d1) = d2)
 (e5 : (if hint = .decreasing then (b - 1) - (p - a) else p) = pv) (e6 : (if hint = .decreasing then Hint.increasing else hint) = hint') (e7 : (if wb && wp && decide (hint' = .increasing) then partialInsertionSort ltInt d2 a b else (d2, false)) = pi)
include h12 hl e1 e2 e3 e3' e4 e5 e6 e7
theorem zmV (h : pi.2 = true) : pdq ltInt d a b limit wb wp = pi.1 := by
 rw [pdq, if_neg h12, if_neg hl]
 simp only [e1, e2, e3, e3', e4, e5, e6, e7, h, if_true]
theorem zoJ (h : pi.2 = false) (hc : (decide (a > 0) && !ltInt pi.1[a - 1]! pi.1[pv]!) = true) (e8 : partitionEqual ltInt pi.1 a b pv = (mid, d4)) (hg : a < mid ∧ mid ≤ b) : pdq ltInt d a b limit wb wp = pdq ltInt d4 mid b limit1 wb wp := by
 rw [pdq, if_neg h12, if_neg hl]
 simp only [e1, e2, e3, e3', e4, e5, e6, e7, h, hc, e8, if_true]
 rw [if_neg (by decide), dif_pos hg]
theorem zoH (h : pi.2 = false) (hc : (decide (a > 0) && !ltInt pi.1[a - 1]! pi.1[pv]!) = false) (e8 : partition ltInt pi.1 a b pv = (mid, ap, d4)) (hg : a ≤ mid ∧ mid < b) (hlt : mid - a < b - mid) :
  pdq ltInt d a b limit wb wp = pdq ltInt (pdq ltInt d4 a mid limit1 true true) (mid + 1) b limit1 (decide (mid - a ≥ (b - a) / 8)) ap := by
 rw [pdq, if_neg h12, if_neg hl]
 simp only [e1, e2, e3, e3', e4, e5, e6, e7, h, hc, e8]
 rw [if_neg (by decide), if_neg (by decide), dif_pos hg, if_pos hlt]
theorem zoI (h : pi.2 = false) (hc : (decide (a > 0) && !ltInt pi.1[a - 1]! pi.1[pv]!) = false) (e8 : partition ltInt pi.1 a b pv = (mid, ap, d4)) (hg : a ≤ mid ∧ mid < b) (hlt : ¬ mid - a < b - mid) :
  pdq ltInt d a b limit wb wp = pdq ltInt (pdq ltInt d4 (mid + 1) b limit1 true true) a mid limit1 (decide (b - mid ≥ (b - a) / 8)) ap := by
 rw [pdq, if_neg h12, if_neg hl]
 simp only [e1, e2, e3, e3', e4, e5, e6, e7, h, hc, e8]
 rw [if_neg (by decide), if_neg (by decide), dif_pos hg, if_neg hlt]
end
end
section
variable {P : Program} {nt : Nat} {Q : Post} {e : Env} {h : Heap}
theorem zL {z : Bool} {c : Operand} {x y y2 r : Code} (H : AWp z P nt (.seq (.seq x (.cond c y y2)) r) Q e h) : AWp z P nt (.seq (.seq x (.cond c y y2)) r) Q e h := H
end
theorem qqar0 {T : List Nat} {e : Env} {h : Heap} {o : Oper} {c : AVal} (hy : AYield Tryz.prog T e h o c := by first | exact q_D | exact q_19 | exact q_E) : AYield Tryz.prog T e h o c := hy
theorem qqar1 {T : List Nat} {e : Env} {h : Heap} {o : Oper} {c : AVal} (hy : AYield Tryz.prog T e h o c := by first | exact ziB rfl rfl rfl rfl rfl | exact ziC rfl rfl rfl rfl rfl) : AYield Tryz.prog T e h o c := hy
set_option maxHeartbeats 64000000 in
theorem zoK : ∀ (N : Nat) (d0 : Array Int) (a0 b0 limit0 : Nat), b0 - a0 ≤ N → d0.size ≤ 1000000000 → b0 ≤ d0.size → a0 ≤ b0 → limit0 ≤ 1000 → Below ltInt a0 b0 d0 →
  ACall Tryz.prog 141 [.row 1000, natA a0, natA b0, natA limit0] [(1000, uR d0)] (fun c h => c = .tup [] ∧ h = [(1000, uR (pdq ltInt d0 a0 b0 limit0 true true))]) := fun N => by
 induction N using Nat.strongRecOn with
 | ind N ih =>
 intro d0 a0 b0 limit0 hN hn hb0 hab0 hl0 hB0
 refine zf za Tryz.func141 rfl Tryz.ntmps141 (congrArg Array.toList Tryz.results141) (by kernel_rfl) rfl ?_
 repeat ((fail_if_success refine zb ?_); (fail_if_success refine zL ?_); first | refine q_Y ?_ | ((first | apply q_K rfl | apply q_X rfl); (exact qqar0)) | refine q_T ?_)
 refine zw (fun x : Nat × Nat × Nat × Bool × Bool × Array Int => [(0, .row 1000), (1, natA x.1), (2, natA x.2.1), (3, natA x.2.2.1), (8, boolA x.2.2.2.1), (9, boolA x.2.2.2.2.1)]) (fun x => [(1000, uR x.2.2.2.2.2)])
  (fun x => pdq ltInt x.2.2.2.2.2 x.1 x.2.1 x.2.2.1 x.2.2.2.1 x.2.2.2.2.1 = pdq ltInt d0 a0 b0 limit0 true true ∧ x.2.2.2.2.2.size = d0.size ∧ x.1 ≤ x.2.1 ∧ x.2.1 ≤ d0.size ∧ x.2.2.1 ≤ 1000 ∧ x.2.1 - x.1 ≤ N ∧ Below ltInt x.1 x.2.1 x.2.2.2.2.2) (fun x => x.2.1 - x.1)
  (a0, b0, limit0, true, true, d0) ⟨rfl, rfl, hab0, hb0, hl0, hN, hB0⟩ (q_S) ?_
 rintro ⟨a, b, limit, wb, wp, d⟩ ⟨hr, hs, hab, hbd, hlim, hNab, hB⟩
 try dsimp only at hr hs hab hbd hlim hNab hB ⊢
 have hb : b ≤ d.size := by omega
 have hnd : d.size ≤ 1000000000 := by omega
 repeat ((fail_if_success refine zb ?_); (fail_if_success refine zL ?_); first | refine q_Y ?_ | ((first | apply q_K rfl | apply q_X rfl); (exact qqar0)) | refine q_T ?_)
 by_cases h12 : b - a ≤ 12
 ·have hp : pdq ltInt d a b limit wb wp = insertionSort ltInt d a b := by rw [pdq, if_pos h12]
  have hc := zoU d a b hnd hb hab
  refine z7 ?_
  repeat ((fail_if_success refine zb ?_); (fail_if_success refine zL ?_); first | refine q_Y ?_ | ((first | apply q_K rfl | apply q_X rfl); (exact qqar0)) | refine q_T ?_ | (refine O_cU 1000 hc rfl rfl rfl rfl rfl rfl rfl rfl ?_))
  exact zo AWk.refl rfl (h2 := [(1000, uR (pdq ltInt d0 a0 b0 limit0 true true))]) ⟨by rw [← hr, hp]; rfl, trivial⟩ ⟨rfl, rfl⟩
 refine z7 ?_
 repeat ((fail_if_success refine zb ?_); (fail_if_success refine zL ?_); first | refine q_Y ?_ | ((first | apply q_K rfl | apply q_X rfl); (exact qqar0)) | refine q_T ?_)
 by_cases hl : limit = 0
 ·have hp : pdq ltInt d a b limit wb wp = heapSort ltInt d a b := by rw [pdq, if_neg h12, if_pos hl]
  have hc := znd d a b hnd hb (by omega)
  refine z7 ?_
  repeat ((fail_if_success refine zb ?_); (fail_if_success refine zL ?_); first | refine q_Y ?_ | ((first | apply q_K rfl | apply q_X rfl); (exact qqar0)) | refine q_T ?_ | (refine O_cU 1000 hc rfl rfl rfl rfl rfl rfl rfl rfl ?_))
  exact zo AWk.refl rfl (h2 := [(1000, uR (pdq ltInt d0 a0 b0 limit0 true true))]) ⟨by rw [← hr, hp]; rfl, trivial⟩ ⟨rfl, rfl⟩
 refine z7 ?_
 repeat ((fail_if_success refine zb ?_); (fail_if_success refine zL ?_); first | refine q_Y ?_ | ((first | apply q_K rfl | apply q_X rfl); (exact qqar0)) | refine q_T ?_)
 obtain ⟨d1, e1⟩ : ∃ d1, (if !wb then breakPatterns d a b else d) = d1 := ⟨_, rfl⟩
 obtain ⟨limit1, e2⟩ : ∃ l, (if !wb then limit - 1 else limit) = l := ⟨_, rfl⟩
 obtain ⟨p, e3⟩ : ∃ p, (choosePivot ltInt d1 a b).1 = p := ⟨_, rfl⟩
 obtain ⟨hint, e3'⟩ : ∃ p, (choosePivot ltInt d1 a b).2 = p := ⟨_, rfl⟩
 obtain ⟨d2, e4⟩ : ∃ d2, (if hint = .decreasing then reverseRange d1 a b else d1) = d2 := ⟨_, rfl⟩
 obtain ⟨pv, e5⟩ : ∃ pv, (if hint = .decreasing then (b - 1) - (p - a) else p) = pv := ⟨_, rfl⟩
 obtain ⟨hint', e6⟩ : ∃ h, (if hint = .decreasing then Hint.increasing else hint) = h := ⟨_, rfl⟩
 obtain ⟨pi, e7⟩ : ∃ pi, (if wb && wp && decide (hint' = .increasing) then partialInsertionSort ltInt d2 a b else (d2, false)) = pi := ⟨_, rfl⟩
 obtain ⟨hs1, hs2, ⟨hp1, hp2⟩, ⟨hv1, hv2⟩, hs3, hB2, hB3⟩ := zjx h12 hb hB e1 e3 e4 e5 e7
 have hlim1 : limit1 ≤ 1000 := by rw [← e2]; split <;> omega
 refine zaH [(0, .row 1000), (1, natA a), (2, natA b), (3, natA limit1), (8, boolA wb), (9, boolA wp), (10, natA (b - a))] [(1000, uR d1)] ?_ ?_
 ·cases wb
  ·rw [if_pos (by decide)] at e1 e2
   have hc := zlT d a b hnd hb (by omega)
   repeat ((fail_if_success refine zb ?_); (fail_if_success refine zL ?_); first | refine q_Y ?_ | ((first | apply q_K rfl | apply q_X rfl); (exact qqar0)) | refine q_T ?_ | (refine O_cU 1000 hc rfl rfl rfl rfl rfl rfl rfl rfl ?_))
   exact zm ⟨rfl, rfl, rfl, by rw [← e2]; rfl, rfl, rfl, rfl, trivial⟩ ⟨by rw [← e1]; rfl, trivial⟩
  ·rw [if_neg (by decide)] at e1 e2
   repeat ((fail_if_success refine zb ?_); (fail_if_success refine zL ?_); first | refine q_Y ?_ | ((first | apply q_K rfl | apply q_X rfl); (exact qqar0)) | refine q_T ?_)
   exact zm ⟨rfl, rfl, rfl, by rw [← e2]; rfl, rfl, rfl, rfl, trivial⟩ ⟨by rw [← e1]; rfl, trivial⟩
 have cch := zj0 d1 a b (by omega) (by omega) (by omega)
 rw [e3, e3'] at cch
 repeat ((fail_if_success refine zb ?_); (fail_if_success refine zL ?_); first | refine q_Y ?_ | ((first | apply q_K rfl | apply q_X rfl); (exact qqar0)) | refine q_T ?_ | (refine O_cU 1000 cch rfl rfl rfl rfl rfl rfl rfl rfl ?_))
 refine zaH [(0, .row 1000), (1, natA a), (2, natA b), (3, natA limit1), (8, boolA wb), (9, boolA wp), (10, natA (b - a)), (11, natA pv), (12, hintA hint')] [(1000, uR d2)] ?_ ?_
 ·cases hint
  ·rw [if_neg (by decide)] at e4 e5 e6
   repeat ((fail_if_success refine zb ?_); (fail_if_success refine zL ?_); first | refine q_Y ?_ | ((first | apply q_K rfl | apply q_X rfl); (exact qqar0)) | refine q_T ?_ | ((first | apply q_K rfl | apply q_X rfl); (exact qqar1)))
   exact zm ⟨rfl, rfl, rfl, rfl, rfl, rfl, rfl, by rw [← e5]; rfl, by rw [← e6]; rfl, trivial⟩ ⟨by rw [← e4]; rfl, trivial⟩
  ·rw [if_neg (by decide)] at e4 e5 e6
   repeat ((fail_if_success refine zb ?_); (fail_if_success refine zL ?_); first | refine q_Y ?_ | ((first | apply q_K rfl | apply q_X rfl); (exact qqar0)) | refine q_T ?_ | ((first | apply q_K rfl | apply q_X rfl); (exact qqar1)))
   exact zm ⟨rfl, rfl, rfl, rfl, rfl, rfl, rfl, by rw [← e5]; rfl, by rw [← e6]; rfl, trivial⟩ ⟨by rw [← e4]; rfl, trivial⟩
  ·rw [if_pos rfl] at e4 e5 e6
   have hc := zop d1 a b (by omega) (by omega) (by omega)
   repeat ((fail_if_success refine zb ?_); (fail_if_success refine zL ?_); first | refine q_Y ?_ | ((first | apply q_K rfl | apply q_X rfl); (exact qqar0)) | refine q_T ?_ | first | ((first | apply q_K rfl | apply q_X rfl); (exact qqar1)) | (refine O_cU 1000 hc rfl rfl rfl rfl rfl rfl rfl rfl ?_))
   exact zm ⟨rfl, rfl, rfl, rfl, rfl, rfl, rfl, by rw [← e5]; rfl, by rw [← e6]; rfl, trivial⟩ ⟨by rw [← e4]; rfl, trivial⟩
 have hne : hint' ≠ .decreasing := by
  rw [← e6]
  split
  ·decide
  ·assumption
 have hcp := zmT d2 a b (by omega) (by omega) (by omega)
 cases hret : pi.2
 case true =>
  have hp := zmV h12 hl e1 e2 e3 e3' e4 e5 e6 e7 hret
  have hcnd : wb = true ∧ wp = true ∧ hint' = .increasing := by
   by_cases h : (wb && wp && decide (hint' = .increasing)) = true
   ·simp only [Bool.and_eq_true, decide_eq_true_eq] at h; exact ⟨h.1.1, h.1.2, h.2⟩
   ·rw [if_neg h] at e7; rw [← e7] at hret; cases hret
  obtain ⟨rfl, rfl, rfl⟩ := hcnd
  rw [if_pos (by decide)] at e7
  rw [e7, hret] at hcp
  refine z7 ?_
  repeat ((fail_if_success refine zb ?_); (fail_if_success refine zL ?_); first | refine q_Y ?_ | ((first | apply q_K rfl | apply q_X rfl); (exact qqar0)) | refine q_T ?_ | first | ((first | apply q_K rfl | apply q_X rfl); (exact qqar1)) | (refine O_cU 1000 hcp rfl rfl rfl rfl rfl rfl rfl rfl ?_))
  exact zo AWk.refl rfl (h2 := [(1000, uR (pdq ltInt d0 a0 b0 limit0 true true))]) ⟨by rw [← hr, hp]; rfl, trivial⟩ ⟨rfl, rfl⟩
 case false =>
  refine zaH [(0, .row 1000), (1, natA a), (2, natA b), (3, natA limit1), (8, boolA wb), (9, boolA wp), (10, natA (b - a)), (11, natA pv)] [(1000, uR pi.1)] ?_ ?_
  ·by_cases h : (wb && wp && decide (hint' = .increasing)) = true
   ·rw [if_pos h] at e7
    simp only [Bool.and_eq_true, decide_eq_true_eq] at h
    obtain ⟨⟨rfl, rfl⟩, rfl⟩ := h
    rw [e7, hret] at hcp
    repeat ((fail_if_success refine zb ?_); (fail_if_success refine zL ?_); first | refine q_Y ?_ | ((first | apply q_K rfl | apply q_X rfl); (exact qqar0)) | refine q_T ?_ | first | ((first | apply q_K rfl | apply q_X rfl); (exact qqar1)) | (refine O_cU 1000 hcp rfl rfl rfl rfl rfl rfl rfl rfl ?_))
    exact q_S
   ·rw [if_neg h] at e7
    have hpi : pi.1 = d2 := by rw [← e7]
    rw [hpi]
    cases wb
    ·
     repeat ((fail_if_success refine zb ?_); (fail_if_success refine zL ?_); first | refine q_Y ?_ | ((first | apply q_K rfl | apply q_X rfl); (exact qqar0)) | refine q_T ?_ | ((first | apply q_K rfl | apply q_X rfl); (exact qqar1)))
     exact q_S
    ·cases wp
     ·
      repeat ((fail_if_success refine zb ?_); (fail_if_success refine zL ?_); first | refine q_Y ?_ | ((first | apply q_K rfl | apply q_X rfl); (exact qqar0)) | refine q_T ?_ | ((first | apply q_K rfl | apply q_X rfl); (exact qqar1)))
      exact q_S
     ·cases hint'
      ·
       repeat ((fail_if_success refine zb ?_); (fail_if_success refine zL ?_); first | refine q_Y ?_ | ((first | apply q_K rfl | apply q_X rfl); (exact qqar0)) | refine q_T ?_ | ((first | apply q_K rfl | apply q_X rfl); (exact qqar1)))
       exact q_S
      ·exact absurd rfl h
      ·exact absurd rfl hne
  obtain ⟨d3, e8⟩ : ∃ d3, pi.1 = d3 := ⟨_, rfl⟩
  have hpe := fun m d4 hc h8 hg => zoJ (mid := m) (d4 := d4) h12 hl e1 e2 e3 e3' e4 e5 e6 e7 hret hc h8 hg
  have hpl := fun m q d4 hc h8 hg hlt => zoH (mid := m) (ap := q) (d4 := d4) h12 hl e1 e2 e3 e3' e4 e5 e6 e7 hret hc h8 hg hlt
  have hpg := fun m q d4 hc h8 hg hlt => zoI (mid := m) (ap := q) (d4 := d4) h12 hl e1 e2 e3 e3' e4 e5 e6 e7 hret hc h8 hg hlt
  rw [e8] at hs3 hB3 hpe hpl hpg ⊢
  by_cases hcc : 0 < a ∧ ltInt d3[a - 1]! d3[pv]! = false
  ·obtain ⟨ha0, hlf⟩ := hcc
   have hcl := zaS d3[a - 1]! d3[pv]!
   rw [hlf] at hcl
   have hcq := zjy d3 a b pv (by omega) (by omega) hv1 hv2
   obtain ⟨r, hrr⟩ : ∃ r, partitionEqual ltInt d3 a b pv = r := ⟨_, rfl⟩
   rw [hrr] at hcq
   obtain ⟨mid, d4⟩ := r
   try dsimp only at hcq
   obtain ⟨g1, g2, g3, g4, _⟩ := round_eq swoI (partitionEqual_holds ltInt) ha0 hv1 hv2 (by omega) hB3 hlf hrr
   have hp := hpe mid d4 (by rw [hlf, decide_eq_true ha0]; rfl) hrr ⟨g1, g2⟩
   refine z7 ?_
   repeat ((fail_if_success refine zb ?_); (fail_if_success refine zL ?_); first | refine q_Y ?_ | ((first | apply q_K rfl | apply q_X rfl); (first | exact q_D | exact zg za rfl rfl rfl rfl rfl rfl (zp (by omega)) rfl rfl | exact q_E)) | refine q_T ?_ | first | refine q_Q hcl ?_ | (refine O_cU 1000 hcq rfl rfl rfl rfl rfl rfl rfl rfl ?_))
   exact ⟨(mid, b, limit1, wb, wp, d4), ⟨hp.symm.trans hr, g3.trans hs3 |>.trans hs, g2, by (try dsimp only); omega, hlim1, by (try dsimp only); omega, g4⟩, by (try dsimp only); omega, q_S⟩
  ·have hcf : (decide (a > 0) && !ltInt d3[a - 1]! d3[pv]!) = false := by
    by_cases ha0 : 0 < a
    ·cases hll : ltInt d3[a - 1]! d3[pv]!
     ·exact absurd ⟨ha0, hll⟩ hcc
     ·simp
    ·rw [decide_eq_false ha0]; rfl
   have hcq := zmW d3 a b pv (by omega) (by omega) hv1 hv2
   obtain ⟨r, hrr⟩ : ∃ r, partition ltInt d3 a b pv = r := ⟨_, rfl⟩
   rw [hrr] at hcq
   obtain ⟨mid, ap, d4⟩ := r
   try dsimp only at hcq
   obtain ⟨g1, g2, g3, gBa, gBr, gl, gr⟩ := round_part swoI (partition_holds ltInt) hv1 hv2 (by omega) hB3 hrr
   refine zaH [(0, .row 1000), (1, natA a), (2, natA b), (3, natA limit1), (8, boolA wb), (9, boolA wp), (10, natA (b - a)), (11, natA pv)] [(1000, uR d3)] ?_ ?_
   ·by_cases ha0 : 0 < a
    ·have hcl := zaS d3[a - 1]! d3[pv]!
     have hlt : ltInt d3[a - 1]! d3[pv]! = true := by
      cases hll : ltInt d3[a - 1]! d3[pv]!
      ·exact absurd ⟨ha0, hll⟩ hcc
      ·rfl
     rw [hlt] at hcl
     repeat ((fail_if_success refine zb ?_); (fail_if_success refine zL ?_); first | refine q_Y ?_ | ((first | apply q_K rfl | apply q_X rfl); (first | exact q_D | exact zg za rfl rfl rfl rfl rfl rfl (zp (by omega)) rfl rfl | exact q_E)) | refine q_T ?_ | refine q_Q hcl ?_)
     exact q_S
    ·
     repeat ((fail_if_success refine zb ?_); (fail_if_success refine zL ?_); first | refine q_Y ?_ | ((first | apply q_K rfl | apply q_X rfl); (exact qqar0)) | refine q_T ?_)
     exact q_S
   by_cases hlt : mid - a < b - mid
   ·have hp := hpl mid ap d4 hcf hrr ⟨g1, g2⟩ hlt
    have hrec := ih (mid - a) (by omega) d4 a mid limit1 (Nat.le_refl _) (by omega) (by omega) g1 hlim1 gBa
    obtain ⟨q1, q2⟩ := pdq_sorts ltInt swoI d4 a mid limit1 true true g1 (by omega) gBa
    obtain ⟨hBL, _⟩ := gl _ q1 q2
    have hsz := q1.1
    by_cases hbal : mid - a ≥ (b - a) / 8
    ·rw [decide_eq_true hbal] at hp
     repeat ((fail_if_success refine zb ?_); (fail_if_success refine zL ?_); first | refine q_Y ?_ | ((first | apply q_K rfl | apply q_X rfl); (exact qqar0)) | refine q_T ?_ | first | (refine O_cU 1000 hcq rfl rfl rfl rfl rfl rfl rfl rfl ?_) | (refine O_cU 1000 hrec rfl rfl rfl rfl rfl rfl rfl rfl ?_))
     exact ⟨(mid + 1, b, limit1, true, ap, pdq ltInt d4 a mid limit1 true true), ⟨hp.symm.trans hr, by (try dsimp only); omega, by (try dsimp only); omega, by (try dsimp only); omega, hlim1, by (try dsimp only); omega, hBL⟩, by (try dsimp only); omega, q_S⟩
    ·rw [decide_eq_false hbal] at hp
     repeat ((fail_if_success refine zb ?_); (fail_if_success refine zL ?_); first | refine q_Y ?_ | ((first | apply q_K rfl | apply q_X rfl); (exact qqar0)) | refine q_T ?_ | first | (refine O_cU 1000 hcq rfl rfl rfl rfl rfl rfl rfl rfl ?_) | (refine O_cU 1000 hrec rfl rfl rfl rfl rfl rfl rfl rfl ?_))
     exact ⟨(mid + 1, b, limit1, false, ap, pdq ltInt d4 a mid limit1 true true), ⟨hp.symm.trans hr, by (try dsimp only); omega, by (try dsimp only); omega, by (try dsimp only); omega, hlim1, by (try dsimp only); omega, hBL⟩, by (try dsimp only); omega, q_S⟩
   ·have hp := hpg mid ap d4 hcf hrr ⟨g1, g2⟩ hlt
    have hrec := ih (b - (mid + 1)) (by omega) d4 (mid + 1) b limit1 (Nat.le_refl _) (by omega) (by omega) g2 hlim1 gBr
    obtain ⟨q1, q2⟩ := pdq_sorts ltInt swoI d4 (mid + 1) b limit1 true true g2 (by omega) gBr
    obtain ⟨hBL, _⟩ := gr _ q1 q2
    have hsz := q1.1
    by_cases hbal : b - mid ≥ (b - a) / 8
    ·rw [decide_eq_true hbal] at hp
     repeat ((fail_if_success refine zb ?_); (fail_if_success refine zL ?_); first | refine q_Y ?_ | ((first | apply q_K rfl | apply q_X rfl); (exact qqar0)) | refine q_T ?_ | first | (refine O_cU 1000 hcq rfl rfl rfl rfl rfl rfl rfl rfl ?_) | (refine O_cU 1000 hrec rfl rfl rfl rfl rfl rfl rfl rfl ?_))
     exact ⟨(a, mid, limit1, true, ap, pdq ltInt d4 (mid + 1) b limit1 true true), ⟨hp.symm.trans hr, by (try dsimp only); omega, g1, by (try dsimp only); omega, hlim1, by (try dsimp only); omega, hBL⟩, by (try dsimp only); omega, q_S⟩
    ·rw [decide_eq_false hbal] at hp
     repeat ((fail_if_success refine zb ?_); (fail_if_success refine zL ?_); first | refine q_Y ?_ | ((first | apply q_K rfl | apply q_X rfl); (exact qqar0)) | refine q_T ?_ | first | (refine O_cU 1000 hcq rfl rfl rfl rfl rfl rfl rfl rfl ?_) | (refine O_cU 1000 hrec rfl rfl rfl rfl rfl rfl rfl rfl ?_))
     exact ⟨(a, mid, limit1, false, ap, pdq ltInt d4 (mid + 1) b limit1 true true), ⟨hp.symm.trans hr, by (try dsimp only); omega, g1, by (try dsimp only); omega, hlim1, by (try dsimp only); omega, hBL⟩, by (try dsimp only); omega, q_S⟩
theorem zoQ (n : Nat) (hn : n < 4611686018427387904) : ACall Tryz.prog 47 [u64A n] [] (Just (natA (bitsLen n))) :=
 zbo (by kernel_rfl) rfl rfl rfl fun w => by
  have h := Any.bits_Len Tryz.laysLen (n : Int) w (by omega) (by omega)
  rw [Int.toNat_natCast, bitLen_eq _ (by omega)] at h
  exact h.mono fun _ _ ⟨h1, h2⟩ => ⟨h1, by subst h2; exact Below.refl _ _⟩
theorem zmD (d : Array Int) (hn : d.size ≤ 1000000000) : ACall Tryz.prog 126 [.row 1000] [(1000, uR d)] (fun c h => c = .tup [] ∧ h = [(1000, uR (Sort.sort ltInt d))]) := by
 have cl := zoQ d.size (by omega)
 have hb : bitsLen d.size ≤ 62 := (bitsLen_le_iff d.size 62).2 (by omega)
 have cp := zoK _ d 0 d.size (bitsLen d.size) (Nat.le_refl _) hn (Nat.le_refl _) (Nat.zero_le _) (by omega) (Or.inl rfl)
 have w64 : IntKind.u64.wrap (d.size : Int) = (d.size : Int) := by rw [IntKind.wrap_u64]; omega
 refine zf za Tryz.func126 rfl Tryz.ntmps126 (congrArg Array.toList Tryz.results126) (by kernel_rfl) rfl ?_
 repeat ((fail_if_success refine zb ?_); (fail_if_success refine zL ?_); first | refine q_Y ?_ | ((first | apply q_K rfl | apply q_X rfl); (exact qqar0)) | refine q_T ?_ | first | refine q_O cl ?_ | (apply O_y rfl rfl rfl; exact zcK za rfl rfl rfl rfl rfl w64) | (refine O_cU 1000 cp rfl rfl rfl rfl rfl rfl rfl rfl ?_))
 exact zdd AWk.refl rfl (h2 := [(1000, uR (Sort.sort ltInt d))]) ⟨rfl, trivial⟩ ⟨rfl, rfl⟩
end Go.Proofs.YtmmdkjanmegjdaaGreat.Ab

namespace Go.Proofs.YtmmdkjanmegjdaaGreat
section
variable {α : Type} [DecidableEq α]
theorem zjT (y x : α) : ∀ m : List α, dedA (m ++ [y, x]) = if y = x then dedA (m ++ [y]) else dedA (m ++ [y]) ++ [x] := by
 intro m
 induction m with
 | nil => by_cases h : y = x <;> simp [dedA, h]
 | cons a m ih =>
  obtain ⟨b, r, h1⟩ : ∃ b r, m ++ [y] = b :: r := by cases m <;> simp
  have h2 : m ++ [y, x] = b :: (r ++ [x]) := by rw [show m ++ [y, x] = (m ++ [y]) ++ [x] by simp, h1]; rfl
  rw [List.cons_append, List.cons_append, h2, h1]
  rw [h2, h1] at ih
  simp only [dedA]
  rw [ih]
  by_cases hab : a = b <;> by_cases hyx : y = x <;> simp [hab, hyx]
theorem zbx (l : List α) (k : Nat) (h1 : 1 ≤ k) (h : k < l.length) : dedA (l.take (k + 1)) = if l[k - 1] = l[k] then dedA (l.take k) else dedA (l.take k) ++ [l[k]] := by
 obtain ⟨j, rfl⟩ : ∃ j, k = j + 1 := ⟨k - 1, by omega⟩
 have e1 : l.take (j + 1 + 1) = l.take j ++ [l[j], l[j + 1]] := by
  rw [List.take_succ_eq_append_getElem h, List.take_succ_eq_append_getElem (show j < l.length by omega), List.append_assoc]
  rfl
 have e2 : l.take (j + 1) = l.take j ++ [l[j]] := List.take_succ_eq_append_getElem (show j < l.length by omega)
 rw [e1, zjT, e2]
 rfl
end
section
variable {α β : Type} {enc : α → List β} {sz : Nat}
theorem zcX (hsz : ∀ x, (enc x).length = sz) : ∀ (l : List α) (k : Nat), (l.flatMap enc).take (k * sz) = (l.take k).flatMap enc
 | [], k => by simp
 | x :: l, 0 => by simp
 | x :: l, k + 1 => by
  rw [List.flatMap_cons, List.take_succ_cons, List.flatMap_cons, ← zcX hsz l k, List.take_append, hsz]
  rw [List.take_of_length_le (by rw [hsz, Nat.add_mul]; omega)]
  congr 2
  rw [Nat.add_mul]; omega
theorem zfI (hsz : ∀ x, (enc x).length = sz) : ∀ (l : List α) (k : Nat), (l.flatMap enc).drop (k * sz) = (l.drop k).flatMap enc
 | [], k => by simp
 | x :: l, 0 => by simp
 | x :: l, k + 1 => by
  rw [List.flatMap_cons, List.drop_succ_cons, ← zfI hsz l k, List.drop_append, hsz]
  rw [List.drop_of_length_le (by rw [hsz, Nat.add_mul]; omega), List.nil_append]
  congr 1
  rw [Nat.add_mul]; omega
theorem zha (hsz : ∀ x, (enc x).length = sz) (l : List α) (k : Nat) (x : α) (hk : k < l.length) : Ab.setW (l.flatMap enc) (k * sz) (enc x) = (l.set k x).flatMap enc := by
 unfold Ab.setW
 rw [zcX hsz, hsz]
 rw [show k * sz + sz = (k + 1) * sz by rw [Nat.add_mul]; omega, zfI hsz]
 rw [List.set_eq_take_append_cons_drop, if_pos hk]
 simp
end
end Go.Proofs.YtmmdkjanmegjdaaGreat

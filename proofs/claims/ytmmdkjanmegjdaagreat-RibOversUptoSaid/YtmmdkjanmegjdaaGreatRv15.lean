/-
 Texts of a proof, one behind the other (part 16).
-/
import Derived.Shelf.SlGeneric
import Derived.Shelf.Small.Bits
import Derived.Shelf.Strconv.Itoa0
import Derived.Shelf.SlSortCmp.Xorshift
import Derived.Test.YtmmdkjanmegjdaaGreatProg
import Derived.Test.YtmmdkjanmegjdaaGreatRv4
import Derived.Test.YtmmdkjanmegjdaaGreatRv10
set_option maxRecDepth 100000
set_option linter.unusedSimpArgs false
set_option linter.unusedVariables false
namespace Go.Proofs.YtmmdkjanmegjdaaGreat.Ab
open Go.RowKit Go.Lib Go.Sort
attribute [local irreducible] AWp AOps AQ AYield AEff ACall AWk AAny AAt AThen AIn APost NoPanic
section
variable {P : Program} {nt : Nat} {Q : Post} {e : Env} {h : Heap} {ops : Array Oper} {o : Oper} {rest : List Oper}
theorem zdZ {a b c d p i : Nat} (h : look [(a, b), (c, d)] p = some i) : (p = a ∧ i = b) ∨ (p = c ∧ i = d) := by
 simp only [look] at h
 cases hb : Nat.beq a p
 ·rw [hb] at h
  cases hb2 : Nat.beq c p
  ·rw [hb2] at h; cases h
  ·rw [hb2] at h
   exact .inr ⟨(Nat.eq_of_beq_eq_true hb2).symm, (Option.some.inj h).symm⟩
 ·rw [hb] at h
  exact .inl ⟨(Nat.eq_of_beq_eq_true hb).symm, (Option.some.inj h).symm⟩
theorem zdK {f : FuncId} {args : Array Operand} {ats : Array TypeId} {cs cs0 : List AVal} {c : AVal} {d el k n n1 s s1 : Nat} {ds ds1 : List Dat} (i j : Nat) (hij : i ≠ j)
  (H : ACall P f cs [(1000, .row el k n ds), (1001, .var [natA s])] (fun c' h' => c' = c ∧ h' = [(1000, .row el k n1 ds1), (1001, .var [natA s1])]))
  (hok : cs.all (okV [(1000, i), (1001, j)]) = true) (hb : look h i = some (.row el k n ds)) (hb2 : look h j = some (.var [natA s])) (hw : awant ops e o = some true) (hdst : o.dst = some d) (hd : Nat.blt d nt = true) (ho : o.op = .call { callee := .value (.func f), args := args, argTypes := ats }) (hx : aevs e args.toList = some cs0) (hcs : cs.map (renV [(1000, i), (1001, j)]) = cs0)
  (HK : AOps P nt ops Q rest ((d, renV [(1000, i), (1001, j)] c) :: e) ((i, .row el k n1 ds1) :: (j, .var [natA s1]) :: h)) : AOps P nt ops Q (o :: rest) e h := by
 refine O_cP [(1000, i), (1001, j)] (fun p p' q h1 h2 => ?_) (fun p q h1 => ?_) H (fun c hc => List.all_eq_true.1 hok c hc) ⟨⟨i, _, rfl, hb, rfl, trivial⟩, ⟨j, _, rfl, hb2, rfl, fun c hc => by simp at hc; subst hc; rfl⟩, trivial⟩ hw hdst hd ho hx hcs ?_
 ·rcases zdZ h1 with ⟨h3, h4⟩ | ⟨h3, h4⟩ <;> rcases zdZ h2 with ⟨h5, h6⟩ | ⟨h5, h6⟩ <;> omega
 ·rcases zdZ h1 with ⟨h3, h4⟩ | ⟨h3, h4⟩ <;> subst h3 <;> exact ⟨by omega, rfl, rfl⟩
 ·exact HK
end
theorem zbJ (d : Array Int) (a b s : Nat) : s ≤ (order2 ltInt d a b s).2.2 ∧ (order2 ltInt d a b s).2.2 ≤ s + 1 := by
 unfold order2; split <;> exact ⟨by (try dsimp only); omega, by (try dsimp only); omega⟩
set_option maxHeartbeats 8000000 in
theorem zdT (d : Array Int) (a b s : Nat) (ha : a < d.size) (hb : b < d.size) (hs : s ≤ 1000) : ACall Tryz.prog 165 [.row 1000, natA a, natA b, .ptr 1001 0] [(1000, uR d), (1001, .var [natA s])]
  (fun c h => c = .tup [natA (order2 ltInt d a b s).1, natA (order2 ltInt d a b s).2.1] ∧ h = [(1000, uR d), (1001, .var [natA (order2 ltInt d a b s).2.2])]) := by
 have hc := zaS d[b]! d[a]!
 cases hl : ltInt d[b]! d[a]!
 ·rw [hl] at hc
  have he : order2 ltInt d a b s = (a, b, s) := by rw [order2, hl]; rfl
  refine zf za Tryz.func165 rfl Tryz.ntmps165 (congrArg Array.toList Tryz.results165) (by kernel_rfl) rfl ?_
  repeat ((fail_if_success refine zb ?_); first | refine q_Y ?_ | ((first | apply q_K rfl | apply q_X rfl); (first | exact q_D | exact zg za rfl rfl rfl rfl rfl rfl (zp (by omega)) rfl rfl | exact q_E)) | refine q_T ?_ | refine q_Q hc ?_)
  exact zo AWk.refl rfl (h2 := [(1000, uR d), (1001, .var [natA (order2 ltInt d a b s).2.2])]) ⟨rfl, by rw [he]; rfl, trivial⟩ ⟨by rw [he]; rfl, rfl⟩
 ·rw [hl] at hc
  have he : order2 ltInt d a b s = (b, a, s + 1) := by rw [order2, hl]; rfl
  refine zf za Tryz.func165 rfl Tryz.ntmps165 (congrArg Array.toList Tryz.results165) (by kernel_rfl) rfl ?_
  repeat ((fail_if_success refine zb ?_); first | refine q_Y ?_ | ((first | apply q_K rfl | apply q_X rfl); (first | exact q_D | exact zg za rfl rfl rfl rfl rfl rfl (zp (by omega)) rfl rfl | exact q_E)) | refine q_T ?_ | first | refine q_Q hc ?_ | (apply O_y rfl rfl rfl; exact zae rfl rfl rfl) | (refine q_b ?_))
  exact zo AWk.refl rfl (h2 := [(1000, uR d), (1001, .var [natA (order2 ltInt d a b s).2.2])]) ⟨rfl, by rw [he]; rfl, trivial⟩ ⟨by rw [he]; rfl, rfl⟩
theorem zdW (d : Array Int) (a b c s : Nat) : s ≤ (median ltInt d a b c s).2 ∧ (median ltInt d a b c s).2 ≤ s + 3 := by
 unfold median
 have h1 := zbJ d a b s
 have h2 := zbJ d (order2 ltInt d a b s).2.1 c (order2 ltInt d a b s).2.2
 have h3 := zbJ d (order2 ltInt d a b s).1 (order2 ltInt d (order2 ltInt d a b s).2.1 c (order2 ltInt d a b s).2.2).1 (order2 ltInt d (order2 ltInt d a b s).2.1 c (order2 ltInt d a b s).2.2).2.2
 exact ⟨by (try dsimp only); omega, by (try dsimp only); omega⟩
theorem qqap0 {T : List Nat} {e : Env} {h : Heap} {o : Oper} {c : AVal} (hy : AYield Tryz.prog T e h o c := by first | exact q_D | exact q_19 | exact q_E) : AYield Tryz.prog T e h o c := hy
set_option maxHeartbeats 8000000 in
theorem zdX (d : Array Int) (a b c s : Nat) (ha : a < d.size) (hb : b < d.size) (hcc : c < d.size) (hs : s ≤ 900) : ACall Tryz.prog 162 [.row 1000, natA a, natA b, natA c, .ptr 1001 0] [(1000, uR d), (1001, .var [natA s])]
  (fun x h => x = natA (median ltInt d a b c s).1 ∧ h = [(1000, uR d), (1001, .var [natA (median ltInt d a b c s).2])]) := by
 have m1 := order2_mem ltInt d a b s
 have w1 := zbJ d a b s
 obtain ⟨r1, hr1⟩ : ∃ r, order2 ltInt d a b s = r := ⟨_, rfl⟩
 have c1 := zdT d a b s ha hb (by omega)
 have hm : median ltInt d a b c s = (let r1 := order2 ltInt d a b s; let r2 := order2 ltInt d r1.2.1 c r1.2.2; let r3 := order2 ltInt d r1.1 r2.1 r2.2.2; (r3.2.1, r3.2.2)) := rfl
 rw [hr1] at m1 w1 c1 hm
 obtain ⟨x1, y1, s1⟩ := r1
 try dsimp only at m1 w1 c1 hm
 have m2 := order2_mem ltInt d y1 c s1
 have w2 := zbJ d y1 c s1
 have c2 := zdT d y1 c s1 (by omega) hcc (by omega)
 obtain ⟨r2, hr2⟩ : ∃ r, order2 ltInt d y1 c s1 = r := ⟨_, rfl⟩
 rw [hr2] at m2 w2 c2 hm
 obtain ⟨x2, y2, s2⟩ := r2
 try dsimp only at m2 w2 c2 hm
 have m3 := order2_mem ltInt d x1 x2 s2
 have w3 := zbJ d x1 x2 s2
 have c3 := zdT d x1 x2 s2 (by omega) (by omega) (by omega)
 obtain ⟨r3, hr3⟩ : ∃ r, order2 ltInt d x1 x2 s2 = r := ⟨_, rfl⟩
 rw [hr3] at m3 w3 c3 hm
 obtain ⟨x3, y3, s3⟩ := r3
 try dsimp only at m3 w3 c3 hm
 rw [hm]
 refine zf za Tryz.func162 rfl Tryz.ntmps162 (congrArg Array.toList Tryz.results162) (by kernel_rfl) rfl ?_
 repeat ((fail_if_success refine zb ?_); first | refine q_Y ?_ | ((first | apply q_K rfl | apply q_X rfl); (exact qqap0)) | refine q_T ?_)
 refine zdK 1000 1001 (by decide) c1 rfl rfl rfl rfl rfl rfl rfl rfl rfl ?_
 repeat ((fail_if_success refine zb ?_); first | refine q_Y ?_ | ((first | apply q_K rfl | apply q_X rfl); (exact qqap0)) | refine q_T ?_)
 refine zdK 1000 1001 (by decide) c2 rfl rfl rfl rfl rfl rfl rfl rfl rfl ?_
 repeat ((fail_if_success refine zb ?_); first | refine q_Y ?_ | ((first | apply q_K rfl | apply q_X rfl); (exact qqap0)) | refine q_T ?_)
 refine zdK 1000 1001 (by decide) c3 rfl rfl rfl rfl rfl rfl rfl rfl rfl ?_
 repeat ((fail_if_success refine zb ?_); first | refine q_Y ?_ | ((first | apply q_K rfl | apply q_X rfl); (exact qqap0)) | refine q_T ?_)
 exact zo AWk.refl rfl (h2 := [(1000, uR d), (1001, .var [natA s3])]) ⟨rfl, rfl, trivial⟩ ⟨rfl, rfl⟩
set_option maxHeartbeats 8000000 in
theorem zdY (d : Array Int) (a s : Nat) (ha : a + 1 < d.size) (h1 : 1 ≤ a) (hn : d.size ≤ 1000000000) (hs : s ≤ 900) : ACall Tryz.prog 161 [.row 1000, natA a, .ptr 1001 0] [(1000, uR d), (1001, .var [natA s])]
  (fun x h => x = natA (medianAdjacent ltInt d a s).1 ∧ h = [(1000, uR d), (1001, .var [natA (medianAdjacent ltInt d a s).2])]) := by
 have c1 := zdX d (a - 1) a (a + 1) s (by omega) (by omega) ha hs
 refine zf za Tryz.func161 rfl Tryz.ntmps161 (congrArg Array.toList Tryz.results161) (by kernel_rfl) rfl ?_
 repeat ((fail_if_success refine zb ?_); first | refine q_Y ?_ | ((first | apply q_K rfl | apply q_X rfl); (exact qqap0)) | refine q_T ?_)
 refine zdK 1000 1001 (by decide) c1 rfl rfl rfl rfl rfl rfl rfl rfl rfl ?_
 repeat ((fail_if_success refine zb ?_); first | refine q_Y ?_ | ((first | apply q_K rfl | apply q_X rfl); (exact qqap0)) | refine q_T ?_)
 exact zo AWk.refl rfl (h2 := [(1000, uR d), (1001, .var [natA (medianAdjacent ltInt d a s).2])]) ⟨rfl, rfl, trivial⟩ ⟨rfl, rfl⟩
def hintZ : Hint → Int
 | .unknown => 0
 | .increasing => 1
 | .decreasing => 2
abbrev hintA (h : Hint) : AVal := .d (.sc (.int .i64 (hintZ h)))
set_option maxHeartbeats 16000000 in
theorem zj0 (d : Array Int) (a b : Nat) (hn : d.size ≤ 1000000000) (hb : b ≤ d.size) (hl : 12 < b - a) : ACall Tryz.prog 151 [.row 1000, natA a, natA b] [(1000, uR d)]
  (fun c h => c = .tup [natA (choosePivot ltInt d a b).1, hintA (choosePivot ltInt d a b).2] ∧ h = [(1000, uR d)]) := by
 obtain ⟨i, hi⟩ : ∃ i, a + (b - a) / 4 * 1 = i := ⟨_, rfl⟩
 obtain ⟨j, hj⟩ : ∃ j, a + (b - a) / 4 * 2 = j := ⟨_, rfl⟩
 obtain ⟨k, hk⟩ : ∃ k, a + (b - a) / 4 * 3 = k := ⟨_, rfl⟩
 by_cases h50 : 50 ≤ b - a
 ·have hch : choosePivot ltInt d a b = (let r := (let ri := medianAdjacent ltInt d i 0; let rj := medianAdjacent ltInt d j ri.2; let rk := medianAdjacent ltInt d k rj.2; median ltInt d ri.1 rj.1 rk.1 rk.2); (r.1, if r.2 = 0 then .increasing else if r.2 = 12 then .decreasing else .unknown)) := by
   unfold choosePivot
   simp only [hi, hj, hk]
   rw [if_pos (show b - a ≥ 8 by omega), if_pos (show b - a ≥ 50 from h50)]
  have m1 := medianAdjacent_mem ltInt d i 0
  have w1 := zdW d (i - 1) i (i + 1) 0
  have c1 := zdY d i 0 (by omega) (by omega) hn (by omega)
  rw [← medianAdjacent] at w1
  obtain ⟨r1, hr1⟩ : ∃ r, medianAdjacent ltInt d i 0 = r := ⟨_, rfl⟩
  rw [hr1] at m1 w1 c1 hch
  obtain ⟨x1, s1⟩ := r1
  try dsimp only at m1 w1 c1 hch
  have m2 := medianAdjacent_mem ltInt d j s1
  have w2 := zdW d (j - 1) j (j + 1) s1
  have c2 := zdY d j s1 (by omega) (by omega) hn (by omega)
  rw [← medianAdjacent] at w2
  obtain ⟨r2, hr2⟩ : ∃ r, medianAdjacent ltInt d j s1 = r := ⟨_, rfl⟩
  rw [hr2] at m2 w2 c2 hch
  obtain ⟨x2, s2⟩ := r2
  try dsimp only at m2 w2 c2 hch
  have m3 := medianAdjacent_mem ltInt d k s2
  have w3 := zdW d (k - 1) k (k + 1) s2
  have c3 := zdY d k s2 (by omega) (by omega) hn (by omega)
  rw [← medianAdjacent] at w3
  obtain ⟨r3, hr3⟩ : ∃ r, medianAdjacent ltInt d k s2 = r := ⟨_, rfl⟩
  rw [hr3] at m3 w3 c3 hch
  obtain ⟨x3, s3⟩ := r3
  try dsimp only at m3 w3 c3 hch
  have c4 := zdX d x1 x2 x3 s3 (by omega) (by omega) (by omega) (by omega)
  obtain ⟨r4, hr4⟩ : ∃ r, median ltInt d x1 x2 x3 s3 = r := ⟨_, rfl⟩
  rw [hr4] at c4 hch
  obtain ⟨x4, s4⟩ := r4
  try dsimp only at c4 hch
  refine zf za Tryz.func151 rfl Tryz.ntmps151 (congrArg Array.toList Tryz.results151) (by kernel_rfl) rfl ?_
  repeat ((fail_if_success refine zb ?_); first | refine q_Y ?_ | ((first | apply q_K rfl | apply q_X rfl); (exact qqap0)) | refine q_T ?_ | (refine q_a ?_))
  refine zB (zm (e1 := [(0, .row 1000), (1, natA a), (2, natA b), (6, intA 0), (7, intA 0), (8, natA (b - a)), (9, .ptr 9 0), (10, natA i), (11, natA j), (12, natA k), (35, .row 1000), (36, natA i)]) (h1 := [(1000, uR d), (9, .var [natA 0])]) ⟨rfl, rfl, rfl, rfl, rfl, rfl, rfl, by rw [← hi]; rfl, by rw [← hj]; rfl, by rw [← hk]; rfl, rfl, by rw [← hi]; rfl, trivial⟩ ⟨rfl, rfl, trivial⟩) ?_
  refine zdK 1000 9 (by decide) c1 rfl rfl rfl rfl rfl rfl rfl rfl rfl ?_
  repeat ((fail_if_success refine zb ?_); first | refine q_Y ?_ | ((first | apply q_K rfl | apply q_X rfl); (exact qqap0)) | refine q_T ?_)
  refine zdK 1000 9 (by decide) c2 rfl rfl rfl rfl rfl rfl rfl rfl rfl ?_
  repeat ((fail_if_success refine zb ?_); first | refine q_Y ?_ | ((first | apply q_K rfl | apply q_X rfl); (exact qqap0)) | refine q_T ?_)
  refine zdK 1000 9 (by decide) c3 rfl rfl rfl rfl rfl rfl rfl rfl rfl ?_
  repeat ((fail_if_success refine zb ?_); first | refine q_Y ?_ | ((first | apply q_K rfl | apply q_X rfl); (exact qqap0)) | refine q_T ?_)
  refine zdK 1000 9 (by decide) c4 rfl rfl rfl rfl rfl rfl rfl rfl rfl ?_
  by_cases hz : s4 = 0
  ·
   repeat ((fail_if_success refine zb ?_); first | refine q_Y ?_ | ((first | apply q_K rfl | apply q_X rfl); (exact qqap0)) | refine q_T ?_ | (refine q_a ?_))
   exact zo AWk.refl rfl (h2 := [(1000, uR d)]) ⟨rfl, trivial⟩ ⟨by rw [hch, if_pos hz]; rfl, rfl⟩
  ·by_cases hz2 : s4 = 12
   ·
    repeat ((fail_if_success refine zb ?_); first | refine q_Y ?_ | ((first | apply q_K rfl | apply q_X rfl); (exact qqap0)) | refine q_T ?_ | (refine q_a ?_))
    exact zo AWk.refl rfl (h2 := [(1000, uR d)]) ⟨rfl, trivial⟩ ⟨by rw [hch, if_neg hz, if_pos hz2]; rfl, rfl⟩
   ·
    repeat ((fail_if_success refine zb ?_); first | refine q_Y ?_ | ((first | apply q_K rfl | apply q_X rfl); (exact qqap0)) | refine q_T ?_ | (refine q_a ?_))
    exact zo AWk.refl rfl (h2 := [(1000, uR d)]) ⟨rfl, trivial⟩ ⟨by rw [hch, if_neg hz, if_neg hz2]; rfl, rfl⟩
 ·have hch : choosePivot ltInt d a b = (let r := median ltInt d i j k 0; (r.1, if r.2 = 0 then .increasing else if r.2 = 12 then .decreasing else .unknown)) := by
   unfold choosePivot
   simp only [hi, hj, hk]
   rw [if_pos (show b - a ≥ 8 by omega), if_neg (show ¬ b - a ≥ 50 from h50)]
  have c4 := zdX d i j k 0 (by omega) (by omega) (by omega) (by omega)
  obtain ⟨r4, hr4⟩ : ∃ r, median ltInt d i j k 0 = r := ⟨_, rfl⟩
  rw [hr4] at c4 hch
  obtain ⟨x4, s4⟩ := r4
  try dsimp only at c4 hch
  refine zf za Tryz.func151 rfl Tryz.ntmps151 (congrArg Array.toList Tryz.results151) (by kernel_rfl) rfl ?_
  repeat ((fail_if_success refine zb ?_); first | refine q_Y ?_ | ((first | apply q_K rfl | apply q_X rfl); (exact qqap0)) | refine q_T ?_ | (refine q_a ?_))
  refine zB (zm (e1 := [(0, .row 1000), (1, natA a), (2, natA b), (6, intA 0), (7, intA 0), (8, natA (b - a)), (9, .ptr 9 0), (10, natA i), (11, natA j), (12, natA k), (44, .row 1000), (45, natA i), (46, natA j), (47, natA k)]) (h1 := [(1000, uR d), (9, .var [natA 0])]) ⟨rfl, rfl, rfl, rfl, rfl, rfl, rfl, by rw [← hi]; rfl, by rw [← hj]; rfl, by rw [← hk]; rfl, rfl, by rw [← hi]; rfl, by rw [← hj]; rfl, by rw [← hk]; rfl, trivial⟩ ⟨rfl, rfl, trivial⟩) ?_
  refine zdK 1000 9 (by decide) c4 rfl rfl rfl rfl rfl rfl rfl rfl rfl ?_
  by_cases hz : s4 = 0
  ·
   repeat ((fail_if_success refine zb ?_); first | refine q_Y ?_ | ((first | apply q_K rfl | apply q_X rfl); (exact qqap0)) | refine q_T ?_ | (refine q_a ?_))
   exact zo AWk.refl rfl (h2 := [(1000, uR d)]) ⟨rfl, trivial⟩ ⟨by rw [hch, if_pos hz]; rfl, rfl⟩
  ·by_cases hz2 : s4 = 12
   ·
    repeat ((fail_if_success refine zb ?_); first | refine q_Y ?_ | ((first | apply q_K rfl | apply q_X rfl); (exact qqap0)) | refine q_T ?_ | (refine q_a ?_))
    exact zo AWk.refl rfl (h2 := [(1000, uR d)]) ⟨rfl, trivial⟩ ⟨by rw [hch, if_neg hz, if_pos hz2]; rfl, rfl⟩
   ·
    repeat ((fail_if_success refine zb ?_); first | refine q_Y ?_ | ((first | apply q_K rfl | apply q_X rfl); (exact qqap0)) | refine q_T ?_ | (refine q_a ?_))
    exact zo AWk.refl rfl (h2 := [(1000, uR d)]) ⟨rfl, trivial⟩ ⟨by rw [hch, if_neg hz, if_neg hz2]; rfl, rfl⟩
end Go.Proofs.YtmmdkjanmegjdaaGreat.Ab

namespace Go.Proofs
open Go.Shelf
def Tryz.laysLen_ren : Go.Shelf.Ren := ⟨fun | 125 => 47 | 128 => 80 | 129 => 81 | n => n, fun | 46 => 109 | 3 => 3 | 51 => 44 | 53 => 145 | 4 => 4 | 5 => 5 | 9 => 9 | n => n, fun | n => n⟩
theorem Tryz.laysLen : Go.Proofs.Lays.n125 Tryz.prog Tryz.laysLen_ren := {
 mixed := by kernel_rfl
 f125 := Tryz.func47.trans (congrArg some (by kernel_rfl))
 f128 := Tryz.func80.trans (congrArg some (by kernel_rfl))
 f129 := Tryz.func81.trans (congrArg some (by kernel_rfl))
 t3 := Tryz.underlying3
 a3 := Tryz.isAgg3
 z3 := Tryz.sizeOf3
 v3 := Tryz.zeroValue3
 t4 := Tryz.underlying4
 a4 := Tryz.isAgg4
 z4 := Tryz.sizeOf4
 v4 := Tryz.zeroValue4
 t5 := Tryz.underlying5
 a5 := Tryz.isAgg5
 z5 := Tryz.sizeOf5
 v5 := Tryz.zeroValue5
 t9 := Tryz.underlying9
 a9 := Tryz.isAgg9
 z9 := Tryz.sizeOf9
 v9 := Tryz.zeroValue9
 t46 := Tryz.underlying109
 a46 := Tryz.isAgg109
 z46 := Tryz.sizeOf109
 v46 := Tryz.zeroValue109
 t51 := Tryz.underlying44
 a51 := Tryz.isAgg44
 z51 := Tryz.sizeOf44
 v51 := Tryz.zeroValue44
 t53 := Tryz.underlying145
 a53 := Tryz.isAgg145
 z53 := Tryz.sizeOf145
 v53 := Tryz.zeroValue145 }
def Tryz.laysPow_ren : Go.Shelf.Ren := ⟨fun | 47 => 115 | 15 => 47 | 28 => 80 | 29 => 81 | n => n, fun | 3 => 3 | 39 => 109 | 53 => 44 | 55 => 145 | 4 => 4 | 5 => 5 | 9 => 9 | n => n, fun | n => n⟩
theorem Tryz.laysPow : Go.Proofs.SlLaysF0.n47 Tryz.prog Tryz.laysPow_ren := {
 mixed := by kernel_rfl
 f15 := Tryz.func47.trans (congrArg some (by kernel_rfl))
 f28 := Tryz.func80.trans (congrArg some (by kernel_rfl))
 f29 := Tryz.func81.trans (congrArg some (by kernel_rfl))
 f47 := Tryz.func115.trans (congrArg some (by kernel_rfl))
 t3 := Tryz.underlying3
 a3 := Tryz.isAgg3
 z3 := Tryz.sizeOf3
 v3 := Tryz.zeroValue3
 t4 := Tryz.underlying4
 a4 := Tryz.isAgg4
 z4 := Tryz.sizeOf4
 v4 := Tryz.zeroValue4
 t5 := Tryz.underlying5
 a5 := Tryz.isAgg5
 z5 := Tryz.sizeOf5
 v5 := Tryz.zeroValue5
 t9 := Tryz.underlying9
 a9 := Tryz.isAgg9
 z9 := Tryz.sizeOf9
 v9 := Tryz.zeroValue9
 t39 := Tryz.underlying109
 a39 := Tryz.isAgg109
 z39 := Tryz.sizeOf109
 v39 := Tryz.zeroValue109
 t53 := Tryz.underlying44
 a53 := Tryz.isAgg44
 z53 := Tryz.sizeOf44
 v53 := Tryz.zeroValue44
 t55 := Tryz.underlying145
 a55 := Tryz.isAgg145
 z55 := Tryz.sizeOf145
 v55 := Tryz.zeroValue145 }
def Tryz.laysNext_ren : Go.Shelf.Ren := ⟨fun | 48 => 116 | n => n, fun | 76 => 193 | 55 => 145 | 0 => 0 | 66 => 173 | 39 => 109 | n => n, fun | n => n⟩
theorem Tryz.laysNext : Go.Proofs.SlLaysF0.n48 Tryz.prog Tryz.laysNext_ren := {
 mixed := by kernel_rfl
 f48 := Tryz.func116.trans (congrArg some (by kernel_rfl))
 t0 := Tryz.underlying0
 a0 := Tryz.isAgg0
 z0 := Tryz.sizeOf0
 v0 := Tryz.zeroValue0
 t39 := Tryz.underlying109
 a39 := Tryz.isAgg109
 z39 := Tryz.sizeOf109
 v39 := Tryz.zeroValue109
 t55 := Tryz.underlying145
 a55 := Tryz.isAgg145
 z55 := Tryz.sizeOf145
 v55 := Tryz.zeroValue145
 t66 := Tryz.underlying173
 a66 := Tryz.isAgg173
 z66 := Tryz.sizeOf173
 v66 := Tryz.zeroValue173
 t76 := Tryz.underlying193
 a76 := Tryz.isAgg193
 z76 := Tryz.sizeOf193
 v76 := Tryz.zeroValue193 }
end Go.Proofs

namespace Go.Proofs.YtmmdkjanmegjdaaGreat.Ab
open Go.RowKit Go.Lib Go.Sort
section
variable {P : Program} {nt : Nat} {Q : Post} {e : Env} {h : Heap} {ops : Array Oper} {o : Oper} {rest : List Oper} {T : List Nat}
def u64A (n : Nat) : AVal := .d (.sc (.int .u64 (n : Int)))
theorem zpj {t u : TypeId} {x y : Operand} {a b : Nat} (ho : o.op = .binOp .and t x y u) (hx : aev e x = some (u64A a)) (hy : aev e y = some (u64A b)) (ha : a < 18446744073709551616) (hb : b < 18446744073709551616) :
  AYield P T e h o (u64A (a &&& b)) := zN _ fun w F ι ac E =>
 ⟨.int .u64 ((a &&& b : Nat) : Int), zH rfl, fun w' => by
  have h1 := bits_and_u64_nat a b ha hb
  simp only [execOp, ho, (zQ (zj E hx)).1, (zQ (zj E hy)).1]
  simp only [eqGuard, binOp]
  rw [← h1]
  rfl⟩
theorem zpb {t u : TypeId} {x y : Operand} {a : Nat} {m : Int} (b : Nat) (ho : o.op = .binOp .sub t x y u) (hx : aev e x = some (u64A a)) (hy : aev e y = some (.d (.sc (.int .u64 m)))) (hm : m = (b : Int)) (ha : a < 18446744073709551616) (hb : b ≤ a) :
  AYield P T e h o (u64A (a - b)) := by
 subst hm
 refine zl2 ho hx hy ?_
 rw [IntKind.wrap_u64]; omega
theorem O_cV {f : FuncId} {args : Array Operand} {ats : Array TypeId} {cs cs0 : List AVal} {c : AVal} {d X Y : Nat} (i : Nat) (H : ACall P f cs [(1000, .var [u64A X])] (fun c' h' => c' = c ∧ h' = [(1000, .var [u64A Y])]))
  (hok : cs.all (okV [(1000, i)]) = true) (hb : look h i = some (.var [u64A X])) (hw : awant ops e o = some true) (hdst : o.dst = some d) (hd : Nat.blt d nt = true) (ho : o.op = .call { callee := .value (.func f), args := args, argTypes := ats }) (hx : aevs e args.toList = some cs0) (hcs : cs.map (renV [(1000, i)]) = cs0)
  (HK : AOps P nt ops Q rest ((d, renV [(1000, i)] c) :: e) ((i, .var [u64A Y]) :: h)) : AOps P nt ops Q (o :: rest) e h := by
 refine O_cP [(1000, i)] (fun p p' i h1 h2 => by rw [(zK h1).1, (zK h2).1]) (fun p i h1 => by rw [(zK h1).1]; exact ⟨Nat.le_refl _, rfl, rfl⟩) H (fun c hc => List.all_eq_true.1 hok c hc) ⟨⟨i, _, rfl, hb, rfl, fun c hc => by simp at hc; subst hc; rfl⟩, trivial⟩ hw hdst hd ho hx hcs ?_
 exact HK
end
theorem zm5 (X : Nat) (hX : X < 18446744073709551616) : ACall Tryz.prog 116 [.ptr 1000 0] [(1000, .var [u64A X])] (fun c h => c = u64A (xorNextN X) ∧ h = [(1000, .var [u64A (xorNextN X)])]) := by
 refine ⟨by kernel_rfl, fun Pm F w0 pin ι us w H HA => ?_⟩
 obtain ⟨v, hv, g, C, tt, rfl, hC, hlC, hr⟩ := H.blk 1000 _ rfl
 have hus : us = #[.pointer (some ⟨g, 0, none⟩)] := by
  have hsz : us.size = 1 := HA.1
  obtain ⟨u0, rfl⟩ : ∃ u0, us = #[u0] := ⟨us[0], by apply Array.ext <;> simp [hsz]; intro i h; subst h; rfl⟩
  have h0 := HA.2 0 _ u0 rfl rfl
  cases h0 with
  | ptr _ _ _ h1 h2 =>
   obtain ⟨r', h3, rfl⟩ := h2 _ hv
   cases h3
   rfl
 have hCs : C = #[.int .u64 (X : Int)] := by
  have hsz : C.size = 1 := hlC
  obtain ⟨u0, rfl⟩ : ∃ u0, C = #[u0] := ⟨C[0], by apply Array.ext <;> simp [hsz]; intro i h; subst h; rfl⟩
  have h0 := hr 0 _ u0 rfl rfl
  rw [(zQ h0).1]
 subst hus hCs
 have hc : w.cell? ⟨g, 0, none⟩ = some (.int .u64 (X : Int)) := by simp [World.cell?, hC]
 have hf : w.frozen? ⟨g, 0, none⟩ = false := by simp [World.frozen?, hC]
 refine (AnyF.xorshift_Next Tryz.laysNext g 0 X hX w hc hf).mono ?_
 rintro x w' ⟨rfl, rfl⟩
 have hg : ((w.setCell ⟨g, 0, none⟩ (.int .u64 ((xorNextN X : Nat) : Int))).drewN 3).heap[g]? = some (.cells #[.int .u64 ((xorNextN X : Nat) : Int)] tt (0, 0)) := by
  rw [World.heap_drewN]
  simp [World.setCell, Array.getElem?_modify, hC]
 have hW : Wrote w (.pointer (some ⟨g, 0, none⟩)) ((w.setCell ⟨g, 0, none⟩ (.int .u64 ((xorNextN X : Nat) : Int))).drewN 3) := by
  refine ⟨rfl, rfl, rfl, by simp [World.setCell], fun r hr hne => ?_⟩
  have : g ≠ r := by rintro rfl; exact hne rfl
  rw [World.heap_drewN]
  simp [World.setCell, Array.getElem?_modify, this]
 have HB := H.wrote hW hv (b' := .var [u64A (xorNextN X)]) ⟨g, _, tt, rfl, hg, rfl, fun i c u h1 h2 => ?_⟩
 ·refine ⟨_, u64A (xorNextN X), _, ι, rfl, ⟨rfl, rfl⟩, ?_, zH rfl⟩
  have := HB.only (h' := [(1000, .var [u64A (xorNextN X)])]) fun id b hb => by
   by_cases hid : 1000 = id
   ·subst hid; exact hb
   ·rw [zc _ _ hid] at hb; cases hb
  have e : Ab.only [(1000, ABlk.var [u64A (xorNextN X)])] ι = ι := funext fun id => by
   unfold Ab.only
   split
   ·rfl
   ·rename_i hn2
    cases hi : ι id with
    | none => rfl
    | some v' =>
     obtain ⟨b, hb⟩ := H.dom id v' hi
     by_cases hid : 1000 = id
     ·subst hid; exact absurd rfl hn2
     ·rw [zc _ _ hid] at hb; cases hb
  rw [e] at this
  exact this
 ·cases i with
  | zero => cases h1; cases h2; exact zH rfl
  | succ i => cases h1
end Go.Proofs.YtmmdkjanmegjdaaGreat.Ab

/-
 Texts of a proof, one behind the other (part 45).
-/
import Derived.Test.YtoahnbmedcjpeaaGreatDoorMo3
import Derived.Test.YtoahnbmedcjpeaaGreatDoorMo35
import Derived.Test.YtoahnbmedcjpeaaGreatDoorMo37
set_option linter.unusedSimpArgs false
set_option linter.unusedVariables false
namespace Go.Proofs.YtoahnbmedcjpeaaGreatDoor.Ab
set_option maxRecDepth 100000
open Go.RowKit Go.Lib
attribute [local irreducible] AWp AOps AQ AYield AEff ACall AWk AAny AAt AThen AIn APost NoPanic
def nils (xs : List AVal) : List AVal := xs.map fun x => match x with
 | .d (.sc (.slice none 0 0)) => .d (.sl [] 0)
 | x => x
theorem zfy {w : World} {F : Nat → Prop} {ι : Nat → Option Value} {xs : List AVal} {i : Nat} {c : AVal} {u : Value} (hc : (nils xs)[i]? = some c) (h : ∀ c0, xs[i]? = some c0 → VRel w F ι c0 u) : VRel w F ι c u := by
 unfold nils at hc
 rw [List.getElem?_map] at hc
 cases hx : xs[i]? with
 | none => rw [hx] at hc; cases hc
 | some c0 =>
  rw [hx] at hc
  have h0 := h c0 hx
  simp only [Option.map_some, Option.some.injEq] at hc
  split at hc
  ·subst hc; exact zeP _ _ _ _ h0
  ·subst hc; exact h0
theorem ziq {xs : List AVal} (w : World) (F : Nat → Prop) (ι : Nat → Option Value) (u : Value) (h : VRel w F ι (.agg xs) u) : VRel w F ι (.agg (nils xs)) u := by
 cases h with
 | agg _ C hl h => exact .agg _ C (by rw [hl]; simp [nils]) fun i c u hc hu => zfy hc fun c0 h0 => h i c0 u h0 hu
theorem zhe {nt : Nat} {e : Env} {h : Heap} {b : Nat} {cs : List AVal} (hb : look h b = some (.var cs)) : AWk nt e h e ((b, .var (nils cs)) :: h) := by
 unfold AWk
 intro Pm F w0 pin ι a w R
 obtain ⟨v, hv, r, C, T, rfl, hC, hlC, hrr⟩ := R.heap.blk b _ hb
 have hW : Wrote w (.pointer (some ⟨r, 0, none⟩)) w := ⟨rfl, rfl, rfl, Nat.le_refl _, fun _ _ _ => rfl⟩
 have H2 := R.heap.wrote (b' := .var (nils cs)) hW hv ⟨r, C, T, rfl, hC, by rw [hlC]; simp [nils], fun j c u h1 h2 => zfy h1 fun c0 h0 => hrr j c0 u h0 h2⟩
 exact ⟨_, H2, R.env, R.defers, R.size⟩
def ifA : Ifx := ⟨[101, 49], [114, 101, 100], 0, 0, false, [], [], 0, -1, 1, false⟩
def ifB : Ifx := ⟨[101, 48], [], 0, 0, false, [], [], 0, -1, 1, false⟩
def dvA : Dvc := ⟨[98], 1, [[114, 101, 100]], [ifA, ifB], [], [], [], [], [], [], [], []⟩
def dvB : Dvc := ⟨[97], 2, [], [], [], [⟨false, [102], 1⟩], [], [], [], [], [], []⟩
def dvC : Dvc := ⟨[97], 2, [], [], [], [], [], [], [], [], [], []⟩
theorem zlq : checkL dvA = ([], 0) := by decide +kernel
theorem zng : checkL dvB = ([114, 101, 119, 114, 105, 116, 101, 32, 48], 120) := by decide +kernel
theorem znf : checkL dvC = ([], 0) := by decide +kernel
theorem zeA {d : Dvc} (h : d.ok) (h3 : d.ifs.length ≤ 1000) (h4 : d.fils.length ≤ 1000) (h6 : d.sts.length ≤ 1000) (h7 : d.pls.length ≤ 1000) (h8 : d.cls.length ≤ 1000) (h9 : d.pols.length ≤ 1000) : OkF d := ⟨h, by omega, by omega, by omega, by omega, by omega, by omega⟩
theorem zV {n b : Nat} (h : n * b ≤ 1000) : Bd n b := Nat.le_trans h (by decide)
theorem zam {α : Type} {p : α → Prop} : ∀ x ∈ ([] : List α), p x := fun _ h => by cases h
theorem zjb : dvA.ok := ⟨⟨by decide, by decide⟩, fun x hx => by
  simp [dvA] at hx
  rcases hx with rfl | rfl <;> exact ⟨⟨by decide, by decide⟩, ⟨by decide, by decide⟩⟩, zam, zam, zam, zam, zam, zam, zam, zV (by decide), zV (by decide), zV (by decide), zV (by decide), zV (by decide), zV (by decide), zV (by decide), zV (by decide), zV (by decide), zV (by decide), zam, zam⟩
theorem zmt : dvB.ok := ⟨⟨by decide, by decide⟩, zam, zam, zam, zam, zam, zam, zam, zam, zV (by decide), zV (by decide), zV (by decide), zV (by decide), zV (by decide), zV (by decide), zV (by decide), zV (by decide), zV (by decide), zV (by decide), zam, zam⟩
theorem zms : dvC.ok := ⟨⟨by decide, by decide⟩, zam, zam, zam, zam, zam, zam, zam, zam, zV (by decide), zV (by decide), zV (by decide), zV (by decide), zV (by decide), zV (by decide), zV (by decide), zV (by decide), zV (by decide), zV (by decide), zam, zam⟩
theorem zgU {α : Type} (nm : α → List UInt8) (x y : α) (h : ltN nm y x = true) : srtN nm [x, y] = [y, x] := by
 show St.mrg (ltN nm) [x] (St.mrg (ltN nm) [y] []) = _
 rw [St.mrg_r, St.mrg_t h, St.mrg_r]
theorem znc : ∃ V, formL dvA = ⟨[98], 1, V, [ifB, ifA], [], [], [], [], [], [], [], []⟩ := ⟨srtV [[114, 101, 100]], by
 unfold formL dvA
 dsimp only
 rw [zgU _ ifA ifB (by decide)]
 rfl⟩
theorem znb : ∃ V, formL dvC = ⟨[97], 2, V, [], [], [], [], [], [], [], [], []⟩ := ⟨srtV [], rfl⟩
theorem zj8 : ∃ V W, ACall Tryz.prog 9 [dvsA [dvA, dvC]] [] (Just (.tup [dvsA [⟨[97], 2, W, [], [], [], [], [], [], [], [], []⟩, ⟨[98], 1, V, [ifB, ifA], [], [], [], [], [], [], [], []⟩], intA 0, intA 0])) := by
 obtain ⟨V, hV⟩ := znc
 obtain ⟨W, hW⟩ := znb
 refine ⟨V, W, ?_⟩
 have h := zj7 zfO [dvA, dvC] (fun d hd => by
  simp at hd
  rcases hd with rfl | rfl
  ·exact zeA zjb (by decide) (by decide) (by decide) (by decide) (by decide) (by decide)
  ·exact zeA zms (by decide) (by decide) (by decide) (by decide) (by decide) (by decide)) (by decide) (fun d hd => by
  simp at hd
  rcases hd with rfl | rfl
  ·rw [zlq]
  ·rw [znf]) (by decide) (fun d hd => by
  simp at hd
  rcases hd with rfl | rfl
  ·refine ⟨fun x hx => ?_, rfl, rfl⟩
   simp [dvA] at hx
   rcases hx with rfl | rfl <;> rfl
  ·exact ⟨zam, rfl, rfl⟩)
 have e : ∀ x y : Dvc, x.nm = [98] → y.nm = [97] → srtN dnm [x, y] = [y, x] := fun x y hx hy => zgU dnm x y (by
  show decide (compareBytes (dnm y) (dnm x) < 0) = true
  rw [show dnm x = [98] from hx, show dnm y = [97] from hy]; decide)
 rw [show [dvA, dvC].map formL = [formL dvA, formL dvC] from rfl, hV, hW, e _ _ rfl rfl] at h
 exact h
set_option maxHeartbeats 16000000 in
theorem zh4 : ACall Tryz.prog 11 [] [] (Just (boolA true)) := by
 obtain ⟨V, W, hS⟩ := zj8
 have h1 := zcM dvA (zeT zjb)
 have h2 := zcM dvB (zeT zmt)
 rw [zlq] at h1
 rw [zng] at h2
 refine zb za Tryz.func11 rfl Tryz.ntmps11 (congrArg Array.toList Tryz.results11) (by kernel_rfl) rfl ?_
 repeat ((fail_if_success (refine stopR 3 ?_)); first
  | refine zt ?_
  | refine zz ?_
  | refine zi ?_
  | ((first | apply q_K rfl | apply q_X rfl); (first | exact q_H | fail))
  | refine zo ?_
  | refine zq ?_
  | refine q_j ?_
  | refine q_k ?_
  | refine q_a ?_
  | refine q_b ?_
  | refine A_ct rfl ?_
  | refine A_cf rfl ?_
  | refine zM ?_
  | refine zW ?_
  | refine q_l ?_
  | refine q_n ?_
  | refine q_h ?_
  | (refine q_c ?_; first | refine z6 (zB (id := 31) rfl) ?_ | refine z6 (zB (id := 16) rfl) ?_ | refine z6 (zB (id := 13) rfl) ?_ | refine z6 (zB (id := 10) rfl) ?_))
 refine zd (zhe (b := 1) rfl) ?_
 refine zd (zhe (b := 2) rfl) ?_
 refine zd (q_S (e1 := [(1, .ptr 1 0), (2, .ptr 2 0)]) (h1 := [(1, .var ((dvcD dvA).map .d)), (2, .var ((dvcD dvB).map .d))])) ?_
 repeat ((fail_if_success (refine stopR 5 ?_)); first
  | refine zt ?_
  | refine zz ?_
  | refine zi ?_
  | ((first | apply q_K rfl | apply q_X rfl); (first | exact q_H | fail))
  | refine zo ?_
  | refine zq ?_
  | refine q_j ?_
  | refine q_k ?_
  | refine q_a ?_
  | refine q_b ?_
  | refine A_ct rfl ?_
  | refine A_cf rfl ?_
  | refine zM ?_
  | refine zW ?_
  | refine q_l ?_
  | refine q_n ?_
  | refine q_h ?_
  | (first | refine q_O h1 ?_ | refine q_O h2 ?_))
 refine zd (q_S (e1 := [(1, .ptr 1 0), (3, strA []), (4, intA 0), (5, strA [114, 101, 119, 114, 105, 116, 101, 32, 48]), (6, intA 120)]) (h1 := [(1, .var ((dvcD dvA).map .d))])) ?_
 refine zt ?_
 refine zi ?_
 (apply O_y rfl rfl rfl; exact q_7)
 (apply O_y rfl rfl rfl; exact q_24)
 refine z6 (zaK (t := 30) rfl ziq) ?_
 repeat ((fail_if_success (refine stopR 6 ?_)); first
  | refine zt ?_
  | refine zz ?_
  | refine zi ?_
  | ((first | apply q_K rfl | apply q_X rfl); (first | exact q_H | fail))
  | refine zo ?_
  | refine zq ?_
  | refine q_j ?_
  | refine q_k ?_
  | refine q_a ?_
  | refine q_b ?_
  | refine A_ct rfl ?_
  | refine A_cf rfl ?_
  | refine zM ?_
  | refine zW ?_
  | refine q_l ?_
  | refine q_n ?_
  | refine q_h ?_
  | (first | refine q_O hS ?_ | (refine q_c ?_; first | refine z6 (zB (id := 31) rfl) ?_ | refine z6 (zB (id := 16) rfl) ?_ | refine z6 (zB (id := 13) rfl) ?_ | refine z6 (zB (id := 10) rfl) ?_)))
 refine zd (q_S (e1 := [(3, strA []), (4, intA 0), (5, strA [114, 101, 119, 114, 105, 116, 101, 32, 48]), (6, intA 120), (7, dvsA [⟨[97], 2, W, [], [], [], [], [], [], [], [], []⟩, ⟨[98], 1, V, [ifB, ifA], [], [], [], [], [], [], [], []⟩]), (8, intA 0), (9, intA 0)]) (h1 := [])) ?_
 repeat (first | refine q_Y ?_ | ((first | apply q_K rfl | apply q_X rfl); (first | exact q_H | (first | exact za9 rfl rfl rfl rfl | exact zb6 (j := 0) za rfl rfl rfl rfl rfl rfl (by first | (show 0 < 2; decide)) | exact zb6 (j := 1) za rfl rfl rfl rfl rfl rfl (by first | (show 1 < 2; decide)) | exact zb6 (j := 0) za rfl rfl rfl rfl rfl rfl (by first | (show 0 < 1; decide) | (show 0 < 2; decide))))) | refine q_U ?_)
 exact zA rfl ⟨congrArg boolA (show decide (ifB.nm = [101, 48]) = true by decide), rfl⟩
end Go.Proofs.YtoahnbmedcjpeaaGreatDoor.Ab

/-
 Texts of a proof, one behind the other (part 44).
-/
import Derived.Test.YtoahnbmedcjpeaaGreatDoorMf3
import Derived.Test.YtoahnbmedcjpeaaGreatDoorMf41
import Derived.Test.YtoahnbmedcjpeaaGreatDoorMf42
set_option linter.unusedSimpArgs false
set_option linter.unusedVariables false
namespace Go.Proofs.YtoahnbmedcjpeaaGreatDoor.Ab
set_option maxRecDepth 100000
open Go.RowKit Go.Lib
attribute [local irreducible] AWp AOps AQ AYield AEff ACall AWk AAny AAt AThen AIn APost NoPanic
def nils (xs : List AVal) : List AVal := xs.map fun x => match x with
 | .d (.sc (.slice none 0 0)) => .d (.sl [] 0)
 | x => x
theorem zeN {w : World} {F : Nat → Prop} {ι : Nat → Option Value} {xs : List AVal} {i : Nat} {c : AVal} {u : Value} (hc : (nils xs)[i]? = some c) (h : ∀ c0, xs[i]? = some c0 → VRel w F ι c0 u) : VRel w F ι c u := by
 unfold nils at hc
 rw [List.getElem?_map] at hc
 cases hx : xs[i]? with
 | none => rw [hx] at hc; cases hc
 | some c0 =>
  rw [hx] at hc
  have h0 := h c0 hx
  simp only [Option.map_some, Option.some.injEq] at hc
  split at hc
  ·subst hc; exact zjk _ _ _ _ h0
  ·subst hc; exact h0
theorem zhi {xs : List AVal} (w : World) (F : Nat → Prop) (ι : Nat → Option Value) (u : Value) (h : VRel w F ι (.agg xs) u) : VRel w F ι (.agg (nils xs)) u := by
 cases h with
 | agg _ C hl h => exact .agg _ C (by rw [hl]; simp [nils]) fun i c u hc hu => zeN hc fun c0 h0 => h i c0 u h0 hu
theorem zgh {nt : Nat} {e : Env} {h : Heap} {b : Nat} {cs : List AVal} (hb : look h b = some (.var cs)) : AWk nt e h e ((b, .var (nils cs)) :: h) := by
 unfold AWk
 intro Pm F w0 pin ι a w R
 obtain ⟨v, hv, r, C, T, rfl, hC, hlC, hrr⟩ := R.heap.blk b _ hb
 have hW : Wrote w (.pointer (some ⟨r, 0, none⟩)) w := ⟨rfl, rfl, rfl, Nat.le_refl _, fun _ _ _ => rfl⟩
 have H2 := R.heap.wrote (b' := .var (nils cs)) hW hv ⟨r, C, T, rfl, hC, by rw [hlC]; simp [nils], fun j c u h1 h2 => zeN h1 fun c0 h0 => hrr j c0 u h0 h2⟩
 exact ⟨_, H2, R.env, R.defers, R.size⟩
def ifA : Ifx := ⟨[101, 49], [114, 101, 100], 0, 0, false, [], [], 0, -1, 1, false⟩
def ifB : Ifx := ⟨[101, 48], [], 0, 0, false, [], [], 0, -1, 1, false⟩
def dvA : Dvc := ⟨[98], 1, [[114, 101, 100]], [ifA, ifB], [], [], [], [], [], [], [], []⟩
def dvB : Dvc := ⟨[97], 2, [], [], [], [⟨false, [102], 1⟩], [], [], [], [], [], []⟩
def dvC : Dvc := ⟨[97], 2, [], [], [], [], [], [], [], [], [], []⟩
theorem zkx : checkL dvA = ([], 0) := by decide +kernel
theorem zmd : checkL dvB = ([114, 101, 119, 114, 105, 116, 101, 32, 48], 120) := by decide +kernel
theorem zmc : checkL dvC = ([], 0) := by decide +kernel
theorem zd4 {d : Dvc} (h : d.ok) (h3 : d.ifs.length ≤ 1000) (h4 : d.fils.length ≤ 1000) (h6 : d.sts.length ≤ 1000) (h7 : d.pls.length ≤ 1000) (h8 : d.cls.length ≤ 1000) (h9 : d.pols.length ≤ 1000) : OkF d := ⟨h, by omega, by omega, by omega, by omega, by omega, by omega⟩
theorem zO {n b : Nat} (h : n * b ≤ 1000) : Bd n b := Nat.le_trans h (by decide)
theorem z6 {α : Type} {p : α → Prop} : ∀ x ∈ ([] : List α), p x := fun _ h => by cases h
theorem zif : dvA.ok := ⟨⟨by decide, by decide⟩, fun x hx => by
  simp [dvA] at hx
  rcases hx with rfl | rfl <;> exact ⟨⟨by decide, by decide⟩, ⟨by decide, by decide⟩⟩, z6, z6, z6, z6, z6, z6, z6, zO (by decide), zO (by decide), zO (by decide), zO (by decide), zO (by decide), zO (by decide), zO (by decide), zO (by decide), zO (by decide), zO (by decide), z6, z6⟩
theorem zlp : dvB.ok := ⟨⟨by decide, by decide⟩, z6, z6, z6, z6, z6, z6, z6, z6, zO (by decide), zO (by decide), zO (by decide), zO (by decide), zO (by decide), zO (by decide), zO (by decide), zO (by decide), zO (by decide), zO (by decide), z6, z6⟩
theorem zlo : dvC.ok := ⟨⟨by decide, by decide⟩, z6, z6, z6, z6, z6, z6, z6, z6, zO (by decide), zO (by decide), zO (by decide), zO (by decide), zO (by decide), zO (by decide), zO (by decide), zO (by decide), zO (by decide), zO (by decide), z6, z6⟩
theorem zf0 {α : Type} (nm : α → List UInt8) (x y : α) (h : ltN nm y x = true) : srtN nm [x, y] = [y, x] := by
 show St.mrg (ltN nm) [x] (St.mrg (ltN nm) [y] []) = _
 rw [St.mrg_r, St.mrg_t h, St.mrg_r]
theorem zma : ∃ V, formL dvA = ⟨[98], 1, V, [ifB, ifA], [], [], [], [], [], [], [], []⟩ := ⟨srtV [[114, 101, 100]], by
 unfold formL dvA
 dsimp only
 rw [zf0 _ ifA ifB (by decide)]
 rfl⟩
theorem zl9 : ∃ V, formL dvC = ⟨[97], 2, V, [], [], [], [], [], [], [], [], []⟩ := ⟨srtV [], rfl⟩
theorem zjd : ∃ V W, ACall Tryz.prog 9 [dvsA [dvA, dvC]] [] (Just (.tup [dvsA [⟨[97], 2, W, [], [], [], [], [], [], [], [], []⟩, ⟨[98], 1, V, [ifB, ifA], [], [], [], [], [], [], [], []⟩], intA 0, intA 0])) := by
 obtain ⟨V, hV⟩ := zma
 obtain ⟨W, hW⟩ := zl9
 refine ⟨V, W, ?_⟩
 have h := zjc zix [dvA, dvC] (fun d hd => by
  simp at hd
  rcases hd with rfl | rfl
  ·exact zd4 zif (by decide) (by decide) (by decide) (by decide) (by decide) (by decide)
  ·exact zd4 zlo (by decide) (by decide) (by decide) (by decide) (by decide) (by decide)) (by decide) (fun d hd => by
  simp at hd
  rcases hd with rfl | rfl
  ·rw [zkx]
  ·rw [zmc]) (by decide) (fun d hd => by
  simp at hd
  rcases hd with rfl | rfl
  ·refine ⟨fun x hx => ?_, rfl, rfl⟩
   simp [dvA] at hx
   rcases hx with rfl | rfl <;> rfl
  ·exact ⟨z6, rfl, rfl⟩)
 have e : ∀ x y : Dvc, x.nm = [98] → y.nm = [97] → srtN dnm [x, y] = [y, x] := fun x y hx hy => zf0 dnm x y (by
  show decide (compareBytes (dnm y) (dnm x) < 0) = true
  rw [show dnm x = [98] from hx, show dnm y = [97] from hy]; decide)
 rw [show [dvA, dvC].map formL = [formL dvA, formL dvC] from rfl, hV, hW, e _ _ rfl rfl] at h
 exact h
set_option maxHeartbeats 16000000 in
theorem zg0 : ACall Tryz.prog 11 [] [] (Just (boolA true)) := by
 obtain ⟨V, W, hS⟩ := zjd
 have h1 := zcj dvA (zej zif)
 have h2 := zcj dvB (zej zlp)
 rw [zkx] at h1
 rw [zmd] at h2
 refine zb za Tryz.func11 rfl Tryz.ntmps11 (congrArg Array.toList Tryz.results11) (by kernel_rfl) rfl ?_
 repeat ((fail_if_success (refine stopR 3 ?_)); first
  | refine zr ?_
  | refine zA ?_
  | refine zg ?_
  | ((first | apply q_K rfl | apply q_X rfl); (first | exact q_H | fail))
  | refine zo ?_
  | refine zq ?_
  | refine q_j ?_
  | refine q_k ?_
  | refine q_a ?_
  | refine q_b ?_
  | refine A_ct rfl ?_
  | refine A_cf rfl ?_
  | refine zP ?_
  | refine zS ?_
  | refine q_l ?_
  | refine q_n ?_
  | refine q_h ?_
  | (refine q_c ?_; first | refine zab (zJ (id := 31) rfl) ?_ | refine zab (zJ (id := 16) rfl) ?_ | refine zab (zJ (id := 13) rfl) ?_ | refine zab (zJ (id := 10) rfl) ?_))
 refine zl (zgh (b := 1) rfl) ?_
 refine zl (zgh (b := 2) rfl) ?_
 refine zl (q_S (e1 := [(1, .ptr 1 0), (2, .ptr 2 0)]) (h1 := [(1, .var ((dvcD dvA).map .d)), (2, .var ((dvcD dvB).map .d))])) ?_
 repeat ((fail_if_success (refine stopR 5 ?_)); first
  | refine zr ?_
  | refine zA ?_
  | refine zg ?_
  | ((first | apply q_K rfl | apply q_X rfl); (first | exact q_H | fail))
  | refine zo ?_
  | refine zq ?_
  | refine q_j ?_
  | refine q_k ?_
  | refine q_a ?_
  | refine q_b ?_
  | refine A_ct rfl ?_
  | refine A_cf rfl ?_
  | refine zP ?_
  | refine zS ?_
  | refine q_l ?_
  | refine q_n ?_
  | refine q_h ?_
  | (first | refine q_O h1 ?_ | refine q_O h2 ?_))
 refine zl (q_S (e1 := [(1, .ptr 1 0), (3, strA []), (4, intA 0), (5, strA [114, 101, 119, 114, 105, 116, 101, 32, 48]), (6, intA 120)]) (h1 := [(1, .var ((dvcD dvA).map .d))])) ?_
 refine zr ?_
 refine zg ?_
 (apply O_y rfl rfl rfl; exact q_7)
 (apply O_y rfl rfl rfl; exact q_24)
 refine zab (zaO (t := 30) rfl zhi) ?_
 repeat ((fail_if_success (refine stopR 6 ?_)); first
  | refine zr ?_
  | refine zA ?_
  | refine zg ?_
  | ((first | apply q_K rfl | apply q_X rfl); (first | exact q_H | fail))
  | refine zo ?_
  | refine zq ?_
  | refine q_j ?_
  | refine q_k ?_
  | refine q_a ?_
  | refine q_b ?_
  | refine A_ct rfl ?_
  | refine A_cf rfl ?_
  | refine zP ?_
  | refine zS ?_
  | refine q_l ?_
  | refine q_n ?_
  | refine q_h ?_
  | (first | refine q_O hS ?_ | (refine q_c ?_; first | refine zab (zJ (id := 31) rfl) ?_ | refine zab (zJ (id := 16) rfl) ?_ | refine zab (zJ (id := 13) rfl) ?_ | refine zab (zJ (id := 10) rfl) ?_)))
 refine zl (q_S (e1 := [(3, strA []), (4, intA 0), (5, strA [114, 101, 119, 114, 105, 116, 101, 32, 48]), (6, intA 120), (7, dvsA [⟨[97], 2, W, [], [], [], [], [], [], [], [], []⟩, ⟨[98], 1, V, [ifB, ifA], [], [], [], [], [], [], [], []⟩]), (8, intA 0), (9, intA 0)]) (h1 := [])) ?_
 repeat (first | refine q_Y ?_ | ((first | apply q_K rfl | apply q_X rfl); (first | exact q_H | (first | exact zaH rfl rfl rfl rfl | exact zcT (j := 0) za rfl rfl rfl rfl rfl rfl (by first | (show 0 < 2; decide)) | exact zcT (j := 1) za rfl rfl rfl rfl rfl rfl (by first | (show 1 < 2; decide)) | exact zcT (j := 0) za rfl rfl rfl rfl rfl rfl (by first | (show 0 < 1; decide) | (show 0 < 2; decide))))) | refine q_U ?_)
 exact zn rfl ⟨congrArg boolA (show decide (ifB.nm = [101, 48]) = true by decide), rfl⟩
end Go.Proofs.YtoahnbmedcjpeaaGreatDoor.Ab

/-
 Texts of a proof, one behind the other (part 38).
-/
import Derived.Test.YtmmdkjanmegjdaaGreatRv1
import Derived.Test.YtmmdkjanmegjdaaGreatRv4
set_option linter.unusedSimpArgs false
set_option linter.unusedVariables false
namespace Go.Proofs.YtmmdkjanmegjdaaGreat.Ab
set_option maxRecDepth 100000
open Go.RowKit Go.Lib
theorem zoZ {s : Sh} {v : Value} (h : leafOk s v = true) : eqV v v = some true := by
 cases v <;> cases s <;> first | cases h; done | simp [eqV]
theorem ze0 {ks : List Sh} {xs : List Value} (h : leafsOk ks xs = true) : eqCells xs xs = some true := by
 induction ks generalizing xs with
 | nil =>
  cases xs with
  | nil => rfl
  | cons _ _ => cases h
 | cons k ks ih =>
  cases xs with
  | nil => cases h
  | cons x xs =>
   simp only [leafsOk, Bool.and_eq_true] at h
   simp [eqCells, zoZ h.1, ih h.2]
theorem zpD (b : Bool) : bbin .neq b b = some false := by cases b <;> rfl
section
variable {P : Program} {T : List Nat} {e : Env} {h : Heap} {o : Oper} {tab : TTab}
theorem ziy {t u : TypeId} {x y : Operand} {cs : List AVal} {xs : List Value} {ks : List Sh} (TO : TabOk P tab) (hst : ∀ t, (tlook tab t).isSome = true → P.stoodInHeld t = false) (ho : o.op = .binOp .neq t x y u) (hx : aev e x = some (.agg cs)) (hy : aev e y = some (.agg cs))
  (h1 : scL cs = some xs) (hk : leafs tab 8 t = some ks) (hag : tagg tab t = some true) (hkx : leafsOk ks xs = true) (hg : P.eqGuardType P.depth t = false) : AYield P T e h o (.d (.sc (.bool false))) :=
 Y_eq TO hst ho hx hy h1 h1 hk hag hkx hkx hg (ze0 hkx) rfl
theorem ziA {t u : TypeId} {x y : Operand} {cs : List AVal} {xs : List Value} {ks : List Sh} (TO : TabOk P tab) (hst : ∀ t, (tlook tab t).isSome = true → P.stoodInHeld t = false) (ho : o.op = .binOp .eql t x y u) (hx : aev e x = some (.agg cs)) (hy : aev e y = some (.agg cs))
  (h1 : scL cs = some xs) (hk : leafs tab 8 t = some ks) (hag : tagg tab t = some true) (hkx : leafsOk ks xs = true) (hg : P.eqGuardType P.depth t = false) : AYield P T e h o (.d (.sc (.bool true))) :=
 Y_eq TO hst ho hx hy h1 h1 hk hag hkx hkx hg (ze0 hkx) rfl
theorem zma {t u : TypeId} {x y : Operand} {k : IntKind} {a : Int} (ho : o.op = .binOp .neq t x y u) (hx : aev e x = some (.d (.sc (.int k a)))) (hy : aev e y = some (.d (.sc (.int k a)))) : AYield P T e h o (.d (.sc (.bool false))) :=
 zcJ (r := .bool false) ho hx hy (by simp [ibin])
theorem zmh {t u : TypeId} {x y : Operand} {k : IntKind} {a : Int} (ho : o.op = .binOp .eql t x y u) (hx : aev e x = some (.d (.sc (.int k a)))) (hy : aev e y = some (.d (.sc (.int k a)))) : AYield P T e h o (.d (.sc (.bool true))) :=
 zcJ (r := .bool true) ho hx hy (by simp [ibin])
theorem zmb {t u : TypeId} {x y : Operand} {a : Bool} (TO : TabOk P tab) (ho : o.op = .binOp .neq t x y u) (ht : tbool tab t = true) (hx : aev e x = some (.d (.sc (.bool a)))) (hy : aev e y = some (.d (.sc (.bool a)))) : AYield P T e h o (.d (.sc (.bool false))) :=
 zfc TO ho ht hx hy (zpD a)
end
attribute [local irreducible] AWp AOps AQ AYield AEff ACall AWk AAny AAt AThen AIn APost NoPanic
theorem zgJ (l : List Int) (hn : l.length ≤ 1000000000000) : ACall Tryz.prog 23 [usA l, usA l] [] (Just (boolA true)) := by
 refine zf za Tryz.func23 rfl Tryz.ntmps23 (congrArg Array.toList Tryz.results23) (by kernel_rfl) rfl ?_
 repeat (first | refine q_Y ?_ | ((first | apply q_K rfl | apply q_X rfl); (first | exact q_H | (first | exact zma rfl rfl rfl | exact zmh rfl rfl rfl | exact zmb za rfl rfl rfl rfl | exact ziy za zap rfl rfl rfl rfl rfl rfl rfl (by kernel_rfl) | exact ziA za zap rfl rfl rfl rfl rfl rfl rfl (by kernel_rfl)))) | refine q_U ?_)
 refine zw (fun k : Nat => [(0, usA l), (1, usA l), (5, intA (k : Int))]) (fun _ => []) (fun k => k ≤ l.length) (fun k => l.length - k) 0 (Nat.zero_le _) (q_S) ?_
 intro k hkl
 try dsimp only
 by_cases hk : k < l.length
 ·
  repeat (first | refine q_Y ?_ | ((first | apply q_K rfl | apply q_X rfl); (first | exact q_A | exact q_R (w := (by first | exact zn zV l k _ hk (by decide) | exact zx zV l k _ _ hk (by decide) | exact zaj zV l k _ _ _ hk (by decide) | rfl)) | exact q_B | (first | exact zma rfl rfl rfl | exact zmh rfl rfl rfl | exact zmb za rfl rfl rfl rfl | exact ziy za zap rfl rfl rfl rfl rfl rfl rfl (by kernel_rfl) | exact ziA za zap rfl rfl rfl rfl rfl rfl rfl (by kernel_rfl)))) | refine q_U ?_)
  exact ⟨k + 1, by omega, by omega, q_S⟩
 ·
  repeat (first | refine q_Y ?_ | ((first | apply q_K rfl | apply q_X rfl); (exact q_H)) | refine q_U ?_)
  exact zk rfl ⟨rfl, rfl⟩
theorem zkG (s : Sbj) (h1 : s.path.length ≤ 1000000000000) (h2 : s.com.length ≤ 1000000000000) : ACall Tryz.prog 7 [aggD (sbjD s), aggD (sbjD s)] [] (Just (boolA true)) := by
 have c1 := zgJ s.path h1
 have c2 := zgJ s.com h2
 refine zf za Tryz.func7 rfl Tryz.ntmps7 (congrArg Array.toList Tryz.results7) (by kernel_rfl) rfl ?_
 repeat (first | refine q_Y ?_ | ((first | apply q_K rfl | apply q_X rfl); (first | exact q_H | (first | exact zma rfl rfl rfl | exact zmh rfl rfl rfl | exact zmb za rfl rfl rfl rfl | exact ziy za zap rfl rfl rfl rfl rfl rfl rfl (by kernel_rfl) | exact ziA za zap rfl rfl rfl rfl rfl rfl rfl (by kernel_rfl)))) | refine q_U ?_ | first | refine q_O c1 ?_ | refine q_O c2 ?_)
 exact zk rfl ⟨rfl, rfl⟩
end Go.Proofs.YtmmdkjanmegjdaaGreat.Ab

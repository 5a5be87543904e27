/-
 Texts of a proof, one behind the other (part 36).
-/
import Derived.Test.YtoahnbmedcjpeaaGreatDoorMf1
import Derived.Test.YtoahnbmedcjpeaaGreatDoorMf2
import Derived.Test.YtoahnbmedcjpeaaGreatDoorMf3
set_option linter.unusedSimpArgs false
set_option linter.unusedVariables false
namespace Go.Proofs.YtoahnbmedcjpeaaGreatDoor.Ab
set_option maxRecDepth 100000
open Go.RowKit Go.Lib
theorem zie {s : Sh} {v : Value} (h : leafOk s v = true) : eqV v v = some true := by
 cases v <;> cases s <;> first | cases h; done | simp [eqV]
theorem zeo {ks : List Sh} {xs : List Value} (h : leafsOk ks xs = true) : eqCells xs xs = some true := by
 induction ks generalizing xs with
 | nil =>
  cases xs with
  | nil => rfl
  | cons _ _ => cases h
 | cons k ks ih =>
  cases xs with
  | nil => cases h
  | cons x xs =>
   simp only [leafsOk, Bool.and_eq_true] at h
   simp [eqCells, zie h.1, ih h.2]
theorem zj3 (b : Bool) : bbin .neq b b = some false := by cases b <;> rfl
section
variable {P : Program} {T : List Nat} {e : Env} {h : Heap} {o : Oper} {tab : TTab}
theorem zH {t u : TypeId} {x y : Operand} {cs : List AVal} {xs : List Value} {ks : List Sh} (TO : TabOk P tab) (hst : ∀ t, (tlook tab t).isSome = true → P.stoodInHeld t = false) (ho : o.op = .binOp .neq t x y u) (hx : aev e x = some (.agg cs)) (hy : aev e y = some (.agg cs))
  (h1 : scL cs = some xs) (hk : leafs tab 8 t = some ks) (hag : tagg tab t = some true) (hkx : leafsOk ks xs = true) (hg : P.eqGuardType P.depth t = false) : AYield P T e h o (.d (.sc (.bool false))) :=
 Y_eq TO hst ho hx hy h1 h1 hk hag hkx hkx hg (zeo hkx) rfl
theorem zz {t u : TypeId} {x y : Operand} {k : IntKind} {a : Int} (ho : o.op = .binOp .neq t x y u) (hx : aev e x = some (.d (.sc (.int k a)))) (hy : aev e y = some (.d (.sc (.int k a)))) : AYield P T e h o (.d (.sc (.bool false))) :=
 zcy (r := .bool false) ho hx hy (by simp [ibin])
theorem zN {t u : TypeId} {x y : Operand} {a : List UInt8} (ho : o.op = .binOp .neq t x y u) (hx : aev e x = some (strA a)) (hy : aev e y = some (strA a)) : AYield P T e h o (.d (.sc (.bool false))) :=
 zaH ho hx hy (by simp [sbin])
theorem zD {t u : TypeId} {x y : Operand} {a : Bool} (TO : TabOk P tab) (ho : o.op = .binOp .neq t x y u) (ht : tbool tab t = true) (hx : aev e x = some (.d (.sc (.bool a)))) (hy : aev e y = some (.d (.sc (.bool a)))) : AYield P T e h o (.d (.sc (.bool false))) :=
 zc8 TO ho ht hx hy (zj3 a)
end
attribute [local irreducible] AWp AOps AQ AYield AEff ACall AWk AAny AAt AThen AIn APost NoPanic
theorem zaz (l : List Int) (hn : l.length ≤ 140737488355328) : ACall Tryz.prog 72 [.d (.sl (l.flatMap u1D) l.length), .d (.sl (l.flatMap u1D) l.length)] [] (Just (boolA true)) := by
 refine zb za Tryz.func72 rfl Tryz.ntmps72 (congrArg Array.toList Tryz.results72) (by kernel_rfl) rfl ?_
 repeat (first | refine q_Y ?_ | ((first | apply q_K rfl | apply q_X rfl); (first | exact q_H | (first | exact zz rfl rfl rfl | exact zN rfl rfl rfl | exact zD za rfl rfl rfl rfl | exact zH za zB rfl rfl rfl rfl rfl rfl rfl (by kernel_rfl)))) | refine q_U ?_)
 refine zt (fun k : Nat => [(0, .d (.sl (l.flatMap u1D) l.length)), (1, .d (.sl (l.flatMap u1D) l.length)), (5, intA (k : Int))]) (fun _ => []) (fun k => k ≤ l.length) (fun k => l.length - k) 0 (Nat.zero_le _) (q_S) ?_
 intro k hkl
 try dsimp only
 by_cases hk : k < l.length
 ·
  repeat (first | refine q_Y ?_ | ((first | apply q_K rfl | apply q_X rfl); (first | exact q_A | exact q_R (w := (by first | exact zd zbK l k _ hk (by decide) | exact zC zbK l k _ _ hk (by decide) | exact zae zbK l k _ _ _ hk (by decide) | rfl)) | exact q_B | (first | exact zz rfl rfl rfl | exact zN rfl rfl rfl | exact zD za rfl rfl rfl rfl | exact zH za zB rfl rfl rfl rfl rfl rfl rfl (by kernel_rfl)))) | refine q_U ?_)
  exact ⟨k + 1, by omega, by omega, q_S⟩
 ·
  repeat (first | refine q_Y ?_ | ((first | apply q_K rfl | apply q_X rfl); (exact q_H)) | refine q_U ?_)
  exact zn rfl ⟨rfl, rfl⟩
theorem zco (l : List Rds) (hn : l.length ≤ 140737488355328) : ACall Tryz.prog 159 [.d (.sl (l.flatMap rdsD) l.length), .d (.sl (l.flatMap rdsD) l.length)] [] (Just (boolA true)) := by
 refine zb za Tryz.func159 rfl Tryz.ntmps159 (congrArg Array.toList Tryz.results159) (by kernel_rfl) rfl ?_
 repeat (first | refine q_Y ?_ | ((first | apply q_K rfl | apply q_X rfl); (first | exact q_H | (first | exact zz rfl rfl rfl | exact zN rfl rfl rfl | exact zD za rfl rfl rfl rfl | exact zH za zB rfl rfl rfl rfl rfl rfl rfl (by kernel_rfl)))) | refine q_U ?_)
 refine zt (fun k : Nat => [(0, .d (.sl (l.flatMap rdsD) l.length)), (1, .d (.sl (l.flatMap rdsD) l.length)), (5, intA (k : Int))]) (fun _ => []) (fun k => k ≤ l.length) (fun k => l.length - k) 0 (Nat.zero_le _) (q_S) ?_
 intro k hkl
 try dsimp only
 by_cases hk : k < l.length
 ·
  repeat (first | refine q_Y ?_ | ((first | apply q_K rfl | apply q_X rfl); (first | exact q_A | exact q_R (w := (by first | exact zd zbo l k _ hk (by decide) | exact zC zbo l k _ _ hk (by decide) | exact zae zbo l k _ _ _ hk (by decide) | rfl)) | exact q_B | (first | exact zz rfl rfl rfl | exact zN rfl rfl rfl | exact zD za rfl rfl rfl rfl | exact zH za zB rfl rfl rfl rfl rfl rfl rfl (by kernel_rfl)))) | refine q_U ?_)
  exact ⟨k + 1, by omega, by omega, q_S⟩
 ·
  repeat (first | refine q_Y ?_ | ((first | apply q_K rfl | apply q_X rfl); (exact q_H)) | refine q_U ?_)
  exact zn rfl ⟨rfl, rfl⟩
theorem zeK (l : List Rul) (hn : l.length ≤ 140737488355328) : ACall Tryz.prog 71 [.d (.sl (l.flatMap rulD) l.length), .d (.sl (l.flatMap rulD) l.length)] [] (Just (boolA true)) := by
 refine zb za Tryz.func71 rfl Tryz.ntmps71 (congrArg Array.toList Tryz.results71) (by kernel_rfl) rfl ?_
 repeat (first | refine q_Y ?_ | ((first | apply q_K rfl | apply q_X rfl); (first | exact q_H | (first | exact zz rfl rfl rfl | exact zN rfl rfl rfl | exact zD za rfl rfl rfl rfl | exact zH za zB rfl rfl rfl rfl rfl rfl rfl (by kernel_rfl)))) | refine q_U ?_)
 refine zt (fun k : Nat => [(0, .d (.sl (l.flatMap rulD) l.length)), (1, .d (.sl (l.flatMap rulD) l.length)), (5, intA (k : Int))]) (fun _ => []) (fun k => k ≤ l.length) (fun k => l.length - k) 0 (Nat.zero_le _) (q_S) ?_
 intro k hkl
 try dsimp only
 by_cases hk : k < l.length
 ·
  repeat (first | refine q_Y ?_ | ((first | apply q_K rfl | apply q_X rfl); (first | exact q_A | exact q_R (w := (by first | exact zd zbn l k _ hk (by decide) | exact zC zbn l k _ _ hk (by decide) | exact zae zbn l k _ _ _ hk (by decide) | rfl)) | exact q_B | (first | exact zz rfl rfl rfl | exact zN rfl rfl rfl | exact zD za rfl rfl rfl rfl | exact zH za zB rfl rfl rfl rfl rfl rfl rfl (by kernel_rfl)))) | refine q_U ?_)
  exact ⟨k + 1, by omega, by omega, q_S⟩
 ·
  repeat (first | refine q_Y ?_ | ((first | apply q_K rfl | apply q_X rfl); (exact q_H)) | refine q_U ?_)
  exact zn rfl ⟨rfl, rfl⟩
theorem zfv (l : List Pfx) (hn : l.length ≤ 140737488355328) : ACall Tryz.prog 160 [.d (.sl (l.flatMap pfxD) l.length), .d (.sl (l.flatMap pfxD) l.length)] [] (Just (boolA true)) := by
 refine zb za Tryz.func160 rfl Tryz.ntmps160 (congrArg Array.toList Tryz.results160) (by kernel_rfl) rfl ?_
 repeat (first | refine q_Y ?_ | ((first | apply q_K rfl | apply q_X rfl); (first | exact q_H | (first | exact zz rfl rfl rfl | exact zN rfl rfl rfl | exact zD za rfl rfl rfl rfl | exact zH za zB rfl rfl rfl rfl rfl rfl rfl (by kernel_rfl)))) | refine q_U ?_)
 refine zt (fun k : Nat => [(0, .d (.sl (l.flatMap pfxD) l.length)), (1, .d (.sl (l.flatMap pfxD) l.length)), (5, intA (k : Int))]) (fun _ => []) (fun k => k ≤ l.length) (fun k => l.length - k) 0 (Nat.zero_le _) (q_S) ?_
 intro k hkl
 try dsimp only
 by_cases hk : k < l.length
 ·
  repeat (first | refine q_Y ?_ | ((first | apply q_K rfl | apply q_X rfl); (first | exact q_A | exact q_R (w := (by first | exact zd za8 l k _ hk (by decide) | exact zC za8 l k _ _ hk (by decide) | exact zae za8 l k _ _ _ hk (by decide) | rfl)) | exact q_B | (first | exact zz rfl rfl rfl | exact zN rfl rfl rfl | exact zD za rfl rfl rfl rfl | exact zH za zB rfl rfl rfl rfl rfl rfl rfl (by kernel_rfl)))) | refine q_U ?_)
  exact ⟨k + 1, by omega, by omega, q_S⟩
 ·
  repeat (first | refine q_Y ?_ | ((first | apply q_K rfl | apply q_X rfl); (exact q_H)) | refine q_U ?_)
  exact zn rfl ⟨rfl, rfl⟩
end Go.Proofs.YtoahnbmedcjpeaaGreatDoor.Ab

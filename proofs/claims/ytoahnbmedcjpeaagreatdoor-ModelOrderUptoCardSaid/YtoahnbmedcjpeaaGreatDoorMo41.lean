/-
 Texts of a proof, one behind the other (part 42).
-/
import Derived.Test.YtoahnbmedcjpeaaGreatDoorMo1
import Derived.Test.YtoahnbmedcjpeaaGreatDoorMo2
import Derived.Test.YtoahnbmedcjpeaaGreatDoorMo3
set_option linter.unusedSimpArgs false
set_option linter.unusedVariables false
namespace Go.Proofs.YtoahnbmedcjpeaaGreatDoor.Ab
set_option maxRecDepth 100000
open Go.RowKit Go.Lib
theorem zja {s : Sh} {v : Value} (h : leafOk s v = true) : eqV v v = some true := by
 cases v <;> cases s <;> first | cases h; done | simp [eqV]
theorem ze1 {ks : List Sh} {xs : List Value} (h : leafsOk ks xs = true) : eqCells xs xs = some true := by
 induction ks generalizing xs with
 | nil =>
  cases xs with
  | nil => rfl
  | cons _ _ => cases h
 | cons k ks ih =>
  cases xs with
  | nil => cases h
  | cons x xs =>
   simp only [leafsOk, Bool.and_eq_true] at h
   simp [eqCells, zja h.1, ih h.2]
theorem zkV (b : Bool) : bbin .neq b b = some false := by cases b <;> rfl
section
variable {P : Program} {T : List Nat} {e : Env} {h : Heap} {o : Oper} {tab : TTab}
theorem zJ {t u : TypeId} {x y : Operand} {cs : List AVal} {xs : List Value} {ks : List Sh} (TO : TabOk P tab) (hst : ∀ t, (tlook tab t).isSome = true → P.stoodInHeld t = false) (ho : o.op = .binOp .neq t x y u) (hx : aev e x = some (.agg cs)) (hy : aev e y = some (.agg cs))
  (h1 : scL cs = some xs) (hk : leafs tab 8 t = some ks) (hag : tagg tab t = some true) (hkx : leafsOk ks xs = true) (hg : P.eqGuardType P.depth t = false) : AYield P T e h o (.d (.sc (.bool false))) :=
 Y_eq TO hst ho hx hy h1 h1 hk hag hkx hkx hg (ze1 hkx) rfl
theorem zP {t u : TypeId} {x y : Operand} {k : IntKind} {a : Int} (ho : o.op = .binOp .neq t x y u) (hx : aev e x = some (.d (.sc (.int k a)))) (hy : aev e y = some (.d (.sc (.int k a)))) : AYield P T e h o (.d (.sc (.bool false))) :=
 zc4 (r := .bool false) ho hx hy (by simp [ibin])
theorem zS {t u : TypeId} {x y : Operand} {a : List UInt8} (ho : o.op = .binOp .neq t x y u) (hx : aev e x = some (strA a)) (hy : aev e y = some (strA a)) : AYield P T e h o (.d (.sc (.bool false))) :=
 za9 ho hx hy (by simp [sbin])
theorem zH {t u : TypeId} {x y : Operand} {a : Bool} (TO : TabOk P tab) (ho : o.op = .binOp .neq t x y u) (ht : tbool tab t = true) (hx : aev e x = some (.d (.sc (.bool a)))) (hy : aev e y = some (.d (.sc (.bool a)))) : AYield P T e h o (.d (.sc (.bool false))) :=
 zgP TO ho ht hx hy (zkV a)
end
attribute [local irreducible] AWp AOps AQ AYield AEff ACall AWk AAny AAt AThen AIn APost NoPanic
theorem zaM (l : List Int) (hn : l.length ≤ 140737488355328) : ACall Tryz.prog 72 [.d (.sl (l.flatMap u1D) l.length), .d (.sl (l.flatMap u1D) l.length)] [] (Just (boolA true)) := by
 refine zb za Tryz.func72 rfl Tryz.ntmps72 (congrArg Array.toList Tryz.results72) (by kernel_rfl) rfl ?_
 repeat (first | refine q_Y ?_ | ((first | apply q_K rfl | apply q_X rfl); (first | exact q_H | (first | exact zP rfl rfl rfl | exact zS rfl rfl rfl | exact zH za rfl rfl rfl rfl | exact zJ za zO rfl rfl rfl rfl rfl rfl rfl (by kernel_rfl)))) | refine q_U ?_)
 refine zw (fun k : Nat => [(0, .d (.sl (l.flatMap u1D) l.length)), (1, .d (.sl (l.flatMap u1D) l.length)), (5, intA (k : Int))]) (fun _ => []) (fun k => k ≤ l.length) (fun k => l.length - k) 0 (Nat.zero_le _) (q_S) ?_
 intro k hkl
 try dsimp only
 by_cases hk : k < l.length
 ·
  repeat (first | refine q_Y ?_ | ((first | apply q_K rfl | apply q_X rfl); (first | exact q_A | exact q_R (w := (by first | exact zj zbf l k _ hk (by decide) | exact zx zbf l k _ _ hk (by decide) | exact zR zbf l k _ _ _ hk (by decide) | rfl)) | exact q_B | (first | exact zP rfl rfl rfl | exact zS rfl rfl rfl | exact zH za rfl rfl rfl rfl | exact zJ za zO rfl rfl rfl rfl rfl rfl rfl (by kernel_rfl)))) | refine q_U ?_)
  exact ⟨k + 1, by omega, by omega, q_S⟩
 ·
  repeat (first | refine q_Y ?_ | ((first | apply q_K rfl | apply q_X rfl); (exact q_H)) | refine q_U ?_)
  exact zA rfl ⟨rfl, rfl⟩
theorem zcR (l : List Rds) (hn : l.length ≤ 140737488355328) : ACall Tryz.prog 159 [.d (.sl (l.flatMap rdsD) l.length), .d (.sl (l.flatMap rdsD) l.length)] [] (Just (boolA true)) := by
 refine zb za Tryz.func159 rfl Tryz.ntmps159 (congrArg Array.toList Tryz.results159) (by kernel_rfl) rfl ?_
 repeat (first | refine q_Y ?_ | ((first | apply q_K rfl | apply q_X rfl); (first | exact q_H | (first | exact zP rfl rfl rfl | exact zS rfl rfl rfl | exact zH za rfl rfl rfl rfl | exact zJ za zO rfl rfl rfl rfl rfl rfl rfl (by kernel_rfl)))) | refine q_U ?_)
 refine zw (fun k : Nat => [(0, .d (.sl (l.flatMap rdsD) l.length)), (1, .d (.sl (l.flatMap rdsD) l.length)), (5, intA (k : Int))]) (fun _ => []) (fun k => k ≤ l.length) (fun k => l.length - k) 0 (Nat.zero_le _) (q_S) ?_
 intro k hkl
 try dsimp only
 by_cases hk : k < l.length
 ·
  repeat (first | refine q_Y ?_ | ((first | apply q_K rfl | apply q_X rfl); (first | exact q_A | exact q_R (w := (by first | exact zj za7 l k _ hk (by decide) | exact zx za7 l k _ _ hk (by decide) | exact zR za7 l k _ _ _ hk (by decide) | rfl)) | exact q_B | (first | exact zP rfl rfl rfl | exact zS rfl rfl rfl | exact zH za rfl rfl rfl rfl | exact zJ za zO rfl rfl rfl rfl rfl rfl rfl (by kernel_rfl)))) | refine q_U ?_)
  exact ⟨k + 1, by omega, by omega, q_S⟩
 ·
  repeat (first | refine q_Y ?_ | ((first | apply q_K rfl | apply q_X rfl); (exact q_H)) | refine q_U ?_)
  exact zA rfl ⟨rfl, rfl⟩
theorem zfs (l : List Rul) (hn : l.length ≤ 140737488355328) : ACall Tryz.prog 71 [.d (.sl (l.flatMap rulD) l.length), .d (.sl (l.flatMap rulD) l.length)] [] (Just (boolA true)) := by
 refine zb za Tryz.func71 rfl Tryz.ntmps71 (congrArg Array.toList Tryz.results71) (by kernel_rfl) rfl ?_
 repeat (first | refine q_Y ?_ | ((first | apply q_K rfl | apply q_X rfl); (first | exact q_H | (first | exact zP rfl rfl rfl | exact zS rfl rfl rfl | exact zH za rfl rfl rfl rfl | exact zJ za zO rfl rfl rfl rfl rfl rfl rfl (by kernel_rfl)))) | refine q_U ?_)
 refine zw (fun k : Nat => [(0, .d (.sl (l.flatMap rulD) l.length)), (1, .d (.sl (l.flatMap rulD) l.length)), (5, intA (k : Int))]) (fun _ => []) (fun k => k ≤ l.length) (fun k => l.length - k) 0 (Nat.zero_le _) (q_S) ?_
 intro k hkl
 try dsimp only
 by_cases hk : k < l.length
 ·
  repeat (first | refine q_Y ?_ | ((first | apply q_K rfl | apply q_X rfl); (first | exact q_A | exact q_R (w := (by first | exact zj zbj l k _ hk (by decide) | exact zx zbj l k _ _ hk (by decide) | exact zR zbj l k _ _ _ hk (by decide) | rfl)) | exact q_B | (first | exact zP rfl rfl rfl | exact zS rfl rfl rfl | exact zH za rfl rfl rfl rfl | exact zJ za zO rfl rfl rfl rfl rfl rfl rfl (by kernel_rfl)))) | refine q_U ?_)
  exact ⟨k + 1, by omega, by omega, q_S⟩
 ·
  repeat (first | refine q_Y ?_ | ((first | apply q_K rfl | apply q_X rfl); (exact q_H)) | refine q_U ?_)
  exact zA rfl ⟨rfl, rfl⟩
theorem zgj (l : List Pfx) (hn : l.length ≤ 140737488355328) : ACall Tryz.prog 160 [.d (.sl (l.flatMap pfxD) l.length), .d (.sl (l.flatMap pfxD) l.length)] [] (Just (boolA true)) := by
 refine zb za Tryz.func160 rfl Tryz.ntmps160 (congrArg Array.toList Tryz.results160) (by kernel_rfl) rfl ?_
 repeat (first | refine q_Y ?_ | ((first | apply q_K rfl | apply q_X rfl); (first | exact q_H | (first | exact zP rfl rfl rfl | exact zS rfl rfl rfl | exact zH za rfl rfl rfl rfl | exact zJ za zO rfl rfl rfl rfl rfl rfl rfl (by kernel_rfl)))) | refine q_U ?_)
 refine zw (fun k : Nat => [(0, .d (.sl (l.flatMap pfxD) l.length)), (1, .d (.sl (l.flatMap pfxD) l.length)), (5, intA (k : Int))]) (fun _ => []) (fun k => k ≤ l.length) (fun k => l.length - k) 0 (Nat.zero_le _) (q_S) ?_
 intro k hkl
 try dsimp only
 by_cases hk : k < l.length
 ·
  repeat (first | refine q_Y ?_ | ((first | apply q_K rfl | apply q_X rfl); (first | exact q_A | exact q_R (w := (by first | exact zj zbB l k _ hk (by decide) | exact zx zbB l k _ _ hk (by decide) | exact zR zbB l k _ _ _ hk (by decide) | rfl)) | exact q_B | (first | exact zP rfl rfl rfl | exact zS rfl rfl rfl | exact zH za rfl rfl rfl rfl | exact zJ za zO rfl rfl rfl rfl rfl rfl rfl (by kernel_rfl)))) | refine q_U ?_)
  exact ⟨k + 1, by omega, by omega, q_S⟩
 ·
  repeat (first | refine q_Y ?_ | ((first | apply q_K rfl | apply q_X rfl); (exact q_H)) | refine q_U ?_)
  exact zA rfl ⟨rfl, rfl⟩
end Go.Proofs.YtoahnbmedcjpeaaGreatDoor.Ab

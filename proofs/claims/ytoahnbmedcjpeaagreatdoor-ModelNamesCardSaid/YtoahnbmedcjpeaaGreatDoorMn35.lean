/-
 Texts of a proof, one behind the other (part 36).
-/
import Derived.Test.YtoahnbmedcjpeaaGreatDoorMn3
import Derived.Test.YtoahnbmedcjpeaaGreatDoorMn29
import Derived.Test.YtoahnbmedcjpeaaGreatDoorMn34
set_option linter.unusedSimpArgs false
set_option linter.unusedVariables false
namespace Go.Proofs.YtoahnbmedcjpeaaGreatDoor.Ab
set_option maxRecDepth 100000
open Go.RowKit Go.Lib
attribute [local irreducible] AWp AOps AQ AYield AEff ACall AWk AAny AAt AThen AIn APost NoPanic
section
variable {P : Program} {nt : Nat} {Q : Post} {e : Env} {h : Heap} {ops : Array Oper} {o : Oper} {rest : List Oper} {T : List Nat} {tab : TTab}
theorem stopR {z : Bool} (k : Nat) {y : Code} {a : Array Oper} {b : Bool} (H : AWp z P nt (.seq (.region k a b) y) Q e h) : AWp z P nt (.seq (.region k a b) y) Q e h := H
theorem zhV {t K E id n : Nat} {x y : Operand} {s : List UInt8} {l : List (List UInt8)} (hn : (aget (cntL l) s).getD 0 = n) (TO : TabOk P tab) (ho : o.op = .lookup t x y false) (ht : tmap tab t = some (K, E)) (hK : tstr tab K = true) (hz : ∀ W, (zeroValue E).run P W = .ok (.int .i64 0) W) (hx : aev e x = some (.mp id)) (hb : look h id = some (cntB l)) (hT : T.contains id = false) (hy : aev e y = some (strA s)) :
  AYield P T e h o (natA' n) := by
 subst hn; exact zbg TO ho ht hK hz hx hb hT hy
theorem zkt {t K E id n : Nat} {x y z : Operand} {s : List UInt8} {l : List (List UInt8)} (hn : (aget (cntL l) s).getD 0 = n) (TO : TabOk P tab) (hw : awant ops e o = some true) (hdst : o.dst = none) (ho : o.op = .mapUpdate t x y z) (ht : tmap tab t = some (K, E)) (hK : tstr tab K = true) (hx : aev e x = some (.mp id)) (hb : look h id = some (cntB l)) (hy : aev e y = some (strA s)) (hq : aev e z = some (natA' (n + 1)))
  (HK : AOps P nt ops Q rest e ((id, cntB (l ++ [s])) :: h)) : AOps P nt ops Q (o :: rest) e h := by
 subst hn; exact zby TO hw hdst ho ht hK hx hb hy hq HK
end
def aliveB (x : Ifx) : Bool := !x.down && ((x.a != 0) || (x.b != 0))
theorem zeB (x : Ifx) : ACall Tryz.prog 143 [gA ifxD x] [] (Just (boolA ((x.a != 0) || (x.b != 0)))) := by
 obtain ⟨x0, x1, xa, xb, xd, x5, x6, x7, x8, x9, x10⟩ := x
 dsimp only
 refine zc za Tryz.func143 rfl Tryz.ntmps143 (congrArg Array.toList Tryz.results143) (by kernel_rfl) rfl ?_
 refine zn ?_
 (first | refine ze ?_ | refine zg rfl mixed (by kernel_rfl) ?_)
 repeat' (first | ((first | apply q_K rfl | apply q_X rfl); (first | exact q_H | fail)) | refine q_d ?_ | refine q_a ?_ | refine q_b ?_ | refine q_e ?_ | refine q_f ?_ | refine q_g ?_ | ((fail_if_success (refine O_wt rfl ?_)); refine O_gs rfl rfl (fun _ => ?_) (fun _ => ?_)) | ((fail_if_success (refine Q_wt rfl ?_)); refine Q_gs rfl rfl (fun _ => ?_) (fun _ => ?_)) | refine zi ?_ | refine zk ?_ | refine q_j ?_ | fail)
 refine zn ?_
 (first | refine ze ?_ | refine zg rfl mixed (by kernel_rfl) ?_)
 repeat' (first | ((first | apply q_K rfl | apply q_X rfl); (first | exact q_H | (exact q_13))) | refine q_d ?_ | refine q_a ?_ | refine q_b ?_ | refine q_e ?_ | refine q_f ?_ | refine q_g ?_ | ((fail_if_success (refine O_wt rfl ?_)); refine O_gs rfl rfl (fun _ => ?_) (fun _ => ?_)) | ((fail_if_success (refine Q_wt rfl ?_)); refine Q_gs rfl rfl (fun _ => ?_) (fun _ => ?_)) | refine zi ?_ | refine zk ?_ | refine q_j ?_ | fail)
 all_goals (refine zS ?_)
 all_goals (exact zo rfl ⟨congrArg boolA (by simp only [*, Bool.or_true, Bool.or_false, Bool.true_or, Bool.false_or]), rfl⟩)
theorem ziR (x : Ifx) : ACall Tryz.prog 30 [gA ifxD x] [] (Just (boolA (aliveB x))) := by
 have h1 := zeB x
 unfold aliveB
 obtain ⟨x0, x1, xa, xb, xd, x5, x6, x7, x8, x9, x10⟩ := x
 dsimp only at h1 ⊢
 obtain ⟨q, hq⟩ : ∃ q, ((xa != 0) || (xb != 0)) = q := ⟨_, rfl⟩
 rw [hq] at h1 ⊢
 refine zc za Tryz.func30 rfl Tryz.ntmps30 (congrArg Array.toList Tryz.results30) (by kernel_rfl) rfl ?_
 refine zn ?_
 (first | refine ze ?_ | refine zg rfl mixed (by kernel_rfl) ?_)
 repeat' (first | ((first | apply q_K rfl | apply q_X rfl); (first | exact q_H | fail)) | refine q_d ?_ | refine q_a ?_ | refine q_b ?_ | refine q_e ?_ | refine q_f ?_ | refine q_g ?_ | ((fail_if_success (refine O_wt rfl ?_)); refine O_gs rfl rfl (fun _ => ?_) (fun _ => ?_)) | ((fail_if_success (refine Q_wt rfl ?_)); refine Q_gs rfl rfl (fun _ => ?_) (fun _ => ?_)) | refine zi ?_ | refine zk ?_ | refine q_j ?_ | fail)
 refine zn ?_
 (first | refine ze ?_ | refine zg rfl mixed (by kernel_rfl) ?_)
 repeat' (first | ((first | apply q_K rfl | apply q_X rfl); (first | exact q_H | fail)) | refine q_d ?_ | refine q_a ?_ | refine q_b ?_ | refine q_e ?_ | refine q_f ?_ | refine q_g ?_ | ((fail_if_success (refine O_wt rfl ?_)); refine O_gs rfl rfl (fun _ => ?_) (fun _ => ?_)) | ((fail_if_success (refine Q_wt rfl ?_)); refine Q_gs rfl rfl (fun _ => ?_) (fun _ => ?_)) | refine zi ?_ | refine zk ?_ | refine q_j ?_ | refine q_O h1 ?_)
 all_goals (refine zS ?_)
 all_goals (exact zo rfl ⟨congrArg boolA (by simp only [*, Bool.and_true, Bool.and_false, Bool.true_and, Bool.false_and]), rfl⟩)
abbrev dvsA (l : List Dvc) : AVal := .d (.sl (l.flatMap dvcD) l.length)
theorem zeq (d : Dvc) : (dvcD d).length = 12 := rfl
abbrev snE (l : List Dvc) (k : Nat) : Env := [(9, .mp 943), (10, .mp 944), (11, .mp 945), (12, .mp 946), (13, .row 13), (47, dvsA l), (48, intA (l.length : Int)), (49, intA (k : Int))]
abbrev snH (ns : List (List UInt8)) (o : List Dvc) : Heap := [(943, cntB ns), (944, .map []), (945, .map []), (946, .map []), (13, gR 33 12 dvcD o)]
abbrev dnm (d : Dvc) : List UInt8 := d.nm
end Go.Proofs.YtoahnbmedcjpeaaGreatDoor.Ab

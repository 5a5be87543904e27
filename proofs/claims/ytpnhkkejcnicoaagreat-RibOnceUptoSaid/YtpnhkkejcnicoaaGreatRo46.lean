/-
  Texts of a proof, one behind the other (part 47).
-/
import Derived.Test.YtpnhkkejcnicoaaGreatRo1
import Derived.Test.YtpnhkkejcnicoaaGreatRo6
set_option linter.unusedVariables false
set_option linter.unusedSimpArgs false
namespace Go.Proofs.YtpnhkkejcnicoaaGreat.Ab
set_option linter.unusedVariables false
set_option maxRecDepth 100000
open Go.RowKit Go.Lib
section
variable {P : Program} {T : List Nat} {e : Env} {h : Heap} {o : Oper} {tab : TTab}
theorem R_neN {t u : TypeId} {x y : Operand} {k : IntKind} {a : Int} (ho : o.op = .binOp .neq t x y u) (hx : aev e x = some (.d (.sc (.int k a)))) (hy : aev e y = some (.d (.sc (.int k a)))) : AYield P T e h o (.d (.sc (.bool false))) :=
  Y_ibin (r := .bool false) ho hx hy (by simp [ibin])
end
set_option linter.unusedSimpArgs false
attribute [local irreducible] AWp AOps AQ AYield AEff ACall AWk AAny AAt AThen AIn APost NoPanic
end Go.Proofs.YtpnhkkejcnicoaaGreat.Ab

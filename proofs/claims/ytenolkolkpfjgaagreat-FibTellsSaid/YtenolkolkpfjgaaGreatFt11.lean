/-
  Texts of a proof, one behind the other (part 12).
-/
import Derived.Test.YtenolkolkpfjgaaGreatFt5
import Derived.Test.YtenolkolkpfjgaaGreatFt8
set_option linter.unusedVariables false
set_option linter.unusedSimpArgs false
namespace Go.Proofs.YtenolkolkpfjgaaGreat.Ab
set_option linter.unusedVariables false
open Go.RowKit
section
variable {P : Program} {nt : Nat} {Q : Post} {e : Env} {h : Heap} {ops : Array Oper} {o : Oper} {rest : List Oper} {T : List Nat} {tab : TTab} {fuel i : Nat} {listed : Array Bool}
theorem T_cL {f : FuncId} {args : Array Operand} {ats : Array TypeId} {cs : List AVal} {c : AVal} {v : Value} {d : Nat} (hi : ops[i]? = some o) (hw : awant ops e o = some true) (hdst : o.dst = some d) (hd : Nat.blt d nt = true) (ho : o.op = .call { callee := .value (.func f), args := args, argTypes := ats }) (hx : aevs e args.toList = some cs)
    (H : ACall P f (cs.map (lendV h)) [] (fun c' h' => c' = c ∧ h' = [])) (hc : valA c = some v) (hrel : ∀ w F ι, VRel w F ι c v) (HK : AAny P nt ops Q T fuel (listed.setIfInBounds i true) ((d, c) :: e) h) : AAt P nt ops Q T fuel listed i e h :=
  T_eff hi hw (E_callL ho hdst hx H hd hc hrel) fun e' h' ⟨h1, h2⟩ => by subst h1 h2; exact HK
theorem O_rowTo {t el el' k kk m rid d : Nat} {x y : Operand} {cs : List Dat} {n : Nat} {q : IntKind} {i : Int} (TO : TabOk P tab) (hw : awant ops e o = some true) (hdst : o.dst = some d) (hd : Nat.blt d nt = true) (ho : o.op = .slice t x none (some y) none) (hel : telem tab t = some el) (hsz : tsize tab el = some k)
    (hx : aev e x = some (.row rid)) (hb : look h rid = some (.row el' kk n cs)) (hy : aev e y = some (.d (.sc (.int q i)))) (hid : Nat.blt rid 1000 = true) (hi : i = (m : Int)) (hm : m ≤ n)
    (HK : AOps P nt ops Q rest ((d, .row rid) :: killE rid e) ((rid, .row el' kk m (cs.take (m * kk))) :: killH rid h)) : AOps P nt ops Q (o :: rest) e h := by
  obtain ⟨te, h1, h2⟩ := telem_spec hel
  obtain ⟨te', h3, rfl⟩ := tsize_spec hsz
  subst hi
  exact O_eff (T := [rid]) hw (E_rowTo TO ho hdst h1 h2 h3 hx hb hy hm hid hd (by simp)) fun e' h' ⟨h4, h5⟩ => by subst h4 h5; exact HK
theorem T_copyS {t sT el k off1 n1 off2 n2 n id d c : Nat} {x y : Operand} {cs : List Dat} (TO : TabOk P tab) (hi : ops[i]? = some o) (hw : awant ops e o = some true) (hdst : o.dst = some d) (hd : Nat.blt d nt = true) (ho : o.op = .call { callee := .builtin .copy, args := #[x, y], argTypes := #[t, sT] })
    (hel : telem tab t = some el) (hsz : tsize tab el = some k) (hx : aev e x = some (.srow id off1 n1)) (hy : aev e y = some (.srow id off2 n2)) (hb : look h id = some (.row el k n cs)) (hT : T.contains id = true) (hc : Nat.min n2 n1 = c)
    (h1 : off1 + c * k ≤ n * k) (h2 : off2 + c * k ≤ n * k)
    (HK : AAny P nt ops Q T fuel (listed.setIfInBounds i true) ((d, .d (.sc (.int .i64 (c : Int)))) :: e) ((id, .row el k n (setW cs off1 (win cs off2 (c * k)))) :: h)) : AAt P nt ops Q T fuel listed i e h := by
  obtain ⟨te, h3, h4⟩ := telem_spec hel
  obtain ⟨te', h5, rfl⟩ := tsize_spec hsz
  subst hc
  exact T_eff hi hw (E_copyS TO ho hdst h3 h4 h5 rfl hx hy hb h1 h2 hd hT) fun e' h' ⟨h6, h7⟩ => by subst h6 h7; exact HK
end
end Go.Proofs.YtenolkolkpfjgaaGreat.Ab

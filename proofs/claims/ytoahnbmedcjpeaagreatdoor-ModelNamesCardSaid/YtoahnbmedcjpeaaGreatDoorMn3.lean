/-
 Texts of a proof, one behind the other (part 4).
-/
import Derived.ArgAppend
import Derived.Deep.AppendLies
import Derived.Laws.CopyRow
import Derived.Maps.RangeRun
import Derived.Lib.ConvBytes
import Derived.Lib.IndexMore
import Derived.Test.YtoahnbmedcjpeaaGreatDoorMn0
import Derived.Test.YtoahnbmedcjpeaaGreatDoorMn1
import Derived.Test.YtoahnbmedcjpeaaGreatDoorMn2
set_option maxRecDepth 100000
set_option linter.unusedSimpArgs false
set_option linter.unusedVariables false
namespace Go.Proofs.YtoahnbmedcjpeaaGreatDoor.Ab
open Go.RowKit

section
variable {P : Program} {nt : Nat} {Q : Post} {e : Env} {h : Heap} {ops : Array Oper} {o : Oper} {rest : List Oper} {T : List Nat} {tab : TTab}
end
end Go.Proofs.YtoahnbmedcjpeaaGreatDoor.Ab

namespace Go.Proofs.YtoahnbmedcjpeaaGreatDoor.Ab
open Go.RowKit
section
variable {P : Program} {nt : Nat} {Q : Post} {e : Env} {h : Heap} {ops : Array Oper} {o : Oper} {rest : List Oper} {T : List Nat} {tab : TTab} {fuel i : Nat} {listed : Array Bool}
theorem zcn {P : Program} {t el : TypeId} (w : World) (hu : P.underlying t = some (.slice el)) (dp : Nat) (b : Option Addr) (n c : Nat) : (Op.equalIn (dp + 1) t (.slice b n c) (.slice none 0 0)).run P w = .ok b.isNone w := by
 unfold Op.equalIn
 cases b <;> simp [run_underlying hu]
theorem zi8 {t u el : TypeId} {te : TE} {x : Operand} {d : Option Tmp} {cs : List Dat} {n : Nat} (TO : TabOk P tab) (ho : o.op = .binOp .eql t x (.const (.slice none 0 0)) u) (hdst : o.dst = d) (ht : tlook tab t = some te) (hs : te.sh = .sl el) (hx : aev e x = some (.d (.sl cs n))) (hd : dstOk nt d = true) :
  AEff P nt T e h o (fun e' h' => ∃ b : Bool, (b = true → cs = [] ∧ n = 0) ∧ e' = aput d (.d (.sc (.bool b))) e ∧ h' = h) := fun Pm F w0 pin ι a w R K Qx hK => by
 have hu := (TO t te ht).slice hs
 have hv := zm R.env hx
 have ev : a.eval (.const (.slice none 0 0)) = .slice none 0 0 := rfl
 have key : ∃ b : Bool, (b = true → cs = [] ∧ n = 0) ∧ (execOp a.eval o).run P w = .ok (.value (.bool b)) w := by
  generalize hau : a.eval x = ux at hv
  cases hv with
  | d _ _ hD =>
   cases hD with
   | nil => exact ⟨true, fun _ => ⟨rfl, rfl⟩, by simp only [execOp, ho, hau, ev, eqGuard, binOp, Op.equal]; rw [show Op.maxDepth = 9999 + 1 from rfl]; simp [zcn w hu 9999]⟩
   | sl _ _ b o2 cap vs => exact ⟨false, fun h => (by cases h), by simp only [execOp, ho, hau, ev, eqGuard, binOp, Op.equal]; rw [show Op.maxDepth = 9999 + 1 from rfl]; simp [zcn w hu 9999]⟩
   | emp ea => exact ⟨false, fun h => (by cases h), by simp only [execOp, ho, hau, ev, eqGuard, binOp, Op.equal]; rw [show Op.maxDepth = 9999 + 1 from rfl]; simp [zcn w hu 9999]⟩
 obtain ⟨b, hb, hrun⟩ := key
 unfold Oper.wp
 rw [hrun, Oper.upon_value, hdst]
 refine hK ι _ _ _ _ ⟨b, hb, rfl, rfl⟩ ⟨R.heap, R.env.aput hd R.size (zQ rfl), by rw [zx]; exact R.defers, by rw [zaD]; exact R.size⟩ ⟨CT.refl T ι w, fun id _ v r hv hr _ => ⟨v, hv, hr⟩⟩ (zx _ _ _)
theorem zaB {t u el : TypeId} {x : Operand} {d : Nat} {cs : List Dat} {n : Nat} (TO : TabOk P tab) (hw : awant ops e o = some true) (hdst : o.dst = some d) (hd : Nat.blt d nt = true) (ho : o.op = .binOp .eql t x (.const (.slice none 0 0)) u) (hel : telem tab t = some el) (hx : aev e x = some (.d (.sl cs n)))
  (HK : ∀ b : Bool, (b = true → cs = [] ∧ n = 0) → AOps P nt ops Q rest ((d, .d (.sc (.bool b))) :: e) h) : AOps P nt ops Q (o :: rest) e h := by
 obtain ⟨te, h1, h2⟩ := zJ hel
 exact zax (T := []) hw (zi8 (d := some d) TO ho hdst h1 h2 hx hd) fun e' h' ⟨b, h3, h4, h5⟩ => by subst h4 h5; exact HK b h3
end
end Go.Proofs.YtoahnbmedcjpeaaGreatDoor.Ab

namespace Go.Proofs.YtoahnbmedcjpeaaGreatDoor.Ab
open Go.RowKit
section
variable {P : Program} {nt : Nat} {Q : Post} {e : Env} {h : Heap} {ops : Array Oper} {o : Oper} {rest : List Oper} {T : List Nat} {tab : TTab} {fuel i : Nat} {listed : Array Bool}
theorem ACall.reid {f : FuncId} {args : List AVal} {p id el k n : Nat} {ds : List Dat} (hid : Nat.blt id 1000 = true) (H : ACall P f args h (fun c h' => c = .row p ∧ h' = [(p, .row el k n ds)])) : ACall P f args h (fun c h' => c = .row id ∧ h' = [(id, .row el k n ds)]) :=
 ⟨H.1, fun Pm F w0 pin ι0 us w a b => (H.2 Pm F w0 pin ι0 us w a b).mono fun x w' ⟨u, c, h', ι, h1, ⟨h2, h3⟩, H, hv⟩ => by
  subst h2 h3
  have hid' : id < 1000 := by simp [Nat.blt] at hid; omega
  obtain ⟨v, hvv, xs, hown, hxl, hxr⟩ := H.blk p _ (zb _ _ _)
  have hι : ∀ i u, (fun i => if i = id then ι p else none) i = some u → i = id ∧ ι p = some u := fun i u hu => by
   dsimp only at hu
   split at hu
   ·rename_i h; exact ⟨h, hu⟩
   ·cases hu
  have hex : Ext w' F ι w' (fun i => if i = id then ι p else none) := ⟨fun _ _ _ => rfl, fun r _ hf => ⟨hf.1, fun i u hu => hf.2 p u (hι i u hu).2⟩⟩
  refine ⟨u, .row id, _, fun i => if i = id then ι p else none, h1, ⟨rfl, rfl⟩, ⟨fun i b hb => ?_, fun i u hu => ?_, fun i j u u' r hij hi hj => ?_, fun i u r hu => H.pm p u r (hι i u hu).2, H.os, H.tape, H.output, H.size, H.keep, H.fresh, fun i u h1 hu => ?_, fun i u r hu => H.nf p u r (hι i u hu).2, H.forb⟩, ?_⟩
  ·by_cases h1 : id = i
   ·subst h1
    rw [zb] at hb
    cases hb
    exact ⟨v, by simp only [if_true]; exact hvv, xs, hown, hxl, fun i c u h3 h4 => (hxr i c u h3 h4).ext (fun _ _ _ => rfl) fun r hr hf => hex.free r hr hf⟩
   ·rw [zd _ _ h1] at hb; cases hb
  ·obtain ⟨rfl, _⟩ := hι i u hu
   exact ⟨_, zb _ _ _⟩
  ·exact absurd ((hι i u hi).1.trans (hι j u' hj).1.symm) hij
  ·obtain ⟨rfl, _⟩ := hι i u hu
   omega
  ·cases hv with
   | row _ _ g1 g2 => exact .row id u g1 fun v2 hv2 => g2 v2 (hι id v2 hv2).2⟩
end
end Go.Proofs.YtoahnbmedcjpeaaGreatDoor.Ab

namespace Go.Proofs.YtoahnbmedcjpeaaGreatDoor.Ab
open Go.RowKit
open Go.ChangeMaps (setBlock)

section
variable {nt : Nat} {e : Env} {h : Heap}
end
section
variable {P : Program} {nt : Nat} {Q : Post} {e : Env} {h : Heap} {ops : Array Oper} {o : Oper} {rest : List Oper} {T : List Nat} {tab : TTab} {z : Bool}
theorem zja {f : FuncId} {x : Operand} {caps : List AVal} {args : Array Operand} {ats : Array TypeId} {cs : List AVal} {d : Option Tmp} {c : AVal} (ho : o.op = .call { callee := .value x, args := args, argTypes := ats }) (hdst : o.dst = d) (hf : aev e x = some (.fn f caps)) (hx : aevs e args.toList = some cs)
  (H : ACall P f (cs ++ caps) [] (fun c' h' => c' = c ∧ h' = [])) (hd : dstOk nt d = true) (hc : ∀ j, c.has j = false) : AEff P nt T e h o (fun e' h' => e' = aput d c e ∧ h' = h) := fun Pm F w0 pin ι a w R K Qx hK => by
 have hfv := zm R.env hf
 generalize hau : a.eval x = u at hfv
 cases hfv with
 | fn _ _ C hl hh =>
  unfold Oper.wp
  rw [zbD H.1 ho hau, Oper.upon_enter, hdst]
  have hF : ∀ r, Fc F ι r → r < w.heap.size := fun r hr => hr.elim (fun h1 => Nat.lt_of_lt_of_le (R.heap.forb r h1) R.heap.size) fun ⟨id, v, h1, h2⟩ => R.heap.lt h1 h2
  have hA := zaM R.env hx
  have hA2 : ArgsRel w F ι (cs ++ caps) (args.map a.eval ++ C) := by
   refine ⟨by simp [hl]; exact by simpa using hA.1, fun i c u h1 h2 => ?_⟩
   have hAl : (args.map a.eval).size = cs.length := hA.1
   by_cases hi : i < cs.length
   ·rw [List.getElem?_append_left hi] at h1
    rw [Array.getElem?_append_left (by omega)] at h2
    exact hA.2 i c u h1 h2
   ·rw [List.getElem?_append_right (by omega)] at h1
    rw [Array.getElem?_append_right (by omega), hAl] at h2
    exact hh (i - cs.length) c u h1 h2
  refine (H.2 _ _ w _ _ _ w (HRel.none (Fc F ι) w hF R.heap.glob) (zdc hA2)).mono ?_
  rintro y w' ⟨u, c', h', ι', rfl, ⟨rfl, rfl⟩, hH, hv⟩
  obtain ⟨ι2, hR, hC⟩ := R.called (T := T) hH hv (by rfl) (fun _ _ _ h => (by cases h)) (fun j hj => by rw [hc] at hj; cases hj) hd
  rw [List.map_nil, zc4, zc3, List.nil_append] at hR
  exact hK _ _ _ _ _ ⟨rfl, rfl⟩ hR hC (zx _ _ _)
theorem O_cF {f : FuncId} {x : Operand} {caps : List AVal} {args : Array Operand} {ats : Array TypeId} {cs : List AVal} {d : Nat} {c : AVal} (hw : awant ops e o = some true) (hdst : o.dst = some d) (hd : Nat.blt d nt = true) (ho : o.op = .call { callee := .value x, args := args, argTypes := ats }) (hf : aev e x = some (.fn f caps)) (hx : aevs e args.toList = some cs)
  (H : ACall P f (cs ++ caps) [] (fun c' h' => c' = c ∧ h' = [])) (hc : ∀ j, c.has j = false) (HK : AOps P nt ops Q rest ((d, c) :: e) h) : AOps P nt ops Q (o :: rest) e h :=
 zax (T := []) hw (zja (d := some d) ho hdst hf hx H hd hc) fun e' h' ⟨h1, h2⟩ => by subst h1 h2; exact HK
end
end Go.Proofs.YtoahnbmedcjpeaaGreatDoor.Ab

namespace Go.Proofs.YtoahnbmedcjpeaaGreatDoor.Ab
open Go.RowKit
def fn0 (f : FuncId) : AVal := .d (.sc (.func (.func f) #[] #[]))
section
variable {P : Program} {nt : Nat} {Q : Post} {e : Env} {h : Heap} {ops : Array Oper} {o : Oper} {rest : List Oper} {T : List Nat} {tab : TTab} {fuel i : Nat} {listed : Array Bool}
end
end Go.Proofs.YtoahnbmedcjpeaaGreatDoor.Ab

namespace Go.Proofs.YtoahnbmedcjpeaaGreatDoor.Ab
open Go.RowKit
class NPc (Q : Post) : Prop where
 np : NoPanic Q
instance {K : Env → Heap → Prop} {Q : Post} [I : NPc Q] : NPc (AThen K Q) := ⟨zG I.np⟩
instance {j : Nat} {Q : Post} [I : NPc Q] : NPc (AIn j Q) := ⟨z1 I.np⟩
instance {nt : Nat} {tab : TTab} {rs : List ResultVar} {R : AVal → Heap → Prop} : NPc (APost nt tab rs R) := ⟨zH⟩
instance : NPc RF := ⟨fun _ _ _ h => h⟩
section
variable {nt : Nat} {Q : Post} {e : Env} {h : Heap} {ops : Array Oper} {o : Oper} {T : List Nat} {fuel : Nat} {listed : Array Bool}
theorem q_1 {x : Operand} {c : AVal} (ho : o.op = .move x := by exact rfl) (hx : aev e x = some c := by exact rfl) : AYield Tryz.prog T e h o c := zkh ho hx
theorem q_2 {x : Operand} {c : AVal} (ho : o.op = .assign x := by exact rfl) (hx : aev e x = some c := by exact rfl) : AYield Tryz.prog T e h o c := zhI ho hx
theorem q_3 {t el k j : Nat} {x y : Operand} {cs : List Dat} {n : Nat} {q : IntKind} {i : Int} (ho : o.op = .indexAddr t x y := by exact rfl) (hel : telem tab t = some el := by exact rfl) (hsz : tsize tab el = some k := by exact rfl) (hx : aev e x = some (.d (.sl cs n)) := by exact rfl) (hy : aev e y = some (.d (.sc (.int q i))) := by exact rfl) (hj : i = (j : Int) := by exact rfl) (hlt : j < n := by omega) : AYield Tryz.prog T e h o (.iptr cs (j * k)) := zfI za ho hel hsz hx hy hj hlt
theorem q_4 {t f off o1 : Nat} {x : Operand} {cs : List Dat} (ho : o.op = .fieldAddr t x f := by exact rfl) (hf : tfield tab t f = some off := by exact rfl) (hx : aev e x = some (.iptr cs o1) := by exact rfl) : AYield Tryz.prog T e h o (.iptr cs (o1 + off)) := zhT za ho hf hx
theorem q_5 {t o1 s : Nat} {x : Operand} {cs xs : List Dat} {c : AVal} {ag : Bool} (ho : o.op = .load t x := by exact rfl) (hs : tsize tab t = some s := by exact rfl) (ha : tagg tab t = some ag := by exact rfl) (hx : aev e x = some (.iptr cs o1) := by exact rfl) (hw : win cs o1 s = xs := by exact rfl) (hl : Nat.beq xs.length s = true := by exact rfl) (hc : lval ag (xs.map AVal.d) = some c := by exact rfl) : AYield Tryz.prog T e h o c := zfH za ho hs ha hx hw hl hc
theorem q_6 {t el : Nat} {x : Operand} {cs : List Dat} {n : Nat} (ho : o.op = .call { callee := .builtin .len, args := #[x], argTypes := #[t] } := by exact rfl) (hel : telem tab t = some el := by exact rfl) (hx : aev e x = some (.d (.sl cs n)) := by exact rfl) : AYield Tryz.prog T e h o (.d (.sc (.int .i64 (n : Int)))) := zkV za ho hel hx
theorem q_7 {t id o1 s : Nat} {x : Operand} {cs xs : List AVal} {c : AVal} {ag : Bool} (ho : o.op = .load t x := by exact rfl) (hs : tsize tab t = some s := by exact rfl) (ha : tagg tab t = some ag := by exact rfl) (hx : aev e x = some (.ptr id o1) := by exact rfl) (hb : look h id = some (.var cs) := by exact rfl) (hT : T.contains id = false := by exact rfl) (hw : win cs o1 s = xs := by exact rfl) (hl : Nat.beq xs.length s = true := by exact rfl) (hc : lval ag xs = some c := by exact rfl) : AYield Tryz.prog T e h o c := zkj za ho hs ha hx hb hT hw hl hc
theorem q_8 {t f off o1 id : Nat} {x : Operand} (ho : o.op = .fieldAddr t x f := by exact rfl) (hf : tfield tab t f = some off := by exact rfl) (hx : aev e x = some (.ptr id o1) := by exact rfl) (hb : (look h id).isSome = true := by exact rfl) : AYield Tryz.prog T e h o (.ptr id (o1 + off)) := ziZ za ho hf hx hb
theorem q_9 {t u : TypeId} {x y : Operand} {k : IntKind} {a b r : Int} (ho : o.op = .binOp .add t x y u := by exact rfl) (hx : aev e x = some (.d (.sc (.int k a))) := by exact rfl) (hy : aev e y = some (.d (.sc (.int k b))) := by exact rfl) (hr : k.wrap (a + b) = r := by first | exact zdk (by omega) | exact zdl (by omega) (by omega) | exact zaC ⟨by omega, by omega⟩ | rfl) : AYield Tryz.prog T e h o (.d (.sc (.int k r))) := zjj ho hx hy hr
theorem q_10 {t u : TypeId} {x y : Operand} {k : IntKind} {a b r : Int} (ho : o.op = .binOp .sub t x y u := by exact rfl) (hx : aev e x = some (.d (.sc (.int k a))) := by exact rfl) (hy : aev e y = some (.d (.sc (.int k b))) := by exact rfl) (hr : k.wrap (a - b) = r := by first | exact zdk (by omega) | exact zdl (by omega) (by omega) | exact zaC ⟨by omega, by omega⟩ | rfl) : AYield Tryz.prog T e h o (.d (.sc (.int k r))) := zjh ho hx hy hr
theorem q_11 {op : BinOp} {t u : TypeId} {x y : Operand} {k : IntKind} {a b : Int} {c : Bool} (ho : o.op = .binOp op t x y u := by exact rfl) (hx : aev e x = some (.d (.sc (.int k a))) := by exact rfl) (hy : aev e y = some (.d (.sc (.int k b))) := by exact rfl) (hr : ibin op k a b = some (.bool c) := by exact rfl) (hc : c = true := by first | (simp only [decide_eq_true_eq, beq_iff_eq, bne_iff_ne, ne_eq]; done) | (simp only [decide_eq_true_eq, beq_iff_eq, bne_iff_ne, ne_eq]; omega)) : AYield Tryz.prog T e h o (.d (.sc (.bool true))) := zko ho hx hy hr hc
theorem q_12 {op : BinOp} {t u : TypeId} {x y : Operand} {k : IntKind} {a b : Int} {c : Bool} (ho : o.op = .binOp op t x y u := by exact rfl) (hx : aev e x = some (.d (.sc (.int k a))) := by exact rfl) (hy : aev e y = some (.d (.sc (.int k b))) := by exact rfl) (hr : ibin op k a b = some (.bool c) := by exact rfl) (hc : c = false := by first | (simp only [decide_eq_false_iff_not, beq_eq_false_iff_ne, bne_eq_false_iff_eq, ne_eq]; done) | (simp only [decide_eq_false_iff_not, beq_eq_false_iff_ne, bne_eq_false_iff_eq, ne_eq]; omega)) : AYield Tryz.prog T e h o (.d (.sc (.bool false))) := zkp ho hx hy hr hc
theorem q_13 {op : BinOp} {t u : TypeId} {x y : Operand} {k : IntKind} {a b : Int} {r : Value} (ho : o.op = .binOp op t x y u := by exact rfl) (hx : aev e x = some (.d (.sc (.int k a))) := by exact rfl) (hy : aev e y = some (.d (.sc (.int k b))) := by exact rfl) (hr : ibin op k a b = some r := by exact rfl) : AYield Tryz.prog T e h o (.d (.sc r)) := zct ho hx hy hr
theorem q_14 {x : Operand} {i : Nat} {cs : List AVal} {c : AVal} (ho : o.op = .extract x i := by exact rfl) (hx : aev e x = some (.tup cs) := by exact rfl) (hi : cs[i]? = some c := by exact rfl) : AYield Tryz.prog T e h o c := zgr ho hx hi
theorem q_15 {t el el' id k n : Nat} {x : Operand} {cs : List Dat} (ho : o.op = .call { callee := .builtin .len, args := #[x], argTypes := #[t] } := by exact rfl) (hel : telem tab t = some el := by exact rfl) (hx : aev e x = some (.row id) := by exact rfl) (hb : look h id = some (.row el' k n cs) := by exact rfl) : AYield Tryz.prog T e h o (.d (.sc (.int .i64 (n : Int)))) := zkk za ho hel hx hb
theorem q_16 {t el : Nat} {x : Operand} (ho : o.op = .call { callee := .builtin .len, args := #[x], argTypes := #[t] } := by exact rfl) (hel : telem tab t = some el := by exact rfl) (hx : aev e x = some (.d (.sc (.slice none 0 0))) := by exact rfl) : AYield Tryz.prog T e h o (.d (.sc (.int .i64 0))) := zkl za ho hel hx
theorem q_17 {t el el' k kk j id : Nat} {x y : Operand} {cs : List Dat} {n : Nat} {q : IntKind} {i : Int} (ho : o.op = .indexAddr t x y := by exact rfl) (hel : telem tab t = some el := by exact rfl) (hsz : tsize tab el = some k := by exact rfl) (hx : aev e x = some (.row id) := by exact rfl) (hb : look h id = some (.row el' kk n cs) := by exact rfl) (hy : aev e y = some (.d (.sc (.int q i))) := by exact rfl) (hj : i = (j : Int) := by exact rfl) (hlt : j < n := by omega) : AYield Tryz.prog T e h o (.eptr id (j * k)) := zhR za ho hel hsz hx hb hy hj hlt
theorem q_18 {t f off o1 id : Nat} {x : Operand} (ho : o.op = .fieldAddr t x f := by exact rfl) (hf : tfield tab t f = some off := by exact rfl) (hx : aev e x = some (.eptr id o1) := by exact rfl) (hb : (look h id).isSome = true := by exact rfl) : AYield Tryz.prog T e h o (.eptr id (o1 + off)) := zhU za ho hf hx hb
theorem q_19 {t id o1 s el k n : Nat} {x : Operand} {cs xs : List Dat} {c : AVal} {ag : Bool} (ho : o.op = .load t x := by exact rfl) (hs : tsize tab t = some s := by exact rfl) (ha : tagg tab t = some ag := by exact rfl) (hx : aev e x = some (.eptr id o1) := by exact rfl) (hb : look h id = some (.row el k n cs) := by exact rfl) (hT : T.contains id = false := by exact rfl) (hw : win cs o1 s = xs := by exact rfl) (hl : Nat.beq xs.length s = true := by exact rfl) (hc : lval ag (xs.map AVal.d) = some c := by exact rfl) : AYield Tryz.prog T e h o c := zdR za ho hs ha hx hb hT hw hl hc
theorem q_20 {t : TypeId} {x : Operand} {b : Bool} (ho : o.op = .unOp .not t x := by exact rfl) (hx : aev e x = some (.d (.sc (.bool b))) := by exact rfl) : AYield Tryz.prog T e h o (.d (.sc (.bool !b))) := zkT ho hx
theorem q_21 {x y z : Operand} {b : Bool} {c : AVal} (ho : o.op = .pick x y z := by exact rfl) (hx : aev e x = some (.d (.sc (.bool b))) := by exact rfl) (hb : b = true := by first | rfl | assumption) (hy : aev e y = some c := by exact rfl) : AYield Tryz.prog T e h o c := zeC ho hx hb hy
theorem q_22 {x y z : Operand} {b : Bool} {c : AVal} (ho : o.op = .pick x y z := by exact rfl) (hx : aev e x = some (.d (.sc (.bool b))) := by exact rfl) (hb : b = false := by first | rfl | assumption) (hz : aev e z = some c := by exact rfl) : AYield Tryz.prog T e h o c := zeD ho hx hb hz
theorem q_23 {x y z : Operand} {b p q : Bool} (ho : o.op = .pick x y z := by exact rfl) (hx : aev e x = some (.d (.sc (.bool b))) := by exact rfl) (hy : aev e y = some (.d (.sc (.bool p))) := by exact rfl) (hz : aev e z = some (.d (.sc (.bool q))) := by exact rfl) : AYield Tryz.prog T e h o (.d (.sc (.bool (cond b p q)))) := zhF ho hx hy hz
theorem q_24 {t : TypeId} {ps : Array (Nat × Operand)} {al : List (Nat × AVal)} {z xs : List AVal} {fs : List (Nat × TypeId)} (ho : o.op = .build t ps := by exact rfl) (hz : tzero tab t = some z := by exact rfl) (hfs : (match tlook tab t with | some ⟨_, _, _, _, .st fs⟩ => some fs | _ => none) = some fs := by exact rfl) (hal' : fs.all (fun f => (tlook tab f.2).isSome) = true := by exact rfl) (hal : aparts e ps.toList = some al := by exact rfl) (hf : afill (stPlace tab fs) z al = some xs := by exact rfl) : AYield Tryz.prog T e h o (.agg xs) := zi0 za ho hz hfs hal' hal hf
theorem q_M (i : Nat) {c : AVal} {d : Nat} [I : NPc Q] (hi : ops[i]? = some o) (hk : memOp o.op = false) (hs : Region.noSelect ops = true) (hf : Region.free .any ops listed i = true) (hr : (Region.ready .any ops listed).contains i = true)
  (hw : awant ops e o = some true) (hdst : o.dst = some d) (hd : Nat.blt d nt = true) (hy : AYield Tryz.prog T e h o c) (H : AAny Tryz.prog nt ops Q T fuel (listed.setIfInBounds i true) ((d, c) :: e) h) : AAny Tryz.prog nt ops Q T (fuel + 1) listed e h := zM hi hs hf hr I.np hw hdst hd hy H
theorem q_L (i : Nat) {c : AVal} {d : Nat} [I : NPc Q] (hi : ops[i]? = some o) (hk : memOp o.op = true) (hs : Region.noSelect ops = true) (hf : Region.free .any ops listed i = true) (hr : (Region.ready .any ops listed).contains i = true)
  (hw : awant ops e o = some true) (hdst : o.dst = some d) (hd : Nat.blt d nt = true) (hy : AYield Tryz.prog T e h o c) (H : AAny Tryz.prog nt ops Q T fuel (listed.setIfInBounds i true) ((d, c) :: e) h) : AAny Tryz.prog nt ops Q T (fuel + 1) listed e h := zM hi hs hf hr I.np hw hdst hd hy H
theorem q_25 {x y z : Operand} {b : Bool} {c : AVal} (ho : o.op = .pick x y z := by exact rfl) (hx : aev e x = some (.d (.sc (.bool b))) := by exact rfl) (hb : b = true := by exact rfl) (hy : aev e y = some c := by exact rfl) : AYield Tryz.prog T e h o c := zeC ho hx hb hy
theorem q_26 {x y z : Operand} {b : Bool} {c : AVal} (ho : o.op = .pick x y z := by exact rfl) (hx : aev e x = some (.d (.sc (.bool b))) := by exact rfl) (hb : b = false := by exact rfl) (hz : aev e z = some c := by exact rfl) : AYield Tryz.prog T e h o c := zeD ho hx hb hz
theorem q_A {c : AVal} (hy : AYield Tryz.prog T e h o c := by first | exact q_1 | exact q_2 | exact q_3 | exact q_4) : AYield Tryz.prog T e h o c := hy
theorem q_B {c : AVal} (hy : AYield Tryz.prog T e h o c := by first | exact q_6 | exact q_7 | exact q_8 | exact q_9 | exact q_10 | exact q_11 | exact q_12 | exact q_13 | exact q_14 | exact q_15 | exact q_16 | exact q_17 | exact q_18 | exact q_19 | exact q_20 | exact q_21 | exact q_22 | exact q_23 | exact q_24) : AYield Tryz.prog T e h o c := hy
variable {rest : List Oper} {K : Env → Heap → Prop}
theorem q_a {t : TypeId} {d : Nat} {z : List AVal} (HK : AOps Tryz.prog nt ops Q rest ((d, .ptr d 0) :: killE d e) ((d, .var z) :: killH d h)) (hw : awant ops e o = some true := by exact rfl) (hdst : o.dst = some d := by exact rfl) (hd : Nat.blt d nt = true := by exact rfl) (hid : Nat.blt d 1000 = true := by exact rfl) (ho : o.op = .alloc t := by exact rfl) (hz : tzero tab t = some z := by exact rfl) : AOps Tryz.prog nt ops Q (o :: rest) e h := zi6 za hw hdst hd hid ho hz HK
theorem q_b {t : TypeId} {x y : Operand} {id off s : Nat} {cs xs : List AVal} {c : AVal} (HK : AOps Tryz.prog nt ops Q rest e ((id, .var (setW cs off xs)) :: h)) (hw : awant ops e o = some true := by exact rfl) (hdst : o.dst = none := by exact rfl) (ho : o.op = .store t x y := by exact rfl) (hx : aev e x = some (.ptr id off) := by exact rfl) (hb : look h id = some (.var cs) := by exact rfl)
  (hy : aev e y = some c := by exact rfl) (hcs : cellsA c = some xs := by exact rfl) (hp : xs.all plainC = true := by exact rfl) (hs : tsize tab t = some s := by exact rfl) (hl : Nat.beq xs.length s = true := by exact rfl) (hle : Nat.ble (off + s) cs.length = true := by exact rfl) : AOps Tryz.prog nt ops Q (o :: rest) e h := zi3 za hw hdst ho hx hb hy hcs hp hs hl hle HK
theorem q_c {t el k len d : Nat} {ps : Array (Nat × Operand)} {al : List (Nat × AVal)} {xs : List AVal} {ds : List Dat} (HK : AOps Tryz.prog nt ops Q rest ((d, .row d) :: killE d e) ((d, .row el k len ds) :: killH d h)) (hw : awant ops e o = some true := by exact rfl) (hdst : o.dst = some d := by exact rfl) (hd : Nat.blt d nt = true := by exact rfl) (hid : Nat.blt d 1000 = true := by exact rfl) (ho : o.op = .buildSlice t len ps := by exact rfl)
  (hel : telem tab t = some el := by exact rfl) (hsz : tsize tab el = some k := by exact rfl) (hok : (match tlook tab el with | some te => te.zero.all (·.oneCell') && Nat.blt 0 te.size && Nat.beq te.zero.length te.size && Nat.blt (len * te.size) 16777216 && Nat.blt 0 len | none => false) = true := by exact rfl)
  (hal : aparts e ps.toList = some al := by exact rfl) (hf : (match tlook tab el with
   | some te => afill (fun i => some (i * te.size, te.size)) ((List.range (len * te.size)).map fun j => match te.zero[j % te.size]? with | some v => .d (.sc v) | none => .top) al
   | none => none) = some xs := by exact rfl) (hds : datsA xs = some ds := by exact rfl) : AOps Tryz.prog nt ops Q (o :: rest) e h := zi4 za hw hdst hd hid ho hel hsz hok hal hf hds HK
theorem q_d {t : TypeId} {x : Operand} {d : Nat} {c : AVal} {cs : List AVal} (HK : AOps Tryz.prog nt ops Q rest ((d, .ptr d 0) :: killE d e) ((d, .var (cs.map (killV d))) :: killH d h)) (hw : awant ops e o = some true := by exact rfl) (hdst : o.dst = some d := by exact rfl) (hd : Nat.blt d nt = true := by exact rfl) (hid : Nat.blt d 1000 = true := by exact rfl) (ho : o.op = .box t x := by exact rfl) (hx : aev e x = some c := by exact rfl) (hcs : cellsA c = some cs := by exact rfl) : AOps Tryz.prog nt ops Q (o :: rest) e h := zkX hw hdst hd hid ho hx hcs HK
theorem q_e {d : Nat} (H : AOps Tryz.prog nt ops Q rest ((d, .und) :: e) h) (hw : awant ops e o = some false := by exact rfl) (hdst : o.dst = some d := by exact rfl) (hd : Nat.blt d nt = true := by exact rfl) : AOps Tryz.prog nt ops Q (o :: rest) e h := O_s hw hdst hd H
theorem q_f {d : Nat} (H : AQ Tryz.prog nt ops Q rest ((d, .und) :: e) h) (hw : awant ops e o = some false := by exact rfl) (hdst : o.dst = some d := by exact rfl) (hd : Nat.blt d nt = true := by exact rfl) : AQ Tryz.prog nt ops Q (o :: rest) e h := Q_s hw hdst hd H
theorem q_g (H : AOps Tryz.prog nt ops Q rest e h) (hw : awant ops e o = some false := by exact rfl) (hdst : o.dst = none := by exact rfl) : AOps Tryz.prog nt ops Q (o :: rest) e h := O_sn hw hdst H
theorem q_h {i j : Nat} (H : Q (.exit i) e h) (hb : Nat.beq i j = false := by exact rfl) : AIn j Q (.exit i) e h := zfh hb H
theorem q_j (H : K e h) : AThen K Q .normal e h := H
theorem q_k {j : Nat} (H : Q .normal e h) : AIn j Q .normal e h := H
theorem q_l {j : Nat} (H : Q (.exit j) e h) : AThen K Q (.exit j) e h := H
theorem q_m (H : Q .ret e h) : AThen K Q .ret e h := H
theorem q_n {j : Nat} (H : Q .normal e h) : AIn j Q (.exit j) e h := zgs H
theorem q_o {j : Nat} (H : Q .ret e h) : AIn j Q .ret e h := H
theorem q_Z {G G' : Prop} (h : G') (s : G' → G := by first | exact zn | exact zp | exact fun x => ze x | exact zi | exact zk | exact q_j | exact q_k | exact zz | exact zA | exact zS | exact q_l | exact q_m | exact q_n | exact q_o) : G := s h
theorem q_W {G G' : Prop} (h : G') (s : G' → G := by first | exact fun x => q_h x | exact fun x => q_e x | exact fun x => q_f x | exact fun x => q_g x) : G := s h
theorem q_P (i : Nat) {c : AVal} {d : Nat} [I : NPc Q] (hi : ops[i]? = some o) (hs : (Region.noSelect ops && Region.free .any ops listed i && (Region.ready .any ops listed).contains i) = true)
  (hw : awant ops e o = some true) (hdst : o.dst = some d) (hd : Nat.blt d nt = true) (hy : AYield Tryz.prog T e h o c) (H : AAny Tryz.prog nt ops Q T fuel (listed.setIfInBounds i true) ((d, c) :: e) h) : AAny Tryz.prog nt ops Q T (fuel + 1) listed e h := by
 simp only [Bool.and_eq_true] at hs
 exact zM hi hs.1.1 hs.1.2 hs.2 I.np hw hdst hd hy H
theorem q_Y {G G' : Prop} (h : G') (s : G' → G := by first | exact zn | exact zp | exact fun x => ze x | exact zi | exact zk | exact q_j | exact q_k | exact zz | exact zA | exact zS | exact q_l | exact q_m | exact q_n | exact q_o | exact fun x => zg rfl mixed (by kernel_rfl) x) : G := s h
theorem q_U {G G' : Prop} (h : G') (s : G' → G := by first | exact fun x => q_d x | exact fun x => q_a x | exact fun x => q_b x | exact fun x => q_c x | exact fun x => A_ct rfl x | exact fun x => A_cf rfl x | exact fun x => q_h x | exact fun x => q_e x | exact fun x => q_f x | exact fun x => q_g x) : G := s h
theorem q_T {G G' : Prop} (h : G') (s : G' → G := by first | exact fun x => A_ct rfl x | exact fun x => A_cf rfl x | exact fun x => q_h x | exact fun x => q_e x | exact fun x => q_f x | exact fun x => q_g x) : G := s h
theorem q_H {c : AVal} (hy : AYield Tryz.prog T e h o c := by first | exact q_1 | exact q_2 | exact q_3 | exact q_4 | exact q_5 | exact q_6 | exact q_7 | exact q_8 | exact q_9 | exact q_10 | exact q_11 | exact q_12 | exact q_13 | exact q_14 | exact q_15 | exact q_16 | exact q_17 | exact q_18 | exact q_19 | exact q_20 | exact q_21 | exact q_22 | exact q_23 | exact q_24) : AYield Tryz.prog T e h o c := hy
theorem q_S {e1 : Env} {h1 : Heap} (he : Sub e1 e := by repeat (first | exact trivial | refine ⟨rfl, ?_⟩)) (hh : Sub h1 h := by repeat (first | exact trivial | refine ⟨rfl, ?_⟩)) : AWk nt e h e1 h1 := zq he hh
theorem q_O {f : FuncId} {args : Array Operand} {ats : Array TypeId} {cs : List AVal} {c : AVal} {d : Nat} (H : ACall Tryz.prog f cs [] (fun c' h' => c' = c ∧ h' = [])) (HK : AOps Tryz.prog nt ops Q rest ((d, c) :: e) h) (hw : awant ops e o = some true := by exact rfl) (hdst : o.dst = some d := by exact rfl) (hd : Nat.blt d nt = true := by exact rfl) (ho : o.op = .call { callee := .value (.func f), args := args, argTypes := ats } := by exact rfl) (hx : aevs e args.toList = some cs := by exact rfl) (hc : ∀ j, c.has j = false := by exact fun _ => rfl) : AOps Tryz.prog nt ops Q (o :: rest) e h := O_c hw hdst hd ho hx H hc HK
theorem q_Q {f : FuncId} {args : Array Operand} {ats : Array TypeId} {cs : List AVal} {c : AVal} {v : Value} {d : Nat} (H : ACall Tryz.prog f cs [] (fun c' h' => c' = c ∧ h' = [])) (HK : AQ Tryz.prog nt ops Q rest ((d, c) :: e) h) (hw : awant ops e o = some true := by exact rfl) (hdst : o.dst = some d := by exact rfl) (hd : Nat.blt d nt = true := by exact rfl) (ho : o.op = .call { callee := .value (.func f), args := args, argTypes := ats } := by exact rfl) (hx : aevs e args.toList = some cs := by exact rfl) (hc : valA c = some v := by exact rfl) (hrel : ∀ w F ι, VRel w F ι c v := by exact fun _ _ _ => zB _ _ _ _ _ rfl rfl) : AQ Tryz.prog nt ops Q (o :: rest) e h := Q_c hw hdst hd ho hx H hc hrel HK
theorem q_I {t el k : Nat} (j : Nat) {x y : Operand} {cs : List Dat} {n : Nat} {q : IntKind} {i : Int} (hlt : j < n) (ho : o.op = .indexAddr t x y := by exact rfl) (hel : telem tab t = some el := by exact rfl) (hsz : tsize tab el = some k := by exact rfl) (hx : aev e x = some (.d (.sl cs n)) := by exact rfl) (hy : aev e y = some (.d (.sc (.int q i))) := by exact rfl) (hj : i = (j : Int) := by exact rfl) : AYield Tryz.prog T e h o (.iptr cs (j * k)) := zfI za ho hel hsz hx hy hj hlt
theorem q_R {t o1 s : Nat} {x : Operand} {cs xs : List Dat} {c : AVal} {ag : Bool} (ho : o.op = .load t x := by exact rfl) (hs : tsize tab t = some s := by exact rfl) (ha : tagg tab t = some ag := by exact rfl) (hx : aev e x = some (.iptr cs o1) := by exact rfl) (w : win cs o1 s = xs) (hl : Nat.beq xs.length s = true := by exact rfl) (hc : lval ag (xs.map AVal.d) = some c := by exact rfl) : AYield Tryz.prog T e h o c := zfH za ho hs ha hx w hl hc
theorem q_K {d : Nat} {c : AVal} (hh : (awant ops e o, o.dst, Nat.blt d nt) = (some true, some d, true)) (hy : AYield Tryz.prog [] e h o c) (HK : AOps Tryz.prog nt ops Q rest ((d, c) :: e) h) : AOps Tryz.prog nt ops Q (o :: rest) e h := by
 injection hh with h1 h2
 injection h2 with h2 h3
 exact O_y h1 h2 h3 hy HK
theorem q_X {d : Nat} {c : AVal} (hh : (awant ops e o, o.dst, Nat.blt d nt) = (some true, some d, true)) (hy : AYield Tryz.prog [] e h o c) (HK : AQ Tryz.prog nt ops Q rest ((d, c) :: e) h) : AQ Tryz.prog nt ops Q (o :: rest) e h := by
 injection hh with h1 h2
 injection h2 with h2 h3
 exact Q_y h1 h2 h3 hy HK
end
end Go.Proofs.YtoahnbmedcjpeaaGreatDoor.Ab

namespace Go.Proofs.YtoahnbmedcjpeaaGreatDoor.Ab
open Go.RowKit Go.Lib
section
variable {P : Program} {nt : Nat} {Q : Post} {e : Env} {h : Heap} {ops : Array Oper} {o : Oper} {T : List Nat} {tab : TTab} {fuel i : Nat} {listed : Array Bool} {rest : List Oper}
theorem zhL {t : TypeId} {x y : Operand} {id off s el k n : Nat} {cs ds : List Dat} {xs : List AVal} {c : AVal} (TO : TabOk P tab) (hi : ops[i]? = some o) (hw : awant ops e o = some true) (hdst : o.dst = none) (ho : o.op = .store t x y)
  (hx : aev e x = some (.eptr id off)) (hb : look h id = some (.row el k n cs)) (hy : aev e y = some c) (hcs : cellsA c = some xs) (hds : datsA xs = some ds) (hs : tsize tab t = some s) (hl : Nat.beq xs.length s = true)
  (hT : T.contains id = true) (hle : off + s ≤ cs.length) (h0 : 0 < n)
  (HK : AAny P nt ops Q T fuel (listed.setIfInBounds i true) e ((id, .row el k n (setW cs off ds)) :: h)) : AAt P nt ops Q T fuel listed i e h := by
 obtain ⟨te, h1, rfl⟩ := zI hs
 exact zbf hi hw (zdW TO ho hdst h1 hx hb hy hcs (zbV hds) (Nat.eq_of_beq_eq_true hl) hle h0 (by rfl) hT) fun e' h' ⟨h1, h2⟩ => by subst h1 h2; exact HK
theorem zhJ {a b : Nat} {x y : AVal} (hne : Nat.beq a b = false) : AWkS nt ((a, x) :: (b, y) :: e) h ((b, y) :: (a, x) :: e) h := fun Pm F w0 pin ι ac w R =>
 ⟨ι, fun _ _ h => h, R.heap, fun t c ht => R.env t c (by
  rw [← ht]
  simp only [look]
  by_cases hb : Nat.beq b t = true
  ·have : Nat.beq a t = false := zc9 fun he => zaO hne (he.trans (Nat.eq_of_beq_eq_true hb).symm)
   rw [hb, this]; rfl
  ·rw [Bool.eq_false_iff.2 hb]
   cases Nat.beq a t <;> rfl), R.defers, R.size⟩
theorem zdV {j k dj dk : Nat} {oj ok : Oper} {cj ck : AVal} {l2 : Array Bool} (hr : Region.ready .any ops listed = [j, k]) (hr1 : Region.ready .any ops (listed.setIfInBounds j true) = [k]) (hr2 : Region.ready .any ops (listed.setIfInBounds k true) = [j])
  (hl1 : (listed.setIfInBounds j true).setIfInBounds k true = l2) (hl2 : (listed.setIfInBounds k true).setIfInBounds j true = l2)
  (hj : ops[j]? = some oj) (hk : ops[k]? = some ok) (hdj : oj.dst = some dj) (hdk : ok.dst = some dk) (hbj : Nat.blt dj nt = true) (hbk : Nat.blt dk nt = true) (hne : Nat.beq dj dk = false)
  (hwj : awant ops e oj = some true) (hwk : awant ops e ok = some true) (hwj' : awant ops ((dk, ck) :: e) oj = some true) (hwk' : awant ops ((dj, cj) :: e) ok = some true)
  (hyj : AYield P [] e h oj cj) (hyk : AYield P [] e h ok ck) (hyj' : AYield P [] ((dk, ck) :: e) h oj cj) (hyk' : AYield P [] ((dj, cj) :: e) h ok ck)
  (H : AAny P nt ops Q T fuel l2 ((dk, ck) :: (dj, cj) :: e) h) : AAny P nt ops Q T (fuel + 2) listed e h :=
 zak hr (zl hj hwj hdj hbj hyj (zh hr1 (zl hk hwk' hdk hbk hyk' (zeK hl1 H))))
  (zl hk hwk hdk hbk hyk (zh hr2 (zl hj hwj' hdj hbj hyj' (zeK hl2 (zdw (zhJ hne) H)))))
theorem zhX {t u : TypeId} {x y : Operand} {a b : Nat} (ho : o.op = .binOp .add t x y u) (hx : aev e x = some (.d (.sc (.int .i64 (a : Int))))) (hy : aev e y = some (.d (.sc (.int .i64 (b : Int))))) (hr : a + b ≤ 9223372036854775807 := by omega) :
  AYield P T e h o (.d (.sc (.int .i64 ((a + b : Nat) : Int)))) := zjj ho hx hy ((zaC ⟨by omega, by omega⟩).trans (by omega))
theorem zhM {t u : TypeId} {x y : Operand} {a b : Nat} (ho : o.op = .binOp .sub t x y u) (hx : aev e x = some (.d (.sc (.int .i64 (a : Int))))) (hy : aev e y = some (.d (.sc (.int .i64 (b : Int))))) (hr : b ≤ a := by omega) (hm : a ≤ 9223372036854775807 := by omega) :
  AYield P T e h o (.d (.sc (.int .i64 ((a - b : Nat) : Int)))) := zjh ho hx hy ((zaC ⟨by omega, by omega⟩).trans (by omega))
theorem zhQ {t u : TypeId} {x y : Operand} {a b : Nat} (ho : o.op = .binOp .mul t x y u) (hx : aev e x = some (.d (.sc (.int .i64 (a : Int))))) (hy : aev e y = some (.d (.sc (.int .i64 (b : Int))))) (hr : a * b ≤ 9223372036854775807 := by omega) :
  AYield P T e h o (.d (.sc (.int .i64 ((a * b : Nat) : Int)))) := zkU ho hx hy (by rw [← Int.natCast_mul]; exact zaC ⟨by omega, by omega⟩)
theorem zhP {t u : TypeId} {x y : Operand} {a b : Nat} (ho : o.op = .binOp .quo t x y u) (hx : aev e x = some (.d (.sc (.int .i64 (a : Int))))) (hy : aev e y = some (.d (.sc (.int .i64 (b : Int))))) (hb : b ≠ 0 := by decide) (hm : a ≤ 9223372036854775807 := by omega) :
  AYield P T e h o (.d (.sc (.int .i64 ((a / b : Nat) : Int)))) := zE _ fun w F ι ac E =>
 ⟨.int .i64 ((a / b : Nat) : Int), zQ rfl, fun w' => by
  simp only [execOp, ho, (zL (zm E hx)).1, (zL (zm E hy)).1]
  have h1 : ((a : Int)).tdiv (b : Int) = ((a / b : Nat) : Int) := by rw [Int.ofNat_tdiv]
  have h3 := Nat.div_le_self a b
  obtain ⟨q, hq⟩ : ∃ q, a / b = q := ⟨_, rfl⟩
  rw [hq] at h1 h3 ⊢
  have h2 : IntKind.i64.wrap (q : Int) = (q : Int) := zaC ⟨by omega, by omega⟩
  have h4 : ((b : Int)) ≠ 0 := by omega
  simp [eqGuard, binOp, Op.intDiv, h4, h1, h2, hb]⟩
theorem zdf {t u : TypeId} {x y : Operand} {a : Nat} {m : Int} (k : Nat) (ho : o.op = .binOp .mul t x y u) (hx : aev e x = some (.d (.sc (.int .i64 m)))) (hm : m = (k : Int)) (hy : aev e y = some (.d (.sc (.int .i64 (a : Int))))) (hr : k * a ≤ 9223372036854775807 := by omega) :
  AYield P T e h o (.d (.sc (.int .i64 ((k * a : Nat) : Int)))) := by subst hm; exact zhQ ho hx hy hr
theorem zbY {t u : TypeId} {x y : Operand} {a : Nat} {m : Int} (k : Nat) (ho : o.op = .binOp .mul t x y u) (hx : aev e x = some (.d (.sc (.int .i64 (a : Int))))) (hy : aev e y = some (.d (.sc (.int .i64 m)))) (hm : m = (k : Int)) (hr : a * k ≤ 9223372036854775807 := by omega) :
  AYield P T e h o (.d (.sc (.int .i64 ((a * k : Nat) : Int)))) := by subst hm; exact zhQ ho hx hy hr
theorem zcq {a b p i : Nat} (h : look [(a, b)] p = some i) : p = a ∧ i = b := by
 simp only [look] at h
 cases hb : Nat.beq a p
 ·rw [hb] at h; cases h
 ·rw [hb] at h
  exact ⟨(Nat.eq_of_beq_eq_true hb).symm, (Option.some.inj h).symm⟩
theorem O_cU {f : FuncId} {args : Array Operand} {ats : Array TypeId} {cs cs0 : List AVal} {c : AVal} {d el k n n1 : Nat} {ds ds1 : List Dat} (i : Nat) (H : ACall P f cs [(1000, .row el k n ds)] (fun c' h' => c' = c ∧ h' = [(1000, .row el k n1 ds1)]))
  (hok : cs.all (okV [(1000, i)]) = true) (hb : look h i = some (.row el k n ds)) (hw : awant ops e o = some true) (hdst : o.dst = some d) (hd : Nat.blt d nt = true) (ho : o.op = .call { callee := .value (.func f), args := args, argTypes := ats }) (hx : aevs e args.toList = some cs0) (hcs : cs.map (renV [(1000, i)]) = cs0)
  (HK : AOps P nt ops Q rest ((d, renV [(1000, i)] c) :: e) ((i, .row el k n1 ds1) :: h)) : AOps P nt ops Q (o :: rest) e h := by
 refine O_cP [(1000, i)] (fun p p' i h1 h2 => by rw [(zcq h1).1, (zcq h2).1]) (fun p i h1 => by rw [(zcq h1).1]; exact ⟨Nat.le_refl _, rfl, rfl⟩) H (fun c hc => List.all_eq_true.1 hok c hc) ⟨⟨i, _, rfl, hb, rfl, trivial⟩, trivial⟩ hw hdst hd ho hx hcs ?_
 exact HK
def XQ (nt id : Nat) (Ex : Env) (Hx : Heap) (Q : Post) : Post
 | .exit j, e, h => cond (Nat.beq j id) (AWk nt e h Ex Hx) (Q (.exit j) e h)
 | .normal, _, _ => False
 | x, e, h => Q x e h
theorem zky {id : Nat} {Ex : Env} {Hx : Heap} (h : NoPanic Q) : NoPanic (XQ nt id Ex Hx Q) := fun ch e h' => h ch e h'
instance {nt id : Nat} {Ex : Env} {Hx : Heap} {Q : Post} [I : NPc Q] : NPc (XQ nt id Ex Hx Q) := ⟨zky I.np⟩
theorem q_D {T : List Nat} {e : Env} {h : Heap} {o : Oper} {c : AVal} (hy : AYield Tryz.prog T e h o c := by first | exact q_1 | exact q_2 | exact zhX rfl rfl rfl | exact zhM rfl rfl rfl | exact q_9 | exact q_10 | exact q_17) : AYield Tryz.prog T e h o c := hy
theorem q_E {T : List Nat} {e : Env} {h : Heap} {o : Oper} {c : AVal} (hy : AYield Tryz.prog T e h o c := by first | exact q_11 | exact q_12 | exact q_20 | exact q_25 | exact q_26 | exact q_14 | exact zdf 2 rfl rfl rfl rfl | exact zbY 1 rfl rfl rfl rfl | exact zbY 2 rfl rfl rfl rfl | exact zbY 3 rfl rfl rfl rfl | exact R_quoy 2 rfl rfl rfl rfl | exact R_quoy 4 rfl rfl rfl rfl | exact R_quoy 8 rfl rfl rfl rfl | exact q_23 | exact q_15 | exact q_7) : AYield Tryz.prog T e h o c := hy
theorem q_F {T : List Nat} {e : Env} {h : Heap} {o : Oper} {c : AVal} (hy : AYield Tryz.prog T e h o c := by first | exact zhX rfl rfl rfl | exact zhM rfl rfl rfl) : AYield Tryz.prog T e h o c := hy
theorem q_G {T : List Nat} {e : Env} {h : Heap} {o : Oper} {c : AVal} (hy : AYield Tryz.prog T e h o c := by first | exact q_F | exact q_H) : AYield Tryz.prog T e h o c := hy
theorem zu {z : Bool} {id : Nat} {c r : Code} (H : AWp z P nt (.block id (.loop c)) (AThen (AWp z P nt r Q) Q) e h) : AWp z P nt (.block id (.loop c)) (AThen (AWp z P nt r Q) Q) e h := H
end
abbrev natA (n : Nat) : AVal := .d (.sc (.int .i64 (n : Int)))
end Go.Proofs.YtoahnbmedcjpeaaGreatDoor.Ab

namespace Go.Proofs.YtoahnbmedcjpeaaGreatDoor.Ab
set_option linter.unusedSectionVars false
open Go.RowKit
section
variable {P : Program} {nt : Nat} {T : List Nat} {e : Env} {h : Heap} {o : Oper} {tab : TTab}
theorem zdi {t el : TypeId} {ps : Array (Nat × Operand)} {len : Nat} {te te' : TE} {d : Option Tmp} {id : Nat} {al : List (Nat × AVal)} {xs : List AVal} (TO : TabOk P tab) (ho : o.op = .buildSlice t len ps) (hdst : o.dst = d) (ht : tlook tab t = some te) (hs : te.sh = .sl el)
  (hel : tlook tab el = some te') (hz : te'.zero.all (·.oneCell') = true) (hk : Nat.blt 0 te'.size = true) (hk2 : Nat.beq te'.zero.length te'.size = true) (hlen : Nat.blt (len * te'.size) 16777216 = true) (hpos : Nat.blt 0 len = true) (hal : aparts e ps.toList = some al)
  (hf : afill (fun i => some (i * te'.size, te'.size)) ((List.range (len * te'.size)).map fun j => match te'.zero[j % te'.size]? with | some v => .d (.sc v) | none => .top) al = some xs) (hid : Nat.blt id 1000 = true) (hd : dstOk nt d = true) :
  AEff P nt T e h o (fun e' h' => e' = aput d (.row id) (killE id e) ∧ h' = (id, .rowA el te'.size len (xs.map (killV id))) :: killH id h) := fun Pm F w0 pin ι a w R K Qx hK => by
 have hu := (TO t te ht).slice hs
 obtain ⟨z, hz1, hz2, _⟩ := (TO el te' hel).zero w
 have hzl : z.cells.size = te'.size := by rw [← Array.length_toList, hz2]; exact Nat.eq_of_beq_eq_true hk2
 have hk : 0 < te'.size := by simp [Nat.blt] at hk; omega
 have hlen : len * te'.size < 16777216 := by simp [Nat.blt] at hlen; omega
 have hpos : 0 < len := by simp [Nat.blt] at hpos; omega
 let C0 : Array Value := (Array.range (len * te'.size)).map (z.cells[· % z.cells.size]!)
 have hget : ∀ j, j < len * te'.size → C0[j]? = te'.zero[j % te'.size]? ∧ ∃ v, te'.zero[j % te'.size]? = some v ∧ v.oneCell' = true := by
  intro j hj
  have hlt : j % te'.size < z.cells.size := by rw [hzl]; exact Nat.mod_lt _ hk
  have e1 : te'.zero[j % te'.size]? = some z.cells[j % te'.size] := by rw [← hz2, Array.getElem?_toList, Array.getElem?_eq_getElem hlt]
  refine ⟨?_, z.cells[j % te'.size], e1, List.all_eq_true.1 hz _ (List.mem_of_getElem? e1)⟩
  rw [e1]
  have hlt2 : j % z.cells.size < z.cells.size := by rw [hzl] at hlt ⊢; exact hlt
  simp only [C0, Array.getElem?_map]
  rw [Array.getElem?_range]
  simp only [hj, if_true, Option.map_some]
  rw [getElem!_pos z.cells _ hlt2]
  simp only [hzl]
 obtain ⟨C', g1, g2, g3⟩ := zbM R.env (fun i => some (i * te'.size, te'.size)) ps.toList al _ C0 xs hal hf (by simp [C0]) fun j c u h1 h2 => by
  have hj : j < len * te'.size := by have := (Array.getElem?_eq_some_iff.1 h2).1; simpa [C0] using this
  obtain ⟨e1, v, e2, e3⟩ := hget j hj
  rw [List.getElem?_map, List.getElem?_range hj] at h1
  simp only [Option.map_some, e2] at h1
  cases h1
  rw [e1, e2] at h2
  cases h2
  exact zQ e3
 have hxl : xs.length = len * te'.size := by
  have : ∀ (al : List (Nat × AVal)) (cells xs : List AVal) (place : Nat → Option (Nat × Nat)), afill place cells al = some xs → xs.length = cells.length := by
   intro al
   induction al with
   | nil => intro cells xs place h; cases h; rfl
   | cons p r ih =>
    intro cells xs place h
    obtain ⟨i, c⟩ := p
    rw [afill] at h
    split at h
    ·rename_i off size ys _ _
     cases hb : Nat.beq ys.length size && Nat.ble (off + ys.length) cells.length with
     | false => rw [hb] at h; cases h
     | true =>
      rw [hb] at h
      have := ih _ _ _ h
      have hl := Nat.le_of_ble_eq_true (by simp only [Bool.and_eq_true] at hb; exact hb.2)
      rw [this]; simp [setW]; omega
    ·cases h
  rw [this al _ xs _ hf]; simp
 have hb : ∀ ι', ι' = upd ι id (some (.slice (some ⟨w.heap.size, 0, none⟩) len len)) → Ext w F ι (w.alloc (.cells C' el)) ι' → BRel (w.alloc (.cells C' el)) F ι' (.rowA el te'.size len (xs.map (killV id))) (.slice (some ⟨w.heap.size, 0, none⟩) len len) := by
  intro ι' h0 he
  have hsz : C'.size = len * te'.size := by rw [g2, hxl]
  refine ⟨C'.toList, ⟨by simp [hsz], .inr ⟨w.heap.size, len, C', rfl, Nat.zero_le _, za5 _ _, Nat.le_refl _, ?_, hsz, ?_⟩⟩, ?_, ?_⟩
  ·have := Nat.le_mul_of_pos_right len hk
   unfold maxLen; omega
  ·rw [List.take_of_length_le (by simp [hsz])]
  ·simpa using g2
  ·intro i c u h1 h2
   rw [List.getElem?_map] at h1
   cases hc : xs[i]? with
   | none => rw [hc] at h1; cases h1
   | some c0 =>
    rw [hc] at h1; cases h1
    subst h0
    exact (g3 i c0 u hc (by simpa using h2)).killed he
 obtain ⟨hR, hC⟩ := R.new (T := T) hid hd (.cells C' el) (.slice (some ⟨w.heap.size, 0, none⟩) len len) (by simp [blockOf]) _ (.row id) hb fun ι' h1 => .row id _ rfl fun v hv => by subst h1; simp [upd] at hv; exact hv
 have hrun : (execOp a.eval o).run P w = .ok (.value (.slice (some ⟨w.heap.size, 0, none⟩) len len)) (w.alloc (.cells C' el)) := by
  have hfill : Instr.fill (fun i => some (i * te'.size, te'.size)) C0 (ps.map fun p => (p.1, a.eval p.2)).toList = some C' := by rw [Array.toList_map]; exact g1
  simp only [execOp, ho]
  have h0 : ¬ (len = 0 ∨ te'.size = 0) := by omega
  rw [Array.toList_map] at hfill
  have hn : ¬ (16777216 < len * te'.size) := by omega
  simp [Instr.buildSlice, run_underlying hu, (TO el te' hel).size, hz1, hn]
  rw [show Instr.fill (fun i => some (i * te'.size, te'.size)) _ _ = some C' from hfill]
  simp [newRow, newObj, Sem.run]
  intro h9
  rcases Nat.mul_eq_zero.1 h9 with h9 | h9 <;> omega
 unfold Oper.wp
 rw [hrun, Oper.upon_value, hdst]
 exact hK _ _ _ _ _ ⟨rfl, rfl⟩ hR hC (zx _ _ _)
theorem zdO {t : TypeId} {x y : Operand} {te te' : TE} {el el' : TypeId} {id kk n : Nat} {cs : List AVal} {k : IntKind} {i : Int} (TO : TabOk P tab) (ho : o.op = .indexAddr t x y) (ht : tlook tab t = some te) (hs : te.sh = .sl el)
  (hel : tlook tab el = some te') (hx : aev e x = some (.row id)) (hb : look h id = some (.rowA el' kk n cs)) (hy : aev e y = some (.d (.sc (.int k i)))) (hi : 0 ≤ i ∧ i < n) : AYield P T e h o (.eptr id (i.toNat * te'.size)) := fun Pm F w0 pin ι a w H E => by
 obtain ⟨v, hv, xs, hown, _⟩ := H.blk id _ hb
 have hr := zm E hx
 have hk := (zL (zm E hy)).1
 have hu := (TO t te ht).slice hs
 generalize hau : a.eval x = u at hr
 cases hr with
 | row _ _ h1 h2 =>
  have h3 := h2 v hv
  subst h3
  rcases hown.2 with ⟨_, h4⟩ | ⟨g, cap, cur, h3, _⟩
  ·subst h4; exact absurd hi (by simp)
  ·subst h3
   refine ⟨.pointer (some ⟨g, i.toNat * te'.size, none⟩), .eptr id _ _ rfl fun v' hv' => ?_, fun w' _ => ?_⟩
   ·rw [hv] at hv'; cases hv'; exact ⟨g, n, cap, rfl, rfl⟩
   ·simp [execOp, ho, hau, hk, zbn w' hu (TO el te' hel) g 0 n cap k i hi]
theorem zfe {t : TypeId} {x : Operand} {te : TE} {el el' : TypeId} {id k n : Nat} {cs : List AVal} (TO : TabOk P tab) (ho : o.op = .call { callee := .builtin .len, args := #[x], argTypes := #[t] }) (ht : tlook tab t = some te) (hs : te.sh = .sl el)
  (hx : aev e x = some (.row id)) (hb : look h id = some (.rowA el' k n cs)) : AYield P T e h o (.d (.sc (.int .i64 (n : Int)))) := fun Pm F w0 pin ι a w H E => by
 refine ⟨.int .i64 n, zQ rfl, fun w' _ => ?_⟩
 obtain ⟨v, hv, xs, hown, _⟩ := H.blk id _ hb
 have hr := zm E hx
 have hu := (TO t te ht).slice hs
 have key : ∃ b c, a.eval x = .slice b n c := by
  generalize a.eval x = u at hr
  cases hr with
  | row _ _ h1 h2 =>
   rw [h2 v hv]
   rcases hown.2 with ⟨h3, h4⟩ | ⟨g, cap, cur, h3, _⟩
   ·subst h4; exact ⟨_, _, h3⟩
   ·exact ⟨_, _, h3⟩
 obtain ⟨b, c, hk⟩ := key
 simp [execOp, ho, resolve, invoke, builtin, hk, Builtin.len_, run_underlying hu, goInt]
theorem zdN {t : TypeId} {x : Operand} {te : TE} {id o1 : Nat} {el k n : Nat} {cs xs : List AVal} {c : AVal} (TO : TabOk P tab) (ho : o.op = .load t x) (ht : tlook tab t = some te) (hx : aev e x = some (.eptr id o1)) (hb : look h id = some (.rowA el k n cs))
  (hT : T.contains id = false) (hw : win cs o1 te.size = xs) (hl : Nat.beq xs.length te.size = true) (hc : cond te.agg (some (.agg xs)) xs.head? = some c) : AYield P T e h o c := fun Pm F w0 pin ι a w H E => by
 obtain ⟨v, hv, ys, hown, hly, hr⟩ := H.blk id _ hb
 have hrel := zm E hx
 have hl := Nat.eq_of_beq_eq_true hl
 generalize hau : a.eval x = u at hrel
 cases hrel with
 | eptr _ _ _ h1 h2 =>
  obtain ⟨g, n', cap, h3, rfl⟩ := h2 _ hv
  subst h3
  have hvl : (win ys o1 te.size).length = xs.length := by
   subst hw; simp [win, hly]
  refine zcG (vs := win ys o1 te.size) ho (TO t te ht) hau (by rw [hvl, hl]) (by rw [hvl]) (fun j c u h4 h5 => ?_) hc (CT T ι w) fun w' hw' j u hj => ?_
  ·exact hr (o1 + j) c u (zaf hw h4) (zaf rfl h5)
  ·have h6 := zaf rfl hj
   have h7 := zcc H hw' hv rfl hT
   have h8 := hown.cells (g := g) rfl (o1 + j) u h6
   rw [Addr.add_mid, Nat.zero_add] at h8
   exact z7 h7 h8
theorem zhS {t el el' k kk j id : Nat} {x y : Operand} {cs : List AVal} {n : Nat} {q : IntKind} {i : Int} (TO : TabOk P tab) (ho : o.op = .indexAddr t x y) (hel : telem tab t = some el) (hsz : tsize tab el = some k) (hx : aev e x = some (.row id)) (hb : look h id = some (.rowA el' kk n cs)) (hy : aev e y = some (.d (.sc (.int q i)))) (hj : i = (j : Int)) (hlt : j < n) :
  AYield P T e h o (.eptr id (j * k)) := by
 obtain ⟨te, h1, h2⟩ := zJ hel
 obtain ⟨te', h3, rfl⟩ := zI hsz
 subst hj
 exact zdO TO ho h1 h2 h3 hx hb hy ⟨by omega, by omega⟩
theorem zkm {t el el' id k n : Nat} {x : Operand} {cs : List AVal} (TO : TabOk P tab) (ho : o.op = .call { callee := .builtin .len, args := #[x], argTypes := #[t] }) (hel : telem tab t = some el) (hx : aev e x = some (.row id)) (hb : look h id = some (.rowA el' k n cs)) : AYield P T e h o (.d (.sc (.int .i64 (n : Int)))) := by
 obtain ⟨te, h1, h2⟩ := zJ hel
 exact zfe TO ho h1 h2 hx hb
theorem ziY {t id o1 s el k n : Nat} {x : Operand} {cs xs : List AVal} {c : AVal} {ag : Bool} (TO : TabOk P tab) (ho : o.op = .load t x) (hs : tsize tab t = some s) (ha : tagg tab t = some ag) (hx : aev e x = some (.eptr id o1)) (hb : look h id = some (.rowA el k n cs)) (hT : T.contains id = false)
  (hw : win cs o1 s = xs) (hl : Nat.beq xs.length s = true) (hc : lval ag xs = some c) : AYield P T e h o c := by
 obtain ⟨te, h1, rfl⟩ := zI hs
 obtain ⟨te', h3, rfl⟩ := za0 ha
 rw [h1] at h3; cases h3
 exact zdN TO ho h1 hx hb hT hw hl (zbG hc)
end
section
variable {P : Program} {nt : Nat} {Q : Post} {e : Env} {h : Heap} {ops : Array Oper} {o : Oper} {rest : List Oper} {tab : TTab}
theorem zhY {t el k len d : Nat} {ps : Array (Nat × Operand)} {al : List (Nat × AVal)} {xs : List AVal} (TO : TabOk P tab) (hw : awant ops e o = some true) (hdst : o.dst = some d) (hd : Nat.blt d nt = true) (hid : Nat.blt d 1000 = true) (ho : o.op = .buildSlice t len ps)
  (hel : telem tab t = some el) (hsz : tsize tab el = some k) (hok : (match tlook tab el with | some te => te.zero.all (·.oneCell') && Nat.blt 0 te.size && Nat.beq te.zero.length te.size && Nat.blt (len * te.size) 16777216 && Nat.blt 0 len | none => false) = true)
  (hal : aparts e ps.toList = some al) (hf : (match tlook tab el with
   | some te => afill (fun i => some (i * te.size, te.size)) ((List.range (len * te.size)).map fun j => match te.zero[j % te.size]? with | some v => .d (.sc v) | none => .top) al
   | none => none) = some xs)
  (HK : AOps P nt ops Q rest ((d, .row d) :: killE d e) ((d, .rowA el k len (xs.map (killV d))) :: killH d h)) : AOps P nt ops Q (o :: rest) e h := by
 obtain ⟨te, h1, h2⟩ := zJ hel
 obtain ⟨te', h3, rfl⟩ := zI hsz
 rw [h3] at hok hf
 simp only [Bool.and_eq_true] at hok
 exact zax (T := []) hw (zdi TO ho hdst h1 h2 h3 hok.1.1.1.1 hok.1.1.1.2 hok.1.1.2 hok.1.2 hok.2 hal hf hid hd) fun e' h' ⟨h1, h2⟩ => by subst h1 h2; exact HK
end
end Go.Proofs.YtoahnbmedcjpeaaGreatDoor.Ab

namespace Go.Proofs.YtoahnbmedcjpeaaGreatDoor
open Go.RowKit Go.Lib
def idxOf {α : Type} (p : α → Bool) : List α → Int
 | [] => -1
 | x :: r => if p x then 0 else if idxOf p r = -1 then -1 else idxOf p r + 1
theorem zeo {α : Type} (p : α → Bool) : ∀ l : List α, -1 ≤ idxOf p l ∧ idxOf p l < l.length
 | [] => by simp [idxOf]
 | x :: r => by
  have := zeo p r
  rw [List.length_cons]
  unfold idxOf
  split
  ·omega
  ·split <;> omega
theorem zN {α : Type} (p : α → Bool) : ∀ l : List α, (∀ x ∈ l, p x = false) → idxOf p l = -1
 | [], _ => rfl
 | x :: r, h => by
  unfold idxOf
  rw [if_neg (by rw [h x (by simp)]; simp), if_pos (zN p r fun y hy => h y (by simp [hy]))]
theorem zY {α : Type} (p : α → Bool) : ∀ (l : List α) (k : Nat) (h : k < l.length), (∀ j (hj : j < k), p (l[j]'(by omega)) = false) → p l[k] = true → idxOf p l = (k : Int)
 | [], k, h, _, _ => by simp at h
 | x :: r, 0, h, h1, h2 => by
  unfold idxOf
  rw [if_pos (by simpa using h2)]; rfl
 | x :: r, k + 1, h, h1, h2 => by
  have h0 := h1 0 (by omega)
  have ih := zY p r k (by simpa using h) (fun j hj => by have := h1 (j + 1) (by omega); simpa using this) (by simpa using h2)
  unfold idxOf
  rw [if_neg (by simpa using h0), ih, if_neg (by omega)]
  omega
end Go.Proofs.YtoahnbmedcjpeaaGreatDoor

namespace Go.Proofs.YtoahnbmedcjpeaaGreatDoor.Ab
open Go.RowKit
section
variable {P : Program} {nt : Nat} {Q : Post} {e : Env} {h : Heap} {ops : Array Oper} {T : List Nat} {fuel : Nat} {listed : Array Bool}
theorem zbP {j k l : Nat} (hr : Region.ready .any ops listed = [j, k, l]) (H1 : AAt P nt ops Q T fuel listed j e h) (H2 : AAt P nt ops Q T fuel listed k e h) (H3 : AAt P nt ops Q T fuel listed l e h) : AAny P nt ops Q T (fuel + 1) listed e h :=
 zfJ hr rfl fun i hi => by
  rcases List.mem_cons.1 hi with rfl | hi
  ·exact H1
  rcases List.mem_cons.1 hi with rfl | hi
  ·exact H2
  ·rw [List.mem_singleton.1 hi]; exact H3
theorem zjp {j k l m : Nat} (hr : Region.ready .any ops listed = [j, k, l, m]) (H1 : AAt P nt ops Q T fuel listed j e h) (H2 : AAt P nt ops Q T fuel listed k e h) (H3 : AAt P nt ops Q T fuel listed l e h) (H4 : AAt P nt ops Q T fuel listed m e h) : AAny P nt ops Q T (fuel + 1) listed e h :=
 zfJ hr rfl fun i hi => by
  rcases List.mem_cons.1 hi with rfl | hi
  ·exact H1
  rcases List.mem_cons.1 hi with rfl | hi
  ·exact H2
  rcases List.mem_cons.1 hi with rfl | hi
  ·exact H3
  ·rw [List.mem_singleton.1 hi]; exact H4
theorem zP : NoPanic RF := fun _ _ _ h => h
end
end Go.Proofs.YtoahnbmedcjpeaaGreatDoor.Ab

namespace Go.Proofs.YtoahnbmedcjpeaaGreatDoor.Ab
open Go.RowKit Go.Lib Go.Shelf
theorem zdh {P : Program} {f : FuncId} {cs : List AVal} {us : List Value} {c : AVal} {v : Value} (hg : isGo P f = true) (hu : valL cs = some us) (hv : valA c = some v) (h1 : oneA c = true)
  (H : ∀ w, GlobOk w → Calls P f us.toArray w fun e w' => e = .returned v ∧ Below w.heap.size w w') : ACall P f cs [] (fun c' h' => c' = c ∧ h' = []) := ⟨hg, fun Pm F w0 pin ι xs w HH HA => by
 have hx : xs = us.toArray := by
  have h2 : VRel w F ι (.agg cs) (.agg xs) := .agg cs xs HA.1 HA.2
  have h3 : valA (.agg cs) = some (.agg us.toArray) := by rw [valA, hu]
  have h4 := zaa h2 h3
  injection h4
 subst hx
 refine (H w HH.glob).mono ?_
 rintro e w' ⟨rfl, hb⟩
 exact ⟨v, c, [], ι, rfl, ⟨rfl, rfl⟩, HH.grew (Grew.of_below hb), zB _ _ _ c v hv h1⟩⟩
section
variable {P : Program} {nt : Nat} {Q : Post} {e : Env} {h : Heap} {ops : Array Oper} {o : Oper} {rest : List Oper}
def gslot (ops : Array Oper) (o : Oper) : Option Nat := match o.guard with
 | some (j, _) => (ops[j]?).bind (·.dst)
 | none => none
theorem zhK {d : Nat} {b c : Bool} (hd : look e d = some (.d (.sc (.bool b)))) (hb : b = c) : AWk nt e h ((d, .d (.sc (.bool c))) :: e) h := by
 subst hb
 refine z8 hd fun _ _ _ _ h => h
theorem O_gs {d : Nat} {b : Bool} (hg : gslot ops o = some d) (hd : look e d = some (.d (.sc (.bool b)))) (Ht : b = true → AOps P nt ops Q (o :: rest) ((d, .d (.sc (.bool true))) :: e) h) (Hf : b = false → AOps P nt ops Q (o :: rest) ((d, .d (.sc (.bool false))) :: e) h) : AOps P nt ops Q (o :: rest) e h := by
 cases hb : b with
 | true => exact zR (zhK hd hb) (Ht hb)
 | false => exact zR (zhK hd hb) (Hf hb)
theorem Q_gs {d : Nat} {b : Bool} (hg : gslot ops o = some d) (hd : look e d = some (.d (.sc (.bool b)))) (Ht : b = true → AQ P nt ops Q (o :: rest) ((d, .d (.sc (.bool true))) :: e) h) (Hf : b = false → AQ P nt ops Q (o :: rest) ((d, .d (.sc (.bool false))) :: e) h) : AQ P nt ops Q (o :: rest) e h := by
 cases hb : b with
 | true => subst hb; exact zjm hd (fun _ _ _ _ h => h) (Ht rfl)
 | false => subst hb; exact zjm hd (fun _ _ _ _ h => h) (Hf rfl)
theorem O_wt {l : List Oper} (hw : awant ops e o = some true) (H : AOps P nt ops Q (o :: l) e h) : AOps P nt ops Q (o :: l) e h := H
theorem Q_wt {l : List Oper} (hw : awant ops e o = some true) (H : AQ P nt ops Q (o :: l) e h) : AQ P nt ops Q (o :: l) e h := H
theorem zF {z : Bool} {x y : Code} (E1 : Env) (H1 : Heap) (h1 : AWp z P nt x (AThen (fun e' h' => AWk nt e' h' E1 H1) RF) e h) (h2 : AWp z P nt y Q E1 H1) : AWp z P nt (.seq x y) Q e h := zdg E1 H1 h1 h2
end
def b1D (b : UInt8) : List Dat := [.sc (.int .u8 (b.toNat : Int))]
theorem ziN (b : UInt8) : (b1D b).length = 1 := rfl
theorem zhC (s : List UInt8) : s.flatMap b1D = s.map fun b => Dat.sc (.int .u8 (b.toNat : Int)) := by
 induction s with
 | nil => rfl
 | cons c r ih => rw [List.flatMap_cons, List.map_cons, ih]; rfl
section
variable {P : Program} {nt : Nat} {Q : Post} {e : Env} {h : Heap} {ops : Array Oper} {o : Oper} {rest : List Oper} {T : List Nat} {tab : TTab}
def tint (tab : TTab) (t : Nat) : Option IntKind := match tlook tab t with
 | some ⟨_, _, _, _, .it k⟩ => some k
 | _ => none
def tstr (tab : TTab) (t : Nat) : Bool := match tlook tab t with
 | some ⟨_, _, _, _, .str⟩ => true
 | _ => false
theorem zaZ {t : Nat} {k : IntKind} (TO : TabOk P tab) (h : tint tab t = some k) : P.underlying t = some (.int k) := by
 unfold tint at h
 split at h
 ·rename_i hl
  cases h
  obtain ⟨d, hd, _, hs⟩ := (TO t _ hl).und
  rw [hd]; exact congrArg some hs
 ·cases h
theorem zaQ {t : Nat} (TO : TabOk P tab) (h : tstr tab t = true) : P.underlying t = some .string := by
 unfold tstr at h
 split at h
 ·rename_i hl
  obtain ⟨d, hd, _, hs⟩ := (TO t _ hl).und
  rw [hd]; exact congrArg some hs
 ·cases h
theorem ziX {t u : Nat} {x : Operand} {k q : IntKind} {n : Int} (TO : TabOk P tab) (ho : o.op = .convert t u x) (ht : tint tab t = some q) (hu : tstr tab u = true) (hx : aev e x = some (.d (.sc (.int k n)))) : AYield P T e h o (strA (Utf8.encode n).data.toList) := zE _ fun w F ι a E =>
 ⟨.string ⟨⟨(Utf8.encode n).data.toList⟩⟩, zQ rfl, fun w' => by
  simp [execOp, ho, (zL (zm E hx)).1, convert, run_underlying (zaZ TO ht), run_underlying (zaQ TO hu), Conv.intToString]⟩
theorem zjb {t u el : Nat} {x : Operand} {d : Option Tmp} {s : List UInt8} (TO : TabOk P tab) (ho : o.op = .convert t u x) (hdst : o.dst = d) (ht : tstr tab t = true) (hu : telem tab u = some el) (hel : tint tab el = some .u8) (hx : aev e x = some (strA s)) (hd : dstOk nt d = true) :
  AEff P nt T e h o (fun e' h' => e' = aput d (.d (.sl (s.flatMap b1D) s.length)) e ∧ h' = h) := fun Pm F w0 pin ι a w R K Qx hK => by
 obtain ⟨te, h1, h2⟩ := zJ hu
 obtain ⟨dd, hd1, _, hs⟩ := (TO u te h1).und
 rw [h2] at hs
 have hs : dd = .slice el := hs
 subst hs
 have hev := (zL (zm R.env hx)).1
 have hrun := Go.Lib.run_convert_string_bytes (P := P) w t u el ⟨⟨s⟩⟩ (zaQ TO ht) hd1 (zaZ TO hel)
 have G : Grew w (Go.Lib.bytesWorld w el ⟨⟨s⟩⟩) := ⟨rfl, rfl, rfl, by rw [Go.Lib.bytesWorld_size]; omega, fun r hr => Go.Lib.bytesWorld_at_old w el _ r hr⟩
 have hcap : s.length ≤ grownCap w s.length 0 el := grownCap_ge w s.length 0 el
 have hsz : (ByteArray.mk ⟨s⟩).size = s.length := rfl
 have hfl := zhC s
 have hDR : DRel (Go.Lib.bytesWorld w el ⟨⟨s⟩⟩) (FreeB F ι) (.sl (s.flatMap b1D) s.length) (.slice (some ⟨w.heap.size, 0, none⟩) s.length (grownCap w s.length 0 el)) := by
  refine .sl _ _ w.heap.size 0 _ (s.map fun b => Value.int .u8 (b.toNat : Int)) hcap (by rw [hfl]; simp) (fun _ => ⟨fun hF => ?_, fun id v hv hb2 => ?_⟩) (fun i u hu => ?_) fun i c u g1 g2 => ?_
  ·have := R.heap.forb _ hF
   have := R.heap.size
   omega
  ·have := R.heap.lt hv hb2
   omega
  ·rw [Nat.zero_add]
   have hi : i < s.length := by
    have := (List.getElem?_eq_some_iff.1 hu).1
    simpa using this
   have hu2 : u = .int .u8 ((s[i]).toNat : Int) := by
    rw [List.getElem?_map, List.getElem?_eq_getElem hi] at hu
    exact (Option.some.inj hu).symm
   subst hu2
   unfold World.cell?
   rw [show (Go.Lib.bytesWorld w el ⟨⟨s⟩⟩).heap[w.heap.size]? = _ from Go.Lib.bytesWorld_at_new w el ⟨⟨s⟩⟩]
   show (Go.Lib.bytesCells w el ⟨⟨s⟩⟩)[i]? = _
   unfold Go.Lib.bytesCells
   rw [Array.getElem?_append_left (by simpa using hi), Array.getElem?_map]
   show Option.map _ ((Array.mk s)[i]?) = _
   rw [show (Array.mk s)[i]? = s[i]? from by simp, List.getElem?_eq_getElem hi]
   rfl
  ·rw [hfl, List.getElem?_map] at g1
   rw [List.getElem?_map] at g2
   cases hc : s[i]? with
   | none => rw [hc] at g1; cases g1
   | some b => rw [hc] at g1 g2; cases g1; cases g2; exact .sc _ rfl
 unfold Oper.wp
 have : (execOp a.eval o).run P w = .ok (.value (.slice (some ⟨w.heap.size, 0, none⟩) s.length (grownCap w s.length 0 el))) (Go.Lib.bytesWorld w el ⟨⟨s⟩⟩) := by
  simp only [execOp, ho, hev]
  simp [hrun]
  exact ⟨rfl, rfl⟩
 rw [this, Oper.upon_value, hdst]
 exact hK ι _ _ _ _ ⟨rfl, rfl⟩ ((R.grew G).put hd (.d _ _ hDR)) ⟨G.ct T, fun id _ v r h1 h2 _ => ⟨v, h1, h2⟩⟩ (zx _ _ _)
theorem zi5 {t u el d : Nat} {x : Operand} {s : List UInt8} (TO : TabOk P tab) (hw : awant ops e o = some true) (hdst : o.dst = some d) (hd : Nat.blt d nt = true) (ho : o.op = .convert t u x) (ht : tstr tab t = true) (hu : telem tab u = some el) (hel : tint tab el = some .u8) (hx : aev e x = some (strA s))
  (HK : AOps P nt ops Q rest ((d, .d (.sl (s.flatMap b1D) s.length)) :: e) h) : AOps P nt ops Q (o :: rest) e h :=
 zax (T := []) hw (zjb TO ho hdst ht hu hel hx hd) fun e' h' ⟨h1, h2⟩ => by subst h1 h2; exact HK
theorem zdS {t : TypeId} {x : Operand} {s : List UInt8} (TO : TabOk P tab) (ho : o.op = .call { callee := .builtin .len, args := #[x], argTypes := #[t] }) (ht : tstr tab t = true) (hx : aev e x = some (strA s)) : AYield P T e h o (.d (.sc (.int .i64 (s.length : Int)))) := zE _ fun w F ι ac E =>
 ⟨.int .i64 (s.length : Int), zQ rfl, fun w' => by
  have hu := run_underlying (zaQ TO ht)
  have hk := (zL (zm E hx)).1
  simp [execOp, ho, resolve, invoke, builtin, hk, Builtin.len_, hu, goInt]
  rfl⟩
end
end Ab
def letB (n : Int) : Bool := decide (97 ≤ n) && decide (n ≤ 122) || decide (65 ≤ n) && decide (n ≤ 90)
def digB (n : Int) : Bool := decide (48 ≤ n) && decide (n ≤ 57)
def sgnB (n : Int) : Bool := Lib.contains [45, 95, 46, 47] (Utf8.encode n).data.toList
def badB (i : Nat) (n : Int) : Bool := !letB n && (((i : Int) == 0) || !digB n && !sgnB n)
def nmL : Nat → List UInt8 → Bool
 | _, [] => true
 | i, c :: r => !badB i (c.toNat : Int) && nmL (i + 1) r
def nameB (s : List UInt8) : Bool := !decide (s = []) && decide (s.length ≤ 32) && nmL 0 s
end Go.Proofs.YtoahnbmedcjpeaaGreatDoor

namespace Go.Proofs.YtoahnbmedcjpeaaGreatDoor.Ab
open Go.RowKit Go.Lib
section
variable {P : Program} {nt : Nat} {Q : Post} {e : Env} {h : Heap} {ops : Array Oper} {o : Oper} {rest : List Oper}
theorem zad (f : FuncId) (w F ι u) (h : VRel w F ι (.fn f []) u) : VRel w F ι (fn0 f) u := by
 cases h with
 | fn _ _ C hl _ =>
  have : C = #[] := Array.eq_empty_of_size_eq_zero hl
  subst this
  exact .d _ _ (.sc _ rfl)
theorem zaj {f : FuncId} {x : Operand} {args : Array Operand} {ats : Array TypeId} {cs : List AVal} {c : AVal} {v : Value} {d : Nat} (hw : awant ops e o = some true) (hdst : o.dst = some d) (hd : Nat.blt d nt = true) (ho : o.op = .call { callee := .value x, args := args, argTypes := ats }) (hf : aev e x = some (fn0 f)) (hx : aevs e args.toList = some cs)
  (H : ACall P f cs [] (fun c' h' => c' = c ∧ h' = [])) (hc : valA c = some v) (hrel : ∀ w F ι, VRel w F ι c v) (HK : AQ P nt ops Q rest ((d, c) :: e) h) : AQ P nt ops Q (o :: rest) e h := fun Pm F w0 pin ι a w R =>
 wpQuiet_step fun K hK => by
  rw [zab R.env hw, if_pos rfl]
  refine ⟨v, fun w' hw' => ?_, hK _ ?_⟩
  ·have hau : a.eval x = .func (.func f) #[] #[] := (zL (zm R.env hf)).1
   unfold Oper.quietAt
   rw [zbD H.1 ho hau]
   refine ⟨rfl, ?_⟩
   have R' := R.grew hw'.grew
   have hF : ∀ r, Fc F ι r → r < w'.heap.size := fun r hr => hr.elim (fun h1 => Nat.lt_of_lt_of_le (R'.heap.forb r h1) R'.heap.size) fun ⟨id, v, h1, h2⟩ => R'.heap.lt h1 h2
   have hA := zaM R'.env hx
   have hA2 : ArgsRel w' F ι cs (args.map a.eval ++ #[]) := by simpa using hA
   refine (H.2 _ _ w' _ _ _ w' (HRel.none (Fc F ι) w' hF R'.heap.glob) (zdc hA2)).mono ?_
   rintro x w2 ⟨u, c', h', ι', rfl, ⟨rfl, rfl⟩, hH, hv⟩
   refine ⟨by rw [zaa hv hc], ?_⟩
   exact (hw'.grew.trans hH.grewC).ct []
  ·have := HK Pm F w0 pin ι _ w (R.put (d := some d) hd (hrel _ _ _))
   rw [hdst]
   exact this
theorem Q_cF {f : FuncId} {x : Operand} {caps : List AVal} {args : Array Operand} {ats : Array TypeId} {cs : List AVal} {c : AVal} {v : Value} {d : Nat} (hw : awant ops e o = some true) (hdst : o.dst = some d) (hd : Nat.blt d nt = true) (ho : o.op = .call { callee := .value x, args := args, argTypes := ats }) (hf : aev e x = some (.fn f caps)) (hx : aevs e args.toList = some cs)
  (H : ACall P f (cs ++ caps) [] (fun c' h' => c' = c ∧ h' = [])) (hc : valA c = some v) (hrel : ∀ w F ι, VRel w F ι c v) (HK : AQ P nt ops Q rest ((d, c) :: e) h) : AQ P nt ops Q (o :: rest) e h := fun Pm F w0 pin ι a w R =>
 wpQuiet_step fun K hK => by
  rw [zab R.env hw, if_pos rfl]
  refine ⟨v, fun w' hw' => ?_, hK _ ?_⟩
  ·have R' := R.grew hw'.grew
   have hfv := zm R'.env hf
   generalize hau : a.eval x = u at hfv
   cases hfv with
   | fn _ _ C hl hh =>
   unfold Oper.quietAt
   rw [zbD H.1 ho hau]
   refine ⟨rfl, ?_⟩
   have hF : ∀ r, Fc F ι r → r < w'.heap.size := fun r hr => hr.elim (fun h1 => Nat.lt_of_lt_of_le (R'.heap.forb r h1) R'.heap.size) fun ⟨id, v, h1, h2⟩ => R'.heap.lt h1 h2
   have hA2 : ArgsRel w' F ι (cs ++ caps) (args.map a.eval ++ C) := zev (zaM R'.env hx) ⟨hl, hh⟩
   refine (H.2 _ _ w' _ _ _ w' (HRel.none (Fc F ι) w' hF R'.heap.glob) (zdc hA2)).mono ?_
   rintro x w2 ⟨u, c', h', ι', rfl, ⟨rfl, rfl⟩, hH, hv⟩
   refine ⟨by rw [zaa hv hc], ?_⟩
   exact (hw'.grew.trans hH.grewC).ct []
  ·have := HK Pm F w0 pin ι _ w (R.put (d := some d) hd (hrel _ _ _))
   rw [hdst]
   exact this
end
def fstB {α : Type} (nm : α → List UInt8) (L : List α) (i : Nat) : Bool := match L[i]? with
 | some y => decide (idxOf (fun x => decide (nm x = nm y)) L = (i : Int))
 | none => false
attribute [local irreducible] AWp AOps AQ AYield AEff ACall AWk AAny AAt AThen AIn APost NoPanic
theorem zkB (L : List (List UInt8)) (f : FuncId) (caps : List AVal) (p : (List UInt8) → Bool) (hf : ∀ x ∈ L, ACall Tryz.prog f ([strA x] ++ caps) [] (Just (boolA (p x)))) (hn : L.length ≤ 140737488355328) :
  ACall Tryz.prog 185 [.d (.sl (L.flatMap s1D) L.length), .fn f caps] [] (Just (intA (idxOf p L))) := by
 refine zc za Tryz.func185 rfl Tryz.ntmps185 (congrArg Array.toList Tryz.results185) (by kernel_rfl) rfl ?_
 repeat (first | refine q_Z ?_ | ((first | apply q_K rfl | apply q_X rfl); (exact q_H)) | refine q_U ?_)
 refine zw (fun k : Nat => [(0, .d (.sl (L.flatMap s1D) L.length)), (1, .fn f caps), (7, intA (L.length : Int)), (8, intA (k : Int))]) (fun _ => []) (fun k => k ≤ L.length ∧ ∀ j (hj : j < L.length), j < k → p L[j] = false) (fun k => L.length - k) 0 ⟨Nat.zero_le _, fun j _ h => absurd h (Nat.not_lt_zero j)⟩ (q_S) ?_
 rintro k ⟨hk, hall⟩
 try dsimp only
 by_cases hkL : k < L.length
 ·have hq := hf _ (List.getElem_mem hkL)
  have hw := zj zb1 L k 1 hkL (by decide)
  cases hp : p L[k] with
  | true =>
   rw [hp] at hq
   repeat (first | refine q_Z ?_ | ((first | apply q_K rfl | apply q_X rfl); (first | exact q_A | exact q_R (w := hw) | exact q_B)) | refine q_U ?_ | (refine O_cF rfl rfl rfl rfl rfl rfl hq (fun _ => rfl) ?_))
   refine zo rfl ⟨?_, rfl⟩
   rw [zY p L k hkL (fun j hj => hall j (by omega) hj) hp]
  | false =>
   rw [hp] at hq
   repeat (first | refine q_Z ?_ | ((first | apply q_K rfl | apply q_X rfl); (first | exact q_A | exact q_R (w := hw) | exact q_B)) | refine q_U ?_ | (refine O_cF rfl rfl rfl rfl rfl rfl hq (fun _ => rfl) ?_))
   refine ⟨k + 1, ⟨by omega, fun j hj h => ?_⟩, by omega, q_S⟩
   by_cases hjk : j = k
   ·subst hjk; exact hp
   ·exact hall j hj (by omega)
 ·
  repeat (first | refine q_Z ?_ | ((first | apply q_K rfl | apply q_X rfl); (exact q_H)) | refine q_U ?_)
  refine zo rfl ⟨?_, rfl⟩
  rw [zN p L fun x hx => by
   obtain ⟨j, hj, rfl⟩ := List.mem_iff_getElem.1 hx
   exact hall j hj (by omega)]; rfl
theorem ziA (L : List (List UInt8)) (g : FuncId) (i : Nat) (hi : i < L.length) (nm : (List UInt8) → List UInt8) (hg : ∀ x, ACall Tryz.prog g [strA x] [] (Just (strA (nm x)))) (x : (List UInt8)) :
  ACall Tryz.prog 186 ([strA x] ++ [.iptr [.sc (.func (.func g) #[] #[])] 0, .iptr [.sl (L.flatMap s1D) L.length] 0, .iptr [.sc (.int .i64 (i : Int))] 0]) [] (Just (boolA (decide (nm x = nm L[i])))) := by
 have h1 := hg x
 have h2 := hg L[i]
 have hw := zj zb1 L i 1 hi (by decide)
 refine zc za Tryz.func186 rfl Tryz.ntmps186 (congrArg Array.toList Tryz.results186) (by kernel_rfl) rfl ?_
 repeat (first | refine q_Y ?_ | ((first | apply q_K rfl | apply q_X rfl); (first | exact q_A | exact q_R (w := (by first | exact hw | rfl)) | exact q_B | (exact zaY rfl rfl rfl rfl))) | refine q_U ?_ | (first | refine zaj rfl rfl rfl rfl rfl rfl h1 rfl (fun _ _ _ => zB _ _ _ _ _ rfl rfl) ?_ | refine zaj rfl rfl rfl rfl rfl rfl h2 rfl (fun _ _ _ => zB _ _ _ _ _ rfl rfl) ?_))
 exact zo rfl ⟨rfl, rfl⟩
theorem zjU (L : List (List UInt8)) (g : FuncId) (i : Nat) (hi : i < L.length) (nm : (List UInt8) → List UInt8) (hg : ∀ x, ACall Tryz.prog g [strA x] [] (Just (strA (nm x)))) (hn : L.length ≤ 140737488355328) :
  ACall Tryz.prog 118 [.d (.sl (L.flatMap s1D) L.length), .d (.sc (.int .i64 (i : Int))), .fn g []] [] (Just (boolA (fstB nm L i))) := by
 have hq := zkB L 186 [.iptr [.sc (.func (.func g) #[] #[])] 0, .iptr [.sl (L.flatMap s1D) L.length] 0, .iptr [.sc (.int .i64 (i : Int))] 0] (fun x => decide (nm x = nm L[i])) (fun x _ => ziA L g i hi nm hg x) hn
 unfold fstB
 rw [List.getElem?_eq_getElem hi]
 obtain ⟨b, hb⟩ : ∃ b, idxOf (fun x => decide (nm x = nm L[i])) L = b := ⟨_, rfl⟩
 dsimp only
 rw [hb] at hq ⊢
 refine zc za Tryz.func118 rfl Tryz.ntmps118 (congrArg Array.toList Tryz.results118) (by kernel_rfl) rfl ?_
 refine zf (z8 (t := 2) rfl (zad g)) ?_
 refine zn ?_
 refine ze ?_
 iterate 3 refine q_d ?_
 apply O_y rfl rfl rfl
 exact q_2
 refine zi ?_
 refine q_j ?_
 refine zf (zr (id := 3) (ds := [.sl (L.flatMap s1D) L.length]) rfl rfl) ?_
 refine zf (zr (id := 4) (ds := [.sc (.int .i64 (i : Int))]) rfl rfl) ?_
 refine zf (zr (id := 5) (ds := [.sc (.func (.func g) #[] #[])]) rfl rfl) ?_
 repeat (first | refine q_Y ?_ | ((first | apply q_K rfl | apply q_X rfl); (first | exact q_H | (exact zK rfl rfl))) | refine q_U ?_ | (refine q_Q hq ?_))
 refine zo rfl ⟨?_, rfl⟩
 rfl
end Go.Proofs.YtoahnbmedcjpeaaGreatDoor.Ab

namespace Go.Proofs.YtoahnbmedcjpeaaGreatDoor.St
structure Weak {α : Type} (lt : α → α → Bool) : Prop where
 asym : ∀ x y, lt x y = true → lt y x = false
 neg : ∀ x y z, lt x z = true → lt x y = true ∨ lt y z = true
section
variable {α : Type} {lt : α → α → Bool}
theorem Weak.tr (W : Weak lt) {x y z : α} (h1 : lt x y = true) (h2 : lt y z = true) : lt x z = true :=
 (W.neg x z y h1).elim id fun h => by rw [W.asym _ _ h2] at h; cases h
theorem Weak.le_lt (W : Weak lt) {x y z : α} (h1 : lt y x = false) (h2 : lt y z = true) : lt x z = true :=
 (W.neg y x z h2).elim (fun h => by rw [h1] at h; cases h) id
theorem Weak.lt_le (W : Weak lt) {x y z : α} (h1 : lt x y = true) (h2 : lt z y = false) : lt x z = true :=
 (W.neg x z y h1).elim id fun h => by rw [h2] at h; cases h
theorem Weak.le_le (W : Weak lt) {x y z : α} (h1 : lt y x = false) (h2 : lt z y = false) : lt z x = false :=
 Bool.eq_false_iff.2 fun h => (W.neg z y x h).elim (fun h => by rw [h2] at h; cases h) fun h => by rw [h1] at h; cases h
theorem Weak.irr (W : Weak lt) (x : α) : lt x x = false := Bool.eq_false_iff.2 fun h => by have := W.asym _ _ h; rw [h] at this; cases this
variable (lt) in
def mrg : List α → List α → List α
 | [], r => r
 | x :: l, [] => x :: l
 | x :: l, y :: r => bif lt y x then y :: mrg (x :: l) r else x :: mrg l (y :: r)
termination_by l r => l.length + r.length
theorem zaK (r : List α) : mrg lt [] r = r := by rw [mrg]
theorem zaW (l : List α) : mrg lt l [] = l := by cases l <;> rw [mrg]
theorem zaT {x y : α} {l r : List α} (h : lt y x = true) : mrg lt (x :: l) (y :: r) = y :: mrg lt (x :: l) r := by rw [mrg, h]; rfl
theorem zaU {x y : α} {l r : List α} (h : lt y x = false) : mrg lt (x :: l) (y :: r) = x :: mrg lt l (y :: r) := by rw [mrg, h]; rfl
theorem za3 (W : Weak lt) : ∀ a b c : List α, mrg lt (mrg lt a b) c = mrg lt a (mrg lt b c)
 | [], b, c => by rw [zaK, zaK]
 | x :: a, [], c => by rw [zaW, zaK]
 | x :: a, y :: b, [] => by rw [zaW, zaW]
 | x :: a, y :: b, z :: c => by
  cases h1 : lt y x
  ·rw [zaU h1]
   cases h2 : lt z x
   ·rw [zaU h2, za3 W a (y :: b) (z :: c)]
    cases h3 : lt z y
    ·rw [zaU h3, zaU h1]
    ·rw [zaT h3, zaU h2]
   ·have h3 : lt z y = true := W.lt_le h2 h1
    rw [zaT h2, zaT h3, zaT h2, ← zaU h1, za3 W (x :: a) (y :: b) c]
  ·rw [zaT h1]
   cases h3 : lt z y
   ·rw [zaU h3, zaU h3, zaT h1, za3 W (x :: a) b (z :: c)]
   ·rw [zaT h3, zaT h3, zaT (W.tr h3 h1), ← zaT h1, za3 W (x :: a) (y :: b) c]
termination_by a b c => a.length + b.length + c.length
theorem zbE : ∀ l1 l2 r1 r2 : List α, (∀ x ∈ r1, ∀ y ∈ l2, lt x y = true) → (∀ x ∈ l1, ∀ y ∈ r2, lt y x = false) → mrg lt (l1 ++ l2) (r1 ++ r2) = mrg lt l1 r1 ++ mrg lt l2 r2
 | [], l2, [], r2, _, _ => by rw [zaK]; rfl
 | [], [], y :: r1, r2, _, _ => by simp only [List.nil_append, zaK]
 | [], x :: l2, y :: r1, r2, h1, h2 => by
  have h := zbE [] (x :: l2) r1 r2 (fun u hu v hv => h1 u (List.mem_cons_of_mem _ hu) v hv) (fun u hu => by cases hu)
  rw [zaK] at h ⊢
  rw [List.nil_append] at h ⊢
  rw [List.cons_append, zaT (h1 y (List.mem_cons_self ..) x (List.mem_cons_self ..)), h]; rfl
 | x :: l1, l2, [], [], _, _ => by simp only [List.append_nil, zaW]
 | x :: l1, l2, [], y :: r2, h1, h2 => by
  have h := zbE l1 l2 [] (y :: r2) (fun u hu => by cases hu) (fun u hu v hv => h2 u (List.mem_cons_of_mem _ hu) v hv)
  rw [zaW] at h ⊢
  rw [List.nil_append] at h ⊢
  rw [List.cons_append, zaU (h2 x (List.mem_cons_self ..) y (List.mem_cons_self ..)), h]; rfl
 | x :: l1, l2, y :: r1, r2, h1, h2 => by
  rw [List.cons_append, List.cons_append]
  cases hl : lt y x
  ·rw [zaU hl, zaU hl, List.cons_append, ← List.cons_append, zbE l1 l2 (y :: r1) r2 h1 (fun u hu => h2 u (List.mem_cons_of_mem _ hu))]
  ·rw [zaT hl, zaT hl, List.cons_append, ← List.cons_append, zbE (x :: l1) l2 r1 r2 (fun u hu => h1 u (List.mem_cons_of_mem _ hu)) h2]
termination_by l1 l2 r1 r2 => l1.length + l2.length + r1.length + r2.length
theorem zbq : ∀ l r : List α, (mrg lt l r).Perm (l ++ r)
 | [], r => by rw [zaK]; exact .refl _
 | x :: l, [] => by rw [zaW, List.append_nil]
 | x :: l, y :: r => by
  cases h : lt y x
  ·rw [zaU h]; exact (zbq l (y :: r)).cons x
  ·rw [zaT h]; exact ((zbq (x :: l) r).cons y).trans List.perm_middle.symm
termination_by l r => l.length + r.length
theorem zfq (l r : List α) : (mrg lt l r).length = l.length + r.length := by rw [(zbq l r).length_eq, List.length_append]
theorem zfr {x : α} {l r : List α} : x ∈ mrg lt l r ↔ x ∈ l ∨ x ∈ r := by rw [(zbq l r).mem_iff, List.mem_append]
variable (lt) in
def Srt (l : List α) : Prop := l.Pairwise fun a b => lt b a = false
theorem Srt.app {l r : List α} (h : Srt lt (l ++ r)) : Srt lt l ∧ Srt lt r := ⟨(List.pairwise_append.1 h).1, (List.pairwise_append.1 h).2.1⟩
theorem zdA (W : Weak lt) : ∀ l r : List α, Srt lt l → Srt lt r → Srt lt (mrg lt l r)
 | [], r, _, hr => by rw [zaK]; exact hr
 | x :: l, [], hl, _ => by rw [zaW]; exact hl
 | x :: l, y :: r, hl, hr => by
  have h1 := List.pairwise_cons.1 hl
  have h2 := List.pairwise_cons.1 hr
  cases h : lt y x
  ·rw [zaU h]
   refine List.pairwise_cons.2 ⟨fun z hz => ?_, zdA W l (y :: r) h1.2 hr⟩
   rcases zfr.1 hz with hz | hz
   ·exact h1.1 z hz
   ·rcases List.mem_cons.1 hz with rfl | hz
    ·exact h
    ·exact W.le_le h (h2.1 z hz)
  ·rw [zaT h]
   refine List.pairwise_cons.2 ⟨fun z hz => ?_, zdA W (x :: l) r hl h2.2⟩
   rcases zfr.1 hz with hz | hz
   ·rcases List.mem_cons.1 hz with rfl | hz
    ·exact W.asym _ _ h
    ·exact W.le_le (W.asym _ _ h) (h1.1 z hz)
   ·exact h2.1 z hz
termination_by l r => l.length + r.length
variable (lt) in
def stS : List α → List α
 | [] => []
 | x :: l => mrg lt [x] (stS l)
theorem zbA (W : Weak lt) : ∀ a b : List α, stS lt (a ++ b) = mrg lt (stS lt a) (stS lt b)
 | [], b => by rw [stS, zaK]; rfl
 | x :: a, b => by rw [List.cons_append, stS, stS, zbA W a b, za3 W]
theorem zdz (x : α) : stS lt [x] = [x] := by rw [stS, stS, zaW]
theorem zbz (W : Weak lt) : ∀ l : List α, Srt lt (stS lt l)
 | [] => .nil
 | x :: l => zdA W [x] _ (List.pairwise_singleton _ _) (zbz W l)
theorem stS_perm : ∀ l : List α, (stS lt l).Perm l
 | [] => .nil
 | x :: l => (zbq [x] _).trans ((stS_perm l).cons x)
theorem zaL (l : List α) : (stS lt l).length = l.length := (stS_perm l).length_eq
theorem zcm : ∀ l : List α, Srt lt l → stS lt l = l
 | [], _ => rfl
 | x :: l, h => by
  have h1 := List.pairwise_cons.1 h
  rw [stS, zcm l h1.2]
  cases l with
  | nil => exact zaW _
  | cons y r => rw [zaU (h1.1 y (List.mem_cons_self ..)), zaK]
theorem zeO (W : Weak lt) {a b : List α} (h : Srt lt (a ++ b)) : mrg lt a b = a ++ b := by
 rw [← zcm a h.app.1, ← zcm b h.app.2, ← zbA W, zcm _ h, zcm a h.app.1, zcm b h.app.2]
theorem zdH (W : Weak lt) {p : List α} {x y : α} (h : lt x y = true) : mrg lt (p ++ [y]) [x] = mrg lt p [x] ++ [y] := by
 have := zbE (lt := lt) p [y] [x] [] (fun u hu v hv => by rw [List.mem_singleton.1 hu, List.mem_singleton.1 hv]; exact h) (fun u hu v hv => by cases hv)
 rw [List.append_nil] at this
 rw [this, zaW]
theorem zb5 (W : Weak lt) {p : List α} {x y : α} (hs : Srt lt (p ++ [y])) (h : lt x y = false) : mrg lt (p ++ [y]) [x] = p ++ [y] ++ [x] := by
 refine zeO W (List.pairwise_append.2 ⟨hs, List.pairwise_singleton _ _, fun u hu v hv => ?_⟩)
 rw [List.mem_singleton.1 hv]
 rcases List.mem_append.1 hu with hu | hu
 ·exact W.le_le ((List.pairwise_append.1 hs).2.2 u hu y (List.mem_singleton.2 rfl)) h
 ·rw [List.mem_singleton.1 hu]; exact h
theorem zcY (W : Weak lt) {l1 l2 r1 r2 : List α} (hl : Srt lt (l1 ++ l2)) (hr : Srt lt (r1 ++ r2))
  (h1 : ∀ r' u v l', r1 = r' ++ [u] → l2 = v :: l' → lt u v = true) (h2 : ∀ l' u v r', l1 = l' ++ [u] → r2 = v :: r' → lt v u = false) : mrg lt (l1 ++ l2) (r1 ++ r2) = mrg lt l1 r1 ++ mrg lt l2 r2 := by
 refine zbE l1 l2 r1 r2 (fun x hx y hy => ?_) fun x hx y hy => ?_
 ·rcases List.eq_nil_or_concat r1 with rfl | ⟨r', u, hr1⟩
  ·cases hx
  ·cases l2 with
   | nil => cases hy
   | cons v l' =>
    rw [List.concat_eq_append] at hr1
    have h3 := h1 r' u v l' hr1 rfl
    have h4 : lt u x = false := by
     have := hr.app.1
     rw [hr1] at this hx
     rcases List.mem_append.1 hx with hx | hx
     ·exact (List.pairwise_append.1 this).2.2 x hx u (List.mem_singleton.2 rfl)
     ·rw [List.mem_singleton.1 hx]; exact W.irr u
    have h5 : lt y v = false := by
     rcases List.mem_cons.1 hy with rfl | hy
     ·exact W.irr _
     ·exact (List.pairwise_cons.1 hl.app.2).1 y hy
    exact W.lt_le (W.le_lt h4 h3) h5
 ·rcases List.eq_nil_or_concat l1 with rfl | ⟨l', u, hl1⟩
  ·cases hx
  ·cases r2 with
   | nil => cases hy
   | cons v r' =>
    rw [List.concat_eq_append] at hl1
    have h3 := h2 l' u v r' hl1 rfl
    have h4 : lt u x = false := by
     have := hl.app.1
     rw [hl1] at this hx
     rcases List.mem_append.1 hx with hx | hx
     ·exact (List.pairwise_append.1 this).2.2 x hx u (List.mem_singleton.2 rfl)
     ·rw [List.mem_singleton.1 hx]; exact W.irr u
    have h5 : lt y v = false := by
     rcases List.mem_cons.1 hy with rfl | hy
     ·exact W.irr _
     ·exact (List.pairwise_cons.1 hr.app.2).1 y hy
    exact W.le_le (W.le_le h4 h3) h5
theorem zdG (W : Weak lt) {x : α} {R1 R2 : List α} (hr : Srt lt (R1 ++ R2)) (h1 : ∀ r' u, R1 = r' ++ [u] → lt u x = true) (h2 : ∀ v r', R2 = v :: r' → lt v x = false) : mrg lt [x] (R1 ++ R2) = R1 ++ x :: R2 := by
 have h := zcY W (l1 := []) (l2 := [x]) (r1 := R1) (r2 := R2) (List.pairwise_singleton _ _) hr (fun r' u v l' e1 e2 => by cases e2; exact h1 r' u e1) (fun l' u v r' e1 _ => by cases l' <;> cases e1)
 rw [List.nil_append, zaK] at h
 rw [h]
 cases R2 with
 | nil => rw [zaW]
 | cons v r => rw [zaU (h2 v r rfl), zaK]
theorem zdF (W : Weak lt) {x : α} {L1 L2 : List α} (hl : Srt lt (L1 ++ L2)) (h1 : ∀ l' u, L1 = l' ++ [u] → lt x u = false) (h2 : ∀ v l', L2 = v :: l' → lt x v = true) : mrg lt (L1 ++ L2) [x] = L1 ++ x :: L2 := by
 have h := zcY W (l1 := L1) (l2 := L2) (r1 := [x]) (r2 := []) hl (List.pairwise_singleton _ _) (fun r' u v l' e1 e2 => by
  have e3 : u = x := by
   cases r' with
   | nil => cases e1; rfl
   | cons z r => cases r <;> cases e1
  rw [e3]; exact h2 v l' e2) (fun l' u v r' _ e2 => by cases e2)
 rw [List.append_nil, zaW] at h
 rw [h]
 rcases List.eq_nil_or_concat L1 with rfl | ⟨l', u, hu⟩
 ·rw [zaK]; rfl
 ·rw [List.concat_eq_append] at hu
  subst hu
  rw [zb5 W hl.app.1 (h1 l' u rfl), List.append_assoc]; rfl
end
end Go.Proofs.YtoahnbmedcjpeaaGreatDoor.St

/-
  Texts of a proof, one behind the other (part 12).
-/
import Derived.Test.YtblgdfcijkaimaaBg1
import Derived.Test.YtblgdfcijkaimaaBg2
import Derived.Test.YtblgdfcijkaimaaBg4
import Derived.Test.YtblgdfcijkaimaaBg5
set_option linter.unusedVariables false
set_option linter.unusedSimpArgs false
namespace Go.Proofs.Ytblgdfcijkaimaa.Ab
set_option linter.unusedVariables false
set_option maxRecDepth 100000
open Go.RowKit Go.Lib
theorem bb_self (b : Bool) : bbin .neq b b = some false := by cases b <;> rfl
section
variable {P : Program} {T : List Nat} {e : Env} {h : Heap} {o : Oper} {tab : TTab}
theorem R_neInt {t u : TypeId} {x y : Operand} {k : IntKind} {a : Int} (ho : o.op = .binOp .neq t x y u) (hx : aev e x = some (.d (.sc (.int k a)))) (hy : aev e y = some (.d (.sc (.int k a)))) : AYield P T e h o (.d (.sc (.bool false))) :=
  Y_ibin (r := .bool false) ho hx hy (by simp [ibin])
theorem R_neStr {t u : TypeId} {x y : Operand} {a : List UInt8} (ho : o.op = .binOp .neq t x y u) (hx : aev e x = some (strA a)) (hy : aev e y = some (strA a)) : AYield P T e h o (.d (.sc (.bool false))) :=
  Y_sbin ho hx hy (by simp [sbin])
theorem R_neBool {t u : TypeId} {x y : Operand} {a : Bool} (TO : TabOk P tab) (ho : o.op = .binOp .neq t x y u) (ht : tbool tab t = true) (hx : aev e x = some (.d (.sc (.bool a)))) (hy : aev e y = some (.d (.sc (.bool a)))) : AYield P T e h o (.d (.sc (.bool false))) :=
  Y_bbin TO ho ht hx hy (bb_self a)
end
set_option linter.unusedSimpArgs false
attribute [local irreducible] AWp AOps AQ AYield AEff ACall AWk AAny AAt AThen AIn APost NoPanic
end Go.Proofs.Ytblgdfcijkaimaa.Ab

namespace Go.Proofs.Ytblgdfcijkaimaa.Ab
set_option linter.unusedVariables false
open Go.RowKit
class NPc (Q : Post) : Prop where
  np : NoPanic Q
instance {K : Env → Heap → Prop} {Q : Post} [I : NPc Q] : NPc (AThen K Q) := ⟨np_then I.np⟩
instance {j : Nat} {Q : Post} [I : NPc Q] : NPc (AIn j Q) := ⟨np_in I.np⟩
instance {nt : Nat} {tab : TTab} {rs : List ResultVar} {R : AVal → Heap → Prop} : NPc (APost nt tab rs R) := ⟨np_post⟩
instance : NPc RF := ⟨fun _ _ _ h => h⟩
section
variable {nt : Nat} {Q : Post} {e : Env} {h : Heap} {ops : Array Oper} {o : Oper} {T : List Nat} {fuel : Nat} {listed : Array Bool}
theorem q_1 {x : Operand} {c : AVal} (ho : o.op = .move x := by exact rfl) (hx : aev e x = some c := by exact rfl) : AYield Try.prog T e h o c := Y_move ho hx
theorem q_2 {x : Operand} {c : AVal} (ho : o.op = .assign x := by exact rfl) (hx : aev e x = some c := by exact rfl) : AYield Try.prog T e h o c := Y_assign ho hx
theorem q_3 {t el k j : Nat} {x y : Operand} {cs : List Dat} {n : Nat} {q : IntKind} {i : Int} (ho : o.op = .indexAddr t x y := by exact rfl) (hel : telem tab t = some el := by exact rfl) (hsz : tsize tab el = some k := by exact rfl) (hx : aev e x = some (.d (.sl cs n)) := by exact rfl) (hy : aev e y = some (.d (.sc (.int q i))) := by exact rfl) (hj : i = (j : Int) := by exact rfl) (hlt : j < n := by omega) : AYield Try.prog T e h o (.iptr cs (j * k)) := R_index tabOk ho hel hsz hx hy hj hlt
theorem q_4 {t f off o1 : Nat} {x : Operand} {cs : List Dat} (ho : o.op = .fieldAddr t x f := by exact rfl) (hf : tfield tab t f = some off := by exact rfl) (hx : aev e x = some (.iptr cs o1) := by exact rfl) : AYield Try.prog T e h o (.iptr cs (o1 + off)) := R_fieldi tabOk ho hf hx
theorem q_5 {t o1 s : Nat} {x : Operand} {cs xs : List Dat} {c : AVal} {ag : Bool} (ho : o.op = .load t x := by exact rfl) (hs : tsize tab t = some s := by exact rfl) (ha : tagg tab t = some ag := by exact rfl) (hx : aev e x = some (.iptr cs o1) := by exact rfl) (hw : win cs o1 s = xs := by exact rfl) (hl : Nat.beq xs.length s = true := by exact rfl) (hc : lval ag (xs.map AVal.d) = some c := by exact rfl) : AYield Try.prog T e h o c := R_loadi tabOk ho hs ha hx hw hl hc
theorem q_6 {t el : Nat} {x : Operand} {cs : List Dat} {n : Nat} (ho : o.op = .call { callee := .builtin .len, args := #[x], argTypes := #[t] } := by exact rfl) (hel : telem tab t = some el := by exact rfl) (hx : aev e x = some (.d (.sl cs n)) := by exact rfl) : AYield Try.prog T e h o (.d (.sc (.int .i64 (n : Int)))) := R_len tabOk ho hel hx
theorem q_7 {t id o1 s : Nat} {x : Operand} {cs xs : List AVal} {c : AVal} {ag : Bool} (ho : o.op = .load t x := by exact rfl) (hs : tsize tab t = some s := by exact rfl) (ha : tagg tab t = some ag := by exact rfl) (hx : aev e x = some (.ptr id o1) := by exact rfl) (hb : look h id = some (.var cs) := by exact rfl) (hT : T.contains id = false := by exact rfl) (hw : win cs o1 s = xs := by exact rfl) (hl : Nat.beq xs.length s = true := by exact rfl) (hc : lval ag xs = some c := by exact rfl) : AYield Try.prog T e h o c := R_load tabOk ho hs ha hx hb hT hw hl hc
theorem q_8 {t f off o1 id : Nat} {x : Operand} (ho : o.op = .fieldAddr t x f := by exact rfl) (hf : tfield tab t f = some off := by exact rfl) (hx : aev e x = some (.ptr id o1) := by exact rfl) (hb : (look h id).isSome = true := by exact rfl) : AYield Try.prog T e h o (.ptr id (o1 + off)) := R_field tabOk ho hf hx hb
theorem q_9 {t u : TypeId} {x y : Operand} {k : IntKind} {a b r : Int} (ho : o.op = .binOp .add t x y u := by exact rfl) (hx : aev e x = some (.d (.sc (.int k a))) := by exact rfl) (hy : aev e y = some (.d (.sc (.int k b))) := by exact rfl) (hr : k.wrap (a + b) = r := by first | exact wrap_succ (by omega) | exact wrap_pred (by omega) (by omega) | exact wrap_i64 ⟨by omega, by omega⟩ | rfl) : AYield Try.prog T e h o (.d (.sc (.int k r))) := Y_add ho hx hy hr
theorem q_10 {t u : TypeId} {x y : Operand} {k : IntKind} {a b r : Int} (ho : o.op = .binOp .sub t x y u := by exact rfl) (hx : aev e x = some (.d (.sc (.int k a))) := by exact rfl) (hy : aev e y = some (.d (.sc (.int k b))) := by exact rfl) (hr : k.wrap (a - b) = r := by first | exact wrap_succ (by omega) | exact wrap_pred (by omega) (by omega) | exact wrap_i64 ⟨by omega, by omega⟩ | rfl) : AYield Try.prog T e h o (.d (.sc (.int k r))) := Y_sub ho hx hy hr
theorem q_11 {op : BinOp} {t u : TypeId} {x y : Operand} {k : IntKind} {a b : Int} {c : Bool} (ho : o.op = .binOp op t x y u := by exact rfl) (hx : aev e x = some (.d (.sc (.int k a))) := by exact rfl) (hy : aev e y = some (.d (.sc (.int k b))) := by exact rfl) (hr : ibin op k a b = some (.bool c) := by exact rfl) (hc : c = true := by first | (simp only [decide_eq_true_eq, beq_iff_eq, bne_iff_ne, ne_eq]; done) | (simp only [decide_eq_true_eq, beq_iff_eq, bne_iff_ne, ne_eq]; omega)) : AYield Try.prog T e h o (.d (.sc (.bool true))) := R_cmpT ho hx hy hr hc
theorem q_12 {op : BinOp} {t u : TypeId} {x y : Operand} {k : IntKind} {a b : Int} {c : Bool} (ho : o.op = .binOp op t x y u := by exact rfl) (hx : aev e x = some (.d (.sc (.int k a))) := by exact rfl) (hy : aev e y = some (.d (.sc (.int k b))) := by exact rfl) (hr : ibin op k a b = some (.bool c) := by exact rfl) (hc : c = false := by first | (simp only [decide_eq_false_iff_not, beq_eq_false_iff_ne, bne_eq_false_iff_eq, ne_eq]; done) | (simp only [decide_eq_false_iff_not, beq_eq_false_iff_ne, bne_eq_false_iff_eq, ne_eq]; omega)) : AYield Try.prog T e h o (.d (.sc (.bool false))) := R_cmpF ho hx hy hr hc
theorem q_13 {op : BinOp} {t u : TypeId} {x y : Operand} {k : IntKind} {a b : Int} {r : Value} (ho : o.op = .binOp op t x y u := by exact rfl) (hx : aev e x = some (.d (.sc (.int k a))) := by exact rfl) (hy : aev e y = some (.d (.sc (.int k b))) := by exact rfl) (hr : ibin op k a b = some r := by exact rfl) : AYield Try.prog T e h o (.d (.sc r)) := Y_ibin ho hx hy hr
theorem q_14 {x : Operand} {i : Nat} {cs : List AVal} {c : AVal} (ho : o.op = .extract x i := by exact rfl) (hx : aev e x = some (.tup cs) := by exact rfl) (hi : cs[i]? = some c := by exact rfl) : AYield Try.prog T e h o c := Y_extract ho hx hi
theorem q_15 {t el el' id k n : Nat} {x : Operand} {cs : List Dat} (ho : o.op = .call { callee := .builtin .len, args := #[x], argTypes := #[t] } := by exact rfl) (hel : telem tab t = some el := by exact rfl) (hx : aev e x = some (.row id) := by exact rfl) (hb : look h id = some (.row el' k n cs) := by exact rfl) : AYield Try.prog T e h o (.d (.sc (.int .i64 (n : Int)))) := R_lenr tabOk ho hel hx hb
theorem q_16 {t el : Nat} {x : Operand} (ho : o.op = .call { callee := .builtin .len, args := #[x], argTypes := #[t] } := by exact rfl) (hel : telem tab t = some el := by exact rfl) (hx : aev e x = some (.d (.sc (.slice none 0 0))) := by exact rfl) : AYield Try.prog T e h o (.d (.sc (.int .i64 0))) := R_lenn tabOk ho hel hx
theorem q_17 {t el el' k kk j id : Nat} {x y : Operand} {cs : List Dat} {n : Nat} {q : IntKind} {i : Int} (ho : o.op = .indexAddr t x y := by exact rfl) (hel : telem tab t = some el := by exact rfl) (hsz : tsize tab el = some k := by exact rfl) (hx : aev e x = some (.row id) := by exact rfl) (hb : look h id = some (.row el' kk n cs) := by exact rfl) (hy : aev e y = some (.d (.sc (.int q i))) := by exact rfl) (hj : i = (j : Int) := by exact rfl) (hlt : j < n := by omega) : AYield Try.prog T e h o (.eptr id (j * k)) := R_indexr tabOk ho hel hsz hx hb hy hj hlt
theorem q_18 {t f off o1 id : Nat} {x : Operand} (ho : o.op = .fieldAddr t x f := by exact rfl) (hf : tfield tab t f = some off := by exact rfl) (hx : aev e x = some (.eptr id o1) := by exact rfl) (hb : (look h id).isSome = true := by exact rfl) : AYield Try.prog T e h o (.eptr id (o1 + off)) := R_fielde tabOk ho hf hx hb
theorem q_19 {t id o1 s el k n : Nat} {x : Operand} {cs xs : List Dat} {c : AVal} {ag : Bool} (ho : o.op = .load t x := by exact rfl) (hs : tsize tab t = some s := by exact rfl) (ha : tagg tab t = some ag := by exact rfl) (hx : aev e x = some (.eptr id o1) := by exact rfl) (hb : look h id = some (.row el k n cs) := by exact rfl) (hT : T.contains id = false := by exact rfl) (hw : win cs o1 s = xs := by exact rfl) (hl : Nat.beq xs.length s = true := by exact rfl) (hc : lval ag (xs.map AVal.d) = some c := by exact rfl) : AYield Try.prog T e h o c := R_loade tabOk ho hs ha hx hb hT hw hl hc
theorem q_20 {t : TypeId} {x : Operand} {b : Bool} (ho : o.op = .unOp .not t x := by exact rfl) (hx : aev e x = some (.d (.sc (.bool b))) := by exact rfl) : AYield Try.prog T e h o (.d (.sc (.bool !b))) := Y_not ho hx
theorem q_21 {x y z : Operand} {b : Bool} {c : AVal} (ho : o.op = .pick x y z := by exact rfl) (hx : aev e x = some (.d (.sc (.bool b))) := by exact rfl) (hb : b = true := by first | rfl | assumption) (hy : aev e y = some c := by exact rfl) : AYield Try.prog T e h o c := Y_pick_t ho hx hb hy
theorem q_22 {x y z : Operand} {b : Bool} {c : AVal} (ho : o.op = .pick x y z := by exact rfl) (hx : aev e x = some (.d (.sc (.bool b))) := by exact rfl) (hb : b = false := by first | rfl | assumption) (hz : aev e z = some c := by exact rfl) : AYield Try.prog T e h o c := Y_pick_f ho hx hb hz
theorem q_23 {x y z : Operand} {b p q : Bool} (ho : o.op = .pick x y z := by exact rfl) (hx : aev e x = some (.d (.sc (.bool b))) := by exact rfl) (hy : aev e y = some (.d (.sc (.bool p))) := by exact rfl) (hz : aev e z = some (.d (.sc (.bool q))) := by exact rfl) : AYield Try.prog T e h o (.d (.sc (.bool (cond b p q)))) := Y_pick_b ho hx hy hz
theorem q_24 {t : TypeId} {ps : Array (Nat × Operand)} {al : List (Nat × AVal)} {z xs : List AVal} {fs : List (Nat × TypeId)} (ho : o.op = .build t ps := by exact rfl) (hz : tzero tab t = some z := by exact rfl) (hfs : (match tlook tab t with | some ⟨_, _, _, _, .st fs⟩ => some fs | _ => none) = some fs := by exact rfl) (hal' : fs.all (fun f => (tlook tab f.2).isSome) = true := by exact rfl) (hal : aparts e ps.toList = some al := by exact rfl) (hf : afill (stPlace tab fs) z al = some xs := by exact rfl) : AYield Try.prog T e h o (.agg xs) := R_build tabOk ho hz hfs hal' hal hf
theorem q_25 {x y z : Operand} {b : Bool} {c : AVal} (ho : o.op = .pick x y z := by exact rfl) (hx : aev e x = some (.d (.sc (.bool b))) := by exact rfl) (hb : b = true := by exact rfl) (hy : aev e y = some c := by exact rfl) : AYield Try.prog T e h o c := Y_pick_t ho hx hb hy
theorem q_26 {x y z : Operand} {b : Bool} {c : AVal} (ho : o.op = .pick x y z := by exact rfl) (hx : aev e x = some (.d (.sc (.bool b))) := by exact rfl) (hb : b = false := by exact rfl) (hz : aev e z = some c := by exact rfl) : AYield Try.prog T e h o c := Y_pick_f ho hx hb hz
theorem q_A {c : AVal} (hy : AYield Try.prog T e h o c := by first | exact q_1 | exact q_2 | exact q_3 | exact q_4) : AYield Try.prog T e h o c := hy
theorem q_B {c : AVal} (hy : AYield Try.prog T e h o c := by first | exact q_6 | exact q_7 | exact q_8 | exact q_9 | exact q_10 | exact q_11 | exact q_12 | exact q_13 | exact q_14 | exact q_15 | exact q_16 | exact q_17 | exact q_18 | exact q_19 | exact q_20 | exact q_21 | exact q_22 | exact q_23 | exact q_24) : AYield Try.prog T e h o c := hy
variable {rest : List Oper} {K : Env → Heap → Prop}
theorem q_a {t : TypeId} {d : Nat} {z : List AVal} (HK : AOps Try.prog nt ops Q rest ((d, .ptr d 0) :: killE d e) ((d, .var z) :: killH d h)) (hw : awant ops e o = some true := by exact rfl) (hdst : o.dst = some d := by exact rfl) (hd : Nat.blt d nt = true := by exact rfl) (hid : Nat.blt d 1000 = true := by exact rfl) (ho : o.op = .alloc t := by exact rfl) (hz : tzero tab t = some z := by exact rfl) : AOps Try.prog nt ops Q (o :: rest) e h := O_alloc tabOk hw hdst hd hid ho hz HK
theorem q_b {t : TypeId} {x y : Operand} {id off s : Nat} {cs xs : List AVal} {c : AVal} (HK : AOps Try.prog nt ops Q rest e ((id, .var (setW cs off xs)) :: h)) (hw : awant ops e o = some true := by exact rfl) (hdst : o.dst = none := by exact rfl) (ho : o.op = .store t x y := by exact rfl) (hx : aev e x = some (.ptr id off) := by exact rfl) (hb : look h id = some (.var cs) := by exact rfl)
    (hy : aev e y = some c := by exact rfl) (hcs : cellsA c = some xs := by exact rfl) (hp : xs.all plainC = true := by exact rfl) (hs : tsize tab t = some s := by exact rfl) (hl : Nat.beq xs.length s = true := by exact rfl) (hle : Nat.ble (off + s) cs.length = true := by exact rfl) : AOps Try.prog nt ops Q (o :: rest) e h := O_store tabOk hw hdst ho hx hb hy hcs hp hs hl hle HK
theorem q_c {t el k len d : Nat} {ps : Array (Nat × Operand)} {al : List (Nat × AVal)} {xs : List AVal} {ds : List Dat} (HK : AOps Try.prog nt ops Q rest ((d, .row d) :: killE d e) ((d, .row el k len ds) :: killH d h)) (hw : awant ops e o = some true := by exact rfl) (hdst : o.dst = some d := by exact rfl) (hd : Nat.blt d nt = true := by exact rfl) (hid : Nat.blt d 1000 = true := by exact rfl) (ho : o.op = .buildSlice t len ps := by exact rfl)
    (hel : telem tab t = some el := by exact rfl) (hsz : tsize tab el = some k := by exact rfl) (hok : (match tlook tab el with | some te => te.zero.all (·.oneCell') && Nat.blt 0 te.size && Nat.beq te.zero.length te.size && Nat.blt (len * te.size) 16777216 && Nat.blt 0 len | none => false) = true := by exact rfl)
    (hal : aparts e ps.toList = some al := by exact rfl) (hf : (match tlook tab el with
      | some te => afill (fun i => some (i * te.size, te.size)) ((List.range (len * te.size)).map fun j => match te.zero[j % te.size]? with | some v => .d (.sc v) | none => .top) al
      | none => none) = some xs := by exact rfl) (hds : datsA xs = some ds := by exact rfl) : AOps Try.prog nt ops Q (o :: rest) e h := O_slice tabOk hw hdst hd hid ho hel hsz hok hal hf hds HK
theorem q_d {t : TypeId} {x : Operand} {d : Nat} {c : AVal} {cs : List AVal} (HK : AOps Try.prog nt ops Q rest ((d, .ptr d 0) :: killE d e) ((d, .var (cs.map (killV d))) :: killH d h)) (hw : awant ops e o = some true := by exact rfl) (hdst : o.dst = some d := by exact rfl) (hd : Nat.blt d nt = true := by exact rfl) (hid : Nat.blt d 1000 = true := by exact rfl) (ho : o.op = .box t x := by exact rfl) (hx : aev e x = some c := by exact rfl) (hcs : cellsA c = some cs := by exact rfl) : AOps Try.prog nt ops Q (o :: rest) e h := O_box hw hdst hd hid ho hx hcs HK
theorem q_e {d : Nat} (H : AOps Try.prog nt ops Q rest ((d, .und) :: e) h) (hw : awant ops e o = some false := by exact rfl) (hdst : o.dst = some d := by exact rfl) (hd : Nat.blt d nt = true := by exact rfl) : AOps Try.prog nt ops Q (o :: rest) e h := O_s hw hdst hd H
theorem q_f {d : Nat} (H : AQ Try.prog nt ops Q rest ((d, .und) :: e) h) (hw : awant ops e o = some false := by exact rfl) (hdst : o.dst = some d := by exact rfl) (hd : Nat.blt d nt = true := by exact rfl) : AQ Try.prog nt ops Q (o :: rest) e h := Q_s hw hdst hd H
theorem q_g (H : AOps Try.prog nt ops Q rest e h) (hw : awant ops e o = some false := by exact rfl) (hdst : o.dst = none := by exact rfl) : AOps Try.prog nt ops Q (o :: rest) e h := O_sn hw hdst H
theorem q_h {i j : Nat} (H : Q (.exit i) e h) (hb : Nat.beq i j = false := by exact rfl) : AIn j Q (.exit i) e h := X_in_other hb H
theorem q_j (H : K e h) : AThen K Q .normal e h := H
theorem q_k {j : Nat} (H : Q .normal e h) : AIn j Q .normal e h := H
theorem q_l {j : Nat} (H : Q (.exit j) e h) : AThen K Q (.exit j) e h := H
theorem q_m (H : Q .ret e h) : AThen K Q .ret e h := H
theorem q_n {j : Nat} (H : Q .normal e h) : AIn j Q (.exit j) e h := X_in_same H
theorem q_o {j : Nat} (H : Q .ret e h) : AIn j Q .ret e h := H
theorem q_Z {G G' : Prop} (h : G') (s : G' → G := by first | exact A_seq | exact A_block | exact fun x => R_list x | exact O_nil | exact Q_nil | exact q_j | exact q_k | exact A_skip | exact A_exit | exact A_ret | exact q_l | exact q_m | exact q_n | exact q_o) : G := s h
theorem q_W {G G' : Prop} (h : G') (s : G' → G := by first | exact fun x => q_h x | exact fun x => q_e x | exact fun x => q_f x | exact fun x => q_g x) : G := s h
theorem q_P (i : Nat) {c : AVal} {d : Nat} [I : NPc Q] (hi : ops[i]? = some o) (hs : (Region.noSelect ops && Region.free .any ops listed i && (Region.ready .any ops listed).contains i) = true)
    (hw : awant ops e o = some true) (hdst : o.dst = some d) (hd : Nat.blt d nt = true) (hy : AYield Try.prog T e h o c) (H : AAny Try.prog nt ops Q T fuel (listed.setIfInBounds i true) ((d, c) :: e) h) : AAny Try.prog nt ops Q T (fuel + 1) listed e h := by
  simp only [Bool.and_eq_true] at hs
  exact N_take hi hs.1.1 hs.1.2 hs.2 I.np hw hdst hd hy H
end
end Go.Proofs.Ytblgdfcijkaimaa.Ab

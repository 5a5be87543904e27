/-
 Texts of a proof, one behind the other (part 2).
-/
import Derived.WalkKit
import Derived.WalkSpells
import Derived.WalkLawsBesides
import Derived.Deep.QuietTactic
import Derived.BigQuiet
import Derived.Lib.Hide
import Derived.Lib.QuietBelow
import Derived.Test.YtoahnbmedcjpeaaGreatDoorRows
import Derived.ProofKit
import Derived.SizedLaws
import Derived.JoinedCond
import Derived.Deep.CondSized
import Derived.Deep.Slices
import Derived.Laws.StructEq
import Derived.Test.YtoahnbmedcjpeaaGreatDoorProg
import Derived.Deep.MidRow
import Derived.StillTailTactics
import Derived.Deep.RegionHeld3
import Derived.Shelf.SlGeneric
import Derived.Shelf.Small.Bits
import Derived.Shelf.Strconv.Itoa0
import Derived.Lib.BitFns
import Derived.Test.YtoahnbmedcjpeaaGreatDoorMn0
set_option linter.unusedVariables false
set_option linter.unusedSimpArgs false
namespace Go.Proofs.YtoahnbmedcjpeaaGreatDoor.Ab
open Go.RowKit

def tsize (tab : TTab) (t : TypeId) : Option Nat := match tlook tab t with
 | some ⟨s, _, _, _, _⟩ => some s
 | none => none
def telem (tab : TTab) (t : TypeId) : Option TypeId := match tlook tab t with
 | some ⟨_, _, _, _, .sl e⟩ => some e
 | _ => none
def tfield (tab : TTab) (t : TypeId) (f : Nat) : Option Nat := match tlook tab t with
 | some ⟨_, _, _, _, .st fs⟩ => match fs[f]? with
  | some (off, ft) => match tsize tab ft with
   | some (n + 1) => some off
   | _ => none
  | none => none
 | _ => none
def tagg (tab : TTab) (t : TypeId) : Option Bool := match tlook tab t with
 | some ⟨_, _, a, _, _⟩ => some a
 | none => none
def tzero (tab : TTab) (t : TypeId) : Option (List AVal) := match tlook tab t with
 | some ⟨_, _, _, z, _⟩ => cond (z.all (·.oneCell')) (some (z.map fun v => .d (.sc v))) none
 | none => none
theorem zI {tab : TTab} {t s : Nat} (h : tsize tab t = some s) : ∃ te, tlook tab t = some te ∧ te.size = s := by
 unfold tsize at h; split at h
 ·rename_i hl; cases h; exact ⟨_, hl, rfl⟩
 ·cases h
theorem zJ {tab : TTab} {t e : Nat} (h : telem tab t = some e) : ∃ te, tlook tab t = some te ∧ te.sh = .sl e := by
 unfold telem at h; split at h
 ·rename_i hl; cases h; exact ⟨_, hl, rfl⟩
 ·cases h
theorem za0 {tab : TTab} {t : Nat} {a : Bool} (h : tagg tab t = some a) : ∃ te, tlook tab t = some te ∧ te.agg = a := by
 unfold tagg at h; split at h
 ·rename_i hl; cases h; exact ⟨_, hl, rfl⟩
 ·cases h
theorem zbQ {tab : TTab} {t : Nat} {z : List AVal} (h : tzero tab t = some z) : ∃ te, tlook tab t = some te ∧ te.zero.all (·.oneCell') = true ∧ z = te.zero.map fun v => .d (.sc v) := by
 unfold tzero at h; split at h
 ·rename_i hl
  rename_i z0 _
  cases hz : z0.all (·.oneCell') with
  | false => rw [hz] at h; cases h
  | true => rw [hz] at h; cases h; exact ⟨_, hl, hz, rfl⟩
 ·cases h
theorem zbi {tab : TTab} {t f off : Nat} (h : tfield tab t f = some off) : ∃ te fs ft te', tlook tab t = some te ∧ te.sh = .st fs ∧ fs[f]? = some (off, ft) ∧ tlook tab ft = some te' ∧ Nat.beq te'.size 0 = false := by
 unfold tfield at h; split at h
 ·rename_i hl
  split at h
  ·rename_i hf
   split at h
   ·rename_i hs
    cases h
    obtain ⟨te', h1, h2⟩ := zI hs
    exact ⟨_, _, _, te', hl, rfl, hf, h1, by rw [h2]; rfl⟩
   ·cases h
  ·cases h
 ·cases h

section
variable {P : Program} {nt : Nat} {Q : Post} {K : Env → Heap → Prop} {e : Env} {h : Heap} {ops : Array Oper} {o : Oper} {rest : List Oper} {T : List Nat} {tab : TTab} {z : Bool}
theorem zgs {j : Nat} (H : Q .normal e h) : AIn j Q (.exit j) e h := by show cond (Nat.beq j j) _ _; rw [zci]; exact H
theorem zfh {i j : Nat} (hb : Nat.beq i j = false) (H : Q (.exit i) e h) : AIn j Q (.exit i) e h := by show cond (Nat.beq i j) _ _; rw [hb]; exact H
theorem zo {tab : TTab} {rs : List ResultVar} {R : AVal → Heap → Prop} {v : AVal} (hv : ares tab e h rs = some v) (H : R v []) : APost nt tab rs R .ret e h := ⟨e, h, v, [], AWk.refl, hv, trivial, H⟩
theorem zt {tab : TTab} {rs : List ResultVar} {R : AVal → Heap → Prop} {v : AVal} {e' : Env} {h' h2 : Heap} (hk : AWk nt e h e' h') (hv : ares tab e' h' rs = some v) (hs : Sub h2 h') (H : R v h2) : APost nt tab rs R .ret e h := ⟨e', h', v, h2, hk, hv, hs, H⟩
theorem zal {tab : TTab} {rs : List ResultVar} {R : AVal → Heap → Prop} {v : AVal} {e' : Env} {h' h2 : Heap} (hk : AWk nt e h e' h') (hv : ares tab e' h' rs = some v) (hs : Sub h2 h') (H : R v h2) : APost nt tab rs R .normal e h := ⟨e', h', v, h2, hk, hv, hs, H⟩

theorem ze {id : Nat} {l : List Oper} (H : AOps P nt l.toArray Q l e h) (hnd : l.all notDef = true := by rfl) : AWp z P nt (.region id l.toArray false) Q e h := zh2 hnd H
def quietOp : Op → Bool
 | .alloc _ => false
 | .box _ _ => false
 | .buildSlice _ _ _ => false
 | .insert _ _ _ _ => false
 | .store _ _ _ => false
 | .makeMap _ _ => false
 | .makeSlice _ _ _ => false
 | .mapUpdate _ _ _ _ => false
 | .mapEntry _ _ _ => false
 | .entryStore _ _ _ _ => false
 | .range _ _ => false
 | .next _ _ => false
 | .defer _ => false
 | .call { callee := .builtin .append, .. } => false
 | .call { callee := .builtin .copy, .. } => false
 | .call { callee := .builtin .delete, .. } => false
 | .call { callee := .builtin .clear, .. } => false
 | _ => true
def quietOps (l : List Oper) : Bool := l.all fun o => quietOp o.op
theorem zdC {l : List Oper} (hq : quietOps l = true) : l.toArray.toList.all notDef = true := List.all_eq_true.2 fun o ho => by
 have h := List.all_eq_true.1 hq o (by simpa using ho)
 unfold notDef
 split
 ·rename_i c hc; rw [hc] at h; cases h
 ·rfl
theorem zg {id : Nat} {l : List Oper} (hq : quietOps l = true) (hm : P.follows .mixedOrders = true) (hB : Region.lexB .any l.toArray = true) (H : AQ P nt l.toArray Q l e h) : AWp z P nt (.region id l.toArray true) Q e h := zjc (zdC hq) hm hB (by simpa using H)
theorem O_y {c : AVal} {d : Nat} (hw : awant ops e o = some true) (hdst : o.dst = some d) (hd : Nat.blt d nt = true) (hy : AYield P [] e h o c) (H : AOps P nt ops Q rest ((d, c) :: e) h) : AOps P nt ops Q (o :: rest) e h :=
 zi2 hw (by rw [hdst]; exact hd) hy (by rw [hdst]; exact H)
theorem O_s {d : Nat} (hw : awant ops e o = some false) (hdst : o.dst = some d) (hd : Nat.blt d nt = true) (H : AOps P nt ops Q rest ((d, .und) :: e) h) : AOps P nt ops Q (o :: rest) e h :=
 zhZ hw (by rw [hdst]; exact hd) (by rw [hdst]; exact H)
theorem O_sn (hw : awant ops e o = some false) (hdst : o.dst = none) (H : AOps P nt ops Q rest e h) : AOps P nt ops Q (o :: rest) e h :=
 zhZ hw (by rw [hdst]; rfl) (by rw [hdst]; exact H)
theorem Q_y {c : AVal} {d : Nat} (hw : awant ops e o = some true) (hdst : o.dst = some d) (hd : Nat.blt d nt = true) (hy : AYield P [] e h o c) (H : AQ P nt ops Q rest ((d, c) :: e) h) : AQ P nt ops Q (o :: rest) e h :=
 zi1 hw (by rw [hdst]; exact hd) hy (by rw [hdst]; exact H)
theorem Q_s {d : Nat} (hw : awant ops e o = some false) (hdst : o.dst = some d) (hd : Nat.blt d nt = true) (H : AQ P nt ops Q rest ((d, .und) :: e) h) : AQ P nt ops Q (o :: rest) e h :=
 zkq hw (by rw [hdst]; exact hd) (by rw [hdst]; exact H)
theorem Q_c {f : FuncId} {args : Array Operand} {ats : Array TypeId} {cs : List AVal} {c : AVal} {v : Value} {d : Nat} (hw : awant ops e o = some true) (hdst : o.dst = some d) (hd : Nat.blt d nt = true) (ho : o.op = .call { callee := .value (.func f), args := args, argTypes := ats }) (hx : aevs e args.toList = some cs)
  (H : ACall P f cs [] (fun c' h' => c' = c ∧ h' = [])) (hc : valA c = some v) (hrel : ∀ w F ι, VRel w F ι c v) (HK : AQ P nt ops Q rest ((d, c) :: e) h) : AQ P nt ops Q (o :: rest) e h :=
 zkr ho hx hw (by rw [hdst]; exact hd) H hc hrel (by rw [hdst]; exact HK)
theorem O_c {f : FuncId} {args : Array Operand} {ats : Array TypeId} {cs : List AVal} {c : AVal} {d : Nat} (hw : awant ops e o = some true) (hdst : o.dst = some d) (hd : Nat.blt d nt = true) (ho : o.op = .call { callee := .value (.func f), args := args, argTypes := ats }) (hx : aevs e args.toList = some cs)
  (H : ACall P f cs [] (fun c' h' => c' = c ∧ h' = [])) (hc : ∀ j, c.has j = false) (HK : AOps P nt ops Q rest ((d, c) :: e) h) : AOps P nt ops Q (o :: rest) e h :=
 zax (T := []) hw (zfK ho hdst hx H hd hc) fun e' h' ⟨h1, h2⟩ => by subst h1 h2; exact HK
theorem zi6 {t : TypeId} {d : Nat} {z : List AVal} (TO : TabOk P tab) (hw : awant ops e o = some true) (hdst : o.dst = some d) (hd : Nat.blt d nt = true) (hid : Nat.blt d 1000 = true) (ho : o.op = .alloc t) (hz : tzero tab t = some z)
  (HK : AOps P nt ops Q rest ((d, .ptr d 0) :: killE d e) ((d, .var z) :: killH d h)) : AOps P nt ops Q (o :: rest) e h := by
 obtain ⟨te, h1, h2, rfl⟩ := zbQ hz
 exact zax (T := []) hw (zfL TO ho hdst h1 hid hd h2) fun e' h' ⟨h1, h2⟩ => by subst h1 h2; exact HK
theorem zkX {t : TypeId} {x : Operand} {d : Nat} {c : AVal} {cs : List AVal} (hw : awant ops e o = some true) (hdst : o.dst = some d) (hd : Nat.blt d nt = true) (hid : Nat.blt d 1000 = true) (ho : o.op = .box t x) (hx : aev e x = some c) (hcs : cellsA c = some cs)
  (HK : AOps P nt ops Q rest ((d, .ptr d 0) :: killE d e) ((d, .var (cs.map (killV d))) :: killH d h)) : AOps P nt ops Q (o :: rest) e h :=
 zax (T := []) hw (zjq ho hdst hx hcs hid hd) fun e' h' ⟨h1, h2⟩ => by subst h1 h2; exact HK
theorem zi3 {t : TypeId} {x y : Operand} {id off s : Nat} {cs xs : List AVal} {c : AVal} (TO : TabOk P tab) (hw : awant ops e o = some true) (hdst : o.dst = none) (ho : o.op = .store t x y) (hx : aev e x = some (.ptr id off)) (hb : look h id = some (.var cs))
  (hy : aev e y = some c) (hcs : cellsA c = some xs) (hp : xs.all plainC = true) (hs : tsize tab t = some s) (hl : Nat.beq xs.length s = true) (hle : Nat.ble (off + s) cs.length = true)
  (HK : AOps P nt ops Q rest e ((id, .var (setW cs off xs)) :: h)) : AOps P nt ops Q (o :: rest) e h := by
 obtain ⟨te, h1, h2⟩ := zI hs
 subst h2
 exact zax (T := [id]) hw (zcD TO ho hdst h1 hx hb hy hcs hp hl hle rfl rfl (by simp)) fun e' h' ⟨h1, h2⟩ => by subst h1 h2; exact HK
def datsA : List AVal → Option (List Dat)
 | [] => some []
 | .d x :: r => match datsA r with
  | some l => some (x :: l)
  | none => none
 | _ :: _ => none
theorem zbV {xs : List AVal} {ds : List Dat} (h : datsA xs = some ds) : xs = ds.map AVal.d := by
 induction xs generalizing ds with
 | nil => cases h; rfl
 | cons c r ih =>
  cases c <;> simp [datsA] at h
  rename_i x
  cases hr : datsA r with
  | none => simp [hr] at h
  | some l => simp [hr] at h; subst h; rw [ih hr]; rfl
theorem zi4 {t el k len d : Nat} {ps : Array (Nat × Operand)} {al : List (Nat × AVal)} {xs : List AVal} {ds : List Dat} (TO : TabOk P tab) (hw : awant ops e o = some true) (hdst : o.dst = some d) (hd : Nat.blt d nt = true) (hid : Nat.blt d 1000 = true) (ho : o.op = .buildSlice t len ps)
  (hel : telem tab t = some el) (hsz : tsize tab el = some k) (hok : (match tlook tab el with | some te => te.zero.all (·.oneCell') && Nat.blt 0 te.size && Nat.beq te.zero.length te.size && Nat.blt (len * te.size) 16777216 && Nat.blt 0 len | none => false) = true)
  (hal : aparts e ps.toList = some al) (hf : (match tlook tab el with
   | some te => afill (fun i => some (i * te.size, te.size)) ((List.range (len * te.size)).map fun j => match te.zero[j % te.size]? with | some v => .d (.sc v) | none => .top) al
   | none => none) = some xs) (hds : datsA xs = some ds)
  (HK : AOps P nt ops Q rest ((d, .row d) :: killE d e) ((d, .row el k len ds) :: killH d h)) : AOps P nt ops Q (o :: rest) e h := by
 obtain ⟨te, h1, h2⟩ := zJ hel
 obtain ⟨te', h3, rfl⟩ := zI hsz
 rw [h3] at hok hf
 simp only [Bool.and_eq_true] at hok
 exact zax (T := []) hw (zck TO ho hdst h1 h2 h3 hok.1.1.1.1 hok.1.1.1.2 hok.1.1.2 hok.1.2 hok.2 hal hf (zbV hds) hid hd) fun e' h' ⟨h1, h2⟩ => by subst h1 h2; exact HK

theorem zaH {id el k n n' : Nat} {cs cs' : List Dat} (hn : n = n') (hc : cs = cs') {h : Heap} (hl : look h id = some (.row el k n cs)) : look h id = some (.row el k n' cs') := by subst hn hc; exact hl
theorem zko {op : BinOp} {t u : TypeId} {x y : Operand} {k : IntKind} {a b : Int} {c : Bool} (ho : o.op = .binOp op t x y u) (hx : aev e x = some (.d (.sc (.int k a)))) (hy : aev e y = some (.d (.sc (.int k b)))) (hr : ibin op k a b = some (.bool c)) (hc : c = true := by first | (simp only [decide_eq_true_eq, beq_iff_eq, bne_iff_ne, ne_eq]; done) | (simp only [decide_eq_true_eq, beq_iff_eq, bne_iff_ne, ne_eq]; omega)) :
  AYield P T e h o (.d (.sc (.bool true))) := by subst hc; exact zct ho hx hy hr
theorem zkp {op : BinOp} {t u : TypeId} {x y : Operand} {k : IntKind} {a b : Int} {c : Bool} (ho : o.op = .binOp op t x y u) (hx : aev e x = some (.d (.sc (.int k a)))) (hy : aev e y = some (.d (.sc (.int k b)))) (hr : ibin op k a b = some (.bool c)) (hc : c = false := by first | (simp only [decide_eq_false_iff_not, beq_eq_false_iff_ne, bne_eq_false_iff_eq, ne_eq]; done) | (simp only [decide_eq_false_iff_not, beq_eq_false_iff_ne, bne_eq_false_iff_eq, ne_eq]; omega)) :
  AYield P T e h o (.d (.sc (.bool false))) := by subst hc; exact zct ho hx hy hr

theorem zfI {t el k j : Nat} {x y : Operand} {cs : List Dat} {n : Nat} {q : IntKind} {i : Int} (TO : TabOk P tab) (ho : o.op = .indexAddr t x y) (hel : telem tab t = some el) (hsz : tsize tab el = some k) (hx : aev e x = some (.d (.sl cs n))) (hy : aev e y = some (.d (.sc (.int q i)))) (hj : i = (j : Int)) (hlt : j < n) :
  AYield P T e h o (.iptr cs (j * k)) := by
 obtain ⟨te, h1, h2⟩ := zJ hel
 obtain ⟨te', h3, rfl⟩ := zI hsz
 subst hj
 exact zff TO ho h1 h2 h3 hx hy ⟨by omega, by omega⟩
theorem zhR {t el el' k kk j id : Nat} {x y : Operand} {cs : List Dat} {n : Nat} {q : IntKind} {i : Int} (TO : TabOk P tab) (ho : o.op = .indexAddr t x y) (hel : telem tab t = some el) (hsz : tsize tab el = some k) (hx : aev e x = some (.row id)) (hb : look h id = some (.row el' kk n cs)) (hy : aev e y = some (.d (.sc (.int q i)))) (hj : i = (j : Int)) (hlt : j < n) :
  AYield P T e h o (.eptr id (j * k)) := by
 obtain ⟨te, h1, h2⟩ := zJ hel
 obtain ⟨te', h3, rfl⟩ := zI hsz
 subst hj
 exact zeG TO ho h1 h2 h3 hx hb hy ⟨by omega, by omega⟩
theorem ziZ {t f off o1 id : Nat} {x : Operand} (TO : TabOk P tab) (ho : o.op = .fieldAddr t x f) (hf : tfield tab t f = some off) (hx : aev e x = some (.ptr id o1)) (hb : (look h id).isSome = true) : AYield P T e h o (.ptr id (o1 + off)) := by
 obtain ⟨te, fs, ft, te', h1, h2, h3, h4, h5⟩ := zbi hf
 exact zeH TO ho h1 h2 h3 h4 h5 hx hb
theorem zhU {t f off o1 id : Nat} {x : Operand} (TO : TabOk P tab) (ho : o.op = .fieldAddr t x f) (hf : tfield tab t f = some off) (hx : aev e x = some (.eptr id o1)) (hb : (look h id).isSome = true) : AYield P T e h o (.eptr id (o1 + off)) := by
 obtain ⟨te, fs, ft, te', h1, h2, h3, h4, h5⟩ := zbi hf
 exact zdQ TO ho h1 h2 h3 h4 h5 hx hb
theorem zhT {t f off o1 : Nat} {x : Operand} {cs : List Dat} (TO : TabOk P tab) (ho : o.op = .fieldAddr t x f) (hf : tfield tab t f = some off) (hx : aev e x = some (.iptr cs o1)) : AYield P T e h o (.iptr cs (o1 + off)) := by
 obtain ⟨te, fs, ft, te', h1, h2, h3, h4, h5⟩ := zbi hf
 exact zdP TO ho h1 h2 h3 h4 h5 hx
def lval (ag : Bool) (xs : List AVal) : Option AVal := match ag, xs with
 | true, xs => some (.agg xs)
 | false, [c] => some c
 | false, _ => none
theorem zbG {ag : Bool} {xs : List AVal} {c : AVal} (h : lval ag xs = some c) : cond ag (some (.agg xs)) xs.head? = some c := by
 unfold lval at h
 split at h
 ·exact h
 ·exact h
 ·cases h
theorem zkj {t id o1 s : Nat} {x : Operand} {cs xs : List AVal} {c : AVal} {ag : Bool} (TO : TabOk P tab) (ho : o.op = .load t x) (hs : tsize tab t = some s) (ha : tagg tab t = some ag) (hx : aev e x = some (.ptr id o1)) (hb : look h id = some (.var cs)) (hT : T.contains id = false)
  (hw : win cs o1 s = xs) (hl : Nat.beq xs.length s = true) (hc : lval ag xs = some c) : AYield P T e h o c := by
 obtain ⟨te, h1, rfl⟩ := zI hs
 obtain ⟨te', h3, rfl⟩ := za0 ha
 rw [h1] at h3; cases h3
 exact zfd TO ho h1 hx hb hT hw hl (zbG hc)
theorem zdR {t id o1 s el k n : Nat} {x : Operand} {cs xs : List Dat} {c : AVal} {ag : Bool} (TO : TabOk P tab) (ho : o.op = .load t x) (hs : tsize tab t = some s) (ha : tagg tab t = some ag) (hx : aev e x = some (.eptr id o1)) (hb : look h id = some (.row el k n cs)) (hT : T.contains id = false)
  (hw : win cs o1 s = xs) (hl : Nat.beq xs.length s = true) (hc : lval ag (xs.map AVal.d) = some c) : AYield P T e h o c := by
 obtain ⟨te, h1, rfl⟩ := zI hs
 obtain ⟨te', h3, rfl⟩ := za0 ha
 rw [h1] at h3; cases h3
 exact zeF TO ho h1 hx hb hT (by rw [hw]) (by simpa using hl) (zbG hc)
theorem zfH {t o1 s : Nat} {x : Operand} {cs xs : List Dat} {c : AVal} {ag : Bool} (TO : TabOk P tab) (ho : o.op = .load t x) (hs : tsize tab t = some s) (ha : tagg tab t = some ag) (hx : aev e x = some (.iptr cs o1)) (hw : win cs o1 s = xs) (hl : Nat.beq xs.length s = true) (hc : lval ag (xs.map AVal.d) = some c) :
  AYield P T e h o c := by
 obtain ⟨te, h1, rfl⟩ := zI hs
 obtain ⟨te', h3, rfl⟩ := za0 ha
 rw [h1] at h3; cases h3
 exact zeE TO ho h1 hx hw hl (zbG hc)
theorem zkV {t el : Nat} {x : Operand} {cs : List Dat} {n : Nat} (TO : TabOk P tab) (ho : o.op = .call { callee := .builtin .len, args := #[x], argTypes := #[t] }) (hel : telem tab t = some el) (hx : aev e x = some (.d (.sl cs n))) : AYield P T e h o (.d (.sc (.int .i64 (n : Int)))) := by
 obtain ⟨te, h1, h2⟩ := zJ hel
 exact zhG TO ho h1 h2 hx
theorem zkk {t el el' id k n : Nat} {x : Operand} {cs : List Dat} (TO : TabOk P tab) (ho : o.op = .call { callee := .builtin .len, args := #[x], argTypes := #[t] }) (hel : telem tab t = some el) (hx : aev e x = some (.row id)) (hb : look h id = some (.row el' k n cs)) : AYield P T e h o (.d (.sc (.int .i64 (n : Int)))) := by
 obtain ⟨te, h1, h2⟩ := zJ hel
 exact zgp TO ho h1 h2 hx hb
theorem zkl {t el : Nat} {x : Operand} (TO : TabOk P tab) (ho : o.op = .call { callee := .builtin .len, args := #[x], argTypes := #[t] }) (hel : telem tab t = some el) (hx : aev e x = some (.d (.sc (.slice none 0 0)))) : AYield P T e h o (.d (.sc (.int .i64 0))) := by
 obtain ⟨te, h1, h2⟩ := zJ hel
 exact zgq TO ho h1 h2 hx
theorem zi0 {t : TypeId} {ps : Array (Nat × Operand)} {al : List (Nat × AVal)} {z xs : List AVal} {fs : List (Nat × TypeId)} (TO : TabOk P tab) (ho : o.op = .build t ps) (hz : tzero tab t = some z) (hfs : (match tlook tab t with | some ⟨_, _, _, _, .st fs⟩ => some fs | _ => none) = some fs) (hal' : fs.all (fun f => (tlook tab f.2).isSome) = true)
  (hal : aparts e ps.toList = some al) (hf : afill (stPlace tab fs) z al = some xs) : AYield P T e h o (.agg xs) := by
 obtain ⟨te, h1, h2, rfl⟩ := zbQ hz
 rw [h1] at hfs
 split at hfs
 ·rename_i heq
  cases heq
  cases hfs
  exact ziS TO ho h1 rfl hal' h2 hal hf
 ·cases hfs
theorem zdY {n : Int} {m : Nat} (h : n = (m : Int)) (h2 : m ≤ 9223372036854775807) : IntKind.i64.wrap n = (m : Int) := by rw [h]; exact zaC ⟨by omega, by omega⟩
theorem zdk {k : Nat} (h2 : k < 9223372036854775807) : IntKind.i64.wrap ((k : Int) + 1) = ((k + 1 : Nat) : Int) := zdY (by omega) (by omega)
theorem zdl {k : Nat} (h1 : 1 ≤ k) (h2 : k ≤ 9223372036854775807) : IntKind.i64.wrap ((k : Int) - 1) = ((k - 1 : Nat) : Int) := zdY (by omega) (by omega)
theorem A_ct {c : Operand} {x y : Code} {b : Bool} (hc : aev e c = some (.d (.sc (.bool b)))) (ht : AWp z P nt x Q e h) (hb : b = true := by first | rfl | assumption | (first | (simp only [decide_eq_true_eq]; done) | (simp only [decide_eq_true_eq]; omega))) : AWp z P nt (.cond c x y) Q e h := zfM hc hb ht
theorem A_cf {c : Operand} {x y : Code} {b : Bool} (hc : aev e c = some (.d (.sc (.bool b)))) (ht : AWp z P nt y Q e h) (hb : b = false := by first | rfl | assumption | (first | (simp only [decide_eq_false_iff_not]; done) | (simp only [decide_eq_false_iff_not]; omega))) : AWp z P nt (.cond c x y) Q e h := zfN hc hb ht
theorem zW {α : Type} {enc : α → List Dat} {sz : Nat} (hsz : ∀ x, (enc x).length = sz) (l : List α) (k j m : Nat) (hk : k < l.length) (hj : j + m ≤ sz) : win (l.flatMap enc) (k * sz + j) m = win (enc l[k]) j m := by
 induction l generalizing k with
 | nil => simp at hk
 | cons a r ih =>
  cases k with
  | zero =>
   simp only [List.flatMap_cons, Nat.zero_mul, Nat.zero_add, List.getElem_cons_zero, win]
   have := hsz a
   rw [List.drop_append_of_le_length (by omega), List.take_append_of_le_length (by simp; omega)]
  | succ k =>
   have h1 := ih k (by simpa using hk)
   simp only [List.flatMap_cons, List.getElem_cons_succ] at h1 ⊢
   rw [← h1]
   unfold win
   have := hsz a
   rw [show (k + 1) * sz + j = (enc a).length + (k * sz + j) by rw [this, Nat.add_mul]; omega, ← List.drop_drop, List.drop_left]
theorem zj {α : Type} {enc : α → List Dat} {sz : Nat} (hsz : ∀ x, (enc x).length = sz) (l : List α) (k m : Nat) (hk : k < l.length) (hj : m ≤ sz) : win (l.flatMap enc) (k * sz) m = win (enc l[k]) 0 m := zW hsz l k 0 m hk (by omega)
theorem zdm {α : Type} {enc : α → List Dat} {sz : Nat} (hsz : ∀ x, (enc x).length = sz) (l : List α) (k j j2 m : Nat) (hk : k < l.length) (hj : j + j2 + m ≤ sz) : win (l.flatMap enc) (k * sz + j + j2) m = win (enc l[k]) (j + j2) m := by
 rw [Nat.add_assoc]; exact zW hsz l k (j + j2) m hk hj
theorem zao {α : Type} {enc : α → List Dat} {sz : Nat} (hsz : ∀ x, (enc x).length = sz) (l : List α) : (l.flatMap enc).length = l.length * sz := by
 induction l with
 | nil => simp
 | cons a r ih => simp [ih, hsz, Nat.add_mul]; omega
end
end Go.Proofs.YtoahnbmedcjpeaaGreatDoor.Ab

namespace Go.Proofs.YtoahnbmedcjpeaaGreatDoor.Ab
open Go.RowKit

theorem TFacts.elem {P : Program} {t : TypeId} {te : TE} {el : TypeId} (F : TFacts P t te) (hs : te.sh = .sl el) : P.elem t = el := by
 have := F.slice hs
 simp [Program.elem, this]

theorem zig {xs ys : List Dat} {n : Nat} (w : World) (F : Nat → Prop) (ι : Nat → Option Value) (u : Value) (h : VRel w F ι (.d (.sl (xs ++ ys) n)) u) : VRel w F ι (.d (.sl xs n)) u := by
 cases h with
 | d _ _ hd =>
  generalize hz : xs ++ ys = zs at hd
  cases hd with
  | nil =>
   obtain ⟨h1, h2⟩ := List.append_eq_nil_iff.1 hz
   subst h1
   exact .d _ _ .nil
  | emp a =>
   obtain ⟨h1, h2⟩ := List.append_eq_nil_iff.1 hz
   subst h1
   exact .d _ _ (.emp a)
  | sl _ _ b o cap vs hn hl hf hc hr =>
   subst hz
   refine .d _ _ (.sl xs n b o cap (vs.take xs.length) hn (by simp at hl ⊢; omega) (fun hne => hf (by rintro rfl; simp at hne)) (fun i v hv => ?_) (fun i c v h1 h2 => ?_))
   ·rw [List.getElem?_take] at hv
    split at hv
    ·exact hc i v hv
    ·cases hv
   ·rw [List.getElem?_take] at h2
    split at h2
    ·rename_i hi
     exact hr i c v (by rw [List.getElem?_append_left hi]; exact h1) h2
    ·cases h2
section
variable {P : Program} {nt : Nat} {Q : Post} {e : Env} {h : Heap} {ops : Array Oper} {o : Oper} {rest : List Oper} {T : List Nat} {tab : TTab}
theorem zR {e' : Env} {h' : Heap} {l : List Oper} (hk : AWk nt e h e' h') (H : AOps P nt ops Q l e' h') : AOps P nt ops Q l e h := fun hnd lq Pm F w0 pin ι a w R => by
 obtain ⟨ι', R'⟩ := hk Pm F w0 pin ι a w R
 exact H hnd lq Pm F w0 pin ι' a w R'
theorem zjm {l : List Oper} {t : Nat} {c c' : AVal} (ht : look e t = some c) (hc : ∀ w F ι u, VRel w F ι c u → VRel w F ι c' u) (H : AQ P nt ops Q l ((t, c') :: e) h) : AQ P nt ops Q l e h := fun Pm F w0 pin ι a w R =>
 H Pm F w0 pin ι a w ⟨R.heap, fun s c2 hs => by
  by_cases hts : t = s
  ·subst hts
   rw [zb] at hs; cases hs
   obtain ⟨u, hu, hv⟩ := R.env t c ht
   exact ⟨u, hu, hc _ _ _ _ hv⟩
  ·rw [zd _ _ hts] at hs; exact R.env s c2 hs, R.defers, R.size⟩

theorem zco {t el : TypeId} {te te' : TE} (w' : World) (Ft : TFacts P t te) (hs : te.sh = .sl el) (Fe : TFacts P el te') (b : Option Addr) (hb : ∀ a, b = some a → a.add 0 = a) (n cap : Nat) (k : IntKind) (m : Nat) (hm : m ≤ cap) :
  (Instr.sliceAt t (.slice b n cap) none (some (.int k m)) none).run P w' = .ok (.slice b m cap) w' := by
 have hu := Ft.slice hs
 have he : P.elem t = el := Ft.elem hs
 rw [run_sliceAt_slice (t := t) (h := by rw [he]; exact hu), run_slice_h (P := P) (w := w') (t := t) (a := b) (len := n) (cap := cap) (ht := by rw [he]; exact hu) (kh := k) (h := (m : Int)) (by omega) (by omega), he, Fe.size]
 simp only [Result.andThen, sliced, Int.toNat_natCast, Nat.zero_mul, Nat.sub_zero]
 congr 2
 split
 ·rfl
 ·cases b with
  | none => rfl
  | some a => simp [hb a rfl]
theorem add0 (b o : Nat) : (⟨b, o, none⟩ : Addr).add 0 = ⟨b, o, none⟩ := rfl
theorem zhO {t el k m : Nat} {x y : Operand} {cs : List Dat} {n : Nat} {q : IntKind} {i : Int} (TO : TabOk P tab) (ho : o.op = .slice t x none (some y) none) (hel : telem tab t = some el) (hsz : tsize tab el = some k) (hx : aev e x = some (.d (.sl cs n))) (hy : aev e y = some (.d (.sc (.int q i)))) (hi : i = (m : Int)) (hm : m ≤ n) :
  AYield P T e h o (.d (.sl cs m)) := by
 obtain ⟨te, h1, h2⟩ := zJ hel
 obtain ⟨te', h3, rfl⟩ := zI hsz
 subst hi
 refine zE _ fun w F ι a E => ?_
 have hv := zm E hx
 have hk := (zL (zm E hy)).1
 generalize hau : a.eval x = u at hv
 cases hv with
 | d _ _ hd =>
  cases hd with
  | nil =>
   have : m = 0 := by omega
   subst this
   exact ⟨_, .d _ _ .nil, fun w' => by simp only [execOp, ho, hau]; simp [hk]; rw [show (0 : Int) = ((0 : Nat) : Int) from rfl, zco w' (TO t te h1) h2 (TO el te' h3) none (fun a h => by cases h) 0 0 q 0 (Nat.le_refl _)]; rfl⟩
  | emp aa =>
   have : m = 0 := by omega
   subst this
   exact ⟨_, .d _ _ (.emp aa), fun w' => by simp only [execOp, ho, hau]; simp [hk]; rw [show (0 : Int) = ((0 : Nat) : Int) from rfl, zco w' (TO t te h1) h2 (TO el te' h3) (some aa) (fun a h => rfl) 0 0 q 0 (Nat.le_refl _)]; rfl⟩
  | sl _ _ b off cap vs hn hl hf hc hr =>
   exact ⟨_, .d _ _ (.sl cs m b off cap vs (by omega) hl hf hc hr), fun w' => by simp only [execOp, ho, hau]; simp [hk]; rw [zco w' (TO t te h1) h2 (TO el te' h3) _ (fun a h => by cases h; exact add0 _ _) n cap q m (by omega)]; rfl⟩
theorem zdj {t el : TypeId} {te te' : TE} {d : Option Tmp} {id : Nat} (TO : TabOk P tab) (ho : o.op = .buildSlice t 0 #[]) (hdst : o.dst = d) (ht : tlook tab t = some te) (hs : te.sh = .sl el) (hel : tlook tab el = some te') (hid : Nat.blt id 1000 = true) (hd : dstOk nt d = true) :
  AEff P nt T e h o (fun e' h' => e' = aput d (.row id) (killE id e) ∧ h' = (id, .row el te'.size 0 []) :: killH id h) := fun Pm F w0 pin ι a w R K Qx hK => by
 have hu := (TO t te ht).slice hs
 have hb : ∀ ι', ι' = upd ι id (some (.slice (some ⟨w.heap.size, 0, none⟩) 0 0)) → Ext w F ι (w.alloc (.cells #[] el)) ι' → BRel (w.alloc (.cells #[] el)) F ι' (.row el te'.size 0 []) (.slice (some ⟨w.heap.size, 0, none⟩) 0 0) := fun ι' h0 he =>
  ⟨[], ⟨by simp, .inr ⟨w.heap.size, 0, #[], rfl, Nat.zero_le _, za5 _ _, Nat.le_refl _, Nat.zero_le _, by simp, by simp⟩⟩, rfl, by simp⟩
 obtain ⟨hR, hC⟩ := R.new (T := T) hid hd (.cells #[] el) (.slice (some ⟨w.heap.size, 0, none⟩) 0 0) (by simp [blockOf]) _ (.row id) hb fun ι' h1 => .row id _ rfl fun v hv => by subst h1; simp [upd] at hv; exact hv
 have hrun : (execOp a.eval o).run P w = .ok (.value (.slice (some ⟨w.heap.size, 0, none⟩) 0 0)) (w.alloc (.cells #[] el)) := by
  simp only [execOp, ho]
  simp [Instr.buildSlice, run_underlying hu, (TO el te' hel).size, Instr.fill, newRow, newObj, Sem.run]
  first | rfl | (rw [show Array.range 0 = #[] from rfl]; rfl) | (rw [show Array.range 0 = #[] from by decide]; simp)
 unfold Oper.wp
 rw [hrun, Oper.upon_value, hdst]
 exact hK _ _ _ _ _ ⟨rfl, rfl⟩ hR hC (zx _ _ _)
theorem zap {t el k d : Nat} (TO : TabOk P tab) (hw : awant ops e o = some true) (hdst : o.dst = some d) (hd : Nat.blt d nt = true) (hid : Nat.blt d 1000 = true) (ho : o.op = .buildSlice t 0 #[]) (hel : telem tab t = some el) (hsz : tsize tab el = some k)
  (HK : AOps P nt ops Q rest ((d, .row d) :: killE d e) ((d, .row el k 0 []) :: killH d h)) : AOps P nt ops Q (o :: rest) e h := by
 obtain ⟨te, h1, h2⟩ := zJ hel
 obtain ⟨te', h3, rfl⟩ := zI hsz
 exact zax (T := []) hw (zdj TO ho hdst h1 h2 h3 hid hd) fun e' h' ⟨h1, h2⟩ => by subst h1 h2; exact HK

theorem zdW {t : TypeId} {x y : Operand} {d : Option Tmp} {te : TE} {id off el k n : Nat} {cs ds : List Dat} {xs : List AVal} {c : AVal} (TO : TabOk P tab) (ho : o.op = .store t x y) (hdst : o.dst = d) (ht : tlook tab t = some te) (hx : aev e x = some (.eptr id off)) (hb : look h id = some (.row el k n cs))
  (hy : aev e y = some c) (hcs : cellsA c = some xs) (hds : xs = ds.map AVal.d) (hl : xs.length = te.size) (hle : off + te.size ≤ cs.length) (h0 : 0 < n) (hd : dstOk nt d = true) (hT : T.contains id = true) :
  AEff P nt T e h o (fun e' h' => e' = aput d .und e ∧ h' = (id, .row el k n (setW cs off ds)) :: h) := fun Pm F w0 pin ι a w R K Qx hK => by
 obtain ⟨v, hv, zs, hown, hlC, hr⟩ := R.heap.blk id _ hb
 have hrel := zm R.env hx
 have hyr := zm R.env hy
 obtain ⟨hsz, hcr⟩ := zbL hyr hcs
 obtain ⟨hzl, hcase⟩ := hown
 rcases hcase with ⟨_, h9⟩ | ⟨g, cap, cur, rfl, hg0, hC, hnc, hmx, hcs2, htake⟩
 ·exact absurd h0 (by omega)
 have hnk : n * k ≤ cap * k := Nat.mul_le_mul_right _ hnc
 have hle2 : off + te.size ≤ n * k := by omega
 generalize hau : a.eval x = u at hrel
 cases hrel with
 | eptr _ _ _ h1 h2 =>
  obtain ⟨g', n', cap', h3, rfl⟩ := h2 _ hv
  cases h3
  have hdl : ds.length = te.size := by rw [← hl, hds, List.length_map]
  have hone : ∀ u ∈ (a.eval y).cells.toList, u.oneCell' = true := fun u hu => by
   obtain ⟨i, hi⟩ := List.mem_iff_getElem?.1 hu
   have hlt : i < xs.length := by rw [← hsz, ← Array.length_toList]; exact (List.getElem?_eq_some_iff.1 hi).1
   have hcc := hcr i xs[i] u (List.getElem?_eq_getElem hlt) (by simpa using hi)
   have hxi : xs[i] = .d (ds[i]'(by rw [hds] at hlt; simpa using hlt)) := by subst hds; simp
   rw [hxi] at hcc
   cases hcc with
   | d _ _ hdd => exact hdd.one
  have hrun := zb2 (w := w) (TO t te ht) hC (a.eval y) (by rw [hsz, hl]) (by rw [hcs2]; omega) hone (off := off)
  obtain ⟨hW, hnew⟩ := zbZ (C' := (setW cur.toList off (a.eval y).cells.toList).toArray) hC (v := .slice (some ⟨g, 0, none⟩) n cap) rfl
  have hlen : (a.eval y).cells.toList.length = xs.length := by simpa using hsz
  unfold Oper.wp
  have hrun2 : (execOp a.eval o).run P w = .ok .skip (w.setRow g (setW cur.toList off (a.eval y).cells.toList).toArray) := by
   simp [execOp, ho, Instr.storeAt, Instr.sureAddr, hau, hrun]
  rw [hrun2, Oper.upon_skip, hdst]
  have hcl : cur.toList.length = cap * k := by simpa using hcs2
  refine hK ι _ _ _ _ ⟨rfl, rfl⟩ ?_ ?_ (zx _ _ _)
  ·refine ⟨R.heap.wrote hW hv ⟨(setW cur.toList off (a.eval y).cells.toList).take (n * k), ⟨?_, .inr ⟨g, cap, _, rfl, hg0, hnew, hnc, hmx, ?_, rfl⟩⟩, ?_, fun i c' u h4 h5 => ?_⟩, (R.env.mono fun _ _ _ _ hv' => hv'.wrote hW hv).aput hd R.size .und, by rw [zx]; exact R.defers.ext (hW.ext hv), by rw [zaD]; exact R.size⟩
   ·simp [setW]; omega
   ·simp [setW]; omega
   ·simp [setW]; omega
   ·rw [zbl (by omega)] at h4
    rw [List.getElem?_take] at h5
    split at h5
    ·rename_i hin0
     rw [zbl (by rw [hlen]; omega), hlen] at h5
     split at h4
     ·rename_i hin
      rw [if_pos (by omega)] at h5
      have := hcr (i - off) (.d c') u (by rw [hds, List.getElem?_map, h4]; rfl) (by simpa using h5)
      have := this.wrote hW hv
      cases this with
      | d _ _ hdd => exact hdd
     ·rename_i hin
      rw [if_neg (by omega)] at h5
      have := (VRel.d _ _ (hr i c' u h4 (by rw [← htake, List.getElem?_take, if_pos hin0]; exact h5))).wrote hW hv
      cases this with
      | d _ _ hdd => exact hdd
    ·cases h5
  ·exact ⟨⟨hW.os, hW.tape, hW.output, hW.size, fun r hr hne => hW.mem r hr fun hb => hne id (List.contains_iff_mem.1 hT) _ hv hb⟩, fun j _ u r hj hr _ => ⟨u, hj, hr⟩⟩
end
def lendV (h : Heap) : AVal → AVal
 | .row id => match look h id with
  | some (.row _ _ n ds) => .d (.sl ds n)
  | _ => .top
 | c => c
theorem FreeB.all (r : Nat) : FreeB (fun _ => False) (fun _ => none) r := ⟨fun h => h, fun _ _ h => by cases h⟩
theorem zc1 {Pm F : Nat → Prop} {w0 w : World} {pin ι : Nat → Option Value} {h : Heap} (H : HRel Pm F w0 pin ι h w) {c : AVal} {u : Value} (hc : VRel w F ι c u) : VRel w (fun _ => False) (fun _ => none) (lendV h c) u := by
 have other : ∀ {c : AVal}, VRel w F ι c u → VRel w (fun _ => False) (fun _ => none) c u := fun hc => hc.extF ⟨fun _ _ _ => rfl, fun r _ _ => FreeB.all r⟩ fun _ _ _ h => by cases h
 cases c with
 | row id =>
  cases hb : look h id with
  | none => simp only [lendV, hb]; exact .top u
  | some b =>
   cases b with
   | row el k n ds =>
    obtain ⟨v, hv, xs, hown, hl, hr⟩ := H.blk id _ hb
    cases hc with
    | row _ _ h1 h2 =>
     have := h2 v hv
     subst this
     rcases hown.2 with ⟨h3, h4⟩ | ⟨g, cap, cur, h3, _, hg, hn, _, hs, ht⟩
     ·subst h3 h4
      have hx := hown.1
      rw [Nat.zero_mul] at hx
      have : ds = [] := List.length_eq_zero_iff.1 (by omega)
      subst this
      simp only [lendV, hb]
      exact .d _ _ .nil
     ·subst h3
      simp only [lendV, hb]
      refine .d _ _ (.sl ds n g 0 cap xs hn hl (fun _ => FreeB.all g) (fun i x hx => ?_) fun i c x h5 h6 => (hr i c x h5 h6).ext (fun _ _ _ => rfl) fun r _ _ => FreeB.all r)
      rw [← ht, List.getElem?_take] at hx
      split at hx
      ·simp only [World.cell?, hg]
       simpa using hx
      ·cases hx
   | _ => simp only [lendV, hb]; exact .top u
 | _ => exact other hc
theorem zgm {Pm F : Nat → Prop} {w0 w : World} {pin ι : Nat → Option Value} {h : Heap} (H : HRel Pm F w0 pin ι h w) {cs : List AVal} {us : Array Value} (A : ArgsRel w F ι cs us) : ArgsRel w (fun _ => False) (fun _ => none) (cs.map (lendV h)) us :=
 ⟨by rw [List.length_map]; exact A.1, fun i c u h1 h2 => by
  rw [List.getElem?_map] at h1
  cases hc : cs[i]? with
  | none => rw [hc] at h1; cases h1
  | some c' => rw [hc] at h1; cases h1; exact zc1 H (A.2 i c' u hc h2)⟩
section
variable {P : Program} {nt : Nat} {Q : Post} {e : Env} {h : Heap} {ops : Array Oper} {o : Oper} {rest : List Oper} {T : List Nat} {tab : TTab}
theorem zi9 {f : FuncId} {args : Array Operand} {ats : Array TypeId} {cs : List AVal} {d : Option Tmp} {c : AVal} {v : Value} (ho : o.op = .call { callee := .value (.func f), args := args, argTypes := ats }) (hdst : o.dst = d) (hx : aevs e args.toList = some cs)
  (H : ACall P f (cs.map (lendV h)) [] (fun c' h' => c' = c ∧ h' = [])) (hd : dstOk nt d = true) (hc : valA c = some v) (hrel : ∀ w F ι, VRel w F ι c v) : AEff P nt T e h o (fun e' h' => e' = aput d c e ∧ h' = h) := fun Pm F w0 pin ι a w R K Qx hK => by
 unfold Oper.wp
 rw [za1 H.1 ho, Oper.upon_enter, hdst]
 refine (H.2 _ _ w _ _ _ w (HRel.none (fun _ => False) w (fun _ h => h.elim) R.heap.glob) (zgm R.heap (zaM R.env hx))).mono ?_
 rintro x w' ⟨u, c', h', ι', rfl, ⟨rfl, rfl⟩, hH, hv⟩
 have := zaa hv hc
 subst this
 have G := hH.grewC
 exact hK ι _ _ _ w' ⟨rfl, rfl⟩ ((R.grew G).put hd (hrel _ _ _)) ⟨G.ct T, fun id _ v r h1 h2 _ => ⟨v, h1, h2⟩⟩ (zx _ _ _)
theorem zaJ {f : FuncId} {args : Array Operand} {ats : Array TypeId} {cs : List AVal} {d id el k n : Nat} {ds : List Dat} (hw : awant ops e o = some true) (hdst : o.dst = some d) (hd : Nat.blt d nt = true) (ho : o.op = .call { callee := .value (.func f), args := args, argTypes := ats }) (hx : aevs e args.toList = some cs)
  (H : ACall P f cs [] (fun c' h' => c' = .row id ∧ h' = [(id, .row el k n ds)])) (hid : Nat.blt id 1000 = true) (HK : AOps P nt ops Q rest ((d, .row id) :: killEs [id] e) ((id, .row el k n ds) :: killHs [id] h)) : AOps P nt ops Q (o :: rest) e h :=
 zax (T := []) hw (zcj ho hdst hx H hd fun c' h' ⟨h1, h2⟩ => by
  subst h1 h2
  refine ⟨by simp [hid], fun j b i hb hh => ?_, fun j hj => ?_⟩
  ·unfold look at hb
   cases hj : Nat.beq id j with
   | true => rw [hj] at hb; cases hb; simp [blkHas] at hh
   | false => rw [hj] at hb; cases hb
  ·simp [AVal.has] at hj
   subst hj
   simp [look]) fun e' h' ⟨c, h2, ⟨h3, h4⟩, h5, h6⟩ => by subst h3 h4 h5 h6; exact HK
end
end Go.Proofs.YtoahnbmedcjpeaaGreatDoor.Ab

namespace Go.Proofs.YtoahnbmedcjpeaaGreatDoor.Ab
open Go.RowKit
section
variable {P : Program} {nt : Nat} {Q : Post}
def RF : Post := fun _ _ _ => False
theorem zdg {z : Bool} {x y : Code} {e : Env} {h : Heap} (E1 : Env) (H1 : Heap) (h1 : AWp z P nt x (AThen (fun e' h' => AWk nt e' h' E1 H1) RF) e h) (h2 : AWp z P nt y Q E1 H1) : AWp z P nt (.seq x y) Q e h :=
 zn (h1.mono fun ex e h hq => by
  cases ex with
  | normal => exact zf hq h2
  | _ => exact False.elim hq)
end
end Go.Proofs.YtoahnbmedcjpeaaGreatDoor.Ab

namespace Go.Proofs.YtoahnbmedcjpeaaGreatDoor.Ab
open Go.RowKit

def onlyN (Q : Exit → Act → World → Prop) : Exit → Act → World → Prop := fun x a w => x = .normal ∧ Q x a w
def AAny (P : Program) (nt : Nat) (ops : Array Oper) (Q : Post) (T : List Nat) (fuel : Nat) (listed : Array Bool) (e : Env) (h : Heap) : Prop :=
 ∀ Pm F w0 pin ι a w, Rel Pm F w0 pin ι nt e h a w → wpAnyH P .any ops (onlyN (real Pm F w0 pin nt Q)) (CT T ι w) fuel listed a w
def AAt (P : Program) (nt : Nat) (ops : Array Oper) (Q : Post) (T : List Nat) (fuel : Nat) (listed : Array Bool) (i : Nat) (e : Env) (h : Heap) : Prop :=
 ∀ Pm F w0 pin ι a w, Rel Pm F w0 pin ι nt e h a w → wpOp P ops (onlyN (real Pm F w0 pin nt Q)) i (fun a' w' => CT T ι w w' ∧ wpAnyH P .any ops (onlyN (real Pm F w0 pin nt Q)) (CT T ι w) fuel (listed.setIfInBounds i true) a' w') a w
def memOp : Op → Bool
 | .load _ _ => true
 | .lookup _ _ _ _ => true
 | .call _ => true
 | _ => false
def NoPanic (Q : Post) : Prop := ∀ ch e h, ¬ Q (.panic ch) e h
theorem zG {K : Env → Heap → Prop} {Q : Post} (h : NoPanic Q) : NoPanic (AThen K Q) := fun ch e h' hq => h ch e h' hq
theorem z1 {j : Nat} {Q : Post} (h : NoPanic Q) : NoPanic (AIn j Q) := fun ch e h' hq => h ch e h' hq
theorem zH {nt : Nat} {tab : TTab} {rs : List ResultVar} {R : AVal → Heap → Prop} : NoPanic (APost nt tab rs R) := fun _ _ _ h => h
section
variable {P : Program} {nt : Nat} {Q : Post} {e : Env} {h : Heap} {ops : Array Oper} {T : List Nat} {fuel i : Nat} {listed : Array Bool} {o : Oper}
theorem zbh {S S' : World → Prop} {Q' : Exit → Act → World → Prop} (hS : ∀ w, S w → S' w) : ∀ (fuel : Nat) (listed : Array Bool) (a : Act) (w : World), wpAnyH P .any ops Q' S fuel listed a w → wpAnyH P .any ops Q' S' fuel listed a w
 | 0, _, _, _, h => h
 | fuel + 1, _, _, _, h => ⟨h.1, fun i hi => wpOp_mono (fun a' w' h' => ⟨hS _ h'.1, zbh hS fuel _ a' w' h'.2⟩) (h.2 i hi)⟩
theorem zeP {Pm F : Nat → Prop} {w0 w : World} {pin : Nat → Option Value} {a : Act} {ch : List PanicEntry} {Q : Post} (hQ : NoPanic Q) : ¬ onlyN (real Pm F w0 pin nt Q) (.panic ch) a w := fun h => by cases h.1
theorem zaq {z : Bool} {id : Nat} {l : List Oper} (T : List Nat) (hm : P.follows .mixedOrders = true) (H : AAny P nt l.toArray Q T l.toArray.size (Array.replicate l.toArray.size false) e h) (hnd : l.all notDef = true := by rfl) : AWp z P nt (.region id l.toArray true) Q e h := fun lq Pm F w0 pin ι a w hz R =>
 wpIn_mono (wpIn_region_any hm (ze9 (Q := onlyN (real Pm F w0 pin nt Q)) (fun ⟨_, _, h, _⟩ => by cases h) hnd _ _ _ _ (wpAny_of_held _ _ _ _ (H Pm F w0 pin ι a _ (R.grew (Grew.drew w)))))) fun x a w h => h.2
theorem zM {c : AVal} {d : Nat} (hi : ops[i]? = some o) (hs : Region.noSelect ops = true) (hf : Region.free .any ops listed i = true) (hr : (Region.ready .any ops listed).contains i = true) (hQ : NoPanic Q)
  (hw : awant ops e o = some true) (hdst : o.dst = some d) (hd : Nat.blt d nt = true) (hy : AYield P T e h o c) (H : AAny P nt ops Q T fuel (listed.setIfInBounds i true) ((d, c) :: e) h) : AAny P nt ops Q T (fuel + 1) listed e h := fun Pm F w0 pin ι a w R => by
 obtain ⟨v, hv, hrun⟩ := hy Pm F w0 pin ι a w R.heap R.env
 refine wpAnyH_take hi hs hf hr (fun ch a w hp => absurd hp (zeP hQ)) (.inl ⟨zab R.env hw, fun w' hw' => hrun w' hw'⟩) (CT.refl _ _ _) ?_
 have R' := R.put (d := some d) hd hv
 rw [hdst]
 exact H Pm F w0 pin ι _ w R'
theorem zfJ {rs : List Nat} (hr : Region.ready .any ops listed = rs) (hne : rs.isEmpty = false) (H : ∀ i ∈ rs, AAt P nt ops Q T fuel listed i e h) : AAny P nt ops Q T (fuel + 1) listed e h := fun Pm F w0 pin ι a w R =>
 wpAnyH_all hr (by rintro rfl; cases hne) fun i hi => H i hi Pm F w0 pin ι a w R
theorem zh {j : Nat} (hr : Region.ready .any ops listed = [j]) (H : AAt P nt ops Q T fuel listed j e h) : AAny P nt ops Q T (fuel + 1) listed e h :=
 zfJ hr rfl fun i hi => by rw [List.mem_singleton.1 hi]; exact H
theorem zak {j k : Nat} (hr : Region.ready .any ops listed = [j, k]) (H1 : AAt P nt ops Q T fuel listed j e h) (H2 : AAt P nt ops Q T fuel listed k e h) : AAny P nt ops Q T (fuel + 1) listed e h :=
 zfJ hr rfl fun i hi => by
  rcases List.mem_cons.1 hi with rfl | hi
  ·exact H1
  ·rw [List.mem_singleton.1 hi]; exact H2
theorem zaz (hr : Region.ready .any ops listed = []) (H : Q .normal e h) : AAny P nt ops Q T fuel listed e h := fun Pm F w0 pin ι a w R => wpAnyH_done hr ⟨rfl, ι, e, h, H, R⟩ fuel
theorem zbf {R : Env → Heap → Prop} (hi : ops[i]? = some o) (hw : awant ops e o = some true) (hy : AEff P nt T e h o R) (H : ∀ e' h', R e' h' → AAny P nt ops Q T fuel (listed.setIfInBounds i true) e' h') : AAt P nt ops Q T fuel listed i e h := fun Pm F w0 pin ι a w Rl => by
 unfold wpOp
 simp only [hi]
 rw [zab Rl.env hw, if_pos rfl]
 left
 exact hy Pm F w0 pin ι a w Rl _ _ fun ι' e' h' a' w' hR hRel hC _ => ⟨hC.ct, zbh (fun w2 h2 => hC.trans h2) _ _ _ _ (H e' h' hR Pm F w0 pin ι' a' w' hRel)⟩
theorem zl {c : AVal} {d : Nat} (hi : ops[i]? = some o) (hw : awant ops e o = some true) (hdst : o.dst = some d) (hd : Nat.blt d nt = true) (hy : AYield P [] e h o c) (H : AAny P nt ops Q T fuel (listed.setIfInBounds i true) ((d, c) :: e) h) : AAt P nt ops Q T fuel listed i e h :=
 zbf (R := fun e' h' => e' = (d, c) :: e ∧ h' = h) hi hw (fun Pm F w0 pin ι a w R K Qx hK => by
  obtain ⟨v, hv, hr⟩ := hy Pm F w0 pin ι a w R.heap R.env
  unfold Oper.wp
  rw [hr w (CT.refl _ _ _), Oper.upon_value, hdst]
  exact hK ι _ _ _ w ⟨rfl, rfl⟩ (R.put (d := some d) hd hv) ⟨CT.refl _ _ _, fun id _ v r h1 h2 _ => ⟨v, h1, h2⟩⟩ (zx _ _ _)) fun e' h' ⟨h1, h2⟩ => by subst h1 h2; exact H
theorem zcv {f : FuncId} {args : Array Operand} {ats : Array TypeId} {cs : List AVal} {c : AVal} {d : Nat} (hi : ops[i]? = some o) (hw : awant ops e o = some true) (hdst : o.dst = some d) (hd : Nat.blt d nt = true) (ho : o.op = .call { callee := .value (.func f), args := args, argTypes := ats }) (hx : aevs e args.toList = some cs)
  (HC : ACall P f cs [] (fun c' h' => c' = c ∧ h' = [])) (hc : ∀ j, c.has j = false) (H : AAny P nt ops Q T fuel (listed.setIfInBounds i true) ((d, c) :: e) h) : AAt P nt ops Q T fuel listed i e h :=
 zbf hi hw (zfK ho hdst hx HC hd hc) fun e' h' ⟨h1, h2⟩ => by subst h1 h2; exact H
theorem zcJ {t : TypeId} {d : Nat} {z : List AVal} {tab : TTab} (TO : TabOk P tab) (hi : ops[i]? = some o) (hw : awant ops e o = some true) (hdst : o.dst = some d) (hd : Nat.blt d nt = true) (hid : Nat.blt d 1000 = true) (ho : o.op = .alloc t) (hz : tzero tab t = some z)
  (H : AAny P nt ops Q T fuel (listed.setIfInBounds i true) ((d, .ptr d 0) :: killE d e) ((d, .var z) :: killH d h)) : AAt P nt ops Q T fuel listed i e h := by
 obtain ⟨te, h1, h2, rfl⟩ := zbQ hz
 exact zbf hi hw (zfL TO ho hdst h1 hid hd h2) fun e' h' ⟨h1, h2⟩ => by subst h1 h2; exact H
theorem zfF {t : TypeId} {x : Operand} {d : Nat} {c : AVal} {cs : List AVal} (hi : ops[i]? = some o) (hw : awant ops e o = some true) (hdst : o.dst = some d) (hd : Nat.blt d nt = true) (hid : Nat.blt d 1000 = true) (ho : o.op = .box t x) (hx : aev e x = some c) (hcs : cellsA c = some cs)
  (H : AAny P nt ops Q T fuel (listed.setIfInBounds i true) ((d, .ptr d 0) :: killE d e) ((d, .var (cs.map (killV d))) :: killH d h)) : AAt P nt ops Q T fuel listed i e h :=
 zbf hi hw (zjq ho hdst hx hcs hid hd) fun e' h' ⟨h1, h2⟩ => by subst h1 h2; exact H
theorem zai {t : TypeId} {x y : Operand} {id off s : Nat} {cs xs : List AVal} {c : AVal} {tab : TTab} (TO : TabOk P tab) (hi : ops[i]? = some o) (hw : awant ops e o = some true) (hdst : o.dst = none) (ho : o.op = .store t x y) (hx : aev e x = some (.ptr id off)) (hb : look h id = some (.var cs))
  (hy : aev e y = some c) (hcs : cellsA c = some xs) (hp : xs.all plainC = true) (hs : tsize tab t = some s) (hl : Nat.beq xs.length s = true) (hle : Nat.ble (off + s) cs.length = true) (hT : T.contains id = true)
  (H : AAny P nt ops Q T fuel (listed.setIfInBounds i true) e ((id, .var (setW cs off xs)) :: h)) : AAt P nt ops Q T fuel listed i e h := by
 obtain ⟨te, h1, h2⟩ := zI hs
 subst h2
 exact zbf hi hw (zcD TO ho hdst h1 hx hb hy hcs hp hl hle rfl rfl hT) fun e' h' ⟨h1, h2⟩ => by subst h1 h2; exact H
end
end Go.Proofs.YtoahnbmedcjpeaaGreatDoor.Ab

namespace Go.Proofs.YtoahnbmedcjpeaaGreatDoor.Ab
open Go.RowKit

mutual
def fzV (id : Nat) (ds : List Dat) : AVal → AVal
 | .ptr j off => cond (Nat.beq j id) (.iptr ds off) (.ptr j off)
 | .agg cs => .agg (fzL id ds cs)
 | .tup cs => .tup (fzL id ds cs)
 | .fn f cs => .fn f (fzL id ds cs)
 | .top => .top
 | .und => .und
 | .d x => .d x
 | .eptr j off => .eptr j off
 | .iptr cs off => .iptr cs off
 | .row j => .row j
 | .mp j => .mp j
 | .srow j o n => .srow j o n
 | .full cs n => .full cs n
def fzL (id : Nat) (ds : List Dat) : List AVal → List AVal
 | [] => []
 | c :: r => fzV id ds c :: fzL id ds r
end
theorem zb9 (id : Nat) (ds : List Dat) (cs : List AVal) (i : Nat) : (fzL id ds cs)[i]? = (cs[i]?).map (fzV id ds) := by
 induction cs generalizing i with
 | nil => rfl
 | cons c r ih =>
  rw [fzL]
  cases i with
  | zero => rfl
  | succ i => simpa using ih i
theorem zb8 (id : Nat) (ds : List Dat) (cs : List AVal) : (fzL id ds cs).length = cs.length := by
 induction cs with
 | nil => rfl
 | cons c r ih => rw [fzL]; simp [ih]
def fzB (id : Nat) (ds : List Dat) : ABlk → ABlk
 | .var cs => .var (fzL id ds cs)
 | .row e k n cs => .row e k n cs
 | .rowA e k n cs => .rowA e k n (fzL id ds cs)
 | .map es => .map (es.map fun p => (fzV id ds p.1, fzV id ds p.2))
 | .mapx r bs clk es => .mapx r bs clk (es.map fun p => (fzV id ds p.1, fzV id ds p.2))
 | .it o => .it o
 | .rowx hv e k n cs => .rowx hv e k n cs
def fzE (id : Nat) (ds : List Dat) : Env → Env
 | [] => []
 | (k, c) :: r => (k, fzV id ds c) :: fzE id ds r
def fzH (id : Nat) (ds : List Dat) : Heap → Heap
 | [] => []
 | (k, b) :: r => cond (Nat.beq k id) (fzH id ds r) ((k, fzB id ds b) :: fzH id ds r)
theorem zgV (id : Nat) (ds : List Dat) (e : Env) (t : Nat) : look (fzE id ds e) t = (look e t).map (fzV id ds) := by
 induction e with
 | nil => rfl
 | cons p r ih =>
  show cond _ _ _ = Option.map _ (cond _ _ _)
  cases Nat.beq p.1 t
  ·exact ih
  ·rfl
theorem zei (id : Nat) (ds : List Dat) (h : Heap) (t : Nat) : look (fzH id ds h) t = if t = id then none else (look h t).map (fzB id ds) := by
 induction h with
 | nil => simp [fzH, look]
 | cons p r ih =>
  show look (cond _ _ _) t = _
  by_cases hpt : p.1 = t
  ·cases hc : Nat.beq p.1 id
   ·have := zaO hc
    have e1 : look (p :: r) t = some p.2 := by rw [← hpt]; exact zb _ _ _
    rw [cond_false, e1, if_neg (by omega), ← hpt, zb]; rfl
   ·have := Nat.eq_of_beq_eq_true hc
    rw [cond_true, ih, if_pos (by omega), if_pos (by omega)]
  ·have e1 : look (p :: r) t = look r t := zd _ _ hpt
   rw [e1]
   cases hc : Nat.beq p.1 id
   ·rw [cond_false, zd _ _ hpt, ih]
   ·rw [cond_true, ih]
section
variable {nt : Nat} {e : Env} {h : Heap}
theorem zr {id : Nat} {cs : List AVal} {ds : List Dat} (hb : look h id = some (.var cs)) (hcs : cs = ds.map .d) : AWk nt e h (fzE id ds e) (fzH id ds h) := fun Pm F w0 pin ι a w R => by
 subst hcs
 obtain ⟨v, hv, r, C, T, rfl, hC, hlC, hrr⟩ := R.heap.blk id _ hb
 let ι' : Nat → Option Value := fun j => if j = id then none else ι j
 have hs : ∀ j u, ι' j = some u → j ≠ id ∧ ι j = some u := fun j u hj => by
  simp only [ι'] at hj
  split at hj
  ·cases hj
  ·exact ⟨by assumption, hj⟩
 have he : Ext w F ι w ι' := ⟨fun _ _ _ => rfl, fun r _ hf => ⟨hf.1, fun j u hj => hf.2 j u (hs j u hj).2⟩⟩
 have hfr : FreeB F ι' r := ⟨R.heap.nf id _ r hv rfl, fun j u hj hb => by
  obtain ⟨h1, h2⟩ := hs j u hj
  exact R.heap.inj j id u _ r h1 h2 hv hb rfl⟩
 have hlen : C.toList.length = ds.length := by simpa using hlC
 have hcell : ∀ (i : Nat) (u : Value), C.toList[i]? = some u → w.cell? ⟨r, 0 + i, none⟩ = some u := fun i u hu => by
  rw [Nat.zero_add]; simp [World.cell?, hC]; simpa using hu
 have hdat : ∀ (i : Nat) (c : Dat) (u : Value), ds[i]? = some c → C.toList[i]? = some u → DRel w (FreeB F ι') c u := fun i c u h1 h2 => by
  have := hrr i (.d c) u (by rw [List.getElem?_map, h1]; rfl) (by simpa using h2)
  cases this with
  | d _ _ hd => exact hd.ext he.mem he.free
 have vk : ∀ c u, VRel w F ι c u → VRel w F ι' (fzV id ds c) u := by
  intro c u hc
  induction hc with
  | top u => exact .top u
  | und => exact .und
  | d x u hd => exact .d x u (hd.ext he.mem he.free)
  | agg cs C hl h ih =>
   refine .agg _ C (by rw [zb8]; exact hl) fun i c u h1 h2 => ?_
   rw [zb9] at h1
   cases h3 : cs[i]? with
   | none => simp [h3] at h1
   | some c0 => simp [h3] at h1; subst h1; exact ih i c0 u h3 h2
  | tup cs C hl h ih =>
   refine .tup _ C (by rw [zb8]; exact hl) fun i c u h1 h2 => ?_
   rw [zb9] at h1
   cases h3 : cs[i]? with
   | none => simp [h3] at h1
   | some c0 => simp [h3] at h1; subst h1; exact ih i c0 u h3 h2
  | ptr j off u h1 h =>
   rw [fzV]
   cases hj : Nat.beq j id with
   | true =>
    have := Nat.eq_of_beq_eq_true hj
    subst this
    obtain ⟨g, h3, rfl⟩ := h _ hv
    cases h3
    have := VRel.iptr (w := w) (F := F) (ι := ι') ds off r 0 C.toList hlen (fun _ => hfr) hcell hdat
    rw [Nat.zero_add] at this
    exact this
   | false => exact .ptr j off u h1 fun v hv => h v (hs j v hv).2
  | eptr j off u h1 h => exact .eptr j off u h1 fun v hv => h v (hs j v hv).2
  | iptr cs off b o' vs hl hf hc hr => exact (VRel.iptr cs off b o' vs hl hf hc hr : VRel w F ι _ _).ext he fun j v _ hv => (hs j v hv).2
  | row j u h1 h => exact .row j u h1 fun v hv => h v (hs j v hv).2
  | mp j u h1 h => exact .mp j u h1 fun v hv => h v (hs j v hv).2
  | srow j off n u h1 h => exact .srow j off n u h1 fun v hv => h v (hs j v hv).2
  | full cs n b h => exact .full cs n b (h.ext he.mem he.free)
  | fn f cs C hl h ih =>
   refine .fn f _ C (by rw [zb8]; exact hl) fun i c u h1 h2 => ?_
   rw [zb9] at h1
   cases h3 : cs[i]? with
   | none => simp [h3] at h1
   | some c0 => simp [h3] at h1; subst h1; exact ih i c0 u h3 h2
 refine ⟨ι', ⟨?_, ?_, fun i j v v' r hij hi hj => R.heap.inj i j v v' r hij (hs i v hi).2 (hs j v' hj).2, fun i v r hi => R.heap.pm i v r (hs i v hi).2, R.heap.os, R.heap.tape, R.heap.output, R.heap.size, R.heap.keep, R.heap.fresh, fun i v h1 hi => R.heap.pinned i v h1 (hs i v hi).2, fun i v r hi => R.heap.nf i v r (hs i v hi).2, R.heap.forb⟩, ?_, R.defers.ext he, R.size⟩
 ·intro j b hj
  rw [zei] at hj
  split at hj
  ·cases hj
  ·rename_i hji
   cases hl2 : look h j with
   | none => simp [hl2] at hj
   | some b0 =>
    simp [hl2] at hj
    subst hj
    obtain ⟨v2, hv2, hB⟩ := R.heap.blk j b0 hl2
    refine ⟨v2, by simp [ι', hji, hv2], ?_⟩
    cases b0 with
    | var es =>
     obtain ⟨r, C, tt, rfl, h3, h4, h5⟩ := hB
     refine ⟨r, C, tt, rfl, h3, by rw [zb8]; exact h4, fun i c u h6 h7 => ?_⟩
     rw [zb9] at h6
     cases h8 : es[i]? with
     | none => simp [h8] at h6
     | some c0 => simp [h8] at h6; subst h6; exact vk _ _ (h5 i c0 u h8 h7)
    | row el2 k2 n2 es =>
     obtain ⟨ys, hown2, h4, h5⟩ := hB
     exact ⟨ys, hown2, h4, fun i c u h6 h7 => (h5 i c u h6 h7).ext he.mem he.free⟩
    | rowA el2 k2 n2 es =>
     obtain ⟨ys, hown2, h4, h5⟩ := hB
     refine ⟨ys, hown2, by rw [zb8]; exact h4, fun i c u h6 h7 => ?_⟩
     rw [zb9] at h6
     cases h8 : es[i]? with
     | none => simp [h8] at h6
     | some c0 => simp [h8] at h6; subst h6; exact vk _ _ (h5 i c0 u h8 h7)
    | map es =>
     obtain ⟨r, E, clk, rfl, h3, h4, h5, h6⟩ := hB
     refine ⟨r, E, clk, rfl, h3, by simpa using h4, fun i p m h7 h8 => ?_, h6⟩
     rw [List.getElem?_map] at h7
     cases h9 : es[i]? with
     | none => simp [h9] at h7
     | some p0 => simp [h9] at h7; subst h7; exact ⟨vk _ _ (h5 i p0 m h9 h8).1, vk _ _ (h5 i p0 m h9 h8).2⟩
    | mapx r0 bs0 clk0 es =>
     obtain ⟨E, rfl, h3, h4, h5, h6⟩ := hB
     refine ⟨E, rfl, h3, by simpa using h4, fun i p m h7 h8 => ?_, h6⟩
     rw [List.getElem?_map] at h7
     cases h9 : es[i]? with
     | none => simp [h9] at h7
     | some p0 => simp [h9] at h7; subst h7; exact ⟨vk _ _ (h5 i p0 m h9 h8).1, vk _ _ (h5 i p0 m h9 h8).2⟩
    | rowx hv el2 k2 n2 ds2 => exact hB.viaX (fun c u h => h.ext he.mem he.free) fun _ _ => rfl
    | it o => exact hB
 ·intro j u hj
  obtain ⟨h1, h2⟩ := hs j u hj
  obtain ⟨b, hb⟩ := R.heap.dom j u h2
  exact ⟨fzB id _ b, by rw [zei, if_neg h1, hb]; rfl⟩
 ·intro t c ht
  rw [zgV] at ht
  cases hl2 : look e t with
  | none => simp [hl2] at ht
  | some c0 =>
   simp [hl2] at ht
   subst ht
   obtain ⟨u, hu, hv2⟩ := R.env t c0 hl2
   exact ⟨u, hu, vk _ _ hv2⟩
end
section
variable {P : Program} {nt : Nat} {Q : Post} {e : Env} {h : Heap} {ops : Array Oper} {T : List Nat} {fuel i : Nat} {listed : Array Bool} {o : Oper} {tab : TTab}
theorem ziW {t el k len d : Nat} {ps : Array (Nat × Operand)} {al : List (Nat × AVal)} {xs : List AVal} {ds : List Dat} (TO : TabOk P tab) (hi : ops[i]? = some o) (hw : awant ops e o = some true) (hdst : o.dst = some d) (hd : Nat.blt d nt = true) (hid : Nat.blt d 1000 = true) (ho : o.op = .buildSlice t len ps)
  (hel : telem tab t = some el) (hsz : tsize tab el = some k) (hok : (match tlook tab el with | some te => te.zero.all (·.oneCell') && Nat.blt 0 te.size && Nat.beq te.zero.length te.size && Nat.blt (len * te.size) 16777216 && Nat.blt 0 len | none => false) = true)
  (hal : aparts e ps.toList = some al) (hf : (match tlook tab el with
   | some te => afill (fun i => some (i * te.size, te.size)) ((List.range (len * te.size)).map fun j => match te.zero[j % te.size]? with | some v => .d (.sc v) | none => .top) al
   | none => none) = some xs) (hds : datsA xs = some ds)
  (HK : AAny P nt ops Q T fuel (listed.setIfInBounds i true) ((d, .row d) :: killE d e) ((d, .row el k len ds) :: killH d h)) : AAt P nt ops Q T fuel listed i e h := by
 obtain ⟨te, h1, h2⟩ := zJ hel
 obtain ⟨te', h3, rfl⟩ := zI hsz
 rw [h3] at hok hf
 simp only [Bool.and_eq_true] at hok
 exact zbf hi hw (zck TO ho hdst h1 h2 h3 hok.1.1.1.1 hok.1.1.1.2 hok.1.1.2 hok.1.2 hok.2 hal hf (zbV hds) hid hd) fun e' h' ⟨h1, h2⟩ => by subst h1 h2; exact HK
end
end Go.Proofs.YtoahnbmedcjpeaaGreatDoor.Ab

namespace Go.Proofs.YtoahnbmedcjpeaaGreatDoor.Ab
open Go.RowKit
def tbytes (tab : TTab) (t : Nat) : Option Nat := match tlook tab t with
 | some ⟨_, b, _, _, _⟩ => some b
 | none => none
theorem zd1 {tab : TTab} {t s : Nat} {te : TE} (h : tbytes tab t = some s) (h2 : tlook tab t = some te) : te.bytes = s := by
 unfold tbytes at h; rw [h2] at h; cases h; rfl
theorem ziM {n b : Nat} (hb0 : Nat.blt 0 b = true) (hB : n * b ≤ 140737488355328) : n ≤ maxLen := by
 have hb0 : 0 < b := by simp [Nat.blt] at hb0; omega
 have := Nat.le_mul_of_pos_right n hb0
 unfold maxLen; omega
section
variable {P : Program} {nt : Nat} {Q : Post} {K : Env → Heap → Prop} {e : Env} {h : Heap} {ops : Array Oper} {o : Oper} {rest : List Oper} {T : List Nat} {tab : TTab} {fuel i : Nat} {listed : Array Bool}
theorem zO {t el k b rid n m d : Nat} {x y : Operand} {cy : AVal} {cs ds : List Dat} (TO : TabOk P tab) (hw : awant ops e o = some true) (hdst : o.dst = some d) (hd : Nat.blt d nt = true) (ho : o.op = .call { callee := .builtin .append, args := #[x, y], argTypes := #[t, t] })
  (hel : telem tab t = some el) (hsz : tsize tab el = some k) (hbt : tbytes tab el = some b) (hok : (match tlook tab el with | some te => Nat.blt 0 te.size && Nat.beq te.zero.length te.size && Nat.blt 0 te.bytes | none => false) = true)
  (hx : aev e x = some (.row rid)) (hb : look h rid = some (.row el k n cs)) (hid : Nat.blt rid 1000 = true) (hy : aev e y = some cy) (S : Src h cy m ds) (hl : ds.length = m * k) (hB : (n + m) * b ≤ 140737488355328)
  (HK : AOps P nt ops Q rest ((d, .row rid) :: killE rid e) ((rid, .row el k (n + m) (cs ++ ds)) :: killH rid h)) : AOps P nt ops Q (o :: rest) e h := by
 obtain ⟨te, h1, h2⟩ := zJ hel
 obtain ⟨te', h3, rfl⟩ := zI hsz
 have h4 := zd1 hbt h3
 rw [h3] at hok
 simp only [Bool.and_eq_true] at hok
 exact zax (T := [rid]) hw (zgu TO ho hdst h1 h2 h3 hok.1.1 hok.1.2 hx hy (.row hb) S hl (ziM hok.2 (by rw [h4]; exact hB)) (by rw [h4]; exact hB) hid hd (by simp)) fun e' h' ⟨h1, h2⟩ => by subst h1 h2; exact HK
theorem zdw {e' : Env} {h' : Heap} (hk : AWkS nt e h e' h') (H : AAny P nt ops Q T fuel listed e' h') : AAny P nt ops Q T fuel listed e h := fun Pm F w0 pin ι a w R => by
 obtain ⟨ι', hs, R'⟩ := hk Pm F w0 pin ι a w R
 refine zbh (fun w2 h2 => ?_) _ _ _ _ (H Pm F w0 pin ι' a w R')
 exact ⟨h2.os, h2.tape, h2.output, h2.size, fun r hr hn => h2.mem r hr fun j hj v hv => hn j hj v (hs j v hv)⟩
theorem ziT {e1 : Env} {h1 : Heap} (he : Sub e1 e) (hh : Sub h1 h) : AWkS nt e h e1 h1 := fun Pm F w0 pin ι a w R =>
 ⟨only h1 ι, fun j u hj => zag hj, R.heap.only fun id b hb => hh.look hb, fun t c ht => let ⟨u, hu, hv⟩ := R.env t c (he.look ht); ⟨u, hu, hv.only h1⟩, R.defers.ext (zb4 w F h1 ι), R.size⟩
def ptReady (ops : Array Oper) (listed : Array Bool) (i : Nat) : Bool := Nat.blt i ops.size && !listed.getD i true && ((ops[i]?).map (·.after.all fun e => !Region.binds .any e || listed.getD e.on false)).getD false
def freeB (ops : Array Oper) (i : Nat) : Bool := match ops[i]? with
 | none => false
 | some oi => (List.range ops.size).all fun j => j == i || oi.after.any (fun e => Region.binds .any e && e.on == j) || match ops[j]? with
   | some oj => oj.after.any (fun e => Region.binds .any e && e.on == i) || oi.apart ops oj
   | none => true
theorem zeK {l2 : Array Bool} (hl : listed = l2) (H : AAny P nt ops Q T fuel l2 e h) : AAny P nt ops Q T fuel listed e h := by subst hl; exact H
end
end Go.Proofs.YtoahnbmedcjpeaaGreatDoor.Ab

namespace Go.Proofs.YtoahnbmedcjpeaaGreatDoor
open Go.RowKit Go.Sort

theorem zij {k : IntKind} {a b : Int} (h : a = b) : Ending.returned (.int k a) = .returned (.int k b) := by rw [h]
def Ret (w : World) (v : Value) (e : Ending) (w' : World) : Prop := e = .returned v ∧ Below w.heap.size w w'
def RetS (w : World) (v : Value) (e : Ending) (w' : World) : Prop := e = .returned v ∧ w = w'

section
variable {P : Program} {f : FuncId} {args : Array Value} {w w' w1 : World} {v : Value}
theorem Ret.of_same (h : Calls P f args w (RetS w v)) : Calls P f args w (Ret w v) :=
 h.mono fun _ _ ⟨he, hw⟩ => ⟨he, hw ▸ Below.refl _ _⟩
theorem Ret.q {d : Nat} {os : Array Obj} (h : ∀ W, Below w.heap.size w W → Calls P f args W (Ret W v)) :
  Calls P f args (grow (redrawn w d) os) fun e w'' => e = .returned v ∧ ∃ p : Regrown, w'' = grow (redrawn w p.d) p.os :=
 Calls.regrown_of (h _ (below_regrown w d os))
theorem RetS.q {d : Nat} {os : Array Obj} (h : ∀ W, Below w.heap.size w W → Calls P f args W (RetS W v)) :
  Calls P f args (grow (redrawn w d) os) fun e w'' => e = .returned v ∧ ∃ p : Regrown, w'' = grow (redrawn w p.d) p.os :=
 Calls.regrown_of (Ret.of_same (h _ (below_regrown w d os)))
theorem RetS.d {n : Nat} (h : Calls P f args (w.drewN n) (RetS (w.drewN n) v)) : Calls P f args (w.drewN n) fun e w'' => e = .returned v ∧ ∃ m, w'' = w.drewN m :=
 h.mono fun _ _ ⟨he, hm⟩ => ⟨he, n, hm.symm⟩
theorem RetS.dd {a n : Nat} (h : Calls P f args (w.drewN (a + n)) (RetS (w.drewN (a + n)) v)) : Calls P f args (w.drewN (a + n)) fun e w'' => e = .returned v ∧ ∃ m, w'' = w.drewN (a + m) :=
 h.mono fun _ _ ⟨he, hm⟩ => ⟨he, n, hm.symm⟩

theorem zcB {B : Nat} {a w : World} (h : Below B a w) (n : Nat) : Below B a (w.drewN n) := ⟨h.os, h.tape, h.output, h.size, h.block⟩
theorem kc {w w1 : World} (hb : Below w.heap.size w w1) {a : Addr} {v : Value} (h : w.cell? a = some v) : w1.cell? a = some v := by
 rw [hb.cell (block_lt_of_cell h)]; exact h
def Kn (w : World) (b o : Nat) (v : Value) : Prop := w.cell? ⟨b, o, none⟩ = some v ∧ w.frozen? ⟨b, o, none⟩ = false
theorem Kn.lt {b o : Nat} (h : Kn w b o v) : b < w.heap.size := block_lt_of_cell h.1
theorem Kn.keep {b o : Nat} (h : Kn w b o v) (hb : Below w.heap.size w w1) : Kn w1 b o v := ⟨kc hb h.1, (hb.frozen (p := ⟨b, o, none⟩) h.lt).trans h.2⟩
theorem Kn.cell {b o : Nat} (h : Kn w b o v) : w.cell? ⟨b, o, none⟩ = some v := h.1
theorem Kn.free {b o : Nat} (h : Kn w b o v) : w.frozen? ⟨b, o, none⟩ = false := h.2
theorem Kn.new {cs : Array Value} {t : TypeId} {j : Nat} {u : Value} (h : cs[j]? = some u) : Kn (w.alloc (.cells cs t)) w.heap.size j u := by
 constructor
 ·simp [World.cell?_alloc_at, h]
 ·simp
theorem Kn.alloc {b o : Nat} (h : Kn w b o v) (x : Obj) : Kn (w.alloc x) b o v := by
 have hl := h.lt
 exact ⟨(World.cell?_alloc_lt w x ⟨b, o, none⟩ hl).trans h.1, (World.frozen?_alloc_old w x ⟨b, o, none⟩ (Nat.ne_of_lt hl)).trans h.2⟩
end

end Go.Proofs.YtoahnbmedcjpeaaGreatDoor

namespace Go.Proofs.YtoahnbmedcjpeaaGreatDoor
open Go.ChangeShapes Go.WideShapes Go.ChangeAt Go.RowKit
set_option maxRecDepth 100000

theorem own_ : ownKnob Tryz.prog.godebug = none := by kernel_rfl
theorem zjg : laidOutB Tryz.prog = true := by kernel_rfl

theorem zbN {H : Type} {enc : TypeId × Value → H} {P : Program} (hl : laidOutB P = true) {W W' : World} (hb : Below W.heap.size W W') :
  ∀ (ts : List TypeId) (vs : List Value) (ds : List (DataW H)) (ps : List MemPlace), (∀ t ∈ ts, P.readableRec t = true ∧ t < P.types.size) → (∀ x ∈ ps, x.block < W.heap.size) →
   DataW.TrodAll enc P W 0 (fun _ => true) true ts vs ds ps → DataW.TrodAll enc P W' 0 (fun b => decide (b < W.heap.size)) true ts vs ds ps
 | [], vs, ds, ps, _, _, h => by
  obtain ⟨rfl, rfl, rfl⟩ := trodAll_nil h
  exact trodAll_mk0
 | t :: ts, vs, ds, ps, hr, hlt, h => by
  obtain ⟨v, vs', d, ds', p, q, rfl, rfl, rfl, h1, h2⟩ := trodAll_cons h
  have hr0 := hr t (by simp)
  exact ⟨p, q, Below.trod hl hr0.1 hr0.2 h1 hb (fun x hx => hlt x (by simp [hx])), zbN hl hb ts vs' ds' q (fun t' h' => hr t' (by simp [h'])) (fun x hx => hlt x (by simp [hx])) h2, rfl⟩

theorem zgY {H : Type} {enc : TypeId × Value → H} {P : Program} {f : Func} {s : ChangeSpec} {W W' : World} {args : Array Value} {ds gs : List (DataW H)} {before : List MemPlace} {tb : TypeId}
  (hrt : f.resultTypes = #[tb]) (hub : P.underlying tb = some .bool) (hv : s.vars = []) (hres : (s.fn H (ds ++ gs)).results = [.lit (.bool true)]) (hargs : (s.fn H (ds ++ gs)).args = ds) (hvs : (s.fn H (ds ++ gs)).vars = [])
  (hl : laidOutB P = true) (hr : ∀ t ∈ f.params.toList, P.readableRec t = true ∧ t < P.types.size)
  (hW : DataW.Whole enc P f.params.toList s.vars false W args.toList ds gs before) (hb : Below W.heap.size W W') : s.post enc P f false true false false W args (.bool true) W' := by
 have hlt := hW.lt
 obtain ⟨p, q, hA, hV, hps, hfz, hnd⟩ := id hW
 rw [hv] at hV
 obtain ⟨hg, hq⟩ := trodVars_none hV
 subst hq
 rw [List.append_nil] at hps
 subst hps
 refine ⟨ds, gs, before, [], before, [], hW, ?_, ?_, ?_, hb.frame _, fun h => by cases h⟩
 ·rw [hres, hrt]
  exact trodAll_mk1 ⟨1, by simp [DataW.trod, hub, Value.cells]⟩
 ·rw [hargs]
  exact zbN hl hb _ _ _ _ hr hlt hA
 ·rw [hv, hvs]; exact rfl

def Walked (k : FuncId) (params : List TypeId) : Prop :=
 ∀ (H : Type) (enc : TypeId × Value → H) (W : World) (args : Array Value) (ds : List (DataW H)) (ps : List MemPlace), (∀ (j : Nat) t v, params[j]? = some t → args[j]? = some v → ∃ base, Value.okWide Tryz.prog W .any base t v) →
  DataW.TrodAll enc Tryz.prog W 0 (fun _ => true) true params args.toList ds ps → (DataW.weightsEach Tryz.prog params ds).all (· ≤ reachBytes) = true → Calls Tryz.prog k args W (Ret W (.bool true))

section
variable {H : Type} {enc : TypeId × Value → H} {P : Program} {w : World} {base : Nat} {spare : Nat → Bool} {held : Bool} {fuel : Nat}
end
end Go.Proofs.YtoahnbmedcjpeaaGreatDoor

namespace Go.Proofs.YtoahnbmedcjpeaaGreatDoor.Ab
open Go.RowKit Go.ChangeShapes Go.WideShapes Go.ChangeAt
inductive Shp where
 | it (k : IntKind)
 | bo
 | st
 | sl (fs : List Shp) (b : Nat)
inductive ShD : Shp → Dat → Prop where
 | it (k : IntKind) (x : Int) (h : k.min ≤ x ∧ x ≤ k.max) : ShD (.it k) (.sc (.int k x))
 | bo (b : Bool) : ShD .bo (.sc (.bool b))
 | st (l : List UInt8) : ShD .st (.sc (.string ⟨⟨l⟩⟩))
 | sl (fs : List Shp) (b : Nat) (ls : List (List Dat)) (hb : ls.length * b ≤ 140737488351232) (hl : ∀ l ∈ ls, l.length = fs.length) (h : ∀ l ∈ ls, ∀ (i : Nat) (s : Shp) (d : Dat), fs[i]? = some s → l[i]? = some d → ShD s d) : ShD (.sl fs b) (.sl ls.flatten ls.length)
def Fits (fs : List Shp) (l : List Dat) : Prop := l.length = fs.length ∧ ∀ (i : Nat) (s : Shp) (d : Dat), fs[i]? = some s → l[i]? = some d → ShD s d
theorem zcA {a b : List Shp} {l m : List Dat} (h1 : Fits a l) (h2 : Fits b m) : Fits (a ++ b) (l ++ m) := by
 refine ⟨by simp [h1.1, h2.1], fun i s d e1 e2 => ?_⟩
 rw [List.getElem?_append] at e1 e2
 rw [h1.1] at e2
 split at e1
 ·rename_i hi; rw [if_pos hi] at e2; exact h1.2 i s d e1 e2
 ·rename_i hi; rw [if_neg hi] at e2; exact h2.2 _ s d e1 e2
def shpF (g : TypeId → Option (List Shp)) : List (Nat × TypeId) → List Shp → Option (List Shp)
 | [], acc => some acc
 | (off, t) :: r, acc => match g t with
  | some s => cond (Nat.beq off acc.length) (shpF g r (acc ++ s)) none
  | none => none
def shp (tab : TTab) : Nat → TypeId → Option (List Shp)
 | 0, _ => none
 | n + 1, t => match tlook tab t with
  | some te => match te.sh with
   | .it k => cond (Nat.beq te.size 1) (some [.it k]) none
   | .bo => cond (Nat.beq te.size 1) (some [.bo]) none
   | .str => cond (Nat.beq te.size 1) (some [.st]) none
   | .sl e => match tbytes tab e with
    | some b => match shp tab n e with
     | some (s :: fs) => cond (Nat.beq te.size 1) (some [.sl (s :: fs) b]) none
     | _ => none
    | none => none
   | .st fs => match shpF (shp tab n) fs [] with
    | some l => cond (Nat.beq l.length te.size) (some l) none
    | none => none
   | _ => none
  | none => none
section
variable {H : Type} {enc : TypeId × Value → H} {P : Program} {W : World} {tab : TTab}
def CellsAre (W : World) (Fr : Nat → Prop) (fs : List Shp) (cs : List Value) : Prop := ∃ ds : List Dat, Fits fs ds ∧ cs.length = ds.length ∧ ∀ (i : Nat) (d : Dat) (u : Value), ds[i]? = some d → cs[i]? = some u → DRel W Fr d u
theorem CellsAre.append {Fr : Nat → Prop} {a b : List Shp} {l m : List Value} (h1 : CellsAre W Fr a l) (h2 : CellsAre W Fr b m) : CellsAre W Fr (a ++ b) (l ++ m) := by
 obtain ⟨d1, f1, l1, r1⟩ := h1
 obtain ⟨d2, f2, l2, r2⟩ := h2
 refine ⟨d1 ++ d2, zcA f1 f2, by simp [l1, l2], fun i d u e1 e2 => ?_⟩
 rw [List.getElem?_append] at e1 e2
 rw [l1] at e2
 split at e1
 ·rename_i hi; rw [if_pos hi] at e2; exact r1 i d u e1 e2
 ·rename_i hi; rw [if_neg hi] at e2; exact r2 _ d u e1 e2
theorem CellsAre.one {Fr : Nat → Prop} {s : Shp} {v : Value} {d : Dat} (h1 : ShD s d) (h2 : DRel W Fr d v) : CellsAre W Fr [s] [v] := by
 refine ⟨[d], ⟨rfl, fun i s' d' e1 e2 => ?_⟩, rfl, fun i d' u e1 e2 => ?_⟩
 ·match i with
  | 0 => simp at e1 e2; subst e1 e2; exact h1
  | i + 1 => simp at e1
 ·match i with
  | 0 => simp at e1 e2; subst e1 e2; exact h2
  | i + 1 => simp at e1
end
end Go.Proofs.YtoahnbmedcjpeaaGreatDoor.Ab

namespace Go.Proofs.YtoahnbmedcjpeaaGreatDoor.Ab
open Go.RowKit

def eqV : Value → Value → Option Bool
 | .int k a, .int k' b => if k = k' then some (a == b) else none
 | .bool a, .bool b => some (a == b)
 | .string a, .string b => some (a.toList == b.toList)
 | _, _ => none
def eqCells : List Value → List Value → Option Bool
 | [], [] => some true
 | a :: x, b :: y => match eqV a b, eqCells x y with
  | some p, some q => some (p && q)
  | _, _ => none
 | _, _ => none
def leafsF (g : TypeId → Option (List Sh)) : List (Nat × TypeId) → List Sh → Option (List Sh)
 | [], acc => some acc
 | f :: r, acc => match g f.2 with
  | some m => cond (Nat.beq acc.length f.1) (leafsF g r (acc ++ m)) none
  | none => none
def leafs (tab : TTab) : Nat → TypeId → Option (List Sh)
 | 0, _ => none
 | n + 1, t => match tlook tab t with
  | none => none
  | some te => match (match te.sh with
   | .it k => some [Sh.it k]
   | .bo => some [Sh.bo]
   | .str => some [Sh.str]
   | .st fs => leafsF (leafs tab n) fs []
   | _ => none) with
   | some ks => cond (Nat.beq te.size ks.length) (some ks) none
   | none => none
def leafOk : Sh → Value → Bool
 | .it _, .int _ _ => true
 | .bo, .bool _ => true
 | .str, .string _ => true
 | _, _ => false
def leafsOk : List Sh → List Value → Bool
 | [], [] => true
 | s :: r, v :: l => leafOk s v && leafsOk r l
 | _, _ => false
theorem zcy {ks : List Sh} {xs : List Value} (h : leafsOk ks xs = true) : xs.length = ks.length := by
 induction ks generalizing xs with
 | nil => cases xs with
  | nil => rfl
  | cons _ _ => cases h
 | cons k r ih => cases xs with
  | nil => cases h
  | cons x l => simp only [leafsOk, Bool.and_eq_true] at h; simp [ih h.2]
theorem zau {s : Sh} {xs : List Value} (h : leafsOk [s] xs = true) : ∃ v, xs = [v] ∧ leafOk s v = true := by
 cases xs with
 | nil => cases h
 | cons v r =>
  simp only [leafsOk, Bool.and_eq_true] at h
  cases r with
  | nil => exact ⟨v, rfl, h.1⟩
  | cons _ _ => exact absurd h.2 (by simp [leafsOk])
theorem zem {k : IntKind} {v : Value} (h : leafOk (.it k) v = true) : ∃ q n, v = .int q n := by cases v <;> first | exact ⟨_, _, rfl⟩ | cases h
theorem zds {v : Value} (h : leafOk .bo v = true) : ∃ b, v = .bool b := by cases v <;> first | exact ⟨_, rfl⟩ | cases h
theorem zel {v : Value} (h : leafOk .str v = true) : ∃ b, v = .string b := by cases v <;> first | exact ⟨_, rfl⟩ | cases h
theorem zbr {a b : List Sh} {xs : List Value} (h : leafsOk (a ++ b) xs = true) : leafsOk a (xs.take a.length) = true ∧ leafsOk b (xs.drop a.length) = true := by
 induction a generalizing xs with
 | nil => exact ⟨rfl, h⟩
 | cons k r ih => cases xs with
  | nil => cases h
  | cons x l =>
   simp only [List.cons_append, leafsOk, Bool.and_eq_true] at h
   obtain ⟨h1, h2⟩ := ih h.2
   exact ⟨by simp [leafsOk, h.1, h1], by simpa using h2⟩
theorem zc7 {a b x y : List Value} (hl : a.length = b.length) : eqCells (a ++ x) (b ++ y) = match eqCells a b, eqCells x y with
  | some p, some q => some (p && q)
  | _, _ => none := by
 induction a generalizing b with
 | nil => cases b with
  | nil => simp [eqCells]; cases eqCells x y <;> rfl
  | cons _ _ => simp at hl
 | cons u r ih => cases b with
  | nil => simp at hl
  | cons v s =>
   have := ih (b := s) (by simpa using hl)
   simp only [List.cons_append, eqCells, this]
   cases eqV u v <;> cases eqCells r s <;> cases eqCells x y <;> simp [Bool.and_assoc]

section
variable {P : Program} {tab : TTab} {T : List Nat} {e : Env} {h : Heap} {o : Oper}
def ofCells (ag : Bool) (xs : List Value) : Value := match ag, xs with
 | true, xs => .agg xs.toArray
 | false, v :: _ => v
 | false, [] => undef
theorem zbT (TO : TabOk P tab) {n : Nat} {t : TypeId} {ks : List Sh} (hk : leafs tab (n + 1) t = some ks) : ∃ te, tlook tab t = some te ∧ te.size = ks.length ∧
    ((te.agg = true ∧ ∃ fs F, te.sh = .st fs ∧ leafsF (leafs tab n) fs [] = some ks ∧ P.underlying t = some (.struct F) ∧ F.toList.map (fun f => (f.offset, f.type)) = fs ∧ F.toList.all (fun f => f.name != "_") = true) ∨
     (te.agg = false ∧ ((∃ k, ks = [.it k] ∧ P.underlying t = some (.int k)) ∨ (ks = [.bo] ∧ P.underlying t = some .bool) ∨ (ks = [.str] ∧ P.underlying t = some .string)))) := by
  rw [leafs] at hk
  cases hl : tlook tab t with
  | none => rw [hl] at hk; cases hk
  | some te =>
    rw [hl] at hk
    simp only at hk
    obtain ⟨d, hd, ha, hs⟩ := (TO t te hl).und
    refine ⟨te, rfl, ?_⟩
    split at hk
    · rename_i ks' hm
      cases hb : Nat.beq te.size ks'.length with
      | false => rw [hb] at hk; cases hk
      | true =>
        rw [hb] at hk
        cases hk
        refine ⟨Nat.eq_of_beq_eq_true hb, ?_⟩
        split at hm
        · rename_i k hsh; rw [hsh] at hs; cases hs; cases hm; exact .inr ⟨ha.symm, .inl ⟨k, rfl, hd⟩⟩
        · rename_i hsh; rw [hsh] at hs; cases hs; cases hm; exact .inr ⟨ha.symm, .inr (.inl ⟨rfl, hd⟩)⟩
        · rename_i hsh; rw [hsh] at hs; cases hs; cases hm; exact .inr ⟨ha.symm, .inr (.inr ⟨rfl, hd⟩)⟩
        · rename_i fs hsh; rw [hsh] at hs; obtain ⟨F, rfl, h1, h2⟩ := hs; exact .inl ⟨ha.symm, fs, F, hsh, hm, hd, h1, h2⟩
        · cases hm
    · cases hk
theorem zd6 {t : TypeId} {te : TE} (w : World) (Fa : TFacts P t te) (C : Array Value) (off : Nat) (hl : off + te.size ≤ C.size) (h1 : te.agg = false → te.size = 1) : (part t C off).run P w = .ok (ofCells te.agg (win C.toList off te.size)) w := by
 unfold part
 rw [Sem.run_bind, Fa.run_agg, Result.andThen_ok]
 cases ha : te.agg with
 | true =>
  simp only [if_true, Sem.run_bind, Fa.size, Result.andThen_ok]
  have e1 : C.extract off (off + te.size) = (win C.toList off te.size).toArray := by
   apply Array.ext'
   simp [win, Array.toList_extract]
  rw [e1]; rfl
 | false =>
  have h2 := h1 ha
  have hlt : off < C.size := by omega
  simp only [Bool.false_eq_true, if_false]
  rw [Array.getElem?_eq_getElem hlt]
  have : win C.toList off te.size = [C[off]] := by
   unfold win
   rw [h2, List.drop_eq_getElem_cons (by simpa using hlt)]
   simp
  rw [this]; rfl
theorem zd8 (TO : TabOk P tab) (hst : ∀ t, (tlook tab t).isSome = true → P.stoodInHeld t = false) : ∀ (n : Nat) (t : TypeId) (ks : List Sh) (xs ys : List Value) (r : Bool) (d : Nat) (te : TE) (w : World), leafs tab n t = some ks → tlook tab t = some te → leafsOk ks xs = true → leafsOk ks ys = true → eqCells xs ys = some r → n ≤ d →
  (Op.equalIn (d + 1) t (ofCells te.agg xs) (ofCells te.agg ys)).run P w = .ok r w := by
 intro n
 induction n with
 | zero => intro t ks xs ys r d te w hk; cases hk
 | succ n ih =>
  intro t ks xs ys r d te w hk ht hx hy hr hd
  obtain ⟨te0, h0, hsz, hcase⟩ := zbT TO hk
  rw [ht] at h0; cases h0
  rcases hcase with ⟨ha, fs, F, hsh, hF, hu, hfs, hnm⟩ | ⟨ha, hcase⟩
  ·have hfo : P.fieldsOf t = F := by simp [Program.fieldsOf, hu]
   rw [ha]
   show (Op.equalIn (d + 1) t (.agg xs.toArray) (.agg ys.toArray)).run P w = _
   rw [run_equalIn_struct w d t xs.toArray ys.toArray (by rw [hfo]; exact hu) (hst t (by rw [ht]; rfl)), hfo]
   have hlx := zcy hx
   have hly := zcy hy
   have key : ∀ (FL : List Field) (acc : List Sh) (r : Bool), leafsF (leafs tab n) (FL.map fun f => (f.offset, f.type)) acc = some ks → FL.all (fun f => f.name != "_") = true → eqCells (xs.drop acc.length) (ys.drop acc.length) = some r → leafsOk (ks.drop acc.length) (xs.drop acc.length) = true → leafsOk (ks.drop acc.length) (ys.drop acc.length) = true →
     acc.length ≤ ks.length → (Op.eqFields d xs.toArray ys.toArray FL).run P w = .ok r w := by
    intro FL
    induction FL with
    | nil =>
     intro acc r h1 _ h2 _ _ _
     cases h1
     rw [List.drop_eq_nil_of_le (by omega), List.drop_eq_nil_of_le (by omega)] at h2
     cases h2
     rfl
    | cons f FL ihF =>
     intro acc r h1 h2 h3 h4 h5 h6
     simp only [List.all_cons, Bool.and_eq_true] at h2
     rw [List.map_cons, leafsF] at h1
     cases hm : leafs tab n f.type with
     | none => rw [hm] at h1; cases h1
     | some m =>
      rw [hm] at h1
      simp only at h1
      cases hb : Nat.beq acc.length f.offset with
      | false => rw [hb] at h1; cases h1
      | true =>
       rw [hb, cond_true] at h1
       have hoff := Nat.eq_of_beq_eq_true hb
       have hpre : ∀ (fl : List (Nat × TypeId)) (acc ks : List Sh), leafsF (leafs tab n) fl acc = some ks → ∃ s, ks = acc ++ s := by
        intro fl
        induction fl with
        | nil => intro acc ks h; cases h; exact ⟨[], by simp⟩
        | cons g fl ihg =>
         intro acc ks h
         rw [leafsF] at h
         cases hg : leafs tab n g.2 with
         | none => rw [hg] at h; cases h
         | some m' =>
          rw [hg] at h
          simp only at h
          cases hb' : Nat.beq acc.length g.1 with
          | false => rw [hb'] at h; cases h
          | true =>
           rw [hb', cond_true] at h
           obtain ⟨s, hs⟩ := ihg _ _ h
           exact ⟨m' ++ s, by rw [hs, List.append_assoc]⟩
       obtain ⟨s, hs⟩ := hpre _ _ _ h1
       have hle : acc.length + m.length ≤ ks.length := by rw [hs]; simp
       cases n with
       | zero => cases hm
       | succ n' =>
       obtain ⟨te', h7, h8, _⟩ := zbT TO hm
       have h9 : te'.agg = false → te'.size = 1 := by
        obtain ⟨te2, g1, g2, g3⟩ := zbT TO hm
        rw [h7] at g1; cases g1
        intro hag
        rcases g3 with ⟨g4, _⟩ | ⟨_, ⟨k, g5, _⟩ | ⟨g5, _⟩ | ⟨g5, _⟩⟩
        ·rw [hag] at g4; cases g4
        all_goals rw [g2, g5]; rfl
       have hks : ks.drop acc.length = m ++ s := by rw [hs, List.append_assoc]; simp
       rw [hks] at h4 h5
       obtain ⟨h4a, h4b⟩ := zbr h4
       obtain ⟨h5a, h5b⟩ := zbr h5
       have ex : xs.drop acc.length = win xs f.offset te'.size ++ xs.drop (acc ++ m).length := by
        unfold win; rw [← hoff, h8, List.length_append, ← List.drop_drop, List.take_append_drop]
       have ey : ys.drop acc.length = win ys f.offset te'.size ++ ys.drop (acc ++ m).length := by
        unfold win; rw [← hoff, h8, List.length_append, ← List.drop_drop, List.take_append_drop]
       have hwx : (win xs f.offset te'.size).length = m.length := by unfold win; simp; omega
       have hwy : (win ys f.offset te'.size).length = m.length := by unfold win; simp; omega
       rw [ex, ey, zc7 (by omega)] at h3
       cases hp : eqCells (win xs f.offset te'.size) (win ys f.offset te'.size) with
       | none => rw [hp] at h3; cases h3
       | some p =>
        cases hq : eqCells (xs.drop (acc ++ m).length) (ys.drop (acc ++ m).length) with
        | none => rw [hp, hq] at h3; cases h3
        | some q =>
         rw [hp, hq] at h3
         cases h3
         have wx : win xs f.offset te'.size = (xs.drop acc.length).take m.length := by unfold win; rw [← hoff, h8]
         have wy : win ys f.offset te'.size = (ys.drop acc.length).take m.length := by unfold win; rw [← hoff, h8]
         have hrun := ih f.type m (win xs f.offset te'.size) (win ys f.offset te'.size) p (d - 1) te' w hm h7 (by rw [wx]; exact h4a) (by rw [wy]; exact h5a) hp (by omega)
         rw [show d - 1 + 1 = d by omega] at hrun
         have hpa := zd6 (P := P) w (TO _ _ h7) xs.toArray f.offset (by simp; omega) h9
         have hpb := zd6 (P := P) w (TO _ _ h7) ys.toArray f.offset (by simp; omega) h9
         have hnext := ihF (acc ++ m) q h1 h2.2 hq (by
          have : ks.drop (acc ++ m).length = s := by rw [hs]; simp
          rw [this]
          have e2 : xs.drop (acc ++ m).length = (xs.drop acc.length).drop m.length := by rw [List.drop_drop, List.length_append]
          rw [e2]; exact h4b) (by
          have : ks.drop (acc ++ m).length = s := by rw [hs]; simp
          rw [this]
          have e2 : ys.drop (acc ++ m).length = (ys.drop acc.length).drop m.length := by rw [List.drop_drop, List.length_append]
          rw [e2]; exact h5b) (by simpa using hle)
         have hne : f.name ≠ "_" := by simpa using h2.1
         simp only [Op.eqFields, ne_eq, hne, not_false_eq_true, if_true, Sem.run_bind, hpa, hpb, Result.andThen_ok, hrun]
         cases p with
         | false => simp
         | true => simpa using hnext
   refine key F.toList [] r (by rw [hfs]; exact hF) hnm (by simpa using hr) (by simpa using hx) (by simpa using hy) (Nat.zero_le _)
  ·rw [ha]
   rcases hcase with ⟨k, rfl, hu⟩ | ⟨rfl, hu⟩ | ⟨rfl, hu⟩
   ·obtain ⟨x, rfl, hx1⟩ := zau hx
    obtain ⟨y, rfl, hy1⟩ := zau hy
    obtain ⟨k1, a, rfl⟩ := zem hx1
    obtain ⟨k2, b, rfl⟩ := zem hy1
    have hr' : (match eqV (.int k1 a) (.int k2 b) with | some p => some (p && true) | none => none) = some r := by
     simp only [eqCells] at hr; cases hq : eqV (.int k1 a) (.int k2 b) <;> rw [hq] at hr <;> exact hr
    simp only [eqV] at hr'
    by_cases hkk : k1 = k2
    ·subst hkk
     simp at hr'
     subst hr'
     exact run_equalIn_int w d t _ _ _ _ hu
    ·simp [hkk] at hr'
   ·obtain ⟨x, rfl, hx1⟩ := zau hx
    obtain ⟨y, rfl, hy1⟩ := zau hy
    obtain ⟨a, rfl⟩ := zds hx1
    obtain ⟨b, rfl⟩ := zds hy1
    simp [eqCells, eqV] at hr
    subst hr
    exact run_equalIn_bool' w d t _ _ hu
   ·obtain ⟨x, rfl, hx1⟩ := zau hx
    obtain ⟨y, rfl, hy1⟩ := zau hy
    obtain ⟨a, rfl⟩ := zel hx1
    obtain ⟨b, rfl⟩ := zel hy1
    simp [eqCells, eqV] at hr
    subst hr
    exact run_equalIn_string w d t _ _ hu
def scL : List AVal → Option (List Value)
 | [] => some []
 | .d (.sc v) :: r => match scL r with
  | some l => some (v :: l)
  | none => none
 | _ :: _ => none
theorem zd5 {w : World} {F : Nat → Prop} {ι : Nat → Option Value} {cs : List AVal} {xs : List Value} (h : scL cs = some xs) {C : Array Value} (hl : C.size = cs.length) (hr : ∀ (i : Nat) (c : AVal) (u : Value), cs[i]? = some c → C[i]? = some u → VRel w F ι c u) : C = xs.toArray := by
 have key : ∀ (cs : List AVal) (xs : List Value), scL cs = some xs → xs.length = cs.length ∧ ∀ (i : Nat) (v : Value), xs[i]? = some v → cs[i]? = some (.d (.sc v)) := by
  intro cs
  induction cs with
  | nil => intro xs h; cases h; exact ⟨rfl, by simp⟩
  | cons c r ih =>
   intro xs h
   have hv : ∃ v, c = .d (.sc v) := by
    cases c with
    | d x => cases x with
     | sc v => exact ⟨v, rfl⟩
     | sl _ _ => cases h
     | cut _ _ _ => cases h
    | _ => cases h
   obtain ⟨v, rfl⟩ := hv
   rw [scL] at h
   cases hr : scL r with
   | none => simp [hr] at h
   | some l =>
    simp [hr] at h
    subst h
    obtain ⟨h1, h2⟩ := ih l hr
    refine ⟨by simp [h1], fun i v' hi => ?_⟩
    cases i with
    | zero => simp at hi; subst hi; rfl
    | succ i => simpa using h2 i v' (by simpa using hi)
 obtain ⟨h1, h2⟩ := key cs xs h
 apply Array.ext
 ·simp [hl, h1]
 ·intro i hi hi2
  have hi3 : i < xs.length := by simpa using hi2
  exact (zL (hr i _ C[i] (h2 i xs[i] (List.getElem?_eq_getElem hi3)) (Array.getElem?_eq_getElem hi))).1
theorem Y_eq {op : BinOp} {t u : TypeId} {x y : Operand} {cs ds : List AVal} {xs ys : List Value} {ks : List Sh} {r r2 : Bool} (TO : TabOk P tab) (hst : ∀ t, (tlook tab t).isSome = true → P.stoodInHeld t = false) (ho : o.op = .binOp op t x y u) (hx : aev e x = some (.agg cs)) (hy : aev e y = some (.agg ds))
  (h1 : scL cs = some xs) (h2 : scL ds = some ys) (hk : leafs tab 8 t = some ks) (hag : tagg tab t = some true) (hkx : leafsOk ks xs = true) (hky : leafsOk ks ys = true) (hg : P.eqGuardType P.depth t = false) (hr : eqCells xs ys = some r) (hop : (match op with | .eql => some r | .neq => some (!r) | _ => none) = some r2) :
  AYield P T e h o (.d (.sc (.bool r2))) := zE _ fun w F ι a E => by
 refine ⟨.bool r2, zQ rfl, fun w' => ?_⟩
 obtain ⟨te, h3, h4⟩ := za0 hag
 have hvx := zm E hx
 have hvy := zm E hy
 generalize hax : a.eval x = u at hvx
 generalize hay : a.eval y = v at hvy
 cases hvx with
 | agg _ C hl hrr =>
  cases hvy with
  | agg _ D hl2 hrr2 =>
   have e1 := zd5 h1 hl hrr
   have e2 := zd5 h2 hl2 hrr2
   subst e1 e2
   have hrun := zd8 TO hst 8 t ks xs ys r 9999 te w' hk h3 hkx hky hr (by omega)
   rw [h4] at hrun
   have hrun2 : (Op.equalIn 10000 t (.agg xs.toArray) (.agg ys.toArray)).run P w' = .ok r w' := hrun
   simp only [execOp, ho, hax, hay]
   cases op <;> simp only [Option.some.injEq, reduceCtorEq] at hop
   ·subst hop
    simp [run_eqGuard_agg w' .eql t x y _ _ hg, run_eql_struct, hrun2]
   ·subst hop
    simp [run_eqGuard_agg w' .neq t x y _ _ hg, run_neq_struct, hrun2]
end

mutual
def oneA : AVal → Bool
 | .d (.sc v) => v.oneCell'
 | .agg cs => oneL cs
 | .tup cs => oneL cs
 | _ => false
def oneL : List AVal → Bool
 | [] => true
 | c :: r => oneA c && oneL r
end
mutual
theorem zB (w : World) (F : Nat → Prop) (ι : Nat → Option Value) : (c : AVal) → (v : Value) → valA c = some v → oneA c = true → VRel w F ι c v
 | .d (.sc u), v, h, h1 => by cases h; exact zQ h1
 | .agg cs, v, h, h1 => by
  rw [valA] at h
  cases hc : valL cs with
  | none => rw [hc] at h; cases h
  | some l =>
   rw [hc] at h
   cases h
   obtain ⟨h2, h3⟩ := zdy w F ι cs l hc h1
   exact .agg cs _ (by simpa using h2) fun i c u hi hu => h3 i c u hi (by simpa using hu)
 | .tup cs, v, h, h1 => by
  rw [valA] at h
  cases hc : valL cs with
  | none => rw [hc] at h; cases h
  | some l =>
   rw [hc] at h
   cases h
   obtain ⟨h2, h3⟩ := zdy w F ι cs l hc h1
   exact .tup cs _ (by simpa using h2) fun i c u hi hu => h3 i c u hi (by simpa using hu)
 | .d (.sl _ _), _, h, _ => by cases h
 | .top, _, h, _ => by cases h
 | .und, _, h, _ => by cases h
 | .ptr _ _, _, h, _ => by cases h
 | .eptr _ _, _, h, _ => by cases h
 | .iptr _ _, _, h, _ => by cases h
 | .row _, _, h, _ => by cases h
 | .mp _, _, h, _ => by cases h
 | .fn _ _, _, h, _ => by cases h
theorem zdy (w : World) (F : Nat → Prop) (ι : Nat → Option Value) : (cs : List AVal) → (l : List Value) → valL cs = some l → oneL cs = true → l.length = cs.length ∧ ∀ (i : Nat) (c : AVal) (u : Value), cs[i]? = some c → l[i]? = some u → VRel w F ι c u
 | [], l, h, _ => by cases h; exact ⟨rfl, by simp⟩
 | c :: r, l, h, h1 => by
  rw [valL] at h
  simp only [oneL, Bool.and_eq_true] at h1
  cases hc : valA c with
  | none => simp [hc] at h
  | some v =>
   cases hr : valL r with
   | none => simp [hc, hr] at h
   | some l' =>
    simp [hc, hr] at h
    subst h
    obtain ⟨h2, h3⟩ := zdy w F ι r l' hr h1.2
    refine ⟨by simp [h2], fun i c' u hi hu => ?_⟩
    cases i with
    | zero => simp at hi hu; subst hi hu; exact zB w F ι c v hc h1.1
    | succ i => exact h3 i c' u (by simpa using hi) (by simpa using hu)
end
theorem zaP {P : Program} {f : FuncId} {cs : List AVal} {us : List Value} {c : AVal} {v : Value} (hg : isGo P f = true) (hu : valL cs = some us) (hv : valA c = some v) (h1 : oneA c = true)
  (H : ∀ w, Calls P f us.toArray w fun e w' => e = .returned v ∧ Below w.heap.size w w') : ACall P f cs [] (fun c' h' => c' = c ∧ h' = []) := ⟨hg, fun Pm F w0 pin ι xs w HH HA => by
 have hx : xs = us.toArray := by
  have h2 : VRel w F ι (.agg cs) (.agg xs) := .agg cs xs HA.1 HA.2
  have h3 : valA (.agg cs) = some (.agg us.toArray) := by rw [valA, hu]
  have h4 := zaa h2 h3
  injection h4
 subst hx
 refine (H w).mono ?_
 rintro e w' ⟨rfl, hb⟩
 exact ⟨v, c, [], ι, rfl, ⟨rfl, rfl⟩, HH.grew (Grew.of_below hb), zB _ _ _ c v hv h1⟩⟩
end Go.Proofs.YtoahnbmedcjpeaaGreatDoor.Ab

namespace Go.Proofs.YtoahnbmedcjpeaaGreatDoor.Ab
def tab : TTab := (.node 170 ⟨1, 8, false, [Value.nilFunc], .fu⟩ (.node 93 ⟨3, 32, true, [Value.bool false, Value.string ⟨#[]⟩, Value.int .u32 0], .st [(0, 4), (1, 9), (2, 36)]⟩ (.node 55 ⟨1, 8, false, [Value.nilFunc], .fu⟩ (.node 33 ⟨12, 264, true, [Value.string ⟨#[]⟩, Value.int .u8 0, Value.slice none 0 0, Value.slice none 0 0, Value.slice none 0 0, Value.slice none 0 0, Value.slice none 0 0, Value.slice none 0 0, Value.slice none 0 0, Value.slice none 0 0, Value.slice none 0 0, Value.slice none 0 0], .st [(0, 9), (1, 5), (2, 22), (3, 23), (4, 24), (5, 25), (6, 26), (7, 27), (8, 28), (9, 29), (10, 30), (11, 31)]⟩ (.node 23 ⟨1, 24, false, [Value.slice none 0 0], .sl 38⟩ (.node 5 ⟨1, 1, false, [Value.int .u8 0], .it .u8⟩ (.node 3 ⟨1, 8, false, [Value.int .i64 0], .it .i64⟩ (.node 2 ⟨1, 8, false, [Value.int .i64 0], .it .i64⟩ (.node 1 ⟨1, 8, false, [Value.nilFunc], .fu⟩ .leaf .leaf) .leaf) (.node 4 ⟨1, 1, false, [Value.bool false], .bo⟩ .leaf .leaf)) (.node 21 ⟨1, 4, false, [Value.int .i32 0], .it .i32⟩ (.node 12 ⟨1, 8, false, [Value.int .u64 0], .it .u64⟩ (.node 9 ⟨1, 16, false, [Value.string ⟨#[]⟩], .str⟩ .leaf .leaf) .leaf) (.node 22 ⟨1, 24, false, [Value.slice none 0 0], .sl 9⟩ .leaf .leaf))) (.node 28 ⟨1, 24, false, [Value.slice none 0 0], .sl 88⟩ (.node 26 ⟨1, 24, false, [Value.slice none 0 0], .sl 97⟩ (.node 25 ⟨1, 24, false, [Value.slice none 0 0], .sl 93⟩ (.node 24 ⟨1, 24, false, [Value.slice none 0 0], .sl 82⟩ .leaf .leaf) .leaf) (.node 27 ⟨1, 24, false, [Value.slice none 0 0], .sl 85⟩ .leaf .leaf)) (.node 31 ⟨1, 24, false, [Value.slice none 0 0], .sl 77⟩ (.node 30 ⟨1, 24, false, [Value.slice none 0 0], .sl 73⟩ (.node 29 ⟨1, 24, false, [Value.slice none 0 0], .sl 91⟩ .leaf .leaf) .leaf) (.node 32 ⟨12, 264, true, [Value.string ⟨#[]⟩, Value.int .u8 0, Value.slice none 0 0, Value.slice none 0 0, Value.slice none 0 0, Value.slice none 0 0, Value.slice none 0 0, Value.slice none 0 0, Value.slice none 0 0, Value.slice none 0 0, Value.slice none 0 0, Value.slice none 0 0], .st [(0, 9), (1, 5), (2, 22), (3, 23), (4, 24), (5, 25), (6, 26), (7, 27), (8, 28), (9, 29), (10, 30), (11, 31)]⟩ .leaf .leaf)))) (.node 45 ⟨1, 8, false, [Value.nilFunc], .fu⟩ (.node 38 ⟨11, 120, true, [Value.string ⟨#[]⟩, Value.string ⟨#[]⟩, Value.int .u32 0, Value.int .i64 0, Value.bool false, Value.string ⟨#[]⟩, Value.string ⟨#[]⟩, Value.int .u8 0, Value.int .i64 0, Value.int .i64 0, Value.bool false], .st [(0, 9), (1, 9), (2, 36), (3, 3), (4, 4), (5, 9), (6, 9), (7, 5), (8, 3), (9, 3), (10, 4)]⟩ (.node 36 ⟨1, 4, false, [Value.int .u32 0], .it .u32⟩ (.node 35 ⟨1, 4, false, [Value.int .u32 0], .it .u32⟩ (.node 34 ⟨1, 24, false, [Value.slice none 0 0], .sl 5⟩ .leaf .leaf) .leaf) (.node 37 ⟨11, 120, true, [Value.string ⟨#[]⟩, Value.string ⟨#[]⟩, Value.int .u32 0, Value.int .i64 0, Value.bool false, Value.string ⟨#[]⟩, Value.string ⟨#[]⟩, Value.int .u8 0, Value.int .i64 0, Value.int .i64 0, Value.bool false], .st [(0, 9), (1, 9), (2, 36), (3, 3), (4, 4), (5, 9), (6, 9), (7, 5), (8, 3), (9, 3), (10, 4)]⟩ .leaf .leaf)) (.node 42 ⟨1, 24, false, [Value.slice none 0 0], .sl 33⟩ (.node 41 ⟨1, 8, false, [Value.nilFunc], .fu⟩ (.node 39 ⟨1, 8, false, [Value.int .i64 0], .it .i64⟩ .leaf .leaf) .leaf) (.node 44 ⟨1, 8, false, [Value.nilFunc], .fu⟩ .leaf .leaf))) (.node 50 ⟨2, 16, true, [Value.int .i64 0, Value.int .i64 0], .st [(0, 3), (1, 3)]⟩ (.node 48 ⟨1, 8, false, [Value.nilFunc], .fu⟩ (.node 47 ⟨1, 8, false, [Value.int .u64 0], .it .u64⟩ (.node 46 ⟨1, 8, false, [Value.nilFunc], .fu⟩ .leaf .leaf) .leaf) (.node 49 ⟨1, 8, false, [Value.nilFunc], .fu⟩ .leaf .leaf)) (.node 53 ⟨1, 8, false, [Value.nilFunc], .fu⟩ (.node 51 ⟨2, 16, true, [Value.int .i64 0, Value.int .i64 0], .st [(0, 3), (1, 3)]⟩ .leaf .leaf) (.node 54 ⟨1, 8, false, [Value.nilFunc], .fu⟩ .leaf .leaf))))) (.node 74 ⟨1, 24, false, [Value.slice none 0 0], .sl 95⟩ (.node 65 ⟨4, 40, true, [Value.string ⟨#[]⟩, Value.int .i64 0, Value.int .i64 0, Value.nilFunc], .st [(0, 9), (1, 3), (2, 3), (3, 64)]⟩ (.node 60 ⟨1, 8, false, [Value.nilFunc], .fu⟩ (.node 58 ⟨1, 8, false, [Value.nilFunc], .fu⟩ (.node 57 ⟨1, 8, false, [Value.nilFunc], .fu⟩ (.node 56 ⟨1, 24, false, [Value.slice none 0 0], .sl 51⟩ .leaf .leaf) .leaf) (.node 59 ⟨1, 8, false, [Value.nilFunc], .fu⟩ .leaf .leaf)) (.node 63 ⟨1, 8, false, [Value.nilFunc], .fu⟩ (.node 62 ⟨1, 24, false, [Value.slice none 0 0], .sl 66⟩ (.node 61 ⟨1, 8, false, [Value.nilFunc], .fu⟩ .leaf .leaf) .leaf) (.node 64 ⟨1, 8, false, [Value.nilFunc], .fu⟩ .leaf .leaf))) (.node 70 ⟨1, 8, false, [Value.nilFunc], .fu⟩ (.node 68 ⟨1, 8, false, [Value.map none], .mp 9 3⟩ (.node 67 ⟨1, 8, false, [Value.nilFunc], .fu⟩ (.node 66 ⟨4, 40, true, [Value.string ⟨#[]⟩, Value.int .i64 0, Value.int .i64 0, Value.nilFunc], .st [(0, 9), (1, 3), (2, 3), (3, 64)]⟩ .leaf .leaf) .leaf) (.node 69 ⟨1, 8, false, [Value.map none], .mp 36 3⟩ .leaf .leaf)) (.node 72 ⟨3, 48, true, [Value.string ⟨#[]⟩, Value.int .u32 0, Value.slice none 0 0], .st [(0, 9), (1, 36), (2, 71)]⟩ (.node 71 ⟨1, 24, false, [Value.slice none 0 0], .sl 112⟩ .leaf .leaf) (.node 73 ⟨3, 48, true, [Value.string ⟨#[]⟩, Value.int .u32 0, Value.slice none 0 0], .st [(0, 9), (1, 36), (2, 71)]⟩ .leaf .leaf)))) (.node 84 ⟨2, 40, true, [Value.string ⟨#[]⟩, Value.slice none 0 0], .st [(0, 9), (1, 83)]⟩ (.node 79 ⟨1, 8, false, [Value.nilFunc], .fu⟩ (.node 77 ⟨6, 96, true, [Value.string ⟨#[]⟩, Value.int .u32 0, Value.int .u32 0, Value.slice none 0 0, Value.slice none 0 0, Value.slice none 0 0], .st [(0, 9), (1, 35), (2, 36), (3, 74), (4, 75), (5, 71)]⟩ (.node 76 ⟨6, 96, true, [Value.string ⟨#[]⟩, Value.int .u32 0, Value.int .u32 0, Value.slice none 0 0, Value.slice none 0 0, Value.slice none 0 0], .st [(0, 9), (1, 35), (2, 36), (3, 74), (4, 75), (5, 71)]⟩ (.node 75 ⟨1, 24, false, [Value.slice none 0 0], .sl 114⟩ .leaf .leaf) .leaf) (.node 78 ⟨1, 8, false, [Value.nilFunc], .fu⟩ .leaf .leaf)) (.node 82 ⟨2, 40, true, [Value.string ⟨#[]⟩, Value.slice none 0 0], .st [(0, 9), (1, 80)]⟩ (.node 81 ⟨2, 40, true, [Value.string ⟨#[]⟩, Value.slice none 0 0], .st [(0, 9), (1, 80)]⟩ (.node 80 ⟨1, 24, false, [Value.slice none 0 0], .sl 108⟩ .leaf .leaf) .leaf) (.node 83 ⟨1, 24, false, [Value.slice none 0 0], .sl 110⟩ .leaf .leaf))) (.node 89 ⟨1, 24, false, [Value.slice none 0 0], .sl 104⟩ (.node 87 ⟨2, 40, true, [Value.string ⟨#[]⟩, Value.slice none 0 0], .st [(0, 9), (1, 86)]⟩ (.node 86 ⟨1, 24, false, [Value.slice none 0 0], .sl 102⟩ (.node 85 ⟨2, 40, true, [Value.string ⟨#[]⟩, Value.slice none 0 0], .st [(0, 9), (1, 83)]⟩ .leaf .leaf) .leaf) (.node 88 ⟨2, 40, true, [Value.string ⟨#[]⟩, Value.slice none 0 0], .st [(0, 9), (1, 86)]⟩ .leaf .leaf)) (.node 91 ⟨3, 48, true, [Value.string ⟨#[]⟩, Value.slice none 0 0, Value.bool false], .st [(0, 9), (1, 89), (2, 4)]⟩ (.node 90 ⟨3, 48, true, [Value.string ⟨#[]⟩, Value.slice none 0 0, Value.bool false], .st [(0, 9), (1, 89), (2, 4)]⟩ .leaf .leaf) (.node 92 ⟨3, 32, true, [Value.bool false, Value.string ⟨#[]⟩, Value.int .u32 0], .st [(0, 4), (1, 9), (2, 36)]⟩ .leaf .leaf)))))) (.node 132 ⟨1, 8, false, [Value.nilFunc], .fu⟩ (.node 113 ⟨6, 48, true, [Value.int .u32 0, Value.int .u32 0, Value.string ⟨#[]⟩, Value.string ⟨#[]⟩, Value.bool false, Value.bool false], .st [(0, 36), (1, 35), (2, 9), (3, 9), (4, 4), (5, 4)]⟩ (.node 103 ⟨15, 168, true, [Value.int .i64 0, Value.int .u8 0, Value.string ⟨#[]⟩, Value.string ⟨#[]⟩, Value.int .i64 0, Value.int .i64 0, Value.int .i64 0, Value.int .i64 0, Value.int .i64 0, Value.int .i64 0, Value.slice none 0 0, Value.bool false, Value.slice none 0 0, Value.int .u32 0, Value.int .i64 0], .st [(0, 3), (1, 5), (2, 9), (3, 9), (4, 3), (5, 3), (6, 3), (7, 3), (8, 3), (9, 3), (10, 100), (11, 4), (12, 100), (13, 36), (14, 3)]⟩ (.node 98 ⟨1, 8, false, [Value.nilFunc], .fu⟩ (.node 96 ⟨7, 56, true, [Value.string ⟨#[]⟩, Value.int .u32 0, Value.int .i64 0, Value.int .u32 0, Value.bool false, Value.int .i64 0, Value.int .i64 0], .st [(0, 9), (1, 95), (3, 36), (4, 4), (5, 3), (6, 3)]⟩ (.node 95 ⟨2, 16, true, [Value.int .u32 0, Value.int .i64 0], .st [(0, 36), (1, 3)]⟩ (.node 94 ⟨2, 16, true, [Value.int .u32 0, Value.int .i64 0], .st [(0, 36), (1, 3)]⟩ .leaf .leaf) .leaf) (.node 97 ⟨7, 56, true, [Value.string ⟨#[]⟩, Value.int .u32 0, Value.int .i64 0, Value.int .u32 0, Value.bool false, Value.int .i64 0, Value.int .i64 0], .st [(0, 9), (1, 95), (3, 36), (4, 4), (5, 3), (6, 3)]⟩ .leaf .leaf)) (.node 101 ⟨2, 32, true, [Value.bool false, Value.slice none 0 0], .st [(0, 4), (1, 100)]⟩ (.node 100 ⟨1, 24, false, [Value.slice none 0 0], .sl 35⟩ (.node 99 ⟨1, 8, false, [Value.nilFunc], .fu⟩ .leaf .leaf) .leaf) (.node 102 ⟨2, 32, true, [Value.bool false, Value.slice none 0 0], .st [(0, 4), (1, 100)]⟩ .leaf .leaf))) (.node 108 ⟨10, 64, true, [Value.bool false, Value.int .i64 0, Value.int .u32 0, Value.int .i64 0, Value.int .u32 0, Value.int .i64 0, Value.int .u32 0, Value.int .u32 0, Value.int .u32 0, Value.int .u32 0], .st [(0, 4), (1, 3), (2, 95), (4, 95), (6, 106), (8, 106)]⟩ (.node 106 ⟨2, 8, true, [Value.int .u32 0, Value.int .u32 0], .st [(0, 35), (1, 35)]⟩ (.node 105 ⟨2, 8, true, [Value.int .u32 0, Value.int .u32 0], .st [(0, 35), (1, 35)]⟩ (.node 104 ⟨15, 168, true, [Value.int .i64 0, Value.int .u8 0, Value.string ⟨#[]⟩, Value.string ⟨#[]⟩, Value.int .i64 0, Value.int .i64 0, Value.int .i64 0, Value.int .i64 0, Value.int .i64 0, Value.int .i64 0, Value.slice none 0 0, Value.bool false, Value.slice none 0 0, Value.int .u32 0, Value.int .i64 0], .st [(0, 3), (1, 5), (2, 9), (3, 9), (4, 3), (5, 3), (6, 3), (7, 3), (8, 3), (9, 3), (10, 100), (11, 4), (12, 100), (13, 36), (14, 3)]⟩ .leaf .leaf) .leaf) (.node 107 ⟨10, 64, true, [Value.bool false, Value.int .i64 0, Value.int .u32 0, Value.int .i64 0, Value.int .u32 0, Value.int .i64 0, Value.int .u32 0, Value.int .u32 0, Value.int .u32 0, Value.int .u32 0], .st [(0, 4), (1, 3), (2, 95), (4, 95), (6, 106), (8, 106)]⟩ .leaf .leaf)) (.node 111 ⟨4, 40, true, [Value.int .u8 0, Value.int .i64 0, Value.int .u8 0, Value.string ⟨#[]⟩], .st [(0, 5), (1, 3), (2, 5), (3, 9)]⟩ (.node 110 ⟨5, 40, true, [Value.bool false, Value.int .u32 0, Value.int .i64 0, Value.int .i64 0, Value.int .i64 0], .st [(0, 4), (1, 95), (3, 3), (4, 3)]⟩ (.node 109 ⟨5, 40, true, [Value.bool false, Value.int .u32 0, Value.int .i64 0, Value.int .i64 0, Value.int .i64 0], .st [(0, 4), (1, 95), (3, 3), (4, 3)]⟩ .leaf .leaf) .leaf) (.node 112 ⟨4, 40, true, [Value.int .u8 0, Value.int .i64 0, Value.int .u8 0, Value.string ⟨#[]⟩], .st [(0, 5), (1, 3), (2, 5), (3, 9)]⟩ .leaf .leaf)))) (.node 123 ⟨1, 8, false, [Value.nilFunc], .fu⟩ (.node 118 ⟨1, 8, false, [Value.nilFunc], .fu⟩ (.node 116 ⟨1, 8, false, [Value.nilFunc], .fu⟩ (.node 115 ⟨1, 8, false, [Value.nilFunc], .fu⟩ (.node 114 ⟨6, 48, true, [Value.int .u32 0, Value.int .u32 0, Value.string ⟨#[]⟩, Value.string ⟨#[]⟩, Value.bool false, Value.bool false], .st [(0, 36), (1, 35), (2, 9), (3, 9), (4, 4), (5, 4)]⟩ .leaf .leaf) .leaf) (.node 117 ⟨1, 8, false, [Value.nilFunc], .fu⟩ .leaf .leaf)) (.node 121 ⟨1, 8, false, [Value.nilFunc], .fu⟩ (.node 120 ⟨1, 8, false, [Value.nilFunc], .fu⟩ (.node 119 ⟨1, 8, false, [Value.nilFunc], .fu⟩ .leaf .leaf) .leaf) (.node 122 ⟨1, 8, false, [Value.nilFunc], .fu⟩ .leaf .leaf))) (.node 128 ⟨1, 8, false, [Value.nilFunc], .fu⟩ (.node 126 ⟨1, 8, false, [Value.nilFunc], .fu⟩ (.node 125 ⟨1, 8, false, [Value.nilFunc], .fu⟩ (.node 124 ⟨1, 8, false, [Value.nilFunc], .fu⟩ .leaf .leaf) .leaf) (.node 127 ⟨1, 8, false, [Value.nilFunc], .fu⟩ .leaf .leaf)) (.node 130 ⟨1, 8, false, [Value.nilFunc], .fu⟩ (.node 129 ⟨1, 8, false, [Value.nilFunc], .fu⟩ .leaf .leaf) (.node 131 ⟨1, 8, false, [Value.nilFunc], .fu⟩ .leaf .leaf))))) (.node 151 ⟨1, 8, false, [Value.nilFunc], .fu⟩ (.node 142 ⟨1, 8, false, [Value.nilFunc], .fu⟩ (.node 137 ⟨1, 8, false, [Value.nilFunc], .fu⟩ (.node 135 ⟨1, 8, false, [Value.nilFunc], .fu⟩ (.node 134 ⟨1, 8, false, [Value.nilFunc], .fu⟩ (.node 133 ⟨1, 8, false, [Value.nilFunc], .fu⟩ .leaf .leaf) .leaf) (.node 136 ⟨1, 8, false, [Value.nilFunc], .fu⟩ .leaf .leaf)) (.node 140 ⟨1, 8, false, [Value.nilFunc], .fu⟩ (.node 139 ⟨1, 8, false, [Value.nilFunc], .fu⟩ (.node 138 ⟨1, 8, false, [Value.nilFunc], .fu⟩ .leaf .leaf) .leaf) (.node 141 ⟨1, 8, false, [Value.nilFunc], .fu⟩ .leaf .leaf))) (.node 147 ⟨1, 8, false, [Value.nilFunc], .fu⟩ (.node 145 ⟨1, 8, false, [Value.nilFunc], .fu⟩ (.node 144 ⟨1, 8, false, [Value.nilFunc], .fu⟩ (.node 143 ⟨1, 8, false, [Value.nilFunc], .fu⟩ .leaf .leaf) .leaf) (.node 146 ⟨1, 8, false, [Value.nilFunc], .fu⟩ .leaf .leaf)) (.node 149 ⟨1, 8, false, [Value.nilFunc], .fu⟩ (.node 148 ⟨1, 8, false, [Value.nilFunc], .fu⟩ .leaf .leaf) (.node 150 ⟨1, 8, false, [Value.nilFunc], .fu⟩ .leaf .leaf)))) (.node 161 ⟨1, 8, false, [Value.nilFunc], .fu⟩ (.node 156 ⟨1, 8, false, [Value.nilFunc], .fu⟩ (.node 154 ⟨1, 8, false, [Value.nilFunc], .fu⟩ (.node 153 ⟨1, 8, false, [Value.nilFunc], .fu⟩ (.node 152 ⟨1, 8, false, [Value.nilFunc], .fu⟩ .leaf .leaf) .leaf) (.node 155 ⟨1, 8, false, [Value.nilFunc], .fu⟩ .leaf .leaf)) (.node 159 ⟨1, 8, false, [Value.nilFunc], .fu⟩ (.node 158 ⟨1, 8, false, [Value.nilFunc], .fu⟩ (.node 157 ⟨1, 8, false, [Value.nilFunc], .fu⟩ .leaf .leaf) .leaf) (.node 160 ⟨1, 8, false, [Value.nilFunc], .fu⟩ .leaf .leaf))) (.node 166 ⟨1, 8, false, [Value.nilFunc], .fu⟩ (.node 164 ⟨1, 8, false, [Value.nilFunc], .fu⟩ (.node 163 ⟨1, 8, false, [Value.nilFunc], .fu⟩ (.node 162 ⟨1, 8, false, [Value.nilFunc], .fu⟩ .leaf .leaf) .leaf) (.node 165 ⟨1, 8, false, [Value.nilFunc], .fu⟩ .leaf .leaf)) (.node 168 ⟨1, 8, false, [Value.nilFunc], .fu⟩ (.node 167 ⟨1, 8, false, [Value.nilFunc], .fu⟩ .leaf .leaf) (.node 169 ⟨1, 8, false, [Value.nilFunc], .fu⟩ .leaf .leaf))))))) (.node 248 ⟨1, 8, false, [Value.nilFunc], .fu⟩ (.node 210 ⟨1, 8, false, [Value.nilFunc], .fu⟩ (.node 190 ⟨1, 8, false, [Value.nilFunc], .fu⟩ (.node 180 ⟨1, 8, false, [Value.nilFunc], .fu⟩ (.node 175 ⟨1, 8, false, [Value.nilFunc], .fu⟩ (.node 173 ⟨1, 8, false, [Value.nilFunc], .fu⟩ (.node 172 ⟨1, 8, false, [Value.nilFunc], .fu⟩ (.node 171 ⟨1, 8, false, [Value.nilFunc], .fu⟩ .leaf .leaf) .leaf) (.node 174 ⟨1, 8, false, [Value.nilFunc], .fu⟩ .leaf .leaf)) (.node 178 ⟨1, 8, false, [Value.nilFunc], .fu⟩ (.node 177 ⟨1, 8, false, [Value.nilFunc], .fu⟩ (.node 176 ⟨1, 8, false, [Value.nilFunc], .fu⟩ .leaf .leaf) .leaf) (.node 179 ⟨1, 8, false, [Value.nilFunc], .fu⟩ .leaf .leaf))) (.node 185 ⟨5, 40, true, [Value.map none, Value.map none, Value.map none, Value.map none, Value.map none], .st [(0, 68), (1, 68), (2, 68), (3, 68), (4, 68)]⟩ (.node 183 ⟨1, 8, false, [Value.nilFunc], .fu⟩ (.node 182 ⟨1, 8, false, [Value.nilFunc], .fu⟩ (.node 181 ⟨1, 8, false, [Value.nilFunc], .fu⟩ .leaf .leaf) .leaf) (.node 184 ⟨5, 40, true, [Value.map none, Value.map none, Value.map none, Value.map none, Value.map none], .st [(0, 68), (1, 68), (2, 68), (3, 68), (4, 68)]⟩ .leaf .leaf)) (.node 188 ⟨1, 8, false, [Value.nilFunc], .fu⟩ (.node 187 ⟨1, 8, false, [Value.nilFunc], .fu⟩ (.node 186 ⟨1, 8, false, [Value.nilFunc], .fu⟩ .leaf .leaf) .leaf) (.node 189 ⟨1, 8, false, [Value.nilFunc], .fu⟩ .leaf .leaf)))) (.node 201 ⟨1, 8, false, [Value.nilFunc], .fu⟩ (.node 195 ⟨1, 8, false, [Value.nilFunc], .fu⟩ (.node 193 ⟨1, 8, false, [Value.nilFunc], .fu⟩ (.node 192 ⟨1, 8, false, [Value.nilFunc], .fu⟩ (.node 191 ⟨1, 8, false, [Value.nilFunc], .fu⟩ .leaf .leaf) .leaf) (.node 194 ⟨1, 8, false, [Value.nilFunc], .fu⟩ .leaf .leaf)) (.node 199 ⟨1, 8, false, [Value.nilFunc], .fu⟩ (.node 197 ⟨1, 8, false, [Value.nilFunc], .fu⟩ (.node 196 ⟨1, 8, false, [Value.nilFunc], .fu⟩ .leaf .leaf) .leaf) (.node 200 ⟨1, 8, false, [Value.nilFunc], .fu⟩ .leaf .leaf))) (.node 206 ⟨1, 8, false, [Value.int .u64 0], .it .u64⟩ (.node 204 ⟨1, 8, false, [Value.nilFunc], .fu⟩ (.node 203 ⟨1, 8, false, [Value.nilFunc], .fu⟩ (.node 202 ⟨1, 8, false, [Value.nilFunc], .fu⟩ .leaf .leaf) .leaf) (.node 205 ⟨1, 8, false, [Value.nilFunc], .fu⟩ .leaf .leaf)) (.node 208 ⟨1, 8, false, [Value.nilFunc], .fu⟩ (.node 207 ⟨1, 8, false, [Value.nilFunc], .fu⟩ .leaf .leaf) (.node 209 ⟨1, 8, false, [Value.nilFunc], .fu⟩ .leaf .leaf))))) (.node 229 ⟨1, 8, false, [Value.nilFunc], .fu⟩ (.node 220 ⟨1, 8, false, [Value.nilFunc], .fu⟩ (.node 215 ⟨1, 8, false, [Value.nilFunc], .fu⟩ (.node 213 ⟨1, 8, false, [Value.nilFunc], .fu⟩ (.node 212 ⟨1, 8, false, [Value.nilFunc], .fu⟩ (.node 211 ⟨1, 8, false, [Value.nilFunc], .fu⟩ .leaf .leaf) .leaf) (.node 214 ⟨1, 8, false, [Value.nilFunc], .fu⟩ .leaf .leaf)) (.node 218 ⟨1, 8, false, [Value.nilFunc], .fu⟩ (.node 217 ⟨1, 8, false, [Value.nilFunc], .fu⟩ (.node 216 ⟨1, 8, false, [Value.nilFunc], .fu⟩ .leaf .leaf) .leaf) (.node 219 ⟨1, 8, false, [Value.nilFunc], .fu⟩ .leaf .leaf))) (.node 225 ⟨1, 8, false, [Value.nilFunc], .fu⟩ (.node 223 ⟨1, 8, false, [Value.nilFunc], .fu⟩ (.node 222 ⟨1, 8, false, [Value.nilFunc], .fu⟩ (.node 221 ⟨1, 8, false, [Value.nilFunc], .fu⟩ .leaf .leaf) .leaf) (.node 224 ⟨1, 8, false, [Value.nilFunc], .fu⟩ .leaf .leaf)) (.node 227 ⟨1, 8, false, [Value.nilFunc], .fu⟩ (.node 226 ⟨1, 8, false, [Value.nilFunc], .fu⟩ .leaf .leaf) (.node 228 ⟨1, 8, false, [Value.nilFunc], .fu⟩ .leaf .leaf)))) (.node 239 ⟨1, 8, false, [Value.nilFunc], .fu⟩ (.node 234 ⟨1, 8, false, [Value.nilFunc], .fu⟩ (.node 232 ⟨1, 8, false, [Value.nilFunc], .fu⟩ (.node 231 ⟨1, 8, false, [Value.nilFunc], .fu⟩ (.node 230 ⟨1, 8, false, [Value.nilFunc], .fu⟩ .leaf .leaf) .leaf) (.node 233 ⟨1, 8, false, [Value.nilFunc], .fu⟩ .leaf .leaf)) (.node 237 ⟨1, 8, false, [Value.nilFunc], .fu⟩ (.node 236 ⟨1, 8, false, [Value.nilFunc], .fu⟩ (.node 235 ⟨1, 8, false, [Value.nilFunc], .fu⟩ .leaf .leaf) .leaf) (.node 238 ⟨1, 8, false, [Value.nilFunc], .fu⟩ .leaf .leaf))) (.node 244 ⟨1, 8, false, [Value.nilFunc], .fu⟩ (.node 242 ⟨1, 8, false, [Value.nilFunc], .fu⟩ (.node 241 ⟨1, 8, false, [Value.nilFunc], .fu⟩ (.node 240 ⟨1, 8, false, [Value.nilFunc], .fu⟩ .leaf .leaf) .leaf) (.node 243 ⟨1, 8, false, [Value.nilFunc], .fu⟩ .leaf .leaf)) (.node 246 ⟨1, 8, false, [Value.nilFunc], .fu⟩ (.node 245 ⟨1, 8, false, [Value.nilFunc], .fu⟩ .leaf .leaf) (.node 247 ⟨1, 8, false, [Value.nilFunc], .fu⟩ .leaf .leaf)))))) (.node 289 ⟨1, 8, false, [Value.nilFunc], .fu⟩ (.node 269 ⟨1, 8, false, [Value.nilFunc], .fu⟩ (.node 258 ⟨1, 8, false, [Value.nilFunc], .fu⟩ (.node 253 ⟨1, 8, false, [Value.nilFunc], .fu⟩ (.node 251 ⟨1, 8, false, [Value.nilFunc], .fu⟩ (.node 250 ⟨1, 8, false, [Value.nilFunc], .fu⟩ (.node 249 ⟨1, 24, false, [Value.slice none 0 0], .sl 3⟩ .leaf .leaf) .leaf) (.node 252 ⟨1, 8, false, [Value.nilFunc], .fu⟩ .leaf .leaf)) (.node 256 ⟨1, 8, false, [Value.nilFunc], .fu⟩ (.node 255 ⟨1, 8, false, [Value.nilFunc], .fu⟩ (.node 254 ⟨1, 8, false, [Value.nilFunc], .fu⟩ .leaf .leaf) .leaf) (.node 257 ⟨1, 8, false, [Value.nilFunc], .fu⟩ .leaf .leaf))) (.node 263 ⟨1, 8, false, [Value.nilFunc], .fu⟩ (.node 261 ⟨1, 8, false, [Value.nilFunc], .fu⟩ (.node 260 ⟨1, 8, false, [Value.nilFunc], .fu⟩ (.node 259 ⟨1, 8, false, [Value.nilFunc], .fu⟩ .leaf .leaf) .leaf) (.node 262 ⟨1, 8, false, [Value.nilFunc], .fu⟩ .leaf .leaf)) (.node 267 ⟨1, 8, false, [Value.nilFunc], .fu⟩ (.node 265 ⟨1, 8, false, [Value.int .i64 0], .it .i64⟩ (.node 264 ⟨1, 8, false, [Value.nilFunc], .fu⟩ .leaf .leaf) .leaf) (.node 268 ⟨1, 8, false, [Value.nilFunc], .fu⟩ .leaf .leaf)))) (.node 280 ⟨1, 8, false, [Value.nilFunc], .fu⟩ (.node 275 ⟨1, 8, false, [Value.nilFunc], .fu⟩ (.node 273 ⟨1, 8, false, [Value.nilFunc], .fu⟩ (.node 272 ⟨1, 8, false, [Value.nilFunc], .fu⟩ (.node 271 ⟨1, 8, false, [Value.nilFunc], .fu⟩ .leaf .leaf) .leaf) (.node 274 ⟨1, 8, false, [Value.nilFunc], .fu⟩ .leaf .leaf)) (.node 278 ⟨1, 8, false, [Value.nilFunc], .fu⟩ (.node 277 ⟨1, 8, false, [Value.nilFunc], .fu⟩ (.node 276 ⟨1, 8, false, [Value.nilFunc], .fu⟩ .leaf .leaf) .leaf) (.node 279 ⟨1, 8, false, [Value.nilFunc], .fu⟩ .leaf .leaf))) (.node 285 ⟨1, 8, false, [Value.nilFunc], .fu⟩ (.node 283 ⟨1, 8, false, [Value.nilFunc], .fu⟩ (.node 282 ⟨1, 8, false, [Value.nilFunc], .fu⟩ (.node 281 ⟨1, 8, false, [Value.nilFunc], .fu⟩ .leaf .leaf) .leaf) (.node 284 ⟨1, 8, false, [Value.nilFunc], .fu⟩ .leaf .leaf)) (.node 287 ⟨1, 8, false, [Value.nilFunc], .fu⟩ (.node 286 ⟨1, 8, false, [Value.nilFunc], .fu⟩ .leaf .leaf) (.node 288 ⟨1, 8, false, [Value.nilFunc], .fu⟩ .leaf .leaf))))) (.node 309 ⟨1, 8, false, [Value.nilFunc], .fu⟩ (.node 300 ⟨1, 8, false, [Value.nilFunc], .fu⟩ (.node 294 ⟨1, 8, false, [Value.nilFunc], .fu⟩ (.node 292 ⟨1, 8, false, [Value.nilFunc], .fu⟩ (.node 291 ⟨1, 8, false, [Value.nilFunc], .fu⟩ (.node 290 ⟨1, 8, false, [Value.nilFunc], .fu⟩ .leaf .leaf) .leaf) (.node 293 ⟨24, 24, true, [Value.int .u8 0, Value.int .u8 0, Value.int .u8 0, Value.int .u8 0, Value.int .u8 0, Value.int .u8 0, Value.int .u8 0, Value.int .u8 0, Value.int .u8 0, Value.int .u8 0, Value.int .u8 0, Value.int .u8 0, Value.int .u8 0, Value.int .u8 0, Value.int .u8 0, Value.int .u8 0, Value.int .u8 0, Value.int .u8 0, Value.int .u8 0, Value.int .u8 0, Value.int .u8 0, Value.int .u8 0, Value.int .u8 0, Value.int .u8 0], .ar 24 5⟩ .leaf .leaf)) (.node 298 ⟨1, 8, false, [Value.nilFunc], .fu⟩ (.node 297 ⟨1, 8, false, [Value.nilFunc], .fu⟩ (.node 296 ⟨1, 8, false, [Value.nilFunc], .fu⟩ .leaf .leaf) .leaf) (.node 299 ⟨1, 8, false, [Value.int .u64 0], .it .u64⟩ .leaf .leaf))) (.node 305 ⟨1, 8, false, [Value.nilFunc], .fu⟩ (.node 303 ⟨1, 8, false, [Value.pointer none], .pt 3⟩ (.node 302 ⟨1, 8, false, [Value.nilFunc], .fu⟩ (.node 301 ⟨1, 8, false, [Value.nilFunc], .fu⟩ .leaf .leaf) .leaf) (.node 304 ⟨1, 8, false, [Value.nilFunc], .fu⟩ .leaf .leaf)) (.node 307 ⟨1, 8, false, [Value.nilFunc], .fu⟩ (.node 306 ⟨1, 8, false, [Value.nilFunc], .fu⟩ .leaf .leaf) (.node 308 ⟨1, 8, false, [Value.nilFunc], .fu⟩ .leaf .leaf)))) (.node 319 ⟨1, 8, false, [Value.pointer none], .pt 299⟩ (.node 314 ⟨1, 8, false, [Value.nilFunc], .fu⟩ (.node 312 ⟨1, 8, false, [Value.nilFunc], .fu⟩ (.node 311 ⟨1, 8, false, [Value.nilFunc], .fu⟩ (.node 310 ⟨1, 8, false, [Value.nilFunc], .fu⟩ .leaf .leaf) .leaf) (.node 313 ⟨1, 8, false, [Value.nilFunc], .fu⟩ .leaf .leaf)) (.node 317 ⟨20, 160, true, [Value.int .u64 0, Value.int .u64 0, Value.int .u64 0, Value.int .u64 0, Value.int .u64 0, Value.int .u64 0, Value.int .u64 0, Value.int .u64 0, Value.int .u64 0, Value.int .u64 0, Value.int .u64 0, Value.int .u64 0, Value.int .u64 0, Value.int .u64 0, Value.int .u64 0, Value.int .u64 0, Value.int .u64 0, Value.int .u64 0, Value.int .u64 0, Value.int .u64 0], .ar 20 206⟩ (.node 316 ⟨1, 8, false, [Value.nilFunc], .fu⟩ (.node 315 ⟨1, 8, false, [Value.nilFunc], .fu⟩ .leaf .leaf) .leaf) (.node 318 ⟨65, 65, true, [Value.int .u8 0, Value.int .u8 0, Value.int .u8 0, Value.int .u8 0, Value.int .u8 0, Value.int .u8 0, Value.int .u8 0, Value.int .u8 0, Value.int .u8 0, Value.int .u8 0, Value.int .u8 0, Value.int .u8 0, Value.int .u8 0, Value.int .u8 0, Value.int .u8 0, Value.int .u8 0, Value.int .u8 0, Value.int .u8 0, Value.int .u8 0, Value.int .u8 0, Value.int .u8 0, Value.int .u8 0, Value.int .u8 0, Value.int .u8 0, Value.int .u8 0, Value.int .u8 0, Value.int .u8 0, Value.int .u8 0, Value.int .u8 0, Value.int .u8 0, Value.int .u8 0, Value.int .u8 0, Value.int .u8 0, Value.int .u8 0, Value.int .u8 0, Value.int .u8 0, Value.int .u8 0, Value.int .u8 0, Value.int .u8 0, Value.int .u8 0, Value.int .u8 0, Value.int .u8 0, Value.int .u8 0, Value.int .u8 0, Value.int .u8 0, Value.int .u8 0, Value.int .u8 0, Value.int .u8 0, Value.int .u8 0, Value.int .u8 0, Value.int .u8 0, Value.int .u8 0, Value.int .u8 0, Value.int .u8 0, Value.int .u8 0, Value.int .u8 0, Value.int .u8 0, Value.int .u8 0, Value.int .u8 0, Value.int .u8 0, Value.int .u8 0, Value.int .u8 0, Value.int .u8 0, Value.int .u8 0, Value.int .u8 0], .ar 65 5⟩ .leaf .leaf))) (.node 326 ⟨1, 8, false, [Value.nilFunc], .fu⟩ (.node 324 ⟨32, 32, true, [Value.int .u8 0, Value.int .u8 0, Value.int .u8 0, Value.int .u8 0, Value.int .u8 0, Value.int .u8 0, Value.int .u8 0, Value.int .u8 0, Value.int .u8 0, Value.int .u8 0, Value.int .u8 0, Value.int .u8 0, Value.int .u8 0, Value.int .u8 0, Value.int .u8 0, Value.int .u8 0, Value.int .u8 0, Value.int .u8 0, Value.int .u8 0, Value.int .u8 0, Value.int .u8 0, Value.int .u8 0, Value.int .u8 0, Value.int .u8 0, Value.int .u8 0, Value.int .u8 0, Value.int .u8 0, Value.int .u8 0, Value.int .u8 0, Value.int .u8 0, Value.int .u8 0, Value.int .u8 0], .ar 32 5⟩ (.node 323 ⟨1, 8, false, [Value.nilFunc], .fu⟩ (.node 321 ⟨1, 8, false, [Value.nilFunc], .fu⟩ .leaf .leaf) .leaf) (.node 325 ⟨64, 64, true, [Value.int .u8 0, Value.int .u8 0, Value.int .u8 0, Value.int .u8 0, Value.int .u8 0, Value.int .u8 0, Value.int .u8 0, Value.int .u8 0, Value.int .u8 0, Value.int .u8 0, Value.int .u8 0, Value.int .u8 0, Value.int .u8 0, Value.int .u8 0, Value.int .u8 0, Value.int .u8 0, Value.int .u8 0, Value.int .u8 0, Value.int .u8 0, Value.int .u8 0, Value.int .u8 0, Value.int .u8 0, Value.int .u8 0, Value.int .u8 0, Value.int .u8 0, Value.int .u8 0, Value.int .u8 0, Value.int .u8 0, Value.int .u8 0, Value.int .u8 0, Value.int .u8 0, Value.int .u8 0, Value.int .u8 0, Value.int .u8 0, Value.int .u8 0, Value.int .u8 0, Value.int .u8 0, Value.int .u8 0, Value.int .u8 0, Value.int .u8 0, Value.int .u8 0, Value.int .u8 0, Value.int .u8 0, Value.int .u8 0, Value.int .u8 0, Value.int .u8 0, Value.int .u8 0, Value.int .u8 0, Value.int .u8 0, Value.int .u8 0, Value.int .u8 0, Value.int .u8 0, Value.int .u8 0, Value.int .u8 0, Value.int .u8 0, Value.int .u8 0, Value.int .u8 0, Value.int .u8 0, Value.int .u8 0, Value.int .u8 0, Value.int .u8 0, Value.int .u8 0, Value.int .u8 0, Value.int .u8 0], .ar 64 5⟩ .leaf .leaf)) (.node 335 ⟨1, 8, false, [Value.nilFunc], .fu⟩ (.node 332 ⟨1, 8, false, [Value.nilFunc], .fu⟩ .leaf .leaf) (.node 336 ⟨1, 8, false, [Value.pointer none], .pt 5⟩ .leaf .leaf))))))))
theorem tf1 : TFacts Tryz.prog 1 ⟨1, 8, false, [Value.nilFunc], .fu⟩ := ⟨by kernel_rfl, _, Tryz.underlying1, rfl, ⟨_, _, _, rfl⟩⟩
theorem tf2 : TFacts Tryz.prog 2 ⟨1, 8, false, [Value.int .i64 0], .it .i64⟩ := ⟨by kernel_rfl, _, Tryz.underlying2, rfl, rfl⟩
theorem tf3 : TFacts Tryz.prog 3 ⟨1, 8, false, [Value.int .i64 0], .it .i64⟩ := ⟨by kernel_rfl, _, Tryz.underlying3, rfl, rfl⟩
theorem tf4 : TFacts Tryz.prog 4 ⟨1, 1, false, [Value.bool false], .bo⟩ := ⟨by kernel_rfl, _, Tryz.underlying4, rfl, rfl⟩
theorem tf5 : TFacts Tryz.prog 5 ⟨1, 1, false, [Value.int .u8 0], .it .u8⟩ := ⟨by kernel_rfl, _, Tryz.underlying5, rfl, rfl⟩
theorem tf9 : TFacts Tryz.prog 9 ⟨1, 16, false, [Value.string ⟨#[]⟩], .str⟩ := ⟨by kernel_rfl, _, Tryz.underlying9, rfl, rfl⟩
theorem tf12 : TFacts Tryz.prog 12 ⟨1, 8, false, [Value.int .u64 0], .it .u64⟩ := ⟨by kernel_rfl, _, Tryz.underlying12, rfl, rfl⟩
theorem tf21 : TFacts Tryz.prog 21 ⟨1, 4, false, [Value.int .i32 0], .it .i32⟩ := ⟨by kernel_rfl, _, Tryz.underlying21, rfl, rfl⟩
theorem tf22 : TFacts Tryz.prog 22 ⟨1, 24, false, [Value.slice none 0 0], .sl 9⟩ := ⟨by kernel_rfl, _, Tryz.underlying22, rfl, rfl⟩
theorem tf23 : TFacts Tryz.prog 23 ⟨1, 24, false, [Value.slice none 0 0], .sl 38⟩ := ⟨by kernel_rfl, _, Tryz.underlying23, rfl, rfl⟩
theorem tf24 : TFacts Tryz.prog 24 ⟨1, 24, false, [Value.slice none 0 0], .sl 82⟩ := ⟨by kernel_rfl, _, Tryz.underlying24, rfl, rfl⟩
theorem tf25 : TFacts Tryz.prog 25 ⟨1, 24, false, [Value.slice none 0 0], .sl 93⟩ := ⟨by kernel_rfl, _, Tryz.underlying25, rfl, rfl⟩
theorem tf26 : TFacts Tryz.prog 26 ⟨1, 24, false, [Value.slice none 0 0], .sl 97⟩ := ⟨by kernel_rfl, _, Tryz.underlying26, rfl, rfl⟩
theorem tf27 : TFacts Tryz.prog 27 ⟨1, 24, false, [Value.slice none 0 0], .sl 85⟩ := ⟨by kernel_rfl, _, Tryz.underlying27, rfl, rfl⟩
theorem tf28 : TFacts Tryz.prog 28 ⟨1, 24, false, [Value.slice none 0 0], .sl 88⟩ := ⟨by kernel_rfl, _, Tryz.underlying28, rfl, rfl⟩
theorem tf29 : TFacts Tryz.prog 29 ⟨1, 24, false, [Value.slice none 0 0], .sl 91⟩ := ⟨by kernel_rfl, _, Tryz.underlying29, rfl, rfl⟩
theorem tf30 : TFacts Tryz.prog 30 ⟨1, 24, false, [Value.slice none 0 0], .sl 73⟩ := ⟨by kernel_rfl, _, Tryz.underlying30, rfl, rfl⟩
theorem tf31 : TFacts Tryz.prog 31 ⟨1, 24, false, [Value.slice none 0 0], .sl 77⟩ := ⟨by kernel_rfl, _, Tryz.underlying31, rfl, rfl⟩
theorem tf32 : TFacts Tryz.prog 32 ⟨12, 264, true, [Value.string ⟨#[]⟩, Value.int .u8 0, Value.slice none 0 0, Value.slice none 0 0, Value.slice none 0 0, Value.slice none 0 0, Value.slice none 0 0, Value.slice none 0 0, Value.slice none 0 0, Value.slice none 0 0, Value.slice none 0 0, Value.slice none 0 0], .st [(0, 9), (1, 5), (2, 22), (3, 23), (4, 24), (5, 25), (6, 26), (7, 27), (8, 28), (9, 29), (10, 30), (11, 31)]⟩ := ⟨by kernel_rfl, _, Tryz.underlying32, rfl, ⟨_, rfl, rfl, by decide⟩⟩
theorem tf33 : TFacts Tryz.prog 33 ⟨12, 264, true, [Value.string ⟨#[]⟩, Value.int .u8 0, Value.slice none 0 0, Value.slice none 0 0, Value.slice none 0 0, Value.slice none 0 0, Value.slice none 0 0, Value.slice none 0 0, Value.slice none 0 0, Value.slice none 0 0, Value.slice none 0 0, Value.slice none 0 0], .st [(0, 9), (1, 5), (2, 22), (3, 23), (4, 24), (5, 25), (6, 26), (7, 27), (8, 28), (9, 29), (10, 30), (11, 31)]⟩ := ⟨by kernel_rfl, _, Tryz.underlying33, rfl, ⟨_, rfl, rfl, by decide⟩⟩
theorem tf34 : TFacts Tryz.prog 34 ⟨1, 24, false, [Value.slice none 0 0], .sl 5⟩ := ⟨by kernel_rfl, _, Tryz.underlying34, rfl, rfl⟩
theorem tf35 : TFacts Tryz.prog 35 ⟨1, 4, false, [Value.int .u32 0], .it .u32⟩ := ⟨by kernel_rfl, _, Tryz.underlying35, rfl, rfl⟩
theorem tf36 : TFacts Tryz.prog 36 ⟨1, 4, false, [Value.int .u32 0], .it .u32⟩ := ⟨by kernel_rfl, _, Tryz.underlying36, rfl, rfl⟩
theorem tf37 : TFacts Tryz.prog 37 ⟨11, 120, true, [Value.string ⟨#[]⟩, Value.string ⟨#[]⟩, Value.int .u32 0, Value.int .i64 0, Value.bool false, Value.string ⟨#[]⟩, Value.string ⟨#[]⟩, Value.int .u8 0, Value.int .i64 0, Value.int .i64 0, Value.bool false], .st [(0, 9), (1, 9), (2, 36), (3, 3), (4, 4), (5, 9), (6, 9), (7, 5), (8, 3), (9, 3), (10, 4)]⟩ := ⟨by kernel_rfl, _, Tryz.underlying37, rfl, ⟨_, rfl, rfl, by decide⟩⟩
theorem tf38 : TFacts Tryz.prog 38 ⟨11, 120, true, [Value.string ⟨#[]⟩, Value.string ⟨#[]⟩, Value.int .u32 0, Value.int .i64 0, Value.bool false, Value.string ⟨#[]⟩, Value.string ⟨#[]⟩, Value.int .u8 0, Value.int .i64 0, Value.int .i64 0, Value.bool false], .st [(0, 9), (1, 9), (2, 36), (3, 3), (4, 4), (5, 9), (6, 9), (7, 5), (8, 3), (9, 3), (10, 4)]⟩ := ⟨by kernel_rfl, _, Tryz.underlying38, rfl, ⟨_, rfl, rfl, by decide⟩⟩
theorem tf39 : TFacts Tryz.prog 39 ⟨1, 8, false, [Value.int .i64 0], .it .i64⟩ := ⟨by kernel_rfl, _, Tryz.underlying39, rfl, rfl⟩
theorem tf41 : TFacts Tryz.prog 41 ⟨1, 8, false, [Value.nilFunc], .fu⟩ := ⟨by kernel_rfl, _, Tryz.underlying41, rfl, ⟨_, _, _, rfl⟩⟩
theorem tf42 : TFacts Tryz.prog 42 ⟨1, 24, false, [Value.slice none 0 0], .sl 33⟩ := ⟨by kernel_rfl, _, Tryz.underlying42, rfl, rfl⟩
theorem tf44 : TFacts Tryz.prog 44 ⟨1, 8, false, [Value.nilFunc], .fu⟩ := ⟨by kernel_rfl, _, Tryz.underlying44, rfl, ⟨_, _, _, rfl⟩⟩
theorem tf45 : TFacts Tryz.prog 45 ⟨1, 8, false, [Value.nilFunc], .fu⟩ := ⟨by kernel_rfl, _, Tryz.underlying45, rfl, ⟨_, _, _, rfl⟩⟩
theorem tf46 : TFacts Tryz.prog 46 ⟨1, 8, false, [Value.nilFunc], .fu⟩ := ⟨by kernel_rfl, _, Tryz.underlying46, rfl, ⟨_, _, _, rfl⟩⟩
theorem tf47 : TFacts Tryz.prog 47 ⟨1, 8, false, [Value.int .u64 0], .it .u64⟩ := ⟨by kernel_rfl, _, Tryz.underlying47, rfl, rfl⟩
theorem tf48 : TFacts Tryz.prog 48 ⟨1, 8, false, [Value.nilFunc], .fu⟩ := ⟨by kernel_rfl, _, Tryz.underlying48, rfl, ⟨_, _, _, rfl⟩⟩
theorem tf49 : TFacts Tryz.prog 49 ⟨1, 8, false, [Value.nilFunc], .fu⟩ := ⟨by kernel_rfl, _, Tryz.underlying49, rfl, ⟨_, _, _, rfl⟩⟩
theorem tf50 : TFacts Tryz.prog 50 ⟨2, 16, true, [Value.int .i64 0, Value.int .i64 0], .st [(0, 3), (1, 3)]⟩ := ⟨by kernel_rfl, _, Tryz.underlying50, rfl, ⟨_, rfl, rfl, by decide⟩⟩
theorem tf51 : TFacts Tryz.prog 51 ⟨2, 16, true, [Value.int .i64 0, Value.int .i64 0], .st [(0, 3), (1, 3)]⟩ := ⟨by kernel_rfl, _, Tryz.underlying51, rfl, ⟨_, rfl, rfl, by decide⟩⟩
theorem tf53 : TFacts Tryz.prog 53 ⟨1, 8, false, [Value.nilFunc], .fu⟩ := ⟨by kernel_rfl, _, Tryz.underlying53, rfl, ⟨_, _, _, rfl⟩⟩
theorem tf54 : TFacts Tryz.prog 54 ⟨1, 8, false, [Value.nilFunc], .fu⟩ := ⟨by kernel_rfl, _, Tryz.underlying54, rfl, ⟨_, _, _, rfl⟩⟩
theorem tf55 : TFacts Tryz.prog 55 ⟨1, 8, false, [Value.nilFunc], .fu⟩ := ⟨by kernel_rfl, _, Tryz.underlying55, rfl, ⟨_, _, _, rfl⟩⟩
theorem tf56 : TFacts Tryz.prog 56 ⟨1, 24, false, [Value.slice none 0 0], .sl 51⟩ := ⟨by kernel_rfl, _, Tryz.underlying56, rfl, rfl⟩
theorem tf57 : TFacts Tryz.prog 57 ⟨1, 8, false, [Value.nilFunc], .fu⟩ := ⟨by kernel_rfl, _, Tryz.underlying57, rfl, ⟨_, _, _, rfl⟩⟩
theorem tf58 : TFacts Tryz.prog 58 ⟨1, 8, false, [Value.nilFunc], .fu⟩ := ⟨by kernel_rfl, _, Tryz.underlying58, rfl, ⟨_, _, _, rfl⟩⟩
theorem tf59 : TFacts Tryz.prog 59 ⟨1, 8, false, [Value.nilFunc], .fu⟩ := ⟨by kernel_rfl, _, Tryz.underlying59, rfl, ⟨_, _, _, rfl⟩⟩
theorem tf60 : TFacts Tryz.prog 60 ⟨1, 8, false, [Value.nilFunc], .fu⟩ := ⟨by kernel_rfl, _, Tryz.underlying60, rfl, ⟨_, _, _, rfl⟩⟩
theorem tf61 : TFacts Tryz.prog 61 ⟨1, 8, false, [Value.nilFunc], .fu⟩ := ⟨by kernel_rfl, _, Tryz.underlying61, rfl, ⟨_, _, _, rfl⟩⟩
theorem tf62 : TFacts Tryz.prog 62 ⟨1, 24, false, [Value.slice none 0 0], .sl 66⟩ := ⟨by kernel_rfl, _, Tryz.underlying62, rfl, rfl⟩
theorem tf63 : TFacts Tryz.prog 63 ⟨1, 8, false, [Value.nilFunc], .fu⟩ := ⟨by kernel_rfl, _, Tryz.underlying63, rfl, ⟨_, _, _, rfl⟩⟩
theorem tf64 : TFacts Tryz.prog 64 ⟨1, 8, false, [Value.nilFunc], .fu⟩ := ⟨by kernel_rfl, _, Tryz.underlying64, rfl, ⟨_, _, _, rfl⟩⟩
theorem tf65 : TFacts Tryz.prog 65 ⟨4, 40, true, [Value.string ⟨#[]⟩, Value.int .i64 0, Value.int .i64 0, Value.nilFunc], .st [(0, 9), (1, 3), (2, 3), (3, 64)]⟩ := ⟨by kernel_rfl, _, Tryz.underlying65, rfl, ⟨_, rfl, rfl, by decide⟩⟩
theorem tf66 : TFacts Tryz.prog 66 ⟨4, 40, true, [Value.string ⟨#[]⟩, Value.int .i64 0, Value.int .i64 0, Value.nilFunc], .st [(0, 9), (1, 3), (2, 3), (3, 64)]⟩ := ⟨by kernel_rfl, _, Tryz.underlying66, rfl, ⟨_, rfl, rfl, by decide⟩⟩
theorem tf67 : TFacts Tryz.prog 67 ⟨1, 8, false, [Value.nilFunc], .fu⟩ := ⟨by kernel_rfl, _, Tryz.underlying67, rfl, ⟨_, _, _, rfl⟩⟩
theorem tf68 : TFacts Tryz.prog 68 ⟨1, 8, false, [Value.map none], .mp 9 3⟩ := ⟨by kernel_rfl, _, Tryz.underlying68, rfl, rfl⟩
theorem tf69 : TFacts Tryz.prog 69 ⟨1, 8, false, [Value.map none], .mp 36 3⟩ := ⟨by kernel_rfl, _, Tryz.underlying69, rfl, rfl⟩
theorem tf70 : TFacts Tryz.prog 70 ⟨1, 8, false, [Value.nilFunc], .fu⟩ := ⟨by kernel_rfl, _, Tryz.underlying70, rfl, ⟨_, _, _, rfl⟩⟩
theorem tf71 : TFacts Tryz.prog 71 ⟨1, 24, false, [Value.slice none 0 0], .sl 112⟩ := ⟨by kernel_rfl, _, Tryz.underlying71, rfl, rfl⟩
theorem tf72 : TFacts Tryz.prog 72 ⟨3, 48, true, [Value.string ⟨#[]⟩, Value.int .u32 0, Value.slice none 0 0], .st [(0, 9), (1, 36), (2, 71)]⟩ := ⟨by kernel_rfl, _, Tryz.underlying72, rfl, ⟨_, rfl, rfl, by decide⟩⟩
theorem tf73 : TFacts Tryz.prog 73 ⟨3, 48, true, [Value.string ⟨#[]⟩, Value.int .u32 0, Value.slice none 0 0], .st [(0, 9), (1, 36), (2, 71)]⟩ := ⟨by kernel_rfl, _, Tryz.underlying73, rfl, ⟨_, rfl, rfl, by decide⟩⟩
theorem tf74 : TFacts Tryz.prog 74 ⟨1, 24, false, [Value.slice none 0 0], .sl 95⟩ := ⟨by kernel_rfl, _, Tryz.underlying74, rfl, rfl⟩
theorem tf75 : TFacts Tryz.prog 75 ⟨1, 24, false, [Value.slice none 0 0], .sl 114⟩ := ⟨by kernel_rfl, _, Tryz.underlying75, rfl, rfl⟩
theorem tf76 : TFacts Tryz.prog 76 ⟨6, 96, true, [Value.string ⟨#[]⟩, Value.int .u32 0, Value.int .u32 0, Value.slice none 0 0, Value.slice none 0 0, Value.slice none 0 0], .st [(0, 9), (1, 35), (2, 36), (3, 74), (4, 75), (5, 71)]⟩ := ⟨by kernel_rfl, _, Tryz.underlying76, rfl, ⟨_, rfl, rfl, by decide⟩⟩
theorem tf77 : TFacts Tryz.prog 77 ⟨6, 96, true, [Value.string ⟨#[]⟩, Value.int .u32 0, Value.int .u32 0, Value.slice none 0 0, Value.slice none 0 0, Value.slice none 0 0], .st [(0, 9), (1, 35), (2, 36), (3, 74), (4, 75), (5, 71)]⟩ := ⟨by kernel_rfl, _, Tryz.underlying77, rfl, ⟨_, rfl, rfl, by decide⟩⟩
theorem tf78 : TFacts Tryz.prog 78 ⟨1, 8, false, [Value.nilFunc], .fu⟩ := ⟨by kernel_rfl, _, Tryz.underlying78, rfl, ⟨_, _, _, rfl⟩⟩
theorem tf79 : TFacts Tryz.prog 79 ⟨1, 8, false, [Value.nilFunc], .fu⟩ := ⟨by kernel_rfl, _, Tryz.underlying79, rfl, ⟨_, _, _, rfl⟩⟩
theorem tf80 : TFacts Tryz.prog 80 ⟨1, 24, false, [Value.slice none 0 0], .sl 108⟩ := ⟨by kernel_rfl, _, Tryz.underlying80, rfl, rfl⟩
theorem tf81 : TFacts Tryz.prog 81 ⟨2, 40, true, [Value.string ⟨#[]⟩, Value.slice none 0 0], .st [(0, 9), (1, 80)]⟩ := ⟨by kernel_rfl, _, Tryz.underlying81, rfl, ⟨_, rfl, rfl, by decide⟩⟩
theorem tf82 : TFacts Tryz.prog 82 ⟨2, 40, true, [Value.string ⟨#[]⟩, Value.slice none 0 0], .st [(0, 9), (1, 80)]⟩ := ⟨by kernel_rfl, _, Tryz.underlying82, rfl, ⟨_, rfl, rfl, by decide⟩⟩
theorem tf83 : TFacts Tryz.prog 83 ⟨1, 24, false, [Value.slice none 0 0], .sl 110⟩ := ⟨by kernel_rfl, _, Tryz.underlying83, rfl, rfl⟩
theorem tf84 : TFacts Tryz.prog 84 ⟨2, 40, true, [Value.string ⟨#[]⟩, Value.slice none 0 0], .st [(0, 9), (1, 83)]⟩ := ⟨by kernel_rfl, _, Tryz.underlying84, rfl, ⟨_, rfl, rfl, by decide⟩⟩
theorem tf85 : TFacts Tryz.prog 85 ⟨2, 40, true, [Value.string ⟨#[]⟩, Value.slice none 0 0], .st [(0, 9), (1, 83)]⟩ := ⟨by kernel_rfl, _, Tryz.underlying85, rfl, ⟨_, rfl, rfl, by decide⟩⟩
theorem tf86 : TFacts Tryz.prog 86 ⟨1, 24, false, [Value.slice none 0 0], .sl 102⟩ := ⟨by kernel_rfl, _, Tryz.underlying86, rfl, rfl⟩
theorem tf87 : TFacts Tryz.prog 87 ⟨2, 40, true, [Value.string ⟨#[]⟩, Value.slice none 0 0], .st [(0, 9), (1, 86)]⟩ := ⟨by kernel_rfl, _, Tryz.underlying87, rfl, ⟨_, rfl, rfl, by decide⟩⟩
theorem tf88 : TFacts Tryz.prog 88 ⟨2, 40, true, [Value.string ⟨#[]⟩, Value.slice none 0 0], .st [(0, 9), (1, 86)]⟩ := ⟨by kernel_rfl, _, Tryz.underlying88, rfl, ⟨_, rfl, rfl, by decide⟩⟩
theorem tf89 : TFacts Tryz.prog 89 ⟨1, 24, false, [Value.slice none 0 0], .sl 104⟩ := ⟨by kernel_rfl, _, Tryz.underlying89, rfl, rfl⟩
theorem tf90 : TFacts Tryz.prog 90 ⟨3, 48, true, [Value.string ⟨#[]⟩, Value.slice none 0 0, Value.bool false], .st [(0, 9), (1, 89), (2, 4)]⟩ := ⟨by kernel_rfl, _, Tryz.underlying90, rfl, ⟨_, rfl, rfl, by decide⟩⟩
theorem tf91 : TFacts Tryz.prog 91 ⟨3, 48, true, [Value.string ⟨#[]⟩, Value.slice none 0 0, Value.bool false], .st [(0, 9), (1, 89), (2, 4)]⟩ := ⟨by kernel_rfl, _, Tryz.underlying91, rfl, ⟨_, rfl, rfl, by decide⟩⟩
theorem tf92 : TFacts Tryz.prog 92 ⟨3, 32, true, [Value.bool false, Value.string ⟨#[]⟩, Value.int .u32 0], .st [(0, 4), (1, 9), (2, 36)]⟩ := ⟨by kernel_rfl, _, Tryz.underlying92, rfl, ⟨_, rfl, rfl, by decide⟩⟩
theorem tf93 : TFacts Tryz.prog 93 ⟨3, 32, true, [Value.bool false, Value.string ⟨#[]⟩, Value.int .u32 0], .st [(0, 4), (1, 9), (2, 36)]⟩ := ⟨by kernel_rfl, _, Tryz.underlying93, rfl, ⟨_, rfl, rfl, by decide⟩⟩
theorem tf94 : TFacts Tryz.prog 94 ⟨2, 16, true, [Value.int .u32 0, Value.int .i64 0], .st [(0, 36), (1, 3)]⟩ := ⟨by kernel_rfl, _, Tryz.underlying94, rfl, ⟨_, rfl, rfl, by decide⟩⟩
theorem tf95 : TFacts Tryz.prog 95 ⟨2, 16, true, [Value.int .u32 0, Value.int .i64 0], .st [(0, 36), (1, 3)]⟩ := ⟨by kernel_rfl, _, Tryz.underlying95, rfl, ⟨_, rfl, rfl, by decide⟩⟩
theorem tf96 : TFacts Tryz.prog 96 ⟨7, 56, true, [Value.string ⟨#[]⟩, Value.int .u32 0, Value.int .i64 0, Value.int .u32 0, Value.bool false, Value.int .i64 0, Value.int .i64 0], .st [(0, 9), (1, 95), (3, 36), (4, 4), (5, 3), (6, 3)]⟩ := ⟨by kernel_rfl, _, Tryz.underlying96, rfl, ⟨_, rfl, rfl, by decide⟩⟩
theorem tf97 : TFacts Tryz.prog 97 ⟨7, 56, true, [Value.string ⟨#[]⟩, Value.int .u32 0, Value.int .i64 0, Value.int .u32 0, Value.bool false, Value.int .i64 0, Value.int .i64 0], .st [(0, 9), (1, 95), (3, 36), (4, 4), (5, 3), (6, 3)]⟩ := ⟨by kernel_rfl, _, Tryz.underlying97, rfl, ⟨_, rfl, rfl, by decide⟩⟩
theorem tf98 : TFacts Tryz.prog 98 ⟨1, 8, false, [Value.nilFunc], .fu⟩ := ⟨by kernel_rfl, _, Tryz.underlying98, rfl, ⟨_, _, _, rfl⟩⟩
theorem tf99 : TFacts Tryz.prog 99 ⟨1, 8, false, [Value.nilFunc], .fu⟩ := ⟨by kernel_rfl, _, Tryz.underlying99, rfl, ⟨_, _, _, rfl⟩⟩
theorem tf100 : TFacts Tryz.prog 100 ⟨1, 24, false, [Value.slice none 0 0], .sl 35⟩ := ⟨by kernel_rfl, _, Tryz.underlying100, rfl, rfl⟩
theorem tf101 : TFacts Tryz.prog 101 ⟨2, 32, true, [Value.bool false, Value.slice none 0 0], .st [(0, 4), (1, 100)]⟩ := ⟨by kernel_rfl, _, Tryz.underlying101, rfl, ⟨_, rfl, rfl, by decide⟩⟩
theorem tf102 : TFacts Tryz.prog 102 ⟨2, 32, true, [Value.bool false, Value.slice none 0 0], .st [(0, 4), (1, 100)]⟩ := ⟨by kernel_rfl, _, Tryz.underlying102, rfl, ⟨_, rfl, rfl, by decide⟩⟩
theorem tf103 : TFacts Tryz.prog 103 ⟨15, 168, true, [Value.int .i64 0, Value.int .u8 0, Value.string ⟨#[]⟩, Value.string ⟨#[]⟩, Value.int .i64 0, Value.int .i64 0, Value.int .i64 0, Value.int .i64 0, Value.int .i64 0, Value.int .i64 0, Value.slice none 0 0, Value.bool false, Value.slice none 0 0, Value.int .u32 0, Value.int .i64 0], .st [(0, 3), (1, 5), (2, 9), (3, 9), (4, 3), (5, 3), (6, 3), (7, 3), (8, 3), (9, 3), (10, 100), (11, 4), (12, 100), (13, 36), (14, 3)]⟩ := ⟨by kernel_rfl, _, Tryz.underlying103, rfl, ⟨_, rfl, rfl, by decide⟩⟩
theorem tf104 : TFacts Tryz.prog 104 ⟨15, 168, true, [Value.int .i64 0, Value.int .u8 0, Value.string ⟨#[]⟩, Value.string ⟨#[]⟩, Value.int .i64 0, Value.int .i64 0, Value.int .i64 0, Value.int .i64 0, Value.int .i64 0, Value.int .i64 0, Value.slice none 0 0, Value.bool false, Value.slice none 0 0, Value.int .u32 0, Value.int .i64 0], .st [(0, 3), (1, 5), (2, 9), (3, 9), (4, 3), (5, 3), (6, 3), (7, 3), (8, 3), (9, 3), (10, 100), (11, 4), (12, 100), (13, 36), (14, 3)]⟩ := ⟨by kernel_rfl, _, Tryz.underlying104, rfl, ⟨_, rfl, rfl, by decide⟩⟩
theorem tf105 : TFacts Tryz.prog 105 ⟨2, 8, true, [Value.int .u32 0, Value.int .u32 0], .st [(0, 35), (1, 35)]⟩ := ⟨by kernel_rfl, _, Tryz.underlying105, rfl, ⟨_, rfl, rfl, by decide⟩⟩
theorem tf106 : TFacts Tryz.prog 106 ⟨2, 8, true, [Value.int .u32 0, Value.int .u32 0], .st [(0, 35), (1, 35)]⟩ := ⟨by kernel_rfl, _, Tryz.underlying106, rfl, ⟨_, rfl, rfl, by decide⟩⟩
theorem tf107 : TFacts Tryz.prog 107 ⟨10, 64, true, [Value.bool false, Value.int .i64 0, Value.int .u32 0, Value.int .i64 0, Value.int .u32 0, Value.int .i64 0, Value.int .u32 0, Value.int .u32 0, Value.int .u32 0, Value.int .u32 0], .st [(0, 4), (1, 3), (2, 95), (4, 95), (6, 106), (8, 106)]⟩ := ⟨by kernel_rfl, _, Tryz.underlying107, rfl, ⟨_, rfl, rfl, by decide⟩⟩
theorem tf108 : TFacts Tryz.prog 108 ⟨10, 64, true, [Value.bool false, Value.int .i64 0, Value.int .u32 0, Value.int .i64 0, Value.int .u32 0, Value.int .i64 0, Value.int .u32 0, Value.int .u32 0, Value.int .u32 0, Value.int .u32 0], .st [(0, 4), (1, 3), (2, 95), (4, 95), (6, 106), (8, 106)]⟩ := ⟨by kernel_rfl, _, Tryz.underlying108, rfl, ⟨_, rfl, rfl, by decide⟩⟩
theorem tf109 : TFacts Tryz.prog 109 ⟨5, 40, true, [Value.bool false, Value.int .u32 0, Value.int .i64 0, Value.int .i64 0, Value.int .i64 0], .st [(0, 4), (1, 95), (3, 3), (4, 3)]⟩ := ⟨by kernel_rfl, _, Tryz.underlying109, rfl, ⟨_, rfl, rfl, by decide⟩⟩
theorem tf110 : TFacts Tryz.prog 110 ⟨5, 40, true, [Value.bool false, Value.int .u32 0, Value.int .i64 0, Value.int .i64 0, Value.int .i64 0], .st [(0, 4), (1, 95), (3, 3), (4, 3)]⟩ := ⟨by kernel_rfl, _, Tryz.underlying110, rfl, ⟨_, rfl, rfl, by decide⟩⟩
theorem tf111 : TFacts Tryz.prog 111 ⟨4, 40, true, [Value.int .u8 0, Value.int .i64 0, Value.int .u8 0, Value.string ⟨#[]⟩], .st [(0, 5), (1, 3), (2, 5), (3, 9)]⟩ := ⟨by kernel_rfl, _, Tryz.underlying111, rfl, ⟨_, rfl, rfl, by decide⟩⟩
theorem tf112 : TFacts Tryz.prog 112 ⟨4, 40, true, [Value.int .u8 0, Value.int .i64 0, Value.int .u8 0, Value.string ⟨#[]⟩], .st [(0, 5), (1, 3), (2, 5), (3, 9)]⟩ := ⟨by kernel_rfl, _, Tryz.underlying112, rfl, ⟨_, rfl, rfl, by decide⟩⟩
theorem tf113 : TFacts Tryz.prog 113 ⟨6, 48, true, [Value.int .u32 0, Value.int .u32 0, Value.string ⟨#[]⟩, Value.string ⟨#[]⟩, Value.bool false, Value.bool false], .st [(0, 36), (1, 35), (2, 9), (3, 9), (4, 4), (5, 4)]⟩ := ⟨by kernel_rfl, _, Tryz.underlying113, rfl, ⟨_, rfl, rfl, by decide⟩⟩
theorem tf114 : TFacts Tryz.prog 114 ⟨6, 48, true, [Value.int .u32 0, Value.int .u32 0, Value.string ⟨#[]⟩, Value.string ⟨#[]⟩, Value.bool false, Value.bool false], .st [(0, 36), (1, 35), (2, 9), (3, 9), (4, 4), (5, 4)]⟩ := ⟨by kernel_rfl, _, Tryz.underlying114, rfl, ⟨_, rfl, rfl, by decide⟩⟩
theorem tf115 : TFacts Tryz.prog 115 ⟨1, 8, false, [Value.nilFunc], .fu⟩ := ⟨by kernel_rfl, _, Tryz.underlying115, rfl, ⟨_, _, _, rfl⟩⟩
theorem tf116 : TFacts Tryz.prog 116 ⟨1, 8, false, [Value.nilFunc], .fu⟩ := ⟨by kernel_rfl, _, Tryz.underlying116, rfl, ⟨_, _, _, rfl⟩⟩
theorem tf117 : TFacts Tryz.prog 117 ⟨1, 8, false, [Value.nilFunc], .fu⟩ := ⟨by kernel_rfl, _, Tryz.underlying117, rfl, ⟨_, _, _, rfl⟩⟩
theorem tf118 : TFacts Tryz.prog 118 ⟨1, 8, false, [Value.nilFunc], .fu⟩ := ⟨by kernel_rfl, _, Tryz.underlying118, rfl, ⟨_, _, _, rfl⟩⟩
theorem tf119 : TFacts Tryz.prog 119 ⟨1, 8, false, [Value.nilFunc], .fu⟩ := ⟨by kernel_rfl, _, Tryz.underlying119, rfl, ⟨_, _, _, rfl⟩⟩
theorem tf120 : TFacts Tryz.prog 120 ⟨1, 8, false, [Value.nilFunc], .fu⟩ := ⟨by kernel_rfl, _, Tryz.underlying120, rfl, ⟨_, _, _, rfl⟩⟩
theorem tf121 : TFacts Tryz.prog 121 ⟨1, 8, false, [Value.nilFunc], .fu⟩ := ⟨by kernel_rfl, _, Tryz.underlying121, rfl, ⟨_, _, _, rfl⟩⟩
theorem tf122 : TFacts Tryz.prog 122 ⟨1, 8, false, [Value.nilFunc], .fu⟩ := ⟨by kernel_rfl, _, Tryz.underlying122, rfl, ⟨_, _, _, rfl⟩⟩
theorem tf123 : TFacts Tryz.prog 123 ⟨1, 8, false, [Value.nilFunc], .fu⟩ := ⟨by kernel_rfl, _, Tryz.underlying123, rfl, ⟨_, _, _, rfl⟩⟩
theorem tf124 : TFacts Tryz.prog 124 ⟨1, 8, false, [Value.nilFunc], .fu⟩ := ⟨by kernel_rfl, _, Tryz.underlying124, rfl, ⟨_, _, _, rfl⟩⟩
theorem tf125 : TFacts Tryz.prog 125 ⟨1, 8, false, [Value.nilFunc], .fu⟩ := ⟨by kernel_rfl, _, Tryz.underlying125, rfl, ⟨_, _, _, rfl⟩⟩
theorem tf126 : TFacts Tryz.prog 126 ⟨1, 8, false, [Value.nilFunc], .fu⟩ := ⟨by kernel_rfl, _, Tryz.underlying126, rfl, ⟨_, _, _, rfl⟩⟩
theorem tf127 : TFacts Tryz.prog 127 ⟨1, 8, false, [Value.nilFunc], .fu⟩ := ⟨by kernel_rfl, _, Tryz.underlying127, rfl, ⟨_, _, _, rfl⟩⟩
theorem tf128 : TFacts Tryz.prog 128 ⟨1, 8, false, [Value.nilFunc], .fu⟩ := ⟨by kernel_rfl, _, Tryz.underlying128, rfl, ⟨_, _, _, rfl⟩⟩
theorem tf129 : TFacts Tryz.prog 129 ⟨1, 8, false, [Value.nilFunc], .fu⟩ := ⟨by kernel_rfl, _, Tryz.underlying129, rfl, ⟨_, _, _, rfl⟩⟩
theorem tf130 : TFacts Tryz.prog 130 ⟨1, 8, false, [Value.nilFunc], .fu⟩ := ⟨by kernel_rfl, _, Tryz.underlying130, rfl, ⟨_, _, _, rfl⟩⟩
theorem tf131 : TFacts Tryz.prog 131 ⟨1, 8, false, [Value.nilFunc], .fu⟩ := ⟨by kernel_rfl, _, Tryz.underlying131, rfl, ⟨_, _, _, rfl⟩⟩
theorem tf132 : TFacts Tryz.prog 132 ⟨1, 8, false, [Value.nilFunc], .fu⟩ := ⟨by kernel_rfl, _, Tryz.underlying132, rfl, ⟨_, _, _, rfl⟩⟩
theorem tf133 : TFacts Tryz.prog 133 ⟨1, 8, false, [Value.nilFunc], .fu⟩ := ⟨by kernel_rfl, _, Tryz.underlying133, rfl, ⟨_, _, _, rfl⟩⟩
theorem tf134 : TFacts Tryz.prog 134 ⟨1, 8, false, [Value.nilFunc], .fu⟩ := ⟨by kernel_rfl, _, Tryz.underlying134, rfl, ⟨_, _, _, rfl⟩⟩
theorem tf135 : TFacts Tryz.prog 135 ⟨1, 8, false, [Value.nilFunc], .fu⟩ := ⟨by kernel_rfl, _, Tryz.underlying135, rfl, ⟨_, _, _, rfl⟩⟩
theorem tf136 : TFacts Tryz.prog 136 ⟨1, 8, false, [Value.nilFunc], .fu⟩ := ⟨by kernel_rfl, _, Tryz.underlying136, rfl, ⟨_, _, _, rfl⟩⟩
theorem tf137 : TFacts Tryz.prog 137 ⟨1, 8, false, [Value.nilFunc], .fu⟩ := ⟨by kernel_rfl, _, Tryz.underlying137, rfl, ⟨_, _, _, rfl⟩⟩
theorem tf138 : TFacts Tryz.prog 138 ⟨1, 8, false, [Value.nilFunc], .fu⟩ := ⟨by kernel_rfl, _, Tryz.underlying138, rfl, ⟨_, _, _, rfl⟩⟩
theorem tf139 : TFacts Tryz.prog 139 ⟨1, 8, false, [Value.nilFunc], .fu⟩ := ⟨by kernel_rfl, _, Tryz.underlying139, rfl, ⟨_, _, _, rfl⟩⟩
theorem tf140 : TFacts Tryz.prog 140 ⟨1, 8, false, [Value.nilFunc], .fu⟩ := ⟨by kernel_rfl, _, Tryz.underlying140, rfl, ⟨_, _, _, rfl⟩⟩
theorem tf141 : TFacts Tryz.prog 141 ⟨1, 8, false, [Value.nilFunc], .fu⟩ := ⟨by kernel_rfl, _, Tryz.underlying141, rfl, ⟨_, _, _, rfl⟩⟩
theorem tf142 : TFacts Tryz.prog 142 ⟨1, 8, false, [Value.nilFunc], .fu⟩ := ⟨by kernel_rfl, _, Tryz.underlying142, rfl, ⟨_, _, _, rfl⟩⟩
theorem tf143 : TFacts Tryz.prog 143 ⟨1, 8, false, [Value.nilFunc], .fu⟩ := ⟨by kernel_rfl, _, Tryz.underlying143, rfl, ⟨_, _, _, rfl⟩⟩
theorem tf144 : TFacts Tryz.prog 144 ⟨1, 8, false, [Value.nilFunc], .fu⟩ := ⟨by kernel_rfl, _, Tryz.underlying144, rfl, ⟨_, _, _, rfl⟩⟩
theorem tf145 : TFacts Tryz.prog 145 ⟨1, 8, false, [Value.nilFunc], .fu⟩ := ⟨by kernel_rfl, _, Tryz.underlying145, rfl, ⟨_, _, _, rfl⟩⟩
theorem tf146 : TFacts Tryz.prog 146 ⟨1, 8, false, [Value.nilFunc], .fu⟩ := ⟨by kernel_rfl, _, Tryz.underlying146, rfl, ⟨_, _, _, rfl⟩⟩
theorem tf147 : TFacts Tryz.prog 147 ⟨1, 8, false, [Value.nilFunc], .fu⟩ := ⟨by kernel_rfl, _, Tryz.underlying147, rfl, ⟨_, _, _, rfl⟩⟩
theorem tf148 : TFacts Tryz.prog 148 ⟨1, 8, false, [Value.nilFunc], .fu⟩ := ⟨by kernel_rfl, _, Tryz.underlying148, rfl, ⟨_, _, _, rfl⟩⟩
theorem tf149 : TFacts Tryz.prog 149 ⟨1, 8, false, [Value.nilFunc], .fu⟩ := ⟨by kernel_rfl, _, Tryz.underlying149, rfl, ⟨_, _, _, rfl⟩⟩
theorem tf150 : TFacts Tryz.prog 150 ⟨1, 8, false, [Value.nilFunc], .fu⟩ := ⟨by kernel_rfl, _, Tryz.underlying150, rfl, ⟨_, _, _, rfl⟩⟩
theorem tf151 : TFacts Tryz.prog 151 ⟨1, 8, false, [Value.nilFunc], .fu⟩ := ⟨by kernel_rfl, _, Tryz.underlying151, rfl, ⟨_, _, _, rfl⟩⟩
theorem tf152 : TFacts Tryz.prog 152 ⟨1, 8, false, [Value.nilFunc], .fu⟩ := ⟨by kernel_rfl, _, Tryz.underlying152, rfl, ⟨_, _, _, rfl⟩⟩
theorem tf153 : TFacts Tryz.prog 153 ⟨1, 8, false, [Value.nilFunc], .fu⟩ := ⟨by kernel_rfl, _, Tryz.underlying153, rfl, ⟨_, _, _, rfl⟩⟩
theorem tf154 : TFacts Tryz.prog 154 ⟨1, 8, false, [Value.nilFunc], .fu⟩ := ⟨by kernel_rfl, _, Tryz.underlying154, rfl, ⟨_, _, _, rfl⟩⟩
theorem tf155 : TFacts Tryz.prog 155 ⟨1, 8, false, [Value.nilFunc], .fu⟩ := ⟨by kernel_rfl, _, Tryz.underlying155, rfl, ⟨_, _, _, rfl⟩⟩
theorem tf156 : TFacts Tryz.prog 156 ⟨1, 8, false, [Value.nilFunc], .fu⟩ := ⟨by kernel_rfl, _, Tryz.underlying156, rfl, ⟨_, _, _, rfl⟩⟩
theorem tf157 : TFacts Tryz.prog 157 ⟨1, 8, false, [Value.nilFunc], .fu⟩ := ⟨by kernel_rfl, _, Tryz.underlying157, rfl, ⟨_, _, _, rfl⟩⟩
theorem tf158 : TFacts Tryz.prog 158 ⟨1, 8, false, [Value.nilFunc], .fu⟩ := ⟨by kernel_rfl, _, Tryz.underlying158, rfl, ⟨_, _, _, rfl⟩⟩
theorem tf159 : TFacts Tryz.prog 159 ⟨1, 8, false, [Value.nilFunc], .fu⟩ := ⟨by kernel_rfl, _, Tryz.underlying159, rfl, ⟨_, _, _, rfl⟩⟩
theorem tf160 : TFacts Tryz.prog 160 ⟨1, 8, false, [Value.nilFunc], .fu⟩ := ⟨by kernel_rfl, _, Tryz.underlying160, rfl, ⟨_, _, _, rfl⟩⟩
theorem tf161 : TFacts Tryz.prog 161 ⟨1, 8, false, [Value.nilFunc], .fu⟩ := ⟨by kernel_rfl, _, Tryz.underlying161, rfl, ⟨_, _, _, rfl⟩⟩
theorem tf162 : TFacts Tryz.prog 162 ⟨1, 8, false, [Value.nilFunc], .fu⟩ := ⟨by kernel_rfl, _, Tryz.underlying162, rfl, ⟨_, _, _, rfl⟩⟩
theorem tf163 : TFacts Tryz.prog 163 ⟨1, 8, false, [Value.nilFunc], .fu⟩ := ⟨by kernel_rfl, _, Tryz.underlying163, rfl, ⟨_, _, _, rfl⟩⟩
theorem tf164 : TFacts Tryz.prog 164 ⟨1, 8, false, [Value.nilFunc], .fu⟩ := ⟨by kernel_rfl, _, Tryz.underlying164, rfl, ⟨_, _, _, rfl⟩⟩
theorem tf165 : TFacts Tryz.prog 165 ⟨1, 8, false, [Value.nilFunc], .fu⟩ := ⟨by kernel_rfl, _, Tryz.underlying165, rfl, ⟨_, _, _, rfl⟩⟩
theorem tf166 : TFacts Tryz.prog 166 ⟨1, 8, false, [Value.nilFunc], .fu⟩ := ⟨by kernel_rfl, _, Tryz.underlying166, rfl, ⟨_, _, _, rfl⟩⟩
theorem tf167 : TFacts Tryz.prog 167 ⟨1, 8, false, [Value.nilFunc], .fu⟩ := ⟨by kernel_rfl, _, Tryz.underlying167, rfl, ⟨_, _, _, rfl⟩⟩
theorem tf168 : TFacts Tryz.prog 168 ⟨1, 8, false, [Value.nilFunc], .fu⟩ := ⟨by kernel_rfl, _, Tryz.underlying168, rfl, ⟨_, _, _, rfl⟩⟩
theorem tf169 : TFacts Tryz.prog 169 ⟨1, 8, false, [Value.nilFunc], .fu⟩ := ⟨by kernel_rfl, _, Tryz.underlying169, rfl, ⟨_, _, _, rfl⟩⟩
theorem tf170 : TFacts Tryz.prog 170 ⟨1, 8, false, [Value.nilFunc], .fu⟩ := ⟨by kernel_rfl, _, Tryz.underlying170, rfl, ⟨_, _, _, rfl⟩⟩
theorem tf171 : TFacts Tryz.prog 171 ⟨1, 8, false, [Value.nilFunc], .fu⟩ := ⟨by kernel_rfl, _, Tryz.underlying171, rfl, ⟨_, _, _, rfl⟩⟩
theorem tf172 : TFacts Tryz.prog 172 ⟨1, 8, false, [Value.nilFunc], .fu⟩ := ⟨by kernel_rfl, _, Tryz.underlying172, rfl, ⟨_, _, _, rfl⟩⟩
theorem tf173 : TFacts Tryz.prog 173 ⟨1, 8, false, [Value.nilFunc], .fu⟩ := ⟨by kernel_rfl, _, Tryz.underlying173, rfl, ⟨_, _, _, rfl⟩⟩
theorem tf174 : TFacts Tryz.prog 174 ⟨1, 8, false, [Value.nilFunc], .fu⟩ := ⟨by kernel_rfl, _, Tryz.underlying174, rfl, ⟨_, _, _, rfl⟩⟩
theorem tf175 : TFacts Tryz.prog 175 ⟨1, 8, false, [Value.nilFunc], .fu⟩ := ⟨by kernel_rfl, _, Tryz.underlying175, rfl, ⟨_, _, _, rfl⟩⟩
theorem tf176 : TFacts Tryz.prog 176 ⟨1, 8, false, [Value.nilFunc], .fu⟩ := ⟨by kernel_rfl, _, Tryz.underlying176, rfl, ⟨_, _, _, rfl⟩⟩
theorem tf177 : TFacts Tryz.prog 177 ⟨1, 8, false, [Value.nilFunc], .fu⟩ := ⟨by kernel_rfl, _, Tryz.underlying177, rfl, ⟨_, _, _, rfl⟩⟩
theorem tf178 : TFacts Tryz.prog 178 ⟨1, 8, false, [Value.nilFunc], .fu⟩ := ⟨by kernel_rfl, _, Tryz.underlying178, rfl, ⟨_, _, _, rfl⟩⟩
theorem tf179 : TFacts Tryz.prog 179 ⟨1, 8, false, [Value.nilFunc], .fu⟩ := ⟨by kernel_rfl, _, Tryz.underlying179, rfl, ⟨_, _, _, rfl⟩⟩
theorem tf180 : TFacts Tryz.prog 180 ⟨1, 8, false, [Value.nilFunc], .fu⟩ := ⟨by kernel_rfl, _, Tryz.underlying180, rfl, ⟨_, _, _, rfl⟩⟩
theorem tf181 : TFacts Tryz.prog 181 ⟨1, 8, false, [Value.nilFunc], .fu⟩ := ⟨by kernel_rfl, _, Tryz.underlying181, rfl, ⟨_, _, _, rfl⟩⟩
theorem tf182 : TFacts Tryz.prog 182 ⟨1, 8, false, [Value.nilFunc], .fu⟩ := ⟨by kernel_rfl, _, Tryz.underlying182, rfl, ⟨_, _, _, rfl⟩⟩
theorem tf183 : TFacts Tryz.prog 183 ⟨1, 8, false, [Value.nilFunc], .fu⟩ := ⟨by kernel_rfl, _, Tryz.underlying183, rfl, ⟨_, _, _, rfl⟩⟩
theorem tf184 : TFacts Tryz.prog 184 ⟨5, 40, true, [Value.map none, Value.map none, Value.map none, Value.map none, Value.map none], .st [(0, 68), (1, 68), (2, 68), (3, 68), (4, 68)]⟩ := ⟨by kernel_rfl, _, Tryz.underlying184, rfl, ⟨_, rfl, rfl, by decide⟩⟩
theorem tf185 : TFacts Tryz.prog 185 ⟨5, 40, true, [Value.map none, Value.map none, Value.map none, Value.map none, Value.map none], .st [(0, 68), (1, 68), (2, 68), (3, 68), (4, 68)]⟩ := ⟨by kernel_rfl, _, Tryz.underlying185, rfl, ⟨_, rfl, rfl, by decide⟩⟩
theorem tf186 : TFacts Tryz.prog 186 ⟨1, 8, false, [Value.nilFunc], .fu⟩ := ⟨by kernel_rfl, _, Tryz.underlying186, rfl, ⟨_, _, _, rfl⟩⟩
theorem tf187 : TFacts Tryz.prog 187 ⟨1, 8, false, [Value.nilFunc], .fu⟩ := ⟨by kernel_rfl, _, Tryz.underlying187, rfl, ⟨_, _, _, rfl⟩⟩
theorem tf188 : TFacts Tryz.prog 188 ⟨1, 8, false, [Value.nilFunc], .fu⟩ := ⟨by kernel_rfl, _, Tryz.underlying188, rfl, ⟨_, _, _, rfl⟩⟩
theorem tf189 : TFacts Tryz.prog 189 ⟨1, 8, false, [Value.nilFunc], .fu⟩ := ⟨by kernel_rfl, _, Tryz.underlying189, rfl, ⟨_, _, _, rfl⟩⟩
theorem tf190 : TFacts Tryz.prog 190 ⟨1, 8, false, [Value.nilFunc], .fu⟩ := ⟨by kernel_rfl, _, Tryz.underlying190, rfl, ⟨_, _, _, rfl⟩⟩
theorem tf191 : TFacts Tryz.prog 191 ⟨1, 8, false, [Value.nilFunc], .fu⟩ := ⟨by kernel_rfl, _, Tryz.underlying191, rfl, ⟨_, _, _, rfl⟩⟩
theorem tf192 : TFacts Tryz.prog 192 ⟨1, 8, false, [Value.nilFunc], .fu⟩ := ⟨by kernel_rfl, _, Tryz.underlying192, rfl, ⟨_, _, _, rfl⟩⟩
theorem tf193 : TFacts Tryz.prog 193 ⟨1, 8, false, [Value.nilFunc], .fu⟩ := ⟨by kernel_rfl, _, Tryz.underlying193, rfl, ⟨_, _, _, rfl⟩⟩
theorem tf194 : TFacts Tryz.prog 194 ⟨1, 8, false, [Value.nilFunc], .fu⟩ := ⟨by kernel_rfl, _, Tryz.underlying194, rfl, ⟨_, _, _, rfl⟩⟩
theorem tf195 : TFacts Tryz.prog 195 ⟨1, 8, false, [Value.nilFunc], .fu⟩ := ⟨by kernel_rfl, _, Tryz.underlying195, rfl, ⟨_, _, _, rfl⟩⟩
theorem tf196 : TFacts Tryz.prog 196 ⟨1, 8, false, [Value.nilFunc], .fu⟩ := ⟨by kernel_rfl, _, Tryz.underlying196, rfl, ⟨_, _, _, rfl⟩⟩
theorem tf197 : TFacts Tryz.prog 197 ⟨1, 8, false, [Value.nilFunc], .fu⟩ := ⟨by kernel_rfl, _, Tryz.underlying197, rfl, ⟨_, _, _, rfl⟩⟩
theorem tf199 : TFacts Tryz.prog 199 ⟨1, 8, false, [Value.nilFunc], .fu⟩ := ⟨by kernel_rfl, _, Tryz.underlying199, rfl, ⟨_, _, _, rfl⟩⟩
theorem tf200 : TFacts Tryz.prog 200 ⟨1, 8, false, [Value.nilFunc], .fu⟩ := ⟨by kernel_rfl, _, Tryz.underlying200, rfl, ⟨_, _, _, rfl⟩⟩
theorem tf201 : TFacts Tryz.prog 201 ⟨1, 8, false, [Value.nilFunc], .fu⟩ := ⟨by kernel_rfl, _, Tryz.underlying201, rfl, ⟨_, _, _, rfl⟩⟩
theorem tf202 : TFacts Tryz.prog 202 ⟨1, 8, false, [Value.nilFunc], .fu⟩ := ⟨by kernel_rfl, _, Tryz.underlying202, rfl, ⟨_, _, _, rfl⟩⟩
theorem tf203 : TFacts Tryz.prog 203 ⟨1, 8, false, [Value.nilFunc], .fu⟩ := ⟨by kernel_rfl, _, Tryz.underlying203, rfl, ⟨_, _, _, rfl⟩⟩
theorem tf204 : TFacts Tryz.prog 204 ⟨1, 8, false, [Value.nilFunc], .fu⟩ := ⟨by kernel_rfl, _, Tryz.underlying204, rfl, ⟨_, _, _, rfl⟩⟩
theorem tf205 : TFacts Tryz.prog 205 ⟨1, 8, false, [Value.nilFunc], .fu⟩ := ⟨by kernel_rfl, _, Tryz.underlying205, rfl, ⟨_, _, _, rfl⟩⟩
theorem tf206 : TFacts Tryz.prog 206 ⟨1, 8, false, [Value.int .u64 0], .it .u64⟩ := ⟨by kernel_rfl, _, Tryz.underlying206, rfl, rfl⟩
theorem tf207 : TFacts Tryz.prog 207 ⟨1, 8, false, [Value.nilFunc], .fu⟩ := ⟨by kernel_rfl, _, Tryz.underlying207, rfl, ⟨_, _, _, rfl⟩⟩
theorem tf208 : TFacts Tryz.prog 208 ⟨1, 8, false, [Value.nilFunc], .fu⟩ := ⟨by kernel_rfl, _, Tryz.underlying208, rfl, ⟨_, _, _, rfl⟩⟩
theorem tf209 : TFacts Tryz.prog 209 ⟨1, 8, false, [Value.nilFunc], .fu⟩ := ⟨by kernel_rfl, _, Tryz.underlying209, rfl, ⟨_, _, _, rfl⟩⟩
theorem tf210 : TFacts Tryz.prog 210 ⟨1, 8, false, [Value.nilFunc], .fu⟩ := ⟨by kernel_rfl, _, Tryz.underlying210, rfl, ⟨_, _, _, rfl⟩⟩
theorem tf211 : TFacts Tryz.prog 211 ⟨1, 8, false, [Value.nilFunc], .fu⟩ := ⟨by kernel_rfl, _, Tryz.underlying211, rfl, ⟨_, _, _, rfl⟩⟩
theorem tf212 : TFacts Tryz.prog 212 ⟨1, 8, false, [Value.nilFunc], .fu⟩ := ⟨by kernel_rfl, _, Tryz.underlying212, rfl, ⟨_, _, _, rfl⟩⟩
theorem tf213 : TFacts Tryz.prog 213 ⟨1, 8, false, [Value.nilFunc], .fu⟩ := ⟨by kernel_rfl, _, Tryz.underlying213, rfl, ⟨_, _, _, rfl⟩⟩
theorem tf214 : TFacts Tryz.prog 214 ⟨1, 8, false, [Value.nilFunc], .fu⟩ := ⟨by kernel_rfl, _, Tryz.underlying214, rfl, ⟨_, _, _, rfl⟩⟩
theorem tf215 : TFacts Tryz.prog 215 ⟨1, 8, false, [Value.nilFunc], .fu⟩ := ⟨by kernel_rfl, _, Tryz.underlying215, rfl, ⟨_, _, _, rfl⟩⟩
theorem tf216 : TFacts Tryz.prog 216 ⟨1, 8, false, [Value.nilFunc], .fu⟩ := ⟨by kernel_rfl, _, Tryz.underlying216, rfl, ⟨_, _, _, rfl⟩⟩
theorem tf217 : TFacts Tryz.prog 217 ⟨1, 8, false, [Value.nilFunc], .fu⟩ := ⟨by kernel_rfl, _, Tryz.underlying217, rfl, ⟨_, _, _, rfl⟩⟩
theorem tf218 : TFacts Tryz.prog 218 ⟨1, 8, false, [Value.nilFunc], .fu⟩ := ⟨by kernel_rfl, _, Tryz.underlying218, rfl, ⟨_, _, _, rfl⟩⟩
theorem tf219 : TFacts Tryz.prog 219 ⟨1, 8, false, [Value.nilFunc], .fu⟩ := ⟨by kernel_rfl, _, Tryz.underlying219, rfl, ⟨_, _, _, rfl⟩⟩
theorem tf220 : TFacts Tryz.prog 220 ⟨1, 8, false, [Value.nilFunc], .fu⟩ := ⟨by kernel_rfl, _, Tryz.underlying220, rfl, ⟨_, _, _, rfl⟩⟩
theorem tf221 : TFacts Tryz.prog 221 ⟨1, 8, false, [Value.nilFunc], .fu⟩ := ⟨by kernel_rfl, _, Tryz.underlying221, rfl, ⟨_, _, _, rfl⟩⟩
theorem tf222 : TFacts Tryz.prog 222 ⟨1, 8, false, [Value.nilFunc], .fu⟩ := ⟨by kernel_rfl, _, Tryz.underlying222, rfl, ⟨_, _, _, rfl⟩⟩
theorem tf223 : TFacts Tryz.prog 223 ⟨1, 8, false, [Value.nilFunc], .fu⟩ := ⟨by kernel_rfl, _, Tryz.underlying223, rfl, ⟨_, _, _, rfl⟩⟩
theorem tf224 : TFacts Tryz.prog 224 ⟨1, 8, false, [Value.nilFunc], .fu⟩ := ⟨by kernel_rfl, _, Tryz.underlying224, rfl, ⟨_, _, _, rfl⟩⟩
theorem tf225 : TFacts Tryz.prog 225 ⟨1, 8, false, [Value.nilFunc], .fu⟩ := ⟨by kernel_rfl, _, Tryz.underlying225, rfl, ⟨_, _, _, rfl⟩⟩
theorem tf226 : TFacts Tryz.prog 226 ⟨1, 8, false, [Value.nilFunc], .fu⟩ := ⟨by kernel_rfl, _, Tryz.underlying226, rfl, ⟨_, _, _, rfl⟩⟩
theorem tf227 : TFacts Tryz.prog 227 ⟨1, 8, false, [Value.nilFunc], .fu⟩ := ⟨by kernel_rfl, _, Tryz.underlying227, rfl, ⟨_, _, _, rfl⟩⟩
theorem tf228 : TFacts Tryz.prog 228 ⟨1, 8, false, [Value.nilFunc], .fu⟩ := ⟨by kernel_rfl, _, Tryz.underlying228, rfl, ⟨_, _, _, rfl⟩⟩
theorem tf229 : TFacts Tryz.prog 229 ⟨1, 8, false, [Value.nilFunc], .fu⟩ := ⟨by kernel_rfl, _, Tryz.underlying229, rfl, ⟨_, _, _, rfl⟩⟩
theorem tf230 : TFacts Tryz.prog 230 ⟨1, 8, false, [Value.nilFunc], .fu⟩ := ⟨by kernel_rfl, _, Tryz.underlying230, rfl, ⟨_, _, _, rfl⟩⟩
theorem tf231 : TFacts Tryz.prog 231 ⟨1, 8, false, [Value.nilFunc], .fu⟩ := ⟨by kernel_rfl, _, Tryz.underlying231, rfl, ⟨_, _, _, rfl⟩⟩
theorem tf232 : TFacts Tryz.prog 232 ⟨1, 8, false, [Value.nilFunc], .fu⟩ := ⟨by kernel_rfl, _, Tryz.underlying232, rfl, ⟨_, _, _, rfl⟩⟩
theorem tf233 : TFacts Tryz.prog 233 ⟨1, 8, false, [Value.nilFunc], .fu⟩ := ⟨by kernel_rfl, _, Tryz.underlying233, rfl, ⟨_, _, _, rfl⟩⟩
theorem tf234 : TFacts Tryz.prog 234 ⟨1, 8, false, [Value.nilFunc], .fu⟩ := ⟨by kernel_rfl, _, Tryz.underlying234, rfl, ⟨_, _, _, rfl⟩⟩
theorem tf235 : TFacts Tryz.prog 235 ⟨1, 8, false, [Value.nilFunc], .fu⟩ := ⟨by kernel_rfl, _, Tryz.underlying235, rfl, ⟨_, _, _, rfl⟩⟩
theorem tf236 : TFacts Tryz.prog 236 ⟨1, 8, false, [Value.nilFunc], .fu⟩ := ⟨by kernel_rfl, _, Tryz.underlying236, rfl, ⟨_, _, _, rfl⟩⟩
theorem tf237 : TFacts Tryz.prog 237 ⟨1, 8, false, [Value.nilFunc], .fu⟩ := ⟨by kernel_rfl, _, Tryz.underlying237, rfl, ⟨_, _, _, rfl⟩⟩
theorem tf238 : TFacts Tryz.prog 238 ⟨1, 8, false, [Value.nilFunc], .fu⟩ := ⟨by kernel_rfl, _, Tryz.underlying238, rfl, ⟨_, _, _, rfl⟩⟩
theorem tf239 : TFacts Tryz.prog 239 ⟨1, 8, false, [Value.nilFunc], .fu⟩ := ⟨by kernel_rfl, _, Tryz.underlying239, rfl, ⟨_, _, _, rfl⟩⟩
theorem tf240 : TFacts Tryz.prog 240 ⟨1, 8, false, [Value.nilFunc], .fu⟩ := ⟨by kernel_rfl, _, Tryz.underlying240, rfl, ⟨_, _, _, rfl⟩⟩
theorem tf241 : TFacts Tryz.prog 241 ⟨1, 8, false, [Value.nilFunc], .fu⟩ := ⟨by kernel_rfl, _, Tryz.underlying241, rfl, ⟨_, _, _, rfl⟩⟩
theorem tf242 : TFacts Tryz.prog 242 ⟨1, 8, false, [Value.nilFunc], .fu⟩ := ⟨by kernel_rfl, _, Tryz.underlying242, rfl, ⟨_, _, _, rfl⟩⟩
theorem tf243 : TFacts Tryz.prog 243 ⟨1, 8, false, [Value.nilFunc], .fu⟩ := ⟨by kernel_rfl, _, Tryz.underlying243, rfl, ⟨_, _, _, rfl⟩⟩
theorem tf244 : TFacts Tryz.prog 244 ⟨1, 8, false, [Value.nilFunc], .fu⟩ := ⟨by kernel_rfl, _, Tryz.underlying244, rfl, ⟨_, _, _, rfl⟩⟩
theorem tf245 : TFacts Tryz.prog 245 ⟨1, 8, false, [Value.nilFunc], .fu⟩ := ⟨by kernel_rfl, _, Tryz.underlying245, rfl, ⟨_, _, _, rfl⟩⟩
theorem tf246 : TFacts Tryz.prog 246 ⟨1, 8, false, [Value.nilFunc], .fu⟩ := ⟨by kernel_rfl, _, Tryz.underlying246, rfl, ⟨_, _, _, rfl⟩⟩
theorem tf247 : TFacts Tryz.prog 247 ⟨1, 8, false, [Value.nilFunc], .fu⟩ := ⟨by kernel_rfl, _, Tryz.underlying247, rfl, ⟨_, _, _, rfl⟩⟩
theorem tf248 : TFacts Tryz.prog 248 ⟨1, 8, false, [Value.nilFunc], .fu⟩ := ⟨by kernel_rfl, _, Tryz.underlying248, rfl, ⟨_, _, _, rfl⟩⟩
theorem tf249 : TFacts Tryz.prog 249 ⟨1, 24, false, [Value.slice none 0 0], .sl 3⟩ := ⟨by kernel_rfl, _, Tryz.underlying249, rfl, rfl⟩
theorem tf250 : TFacts Tryz.prog 250 ⟨1, 8, false, [Value.nilFunc], .fu⟩ := ⟨by kernel_rfl, _, Tryz.underlying250, rfl, ⟨_, _, _, rfl⟩⟩
theorem tf251 : TFacts Tryz.prog 251 ⟨1, 8, false, [Value.nilFunc], .fu⟩ := ⟨by kernel_rfl, _, Tryz.underlying251, rfl, ⟨_, _, _, rfl⟩⟩
theorem tf252 : TFacts Tryz.prog 252 ⟨1, 8, false, [Value.nilFunc], .fu⟩ := ⟨by kernel_rfl, _, Tryz.underlying252, rfl, ⟨_, _, _, rfl⟩⟩
theorem tf253 : TFacts Tryz.prog 253 ⟨1, 8, false, [Value.nilFunc], .fu⟩ := ⟨by kernel_rfl, _, Tryz.underlying253, rfl, ⟨_, _, _, rfl⟩⟩
theorem tf254 : TFacts Tryz.prog 254 ⟨1, 8, false, [Value.nilFunc], .fu⟩ := ⟨by kernel_rfl, _, Tryz.underlying254, rfl, ⟨_, _, _, rfl⟩⟩
theorem tf255 : TFacts Tryz.prog 255 ⟨1, 8, false, [Value.nilFunc], .fu⟩ := ⟨by kernel_rfl, _, Tryz.underlying255, rfl, ⟨_, _, _, rfl⟩⟩
theorem tf256 : TFacts Tryz.prog 256 ⟨1, 8, false, [Value.nilFunc], .fu⟩ := ⟨by kernel_rfl, _, Tryz.underlying256, rfl, ⟨_, _, _, rfl⟩⟩
theorem tf257 : TFacts Tryz.prog 257 ⟨1, 8, false, [Value.nilFunc], .fu⟩ := ⟨by kernel_rfl, _, Tryz.underlying257, rfl, ⟨_, _, _, rfl⟩⟩
theorem tf258 : TFacts Tryz.prog 258 ⟨1, 8, false, [Value.nilFunc], .fu⟩ := ⟨by kernel_rfl, _, Tryz.underlying258, rfl, ⟨_, _, _, rfl⟩⟩
theorem tf259 : TFacts Tryz.prog 259 ⟨1, 8, false, [Value.nilFunc], .fu⟩ := ⟨by kernel_rfl, _, Tryz.underlying259, rfl, ⟨_, _, _, rfl⟩⟩
theorem tf260 : TFacts Tryz.prog 260 ⟨1, 8, false, [Value.nilFunc], .fu⟩ := ⟨by kernel_rfl, _, Tryz.underlying260, rfl, ⟨_, _, _, rfl⟩⟩
theorem tf261 : TFacts Tryz.prog 261 ⟨1, 8, false, [Value.nilFunc], .fu⟩ := ⟨by kernel_rfl, _, Tryz.underlying261, rfl, ⟨_, _, _, rfl⟩⟩
theorem tf262 : TFacts Tryz.prog 262 ⟨1, 8, false, [Value.nilFunc], .fu⟩ := ⟨by kernel_rfl, _, Tryz.underlying262, rfl, ⟨_, _, _, rfl⟩⟩
theorem tf263 : TFacts Tryz.prog 263 ⟨1, 8, false, [Value.nilFunc], .fu⟩ := ⟨by kernel_rfl, _, Tryz.underlying263, rfl, ⟨_, _, _, rfl⟩⟩
theorem tf264 : TFacts Tryz.prog 264 ⟨1, 8, false, [Value.nilFunc], .fu⟩ := ⟨by kernel_rfl, _, Tryz.underlying264, rfl, ⟨_, _, _, rfl⟩⟩
theorem tf265 : TFacts Tryz.prog 265 ⟨1, 8, false, [Value.int .i64 0], .it .i64⟩ := ⟨by kernel_rfl, _, Tryz.underlying265, rfl, rfl⟩
theorem tf267 : TFacts Tryz.prog 267 ⟨1, 8, false, [Value.nilFunc], .fu⟩ := ⟨by kernel_rfl, _, Tryz.underlying267, rfl, ⟨_, _, _, rfl⟩⟩
theorem tf268 : TFacts Tryz.prog 268 ⟨1, 8, false, [Value.nilFunc], .fu⟩ := ⟨by kernel_rfl, _, Tryz.underlying268, rfl, ⟨_, _, _, rfl⟩⟩
theorem tf269 : TFacts Tryz.prog 269 ⟨1, 8, false, [Value.nilFunc], .fu⟩ := ⟨by kernel_rfl, _, Tryz.underlying269, rfl, ⟨_, _, _, rfl⟩⟩
theorem tf271 : TFacts Tryz.prog 271 ⟨1, 8, false, [Value.nilFunc], .fu⟩ := ⟨by kernel_rfl, _, Tryz.underlying271, rfl, ⟨_, _, _, rfl⟩⟩
theorem tf272 : TFacts Tryz.prog 272 ⟨1, 8, false, [Value.nilFunc], .fu⟩ := ⟨by kernel_rfl, _, Tryz.underlying272, rfl, ⟨_, _, _, rfl⟩⟩
theorem tf273 : TFacts Tryz.prog 273 ⟨1, 8, false, [Value.nilFunc], .fu⟩ := ⟨by kernel_rfl, _, Tryz.underlying273, rfl, ⟨_, _, _, rfl⟩⟩
theorem tf274 : TFacts Tryz.prog 274 ⟨1, 8, false, [Value.nilFunc], .fu⟩ := ⟨by kernel_rfl, _, Tryz.underlying274, rfl, ⟨_, _, _, rfl⟩⟩
theorem tf275 : TFacts Tryz.prog 275 ⟨1, 8, false, [Value.nilFunc], .fu⟩ := ⟨by kernel_rfl, _, Tryz.underlying275, rfl, ⟨_, _, _, rfl⟩⟩
theorem tf276 : TFacts Tryz.prog 276 ⟨1, 8, false, [Value.nilFunc], .fu⟩ := ⟨by kernel_rfl, _, Tryz.underlying276, rfl, ⟨_, _, _, rfl⟩⟩
theorem tf277 : TFacts Tryz.prog 277 ⟨1, 8, false, [Value.nilFunc], .fu⟩ := ⟨by kernel_rfl, _, Tryz.underlying277, rfl, ⟨_, _, _, rfl⟩⟩
theorem tf278 : TFacts Tryz.prog 278 ⟨1, 8, false, [Value.nilFunc], .fu⟩ := ⟨by kernel_rfl, _, Tryz.underlying278, rfl, ⟨_, _, _, rfl⟩⟩
theorem tf279 : TFacts Tryz.prog 279 ⟨1, 8, false, [Value.nilFunc], .fu⟩ := ⟨by kernel_rfl, _, Tryz.underlying279, rfl, ⟨_, _, _, rfl⟩⟩
theorem tf280 : TFacts Tryz.prog 280 ⟨1, 8, false, [Value.nilFunc], .fu⟩ := ⟨by kernel_rfl, _, Tryz.underlying280, rfl, ⟨_, _, _, rfl⟩⟩
theorem tf281 : TFacts Tryz.prog 281 ⟨1, 8, false, [Value.nilFunc], .fu⟩ := ⟨by kernel_rfl, _, Tryz.underlying281, rfl, ⟨_, _, _, rfl⟩⟩
theorem tf282 : TFacts Tryz.prog 282 ⟨1, 8, false, [Value.nilFunc], .fu⟩ := ⟨by kernel_rfl, _, Tryz.underlying282, rfl, ⟨_, _, _, rfl⟩⟩
theorem tf283 : TFacts Tryz.prog 283 ⟨1, 8, false, [Value.nilFunc], .fu⟩ := ⟨by kernel_rfl, _, Tryz.underlying283, rfl, ⟨_, _, _, rfl⟩⟩
theorem tf284 : TFacts Tryz.prog 284 ⟨1, 8, false, [Value.nilFunc], .fu⟩ := ⟨by kernel_rfl, _, Tryz.underlying284, rfl, ⟨_, _, _, rfl⟩⟩
theorem tf285 : TFacts Tryz.prog 285 ⟨1, 8, false, [Value.nilFunc], .fu⟩ := ⟨by kernel_rfl, _, Tryz.underlying285, rfl, ⟨_, _, _, rfl⟩⟩
theorem tf286 : TFacts Tryz.prog 286 ⟨1, 8, false, [Value.nilFunc], .fu⟩ := ⟨by kernel_rfl, _, Tryz.underlying286, rfl, ⟨_, _, _, rfl⟩⟩
theorem tf287 : TFacts Tryz.prog 287 ⟨1, 8, false, [Value.nilFunc], .fu⟩ := ⟨by kernel_rfl, _, Tryz.underlying287, rfl, ⟨_, _, _, rfl⟩⟩
theorem tf288 : TFacts Tryz.prog 288 ⟨1, 8, false, [Value.nilFunc], .fu⟩ := ⟨by kernel_rfl, _, Tryz.underlying288, rfl, ⟨_, _, _, rfl⟩⟩
theorem tf289 : TFacts Tryz.prog 289 ⟨1, 8, false, [Value.nilFunc], .fu⟩ := ⟨by kernel_rfl, _, Tryz.underlying289, rfl, ⟨_, _, _, rfl⟩⟩
theorem tf290 : TFacts Tryz.prog 290 ⟨1, 8, false, [Value.nilFunc], .fu⟩ := ⟨by kernel_rfl, _, Tryz.underlying290, rfl, ⟨_, _, _, rfl⟩⟩
theorem tf291 : TFacts Tryz.prog 291 ⟨1, 8, false, [Value.nilFunc], .fu⟩ := ⟨by kernel_rfl, _, Tryz.underlying291, rfl, ⟨_, _, _, rfl⟩⟩
theorem tf292 : TFacts Tryz.prog 292 ⟨1, 8, false, [Value.nilFunc], .fu⟩ := ⟨by kernel_rfl, _, Tryz.underlying292, rfl, ⟨_, _, _, rfl⟩⟩
theorem tf293 : TFacts Tryz.prog 293 ⟨24, 24, true, [Value.int .u8 0, Value.int .u8 0, Value.int .u8 0, Value.int .u8 0, Value.int .u8 0, Value.int .u8 0, Value.int .u8 0, Value.int .u8 0, Value.int .u8 0, Value.int .u8 0, Value.int .u8 0, Value.int .u8 0, Value.int .u8 0, Value.int .u8 0, Value.int .u8 0, Value.int .u8 0, Value.int .u8 0, Value.int .u8 0, Value.int .u8 0, Value.int .u8 0, Value.int .u8 0, Value.int .u8 0, Value.int .u8 0, Value.int .u8 0], .ar 24 5⟩ := ⟨by kernel_rfl, _, Tryz.underlying293, rfl, rfl⟩
theorem tf294 : TFacts Tryz.prog 294 ⟨1, 8, false, [Value.nilFunc], .fu⟩ := ⟨by kernel_rfl, _, Tryz.underlying294, rfl, ⟨_, _, _, rfl⟩⟩
theorem tf296 : TFacts Tryz.prog 296 ⟨1, 8, false, [Value.nilFunc], .fu⟩ := ⟨by kernel_rfl, _, Tryz.underlying296, rfl, ⟨_, _, _, rfl⟩⟩
theorem tf297 : TFacts Tryz.prog 297 ⟨1, 8, false, [Value.nilFunc], .fu⟩ := ⟨by kernel_rfl, _, Tryz.underlying297, rfl, ⟨_, _, _, rfl⟩⟩
theorem tf298 : TFacts Tryz.prog 298 ⟨1, 8, false, [Value.nilFunc], .fu⟩ := ⟨by kernel_rfl, _, Tryz.underlying298, rfl, ⟨_, _, _, rfl⟩⟩
theorem tf299 : TFacts Tryz.prog 299 ⟨1, 8, false, [Value.int .u64 0], .it .u64⟩ := ⟨by kernel_rfl, _, Tryz.underlying299, rfl, rfl⟩
theorem tf300 : TFacts Tryz.prog 300 ⟨1, 8, false, [Value.nilFunc], .fu⟩ := ⟨by kernel_rfl, _, Tryz.underlying300, rfl, ⟨_, _, _, rfl⟩⟩
theorem tf301 : TFacts Tryz.prog 301 ⟨1, 8, false, [Value.nilFunc], .fu⟩ := ⟨by kernel_rfl, _, Tryz.underlying301, rfl, ⟨_, _, _, rfl⟩⟩
theorem tf302 : TFacts Tryz.prog 302 ⟨1, 8, false, [Value.nilFunc], .fu⟩ := ⟨by kernel_rfl, _, Tryz.underlying302, rfl, ⟨_, _, _, rfl⟩⟩
theorem tf303 : TFacts Tryz.prog 303 ⟨1, 8, false, [Value.pointer none], .pt 3⟩ := ⟨by kernel_rfl, _, Tryz.underlying303, rfl, rfl⟩
theorem tf304 : TFacts Tryz.prog 304 ⟨1, 8, false, [Value.nilFunc], .fu⟩ := ⟨by kernel_rfl, _, Tryz.underlying304, rfl, ⟨_, _, _, rfl⟩⟩
theorem tf305 : TFacts Tryz.prog 305 ⟨1, 8, false, [Value.nilFunc], .fu⟩ := ⟨by kernel_rfl, _, Tryz.underlying305, rfl, ⟨_, _, _, rfl⟩⟩
theorem tf306 : TFacts Tryz.prog 306 ⟨1, 8, false, [Value.nilFunc], .fu⟩ := ⟨by kernel_rfl, _, Tryz.underlying306, rfl, ⟨_, _, _, rfl⟩⟩
theorem tf307 : TFacts Tryz.prog 307 ⟨1, 8, false, [Value.nilFunc], .fu⟩ := ⟨by kernel_rfl, _, Tryz.underlying307, rfl, ⟨_, _, _, rfl⟩⟩
theorem tf308 : TFacts Tryz.prog 308 ⟨1, 8, false, [Value.nilFunc], .fu⟩ := ⟨by kernel_rfl, _, Tryz.underlying308, rfl, ⟨_, _, _, rfl⟩⟩
theorem tf309 : TFacts Tryz.prog 309 ⟨1, 8, false, [Value.nilFunc], .fu⟩ := ⟨by kernel_rfl, _, Tryz.underlying309, rfl, ⟨_, _, _, rfl⟩⟩
theorem tf310 : TFacts Tryz.prog 310 ⟨1, 8, false, [Value.nilFunc], .fu⟩ := ⟨by kernel_rfl, _, Tryz.underlying310, rfl, ⟨_, _, _, rfl⟩⟩
theorem tf311 : TFacts Tryz.prog 311 ⟨1, 8, false, [Value.nilFunc], .fu⟩ := ⟨by kernel_rfl, _, Tryz.underlying311, rfl, ⟨_, _, _, rfl⟩⟩
theorem tf312 : TFacts Tryz.prog 312 ⟨1, 8, false, [Value.nilFunc], .fu⟩ := ⟨by kernel_rfl, _, Tryz.underlying312, rfl, ⟨_, _, _, rfl⟩⟩
theorem tf313 : TFacts Tryz.prog 313 ⟨1, 8, false, [Value.nilFunc], .fu⟩ := ⟨by kernel_rfl, _, Tryz.underlying313, rfl, ⟨_, _, _, rfl⟩⟩
theorem tf314 : TFacts Tryz.prog 314 ⟨1, 8, false, [Value.nilFunc], .fu⟩ := ⟨by kernel_rfl, _, Tryz.underlying314, rfl, ⟨_, _, _, rfl⟩⟩
theorem tf315 : TFacts Tryz.prog 315 ⟨1, 8, false, [Value.nilFunc], .fu⟩ := ⟨by kernel_rfl, _, Tryz.underlying315, rfl, ⟨_, _, _, rfl⟩⟩
theorem tf316 : TFacts Tryz.prog 316 ⟨1, 8, false, [Value.nilFunc], .fu⟩ := ⟨by kernel_rfl, _, Tryz.underlying316, rfl, ⟨_, _, _, rfl⟩⟩
theorem tf317 : TFacts Tryz.prog 317 ⟨20, 160, true, [Value.int .u64 0, Value.int .u64 0, Value.int .u64 0, Value.int .u64 0, Value.int .u64 0, Value.int .u64 0, Value.int .u64 0, Value.int .u64 0, Value.int .u64 0, Value.int .u64 0, Value.int .u64 0, Value.int .u64 0, Value.int .u64 0, Value.int .u64 0, Value.int .u64 0, Value.int .u64 0, Value.int .u64 0, Value.int .u64 0, Value.int .u64 0, Value.int .u64 0], .ar 20 206⟩ := ⟨by kernel_rfl, _, Tryz.underlying317, rfl, rfl⟩
theorem tf318 : TFacts Tryz.prog 318 ⟨65, 65, true, [Value.int .u8 0, Value.int .u8 0, Value.int .u8 0, Value.int .u8 0, Value.int .u8 0, Value.int .u8 0, Value.int .u8 0, Value.int .u8 0, Value.int .u8 0, Value.int .u8 0, Value.int .u8 0, Value.int .u8 0, Value.int .u8 0, Value.int .u8 0, Value.int .u8 0, Value.int .u8 0, Value.int .u8 0, Value.int .u8 0, Value.int .u8 0, Value.int .u8 0, Value.int .u8 0, Value.int .u8 0, Value.int .u8 0, Value.int .u8 0, Value.int .u8 0, Value.int .u8 0, Value.int .u8 0, Value.int .u8 0, Value.int .u8 0, Value.int .u8 0, Value.int .u8 0, Value.int .u8 0, Value.int .u8 0, Value.int .u8 0, Value.int .u8 0, Value.int .u8 0, Value.int .u8 0, Value.int .u8 0, Value.int .u8 0, Value.int .u8 0, Value.int .u8 0, Value.int .u8 0, Value.int .u8 0, Value.int .u8 0, Value.int .u8 0, Value.int .u8 0, Value.int .u8 0, Value.int .u8 0, Value.int .u8 0, Value.int .u8 0, Value.int .u8 0, Value.int .u8 0, Value.int .u8 0, Value.int .u8 0, Value.int .u8 0, Value.int .u8 0, Value.int .u8 0, Value.int .u8 0, Value.int .u8 0, Value.int .u8 0, Value.int .u8 0, Value.int .u8 0, Value.int .u8 0, Value.int .u8 0, Value.int .u8 0], .ar 65 5⟩ := ⟨by kernel_rfl, _, Tryz.underlying318, rfl, rfl⟩
theorem tf319 : TFacts Tryz.prog 319 ⟨1, 8, false, [Value.pointer none], .pt 299⟩ := ⟨by kernel_rfl, _, Tryz.underlying319, rfl, rfl⟩
theorem tf321 : TFacts Tryz.prog 321 ⟨1, 8, false, [Value.nilFunc], .fu⟩ := ⟨by kernel_rfl, _, Tryz.underlying321, rfl, ⟨_, _, _, rfl⟩⟩
theorem tf323 : TFacts Tryz.prog 323 ⟨1, 8, false, [Value.nilFunc], .fu⟩ := ⟨by kernel_rfl, _, Tryz.underlying323, rfl, ⟨_, _, _, rfl⟩⟩
theorem tf324 : TFacts Tryz.prog 324 ⟨32, 32, true, [Value.int .u8 0, Value.int .u8 0, Value.int .u8 0, Value.int .u8 0, Value.int .u8 0, Value.int .u8 0, Value.int .u8 0, Value.int .u8 0, Value.int .u8 0, Value.int .u8 0, Value.int .u8 0, Value.int .u8 0, Value.int .u8 0, Value.int .u8 0, Value.int .u8 0, Value.int .u8 0, Value.int .u8 0, Value.int .u8 0, Value.int .u8 0, Value.int .u8 0, Value.int .u8 0, Value.int .u8 0, Value.int .u8 0, Value.int .u8 0, Value.int .u8 0, Value.int .u8 0, Value.int .u8 0, Value.int .u8 0, Value.int .u8 0, Value.int .u8 0, Value.int .u8 0, Value.int .u8 0], .ar 32 5⟩ := ⟨by kernel_rfl, _, Tryz.underlying324, rfl, rfl⟩
theorem tf325 : TFacts Tryz.prog 325 ⟨64, 64, true, [Value.int .u8 0, Value.int .u8 0, Value.int .u8 0, Value.int .u8 0, Value.int .u8 0, Value.int .u8 0, Value.int .u8 0, Value.int .u8 0, Value.int .u8 0, Value.int .u8 0, Value.int .u8 0, Value.int .u8 0, Value.int .u8 0, Value.int .u8 0, Value.int .u8 0, Value.int .u8 0, Value.int .u8 0, Value.int .u8 0, Value.int .u8 0, Value.int .u8 0, Value.int .u8 0, Value.int .u8 0, Value.int .u8 0, Value.int .u8 0, Value.int .u8 0, Value.int .u8 0, Value.int .u8 0, Value.int .u8 0, Value.int .u8 0, Value.int .u8 0, Value.int .u8 0, Value.int .u8 0, Value.int .u8 0, Value.int .u8 0, Value.int .u8 0, Value.int .u8 0, Value.int .u8 0, Value.int .u8 0, Value.int .u8 0, Value.int .u8 0, Value.int .u8 0, Value.int .u8 0, Value.int .u8 0, Value.int .u8 0, Value.int .u8 0, Value.int .u8 0, Value.int .u8 0, Value.int .u8 0, Value.int .u8 0, Value.int .u8 0, Value.int .u8 0, Value.int .u8 0, Value.int .u8 0, Value.int .u8 0, Value.int .u8 0, Value.int .u8 0, Value.int .u8 0, Value.int .u8 0, Value.int .u8 0, Value.int .u8 0, Value.int .u8 0, Value.int .u8 0, Value.int .u8 0, Value.int .u8 0], .ar 64 5⟩ := ⟨by kernel_rfl, _, Tryz.underlying325, rfl, rfl⟩
theorem tf326 : TFacts Tryz.prog 326 ⟨1, 8, false, [Value.nilFunc], .fu⟩ := ⟨by kernel_rfl, _, Tryz.underlying326, rfl, ⟨_, _, _, rfl⟩⟩
theorem tf332 : TFacts Tryz.prog 332 ⟨1, 8, false, [Value.nilFunc], .fu⟩ := ⟨by kernel_rfl, _, Tryz.underlying332, rfl, ⟨_, _, _, rfl⟩⟩
theorem tf335 : TFacts Tryz.prog 335 ⟨1, 8, false, [Value.nilFunc], .fu⟩ := ⟨by kernel_rfl, _, Tryz.underlying335, rfl, ⟨_, _, _, rfl⟩⟩
theorem tf336 : TFacts Tryz.prog 336 ⟨1, 8, false, [Value.pointer none], .pt 5⟩ := ⟨by kernel_rfl, _, Tryz.underlying336, rfl, rfl⟩
set_option maxRecDepth 100000 in
theorem za : TabOk Tryz.prog tab := (.node tf170 (.node tf93 (.node tf55 (.node tf33 (.node tf23 (.node tf5 (.node tf3 (.node tf2 (.node tf1 (.leaf _) (.leaf _)) (.leaf _)) (.node tf4 (.leaf _) (.leaf _))) (.node tf21 (.node tf12 (.node tf9 (.leaf _) (.leaf _)) (.leaf _)) (.node tf22 (.leaf _) (.leaf _)))) (.node tf28 (.node tf26 (.node tf25 (.node tf24 (.leaf _) (.leaf _)) (.leaf _)) (.node tf27 (.leaf _) (.leaf _))) (.node tf31 (.node tf30 (.node tf29 (.leaf _) (.leaf _)) (.leaf _)) (.node tf32 (.leaf _) (.leaf _))))) (.node tf45 (.node tf38 (.node tf36 (.node tf35 (.node tf34 (.leaf _) (.leaf _)) (.leaf _)) (.node tf37 (.leaf _) (.leaf _))) (.node tf42 (.node tf41 (.node tf39 (.leaf _) (.leaf _)) (.leaf _)) (.node tf44 (.leaf _) (.leaf _)))) (.node tf50 (.node tf48 (.node tf47 (.node tf46 (.leaf _) (.leaf _)) (.leaf _)) (.node tf49 (.leaf _) (.leaf _))) (.node tf53 (.node tf51 (.leaf _) (.leaf _)) (.node tf54 (.leaf _) (.leaf _)))))) (.node tf74 (.node tf65 (.node tf60 (.node tf58 (.node tf57 (.node tf56 (.leaf _) (.leaf _)) (.leaf _)) (.node tf59 (.leaf _) (.leaf _))) (.node tf63 (.node tf62 (.node tf61 (.leaf _) (.leaf _)) (.leaf _)) (.node tf64 (.leaf _) (.leaf _)))) (.node tf70 (.node tf68 (.node tf67 (.node tf66 (.leaf _) (.leaf _)) (.leaf _)) (.node tf69 (.leaf _) (.leaf _))) (.node tf72 (.node tf71 (.leaf _) (.leaf _)) (.node tf73 (.leaf _) (.leaf _))))) (.node tf84 (.node tf79 (.node tf77 (.node tf76 (.node tf75 (.leaf _) (.leaf _)) (.leaf _)) (.node tf78 (.leaf _) (.leaf _))) (.node tf82 (.node tf81 (.node tf80 (.leaf _) (.leaf _)) (.leaf _)) (.node tf83 (.leaf _) (.leaf _)))) (.node tf89 (.node tf87 (.node tf86 (.node tf85 (.leaf _) (.leaf _)) (.leaf _)) (.node tf88 (.leaf _) (.leaf _))) (.node tf91 (.node tf90 (.leaf _) (.leaf _)) (.node tf92 (.leaf _) (.leaf _))))))) (.node tf132 (.node tf113 (.node tf103 (.node tf98 (.node tf96 (.node tf95 (.node tf94 (.leaf _) (.leaf _)) (.leaf _)) (.node tf97 (.leaf _) (.leaf _))) (.node tf101 (.node tf100 (.node tf99 (.leaf _) (.leaf _)) (.leaf _)) (.node tf102 (.leaf _) (.leaf _)))) (.node tf108 (.node tf106 (.node tf105 (.node tf104 (.leaf _) (.leaf _)) (.leaf _)) (.node tf107 (.leaf _) (.leaf _))) (.node tf111 (.node tf110 (.node tf109 (.leaf _) (.leaf _)) (.leaf _)) (.node tf112 (.leaf _) (.leaf _))))) (.node tf123 (.node tf118 (.node tf116 (.node tf115 (.node tf114 (.leaf _) (.leaf _)) (.leaf _)) (.node tf117 (.leaf _) (.leaf _))) (.node tf121 (.node tf120 (.node tf119 (.leaf _) (.leaf _)) (.leaf _)) (.node tf122 (.leaf _) (.leaf _)))) (.node tf128 (.node tf126 (.node tf125 (.node tf124 (.leaf _) (.leaf _)) (.leaf _)) (.node tf127 (.leaf _) (.leaf _))) (.node tf130 (.node tf129 (.leaf _) (.leaf _)) (.node tf131 (.leaf _) (.leaf _)))))) (.node tf151 (.node tf142 (.node tf137 (.node tf135 (.node tf134 (.node tf133 (.leaf _) (.leaf _)) (.leaf _)) (.node tf136 (.leaf _) (.leaf _))) (.node tf140 (.node tf139 (.node tf138 (.leaf _) (.leaf _)) (.leaf _)) (.node tf141 (.leaf _) (.leaf _)))) (.node tf147 (.node tf145 (.node tf144 (.node tf143 (.leaf _) (.leaf _)) (.leaf _)) (.node tf146 (.leaf _) (.leaf _))) (.node tf149 (.node tf148 (.leaf _) (.leaf _)) (.node tf150 (.leaf _) (.leaf _))))) (.node tf161 (.node tf156 (.node tf154 (.node tf153 (.node tf152 (.leaf _) (.leaf _)) (.leaf _)) (.node tf155 (.leaf _) (.leaf _))) (.node tf159 (.node tf158 (.node tf157 (.leaf _) (.leaf _)) (.leaf _)) (.node tf160 (.leaf _) (.leaf _)))) (.node tf166 (.node tf164 (.node tf163 (.node tf162 (.leaf _) (.leaf _)) (.leaf _)) (.node tf165 (.leaf _) (.leaf _))) (.node tf168 (.node tf167 (.leaf _) (.leaf _)) (.node tf169 (.leaf _) (.leaf _)))))))) (.node tf248 (.node tf210 (.node tf190 (.node tf180 (.node tf175 (.node tf173 (.node tf172 (.node tf171 (.leaf _) (.leaf _)) (.leaf _)) (.node tf174 (.leaf _) (.leaf _))) (.node tf178 (.node tf177 (.node tf176 (.leaf _) (.leaf _)) (.leaf _)) (.node tf179 (.leaf _) (.leaf _)))) (.node tf185 (.node tf183 (.node tf182 (.node tf181 (.leaf _) (.leaf _)) (.leaf _)) (.node tf184 (.leaf _) (.leaf _))) (.node tf188 (.node tf187 (.node tf186 (.leaf _) (.leaf _)) (.leaf _)) (.node tf189 (.leaf _) (.leaf _))))) (.node tf201 (.node tf195 (.node tf193 (.node tf192 (.node tf191 (.leaf _) (.leaf _)) (.leaf _)) (.node tf194 (.leaf _) (.leaf _))) (.node tf199 (.node tf197 (.node tf196 (.leaf _) (.leaf _)) (.leaf _)) (.node tf200 (.leaf _) (.leaf _)))) (.node tf206 (.node tf204 (.node tf203 (.node tf202 (.leaf _) (.leaf _)) (.leaf _)) (.node tf205 (.leaf _) (.leaf _))) (.node tf208 (.node tf207 (.leaf _) (.leaf _)) (.node tf209 (.leaf _) (.leaf _)))))) (.node tf229 (.node tf220 (.node tf215 (.node tf213 (.node tf212 (.node tf211 (.leaf _) (.leaf _)) (.leaf _)) (.node tf214 (.leaf _) (.leaf _))) (.node tf218 (.node tf217 (.node tf216 (.leaf _) (.leaf _)) (.leaf _)) (.node tf219 (.leaf _) (.leaf _)))) (.node tf225 (.node tf223 (.node tf222 (.node tf221 (.leaf _) (.leaf _)) (.leaf _)) (.node tf224 (.leaf _) (.leaf _))) (.node tf227 (.node tf226 (.leaf _) (.leaf _)) (.node tf228 (.leaf _) (.leaf _))))) (.node tf239 (.node tf234 (.node tf232 (.node tf231 (.node tf230 (.leaf _) (.leaf _)) (.leaf _)) (.node tf233 (.leaf _) (.leaf _))) (.node tf237 (.node tf236 (.node tf235 (.leaf _) (.leaf _)) (.leaf _)) (.node tf238 (.leaf _) (.leaf _)))) (.node tf244 (.node tf242 (.node tf241 (.node tf240 (.leaf _) (.leaf _)) (.leaf _)) (.node tf243 (.leaf _) (.leaf _))) (.node tf246 (.node tf245 (.leaf _) (.leaf _)) (.node tf247 (.leaf _) (.leaf _))))))) (.node tf289 (.node tf269 (.node tf258 (.node tf253 (.node tf251 (.node tf250 (.node tf249 (.leaf _) (.leaf _)) (.leaf _)) (.node tf252 (.leaf _) (.leaf _))) (.node tf256 (.node tf255 (.node tf254 (.leaf _) (.leaf _)) (.leaf _)) (.node tf257 (.leaf _) (.leaf _)))) (.node tf263 (.node tf261 (.node tf260 (.node tf259 (.leaf _) (.leaf _)) (.leaf _)) (.node tf262 (.leaf _) (.leaf _))) (.node tf267 (.node tf265 (.node tf264 (.leaf _) (.leaf _)) (.leaf _)) (.node tf268 (.leaf _) (.leaf _))))) (.node tf280 (.node tf275 (.node tf273 (.node tf272 (.node tf271 (.leaf _) (.leaf _)) (.leaf _)) (.node tf274 (.leaf _) (.leaf _))) (.node tf278 (.node tf277 (.node tf276 (.leaf _) (.leaf _)) (.leaf _)) (.node tf279 (.leaf _) (.leaf _)))) (.node tf285 (.node tf283 (.node tf282 (.node tf281 (.leaf _) (.leaf _)) (.leaf _)) (.node tf284 (.leaf _) (.leaf _))) (.node tf287 (.node tf286 (.leaf _) (.leaf _)) (.node tf288 (.leaf _) (.leaf _)))))) (.node tf309 (.node tf300 (.node tf294 (.node tf292 (.node tf291 (.node tf290 (.leaf _) (.leaf _)) (.leaf _)) (.node tf293 (.leaf _) (.leaf _))) (.node tf298 (.node tf297 (.node tf296 (.leaf _) (.leaf _)) (.leaf _)) (.node tf299 (.leaf _) (.leaf _)))) (.node tf305 (.node tf303 (.node tf302 (.node tf301 (.leaf _) (.leaf _)) (.leaf _)) (.node tf304 (.leaf _) (.leaf _))) (.node tf307 (.node tf306 (.leaf _) (.leaf _)) (.node tf308 (.leaf _) (.leaf _))))) (.node tf319 (.node tf314 (.node tf312 (.node tf311 (.node tf310 (.leaf _) (.leaf _)) (.leaf _)) (.node tf313 (.leaf _) (.leaf _))) (.node tf317 (.node tf316 (.node tf315 (.leaf _) (.leaf _)) (.leaf _)) (.node tf318 (.leaf _) (.leaf _)))) (.node tf326 (.node tf324 (.node tf323 (.node tf321 (.leaf _) (.leaf _)) (.leaf _)) (.node tf325 (.leaf _) (.leaf _))) (.node tf335 (.node tf332 (.leaf _) (.leaf _)) (.node tf336 (.leaf _) (.leaf _)))))))))
theorem mixed : Tryz.prog.follows .mixedOrders = true := by kernel_rfl
end Go.Proofs.YtoahnbmedcjpeaaGreatDoor.Ab

namespace Go.Proofs.YtoahnbmedcjpeaaGreatDoor
open Go.RowKit Go.Sort

structure Kp (L : List Nat) (w w' : World) : Prop where
 os : w'.os = w.os
 tape : w'.tape = w.tape
 output : w'.output = w.output
 size : w.heap.size ≤ w'.heap.size
 block : ∀ k, k < w.heap.size → k ∉ L → w'.heap[k]? = w.heap[k]?

section
variable {L M : List Nat} {w w0 w1 w2 : World}
theorem Kp.refl (L : List Nat) (w : World) : Kp L w w := ⟨rfl, rfl, rfl, Nat.le_refl _, fun _ _ _ => rfl⟩
theorem Kp.of_below (h : Below w.heap.size w w1) : Kp [] w w1 := ⟨h.os, h.tape, h.output, h.size, fun k hk _ => h.block k hk⟩
theorem Kp.below (h : Kp [] w w1) : Below w.heap.size w w1 := ⟨h.os, h.tape, h.output, h.size, fun k hk => h.block k hk (by simp)⟩
theorem Kp.trans (h : Kp L w0 w1) (k : Kp M w1 w2) (hs : ∀ b ∈ M, b ∈ L ∨ w0.heap.size ≤ b) : Kp L w0 w2 :=
 ⟨k.os.trans h.os, k.tape.trans h.tape, k.output.trans h.output, Nat.le_trans h.size k.size, fun i hi hn =>
  (k.block i (Nat.lt_of_lt_of_le hi h.size) (fun hm => by rcases hs i hm with h1 | h1; exact hn h1; omega)).trans (h.block i hi hn)⟩
theorem Kp.more (h : Kp L w0 w1) (k : Below w1.heap.size w1 w2) : Kp L w0 w2 := h.trans (Kp.of_below k) (by simp)
theorem Kp.drew (h : Kp L w w1) : Kp L w w1.drew := ⟨h.os, h.tape, h.output, h.size, h.block⟩
theorem Kp.drewN (h : Kp L w w1) (n : Nat) : Kp L w (w1.drewN n) := ⟨h.os, h.tape, h.output, h.size, h.block⟩
theorem Kp.alloc (h : Kp L w w1) (x : Obj) : Kp L w (w1.alloc x) :=
 ⟨h.os, h.tape, h.output, by have := h.size; simp; omega, fun k hk hn => (Below.heap_alloc w1 x k (Nat.lt_of_lt_of_le hk h.size)).trans (h.block k hk hn)⟩
theorem Kp.setCell (h : Kp L w w1) (p : Addr) (u : Value) (hp : p.block ∈ L ∨ w.heap.size ≤ p.block) : Kp L w (w1.setCell p u) := by
 have e := (Below.refl 0 w1).setCell (p := p) (Nat.zero_le _) u
 refine ⟨e.os.trans h.os, e.tape.trans h.tape, e.output.trans h.output, Nat.le_trans h.size e.size, fun k hk hn => ?_⟩
 refine (Below.heap_setCell w1 p u k ?_).trans (h.block k hk hn)
 rintro rfl
 rcases hp with h1 | h1
 ·exact hn h1
 ·omega
theorem Kp.grown {row : Option Nat} (h : Kp L w w1) (hg : w1.grownBy w2 row) (hr : ∀ k, row = some k → k ∈ L ∨ w.heap.size ≤ k) : Kp L w w2 :=
 ⟨hg.os.trans h.os, hg.tape.trans h.tape, hg.output.trans h.output, Nat.le_trans h.size hg.size, fun k hk hn =>
  (hg.block k (Nat.lt_of_lt_of_le hk h.size) (fun e => by rcases hr k e.symm with h1 | h1; exact hn h1; omega)).trans (h.block k hk hn)⟩
theorem Kp.cell (h : Kp L w w1) {a : Addr} {v : Value} (hc : w.cell? a = some v) (hn : a.block ∉ L) : w1.cell? a = some v :=
 (World.cell?_of_block (h.block a.block (World.block_lt_of_cell? w a hc) hn)).trans hc

theorem Kn.set {b o : Nat} {v : Value} (h : Kn w b o v) (u : Value) : Kn (w.setCell ⟨b, o, none⟩ u) b o u :=
 ⟨World.cell?_setCell_same _ _ _ h.1, by rw [World.frozen?_setCell]; exact h.2⟩
theorem Kn.drew {b o : Nat} {v : Value} (h : Kn w b o v) : Kn w.drew b o v := h

def Rd (w : World) (v : Value) (n k : Nat) (cs : List Value) : Prop :=
 ∃ ao cap, v = .slice ao n cap ∧ cs.length = n * k ∧ (0 < n → ∃ b o, ao = some ⟨b, o, none⟩ ∧ ∀ j u, cs[j]? = some u → w.cell? ⟨b, o + j, none⟩ = some u)
def Rdx (L : List Nat) (v : Value) : Prop := ∀ a n cap, v = .slice (some a) n cap → 0 < n → a.block ∉ L
theorem Rdx.nil (v : Value) : Rdx [] v := fun _ _ _ _ _ => by simp

theorem Rd.drew {v : Value} {n k : Nat} {cs : List Value} (h : Rd w v n k cs) : Rd w.drew v n k cs := h
theorem Rd.nil (w : World) (k : Nat) : Rd w (.slice none 0 0) 0 k [] := ⟨none, 0, rfl, by simp, fun h => absurd h (by omega)⟩
end
end Go.Proofs.YtoahnbmedcjpeaaGreatDoor

namespace Go.Proofs.YtoahnbmedcjpeaaGreatDoor

structure Pfx where
 a : Int
 b : Int
 deriving DecidableEq

instance : Inhabited Pfx := ⟨⟨0, 0⟩⟩

namespace Pfx
def ok (p : Pfx) : Prop := 0 ≤ p.a ∧ p.a < 4294967296 ∧ -9223372036854775808 ≤ p.b ∧ p.b < 9223372036854775808
end Pfx

def sz (n : Int) : Int := (2 : Int) ^ (32 - n).toNat

theorem zgy (n : Int) : 0 < sz n := by unfold sz; exact Int.pow_pos (by omega)
theorem zeN (n : Int) : sz n = ((2 ^ (32 - n).toNat : Nat) : Int) := by unfold sz; simp
theorem zjd (n : Int) (h0 : 0 ≤ n) : sz n ≤ 4294967296 := by
 rw [zeN]
 have : 2 ^ (32 - n).toNat ≤ 2 ^ 32 := Nat.pow_le_pow_right (by omega) (by omega)
 have e : (2 : Nat) ^ 32 = 4294967296 := by decide
 omega
theorem sz_0 : sz 0 = 4294967296 := by unfold sz; rfl
def chk (p : Pfx) : Int := if p.b < 0 ∨ 32 < p.b then 1 else if p.a % sz p.b = 0 then 0 else 10
def good (p : Pfx) : Prop := 0 ≤ p.b ∧ p.b ≤ 32 ∧ p.a % sz p.b = 0
instance (p : Pfx) : Decidable (good p) := by unfold good; infer_instance
def inB (x : Int) (p : Pfx) : Bool := decide (good p ∧ p.a ≤ x ∧ x < p.a + sz p.b)
def withinB (p q : Pfx) : Bool := decide (good p ∧ q.b ≤ p.b) && inB p.a q
def sub (x n : Int) : Pfx := ⟨x / sz n * sz n, n⟩
def cmpP (p q : Pfx) : Int := if p.a < q.a ∨ p.a = q.a ∧ p.b < q.b then -1 else if p = q then 0 else 1

theorem ziP (x k : Nat) : x &&& (2 ^ k - 1) = x % 2 ^ k := Nat.and_two_pow_sub_one_eq_mod x k


end Go.Proofs.YtoahnbmedcjpeaaGreatDoor

namespace Go.Proofs.YtoahnbmedcjpeaaGreatDoor
open Go.RowKit Go.Sort

abbrev Pfx.v (p : Pfx) : Value := .agg #[.int .u32 p.a, .int .i64 p.b]

set_option maxHeartbeats 400000 in
theorem zdb (n : Int) (w : World) (h0 : 0 ≤ n) (h1 : n ≤ 32) : Calls Tryz.prog 243 #[.int .i64 n] w (RetS w (.int .u32 (sz n - 1))) := by
 go_enter Tryz.func243, Tryz.ntmps243
 go_wp2
 go_ret
 refine ⟨zij ?_, rfl⟩
 have h2 := zgy n
 have h3 := zjd n h0
 have e : (2 : Int) ^ (32 - n).toNat = sz n := rfl
 simp only [IntKind.wrap, IntKind.bits, IntKind.signed]
 rw [e]; simp; omega

theorem ziO (x n : Int) (h0 : 0 ≤ n) (x0 : 0 ≤ x) (x1 : x < 4294967296) : bits .and .u32 x (sz n - 1) = x % sz n := by
 have h2 := zgy n
 have h3 := zjd n h0
 rw [u32_and _ _ x0 x1 (by omega) (by omega)]
 obtain ⟨a, rfl⟩ := Int.eq_ofNat_of_zero_le x0
 have e : (sz n - 1).toNat = 2 ^ (32 - n).toNat - 1 := by rw [zeN]; omega
 rw [e, Int.toNat_natCast, ziP a, zeN]
 simp

set_option maxHeartbeats 400000 in
theorem zge (p : Pfx) (w : World) (hp : p.ok) : Calls Tryz.prog 194 #[p.v] w (Ret w (.int .i64 (chk p))) := by
 obtain ⟨a, b⟩ := p
 obtain ⟨a0, a1, b0, b1⟩ := hp
 dsimp only at a0 a1 b0 b1
 by_cases hb : b < 0 ∨ 32 < b
 ·have hc : chk ⟨a, b⟩ = 1 := if_pos hb
  rw [hc]; clear hc
  rcases hb with hb | hb
  ·go_enter Tryz.func194, Tryz.ntmps194
   go_wp2_with fail
   go_ret
   exact ⟨rfl, (Below.refl _ _).alloc (Nat.le_refl _) _⟩
  ·have hb' : ¬ b < 0 := by omega
   go_enter Tryz.func194, Tryz.ntmps194
   go_wp2_with fail
   go_ret
   exact ⟨rfl, (Below.refl _ _).alloc (Nat.le_refl _) _⟩
 ·have h0 : 0 ≤ b := by omega
  have h1 : b ≤ 32 := by omega
  have hbit := ziO a b h0 a0 a1
  have hc : chk ⟨a, b⟩ = if a % sz b = 0 then 0 else 10 := if_neg hb
  rw [hc]; clear hc hb
  by_cases hm : a % sz b = 0
  ·rw [if_pos hm]
   have hB : (bits .and .u32 a (sz b - 1) != 0) = false := by rw [hbit, hm]; rfl
   clear hbit hm
   go_enter Tryz.func194, Tryz.ntmps194
   go_wp2_with fail
   go_quiet ((go_at_call 243; exact RetS.d (zdb _ _ h0 h1)))
   go_wp2_with fail
   go_ret
   exact ⟨rfl, zcB ((Below.refl _ _).alloc (Nat.le_refl _) _) _⟩
  ·rw [if_neg hm]
   have hB : (bits .and .u32 a (sz b - 1) != 0) = true := by rw [hbit]; simpa using hm
   clear hbit hm
   go_enter Tryz.func194, Tryz.ntmps194
   go_wp2_with fail
   go_quiet ((go_at_call 243; exact RetS.d (zdb _ _ h0 h1)))
   go_wp2_with fail
   go_ret
   exact ⟨rfl, zcB ((Below.refl _ _).alloc (Nat.le_refl _) _) _⟩
end Go.Proofs.YtoahnbmedcjpeaaGreatDoor

namespace Go.Proofs.YtoahnbmedcjpeaaGreatDoor
open Go.RowKit Go.Sort

def cmpI (x y : Int) : Int := if x < y then -1 else if y < x then 1 else 0

set_option maxHeartbeats 400000 in
theorem zce (x y : Int) (w : World) : Calls Tryz.prog 177 #[.int .u32 x, .int .u32 y] w (RetS w (.int .i64 (cmpI x y))) := by
 unfold cmpI
 by_cases h1 : x < y
 ·rw [if_pos h1]
  go_enter Tryz.func177, Tryz.ntmps177
  go_wp2
  go_ret
  exact ⟨rfl, rfl⟩
 ·rw [if_neg h1]
  by_cases h2 : y < x
  ·rw [if_pos h2]
   go_enter Tryz.func177, Tryz.ntmps177
   go_wp2
   go_ret
   exact ⟨rfl, rfl⟩
  ·rw [if_neg h2]
   go_enter Tryz.func177, Tryz.ntmps177
   go_wp2
   go_ret
   exact ⟨rfl, rfl⟩
set_option maxHeartbeats 400000 in
theorem zcd (x y : Int) (w : World) : Calls Tryz.prog 178 #[.int .i64 x, .int .i64 y] w (RetS w (.int .i64 (cmpI x y))) := by
 unfold cmpI
 by_cases h1 : x < y
 ·rw [if_pos h1]
  go_enter Tryz.func178, Tryz.ntmps178
  go_wp2
  go_ret
  exact ⟨rfl, rfl⟩
 ·rw [if_neg h1]
  by_cases h2 : y < x
  ·rw [if_pos h2]
   go_enter Tryz.func178, Tryz.ntmps178
   go_wp2
   go_ret
   exact ⟨rfl, rfl⟩
  ·rw [if_neg h2]
   go_enter Tryz.func178, Tryz.ntmps178
   go_wp2
   go_ret
   exact ⟨rfl, rfl⟩
set_option maxHeartbeats 400000 in
theorem zio (x y : Int) (b : Nat) (w : World) (h0 : w.cell? ⟨b, 0, none⟩ = some (.int .i64 x)) (h1 : w.cell? ⟨b, 1, none⟩ = some (.int .i64 y)) :
  Calls Tryz.prog 175 #[.slice (some ⟨b, 0, none⟩) 2 2] w (RetS w (.int .i64 (if x = 0 then y else x))) := by
 by_cases hx : x = 0
 ·subst hx
  rw [if_pos rfl]
  by_cases hy : y = 0
  ·subst hy
   go_enter Tryz.func175, Tryz.ntmps175
   go_wp2
   refine wp_loop_rounds 3 ?_
   rw [rounds_succ]; go_wp2
   rw [rounds_succ]; go_wp2
   rw [rounds_succ]; go_wp2
   go_ret
   exact ⟨rfl, rfl⟩
  ·have hB : (y != 0) = true := by simpa using hy
   go_enter Tryz.func175, Tryz.ntmps175
   go_wp2
   refine wp_loop_rounds 3 ?_
   rw [rounds_succ]; go_wp2
   rw [rounds_succ]; go_wp2
   go_ret
   exact ⟨rfl, rfl⟩
 ·rw [if_neg hx]
  have hB : (x != 0) = true := by simpa using hx
  go_enter Tryz.func175, Tryz.ntmps175
  go_wp2
  refine wp_loop_rounds 3 ?_
  rw [rounds_succ]; go_wp2
  go_ret
  exact ⟨rfl, rfl⟩
theorem zjL (x y r : Int) (b : Nat) (w : World) (hr : Hid ((if x = 0 then y else x) = r)) (h0 : w.cell? ⟨b, 0, none⟩ = some (.int .i64 x)) (h1 : w.cell? ⟨b, 1, none⟩ = some (.int .i64 y)) :
  Calls Tryz.prog 175 #[.slice (some ⟨b, 0, none⟩) 2 2] w (RetS w (.int .i64 r)) := by
 have h := zio x y b w h0 h1
 rw [hr.out] at h
 exact h
end Go.Proofs.YtoahnbmedcjpeaaGreatDoor

namespace Go.Proofs
open Go.Shelf
def Tryz.lays129_ren : Go.Shelf.Ren := ⟨fun | 129 => 229 | n => n, fun | 53 => 206 | 3 => 3 | 4 => 4 | 46 => 47 | 5 => 5 | 9 => 9 | n => n, fun | n => n⟩
def Tryz.lays125_ren : Go.Shelf.Ren := ⟨fun | 125 => 163 | 128 => 228 | 129 => 229 | n => n, fun | 46 => 47 | 3 => 3 | 51 => 35 | 53 => 206 | 4 => 4 | 5 => 5 | 9 => 9 | n => n, fun | n => n⟩
end Go.Proofs

namespace Go.Proofs.YtoahnbmedcjpeaaGreatDoor
open Go.RowKit Go.Sort

theorem zfA (p q : Pfx) : (if cmpI p.a q.a = 0 then cmpI p.b q.b else cmpI p.a q.a) = cmpP p q := by
 obtain ⟨a, b⟩ := p
 obtain ⟨c, d⟩ := q
 unfold cmpP cmpI
 dsimp only
 by_cases h1 : a < c
 ·simp [h1]
 ·by_cases h2 : c < a
  ·have : ¬ a = c := by omega
   simp [h1, h2, this]
  ·have : a = c := by omega
   subst this
   by_cases h3 : b < d
   ·simp [h3]
   ·by_cases h4 : d < b
    ·have : ¬ b = d := by omega
     simp [h3, h4, this]
    ·have : b = d := by omega
     subst this
     simp

theorem zex (w : World) (x y z : Obj) : (((w.alloc x).alloc y).alloc z).drew = grow (w.drewN 1) #[x, y, z] := by
 have e : ((w.heap.push x).push y).push z = w.heap ++ #[x, y, z] := by
  rw [Array.push_eq_append, Array.push_eq_append, Array.push_eq_append, Array.append_assoc, Array.append_assoc]; rfl
 show World.mk .. = World.mk ..
 simp only [World.alloc, World.drew, World.drewN, grow]
 simp only [e]

set_option maxHeartbeats 800000 in
theorem zhi (p q : Pfx) (w : World) : Calls Tryz.prog 176 #[p.v, q.v] w (fun e w' => e = .returned (.int .i64 (cmpP p q)) ∧ ∃ n os, w' = grow (w.drewN n) os) := by
 have hr := zfA p q
 obtain ⟨r, hR⟩ : ∃ r, r = cmpP p q := ⟨_, rfl⟩
 rw [← hR] at hr ⊢
 clear hR
 obtain ⟨a, b⟩ := p
 obtain ⟨c, d⟩ := q
 dsimp only at hr
 have HR := Lib.hid hr
 clear hr
 go_enter Tryz.func176, Tryz.ntmps176
 go_wp2_with fail
 go_region_held3 (fun w' => w'.cell? ⟨w.heap.size, 0, none⟩ = some (.int .u32 a) ∧ w'.cell? ⟨w.heap.size, 1, none⟩ = some (.int .i64 b) ∧ w'.cell? ⟨w.heap.size + 1, 0, none⟩ = some (.int .u32 c) ∧ w'.cell? ⟨w.heap.size + 1, 1, none⟩ = some (.int .i64 d)) (go_keep)
  (first | (go_at_call 177; refine (zce a c _).mono ?_; rintro e w' ⟨rfl, rfl⟩) | (go_at_call 178; refine (zcd b d _).mono ?_; rintro e w' ⟨rfl, rfl⟩) | (go_at_call 175; refine (zjL (cmpI a c) (cmpI b d) r _ _ HR ?_ ?_).mono ?_; (go_simp); (go_simp); rintro e w' ⟨rfl, rfl⟩))
 go_wp2_with fail
 go_ret
 exact ⟨rfl, 1, #[_, _, _], zex _ _ _ _⟩
theorem zda (w : World) (n : Nat) (os : Array Obj) : Below w.heap.size w (grow (w.drewN n) os) := ⟨rfl, rfl, rfl, by simp [grow, World.drewN], fun k hk => by
 show (w.heap ++ os)[k]? = w.heap[k]?
 rw [Array.getElem?_append, if_pos hk]⟩
theorem ziJ (p q : Pfx) (w : World) : Calls Tryz.prog 176 #[p.v, q.v] w (Ret w (.int .i64 (cmpP p q))) :=
 (zhi p q w).mono fun _ _ ⟨he, n, os, hw⟩ => ⟨he, hw ▸ zda w n os⟩

end Go.Proofs.YtoahnbmedcjpeaaGreatDoor

namespace Go.Proofs.YtoahnbmedcjpeaaGreatDoor

def cb : Nat → Int → Int → Nat
 | 0, _, _ => 0
 | n + 1, x, y => if x / sz (n + 1 : Nat) = y / sz (n + 1 : Nat) then n + 1 else cb n x y
def commonP (p q : Pfx) : Pfx := sub p.a (cb (min p.b q.b).toNat p.a q.a)

end Go.Proofs.YtoahnbmedcjpeaaGreatDoor

namespace Go.Proofs.YtoahnbmedcjpeaaGreatDoor
open Go.RowKit Go.Sort

end Go.Proofs.YtoahnbmedcjpeaaGreatDoor

namespace Go.Proofs.YtoahnbmedcjpeaaGreatDoor
open Go.RowKit Go.Sort

theorem sub_zero (x : Int) (h0 : 0 ≤ x) (h1 : x < 4294967296) : sub x 0 = ⟨0, 0⟩ := by
 unfold sub
 rw [sz_0, Int.ediv_eq_zero_of_lt h0 h1]; rfl

end Go.Proofs.YtoahnbmedcjpeaaGreatDoor

/-
 Texts of a proof, one behind the other (part 2).
-/
import Derived.Laws.StructEq
import Derived.Test.YtmmdkjanmegjdaaGreatProg
import Derived.WalkKit
import Derived.WalkSpells
import Derived.WalkLawsBesides
import Derived.Deep.QuietTactic
import Derived.BigQuiet
import Derived.Lib.Hide
import Derived.Lib.QuietBelow
import Derived.Deep.MidRow
import Derived.Test.YtmmdkjanmegjdaaGreatRows
import Derived.StillTailTactics
import Derived.Deep.RegionHeld3
import Derived.Shelf.SlGeneric
import Derived.Shelf.SlSortCmp.WholeK
import Derived.Shelf.Small.Bits
import Derived.Shelf.Strconv.Itoa0
import Derived.Lib.BitFns
import Derived.Test.YtmmdkjanmegjdaaGreatRv0
set_option linter.unusedSimpArgs false
set_option linter.unusedVariables false
namespace Go.Proofs.YtmmdkjanmegjdaaGreat.Ab
open Go.RowKit

def tsize (tab : TTab) (t : TypeId) : Option Nat := match tlook tab t with
 | some ⟨s, _, _, _, _⟩ => some s
 | none => none
def telem (tab : TTab) (t : TypeId) : Option TypeId := match tlook tab t with
 | some ⟨_, _, _, _, .sl e⟩ => some e
 | _ => none
def tfield (tab : TTab) (t : TypeId) (f : Nat) : Option Nat := match tlook tab t with
 | some ⟨_, _, _, _, .st fs⟩ => match fs[f]? with
  | some (off, ft) => match tsize tab ft with
   | some (n + 1) => some off
   | _ => none
  | none => none
 | _ => none
def tagg (tab : TTab) (t : TypeId) : Option Bool := match tlook tab t with
 | some ⟨_, _, a, _, _⟩ => some a
 | none => none
def tzero (tab : TTab) (t : TypeId) : Option (List AVal) := match tlook tab t with
 | some ⟨_, _, _, z, _⟩ => cond (z.all (·.oneCell')) (some (z.map fun v => .d (.sc v))) none
 | none => none
theorem zu {tab : TTab} {t s : Nat} (h : tsize tab t = some s) : ∃ te, tlook tab t = some te ∧ te.size = s := by
 unfold tsize at h; split at h
 ·rename_i hl; cases h; exact ⟨_, hl, rfl⟩
 ·cases h
theorem zy {tab : TTab} {t e : Nat} (h : telem tab t = some e) : ∃ te, tlook tab t = some te ∧ te.sh = .sl e := by
 unfold telem at h; split at h
 ·rename_i hl; cases h; exact ⟨_, hl, rfl⟩
 ·cases h
theorem zbG {tab : TTab} {t : Nat} {a : Bool} (h : tagg tab t = some a) : ∃ te, tlook tab t = some te ∧ te.agg = a := by
 unfold tagg at h; split at h
 ·rename_i hl; cases h; exact ⟨_, hl, rfl⟩
 ·cases h
theorem zc8 {tab : TTab} {t : Nat} {z : List AVal} (h : tzero tab t = some z) : ∃ te, tlook tab t = some te ∧ te.zero.all (·.oneCell') = true ∧ z = te.zero.map fun v => .d (.sc v) := by
 unfold tzero at h; split at h
 ·rename_i hl
  rename_i z0 _
  cases hz : z0.all (·.oneCell') with
  | false => rw [hz] at h; cases h
  | true => rw [hz] at h; cases h; exact ⟨_, hl, hz, rfl⟩
 ·cases h
theorem zcx {tab : TTab} {t f off : Nat} (h : tfield tab t f = some off) : ∃ te fs ft te', tlook tab t = some te ∧ te.sh = .st fs ∧ fs[f]? = some (off, ft) ∧ tlook tab ft = some te' ∧ Nat.beq te'.size 0 = false := by
 unfold tfield at h; split at h
 ·rename_i hl
  split at h
  ·rename_i hf
   split at h
   ·rename_i hs
    cases h
    obtain ⟨te', h1, h2⟩ := zu hs
    exact ⟨_, _, _, te', hl, rfl, hf, h1, by rw [h2]; rfl⟩
   ·cases h
  ·cases h
 ·cases h

section
variable {P : Program} {nt : Nat} {Q : Post} {K : Env → Heap → Prop} {e : Env} {h : Heap} {ops : Array Oper} {o : Oper} {rest : List Oper} {T : List Nat} {tab : TTab} {z : Bool}
theorem zkc {j : Nat} (H : Q .normal e h) : AIn j Q (.exit j) e h := by show cond (Nat.beq j j) _ _; rw [zcs]; exact H
theorem ziu {i j : Nat} (hb : Nat.beq i j = false) (H : Q (.exit i) e h) : AIn j Q (.exit i) e h := by show cond (Nat.beq i j) _ _; rw [hb]; exact H
theorem zk {tab : TTab} {rs : List ResultVar} {R : AVal → Heap → Prop} {v : AVal} (hv : ares tab e h rs = some v) (H : R v []) : APost nt tab rs R .ret e h := ⟨e, h, v, [], AWk.refl, hv, trivial, H⟩
theorem zo {tab : TTab} {rs : List ResultVar} {R : AVal → Heap → Prop} {v : AVal} {e' : Env} {h' h2 : Heap} (hk : AWk nt e h e' h') (hv : ares tab e' h' rs = some v) (hs : Sub h2 h') (H : R v h2) : APost nt tab rs R .ret e h := ⟨e', h', v, h2, hk, hv, hs, H⟩
theorem zdd {tab : TTab} {rs : List ResultVar} {R : AVal → Heap → Prop} {v : AVal} {e' : Env} {h' h2 : Heap} (hk : AWk nt e h e' h') (hv : ares tab e' h' rs = some v) (hs : Sub h2 h') (H : R v h2) : APost nt tab rs R .normal e h := ⟨e', h', v, h2, hk, hv, hs, H⟩

theorem zab {id : Nat} {l : List Oper} (H : AOps P nt l.toArray Q l e h) (hnd : l.all notDef = true := by rfl) : AWp z P nt (.region id l.toArray false) Q e h := zmp hnd H
def quietOp : Op → Bool
 | .alloc _ => false
 | .box _ _ => false
 | .buildSlice _ _ _ => false
 | .insert _ _ _ _ => false
 | .store _ _ _ => false
 | .makeMap _ _ => false
 | .makeSlice _ _ _ => false
 | .mapUpdate _ _ _ _ => false
 | .mapEntry _ _ _ => false
 | .entryStore _ _ _ _ => false
 | .range _ _ => false
 | .next _ _ => false
 | .defer _ => false
 | .call { callee := .builtin .append, .. } => false
 | .call { callee := .builtin .copy, .. } => false
 | .call { callee := .builtin .delete, .. } => false
 | .call { callee := .builtin .clear, .. } => false
 | _ => true
def quietOps (l : List Oper) : Bool := l.all fun o => quietOp o.op
theorem zf3 {l : List Oper} (hq : quietOps l = true) : l.toArray.toList.all notDef = true := List.all_eq_true.2 fun o ho => by
 have h := List.all_eq_true.1 hq o (by simpa using ho)
 unfold notDef
 split
 ·rename_i c hc; rw [hc] at h; cases h
 ·rfl
theorem zgr {id : Nat} {l : List Oper} (hq : quietOps l = true) (hm : P.follows .mixedOrders = true) (hB : Region.lexB .any l.toArray = true) (H : AQ P nt l.toArray Q l e h) : AWp z P nt (.region id l.toArray true) Q e h := zn1 (zf3 hq) hm hB (by simpa using H)
theorem O_y {c : AVal} {d : Nat} (hw : awant ops e o = some true) (hdst : o.dst = some d) (hd : Nat.blt d nt = true) (hy : AYield P [] e h o c) (H : AOps P nt ops Q rest ((d, c) :: e) h) : AOps P nt ops Q (o :: rest) e h :=
 znN hw (by rw [hdst]; exact hd) hy (by rw [hdst]; exact H)
theorem O_s {d : Nat} (hw : awant ops e o = some false) (hdst : o.dst = some d) (hd : Nat.blt d nt = true) (H : AOps P nt ops Q rest ((d, .und) :: e) h) : AOps P nt ops Q (o :: rest) e h :=
 zml hw (by rw [hdst]; exact hd) (by rw [hdst]; exact H)
theorem O_sn (hw : awant ops e o = some false) (hdst : o.dst = none) (H : AOps P nt ops Q rest e h) : AOps P nt ops Q (o :: rest) e h :=
 zml hw (by rw [hdst]; rfl) (by rw [hdst]; exact H)
theorem Q_y {c : AVal} {d : Nat} (hw : awant ops e o = some true) (hdst : o.dst = some d) (hd : Nat.blt d nt = true) (hy : AYield P [] e h o c) (H : AQ P nt ops Q rest ((d, c) :: e) h) : AQ P nt ops Q (o :: rest) e h :=
 znM hw (by rw [hdst]; exact hd) hy (by rw [hdst]; exact H)
theorem Q_s {d : Nat} (hw : awant ops e o = some false) (hdst : o.dst = some d) (hd : Nat.blt d nt = true) (H : AQ P nt ops Q rest ((d, .und) :: e) h) : AQ P nt ops Q (o :: rest) e h :=
 zpk hw (by rw [hdst]; exact hd) (by rw [hdst]; exact H)
theorem Q_c {f : FuncId} {args : Array Operand} {ats : Array TypeId} {cs : List AVal} {c : AVal} {v : Value} {d : Nat} (hw : awant ops e o = some true) (hdst : o.dst = some d) (hd : Nat.blt d nt = true) (ho : o.op = .call { callee := .value (.func f), args := args, argTypes := ats }) (hx : aevs e args.toList = some cs)
  (H : ACall P f cs [] (fun c' h' => c' = c ∧ h' = [])) (hc : valA c = some v) (hrel : ∀ w F ι, VRel w F ι c v) (HK : AQ P nt ops Q rest ((d, c) :: e) h) : AQ P nt ops Q (o :: rest) e h :=
 zpl ho hx hw (by rw [hdst]; exact hd) H hc hrel (by rw [hdst]; exact HK)
theorem O_c {f : FuncId} {args : Array Operand} {ats : Array TypeId} {cs : List AVal} {c : AVal} {d : Nat} (hw : awant ops e o = some true) (hdst : o.dst = some d) (hd : Nat.blt d nt = true) (ho : o.op = .call { callee := .value (.func f), args := args, argTypes := ats }) (hx : aevs e args.toList = some cs)
  (H : ACall P f cs [] (fun c' h' => c' = c ∧ h' = [])) (hc : ∀ j, c.has j = false) (HK : AOps P nt ops Q rest ((d, c) :: e) h) : AOps P nt ops Q (o :: rest) e h :=
 zat (T := []) hw (zjb ho hdst hx H hd hc) fun e' h' ⟨h1, h2⟩ => by subst h1 h2; exact HK
theorem znR {t : TypeId} {d : Nat} {z : List AVal} (TO : TabOk P tab) (hw : awant ops e o = some true) (hdst : o.dst = some d) (hd : Nat.blt d nt = true) (hid : Nat.blt d 1000 = true) (ho : o.op = .alloc t) (hz : tzero tab t = some z)
  (HK : AOps P nt ops Q rest ((d, .ptr d 0) :: killE d e) ((d, .var z) :: killH d h)) : AOps P nt ops Q (o :: rest) e h := by
 obtain ⟨te, h1, h2, rfl⟩ := zc8 hz
 exact zat (T := []) hw (zjc TO ho hdst h1 hid hd h2) fun e' h' ⟨h1, h2⟩ => by subst h1 h2; exact HK
theorem zpK {t : TypeId} {x : Operand} {d : Nat} {c : AVal} {cs : List AVal} (hw : awant ops e o = some true) (hdst : o.dst = some d) (hd : Nat.blt d nt = true) (hid : Nat.blt d 1000 = true) (ho : o.op = .box t x) (hx : aev e x = some c) (hcs : cellsA c = some cs)
  (HK : AOps P nt ops Q rest ((d, .ptr d 0) :: killE d e) ((d, .var (cs.map (killV d))) :: killH d h)) : AOps P nt ops Q (o :: rest) e h :=
 zat (T := []) hw (zog ho hdst hx hcs hid hd) fun e' h' ⟨h1, h2⟩ => by subst h1 h2; exact HK
theorem zi2 {t : TypeId} {x y : Operand} {id off s : Nat} {cs xs : List AVal} {c : AVal} (TO : TabOk P tab) (hw : awant ops e o = some true) (hdst : o.dst = none) (ho : o.op = .store t x y) (hx : aev e x = some (.ptr id off)) (hb : look h id = some (.var cs))
  (hy : aev e y = some c) (hcs : cellsA c = some xs) (hp : xs.all plainC = true) (hs : tsize tab t = some s) (hl : Nat.beq xs.length s = true) (hle : Nat.ble (off + s) cs.length = true)
  (HK : AOps P nt ops Q rest e ((id, .var (setW cs off xs)) :: h)) : AOps P nt ops Q (o :: rest) e h := by
 obtain ⟨te, h1, h2⟩ := zu hs
 subst h2
 exact zat (T := [id]) hw (zcN TO ho hdst h1 hx hb hy hcs hp hl hle rfl rfl (by simp)) fun e' h' ⟨h1, h2⟩ => by subst h1 h2; exact HK
theorem zhH {t el k rid n m d : Nat} {x y : Operand} {cx cy : AVal} {cs ds : List Dat} (rid0 : Nat) (hrid : rid = rid0) (TO : TabOk P tab) (hw : awant ops e o = some true) (hdst : o.dst = some d) (hd : Nat.blt d nt = true) (ho : o.op = .call { callee := .builtin .append, args := #[x, y], argTypes := #[t, t] })
  (hel : telem tab t = some el) (hsz : tsize tab el = some k) (hok : (match tlook tab el with | some te => Nat.blt 0 te.size && Nat.beq te.zero.length te.size && Nat.ble te.bytes 65536 | none => false) = true) (hid : Nat.blt rid 1000 = true)
  (hx : aev e x = some cx) (hy : aev e y = some cy) (D : Dst h el k rid cx n cs) (S : Src h cy m ds) (hl : ds.length = m * k) (hn : n + m ≤ 2147483648)
  (HK : AOps P nt ops Q rest ((d, .row rid) :: killE rid e) ((rid, .row el k (n + m) (cs ++ ds)) :: killH rid h)) : AOps P nt ops Q (o :: rest) e h := by
 obtain ⟨te, h1, h2⟩ := zy hel
 obtain ⟨te', h3, rfl⟩ := zu hsz
 rw [h3] at hok
 simp only [Bool.and_eq_true] at hok
 exact zat (T := [rid]) hw (zhK TO ho hdst h1 h2 h3 hok.1.1 hok.1.2 hok.2 hx hy D S hl hn hid hd (by simp)) fun e' h' ⟨h1, h2⟩ => by subst h1 h2; exact HK
def datsA : List AVal → Option (List Dat)
 | [] => some []
 | .d x :: r => match datsA r with
  | some l => some (x :: l)
  | none => none
 | _ :: _ => none
theorem zbQ {xs : List AVal} {ds : List Dat} (h : datsA xs = some ds) : xs = ds.map AVal.d := by
 induction xs generalizing ds with
 | nil => cases h; rfl
 | cons c r ih =>
  cases c <;> simp [datsA] at h
  rename_i x
  cases hr : datsA r with
  | none => simp [hr] at h
  | some l => simp [hr] at h; subst h; rw [ih hr]; rfl
theorem znO {t el k len d : Nat} {ps : Array (Nat × Operand)} {al : List (Nat × AVal)} {xs : List AVal} {ds : List Dat} (TO : TabOk P tab) (hw : awant ops e o = some true) (hdst : o.dst = some d) (hd : Nat.blt d nt = true) (hid : Nat.blt d 1000 = true) (ho : o.op = .buildSlice t len ps)
  (hel : telem tab t = some el) (hsz : tsize tab el = some k) (hok : (match tlook tab el with | some te => te.zero.all (·.oneCell') && Nat.blt 0 te.size && Nat.beq te.zero.length te.size && Nat.blt (len * te.size) 16777216 && Nat.blt 0 len | none => false) = true)
  (hal : aparts e ps.toList = some al) (hf : (match tlook tab el with
   | some te => afill (fun i => some (i * te.size, te.size)) ((List.range (len * te.size)).map fun j => match te.zero[j % te.size]? with | some v => .d (.sc v) | none => .top) al
   | none => none) = some xs) (hds : datsA xs = some ds)
  (HK : AOps P nt ops Q rest ((d, .row d) :: killE d e) ((d, .row el k len ds) :: killH d h)) : AOps P nt ops Q (o :: rest) e h := by
 obtain ⟨te, h1, h2⟩ := zy hel
 obtain ⟨te', h3, rfl⟩ := zu hsz
 rw [h3] at hok hf
 simp only [Bool.and_eq_true] at hok
 exact zat (T := []) hw (zdM TO ho hdst h1 h2 h3 hok.1.1.1.1 hok.1.1.1.2 hok.1.1.2 hok.1.2 hok.2 hal hf (zbQ hds) hid hd) fun e' h' ⟨h1, h2⟩ => by subst h1 h2; exact HK

theorem zaE {t el k rid n m d : Nat} {x y : Operand} {cy : AVal} {cs ds : List Dat} (TO : TabOk P tab) (hw : awant ops e o = some true) (hdst : o.dst = some d) (hd : Nat.blt d nt = true) (ho : o.op = .call { callee := .builtin .append, args := #[x, y], argTypes := #[t, t] })
  (hel : telem tab t = some el) (hsz : tsize tab el = some k) (hok : (match tlook tab el with | some te => Nat.blt 0 te.size && Nat.beq te.zero.length te.size && Nat.ble te.bytes 65536 | none => false) = true)
  (hx : aev e x = some (.row rid)) (hb : look h rid = some (.row el k n cs)) (hid : Nat.blt rid 1000 = true) (hy : aev e y = some cy) (S : Src h cy m ds) (hl : ds.length = m * k) (hn : n + m ≤ 2147483648)
  (HK : AOps P nt ops Q rest ((d, .row rid) :: killE rid e) ((rid, .row el k (n + m) (cs ++ ds)) :: killH rid h)) : AOps P nt ops Q (o :: rest) e h :=
 zhH rid rfl TO hw hdst hd ho hel hsz hok hid hx hy (.row hb) S hl hn HK
theorem zaF {t el k m d : Nat} {x y : Operand} {cy : AVal} {ds : List Dat} (TO : TabOk P tab) (hw : awant ops e o = some true) (hdst : o.dst = some d) (hd : Nat.blt d nt = true) (ho : o.op = .call { callee := .builtin .append, args := #[x, y], argTypes := #[t, t] })
  (hel : telem tab t = some el) (hsz : tsize tab el = some k) (hok : (match tlook tab el with | some te => Nat.blt 0 te.size && Nat.beq te.zero.length te.size && Nat.ble te.bytes 65536 | none => false) = true)
  (hx : aev e x = some (.d (.sc (.slice none 0 0)))) (hid : Nat.blt d 1000 = true) (hy : aev e y = some cy) (S : Src h cy m ds) (hl : ds.length = m * k) (hn : m ≤ 2147483648)
  (HK : AOps P nt ops Q rest ((d, .row d) :: killE d e) ((d, .row el k m ds) :: killH d h)) : AOps P nt ops Q (o :: rest) e h :=
 zhH d rfl TO hw hdst hd ho hel hsz hok hid hx hy .nil S hl (by omega) (by simpa using HK)
theorem zah {id el k n n' : Nat} {cs cs' : List Dat} (hn : n = n') (hc : cs = cs') {h : Heap} (hl : look h id = some (.row el k n cs)) : look h id = some (.row el k n' cs') := by subst hn hc; exact hl
theorem ziB {op : BinOp} {t u : TypeId} {x y : Operand} {k : IntKind} {a b : Int} {c : Bool} (ho : o.op = .binOp op t x y u) (hx : aev e x = some (.d (.sc (.int k a)))) (hy : aev e y = some (.d (.sc (.int k b)))) (hr : ibin op k a b = some (.bool c)) (hc : c = true := by first | (simp only [decide_eq_true_eq, beq_iff_eq, bne_iff_ne, ne_eq]; done) | (simp only [decide_eq_true_eq, beq_iff_eq, bne_iff_ne, ne_eq]; omega)) :
  AYield P T e h o (.d (.sc (.bool true))) := by subst hc; exact zcJ ho hx hy hr
theorem ziC {op : BinOp} {t u : TypeId} {x y : Operand} {k : IntKind} {a b : Int} {c : Bool} (ho : o.op = .binOp op t x y u) (hx : aev e x = some (.d (.sc (.int k a)))) (hy : aev e y = some (.d (.sc (.int k b)))) (hr : ibin op k a b = some (.bool c)) (hc : c = false := by first | (simp only [decide_eq_false_iff_not, beq_eq_false_iff_ne, bne_eq_false_iff_eq, ne_eq]; done) | (simp only [decide_eq_false_iff_not, beq_eq_false_iff_ne, bne_eq_false_iff_eq, ne_eq]; omega)) :
  AYield P T e h o (.d (.sc (.bool false))) := by subst hc; exact zcJ ho hx hy hr

theorem zbF {t el k j : Nat} {x y : Operand} {cs : List Dat} {n : Nat} {q : IntKind} {i : Int} (TO : TabOk P tab) (ho : o.op = .indexAddr t x y) (hel : telem tab t = some el) (hsz : tsize tab el = some k) (hx : aev e x = some (.d (.sl cs n))) (hy : aev e y = some (.d (.sc (.int q i)))) (hj : i = (j : Int)) (hlt : j < n) :
  AYield P T e h o (.iptr cs (j * k)) := by
 obtain ⟨te, h1, h2⟩ := zy hel
 obtain ⟨te', h3, rfl⟩ := zu hsz
 subst hj
 exact zit TO ho h1 h2 h3 hx hy ⟨by omega, by omega⟩
theorem zi {t el el' k kk j id : Nat} {x y : Operand} {cs : List Dat} {n : Nat} {q : IntKind} {i : Int} (TO : TabOk P tab) (ho : o.op = .indexAddr t x y) (hel : telem tab t = some el) (hsz : tsize tab el = some k) (hx : aev e x = some (.row id)) (hb : look h id = some (.row el' kk n cs)) (hy : aev e y = some (.d (.sc (.int q i)))) (hj : i = (j : Int)) (hlt : j < n) :
  AYield P T e h o (.eptr id (j * k)) := by
 obtain ⟨te, h1, h2⟩ := zy hel
 obtain ⟨te', h3, rfl⟩ := zu hsz
 subst hj
 exact zhz TO ho h1 h2 h3 hx hb hy ⟨by omega, by omega⟩
theorem znK {t f off o1 id : Nat} {x : Operand} (TO : TabOk P tab) (ho : o.op = .fieldAddr t x f) (hf : tfield tab t f = some off) (hx : aev e x = some (.ptr id o1)) (hb : (look h id).isSome = true) : AYield P T e h o (.ptr id (o1 + off)) := by
 obtain ⟨te, fs, ft, te', h1, h2, h3, h4, h5⟩ := zcx hf
 exact zhC TO ho h1 h2 h3 h4 h5 hx hb
theorem zmg {t f off o1 id : Nat} {x : Operand} (TO : TabOk P tab) (ho : o.op = .fieldAddr t x f) (hf : tfield tab t f = some off) (hx : aev e x = some (.eptr id o1)) (hb : (look h id).isSome = true) : AYield P T e h o (.eptr id (o1 + off)) := by
 obtain ⟨te, fs, ft, te', h1, h2, h3, h4, h5⟩ := zcx hf
 exact zgo TO ho h1 h2 h3 h4 h5 hx hb
theorem zmf {t f off o1 : Nat} {x : Operand} {cs : List Dat} (TO : TabOk P tab) (ho : o.op = .fieldAddr t x f) (hf : tfield tab t f = some off) (hx : aev e x = some (.iptr cs o1)) : AYield P T e h o (.iptr cs (o1 + off)) := by
 obtain ⟨te, fs, ft, te', h1, h2, h3, h4, h5⟩ := zcx hf
 exact zgn TO ho h1 h2 h3 h4 h5 hx
def lval (ag : Bool) (xs : List AVal) : Option AVal := match ag, xs with
 | true, xs => some (.agg xs)
 | false, [c] => some c
 | false, _ => none
theorem zcS {ag : Bool} {xs : List AVal} {c : AVal} (h : lval ag xs = some c) : cond ag (some (.agg xs)) xs.head? = some c := by
 unfold lval at h
 split at h
 ·exact h
 ·exact h
 ·cases h
theorem zde {t id o1 s : Nat} {x : Operand} {cs xs : List AVal} {c : AVal} {ag : Bool} (TO : TabOk P tab) (ho : o.op = .load t x) (hs : tsize tab t = some s) (ha : tagg tab t = some ag) (hx : aev e x = some (.ptr id o1)) (hb : look h id = some (.var cs)) (hT : T.contains id = false)
  (hw : win cs o1 s = xs) (hl : Nat.beq xs.length s = true) (hc : lval ag xs = some c) : AYield P T e h o c := by
 obtain ⟨te, h1, rfl⟩ := zu hs
 obtain ⟨te', h3, rfl⟩ := zbG ha
 rw [h1] at h3; cases h3
 exact zir TO ho h1 hx hb hT hw hl (zcS hc)
theorem zg {t id o1 s el k n : Nat} {x : Operand} {cs xs : List Dat} {c : AVal} {ag : Bool} (TO : TabOk P tab) (ho : o.op = .load t x) (hs : tsize tab t = some s) (ha : tagg tab t = some ag) (hx : aev e x = some (.eptr id o1)) (hb : look h id = some (.row el k n cs)) (hT : T.contains id = false)
  (hw : win cs o1 s = xs) (hl : Nat.beq xs.length s = true) (hc : lval ag (xs.map AVal.d) = some c) : AYield P T e h o c := by
 obtain ⟨te, h1, rfl⟩ := zu hs
 obtain ⟨te', h3, rfl⟩ := zbG ha
 rw [h1] at h3; cases h3
 exact zhy TO ho h1 hx hb hT (by rw [hw]) (by simpa using hl) (zcS hc)
theorem zi0 {t o1 s : Nat} {x : Operand} {cs xs : List Dat} {c : AVal} {ag : Bool} (TO : TabOk P tab) (ho : o.op = .load t x) (hs : tsize tab t = some s) (ha : tagg tab t = some ag) (hx : aev e x = some (.iptr cs o1)) (hw : win cs o1 s = xs) (hl : Nat.beq xs.length s = true) (hc : lval ag (xs.map AVal.d) = some c) :
  AYield P T e h o c := by
 obtain ⟨te, h1, rfl⟩ := zu hs
 obtain ⟨te', h3, rfl⟩ := zbG ha
 rw [h1] at h3; cases h3
 exact zhx TO ho h1 hx hw hl (zcS hc)
theorem zpH {t el : Nat} {x : Operand} {cs : List Dat} {n : Nat} (TO : TabOk P tab) (ho : o.op = .call { callee := .builtin .len, args := #[x], argTypes := #[t] }) (hel : telem tab t = some el) (hx : aev e x = some (.d (.sl cs n))) : AYield P T e h o (.d (.sc (.int .i64 (n : Int)))) := by
 obtain ⟨te, h1, h2⟩ := zy hel
 exact zl4 TO ho h1 h2 hx
theorem zpf {t el el' id k n : Nat} {x : Operand} {cs : List Dat} (TO : TabOk P tab) (ho : o.op = .call { callee := .builtin .len, args := #[x], argTypes := #[t] }) (hel : telem tab t = some el) (hx : aev e x = some (.row id)) (hb : look h id = some (.row el' k n cs)) : AYield P T e h o (.d (.sc (.int .i64 (n : Int)))) := by
 obtain ⟨te, h1, h2⟩ := zy hel
 exact zj9 TO ho h1 h2 hx hb
theorem zpg {t el : Nat} {x : Operand} (TO : TabOk P tab) (ho : o.op = .call { callee := .builtin .len, args := #[x], argTypes := #[t] }) (hel : telem tab t = some el) (hx : aev e x = some (.d (.sc (.slice none 0 0)))) : AYield P T e h o (.d (.sc (.int .i64 0))) := by
 obtain ⟨te, h1, h2⟩ := zy hel
 exact zka TO ho h1 h2 hx
theorem zi1 {t : TypeId} {ps : Array (Nat × Operand)} {al : List (Nat × AVal)} {z xs : List AVal} {fs : List (Nat × TypeId)} (TO : TabOk P tab) (ho : o.op = .build t ps) (hz : tzero tab t = some z) (hfs : (match tlook tab t with | some ⟨_, _, _, _, .st fs⟩ => some fs | _ => none) = some fs) (hal' : fs.all (fun f => (tlook tab f.2).isSome) = true)
  (hal : aparts e ps.toList = some al) (hf : afill (stPlace tab fs) z al = some xs) : AYield P T e h o (.agg xs) := by
 obtain ⟨te, h1, h2, rfl⟩ := zc8 hz
 rw [h1] at hfs
 split at hfs
 ·rename_i heq
  cases heq
  cases hfs
  exact znG TO ho h1 rfl hal' h2 hal hf
 ·cases hfs
theorem zgx {n : Int} {m : Nat} (h : n = (m : Int)) (h2 : m ≤ 9223372036854775807) : IntKind.i64.wrap n = (m : Int) := by rw [h]; exact zaL ⟨by omega, by omega⟩
theorem zfk {k : Nat} (h2 : k < 9223372036854775807) : IntKind.i64.wrap ((k : Int) + 1) = ((k + 1 : Nat) : Int) := zgx (by omega) (by omega)
theorem zfl {k : Nat} (h1 : 1 ≤ k) (h2 : k ≤ 9223372036854775807) : IntKind.i64.wrap ((k : Int) - 1) = ((k - 1 : Nat) : Int) := zgx (by omega) (by omega)
theorem A_ct {c : Operand} {x y : Code} {b : Bool} (hc : aev e c = some (.d (.sc (.bool b)))) (ht : AWp z P nt x Q e h) (hb : b = true := by first | rfl | assumption | (first | (simp only [decide_eq_true_eq]; done) | (simp only [decide_eq_true_eq]; omega))) : AWp z P nt (.cond c x y) Q e h := zn3 hc hb ht
theorem A_cf {c : Operand} {x y : Code} {b : Bool} (hc : aev e c = some (.d (.sc (.bool b)))) (ht : AWp z P nt y Q e h) (hb : b = false := by first | rfl | assumption | (first | (simp only [decide_eq_false_iff_not]; done) | (simp only [decide_eq_false_iff_not]; omega))) : AWp z P nt (.cond c x y) Q e h := zn4 hc hb ht
theorem zx {α : Type} {enc : α → List Dat} {sz : Nat} (hsz : ∀ x, (enc x).length = sz) (l : List α) (k j m : Nat) (hk : k < l.length) (hj : j + m ≤ sz) : win (l.flatMap enc) (k * sz + j) m = win (enc l[k]) j m := by
 induction l generalizing k with
 | nil => simp at hk
 | cons a r ih =>
  cases k with
  | zero =>
   simp only [List.flatMap_cons, Nat.zero_mul, Nat.zero_add, List.getElem_cons_zero, win]
   have := hsz a
   rw [List.drop_append_of_le_length (by omega), List.take_append_of_le_length (by simp; omega)]
  | succ k =>
   have h1 := ih k (by simpa using hk)
   simp only [List.flatMap_cons, List.getElem_cons_succ] at h1 ⊢
   rw [← h1]
   unfold win
   have := hsz a
   rw [show (k + 1) * sz + j = (enc a).length + (k * sz + j) by rw [this, Nat.add_mul]; omega, ← List.drop_drop, List.drop_left]
theorem zn {α : Type} {enc : α → List Dat} {sz : Nat} (hsz : ∀ x, (enc x).length = sz) (l : List α) (k m : Nat) (hk : k < l.length) (hj : m ≤ sz) : win (l.flatMap enc) (k * sz) m = win (enc l[k]) 0 m := zx hsz l k 0 m hk (by omega)
theorem zaj {α : Type} {enc : α → List Dat} {sz : Nat} (hsz : ∀ x, (enc x).length = sz) (l : List α) (k j j2 m : Nat) (hk : k < l.length) (hj : j + j2 + m ≤ sz) : win (l.flatMap enc) (k * sz + j + j2) m = win (enc l[k]) (j + j2) m := by
 rw [Nat.add_assoc]; exact zx hsz l k (j + j2) m hk hj
theorem zM {α : Type} {enc : α → List Dat} {sz : Nat} (hsz : ∀ x, (enc x).length = sz) (l : List α) : (l.flatMap enc).length = l.length * sz := by
 induction l with
 | nil => simp
 | cons a r ih => simp [ih, hsz, Nat.add_mul]; omega
end
end Go.Proofs.YtmmdkjanmegjdaaGreat.Ab

namespace Go.Proofs.YtmmdkjanmegjdaaGreat.Ab
open Go.RowKit

theorem TFacts.elem {P : Program} {t : TypeId} {te : TE} {el : TypeId} (F : TFacts P t te) (hs : te.sh = .sl el) : P.elem t = el := by
 have := F.slice hs
 simp [Program.elem, this]

theorem ziF {xs ys : List Dat} {n : Nat} (w : World) (F : Nat → Prop) (ι : Nat → Option Value) (u : Value) (h : VRel w F ι (.d (.sl (xs ++ ys) n)) u) : VRel w F ι (.d (.sl xs n)) u := by
 cases h with
 | d _ _ hd =>
  generalize hz : xs ++ ys = zs at hd
  cases hd with
  | nil =>
   obtain ⟨h1, h2⟩ := List.append_eq_nil_iff.1 hz
   subst h1
   exact .d _ _ .nil
  | emp a =>
   obtain ⟨h1, h2⟩ := List.append_eq_nil_iff.1 hz
   subst h1
   exact .d _ _ (.emp a)
  | sl _ _ b o cap vs hn hl hf hc hr =>
   subst hz
   refine .d _ _ (.sl xs n b o cap (vs.take xs.length) hn (by simp at hl ⊢; omega) (fun hne => hf (by rintro rfl; simp at hne)) (fun i v hv => ?_) (fun i c v h1 h2 => ?_))
   ·rw [List.getElem?_take] at hv
    split at hv
    ·exact hc i v hv
    ·cases hv
   ·rw [List.getElem?_take] at h2
    split at h2
    ·rename_i hi
     exact hr i c v (by rw [List.getElem?_append_left hi]; exact h1) h2
    ·cases h2
section
variable {P : Program} {nt : Nat} {Q : Post} {e : Env} {h : Heap} {ops : Array Oper} {o : Oper} {rest : List Oper} {T : List Nat} {tab : TTab}
theorem zB {e' : Env} {h' : Heap} {l : List Oper} (hk : AWk nt e h e' h') (H : AOps P nt ops Q l e' h') : AOps P nt ops Q l e h := fun hnd lq Pm F w0 pin ι a w R => by
 obtain ⟨ι', R'⟩ := hk Pm F w0 pin ι a w R
 exact H hnd lq Pm F w0 pin ι' a w R'
theorem zod {x y : Operand} {ats : Array TypeId} {k : IntKind} {a b r : Int} (ho : o.op = .call { callee := .builtin .min, args := #[x, y], argTypes := ats }) (hx : aev e x = some (.d (.sc (.int k a)))) (hy : aev e y = some (.d (.sc (.int k b)))) (hr : (if b < a then b else a) = r) :
  AYield P T e h o (.d (.sc (.int k r))) := zN _ fun w F ι ac E => by
 refine ⟨.int k r, zH rfl, fun w' => ?_⟩
 have h1 := (zQ (zj E hx)).1
 have h2 := (zQ (zj E hy)).1
 subst hr
 simp [execOp, ho, resolve, invoke, builtin, h1, h2, Builtin.min_, Builtin.min2]

theorem zcQ {t el : TypeId} {te te' : TE} (w' : World) (Ft : TFacts P t te) (hs : te.sh = .sl el) (Fe : TFacts P el te') (b : Option Addr) (hb : ∀ a, b = some a → a.add 0 = a) (n cap : Nat) (k : IntKind) (m : Nat) (hm : m ≤ cap) :
  (Instr.sliceAt t (.slice b n cap) none (some (.int k m)) none).run P w' = .ok (.slice b m cap) w' := by
 have hu := Ft.slice hs
 have he : P.elem t = el := Ft.elem hs
 rw [run_sliceAt_slice (t := t) (h := by rw [he]; exact hu), run_slice_h (P := P) (w := w') (t := t) (a := b) (len := n) (cap := cap) (ht := by rw [he]; exact hu) (kh := k) (h := (m : Int)) (by omega) (by omega), he, Fe.size]
 simp only [Result.andThen, sliced, Int.toNat_natCast, Nat.zero_mul, Nat.sub_zero]
 congr 2
 split
 ·rfl
 ·cases b with
  | none => rfl
  | some a => simp [hb a rfl]
theorem add0 (b o : Nat) : (⟨b, o, none⟩ : Addr).add 0 = ⟨b, o, none⟩ := rfl
theorem zl9 {t el k m : Nat} {x y : Operand} {cs : List Dat} {n : Nat} {q : IntKind} {i : Int} (TO : TabOk P tab) (ho : o.op = .slice t x none (some y) none) (hel : telem tab t = some el) (hsz : tsize tab el = some k) (hx : aev e x = some (.d (.sl cs n))) (hy : aev e y = some (.d (.sc (.int q i)))) (hi : i = (m : Int)) (hm : m ≤ n) :
  AYield P T e h o (.d (.sl cs m)) := by
 obtain ⟨te, h1, h2⟩ := zy hel
 obtain ⟨te', h3, rfl⟩ := zu hsz
 subst hi
 refine zN _ fun w F ι a E => ?_
 have hv := zj E hx
 have hk := (zQ (zj E hy)).1
 generalize hau : a.eval x = u at hv
 cases hv with
 | d _ _ hd =>
  cases hd with
  | nil =>
   have : m = 0 := by omega
   subst this
   exact ⟨_, .d _ _ .nil, fun w' => by simp only [execOp, ho, hau]; simp [hk]; rw [show (0 : Int) = ((0 : Nat) : Int) from rfl, zcQ w' (TO t te h1) h2 (TO el te' h3) none (fun a h => by cases h) 0 0 q 0 (Nat.le_refl _)]; rfl⟩
  | emp aa =>
   have : m = 0 := by omega
   subst this
   exact ⟨_, .d _ _ (.emp aa), fun w' => by simp only [execOp, ho, hau]; simp [hk]; rw [show (0 : Int) = ((0 : Nat) : Int) from rfl, zcQ w' (TO t te h1) h2 (TO el te' h3) (some aa) (fun a h => rfl) 0 0 q 0 (Nat.le_refl _)]; rfl⟩
  | sl _ _ b off cap vs hn hl hf hc hr =>
   exact ⟨_, .d _ _ (.sl cs m b off cap vs (by omega) hl hf hc hr), fun w' => by simp only [execOp, ho, hau]; simp [hk]; rw [zcQ w' (TO t te h1) h2 (TO el te' h3) _ (fun a h => by cases h; exact add0 _ _) n cap q m (by omega)]; rfl⟩
theorem zc7 {t el : TypeId} {te te' : TE} {d : Option Tmp} {id : Nat} (TO : TabOk P tab) (ho : o.op = .buildSlice t 0 #[]) (hdst : o.dst = d) (ht : tlook tab t = some te) (hs : te.sh = .sl el) (hel : tlook tab el = some te') (hid : Nat.blt id 1000 = true) (hd : dstOk nt d = true) :
  AEff P nt T e h o (fun e' h' => e' = aput d (.row id) (killE id e) ∧ h' = (id, .row el te'.size 0 []) :: killH id h) := fun Pm F w0 pin ι a w R K Qx hK => by
 have hu := (TO t te ht).slice hs
 have hb : ∀ ι', ι' = upd ι id (some (.slice (some ⟨w.heap.size, 0, none⟩) 0 0)) → Ext w F ι (w.alloc (.cells #[] el)) ι' → BRel (w.alloc (.cells #[] el)) F ι' (.row el te'.size 0 []) (.slice (some ⟨w.heap.size, 0, none⟩) 0 0) := fun ι' h0 he =>
  ⟨[], ⟨by simp, .inr ⟨w.heap.size, 0, #[], rfl, Nat.zero_le _, zbg _ _, Nat.le_refl _, Nat.zero_le _, by simp, by simp⟩⟩, rfl, by simp⟩
 obtain ⟨hR, hC⟩ := R.new (T := T) hid hd (.cells #[] el) (.slice (some ⟨w.heap.size, 0, none⟩) 0 0) (by simp [blockOf]) _ (.row id) hb fun ι' h1 => .row id _ rfl fun v hv => by subst h1; simp [upd] at hv; exact hv
 have hrun : (execOp a.eval o).run P w = .ok (.value (.slice (some ⟨w.heap.size, 0, none⟩) 0 0)) (w.alloc (.cells #[] el)) := by
  simp only [execOp, ho]
  simp [Instr.buildSlice, run_underlying hu, (TO el te' hel).size, Instr.fill, newRow, newObj, Sem.run]
  first | rfl | (rw [show Array.range 0 = #[] from rfl]; rfl) | (rw [show Array.range 0 = #[] from by decide]; simp)
 unfold Oper.wp
 rw [hrun, Oper.upon_value, hdst]
 exact hK _ _ _ _ _ ⟨rfl, rfl⟩ hR hC (zl _ _ _)
theorem zcM {t el k d : Nat} (TO : TabOk P tab) (hw : awant ops e o = some true) (hdst : o.dst = some d) (hd : Nat.blt d nt = true) (hid : Nat.blt d 1000 = true) (ho : o.op = .buildSlice t 0 #[]) (hel : telem tab t = some el) (hsz : tsize tab el = some k)
  (HK : AOps P nt ops Q rest ((d, .row d) :: killE d e) ((d, .row el k 0 []) :: killH d h)) : AOps P nt ops Q (o :: rest) e h := by
 obtain ⟨te, h1, h2⟩ := zy hel
 obtain ⟨te', h3, rfl⟩ := zu hsz
 exact zat (T := []) hw (zc7 TO ho hdst h1 h2 h3 hid hd) fun e' h' ⟨h1, h2⟩ => by subst h1 h2; exact HK

theorem zdL {t : TypeId} {x y : Operand} {d : Option Tmp} {te : TE} {id off el k n : Nat} {cs ds : List Dat} {xs : List AVal} {c : AVal} (TO : TabOk P tab) (ho : o.op = .store t x y) (hdst : o.dst = d) (ht : tlook tab t = some te) (hx : aev e x = some (.eptr id off)) (hb : look h id = some (.row el k n cs))
  (hy : aev e y = some c) (hcs : cellsA c = some xs) (hds : xs = ds.map AVal.d) (hl : xs.length = te.size) (hle : off + te.size ≤ cs.length) (h0 : 0 < n) (hd : dstOk nt d = true) (hT : T.contains id = true) :
  AEff P nt T e h o (fun e' h' => e' = aput d .und e ∧ h' = (id, .row el k n (setW cs off ds)) :: h) := fun Pm F w0 pin ι a w R K Qx hK => by
 obtain ⟨v, hv, zs, hown, hlC, hr⟩ := R.heap.blk id _ hb
 have hrel := zj R.env hx
 have hyr := zj R.env hy
 obtain ⟨hsz, hcr⟩ := zcd hyr hcs
 obtain ⟨hzl, hcase⟩ := hown
 rcases hcase with ⟨_, h9⟩ | ⟨g, cap, cur, rfl, hg0, hC, hnc, hmx, hcs2, htake⟩
 ·exact absurd h0 (by omega)
 have hnk : n * k ≤ cap * k := Nat.mul_le_mul_right _ hnc
 have hle2 : off + te.size ≤ n * k := by omega
 generalize hau : a.eval x = u at hrel
 cases hrel with
 | eptr _ _ _ h1 h2 =>
  obtain ⟨g', n', cap', h3, rfl⟩ := h2 _ hv
  cases h3
  have hdl : ds.length = te.size := by rw [← hl, hds, List.length_map]
  have hone : ∀ u ∈ (a.eval y).cells.toList, u.oneCell' = true := fun u hu => by
   obtain ⟨i, hi⟩ := List.mem_iff_getElem?.1 hu
   have hlt : i < xs.length := by rw [← hsz, ← Array.length_toList]; exact (List.getElem?_eq_some_iff.1 hi).1
   have hcc := hcr i xs[i] u (List.getElem?_eq_getElem hlt) (by simpa using hi)
   have hxi : xs[i] = .d (ds[i]'(by rw [hds] at hlt; simpa using hlt)) := by subst hds; simp
   rw [hxi] at hcc
   cases hcc with
   | d _ _ hdd => exact hdd.one
  have hrun := zch (w := w) (TO t te ht) hC (a.eval y) (by rw [hsz, hl]) (by rw [hcs2]; omega) hone (off := off)
  obtain ⟨hW, hnew⟩ := zaZ (C' := (setW cur.toList off (a.eval y).cells.toList).toArray) hC (v := .slice (some ⟨g, 0, none⟩) n cap) rfl
  have hlen : (a.eval y).cells.toList.length = xs.length := by simpa using hsz
  unfold Oper.wp
  have hrun2 : (execOp a.eval o).run P w = .ok .skip (w.setRow g (setW cur.toList off (a.eval y).cells.toList).toArray) := by
   simp [execOp, ho, Instr.storeAt, Instr.sureAddr, hau, hrun]
  rw [hrun2, Oper.upon_skip, hdst]
  have hcl : cur.toList.length = cap * k := by simpa using hcs2
  refine hK ι _ _ _ _ ⟨rfl, rfl⟩ ?_ ?_ (zl _ _ _)
  ·refine ⟨R.heap.wrote hW hv ⟨(setW cur.toList off (a.eval y).cells.toList).take (n * k), ⟨?_, .inr ⟨g, cap, _, rfl, hg0, hnew, hnc, hmx, ?_, rfl⟩⟩, ?_, fun i c' u h4 h5 => ?_⟩, (R.env.mono fun _ _ _ _ hv' => hv'.wrote hW hv).aput hd R.size .und, by rw [zl]; exact R.defers.ext (hW.ext hv), by rw [zac]; exact R.size⟩
   ·simp [setW]; omega
   ·simp [setW]; omega
   ·simp [setW]; omega
   ·rw [zak (by omega)] at h4
    rw [List.getElem?_take] at h5
    split at h5
    ·rename_i hin0
     rw [zak (by rw [hlen]; omega), hlen] at h5
     split at h4
     ·rename_i hin
      rw [if_pos (by omega)] at h5
      have := hcr (i - off) (.d c') u (by rw [hds, List.getElem?_map, h4]; rfl) (by simpa using h5)
      have := this.wrote hW hv
      cases this with
      | d _ _ hdd => exact hdd
     ·rename_i hin
      rw [if_neg (by omega)] at h5
      have := (VRel.d _ _ (hr i c' u h4 (by rw [← htake, List.getElem?_take, if_pos hin0]; exact h5))).wrote hW hv
      cases this with
      | d _ _ hdd => exact hdd
    ·cases h5
  ·exact ⟨⟨hW.os, hW.tape, hW.output, hW.size, fun r hr hne => hW.mem r hr fun hb => hne id (List.contains_iff_mem.1 hT) _ hv hb⟩, fun j _ u r hj hr _ => ⟨u, hj, hr⟩⟩
theorem zcL {t : TypeId} {x y : Operand} {id off s el k n : Nat} {cs ds : List Dat} {xs : List AVal} {c : AVal} (TO : TabOk P tab) (hw : awant ops e o = some true) (hdst : o.dst = none) (ho : o.op = .store t x y) (hx : aev e x = some (.eptr id off)) (hb : look h id = some (.row el k n cs))
  (hy : aev e y = some c) (hcs : cellsA c = some xs) (hds : datsA xs = some ds) (hs : tsize tab t = some s) (hl : Nat.beq xs.length s = true) (hle : off + s ≤ cs.length) (h0 : 0 < n)
  (HK : AOps P nt ops Q rest e ((id, .row el k n (setW cs off ds)) :: h)) : AOps P nt ops Q (o :: rest) e h := by
 obtain ⟨te, h1, h2⟩ := zu hs
 subst h2
 exact zat (T := [id]) hw (zdL TO ho hdst h1 hx hb hy hcs (zbQ hds) (Nat.eq_of_beq_eq_true hl) hle h0 rfl (by simp)) fun e' h' ⟨h1, h2⟩ => by subst h1 h2; exact HK
end
def lendV (h : Heap) : AVal → AVal
 | .row id => match look h id with
  | some (.row _ _ n ds) => .d (.sl ds n)
  | _ => .top
 | c => c
theorem FreeB.all (r : Nat) : FreeB (fun _ => False) (fun _ => none) r := ⟨fun h => h, fun _ _ h => by cases h⟩
theorem zlf {Pm F : Nat → Prop} {w0 w : World} {pin ι : Nat → Option Value} {h : Heap} (H : HRel Pm F w0 pin ι h w) {c : AVal} {u : Value} (hc : VRel w F ι c u) : VRel w (fun _ => False) (fun _ => none) (lendV h c) u := by
 have other : ∀ {c : AVal}, VRel w F ι c u → VRel w (fun _ => False) (fun _ => none) c u := fun hc => hc.extF ⟨fun _ _ _ => rfl, fun r _ _ => FreeB.all r⟩ fun _ _ _ h => by cases h
 cases c with
 | row id =>
  cases hb : look h id with
  | none => simp only [lendV, hb]; exact .top u
  | some b =>
   cases b with
   | row el k n ds =>
    obtain ⟨v, hv, xs, hown, hl, hr⟩ := H.blk id _ hb
    cases hc with
    | row _ _ h1 h2 =>
     have := h2 v hv
     subst this
     rcases hown.2 with ⟨h3, h4⟩ | ⟨g, cap, cur, h3, _, hg, hn, _, hs, ht⟩
     ·subst h3 h4
      have hx := hown.1
      rw [Nat.zero_mul] at hx
      have : ds = [] := List.length_eq_zero_iff.1 (by omega)
      subst this
      simp only [lendV, hb]
      exact .d _ _ .nil
     ·subst h3
      simp only [lendV, hb]
      refine .d _ _ (.sl ds n g 0 cap xs hn hl (fun _ => FreeB.all g) (fun i x hx => ?_) fun i c x h5 h6 => (hr i c x h5 h6).ext (fun _ _ _ => rfl) fun r _ _ => FreeB.all r)
      rw [← ht, List.getElem?_take] at hx
      split at hx
      ·simp only [World.cell?, hg]
       simpa using hx
      ·cases hx
   | _ => simp only [lendV, hb]; exact .top u
 | _ => exact other hc
theorem zj3 {Pm F : Nat → Prop} {w0 w : World} {pin ι : Nat → Option Value} {h : Heap} (H : HRel Pm F w0 pin ι h w) {cs : List AVal} {us : Array Value} (A : ArgsRel w F ι cs us) : ArgsRel w (fun _ => False) (fun _ => none) (cs.map (lendV h)) us :=
 ⟨by rw [List.length_map]; exact A.1, fun i c u h1 h2 => by
  rw [List.getElem?_map] at h1
  cases hc : cs[i]? with
  | none => rw [hc] at h1; cases h1
  | some c' => rw [hc] at h1; cases h1; exact zlf H (A.2 i c' u hc h2)⟩
section
variable {P : Program} {nt : Nat} {Q : Post} {e : Env} {h : Heap} {ops : Array Oper} {o : Oper} {rest : List Oper} {T : List Nat} {tab : TTab}
theorem zi9 {f : FuncId} {args : Array Operand} {ats : Array TypeId} {cs : List AVal} {d : Option Tmp} {c : AVal} {v : Value} (ho : o.op = .call { callee := .value (.func f), args := args, argTypes := ats }) (hdst : o.dst = d) (hx : aevs e args.toList = some cs)
  (H : ACall P f (cs.map (lendV h)) [] (fun c' h' => c' = c ∧ h' = [])) (hd : dstOk nt d = true) (hc : valA c = some v) (hrel : ∀ w F ι, VRel w F ι c v) : AEff P nt T e h o (fun e' h' => e' = aput d c e ∧ h' = h) := fun Pm F w0 pin ι a w R K Qx hK => by
 unfold Oper.wp
 rw [zbH H.1 ho, Oper.upon_enter, hdst]
 refine (H.2 _ _ w _ _ _ w (HRel.none (fun _ => False) w (fun _ h => h.elim)) (zj3 R.heap (zbD R.env hx))).mono ?_
 rintro x w' ⟨u, c', h', ι', rfl, ⟨rfl, rfl⟩, hH, hv⟩
 have := zax hv hc
 subst this
 have G := hH.grewC
 exact hK ι _ _ _ w' ⟨rfl, rfl⟩ ((R.grew G).put hd (hrel _ _ _)) ⟨G.ct T, fun id _ v r h1 h2 _ => ⟨v, h1, h2⟩⟩ (zl _ _ _)
theorem O_cL {f : FuncId} {args : Array Operand} {ats : Array TypeId} {cs : List AVal} {c : AVal} {v : Value} {d : Nat} (hw : awant ops e o = some true) (hdst : o.dst = some d) (hd : Nat.blt d nt = true) (ho : o.op = .call { callee := .value (.func f), args := args, argTypes := ats }) (hx : aevs e args.toList = some cs)
  (H : ACall P f (cs.map (lendV h)) [] (fun c' h' => c' = c ∧ h' = [])) (hc : valA c = some v) (hrel : ∀ w F ι, VRel w F ι c v) (HK : AOps P nt ops Q rest ((d, c) :: e) h) : AOps P nt ops Q (o :: rest) e h :=
 zat (T := []) hw (zi9 ho hdst hx H hd hc hrel) fun e' h' ⟨h1, h2⟩ => by subst h1 h2; exact HK
theorem zbh {f : FuncId} {args : Array Operand} {ats : Array TypeId} {cs : List AVal} {d id el k n : Nat} {ds : List Dat} (hw : awant ops e o = some true) (hdst : o.dst = some d) (hd : Nat.blt d nt = true) (ho : o.op = .call { callee := .value (.func f), args := args, argTypes := ats }) (hx : aevs e args.toList = some cs)
  (H : ACall P f cs [] (fun c' h' => c' = .row id ∧ h' = [(id, .row el k n ds)])) (hid : Nat.blt id 1000 = true) (HK : AOps P nt ops Q rest ((d, .row id) :: killEs [id] e) ((id, .row el k n ds) :: killHs [id] h)) : AOps P nt ops Q (o :: rest) e h :=
 zat (T := []) hw (zcu ho hdst hx H hd fun c' h' ⟨h1, h2⟩ => by
  subst h1 h2
  refine ⟨by simp [hid], fun j b i hb hh => ?_, fun j hj => ?_⟩
  ·unfold look at hb
   cases hj : Nat.beq id j with
   | true => rw [hj] at hb; cases hb; simp [blkHas] at hh
   | false => rw [hj] at hb; cases hb
  ·simp [AVal.has] at hj
   subst hj
   simp [look]) fun e' h' ⟨c, h2, ⟨h3, h4⟩, h5, h6⟩ => by subst h3 h4 h5 h6; exact HK
end
end Go.Proofs.YtmmdkjanmegjdaaGreat.Ab

namespace Go.Proofs.YtmmdkjanmegjdaaGreat.Ab
set_option linter.unusedSectionVars false
open Go.RowKit
section
variable {P : Program} {nt : Nat} {T : List Nat} {e : Env} {h : Heap} {o : Oper} {tab : TTab}
theorem zfj {t el : TypeId} {ps : Array (Nat × Operand)} {len : Nat} {te te' : TE} {d : Option Tmp} {id : Nat} {al : List (Nat × AVal)} {xs : List AVal} (TO : TabOk P tab) (ho : o.op = .buildSlice t len ps) (hdst : o.dst = d) (ht : tlook tab t = some te) (hs : te.sh = .sl el)
  (hel : tlook tab el = some te') (hz : te'.zero.all (·.oneCell') = true) (hk : Nat.blt 0 te'.size = true) (hk2 : Nat.beq te'.zero.length te'.size = true) (hlen : Nat.blt (len * te'.size) 16777216 = true) (hpos : Nat.blt 0 len = true) (hal : aparts e ps.toList = some al)
  (hf : afill (fun i => some (i * te'.size, te'.size)) ((List.range (len * te'.size)).map fun j => match te'.zero[j % te'.size]? with | some v => .d (.sc v) | none => .top) al = some xs) (hid : Nat.blt id 1000 = true) (hd : dstOk nt d = true) :
  AEff P nt T e h o (fun e' h' => e' = aput d (.row id) (killE id e) ∧ h' = (id, .rowA el te'.size len (xs.map (killV id))) :: killH id h) := fun Pm F w0 pin ι a w R K Qx hK => by
 have hu := (TO t te ht).slice hs
 obtain ⟨z, hz1, hz2, _⟩ := (TO el te' hel).zero w
 have hzl : z.cells.size = te'.size := by rw [← Array.length_toList, hz2]; exact Nat.eq_of_beq_eq_true hk2
 have hk : 0 < te'.size := by simp [Nat.blt] at hk; omega
 have hlen : len * te'.size < 16777216 := by simp [Nat.blt] at hlen; omega
 have hpos : 0 < len := by simp [Nat.blt] at hpos; omega
 let C0 : Array Value := (Array.range (len * te'.size)).map (z.cells[· % z.cells.size]!)
 have hget : ∀ j, j < len * te'.size → C0[j]? = te'.zero[j % te'.size]? ∧ ∃ v, te'.zero[j % te'.size]? = some v ∧ v.oneCell' = true := by
  intro j hj
  have hlt : j % te'.size < z.cells.size := by rw [hzl]; exact Nat.mod_lt _ hk
  have e1 : te'.zero[j % te'.size]? = some z.cells[j % te'.size] := by rw [← hz2, Array.getElem?_toList, Array.getElem?_eq_getElem hlt]
  refine ⟨?_, z.cells[j % te'.size], e1, List.all_eq_true.1 hz _ (List.mem_of_getElem? e1)⟩
  rw [e1]
  have hlt2 : j % z.cells.size < z.cells.size := by rw [hzl] at hlt ⊢; exact hlt
  simp only [C0, Array.getElem?_map]
  rw [Array.getElem?_range]
  simp only [hj, if_true, Option.map_some]
  rw [getElem!_pos z.cells _ hlt2]
  simp only [hzl]
 obtain ⟨C', g1, g2, g3⟩ := zc0 R.env (fun i => some (i * te'.size, te'.size)) ps.toList al _ C0 xs hal hf (by simp [C0]) fun j c u h1 h2 => by
  have hj : j < len * te'.size := by have := (Array.getElem?_eq_some_iff.1 h2).1; simpa [C0] using this
  obtain ⟨e1, v, e2, e3⟩ := hget j hj
  rw [List.getElem?_map, List.getElem?_range hj] at h1
  simp only [Option.map_some, e2] at h1
  cases h1
  rw [e1, e2] at h2
  cases h2
  exact zH e3
 have hxl : xs.length = len * te'.size := by
  have : ∀ (al : List (Nat × AVal)) (cells xs : List AVal) (place : Nat → Option (Nat × Nat)), afill place cells al = some xs → xs.length = cells.length := by
   intro al
   induction al with
   | nil => intro cells xs place h; cases h; rfl
   | cons p r ih =>
    intro cells xs place h
    obtain ⟨i, c⟩ := p
    rw [afill] at h
    split at h
    ·rename_i off size ys _ _
     cases hb : Nat.beq ys.length size && Nat.ble (off + ys.length) cells.length with
     | false => rw [hb] at h; cases h
     | true =>
      rw [hb] at h
      have := ih _ _ _ h
      have hl := Nat.le_of_ble_eq_true (by simp only [Bool.and_eq_true] at hb; exact hb.2)
      rw [this]; simp [setW]; omega
    ·cases h
  rw [this al _ xs _ hf]; simp
 have hb : ∀ ι', ι' = upd ι id (some (.slice (some ⟨w.heap.size, 0, none⟩) len len)) → Ext w F ι (w.alloc (.cells C' el)) ι' → BRel (w.alloc (.cells C' el)) F ι' (.rowA el te'.size len (xs.map (killV id))) (.slice (some ⟨w.heap.size, 0, none⟩) len len) := by
  intro ι' h0 he
  have hsz : C'.size = len * te'.size := by rw [g2, hxl]
  refine ⟨C'.toList, ⟨by simp [hsz], .inr ⟨w.heap.size, len, C', rfl, Nat.zero_le _, zbg _ _, Nat.le_refl _, ?_, hsz, ?_⟩⟩, ?_, ?_⟩
  ·have := Nat.le_mul_of_pos_right len hk
   unfold maxLen; omega
  ·rw [List.take_of_length_le (by simp [hsz])]
  ·simpa using g2
  ·intro i c u h1 h2
   rw [List.getElem?_map] at h1
   cases hc : xs[i]? with
   | none => rw [hc] at h1; cases h1
   | some c0 =>
    rw [hc] at h1; cases h1
    subst h0
    exact (g3 i c0 u hc (by simpa using h2)).killed he
 obtain ⟨hR, hC⟩ := R.new (T := T) hid hd (.cells C' el) (.slice (some ⟨w.heap.size, 0, none⟩) len len) (by simp [blockOf]) _ (.row id) hb fun ι' h1 => .row id _ rfl fun v hv => by subst h1; simp [upd] at hv; exact hv
 have hrun : (execOp a.eval o).run P w = .ok (.value (.slice (some ⟨w.heap.size, 0, none⟩) len len)) (w.alloc (.cells C' el)) := by
  have hfill : Instr.fill (fun i => some (i * te'.size, te'.size)) C0 (ps.map fun p => (p.1, a.eval p.2)).toList = some C' := by rw [Array.toList_map]; exact g1
  simp only [execOp, ho]
  have h0 : ¬ (len = 0 ∨ te'.size = 0) := by omega
  rw [Array.toList_map] at hfill
  have hn : ¬ (16777216 < len * te'.size) := by omega
  simp [Instr.buildSlice, run_underlying hu, (TO el te' hel).size, hz1, hn]
  rw [show Instr.fill (fun i => some (i * te'.size, te'.size)) _ _ = some C' from hfill]
  simp [newRow, newObj, Sem.run]
  intro h9
  rcases Nat.mul_eq_zero.1 h9 with h9 | h9 <;> omega
 unfold Oper.wp
 rw [hrun, Oper.upon_value, hdst]
 exact hK _ _ _ _ _ ⟨rfl, rfl⟩ hR hC (zl _ _ _)
theorem zgm {t : TypeId} {x y : Operand} {te te' : TE} {el el' : TypeId} {id kk n : Nat} {cs : List AVal} {k : IntKind} {i : Int} (TO : TabOk P tab) (ho : o.op = .indexAddr t x y) (ht : tlook tab t = some te) (hs : te.sh = .sl el)
  (hel : tlook tab el = some te') (hx : aev e x = some (.row id)) (hb : look h id = some (.rowA el' kk n cs)) (hy : aev e y = some (.d (.sc (.int k i)))) (hi : 0 ≤ i ∧ i < n) : AYield P T e h o (.eptr id (i.toNat * te'.size)) := fun Pm F w0 pin ι a w H E => by
 obtain ⟨v, hv, xs, hown, _⟩ := H.blk id _ hb
 have hr := zj E hx
 have hk := (zQ (zj E hy)).1
 have hu := (TO t te ht).slice hs
 generalize hau : a.eval x = u at hr
 cases hr with
 | row _ _ h1 h2 =>
  have h3 := h2 v hv
  subst h3
  rcases hown.2 with ⟨_, h4⟩ | ⟨g, cap, cur, h3, _⟩
  ·subst h4; exact absurd hi (by simp)
  ·subst h3
   refine ⟨.pointer (some ⟨g, i.toNat * te'.size, none⟩), .eptr id _ _ rfl fun v' hv' => ?_, fun w' _ => ?_⟩
   ·rw [hv] at hv'; cases hv'; exact ⟨g, n, cap, rfl, rfl⟩
   ·simp [execOp, ho, hau, hk, zbt w' hu (TO el te' hel) g 0 n cap k i hi]
theorem zis {t : TypeId} {x : Operand} {te : TE} {el el' : TypeId} {id k n : Nat} {cs : List AVal} (TO : TabOk P tab) (ho : o.op = .call { callee := .builtin .len, args := #[x], argTypes := #[t] }) (ht : tlook tab t = some te) (hs : te.sh = .sl el)
  (hx : aev e x = some (.row id)) (hb : look h id = some (.rowA el' k n cs)) : AYield P T e h o (.d (.sc (.int .i64 (n : Int)))) := fun Pm F w0 pin ι a w H E => by
 refine ⟨.int .i64 n, zH rfl, fun w' _ => ?_⟩
 obtain ⟨v, hv, xs, hown, _⟩ := H.blk id _ hb
 have hr := zj E hx
 have hu := (TO t te ht).slice hs
 have key : ∃ b c, a.eval x = .slice b n c := by
  generalize a.eval x = u at hr
  cases hr with
  | row _ _ h1 h2 =>
   rw [h2 v hv]
   rcases hown.2 with ⟨h3, h4⟩ | ⟨g, cap, cur, h3, _⟩
   ·subst h4; exact ⟨_, _, h3⟩
   ·exact ⟨_, _, h3⟩
 obtain ⟨b, c, hk⟩ := key
 simp [execOp, ho, resolve, invoke, builtin, hk, Builtin.len_, run_underlying hu, goInt]
theorem zgl {t : TypeId} {x : Operand} {te : TE} {id o1 : Nat} {el k n : Nat} {cs xs : List AVal} {c : AVal} (TO : TabOk P tab) (ho : o.op = .load t x) (ht : tlook tab t = some te) (hx : aev e x = some (.eptr id o1)) (hb : look h id = some (.rowA el k n cs))
  (hT : T.contains id = false) (hw : win cs o1 te.size = xs) (hl : Nat.beq xs.length te.size = true) (hc : cond te.agg (some (.agg xs)) xs.head? = some c) : AYield P T e h o c := fun Pm F w0 pin ι a w H E => by
 obtain ⟨v, hv, ys, hown, hly, hr⟩ := H.blk id _ hb
 have hrel := zj E hx
 have hl := Nat.eq_of_beq_eq_true hl
 generalize hau : a.eval x = u at hrel
 cases hrel with
 | eptr _ _ _ h1 h2 =>
  obtain ⟨g, n', cap, h3, rfl⟩ := h2 _ hv
  subst h3
  have hvl : (win ys o1 te.size).length = xs.length := by
   subst hw; simp [win, hly]
  refine zex (vs := win ys o1 te.size) ho (TO t te ht) hau (by rw [hvl, hl]) (by rw [hvl]) (fun j c u h4 h5 => ?_) hc (CT T ι w) fun w' hw' j u hj => ?_
  ·exact hr (o1 + j) c u (za0 hw h4) (za0 rfl h5)
  ·have h6 := za0 rfl hj
   have h7 := zbX H hw' hv rfl hT
   have h8 := hown.cells (g := g) rfl (o1 + j) u h6
   rw [Addr.add_mid, Nat.zero_add] at h8
   exact za2 h7 h8
theorem za6 {t el el' k kk j id : Nat} {x y : Operand} {cs : List AVal} {n : Nat} {q : IntKind} {i : Int} (TO : TabOk P tab) (ho : o.op = .indexAddr t x y) (hel : telem tab t = some el) (hsz : tsize tab el = some k) (hx : aev e x = some (.row id)) (hb : look h id = some (.rowA el' kk n cs)) (hy : aev e y = some (.d (.sc (.int q i)))) (hj : i = (j : Int)) (hlt : j < n) :
  AYield P T e h o (.eptr id (j * k)) := by
 obtain ⟨te, h1, h2⟩ := zy hel
 obtain ⟨te', h3, rfl⟩ := zu hsz
 subst hj
 exact zgm TO ho h1 h2 h3 hx hb hy ⟨by omega, by omega⟩
theorem zph {t el el' id k n : Nat} {x : Operand} {cs : List AVal} (TO : TabOk P tab) (ho : o.op = .call { callee := .builtin .len, args := #[x], argTypes := #[t] }) (hel : telem tab t = some el) (hx : aev e x = some (.row id)) (hb : look h id = some (.rowA el' k n cs)) : AYield P T e h o (.d (.sc (.int .i64 (n : Int)))) := by
 obtain ⟨te, h1, h2⟩ := zy hel
 exact zis TO ho h1 h2 hx hb
theorem zbq {t id o1 s el k n : Nat} {x : Operand} {cs xs : List AVal} {c : AVal} {ag : Bool} (TO : TabOk P tab) (ho : o.op = .load t x) (hs : tsize tab t = some s) (ha : tagg tab t = some ag) (hx : aev e x = some (.eptr id o1)) (hb : look h id = some (.rowA el k n cs)) (hT : T.contains id = false)
  (hw : win cs o1 s = xs) (hl : Nat.beq xs.length s = true) (hc : lval ag xs = some c) : AYield P T e h o c := by
 obtain ⟨te, h1, rfl⟩ := zu hs
 obtain ⟨te', h3, rfl⟩ := zbG ha
 rw [h1] at h3; cases h3
 exact zgl TO ho h1 hx hb hT hw hl (zcS hc)
end
section
variable {P : Program} {nt : Nat} {Q : Post} {e : Env} {h : Heap} {ops : Array Oper} {o : Oper} {rest : List Oper} {tab : TTab}
theorem zmk {t el k len d : Nat} {ps : Array (Nat × Operand)} {al : List (Nat × AVal)} {xs : List AVal} (TO : TabOk P tab) (hw : awant ops e o = some true) (hdst : o.dst = some d) (hd : Nat.blt d nt = true) (hid : Nat.blt d 1000 = true) (ho : o.op = .buildSlice t len ps)
  (hel : telem tab t = some el) (hsz : tsize tab el = some k) (hok : (match tlook tab el with | some te => te.zero.all (·.oneCell') && Nat.blt 0 te.size && Nat.beq te.zero.length te.size && Nat.blt (len * te.size) 16777216 && Nat.blt 0 len | none => false) = true)
  (hal : aparts e ps.toList = some al) (hf : (match tlook tab el with
   | some te => afill (fun i => some (i * te.size, te.size)) ((List.range (len * te.size)).map fun j => match te.zero[j % te.size]? with | some v => .d (.sc v) | none => .top) al
   | none => none) = some xs)
  (HK : AOps P nt ops Q rest ((d, .row d) :: killE d e) ((d, .rowA el k len (xs.map (killV d))) :: killH d h)) : AOps P nt ops Q (o :: rest) e h := by
 obtain ⟨te, h1, h2⟩ := zy hel
 obtain ⟨te', h3, rfl⟩ := zu hsz
 rw [h3] at hok hf
 simp only [Bool.and_eq_true] at hok
 exact zat (T := []) hw (zfj TO ho hdst h1 h2 h3 hok.1.1.1.1 hok.1.1.1.2 hok.1.1.2 hok.1.2 hok.2 hal hf hid hd) fun e' h' ⟨h1, h2⟩ => by subst h1 h2; exact HK
end
end Go.Proofs.YtmmdkjanmegjdaaGreat.Ab

namespace Go.Proofs.YtmmdkjanmegjdaaGreat.Ab
open Go.RowKit

def eqV : Value → Value → Option Bool
 | .int k a, .int k' b => if k = k' then some (a == b) else none
 | .bool a, .bool b => some (a == b)
 | .string a, .string b => some (a.toList == b.toList)
 | _, _ => none
def eqCells : List Value → List Value → Option Bool
 | [], [] => some true
 | a :: x, b :: y => match eqV a b, eqCells x y with
  | some p, some q => some (p && q)
  | _, _ => none
 | _, _ => none
def leafsF (g : TypeId → Option (List Sh)) : List (Nat × TypeId) → List Sh → Option (List Sh)
 | [], acc => some acc
 | f :: r, acc => match g f.2 with
  | some m => cond (Nat.beq acc.length f.1) (leafsF g r (acc ++ m)) none
  | none => none
def leafs (tab : TTab) : Nat → TypeId → Option (List Sh)
 | 0, _ => none
 | n + 1, t => match tlook tab t with
  | none => none
  | some te => match (match te.sh with
   | .it k => some [Sh.it k]
   | .bo => some [Sh.bo]
   | .str => some [Sh.str]
   | .st fs => leafsF (leafs tab n) fs []
   | _ => none) with
   | some ks => cond (Nat.beq te.size ks.length) (some ks) none
   | none => none
def leafOk : Sh → Value → Bool
 | .it _, .int _ _ => true
 | .bo, .bool _ => true
 | .str, .string _ => true
 | _, _ => false
def leafsOk : List Sh → List Value → Bool
 | [], [] => true
 | s :: r, v :: l => leafOk s v && leafsOk r l
 | _, _ => false
theorem zeg {ks : List Sh} {xs : List Value} (h : leafsOk ks xs = true) : xs.length = ks.length := by
 induction ks generalizing xs with
 | nil => cases xs with
  | nil => rfl
  | cons _ _ => cases h
 | cons k r ih => cases xs with
  | nil => cases h
  | cons x l => simp only [leafsOk, Bool.and_eq_true] at h; simp [ih h.2]
theorem zbc {s : Sh} {xs : List Value} (h : leafsOk [s] xs = true) : ∃ v, xs = [v] ∧ leafOk s v = true := by
 cases xs with
 | nil => cases h
 | cons v r =>
  simp only [leafsOk, Bool.and_eq_true] at h
  cases r with
  | nil => exact ⟨v, rfl, h.1⟩
  | cons _ _ => exact absurd h.2 (by simp [leafsOk])
theorem zg2 {k : IntKind} {v : Value} (h : leafOk (.it k) v = true) : ∃ q n, v = .int q n := by cases v <;> first | exact ⟨_, _, rfl⟩ | cases h
theorem zfC {v : Value} (h : leafOk .bo v = true) : ∃ b, v = .bool b := by cases v <;> first | exact ⟨_, rfl⟩ | cases h
theorem zg1 {v : Value} (h : leafOk .str v = true) : ∃ b, v = .string b := by cases v <;> first | exact ⟨_, rfl⟩ | cases h
theorem zcC {a b : List Sh} {xs : List Value} (h : leafsOk (a ++ b) xs = true) : leafsOk a (xs.take a.length) = true ∧ leafsOk b (xs.drop a.length) = true := by
 induction a generalizing xs with
 | nil => exact ⟨rfl, h⟩
 | cons k r ih => cases xs with
  | nil => cases h
  | cons x l =>
   simp only [List.cons_append, leafsOk, Bool.and_eq_true] at h
   obtain ⟨h1, h2⟩ := ih h.2
   exact ⟨by simp [leafsOk, h.1, h1], by simpa using h2⟩
theorem ze1 {a b x y : List Value} (hl : a.length = b.length) : eqCells (a ++ x) (b ++ y) = match eqCells a b, eqCells x y with
  | some p, some q => some (p && q)
  | _, _ => none := by
 induction a generalizing b with
 | nil => cases b with
  | nil => simp [eqCells]; cases eqCells x y <;> rfl
  | cons _ _ => simp at hl
 | cons u r ih => cases b with
  | nil => simp at hl
  | cons v s =>
   have := ih (b := s) (by simpa using hl)
   simp only [List.cons_append, eqCells, this]
   cases eqV u v <;> cases eqCells r s <;> cases eqCells x y <;> simp [Bool.and_assoc]

section
variable {P : Program} {tab : TTab} {T : List Nat} {e : Env} {h : Heap} {o : Oper}
def ofCells (ag : Bool) (xs : List Value) : Value := match ag, xs with
 | true, xs => .agg xs.toArray
 | false, v :: _ => v
 | false, [] => undef
theorem zdc (TO : TabOk P tab) {n : Nat} {t : TypeId} {ks : List Sh} (hk : leafs tab (n + 1) t = some ks) : ∃ te, tlook tab t = some te ∧ te.size = ks.length ∧
    ((te.agg = true ∧ ∃ fs F, te.sh = .st fs ∧ leafsF (leafs tab n) fs [] = some ks ∧ P.underlying t = some (.struct F) ∧ F.toList.map (fun f => (f.offset, f.type)) = fs ∧ F.toList.all (fun f => f.name != "_") = true) ∨
     (te.agg = false ∧ ((∃ k, ks = [.it k] ∧ P.underlying t = some (.int k)) ∨ (ks = [.bo] ∧ P.underlying t = some .bool) ∨ (ks = [.str] ∧ P.underlying t = some .string)))) := by
  rw [leafs] at hk
  cases hl : tlook tab t with
  | none => rw [hl] at hk; cases hk
  | some te =>
    rw [hl] at hk
    simp only at hk
    obtain ⟨d, hd, ha, hs⟩ := (TO t te hl).und
    refine ⟨te, rfl, ?_⟩
    split at hk
    · rename_i ks' hm
      cases hb : Nat.beq te.size ks'.length with
      | false => rw [hb] at hk; cases hk
      | true =>
        rw [hb] at hk
        cases hk
        refine ⟨Nat.eq_of_beq_eq_true hb, ?_⟩
        split at hm
        · rename_i k hsh; rw [hsh] at hs; cases hs; cases hm; exact .inr ⟨ha.symm, .inl ⟨k, rfl, hd⟩⟩
        · rename_i hsh; rw [hsh] at hs; cases hs; cases hm; exact .inr ⟨ha.symm, .inr (.inl ⟨rfl, hd⟩)⟩
        · rename_i hsh; rw [hsh] at hs; cases hs; cases hm; exact .inr ⟨ha.symm, .inr (.inr ⟨rfl, hd⟩)⟩
        · rename_i fs hsh; rw [hsh] at hs; obtain ⟨F, rfl, h1, h2⟩ := hs; exact .inl ⟨ha.symm, fs, F, hsh, hm, hd, h1, h2⟩
        · cases hm
    · cases hk
theorem zgL {t : TypeId} {te : TE} (w : World) (Fa : TFacts P t te) (C : Array Value) (off : Nat) (hl : off + te.size ≤ C.size) (h1 : te.agg = false → te.size = 1) : (part t C off).run P w = .ok (ofCells te.agg (win C.toList off te.size)) w := by
 unfold part
 rw [Sem.run_bind, Fa.run_agg, Result.andThen_ok]
 cases ha : te.agg with
 | true =>
  simp only [if_true, Sem.run_bind, Fa.size, Result.andThen_ok]
  have e1 : C.extract off (off + te.size) = (win C.toList off te.size).toArray := by
   apply Array.ext'
   simp [win, Array.toList_extract]
  rw [e1]; rfl
 | false =>
  have h2 := h1 ha
  have hlt : off < C.size := by omega
  simp only [Bool.false_eq_true, if_false]
  rw [Array.getElem?_eq_getElem hlt]
  have : win C.toList off te.size = [C[off]] := by
   unfold win
   rw [h2, List.drop_eq_getElem_cons (by simpa using hlt)]
   simp
  rw [this]; rfl
theorem zeb (TO : TabOk P tab) (hst : ∀ t, (tlook tab t).isSome = true → P.stoodInHeld t = false) : ∀ (n : Nat) (t : TypeId) (ks : List Sh) (xs ys : List Value) (r : Bool) (d : Nat) (te : TE) (w : World), leafs tab n t = some ks → tlook tab t = some te → leafsOk ks xs = true → leafsOk ks ys = true → eqCells xs ys = some r → n ≤ d →
  (Op.equalIn (d + 1) t (ofCells te.agg xs) (ofCells te.agg ys)).run P w = .ok r w := by
 intro n
 induction n with
 | zero => intro t ks xs ys r d te w hk; cases hk
 | succ n ih =>
  intro t ks xs ys r d te w hk ht hx hy hr hd
  obtain ⟨te0, h0, hsz, hcase⟩ := zdc TO hk
  rw [ht] at h0; cases h0
  rcases hcase with ⟨ha, fs, F, hsh, hF, hu, hfs, hnm⟩ | ⟨ha, hcase⟩
  ·have hfo : P.fieldsOf t = F := by simp [Program.fieldsOf, hu]
   rw [ha]
   show (Op.equalIn (d + 1) t (.agg xs.toArray) (.agg ys.toArray)).run P w = _
   rw [run_equalIn_struct w d t xs.toArray ys.toArray (by rw [hfo]; exact hu) (hst t (by rw [ht]; rfl)), hfo]
   have hlx := zeg hx
   have hly := zeg hy
   have key : ∀ (FL : List Field) (acc : List Sh) (r : Bool), leafsF (leafs tab n) (FL.map fun f => (f.offset, f.type)) acc = some ks → FL.all (fun f => f.name != "_") = true → eqCells (xs.drop acc.length) (ys.drop acc.length) = some r → leafsOk (ks.drop acc.length) (xs.drop acc.length) = true → leafsOk (ks.drop acc.length) (ys.drop acc.length) = true →
     acc.length ≤ ks.length → (Op.eqFields d xs.toArray ys.toArray FL).run P w = .ok r w := by
    intro FL
    induction FL with
    | nil =>
     intro acc r h1 _ h2 _ _ _
     cases h1
     rw [List.drop_eq_nil_of_le (by omega), List.drop_eq_nil_of_le (by omega)] at h2
     cases h2
     rfl
    | cons f FL ihF =>
     intro acc r h1 h2 h3 h4 h5 h6
     simp only [List.all_cons, Bool.and_eq_true] at h2
     rw [List.map_cons, leafsF] at h1
     cases hm : leafs tab n f.type with
     | none => rw [hm] at h1; cases h1
     | some m =>
      rw [hm] at h1
      simp only at h1
      cases hb : Nat.beq acc.length f.offset with
      | false => rw [hb] at h1; cases h1
      | true =>
       rw [hb, cond_true] at h1
       have hoff := Nat.eq_of_beq_eq_true hb
       have hpre : ∀ (fl : List (Nat × TypeId)) (acc ks : List Sh), leafsF (leafs tab n) fl acc = some ks → ∃ s, ks = acc ++ s := by
        intro fl
        induction fl with
        | nil => intro acc ks h; cases h; exact ⟨[], by simp⟩
        | cons g fl ihg =>
         intro acc ks h
         rw [leafsF] at h
         cases hg : leafs tab n g.2 with
         | none => rw [hg] at h; cases h
         | some m' =>
          rw [hg] at h
          simp only at h
          cases hb' : Nat.beq acc.length g.1 with
          | false => rw [hb'] at h; cases h
          | true =>
           rw [hb', cond_true] at h
           obtain ⟨s, hs⟩ := ihg _ _ h
           exact ⟨m' ++ s, by rw [hs, List.append_assoc]⟩
       obtain ⟨s, hs⟩ := hpre _ _ _ h1
       have hle : acc.length + m.length ≤ ks.length := by rw [hs]; simp
       cases n with
       | zero => cases hm
       | succ n' =>
       obtain ⟨te', h7, h8, _⟩ := zdc TO hm
       have h9 : te'.agg = false → te'.size = 1 := by
        obtain ⟨te2, g1, g2, g3⟩ := zdc TO hm
        rw [h7] at g1; cases g1
        intro hag
        rcases g3 with ⟨g4, _⟩ | ⟨_, ⟨k, g5, _⟩ | ⟨g5, _⟩ | ⟨g5, _⟩⟩
        ·rw [hag] at g4; cases g4
        all_goals rw [g2, g5]; rfl
       have hks : ks.drop acc.length = m ++ s := by rw [hs, List.append_assoc]; simp
       rw [hks] at h4 h5
       obtain ⟨h4a, h4b⟩ := zcC h4
       obtain ⟨h5a, h5b⟩ := zcC h5
       have ex : xs.drop acc.length = win xs f.offset te'.size ++ xs.drop (acc ++ m).length := by
        unfold win; rw [← hoff, h8, List.length_append, ← List.drop_drop, List.take_append_drop]
       have ey : ys.drop acc.length = win ys f.offset te'.size ++ ys.drop (acc ++ m).length := by
        unfold win; rw [← hoff, h8, List.length_append, ← List.drop_drop, List.take_append_drop]
       have hwx : (win xs f.offset te'.size).length = m.length := by unfold win; simp; omega
       have hwy : (win ys f.offset te'.size).length = m.length := by unfold win; simp; omega
       rw [ex, ey, ze1 (by omega)] at h3
       cases hp : eqCells (win xs f.offset te'.size) (win ys f.offset te'.size) with
       | none => rw [hp] at h3; cases h3
       | some p =>
        cases hq : eqCells (xs.drop (acc ++ m).length) (ys.drop (acc ++ m).length) with
        | none => rw [hp, hq] at h3; cases h3
        | some q =>
         rw [hp, hq] at h3
         cases h3
         have wx : win xs f.offset te'.size = (xs.drop acc.length).take m.length := by unfold win; rw [← hoff, h8]
         have wy : win ys f.offset te'.size = (ys.drop acc.length).take m.length := by unfold win; rw [← hoff, h8]
         have hrun := ih f.type m (win xs f.offset te'.size) (win ys f.offset te'.size) p (d - 1) te' w hm h7 (by rw [wx]; exact h4a) (by rw [wy]; exact h5a) hp (by omega)
         rw [show d - 1 + 1 = d by omega] at hrun
         have hpa := zgL (P := P) w (TO _ _ h7) xs.toArray f.offset (by simp; omega) h9
         have hpb := zgL (P := P) w (TO _ _ h7) ys.toArray f.offset (by simp; omega) h9
         have hnext := ihF (acc ++ m) q h1 h2.2 hq (by
          have : ks.drop (acc ++ m).length = s := by rw [hs]; simp
          rw [this]
          have e2 : xs.drop (acc ++ m).length = (xs.drop acc.length).drop m.length := by rw [List.drop_drop, List.length_append]
          rw [e2]; exact h4b) (by
          have : ks.drop (acc ++ m).length = s := by rw [hs]; simp
          rw [this]
          have e2 : ys.drop (acc ++ m).length = (ys.drop acc.length).drop m.length := by rw [List.drop_drop, List.length_append]
          rw [e2]; exact h5b) (by simpa using hle)
         have hne : f.name ≠ "_" := by simpa using h2.1
         simp only [Op.eqFields, ne_eq, hne, not_false_eq_true, if_true, Sem.run_bind, hpa, hpb, Result.andThen_ok, hrun]
         cases p with
         | false => simp
         | true => simpa using hnext
   refine key F.toList [] r (by rw [hfs]; exact hF) hnm (by simpa using hr) (by simpa using hx) (by simpa using hy) (Nat.zero_le _)
  ·rw [ha]
   rcases hcase with ⟨k, rfl, hu⟩ | ⟨rfl, hu⟩ | ⟨rfl, hu⟩
   ·obtain ⟨x, rfl, hx1⟩ := zbc hx
    obtain ⟨y, rfl, hy1⟩ := zbc hy
    obtain ⟨k1, a, rfl⟩ := zg2 hx1
    obtain ⟨k2, b, rfl⟩ := zg2 hy1
    have hr' : (match eqV (.int k1 a) (.int k2 b) with | some p => some (p && true) | none => none) = some r := by
     simp only [eqCells] at hr; cases hq : eqV (.int k1 a) (.int k2 b) <;> rw [hq] at hr <;> exact hr
    simp only [eqV] at hr'
    by_cases hkk : k1 = k2
    ·subst hkk
     simp at hr'
     subst hr'
     exact run_equalIn_int w d t _ _ _ _ hu
    ·simp [hkk] at hr'
   ·obtain ⟨x, rfl, hx1⟩ := zbc hx
    obtain ⟨y, rfl, hy1⟩ := zbc hy
    obtain ⟨a, rfl⟩ := zfC hx1
    obtain ⟨b, rfl⟩ := zfC hy1
    simp [eqCells, eqV] at hr
    subst hr
    exact run_equalIn_bool' w d t _ _ hu
   ·obtain ⟨x, rfl, hx1⟩ := zbc hx
    obtain ⟨y, rfl, hy1⟩ := zbc hy
    obtain ⟨a, rfl⟩ := zg1 hx1
    obtain ⟨b, rfl⟩ := zg1 hy1
    simp [eqCells, eqV] at hr
    subst hr
    exact run_equalIn_string w d t _ _ hu
def scL : List AVal → Option (List Value)
 | [] => some []
 | .d (.sc v) :: r => match scL r with
  | some l => some (v :: l)
  | none => none
 | _ :: _ => none
theorem zgH {w : World} {F : Nat → Prop} {ι : Nat → Option Value} {cs : List AVal} {xs : List Value} (h : scL cs = some xs) {C : Array Value} (hl : C.size = cs.length) (hr : ∀ (i : Nat) (c : AVal) (u : Value), cs[i]? = some c → C[i]? = some u → VRel w F ι c u) : C = xs.toArray := by
 have key : ∀ (cs : List AVal) (xs : List Value), scL cs = some xs → xs.length = cs.length ∧ ∀ (i : Nat) (v : Value), xs[i]? = some v → cs[i]? = some (.d (.sc v)) := by
  intro cs
  induction cs with
  | nil => intro xs h; cases h; exact ⟨rfl, by simp⟩
  | cons c r ih =>
   intro xs h
   have hv : ∃ v, c = .d (.sc v) := by
    cases c with
    | d x => cases x with
     | sc v => exact ⟨v, rfl⟩
     | sl _ _ => cases h
     | cut _ _ _ => cases h
    | _ => cases h
   obtain ⟨v, rfl⟩ := hv
   rw [scL] at h
   cases hr : scL r with
   | none => simp [hr] at h
   | some l =>
    simp [hr] at h
    subst h
    obtain ⟨h1, h2⟩ := ih l hr
    refine ⟨by simp [h1], fun i v' hi => ?_⟩
    cases i with
    | zero => simp at hi; subst hi; rfl
    | succ i => simpa using h2 i v' (by simpa using hi)
 obtain ⟨h1, h2⟩ := key cs xs h
 apply Array.ext
 ·simp [hl, h1]
 ·intro i hi hi2
  have hi3 : i < xs.length := by simpa using hi2
  exact (zQ (hr i _ C[i] (h2 i xs[i] (List.getElem?_eq_getElem hi3)) (Array.getElem?_eq_getElem hi))).1
theorem Y_eq {op : BinOp} {t u : TypeId} {x y : Operand} {cs ds : List AVal} {xs ys : List Value} {ks : List Sh} {r r2 : Bool} (TO : TabOk P tab) (hst : ∀ t, (tlook tab t).isSome = true → P.stoodInHeld t = false) (ho : o.op = .binOp op t x y u) (hx : aev e x = some (.agg cs)) (hy : aev e y = some (.agg ds))
  (h1 : scL cs = some xs) (h2 : scL ds = some ys) (hk : leafs tab 8 t = some ks) (hag : tagg tab t = some true) (hkx : leafsOk ks xs = true) (hky : leafsOk ks ys = true) (hg : P.eqGuardType P.depth t = false) (hr : eqCells xs ys = some r) (hop : (match op with | .eql => some r | .neq => some (!r) | _ => none) = some r2) :
  AYield P T e h o (.d (.sc (.bool r2))) := zN _ fun w F ι a E => by
 refine ⟨.bool r2, zH rfl, fun w' => ?_⟩
 obtain ⟨te, h3, h4⟩ := zbG hag
 have hvx := zj E hx
 have hvy := zj E hy
 generalize hax : a.eval x = u at hvx
 generalize hay : a.eval y = v at hvy
 cases hvx with
 | agg _ C hl hrr =>
  cases hvy with
  | agg _ D hl2 hrr2 =>
   have e1 := zgH h1 hl hrr
   have e2 := zgH h2 hl2 hrr2
   subst e1 e2
   have hrun := zeb TO hst 8 t ks xs ys r 9999 te w' hk h3 hkx hky hr (by omega)
   rw [h4] at hrun
   have hrun2 : (Op.equalIn 10000 t (.agg xs.toArray) (.agg ys.toArray)).run P w' = .ok r w' := hrun
   simp only [execOp, ho, hax, hay]
   cases op <;> simp only [Option.some.injEq, reduceCtorEq] at hop
   ·subst hop
    simp [run_eqGuard_agg w' .eql t x y _ _ hg, run_eql_struct, hrun2]
   ·subst hop
    simp [run_eqGuard_agg w' .neq t x y _ _ hg, run_neq_struct, hrun2]
end

mutual
def oneA : AVal → Bool
 | .d (.sc v) => v.oneCell'
 | .agg cs => oneL cs
 | .tup cs => oneL cs
 | _ => false
def oneL : List AVal → Bool
 | [] => true
 | c :: r => oneA c && oneL r
end
mutual
theorem zaJ (w : World) (F : Nat → Prop) (ι : Nat → Option Value) : (c : AVal) → (v : Value) → valA c = some v → oneA c = true → VRel w F ι c v
 | .d (.sc u), v, h, h1 => by cases h; exact zH h1
 | .agg cs, v, h, h1 => by
  rw [valA] at h
  cases hc : valL cs with
  | none => rw [hc] at h; cases h
  | some l =>
   rw [hc] at h
   cases h
   obtain ⟨h2, h3⟩ := zfU w F ι cs l hc h1
   exact .agg cs _ (by simpa using h2) fun i c u hi hu => h3 i c u hi (by simpa using hu)
 | .tup cs, v, h, h1 => by
  rw [valA] at h
  cases hc : valL cs with
  | none => rw [hc] at h; cases h
  | some l =>
   rw [hc] at h
   cases h
   obtain ⟨h2, h3⟩ := zfU w F ι cs l hc h1
   exact .tup cs _ (by simpa using h2) fun i c u hi hu => h3 i c u hi (by simpa using hu)
 | .d (.sl _ _), _, h, _ => by cases h
 | .top, _, h, _ => by cases h
 | .und, _, h, _ => by cases h
 | .ptr _ _, _, h, _ => by cases h
 | .eptr _ _, _, h, _ => by cases h
 | .iptr _ _, _, h, _ => by cases h
 | .row _, _, h, _ => by cases h
 | .mp _, _, h, _ => by cases h
 | .fn _ _, _, h, _ => by cases h
theorem zfU (w : World) (F : Nat → Prop) (ι : Nat → Option Value) : (cs : List AVal) → (l : List Value) → valL cs = some l → oneL cs = true → l.length = cs.length ∧ ∀ (i : Nat) (c : AVal) (u : Value), cs[i]? = some c → l[i]? = some u → VRel w F ι c u
 | [], l, h, _ => by cases h; exact ⟨rfl, by simp⟩
 | c :: r, l, h, h1 => by
  rw [valL] at h
  simp only [oneL, Bool.and_eq_true] at h1
  cases hc : valA c with
  | none => simp [hc] at h
  | some v =>
   cases hr : valL r with
   | none => simp [hc, hr] at h
   | some l' =>
    simp [hc, hr] at h
    subst h
    obtain ⟨h2, h3⟩ := zfU w F ι r l' hr h1.2
    refine ⟨by simp [h2], fun i c' u hi hu => ?_⟩
    cases i with
    | zero => simp at hi hu; subst hi hu; exact zaJ w F ι c v hc h1.1
    | succ i => exact h3 i c' u (by simpa using hi) (by simpa using hu)
end
theorem zbo {P : Program} {f : FuncId} {cs : List AVal} {us : List Value} {c : AVal} {v : Value} (hg : isGo P f = true) (hu : valL cs = some us) (hv : valA c = some v) (h1 : oneA c = true)
  (H : ∀ w, Calls P f us.toArray w fun e w' => e = .returned v ∧ Below w.heap.size w w') : ACall P f cs [] (fun c' h' => c' = c ∧ h' = []) := ⟨hg, fun Pm F w0 pin ι xs w HH HA => by
 have hx : xs = us.toArray := by
  have h2 : VRel w F ι (.agg cs) (.agg xs) := .agg cs xs HA.1 HA.2
  have h3 : valA (.agg cs) = some (.agg us.toArray) := by rw [valA, hu]
  have h4 := zax h2 h3
  injection h4
 subst hx
 refine (H w).mono ?_
 rintro e w' ⟨rfl, hb⟩
 exact ⟨v, c, [], ι, rfl, ⟨rfl, rfl⟩, HH.grew (Grew.of_below hb), zaJ _ _ _ c v hv h1⟩⟩
end Go.Proofs.YtmmdkjanmegjdaaGreat.Ab

namespace Go.Proofs.YtmmdkjanmegjdaaGreat.Ab
open Go.RowKit

def onlyN (Q : Exit → Act → World → Prop) : Exit → Act → World → Prop := fun x a w => x = .normal ∧ Q x a w
def AAny (P : Program) (nt : Nat) (ops : Array Oper) (Q : Post) (T : List Nat) (fuel : Nat) (listed : Array Bool) (e : Env) (h : Heap) : Prop :=
 ∀ Pm F w0 pin ι a w, Rel Pm F w0 pin ι nt e h a w → wpAnyH P .any ops (onlyN (real Pm F w0 pin nt Q)) (CT T ι w) fuel listed a w
def AAt (P : Program) (nt : Nat) (ops : Array Oper) (Q : Post) (T : List Nat) (fuel : Nat) (listed : Array Bool) (i : Nat) (e : Env) (h : Heap) : Prop :=
 ∀ Pm F w0 pin ι a w, Rel Pm F w0 pin ι nt e h a w → wpOp P ops (onlyN (real Pm F w0 pin nt Q)) i (fun a' w' => CT T ι w w' ∧ wpAnyH P .any ops (onlyN (real Pm F w0 pin nt Q)) (CT T ι w) fuel (listed.setIfInBounds i true) a' w') a w
def memOp : Op → Bool
 | .load _ _ => true
 | .lookup _ _ _ _ => true
 | .call _ => true
 | _ => false
def NoPanic (Q : Post) : Prop := ∀ ch e h, ¬ Q (.panic ch) e h
theorem zaW {K : Env → Heap → Prop} {Q : Post} (h : NoPanic Q) : NoPanic (AThen K Q) := fun ch e h' hq => h ch e h' hq
theorem zbT {j : Nat} {Q : Post} (h : NoPanic Q) : NoPanic (AIn j Q) := fun ch e h' hq => h ch e h' hq
theorem zaX {nt : Nat} {tab : TTab} {rs : List ResultVar} {R : AVal → Heap → Prop} : NoPanic (APost nt tab rs R) := fun _ _ _ h => h
section
variable {P : Program} {nt : Nat} {Q : Post} {e : Env} {h : Heap} {ops : Array Oper} {T : List Nat} {fuel i : Nat} {listed : Array Bool} {o : Oper}
theorem zcw {S S' : World → Prop} {Q' : Exit → Act → World → Prop} (hS : ∀ w, S w → S' w) : ∀ (fuel : Nat) (listed : Array Bool) (a : Act) (w : World), wpAnyH P .any ops Q' S fuel listed a w → wpAnyH P .any ops Q' S' fuel listed a w
 | 0, _, _, _, h => h
 | fuel + 1, _, _, _, h => ⟨h.1, fun i hi => wpOp_mono (fun a' w' h' => ⟨hS _ h'.1, zcw hS fuel _ a' w' h'.2⟩) (h.2 i hi)⟩
theorem zeM {Pm F : Nat → Prop} {w0 w : World} {pin : Nat → Option Value} {a : Act} {ch : List PanicEntry} {Q : Post} (hQ : NoPanic Q) : ¬ onlyN (real Pm F w0 pin nt Q) (.panic ch) a w := fun h => by cases h.1
theorem zA {z : Bool} {id : Nat} {l : List Oper} (T : List Nat) (hm : P.follows .mixedOrders = true) (H : AAny P nt l.toArray Q T l.toArray.size (Array.replicate l.toArray.size false) e h) (hnd : l.all notDef = true := by rfl) : AWp z P nt (.region id l.toArray true) Q e h := fun lq Pm F w0 pin ι a w hz R =>
 wpIn_mono (wpIn_region_any hm (zim (Q := onlyN (real Pm F w0 pin nt Q)) (fun ⟨_, _, h, _⟩ => by cases h) hnd _ _ _ _ (wpAny_of_held _ _ _ _ (H Pm F w0 pin ι a _ (R.grew (Grew.drew w)))))) fun x a w h => h.2
theorem zbB {c : AVal} {d : Nat} (hi : ops[i]? = some o) (hs : Region.noSelect ops = true) (hf : Region.free .any ops listed i = true) (hr : (Region.ready .any ops listed).contains i = true) (hQ : NoPanic Q)
  (hw : awant ops e o = some true) (hdst : o.dst = some d) (hd : Nat.blt d nt = true) (hy : AYield P T e h o c) (H : AAny P nt ops Q T fuel (listed.setIfInBounds i true) ((d, c) :: e) h) : AAny P nt ops Q T (fuel + 1) listed e h := fun Pm F w0 pin ι a w R => by
 obtain ⟨v, hv, hrun⟩ := hy Pm F w0 pin ι a w R.heap R.env
 refine wpAnyH_take hi hs hf hr (fun ch a w hp => absurd hp (zeM hQ)) (.inl ⟨zaQ R.env hw, fun w' hw' => hrun w' hw'⟩) (CT.refl _ _ _) ?_
 have R' := R.put (d := some d) hd hv
 rw [hdst]
 exact H Pm F w0 pin ι _ w R'
theorem zfe {d : Nat} (hi : ops[i]? = some o) (hs : Region.noSelect ops = true) (hf : Region.free .any ops listed i = true) (hr : (Region.ready .any ops listed).contains i = true) (hQ : NoPanic Q)
  (hw : awant ops e o = some false) (hdst : o.dst = some d) (hd : Nat.blt d nt = true) (H : AAny P nt ops Q T fuel (listed.setIfInBounds i true) ((d, .und) :: e) h) : AAny P nt ops Q T (fuel + 1) listed e h := fun Pm F w0 pin ι a w R => by
 refine wpAnyH_take hi hs hf hr (fun ch a w hp => absurd hp (zeM hQ)) (.inr ⟨zaQ R.env hw, rfl⟩) (CT.refl _ _ _) ?_
 have R' := R.put (d := some d) hd (.und (ι := ι) (w := w) (F := F))
 rw [hdst]
 exact H Pm F w0 pin ι _ w R'
theorem zof {rs : List Nat} (hr : Region.ready .any ops listed = rs) (hne : rs.isEmpty = false) (H : ∀ i ∈ rs, AAt P nt ops Q T fuel listed i e h) : AAny P nt ops Q T (fuel + 1) listed e h := fun Pm F w0 pin ι a w R =>
 wpAnyH_all hr (by rintro rfl; cases hne) fun i hi => H i hi Pm F w0 pin ι a w R
theorem zd {j : Nat} (hr : Region.ready .any ops listed = [j]) (H : AAt P nt ops Q T fuel listed j e h) : AAny P nt ops Q T (fuel + 1) listed e h :=
 zof hr rfl fun i hi => by rw [List.mem_singleton.1 hi]; exact H
theorem zcf {j k : Nat} (hr : Region.ready .any ops listed = [j, k]) (H1 : AAt P nt ops Q T fuel listed j e h) (H2 : AAt P nt ops Q T fuel listed k e h) : AAny P nt ops Q T (fuel + 1) listed e h :=
 zof hr rfl fun i hi => by
  rcases List.mem_cons.1 hi with rfl | hi
  ·exact H1
  ·rw [List.mem_singleton.1 hi]; exact H2
theorem zz (hr : Region.ready .any ops listed = []) (H : Q .normal e h) : AAny P nt ops Q T fuel listed e h := fun Pm F w0 pin ι a w R => wpAnyH_done hr ⟨rfl, ι, e, h, H, R⟩ fuel
theorem za5 {R : Env → Heap → Prop} (hi : ops[i]? = some o) (hw : awant ops e o = some true) (hy : AEff P nt T e h o R) (H : ∀ e' h', R e' h' → AAny P nt ops Q T fuel (listed.setIfInBounds i true) e' h') : AAt P nt ops Q T fuel listed i e h := fun Pm F w0 pin ι a w Rl => by
 unfold wpOp
 simp only [hi]
 rw [zaQ Rl.env hw, if_pos rfl]
 left
 exact hy Pm F w0 pin ι a w Rl _ _ fun ι' e' h' a' w' hR hRel hC _ => ⟨hC.ct, zcw (fun w2 h2 => hC.trans h2) _ _ _ _ (H e' h' hR Pm F w0 pin ι' a' w' hRel)⟩
theorem zP {c : AVal} {d : Nat} (hi : ops[i]? = some o) (hw : awant ops e o = some true) (hdst : o.dst = some d) (hd : Nat.blt d nt = true) (hy : AYield P [] e h o c) (H : AAny P nt ops Q T fuel (listed.setIfInBounds i true) ((d, c) :: e) h) : AAt P nt ops Q T fuel listed i e h :=
 za5 (R := fun e' h' => e' = (d, c) :: e ∧ h' = h) hi hw (fun Pm F w0 pin ι a w R K Qx hK => by
  obtain ⟨v, hv, hr⟩ := hy Pm F w0 pin ι a w R.heap R.env
  unfold Oper.wp
  rw [hr w (CT.refl _ _ _), Oper.upon_value, hdst]
  exact hK ι _ _ _ w ⟨rfl, rfl⟩ (R.put (d := some d) hd hv) ⟨CT.refl _ _ _, fun id _ v r h1 h2 _ => ⟨v, h1, h2⟩⟩ (zl _ _ _)) fun e' h' ⟨h1, h2⟩ => by subst h1 h2; exact H
theorem zR {f : FuncId} {args : Array Operand} {ats : Array TypeId} {cs : List AVal} {c : AVal} {d : Nat} (hi : ops[i]? = some o) (hw : awant ops e o = some true) (hdst : o.dst = some d) (hd : Nat.blt d nt = true) (ho : o.op = .call { callee := .value (.func f), args := args, argTypes := ats }) (hx : aevs e args.toList = some cs)
  (HC : ACall P f cs [] (fun c' h' => c' = c ∧ h' = [])) (hc : ∀ j, c.has j = false) (H : AAny P nt ops Q T fuel (listed.setIfInBounds i true) ((d, c) :: e) h) : AAt P nt ops Q T fuel listed i e h :=
 za5 hi hw (zjb ho hdst hx HC hd hc) fun e' h' ⟨h1, h2⟩ => by subst h1 h2; exact H
theorem zW {t : TypeId} {d : Nat} {z : List AVal} {tab : TTab} (TO : TabOk P tab) (hi : ops[i]? = some o) (hw : awant ops e o = some true) (hdst : o.dst = some d) (hd : Nat.blt d nt = true) (hid : Nat.blt d 1000 = true) (ho : o.op = .alloc t) (hz : tzero tab t = some z)
  (H : AAny P nt ops Q T fuel (listed.setIfInBounds i true) ((d, .ptr d 0) :: killE d e) ((d, .var z) :: killH d h)) : AAt P nt ops Q T fuel listed i e h := by
 obtain ⟨te, h1, h2, rfl⟩ := zc8 hz
 exact za5 hi hw (zjc TO ho hdst h1 hid hd h2) fun e' h' ⟨h1, h2⟩ => by subst h1 h2; exact H
theorem zfP {t : TypeId} {x : Operand} {d : Nat} {c : AVal} {cs : List AVal} (hi : ops[i]? = some o) (hw : awant ops e o = some true) (hdst : o.dst = some d) (hd : Nat.blt d nt = true) (hid : Nat.blt d 1000 = true) (ho : o.op = .box t x) (hx : aev e x = some c) (hcs : cellsA c = some cs)
  (H : AAny P nt ops Q T fuel (listed.setIfInBounds i true) ((d, .ptr d 0) :: killE d e) ((d, .var (cs.map (killV d))) :: killH d h)) : AAt P nt ops Q T fuel listed i e h :=
 za5 hi hw (zog ho hdst hx hcs hid hd) fun e' h' ⟨h1, h2⟩ => by subst h1 h2; exact H
theorem zJ {t : TypeId} {x y : Operand} {id off s : Nat} {cs xs : List AVal} {c : AVal} {tab : TTab} (TO : TabOk P tab) (hi : ops[i]? = some o) (hw : awant ops e o = some true) (hdst : o.dst = none) (ho : o.op = .store t x y) (hx : aev e x = some (.ptr id off)) (hb : look h id = some (.var cs))
  (hy : aev e y = some c) (hcs : cellsA c = some xs) (hp : xs.all plainC = true) (hs : tsize tab t = some s) (hl : Nat.beq xs.length s = true) (hle : Nat.ble (off + s) cs.length = true) (hT : T.contains id = true)
  (H : AAny P nt ops Q T fuel (listed.setIfInBounds i true) e ((id, .var (setW cs off xs)) :: h)) : AAt P nt ops Q T fuel listed i e h := by
 obtain ⟨te, h1, h2⟩ := zu hs
 subst h2
 exact za5 hi hw (zcN TO ho hdst h1 hx hb hy hcs hp hl hle rfl rfl hT) fun e' h' ⟨h1, h2⟩ => by subst h1 h2; exact H
end
end Go.Proofs.YtmmdkjanmegjdaaGreat.Ab

namespace Go.Proofs.YtmmdkjanmegjdaaGreat.Ab
def tab : TTab := (.node 133 ⟨1, 8, false, [Value.nilFunc], .fu⟩ (.node 71 ⟨1, 8, false, [Value.nilFunc], .fu⟩ (.node 41 ⟨1, 24, false, [Value.slice none 0 0], .sl 52⟩ (.node 27 ⟨1, 24, false, [Value.slice none 0 0], .sl 152⟩ (.node 12 ⟨1, 8, false, [Value.int .u64 0], .it .u64⟩ (.node 4 ⟨1, 1, false, [Value.bool false], .bo⟩ (.node 2 ⟨1, 8, false, [Value.int .i64 0], .it .i64⟩ (.node 1 ⟨1, 8, false, [Value.nilFunc], .fu⟩ .leaf .leaf) (.node 3 ⟨1, 8, false, [Value.int .i64 0], .it .i64⟩ .leaf .leaf)) (.node 9 ⟨1, 16, false, [Value.string ⟨#[]⟩], .str⟩ (.node 5 ⟨1, 1, false, [Value.int .u8 0], .it .u8⟩ .leaf .leaf) .leaf)) (.node 24 ⟨1, 24, false, [Value.slice none 0 0], .sl 239⟩ (.node 22 ⟨1, 24, false, [Value.slice none 0 0], .sl 9⟩ (.node 21 ⟨1, 4, false, [Value.int .i32 0], .it .i32⟩ .leaf .leaf) (.node 23 ⟨1, 24, false, [Value.slice none 0 0], .sl 236⟩ .leaf .leaf)) (.node 26 ⟨1, 24, false, [Value.slice none 0 0], .sl 243⟩ (.node 25 ⟨1, 24, false, [Value.slice none 0 0], .sl 241⟩ .leaf .leaf) .leaf))) (.node 34 ⟨1, 24, false, [Value.slice none 0 0], .sl 69⟩ (.node 31 ⟨1, 24, false, [Value.slice none 0 0], .sl 248⟩ (.node 29 ⟨1, 24, false, [Value.slice none 0 0], .sl 65⟩ (.node 28 ⟨1, 24, false, [Value.slice none 0 0], .sl 156⟩ .leaf .leaf) (.node 30 ⟨1, 24, false, [Value.slice none 0 0], .sl 245⟩ .leaf .leaf)) (.node 33 ⟨12, 264, true, [Value.string ⟨#[]⟩, Value.int .u8 0, Value.slice none 0 0, Value.slice none 0 0, Value.slice none 0 0, Value.slice none 0 0, Value.slice none 0 0, Value.slice none 0 0, Value.slice none 0 0, Value.slice none 0 0, Value.slice none 0 0, Value.slice none 0 0], .st [(0, 9), (1, 5), (2, 22), (3, 23), (4, 24), (5, 25), (6, 26), (7, 27), (8, 28), (9, 29), (10, 30), (11, 31)]⟩ (.node 32 ⟨12, 264, true, [Value.string ⟨#[]⟩, Value.int .u8 0, Value.slice none 0 0, Value.slice none 0 0, Value.slice none 0 0, Value.slice none 0 0, Value.slice none 0 0, Value.slice none 0 0, Value.slice none 0 0, Value.slice none 0 0, Value.slice none 0 0, Value.slice none 0 0], .st [(0, 9), (1, 5), (2, 22), (3, 23), (4, 24), (5, 25), (6, 26), (7, 27), (8, 28), (9, 29), (10, 30), (11, 31)]⟩ .leaf .leaf) .leaf)) (.node 37 ⟨1, 24, false, [Value.slice none 0 0], .sl 53⟩ (.node 36 ⟨1, 8, false, [Value.nilFunc], .fu⟩ (.node 35 ⟨1, 24, false, [Value.slice none 0 0], .sl 58⟩ .leaf .leaf) .leaf) (.node 40 ⟨1, 8, false, [Value.nilFunc], .fu⟩ (.node 38 ⟨1, 8, false, [Value.int .i64 0], .it .i64⟩ .leaf .leaf) .leaf)))) (.node 56 ⟨1, 8, false, [Value.nilFunc], .fu⟩ (.node 49 ⟨8, 96, true, [Value.int .u32 0, Value.int .i64 0, Value.int .i64 0, Value.int .i64 0, Value.int .i64 0, Value.slice none 0 0, Value.slice none 0 0, Value.int .u32 0], .st [(0, 47), (2, 3), (3, 3), (4, 3), (5, 48), (6, 48), (7, 45)]⟩ (.node 46 ⟨2, 16, true, [Value.int .u32 0, Value.int .i64 0], .st [(0, 45), (1, 3)]⟩ (.node 44 ⟨1, 4, false, [Value.int .u32 0], .it .u32⟩ (.node 43 ⟨1, 8, false, [Value.nilFunc], .fu⟩ .leaf .leaf) (.node 45 ⟨1, 4, false, [Value.int .u32 0], .it .u32⟩ .leaf .leaf)) (.node 48 ⟨1, 24, false, [Value.slice none 0 0], .sl 44⟩ (.node 47 ⟨2, 16, true, [Value.int .u32 0, Value.int .i64 0], .st [(0, 45), (1, 3)]⟩ .leaf .leaf) .leaf)) (.node 53 ⟨9, 104, true, [Value.int .i64 0, Value.int .u32 0, Value.int .i64 0, Value.int .i64 0, Value.int .i64 0, Value.int .i64 0, Value.slice none 0 0, Value.slice none 0 0, Value.int .u32 0], .st [(0, 3), (1, 50)]⟩ (.node 51 ⟨9, 104, true, [Value.int .i64 0, Value.int .u32 0, Value.int .i64 0, Value.int .i64 0, Value.int .i64 0, Value.int .i64 0, Value.slice none 0 0, Value.slice none 0 0, Value.int .u32 0], .st [(0, 3), (1, 50)]⟩ (.node 50 ⟨8, 96, true, [Value.int .u32 0, Value.int .i64 0, Value.int .i64 0, Value.int .i64 0, Value.int .i64 0, Value.slice none 0 0, Value.slice none 0 0, Value.int .u32 0], .st [(0, 47), (2, 3), (3, 3), (4, 3), (5, 48), (6, 48), (7, 45)]⟩ .leaf .leaf) (.node 52 ⟨9, 104, true, [Value.int .i64 0, Value.int .u32 0, Value.int .i64 0, Value.int .i64 0, Value.int .i64 0, Value.int .i64 0, Value.slice none 0 0, Value.slice none 0 0, Value.int .u32 0], .st [(0, 3), (1, 50)]⟩ .leaf .leaf)) (.node 55 ⟨1, 8, false, [Value.nilFunc], .fu⟩ (.node 54 ⟨1, 8, false, [Value.nilFunc], .fu⟩ .leaf .leaf) .leaf))) (.node 64 ⟨3, 48, true, [Value.string ⟨#[]⟩, Value.slice none 0 0, Value.bool false], .st [(0, 9), (1, 63), (2, 4)]⟩ (.node 60 ⟨1, 8, false, [Value.nilFunc], .fu⟩ (.node 58 ⟨9, 72, true, [Value.int .u32 0, Value.int .i64 0, Value.int .u8 0, Value.int .i64 0, Value.int .i64 0, Value.int .i64 0, Value.string ⟨#[]⟩, Value.int .u32 0, Value.bool false], .st [(0, 47), (2, 5), (3, 3), (4, 3), (5, 3), (6, 9), (7, 45), (8, 4)]⟩ (.node 57 ⟨9, 72, true, [Value.int .u32 0, Value.int .i64 0, Value.int .u8 0, Value.int .i64 0, Value.int .i64 0, Value.int .i64 0, Value.string ⟨#[]⟩, Value.int .u32 0, Value.bool false], .st [(0, 47), (2, 5), (3, 3), (4, 3), (5, 3), (6, 9), (7, 45), (8, 4)]⟩ .leaf .leaf) (.node 59 ⟨1, 8, false, [Value.nilFunc], .fu⟩ .leaf .leaf)) (.node 63 ⟨1, 24, false, [Value.slice none 0 0], .sl 127⟩ (.node 62 ⟨1, 8, false, [Value.nilFunc], .fu⟩ .leaf .leaf) .leaf)) (.node 68 ⟨4, 40, true, [Value.int .u8 0, Value.int .i64 0, Value.int .u8 0, Value.string ⟨#[]⟩], .st [(0, 5), (1, 3), (2, 5), (3, 9)]⟩ (.node 67 ⟨1, 8, false, [Value.nilFunc], .fu⟩ (.node 65 ⟨3, 48, true, [Value.string ⟨#[]⟩, Value.slice none 0 0, Value.bool false], .st [(0, 9), (1, 63), (2, 4)]⟩ .leaf .leaf) .leaf) (.node 70 ⟨1, 8, false, [Value.nilFunc], .fu⟩ (.node 69 ⟨4, 40, true, [Value.int .u8 0, Value.int .i64 0, Value.int .u8 0, Value.string ⟨#[]⟩], .st [(0, 5), (1, 3), (2, 5), (3, 9)]⟩ .leaf .leaf) .leaf))))) (.node 106 ⟨1, 8, false, [Value.nilFunc], .fu⟩ (.node 90 ⟨1, 8, false, [Value.nilFunc], .fu⟩ (.node 80 ⟨1, 8, false, [Value.nilFunc], .fu⟩ (.node 77 ⟨1, 8, false, [Value.nilFunc], .fu⟩ (.node 74 ⟨1, 8, false, [Value.map none], .mp 47 52⟩ (.node 73 ⟨1, 8, false, [Value.nilFunc], .fu⟩ .leaf .leaf) (.node 75 ⟨1, 8, false, [Value.map none], .mp 47 3⟩ .leaf .leaf)) (.node 79 ⟨1, 8, false, [Value.nilFunc], .fu⟩ (.node 78 ⟨1, 8, false, [Value.nilFunc], .fu⟩ .leaf .leaf) .leaf)) (.node 85 ⟨1, 8, false, [Value.nilFunc], .fu⟩ (.node 83 ⟨1, 8, false, [Value.nilFunc], .fu⟩ (.node 81 ⟨1, 8, false, [Value.map none], .mp 47 58⟩ .leaf .leaf) (.node 84 ⟨1, 8, false, [Value.pointer none], .pt 117⟩ .leaf .leaf)) (.node 88 ⟨1, 8, false, [Value.nilFunc], .fu⟩ (.node 87 ⟨1, 8, false, [Value.nilFunc], .fu⟩ .leaf .leaf) .leaf))) (.node 98 ⟨1, 8, false, [Value.nilFunc], .fu⟩ (.node 94 ⟨1, 8, false, [Value.nilFunc], .fu⟩ (.node 92 ⟨1, 8, false, [Value.nilFunc], .fu⟩ (.node 91 ⟨1, 8, false, [Value.nilFunc], .fu⟩ .leaf .leaf) (.node 93 ⟨1, 8, false, [Value.nilFunc], .fu⟩ .leaf .leaf)) (.node 96 ⟨1, 24, false, [Value.slice none 0 0], .sl 100⟩ (.node 95 ⟨1, 8, false, [Value.nilFunc], .fu⟩ .leaf .leaf) .leaf)) (.node 102 ⟨1, 8, false, [Value.nilFunc], .fu⟩ (.node 100 ⟨9, 104, true, [Value.int .i64 0, Value.int .u32 0, Value.int .i64 0, Value.int .i64 0, Value.int .i64 0, Value.int .i64 0, Value.slice none 0 0, Value.slice none 0 0, Value.int .u32 0], .st [(0, 3), (1, 50)]⟩ (.node 99 ⟨9, 104, true, [Value.int .i64 0, Value.int .u32 0, Value.int .i64 0, Value.int .i64 0, Value.int .i64 0, Value.int .i64 0, Value.slice none 0 0, Value.slice none 0 0, Value.int .u32 0], .st [(0, 3), (1, 50)]⟩ .leaf .leaf) .leaf) (.node 105 ⟨1, 8, false, [Value.nilFunc], .fu⟩ (.node 104 ⟨1, 8, false, [Value.nilFunc], .fu⟩ .leaf .leaf) .leaf)))) (.node 120 ⟨1, 8, false, [Value.nilFunc], .fu⟩ (.node 113 ⟨1, 24, false, [Value.slice none 0 0], .sl 112⟩ (.node 110 ⟨1, 8, false, [Value.nilFunc], .fu⟩ (.node 108 ⟨1, 8, false, [Value.nilFunc], .fu⟩ (.node 107 ⟨1, 8, false, [Value.nilFunc], .fu⟩ .leaf .leaf) (.node 109 ⟨1, 8, false, [Value.int .u64 0], .it .u64⟩ .leaf .leaf)) (.node 112 ⟨1, 8, false, [Value.nilFunc], .fu⟩ (.node 111 ⟨1, 8, false, [Value.nilFunc], .fu⟩ .leaf .leaf) .leaf)) (.node 117 ⟨34, 272, true, [Value.map none, Value.int .i64 0, Value.int .i64 0, Value.int .i64 0, Value.int .i64 0, Value.int .i64 0, Value.int .i64 0, Value.int .i64 0, Value.int .i64 0, Value.int .i64 0, Value.int .i64 0, Value.int .i64 0, Value.int .i64 0, Value.int .i64 0, Value.int .i64 0, Value.int .i64 0, Value.int .i64 0, Value.int .i64 0, Value.int .i64 0, Value.int .i64 0, Value.int .i64 0, Value.int .i64 0, Value.int .i64 0, Value.int .i64 0, Value.int .i64 0, Value.int .i64 0, Value.int .i64 0, Value.int .i64 0, Value.int .i64 0, Value.int .i64 0, Value.int .i64 0, Value.int .i64 0, Value.int .i64 0, Value.int .i64 0], .st [(0, 114), (1, 115)]⟩ (.node 115 ⟨33, 264, true, [Value.int .i64 0, Value.int .i64 0, Value.int .i64 0, Value.int .i64 0, Value.int .i64 0, Value.int .i64 0, Value.int .i64 0, Value.int .i64 0, Value.int .i64 0, Value.int .i64 0, Value.int .i64 0, Value.int .i64 0, Value.int .i64 0, Value.int .i64 0, Value.int .i64 0, Value.int .i64 0, Value.int .i64 0, Value.int .i64 0, Value.int .i64 0, Value.int .i64 0, Value.int .i64 0, Value.int .i64 0, Value.int .i64 0, Value.int .i64 0, Value.int .i64 0, Value.int .i64 0, Value.int .i64 0, Value.int .i64 0, Value.int .i64 0, Value.int .i64 0, Value.int .i64 0, Value.int .i64 0, Value.int .i64 0], .ar 33 3⟩ (.node 114 ⟨1, 8, false, [Value.map none], .mp 47 35⟩ .leaf .leaf) (.node 116 ⟨34, 272, true, [Value.map none, Value.int .i64 0, Value.int .i64 0, Value.int .i64 0, Value.int .i64 0, Value.int .i64 0, Value.int .i64 0, Value.int .i64 0, Value.int .i64 0, Value.int .i64 0, Value.int .i64 0, Value.int .i64 0, Value.int .i64 0, Value.int .i64 0, Value.int .i64 0, Value.int .i64 0, Value.int .i64 0, Value.int .i64 0, Value.int .i64 0, Value.int .i64 0, Value.int .i64 0, Value.int .i64 0, Value.int .i64 0, Value.int .i64 0, Value.int .i64 0, Value.int .i64 0, Value.int .i64 0, Value.int .i64 0, Value.int .i64 0, Value.int .i64 0, Value.int .i64 0, Value.int .i64 0, Value.int .i64 0, Value.int .i64 0], .st [(0, 114), (1, 115)]⟩ .leaf .leaf)) (.node 119 ⟨1, 24, false, [Value.slice none 0 0], .sl 47⟩ (.node 118 ⟨1, 8, false, [Value.nilFunc], .fu⟩ .leaf .leaf) .leaf))) (.node 127 ⟨15, 168, true, [Value.int .i64 0, Value.int .u8 0, Value.string ⟨#[]⟩, Value.string ⟨#[]⟩, Value.int .i64 0, Value.int .i64 0, Value.int .i64 0, Value.int .i64 0, Value.int .i64 0, Value.int .i64 0, Value.slice none 0 0, Value.bool false, Value.slice none 0 0, Value.int .u32 0, Value.int .i64 0], .st [(0, 3), (1, 5), (2, 9), (3, 9), (4, 3), (5, 3), (6, 3), (7, 3), (8, 3), (9, 3), (10, 48), (11, 4), (12, 48), (13, 45), (14, 3)]⟩ (.node 124 ⟨1, 8, false, [Value.nilFunc], .fu⟩ (.node 122 ⟨1, 8, false, [Value.nilFunc], .fu⟩ (.node 121 ⟨1, 8, false, [Value.nilFunc], .fu⟩ .leaf .leaf) (.node 123 ⟨1, 8, false, [Value.nilFunc], .fu⟩ .leaf .leaf)) (.node 126 ⟨15, 168, true, [Value.int .i64 0, Value.int .u8 0, Value.string ⟨#[]⟩, Value.string ⟨#[]⟩, Value.int .i64 0, Value.int .i64 0, Value.int .i64 0, Value.int .i64 0, Value.int .i64 0, Value.int .i64 0, Value.slice none 0 0, Value.bool false, Value.slice none 0 0, Value.int .u32 0, Value.int .i64 0], .st [(0, 3), (1, 5), (2, 9), (3, 9), (4, 3), (5, 3), (6, 3), (7, 3), (8, 3), (9, 3), (10, 48), (11, 4), (12, 48), (13, 45), (14, 3)]⟩ (.node 125 ⟨1, 24, false, [Value.slice none 0 0], .sl 3⟩ .leaf .leaf) .leaf)) (.node 130 ⟨1, 8, false, [Value.nilFunc], .fu⟩ (.node 129 ⟨1, 8, false, [Value.nilFunc], .fu⟩ (.node 128 ⟨1, 8, false, [Value.nilFunc], .fu⟩ .leaf .leaf) .leaf) (.node 132 ⟨1, 8, false, [Value.nilFunc], .fu⟩ (.node 131 ⟨1, 8, false, [Value.nilFunc], .fu⟩ .leaf .leaf) .leaf)))))) (.node 189 ⟨1, 8, false, [Value.nilFunc], .fu⟩ (.node 162 ⟨1, 8, false, [Value.nilFunc], .fu⟩ (.node 149 ⟨1, 8, false, [Value.nilFunc], .fu⟩ (.node 141 ⟨1, 8, false, [Value.nilFunc], .fu⟩ (.node 137 ⟨1, 8, false, [Value.int .i64 0], .it .i64⟩ (.node 135 ⟨1, 8, false, [Value.nilFunc], .fu⟩ (.node 134 ⟨1, 8, false, [Value.nilFunc], .fu⟩ .leaf .leaf) (.node 136 ⟨1, 8, false, [Value.nilFunc], .fu⟩ .leaf .leaf)) (.node 140 ⟨1, 8, false, [Value.nilFunc], .fu⟩ (.node 139 ⟨1, 8, false, [Value.nilFunc], .fu⟩ .leaf .leaf) .leaf)) (.node 145 ⟨1, 8, false, [Value.int .u64 0], .it .u64⟩ (.node 143 ⟨1, 8, false, [Value.nilFunc], .fu⟩ (.node 142 ⟨1, 8, false, [Value.nilFunc], .fu⟩ .leaf .leaf) (.node 144 ⟨1, 8, false, [Value.nilFunc], .fu⟩ .leaf .leaf)) (.node 147 ⟨1, 8, false, [Value.nilFunc], .fu⟩ (.node 146 ⟨1, 8, false, [Value.nilFunc], .fu⟩ .leaf .leaf) .leaf))) (.node 156 ⟨2, 40, true, [Value.string ⟨#[]⟩, Value.slice none 0 0], .st [(0, 9), (1, 154)]⟩ (.node 153 ⟨1, 8, false, [Value.nilFunc], .fu⟩ (.node 151 ⟨2, 40, true, [Value.string ⟨#[]⟩, Value.slice none 0 0], .st [(0, 9), (1, 150)]⟩ (.node 150 ⟨1, 24, false, [Value.slice none 0 0], .sl 181⟩ .leaf .leaf) (.node 152 ⟨2, 40, true, [Value.string ⟨#[]⟩, Value.slice none 0 0], .st [(0, 9), (1, 150)]⟩ .leaf .leaf)) (.node 155 ⟨2, 40, true, [Value.string ⟨#[]⟩, Value.slice none 0 0], .st [(0, 9), (1, 154)]⟩ (.node 154 ⟨1, 24, false, [Value.slice none 0 0], .sl 184⟩ .leaf .leaf) .leaf)) (.node 159 ⟨1, 8, false, [Value.nilFunc], .fu⟩ (.node 158 ⟨1, 8, false, [Value.nilFunc], .fu⟩ (.node 157 ⟨1, 8, false, [Value.nilFunc], .fu⟩ .leaf .leaf) .leaf) (.node 161 ⟨1, 8, false, [Value.nilFunc], .fu⟩ (.node 160 ⟨1, 8, false, [Value.nilFunc], .fu⟩ .leaf .leaf) .leaf)))) (.node 176 ⟨1, 8, false, [Value.nilFunc], .fu⟩ (.node 169 ⟨1, 8, false, [Value.nilFunc], .fu⟩ (.node 166 ⟨1, 8, false, [Value.nilFunc], .fu⟩ (.node 164 ⟨1, 8, false, [Value.nilFunc], .fu⟩ (.node 163 ⟨1, 8, false, [Value.nilFunc], .fu⟩ .leaf .leaf) (.node 165 ⟨1, 24, false, [Value.slice none 0 0], .sl 36⟩ .leaf .leaf)) (.node 168 ⟨1, 8, false, [Value.nilFunc], .fu⟩ (.node 167 ⟨1, 8, false, [Value.nilFunc], .fu⟩ .leaf .leaf) .leaf)) (.node 173 ⟨1, 8, false, [Value.int .u64 0], .it .u64⟩ (.node 171 ⟨1, 8, false, [Value.nilFunc], .fu⟩ (.node 170 ⟨1, 8, false, [Value.nilFunc], .fu⟩ .leaf .leaf) (.node 172 ⟨1, 8, false, [Value.nilFunc], .fu⟩ .leaf .leaf)) (.node 175 ⟨1, 8, false, [Value.nilFunc], .fu⟩ (.node 174 ⟨1, 8, false, [Value.nilFunc], .fu⟩ .leaf .leaf) .leaf))) (.node 183 ⟨2, 32, true, [Value.bool false, Value.slice none 0 0], .st [(0, 4), (1, 48)]⟩ (.node 180 ⟨5, 40, true, [Value.bool false, Value.int .u32 0, Value.int .i64 0, Value.int .i64 0, Value.int .i64 0], .st [(0, 4), (1, 47), (3, 3), (4, 3)]⟩ (.node 178 ⟨1, 8, false, [Value.nilFunc], .fu⟩ (.node 177 ⟨1, 8, false, [Value.pointer none], .pt 3⟩ .leaf .leaf) (.node 179 ⟨1, 8, false, [Value.nilFunc], .fu⟩ .leaf .leaf)) (.node 182 ⟨1, 8, false, [Value.nilFunc], .fu⟩ (.node 181 ⟨5, 40, true, [Value.bool false, Value.int .u32 0, Value.int .i64 0, Value.int .i64 0, Value.int .i64 0], .st [(0, 4), (1, 47), (3, 3), (4, 3)]⟩ .leaf .leaf) .leaf)) (.node 186 ⟨1, 8, false, [Value.nilFunc], .fu⟩ (.node 185 ⟨1, 8, false, [Value.nilFunc], .fu⟩ (.node 184 ⟨2, 32, true, [Value.bool false, Value.slice none 0 0], .st [(0, 4), (1, 48)]⟩ .leaf .leaf) .leaf) (.node 188 ⟨1, 8, false, [Value.nilFunc], .fu⟩ (.node 187 ⟨1, 8, false, [Value.nilFunc], .fu⟩ .leaf .leaf) .leaf))))) (.node 217 ⟨1, 8, false, [Value.nilFunc], .fu⟩ (.node 204 ⟨1, 8, false, [Value.nilFunc], .fu⟩ (.node 197 ⟨1, 8, false, [Value.nilFunc], .fu⟩ (.node 193 ⟨1, 8, false, [Value.pointer none], .pt 173⟩ (.node 191 ⟨1, 8, false, [Value.nilFunc], .fu⟩ (.node 190 ⟨1, 8, false, [Value.nilFunc], .fu⟩ .leaf .leaf) (.node 192 ⟨1, 8, false, [Value.nilFunc], .fu⟩ .leaf .leaf)) (.node 196 ⟨1, 8, false, [Value.nilFunc], .fu⟩ (.node 195 ⟨1, 8, false, [Value.nilFunc], .fu⟩ .leaf .leaf) .leaf)) (.node 201 ⟨1, 24, false, [Value.slice none 0 0], .sl 48⟩ (.node 199 ⟨1, 8, false, [Value.nilFunc], .fu⟩ (.node 198 ⟨1, 8, false, [Value.nilFunc], .fu⟩ .leaf .leaf) (.node 200 ⟨1, 8, false, [Value.nilFunc], .fu⟩ .leaf .leaf)) (.node 203 ⟨1, 8, false, [Value.nilFunc], .fu⟩ (.node 202 ⟨1, 8, false, [Value.nilFunc], .fu⟩ .leaf .leaf) .leaf))) (.node 211 ⟨1, 8, false, [Value.nilFunc], .fu⟩ (.node 208 ⟨1, 8, false, [Value.nilFunc], .fu⟩ (.node 206 ⟨1, 8, false, [Value.nilFunc], .fu⟩ (.node 205 ⟨1, 8, false, [Value.nilFunc], .fu⟩ .leaf .leaf) (.node 207 ⟨1, 8, false, [Value.nilFunc], .fu⟩ .leaf .leaf)) (.node 210 ⟨1, 8, false, [Value.nilFunc], .fu⟩ (.node 209 ⟨1, 8, false, [Value.nilFunc], .fu⟩ .leaf .leaf) .leaf)) (.node 214 ⟨1, 8, false, [Value.nilFunc], .fu⟩ (.node 213 ⟨1, 8, false, [Value.nilFunc], .fu⟩ (.node 212 ⟨1, 8, false, [Value.nilFunc], .fu⟩ .leaf .leaf) .leaf) (.node 216 ⟨1, 8, false, [Value.nilFunc], .fu⟩ (.node 215 ⟨1, 8, false, [Value.nilFunc], .fu⟩ .leaf .leaf) .leaf)))) (.node 242 ⟨7, 56, true, [Value.string ⟨#[]⟩, Value.int .u32 0, Value.int .i64 0, Value.int .u32 0, Value.bool false, Value.int .i64 0, Value.int .i64 0], .st [(0, 9), (1, 47), (3, 45), (4, 4), (5, 3), (6, 3)]⟩ (.node 235 ⟨11, 120, true, [Value.string ⟨#[]⟩, Value.string ⟨#[]⟩, Value.int .u32 0, Value.int .i64 0, Value.bool false, Value.string ⟨#[]⟩, Value.string ⟨#[]⟩, Value.int .u8 0, Value.int .i64 0, Value.int .i64 0, Value.bool false], .st [(0, 9), (1, 9), (2, 45), (3, 3), (4, 4), (5, 9), (6, 9), (7, 5), (8, 3), (9, 3), (10, 4)]⟩ (.node 226 ⟨1, 8, false, [Value.nilFunc], .fu⟩ (.node 219 ⟨1, 8, false, [Value.nilFunc], .fu⟩ (.node 218 ⟨1, 8, false, [Value.nilFunc], .fu⟩ .leaf .leaf) (.node 220 ⟨1, 8, false, [Value.nilFunc], .fu⟩ .leaf .leaf)) (.node 230 ⟨1, 8, false, [Value.pointer none], .pt 5⟩ (.node 229 ⟨1, 8, false, [Value.nilFunc], .fu⟩ .leaf .leaf) .leaf)) (.node 239 ⟨2, 40, true, [Value.string ⟨#[]⟩, Value.slice none 0 0], .st [(0, 9), (1, 237)]⟩ (.node 237 ⟨1, 24, false, [Value.slice none 0 0], .sl 253⟩ (.node 236 ⟨11, 120, true, [Value.string ⟨#[]⟩, Value.string ⟨#[]⟩, Value.int .u32 0, Value.int .i64 0, Value.bool false, Value.string ⟨#[]⟩, Value.string ⟨#[]⟩, Value.int .u8 0, Value.int .i64 0, Value.int .i64 0, Value.bool false], .st [(0, 9), (1, 9), (2, 45), (3, 3), (4, 4), (5, 9), (6, 9), (7, 5), (8, 3), (9, 3), (10, 4)]⟩ .leaf .leaf) (.node 238 ⟨2, 40, true, [Value.string ⟨#[]⟩, Value.slice none 0 0], .st [(0, 9), (1, 237)]⟩ .leaf .leaf)) (.node 241 ⟨3, 32, true, [Value.bool false, Value.string ⟨#[]⟩, Value.int .u32 0], .st [(0, 4), (1, 9), (2, 45)]⟩ (.node 240 ⟨3, 32, true, [Value.bool false, Value.string ⟨#[]⟩, Value.int .u32 0], .st [(0, 4), (1, 9), (2, 45)]⟩ .leaf .leaf) .leaf))) (.node 250 ⟨2, 8, true, [Value.int .u32 0, Value.int .u32 0], .st [(0, 44), (1, 44)]⟩ (.node 246 ⟨1, 24, false, [Value.slice none 0 0], .sl 255⟩ (.node 244 ⟨3, 48, true, [Value.string ⟨#[]⟩, Value.int .u32 0, Value.slice none 0 0], .st [(0, 9), (1, 45), (2, 34)]⟩ (.node 243 ⟨7, 56, true, [Value.string ⟨#[]⟩, Value.int .u32 0, Value.int .i64 0, Value.int .u32 0, Value.bool false, Value.int .i64 0, Value.int .i64 0], .st [(0, 9), (1, 47), (3, 45), (4, 4), (5, 3), (6, 3)]⟩ .leaf .leaf) (.node 245 ⟨3, 48, true, [Value.string ⟨#[]⟩, Value.int .u32 0, Value.slice none 0 0], .st [(0, 9), (1, 45), (2, 34)]⟩ .leaf .leaf)) (.node 248 ⟨6, 96, true, [Value.string ⟨#[]⟩, Value.int .u32 0, Value.int .u32 0, Value.slice none 0 0, Value.slice none 0 0, Value.slice none 0 0], .st [(0, 9), (1, 44), (2, 45), (3, 119), (4, 246), (5, 34)]⟩ (.node 247 ⟨6, 96, true, [Value.string ⟨#[]⟩, Value.int .u32 0, Value.int .u32 0, Value.slice none 0 0, Value.slice none 0 0, Value.slice none 0 0], .st [(0, 9), (1, 44), (2, 45), (3, 119), (4, 246), (5, 34)]⟩ .leaf .leaf) .leaf)) (.node 253 ⟨10, 64, true, [Value.bool false, Value.int .i64 0, Value.int .u32 0, Value.int .i64 0, Value.int .u32 0, Value.int .i64 0, Value.int .u32 0, Value.int .u32 0, Value.int .u32 0, Value.int .u32 0], .st [(0, 4), (1, 3), (2, 47), (4, 47), (6, 251), (8, 251)]⟩ (.node 252 ⟨10, 64, true, [Value.bool false, Value.int .i64 0, Value.int .u32 0, Value.int .i64 0, Value.int .u32 0, Value.int .i64 0, Value.int .u32 0, Value.int .u32 0, Value.int .u32 0, Value.int .u32 0], .st [(0, 4), (1, 3), (2, 47), (4, 47), (6, 251), (8, 251)]⟩ (.node 251 ⟨2, 8, true, [Value.int .u32 0, Value.int .u32 0], .st [(0, 44), (1, 44)]⟩ .leaf .leaf) .leaf) (.node 255 ⟨6, 48, true, [Value.int .u32 0, Value.int .u32 0, Value.string ⟨#[]⟩, Value.string ⟨#[]⟩, Value.bool false, Value.bool false], .st [(0, 45), (1, 44), (2, 9), (3, 9), (4, 4), (5, 4)]⟩ (.node 254 ⟨6, 48, true, [Value.int .u32 0, Value.int .u32 0, Value.string ⟨#[]⟩, Value.string ⟨#[]⟩, Value.bool false, Value.bool false], .st [(0, 45), (1, 44), (2, 9), (3, 9), (4, 4), (5, 4)]⟩ .leaf .leaf) .leaf)))))))
theorem tf1 : TFacts Tryz.prog 1 ⟨1, 8, false, [Value.nilFunc], .fu⟩ := ⟨by kernel_rfl, _, Tryz.underlying1, rfl, ⟨_, _, _, rfl⟩⟩
theorem tf2 : TFacts Tryz.prog 2 ⟨1, 8, false, [Value.int .i64 0], .it .i64⟩ := ⟨by kernel_rfl, _, Tryz.underlying2, rfl, rfl⟩
theorem tf3 : TFacts Tryz.prog 3 ⟨1, 8, false, [Value.int .i64 0], .it .i64⟩ := ⟨by kernel_rfl, _, Tryz.underlying3, rfl, rfl⟩
theorem tf4 : TFacts Tryz.prog 4 ⟨1, 1, false, [Value.bool false], .bo⟩ := ⟨by kernel_rfl, _, Tryz.underlying4, rfl, rfl⟩
theorem tf5 : TFacts Tryz.prog 5 ⟨1, 1, false, [Value.int .u8 0], .it .u8⟩ := ⟨by kernel_rfl, _, Tryz.underlying5, rfl, rfl⟩
theorem tf9 : TFacts Tryz.prog 9 ⟨1, 16, false, [Value.string ⟨#[]⟩], .str⟩ := ⟨by kernel_rfl, _, Tryz.underlying9, rfl, rfl⟩
theorem tf12 : TFacts Tryz.prog 12 ⟨1, 8, false, [Value.int .u64 0], .it .u64⟩ := ⟨by kernel_rfl, _, Tryz.underlying12, rfl, rfl⟩
theorem tf21 : TFacts Tryz.prog 21 ⟨1, 4, false, [Value.int .i32 0], .it .i32⟩ := ⟨by kernel_rfl, _, Tryz.underlying21, rfl, rfl⟩
theorem tf22 : TFacts Tryz.prog 22 ⟨1, 24, false, [Value.slice none 0 0], .sl 9⟩ := ⟨by kernel_rfl, _, Tryz.underlying22, rfl, rfl⟩
theorem tf23 : TFacts Tryz.prog 23 ⟨1, 24, false, [Value.slice none 0 0], .sl 236⟩ := ⟨by kernel_rfl, _, Tryz.underlying23, rfl, rfl⟩
theorem tf24 : TFacts Tryz.prog 24 ⟨1, 24, false, [Value.slice none 0 0], .sl 239⟩ := ⟨by kernel_rfl, _, Tryz.underlying24, rfl, rfl⟩
theorem tf25 : TFacts Tryz.prog 25 ⟨1, 24, false, [Value.slice none 0 0], .sl 241⟩ := ⟨by kernel_rfl, _, Tryz.underlying25, rfl, rfl⟩
theorem tf26 : TFacts Tryz.prog 26 ⟨1, 24, false, [Value.slice none 0 0], .sl 243⟩ := ⟨by kernel_rfl, _, Tryz.underlying26, rfl, rfl⟩
theorem tf27 : TFacts Tryz.prog 27 ⟨1, 24, false, [Value.slice none 0 0], .sl 152⟩ := ⟨by kernel_rfl, _, Tryz.underlying27, rfl, rfl⟩
theorem tf28 : TFacts Tryz.prog 28 ⟨1, 24, false, [Value.slice none 0 0], .sl 156⟩ := ⟨by kernel_rfl, _, Tryz.underlying28, rfl, rfl⟩
theorem tf29 : TFacts Tryz.prog 29 ⟨1, 24, false, [Value.slice none 0 0], .sl 65⟩ := ⟨by kernel_rfl, _, Tryz.underlying29, rfl, rfl⟩
theorem tf30 : TFacts Tryz.prog 30 ⟨1, 24, false, [Value.slice none 0 0], .sl 245⟩ := ⟨by kernel_rfl, _, Tryz.underlying30, rfl, rfl⟩
theorem tf31 : TFacts Tryz.prog 31 ⟨1, 24, false, [Value.slice none 0 0], .sl 248⟩ := ⟨by kernel_rfl, _, Tryz.underlying31, rfl, rfl⟩
theorem tf32 : TFacts Tryz.prog 32 ⟨12, 264, true, [Value.string ⟨#[]⟩, Value.int .u8 0, Value.slice none 0 0, Value.slice none 0 0, Value.slice none 0 0, Value.slice none 0 0, Value.slice none 0 0, Value.slice none 0 0, Value.slice none 0 0, Value.slice none 0 0, Value.slice none 0 0, Value.slice none 0 0], .st [(0, 9), (1, 5), (2, 22), (3, 23), (4, 24), (5, 25), (6, 26), (7, 27), (8, 28), (9, 29), (10, 30), (11, 31)]⟩ := ⟨by kernel_rfl, _, Tryz.underlying32, rfl, ⟨_, rfl, rfl, by decide⟩⟩
theorem tf33 : TFacts Tryz.prog 33 ⟨12, 264, true, [Value.string ⟨#[]⟩, Value.int .u8 0, Value.slice none 0 0, Value.slice none 0 0, Value.slice none 0 0, Value.slice none 0 0, Value.slice none 0 0, Value.slice none 0 0, Value.slice none 0 0, Value.slice none 0 0, Value.slice none 0 0, Value.slice none 0 0], .st [(0, 9), (1, 5), (2, 22), (3, 23), (4, 24), (5, 25), (6, 26), (7, 27), (8, 28), (9, 29), (10, 30), (11, 31)]⟩ := ⟨by kernel_rfl, _, Tryz.underlying33, rfl, ⟨_, rfl, rfl, by decide⟩⟩
theorem tf34 : TFacts Tryz.prog 34 ⟨1, 24, false, [Value.slice none 0 0], .sl 69⟩ := ⟨by kernel_rfl, _, Tryz.underlying34, rfl, rfl⟩
theorem tf35 : TFacts Tryz.prog 35 ⟨1, 24, false, [Value.slice none 0 0], .sl 58⟩ := ⟨by kernel_rfl, _, Tryz.underlying35, rfl, rfl⟩
theorem tf36 : TFacts Tryz.prog 36 ⟨1, 8, false, [Value.nilFunc], .fu⟩ := ⟨by kernel_rfl, _, Tryz.underlying36, rfl, ⟨_, _, _, rfl⟩⟩
theorem tf37 : TFacts Tryz.prog 37 ⟨1, 24, false, [Value.slice none 0 0], .sl 53⟩ := ⟨by kernel_rfl, _, Tryz.underlying37, rfl, rfl⟩
theorem tf38 : TFacts Tryz.prog 38 ⟨1, 8, false, [Value.int .i64 0], .it .i64⟩ := ⟨by kernel_rfl, _, Tryz.underlying38, rfl, rfl⟩
theorem tf40 : TFacts Tryz.prog 40 ⟨1, 8, false, [Value.nilFunc], .fu⟩ := ⟨by kernel_rfl, _, Tryz.underlying40, rfl, ⟨_, _, _, rfl⟩⟩
theorem tf41 : TFacts Tryz.prog 41 ⟨1, 24, false, [Value.slice none 0 0], .sl 52⟩ := ⟨by kernel_rfl, _, Tryz.underlying41, rfl, rfl⟩
theorem tf43 : TFacts Tryz.prog 43 ⟨1, 8, false, [Value.nilFunc], .fu⟩ := ⟨by kernel_rfl, _, Tryz.underlying43, rfl, ⟨_, _, _, rfl⟩⟩
theorem tf44 : TFacts Tryz.prog 44 ⟨1, 4, false, [Value.int .u32 0], .it .u32⟩ := ⟨by kernel_rfl, _, Tryz.underlying44, rfl, rfl⟩
theorem tf45 : TFacts Tryz.prog 45 ⟨1, 4, false, [Value.int .u32 0], .it .u32⟩ := ⟨by kernel_rfl, _, Tryz.underlying45, rfl, rfl⟩
theorem tf46 : TFacts Tryz.prog 46 ⟨2, 16, true, [Value.int .u32 0, Value.int .i64 0], .st [(0, 45), (1, 3)]⟩ := ⟨by kernel_rfl, _, Tryz.underlying46, rfl, ⟨_, rfl, rfl, by decide⟩⟩
theorem tf47 : TFacts Tryz.prog 47 ⟨2, 16, true, [Value.int .u32 0, Value.int .i64 0], .st [(0, 45), (1, 3)]⟩ := ⟨by kernel_rfl, _, Tryz.underlying47, rfl, ⟨_, rfl, rfl, by decide⟩⟩
theorem tf48 : TFacts Tryz.prog 48 ⟨1, 24, false, [Value.slice none 0 0], .sl 44⟩ := ⟨by kernel_rfl, _, Tryz.underlying48, rfl, rfl⟩
theorem tf49 : TFacts Tryz.prog 49 ⟨8, 96, true, [Value.int .u32 0, Value.int .i64 0, Value.int .i64 0, Value.int .i64 0, Value.int .i64 0, Value.slice none 0 0, Value.slice none 0 0, Value.int .u32 0], .st [(0, 47), (2, 3), (3, 3), (4, 3), (5, 48), (6, 48), (7, 45)]⟩ := ⟨by kernel_rfl, _, Tryz.underlying49, rfl, ⟨_, rfl, rfl, by decide⟩⟩
theorem tf50 : TFacts Tryz.prog 50 ⟨8, 96, true, [Value.int .u32 0, Value.int .i64 0, Value.int .i64 0, Value.int .i64 0, Value.int .i64 0, Value.slice none 0 0, Value.slice none 0 0, Value.int .u32 0], .st [(0, 47), (2, 3), (3, 3), (4, 3), (5, 48), (6, 48), (7, 45)]⟩ := ⟨by kernel_rfl, _, Tryz.underlying50, rfl, ⟨_, rfl, rfl, by decide⟩⟩
theorem tf51 : TFacts Tryz.prog 51 ⟨9, 104, true, [Value.int .i64 0, Value.int .u32 0, Value.int .i64 0, Value.int .i64 0, Value.int .i64 0, Value.int .i64 0, Value.slice none 0 0, Value.slice none 0 0, Value.int .u32 0], .st [(0, 3), (1, 50)]⟩ := ⟨by kernel_rfl, _, Tryz.underlying51, rfl, ⟨_, rfl, rfl, by decide⟩⟩
theorem tf52 : TFacts Tryz.prog 52 ⟨9, 104, true, [Value.int .i64 0, Value.int .u32 0, Value.int .i64 0, Value.int .i64 0, Value.int .i64 0, Value.int .i64 0, Value.slice none 0 0, Value.slice none 0 0, Value.int .u32 0], .st [(0, 3), (1, 50)]⟩ := ⟨by kernel_rfl, _, Tryz.underlying52, rfl, ⟨_, rfl, rfl, by decide⟩⟩
theorem tf53 : TFacts Tryz.prog 53 ⟨9, 104, true, [Value.int .i64 0, Value.int .u32 0, Value.int .i64 0, Value.int .i64 0, Value.int .i64 0, Value.int .i64 0, Value.slice none 0 0, Value.slice none 0 0, Value.int .u32 0], .st [(0, 3), (1, 50)]⟩ := ⟨by kernel_rfl, _, Tryz.underlying53, rfl, ⟨_, rfl, rfl, by decide⟩⟩
theorem tf54 : TFacts Tryz.prog 54 ⟨1, 8, false, [Value.nilFunc], .fu⟩ := ⟨by kernel_rfl, _, Tryz.underlying54, rfl, ⟨_, _, _, rfl⟩⟩
theorem tf55 : TFacts Tryz.prog 55 ⟨1, 8, false, [Value.nilFunc], .fu⟩ := ⟨by kernel_rfl, _, Tryz.underlying55, rfl, ⟨_, _, _, rfl⟩⟩
theorem tf56 : TFacts Tryz.prog 56 ⟨1, 8, false, [Value.nilFunc], .fu⟩ := ⟨by kernel_rfl, _, Tryz.underlying56, rfl, ⟨_, _, _, rfl⟩⟩
theorem tf57 : TFacts Tryz.prog 57 ⟨9, 72, true, [Value.int .u32 0, Value.int .i64 0, Value.int .u8 0, Value.int .i64 0, Value.int .i64 0, Value.int .i64 0, Value.string ⟨#[]⟩, Value.int .u32 0, Value.bool false], .st [(0, 47), (2, 5), (3, 3), (4, 3), (5, 3), (6, 9), (7, 45), (8, 4)]⟩ := ⟨by kernel_rfl, _, Tryz.underlying57, rfl, ⟨_, rfl, rfl, by decide⟩⟩
theorem tf58 : TFacts Tryz.prog 58 ⟨9, 72, true, [Value.int .u32 0, Value.int .i64 0, Value.int .u8 0, Value.int .i64 0, Value.int .i64 0, Value.int .i64 0, Value.string ⟨#[]⟩, Value.int .u32 0, Value.bool false], .st [(0, 47), (2, 5), (3, 3), (4, 3), (5, 3), (6, 9), (7, 45), (8, 4)]⟩ := ⟨by kernel_rfl, _, Tryz.underlying58, rfl, ⟨_, rfl, rfl, by decide⟩⟩
theorem tf59 : TFacts Tryz.prog 59 ⟨1, 8, false, [Value.nilFunc], .fu⟩ := ⟨by kernel_rfl, _, Tryz.underlying59, rfl, ⟨_, _, _, rfl⟩⟩
theorem tf60 : TFacts Tryz.prog 60 ⟨1, 8, false, [Value.nilFunc], .fu⟩ := ⟨by kernel_rfl, _, Tryz.underlying60, rfl, ⟨_, _, _, rfl⟩⟩
theorem tf62 : TFacts Tryz.prog 62 ⟨1, 8, false, [Value.nilFunc], .fu⟩ := ⟨by kernel_rfl, _, Tryz.underlying62, rfl, ⟨_, _, _, rfl⟩⟩
theorem tf63 : TFacts Tryz.prog 63 ⟨1, 24, false, [Value.slice none 0 0], .sl 127⟩ := ⟨by kernel_rfl, _, Tryz.underlying63, rfl, rfl⟩
theorem tf64 : TFacts Tryz.prog 64 ⟨3, 48, true, [Value.string ⟨#[]⟩, Value.slice none 0 0, Value.bool false], .st [(0, 9), (1, 63), (2, 4)]⟩ := ⟨by kernel_rfl, _, Tryz.underlying64, rfl, ⟨_, rfl, rfl, by decide⟩⟩
theorem tf65 : TFacts Tryz.prog 65 ⟨3, 48, true, [Value.string ⟨#[]⟩, Value.slice none 0 0, Value.bool false], .st [(0, 9), (1, 63), (2, 4)]⟩ := ⟨by kernel_rfl, _, Tryz.underlying65, rfl, ⟨_, rfl, rfl, by decide⟩⟩
theorem tf67 : TFacts Tryz.prog 67 ⟨1, 8, false, [Value.nilFunc], .fu⟩ := ⟨by kernel_rfl, _, Tryz.underlying67, rfl, ⟨_, _, _, rfl⟩⟩
theorem tf68 : TFacts Tryz.prog 68 ⟨4, 40, true, [Value.int .u8 0, Value.int .i64 0, Value.int .u8 0, Value.string ⟨#[]⟩], .st [(0, 5), (1, 3), (2, 5), (3, 9)]⟩ := ⟨by kernel_rfl, _, Tryz.underlying68, rfl, ⟨_, rfl, rfl, by decide⟩⟩
theorem tf69 : TFacts Tryz.prog 69 ⟨4, 40, true, [Value.int .u8 0, Value.int .i64 0, Value.int .u8 0, Value.string ⟨#[]⟩], .st [(0, 5), (1, 3), (2, 5), (3, 9)]⟩ := ⟨by kernel_rfl, _, Tryz.underlying69, rfl, ⟨_, rfl, rfl, by decide⟩⟩
theorem tf70 : TFacts Tryz.prog 70 ⟨1, 8, false, [Value.nilFunc], .fu⟩ := ⟨by kernel_rfl, _, Tryz.underlying70, rfl, ⟨_, _, _, rfl⟩⟩
theorem tf71 : TFacts Tryz.prog 71 ⟨1, 8, false, [Value.nilFunc], .fu⟩ := ⟨by kernel_rfl, _, Tryz.underlying71, rfl, ⟨_, _, _, rfl⟩⟩
theorem tf73 : TFacts Tryz.prog 73 ⟨1, 8, false, [Value.nilFunc], .fu⟩ := ⟨by kernel_rfl, _, Tryz.underlying73, rfl, ⟨_, _, _, rfl⟩⟩
theorem tf74 : TFacts Tryz.prog 74 ⟨1, 8, false, [Value.map none], .mp 47 52⟩ := ⟨by kernel_rfl, _, Tryz.underlying74, rfl, rfl⟩
theorem tf75 : TFacts Tryz.prog 75 ⟨1, 8, false, [Value.map none], .mp 47 3⟩ := ⟨by kernel_rfl, _, Tryz.underlying75, rfl, rfl⟩
theorem tf77 : TFacts Tryz.prog 77 ⟨1, 8, false, [Value.nilFunc], .fu⟩ := ⟨by kernel_rfl, _, Tryz.underlying77, rfl, ⟨_, _, _, rfl⟩⟩
theorem tf78 : TFacts Tryz.prog 78 ⟨1, 8, false, [Value.nilFunc], .fu⟩ := ⟨by kernel_rfl, _, Tryz.underlying78, rfl, ⟨_, _, _, rfl⟩⟩
theorem tf79 : TFacts Tryz.prog 79 ⟨1, 8, false, [Value.nilFunc], .fu⟩ := ⟨by kernel_rfl, _, Tryz.underlying79, rfl, ⟨_, _, _, rfl⟩⟩
theorem tf80 : TFacts Tryz.prog 80 ⟨1, 8, false, [Value.nilFunc], .fu⟩ := ⟨by kernel_rfl, _, Tryz.underlying80, rfl, ⟨_, _, _, rfl⟩⟩
theorem tf81 : TFacts Tryz.prog 81 ⟨1, 8, false, [Value.map none], .mp 47 58⟩ := ⟨by kernel_rfl, _, Tryz.underlying81, rfl, rfl⟩
theorem tf83 : TFacts Tryz.prog 83 ⟨1, 8, false, [Value.nilFunc], .fu⟩ := ⟨by kernel_rfl, _, Tryz.underlying83, rfl, ⟨_, _, _, rfl⟩⟩
theorem tf84 : TFacts Tryz.prog 84 ⟨1, 8, false, [Value.pointer none], .pt 117⟩ := ⟨by kernel_rfl, _, Tryz.underlying84, rfl, rfl⟩
theorem tf85 : TFacts Tryz.prog 85 ⟨1, 8, false, [Value.nilFunc], .fu⟩ := ⟨by kernel_rfl, _, Tryz.underlying85, rfl, ⟨_, _, _, rfl⟩⟩
theorem tf87 : TFacts Tryz.prog 87 ⟨1, 8, false, [Value.nilFunc], .fu⟩ := ⟨by kernel_rfl, _, Tryz.underlying87, rfl, ⟨_, _, _, rfl⟩⟩
theorem tf88 : TFacts Tryz.prog 88 ⟨1, 8, false, [Value.nilFunc], .fu⟩ := ⟨by kernel_rfl, _, Tryz.underlying88, rfl, ⟨_, _, _, rfl⟩⟩
theorem tf90 : TFacts Tryz.prog 90 ⟨1, 8, false, [Value.nilFunc], .fu⟩ := ⟨by kernel_rfl, _, Tryz.underlying90, rfl, ⟨_, _, _, rfl⟩⟩
theorem tf91 : TFacts Tryz.prog 91 ⟨1, 8, false, [Value.nilFunc], .fu⟩ := ⟨by kernel_rfl, _, Tryz.underlying91, rfl, ⟨_, _, _, rfl⟩⟩
theorem tf92 : TFacts Tryz.prog 92 ⟨1, 8, false, [Value.nilFunc], .fu⟩ := ⟨by kernel_rfl, _, Tryz.underlying92, rfl, ⟨_, _, _, rfl⟩⟩
theorem tf93 : TFacts Tryz.prog 93 ⟨1, 8, false, [Value.nilFunc], .fu⟩ := ⟨by kernel_rfl, _, Tryz.underlying93, rfl, ⟨_, _, _, rfl⟩⟩
theorem tf94 : TFacts Tryz.prog 94 ⟨1, 8, false, [Value.nilFunc], .fu⟩ := ⟨by kernel_rfl, _, Tryz.underlying94, rfl, ⟨_, _, _, rfl⟩⟩
theorem tf95 : TFacts Tryz.prog 95 ⟨1, 8, false, [Value.nilFunc], .fu⟩ := ⟨by kernel_rfl, _, Tryz.underlying95, rfl, ⟨_, _, _, rfl⟩⟩
theorem tf96 : TFacts Tryz.prog 96 ⟨1, 24, false, [Value.slice none 0 0], .sl 100⟩ := ⟨by kernel_rfl, _, Tryz.underlying96, rfl, rfl⟩
theorem tf98 : TFacts Tryz.prog 98 ⟨1, 8, false, [Value.nilFunc], .fu⟩ := ⟨by kernel_rfl, _, Tryz.underlying98, rfl, ⟨_, _, _, rfl⟩⟩
theorem tf99 : TFacts Tryz.prog 99 ⟨9, 104, true, [Value.int .i64 0, Value.int .u32 0, Value.int .i64 0, Value.int .i64 0, Value.int .i64 0, Value.int .i64 0, Value.slice none 0 0, Value.slice none 0 0, Value.int .u32 0], .st [(0, 3), (1, 50)]⟩ := ⟨by kernel_rfl, _, Tryz.underlying99, rfl, ⟨_, rfl, rfl, by decide⟩⟩
theorem tf100 : TFacts Tryz.prog 100 ⟨9, 104, true, [Value.int .i64 0, Value.int .u32 0, Value.int .i64 0, Value.int .i64 0, Value.int .i64 0, Value.int .i64 0, Value.slice none 0 0, Value.slice none 0 0, Value.int .u32 0], .st [(0, 3), (1, 50)]⟩ := ⟨by kernel_rfl, _, Tryz.underlying100, rfl, ⟨_, rfl, rfl, by decide⟩⟩
theorem tf102 : TFacts Tryz.prog 102 ⟨1, 8, false, [Value.nilFunc], .fu⟩ := ⟨by kernel_rfl, _, Tryz.underlying102, rfl, ⟨_, _, _, rfl⟩⟩
theorem tf104 : TFacts Tryz.prog 104 ⟨1, 8, false, [Value.nilFunc], .fu⟩ := ⟨by kernel_rfl, _, Tryz.underlying104, rfl, ⟨_, _, _, rfl⟩⟩
theorem tf105 : TFacts Tryz.prog 105 ⟨1, 8, false, [Value.nilFunc], .fu⟩ := ⟨by kernel_rfl, _, Tryz.underlying105, rfl, ⟨_, _, _, rfl⟩⟩
theorem tf106 : TFacts Tryz.prog 106 ⟨1, 8, false, [Value.nilFunc], .fu⟩ := ⟨by kernel_rfl, _, Tryz.underlying106, rfl, ⟨_, _, _, rfl⟩⟩
theorem tf107 : TFacts Tryz.prog 107 ⟨1, 8, false, [Value.nilFunc], .fu⟩ := ⟨by kernel_rfl, _, Tryz.underlying107, rfl, ⟨_, _, _, rfl⟩⟩
theorem tf108 : TFacts Tryz.prog 108 ⟨1, 8, false, [Value.nilFunc], .fu⟩ := ⟨by kernel_rfl, _, Tryz.underlying108, rfl, ⟨_, _, _, rfl⟩⟩
theorem tf109 : TFacts Tryz.prog 109 ⟨1, 8, false, [Value.int .u64 0], .it .u64⟩ := ⟨by kernel_rfl, _, Tryz.underlying109, rfl, rfl⟩
theorem tf110 : TFacts Tryz.prog 110 ⟨1, 8, false, [Value.nilFunc], .fu⟩ := ⟨by kernel_rfl, _, Tryz.underlying110, rfl, ⟨_, _, _, rfl⟩⟩
theorem tf111 : TFacts Tryz.prog 111 ⟨1, 8, false, [Value.nilFunc], .fu⟩ := ⟨by kernel_rfl, _, Tryz.underlying111, rfl, ⟨_, _, _, rfl⟩⟩
theorem tf112 : TFacts Tryz.prog 112 ⟨1, 8, false, [Value.nilFunc], .fu⟩ := ⟨by kernel_rfl, _, Tryz.underlying112, rfl, ⟨_, _, _, rfl⟩⟩
theorem tf113 : TFacts Tryz.prog 113 ⟨1, 24, false, [Value.slice none 0 0], .sl 112⟩ := ⟨by kernel_rfl, _, Tryz.underlying113, rfl, rfl⟩
theorem tf114 : TFacts Tryz.prog 114 ⟨1, 8, false, [Value.map none], .mp 47 35⟩ := ⟨by kernel_rfl, _, Tryz.underlying114, rfl, rfl⟩
theorem tf115 : TFacts Tryz.prog 115 ⟨33, 264, true, [Value.int .i64 0, Value.int .i64 0, Value.int .i64 0, Value.int .i64 0, Value.int .i64 0, Value.int .i64 0, Value.int .i64 0, Value.int .i64 0, Value.int .i64 0, Value.int .i64 0, Value.int .i64 0, Value.int .i64 0, Value.int .i64 0, Value.int .i64 0, Value.int .i64 0, Value.int .i64 0, Value.int .i64 0, Value.int .i64 0, Value.int .i64 0, Value.int .i64 0, Value.int .i64 0, Value.int .i64 0, Value.int .i64 0, Value.int .i64 0, Value.int .i64 0, Value.int .i64 0, Value.int .i64 0, Value.int .i64 0, Value.int .i64 0, Value.int .i64 0, Value.int .i64 0, Value.int .i64 0, Value.int .i64 0], .ar 33 3⟩ := ⟨by kernel_rfl, _, Tryz.underlying115, rfl, rfl⟩
theorem tf116 : TFacts Tryz.prog 116 ⟨34, 272, true, [Value.map none, Value.int .i64 0, Value.int .i64 0, Value.int .i64 0, Value.int .i64 0, Value.int .i64 0, Value.int .i64 0, Value.int .i64 0, Value.int .i64 0, Value.int .i64 0, Value.int .i64 0, Value.int .i64 0, Value.int .i64 0, Value.int .i64 0, Value.int .i64 0, Value.int .i64 0, Value.int .i64 0, Value.int .i64 0, Value.int .i64 0, Value.int .i64 0, Value.int .i64 0, Value.int .i64 0, Value.int .i64 0, Value.int .i64 0, Value.int .i64 0, Value.int .i64 0, Value.int .i64 0, Value.int .i64 0, Value.int .i64 0, Value.int .i64 0, Value.int .i64 0, Value.int .i64 0, Value.int .i64 0, Value.int .i64 0], .st [(0, 114), (1, 115)]⟩ := ⟨by kernel_rfl, _, Tryz.underlying116, rfl, ⟨_, rfl, rfl, by decide⟩⟩
theorem tf117 : TFacts Tryz.prog 117 ⟨34, 272, true, [Value.map none, Value.int .i64 0, Value.int .i64 0, Value.int .i64 0, Value.int .i64 0, Value.int .i64 0, Value.int .i64 0, Value.int .i64 0, Value.int .i64 0, Value.int .i64 0, Value.int .i64 0, Value.int .i64 0, Value.int .i64 0, Value.int .i64 0, Value.int .i64 0, Value.int .i64 0, Value.int .i64 0, Value.int .i64 0, Value.int .i64 0, Value.int .i64 0, Value.int .i64 0, Value.int .i64 0, Value.int .i64 0, Value.int .i64 0, Value.int .i64 0, Value.int .i64 0, Value.int .i64 0, Value.int .i64 0, Value.int .i64 0, Value.int .i64 0, Value.int .i64 0, Value.int .i64 0, Value.int .i64 0, Value.int .i64 0], .st [(0, 114), (1, 115)]⟩ := ⟨by kernel_rfl, _, Tryz.underlying117, rfl, ⟨_, rfl, rfl, by decide⟩⟩
theorem tf118 : TFacts Tryz.prog 118 ⟨1, 8, false, [Value.nilFunc], .fu⟩ := ⟨by kernel_rfl, _, Tryz.underlying118, rfl, ⟨_, _, _, rfl⟩⟩
theorem tf119 : TFacts Tryz.prog 119 ⟨1, 24, false, [Value.slice none 0 0], .sl 47⟩ := ⟨by kernel_rfl, _, Tryz.underlying119, rfl, rfl⟩
theorem tf120 : TFacts Tryz.prog 120 ⟨1, 8, false, [Value.nilFunc], .fu⟩ := ⟨by kernel_rfl, _, Tryz.underlying120, rfl, ⟨_, _, _, rfl⟩⟩
theorem tf121 : TFacts Tryz.prog 121 ⟨1, 8, false, [Value.nilFunc], .fu⟩ := ⟨by kernel_rfl, _, Tryz.underlying121, rfl, ⟨_, _, _, rfl⟩⟩
theorem tf122 : TFacts Tryz.prog 122 ⟨1, 8, false, [Value.nilFunc], .fu⟩ := ⟨by kernel_rfl, _, Tryz.underlying122, rfl, ⟨_, _, _, rfl⟩⟩
theorem tf123 : TFacts Tryz.prog 123 ⟨1, 8, false, [Value.nilFunc], .fu⟩ := ⟨by kernel_rfl, _, Tryz.underlying123, rfl, ⟨_, _, _, rfl⟩⟩
theorem tf124 : TFacts Tryz.prog 124 ⟨1, 8, false, [Value.nilFunc], .fu⟩ := ⟨by kernel_rfl, _, Tryz.underlying124, rfl, ⟨_, _, _, rfl⟩⟩
theorem tf125 : TFacts Tryz.prog 125 ⟨1, 24, false, [Value.slice none 0 0], .sl 3⟩ := ⟨by kernel_rfl, _, Tryz.underlying125, rfl, rfl⟩
theorem tf126 : TFacts Tryz.prog 126 ⟨15, 168, true, [Value.int .i64 0, Value.int .u8 0, Value.string ⟨#[]⟩, Value.string ⟨#[]⟩, Value.int .i64 0, Value.int .i64 0, Value.int .i64 0, Value.int .i64 0, Value.int .i64 0, Value.int .i64 0, Value.slice none 0 0, Value.bool false, Value.slice none 0 0, Value.int .u32 0, Value.int .i64 0], .st [(0, 3), (1, 5), (2, 9), (3, 9), (4, 3), (5, 3), (6, 3), (7, 3), (8, 3), (9, 3), (10, 48), (11, 4), (12, 48), (13, 45), (14, 3)]⟩ := ⟨by kernel_rfl, _, Tryz.underlying126, rfl, ⟨_, rfl, rfl, by decide⟩⟩
theorem tf127 : TFacts Tryz.prog 127 ⟨15, 168, true, [Value.int .i64 0, Value.int .u8 0, Value.string ⟨#[]⟩, Value.string ⟨#[]⟩, Value.int .i64 0, Value.int .i64 0, Value.int .i64 0, Value.int .i64 0, Value.int .i64 0, Value.int .i64 0, Value.slice none 0 0, Value.bool false, Value.slice none 0 0, Value.int .u32 0, Value.int .i64 0], .st [(0, 3), (1, 5), (2, 9), (3, 9), (4, 3), (5, 3), (6, 3), (7, 3), (8, 3), (9, 3), (10, 48), (11, 4), (12, 48), (13, 45), (14, 3)]⟩ := ⟨by kernel_rfl, _, Tryz.underlying127, rfl, ⟨_, rfl, rfl, by decide⟩⟩
theorem tf128 : TFacts Tryz.prog 128 ⟨1, 8, false, [Value.nilFunc], .fu⟩ := ⟨by kernel_rfl, _, Tryz.underlying128, rfl, ⟨_, _, _, rfl⟩⟩
theorem tf129 : TFacts Tryz.prog 129 ⟨1, 8, false, [Value.nilFunc], .fu⟩ := ⟨by kernel_rfl, _, Tryz.underlying129, rfl, ⟨_, _, _, rfl⟩⟩
theorem tf130 : TFacts Tryz.prog 130 ⟨1, 8, false, [Value.nilFunc], .fu⟩ := ⟨by kernel_rfl, _, Tryz.underlying130, rfl, ⟨_, _, _, rfl⟩⟩
theorem tf131 : TFacts Tryz.prog 131 ⟨1, 8, false, [Value.nilFunc], .fu⟩ := ⟨by kernel_rfl, _, Tryz.underlying131, rfl, ⟨_, _, _, rfl⟩⟩
theorem tf132 : TFacts Tryz.prog 132 ⟨1, 8, false, [Value.nilFunc], .fu⟩ := ⟨by kernel_rfl, _, Tryz.underlying132, rfl, ⟨_, _, _, rfl⟩⟩
theorem tf133 : TFacts Tryz.prog 133 ⟨1, 8, false, [Value.nilFunc], .fu⟩ := ⟨by kernel_rfl, _, Tryz.underlying133, rfl, ⟨_, _, _, rfl⟩⟩
theorem tf134 : TFacts Tryz.prog 134 ⟨1, 8, false, [Value.nilFunc], .fu⟩ := ⟨by kernel_rfl, _, Tryz.underlying134, rfl, ⟨_, _, _, rfl⟩⟩
theorem tf135 : TFacts Tryz.prog 135 ⟨1, 8, false, [Value.nilFunc], .fu⟩ := ⟨by kernel_rfl, _, Tryz.underlying135, rfl, ⟨_, _, _, rfl⟩⟩
theorem tf136 : TFacts Tryz.prog 136 ⟨1, 8, false, [Value.nilFunc], .fu⟩ := ⟨by kernel_rfl, _, Tryz.underlying136, rfl, ⟨_, _, _, rfl⟩⟩
theorem tf137 : TFacts Tryz.prog 137 ⟨1, 8, false, [Value.int .i64 0], .it .i64⟩ := ⟨by kernel_rfl, _, Tryz.underlying137, rfl, rfl⟩
theorem tf139 : TFacts Tryz.prog 139 ⟨1, 8, false, [Value.nilFunc], .fu⟩ := ⟨by kernel_rfl, _, Tryz.underlying139, rfl, ⟨_, _, _, rfl⟩⟩
theorem tf140 : TFacts Tryz.prog 140 ⟨1, 8, false, [Value.nilFunc], .fu⟩ := ⟨by kernel_rfl, _, Tryz.underlying140, rfl, ⟨_, _, _, rfl⟩⟩
theorem tf141 : TFacts Tryz.prog 141 ⟨1, 8, false, [Value.nilFunc], .fu⟩ := ⟨by kernel_rfl, _, Tryz.underlying141, rfl, ⟨_, _, _, rfl⟩⟩
theorem tf142 : TFacts Tryz.prog 142 ⟨1, 8, false, [Value.nilFunc], .fu⟩ := ⟨by kernel_rfl, _, Tryz.underlying142, rfl, ⟨_, _, _, rfl⟩⟩
theorem tf143 : TFacts Tryz.prog 143 ⟨1, 8, false, [Value.nilFunc], .fu⟩ := ⟨by kernel_rfl, _, Tryz.underlying143, rfl, ⟨_, _, _, rfl⟩⟩
theorem tf144 : TFacts Tryz.prog 144 ⟨1, 8, false, [Value.nilFunc], .fu⟩ := ⟨by kernel_rfl, _, Tryz.underlying144, rfl, ⟨_, _, _, rfl⟩⟩
theorem tf145 : TFacts Tryz.prog 145 ⟨1, 8, false, [Value.int .u64 0], .it .u64⟩ := ⟨by kernel_rfl, _, Tryz.underlying145, rfl, rfl⟩
theorem tf146 : TFacts Tryz.prog 146 ⟨1, 8, false, [Value.nilFunc], .fu⟩ := ⟨by kernel_rfl, _, Tryz.underlying146, rfl, ⟨_, _, _, rfl⟩⟩
theorem tf147 : TFacts Tryz.prog 147 ⟨1, 8, false, [Value.nilFunc], .fu⟩ := ⟨by kernel_rfl, _, Tryz.underlying147, rfl, ⟨_, _, _, rfl⟩⟩
theorem tf149 : TFacts Tryz.prog 149 ⟨1, 8, false, [Value.nilFunc], .fu⟩ := ⟨by kernel_rfl, _, Tryz.underlying149, rfl, ⟨_, _, _, rfl⟩⟩
theorem tf150 : TFacts Tryz.prog 150 ⟨1, 24, false, [Value.slice none 0 0], .sl 181⟩ := ⟨by kernel_rfl, _, Tryz.underlying150, rfl, rfl⟩
theorem tf151 : TFacts Tryz.prog 151 ⟨2, 40, true, [Value.string ⟨#[]⟩, Value.slice none 0 0], .st [(0, 9), (1, 150)]⟩ := ⟨by kernel_rfl, _, Tryz.underlying151, rfl, ⟨_, rfl, rfl, by decide⟩⟩
theorem tf152 : TFacts Tryz.prog 152 ⟨2, 40, true, [Value.string ⟨#[]⟩, Value.slice none 0 0], .st [(0, 9), (1, 150)]⟩ := ⟨by kernel_rfl, _, Tryz.underlying152, rfl, ⟨_, rfl, rfl, by decide⟩⟩
theorem tf153 : TFacts Tryz.prog 153 ⟨1, 8, false, [Value.nilFunc], .fu⟩ := ⟨by kernel_rfl, _, Tryz.underlying153, rfl, ⟨_, _, _, rfl⟩⟩
theorem tf154 : TFacts Tryz.prog 154 ⟨1, 24, false, [Value.slice none 0 0], .sl 184⟩ := ⟨by kernel_rfl, _, Tryz.underlying154, rfl, rfl⟩
theorem tf155 : TFacts Tryz.prog 155 ⟨2, 40, true, [Value.string ⟨#[]⟩, Value.slice none 0 0], .st [(0, 9), (1, 154)]⟩ := ⟨by kernel_rfl, _, Tryz.underlying155, rfl, ⟨_, rfl, rfl, by decide⟩⟩
theorem tf156 : TFacts Tryz.prog 156 ⟨2, 40, true, [Value.string ⟨#[]⟩, Value.slice none 0 0], .st [(0, 9), (1, 154)]⟩ := ⟨by kernel_rfl, _, Tryz.underlying156, rfl, ⟨_, rfl, rfl, by decide⟩⟩
theorem tf157 : TFacts Tryz.prog 157 ⟨1, 8, false, [Value.nilFunc], .fu⟩ := ⟨by kernel_rfl, _, Tryz.underlying157, rfl, ⟨_, _, _, rfl⟩⟩
theorem tf158 : TFacts Tryz.prog 158 ⟨1, 8, false, [Value.nilFunc], .fu⟩ := ⟨by kernel_rfl, _, Tryz.underlying158, rfl, ⟨_, _, _, rfl⟩⟩
theorem tf159 : TFacts Tryz.prog 159 ⟨1, 8, false, [Value.nilFunc], .fu⟩ := ⟨by kernel_rfl, _, Tryz.underlying159, rfl, ⟨_, _, _, rfl⟩⟩
theorem tf160 : TFacts Tryz.prog 160 ⟨1, 8, false, [Value.nilFunc], .fu⟩ := ⟨by kernel_rfl, _, Tryz.underlying160, rfl, ⟨_, _, _, rfl⟩⟩
theorem tf161 : TFacts Tryz.prog 161 ⟨1, 8, false, [Value.nilFunc], .fu⟩ := ⟨by kernel_rfl, _, Tryz.underlying161, rfl, ⟨_, _, _, rfl⟩⟩
theorem tf162 : TFacts Tryz.prog 162 ⟨1, 8, false, [Value.nilFunc], .fu⟩ := ⟨by kernel_rfl, _, Tryz.underlying162, rfl, ⟨_, _, _, rfl⟩⟩
theorem tf163 : TFacts Tryz.prog 163 ⟨1, 8, false, [Value.nilFunc], .fu⟩ := ⟨by kernel_rfl, _, Tryz.underlying163, rfl, ⟨_, _, _, rfl⟩⟩
theorem tf164 : TFacts Tryz.prog 164 ⟨1, 8, false, [Value.nilFunc], .fu⟩ := ⟨by kernel_rfl, _, Tryz.underlying164, rfl, ⟨_, _, _, rfl⟩⟩
theorem tf165 : TFacts Tryz.prog 165 ⟨1, 24, false, [Value.slice none 0 0], .sl 36⟩ := ⟨by kernel_rfl, _, Tryz.underlying165, rfl, rfl⟩
theorem tf166 : TFacts Tryz.prog 166 ⟨1, 8, false, [Value.nilFunc], .fu⟩ := ⟨by kernel_rfl, _, Tryz.underlying166, rfl, ⟨_, _, _, rfl⟩⟩
theorem tf167 : TFacts Tryz.prog 167 ⟨1, 8, false, [Value.nilFunc], .fu⟩ := ⟨by kernel_rfl, _, Tryz.underlying167, rfl, ⟨_, _, _, rfl⟩⟩
theorem tf168 : TFacts Tryz.prog 168 ⟨1, 8, false, [Value.nilFunc], .fu⟩ := ⟨by kernel_rfl, _, Tryz.underlying168, rfl, ⟨_, _, _, rfl⟩⟩
theorem tf169 : TFacts Tryz.prog 169 ⟨1, 8, false, [Value.nilFunc], .fu⟩ := ⟨by kernel_rfl, _, Tryz.underlying169, rfl, ⟨_, _, _, rfl⟩⟩
theorem tf170 : TFacts Tryz.prog 170 ⟨1, 8, false, [Value.nilFunc], .fu⟩ := ⟨by kernel_rfl, _, Tryz.underlying170, rfl, ⟨_, _, _, rfl⟩⟩
theorem tf171 : TFacts Tryz.prog 171 ⟨1, 8, false, [Value.nilFunc], .fu⟩ := ⟨by kernel_rfl, _, Tryz.underlying171, rfl, ⟨_, _, _, rfl⟩⟩
theorem tf172 : TFacts Tryz.prog 172 ⟨1, 8, false, [Value.nilFunc], .fu⟩ := ⟨by kernel_rfl, _, Tryz.underlying172, rfl, ⟨_, _, _, rfl⟩⟩
theorem tf173 : TFacts Tryz.prog 173 ⟨1, 8, false, [Value.int .u64 0], .it .u64⟩ := ⟨by kernel_rfl, _, Tryz.underlying173, rfl, rfl⟩
theorem tf174 : TFacts Tryz.prog 174 ⟨1, 8, false, [Value.nilFunc], .fu⟩ := ⟨by kernel_rfl, _, Tryz.underlying174, rfl, ⟨_, _, _, rfl⟩⟩
theorem tf175 : TFacts Tryz.prog 175 ⟨1, 8, false, [Value.nilFunc], .fu⟩ := ⟨by kernel_rfl, _, Tryz.underlying175, rfl, ⟨_, _, _, rfl⟩⟩
theorem tf176 : TFacts Tryz.prog 176 ⟨1, 8, false, [Value.nilFunc], .fu⟩ := ⟨by kernel_rfl, _, Tryz.underlying176, rfl, ⟨_, _, _, rfl⟩⟩
theorem tf177 : TFacts Tryz.prog 177 ⟨1, 8, false, [Value.pointer none], .pt 3⟩ := ⟨by kernel_rfl, _, Tryz.underlying177, rfl, rfl⟩
theorem tf178 : TFacts Tryz.prog 178 ⟨1, 8, false, [Value.nilFunc], .fu⟩ := ⟨by kernel_rfl, _, Tryz.underlying178, rfl, ⟨_, _, _, rfl⟩⟩
theorem tf179 : TFacts Tryz.prog 179 ⟨1, 8, false, [Value.nilFunc], .fu⟩ := ⟨by kernel_rfl, _, Tryz.underlying179, rfl, ⟨_, _, _, rfl⟩⟩
theorem tf180 : TFacts Tryz.prog 180 ⟨5, 40, true, [Value.bool false, Value.int .u32 0, Value.int .i64 0, Value.int .i64 0, Value.int .i64 0], .st [(0, 4), (1, 47), (3, 3), (4, 3)]⟩ := ⟨by kernel_rfl, _, Tryz.underlying180, rfl, ⟨_, rfl, rfl, by decide⟩⟩
theorem tf181 : TFacts Tryz.prog 181 ⟨5, 40, true, [Value.bool false, Value.int .u32 0, Value.int .i64 0, Value.int .i64 0, Value.int .i64 0], .st [(0, 4), (1, 47), (3, 3), (4, 3)]⟩ := ⟨by kernel_rfl, _, Tryz.underlying181, rfl, ⟨_, rfl, rfl, by decide⟩⟩
theorem tf182 : TFacts Tryz.prog 182 ⟨1, 8, false, [Value.nilFunc], .fu⟩ := ⟨by kernel_rfl, _, Tryz.underlying182, rfl, ⟨_, _, _, rfl⟩⟩
theorem tf183 : TFacts Tryz.prog 183 ⟨2, 32, true, [Value.bool false, Value.slice none 0 0], .st [(0, 4), (1, 48)]⟩ := ⟨by kernel_rfl, _, Tryz.underlying183, rfl, ⟨_, rfl, rfl, by decide⟩⟩
theorem tf184 : TFacts Tryz.prog 184 ⟨2, 32, true, [Value.bool false, Value.slice none 0 0], .st [(0, 4), (1, 48)]⟩ := ⟨by kernel_rfl, _, Tryz.underlying184, rfl, ⟨_, rfl, rfl, by decide⟩⟩
theorem tf185 : TFacts Tryz.prog 185 ⟨1, 8, false, [Value.nilFunc], .fu⟩ := ⟨by kernel_rfl, _, Tryz.underlying185, rfl, ⟨_, _, _, rfl⟩⟩
theorem tf186 : TFacts Tryz.prog 186 ⟨1, 8, false, [Value.nilFunc], .fu⟩ := ⟨by kernel_rfl, _, Tryz.underlying186, rfl, ⟨_, _, _, rfl⟩⟩
theorem tf187 : TFacts Tryz.prog 187 ⟨1, 8, false, [Value.nilFunc], .fu⟩ := ⟨by kernel_rfl, _, Tryz.underlying187, rfl, ⟨_, _, _, rfl⟩⟩
theorem tf188 : TFacts Tryz.prog 188 ⟨1, 8, false, [Value.nilFunc], .fu⟩ := ⟨by kernel_rfl, _, Tryz.underlying188, rfl, ⟨_, _, _, rfl⟩⟩
theorem tf189 : TFacts Tryz.prog 189 ⟨1, 8, false, [Value.nilFunc], .fu⟩ := ⟨by kernel_rfl, _, Tryz.underlying189, rfl, ⟨_, _, _, rfl⟩⟩
theorem tf190 : TFacts Tryz.prog 190 ⟨1, 8, false, [Value.nilFunc], .fu⟩ := ⟨by kernel_rfl, _, Tryz.underlying190, rfl, ⟨_, _, _, rfl⟩⟩
theorem tf191 : TFacts Tryz.prog 191 ⟨1, 8, false, [Value.nilFunc], .fu⟩ := ⟨by kernel_rfl, _, Tryz.underlying191, rfl, ⟨_, _, _, rfl⟩⟩
theorem tf192 : TFacts Tryz.prog 192 ⟨1, 8, false, [Value.nilFunc], .fu⟩ := ⟨by kernel_rfl, _, Tryz.underlying192, rfl, ⟨_, _, _, rfl⟩⟩
theorem tf193 : TFacts Tryz.prog 193 ⟨1, 8, false, [Value.pointer none], .pt 173⟩ := ⟨by kernel_rfl, _, Tryz.underlying193, rfl, rfl⟩
theorem tf195 : TFacts Tryz.prog 195 ⟨1, 8, false, [Value.nilFunc], .fu⟩ := ⟨by kernel_rfl, _, Tryz.underlying195, rfl, ⟨_, _, _, rfl⟩⟩
theorem tf196 : TFacts Tryz.prog 196 ⟨1, 8, false, [Value.nilFunc], .fu⟩ := ⟨by kernel_rfl, _, Tryz.underlying196, rfl, ⟨_, _, _, rfl⟩⟩
theorem tf197 : TFacts Tryz.prog 197 ⟨1, 8, false, [Value.nilFunc], .fu⟩ := ⟨by kernel_rfl, _, Tryz.underlying197, rfl, ⟨_, _, _, rfl⟩⟩
theorem tf198 : TFacts Tryz.prog 198 ⟨1, 8, false, [Value.nilFunc], .fu⟩ := ⟨by kernel_rfl, _, Tryz.underlying198, rfl, ⟨_, _, _, rfl⟩⟩
theorem tf199 : TFacts Tryz.prog 199 ⟨1, 8, false, [Value.nilFunc], .fu⟩ := ⟨by kernel_rfl, _, Tryz.underlying199, rfl, ⟨_, _, _, rfl⟩⟩
theorem tf200 : TFacts Tryz.prog 200 ⟨1, 8, false, [Value.nilFunc], .fu⟩ := ⟨by kernel_rfl, _, Tryz.underlying200, rfl, ⟨_, _, _, rfl⟩⟩
theorem tf201 : TFacts Tryz.prog 201 ⟨1, 24, false, [Value.slice none 0 0], .sl 48⟩ := ⟨by kernel_rfl, _, Tryz.underlying201, rfl, rfl⟩
theorem tf202 : TFacts Tryz.prog 202 ⟨1, 8, false, [Value.nilFunc], .fu⟩ := ⟨by kernel_rfl, _, Tryz.underlying202, rfl, ⟨_, _, _, rfl⟩⟩
theorem tf203 : TFacts Tryz.prog 203 ⟨1, 8, false, [Value.nilFunc], .fu⟩ := ⟨by kernel_rfl, _, Tryz.underlying203, rfl, ⟨_, _, _, rfl⟩⟩
theorem tf204 : TFacts Tryz.prog 204 ⟨1, 8, false, [Value.nilFunc], .fu⟩ := ⟨by kernel_rfl, _, Tryz.underlying204, rfl, ⟨_, _, _, rfl⟩⟩
theorem tf205 : TFacts Tryz.prog 205 ⟨1, 8, false, [Value.nilFunc], .fu⟩ := ⟨by kernel_rfl, _, Tryz.underlying205, rfl, ⟨_, _, _, rfl⟩⟩
theorem tf206 : TFacts Tryz.prog 206 ⟨1, 8, false, [Value.nilFunc], .fu⟩ := ⟨by kernel_rfl, _, Tryz.underlying206, rfl, ⟨_, _, _, rfl⟩⟩
theorem tf207 : TFacts Tryz.prog 207 ⟨1, 8, false, [Value.nilFunc], .fu⟩ := ⟨by kernel_rfl, _, Tryz.underlying207, rfl, ⟨_, _, _, rfl⟩⟩
theorem tf208 : TFacts Tryz.prog 208 ⟨1, 8, false, [Value.nilFunc], .fu⟩ := ⟨by kernel_rfl, _, Tryz.underlying208, rfl, ⟨_, _, _, rfl⟩⟩
theorem tf209 : TFacts Tryz.prog 209 ⟨1, 8, false, [Value.nilFunc], .fu⟩ := ⟨by kernel_rfl, _, Tryz.underlying209, rfl, ⟨_, _, _, rfl⟩⟩
theorem tf210 : TFacts Tryz.prog 210 ⟨1, 8, false, [Value.nilFunc], .fu⟩ := ⟨by kernel_rfl, _, Tryz.underlying210, rfl, ⟨_, _, _, rfl⟩⟩
theorem tf211 : TFacts Tryz.prog 211 ⟨1, 8, false, [Value.nilFunc], .fu⟩ := ⟨by kernel_rfl, _, Tryz.underlying211, rfl, ⟨_, _, _, rfl⟩⟩
theorem tf212 : TFacts Tryz.prog 212 ⟨1, 8, false, [Value.nilFunc], .fu⟩ := ⟨by kernel_rfl, _, Tryz.underlying212, rfl, ⟨_, _, _, rfl⟩⟩
theorem tf213 : TFacts Tryz.prog 213 ⟨1, 8, false, [Value.nilFunc], .fu⟩ := ⟨by kernel_rfl, _, Tryz.underlying213, rfl, ⟨_, _, _, rfl⟩⟩
theorem tf214 : TFacts Tryz.prog 214 ⟨1, 8, false, [Value.nilFunc], .fu⟩ := ⟨by kernel_rfl, _, Tryz.underlying214, rfl, ⟨_, _, _, rfl⟩⟩
theorem tf215 : TFacts Tryz.prog 215 ⟨1, 8, false, [Value.nilFunc], .fu⟩ := ⟨by kernel_rfl, _, Tryz.underlying215, rfl, ⟨_, _, _, rfl⟩⟩
theorem tf216 : TFacts Tryz.prog 216 ⟨1, 8, false, [Value.nilFunc], .fu⟩ := ⟨by kernel_rfl, _, Tryz.underlying216, rfl, ⟨_, _, _, rfl⟩⟩
theorem tf217 : TFacts Tryz.prog 217 ⟨1, 8, false, [Value.nilFunc], .fu⟩ := ⟨by kernel_rfl, _, Tryz.underlying217, rfl, ⟨_, _, _, rfl⟩⟩
theorem tf218 : TFacts Tryz.prog 218 ⟨1, 8, false, [Value.nilFunc], .fu⟩ := ⟨by kernel_rfl, _, Tryz.underlying218, rfl, ⟨_, _, _, rfl⟩⟩
theorem tf219 : TFacts Tryz.prog 219 ⟨1, 8, false, [Value.nilFunc], .fu⟩ := ⟨by kernel_rfl, _, Tryz.underlying219, rfl, ⟨_, _, _, rfl⟩⟩
theorem tf220 : TFacts Tryz.prog 220 ⟨1, 8, false, [Value.nilFunc], .fu⟩ := ⟨by kernel_rfl, _, Tryz.underlying220, rfl, ⟨_, _, _, rfl⟩⟩
theorem tf226 : TFacts Tryz.prog 226 ⟨1, 8, false, [Value.nilFunc], .fu⟩ := ⟨by kernel_rfl, _, Tryz.underlying226, rfl, ⟨_, _, _, rfl⟩⟩
theorem tf229 : TFacts Tryz.prog 229 ⟨1, 8, false, [Value.nilFunc], .fu⟩ := ⟨by kernel_rfl, _, Tryz.underlying229, rfl, ⟨_, _, _, rfl⟩⟩
theorem tf230 : TFacts Tryz.prog 230 ⟨1, 8, false, [Value.pointer none], .pt 5⟩ := ⟨by kernel_rfl, _, Tryz.underlying230, rfl, rfl⟩
theorem tf235 : TFacts Tryz.prog 235 ⟨11, 120, true, [Value.string ⟨#[]⟩, Value.string ⟨#[]⟩, Value.int .u32 0, Value.int .i64 0, Value.bool false, Value.string ⟨#[]⟩, Value.string ⟨#[]⟩, Value.int .u8 0, Value.int .i64 0, Value.int .i64 0, Value.bool false], .st [(0, 9), (1, 9), (2, 45), (3, 3), (4, 4), (5, 9), (6, 9), (7, 5), (8, 3), (9, 3), (10, 4)]⟩ := ⟨by kernel_rfl, _, Tryz.underlying235, rfl, ⟨_, rfl, rfl, by decide⟩⟩
theorem tf236 : TFacts Tryz.prog 236 ⟨11, 120, true, [Value.string ⟨#[]⟩, Value.string ⟨#[]⟩, Value.int .u32 0, Value.int .i64 0, Value.bool false, Value.string ⟨#[]⟩, Value.string ⟨#[]⟩, Value.int .u8 0, Value.int .i64 0, Value.int .i64 0, Value.bool false], .st [(0, 9), (1, 9), (2, 45), (3, 3), (4, 4), (5, 9), (6, 9), (7, 5), (8, 3), (9, 3), (10, 4)]⟩ := ⟨by kernel_rfl, _, Tryz.underlying236, rfl, ⟨_, rfl, rfl, by decide⟩⟩
theorem tf237 : TFacts Tryz.prog 237 ⟨1, 24, false, [Value.slice none 0 0], .sl 253⟩ := ⟨by kernel_rfl, _, Tryz.underlying237, rfl, rfl⟩
theorem tf238 : TFacts Tryz.prog 238 ⟨2, 40, true, [Value.string ⟨#[]⟩, Value.slice none 0 0], .st [(0, 9), (1, 237)]⟩ := ⟨by kernel_rfl, _, Tryz.underlying238, rfl, ⟨_, rfl, rfl, by decide⟩⟩
theorem tf239 : TFacts Tryz.prog 239 ⟨2, 40, true, [Value.string ⟨#[]⟩, Value.slice none 0 0], .st [(0, 9), (1, 237)]⟩ := ⟨by kernel_rfl, _, Tryz.underlying239, rfl, ⟨_, rfl, rfl, by decide⟩⟩
theorem tf240 : TFacts Tryz.prog 240 ⟨3, 32, true, [Value.bool false, Value.string ⟨#[]⟩, Value.int .u32 0], .st [(0, 4), (1, 9), (2, 45)]⟩ := ⟨by kernel_rfl, _, Tryz.underlying240, rfl, ⟨_, rfl, rfl, by decide⟩⟩
theorem tf241 : TFacts Tryz.prog 241 ⟨3, 32, true, [Value.bool false, Value.string ⟨#[]⟩, Value.int .u32 0], .st [(0, 4), (1, 9), (2, 45)]⟩ := ⟨by kernel_rfl, _, Tryz.underlying241, rfl, ⟨_, rfl, rfl, by decide⟩⟩
theorem tf242 : TFacts Tryz.prog 242 ⟨7, 56, true, [Value.string ⟨#[]⟩, Value.int .u32 0, Value.int .i64 0, Value.int .u32 0, Value.bool false, Value.int .i64 0, Value.int .i64 0], .st [(0, 9), (1, 47), (3, 45), (4, 4), (5, 3), (6, 3)]⟩ := ⟨by kernel_rfl, _, Tryz.underlying242, rfl, ⟨_, rfl, rfl, by decide⟩⟩
theorem tf243 : TFacts Tryz.prog 243 ⟨7, 56, true, [Value.string ⟨#[]⟩, Value.int .u32 0, Value.int .i64 0, Value.int .u32 0, Value.bool false, Value.int .i64 0, Value.int .i64 0], .st [(0, 9), (1, 47), (3, 45), (4, 4), (5, 3), (6, 3)]⟩ := ⟨by kernel_rfl, _, Tryz.underlying243, rfl, ⟨_, rfl, rfl, by decide⟩⟩
theorem tf244 : TFacts Tryz.prog 244 ⟨3, 48, true, [Value.string ⟨#[]⟩, Value.int .u32 0, Value.slice none 0 0], .st [(0, 9), (1, 45), (2, 34)]⟩ := ⟨by kernel_rfl, _, Tryz.underlying244, rfl, ⟨_, rfl, rfl, by decide⟩⟩
theorem tf245 : TFacts Tryz.prog 245 ⟨3, 48, true, [Value.string ⟨#[]⟩, Value.int .u32 0, Value.slice none 0 0], .st [(0, 9), (1, 45), (2, 34)]⟩ := ⟨by kernel_rfl, _, Tryz.underlying245, rfl, ⟨_, rfl, rfl, by decide⟩⟩
theorem tf246 : TFacts Tryz.prog 246 ⟨1, 24, false, [Value.slice none 0 0], .sl 255⟩ := ⟨by kernel_rfl, _, Tryz.underlying246, rfl, rfl⟩
theorem tf247 : TFacts Tryz.prog 247 ⟨6, 96, true, [Value.string ⟨#[]⟩, Value.int .u32 0, Value.int .u32 0, Value.slice none 0 0, Value.slice none 0 0, Value.slice none 0 0], .st [(0, 9), (1, 44), (2, 45), (3, 119), (4, 246), (5, 34)]⟩ := ⟨by kernel_rfl, _, Tryz.underlying247, rfl, ⟨_, rfl, rfl, by decide⟩⟩
theorem tf248 : TFacts Tryz.prog 248 ⟨6, 96, true, [Value.string ⟨#[]⟩, Value.int .u32 0, Value.int .u32 0, Value.slice none 0 0, Value.slice none 0 0, Value.slice none 0 0], .st [(0, 9), (1, 44), (2, 45), (3, 119), (4, 246), (5, 34)]⟩ := ⟨by kernel_rfl, _, Tryz.underlying248, rfl, ⟨_, rfl, rfl, by decide⟩⟩
theorem tf250 : TFacts Tryz.prog 250 ⟨2, 8, true, [Value.int .u32 0, Value.int .u32 0], .st [(0, 44), (1, 44)]⟩ := ⟨by kernel_rfl, _, Tryz.underlying250, rfl, ⟨_, rfl, rfl, by decide⟩⟩
theorem tf251 : TFacts Tryz.prog 251 ⟨2, 8, true, [Value.int .u32 0, Value.int .u32 0], .st [(0, 44), (1, 44)]⟩ := ⟨by kernel_rfl, _, Tryz.underlying251, rfl, ⟨_, rfl, rfl, by decide⟩⟩
theorem tf252 : TFacts Tryz.prog 252 ⟨10, 64, true, [Value.bool false, Value.int .i64 0, Value.int .u32 0, Value.int .i64 0, Value.int .u32 0, Value.int .i64 0, Value.int .u32 0, Value.int .u32 0, Value.int .u32 0, Value.int .u32 0], .st [(0, 4), (1, 3), (2, 47), (4, 47), (6, 251), (8, 251)]⟩ := ⟨by kernel_rfl, _, Tryz.underlying252, rfl, ⟨_, rfl, rfl, by decide⟩⟩
theorem tf253 : TFacts Tryz.prog 253 ⟨10, 64, true, [Value.bool false, Value.int .i64 0, Value.int .u32 0, Value.int .i64 0, Value.int .u32 0, Value.int .i64 0, Value.int .u32 0, Value.int .u32 0, Value.int .u32 0, Value.int .u32 0], .st [(0, 4), (1, 3), (2, 47), (4, 47), (6, 251), (8, 251)]⟩ := ⟨by kernel_rfl, _, Tryz.underlying253, rfl, ⟨_, rfl, rfl, by decide⟩⟩
theorem tf254 : TFacts Tryz.prog 254 ⟨6, 48, true, [Value.int .u32 0, Value.int .u32 0, Value.string ⟨#[]⟩, Value.string ⟨#[]⟩, Value.bool false, Value.bool false], .st [(0, 45), (1, 44), (2, 9), (3, 9), (4, 4), (5, 4)]⟩ := ⟨by kernel_rfl, _, Tryz.underlying254, rfl, ⟨_, rfl, rfl, by decide⟩⟩
theorem tf255 : TFacts Tryz.prog 255 ⟨6, 48, true, [Value.int .u32 0, Value.int .u32 0, Value.string ⟨#[]⟩, Value.string ⟨#[]⟩, Value.bool false, Value.bool false], .st [(0, 45), (1, 44), (2, 9), (3, 9), (4, 4), (5, 4)]⟩ := ⟨by kernel_rfl, _, Tryz.underlying255, rfl, ⟨_, rfl, rfl, by decide⟩⟩
set_option maxRecDepth 100000 in
theorem za : TabOk Tryz.prog tab := (.node tf133 (.node tf71 (.node tf41 (.node tf27 (.node tf12 (.node tf4 (.node tf2 (.node tf1 (.leaf _) (.leaf _)) (.node tf3 (.leaf _) (.leaf _))) (.node tf9 (.node tf5 (.leaf _) (.leaf _)) (.leaf _))) (.node tf24 (.node tf22 (.node tf21 (.leaf _) (.leaf _)) (.node tf23 (.leaf _) (.leaf _))) (.node tf26 (.node tf25 (.leaf _) (.leaf _)) (.leaf _)))) (.node tf34 (.node tf31 (.node tf29 (.node tf28 (.leaf _) (.leaf _)) (.node tf30 (.leaf _) (.leaf _))) (.node tf33 (.node tf32 (.leaf _) (.leaf _)) (.leaf _))) (.node tf37 (.node tf36 (.node tf35 (.leaf _) (.leaf _)) (.leaf _)) (.node tf40 (.node tf38 (.leaf _) (.leaf _)) (.leaf _))))) (.node tf56 (.node tf49 (.node tf46 (.node tf44 (.node tf43 (.leaf _) (.leaf _)) (.node tf45 (.leaf _) (.leaf _))) (.node tf48 (.node tf47 (.leaf _) (.leaf _)) (.leaf _))) (.node tf53 (.node tf51 (.node tf50 (.leaf _) (.leaf _)) (.node tf52 (.leaf _) (.leaf _))) (.node tf55 (.node tf54 (.leaf _) (.leaf _)) (.leaf _)))) (.node tf64 (.node tf60 (.node tf58 (.node tf57 (.leaf _) (.leaf _)) (.node tf59 (.leaf _) (.leaf _))) (.node tf63 (.node tf62 (.leaf _) (.leaf _)) (.leaf _))) (.node tf68 (.node tf67 (.node tf65 (.leaf _) (.leaf _)) (.leaf _)) (.node tf70 (.node tf69 (.leaf _) (.leaf _)) (.leaf _)))))) (.node tf106 (.node tf90 (.node tf80 (.node tf77 (.node tf74 (.node tf73 (.leaf _) (.leaf _)) (.node tf75 (.leaf _) (.leaf _))) (.node tf79 (.node tf78 (.leaf _) (.leaf _)) (.leaf _))) (.node tf85 (.node tf83 (.node tf81 (.leaf _) (.leaf _)) (.node tf84 (.leaf _) (.leaf _))) (.node tf88 (.node tf87 (.leaf _) (.leaf _)) (.leaf _)))) (.node tf98 (.node tf94 (.node tf92 (.node tf91 (.leaf _) (.leaf _)) (.node tf93 (.leaf _) (.leaf _))) (.node tf96 (.node tf95 (.leaf _) (.leaf _)) (.leaf _))) (.node tf102 (.node tf100 (.node tf99 (.leaf _) (.leaf _)) (.leaf _)) (.node tf105 (.node tf104 (.leaf _) (.leaf _)) (.leaf _))))) (.node tf120 (.node tf113 (.node tf110 (.node tf108 (.node tf107 (.leaf _) (.leaf _)) (.node tf109 (.leaf _) (.leaf _))) (.node tf112 (.node tf111 (.leaf _) (.leaf _)) (.leaf _))) (.node tf117 (.node tf115 (.node tf114 (.leaf _) (.leaf _)) (.node tf116 (.leaf _) (.leaf _))) (.node tf119 (.node tf118 (.leaf _) (.leaf _)) (.leaf _)))) (.node tf127 (.node tf124 (.node tf122 (.node tf121 (.leaf _) (.leaf _)) (.node tf123 (.leaf _) (.leaf _))) (.node tf126 (.node tf125 (.leaf _) (.leaf _)) (.leaf _))) (.node tf130 (.node tf129 (.node tf128 (.leaf _) (.leaf _)) (.leaf _)) (.node tf132 (.node tf131 (.leaf _) (.leaf _)) (.leaf _))))))) (.node tf189 (.node tf162 (.node tf149 (.node tf141 (.node tf137 (.node tf135 (.node tf134 (.leaf _) (.leaf _)) (.node tf136 (.leaf _) (.leaf _))) (.node tf140 (.node tf139 (.leaf _) (.leaf _)) (.leaf _))) (.node tf145 (.node tf143 (.node tf142 (.leaf _) (.leaf _)) (.node tf144 (.leaf _) (.leaf _))) (.node tf147 (.node tf146 (.leaf _) (.leaf _)) (.leaf _)))) (.node tf156 (.node tf153 (.node tf151 (.node tf150 (.leaf _) (.leaf _)) (.node tf152 (.leaf _) (.leaf _))) (.node tf155 (.node tf154 (.leaf _) (.leaf _)) (.leaf _))) (.node tf159 (.node tf158 (.node tf157 (.leaf _) (.leaf _)) (.leaf _)) (.node tf161 (.node tf160 (.leaf _) (.leaf _)) (.leaf _))))) (.node tf176 (.node tf169 (.node tf166 (.node tf164 (.node tf163 (.leaf _) (.leaf _)) (.node tf165 (.leaf _) (.leaf _))) (.node tf168 (.node tf167 (.leaf _) (.leaf _)) (.leaf _))) (.node tf173 (.node tf171 (.node tf170 (.leaf _) (.leaf _)) (.node tf172 (.leaf _) (.leaf _))) (.node tf175 (.node tf174 (.leaf _) (.leaf _)) (.leaf _)))) (.node tf183 (.node tf180 (.node tf178 (.node tf177 (.leaf _) (.leaf _)) (.node tf179 (.leaf _) (.leaf _))) (.node tf182 (.node tf181 (.leaf _) (.leaf _)) (.leaf _))) (.node tf186 (.node tf185 (.node tf184 (.leaf _) (.leaf _)) (.leaf _)) (.node tf188 (.node tf187 (.leaf _) (.leaf _)) (.leaf _)))))) (.node tf217 (.node tf204 (.node tf197 (.node tf193 (.node tf191 (.node tf190 (.leaf _) (.leaf _)) (.node tf192 (.leaf _) (.leaf _))) (.node tf196 (.node tf195 (.leaf _) (.leaf _)) (.leaf _))) (.node tf201 (.node tf199 (.node tf198 (.leaf _) (.leaf _)) (.node tf200 (.leaf _) (.leaf _))) (.node tf203 (.node tf202 (.leaf _) (.leaf _)) (.leaf _)))) (.node tf211 (.node tf208 (.node tf206 (.node tf205 (.leaf _) (.leaf _)) (.node tf207 (.leaf _) (.leaf _))) (.node tf210 (.node tf209 (.leaf _) (.leaf _)) (.leaf _))) (.node tf214 (.node tf213 (.node tf212 (.leaf _) (.leaf _)) (.leaf _)) (.node tf216 (.node tf215 (.leaf _) (.leaf _)) (.leaf _))))) (.node tf242 (.node tf235 (.node tf226 (.node tf219 (.node tf218 (.leaf _) (.leaf _)) (.node tf220 (.leaf _) (.leaf _))) (.node tf230 (.node tf229 (.leaf _) (.leaf _)) (.leaf _))) (.node tf239 (.node tf237 (.node tf236 (.leaf _) (.leaf _)) (.node tf238 (.leaf _) (.leaf _))) (.node tf241 (.node tf240 (.leaf _) (.leaf _)) (.leaf _)))) (.node tf250 (.node tf246 (.node tf244 (.node tf243 (.leaf _) (.leaf _)) (.node tf245 (.leaf _) (.leaf _))) (.node tf248 (.node tf247 (.leaf _) (.leaf _)) (.leaf _))) (.node tf253 (.node tf252 (.node tf251 (.leaf _) (.leaf _)) (.leaf _)) (.node tf255 (.node tf254 (.leaf _) (.leaf _)) (.leaf _))))))))
theorem mixed : Tryz.prog.follows .mixedOrders = true := by kernel_rfl
end Go.Proofs.YtmmdkjanmegjdaaGreat.Ab

namespace Go.Proofs.YtmmdkjanmegjdaaGreat
open Go.RowKit Go.Sort

theorem ziH {k : IntKind} {a b : Int} (h : a = b) : Ending.returned (.int k a) = .returned (.int k b) := by rw [h]
theorem zkP {a b : Bool} (h : a = b) : Ending.returned (.bool a) = .returned (.bool b) := by rw [h]

def Ret (w : World) (v : Value) (e : Ending) (w' : World) : Prop := e = .returned v ∧ Below w.heap.size w w'
def RetS (w : World) (v : Value) (e : Ending) (w' : World) : Prop := e = .returned v ∧ w = w'

section
variable {P : Program} {f : FuncId} {args : Array Value} {w w' w1 : World} {v : Value}
theorem Ret.of_same (h : Calls P f args w (RetS w v)) : Calls P f args w (Ret w v) :=
 h.mono fun _ _ ⟨he, hw⟩ => ⟨he, hw ▸ Below.refl _ _⟩
theorem Ret.q {d : Nat} {os : Array Obj} (h : ∀ W, Below w.heap.size w W → Calls P f args W (Ret W v)) :
  Calls P f args (grow (redrawn w d) os) fun e w'' => e = .returned v ∧ ∃ p : Regrown, w'' = grow (redrawn w p.d) p.os :=
 Calls.regrown_of (h _ (below_regrown w d os))
theorem RetS.q {d : Nat} {os : Array Obj} (h : ∀ W, Below w.heap.size w W → Calls P f args W (RetS W v)) :
  Calls P f args (grow (redrawn w d) os) fun e w'' => e = .returned v ∧ ∃ p : Regrown, w'' = grow (redrawn w p.d) p.os :=
 Calls.regrown_of (Ret.of_same (h _ (below_regrown w d os)))
theorem Ret.q0 {d : Nat} {os : Array Obj} (h : ∀ W, Calls P f args W (Ret W v)) :
  Calls P f args (grow (redrawn w d) os) fun e w'' => e = .returned v ∧ ∃ p : Regrown, w'' = grow (redrawn w p.d) p.os :=
 Calls.regrown_of (h _)
theorem RetS.q0 {d : Nat} {os : Array Obj} (h : ∀ W, Calls P f args W (RetS W v)) :
  Calls P f args (grow (redrawn w d) os) fun e w'' => e = .returned v ∧ ∃ p : Regrown, w'' = grow (redrawn w p.d) p.os :=
 Calls.regrown_of (Ret.of_same (h _))
theorem RetS.d {n : Nat} (h : Calls P f args (w.drewN n) (RetS (w.drewN n) v)) : Calls P f args (w.drewN n) fun e w'' => e = .returned v ∧ ∃ m, w'' = w.drewN m :=
 h.mono fun _ _ ⟨he, hm⟩ => ⟨he, n, hm.symm⟩
theorem RetS.dd {a n : Nat} (h : Calls P f args (w.drewN (a + n)) (RetS (w.drewN (a + n)) v)) : Calls P f args (w.drewN (a + n)) fun e w'' => e = .returned v ∧ ∃ m, w'' = w.drewN (a + m) :=
 h.mono fun _ _ ⟨he, hm⟩ => ⟨he, n, hm.symm⟩

theorem zbY {B : Nat} {a w : World} (h : Below B a w) (n : Nat) : Below B a (w.drewN n) := ⟨h.os, h.tape, h.output, h.size, h.block⟩
theorem zaC {w w' : World} (h : ∃ p : Regrown, w' = grow (redrawn w p.d) p.os) : Below w.heap.size w w' := by
 obtain ⟨p, rfl⟩ := h
 exact below_regrown w _ _
theorem kc {w w1 : World} (hb : Below w.heap.size w w1) {a : Addr} {v : Value} (h : w.cell? a = some v) : w1.cell? a = some v := by
 rw [hb.cell (block_lt_of_cell h)]; exact h
theorem zam {a b c : World} (h : Below a.heap.size a b) (k : Below b.heap.size b c) : Below a.heap.size a c := h.trans (k.mono h.size)

def Kn (w : World) (b o : Nat) (v : Value) : Prop := w.cell? ⟨b, o, none⟩ = some v ∧ w.frozen? ⟨b, o, none⟩ = false
theorem Kn.lt {b o : Nat} (h : Kn w b o v) : b < w.heap.size := block_lt_of_cell h.1
theorem Kn.keep {b o : Nat} (h : Kn w b o v) (hb : Below w.heap.size w w1) : Kn w1 b o v := ⟨kc hb h.1, (hb.frozen (p := ⟨b, o, none⟩) h.lt).trans h.2⟩
theorem Kn.cell {b o : Nat} (h : Kn w b o v) : w.cell? ⟨b, o, none⟩ = some v := h.1
theorem Kn.free {b o : Nat} (h : Kn w b o v) : w.frozen? ⟨b, o, none⟩ = false := h.2
theorem Kn.new {cs : Array Value} {t : TypeId} {j : Nat} {u : Value} (h : cs[j]? = some u) : Kn (w.alloc (.cells cs t)) w.heap.size j u := by
 constructor
 ·simp [World.cell?_alloc_at, h]
 ·simp
theorem Kn.alloc {b o : Nat} (h : Kn w b o v) (x : Obj) : Kn (w.alloc x) b o v := by
 have hl := h.lt
 exact ⟨(World.cell?_alloc_lt w x ⟨b, o, none⟩ hl).trans h.1, (World.frozen?_alloc_old w x ⟨b, o, none⟩ (Nat.ne_of_lt hl)).trans h.2⟩
end

end Go.Proofs.YtmmdkjanmegjdaaGreat

namespace Go.Proofs.YtmmdkjanmegjdaaGreat
open Go.RowKit Go.Sort

structure Kp (L : List Nat) (w w' : World) : Prop where
 os : w'.os = w.os
 tape : w'.tape = w.tape
 output : w'.output = w.output
 size : w.heap.size ≤ w'.heap.size
 block : ∀ k, k < w.heap.size → k ∉ L → w'.heap[k]? = w.heap[k]?

section
variable {L M : List Nat} {w w0 w1 w2 : World}
theorem Kp.refl (L : List Nat) (w : World) : Kp L w w := ⟨rfl, rfl, rfl, Nat.le_refl _, fun _ _ _ => rfl⟩
theorem Kp.of_below (h : Below w.heap.size w w1) : Kp [] w w1 := ⟨h.os, h.tape, h.output, h.size, fun k hk _ => h.block k hk⟩
theorem Kp.trans (h : Kp L w0 w1) (k : Kp M w1 w2) (hs : ∀ b ∈ M, b ∈ L ∨ w0.heap.size ≤ b) : Kp L w0 w2 :=
 ⟨k.os.trans h.os, k.tape.trans h.tape, k.output.trans h.output, Nat.le_trans h.size k.size, fun i hi hn =>
  (k.block i (Nat.lt_of_lt_of_le hi h.size) (fun hm => by rcases hs i hm with h1 | h1; exact hn h1; omega)).trans (h.block i hi hn)⟩
theorem Kp.more (h : Kp L w0 w1) (k : Below w1.heap.size w1 w2) : Kp L w0 w2 := h.trans (Kp.of_below k) (by simp)
theorem Kp.drew (h : Kp L w w1) : Kp L w w1.drew := ⟨h.os, h.tape, h.output, h.size, h.block⟩
theorem Kp.drewN (h : Kp L w w1) (n : Nat) : Kp L w (w1.drewN n) := ⟨h.os, h.tape, h.output, h.size, h.block⟩
theorem Kp.alloc (h : Kp L w w1) (x : Obj) : Kp L w (w1.alloc x) :=
 ⟨h.os, h.tape, h.output, by have := h.size; simp; omega, fun k hk hn => (Below.heap_alloc w1 x k (Nat.lt_of_lt_of_le hk h.size)).trans (h.block k hk hn)⟩
theorem Kp.setCell (h : Kp L w w1) (p : Addr) (u : Value) (hp : p.block ∈ L ∨ w.heap.size ≤ p.block) : Kp L w (w1.setCell p u) := by
 have e := (Below.refl 0 w1).setCell (p := p) (Nat.zero_le _) u
 refine ⟨e.os.trans h.os, e.tape.trans h.tape, e.output.trans h.output, Nat.le_trans h.size e.size, fun k hk hn => ?_⟩
 refine (Below.heap_setCell w1 p u k ?_).trans (h.block k hk hn)
 rintro rfl
 rcases hp with h1 | h1
 ·exact hn h1
 ·omega
theorem Kp.grown {row : Option Nat} (h : Kp L w w1) (hg : w1.grownBy w2 row) (hr : ∀ k, row = some k → k ∈ L ∨ w.heap.size ≤ k) : Kp L w w2 :=
 ⟨hg.os.trans h.os, hg.tape.trans h.tape, hg.output.trans h.output, Nat.le_trans h.size hg.size, fun k hk hn =>
  (hg.block k (Nat.lt_of_lt_of_le hk h.size) (fun e => by rcases hr k e.symm with h1 | h1; exact hn h1; omega)).trans (h.block k hk hn)⟩
theorem Kp.cell (h : Kp L w w1) {a : Addr} {v : Value} (hc : w.cell? a = some v) (hn : a.block ∉ L) : w1.cell? a = some v :=
 (World.cell?_of_block (h.block a.block (World.block_lt_of_cell? w a hc) hn)).trans hc

theorem Kn.set {b o : Nat} {v : Value} (h : Kn w b o v) (u : Value) : Kn (w.setCell ⟨b, o, none⟩ u) b o u :=
 ⟨World.cell?_setCell_same _ _ _ h.1, by rw [World.frozen?_setCell]; exact h.2⟩
theorem Kn.drew {b o : Nat} {v : Value} (h : Kn w b o v) : Kn w.drew b o v := h

def Rd (w : World) (v : Value) (n k : Nat) (cs : List Value) : Prop :=
 ∃ ao cap, v = .slice ao n cap ∧ cs.length = n * k ∧ (0 < n → ∃ b o, ao = some ⟨b, o, none⟩ ∧ ∀ j u, cs[j]? = some u → w.cell? ⟨b, o + j, none⟩ = some u)
def Rdx (L : List Nat) (v : Value) : Prop := ∀ a n cap, v = .slice (some a) n cap → 0 < n → a.block ∉ L
theorem Rdx.nil (v : Value) : Rdx [] v := fun _ _ _ _ _ => by simp

theorem Rd.drew {v : Value} {n k : Nat} {cs : List Value} (h : Rd w v n k cs) : Rd w.drew v n k cs := h
theorem Rd.nil (w : World) (k : Nat) : Rd w (.slice none 0 0) 0 k [] := ⟨none, 0, rfl, by simp, fun h => absurd h (by omega)⟩
end
end Go.Proofs.YtmmdkjanmegjdaaGreat

namespace Go.Proofs.YtmmdkjanmegjdaaGreat

structure Pfx where
 a : Int
 b : Int
 deriving DecidableEq

instance : Inhabited Pfx := ⟨⟨0, 0⟩⟩

namespace Pfx
def ok (p : Pfx) : Prop := 0 ≤ p.a ∧ p.a < 4294967296 ∧ -9223372036854775808 ≤ p.b ∧ p.b < 9223372036854775808
end Pfx

def sz (n : Int) : Int := (2 : Int) ^ (32 - n).toNat

theorem zc9 (n : Int) : 0 < sz n := by unfold sz; exact Int.pow_pos (by omega)
theorem zeE (n : Int) : sz n = ((2 ^ (32 - n).toNat : Nat) : Int) := by unfold sz; simp
theorem ziD (n : Int) (h0 : 0 ≤ n) : sz n ≤ 4294967296 := by
 rw [zeE]
 have : 2 ^ (32 - n).toNat ≤ 2 ^ 32 := Nat.pow_le_pow_right (by omega) (by omega)
 have e : (2 : Nat) ^ 32 = 4294967296 := by decide
 omega
theorem zpu : sz 32 = 1 := by unfold sz; rfl
theorem sz_0 : sz 0 = 4294967296 := by unfold sz; rfl
theorem zmz (n : Int) (h1 : n < 32) : sz n = 2 * sz (n + 1) := by
 unfold sz
 have e : (32 - n).toNat = (32 - (n + 1)).toNat + 1 := by omega
 rw [e, Int.pow_succ]; omega
theorem zmA (n k x : Int) (hk : k < 32) (h0 : 0 ≤ n) (hx : 0 ≤ x) (h : x * sz k = sz n) : 2 * x * sz (k + 1) = sz n ∧ 2 * x ≤ 4294967296 := by
 rw [zmz k hk] at h
 have e : 2 * x * sz (k + 1) = sz n := by rw [← h, Int.mul_comm 2 x, Int.mul_assoc]
 refine ⟨e, ?_⟩
 have h1 := zc9 (k + 1)
 have h2 := ziD n h0
 have : 2 * x * 1 ≤ 2 * x * sz (k + 1) := Int.mul_le_mul_of_nonneg_left (by omega) (by omega)
 omega
def chk (p : Pfx) : Int := if p.b < 0 ∨ 32 < p.b then 1 else if p.a % sz p.b = 0 then 0 else 10
def good (p : Pfx) : Prop := 0 ≤ p.b ∧ p.b ≤ 32 ∧ p.a % sz p.b = 0
instance (p : Pfx) : Decidable (good p) := by unfold good; infer_instance
theorem zbl (p : Pfx) : chk p = 0 ↔ good p := by
 unfold chk good
 split
 ·constructor <;> intro h <;> omega
 ·split
  ·constructor <;> intro h <;> omega
  ·constructor <;> intro h <;> omega
def inB (x : Int) (p : Pfx) : Bool := decide (good p ∧ p.a ≤ x ∧ x < p.a + sz p.b)
def withinB (p q : Pfx) : Bool := decide (good p ∧ q.b ≤ p.b) && inB p.a q
def sub (x n : Int) : Pfx := ⟨x / sz n * sz n, n⟩
def cmpP (p q : Pfx) : Int := if p.a < q.a ∨ p.a = q.a ∧ p.b < q.b then -1 else if p = q then 0 else 1

theorem zin (x k : Nat) (hx : x < 2 ^ 32) (hk : k ≤ 32) : x &&& (4294967295 - (2 ^ k - 1)) = x / 2 ^ k * 2 ^ k := by
 have hp : 2 ^ k ≤ 2 ^ 32 := Nat.pow_le_pow_right (by omega) hk
 have e : (4294967295 : Nat) - (2 ^ k - 1) = 2 ^ 32 - 2 ^ k := by have := Nat.two_pow_pos k; omega
 rw [e]
 apply Nat.eq_of_testBit_eq
 intro i
 have h1 : (2 ^ 32 - 2 ^ k : Nat) = (2 ^ (32 - k) - 1) * 2 ^ k := by
  rw [Nat.sub_mul, ← Nat.pow_add, Nat.one_mul, Nat.sub_add_cancel hk]
 rw [Nat.testBit_and, h1, Nat.testBit_mul_two_pow, Nat.testBit_mul_two_pow, Nat.testBit_two_pow_sub_one, Nat.testBit_div_two_pow]
 by_cases hi : k ≤ i
 ·simp only [hi, decide_true, Bool.true_and]
  rw [show i - k + k = i by omega]
  by_cases h2 : i - k < 32 - k
  ·simp [h2]
  ·have : x < 2 ^ i := Nat.lt_of_lt_of_le hx (Nat.pow_le_pow_right (by omega) (by omega))
   simp [Nat.testBit_lt_two_pow this]
 ·simp [hi]
theorem znF (x k : Nat) : x &&& (2 ^ k - 1) = x % 2 ^ k := Nat.and_two_pow_sub_one_eq_mod x k


theorem zdx (x : Int) (p : Pfx) (hg : good p) : decide (x / sz p.b * sz p.b = p.a) = inB x p := by
 have hp := zc9 p.b
 have h1 := Int.mul_ediv_add_emod x (sz p.b)
 have h2 := Int.emod_nonneg x (Int.ne_of_gt hp)
 have h3 := Int.emod_lt_of_pos x hp
 have hg' := hg
 obtain ⟨_, _, hm⟩ := hg
 have h4 := Int.mul_ediv_add_emod p.a (sz p.b)
 unfold inB
 rw [decide_eq_decide]
 constructor
 ·intro h
  rw [Int.mul_comm] at h
  exact ⟨hg', by omega, by omega⟩
 ·rintro ⟨_, h5, h6⟩
  rw [hm] at h4
  have e : x / sz p.b = p.a / sz p.b := by
   have e1 : x = x % sz p.b + sz p.b * (x / sz p.b) := by omega
   have e2 : p.a = sz p.b * (p.a / sz p.b) := by omega
   have h7 : sz p.b * (p.a / sz p.b) < sz p.b * (x / sz p.b + 1) := by rw [Int.mul_add]; omega
   have h8 : sz p.b * (x / sz p.b) < sz p.b * (p.a / sz p.b + 1) := by rw [Int.mul_add]; omega
   have h9 := Int.lt_of_mul_lt_mul_left h7 (by omega)
   have h10 := Int.lt_of_mul_lt_mul_left h8 (by omega)
   omega
  rw [e, Int.mul_comm]; omega
theorem zh9 (x : Int) (p : Pfx) (hg : ¬ good p) : inB x p = false := by
 unfold inB; simp [hg]
theorem zeX {x : Int} {p : Pfx} (h : inB x p = true) : good p := by
 unfold inB at h; simp at h; exact h.1
end Go.Proofs.YtmmdkjanmegjdaaGreat

namespace Go.Proofs.YtmmdkjanmegjdaaGreat
open Go.RowKit Go.Sort

abbrev Pfx.v (p : Pfx) : Value := .agg #[.int .u32 p.a, .int .i64 p.b]

set_option maxHeartbeats 400000 in
theorem zct (n : Int) (w : World) (h0 : 0 ≤ n) (h1 : n ≤ 32) : Calls Tryz.prog 83 #[.int .i64 n] w (RetS w (.int .u32 (sz n - 1))) := by
 go_enter Tryz.func83, Tryz.ntmps83
 go_wp2
 go_ret
 refine ⟨ziH ?_, rfl⟩
 have h2 := zc9 n
 have h3 := ziD n h0
 have e : (2 : Int) ^ (32 - n).toNat = sz n := rfl
 simp only [IntKind.wrap, IntKind.bits, IntKind.signed]
 rw [e]; simp; omega

set_option maxHeartbeats 400000 in
theorem zeF (n : Int) (w : World) (h0 : 0 ≤ n) (h1 : n ≤ 32) : Calls Tryz.prog 164 #[.int .i64 n] w (RetS w (.int .u64 (sz n))) := by
 go_enter Tryz.func164, Tryz.ntmps164
 go_wp2
 go_loop [3, 4] (fun o i => ∃ (k : Int) (x : Int), n ≤ k ∧ k ≤ 32 ∧ i = .int .i64 k ∧ o = .int .u64 x ∧ 0 ≤ x ∧ x ≤ 4294967296 ∧ Hid (x * sz k = sz n)) (fun _ i => (32 - intOf i).toNat)
 case atStart => exact ⟨n, 1, by omega, h1, rfl, rfl, by omega, by omega, Int.one_mul _⟩
 case round =>
  obtain ⟨k, x, hk, hk2, rfl, rfl, hx0, hx1, H⟩ := hrel
  by_cases hlt : k < 32
  ·go_wp2
   go_round
   case rel =>
    have h := zmA n k x hlt h0 hx0 H.out
    exact ⟨k + 1, 2 * x, by omega, by omega, rfl, rfl, by omega, h.2, h.1⟩
   case measure => simp [intOf]; omega
  ·obtain rfl : k = 32 := by omega
   go_wp2
   go_ret
   refine ⟨ziH ?_, rfl⟩
   have h := H.out
   rw [zpu] at h; omega

theorem zfa (x n : Int) (h0 : 0 ≤ n) (h1 : n ≤ 32) (x0 : 0 ≤ x) (x1 : x < 4294967296) : bits .andNot .u32 x (sz n - 1) = x / sz n * sz n := by
 have h2 := zc9 n
 have h3 := ziD n h0
 rw [u32_andNot _ _ x0 x1 (by omega) (by omega)]
 obtain ⟨a, rfl⟩ := Int.eq_ofNat_of_zero_le x0
 have e : (sz n - 1).toNat = 2 ^ (32 - n).toNat - 1 := by rw [zeE]; omega
 rw [e, Int.toNat_natCast, zin a _ (by omega) (by omega), zeE]
 simp
theorem znE (x n : Int) (h0 : 0 ≤ n) (x0 : 0 ≤ x) (x1 : x < 4294967296) : bits .and .u32 x (sz n - 1) = x % sz n := by
 have h2 := zc9 n
 have h3 := ziD n h0
 rw [u32_and _ _ x0 x1 (by omega) (by omega)]
 obtain ⟨a, rfl⟩ := Int.eq_ofNat_of_zero_le x0
 have e : (sz n - 1).toNat = 2 ^ (32 - n).toNat - 1 := by rw [zeE]; omega
 rw [e, Int.toNat_natCast, znF a, zeE]
 simp

set_option maxHeartbeats 400000 in
theorem zfb (x n : Int) (w : World) (h0 : 0 ≤ n) (h1 : n ≤ 32) (x0 : 0 ≤ x) (x1 : x < 4294967296) :
  Calls Tryz.prog 84 #[.int .u32 x, .int .i64 n] w (Ret w (.tuple #[(sub x n).v, .int .i64 0])) := by
 have hbit := zfa x n h0 h1 x0 x1
 go_enter Tryz.func84, Tryz.ntmps84
 go_wp2_with (go_at_call 83; refine (zct _ _ (by omega) (by omega)).mono ?_; rintro e w' ⟨rfl, rfl⟩)
 refine bodyPost_ret (v := .tuple #[(sub x n).v, .int .i64 0]) (by simp [results, Tryz.results84, go_sem, sub]) rfl ⟨rfl, (Below.refl _ _).alloc (Nat.le_refl _) _⟩

set_option maxHeartbeats 400000 in
theorem zd3 (p : Pfx) (w : World) (hp : p.ok) : Calls Tryz.prog 53 #[p.v] w (Ret w (.int .i64 (chk p))) := by
 obtain ⟨a, b⟩ := p
 obtain ⟨a0, a1, b0, b1⟩ := hp
 dsimp only at a0 a1 b0 b1
 by_cases hb : b < 0 ∨ 32 < b
 ·have hc : chk ⟨a, b⟩ = 1 := if_pos hb
  rw [hc]; clear hc
  rcases hb with hb | hb
  ·go_enter Tryz.func53, Tryz.ntmps53
   go_wp2_with fail
   go_ret
   exact ⟨rfl, (Below.refl _ _).alloc (Nat.le_refl _) _⟩
  ·have hb' : ¬ b < 0 := by omega
   go_enter Tryz.func53, Tryz.ntmps53
   go_wp2_with fail
   go_ret
   exact ⟨rfl, (Below.refl _ _).alloc (Nat.le_refl _) _⟩
 ·have h0 : 0 ≤ b := by omega
  have h1 : b ≤ 32 := by omega
  have hbit := znE a b h0 a0 a1
  have hc : chk ⟨a, b⟩ = if a % sz b = 0 then 0 else 10 := if_neg hb
  rw [hc]; clear hc hb
  by_cases hm : a % sz b = 0
  ·rw [if_pos hm]
   have hB : (bits .and .u32 a (sz b - 1) != 0) = false := by rw [hbit, hm]; rfl
   clear hbit hm
   go_enter Tryz.func53, Tryz.ntmps53
   go_wp2_with fail
   go_quiet ((go_at_call 83; exact RetS.d (zct _ _ h0 h1)))
   go_wp2_with fail
   go_ret
   exact ⟨rfl, zbY ((Below.refl _ _).alloc (Nat.le_refl _) _) _⟩
  ·rw [if_neg hm]
   have hB : (bits .and .u32 a (sz b - 1) != 0) = true := by rw [hbit]; simpa using hm
   clear hbit hm
   go_enter Tryz.func53, Tryz.ntmps53
   go_wp2_with fail
   go_quiet ((go_at_call 83; exact RetS.d (zct _ _ h0 h1)))
   go_wp2_with fail
   go_ret
   exact ⟨rfl, zbY ((Below.refl _ _).alloc (Nat.le_refl _) _) _⟩
set_option maxHeartbeats 400000 in
theorem zci (p : Pfx) (w : World) (hp : p.ok) : Calls Tryz.prog 157 #[p.v] w (Ret w (.int .i64 (chk p))) := by
 obtain ⟨a, b⟩ := p
 obtain ⟨a0, a1, b0, b1⟩ := hp
 dsimp only at a0 a1 b0 b1
 by_cases hb : b < 0 ∨ 32 < b
 ·have hc : chk ⟨a, b⟩ = 1 := if_pos hb
  rw [hc]; clear hc
  rcases hb with hb | hb
  ·go_enter Tryz.func157, Tryz.ntmps157
   go_wp2_with fail
   go_ret
   exact ⟨rfl, (Below.refl _ _).alloc (Nat.le_refl _) _⟩
  ·have hb' : ¬ b < 0 := by omega
   go_enter Tryz.func157, Tryz.ntmps157
   go_wp2_with fail
   go_ret
   exact ⟨rfl, (Below.refl _ _).alloc (Nat.le_refl _) _⟩
 ·have h0 : 0 ≤ b := by omega
  have h1 : b ≤ 32 := by omega
  have hp := zc9 b
  have hz : ¬ sz b = 0 := by omega
  have e1 : IntKind.u64.wrap a = a := by simp [IntKind.wrap, IntKind.bits, IntKind.signed]; omega
  have e2 : a.tmod (sz b) = a % sz b := Int.tmod_eq_emod_of_nonneg a0
  have hc : chk ⟨a, b⟩ = if a % sz b = 0 then 0 else 10 := if_neg hb
  rw [hc]; clear hc hb
  by_cases hm : a % sz b = 0
  ·rw [if_pos hm]
   have hB : (a % sz b != 0) = false := by rw [hm]; rfl
   clear hm e2
   go_enter Tryz.func157, Tryz.ntmps157
   go_wp2_with fail
   go_quiet ((go_at_call 164; exact RetS.d (zeF _ _ h0 h1)))
   go_wp2_with fail
   go_ret
   exact ⟨rfl, zbY ((Below.refl _ _).alloc (Nat.le_refl _) _) _⟩
  ·rw [if_neg hm]
   have hB : (a % sz b != 0) = true := by simpa using hm
   clear hm e2
   go_enter Tryz.func157, Tryz.ntmps157
   go_wp2_with fail
   go_quiet ((go_at_call 164; exact RetS.d (zeF _ _ h0 h1)))
   go_wp2_with fail
   go_ret
   exact ⟨rfl, zbY ((Below.refl _ _).alloc (Nat.le_refl _) _) _⟩

theorem new2 (w : World) (u v : Value) (t : TypeId) : (w.alloc (.cells #[u, v] t)).cell? ⟨w.heap.size, 0, none⟩ = some u ∧ (w.alloc (.cells #[u, v] t)).cell? ⟨w.heap.size, 1, none⟩ = some v := by
 constructor <;> simp

set_option maxHeartbeats 400000 in
theorem zoV (x : Int) (p : Pfx) (w : World) (hp : p.ok) (x0 : 0 ≤ x) (x1 : x < 4294967296) : Calls Tryz.prog 159 #[.int .u32 x, p.v] w (Ret w (.bool (inB x p))) := by
 have hC := fun W => zd3 p W hp
 by_cases hg : good p
 ·have hc : chk p = 0 := (zbl p).2 hg
  have hI := zdx x p hg
  have hbit := zfa x p.b hg.1 hg.2.1 x0 x1
  have hBe := fun W => zct p.b W hg.1 hg.2.1
  rw [hc] at hC
  obtain ⟨a, b⟩ := p
  clear hc hg
  dsimp only at *
  have k := new2 w (.int .u32 a) (.int .i64 b) 47
  have k0 := cell_regrown k.1
  have k1 := cell_regrown k.2
  clear k
  go_enter Tryz.func159, Tryz.ntmps159
  go_wp2_with fail
  refine wp_region_quiet_below (by kernel_rfl) (by kernel_rfl) ?_
  repeat (first | go_big_quiet_step ((first | (go_at_call 53; exact Ret.q0 hC) | (go_at_call 83; exact RetS.q0 hBe))) | quiet_step ((first | (go_at_call 53; exact Ret.q0 hC) | (go_at_call 83; exact RetS.q0 hBe))))
  refine wpQuiet_nil ?_
  intro wq hq'
  have hq := zaC hq'
  clear hq'
  go_wp2_with fail
  go_ret
  refine ⟨zkP ?_, zam ((Below.refl _ _).alloc (Nat.le_refl _) _) hq⟩
  rw [← hI]; rfl
 ·have hc : (chk p == 0) = false := by have := mt (zbl p).1 hg; simpa using this
  rw [zh9 x p hg]
  obtain ⟨a, b⟩ := p
  clear hg
  have k := new2 w (.int .u32 a) (.int .i64 b) 47
  have k0 := cell_regrown k.1
  have k1 := cell_regrown k.2
  clear k
  go_enter Tryz.func159, Tryz.ntmps159
  go_wp2_with fail
  refine wp_region_quiet_below (by kernel_rfl) (by kernel_rfl) ?_
  repeat (first | go_big_quiet_step ((first | (go_at_call 53; exact Ret.q0 hC))) | quiet_step ((first | (go_at_call 53; exact Ret.q0 hC))))
  refine wpQuiet_nil ?_
  intro wq hq'
  have hq := zaC hq'
  clear hq'
  go_wp2_with fail
  go_ret
  exact ⟨rfl, zam ((Below.refl _ _).alloc (Nat.le_refl _) _) hq⟩
end Go.Proofs.YtmmdkjanmegjdaaGreat

namespace Go.Proofs.YtmmdkjanmegjdaaGreat
open Go.RowKit Go.Sort

set_option maxHeartbeats 400000 in
theorem zjr (x : Int) (p : Pfx) (w : World) (hp : p.ok) (x0 : 0 ≤ x) (x1 : x < 4294967296) : Calls Tryz.prog 158 #[.int .u32 x, p.v] w (Ret w (.bool (inB x p))) := by
 have hC := fun W => zci p W hp
 by_cases hg : good p
 ·have hc : chk p = 0 := (zbl p).2 hg
  have hS := fun W => zeF p.b W hg.1 hg.2.1
  rw [hc] at hC
  have hp0 := zc9 p.b
  have hI : inB x p = (decide (p.a ≤ x) && decide (x < p.a + sz p.b)) := by unfold inB; simp [hg]
  obtain ⟨a, b⟩ := p
  obtain ⟨a0, a1, b0, b1⟩ := hp
  clear hc hg
  dsimp only at *
  rw [hI]; clear hI
  have k := new2 w (.int .u32 a) (.int .i64 b) 47
  have k0 := cell_regrown k.1
  have k1 := cell_regrown k.2
  clear k
  have e1 : IntKind.u64.wrap x = x := by simp [IntKind.wrap, IntKind.bits, IntKind.signed]; omega
  have e2 : IntKind.u64.wrap a = a := by simp [IntKind.wrap, IntKind.bits, IntKind.signed]; omega
  by_cases hle : a ≤ x
  ·have hd : decide (a ≤ x) = true := by simpa using hle
   have e3 : IntKind.u64.wrap (x - a) = x - a := by simp [IntKind.wrap, IntKind.bits, IntKind.signed]; omega
   have e4 : decide (x < a + sz b) = decide (x - a < sz b) := by rw [decide_eq_decide]; omega
   rw [hd, Bool.true_and, e4]; clear e4
   go_enter Tryz.func158, Tryz.ntmps158
   go_wp2_with fail
   refine wp_region_quiet_below (by kernel_rfl) (by kernel_rfl) ?_
   repeat (first | go_big_quiet_step ((first | (go_at_call 157; exact Ret.q0 hC) | (go_at_call 164; exact RetS.q0 hS))) | quiet_step ((first | (go_at_call 157; exact Ret.q0 hC) | (go_at_call 164; exact RetS.q0 hS))))
   refine wpQuiet_nil ?_
   intro wq hq'
   have hq := zaC hq'
   clear hq'
   go_wp2_with fail
   go_ret
   exact ⟨by rfl, zam ((Below.refl _ _).alloc (Nat.le_refl _) _) hq⟩
  ·have hd : decide (a ≤ x) = false := by simpa using hle
   rw [hd, Bool.false_and]
   go_enter Tryz.func158, Tryz.ntmps158
   go_wp2_with fail
   refine wp_region_quiet_below (by kernel_rfl) (by kernel_rfl) ?_
   repeat (first | go_big_quiet_step ((first | (go_at_call 157; exact Ret.q0 hC) | (go_at_call 164; exact RetS.q0 hS))) | quiet_step ((first | (go_at_call 157; exact Ret.q0 hC) | (go_at_call 164; exact RetS.q0 hS))))
   refine wpQuiet_nil ?_
   intro wq hq'
   have hq := zaC hq'
   clear hq'
   go_wp2_with fail
   go_ret
   exact ⟨by rfl, zam ((Below.refl _ _).alloc (Nat.le_refl _) _) hq⟩
 ·have hc : (chk p == 0) = false := by have := mt (zbl p).1 hg; simpa using this
  rw [zh9 x p hg]
  obtain ⟨a, b⟩ := p
  clear hg
  have k := new2 w (.int .u32 a) (.int .i64 b) 47
  have k0 := cell_regrown k.1
  have k1 := cell_regrown k.2
  clear k
  go_enter Tryz.func158, Tryz.ntmps158
  go_wp2_with fail
  refine wp_region_quiet_below (by kernel_rfl) (by kernel_rfl) ?_
  repeat (first | go_big_quiet_step ((first | (go_at_call 157; exact Ret.q0 hC))) | quiet_step ((first | (go_at_call 157; exact Ret.q0 hC))))
  refine wpQuiet_nil ?_
  intro wq hq'
  have hq := zaC hq'
  clear hq'
  go_wp2_with fail
  go_ret
  exact ⟨rfl, zam ((Below.refl _ _).alloc (Nat.le_refl _) _) hq⟩

theorem box2 {w w1 : World} {a b c d : Value} {t : TypeId} (hb : Below ((w.alloc (.cells #[a, b] t)).alloc (.cells #[c, d] t)).heap.size ((w.alloc (.cells #[a, b] t)).alloc (.cells #[c, d] t)) w1) :
  Below w.heap.size w w1 ∧ w.heap.size + 2 ≤ w1.heap.size ∧ w1.cell? ⟨w.heap.size, 0, none⟩ = some a ∧ w1.cell? ⟨w.heap.size, 1, none⟩ = some b ∧ w1.cell? ⟨w.heap.size + 1, 0, none⟩ = some c ∧ w1.cell? ⟨w.heap.size + 1, 1, none⟩ = some d := by
 have hs := hb.size
 simp at hs
 refine ⟨zam (((Below.refl _ _).alloc (Nat.le_refl _) _).alloc (by simp) _) hb, by omega, ?_, ?_, ?_, ?_⟩
 ·rw [hb.cell (by simp; omega)]; simp
 ·rw [hb.cell (by simp; omega)]; simp
 ·rw [hb.cell (by simp)]; simp
 ·rw [hb.cell (by simp)]; simp

set_option maxHeartbeats 400000 in
theorem zhM (p q : Pfx) (w : World) (hp : p.ok) (hq : q.ok) : Calls Tryz.prog 145 #[p.v, q.v] w (Ret w (.bool (withinB p q))) := by
 have hC := fun W => zd3 p W hp
 by_cases hg : good p
 ·have hc : chk p = 0 := (zbl p).2 hg
  rw [hc] at hC
  have hI := fun W => zoV p.a q W hq hp.1 hp.2.1
  have hW : withinB p q = (decide (q.b ≤ p.b) && inB p.a q) := by unfold withinB; simp [hg]
  obtain ⟨a, b⟩ := p
  obtain ⟨c, d⟩ := q
  dsimp only at *
  rw [hW]; clear hW hc hg
  by_cases hle : d ≤ b
  ·have hd : decide (d ≤ b) = true := by simpa using hle
   rw [hd, Bool.true_and]; clear hd
   go_enter Tryz.func145, Tryz.ntmps145
   go_wp2_with fail
   refine (hC _).mono ?_
   rintro e w1 ⟨rfl, hb1⟩
   obtain ⟨hB, hs, c0, c1, c2, c3⟩ := box2 hb1
   go_wp2_with fail
   refine (hI _).mono ?_
   rintro e w2 ⟨rfl, hb2⟩
   go_wp2_with fail
   go_ret
   exact ⟨rfl, zam hB hb2⟩
  ·have hd : decide (d ≤ b) = false := by simpa using hle
   rw [hd, Bool.false_and]; clear hd
   go_enter Tryz.func145, Tryz.ntmps145
   go_wp2_with fail
   refine (hC _).mono ?_
   rintro e w1 ⟨rfl, hb1⟩
   obtain ⟨hB, hs, c0, c1, c2, c3⟩ := box2 hb1
   go_wp2_with fail
   go_ret
   exact ⟨rfl, hB⟩
 ·have hc : (chk p == 0) = false := by have := mt (zbl p).1 hg; simpa using this
  have hW : withinB p q = false := by unfold withinB; simp [hg]
  rw [hW]; clear hW
  obtain ⟨a, b⟩ := p
  obtain ⟨c, d⟩ := q
  clear hg
  go_enter Tryz.func145, Tryz.ntmps145
  go_wp2_with fail
  refine (hC _).mono ?_
  rintro e w1 ⟨rfl, hb1⟩
  obtain ⟨hB, hs, c0, c1, c2, c3⟩ := box2 hb1
  go_wp2_with fail
  go_ret
  exact ⟨rfl, hB⟩

def cmpI (x y : Int) : Int := if x < y then -1 else if y < x then 1 else 0

set_option maxHeartbeats 400000 in
theorem zge (x y : Int) (w : World) : Calls Tryz.prog 49 #[.int .u32 x, .int .u32 y] w (RetS w (.int .i64 (cmpI x y))) := by
 unfold cmpI
 by_cases h1 : x < y
 ·rw [if_pos h1]
  go_enter Tryz.func49, Tryz.ntmps49
  go_wp2
  go_ret
  exact ⟨rfl, rfl⟩
 ·rw [if_neg h1]
  by_cases h2 : y < x
  ·rw [if_pos h2]
   go_enter Tryz.func49, Tryz.ntmps49
   go_wp2
   go_ret
   exact ⟨rfl, rfl⟩
  ·rw [if_neg h2]
   go_enter Tryz.func49, Tryz.ntmps49
   go_wp2
   go_ret
   exact ⟨rfl, rfl⟩
set_option maxHeartbeats 400000 in
theorem zgd (x y : Int) (w : World) : Calls Tryz.prog 34 #[.int .i64 x, .int .i64 y] w (RetS w (.int .i64 (cmpI x y))) := by
 unfold cmpI
 by_cases h1 : x < y
 ·rw [if_pos h1]
  go_enter Tryz.func34, Tryz.ntmps34
  go_wp2
  go_ret
  exact ⟨rfl, rfl⟩
 ·rw [if_neg h1]
  by_cases h2 : y < x
  ·rw [if_pos h2]
   go_enter Tryz.func34, Tryz.ntmps34
   go_wp2
   go_ret
   exact ⟨rfl, rfl⟩
  ·rw [if_neg h2]
   go_enter Tryz.func34, Tryz.ntmps34
   go_wp2
   go_ret
   exact ⟨rfl, rfl⟩
set_option maxHeartbeats 400000 in
theorem zm0 (x y : Int) (b : Nat) (w : World) (h0 : w.cell? ⟨b, 0, none⟩ = some (.int .i64 x)) (h1 : w.cell? ⟨b, 1, none⟩ = some (.int .i64 y)) :
  Calls Tryz.prog 48 #[.slice (some ⟨b, 0, none⟩) 2 2] w (RetS w (.int .i64 (if x = 0 then y else x))) := by
 by_cases hx : x = 0
 ·subst hx
  rw [if_pos rfl]
  by_cases hy : y = 0
  ·subst hy
   go_enter Tryz.func48, Tryz.ntmps48
   go_wp2
   refine wp_loop_rounds 3 ?_
   rw [rounds_succ]; go_wp2
   rw [rounds_succ]; go_wp2
   rw [rounds_succ]; go_wp2
   go_ret
   exact ⟨rfl, rfl⟩
  ·have hB : (y != 0) = true := by simpa using hy
   go_enter Tryz.func48, Tryz.ntmps48
   go_wp2
   refine wp_loop_rounds 3 ?_
   rw [rounds_succ]; go_wp2
   rw [rounds_succ]; go_wp2
   go_ret
   exact ⟨rfl, rfl⟩
 ·rw [if_neg hx]
  have hB : (x != 0) = true := by simpa using hx
  go_enter Tryz.func48, Tryz.ntmps48
  go_wp2
  refine wp_loop_rounds 3 ?_
  rw [rounds_succ]; go_wp2
  go_ret
  exact ⟨rfl, rfl⟩
theorem zoM (x y r : Int) (b : Nat) (w : World) (hr : Hid ((if x = 0 then y else x) = r)) (h0 : w.cell? ⟨b, 0, none⟩ = some (.int .i64 x)) (h1 : w.cell? ⟨b, 1, none⟩ = some (.int .i64 y)) :
  Calls Tryz.prog 48 #[.slice (some ⟨b, 0, none⟩) 2 2] w (RetS w (.int .i64 r)) := by
 have h := zm0 x y b w h0 h1
 rw [hr.out] at h
 exact h
end Go.Proofs.YtmmdkjanmegjdaaGreat

namespace Go.Proofs
open Go.Shelf
def Tryz.sortRoute_ren : Go.Shelf.Ren := ⟨fun | 6 => 43 | 15 => 47 | 14 => 67 | 28 => 80 | 29 => 81 | 20 => 104 | 21 => 105 | 22 => 106 | 23 => 107 | 24 => 108 | 25 => 109 | 26 => 110 | 27 => 111 | 46 => 128 | 47 => 115 | 48 => 116 | 49 => 129 | 50 => 130 | 57 => 142 | n => n, fun | 22 => 35 | 24 => 58 | 25 => 83 | 3 => 3 | 39 => 109 | 0 => 0 | 53 => 44 | 55 => 145 | 4 => 4 | 46 => 138 | 45 => 137 | 50 => 61 | 5 => 5 | 9 => 9 | 66 => 173 | 70 => 177 | 76 => 193 | 77 => 194 | n => n, fun | n => n⟩
theorem Tryz.sortRoute : Go.Proofs.SlLaysF0.n6 Tryz.prog Tryz.sortRoute_ren := {
 mixed := by kernel_rfl
 f6 := ⟨Tryz.f43.name, by decide, Tryz.func43.trans (congrArg some (by kernel_rfl))⟩
 f14 := ⟨Tryz.f67.name, by decide, Tryz.func67.trans (congrArg some (by kernel_rfl))⟩
 f15 := Tryz.func47.trans (congrArg some (by kernel_rfl))
 f20 := ⟨Tryz.f104.name, by decide, Tryz.func104.trans (congrArg some (by kernel_rfl))⟩
 f21 := ⟨Tryz.f105.name, by decide, Tryz.func105.trans (congrArg some (by kernel_rfl))⟩
 f22 := ⟨Tryz.f106.name, by decide, Tryz.func106.trans (congrArg some (by kernel_rfl))⟩
 f23 := ⟨Tryz.f107.name, by decide, Tryz.func107.trans (congrArg some (by kernel_rfl))⟩
 f24 := ⟨Tryz.f108.name, by decide, Tryz.func108.trans (congrArg some (by kernel_rfl))⟩
 f25 := ⟨Tryz.f109.name, by decide, Tryz.func109.trans (congrArg some (by kernel_rfl))⟩
 f26 := ⟨Tryz.f110.name, by decide, Tryz.func110.trans (congrArg some (by kernel_rfl))⟩
 f27 := ⟨Tryz.f111.name, by decide, Tryz.func111.trans (congrArg some (by kernel_rfl))⟩
 f28 := Tryz.func80.trans (congrArg some (by kernel_rfl))
 f29 := Tryz.func81.trans (congrArg some (by kernel_rfl))
 f46 := ⟨Tryz.f128.name, by decide, Tryz.func128.trans (congrArg some (by kernel_rfl))⟩
 f47 := Tryz.func115.trans (congrArg some (by kernel_rfl))
 f48 := Tryz.func116.trans (congrArg some (by kernel_rfl))
 f49 := ⟨Tryz.f129.name, by decide, Tryz.func129.trans (congrArg some (by kernel_rfl))⟩
 f50 := ⟨Tryz.f130.name, by decide, Tryz.func130.trans (congrArg some (by kernel_rfl))⟩
 f57 := ⟨Tryz.f142.name, by decide, Tryz.func142.trans (congrArg some (by kernel_rfl))⟩
 t0 := Tryz.underlying0
 a0 := Tryz.isAgg0
 z0 := Tryz.sizeOf0
 v0 := Tryz.zeroValue0
 t3 := Tryz.underlying3
 a3 := Tryz.isAgg3
 z3 := Tryz.sizeOf3
 v3 := Tryz.zeroValue3
 t4 := Tryz.underlying4
 a4 := Tryz.isAgg4
 z4 := Tryz.sizeOf4
 v4 := Tryz.zeroValue4
 t5 := Tryz.underlying5
 a5 := Tryz.isAgg5
 z5 := Tryz.sizeOf5
 v5 := Tryz.zeroValue5
 t9 := Tryz.underlying9
 a9 := Tryz.isAgg9
 z9 := Tryz.sizeOf9
 v9 := Tryz.zeroValue9
 t22 := Tryz.underlying35
 a22 := Tryz.isAgg35
 z22 := Tryz.sizeOf35
 v22 := Tryz.zeroValue35
 t25 := Tryz.underlying83
 a25 := Tryz.isAgg83
 z25 := Tryz.sizeOf83
 v25 := Tryz.zeroValue83
 t39 := Tryz.underlying109
 a39 := Tryz.isAgg109
 z39 := Tryz.sizeOf109
 v39 := Tryz.zeroValue109
 t45 := Tryz.underlying137
 a45 := Tryz.isAgg137
 z45 := Tryz.sizeOf137
 v45 := Tryz.zeroValue137
 t46 := Tryz.underlying138
 a46 := Tryz.isAgg138
 z46 := Tryz.sizeOf138
 v46 := Tryz.zeroValue138
 t50 := Tryz.underlying61
 a50 := Tryz.isAgg61
 z50 := Tryz.sizeOf61
 v50 := Tryz.zeroValue61
 t53 := Tryz.underlying44
 a53 := Tryz.isAgg44
 z53 := Tryz.sizeOf44
 v53 := Tryz.zeroValue44
 t55 := Tryz.underlying145
 a55 := Tryz.isAgg145
 z55 := Tryz.sizeOf145
 v55 := Tryz.zeroValue145
 t66 := Tryz.underlying173
 a66 := Tryz.isAgg173
 z66 := Tryz.sizeOf173
 v66 := Tryz.zeroValue173
 t70 := Tryz.underlying177
 a70 := Tryz.isAgg177
 z70 := Tryz.sizeOf177
 v70 := Tryz.zeroValue177
 t76 := Tryz.underlying193
 a76 := Tryz.isAgg193
 z76 := Tryz.sizeOf193
 v76 := Tryz.zeroValue193
 t77 := Tryz.underlying194
 a77 := Tryz.isAgg194
 z77 := Tryz.sizeOf194
 v77 := Tryz.zeroValue194 }
def Tryz.sortTaken_ren : Go.Shelf.Ren := ⟨fun | 6 => 20 | 15 => 47 | 14 => 46 | 28 => 80 | 29 => 81 | 20 => 72 | 21 => 73 | 22 => 74 | 23 => 75 | 24 => 76 | 25 => 77 | 26 => 78 | 27 => 79 | 46 => 114 | 47 => 115 | 48 => 116 | 49 => 117 | 50 => 118 | 57 => 131 | n => n, fun | 22 => 41 | 24 => 52 | 25 => 79 | 3 => 3 | 39 => 109 | 0 => 0 | 53 => 44 | 55 => 145 | 4 => 4 | 46 => 138 | 45 => 137 | 50 => 61 | 5 => 5 | 9 => 9 | 66 => 173 | 70 => 177 | 76 => 193 | 77 => 194 | n => n, fun | n => n⟩
theorem Tryz.sortTaken : Go.Proofs.SlLaysF0.n6 Tryz.prog Tryz.sortTaken_ren := {
 mixed := by kernel_rfl
 f6 := ⟨Tryz.f20.name, by decide, Tryz.func20.trans (congrArg some (by kernel_rfl))⟩
 f14 := ⟨Tryz.f46.name, by decide, Tryz.func46.trans (congrArg some (by kernel_rfl))⟩
 f15 := Tryz.func47.trans (congrArg some (by kernel_rfl))
 f20 := ⟨Tryz.f72.name, by decide, Tryz.func72.trans (congrArg some (by kernel_rfl))⟩
 f21 := ⟨Tryz.f73.name, by decide, Tryz.func73.trans (congrArg some (by kernel_rfl))⟩
 f22 := ⟨Tryz.f74.name, by decide, Tryz.func74.trans (congrArg some (by kernel_rfl))⟩
 f23 := ⟨Tryz.f75.name, by decide, Tryz.func75.trans (congrArg some (by kernel_rfl))⟩
 f24 := ⟨Tryz.f76.name, by decide, Tryz.func76.trans (congrArg some (by kernel_rfl))⟩
 f25 := ⟨Tryz.f77.name, by decide, Tryz.func77.trans (congrArg some (by kernel_rfl))⟩
 f26 := ⟨Tryz.f78.name, by decide, Tryz.func78.trans (congrArg some (by kernel_rfl))⟩
 f27 := ⟨Tryz.f79.name, by decide, Tryz.func79.trans (congrArg some (by kernel_rfl))⟩
 f28 := Tryz.func80.trans (congrArg some (by kernel_rfl))
 f29 := Tryz.func81.trans (congrArg some (by kernel_rfl))
 f46 := ⟨Tryz.f114.name, by decide, Tryz.func114.trans (congrArg some (by kernel_rfl))⟩
 f47 := Tryz.func115.trans (congrArg some (by kernel_rfl))
 f48 := Tryz.func116.trans (congrArg some (by kernel_rfl))
 f49 := ⟨Tryz.f117.name, by decide, Tryz.func117.trans (congrArg some (by kernel_rfl))⟩
 f50 := ⟨Tryz.f118.name, by decide, Tryz.func118.trans (congrArg some (by kernel_rfl))⟩
 f57 := ⟨Tryz.f131.name, by decide, Tryz.func131.trans (congrArg some (by kernel_rfl))⟩
 t0 := Tryz.underlying0
 a0 := Tryz.isAgg0
 z0 := Tryz.sizeOf0
 v0 := Tryz.zeroValue0
 t3 := Tryz.underlying3
 a3 := Tryz.isAgg3
 z3 := Tryz.sizeOf3
 v3 := Tryz.zeroValue3
 t4 := Tryz.underlying4
 a4 := Tryz.isAgg4
 z4 := Tryz.sizeOf4
 v4 := Tryz.zeroValue4
 t5 := Tryz.underlying5
 a5 := Tryz.isAgg5
 z5 := Tryz.sizeOf5
 v5 := Tryz.zeroValue5
 t9 := Tryz.underlying9
 a9 := Tryz.isAgg9
 z9 := Tryz.sizeOf9
 v9 := Tryz.zeroValue9
 t22 := Tryz.underlying41
 a22 := Tryz.isAgg41
 z22 := Tryz.sizeOf41
 v22 := Tryz.zeroValue41
 t25 := Tryz.underlying79
 a25 := Tryz.isAgg79
 z25 := Tryz.sizeOf79
 v25 := Tryz.zeroValue79
 t39 := Tryz.underlying109
 a39 := Tryz.isAgg109
 z39 := Tryz.sizeOf109
 v39 := Tryz.zeroValue109
 t45 := Tryz.underlying137
 a45 := Tryz.isAgg137
 z45 := Tryz.sizeOf137
 v45 := Tryz.zeroValue137
 t46 := Tryz.underlying138
 a46 := Tryz.isAgg138
 z46 := Tryz.sizeOf138
 v46 := Tryz.zeroValue138
 t50 := Tryz.underlying61
 a50 := Tryz.isAgg61
 z50 := Tryz.sizeOf61
 v50 := Tryz.zeroValue61
 t53 := Tryz.underlying44
 a53 := Tryz.isAgg44
 z53 := Tryz.sizeOf44
 v53 := Tryz.zeroValue44
 t55 := Tryz.underlying145
 a55 := Tryz.isAgg145
 z55 := Tryz.sizeOf145
 v55 := Tryz.zeroValue145
 t66 := Tryz.underlying173
 a66 := Tryz.isAgg173
 z66 := Tryz.sizeOf173
 v66 := Tryz.zeroValue173
 t70 := Tryz.underlying177
 a70 := Tryz.isAgg177
 z70 := Tryz.sizeOf177
 v70 := Tryz.zeroValue177
 t76 := Tryz.underlying193
 a76 := Tryz.isAgg193
 z76 := Tryz.sizeOf193
 v76 := Tryz.zeroValue193
 t77 := Tryz.underlying194
 a77 := Tryz.isAgg194
 z77 := Tryz.sizeOf194
 v77 := Tryz.zeroValue194 }
def Tryz.lays129_ren : Go.Shelf.Ren := ⟨fun | 129 => 81 | n => n, fun | 53 => 145 | 3 => 3 | 4 => 4 | 46 => 109 | 5 => 5 | 9 => 9 | n => n, fun | n => n⟩
def Tryz.lays125_ren : Go.Shelf.Ren := ⟨fun | 125 => 47 | 128 => 80 | 129 => 81 | n => n, fun | 46 => 109 | 3 => 3 | 51 => 44 | 53 => 145 | 4 => 4 | 5 => 5 | 9 => 9 | n => n, fun | n => n⟩
end Go.Proofs

namespace Go.Proofs.YtmmdkjanmegjdaaGreat
open Go.RowKit Go.Sort

theorem znt (p q : Pfx) : (if cmpI p.a q.a = 0 then cmpI p.b q.b else cmpI p.a q.a) = cmpP p q := by
 obtain ⟨a, b⟩ := p
 obtain ⟨c, d⟩ := q
 unfold cmpP cmpI
 dsimp only
 by_cases h1 : a < c
 ·simp [h1]
 ·by_cases h2 : c < a
  ·have : ¬ a = c := by omega
   simp [h1, h2, this]
  ·have : a = c := by omega
   subst this
   by_cases h3 : b < d
   ·simp [h3]
   ·by_cases h4 : d < b
    ·have : ¬ b = d := by omega
     simp [h3, h4, this]
    ·have : b = d := by omega
     subst this
     simp

theorem zhr (w : World) (x y z : Obj) : (((w.alloc x).alloc y).alloc z).drew = grow (w.drewN 1) #[x, y, z] := by
 have e : ((w.heap.push x).push y).push z = w.heap ++ #[x, y, z] := by
  rw [Array.push_eq_append, Array.push_eq_append, Array.push_eq_append, Array.append_assoc, Array.append_assoc]; rfl
 show World.mk .. = World.mk ..
 simp only [World.alloc, World.drew, World.drewN, grow]
 simp only [e]

set_option maxHeartbeats 800000 in
theorem zlN (p q : Pfx) (w : World) : Calls Tryz.prog 22 #[p.v, q.v] w (fun e w' => e = .returned (.int .i64 (cmpP p q)) ∧ ∃ n os, w' = grow (w.drewN n) os) := by
 have hr := znt p q
 obtain ⟨r, hR⟩ : ∃ r, r = cmpP p q := ⟨_, rfl⟩
 rw [← hR] at hr ⊢
 clear hR
 obtain ⟨a, b⟩ := p
 obtain ⟨c, d⟩ := q
 dsimp only at hr
 have HR := Lib.hid hr
 clear hr
 go_enter Tryz.func22, Tryz.ntmps22
 go_wp2_with fail
 go_region_held3 (fun w' => w'.cell? ⟨w.heap.size, 0, none⟩ = some (.int .u32 a) ∧ w'.cell? ⟨w.heap.size, 1, none⟩ = some (.int .i64 b) ∧ w'.cell? ⟨w.heap.size + 1, 0, none⟩ = some (.int .u32 c) ∧ w'.cell? ⟨w.heap.size + 1, 1, none⟩ = some (.int .i64 d)) (go_keep)
  (first | (go_at_call 49; refine (zge a c _).mono ?_; rintro e w' ⟨rfl, rfl⟩) | (go_at_call 34; refine (zgd b d _).mono ?_; rintro e w' ⟨rfl, rfl⟩) | (go_at_call 48; refine (zoM (cmpI a c) (cmpI b d) r _ _ HR ?_ ?_).mono ?_; (go_simp); (go_simp); rintro e w' ⟨rfl, rfl⟩))
 go_wp2_with fail
 go_ret
 exact ⟨rfl, 1, #[_, _, _], zhr _ _ _ _⟩
theorem zik (w : World) (n : Nat) (os : Array Obj) : Below w.heap.size w (grow (w.drewN n) os) := ⟨rfl, rfl, rfl, by simp [grow, World.drewN], fun k hk => by
 show (w.heap ++ os)[k]? = w.heap[k]?
 rw [Array.getElem?_append, if_pos hk]⟩
theorem zns (p q : Pfx) (w : World) : Calls Tryz.prog 22 #[p.v, q.v] w (Ret w (.int .i64 (cmpP p q))) :=
 (zlN p q w).mono fun _ _ ⟨he, n, os, hw⟩ => ⟨he, hw ▸ zik w n os⟩

set_option maxHeartbeats 400000 in
theorem zfh (p q : Pfx) (w : World) (hp : p.ok) (hq : q.ok) : Calls Tryz.prog 143 #[p.v, q.v] w (Ret w (.bool (withinB p q))) := by
 have hC := fun W => zci p W hp
 have hD := fun W => zci q W hq
 by_cases hg : good p
 ·have hc : chk p = 0 := (zbl p).2 hg
  rw [hc] at hC
  by_cases hg2 : good q
  ·have hc2 : chk q = 0 := (zbl q).2 hg2
   rw [hc2] at hD
   have hI := fun W => zjr p.a q W hq hp.1 hp.2.1
   have hW : withinB p q = (decide (q.b ≤ p.b) && inB p.a q) := by unfold withinB; simp [hg]
   obtain ⟨a, b⟩ := p
   obtain ⟨c, d⟩ := q
   dsimp only at *
   rw [hW]; clear hW hc hg hc2 hg2
   by_cases hle : d ≤ b
   ·have hd : decide (d ≤ b) = true := by simpa using hle
    rw [hd, Bool.true_and]; clear hd
    go_enter Tryz.func143, Tryz.ntmps143
    go_wp2_with fail
    refine (hC _).mono ?_
    rintro e w1 ⟨rfl, hb1⟩
    obtain ⟨hB, hs, c0, c1, c2, c3⟩ := box2 hb1
    go_wp2_with fail
    refine (hD _).mono ?_
    rintro e w2 ⟨rfl, hb2⟩
    have d0 := kc hb2 c0
    have d1 := kc hb2 c1
    have d2 := kc hb2 c2
    have d3 := kc hb2 c3
    go_wp2_with fail
    refine (hI _).mono ?_
    rintro e w3 ⟨rfl, hb3⟩
    go_wp2_with fail
    go_ret
    exact ⟨rfl, zam (zam hB hb2) hb3⟩
   ·have hd : decide (d ≤ b) = false := by simpa using hle
    rw [hd, Bool.false_and]; clear hd
    go_enter Tryz.func143, Tryz.ntmps143
    go_wp2_with fail
    refine (hC _).mono ?_
    rintro e w1 ⟨rfl, hb1⟩
    obtain ⟨hB, hs, c0, c1, c2, c3⟩ := box2 hb1
    go_wp2_with fail
    refine (hD _).mono ?_
    rintro e w2 ⟨rfl, hb2⟩
    have d0 := kc hb2 c0
    have d1 := kc hb2 c1
    have d2 := kc hb2 c2
    have d3 := kc hb2 c3
    go_wp2_with fail
    go_ret
    exact ⟨rfl, zam hB hb2⟩
  ·have hc2 : (chk q == 0) = false := by have := mt (zbl q).1 hg2; simpa using this
   have hW : withinB p q = false := by unfold withinB; rw [zh9 _ q hg2]; simp
   rw [hW]; clear hW
   obtain ⟨a, b⟩ := p
   obtain ⟨c, d⟩ := q
   clear hg hg2 hc
   go_enter Tryz.func143, Tryz.ntmps143
   go_wp2_with fail
   refine (hC _).mono ?_
   rintro e w1 ⟨rfl, hb1⟩
   obtain ⟨hB, hs, c0, c1, c2, c3⟩ := box2 hb1
   go_wp2_with fail
   refine (hD _).mono ?_
   rintro e w2 ⟨rfl, hb2⟩
   go_wp2_with fail
   go_ret
   exact ⟨rfl, zam hB hb2⟩
 ·have hc : (chk p == 0) = false := by have := mt (zbl p).1 hg; simpa using this
  have hW : withinB p q = false := by unfold withinB; simp [hg]
  rw [hW]; clear hW
  obtain ⟨a, b⟩ := p
  obtain ⟨c, d⟩ := q
  clear hg
  go_enter Tryz.func143, Tryz.ntmps143
  go_wp2_with fail
  refine (hC _).mono ?_
  rintro e w1 ⟨rfl, hb1⟩
  obtain ⟨hB, hs, c0, c1, c2, c3⟩ := box2 hb1
  go_wp2_with fail
  go_ret
  exact ⟨rfl, hB⟩

end Go.Proofs.YtmmdkjanmegjdaaGreat

namespace Go.Proofs.YtmmdkjanmegjdaaGreat

def cb : Nat → Int → Int → Nat
 | 0, _, _ => 0
 | n + 1, x, y => if x / sz (n + 1 : Nat) = y / sz (n + 1 : Nat) then n + 1 else cb n x y
def commonP (p q : Pfx) : Pfx := sub p.a (cb (min p.b q.b).toNat p.a q.a)

end Go.Proofs.YtmmdkjanmegjdaaGreat

namespace Go.Proofs.YtmmdkjanmegjdaaGreat
open Go.RowKit Go.Sort

end Go.Proofs.YtmmdkjanmegjdaaGreat

namespace Go.Proofs.YtmmdkjanmegjdaaGreat
open Go.RowKit Go.Sort

theorem sub_zero (x : Int) (h0 : 0 ≤ x) (h1 : x < 4294967296) : sub x 0 = ⟨0, 0⟩ := by
 unfold sub
 rw [sz_0, Int.ediv_eq_zero_of_lt h0 h1]; rfl

end Go.Proofs.YtmmdkjanmegjdaaGreat

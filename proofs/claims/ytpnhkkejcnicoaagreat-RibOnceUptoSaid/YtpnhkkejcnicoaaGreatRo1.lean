/-
  Texts of a proof, one behind the other (part 2).
-/
import Derived.Laws.StructEq
import Derived.Test.YtpnhkkejcnicoaaGreatProg
import Derived.WalkKit
import Derived.WalkSpells
import Derived.WalkLawsBesides
import Derived.Deep.QuietTactic
import Derived.BigQuiet
import Derived.Lib.Hide
import Derived.Lib.QuietBelow
import Derived.Deep.MidRow
import Derived.Test.YtpnhkkejcnicoaaGreatRo0
set_option linter.unusedVariables false
set_option linter.unusedSimpArgs false
namespace Go.Proofs.YtpnhkkejcnicoaaGreat.Ab
set_option linter.unusedVariables false
open Go.RowKit

def tsize (tab : TTab) (t : TypeId) : Option Nat := match tlook tab t with
  | some ⟨s, _, _, _, _⟩ => some s
  | none => none
def telem (tab : TTab) (t : TypeId) : Option TypeId := match tlook tab t with
  | some ⟨_, _, _, _, .sl e⟩ => some e
  | _ => none
def tfield (tab : TTab) (t : TypeId) (f : Nat) : Option Nat := match tlook tab t with
  | some ⟨_, _, _, _, .st fs⟩ => match fs[f]? with
    | some (off, ft) => match tsize tab ft with
      | some (n + 1) => some off
      | _ => none
    | none => none
  | _ => none
def tagg (tab : TTab) (t : TypeId) : Option Bool := match tlook tab t with
  | some ⟨_, _, a, _, _⟩ => some a
  | none => none
def tzero (tab : TTab) (t : TypeId) : Option (List AVal) := match tlook tab t with
  | some ⟨_, _, _, z, _⟩ => cond (z.all (·.oneCell')) (some (z.map fun v => .d (.sc v))) none
  | none => none
theorem tsize_spec {tab : TTab} {t s : Nat} (h : tsize tab t = some s) : ∃ te, tlook tab t = some te ∧ te.size = s := by
  unfold tsize at h; split at h
  · rename_i hl; cases h; exact ⟨_, hl, rfl⟩
  · cases h
theorem telem_spec {tab : TTab} {t e : Nat} (h : telem tab t = some e) : ∃ te, tlook tab t = some te ∧ te.sh = .sl e := by
  unfold telem at h; split at h
  · rename_i hl; cases h; exact ⟨_, hl, rfl⟩
  · cases h
theorem tagg_spec {tab : TTab} {t : Nat} {a : Bool} (h : tagg tab t = some a) : ∃ te, tlook tab t = some te ∧ te.agg = a := by
  unfold tagg at h; split at h
  · rename_i hl; cases h; exact ⟨_, hl, rfl⟩
  · cases h
theorem tzero_spec {tab : TTab} {t : Nat} {z : List AVal} (h : tzero tab t = some z) : ∃ te, tlook tab t = some te ∧ te.zero.all (·.oneCell') = true ∧ z = te.zero.map fun v => .d (.sc v) := by
  unfold tzero at h; split at h
  · rename_i hl
    rename_i z0 _
    cases hz : z0.all (·.oneCell') with
    | false => rw [hz] at h; cases h
    | true => rw [hz] at h; cases h; exact ⟨_, hl, hz, rfl⟩
  · cases h
theorem tfield_spec {tab : TTab} {t f off : Nat} (h : tfield tab t f = some off) : ∃ te fs ft te', tlook tab t = some te ∧ te.sh = .st fs ∧ fs[f]? = some (off, ft) ∧ tlook tab ft = some te' ∧ Nat.beq te'.size 0 = false := by
  unfold tfield at h; split at h
  · rename_i hl
    split at h
    · rename_i hf
      split at h
      · rename_i hs
        cases h
        obtain ⟨te', h1, h2⟩ := tsize_spec hs
        exact ⟨_, _, _, te', hl, rfl, hf, h1, by rw [h2]; rfl⟩
      · cases h
    · cases h
  · cases h

section
variable {P : Program} {nt : Nat} {Q : Post} {K : Env → Heap → Prop} {e : Env} {h : Heap} {ops : Array Oper} {o : Oper} {rest : List Oper} {T : List Nat} {tab : TTab} {z : Bool}
theorem X_in_same {j : Nat} (H : Q .normal e h) : AIn j Q (.exit j) e h := by show cond (Nat.beq j j) _ _; rw [beq_yes]; exact H
theorem X_in_other {i j : Nat} (hb : Nat.beq i j = false) (H : Q (.exit i) e h) : AIn j Q (.exit i) e h := by show cond (Nat.beq i j) _ _; rw [hb]; exact H
theorem X_ret {tab : TTab} {rs : List ResultVar} {R : AVal → Heap → Prop} {v : AVal} (hv : ares tab e h rs = some v) (H : R v []) : APost nt tab rs R .ret e h := ⟨e, h, v, [], AWk.refl, hv, trivial, H⟩
theorem X_retW {tab : TTab} {rs : List ResultVar} {R : AVal → Heap → Prop} {v : AVal} {e' : Env} {h' h2 : Heap} (hk : AWk nt e h e' h') (hv : ares tab e' h' rs = some v) (hs : Sub h2 h') (H : R v h2) : APost nt tab rs R .ret e h := ⟨e', h', v, h2, hk, hv, hs, H⟩
theorem X_endW {tab : TTab} {rs : List ResultVar} {R : AVal → Heap → Prop} {v : AVal} {e' : Env} {h' h2 : Heap} (hk : AWk nt e h e' h') (hv : ares tab e' h' rs = some v) (hs : Sub h2 h') (H : R v h2) : APost nt tab rs R .normal e h := ⟨e', h', v, h2, hk, hv, hs, H⟩

theorem R_list {id : Nat} {l : List Oper} (H : AOps P nt l.toArray Q l e h) (hnd : l.all notDef = true := by rfl) : AWp z P nt (.region id l.toArray false) Q e h := A_region hnd H
def quietOp : Op → Bool
  | .alloc _ => false
  | .box _ _ => false
  | .buildSlice _ _ _ => false
  | .insert _ _ _ _ => false
  | .store _ _ _ => false
  | .makeMap _ _ => false
  | .makeSlice _ _ _ => false
  | .mapUpdate _ _ _ _ => false
  | .mapEntry _ _ _ => false
  | .entryStore _ _ _ _ => false
  | .range _ _ => false
  | .next _ _ => false
  | .defer _ => false
  | .call { callee := .builtin .append, .. } => false
  | .call { callee := .builtin .copy, .. } => false
  | .call { callee := .builtin .delete, .. } => false
  | .call { callee := .builtin .clear, .. } => false
  | _ => true
def quietOps (l : List Oper) : Bool := l.all fun o => quietOp o.op
theorem quiet_notDef {l : List Oper} (hq : quietOps l = true) : l.toArray.toList.all notDef = true := List.all_eq_true.2 fun o ho => by
  have h := List.all_eq_true.1 hq o (by simpa using ho)
  unfold notDef
  split
  · rename_i c hc; rw [hc] at h; cases h
  · rfl
theorem R_quiet {id : Nat} {l : List Oper} (hq : quietOps l = true) (hm : P.follows .mixedOrders = true) (hB : Region.lexB .any l.toArray = true) (H : AQ P nt l.toArray Q l e h) : AWp z P nt (.region id l.toArray true) Q e h := A_quiet (quiet_notDef hq) hm hB (by simpa using H)
theorem O_y {c : AVal} {d : Nat} (hw : awant ops e o = some true) (hdst : o.dst = some d) (hd : Nat.blt d nt = true) (hy : AYield P [] e h o c) (H : AOps P nt ops Q rest ((d, c) :: e) h) : AOps P nt ops Q (o :: rest) e h :=
  O_yield hw (by rw [hdst]; exact hd) hy (by rw [hdst]; exact H)
theorem O_s {d : Nat} (hw : awant ops e o = some false) (hdst : o.dst = some d) (hd : Nat.blt d nt = true) (H : AOps P nt ops Q rest ((d, .und) :: e) h) : AOps P nt ops Q (o :: rest) e h :=
  O_skip hw (by rw [hdst]; exact hd) (by rw [hdst]; exact H)
theorem O_sn (hw : awant ops e o = some false) (hdst : o.dst = none) (H : AOps P nt ops Q rest e h) : AOps P nt ops Q (o :: rest) e h :=
  O_skip hw (by rw [hdst]; rfl) (by rw [hdst]; exact H)
theorem Q_y {c : AVal} {d : Nat} (hw : awant ops e o = some true) (hdst : o.dst = some d) (hd : Nat.blt d nt = true) (hy : AYield P [] e h o c) (H : AQ P nt ops Q rest ((d, c) :: e) h) : AQ P nt ops Q (o :: rest) e h :=
  Q_yield hw (by rw [hdst]; exact hd) hy (by rw [hdst]; exact H)
theorem Q_s {d : Nat} (hw : awant ops e o = some false) (hdst : o.dst = some d) (hd : Nat.blt d nt = true) (H : AQ P nt ops Q rest ((d, .und) :: e) h) : AQ P nt ops Q (o :: rest) e h :=
  Q_skip hw (by rw [hdst]; exact hd) (by rw [hdst]; exact H)
theorem Q_c {f : FuncId} {args : Array Operand} {ats : Array TypeId} {cs : List AVal} {c : AVal} {v : Value} {d : Nat} (hw : awant ops e o = some true) (hdst : o.dst = some d) (hd : Nat.blt d nt = true) (ho : o.op = .call { callee := .value (.func f), args := args, argTypes := ats }) (hx : aevs e args.toList = some cs)
    (H : ACall P f cs [] (fun c' h' => c' = c ∧ h' = [])) (hc : valA c = some v) (hrel : ∀ w F ι, VRel w F ι c v) (HK : AQ P nt ops Q rest ((d, c) :: e) h) : AQ P nt ops Q (o :: rest) e h :=
  Q_call ho hx hw (by rw [hdst]; exact hd) H hc hrel (by rw [hdst]; exact HK)
theorem O_c {f : FuncId} {args : Array Operand} {ats : Array TypeId} {cs : List AVal} {c : AVal} {d : Nat} (hw : awant ops e o = some true) (hdst : o.dst = some d) (hd : Nat.blt d nt = true) (ho : o.op = .call { callee := .value (.func f), args := args, argTypes := ats }) (hx : aevs e args.toList = some cs)
    (H : ACall P f cs [] (fun c' h' => c' = c ∧ h' = [])) (hc : ∀ j, c.has j = false) (HK : AOps P nt ops Q rest ((d, c) :: e) h) : AOps P nt ops Q (o :: rest) e h :=
  O_eff (T := []) hw (E_call0 ho hdst hx H hd hc) fun e' h' ⟨h1, h2⟩ => by subst h1 h2; exact HK
theorem O_alloc {t : TypeId} {d : Nat} {z : List AVal} (TO : TabOk P tab) (hw : awant ops e o = some true) (hdst : o.dst = some d) (hd : Nat.blt d nt = true) (hid : Nat.blt d 1000 = true) (ho : o.op = .alloc t) (hz : tzero tab t = some z)
    (HK : AOps P nt ops Q rest ((d, .ptr d 0) :: killE d e) ((d, .var z) :: killH d h)) : AOps P nt ops Q (o :: rest) e h := by
  obtain ⟨te, h1, h2, rfl⟩ := tzero_spec hz
  exact O_eff (T := []) hw (E_alloc TO ho hdst h1 hid hd h2) fun e' h' ⟨h1, h2⟩ => by subst h1 h2; exact HK
theorem O_box {t : TypeId} {x : Operand} {d : Nat} {c : AVal} {cs : List AVal} (hw : awant ops e o = some true) (hdst : o.dst = some d) (hd : Nat.blt d nt = true) (hid : Nat.blt d 1000 = true) (ho : o.op = .box t x) (hx : aev e x = some c) (hcs : cellsA c = some cs)
    (HK : AOps P nt ops Q rest ((d, .ptr d 0) :: killE d e) ((d, .var (cs.map (killV d))) :: killH d h)) : AOps P nt ops Q (o :: rest) e h :=
  O_eff (T := []) hw (E_box ho hdst hx hcs hid hd) fun e' h' ⟨h1, h2⟩ => by subst h1 h2; exact HK
theorem O_store {t : TypeId} {x y : Operand} {id off s : Nat} {cs xs : List AVal} {c : AVal} (TO : TabOk P tab) (hw : awant ops e o = some true) (hdst : o.dst = none) (ho : o.op = .store t x y) (hx : aev e x = some (.ptr id off)) (hb : look h id = some (.var cs))
    (hy : aev e y = some c) (hcs : cellsA c = some xs) (hp : xs.all plainC = true) (hs : tsize tab t = some s) (hl : Nat.beq xs.length s = true) (hle : Nat.ble (off + s) cs.length = true)
    (HK : AOps P nt ops Q rest e ((id, .var (setW cs off xs)) :: h)) : AOps P nt ops Q (o :: rest) e h := by
  obtain ⟨te, h1, h2⟩ := tsize_spec hs
  subst h2
  exact O_eff (T := [id]) hw (E_store_ptr TO ho hdst h1 hx hb hy hcs hp hl hle rfl rfl (by simp)) fun e' h' ⟨h1, h2⟩ => by subst h1 h2; exact HK
theorem O_append {t el k rid n m d : Nat} {x y : Operand} {cx cy : AVal} {cs ds : List Dat} (rid0 : Nat) (hrid : rid = rid0) (TO : TabOk P tab) (hw : awant ops e o = some true) (hdst : o.dst = some d) (hd : Nat.blt d nt = true) (ho : o.op = .call { callee := .builtin .append, args := #[x, y], argTypes := #[t, t] })
    (hel : telem tab t = some el) (hsz : tsize tab el = some k) (hok : (match tlook tab el with | some te => Nat.blt 0 te.size && Nat.beq te.zero.length te.size && Nat.ble te.bytes 65536 | none => false) = true) (hid : Nat.blt rid 1000 = true)
    (hx : aev e x = some cx) (hy : aev e y = some cy) (D : Dst h el k rid cx n cs) (S : Src h cy m ds) (hl : ds.length = m * k) (hn : n + m ≤ 2147483648)
    (HK : AOps P nt ops Q rest ((d, .row rid) :: killE rid e) ((rid, .row el k (n + m) (cs ++ ds)) :: killH rid h)) : AOps P nt ops Q (o :: rest) e h := by
  obtain ⟨te, h1, h2⟩ := telem_spec hel
  obtain ⟨te', h3, rfl⟩ := tsize_spec hsz
  rw [h3] at hok
  simp only [Bool.and_eq_true] at hok
  exact O_eff (T := [rid]) hw (E_append TO ho hdst h1 h2 h3 hok.1.1 hok.1.2 hok.2 hx hy D S hl hn hid hd (by simp)) fun e' h' ⟨h1, h2⟩ => by subst h1 h2; exact HK
def datsA : List AVal → Option (List Dat)
  | [] => some []
  | .d x :: r => match datsA r with
    | some l => some (x :: l)
    | none => none
  | _ :: _ => none
theorem datsA_spec {xs : List AVal} {ds : List Dat} (h : datsA xs = some ds) : xs = ds.map AVal.d := by
  induction xs generalizing ds with
  | nil => cases h; rfl
  | cons c r ih =>
    cases c <;> simp [datsA] at h
    rename_i x
    cases hr : datsA r with
    | none => simp [hr] at h
    | some l => simp [hr] at h; subst h; rw [ih hr]; rfl
theorem O_slice {t el k len d : Nat} {ps : Array (Nat × Operand)} {al : List (Nat × AVal)} {xs : List AVal} {ds : List Dat} (TO : TabOk P tab) (hw : awant ops e o = some true) (hdst : o.dst = some d) (hd : Nat.blt d nt = true) (hid : Nat.blt d 1000 = true) (ho : o.op = .buildSlice t len ps)
    (hel : telem tab t = some el) (hsz : tsize tab el = some k) (hok : (match tlook tab el with | some te => te.zero.all (·.oneCell') && Nat.blt 0 te.size && Nat.beq te.zero.length te.size && Nat.blt (len * te.size) 16777216 && Nat.blt 0 len | none => false) = true)
    (hal : aparts e ps.toList = some al) (hf : (match tlook tab el with
      | some te => afill (fun i => some (i * te.size, te.size)) ((List.range (len * te.size)).map fun j => match te.zero[j % te.size]? with | some v => .d (.sc v) | none => .top) al
      | none => none) = some xs) (hds : datsA xs = some ds)
    (HK : AOps P nt ops Q rest ((d, .row d) :: killE d e) ((d, .row el k len ds) :: killH d h)) : AOps P nt ops Q (o :: rest) e h := by
  obtain ⟨te, h1, h2⟩ := telem_spec hel
  obtain ⟨te', h3, rfl⟩ := tsize_spec hsz
  rw [h3] at hok hf
  simp only [Bool.and_eq_true] at hok
  exact O_eff (T := []) hw (E_buildSlice TO ho hdst h1 h2 h3 hok.1.1.1.1 hok.1.1.1.2 hok.1.1.2 hok.1.2 hok.2 hal hf (datsA_spec hds) hid hd) fun e' h' ⟨h1, h2⟩ => by subst h1 h2; exact HK

theorem O_appR {t el k rid n m d : Nat} {x y : Operand} {cy : AVal} {cs ds : List Dat} (TO : TabOk P tab) (hw : awant ops e o = some true) (hdst : o.dst = some d) (hd : Nat.blt d nt = true) (ho : o.op = .call { callee := .builtin .append, args := #[x, y], argTypes := #[t, t] })
    (hel : telem tab t = some el) (hsz : tsize tab el = some k) (hok : (match tlook tab el with | some te => Nat.blt 0 te.size && Nat.beq te.zero.length te.size && Nat.ble te.bytes 65536 | none => false) = true)
    (hx : aev e x = some (.row rid)) (hb : look h rid = some (.row el k n cs)) (hid : Nat.blt rid 1000 = true) (hy : aev e y = some cy) (S : Src h cy m ds) (hl : ds.length = m * k) (hn : n + m ≤ 2147483648)
    (HK : AOps P nt ops Q rest ((d, .row rid) :: killE rid e) ((rid, .row el k (n + m) (cs ++ ds)) :: killH rid h)) : AOps P nt ops Q (o :: rest) e h :=
  O_append rid rfl TO hw hdst hd ho hel hsz hok hid hx hy (.row hb) S hl hn HK
theorem O_appN {t el k m d : Nat} {x y : Operand} {cy : AVal} {ds : List Dat} (TO : TabOk P tab) (hw : awant ops e o = some true) (hdst : o.dst = some d) (hd : Nat.blt d nt = true) (ho : o.op = .call { callee := .builtin .append, args := #[x, y], argTypes := #[t, t] })
    (hel : telem tab t = some el) (hsz : tsize tab el = some k) (hok : (match tlook tab el with | some te => Nat.blt 0 te.size && Nat.beq te.zero.length te.size && Nat.ble te.bytes 65536 | none => false) = true)
    (hx : aev e x = some (.d (.sc (.slice none 0 0)))) (hid : Nat.blt d 1000 = true) (hy : aev e y = some cy) (S : Src h cy m ds) (hl : ds.length = m * k) (hn : m ≤ 2147483648)
    (HK : AOps P nt ops Q rest ((d, .row d) :: killE d e) ((d, .row el k m ds) :: killH d h)) : AOps P nt ops Q (o :: rest) e h :=
  O_append d rfl TO hw hdst hd ho hel hsz hok hid hx hy .nil S hl (by omega) (by simpa using HK)
theorem row_eq {id el k n n' : Nat} {cs cs' : List Dat} (hn : n = n') (hc : cs = cs') {h : Heap} (hl : look h id = some (.row el k n cs)) : look h id = some (.row el k n' cs') := by subst hn hc; exact hl
theorem R_cmpT {op : BinOp} {t u : TypeId} {x y : Operand} {k : IntKind} {a b : Int} {c : Bool} (ho : o.op = .binOp op t x y u) (hx : aev e x = some (.d (.sc (.int k a)))) (hy : aev e y = some (.d (.sc (.int k b)))) (hr : ibin op k a b = some (.bool c)) (hc : c = true := by first | (simp only [decide_eq_true_eq, beq_iff_eq, bne_iff_ne, ne_eq]; done) | (simp only [decide_eq_true_eq, beq_iff_eq, bne_iff_ne, ne_eq]; omega)) :
    AYield P T e h o (.d (.sc (.bool true))) := by subst hc; exact Y_ibin ho hx hy hr
theorem R_cmpF {op : BinOp} {t u : TypeId} {x y : Operand} {k : IntKind} {a b : Int} {c : Bool} (ho : o.op = .binOp op t x y u) (hx : aev e x = some (.d (.sc (.int k a)))) (hy : aev e y = some (.d (.sc (.int k b)))) (hr : ibin op k a b = some (.bool c)) (hc : c = false := by first | (simp only [decide_eq_false_iff_not, beq_eq_false_iff_ne, bne_eq_false_iff_eq, ne_eq]; done) | (simp only [decide_eq_false_iff_not, beq_eq_false_iff_ne, bne_eq_false_iff_eq, ne_eq]; omega)) :
    AYield P T e h o (.d (.sc (.bool false))) := by subst hc; exact Y_ibin ho hx hy hr

theorem R_index {t el k j : Nat} {x y : Operand} {cs : List Dat} {n : Nat} {q : IntKind} {i : Int} (TO : TabOk P tab) (ho : o.op = .indexAddr t x y) (hel : telem tab t = some el) (hsz : tsize tab el = some k) (hx : aev e x = some (.d (.sl cs n))) (hy : aev e y = some (.d (.sc (.int q i)))) (hj : i = (j : Int)) (hlt : j < n) :
    AYield P T e h o (.iptr cs (j * k)) := by
  obtain ⟨te, h1, h2⟩ := telem_spec hel
  obtain ⟨te', h3, rfl⟩ := tsize_spec hsz
  subst hj
  exact Y_index_sl TO ho h1 h2 h3 hx hy ⟨by omega, by omega⟩
theorem R_indexr {t el el' k kk j id : Nat} {x y : Operand} {cs : List Dat} {n : Nat} {q : IntKind} {i : Int} (TO : TabOk P tab) (ho : o.op = .indexAddr t x y) (hel : telem tab t = some el) (hsz : tsize tab el = some k) (hx : aev e x = some (.row id)) (hb : look h id = some (.row el' kk n cs)) (hy : aev e y = some (.d (.sc (.int q i)))) (hj : i = (j : Int)) (hlt : j < n) :
    AYield P T e h o (.eptr id (j * k)) := by
  obtain ⟨te, h1, h2⟩ := telem_spec hel
  obtain ⟨te', h3, rfl⟩ := tsize_spec hsz
  subst hj
  exact Y_index_row TO ho h1 h2 h3 hx hb hy ⟨by omega, by omega⟩
theorem R_field {t f off o1 id : Nat} {x : Operand} (TO : TabOk P tab) (ho : o.op = .fieldAddr t x f) (hf : tfield tab t f = some off) (hx : aev e x = some (.ptr id o1)) (hb : (look h id).isSome = true) : AYield P T e h o (.ptr id (o1 + off)) := by
  obtain ⟨te, fs, ft, te', h1, h2, h3, h4, h5⟩ := tfield_spec hf
  exact Y_field_ptr TO ho h1 h2 h3 h4 h5 hx hb
theorem R_fielde {t f off o1 id : Nat} {x : Operand} (TO : TabOk P tab) (ho : o.op = .fieldAddr t x f) (hf : tfield tab t f = some off) (hx : aev e x = some (.eptr id o1)) (hb : (look h id).isSome = true) : AYield P T e h o (.eptr id (o1 + off)) := by
  obtain ⟨te, fs, ft, te', h1, h2, h3, h4, h5⟩ := tfield_spec hf
  exact Y_field_eptr TO ho h1 h2 h3 h4 h5 hx hb
theorem R_fieldi {t f off o1 : Nat} {x : Operand} {cs : List Dat} (TO : TabOk P tab) (ho : o.op = .fieldAddr t x f) (hf : tfield tab t f = some off) (hx : aev e x = some (.iptr cs o1)) : AYield P T e h o (.iptr cs (o1 + off)) := by
  obtain ⟨te, fs, ft, te', h1, h2, h3, h4, h5⟩ := tfield_spec hf
  exact Y_field_iptr TO ho h1 h2 h3 h4 h5 hx
def lval (ag : Bool) (xs : List AVal) : Option AVal := match ag, xs with
  | true, xs => some (.agg xs)
  | false, [c] => some c
  | false, _ => none
theorem lval_spec {ag : Bool} {xs : List AVal} {c : AVal} (h : lval ag xs = some c) : cond ag (some (.agg xs)) xs.head? = some c := by
  unfold lval at h
  split at h
  · exact h
  · exact h
  · cases h
theorem R_load {t id o1 s : Nat} {x : Operand} {cs xs : List AVal} {c : AVal} {ag : Bool} (TO : TabOk P tab) (ho : o.op = .load t x) (hs : tsize tab t = some s) (ha : tagg tab t = some ag) (hx : aev e x = some (.ptr id o1)) (hb : look h id = some (.var cs)) (hT : T.contains id = false)
    (hw : win cs o1 s = xs) (hl : Nat.beq xs.length s = true) (hc : lval ag xs = some c) : AYield P T e h o c := by
  obtain ⟨te, h1, rfl⟩ := tsize_spec hs
  obtain ⟨te', h3, rfl⟩ := tagg_spec ha
  rw [h1] at h3; cases h3
  exact Y_load_ptr TO ho h1 hx hb hT hw hl (lval_spec hc)
theorem R_loade {t id o1 s el k n : Nat} {x : Operand} {cs xs : List Dat} {c : AVal} {ag : Bool} (TO : TabOk P tab) (ho : o.op = .load t x) (hs : tsize tab t = some s) (ha : tagg tab t = some ag) (hx : aev e x = some (.eptr id o1)) (hb : look h id = some (.row el k n cs)) (hT : T.contains id = false)
    (hw : win cs o1 s = xs) (hl : Nat.beq xs.length s = true) (hc : lval ag (xs.map AVal.d) = some c) : AYield P T e h o c := by
  obtain ⟨te, h1, rfl⟩ := tsize_spec hs
  obtain ⟨te', h3, rfl⟩ := tagg_spec ha
  rw [h1] at h3; cases h3
  exact Y_load_eptr TO ho h1 hx hb hT (by rw [hw]) (by simpa using hl) (lval_spec hc)
theorem R_loadi {t o1 s : Nat} {x : Operand} {cs xs : List Dat} {c : AVal} {ag : Bool} (TO : TabOk P tab) (ho : o.op = .load t x) (hs : tsize tab t = some s) (ha : tagg tab t = some ag) (hx : aev e x = some (.iptr cs o1)) (hw : win cs o1 s = xs) (hl : Nat.beq xs.length s = true) (hc : lval ag (xs.map AVal.d) = some c) :
    AYield P T e h o c := by
  obtain ⟨te, h1, rfl⟩ := tsize_spec hs
  obtain ⟨te', h3, rfl⟩ := tagg_spec ha
  rw [h1] at h3; cases h3
  exact Y_load_iptr TO ho h1 hx hw hl (lval_spec hc)
theorem R_len {t el : Nat} {x : Operand} {cs : List Dat} {n : Nat} (TO : TabOk P tab) (ho : o.op = .call { callee := .builtin .len, args := #[x], argTypes := #[t] }) (hel : telem tab t = some el) (hx : aev e x = some (.d (.sl cs n))) : AYield P T e h o (.d (.sc (.int .i64 (n : Int)))) := by
  obtain ⟨te, h1, h2⟩ := telem_spec hel
  exact Y_len_sl TO ho h1 h2 hx
theorem R_lenr {t el el' id k n : Nat} {x : Operand} {cs : List Dat} (TO : TabOk P tab) (ho : o.op = .call { callee := .builtin .len, args := #[x], argTypes := #[t] }) (hel : telem tab t = some el) (hx : aev e x = some (.row id)) (hb : look h id = some (.row el' k n cs)) : AYield P T e h o (.d (.sc (.int .i64 (n : Int)))) := by
  obtain ⟨te, h1, h2⟩ := telem_spec hel
  exact Y_len_row TO ho h1 h2 hx hb
theorem R_lenn {t el : Nat} {x : Operand} (TO : TabOk P tab) (ho : o.op = .call { callee := .builtin .len, args := #[x], argTypes := #[t] }) (hel : telem tab t = some el) (hx : aev e x = some (.d (.sc (.slice none 0 0)))) : AYield P T e h o (.d (.sc (.int .i64 0))) := by
  obtain ⟨te, h1, h2⟩ := telem_spec hel
  exact Y_len_nil TO ho h1 h2 hx
theorem R_build {t : TypeId} {ps : Array (Nat × Operand)} {al : List (Nat × AVal)} {z xs : List AVal} {fs : List (Nat × TypeId)} (TO : TabOk P tab) (ho : o.op = .build t ps) (hz : tzero tab t = some z) (hfs : (match tlook tab t with | some ⟨_, _, _, _, .st fs⟩ => some fs | _ => none) = some fs) (hal' : fs.all (fun f => (tlook tab f.2).isSome) = true)
    (hal : aparts e ps.toList = some al) (hf : afill (stPlace tab fs) z al = some xs) : AYield P T e h o (.agg xs) := by
  obtain ⟨te, h1, h2, rfl⟩ := tzero_spec hz
  rw [h1] at hfs
  split at hfs
  · rename_i heq
    cases heq
    cases hfs
    exact Y_build TO ho h1 rfl hal' h2 hal hf
  · cases hfs
theorem wrap_nat {n : Int} {m : Nat} (h : n = (m : Int)) (h2 : m ≤ 9223372036854775807) : IntKind.i64.wrap n = (m : Int) := by rw [h]; exact wrap_i64 ⟨by omega, by omega⟩
theorem wrap_succ {k : Nat} (h2 : k < 9223372036854775807) : IntKind.i64.wrap ((k : Int) + 1) = ((k + 1 : Nat) : Int) := wrap_nat (by omega) (by omega)
theorem wrap_pred {k : Nat} (h1 : 1 ≤ k) (h2 : k ≤ 9223372036854775807) : IntKind.i64.wrap ((k : Int) - 1) = ((k - 1 : Nat) : Int) := wrap_nat (by omega) (by omega)
theorem A_ct {c : Operand} {x y : Code} {b : Bool} (hc : aev e c = some (.d (.sc (.bool b)))) (ht : AWp z P nt x Q e h) (hb : b = true := by first | rfl | assumption | (first | (simp only [decide_eq_true_eq]; done) | (simp only [decide_eq_true_eq]; omega))) : AWp z P nt (.cond c x y) Q e h := A_condt hc hb ht
theorem A_cf {c : Operand} {x y : Code} {b : Bool} (hc : aev e c = some (.d (.sc (.bool b)))) (ht : AWp z P nt y Q e h) (hb : b = false := by first | rfl | assumption | (first | (simp only [decide_eq_false_iff_not]; done) | (simp only [decide_eq_false_iff_not]; omega))) : AWp z P nt (.cond c x y) Q e h := A_condf hc hb ht
theorem win_flat {α : Type} {enc : α → List Dat} {sz : Nat} (hsz : ∀ x, (enc x).length = sz) (l : List α) (k j m : Nat) (hk : k < l.length) (hj : j + m ≤ sz) : win (l.flatMap enc) (k * sz + j) m = win (enc l[k]) j m := by
  induction l generalizing k with
  | nil => simp at hk
  | cons a r ih =>
    cases k with
    | zero =>
      simp only [List.flatMap_cons, Nat.zero_mul, Nat.zero_add, List.getElem_cons_zero, win]
      have := hsz a
      rw [List.drop_append_of_le_length (by omega), List.take_append_of_le_length (by simp; omega)]
    | succ k =>
      have h1 := ih k (by simpa using hk)
      simp only [List.flatMap_cons, List.getElem_cons_succ] at h1 ⊢
      rw [← h1]
      unfold win
      have := hsz a
      rw [show (k + 1) * sz + j = (enc a).length + (k * sz + j) by rw [this, Nat.add_mul]; omega, ← List.drop_drop, List.drop_left]
theorem win_flat0 {α : Type} {enc : α → List Dat} {sz : Nat} (hsz : ∀ x, (enc x).length = sz) (l : List α) (k m : Nat) (hk : k < l.length) (hj : m ≤ sz) : win (l.flatMap enc) (k * sz) m = win (enc l[k]) 0 m := win_flat hsz l k 0 m hk (by omega)
theorem win_flat2 {α : Type} {enc : α → List Dat} {sz : Nat} (hsz : ∀ x, (enc x).length = sz) (l : List α) (k j j2 m : Nat) (hk : k < l.length) (hj : j + j2 + m ≤ sz) : win (l.flatMap enc) (k * sz + j + j2) m = win (enc l[k]) (j + j2) m := by
  rw [Nat.add_assoc]; exact win_flat hsz l k (j + j2) m hk hj
theorem flat_len {α : Type} {enc : α → List Dat} {sz : Nat} (hsz : ∀ x, (enc x).length = sz) (l : List α) : (l.flatMap enc).length = l.length * sz := by
  induction l with
  | nil => simp
  | cons a r ih => simp [ih, hsz, Nat.add_mul]; omega
end
end Go.Proofs.YtpnhkkejcnicoaaGreat.Ab

namespace Go.Proofs.YtpnhkkejcnicoaaGreat.Ab
set_option linter.unusedVariables false
open Go.RowKit

theorem TFacts.elem {P : Program} {t : TypeId} {te : TE} {el : TypeId} (F : TFacts P t te) (hs : te.sh = .sl el) : P.elem t = el := by
  have := F.slice hs
  simp [Program.elem, this]

theorem see_pfx {xs ys : List Dat} {n : Nat} (w : World) (F : Nat → Prop) (ι : Nat → Option Value) (u : Value) (h : VRel w F ι (.d (.sl (xs ++ ys) n)) u) : VRel w F ι (.d (.sl xs n)) u := by
  cases h with
  | d _ _ hd =>
    generalize hz : xs ++ ys = zs at hd
    cases hd with
    | nil =>
      obtain ⟨h1, h2⟩ := List.append_eq_nil_iff.1 hz
      subst h1
      exact .d _ _ .nil
    | emp a =>
      obtain ⟨h1, h2⟩ := List.append_eq_nil_iff.1 hz
      subst h1
      exact .d _ _ (.emp a)
    | sl _ _ b o cap vs hn hl hf hc hr =>
      subst hz
      refine .d _ _ (.sl xs n b o cap (vs.take xs.length) hn (by simp at hl ⊢; omega) (fun hne => hf (by rintro rfl; simp at hne)) (fun i v hv => ?_) (fun i c v h1 h2 => ?_))
      · rw [List.getElem?_take] at hv
        split at hv
        · exact hc i v hv
        · cases hv
      · rw [List.getElem?_take] at h2
        split at h2
        · rename_i hi
          exact hr i c v (by rw [List.getElem?_append_left hi]; exact h1) h2
        · cases h2
section
variable {P : Program} {nt : Nat} {Q : Post} {e : Env} {h : Heap} {ops : Array Oper} {o : Oper} {rest : List Oper} {T : List Nat} {tab : TTab}
theorem O_weaken {e' : Env} {h' : Heap} {l : List Oper} (hk : AWk nt e h e' h') (H : AOps P nt ops Q l e' h') : AOps P nt ops Q l e h := fun hnd lq Pm F w0 pin ι a w R => by
  obtain ⟨ι', R'⟩ := hk Pm F w0 pin ι a w R
  exact H hnd lq Pm F w0 pin ι' a w R'
theorem R_min {x y : Operand} {ats : Array TypeId} {k : IntKind} {a b r : Int} (ho : o.op = .call { callee := .builtin .min, args := #[x, y], argTypes := ats }) (hx : aev e x = some (.d (.sc (.int k a)))) (hy : aev e y = some (.d (.sc (.int k b)))) (hr : (if b < a then b else a) = r) :
    AYield P T e h o (.d (.sc (.int k r))) := yield_of _ fun w F ι ac E => by
  refine ⟨.int k r, sc_rel rfl, fun w' => ?_⟩
  have h1 := (sc_of (aev_rel E hx)).1
  have h2 := (sc_of (aev_rel E hy)).1
  subst hr
  simp [execOp, ho, resolve, invoke, builtin, h1, h2, Builtin.min_, Builtin.min2]

theorem run_cutTo {t el : TypeId} {te te' : TE} (w' : World) (Ft : TFacts P t te) (hs : te.sh = .sl el) (Fe : TFacts P el te') (b : Option Addr) (hb : ∀ a, b = some a → a.add 0 = a) (n cap : Nat) (k : IntKind) (m : Nat) (hm : m ≤ cap) :
    (Instr.sliceAt t (.slice b n cap) none (some (.int k m)) none).run P w' = .ok (.slice b m cap) w' := by
  have hu := Ft.slice hs
  have he : P.elem t = el := Ft.elem hs
  rw [run_sliceAt_slice (t := t) (h := by rw [he]; exact hu), run_slice_h (P := P) (w := w') (t := t) (a := b) (len := n) (cap := cap) (ht := by rw [he]; exact hu) (kh := k) (h := (m : Int)) (by omega) (by omega), he, Fe.size]
  simp only [Result.andThen, sliced, Int.toNat_natCast, Nat.zero_mul, Nat.sub_zero]
  congr 2
  split
  · rfl
  · cases b with
    | none => rfl
    | some a => simp [hb a rfl]
theorem add0 (b o : Nat) : (⟨b, o, none⟩ : Addr).add 0 = ⟨b, o, none⟩ := rfl
theorem R_sliceD {t el k m : Nat} {x y : Operand} {cs : List Dat} {n : Nat} {q : IntKind} {i : Int} (TO : TabOk P tab) (ho : o.op = .slice t x none (some y) none) (hel : telem tab t = some el) (hsz : tsize tab el = some k) (hx : aev e x = some (.d (.sl cs n))) (hy : aev e y = some (.d (.sc (.int q i)))) (hi : i = (m : Int)) (hm : m ≤ n) :
    AYield P T e h o (.d (.sl cs m)) := by
  obtain ⟨te, h1, h2⟩ := telem_spec hel
  obtain ⟨te', h3, rfl⟩ := tsize_spec hsz
  subst hi
  refine yield_of _ fun w F ι a E => ?_
  have hv := aev_rel E hx
  have hk := (sc_of (aev_rel E hy)).1
  generalize hau : a.eval x = u at hv
  cases hv with
  | d _ _ hd =>
    cases hd with
    | nil =>
      have : m = 0 := by omega
      subst this
      exact ⟨_, .d _ _ .nil, fun w' => by simp only [execOp, ho, hau]; simp [hk]; rw [show (0 : Int) = ((0 : Nat) : Int) from rfl, run_cutTo w' (TO t te h1) h2 (TO el te' h3) none (fun a h => by cases h) 0 0 q 0 (Nat.le_refl _)]; rfl⟩
    | emp aa =>
      have : m = 0 := by omega
      subst this
      exact ⟨_, .d _ _ (.emp aa), fun w' => by simp only [execOp, ho, hau]; simp [hk]; rw [show (0 : Int) = ((0 : Nat) : Int) from rfl, run_cutTo w' (TO t te h1) h2 (TO el te' h3) (some aa) (fun a h => rfl) 0 0 q 0 (Nat.le_refl _)]; rfl⟩
    | sl _ _ b off cap vs hn hl hf hc hr =>
      exact ⟨_, .d _ _ (.sl cs m b off cap vs (by omega) hl hf hc hr), fun w' => by simp only [execOp, ho, hau]; simp [hk]; rw [run_cutTo w' (TO t te h1) h2 (TO el te' h3) _ (fun a h => by cases h; exact add0 _ _) n cap q m (by omega)]; rfl⟩
theorem E_buildSlice0 {t el : TypeId} {te te' : TE} {d : Option Tmp} {id : Nat} (TO : TabOk P tab) (ho : o.op = .buildSlice t 0 #[]) (hdst : o.dst = d) (ht : tlook tab t = some te) (hs : te.sh = .sl el) (hel : tlook tab el = some te') (hid : Nat.blt id 1000 = true) (hd : dstOk nt d = true) :
    AEff P nt T e h o (fun e' h' => e' = aput d (.row id) (killE id e) ∧ h' = (id, .row el te'.size 0 []) :: killH id h) := fun Pm F w0 pin ι a w R K Qx hK => by
  have hu := (TO t te ht).slice hs
  have hb : ∀ ι', ι' = upd ι id (some (.slice (some ⟨w.heap.size, 0, none⟩) 0 0)) → Ext w F ι (w.alloc (.cells #[] el)) ι' → BRel (w.alloc (.cells #[] el)) F ι' (.row el te'.size 0 []) (.slice (some ⟨w.heap.size, 0, none⟩) 0 0) := fun ι' h0 he =>
    ⟨[], ⟨by simp, .inr ⟨w.heap.size, 0, #[], rfl, Nat.zero_le _, heap_new _ _, Nat.le_refl _, Nat.zero_le _, by simp, by simp⟩⟩, rfl, by simp⟩
  obtain ⟨hR, hC⟩ := R.new (T := T) hid hd (.cells #[] el) (.slice (some ⟨w.heap.size, 0, none⟩) 0 0) (by simp [blockOf]) _ (.row id) hb fun ι' h1 => .row id _ rfl fun v hv => by subst h1; simp [upd] at hv; exact hv
  have hrun : (execOp a.eval o).run P w = .ok (.value (.slice (some ⟨w.heap.size, 0, none⟩) 0 0)) (w.alloc (.cells #[] el)) := by
    simp only [execOp, ho]
    simp [Instr.buildSlice, run_underlying hu, (TO el te' hel).size, Instr.fill, newRow, newObj, Sem.run]
    first | rfl | (rw [show Array.range 0 = #[] from rfl]; rfl) | (rw [show Array.range 0 = #[] from by decide]; simp)
  unfold Oper.wp
  rw [hrun, Oper.upon_value, hdst]
  exact hK _ _ _ _ _ ⟨rfl, rfl⟩ hR hC (put_defers _ _ _)
theorem O_slice0 {t el k d : Nat} (TO : TabOk P tab) (hw : awant ops e o = some true) (hdst : o.dst = some d) (hd : Nat.blt d nt = true) (hid : Nat.blt d 1000 = true) (ho : o.op = .buildSlice t 0 #[]) (hel : telem tab t = some el) (hsz : tsize tab el = some k)
    (HK : AOps P nt ops Q rest ((d, .row d) :: killE d e) ((d, .row el k 0 []) :: killH d h)) : AOps P nt ops Q (o :: rest) e h := by
  obtain ⟨te, h1, h2⟩ := telem_spec hel
  obtain ⟨te', h3, rfl⟩ := tsize_spec hsz
  exact O_eff (T := []) hw (E_buildSlice0 TO ho hdst h1 h2 h3 hid hd) fun e' h' ⟨h1, h2⟩ => by subst h1 h2; exact HK

theorem E_store_eptr {t : TypeId} {x y : Operand} {d : Option Tmp} {te : TE} {id off el k n : Nat} {cs ds : List Dat} {xs : List AVal} {c : AVal} (TO : TabOk P tab) (ho : o.op = .store t x y) (hdst : o.dst = d) (ht : tlook tab t = some te) (hx : aev e x = some (.eptr id off)) (hb : look h id = some (.row el k n cs))
    (hy : aev e y = some c) (hcs : cellsA c = some xs) (hds : xs = ds.map AVal.d) (hl : xs.length = te.size) (hle : off + te.size ≤ cs.length) (h0 : 0 < n) (hd : dstOk nt d = true) (hT : T.contains id = true) :
    AEff P nt T e h o (fun e' h' => e' = aput d .und e ∧ h' = (id, .row el k n (setW cs off ds)) :: h) := fun Pm F w0 pin ι a w R K Qx hK => by
  obtain ⟨v, hv, zs, hown, hlC, hr⟩ := R.heap.blk id _ hb
  have hrel := aev_rel R.env hx
  have hyr := aev_rel R.env hy
  obtain ⟨hsz, hcr⟩ := cells_rel hyr hcs
  obtain ⟨hzl, hcase⟩ := hown
  rcases hcase with ⟨_, h9⟩ | ⟨g, cap, cur, rfl, hg0, hC, hnc, hmx, hcs2, htake⟩
  · exact absurd h0 (by omega)
  have hnk : n * k ≤ cap * k := Nat.mul_le_mul_right _ hnc
  have hle2 : off + te.size ≤ n * k := by omega
  generalize hau : a.eval x = u at hrel
  cases hrel with
  | eptr _ _ _ h1 h2 =>
    obtain ⟨g', n', cap', h3, rfl⟩ := h2 _ hv
    cases h3
    have hdl : ds.length = te.size := by rw [← hl, hds, List.length_map]
    have hone : ∀ u ∈ (a.eval y).cells.toList, u.oneCell' = true := fun u hu => by
      obtain ⟨i, hi⟩ := List.mem_iff_getElem?.1 hu
      have hlt : i < xs.length := by rw [← hsz, ← Array.length_toList]; exact (List.getElem?_eq_some_iff.1 hi).1
      have hcc := hcr i xs[i] u (List.getElem?_eq_getElem hlt) (by simpa using hi)
      have hxi : xs[i] = .d (ds[i]'(by rw [hds] at hlt; simpa using hlt)) := by subst hds; simp
      rw [hxi] at hcc
      cases hcc with
      | d _ _ hdd => exact hdd.one
    have hrun := run_storeVar (w := w) (TO t te ht) hC (a.eval y) (by rw [hsz, hl]) (by rw [hcs2]; omega) hone (off := off)
    obtain ⟨hW, hnew⟩ := wrote_setRow (C' := (setW cur.toList off (a.eval y).cells.toList).toArray) hC (v := .slice (some ⟨g, 0, none⟩) n cap) rfl
    have hlen : (a.eval y).cells.toList.length = xs.length := by simpa using hsz
    unfold Oper.wp
    have hrun2 : (execOp a.eval o).run P w = .ok .skip (w.setRow g (setW cur.toList off (a.eval y).cells.toList).toArray) := by
      simp [execOp, ho, Instr.storeAt, Instr.sureAddr, hau, hrun]
    rw [hrun2, Oper.upon_skip, hdst]
    have hcl : cur.toList.length = cap * k := by simpa using hcs2
    refine hK ι _ _ _ _ ⟨rfl, rfl⟩ ?_ ?_ (put_defers _ _ _)
    · refine ⟨R.heap.wrote hW hv ⟨(setW cur.toList off (a.eval y).cells.toList).take (n * k), ⟨?_, .inr ⟨g, cap, _, rfl, hg0, hnew, hnc, hmx, ?_, rfl⟩⟩, ?_, fun i c' u h4 h5 => ?_⟩, (R.env.mono fun _ _ _ _ hv' => hv'.wrote hW hv).aput hd R.size .und, by rw [put_defers]; exact R.defers.ext (hW.ext hv), by rw [put_size]; exact R.size⟩
      · simp [setW]; omega
      · simp [setW]; omega
      · simp [setW]; omega
      · rw [setW_get (by omega)] at h4
        rw [List.getElem?_take] at h5
        split at h5
        · rename_i hin0
          rw [setW_get (by rw [hlen]; omega), hlen] at h5
          split at h4
          · rename_i hin
            rw [if_pos (by omega)] at h5
            have := hcr (i - off) (.d c') u (by rw [hds, List.getElem?_map, h4]; rfl) (by simpa using h5)
            have := this.wrote hW hv
            cases this with
            | d _ _ hdd => exact hdd
          · rename_i hin
            rw [if_neg (by omega)] at h5
            have := (VRel.d _ _ (hr i c' u h4 (by rw [← htake, List.getElem?_take, if_pos hin0]; exact h5))).wrote hW hv
            cases this with
            | d _ _ hdd => exact hdd
        · cases h5
    · exact ⟨⟨hW.os, hW.tape, hW.output, hW.size, fun r hr hne => hW.mem r hr fun hb => hne id (List.contains_iff_mem.1 hT) _ hv hb⟩, fun j _ u r hj hr _ => ⟨u, hj, hr⟩⟩
theorem O_storee {t : TypeId} {x y : Operand} {id off s el k n : Nat} {cs ds : List Dat} {xs : List AVal} {c : AVal} (TO : TabOk P tab) (hw : awant ops e o = some true) (hdst : o.dst = none) (ho : o.op = .store t x y) (hx : aev e x = some (.eptr id off)) (hb : look h id = some (.row el k n cs))
    (hy : aev e y = some c) (hcs : cellsA c = some xs) (hds : datsA xs = some ds) (hs : tsize tab t = some s) (hl : Nat.beq xs.length s = true) (hle : off + s ≤ cs.length) (h0 : 0 < n)
    (HK : AOps P nt ops Q rest e ((id, .row el k n (setW cs off ds)) :: h)) : AOps P nt ops Q (o :: rest) e h := by
  obtain ⟨te, h1, h2⟩ := tsize_spec hs
  subst h2
  exact O_eff (T := [id]) hw (E_store_eptr TO ho hdst h1 hx hb hy hcs (datsA_spec hds) (Nat.eq_of_beq_eq_true hl) hle h0 rfl (by simp)) fun e' h' ⟨h1, h2⟩ => by subst h1 h2; exact HK
end
def lendV (h : Heap) : AVal → AVal
  | .row id => match look h id with
    | some (.row _ _ n ds) => .d (.sl ds n)
    | _ => .top
  | c => c
theorem FreeB.all (r : Nat) : FreeB (fun _ => False) (fun _ => none) r := ⟨fun h => h, fun _ _ h => by cases h⟩
theorem lend_rel {Pm F : Nat → Prop} {w0 w : World} {pin ι : Nat → Option Value} {h : Heap} (H : HRel Pm F w0 pin ι h w) {c : AVal} {u : Value} (hc : VRel w F ι c u) : VRel w (fun _ => False) (fun _ => none) (lendV h c) u := by
  have other : ∀ {c : AVal}, VRel w F ι c u → VRel w (fun _ => False) (fun _ => none) c u := fun hc => hc.extF ⟨fun _ _ _ => rfl, fun r _ _ => FreeB.all r⟩ fun _ _ _ h => by cases h
  cases c with
  | row id =>
    cases hb : look h id with
    | none => simp only [lendV, hb]; exact .top u
    | some b =>
      cases b with
      | row el k n ds =>
        obtain ⟨v, hv, xs, hown, hl, hr⟩ := H.blk id _ hb
        cases hc with
        | row _ _ h1 h2 =>
          have := h2 v hv
          subst this
          rcases hown.2 with ⟨h3, h4⟩ | ⟨g, cap, cur, h3, _, hg, hn, _, hs, ht⟩
          · subst h3 h4
            have hx := hown.1
            rw [Nat.zero_mul] at hx
            have : ds = [] := List.length_eq_zero_iff.1 (by omega)
            subst this
            simp only [lendV, hb]
            exact .d _ _ .nil
          · subst h3
            simp only [lendV, hb]
            refine .d _ _ (.sl ds n g 0 cap xs hn hl (fun _ => FreeB.all g) (fun i x hx => ?_) fun i c x h5 h6 => (hr i c x h5 h6).ext (fun _ _ _ => rfl) fun r _ _ => FreeB.all r)
            rw [← ht, List.getElem?_take] at hx
            split at hx
            · simp only [World.cell?, hg]
              simpa using hx
            · cases hx
      | _ => simp only [lendV, hb]; exact .top u
  | _ => exact other hc
theorem args_lend {Pm F : Nat → Prop} {w0 w : World} {pin ι : Nat → Option Value} {h : Heap} (H : HRel Pm F w0 pin ι h w) {cs : List AVal} {us : Array Value} (A : ArgsRel w F ι cs us) : ArgsRel w (fun _ => False) (fun _ => none) (cs.map (lendV h)) us :=
  ⟨by rw [List.length_map]; exact A.1, fun i c u h1 h2 => by
    rw [List.getElem?_map] at h1
    cases hc : cs[i]? with
    | none => rw [hc] at h1; cases h1
    | some c' => rw [hc] at h1; cases h1; exact lend_rel H (A.2 i c' u hc h2)⟩
section
variable {P : Program} {nt : Nat} {Q : Post} {e : Env} {h : Heap} {ops : Array Oper} {o : Oper} {rest : List Oper} {T : List Nat} {tab : TTab}
theorem E_callL {f : FuncId} {args : Array Operand} {ats : Array TypeId} {cs : List AVal} {d : Option Tmp} {c : AVal} {v : Value} (ho : o.op = .call { callee := .value (.func f), args := args, argTypes := ats }) (hdst : o.dst = d) (hx : aevs e args.toList = some cs)
    (H : ACall P f (cs.map (lendV h)) [] (fun c' h' => c' = c ∧ h' = [])) (hd : dstOk nt d = true) (hc : valA c = some v) (hrel : ∀ w F ι, VRel w F ι c v) : AEff P nt T e h o (fun e' h' => e' = aput d c e ∧ h' = h) := fun Pm F w0 pin ι a w R K Qx hK => by
  unfold Oper.wp
  rw [run_callA H.1 ho, Oper.upon_enter, hdst]
  refine (H.2 _ _ w _ _ _ w (HRel.none (fun _ => False) w (fun _ h => h.elim)) (args_lend R.heap (args_of R.env hx))).mono ?_
  rintro x w' ⟨u, c', h', ι', rfl, ⟨rfl, rfl⟩, hH, hv⟩
  have := valA_rel hv hc
  subst this
  have G := hH.grewC
  exact hK ι _ _ _ w' ⟨rfl, rfl⟩ ((R.grew G).put hd (hrel _ _ _)) ⟨G.ct T, fun id _ v r h1 h2 _ => ⟨v, h1, h2⟩⟩ (put_defers _ _ _)
theorem O_cRow {f : FuncId} {args : Array Operand} {ats : Array TypeId} {cs : List AVal} {d id el k n : Nat} {ds : List Dat} (hw : awant ops e o = some true) (hdst : o.dst = some d) (hd : Nat.blt d nt = true) (ho : o.op = .call { callee := .value (.func f), args := args, argTypes := ats }) (hx : aevs e args.toList = some cs)
    (H : ACall P f cs [] (fun c' h' => c' = .row id ∧ h' = [(id, .row el k n ds)])) (hid : Nat.blt id 1000 = true) (HK : AOps P nt ops Q rest ((d, .row id) :: killEs [id] e) ((id, .row el k n ds) :: killHs [id] h)) : AOps P nt ops Q (o :: rest) e h :=
  O_eff (T := []) hw (E_callQ ho hdst hx H hd fun c' h' ⟨h1, h2⟩ => by
    subst h1 h2
    refine ⟨by simp [hid], fun j b i hb hh => ?_, fun j hj => ?_⟩
    · unfold look at hb
      cases hj : Nat.beq id j with
      | true => rw [hj] at hb; cases hb; simp [blkHas] at hh
      | false => rw [hj] at hb; cases hb
    · simp [AVal.has] at hj
      subst hj
      simp [look]) fun e' h' ⟨c, h2, ⟨h3, h4⟩, h5, h6⟩ => by subst h3 h4 h5 h6; exact HK
end
end Go.Proofs.YtpnhkkejcnicoaaGreat.Ab

namespace Go.Proofs.YtpnhkkejcnicoaaGreat.Ab
set_option linter.unusedVariables false
set_option linter.unusedSimpArgs false
set_option linter.unusedSectionVars false
open Go.RowKit
section
variable {P : Program} {nt : Nat} {T : List Nat} {e : Env} {h : Heap} {o : Oper} {tab : TTab}
theorem E_buildSliceA {t el : TypeId} {ps : Array (Nat × Operand)} {len : Nat} {te te' : TE} {d : Option Tmp} {id : Nat} {al : List (Nat × AVal)} {xs : List AVal} (TO : TabOk P tab) (ho : o.op = .buildSlice t len ps) (hdst : o.dst = d) (ht : tlook tab t = some te) (hs : te.sh = .sl el)
    (hel : tlook tab el = some te') (hz : te'.zero.all (·.oneCell') = true) (hk : Nat.blt 0 te'.size = true) (hk2 : Nat.beq te'.zero.length te'.size = true) (hlen : Nat.blt (len * te'.size) 16777216 = true) (hpos : Nat.blt 0 len = true) (hal : aparts e ps.toList = some al)
    (hf : afill (fun i => some (i * te'.size, te'.size)) ((List.range (len * te'.size)).map fun j => match te'.zero[j % te'.size]? with | some v => .d (.sc v) | none => .top) al = some xs) (hid : Nat.blt id 1000 = true) (hd : dstOk nt d = true) :
    AEff P nt T e h o (fun e' h' => e' = aput d (.row id) (killE id e) ∧ h' = (id, .rowA el te'.size len (xs.map (killV id))) :: killH id h) := fun Pm F w0 pin ι a w R K Qx hK => by
  have hu := (TO t te ht).slice hs
  obtain ⟨z, hz1, hz2, _⟩ := (TO el te' hel).zero w
  have hzl : z.cells.size = te'.size := by rw [← Array.length_toList, hz2]; exact Nat.eq_of_beq_eq_true hk2
  have hk : 0 < te'.size := by simp [Nat.blt] at hk; omega
  have hlen : len * te'.size < 16777216 := by simp [Nat.blt] at hlen; omega
  have hpos : 0 < len := by simp [Nat.blt] at hpos; omega
  let C0 : Array Value := (Array.range (len * te'.size)).map (z.cells[· % z.cells.size]!)
  have hget : ∀ j, j < len * te'.size → C0[j]? = te'.zero[j % te'.size]? ∧ ∃ v, te'.zero[j % te'.size]? = some v ∧ v.oneCell' = true := by
    intro j hj
    have hlt : j % te'.size < z.cells.size := by rw [hzl]; exact Nat.mod_lt _ hk
    have e1 : te'.zero[j % te'.size]? = some z.cells[j % te'.size] := by rw [← hz2, Array.getElem?_toList, Array.getElem?_eq_getElem hlt]
    refine ⟨?_, z.cells[j % te'.size], e1, List.all_eq_true.1 hz _ (List.mem_of_getElem? e1)⟩
    rw [e1]
    have hlt2 : j % z.cells.size < z.cells.size := by rw [hzl] at hlt ⊢; exact hlt
    simp only [C0, Array.getElem?_map]
    rw [Array.getElem?_range]
    simp only [hj, if_true, Option.map_some]
    rw [getElem!_pos z.cells _ hlt2]
    simp only [hzl]
  obtain ⟨C', g1, g2, g3⟩ := afill_rel R.env (fun i => some (i * te'.size, te'.size)) ps.toList al _ C0 xs hal hf (by simp [C0]) fun j c u h1 h2 => by
    have hj : j < len * te'.size := by have := (Array.getElem?_eq_some_iff.1 h2).1; simpa [C0] using this
    obtain ⟨e1, v, e2, e3⟩ := hget j hj
    rw [List.getElem?_map, List.getElem?_range hj] at h1
    simp only [Option.map_some, e2] at h1
    cases h1
    rw [e1, e2] at h2
    cases h2
    exact sc_rel e3
  have hxl : xs.length = len * te'.size := by
    have : ∀ (al : List (Nat × AVal)) (cells xs : List AVal) (place : Nat → Option (Nat × Nat)), afill place cells al = some xs → xs.length = cells.length := by
      intro al
      induction al with
      | nil => intro cells xs place h; cases h; rfl
      | cons p r ih =>
        intro cells xs place h
        obtain ⟨i, c⟩ := p
        rw [afill] at h
        split at h
        · rename_i off size ys _ _
          cases hb : Nat.beq ys.length size && Nat.ble (off + ys.length) cells.length with
          | false => rw [hb] at h; cases h
          | true =>
            rw [hb] at h
            have := ih _ _ _ h
            have hl := Nat.le_of_ble_eq_true (by simp only [Bool.and_eq_true] at hb; exact hb.2)
            rw [this]; simp [setW]; omega
        · cases h
    rw [this al _ xs _ hf]; simp
  have hb : ∀ ι', ι' = upd ι id (some (.slice (some ⟨w.heap.size, 0, none⟩) len len)) → Ext w F ι (w.alloc (.cells C' el)) ι' → BRel (w.alloc (.cells C' el)) F ι' (.rowA el te'.size len (xs.map (killV id))) (.slice (some ⟨w.heap.size, 0, none⟩) len len) := by
    intro ι' h0 he
    have hsz : C'.size = len * te'.size := by rw [g2, hxl]
    refine ⟨C'.toList, ⟨by simp [hsz], .inr ⟨w.heap.size, len, C', rfl, Nat.zero_le _, heap_new _ _, Nat.le_refl _, ?_, hsz, ?_⟩⟩, ?_, ?_⟩
    · have := Nat.le_mul_of_pos_right len hk
      unfold maxLen; omega
    · rw [List.take_of_length_le (by simp [hsz])]
    · simpa using g2
    · intro i c u h1 h2
      rw [List.getElem?_map] at h1
      cases hc : xs[i]? with
      | none => rw [hc] at h1; cases h1
      | some c0 =>
        rw [hc] at h1; cases h1
        subst h0
        exact (g3 i c0 u hc (by simpa using h2)).killed he
  obtain ⟨hR, hC⟩ := R.new (T := T) hid hd (.cells C' el) (.slice (some ⟨w.heap.size, 0, none⟩) len len) (by simp [blockOf]) _ (.row id) hb fun ι' h1 => .row id _ rfl fun v hv => by subst h1; simp [upd] at hv; exact hv
  have hrun : (execOp a.eval o).run P w = .ok (.value (.slice (some ⟨w.heap.size, 0, none⟩) len len)) (w.alloc (.cells C' el)) := by
    have hfill : Instr.fill (fun i => some (i * te'.size, te'.size)) C0 (ps.map fun p => (p.1, a.eval p.2)).toList = some C' := by rw [Array.toList_map]; exact g1
    simp only [execOp, ho]
    have h0 : ¬ (len = 0 ∨ te'.size = 0) := by omega
    rw [Array.toList_map] at hfill
    have hn : ¬ (16777216 < len * te'.size) := by omega
    simp [Instr.buildSlice, run_underlying hu, (TO el te' hel).size, hz1, hn]
    rw [show Instr.fill (fun i => some (i * te'.size, te'.size)) _ _ = some C' from hfill]
    simp [newRow, newObj, Sem.run]
    intro h9
    rcases Nat.mul_eq_zero.1 h9 with h9 | h9 <;> omega
  unfold Oper.wp
  rw [hrun, Oper.upon_value, hdst]
  exact hK _ _ _ _ _ ⟨rfl, rfl⟩ hR hC (put_defers _ _ _)
theorem Y_index_rowA {t : TypeId} {x y : Operand} {te te' : TE} {el el' : TypeId} {id kk n : Nat} {cs : List AVal} {k : IntKind} {i : Int} (TO : TabOk P tab) (ho : o.op = .indexAddr t x y) (ht : tlook tab t = some te) (hs : te.sh = .sl el)
    (hel : tlook tab el = some te') (hx : aev e x = some (.row id)) (hb : look h id = some (.rowA el' kk n cs)) (hy : aev e y = some (.d (.sc (.int k i)))) (hi : 0 ≤ i ∧ i < n) : AYield P T e h o (.eptr id (i.toNat * te'.size)) := fun Pm F w0 pin ι a w H E => by
  obtain ⟨v, hv, xs, hown, _⟩ := H.blk id _ hb
  have hr := aev_rel E hx
  have hk := (sc_of (aev_rel E hy)).1
  have hu := (TO t te ht).slice hs
  generalize hau : a.eval x = u at hr
  cases hr with
  | row _ _ h1 h2 =>
    have h3 := h2 v hv
    subst h3
    rcases hown.2 with ⟨_, h4⟩ | ⟨g, cap, cur, h3, _⟩
    · subst h4; exact absurd hi (by simp)
    · subst h3
      refine ⟨.pointer (some ⟨g, i.toNat * te'.size, none⟩), .eptr id _ _ rfl fun v' hv' => ?_, fun w' _ => ?_⟩
      · rw [hv] at hv'; cases hv'; exact ⟨g, n, cap, rfl, rfl⟩
      · simp [execOp, ho, hau, hk, run_indexAt w' hu (TO el te' hel) g 0 n cap k i hi]
theorem Y_len_rowA {t : TypeId} {x : Operand} {te : TE} {el el' : TypeId} {id k n : Nat} {cs : List AVal} (TO : TabOk P tab) (ho : o.op = .call { callee := .builtin .len, args := #[x], argTypes := #[t] }) (ht : tlook tab t = some te) (hs : te.sh = .sl el)
    (hx : aev e x = some (.row id)) (hb : look h id = some (.rowA el' k n cs)) : AYield P T e h o (.d (.sc (.int .i64 (n : Int)))) := fun Pm F w0 pin ι a w H E => by
  refine ⟨.int .i64 n, sc_rel rfl, fun w' _ => ?_⟩
  obtain ⟨v, hv, xs, hown, _⟩ := H.blk id _ hb
  have hr := aev_rel E hx
  have hu := (TO t te ht).slice hs
  have key : ∃ b c, a.eval x = .slice b n c := by
    generalize a.eval x = u at hr
    cases hr with
    | row _ _ h1 h2 =>
      rw [h2 v hv]
      rcases hown.2 with ⟨h3, h4⟩ | ⟨g, cap, cur, h3, _⟩
      · subst h4; exact ⟨_, _, h3⟩
      · exact ⟨_, _, h3⟩
  obtain ⟨b, c, hk⟩ := key
  simp [execOp, ho, resolve, invoke, builtin, hk, Builtin.len_, run_underlying hu, goInt]
theorem Y_load_eptrA {t : TypeId} {x : Operand} {te : TE} {id o1 : Nat} {el k n : Nat} {cs xs : List AVal} {c : AVal} (TO : TabOk P tab) (ho : o.op = .load t x) (ht : tlook tab t = some te) (hx : aev e x = some (.eptr id o1)) (hb : look h id = some (.rowA el k n cs))
    (hT : T.contains id = false) (hw : win cs o1 te.size = xs) (hl : Nat.beq xs.length te.size = true) (hc : cond te.agg (some (.agg xs)) xs.head? = some c) : AYield P T e h o c := fun Pm F w0 pin ι a w H E => by
  obtain ⟨v, hv, ys, hown, hly, hr⟩ := H.blk id _ hb
  have hrel := aev_rel E hx
  have hl := Nat.eq_of_beq_eq_true hl
  generalize hau : a.eval x = u at hrel
  cases hrel with
  | eptr _ _ _ h1 h2 =>
    obtain ⟨g, n', cap, h3, rfl⟩ := h2 _ hv
    subst h3
    have hvl : (win ys o1 te.size).length = xs.length := by
      subst hw; simp [win, hly]
    refine load_of (vs := win ys o1 te.size) ho (TO t te ht) hau (by rw [hvl, hl]) (by rw [hvl]) (fun j c u h4 h5 => ?_) hc (CT T ι w) fun w' hw' j u hj => ?_
    · exact hr (o1 + j) c u (win_get hw h4) (win_get rfl h5)
    · have h6 := win_get rfl hj
      have h7 := ct_same H hw' hv rfl hT
      have h8 := hown.cells (g := g) rfl (o1 + j) u h6
      rw [Addr.add_mid, Nat.zero_add] at h8
      exact cell_of_same h7 h8
theorem R_indexA {t el el' k kk j id : Nat} {x y : Operand} {cs : List AVal} {n : Nat} {q : IntKind} {i : Int} (TO : TabOk P tab) (ho : o.op = .indexAddr t x y) (hel : telem tab t = some el) (hsz : tsize tab el = some k) (hx : aev e x = some (.row id)) (hb : look h id = some (.rowA el' kk n cs)) (hy : aev e y = some (.d (.sc (.int q i)))) (hj : i = (j : Int)) (hlt : j < n) :
    AYield P T e h o (.eptr id (j * k)) := by
  obtain ⟨te, h1, h2⟩ := telem_spec hel
  obtain ⟨te', h3, rfl⟩ := tsize_spec hsz
  subst hj
  exact Y_index_rowA TO ho h1 h2 h3 hx hb hy ⟨by omega, by omega⟩
theorem R_lenA {t el el' id k n : Nat} {x : Operand} {cs : List AVal} (TO : TabOk P tab) (ho : o.op = .call { callee := .builtin .len, args := #[x], argTypes := #[t] }) (hel : telem tab t = some el) (hx : aev e x = some (.row id)) (hb : look h id = some (.rowA el' k n cs)) : AYield P T e h o (.d (.sc (.int .i64 (n : Int)))) := by
  obtain ⟨te, h1, h2⟩ := telem_spec hel
  exact Y_len_rowA TO ho h1 h2 hx hb
theorem R_loadA {t id o1 s el k n : Nat} {x : Operand} {cs xs : List AVal} {c : AVal} {ag : Bool} (TO : TabOk P tab) (ho : o.op = .load t x) (hs : tsize tab t = some s) (ha : tagg tab t = some ag) (hx : aev e x = some (.eptr id o1)) (hb : look h id = some (.rowA el k n cs)) (hT : T.contains id = false)
    (hw : win cs o1 s = xs) (hl : Nat.beq xs.length s = true) (hc : lval ag xs = some c) : AYield P T e h o c := by
  obtain ⟨te, h1, rfl⟩ := tsize_spec hs
  obtain ⟨te', h3, rfl⟩ := tagg_spec ha
  rw [h1] at h3; cases h3
  exact Y_load_eptrA TO ho h1 hx hb hT hw hl (lval_spec hc)
end
section
variable {P : Program} {nt : Nat} {Q : Post} {e : Env} {h : Heap} {ops : Array Oper} {o : Oper} {rest : List Oper} {tab : TTab}
theorem O_sliceA {t el k len d : Nat} {ps : Array (Nat × Operand)} {al : List (Nat × AVal)} {xs : List AVal} (TO : TabOk P tab) (hw : awant ops e o = some true) (hdst : o.dst = some d) (hd : Nat.blt d nt = true) (hid : Nat.blt d 1000 = true) (ho : o.op = .buildSlice t len ps)
    (hel : telem tab t = some el) (hsz : tsize tab el = some k) (hok : (match tlook tab el with | some te => te.zero.all (·.oneCell') && Nat.blt 0 te.size && Nat.beq te.zero.length te.size && Nat.blt (len * te.size) 16777216 && Nat.blt 0 len | none => false) = true)
    (hal : aparts e ps.toList = some al) (hf : (match tlook tab el with
      | some te => afill (fun i => some (i * te.size, te.size)) ((List.range (len * te.size)).map fun j => match te.zero[j % te.size]? with | some v => .d (.sc v) | none => .top) al
      | none => none) = some xs)
    (HK : AOps P nt ops Q rest ((d, .row d) :: killE d e) ((d, .rowA el k len (xs.map (killV d))) :: killH d h)) : AOps P nt ops Q (o :: rest) e h := by
  obtain ⟨te, h1, h2⟩ := telem_spec hel
  obtain ⟨te', h3, rfl⟩ := tsize_spec hsz
  rw [h3] at hok hf
  simp only [Bool.and_eq_true] at hok
  exact O_eff (T := []) hw (E_buildSliceA TO ho hdst h1 h2 h3 hok.1.1.1.1 hok.1.1.1.2 hok.1.1.2 hok.1.2 hok.2 hal hf hid hd) fun e' h' ⟨h1, h2⟩ => by subst h1 h2; exact HK
end
end Go.Proofs.YtpnhkkejcnicoaaGreat.Ab

namespace Go.Proofs.YtpnhkkejcnicoaaGreat.Ab
set_option linter.unusedVariables false
open Go.RowKit

def eqV : Value → Value → Option Bool
  | .int k a, .int k' b => if k = k' then some (a == b) else none
  | .bool a, .bool b => some (a == b)
  | .string a, .string b => some (a.toList == b.toList)
  | _, _ => none
def eqCells : List Value → List Value → Option Bool
  | [], [] => some true
  | a :: x, b :: y => match eqV a b, eqCells x y with
    | some p, some q => some (p && q)
    | _, _ => none
  | _, _ => none
def leafsF (g : TypeId → Option (List Sh)) : List (Nat × TypeId) → List Sh → Option (List Sh)
  | [], acc => some acc
  | f :: r, acc => match g f.2 with
    | some m => cond (Nat.beq acc.length f.1) (leafsF g r (acc ++ m)) none
    | none => none
def leafs (tab : TTab) : Nat → TypeId → Option (List Sh)
  | 0, _ => none
  | n + 1, t => match tlook tab t with
    | none => none
    | some te => match (match te.sh with
      | .it k => some [Sh.it k]
      | .bo => some [Sh.bo]
      | .str => some [Sh.str]
      | .st fs => leafsF (leafs tab n) fs []
      | _ => none) with
      | some ks => cond (Nat.beq te.size ks.length) (some ks) none
      | none => none
def leafOk : Sh → Value → Bool
  | .it _, .int _ _ => true
  | .bo, .bool _ => true
  | .str, .string _ => true
  | _, _ => false
def leafsOk : List Sh → List Value → Bool
  | [], [] => true
  | s :: r, v :: l => leafOk s v && leafsOk r l
  | _, _ => false
theorem leafsOk_len {ks : List Sh} {xs : List Value} (h : leafsOk ks xs = true) : xs.length = ks.length := by
  induction ks generalizing xs with
  | nil => cases xs with
    | nil => rfl
    | cons _ _ => cases h
  | cons k r ih => cases xs with
    | nil => cases h
    | cons x l => simp only [leafsOk, Bool.and_eq_true] at h; simp [ih h.2]
theorem leafsOk_one {s : Sh} {xs : List Value} (h : leafsOk [s] xs = true) : ∃ v, xs = [v] ∧ leafOk s v = true := by
  cases xs with
  | nil => cases h
  | cons v r =>
    simp only [leafsOk, Bool.and_eq_true] at h
    cases r with
    | nil => exact ⟨v, rfl, h.1⟩
    | cons _ _ => exact absurd h.2 (by simp [leafsOk])
theorem leaf_int {k : IntKind} {v : Value} (h : leafOk (.it k) v = true) : ∃ q n, v = .int q n := by cases v <;> first | exact ⟨_, _, rfl⟩ | cases h
theorem leaf_bool {v : Value} (h : leafOk .bo v = true) : ∃ b, v = .bool b := by cases v <;> first | exact ⟨_, rfl⟩ | cases h
theorem leaf_str {v : Value} (h : leafOk .str v = true) : ∃ b, v = .string b := by cases v <;> first | exact ⟨_, rfl⟩ | cases h
theorem leafsOk_append {a b : List Sh} {xs : List Value} (h : leafsOk (a ++ b) xs = true) : leafsOk a (xs.take a.length) = true ∧ leafsOk b (xs.drop a.length) = true := by
  induction a generalizing xs with
  | nil => exact ⟨rfl, h⟩
  | cons k r ih => cases xs with
    | nil => cases h
    | cons x l =>
      simp only [List.cons_append, leafsOk, Bool.and_eq_true] at h
      obtain ⟨h1, h2⟩ := ih h.2
      exact ⟨by simp [leafsOk, h.1, h1], by simpa using h2⟩
theorem eqCells_append {a b x y : List Value} (hl : a.length = b.length) : eqCells (a ++ x) (b ++ y) = match eqCells a b, eqCells x y with
    | some p, some q => some (p && q)
    | _, _ => none := by
  induction a generalizing b with
  | nil => cases b with
    | nil => simp [eqCells]; cases eqCells x y <;> rfl
    | cons _ _ => simp at hl
  | cons u r ih => cases b with
    | nil => simp at hl
    | cons v s =>
      have := ih (b := s) (by simpa using hl)
      simp only [List.cons_append, eqCells, this]
      cases eqV u v <;> cases eqCells r s <;> cases eqCells x y <;> simp [Bool.and_assoc]

section
variable {P : Program} {tab : TTab} {T : List Nat} {e : Env} {h : Heap} {o : Oper}
def ofCells (ag : Bool) (xs : List Value) : Value := match ag, xs with
  | true, xs => .agg xs.toArray
  | false, v :: _ => v
  | false, [] => undef
theorem leafs_spec (TO : TabOk P tab) {n : Nat} {t : TypeId} {ks : List Sh} (hk : leafs tab (n + 1) t = some ks) : ∃ te, tlook tab t = some te ∧ te.size = ks.length ∧
    ((te.agg = true ∧ ∃ fs F, te.sh = .st fs ∧ leafsF (leafs tab n) fs [] = some ks ∧ P.underlying t = some (.struct F) ∧ F.toList.map (fun f => (f.offset, f.type)) = fs ∧ F.toList.all (fun f => f.name != "_") = true) ∨
     (te.agg = false ∧ ((∃ k, ks = [.it k] ∧ P.underlying t = some (.int k)) ∨ (ks = [.bo] ∧ P.underlying t = some .bool) ∨ (ks = [.str] ∧ P.underlying t = some .string)))) := by
  rw [leafs] at hk
  cases hl : tlook tab t with
  | none => rw [hl] at hk; cases hk
  | some te =>
    rw [hl] at hk
    simp only at hk
    obtain ⟨d, hd, ha, hs⟩ := (TO t te hl).und
    refine ⟨te, rfl, ?_⟩
    split at hk
    · rename_i ks' hm
      cases hb : Nat.beq te.size ks'.length with
      | false => rw [hb] at hk; cases hk
      | true =>
        rw [hb] at hk
        cases hk
        refine ⟨Nat.eq_of_beq_eq_true hb, ?_⟩
        split at hm
        · rename_i k hsh; rw [hsh] at hs; cases hs; cases hm; exact .inr ⟨ha.symm, .inl ⟨k, rfl, hd⟩⟩
        · rename_i hsh; rw [hsh] at hs; cases hs; cases hm; exact .inr ⟨ha.symm, .inr (.inl ⟨rfl, hd⟩)⟩
        · rename_i hsh; rw [hsh] at hs; cases hs; cases hm; exact .inr ⟨ha.symm, .inr (.inr ⟨rfl, hd⟩)⟩
        · rename_i fs hsh; rw [hsh] at hs; obtain ⟨F, rfl, h1, h2⟩ := hs; exact .inl ⟨ha.symm, fs, F, hsh, hm, hd, h1, h2⟩
        · cases hm
    · cases hk
theorem run_part {t : TypeId} {te : TE} (w : World) (Fa : TFacts P t te) (C : Array Value) (off : Nat) (hl : off + te.size ≤ C.size) (h1 : te.agg = false → te.size = 1) : (part t C off).run P w = .ok (ofCells te.agg (win C.toList off te.size)) w := by
  unfold part
  rw [Sem.run_bind, Fa.run_agg, Result.andThen_ok]
  cases ha : te.agg with
  | true =>
    simp only [if_true, Sem.run_bind, Fa.size, Result.andThen_ok]
    have e1 : C.extract off (off + te.size) = (win C.toList off te.size).toArray := by
      apply Array.ext'
      simp [win, Array.toList_extract]
    rw [e1]; rfl
  | false =>
    have h2 := h1 ha
    have hlt : off < C.size := by omega
    simp only [Bool.false_eq_true, if_false]
    rw [Array.getElem?_eq_getElem hlt]
    have : win C.toList off te.size = [C[off]] := by
      unfold win
      rw [h2, List.drop_eq_getElem_cons (by simpa using hlt)]
      simp
    rw [this]; rfl
theorem run_eqLeafs (TO : TabOk P tab) (hst : ∀ t, (tlook tab t).isSome = true → P.stoodInHeld t = false) : ∀ (n : Nat) (t : TypeId) (ks : List Sh) (xs ys : List Value) (r : Bool) (d : Nat) (te : TE) (w : World), leafs tab n t = some ks → tlook tab t = some te → leafsOk ks xs = true → leafsOk ks ys = true → eqCells xs ys = some r → n ≤ d →
    (Op.equalIn (d + 1) t (ofCells te.agg xs) (ofCells te.agg ys)).run P w = .ok r w := by
  intro n
  induction n with
  | zero => intro t ks xs ys r d te w hk; cases hk
  | succ n ih =>
    intro t ks xs ys r d te w hk ht hx hy hr hd
    obtain ⟨te0, h0, hsz, hcase⟩ := leafs_spec TO hk
    rw [ht] at h0; cases h0
    rcases hcase with ⟨ha, fs, F, hsh, hF, hu, hfs, hnm⟩ | ⟨ha, hcase⟩
    · have hfo : P.fieldsOf t = F := by simp [Program.fieldsOf, hu]
      rw [ha]
      show (Op.equalIn (d + 1) t (.agg xs.toArray) (.agg ys.toArray)).run P w = _
      rw [run_equalIn_struct w d t xs.toArray ys.toArray (by rw [hfo]; exact hu) (hst t (by rw [ht]; rfl)), hfo]
      have hlx := leafsOk_len hx
      have hly := leafsOk_len hy
      have key : ∀ (FL : List Field) (acc : List Sh) (r : Bool), leafsF (leafs tab n) (FL.map fun f => (f.offset, f.type)) acc = some ks → FL.all (fun f => f.name != "_") = true → eqCells (xs.drop acc.length) (ys.drop acc.length) = some r → leafsOk (ks.drop acc.length) (xs.drop acc.length) = true → leafsOk (ks.drop acc.length) (ys.drop acc.length) = true →
          acc.length ≤ ks.length → (Op.eqFields d xs.toArray ys.toArray FL).run P w = .ok r w := by
        intro FL
        induction FL with
        | nil =>
          intro acc r h1 _ h2 _ _ _
          cases h1
          rw [List.drop_eq_nil_of_le (by omega), List.drop_eq_nil_of_le (by omega)] at h2
          cases h2
          rfl
        | cons f FL ihF =>
          intro acc r h1 h2 h3 h4 h5 h6
          simp only [List.all_cons, Bool.and_eq_true] at h2
          rw [List.map_cons, leafsF] at h1
          cases hm : leafs tab n f.type with
          | none => rw [hm] at h1; cases h1
          | some m =>
            rw [hm] at h1
            simp only at h1
            cases hb : Nat.beq acc.length f.offset with
            | false => rw [hb] at h1; cases h1
            | true =>
              rw [hb, cond_true] at h1
              have hoff := Nat.eq_of_beq_eq_true hb
              have hpre : ∀ (fl : List (Nat × TypeId)) (acc ks : List Sh), leafsF (leafs tab n) fl acc = some ks → ∃ s, ks = acc ++ s := by
                intro fl
                induction fl with
                | nil => intro acc ks h; cases h; exact ⟨[], by simp⟩
                | cons g fl ihg =>
                  intro acc ks h
                  rw [leafsF] at h
                  cases hg : leafs tab n g.2 with
                  | none => rw [hg] at h; cases h
                  | some m' =>
                    rw [hg] at h
                    simp only at h
                    cases hb' : Nat.beq acc.length g.1 with
                    | false => rw [hb'] at h; cases h
                    | true =>
                      rw [hb', cond_true] at h
                      obtain ⟨s, hs⟩ := ihg _ _ h
                      exact ⟨m' ++ s, by rw [hs, List.append_assoc]⟩
              obtain ⟨s, hs⟩ := hpre _ _ _ h1
              have hle : acc.length + m.length ≤ ks.length := by rw [hs]; simp
              cases n with
              | zero => cases hm
              | succ n' =>
              obtain ⟨te', h7, h8, _⟩ := leafs_spec TO hm
              have h9 : te'.agg = false → te'.size = 1 := by
                obtain ⟨te2, g1, g2, g3⟩ := leafs_spec TO hm
                rw [h7] at g1; cases g1
                intro hag
                rcases g3 with ⟨g4, _⟩ | ⟨_, ⟨k, g5, _⟩ | ⟨g5, _⟩ | ⟨g5, _⟩⟩
                · rw [hag] at g4; cases g4
                all_goals rw [g2, g5]; rfl
              have hks : ks.drop acc.length = m ++ s := by rw [hs, List.append_assoc]; simp
              rw [hks] at h4 h5
              obtain ⟨h4a, h4b⟩ := leafsOk_append h4
              obtain ⟨h5a, h5b⟩ := leafsOk_append h5
              have ex : xs.drop acc.length = win xs f.offset te'.size ++ xs.drop (acc ++ m).length := by
                unfold win; rw [← hoff, h8, List.length_append, ← List.drop_drop, List.take_append_drop]
              have ey : ys.drop acc.length = win ys f.offset te'.size ++ ys.drop (acc ++ m).length := by
                unfold win; rw [← hoff, h8, List.length_append, ← List.drop_drop, List.take_append_drop]
              have hwx : (win xs f.offset te'.size).length = m.length := by unfold win; simp; omega
              have hwy : (win ys f.offset te'.size).length = m.length := by unfold win; simp; omega
              rw [ex, ey, eqCells_append (by omega)] at h3
              cases hp : eqCells (win xs f.offset te'.size) (win ys f.offset te'.size) with
              | none => rw [hp] at h3; cases h3
              | some p =>
                cases hq : eqCells (xs.drop (acc ++ m).length) (ys.drop (acc ++ m).length) with
                | none => rw [hp, hq] at h3; cases h3
                | some q =>
                  rw [hp, hq] at h3
                  cases h3
                  have wx : win xs f.offset te'.size = (xs.drop acc.length).take m.length := by unfold win; rw [← hoff, h8]
                  have wy : win ys f.offset te'.size = (ys.drop acc.length).take m.length := by unfold win; rw [← hoff, h8]
                  have hrun := ih f.type m (win xs f.offset te'.size) (win ys f.offset te'.size) p (d - 1) te' w hm h7 (by rw [wx]; exact h4a) (by rw [wy]; exact h5a) hp (by omega)
                  rw [show d - 1 + 1 = d by omega] at hrun
                  have hpa := run_part (P := P) w (TO _ _ h7) xs.toArray f.offset (by simp; omega) h9
                  have hpb := run_part (P := P) w (TO _ _ h7) ys.toArray f.offset (by simp; omega) h9
                  have hnext := ihF (acc ++ m) q h1 h2.2 hq (by
                    have : ks.drop (acc ++ m).length = s := by rw [hs]; simp
                    rw [this]
                    have e2 : xs.drop (acc ++ m).length = (xs.drop acc.length).drop m.length := by rw [List.drop_drop, List.length_append]
                    rw [e2]; exact h4b) (by
                    have : ks.drop (acc ++ m).length = s := by rw [hs]; simp
                    rw [this]
                    have e2 : ys.drop (acc ++ m).length = (ys.drop acc.length).drop m.length := by rw [List.drop_drop, List.length_append]
                    rw [e2]; exact h5b) (by simpa using hle)
                  have hne : f.name ≠ "_" := by simpa using h2.1
                  simp only [Op.eqFields, ne_eq, hne, not_false_eq_true, if_true, Sem.run_bind, hpa, hpb, Result.andThen_ok, hrun]
                  cases p with
                  | false => simp
                  | true => simpa using hnext
      refine key F.toList [] r (by rw [hfs]; exact hF) hnm (by simpa using hr) (by simpa using hx) (by simpa using hy) (Nat.zero_le _)
    · rw [ha]
      rcases hcase with ⟨k, rfl, hu⟩ | ⟨rfl, hu⟩ | ⟨rfl, hu⟩
      · obtain ⟨x, rfl, hx1⟩ := leafsOk_one hx
        obtain ⟨y, rfl, hy1⟩ := leafsOk_one hy
        obtain ⟨k1, a, rfl⟩ := leaf_int hx1
        obtain ⟨k2, b, rfl⟩ := leaf_int hy1
        have hr' : (match eqV (.int k1 a) (.int k2 b) with | some p => some (p && true) | none => none) = some r := by
          simp only [eqCells] at hr; cases hq : eqV (.int k1 a) (.int k2 b) <;> rw [hq] at hr <;> exact hr
        simp only [eqV] at hr'
        by_cases hkk : k1 = k2
        · subst hkk
          simp at hr'
          subst hr'
          exact run_equalIn_int w d t _ _ _ _ hu
        · simp [hkk] at hr'
      · obtain ⟨x, rfl, hx1⟩ := leafsOk_one hx
        obtain ⟨y, rfl, hy1⟩ := leafsOk_one hy
        obtain ⟨a, rfl⟩ := leaf_bool hx1
        obtain ⟨b, rfl⟩ := leaf_bool hy1
        simp [eqCells, eqV] at hr
        subst hr
        exact run_equalIn_bool' w d t _ _ hu
      · obtain ⟨x, rfl, hx1⟩ := leafsOk_one hx
        obtain ⟨y, rfl, hy1⟩ := leafsOk_one hy
        obtain ⟨a, rfl⟩ := leaf_str hx1
        obtain ⟨b, rfl⟩ := leaf_str hy1
        simp [eqCells, eqV] at hr
        subst hr
        exact run_equalIn_string w d t _ _ hu
def scL : List AVal → Option (List Value)
  | [] => some []
  | .d (.sc v) :: r => match scL r with
    | some l => some (v :: l)
    | none => none
  | _ :: _ => none
theorem scL_spec {w : World} {F : Nat → Prop} {ι : Nat → Option Value} {cs : List AVal} {xs : List Value} (h : scL cs = some xs) {C : Array Value} (hl : C.size = cs.length) (hr : ∀ (i : Nat) (c : AVal) (u : Value), cs[i]? = some c → C[i]? = some u → VRel w F ι c u) : C = xs.toArray := by
  have key : ∀ (cs : List AVal) (xs : List Value), scL cs = some xs → xs.length = cs.length ∧ ∀ (i : Nat) (v : Value), xs[i]? = some v → cs[i]? = some (.d (.sc v)) := by
    intro cs
    induction cs with
    | nil => intro xs h; cases h; exact ⟨rfl, by simp⟩
    | cons c r ih =>
      intro xs h
      have hv : ∃ v, c = .d (.sc v) := by
        cases c with
        | d x => cases x with
          | sc v => exact ⟨v, rfl⟩
          | sl _ _ => cases h
          | cut _ _ _ => cases h
        | _ => cases h
      obtain ⟨v, rfl⟩ := hv
      rw [scL] at h
      cases hr : scL r with
      | none => simp [hr] at h
      | some l =>
        simp [hr] at h
        subst h
        obtain ⟨h1, h2⟩ := ih l hr
        refine ⟨by simp [h1], fun i v' hi => ?_⟩
        cases i with
        | zero => simp at hi; subst hi; rfl
        | succ i => simpa using h2 i v' (by simpa using hi)
  obtain ⟨h1, h2⟩ := key cs xs h
  apply Array.ext
  · simp [hl, h1]
  · intro i hi hi2
    have hi3 : i < xs.length := by simpa using hi2
    exact (sc_of (hr i _ C[i] (h2 i xs[i] (List.getElem?_eq_getElem hi3)) (Array.getElem?_eq_getElem hi))).1
theorem Y_eq {op : BinOp} {t u : TypeId} {x y : Operand} {cs ds : List AVal} {xs ys : List Value} {ks : List Sh} {r r2 : Bool} (TO : TabOk P tab) (hst : ∀ t, (tlook tab t).isSome = true → P.stoodInHeld t = false) (ho : o.op = .binOp op t x y u) (hx : aev e x = some (.agg cs)) (hy : aev e y = some (.agg ds))
    (h1 : scL cs = some xs) (h2 : scL ds = some ys) (hk : leafs tab 8 t = some ks) (hag : tagg tab t = some true) (hkx : leafsOk ks xs = true) (hky : leafsOk ks ys = true) (hg : P.eqGuardType P.depth t = false) (hr : eqCells xs ys = some r) (hop : (match op with | .eql => some r | .neq => some (!r) | _ => none) = some r2) :
    AYield P T e h o (.d (.sc (.bool r2))) := yield_of _ fun w F ι a E => by
  refine ⟨.bool r2, sc_rel rfl, fun w' => ?_⟩
  obtain ⟨te, h3, h4⟩ := tagg_spec hag
  have hvx := aev_rel E hx
  have hvy := aev_rel E hy
  generalize hax : a.eval x = u at hvx
  generalize hay : a.eval y = v at hvy
  cases hvx with
  | agg _ C hl hrr =>
    cases hvy with
    | agg _ D hl2 hrr2 =>
      have e1 := scL_spec h1 hl hrr
      have e2 := scL_spec h2 hl2 hrr2
      subst e1 e2
      have hrun := run_eqLeafs TO hst 8 t ks xs ys r 9999 te w' hk h3 hkx hky hr (by omega)
      rw [h4] at hrun
      have hrun2 : (Op.equalIn 10000 t (.agg xs.toArray) (.agg ys.toArray)).run P w' = .ok r w' := hrun
      simp only [execOp, ho, hax, hay]
      cases op <;> simp only [Option.some.injEq, reduceCtorEq] at hop
      · subst hop
        simp [run_eqGuard_agg w' .eql t x y _ _ hg, run_eql_struct, hrun2]
      · subst hop
        simp [run_eqGuard_agg w' .neq t x y _ _ hg, run_neq_struct, hrun2]
end

mutual
def oneA : AVal → Bool
  | .d (.sc v) => v.oneCell'
  | .agg cs => oneL cs
  | .tup cs => oneL cs
  | _ => false
def oneL : List AVal → Bool
  | [] => true
  | c :: r => oneA c && oneL r
end
mutual
theorem val_mk (w : World) (F : Nat → Prop) (ι : Nat → Option Value) : (c : AVal) → (v : Value) → valA c = some v → oneA c = true → VRel w F ι c v
  | .d (.sc u), v, h, h1 => by cases h; exact sc_rel h1
  | .agg cs, v, h, h1 => by
    rw [valA] at h
    cases hc : valL cs with
    | none => rw [hc] at h; cases h
    | some l =>
      rw [hc] at h
      cases h
      obtain ⟨h2, h3⟩ := valL_mk w F ι cs l hc h1
      exact .agg cs _ (by simpa using h2) fun i c u hi hu => h3 i c u hi (by simpa using hu)
  | .tup cs, v, h, h1 => by
    rw [valA] at h
    cases hc : valL cs with
    | none => rw [hc] at h; cases h
    | some l =>
      rw [hc] at h
      cases h
      obtain ⟨h2, h3⟩ := valL_mk w F ι cs l hc h1
      exact .tup cs _ (by simpa using h2) fun i c u hi hu => h3 i c u hi (by simpa using hu)
  | .d (.sl _ _), _, h, _ => by cases h
  | .top, _, h, _ => by cases h
  | .und, _, h, _ => by cases h
  | .ptr _ _, _, h, _ => by cases h
  | .eptr _ _, _, h, _ => by cases h
  | .iptr _ _, _, h, _ => by cases h
  | .row _, _, h, _ => by cases h
  | .mp _, _, h, _ => by cases h
  | .fn _ _, _, h, _ => by cases h
theorem valL_mk (w : World) (F : Nat → Prop) (ι : Nat → Option Value) : (cs : List AVal) → (l : List Value) → valL cs = some l → oneL cs = true → l.length = cs.length ∧ ∀ (i : Nat) (c : AVal) (u : Value), cs[i]? = some c → l[i]? = some u → VRel w F ι c u
  | [], l, h, _ => by cases h; exact ⟨rfl, by simp⟩
  | c :: r, l, h, h1 => by
    rw [valL] at h
    simp only [oneL, Bool.and_eq_true] at h1
    cases hc : valA c with
    | none => simp [hc] at h
    | some v =>
      cases hr : valL r with
      | none => simp [hc, hr] at h
      | some l' =>
        simp [hc, hr] at h
        subst h
        obtain ⟨h2, h3⟩ := valL_mk w F ι r l' hr h1.2
        refine ⟨by simp [h2], fun i c' u hi hu => ?_⟩
        cases i with
        | zero => simp at hi hu; subst hi hu; exact val_mk w F ι c v hc h1.1
        | succ i => exact h3 i c' u (by simpa using hi) (by simpa using hu)
end
theorem ACall_val {P : Program} {f : FuncId} {cs : List AVal} {us : List Value} {c : AVal} {v : Value} (hg : isGo P f = true) (hu : valL cs = some us) (hv : valA c = some v) (h1 : oneA c = true)
    (H : ∀ w, Calls P f us.toArray w fun e w' => e = .returned v ∧ Below w.heap.size w w') : ACall P f cs [] (fun c' h' => c' = c ∧ h' = []) := ⟨hg, fun Pm F w0 pin ι xs w HH HA => by
  have hx : xs = us.toArray := by
    have h2 : VRel w F ι (.agg cs) (.agg xs) := .agg cs xs HA.1 HA.2
    have h3 : valA (.agg cs) = some (.agg us.toArray) := by rw [valA, hu]
    have h4 := valA_rel h2 h3
    injection h4
  subst hx
  refine (H w).mono ?_
  rintro e w' ⟨rfl, hb⟩
  exact ⟨v, c, [], ι, rfl, ⟨rfl, rfl⟩, HH.grew (Grew.of_below hb), val_mk _ _ _ c v hv h1⟩⟩
end Go.Proofs.YtpnhkkejcnicoaaGreat.Ab

namespace Go.Proofs.YtpnhkkejcnicoaaGreat.Ab
set_option linter.unusedVariables false
open Go.RowKit

def onlyN (Q : Exit → Act → World → Prop) : Exit → Act → World → Prop := fun x a w => x = .normal ∧ Q x a w
def AAny (P : Program) (nt : Nat) (ops : Array Oper) (Q : Post) (T : List Nat) (fuel : Nat) (listed : Array Bool) (e : Env) (h : Heap) : Prop :=
  ∀ Pm F w0 pin ι a w, Rel Pm F w0 pin ι nt e h a w → wpAnyH P .any ops (onlyN (real Pm F w0 pin nt Q)) (CT T ι w) fuel listed a w
def AAt (P : Program) (nt : Nat) (ops : Array Oper) (Q : Post) (T : List Nat) (fuel : Nat) (listed : Array Bool) (i : Nat) (e : Env) (h : Heap) : Prop :=
  ∀ Pm F w0 pin ι a w, Rel Pm F w0 pin ι nt e h a w → wpOp P ops (onlyN (real Pm F w0 pin nt Q)) i (fun a' w' => CT T ι w w' ∧ wpAnyH P .any ops (onlyN (real Pm F w0 pin nt Q)) (CT T ι w) fuel (listed.setIfInBounds i true) a' w') a w
def memOp : Op → Bool
  | .load _ _ => true
  | .lookup _ _ _ _ => true
  | .call _ => true
  | _ => false
def NoPanic (Q : Post) : Prop := ∀ ch e h, ¬ Q (.panic ch) e h
theorem np_then {K : Env → Heap → Prop} {Q : Post} (h : NoPanic Q) : NoPanic (AThen K Q) := fun ch e h' hq => h ch e h' hq
theorem np_in {j : Nat} {Q : Post} (h : NoPanic Q) : NoPanic (AIn j Q) := fun ch e h' hq => h ch e h' hq
theorem np_post {nt : Nat} {tab : TTab} {rs : List ResultVar} {R : AVal → Heap → Prop} : NoPanic (APost nt tab rs R) := fun _ _ _ h => h
section
variable {P : Program} {nt : Nat} {Q : Post} {e : Env} {h : Heap} {ops : Array Oper} {T : List Nat} {fuel i : Nat} {listed : Array Bool} {o : Oper}
theorem wpAnyH_mono {S S' : World → Prop} {Q' : Exit → Act → World → Prop} (hS : ∀ w, S w → S' w) : ∀ (fuel : Nat) (listed : Array Bool) (a : Act) (w : World), wpAnyH P .any ops Q' S fuel listed a w → wpAnyH P .any ops Q' S' fuel listed a w
  | 0, _, _, _, h => h
  | fuel + 1, _, _, _, h => ⟨h.1, fun i hi => wpOp_mono (fun a' w' h' => ⟨hS _ h'.1, wpAnyH_mono hS fuel _ a' w' h'.2⟩) (h.2 i hi)⟩
theorem real_panic {Pm F : Nat → Prop} {w0 w : World} {pin : Nat → Option Value} {a : Act} {ch : List PanicEntry} {Q : Post} (hQ : NoPanic Q) : ¬ onlyN (real Pm F w0 pin nt Q) (.panic ch) a w := fun h => by cases h.1
theorem N_begin {z : Bool} {id : Nat} {l : List Oper} (T : List Nat) (hm : P.follows .mixedOrders = true) (H : AAny P nt l.toArray Q T l.toArray.size (Array.replicate l.toArray.size false) e h) (hnd : l.all notDef = true := by rfl) : AWp z P nt (.region id l.toArray true) Q e h := fun lq Pm F w0 pin ι a w hz R =>
  wpIn_mono (wpIn_region_any hm (any_fq (Q := onlyN (real Pm F w0 pin nt Q)) (fun ⟨_, _, h, _⟩ => by cases h) hnd _ _ _ _ (wpAny_of_held _ _ _ _ (H Pm F w0 pin ι a _ (R.grew (Grew.drew w)))))) fun x a w h => h.2
theorem N_take {c : AVal} {d : Nat} (hi : ops[i]? = some o) (hs : Region.noSelect ops = true) (hf : Region.free .any ops listed i = true) (hr : (Region.ready .any ops listed).contains i = true) (hQ : NoPanic Q)
    (hw : awant ops e o = some true) (hdst : o.dst = some d) (hd : Nat.blt d nt = true) (hy : AYield P T e h o c) (H : AAny P nt ops Q T fuel (listed.setIfInBounds i true) ((d, c) :: e) h) : AAny P nt ops Q T (fuel + 1) listed e h := fun Pm F w0 pin ι a w R => by
  obtain ⟨v, hv, hrun⟩ := hy Pm F w0 pin ι a w R.heap R.env
  refine wpAnyH_take hi hs hf hr (fun ch a w hp => absurd hp (real_panic hQ)) (.inl ⟨awant_rel R.env hw, fun w' hw' => hrun w' hw'⟩) (CT.refl _ _ _) ?_
  have R' := R.put (d := some d) hd hv
  rw [hdst]
  exact H Pm F w0 pin ι _ w R'
theorem N_all {rs : List Nat} (hr : Region.ready .any ops listed = rs) (hne : rs.isEmpty = false) (H : ∀ i ∈ rs, AAt P nt ops Q T fuel listed i e h) : AAny P nt ops Q T (fuel + 1) listed e h := fun Pm F w0 pin ι a w R =>
  wpAnyH_all hr (by rintro rfl; cases hne) fun i hi => H i hi Pm F w0 pin ι a w R
theorem N_one {j : Nat} (hr : Region.ready .any ops listed = [j]) (H : AAt P nt ops Q T fuel listed j e h) : AAny P nt ops Q T (fuel + 1) listed e h :=
  N_all hr rfl fun i hi => by rw [List.mem_singleton.1 hi]; exact H
theorem N_two {j k : Nat} (hr : Region.ready .any ops listed = [j, k]) (H1 : AAt P nt ops Q T fuel listed j e h) (H2 : AAt P nt ops Q T fuel listed k e h) : AAny P nt ops Q T (fuel + 1) listed e h :=
  N_all hr rfl fun i hi => by
    rcases List.mem_cons.1 hi with rfl | hi
    · exact H1
    · rw [List.mem_singleton.1 hi]; exact H2
theorem N_done (hr : Region.ready .any ops listed = []) (H : Q .normal e h) : AAny P nt ops Q T fuel listed e h := fun Pm F w0 pin ι a w R => wpAnyH_done hr ⟨rfl, ι, e, h, H, R⟩ fuel
theorem T_eff {R : Env → Heap → Prop} (hi : ops[i]? = some o) (hw : awant ops e o = some true) (hy : AEff P nt T e h o R) (H : ∀ e' h', R e' h' → AAny P nt ops Q T fuel (listed.setIfInBounds i true) e' h') : AAt P nt ops Q T fuel listed i e h := fun Pm F w0 pin ι a w Rl => by
  unfold wpOp
  simp only [hi]
  rw [awant_rel Rl.env hw, if_pos rfl]
  left
  exact hy Pm F w0 pin ι a w Rl _ _ fun ι' e' h' a' w' hR hRel hC _ => ⟨hC.ct, wpAnyH_mono (fun w2 h2 => hC.trans h2) _ _ _ _ (H e' h' hR Pm F w0 pin ι' a' w' hRel)⟩
theorem T_yield {c : AVal} {d : Nat} (hi : ops[i]? = some o) (hw : awant ops e o = some true) (hdst : o.dst = some d) (hd : Nat.blt d nt = true) (hy : AYield P [] e h o c) (H : AAny P nt ops Q T fuel (listed.setIfInBounds i true) ((d, c) :: e) h) : AAt P nt ops Q T fuel listed i e h :=
  T_eff (R := fun e' h' => e' = (d, c) :: e ∧ h' = h) hi hw (fun Pm F w0 pin ι a w R K Qx hK => by
    obtain ⟨v, hv, hr⟩ := hy Pm F w0 pin ι a w R.heap R.env
    unfold Oper.wp
    rw [hr w (CT.refl _ _ _), Oper.upon_value, hdst]
    exact hK ι _ _ _ w ⟨rfl, rfl⟩ (R.put (d := some d) hd hv) ⟨CT.refl _ _ _, fun id _ v r h1 h2 _ => ⟨v, h1, h2⟩⟩ (put_defers _ _ _)) fun e' h' ⟨h1, h2⟩ => by subst h1 h2; exact H
theorem T_call {f : FuncId} {args : Array Operand} {ats : Array TypeId} {cs : List AVal} {c : AVal} {d : Nat} (hi : ops[i]? = some o) (hw : awant ops e o = some true) (hdst : o.dst = some d) (hd : Nat.blt d nt = true) (ho : o.op = .call { callee := .value (.func f), args := args, argTypes := ats }) (hx : aevs e args.toList = some cs)
    (HC : ACall P f cs [] (fun c' h' => c' = c ∧ h' = [])) (hc : ∀ j, c.has j = false) (H : AAny P nt ops Q T fuel (listed.setIfInBounds i true) ((d, c) :: e) h) : AAt P nt ops Q T fuel listed i e h :=
  T_eff hi hw (E_call0 ho hdst hx HC hd hc) fun e' h' ⟨h1, h2⟩ => by subst h1 h2; exact H
theorem T_alloc {t : TypeId} {d : Nat} {z : List AVal} {tab : TTab} (TO : TabOk P tab) (hi : ops[i]? = some o) (hw : awant ops e o = some true) (hdst : o.dst = some d) (hd : Nat.blt d nt = true) (hid : Nat.blt d 1000 = true) (ho : o.op = .alloc t) (hz : tzero tab t = some z)
    (H : AAny P nt ops Q T fuel (listed.setIfInBounds i true) ((d, .ptr d 0) :: killE d e) ((d, .var z) :: killH d h)) : AAt P nt ops Q T fuel listed i e h := by
  obtain ⟨te, h1, h2, rfl⟩ := tzero_spec hz
  exact T_eff hi hw (E_alloc TO ho hdst h1 hid hd h2) fun e' h' ⟨h1, h2⟩ => by subst h1 h2; exact H
theorem T_box {t : TypeId} {x : Operand} {d : Nat} {c : AVal} {cs : List AVal} (hi : ops[i]? = some o) (hw : awant ops e o = some true) (hdst : o.dst = some d) (hd : Nat.blt d nt = true) (hid : Nat.blt d 1000 = true) (ho : o.op = .box t x) (hx : aev e x = some c) (hcs : cellsA c = some cs)
    (H : AAny P nt ops Q T fuel (listed.setIfInBounds i true) ((d, .ptr d 0) :: killE d e) ((d, .var (cs.map (killV d))) :: killH d h)) : AAt P nt ops Q T fuel listed i e h :=
  T_eff hi hw (E_box ho hdst hx hcs hid hd) fun e' h' ⟨h1, h2⟩ => by subst h1 h2; exact H
theorem T_store {t : TypeId} {x y : Operand} {id off s : Nat} {cs xs : List AVal} {c : AVal} {tab : TTab} (TO : TabOk P tab) (hi : ops[i]? = some o) (hw : awant ops e o = some true) (hdst : o.dst = none) (ho : o.op = .store t x y) (hx : aev e x = some (.ptr id off)) (hb : look h id = some (.var cs))
    (hy : aev e y = some c) (hcs : cellsA c = some xs) (hp : xs.all plainC = true) (hs : tsize tab t = some s) (hl : Nat.beq xs.length s = true) (hle : Nat.ble (off + s) cs.length = true) (hT : T.contains id = true)
    (H : AAny P nt ops Q T fuel (listed.setIfInBounds i true) e ((id, .var (setW cs off xs)) :: h)) : AAt P nt ops Q T fuel listed i e h := by
  obtain ⟨te, h1, h2⟩ := tsize_spec hs
  subst h2
  exact T_eff hi hw (E_store_ptr TO ho hdst h1 hx hb hy hcs hp hl hle rfl rfl hT) fun e' h' ⟨h1, h2⟩ => by subst h1 h2; exact H
end
end Go.Proofs.YtpnhkkejcnicoaaGreat.Ab

namespace Go.Proofs.YtpnhkkejcnicoaaGreat.Ab
set_option linter.unusedVariables false
def tab : TTab := (.node 124 ⟨1, 8, false, [Value.nilFunc], .fu⟩ (.node 68 ⟨1, 8, false, [Value.nilFunc], .fu⟩ (.node 40 ⟨1, 8, false, [Value.nilFunc], .fu⟩ (.node 26 ⟨1, 24, false, [Value.slice none 0 0], .sl 226⟩ (.node 12 ⟨1, 8, false, [Value.int .u64 0], .it .u64⟩ (.node 4 ⟨1, 1, false, [Value.bool false], .bo⟩ (.node 2 ⟨1, 8, false, [Value.int .i64 0], .it .i64⟩ (.node 1 ⟨1, 8, false, [Value.nilFunc], .fu⟩ .leaf .leaf) (.node 3 ⟨1, 8, false, [Value.int .i64 0], .it .i64⟩ .leaf .leaf)) (.node 9 ⟨1, 16, false, [Value.string ⟨#[]⟩], .str⟩ (.node 5 ⟨1, 1, false, [Value.int .u8 0], .it .u8⟩ .leaf .leaf) .leaf)) (.node 23 ⟨1, 24, false, [Value.slice none 0 0], .sl 219⟩ (.node 22 ⟨1, 24, false, [Value.slice none 0 0], .sl 9⟩ (.node 21 ⟨1, 4, false, [Value.int .i32 0], .it .i32⟩ .leaf .leaf) .leaf) (.node 25 ⟨1, 24, false, [Value.slice none 0 0], .sl 224⟩ (.node 24 ⟨1, 24, false, [Value.slice none 0 0], .sl 222⟩ .leaf .leaf) .leaf))) (.node 33 ⟨12, 264, true, [Value.string ⟨#[]⟩, Value.int .u8 0, Value.slice none 0 0, Value.slice none 0 0, Value.slice none 0 0, Value.slice none 0 0, Value.slice none 0 0, Value.slice none 0 0, Value.slice none 0 0, Value.slice none 0 0, Value.slice none 0 0, Value.slice none 0 0], .st [(0, 9), (1, 5), (2, 22), (3, 23), (4, 24), (5, 25), (6, 26), (7, 27), (8, 28), (9, 29), (10, 30), (11, 31)]⟩ (.node 30 ⟨1, 24, false, [Value.slice none 0 0], .sl 228⟩ (.node 28 ⟨1, 24, false, [Value.slice none 0 0], .sl 145⟩ (.node 27 ⟨1, 24, false, [Value.slice none 0 0], .sl 139⟩ .leaf .leaf) (.node 29 ⟨1, 24, false, [Value.slice none 0 0], .sl 87⟩ .leaf .leaf)) (.node 32 ⟨12, 264, true, [Value.string ⟨#[]⟩, Value.int .u8 0, Value.slice none 0 0, Value.slice none 0 0, Value.slice none 0 0, Value.slice none 0 0, Value.slice none 0 0, Value.slice none 0 0, Value.slice none 0 0, Value.slice none 0 0, Value.slice none 0 0, Value.slice none 0 0], .st [(0, 9), (1, 5), (2, 22), (3, 23), (4, 24), (5, 25), (6, 26), (7, 27), (8, 28), (9, 29), (10, 30), (11, 31)]⟩ (.node 31 ⟨1, 24, false, [Value.slice none 0 0], .sl 231⟩ .leaf .leaf) .leaf)) (.node 36 ⟨1, 8, false, [Value.nilFunc], .fu⟩ (.node 35 ⟨1, 24, false, [Value.slice none 0 0], .sl 52⟩ (.node 34 ⟨1, 24, false, [Value.slice none 0 0], .sl 55⟩ .leaf .leaf) .leaf) (.node 38 ⟨1, 8, false, [Value.int .i64 0], .it .i64⟩ (.node 37 ⟨1, 24, false, [Value.slice none 0 0], .sl 49⟩ .leaf .leaf) .leaf)))) (.node 53 ⟨1, 8, false, [Value.nilFunc], .fu⟩ (.node 47 ⟨8, 96, true, [Value.int .u32 0, Value.int .i64 0, Value.int .i64 0, Value.int .i64 0, Value.int .i64 0, Value.slice none 0 0, Value.slice none 0 0, Value.int .u32 0], .st [(0, 44), (2, 3), (3, 3), (4, 3), (5, 45), (6, 45), (7, 42)]⟩ (.node 44 ⟨2, 16, true, [Value.int .u32 0, Value.int .i64 0], .st [(0, 42), (1, 3)]⟩ (.node 42 ⟨1, 4, false, [Value.int .u32 0], .it .u32⟩ (.node 41 ⟨1, 4, false, [Value.int .u32 0], .it .u32⟩ .leaf .leaf) (.node 43 ⟨2, 16, true, [Value.int .u32 0, Value.int .i64 0], .st [(0, 42), (1, 3)]⟩ .leaf .leaf)) (.node 46 ⟨8, 96, true, [Value.int .u32 0, Value.int .i64 0, Value.int .i64 0, Value.int .i64 0, Value.int .i64 0, Value.slice none 0 0, Value.slice none 0 0, Value.int .u32 0], .st [(0, 44), (2, 3), (3, 3), (4, 3), (5, 45), (6, 45), (7, 42)]⟩ (.node 45 ⟨1, 24, false, [Value.slice none 0 0], .sl 41⟩ .leaf .leaf) .leaf)) (.node 50 ⟨1, 8, false, [Value.nilFunc], .fu⟩ (.node 49 ⟨9, 104, true, [Value.int .i64 0, Value.int .u32 0, Value.int .i64 0, Value.int .i64 0, Value.int .i64 0, Value.int .i64 0, Value.slice none 0 0, Value.slice none 0 0, Value.int .u32 0], .st [(0, 3), (1, 47)]⟩ (.node 48 ⟨9, 104, true, [Value.int .i64 0, Value.int .u32 0, Value.int .i64 0, Value.int .i64 0, Value.int .i64 0, Value.int .i64 0, Value.slice none 0 0, Value.slice none 0 0, Value.int .u32 0], .st [(0, 3), (1, 47)]⟩ .leaf .leaf) .leaf) (.node 52 ⟨9, 72, true, [Value.int .u32 0, Value.int .i64 0, Value.int .u8 0, Value.int .i64 0, Value.int .i64 0, Value.int .i64 0, Value.string ⟨#[]⟩, Value.int .u32 0, Value.bool false], .st [(0, 44), (2, 5), (3, 3), (4, 3), (5, 3), (6, 9), (7, 42), (8, 4)]⟩ (.node 51 ⟨9, 72, true, [Value.int .u32 0, Value.int .i64 0, Value.int .u8 0, Value.int .i64 0, Value.int .i64 0, Value.int .i64 0, Value.string ⟨#[]⟩, Value.int .u32 0, Value.bool false], .st [(0, 44), (2, 5), (3, 3), (4, 3), (5, 3), (6, 9), (7, 42), (8, 4)]⟩ .leaf .leaf) .leaf))) (.node 59 ⟨1, 8, false, [Value.nilFunc], .fu⟩ (.node 56 ⟨1, 8, false, [Value.nilFunc], .fu⟩ (.node 55 ⟨4, 40, true, [Value.int .u8 0, Value.int .i64 0, Value.int .u8 0, Value.string ⟨#[]⟩], .st [(0, 5), (1, 3), (2, 5), (3, 9)]⟩ (.node 54 ⟨4, 40, true, [Value.int .u8 0, Value.int .i64 0, Value.int .u8 0, Value.string ⟨#[]⟩], .st [(0, 5), (1, 3), (2, 5), (3, 9)]⟩ .leaf .leaf) .leaf) (.node 58 ⟨1, 8, false, [Value.nilFunc], .fu⟩ (.node 57 ⟨1, 8, false, [Value.nilFunc], .fu⟩ .leaf .leaf) .leaf)) (.node 64 ⟨1, 8, false, [Value.map none], .mp 44 49⟩ (.node 63 ⟨1, 8, false, [Value.nilFunc], .fu⟩ (.node 61 ⟨1, 8, false, [Value.nilFunc], .fu⟩ .leaf .leaf) .leaf) (.node 67 ⟨1, 8, false, [Value.nilFunc], .fu⟩ (.node 65 ⟨1, 8, false, [Value.map none], .mp 44 3⟩ .leaf .leaf) .leaf))))) (.node 98 ⟨1, 8, false, [Value.nilFunc], .fu⟩ (.node 84 ⟨1, 8, false, [Value.nilFunc], .fu⟩ (.node 77 ⟨1, 8, false, [Value.nilFunc], .fu⟩ (.node 73 ⟨1, 8, false, [Value.pointer none], .pt 104⟩ (.node 70 ⟨1, 8, false, [Value.map none], .mp 44 52⟩ (.node 69 ⟨1, 8, false, [Value.nilFunc], .fu⟩ .leaf .leaf) (.node 72 ⟨1, 8, false, [Value.nilFunc], .fu⟩ .leaf .leaf)) (.node 76 ⟨1, 8, false, [Value.nilFunc], .fu⟩ (.node 74 ⟨1, 8, false, [Value.nilFunc], .fu⟩ .leaf .leaf) .leaf)) (.node 81 ⟨1, 8, false, [Value.nilFunc], .fu⟩ (.node 80 ⟨1, 8, false, [Value.nilFunc], .fu⟩ (.node 79 ⟨1, 8, false, [Value.nilFunc], .fu⟩ .leaf .leaf) .leaf) (.node 83 ⟨1, 8, false, [Value.nilFunc], .fu⟩ (.node 82 ⟨1, 8, false, [Value.nilFunc], .fu⟩ .leaf .leaf) .leaf))) (.node 92 ⟨1, 8, false, [Value.nilFunc], .fu⟩ (.node 87 ⟨3, 48, true, [Value.string ⟨#[]⟩, Value.slice none 0 0, Value.bool false], .st [(0, 9), (1, 85), (2, 4)]⟩ (.node 86 ⟨3, 48, true, [Value.string ⟨#[]⟩, Value.slice none 0 0, Value.bool false], .st [(0, 9), (1, 85), (2, 4)]⟩ (.node 85 ⟨1, 24, false, [Value.slice none 0 0], .sl 114⟩ .leaf .leaf) .leaf) (.node 91 ⟨1, 8, false, [Value.nilFunc], .fu⟩ (.node 89 ⟨1, 8, false, [Value.nilFunc], .fu⟩ .leaf .leaf) .leaf)) (.node 95 ⟨1, 8, false, [Value.nilFunc], .fu⟩ (.node 94 ⟨1, 8, false, [Value.nilFunc], .fu⟩ (.node 93 ⟨1, 8, false, [Value.nilFunc], .fu⟩ .leaf .leaf) .leaf) (.node 97 ⟨1, 8, false, [Value.nilFunc], .fu⟩ (.node 96 ⟨1, 8, false, [Value.int .u64 0], .it .u64⟩ .leaf .leaf) .leaf)))) (.node 111 ⟨1, 8, false, [Value.nilFunc], .fu⟩ (.node 105 ⟨1, 8, false, [Value.nilFunc], .fu⟩ (.node 102 ⟨33, 264, true, [Value.int .i64 0, Value.int .i64 0, Value.int .i64 0, Value.int .i64 0, Value.int .i64 0, Value.int .i64 0, Value.int .i64 0, Value.int .i64 0, Value.int .i64 0, Value.int .i64 0, Value.int .i64 0, Value.int .i64 0, Value.int .i64 0, Value.int .i64 0, Value.int .i64 0, Value.int .i64 0, Value.int .i64 0, Value.int .i64 0, Value.int .i64 0, Value.int .i64 0, Value.int .i64 0, Value.int .i64 0, Value.int .i64 0, Value.int .i64 0, Value.int .i64 0, Value.int .i64 0, Value.int .i64 0, Value.int .i64 0, Value.int .i64 0, Value.int .i64 0, Value.int .i64 0, Value.int .i64 0, Value.int .i64 0], .ar 33 3⟩ (.node 100 ⟨1, 24, false, [Value.slice none 0 0], .sl 99⟩ (.node 99 ⟨1, 8, false, [Value.nilFunc], .fu⟩ .leaf .leaf) (.node 101 ⟨1, 8, false, [Value.map none], .mp 44 35⟩ .leaf .leaf)) (.node 104 ⟨34, 272, true, [Value.map none, Value.int .i64 0, Value.int .i64 0, Value.int .i64 0, Value.int .i64 0, Value.int .i64 0, Value.int .i64 0, Value.int .i64 0, Value.int .i64 0, Value.int .i64 0, Value.int .i64 0, Value.int .i64 0, Value.int .i64 0, Value.int .i64 0, Value.int .i64 0, Value.int .i64 0, Value.int .i64 0, Value.int .i64 0, Value.int .i64 0, Value.int .i64 0, Value.int .i64 0, Value.int .i64 0, Value.int .i64 0, Value.int .i64 0, Value.int .i64 0, Value.int .i64 0, Value.int .i64 0, Value.int .i64 0, Value.int .i64 0, Value.int .i64 0, Value.int .i64 0, Value.int .i64 0, Value.int .i64 0, Value.int .i64 0], .st [(0, 101), (1, 102)]⟩ (.node 103 ⟨34, 272, true, [Value.map none, Value.int .i64 0, Value.int .i64 0, Value.int .i64 0, Value.int .i64 0, Value.int .i64 0, Value.int .i64 0, Value.int .i64 0, Value.int .i64 0, Value.int .i64 0, Value.int .i64 0, Value.int .i64 0, Value.int .i64 0, Value.int .i64 0, Value.int .i64 0, Value.int .i64 0, Value.int .i64 0, Value.int .i64 0, Value.int .i64 0, Value.int .i64 0, Value.int .i64 0, Value.int .i64 0, Value.int .i64 0, Value.int .i64 0, Value.int .i64 0, Value.int .i64 0, Value.int .i64 0, Value.int .i64 0, Value.int .i64 0, Value.int .i64 0, Value.int .i64 0, Value.int .i64 0, Value.int .i64 0, Value.int .i64 0], .st [(0, 101), (1, 102)]⟩ .leaf .leaf) .leaf)) (.node 108 ⟨1, 8, false, [Value.nilFunc], .fu⟩ (.node 107 ⟨1, 8, false, [Value.nilFunc], .fu⟩ (.node 106 ⟨1, 24, false, [Value.slice none 0 0], .sl 44⟩ .leaf .leaf) .leaf) (.node 110 ⟨1, 8, false, [Value.nilFunc], .fu⟩ (.node 109 ⟨1, 8, false, [Value.nilFunc], .fu⟩ .leaf .leaf) .leaf))) (.node 117 ⟨1, 8, false, [Value.nilFunc], .fu⟩ (.node 114 ⟨15, 168, true, [Value.int .i64 0, Value.int .u8 0, Value.string ⟨#[]⟩, Value.string ⟨#[]⟩, Value.int .i64 0, Value.int .i64 0, Value.int .i64 0, Value.int .i64 0, Value.int .i64 0, Value.int .i64 0, Value.slice none 0 0, Value.bool false, Value.slice none 0 0, Value.int .u32 0, Value.int .i64 0], .st [(0, 3), (1, 5), (2, 9), (3, 9), (4, 3), (5, 3), (6, 3), (7, 3), (8, 3), (9, 3), (10, 45), (11, 4), (12, 45), (13, 42), (14, 3)]⟩ (.node 113 ⟨15, 168, true, [Value.int .i64 0, Value.int .u8 0, Value.string ⟨#[]⟩, Value.string ⟨#[]⟩, Value.int .i64 0, Value.int .i64 0, Value.int .i64 0, Value.int .i64 0, Value.int .i64 0, Value.int .i64 0, Value.slice none 0 0, Value.bool false, Value.slice none 0 0, Value.int .u32 0, Value.int .i64 0], .st [(0, 3), (1, 5), (2, 9), (3, 9), (4, 3), (5, 3), (6, 3), (7, 3), (8, 3), (9, 3), (10, 45), (11, 4), (12, 45), (13, 42), (14, 3)]⟩ (.node 112 ⟨1, 8, false, [Value.nilFunc], .fu⟩ .leaf .leaf) .leaf) (.node 116 ⟨1, 8, false, [Value.nilFunc], .fu⟩ (.node 115 ⟨1, 8, false, [Value.nilFunc], .fu⟩ .leaf .leaf) .leaf)) (.node 120 ⟨1, 8, false, [Value.nilFunc], .fu⟩ (.node 119 ⟨1, 8, false, [Value.nilFunc], .fu⟩ (.node 118 ⟨1, 8, false, [Value.nilFunc], .fu⟩ .leaf .leaf) .leaf) (.node 122 ⟨1, 8, false, [Value.int .i64 0], .it .i64⟩ (.node 121 ⟨1, 8, false, [Value.nilFunc], .fu⟩ .leaf .leaf) .leaf)))))) (.node 176 ⟨1, 8, false, [Value.pointer none], .pt 159⟩ (.node 151 ⟨1, 8, false, [Value.nilFunc], .fu⟩ (.node 138 ⟨2, 40, true, [Value.string ⟨#[]⟩, Value.slice none 0 0], .st [(0, 9), (1, 137)]⟩ (.node 131 ⟨1, 24, false, [Value.slice none 0 0], .sl 3⟩ (.node 128 ⟨1, 8, false, [Value.nilFunc], .fu⟩ (.node 126 ⟨1, 8, false, [Value.nilFunc], .fu⟩ (.node 125 ⟨1, 8, false, [Value.nilFunc], .fu⟩ .leaf .leaf) (.node 127 ⟨1, 8, false, [Value.nilFunc], .fu⟩ .leaf .leaf)) (.node 130 ⟨1, 8, false, [Value.int .u64 0], .it .u64⟩ (.node 129 ⟨1, 8, false, [Value.nilFunc], .fu⟩ .leaf .leaf) .leaf)) (.node 135 ⟨1, 8, false, [Value.nilFunc], .fu⟩ (.node 133 ⟨1, 8, false, [Value.nilFunc], .fu⟩ (.node 132 ⟨1, 8, false, [Value.nilFunc], .fu⟩ .leaf .leaf) .leaf) (.node 137 ⟨1, 24, false, [Value.slice none 0 0], .sl 167⟩ (.node 136 ⟨1, 8, false, [Value.nilFunc], .fu⟩ .leaf .leaf) .leaf))) (.node 145 ⟨2, 40, true, [Value.string ⟨#[]⟩, Value.slice none 0 0], .st [(0, 9), (1, 143)]⟩ (.node 142 ⟨1, 8, false, [Value.nilFunc], .fu⟩ (.node 140 ⟨1, 8, false, [Value.nilFunc], .fu⟩ (.node 139 ⟨2, 40, true, [Value.string ⟨#[]⟩, Value.slice none 0 0], .st [(0, 9), (1, 137)]⟩ .leaf .leaf) (.node 141 ⟨1, 8, false, [Value.nilFunc], .fu⟩ .leaf .leaf)) (.node 144 ⟨2, 40, true, [Value.string ⟨#[]⟩, Value.slice none 0 0], .st [(0, 9), (1, 143)]⟩ (.node 143 ⟨1, 24, false, [Value.slice none 0 0], .sl 170⟩ .leaf .leaf) .leaf)) (.node 148 ⟨1, 8, false, [Value.nilFunc], .fu⟩ (.node 147 ⟨1, 8, false, [Value.nilFunc], .fu⟩ (.node 146 ⟨1, 8, false, [Value.nilFunc], .fu⟩ .leaf .leaf) .leaf) (.node 150 ⟨1, 24, false, [Value.slice none 0 0], .sl 36⟩ (.node 149 ⟨1, 8, false, [Value.nilFunc], .fu⟩ .leaf .leaf) .leaf)))) (.node 164 ⟨1, 8, false, [Value.nilFunc], .fu⟩ (.node 158 ⟨1, 8, false, [Value.nilFunc], .fu⟩ (.node 155 ⟨1, 8, false, [Value.nilFunc], .fu⟩ (.node 153 ⟨1, 8, false, [Value.nilFunc], .fu⟩ (.node 152 ⟨1, 8, false, [Value.nilFunc], .fu⟩ .leaf .leaf) (.node 154 ⟨1, 8, false, [Value.nilFunc], .fu⟩ .leaf .leaf)) (.node 157 ⟨1, 8, false, [Value.nilFunc], .fu⟩ (.node 156 ⟨1, 8, false, [Value.nilFunc], .fu⟩ .leaf .leaf) .leaf)) (.node 161 ⟨1, 8, false, [Value.nilFunc], .fu⟩ (.node 160 ⟨1, 8, false, [Value.nilFunc], .fu⟩ (.node 159 ⟨1, 8, false, [Value.int .u64 0], .it .u64⟩ .leaf .leaf) .leaf) (.node 163 ⟨1, 8, false, [Value.pointer none], .pt 3⟩ (.node 162 ⟨1, 8, false, [Value.nilFunc], .fu⟩ .leaf .leaf) .leaf))) (.node 170 ⟨2, 32, true, [Value.bool false, Value.slice none 0 0], .st [(0, 4), (1, 45)]⟩ (.node 167 ⟨5, 40, true, [Value.bool false, Value.int .u32 0, Value.int .i64 0, Value.int .i64 0, Value.int .i64 0], .st [(0, 4), (1, 44), (3, 3), (4, 3)]⟩ (.node 166 ⟨5, 40, true, [Value.bool false, Value.int .u32 0, Value.int .i64 0, Value.int .i64 0, Value.int .i64 0], .st [(0, 4), (1, 44), (3, 3), (4, 3)]⟩ (.node 165 ⟨1, 8, false, [Value.nilFunc], .fu⟩ .leaf .leaf) .leaf) (.node 169 ⟨2, 32, true, [Value.bool false, Value.slice none 0 0], .st [(0, 4), (1, 45)]⟩ (.node 168 ⟨1, 8, false, [Value.nilFunc], .fu⟩ .leaf .leaf) .leaf)) (.node 173 ⟨1, 8, false, [Value.nilFunc], .fu⟩ (.node 172 ⟨1, 8, false, [Value.nilFunc], .fu⟩ (.node 171 ⟨1, 8, false, [Value.nilFunc], .fu⟩ .leaf .leaf) .leaf) (.node 175 ⟨1, 8, false, [Value.nilFunc], .fu⟩ (.node 174 ⟨1, 8, false, [Value.nilFunc], .fu⟩ .leaf .leaf) .leaf))))) (.node 202 ⟨1, 8, false, [Value.nilFunc], .fu⟩ (.node 190 ⟨1, 8, false, [Value.nilFunc], .fu⟩ (.node 184 ⟨1, 8, false, [Value.nilFunc], .fu⟩ (.node 181 ⟨1, 8, false, [Value.nilFunc], .fu⟩ (.node 179 ⟨1, 8, false, [Value.nilFunc], .fu⟩ (.node 178 ⟨1, 8, false, [Value.nilFunc], .fu⟩ .leaf .leaf) (.node 180 ⟨1, 8, false, [Value.nilFunc], .fu⟩ .leaf .leaf)) (.node 183 ⟨1, 8, false, [Value.nilFunc], .fu⟩ (.node 182 ⟨1, 8, false, [Value.nilFunc], .fu⟩ .leaf .leaf) .leaf)) (.node 187 ⟨1, 8, false, [Value.nilFunc], .fu⟩ (.node 186 ⟨1, 8, false, [Value.nilFunc], .fu⟩ (.node 185 ⟨1, 24, false, [Value.slice none 0 0], .sl 45⟩ .leaf .leaf) .leaf) (.node 189 ⟨1, 8, false, [Value.nilFunc], .fu⟩ (.node 188 ⟨1, 8, false, [Value.nilFunc], .fu⟩ .leaf .leaf) .leaf))) (.node 196 ⟨1, 8, false, [Value.nilFunc], .fu⟩ (.node 193 ⟨1, 8, false, [Value.nilFunc], .fu⟩ (.node 192 ⟨1, 8, false, [Value.nilFunc], .fu⟩ (.node 191 ⟨1, 8, false, [Value.nilFunc], .fu⟩ .leaf .leaf) .leaf) (.node 195 ⟨1, 8, false, [Value.nilFunc], .fu⟩ (.node 194 ⟨1, 8, false, [Value.nilFunc], .fu⟩ .leaf .leaf) .leaf)) (.node 199 ⟨1, 8, false, [Value.nilFunc], .fu⟩ (.node 198 ⟨1, 8, false, [Value.nilFunc], .fu⟩ (.node 197 ⟨1, 8, false, [Value.nilFunc], .fu⟩ .leaf .leaf) .leaf) (.node 201 ⟨1, 8, false, [Value.nilFunc], .fu⟩ (.node 200 ⟨1, 8, false, [Value.nilFunc], .fu⟩ .leaf .leaf) .leaf)))) (.node 226 ⟨7, 56, true, [Value.string ⟨#[]⟩, Value.int .u32 0, Value.int .i64 0, Value.int .u32 0, Value.bool false, Value.int .i64 0, Value.int .i64 0], .st [(0, 9), (1, 44), (3, 42), (4, 4), (5, 3), (6, 3)]⟩ (.node 220 ⟨1, 24, false, [Value.slice none 0 0], .sl 236⟩ (.node 213 ⟨1, 8, false, [Value.pointer none], .pt 5⟩ (.node 209 ⟨1, 8, false, [Value.nilFunc], .fu⟩ (.node 203 ⟨1, 8, false, [Value.nilFunc], .fu⟩ .leaf .leaf) (.node 212 ⟨1, 8, false, [Value.nilFunc], .fu⟩ .leaf .leaf)) (.node 219 ⟨11, 120, true, [Value.string ⟨#[]⟩, Value.string ⟨#[]⟩, Value.int .u32 0, Value.int .i64 0, Value.bool false, Value.string ⟨#[]⟩, Value.string ⟨#[]⟩, Value.int .u8 0, Value.int .i64 0, Value.int .i64 0, Value.bool false], .st [(0, 9), (1, 9), (2, 42), (3, 3), (4, 4), (5, 9), (6, 9), (7, 5), (8, 3), (9, 3), (10, 4)]⟩ (.node 218 ⟨11, 120, true, [Value.string ⟨#[]⟩, Value.string ⟨#[]⟩, Value.int .u32 0, Value.int .i64 0, Value.bool false, Value.string ⟨#[]⟩, Value.string ⟨#[]⟩, Value.int .u8 0, Value.int .i64 0, Value.int .i64 0, Value.bool false], .st [(0, 9), (1, 9), (2, 42), (3, 3), (4, 4), (5, 9), (6, 9), (7, 5), (8, 3), (9, 3), (10, 4)]⟩ .leaf .leaf) .leaf)) (.node 223 ⟨3, 32, true, [Value.bool false, Value.string ⟨#[]⟩, Value.int .u32 0], .st [(0, 4), (1, 9), (2, 42)]⟩ (.node 222 ⟨2, 40, true, [Value.string ⟨#[]⟩, Value.slice none 0 0], .st [(0, 9), (1, 220)]⟩ (.node 221 ⟨2, 40, true, [Value.string ⟨#[]⟩, Value.slice none 0 0], .st [(0, 9), (1, 220)]⟩ .leaf .leaf) .leaf) (.node 225 ⟨7, 56, true, [Value.string ⟨#[]⟩, Value.int .u32 0, Value.int .i64 0, Value.int .u32 0, Value.bool false, Value.int .i64 0, Value.int .i64 0], .st [(0, 9), (1, 44), (3, 42), (4, 4), (5, 3), (6, 3)]⟩ (.node 224 ⟨3, 32, true, [Value.bool false, Value.string ⟨#[]⟩, Value.int .u32 0], .st [(0, 4), (1, 9), (2, 42)]⟩ .leaf .leaf) .leaf))) (.node 233 ⟨2, 8, true, [Value.int .u32 0, Value.int .u32 0], .st [(0, 41), (1, 41)]⟩ (.node 229 ⟨1, 24, false, [Value.slice none 0 0], .sl 238⟩ (.node 228 ⟨3, 48, true, [Value.string ⟨#[]⟩, Value.int .u32 0, Value.slice none 0 0], .st [(0, 9), (1, 42), (2, 34)]⟩ (.node 227 ⟨3, 48, true, [Value.string ⟨#[]⟩, Value.int .u32 0, Value.slice none 0 0], .st [(0, 9), (1, 42), (2, 34)]⟩ .leaf .leaf) .leaf) (.node 231 ⟨6, 96, true, [Value.string ⟨#[]⟩, Value.int .u32 0, Value.int .u32 0, Value.slice none 0 0, Value.slice none 0 0, Value.slice none 0 0], .st [(0, 9), (1, 41), (2, 42), (3, 106), (4, 229), (5, 34)]⟩ (.node 230 ⟨6, 96, true, [Value.string ⟨#[]⟩, Value.int .u32 0, Value.int .u32 0, Value.slice none 0 0, Value.slice none 0 0, Value.slice none 0 0], .st [(0, 9), (1, 41), (2, 42), (3, 106), (4, 229), (5, 34)]⟩ .leaf .leaf) .leaf)) (.node 236 ⟨10, 64, true, [Value.bool false, Value.int .i64 0, Value.int .u32 0, Value.int .i64 0, Value.int .u32 0, Value.int .i64 0, Value.int .u32 0, Value.int .u32 0, Value.int .u32 0, Value.int .u32 0], .st [(0, 4), (1, 3), (2, 44), (4, 44), (6, 234), (8, 234)]⟩ (.node 235 ⟨10, 64, true, [Value.bool false, Value.int .i64 0, Value.int .u32 0, Value.int .i64 0, Value.int .u32 0, Value.int .i64 0, Value.int .u32 0, Value.int .u32 0, Value.int .u32 0, Value.int .u32 0], .st [(0, 4), (1, 3), (2, 44), (4, 44), (6, 234), (8, 234)]⟩ (.node 234 ⟨2, 8, true, [Value.int .u32 0, Value.int .u32 0], .st [(0, 41), (1, 41)]⟩ .leaf .leaf) .leaf) (.node 238 ⟨6, 48, true, [Value.int .u32 0, Value.int .u32 0, Value.string ⟨#[]⟩, Value.string ⟨#[]⟩, Value.bool false, Value.bool false], .st [(0, 42), (1, 41), (2, 9), (3, 9), (4, 4), (5, 4)]⟩ (.node 237 ⟨6, 48, true, [Value.int .u32 0, Value.int .u32 0, Value.string ⟨#[]⟩, Value.string ⟨#[]⟩, Value.bool false, Value.bool false], .st [(0, 42), (1, 41), (2, 9), (3, 9), (4, 4), (5, 4)]⟩ .leaf .leaf) .leaf)))))))
theorem tf1 : TFacts Tryz.prog 1 ⟨1, 8, false, [Value.nilFunc], .fu⟩ := ⟨by kernel_rfl, _, Tryz.underlying1, rfl, ⟨_, _, _, rfl⟩⟩
theorem tf2 : TFacts Tryz.prog 2 ⟨1, 8, false, [Value.int .i64 0], .it .i64⟩ := ⟨by kernel_rfl, _, Tryz.underlying2, rfl, rfl⟩
theorem tf3 : TFacts Tryz.prog 3 ⟨1, 8, false, [Value.int .i64 0], .it .i64⟩ := ⟨by kernel_rfl, _, Tryz.underlying3, rfl, rfl⟩
theorem tf4 : TFacts Tryz.prog 4 ⟨1, 1, false, [Value.bool false], .bo⟩ := ⟨by kernel_rfl, _, Tryz.underlying4, rfl, rfl⟩
theorem tf5 : TFacts Tryz.prog 5 ⟨1, 1, false, [Value.int .u8 0], .it .u8⟩ := ⟨by kernel_rfl, _, Tryz.underlying5, rfl, rfl⟩
theorem tf9 : TFacts Tryz.prog 9 ⟨1, 16, false, [Value.string ⟨#[]⟩], .str⟩ := ⟨by kernel_rfl, _, Tryz.underlying9, rfl, rfl⟩
theorem tf12 : TFacts Tryz.prog 12 ⟨1, 8, false, [Value.int .u64 0], .it .u64⟩ := ⟨by kernel_rfl, _, Tryz.underlying12, rfl, rfl⟩
theorem tf21 : TFacts Tryz.prog 21 ⟨1, 4, false, [Value.int .i32 0], .it .i32⟩ := ⟨by kernel_rfl, _, Tryz.underlying21, rfl, rfl⟩
theorem tf22 : TFacts Tryz.prog 22 ⟨1, 24, false, [Value.slice none 0 0], .sl 9⟩ := ⟨by kernel_rfl, _, Tryz.underlying22, rfl, rfl⟩
theorem tf23 : TFacts Tryz.prog 23 ⟨1, 24, false, [Value.slice none 0 0], .sl 219⟩ := ⟨by kernel_rfl, _, Tryz.underlying23, rfl, rfl⟩
theorem tf24 : TFacts Tryz.prog 24 ⟨1, 24, false, [Value.slice none 0 0], .sl 222⟩ := ⟨by kernel_rfl, _, Tryz.underlying24, rfl, rfl⟩
theorem tf25 : TFacts Tryz.prog 25 ⟨1, 24, false, [Value.slice none 0 0], .sl 224⟩ := ⟨by kernel_rfl, _, Tryz.underlying25, rfl, rfl⟩
theorem tf26 : TFacts Tryz.prog 26 ⟨1, 24, false, [Value.slice none 0 0], .sl 226⟩ := ⟨by kernel_rfl, _, Tryz.underlying26, rfl, rfl⟩
theorem tf27 : TFacts Tryz.prog 27 ⟨1, 24, false, [Value.slice none 0 0], .sl 139⟩ := ⟨by kernel_rfl, _, Tryz.underlying27, rfl, rfl⟩
theorem tf28 : TFacts Tryz.prog 28 ⟨1, 24, false, [Value.slice none 0 0], .sl 145⟩ := ⟨by kernel_rfl, _, Tryz.underlying28, rfl, rfl⟩
theorem tf29 : TFacts Tryz.prog 29 ⟨1, 24, false, [Value.slice none 0 0], .sl 87⟩ := ⟨by kernel_rfl, _, Tryz.underlying29, rfl, rfl⟩
theorem tf30 : TFacts Tryz.prog 30 ⟨1, 24, false, [Value.slice none 0 0], .sl 228⟩ := ⟨by kernel_rfl, _, Tryz.underlying30, rfl, rfl⟩
theorem tf31 : TFacts Tryz.prog 31 ⟨1, 24, false, [Value.slice none 0 0], .sl 231⟩ := ⟨by kernel_rfl, _, Tryz.underlying31, rfl, rfl⟩
theorem tf32 : TFacts Tryz.prog 32 ⟨12, 264, true, [Value.string ⟨#[]⟩, Value.int .u8 0, Value.slice none 0 0, Value.slice none 0 0, Value.slice none 0 0, Value.slice none 0 0, Value.slice none 0 0, Value.slice none 0 0, Value.slice none 0 0, Value.slice none 0 0, Value.slice none 0 0, Value.slice none 0 0], .st [(0, 9), (1, 5), (2, 22), (3, 23), (4, 24), (5, 25), (6, 26), (7, 27), (8, 28), (9, 29), (10, 30), (11, 31)]⟩ := ⟨by kernel_rfl, _, Tryz.underlying32, rfl, ⟨_, rfl, rfl, by decide⟩⟩
theorem tf33 : TFacts Tryz.prog 33 ⟨12, 264, true, [Value.string ⟨#[]⟩, Value.int .u8 0, Value.slice none 0 0, Value.slice none 0 0, Value.slice none 0 0, Value.slice none 0 0, Value.slice none 0 0, Value.slice none 0 0, Value.slice none 0 0, Value.slice none 0 0, Value.slice none 0 0, Value.slice none 0 0], .st [(0, 9), (1, 5), (2, 22), (3, 23), (4, 24), (5, 25), (6, 26), (7, 27), (8, 28), (9, 29), (10, 30), (11, 31)]⟩ := ⟨by kernel_rfl, _, Tryz.underlying33, rfl, ⟨_, rfl, rfl, by decide⟩⟩
theorem tf34 : TFacts Tryz.prog 34 ⟨1, 24, false, [Value.slice none 0 0], .sl 55⟩ := ⟨by kernel_rfl, _, Tryz.underlying34, rfl, rfl⟩
theorem tf35 : TFacts Tryz.prog 35 ⟨1, 24, false, [Value.slice none 0 0], .sl 52⟩ := ⟨by kernel_rfl, _, Tryz.underlying35, rfl, rfl⟩
theorem tf36 : TFacts Tryz.prog 36 ⟨1, 8, false, [Value.nilFunc], .fu⟩ := ⟨by kernel_rfl, _, Tryz.underlying36, rfl, ⟨_, _, _, rfl⟩⟩
theorem tf37 : TFacts Tryz.prog 37 ⟨1, 24, false, [Value.slice none 0 0], .sl 49⟩ := ⟨by kernel_rfl, _, Tryz.underlying37, rfl, rfl⟩
theorem tf38 : TFacts Tryz.prog 38 ⟨1, 8, false, [Value.int .i64 0], .it .i64⟩ := ⟨by kernel_rfl, _, Tryz.underlying38, rfl, rfl⟩
theorem tf40 : TFacts Tryz.prog 40 ⟨1, 8, false, [Value.nilFunc], .fu⟩ := ⟨by kernel_rfl, _, Tryz.underlying40, rfl, ⟨_, _, _, rfl⟩⟩
theorem tf41 : TFacts Tryz.prog 41 ⟨1, 4, false, [Value.int .u32 0], .it .u32⟩ := ⟨by kernel_rfl, _, Tryz.underlying41, rfl, rfl⟩
theorem tf42 : TFacts Tryz.prog 42 ⟨1, 4, false, [Value.int .u32 0], .it .u32⟩ := ⟨by kernel_rfl, _, Tryz.underlying42, rfl, rfl⟩
theorem tf43 : TFacts Tryz.prog 43 ⟨2, 16, true, [Value.int .u32 0, Value.int .i64 0], .st [(0, 42), (1, 3)]⟩ := ⟨by kernel_rfl, _, Tryz.underlying43, rfl, ⟨_, rfl, rfl, by decide⟩⟩
theorem tf44 : TFacts Tryz.prog 44 ⟨2, 16, true, [Value.int .u32 0, Value.int .i64 0], .st [(0, 42), (1, 3)]⟩ := ⟨by kernel_rfl, _, Tryz.underlying44, rfl, ⟨_, rfl, rfl, by decide⟩⟩
theorem tf45 : TFacts Tryz.prog 45 ⟨1, 24, false, [Value.slice none 0 0], .sl 41⟩ := ⟨by kernel_rfl, _, Tryz.underlying45, rfl, rfl⟩
theorem tf46 : TFacts Tryz.prog 46 ⟨8, 96, true, [Value.int .u32 0, Value.int .i64 0, Value.int .i64 0, Value.int .i64 0, Value.int .i64 0, Value.slice none 0 0, Value.slice none 0 0, Value.int .u32 0], .st [(0, 44), (2, 3), (3, 3), (4, 3), (5, 45), (6, 45), (7, 42)]⟩ := ⟨by kernel_rfl, _, Tryz.underlying46, rfl, ⟨_, rfl, rfl, by decide⟩⟩
theorem tf47 : TFacts Tryz.prog 47 ⟨8, 96, true, [Value.int .u32 0, Value.int .i64 0, Value.int .i64 0, Value.int .i64 0, Value.int .i64 0, Value.slice none 0 0, Value.slice none 0 0, Value.int .u32 0], .st [(0, 44), (2, 3), (3, 3), (4, 3), (5, 45), (6, 45), (7, 42)]⟩ := ⟨by kernel_rfl, _, Tryz.underlying47, rfl, ⟨_, rfl, rfl, by decide⟩⟩
theorem tf48 : TFacts Tryz.prog 48 ⟨9, 104, true, [Value.int .i64 0, Value.int .u32 0, Value.int .i64 0, Value.int .i64 0, Value.int .i64 0, Value.int .i64 0, Value.slice none 0 0, Value.slice none 0 0, Value.int .u32 0], .st [(0, 3), (1, 47)]⟩ := ⟨by kernel_rfl, _, Tryz.underlying48, rfl, ⟨_, rfl, rfl, by decide⟩⟩
theorem tf49 : TFacts Tryz.prog 49 ⟨9, 104, true, [Value.int .i64 0, Value.int .u32 0, Value.int .i64 0, Value.int .i64 0, Value.int .i64 0, Value.int .i64 0, Value.slice none 0 0, Value.slice none 0 0, Value.int .u32 0], .st [(0, 3), (1, 47)]⟩ := ⟨by kernel_rfl, _, Tryz.underlying49, rfl, ⟨_, rfl, rfl, by decide⟩⟩
theorem tf50 : TFacts Tryz.prog 50 ⟨1, 8, false, [Value.nilFunc], .fu⟩ := ⟨by kernel_rfl, _, Tryz.underlying50, rfl, ⟨_, _, _, rfl⟩⟩
theorem tf51 : TFacts Tryz.prog 51 ⟨9, 72, true, [Value.int .u32 0, Value.int .i64 0, Value.int .u8 0, Value.int .i64 0, Value.int .i64 0, Value.int .i64 0, Value.string ⟨#[]⟩, Value.int .u32 0, Value.bool false], .st [(0, 44), (2, 5), (3, 3), (4, 3), (5, 3), (6, 9), (7, 42), (8, 4)]⟩ := ⟨by kernel_rfl, _, Tryz.underlying51, rfl, ⟨_, rfl, rfl, by decide⟩⟩
theorem tf52 : TFacts Tryz.prog 52 ⟨9, 72, true, [Value.int .u32 0, Value.int .i64 0, Value.int .u8 0, Value.int .i64 0, Value.int .i64 0, Value.int .i64 0, Value.string ⟨#[]⟩, Value.int .u32 0, Value.bool false], .st [(0, 44), (2, 5), (3, 3), (4, 3), (5, 3), (6, 9), (7, 42), (8, 4)]⟩ := ⟨by kernel_rfl, _, Tryz.underlying52, rfl, ⟨_, rfl, rfl, by decide⟩⟩
theorem tf53 : TFacts Tryz.prog 53 ⟨1, 8, false, [Value.nilFunc], .fu⟩ := ⟨by kernel_rfl, _, Tryz.underlying53, rfl, ⟨_, _, _, rfl⟩⟩
theorem tf54 : TFacts Tryz.prog 54 ⟨4, 40, true, [Value.int .u8 0, Value.int .i64 0, Value.int .u8 0, Value.string ⟨#[]⟩], .st [(0, 5), (1, 3), (2, 5), (3, 9)]⟩ := ⟨by kernel_rfl, _, Tryz.underlying54, rfl, ⟨_, rfl, rfl, by decide⟩⟩
theorem tf55 : TFacts Tryz.prog 55 ⟨4, 40, true, [Value.int .u8 0, Value.int .i64 0, Value.int .u8 0, Value.string ⟨#[]⟩], .st [(0, 5), (1, 3), (2, 5), (3, 9)]⟩ := ⟨by kernel_rfl, _, Tryz.underlying55, rfl, ⟨_, rfl, rfl, by decide⟩⟩
theorem tf56 : TFacts Tryz.prog 56 ⟨1, 8, false, [Value.nilFunc], .fu⟩ := ⟨by kernel_rfl, _, Tryz.underlying56, rfl, ⟨_, _, _, rfl⟩⟩
theorem tf57 : TFacts Tryz.prog 57 ⟨1, 8, false, [Value.nilFunc], .fu⟩ := ⟨by kernel_rfl, _, Tryz.underlying57, rfl, ⟨_, _, _, rfl⟩⟩
theorem tf58 : TFacts Tryz.prog 58 ⟨1, 8, false, [Value.nilFunc], .fu⟩ := ⟨by kernel_rfl, _, Tryz.underlying58, rfl, ⟨_, _, _, rfl⟩⟩
theorem tf59 : TFacts Tryz.prog 59 ⟨1, 8, false, [Value.nilFunc], .fu⟩ := ⟨by kernel_rfl, _, Tryz.underlying59, rfl, ⟨_, _, _, rfl⟩⟩
theorem tf61 : TFacts Tryz.prog 61 ⟨1, 8, false, [Value.nilFunc], .fu⟩ := ⟨by kernel_rfl, _, Tryz.underlying61, rfl, ⟨_, _, _, rfl⟩⟩
theorem tf63 : TFacts Tryz.prog 63 ⟨1, 8, false, [Value.nilFunc], .fu⟩ := ⟨by kernel_rfl, _, Tryz.underlying63, rfl, ⟨_, _, _, rfl⟩⟩
theorem tf64 : TFacts Tryz.prog 64 ⟨1, 8, false, [Value.map none], .mp 44 49⟩ := ⟨by kernel_rfl, _, Tryz.underlying64, rfl, rfl⟩
theorem tf65 : TFacts Tryz.prog 65 ⟨1, 8, false, [Value.map none], .mp 44 3⟩ := ⟨by kernel_rfl, _, Tryz.underlying65, rfl, rfl⟩
theorem tf67 : TFacts Tryz.prog 67 ⟨1, 8, false, [Value.nilFunc], .fu⟩ := ⟨by kernel_rfl, _, Tryz.underlying67, rfl, ⟨_, _, _, rfl⟩⟩
theorem tf68 : TFacts Tryz.prog 68 ⟨1, 8, false, [Value.nilFunc], .fu⟩ := ⟨by kernel_rfl, _, Tryz.underlying68, rfl, ⟨_, _, _, rfl⟩⟩
theorem tf69 : TFacts Tryz.prog 69 ⟨1, 8, false, [Value.nilFunc], .fu⟩ := ⟨by kernel_rfl, _, Tryz.underlying69, rfl, ⟨_, _, _, rfl⟩⟩
theorem tf70 : TFacts Tryz.prog 70 ⟨1, 8, false, [Value.map none], .mp 44 52⟩ := ⟨by kernel_rfl, _, Tryz.underlying70, rfl, rfl⟩
theorem tf72 : TFacts Tryz.prog 72 ⟨1, 8, false, [Value.nilFunc], .fu⟩ := ⟨by kernel_rfl, _, Tryz.underlying72, rfl, ⟨_, _, _, rfl⟩⟩
theorem tf73 : TFacts Tryz.prog 73 ⟨1, 8, false, [Value.pointer none], .pt 104⟩ := ⟨by kernel_rfl, _, Tryz.underlying73, rfl, rfl⟩
theorem tf74 : TFacts Tryz.prog 74 ⟨1, 8, false, [Value.nilFunc], .fu⟩ := ⟨by kernel_rfl, _, Tryz.underlying74, rfl, ⟨_, _, _, rfl⟩⟩
theorem tf76 : TFacts Tryz.prog 76 ⟨1, 8, false, [Value.nilFunc], .fu⟩ := ⟨by kernel_rfl, _, Tryz.underlying76, rfl, ⟨_, _, _, rfl⟩⟩
theorem tf77 : TFacts Tryz.prog 77 ⟨1, 8, false, [Value.nilFunc], .fu⟩ := ⟨by kernel_rfl, _, Tryz.underlying77, rfl, ⟨_, _, _, rfl⟩⟩
theorem tf79 : TFacts Tryz.prog 79 ⟨1, 8, false, [Value.nilFunc], .fu⟩ := ⟨by kernel_rfl, _, Tryz.underlying79, rfl, ⟨_, _, _, rfl⟩⟩
theorem tf80 : TFacts Tryz.prog 80 ⟨1, 8, false, [Value.nilFunc], .fu⟩ := ⟨by kernel_rfl, _, Tryz.underlying80, rfl, ⟨_, _, _, rfl⟩⟩
theorem tf81 : TFacts Tryz.prog 81 ⟨1, 8, false, [Value.nilFunc], .fu⟩ := ⟨by kernel_rfl, _, Tryz.underlying81, rfl, ⟨_, _, _, rfl⟩⟩
theorem tf82 : TFacts Tryz.prog 82 ⟨1, 8, false, [Value.nilFunc], .fu⟩ := ⟨by kernel_rfl, _, Tryz.underlying82, rfl, ⟨_, _, _, rfl⟩⟩
theorem tf83 : TFacts Tryz.prog 83 ⟨1, 8, false, [Value.nilFunc], .fu⟩ := ⟨by kernel_rfl, _, Tryz.underlying83, rfl, ⟨_, _, _, rfl⟩⟩
theorem tf84 : TFacts Tryz.prog 84 ⟨1, 8, false, [Value.nilFunc], .fu⟩ := ⟨by kernel_rfl, _, Tryz.underlying84, rfl, ⟨_, _, _, rfl⟩⟩
theorem tf85 : TFacts Tryz.prog 85 ⟨1, 24, false, [Value.slice none 0 0], .sl 114⟩ := ⟨by kernel_rfl, _, Tryz.underlying85, rfl, rfl⟩
theorem tf86 : TFacts Tryz.prog 86 ⟨3, 48, true, [Value.string ⟨#[]⟩, Value.slice none 0 0, Value.bool false], .st [(0, 9), (1, 85), (2, 4)]⟩ := ⟨by kernel_rfl, _, Tryz.underlying86, rfl, ⟨_, rfl, rfl, by decide⟩⟩
theorem tf87 : TFacts Tryz.prog 87 ⟨3, 48, true, [Value.string ⟨#[]⟩, Value.slice none 0 0, Value.bool false], .st [(0, 9), (1, 85), (2, 4)]⟩ := ⟨by kernel_rfl, _, Tryz.underlying87, rfl, ⟨_, rfl, rfl, by decide⟩⟩
theorem tf89 : TFacts Tryz.prog 89 ⟨1, 8, false, [Value.nilFunc], .fu⟩ := ⟨by kernel_rfl, _, Tryz.underlying89, rfl, ⟨_, _, _, rfl⟩⟩
theorem tf91 : TFacts Tryz.prog 91 ⟨1, 8, false, [Value.nilFunc], .fu⟩ := ⟨by kernel_rfl, _, Tryz.underlying91, rfl, ⟨_, _, _, rfl⟩⟩
theorem tf92 : TFacts Tryz.prog 92 ⟨1, 8, false, [Value.nilFunc], .fu⟩ := ⟨by kernel_rfl, _, Tryz.underlying92, rfl, ⟨_, _, _, rfl⟩⟩
theorem tf93 : TFacts Tryz.prog 93 ⟨1, 8, false, [Value.nilFunc], .fu⟩ := ⟨by kernel_rfl, _, Tryz.underlying93, rfl, ⟨_, _, _, rfl⟩⟩
theorem tf94 : TFacts Tryz.prog 94 ⟨1, 8, false, [Value.nilFunc], .fu⟩ := ⟨by kernel_rfl, _, Tryz.underlying94, rfl, ⟨_, _, _, rfl⟩⟩
theorem tf95 : TFacts Tryz.prog 95 ⟨1, 8, false, [Value.nilFunc], .fu⟩ := ⟨by kernel_rfl, _, Tryz.underlying95, rfl, ⟨_, _, _, rfl⟩⟩
theorem tf96 : TFacts Tryz.prog 96 ⟨1, 8, false, [Value.int .u64 0], .it .u64⟩ := ⟨by kernel_rfl, _, Tryz.underlying96, rfl, rfl⟩
theorem tf97 : TFacts Tryz.prog 97 ⟨1, 8, false, [Value.nilFunc], .fu⟩ := ⟨by kernel_rfl, _, Tryz.underlying97, rfl, ⟨_, _, _, rfl⟩⟩
theorem tf98 : TFacts Tryz.prog 98 ⟨1, 8, false, [Value.nilFunc], .fu⟩ := ⟨by kernel_rfl, _, Tryz.underlying98, rfl, ⟨_, _, _, rfl⟩⟩
theorem tf99 : TFacts Tryz.prog 99 ⟨1, 8, false, [Value.nilFunc], .fu⟩ := ⟨by kernel_rfl, _, Tryz.underlying99, rfl, ⟨_, _, _, rfl⟩⟩
theorem tf100 : TFacts Tryz.prog 100 ⟨1, 24, false, [Value.slice none 0 0], .sl 99⟩ := ⟨by kernel_rfl, _, Tryz.underlying100, rfl, rfl⟩
theorem tf101 : TFacts Tryz.prog 101 ⟨1, 8, false, [Value.map none], .mp 44 35⟩ := ⟨by kernel_rfl, _, Tryz.underlying101, rfl, rfl⟩
theorem tf102 : TFacts Tryz.prog 102 ⟨33, 264, true, [Value.int .i64 0, Value.int .i64 0, Value.int .i64 0, Value.int .i64 0, Value.int .i64 0, Value.int .i64 0, Value.int .i64 0, Value.int .i64 0, Value.int .i64 0, Value.int .i64 0, Value.int .i64 0, Value.int .i64 0, Value.int .i64 0, Value.int .i64 0, Value.int .i64 0, Value.int .i64 0, Value.int .i64 0, Value.int .i64 0, Value.int .i64 0, Value.int .i64 0, Value.int .i64 0, Value.int .i64 0, Value.int .i64 0, Value.int .i64 0, Value.int .i64 0, Value.int .i64 0, Value.int .i64 0, Value.int .i64 0, Value.int .i64 0, Value.int .i64 0, Value.int .i64 0, Value.int .i64 0, Value.int .i64 0], .ar 33 3⟩ := ⟨by kernel_rfl, _, Tryz.underlying102, rfl, rfl⟩
theorem tf103 : TFacts Tryz.prog 103 ⟨34, 272, true, [Value.map none, Value.int .i64 0, Value.int .i64 0, Value.int .i64 0, Value.int .i64 0, Value.int .i64 0, Value.int .i64 0, Value.int .i64 0, Value.int .i64 0, Value.int .i64 0, Value.int .i64 0, Value.int .i64 0, Value.int .i64 0, Value.int .i64 0, Value.int .i64 0, Value.int .i64 0, Value.int .i64 0, Value.int .i64 0, Value.int .i64 0, Value.int .i64 0, Value.int .i64 0, Value.int .i64 0, Value.int .i64 0, Value.int .i64 0, Value.int .i64 0, Value.int .i64 0, Value.int .i64 0, Value.int .i64 0, Value.int .i64 0, Value.int .i64 0, Value.int .i64 0, Value.int .i64 0, Value.int .i64 0, Value.int .i64 0], .st [(0, 101), (1, 102)]⟩ := ⟨by kernel_rfl, _, Tryz.underlying103, rfl, ⟨_, rfl, rfl, by decide⟩⟩
theorem tf104 : TFacts Tryz.prog 104 ⟨34, 272, true, [Value.map none, Value.int .i64 0, Value.int .i64 0, Value.int .i64 0, Value.int .i64 0, Value.int .i64 0, Value.int .i64 0, Value.int .i64 0, Value.int .i64 0, Value.int .i64 0, Value.int .i64 0, Value.int .i64 0, Value.int .i64 0, Value.int .i64 0, Value.int .i64 0, Value.int .i64 0, Value.int .i64 0, Value.int .i64 0, Value.int .i64 0, Value.int .i64 0, Value.int .i64 0, Value.int .i64 0, Value.int .i64 0, Value.int .i64 0, Value.int .i64 0, Value.int .i64 0, Value.int .i64 0, Value.int .i64 0, Value.int .i64 0, Value.int .i64 0, Value.int .i64 0, Value.int .i64 0, Value.int .i64 0, Value.int .i64 0], .st [(0, 101), (1, 102)]⟩ := ⟨by kernel_rfl, _, Tryz.underlying104, rfl, ⟨_, rfl, rfl, by decide⟩⟩
theorem tf105 : TFacts Tryz.prog 105 ⟨1, 8, false, [Value.nilFunc], .fu⟩ := ⟨by kernel_rfl, _, Tryz.underlying105, rfl, ⟨_, _, _, rfl⟩⟩
theorem tf106 : TFacts Tryz.prog 106 ⟨1, 24, false, [Value.slice none 0 0], .sl 44⟩ := ⟨by kernel_rfl, _, Tryz.underlying106, rfl, rfl⟩
theorem tf107 : TFacts Tryz.prog 107 ⟨1, 8, false, [Value.nilFunc], .fu⟩ := ⟨by kernel_rfl, _, Tryz.underlying107, rfl, ⟨_, _, _, rfl⟩⟩
theorem tf108 : TFacts Tryz.prog 108 ⟨1, 8, false, [Value.nilFunc], .fu⟩ := ⟨by kernel_rfl, _, Tryz.underlying108, rfl, ⟨_, _, _, rfl⟩⟩
theorem tf109 : TFacts Tryz.prog 109 ⟨1, 8, false, [Value.nilFunc], .fu⟩ := ⟨by kernel_rfl, _, Tryz.underlying109, rfl, ⟨_, _, _, rfl⟩⟩
theorem tf110 : TFacts Tryz.prog 110 ⟨1, 8, false, [Value.nilFunc], .fu⟩ := ⟨by kernel_rfl, _, Tryz.underlying110, rfl, ⟨_, _, _, rfl⟩⟩
theorem tf111 : TFacts Tryz.prog 111 ⟨1, 8, false, [Value.nilFunc], .fu⟩ := ⟨by kernel_rfl, _, Tryz.underlying111, rfl, ⟨_, _, _, rfl⟩⟩
theorem tf112 : TFacts Tryz.prog 112 ⟨1, 8, false, [Value.nilFunc], .fu⟩ := ⟨by kernel_rfl, _, Tryz.underlying112, rfl, ⟨_, _, _, rfl⟩⟩
theorem tf113 : TFacts Tryz.prog 113 ⟨15, 168, true, [Value.int .i64 0, Value.int .u8 0, Value.string ⟨#[]⟩, Value.string ⟨#[]⟩, Value.int .i64 0, Value.int .i64 0, Value.int .i64 0, Value.int .i64 0, Value.int .i64 0, Value.int .i64 0, Value.slice none 0 0, Value.bool false, Value.slice none 0 0, Value.int .u32 0, Value.int .i64 0], .st [(0, 3), (1, 5), (2, 9), (3, 9), (4, 3), (5, 3), (6, 3), (7, 3), (8, 3), (9, 3), (10, 45), (11, 4), (12, 45), (13, 42), (14, 3)]⟩ := ⟨by kernel_rfl, _, Tryz.underlying113, rfl, ⟨_, rfl, rfl, by decide⟩⟩
theorem tf114 : TFacts Tryz.prog 114 ⟨15, 168, true, [Value.int .i64 0, Value.int .u8 0, Value.string ⟨#[]⟩, Value.string ⟨#[]⟩, Value.int .i64 0, Value.int .i64 0, Value.int .i64 0, Value.int .i64 0, Value.int .i64 0, Value.int .i64 0, Value.slice none 0 0, Value.bool false, Value.slice none 0 0, Value.int .u32 0, Value.int .i64 0], .st [(0, 3), (1, 5), (2, 9), (3, 9), (4, 3), (5, 3), (6, 3), (7, 3), (8, 3), (9, 3), (10, 45), (11, 4), (12, 45), (13, 42), (14, 3)]⟩ := ⟨by kernel_rfl, _, Tryz.underlying114, rfl, ⟨_, rfl, rfl, by decide⟩⟩
theorem tf115 : TFacts Tryz.prog 115 ⟨1, 8, false, [Value.nilFunc], .fu⟩ := ⟨by kernel_rfl, _, Tryz.underlying115, rfl, ⟨_, _, _, rfl⟩⟩
theorem tf116 : TFacts Tryz.prog 116 ⟨1, 8, false, [Value.nilFunc], .fu⟩ := ⟨by kernel_rfl, _, Tryz.underlying116, rfl, ⟨_, _, _, rfl⟩⟩
theorem tf117 : TFacts Tryz.prog 117 ⟨1, 8, false, [Value.nilFunc], .fu⟩ := ⟨by kernel_rfl, _, Tryz.underlying117, rfl, ⟨_, _, _, rfl⟩⟩
theorem tf118 : TFacts Tryz.prog 118 ⟨1, 8, false, [Value.nilFunc], .fu⟩ := ⟨by kernel_rfl, _, Tryz.underlying118, rfl, ⟨_, _, _, rfl⟩⟩
theorem tf119 : TFacts Tryz.prog 119 ⟨1, 8, false, [Value.nilFunc], .fu⟩ := ⟨by kernel_rfl, _, Tryz.underlying119, rfl, ⟨_, _, _, rfl⟩⟩
theorem tf120 : TFacts Tryz.prog 120 ⟨1, 8, false, [Value.nilFunc], .fu⟩ := ⟨by kernel_rfl, _, Tryz.underlying120, rfl, ⟨_, _, _, rfl⟩⟩
theorem tf121 : TFacts Tryz.prog 121 ⟨1, 8, false, [Value.nilFunc], .fu⟩ := ⟨by kernel_rfl, _, Tryz.underlying121, rfl, ⟨_, _, _, rfl⟩⟩
theorem tf122 : TFacts Tryz.prog 122 ⟨1, 8, false, [Value.int .i64 0], .it .i64⟩ := ⟨by kernel_rfl, _, Tryz.underlying122, rfl, rfl⟩
theorem tf124 : TFacts Tryz.prog 124 ⟨1, 8, false, [Value.nilFunc], .fu⟩ := ⟨by kernel_rfl, _, Tryz.underlying124, rfl, ⟨_, _, _, rfl⟩⟩
theorem tf125 : TFacts Tryz.prog 125 ⟨1, 8, false, [Value.nilFunc], .fu⟩ := ⟨by kernel_rfl, _, Tryz.underlying125, rfl, ⟨_, _, _, rfl⟩⟩
theorem tf126 : TFacts Tryz.prog 126 ⟨1, 8, false, [Value.nilFunc], .fu⟩ := ⟨by kernel_rfl, _, Tryz.underlying126, rfl, ⟨_, _, _, rfl⟩⟩
theorem tf127 : TFacts Tryz.prog 127 ⟨1, 8, false, [Value.nilFunc], .fu⟩ := ⟨by kernel_rfl, _, Tryz.underlying127, rfl, ⟨_, _, _, rfl⟩⟩
theorem tf128 : TFacts Tryz.prog 128 ⟨1, 8, false, [Value.nilFunc], .fu⟩ := ⟨by kernel_rfl, _, Tryz.underlying128, rfl, ⟨_, _, _, rfl⟩⟩
theorem tf129 : TFacts Tryz.prog 129 ⟨1, 8, false, [Value.nilFunc], .fu⟩ := ⟨by kernel_rfl, _, Tryz.underlying129, rfl, ⟨_, _, _, rfl⟩⟩
theorem tf130 : TFacts Tryz.prog 130 ⟨1, 8, false, [Value.int .u64 0], .it .u64⟩ := ⟨by kernel_rfl, _, Tryz.underlying130, rfl, rfl⟩
theorem tf131 : TFacts Tryz.prog 131 ⟨1, 24, false, [Value.slice none 0 0], .sl 3⟩ := ⟨by kernel_rfl, _, Tryz.underlying131, rfl, rfl⟩
theorem tf132 : TFacts Tryz.prog 132 ⟨1, 8, false, [Value.nilFunc], .fu⟩ := ⟨by kernel_rfl, _, Tryz.underlying132, rfl, ⟨_, _, _, rfl⟩⟩
theorem tf133 : TFacts Tryz.prog 133 ⟨1, 8, false, [Value.nilFunc], .fu⟩ := ⟨by kernel_rfl, _, Tryz.underlying133, rfl, ⟨_, _, _, rfl⟩⟩
theorem tf135 : TFacts Tryz.prog 135 ⟨1, 8, false, [Value.nilFunc], .fu⟩ := ⟨by kernel_rfl, _, Tryz.underlying135, rfl, ⟨_, _, _, rfl⟩⟩
theorem tf136 : TFacts Tryz.prog 136 ⟨1, 8, false, [Value.nilFunc], .fu⟩ := ⟨by kernel_rfl, _, Tryz.underlying136, rfl, ⟨_, _, _, rfl⟩⟩
theorem tf137 : TFacts Tryz.prog 137 ⟨1, 24, false, [Value.slice none 0 0], .sl 167⟩ := ⟨by kernel_rfl, _, Tryz.underlying137, rfl, rfl⟩
theorem tf138 : TFacts Tryz.prog 138 ⟨2, 40, true, [Value.string ⟨#[]⟩, Value.slice none 0 0], .st [(0, 9), (1, 137)]⟩ := ⟨by kernel_rfl, _, Tryz.underlying138, rfl, ⟨_, rfl, rfl, by decide⟩⟩
theorem tf139 : TFacts Tryz.prog 139 ⟨2, 40, true, [Value.string ⟨#[]⟩, Value.slice none 0 0], .st [(0, 9), (1, 137)]⟩ := ⟨by kernel_rfl, _, Tryz.underlying139, rfl, ⟨_, rfl, rfl, by decide⟩⟩
theorem tf140 : TFacts Tryz.prog 140 ⟨1, 8, false, [Value.nilFunc], .fu⟩ := ⟨by kernel_rfl, _, Tryz.underlying140, rfl, ⟨_, _, _, rfl⟩⟩
theorem tf141 : TFacts Tryz.prog 141 ⟨1, 8, false, [Value.nilFunc], .fu⟩ := ⟨by kernel_rfl, _, Tryz.underlying141, rfl, ⟨_, _, _, rfl⟩⟩
theorem tf142 : TFacts Tryz.prog 142 ⟨1, 8, false, [Value.nilFunc], .fu⟩ := ⟨by kernel_rfl, _, Tryz.underlying142, rfl, ⟨_, _, _, rfl⟩⟩
theorem tf143 : TFacts Tryz.prog 143 ⟨1, 24, false, [Value.slice none 0 0], .sl 170⟩ := ⟨by kernel_rfl, _, Tryz.underlying143, rfl, rfl⟩
theorem tf144 : TFacts Tryz.prog 144 ⟨2, 40, true, [Value.string ⟨#[]⟩, Value.slice none 0 0], .st [(0, 9), (1, 143)]⟩ := ⟨by kernel_rfl, _, Tryz.underlying144, rfl, ⟨_, rfl, rfl, by decide⟩⟩
theorem tf145 : TFacts Tryz.prog 145 ⟨2, 40, true, [Value.string ⟨#[]⟩, Value.slice none 0 0], .st [(0, 9), (1, 143)]⟩ := ⟨by kernel_rfl, _, Tryz.underlying145, rfl, ⟨_, rfl, rfl, by decide⟩⟩
theorem tf146 : TFacts Tryz.prog 146 ⟨1, 8, false, [Value.nilFunc], .fu⟩ := ⟨by kernel_rfl, _, Tryz.underlying146, rfl, ⟨_, _, _, rfl⟩⟩
theorem tf147 : TFacts Tryz.prog 147 ⟨1, 8, false, [Value.nilFunc], .fu⟩ := ⟨by kernel_rfl, _, Tryz.underlying147, rfl, ⟨_, _, _, rfl⟩⟩
theorem tf148 : TFacts Tryz.prog 148 ⟨1, 8, false, [Value.nilFunc], .fu⟩ := ⟨by kernel_rfl, _, Tryz.underlying148, rfl, ⟨_, _, _, rfl⟩⟩
theorem tf149 : TFacts Tryz.prog 149 ⟨1, 8, false, [Value.nilFunc], .fu⟩ := ⟨by kernel_rfl, _, Tryz.underlying149, rfl, ⟨_, _, _, rfl⟩⟩
theorem tf150 : TFacts Tryz.prog 150 ⟨1, 24, false, [Value.slice none 0 0], .sl 36⟩ := ⟨by kernel_rfl, _, Tryz.underlying150, rfl, rfl⟩
theorem tf151 : TFacts Tryz.prog 151 ⟨1, 8, false, [Value.nilFunc], .fu⟩ := ⟨by kernel_rfl, _, Tryz.underlying151, rfl, ⟨_, _, _, rfl⟩⟩
theorem tf152 : TFacts Tryz.prog 152 ⟨1, 8, false, [Value.nilFunc], .fu⟩ := ⟨by kernel_rfl, _, Tryz.underlying152, rfl, ⟨_, _, _, rfl⟩⟩
theorem tf153 : TFacts Tryz.prog 153 ⟨1, 8, false, [Value.nilFunc], .fu⟩ := ⟨by kernel_rfl, _, Tryz.underlying153, rfl, ⟨_, _, _, rfl⟩⟩
theorem tf154 : TFacts Tryz.prog 154 ⟨1, 8, false, [Value.nilFunc], .fu⟩ := ⟨by kernel_rfl, _, Tryz.underlying154, rfl, ⟨_, _, _, rfl⟩⟩
theorem tf155 : TFacts Tryz.prog 155 ⟨1, 8, false, [Value.nilFunc], .fu⟩ := ⟨by kernel_rfl, _, Tryz.underlying155, rfl, ⟨_, _, _, rfl⟩⟩
theorem tf156 : TFacts Tryz.prog 156 ⟨1, 8, false, [Value.nilFunc], .fu⟩ := ⟨by kernel_rfl, _, Tryz.underlying156, rfl, ⟨_, _, _, rfl⟩⟩
theorem tf157 : TFacts Tryz.prog 157 ⟨1, 8, false, [Value.nilFunc], .fu⟩ := ⟨by kernel_rfl, _, Tryz.underlying157, rfl, ⟨_, _, _, rfl⟩⟩
theorem tf158 : TFacts Tryz.prog 158 ⟨1, 8, false, [Value.nilFunc], .fu⟩ := ⟨by kernel_rfl, _, Tryz.underlying158, rfl, ⟨_, _, _, rfl⟩⟩
theorem tf159 : TFacts Tryz.prog 159 ⟨1, 8, false, [Value.int .u64 0], .it .u64⟩ := ⟨by kernel_rfl, _, Tryz.underlying159, rfl, rfl⟩
theorem tf160 : TFacts Tryz.prog 160 ⟨1, 8, false, [Value.nilFunc], .fu⟩ := ⟨by kernel_rfl, _, Tryz.underlying160, rfl, ⟨_, _, _, rfl⟩⟩
theorem tf161 : TFacts Tryz.prog 161 ⟨1, 8, false, [Value.nilFunc], .fu⟩ := ⟨by kernel_rfl, _, Tryz.underlying161, rfl, ⟨_, _, _, rfl⟩⟩
theorem tf162 : TFacts Tryz.prog 162 ⟨1, 8, false, [Value.nilFunc], .fu⟩ := ⟨by kernel_rfl, _, Tryz.underlying162, rfl, ⟨_, _, _, rfl⟩⟩
theorem tf163 : TFacts Tryz.prog 163 ⟨1, 8, false, [Value.pointer none], .pt 3⟩ := ⟨by kernel_rfl, _, Tryz.underlying163, rfl, rfl⟩
theorem tf164 : TFacts Tryz.prog 164 ⟨1, 8, false, [Value.nilFunc], .fu⟩ := ⟨by kernel_rfl, _, Tryz.underlying164, rfl, ⟨_, _, _, rfl⟩⟩
theorem tf165 : TFacts Tryz.prog 165 ⟨1, 8, false, [Value.nilFunc], .fu⟩ := ⟨by kernel_rfl, _, Tryz.underlying165, rfl, ⟨_, _, _, rfl⟩⟩
theorem tf166 : TFacts Tryz.prog 166 ⟨5, 40, true, [Value.bool false, Value.int .u32 0, Value.int .i64 0, Value.int .i64 0, Value.int .i64 0], .st [(0, 4), (1, 44), (3, 3), (4, 3)]⟩ := ⟨by kernel_rfl, _, Tryz.underlying166, rfl, ⟨_, rfl, rfl, by decide⟩⟩
theorem tf167 : TFacts Tryz.prog 167 ⟨5, 40, true, [Value.bool false, Value.int .u32 0, Value.int .i64 0, Value.int .i64 0, Value.int .i64 0], .st [(0, 4), (1, 44), (3, 3), (4, 3)]⟩ := ⟨by kernel_rfl, _, Tryz.underlying167, rfl, ⟨_, rfl, rfl, by decide⟩⟩
theorem tf168 : TFacts Tryz.prog 168 ⟨1, 8, false, [Value.nilFunc], .fu⟩ := ⟨by kernel_rfl, _, Tryz.underlying168, rfl, ⟨_, _, _, rfl⟩⟩
theorem tf169 : TFacts Tryz.prog 169 ⟨2, 32, true, [Value.bool false, Value.slice none 0 0], .st [(0, 4), (1, 45)]⟩ := ⟨by kernel_rfl, _, Tryz.underlying169, rfl, ⟨_, rfl, rfl, by decide⟩⟩
theorem tf170 : TFacts Tryz.prog 170 ⟨2, 32, true, [Value.bool false, Value.slice none 0 0], .st [(0, 4), (1, 45)]⟩ := ⟨by kernel_rfl, _, Tryz.underlying170, rfl, ⟨_, rfl, rfl, by decide⟩⟩
theorem tf171 : TFacts Tryz.prog 171 ⟨1, 8, false, [Value.nilFunc], .fu⟩ := ⟨by kernel_rfl, _, Tryz.underlying171, rfl, ⟨_, _, _, rfl⟩⟩
theorem tf172 : TFacts Tryz.prog 172 ⟨1, 8, false, [Value.nilFunc], .fu⟩ := ⟨by kernel_rfl, _, Tryz.underlying172, rfl, ⟨_, _, _, rfl⟩⟩
theorem tf173 : TFacts Tryz.prog 173 ⟨1, 8, false, [Value.nilFunc], .fu⟩ := ⟨by kernel_rfl, _, Tryz.underlying173, rfl, ⟨_, _, _, rfl⟩⟩
theorem tf174 : TFacts Tryz.prog 174 ⟨1, 8, false, [Value.nilFunc], .fu⟩ := ⟨by kernel_rfl, _, Tryz.underlying174, rfl, ⟨_, _, _, rfl⟩⟩
theorem tf175 : TFacts Tryz.prog 175 ⟨1, 8, false, [Value.nilFunc], .fu⟩ := ⟨by kernel_rfl, _, Tryz.underlying175, rfl, ⟨_, _, _, rfl⟩⟩
theorem tf176 : TFacts Tryz.prog 176 ⟨1, 8, false, [Value.pointer none], .pt 159⟩ := ⟨by kernel_rfl, _, Tryz.underlying176, rfl, rfl⟩
theorem tf178 : TFacts Tryz.prog 178 ⟨1, 8, false, [Value.nilFunc], .fu⟩ := ⟨by kernel_rfl, _, Tryz.underlying178, rfl, ⟨_, _, _, rfl⟩⟩
theorem tf179 : TFacts Tryz.prog 179 ⟨1, 8, false, [Value.nilFunc], .fu⟩ := ⟨by kernel_rfl, _, Tryz.underlying179, rfl, ⟨_, _, _, rfl⟩⟩
theorem tf180 : TFacts Tryz.prog 180 ⟨1, 8, false, [Value.nilFunc], .fu⟩ := ⟨by kernel_rfl, _, Tryz.underlying180, rfl, ⟨_, _, _, rfl⟩⟩
theorem tf181 : TFacts Tryz.prog 181 ⟨1, 8, false, [Value.nilFunc], .fu⟩ := ⟨by kernel_rfl, _, Tryz.underlying181, rfl, ⟨_, _, _, rfl⟩⟩
theorem tf182 : TFacts Tryz.prog 182 ⟨1, 8, false, [Value.nilFunc], .fu⟩ := ⟨by kernel_rfl, _, Tryz.underlying182, rfl, ⟨_, _, _, rfl⟩⟩
theorem tf183 : TFacts Tryz.prog 183 ⟨1, 8, false, [Value.nilFunc], .fu⟩ := ⟨by kernel_rfl, _, Tryz.underlying183, rfl, ⟨_, _, _, rfl⟩⟩
theorem tf184 : TFacts Tryz.prog 184 ⟨1, 8, false, [Value.nilFunc], .fu⟩ := ⟨by kernel_rfl, _, Tryz.underlying184, rfl, ⟨_, _, _, rfl⟩⟩
theorem tf185 : TFacts Tryz.prog 185 ⟨1, 24, false, [Value.slice none 0 0], .sl 45⟩ := ⟨by kernel_rfl, _, Tryz.underlying185, rfl, rfl⟩
theorem tf186 : TFacts Tryz.prog 186 ⟨1, 8, false, [Value.nilFunc], .fu⟩ := ⟨by kernel_rfl, _, Tryz.underlying186, rfl, ⟨_, _, _, rfl⟩⟩
theorem tf187 : TFacts Tryz.prog 187 ⟨1, 8, false, [Value.nilFunc], .fu⟩ := ⟨by kernel_rfl, _, Tryz.underlying187, rfl, ⟨_, _, _, rfl⟩⟩
theorem tf188 : TFacts Tryz.prog 188 ⟨1, 8, false, [Value.nilFunc], .fu⟩ := ⟨by kernel_rfl, _, Tryz.underlying188, rfl, ⟨_, _, _, rfl⟩⟩
theorem tf189 : TFacts Tryz.prog 189 ⟨1, 8, false, [Value.nilFunc], .fu⟩ := ⟨by kernel_rfl, _, Tryz.underlying189, rfl, ⟨_, _, _, rfl⟩⟩
theorem tf190 : TFacts Tryz.prog 190 ⟨1, 8, false, [Value.nilFunc], .fu⟩ := ⟨by kernel_rfl, _, Tryz.underlying190, rfl, ⟨_, _, _, rfl⟩⟩
theorem tf191 : TFacts Tryz.prog 191 ⟨1, 8, false, [Value.nilFunc], .fu⟩ := ⟨by kernel_rfl, _, Tryz.underlying191, rfl, ⟨_, _, _, rfl⟩⟩
theorem tf192 : TFacts Tryz.prog 192 ⟨1, 8, false, [Value.nilFunc], .fu⟩ := ⟨by kernel_rfl, _, Tryz.underlying192, rfl, ⟨_, _, _, rfl⟩⟩
theorem tf193 : TFacts Tryz.prog 193 ⟨1, 8, false, [Value.nilFunc], .fu⟩ := ⟨by kernel_rfl, _, Tryz.underlying193, rfl, ⟨_, _, _, rfl⟩⟩
theorem tf194 : TFacts Tryz.prog 194 ⟨1, 8, false, [Value.nilFunc], .fu⟩ := ⟨by kernel_rfl, _, Tryz.underlying194, rfl, ⟨_, _, _, rfl⟩⟩
theorem tf195 : TFacts Tryz.prog 195 ⟨1, 8, false, [Value.nilFunc], .fu⟩ := ⟨by kernel_rfl, _, Tryz.underlying195, rfl, ⟨_, _, _, rfl⟩⟩
theorem tf196 : TFacts Tryz.prog 196 ⟨1, 8, false, [Value.nilFunc], .fu⟩ := ⟨by kernel_rfl, _, Tryz.underlying196, rfl, ⟨_, _, _, rfl⟩⟩
theorem tf197 : TFacts Tryz.prog 197 ⟨1, 8, false, [Value.nilFunc], .fu⟩ := ⟨by kernel_rfl, _, Tryz.underlying197, rfl, ⟨_, _, _, rfl⟩⟩
theorem tf198 : TFacts Tryz.prog 198 ⟨1, 8, false, [Value.nilFunc], .fu⟩ := ⟨by kernel_rfl, _, Tryz.underlying198, rfl, ⟨_, _, _, rfl⟩⟩
theorem tf199 : TFacts Tryz.prog 199 ⟨1, 8, false, [Value.nilFunc], .fu⟩ := ⟨by kernel_rfl, _, Tryz.underlying199, rfl, ⟨_, _, _, rfl⟩⟩
theorem tf200 : TFacts Tryz.prog 200 ⟨1, 8, false, [Value.nilFunc], .fu⟩ := ⟨by kernel_rfl, _, Tryz.underlying200, rfl, ⟨_, _, _, rfl⟩⟩
theorem tf201 : TFacts Tryz.prog 201 ⟨1, 8, false, [Value.nilFunc], .fu⟩ := ⟨by kernel_rfl, _, Tryz.underlying201, rfl, ⟨_, _, _, rfl⟩⟩
theorem tf202 : TFacts Tryz.prog 202 ⟨1, 8, false, [Value.nilFunc], .fu⟩ := ⟨by kernel_rfl, _, Tryz.underlying202, rfl, ⟨_, _, _, rfl⟩⟩
theorem tf203 : TFacts Tryz.prog 203 ⟨1, 8, false, [Value.nilFunc], .fu⟩ := ⟨by kernel_rfl, _, Tryz.underlying203, rfl, ⟨_, _, _, rfl⟩⟩
theorem tf209 : TFacts Tryz.prog 209 ⟨1, 8, false, [Value.nilFunc], .fu⟩ := ⟨by kernel_rfl, _, Tryz.underlying209, rfl, ⟨_, _, _, rfl⟩⟩
theorem tf212 : TFacts Tryz.prog 212 ⟨1, 8, false, [Value.nilFunc], .fu⟩ := ⟨by kernel_rfl, _, Tryz.underlying212, rfl, ⟨_, _, _, rfl⟩⟩
theorem tf213 : TFacts Tryz.prog 213 ⟨1, 8, false, [Value.pointer none], .pt 5⟩ := ⟨by kernel_rfl, _, Tryz.underlying213, rfl, rfl⟩
theorem tf218 : TFacts Tryz.prog 218 ⟨11, 120, true, [Value.string ⟨#[]⟩, Value.string ⟨#[]⟩, Value.int .u32 0, Value.int .i64 0, Value.bool false, Value.string ⟨#[]⟩, Value.string ⟨#[]⟩, Value.int .u8 0, Value.int .i64 0, Value.int .i64 0, Value.bool false], .st [(0, 9), (1, 9), (2, 42), (3, 3), (4, 4), (5, 9), (6, 9), (7, 5), (8, 3), (9, 3), (10, 4)]⟩ := ⟨by kernel_rfl, _, Tryz.underlying218, rfl, ⟨_, rfl, rfl, by decide⟩⟩
theorem tf219 : TFacts Tryz.prog 219 ⟨11, 120, true, [Value.string ⟨#[]⟩, Value.string ⟨#[]⟩, Value.int .u32 0, Value.int .i64 0, Value.bool false, Value.string ⟨#[]⟩, Value.string ⟨#[]⟩, Value.int .u8 0, Value.int .i64 0, Value.int .i64 0, Value.bool false], .st [(0, 9), (1, 9), (2, 42), (3, 3), (4, 4), (5, 9), (6, 9), (7, 5), (8, 3), (9, 3), (10, 4)]⟩ := ⟨by kernel_rfl, _, Tryz.underlying219, rfl, ⟨_, rfl, rfl, by decide⟩⟩
theorem tf220 : TFacts Tryz.prog 220 ⟨1, 24, false, [Value.slice none 0 0], .sl 236⟩ := ⟨by kernel_rfl, _, Tryz.underlying220, rfl, rfl⟩
theorem tf221 : TFacts Tryz.prog 221 ⟨2, 40, true, [Value.string ⟨#[]⟩, Value.slice none 0 0], .st [(0, 9), (1, 220)]⟩ := ⟨by kernel_rfl, _, Tryz.underlying221, rfl, ⟨_, rfl, rfl, by decide⟩⟩
theorem tf222 : TFacts Tryz.prog 222 ⟨2, 40, true, [Value.string ⟨#[]⟩, Value.slice none 0 0], .st [(0, 9), (1, 220)]⟩ := ⟨by kernel_rfl, _, Tryz.underlying222, rfl, ⟨_, rfl, rfl, by decide⟩⟩
theorem tf223 : TFacts Tryz.prog 223 ⟨3, 32, true, [Value.bool false, Value.string ⟨#[]⟩, Value.int .u32 0], .st [(0, 4), (1, 9), (2, 42)]⟩ := ⟨by kernel_rfl, _, Tryz.underlying223, rfl, ⟨_, rfl, rfl, by decide⟩⟩
theorem tf224 : TFacts Tryz.prog 224 ⟨3, 32, true, [Value.bool false, Value.string ⟨#[]⟩, Value.int .u32 0], .st [(0, 4), (1, 9), (2, 42)]⟩ := ⟨by kernel_rfl, _, Tryz.underlying224, rfl, ⟨_, rfl, rfl, by decide⟩⟩
theorem tf225 : TFacts Tryz.prog 225 ⟨7, 56, true, [Value.string ⟨#[]⟩, Value.int .u32 0, Value.int .i64 0, Value.int .u32 0, Value.bool false, Value.int .i64 0, Value.int .i64 0], .st [(0, 9), (1, 44), (3, 42), (4, 4), (5, 3), (6, 3)]⟩ := ⟨by kernel_rfl, _, Tryz.underlying225, rfl, ⟨_, rfl, rfl, by decide⟩⟩
theorem tf226 : TFacts Tryz.prog 226 ⟨7, 56, true, [Value.string ⟨#[]⟩, Value.int .u32 0, Value.int .i64 0, Value.int .u32 0, Value.bool false, Value.int .i64 0, Value.int .i64 0], .st [(0, 9), (1, 44), (3, 42), (4, 4), (5, 3), (6, 3)]⟩ := ⟨by kernel_rfl, _, Tryz.underlying226, rfl, ⟨_, rfl, rfl, by decide⟩⟩
theorem tf227 : TFacts Tryz.prog 227 ⟨3, 48, true, [Value.string ⟨#[]⟩, Value.int .u32 0, Value.slice none 0 0], .st [(0, 9), (1, 42), (2, 34)]⟩ := ⟨by kernel_rfl, _, Tryz.underlying227, rfl, ⟨_, rfl, rfl, by decide⟩⟩
theorem tf228 : TFacts Tryz.prog 228 ⟨3, 48, true, [Value.string ⟨#[]⟩, Value.int .u32 0, Value.slice none 0 0], .st [(0, 9), (1, 42), (2, 34)]⟩ := ⟨by kernel_rfl, _, Tryz.underlying228, rfl, ⟨_, rfl, rfl, by decide⟩⟩
theorem tf229 : TFacts Tryz.prog 229 ⟨1, 24, false, [Value.slice none 0 0], .sl 238⟩ := ⟨by kernel_rfl, _, Tryz.underlying229, rfl, rfl⟩
theorem tf230 : TFacts Tryz.prog 230 ⟨6, 96, true, [Value.string ⟨#[]⟩, Value.int .u32 0, Value.int .u32 0, Value.slice none 0 0, Value.slice none 0 0, Value.slice none 0 0], .st [(0, 9), (1, 41), (2, 42), (3, 106), (4, 229), (5, 34)]⟩ := ⟨by kernel_rfl, _, Tryz.underlying230, rfl, ⟨_, rfl, rfl, by decide⟩⟩
theorem tf231 : TFacts Tryz.prog 231 ⟨6, 96, true, [Value.string ⟨#[]⟩, Value.int .u32 0, Value.int .u32 0, Value.slice none 0 0, Value.slice none 0 0, Value.slice none 0 0], .st [(0, 9), (1, 41), (2, 42), (3, 106), (4, 229), (5, 34)]⟩ := ⟨by kernel_rfl, _, Tryz.underlying231, rfl, ⟨_, rfl, rfl, by decide⟩⟩
theorem tf233 : TFacts Tryz.prog 233 ⟨2, 8, true, [Value.int .u32 0, Value.int .u32 0], .st [(0, 41), (1, 41)]⟩ := ⟨by kernel_rfl, _, Tryz.underlying233, rfl, ⟨_, rfl, rfl, by decide⟩⟩
theorem tf234 : TFacts Tryz.prog 234 ⟨2, 8, true, [Value.int .u32 0, Value.int .u32 0], .st [(0, 41), (1, 41)]⟩ := ⟨by kernel_rfl, _, Tryz.underlying234, rfl, ⟨_, rfl, rfl, by decide⟩⟩
theorem tf235 : TFacts Tryz.prog 235 ⟨10, 64, true, [Value.bool false, Value.int .i64 0, Value.int .u32 0, Value.int .i64 0, Value.int .u32 0, Value.int .i64 0, Value.int .u32 0, Value.int .u32 0, Value.int .u32 0, Value.int .u32 0], .st [(0, 4), (1, 3), (2, 44), (4, 44), (6, 234), (8, 234)]⟩ := ⟨by kernel_rfl, _, Tryz.underlying235, rfl, ⟨_, rfl, rfl, by decide⟩⟩
theorem tf236 : TFacts Tryz.prog 236 ⟨10, 64, true, [Value.bool false, Value.int .i64 0, Value.int .u32 0, Value.int .i64 0, Value.int .u32 0, Value.int .i64 0, Value.int .u32 0, Value.int .u32 0, Value.int .u32 0, Value.int .u32 0], .st [(0, 4), (1, 3), (2, 44), (4, 44), (6, 234), (8, 234)]⟩ := ⟨by kernel_rfl, _, Tryz.underlying236, rfl, ⟨_, rfl, rfl, by decide⟩⟩
theorem tf237 : TFacts Tryz.prog 237 ⟨6, 48, true, [Value.int .u32 0, Value.int .u32 0, Value.string ⟨#[]⟩, Value.string ⟨#[]⟩, Value.bool false, Value.bool false], .st [(0, 42), (1, 41), (2, 9), (3, 9), (4, 4), (5, 4)]⟩ := ⟨by kernel_rfl, _, Tryz.underlying237, rfl, ⟨_, rfl, rfl, by decide⟩⟩
theorem tf238 : TFacts Tryz.prog 238 ⟨6, 48, true, [Value.int .u32 0, Value.int .u32 0, Value.string ⟨#[]⟩, Value.string ⟨#[]⟩, Value.bool false, Value.bool false], .st [(0, 42), (1, 41), (2, 9), (3, 9), (4, 4), (5, 4)]⟩ := ⟨by kernel_rfl, _, Tryz.underlying238, rfl, ⟨_, rfl, rfl, by decide⟩⟩
set_option maxRecDepth 100000 in
theorem tabOk : TabOk Tryz.prog tab := (.node tf124 (.node tf68 (.node tf40 (.node tf26 (.node tf12 (.node tf4 (.node tf2 (.node tf1 (.leaf _) (.leaf _)) (.node tf3 (.leaf _) (.leaf _))) (.node tf9 (.node tf5 (.leaf _) (.leaf _)) (.leaf _))) (.node tf23 (.node tf22 (.node tf21 (.leaf _) (.leaf _)) (.leaf _)) (.node tf25 (.node tf24 (.leaf _) (.leaf _)) (.leaf _)))) (.node tf33 (.node tf30 (.node tf28 (.node tf27 (.leaf _) (.leaf _)) (.node tf29 (.leaf _) (.leaf _))) (.node tf32 (.node tf31 (.leaf _) (.leaf _)) (.leaf _))) (.node tf36 (.node tf35 (.node tf34 (.leaf _) (.leaf _)) (.leaf _)) (.node tf38 (.node tf37 (.leaf _) (.leaf _)) (.leaf _))))) (.node tf53 (.node tf47 (.node tf44 (.node tf42 (.node tf41 (.leaf _) (.leaf _)) (.node tf43 (.leaf _) (.leaf _))) (.node tf46 (.node tf45 (.leaf _) (.leaf _)) (.leaf _))) (.node tf50 (.node tf49 (.node tf48 (.leaf _) (.leaf _)) (.leaf _)) (.node tf52 (.node tf51 (.leaf _) (.leaf _)) (.leaf _)))) (.node tf59 (.node tf56 (.node tf55 (.node tf54 (.leaf _) (.leaf _)) (.leaf _)) (.node tf58 (.node tf57 (.leaf _) (.leaf _)) (.leaf _))) (.node tf64 (.node tf63 (.node tf61 (.leaf _) (.leaf _)) (.leaf _)) (.node tf67 (.node tf65 (.leaf _) (.leaf _)) (.leaf _)))))) (.node tf98 (.node tf84 (.node tf77 (.node tf73 (.node tf70 (.node tf69 (.leaf _) (.leaf _)) (.node tf72 (.leaf _) (.leaf _))) (.node tf76 (.node tf74 (.leaf _) (.leaf _)) (.leaf _))) (.node tf81 (.node tf80 (.node tf79 (.leaf _) (.leaf _)) (.leaf _)) (.node tf83 (.node tf82 (.leaf _) (.leaf _)) (.leaf _)))) (.node tf92 (.node tf87 (.node tf86 (.node tf85 (.leaf _) (.leaf _)) (.leaf _)) (.node tf91 (.node tf89 (.leaf _) (.leaf _)) (.leaf _))) (.node tf95 (.node tf94 (.node tf93 (.leaf _) (.leaf _)) (.leaf _)) (.node tf97 (.node tf96 (.leaf _) (.leaf _)) (.leaf _))))) (.node tf111 (.node tf105 (.node tf102 (.node tf100 (.node tf99 (.leaf _) (.leaf _)) (.node tf101 (.leaf _) (.leaf _))) (.node tf104 (.node tf103 (.leaf _) (.leaf _)) (.leaf _))) (.node tf108 (.node tf107 (.node tf106 (.leaf _) (.leaf _)) (.leaf _)) (.node tf110 (.node tf109 (.leaf _) (.leaf _)) (.leaf _)))) (.node tf117 (.node tf114 (.node tf113 (.node tf112 (.leaf _) (.leaf _)) (.leaf _)) (.node tf116 (.node tf115 (.leaf _) (.leaf _)) (.leaf _))) (.node tf120 (.node tf119 (.node tf118 (.leaf _) (.leaf _)) (.leaf _)) (.node tf122 (.node tf121 (.leaf _) (.leaf _)) (.leaf _))))))) (.node tf176 (.node tf151 (.node tf138 (.node tf131 (.node tf128 (.node tf126 (.node tf125 (.leaf _) (.leaf _)) (.node tf127 (.leaf _) (.leaf _))) (.node tf130 (.node tf129 (.leaf _) (.leaf _)) (.leaf _))) (.node tf135 (.node tf133 (.node tf132 (.leaf _) (.leaf _)) (.leaf _)) (.node tf137 (.node tf136 (.leaf _) (.leaf _)) (.leaf _)))) (.node tf145 (.node tf142 (.node tf140 (.node tf139 (.leaf _) (.leaf _)) (.node tf141 (.leaf _) (.leaf _))) (.node tf144 (.node tf143 (.leaf _) (.leaf _)) (.leaf _))) (.node tf148 (.node tf147 (.node tf146 (.leaf _) (.leaf _)) (.leaf _)) (.node tf150 (.node tf149 (.leaf _) (.leaf _)) (.leaf _))))) (.node tf164 (.node tf158 (.node tf155 (.node tf153 (.node tf152 (.leaf _) (.leaf _)) (.node tf154 (.leaf _) (.leaf _))) (.node tf157 (.node tf156 (.leaf _) (.leaf _)) (.leaf _))) (.node tf161 (.node tf160 (.node tf159 (.leaf _) (.leaf _)) (.leaf _)) (.node tf163 (.node tf162 (.leaf _) (.leaf _)) (.leaf _)))) (.node tf170 (.node tf167 (.node tf166 (.node tf165 (.leaf _) (.leaf _)) (.leaf _)) (.node tf169 (.node tf168 (.leaf _) (.leaf _)) (.leaf _))) (.node tf173 (.node tf172 (.node tf171 (.leaf _) (.leaf _)) (.leaf _)) (.node tf175 (.node tf174 (.leaf _) (.leaf _)) (.leaf _)))))) (.node tf202 (.node tf190 (.node tf184 (.node tf181 (.node tf179 (.node tf178 (.leaf _) (.leaf _)) (.node tf180 (.leaf _) (.leaf _))) (.node tf183 (.node tf182 (.leaf _) (.leaf _)) (.leaf _))) (.node tf187 (.node tf186 (.node tf185 (.leaf _) (.leaf _)) (.leaf _)) (.node tf189 (.node tf188 (.leaf _) (.leaf _)) (.leaf _)))) (.node tf196 (.node tf193 (.node tf192 (.node tf191 (.leaf _) (.leaf _)) (.leaf _)) (.node tf195 (.node tf194 (.leaf _) (.leaf _)) (.leaf _))) (.node tf199 (.node tf198 (.node tf197 (.leaf _) (.leaf _)) (.leaf _)) (.node tf201 (.node tf200 (.leaf _) (.leaf _)) (.leaf _))))) (.node tf226 (.node tf220 (.node tf213 (.node tf209 (.node tf203 (.leaf _) (.leaf _)) (.node tf212 (.leaf _) (.leaf _))) (.node tf219 (.node tf218 (.leaf _) (.leaf _)) (.leaf _))) (.node tf223 (.node tf222 (.node tf221 (.leaf _) (.leaf _)) (.leaf _)) (.node tf225 (.node tf224 (.leaf _) (.leaf _)) (.leaf _)))) (.node tf233 (.node tf229 (.node tf228 (.node tf227 (.leaf _) (.leaf _)) (.leaf _)) (.node tf231 (.node tf230 (.leaf _) (.leaf _)) (.leaf _))) (.node tf236 (.node tf235 (.node tf234 (.leaf _) (.leaf _)) (.leaf _)) (.node tf238 (.node tf237 (.leaf _) (.leaf _)) (.leaf _))))))))
theorem mixed : Tryz.prog.follows .mixedOrders = true := by kernel_rfl
end Go.Proofs.YtpnhkkejcnicoaaGreat.Ab

namespace Go.Proofs.YtpnhkkejcnicoaaGreat
open Go.RowKit Go.Sort

theorem ret_int {k : IntKind} {a b : Int} (h : a = b) : Ending.returned (.int k a) = .returned (.int k b) := by rw [h]
theorem ret_bool {a b : Bool} (h : a = b) : Ending.returned (.bool a) = .returned (.bool b) := by rw [h]

def Ret (w : World) (v : Value) (e : Ending) (w' : World) : Prop := e = .returned v ∧ Below w.heap.size w w'
def RetS (w : World) (v : Value) (e : Ending) (w' : World) : Prop := e = .returned v ∧ w = w'

section
variable {P : Program} {f : FuncId} {args : Array Value} {w w' w1 : World} {v : Value}
theorem Ret.of_same (h : Calls P f args w (RetS w v)) : Calls P f args w (Ret w v) :=
  h.mono fun _ _ ⟨he, hw⟩ => ⟨he, hw ▸ Below.refl _ _⟩
theorem Ret.q {d : Nat} {os : Array Obj} (h : ∀ W, Below w.heap.size w W → Calls P f args W (Ret W v)) :
    Calls P f args (grow (redrawn w d) os) fun e w'' => e = .returned v ∧ ∃ p : Regrown, w'' = grow (redrawn w p.d) p.os :=
  Calls.regrown_of (h _ (below_regrown w d os))
theorem RetS.q {d : Nat} {os : Array Obj} (h : ∀ W, Below w.heap.size w W → Calls P f args W (RetS W v)) :
    Calls P f args (grow (redrawn w d) os) fun e w'' => e = .returned v ∧ ∃ p : Regrown, w'' = grow (redrawn w p.d) p.os :=
  Calls.regrown_of (Ret.of_same (h _ (below_regrown w d os)))
theorem Ret.q0 {d : Nat} {os : Array Obj} (h : ∀ W, Calls P f args W (Ret W v)) :
    Calls P f args (grow (redrawn w d) os) fun e w'' => e = .returned v ∧ ∃ p : Regrown, w'' = grow (redrawn w p.d) p.os :=
  Calls.regrown_of (h _)
theorem RetS.q0 {d : Nat} {os : Array Obj} (h : ∀ W, Calls P f args W (RetS W v)) :
    Calls P f args (grow (redrawn w d) os) fun e w'' => e = .returned v ∧ ∃ p : Regrown, w'' = grow (redrawn w p.d) p.os :=
  Calls.regrown_of (Ret.of_same (h _))
theorem RetS.d {n : Nat} (h : Calls P f args (w.drewN n) (RetS (w.drewN n) v)) : Calls P f args (w.drewN n) fun e w'' => e = .returned v ∧ ∃ m, w'' = w.drewN m :=
  h.mono fun _ _ ⟨he, hm⟩ => ⟨he, n, hm.symm⟩
theorem RetS.dd {a n : Nat} (h : Calls P f args (w.drewN (a + n)) (RetS (w.drewN (a + n)) v)) : Calls P f args (w.drewN (a + n)) fun e w'' => e = .returned v ∧ ∃ m, w'' = w.drewN (a + m) :=
  h.mono fun _ _ ⟨he, hm⟩ => ⟨he, n, hm.symm⟩

theorem below_drewN {B : Nat} {a w : World} (h : Below B a w) (n : Nat) : Below B a (w.drewN n) := ⟨h.os, h.tape, h.output, h.size, h.block⟩
theorem below_of_regrown {w w' : World} (h : ∃ p : Regrown, w' = grow (redrawn w p.d) p.os) : Below w.heap.size w w' := by
  obtain ⟨p, rfl⟩ := h
  exact below_regrown w _ _
theorem kc {w w1 : World} (hb : Below w.heap.size w w1) {a : Addr} {v : Value} (h : w.cell? a = some v) : w1.cell? a = some v := by
  rw [hb.cell (block_lt_of_cell h)]; exact h
theorem below_trans {a b c : World} (h : Below a.heap.size a b) (k : Below b.heap.size b c) : Below a.heap.size a c := h.trans (k.mono h.size)

def Kn (w : World) (b o : Nat) (v : Value) : Prop := w.cell? ⟨b, o, none⟩ = some v ∧ w.frozen? ⟨b, o, none⟩ = false
theorem Kn.lt {b o : Nat} (h : Kn w b o v) : b < w.heap.size := block_lt_of_cell h.1
theorem Kn.keep {b o : Nat} (h : Kn w b o v) (hb : Below w.heap.size w w1) : Kn w1 b o v := ⟨kc hb h.1, (hb.frozen (p := ⟨b, o, none⟩) h.lt).trans h.2⟩
theorem Kn.cell {b o : Nat} (h : Kn w b o v) : w.cell? ⟨b, o, none⟩ = some v := h.1
theorem Kn.free {b o : Nat} (h : Kn w b o v) : w.frozen? ⟨b, o, none⟩ = false := h.2
theorem Kn.new {cs : Array Value} {t : TypeId} {j : Nat} {u : Value} (h : cs[j]? = some u) : Kn (w.alloc (.cells cs t)) w.heap.size j u := by
  constructor
  · simp [World.cell?_alloc_at, h]
  · simp
theorem Kn.alloc {b o : Nat} (h : Kn w b o v) (x : Obj) : Kn (w.alloc x) b o v := by
  have hl := h.lt
  exact ⟨(World.cell?_alloc_lt w x ⟨b, o, none⟩ hl).trans h.1, (World.frozen?_alloc_old w x ⟨b, o, none⟩ (Nat.ne_of_lt hl)).trans h.2⟩
end

end Go.Proofs.YtpnhkkejcnicoaaGreat

namespace Go.Proofs.YtpnhkkejcnicoaaGreat
set_option linter.unusedVariables false
open Go.RowKit Go.Sort

structure Kp (L : List Nat) (w w' : World) : Prop where
  os : w'.os = w.os
  tape : w'.tape = w.tape
  output : w'.output = w.output
  size : w.heap.size ≤ w'.heap.size
  block : ∀ k, k < w.heap.size → k ∉ L → w'.heap[k]? = w.heap[k]?

section
variable {L M : List Nat} {w w0 w1 w2 : World}
theorem Kp.refl (L : List Nat) (w : World) : Kp L w w := ⟨rfl, rfl, rfl, Nat.le_refl _, fun _ _ _ => rfl⟩
theorem Kp.of_below (h : Below w.heap.size w w1) : Kp [] w w1 := ⟨h.os, h.tape, h.output, h.size, fun k hk _ => h.block k hk⟩
theorem Kp.trans (h : Kp L w0 w1) (k : Kp M w1 w2) (hs : ∀ b ∈ M, b ∈ L ∨ w0.heap.size ≤ b) : Kp L w0 w2 :=
  ⟨k.os.trans h.os, k.tape.trans h.tape, k.output.trans h.output, Nat.le_trans h.size k.size, fun i hi hn =>
    (k.block i (Nat.lt_of_lt_of_le hi h.size) (fun hm => by rcases hs i hm with h1 | h1; exact hn h1; omega)).trans (h.block i hi hn)⟩
theorem Kp.more (h : Kp L w0 w1) (k : Below w1.heap.size w1 w2) : Kp L w0 w2 := h.trans (Kp.of_below k) (by simp)
theorem Kp.drew (h : Kp L w w1) : Kp L w w1.drew := ⟨h.os, h.tape, h.output, h.size, h.block⟩
theorem Kp.drewN (h : Kp L w w1) (n : Nat) : Kp L w (w1.drewN n) := ⟨h.os, h.tape, h.output, h.size, h.block⟩
theorem Kp.alloc (h : Kp L w w1) (x : Obj) : Kp L w (w1.alloc x) :=
  ⟨h.os, h.tape, h.output, by have := h.size; simp; omega, fun k hk hn => (Below.heap_alloc w1 x k (Nat.lt_of_lt_of_le hk h.size)).trans (h.block k hk hn)⟩
theorem Kp.setCell (h : Kp L w w1) (p : Addr) (u : Value) (hp : p.block ∈ L ∨ w.heap.size ≤ p.block) : Kp L w (w1.setCell p u) := by
  have e := (Below.refl 0 w1).setCell (p := p) (Nat.zero_le _) u
  refine ⟨e.os.trans h.os, e.tape.trans h.tape, e.output.trans h.output, Nat.le_trans h.size e.size, fun k hk hn => ?_⟩
  refine (Below.heap_setCell w1 p u k ?_).trans (h.block k hk hn)
  rintro rfl
  rcases hp with h1 | h1
  · exact hn h1
  · omega
theorem Kp.grown {row : Option Nat} (h : Kp L w w1) (hg : w1.grownBy w2 row) (hr : ∀ k, row = some k → k ∈ L ∨ w.heap.size ≤ k) : Kp L w w2 :=
  ⟨hg.os.trans h.os, hg.tape.trans h.tape, hg.output.trans h.output, Nat.le_trans h.size hg.size, fun k hk hn =>
    (hg.block k (Nat.lt_of_lt_of_le hk h.size) (fun e => by rcases hr k e.symm with h1 | h1; exact hn h1; omega)).trans (h.block k hk hn)⟩
theorem Kp.cell (h : Kp L w w1) {a : Addr} {v : Value} (hc : w.cell? a = some v) (hn : a.block ∉ L) : w1.cell? a = some v :=
  (World.cell?_of_block (h.block a.block (World.block_lt_of_cell? w a hc) hn)).trans hc

theorem Kn.set {b o : Nat} {v : Value} (h : Kn w b o v) (u : Value) : Kn (w.setCell ⟨b, o, none⟩ u) b o u :=
  ⟨World.cell?_setCell_same _ _ _ h.1, by rw [World.frozen?_setCell]; exact h.2⟩
theorem Kn.drew {b o : Nat} {v : Value} (h : Kn w b o v) : Kn w.drew b o v := h

def Rd (w : World) (v : Value) (n k : Nat) (cs : List Value) : Prop :=
  ∃ ao cap, v = .slice ao n cap ∧ cs.length = n * k ∧ (0 < n → ∃ b o, ao = some ⟨b, o, none⟩ ∧ ∀ j u, cs[j]? = some u → w.cell? ⟨b, o + j, none⟩ = some u)
def Rdx (L : List Nat) (v : Value) : Prop := ∀ a n cap, v = .slice (some a) n cap → 0 < n → a.block ∉ L
theorem Rdx.nil (v : Value) : Rdx [] v := fun _ _ _ _ _ => by simp

theorem Rd.drew {v : Value} {n k : Nat} {cs : List Value} (h : Rd w v n k cs) : Rd w.drew v n k cs := h
theorem Rd.nil (w : World) (k : Nat) : Rd w (.slice none 0 0) 0 k [] := ⟨none, 0, rfl, by simp, fun h => absurd h (by omega)⟩
end
end Go.Proofs.YtpnhkkejcnicoaaGreat

/-
  The rules in the form in which a walk uses them: each fits by the look of the goal alone.
-/
import Derived.Test.YtaecjmjdhbjbkaaAbsFn
namespace Go.Proofs.Ytaecjmjdhbjbkaa.Ab
set_option linter.unusedVariables false
open Go.RowKit

/-! ### What the table says -/
def tsize (tab : TTab) (t : TypeId) : Option Nat := match tlook tab t with
  | some ⟨s, _, _, _, _⟩ => some s
  | none => none
def telem (tab : TTab) (t : TypeId) : Option TypeId := match tlook tab t with
  | some ⟨_, _, _, _, .sl e⟩ => some e
  | _ => none
/-- A field: its offset; its size is not nought. -/
def tfield (tab : TTab) (t : TypeId) (f : Nat) : Option Nat := match tlook tab t with
  | some ⟨_, _, _, _, .st fs⟩ => match fs[f]? with
    | some (off, ft) => match tsize tab ft with
      | some (n + 1) => some off
      | _ => none
    | none => none
  | _ => none
def tagg (tab : TTab) (t : TypeId) : Option Bool := match tlook tab t with
  | some ⟨_, _, a, _, _⟩ => some a
  | none => none
def tzero (tab : TTab) (t : TypeId) : Option (List AVal) := match tlook tab t with
  | some ⟨_, _, _, z, _⟩ => cond (z.all (·.oneCell')) (some (z.map fun v => .d (.sc v))) none
  | none => none
theorem tsize_spec {tab : TTab} {t s : Nat} (h : tsize tab t = some s) : ∃ te, tlook tab t = some te ∧ te.size = s := by
  unfold tsize at h; split at h
  · rename_i hl; cases h; exact ⟨_, hl, rfl⟩
  · cases h
theorem telem_spec {tab : TTab} {t e : Nat} (h : telem tab t = some e) : ∃ te, tlook tab t = some te ∧ te.sh = .sl e := by
  unfold telem at h; split at h
  · rename_i hl; cases h; exact ⟨_, hl, rfl⟩
  · cases h
theorem tagg_spec {tab : TTab} {t : Nat} {a : Bool} (h : tagg tab t = some a) : ∃ te, tlook tab t = some te ∧ te.agg = a := by
  unfold tagg at h; split at h
  · rename_i hl; cases h; exact ⟨_, hl, rfl⟩
  · cases h
theorem tzero_spec {tab : TTab} {t : Nat} {z : List AVal} (h : tzero tab t = some z) : ∃ te, tlook tab t = some te ∧ te.zero.all (·.oneCell') = true ∧ z = te.zero.map fun v => .d (.sc v) := by
  unfold tzero at h; split at h
  · rename_i hl
    rename_i z0 _
    cases hz : z0.all (·.oneCell') with
    | false => rw [hz] at h; cases h
    | true => rw [hz] at h; cases h; exact ⟨_, hl, hz, rfl⟩
  · cases h
theorem tfield_spec {tab : TTab} {t f off : Nat} (h : tfield tab t f = some off) : ∃ te fs ft te', tlook tab t = some te ∧ te.sh = .st fs ∧ fs[f]? = some (off, ft) ∧ tlook tab ft = some te' ∧ Nat.beq te'.size 0 = false := by
  unfold tfield at h; split at h
  · rename_i hl
    split at h
    · rename_i hf
      split at h
      · rename_i hs
        cases h
        obtain ⟨te', h1, h2⟩ := tsize_spec hs
        exact ⟨_, _, _, te', hl, rfl, hf, h1, by rw [h2]; rfl⟩
      · cases h
    · cases h
  · cases h

section
variable {P : Program} {nt : Nat} {Q : Post} {K : Env → Heap → Prop} {e : Env} {h : Heap} {ops : Array Oper} {o : Oper} {rest : List Oper} {T : List Nat} {tab : TTab} {z : Bool}
/-! ### Where the walk stands -/
theorem X_then_normal (H : K e h) : AThen K Q .normal e h := H
theorem X_then_exit {j : Nat} (H : Q (.exit j) e h) : AThen K Q (.exit j) e h := H
theorem X_then_ret (H : Q .ret e h) : AThen K Q .ret e h := H
theorem X_in_normal {j : Nat} (H : Q .normal e h) : AIn j Q .normal e h := H
theorem X_in_ret {j : Nat} (H : Q .ret e h) : AIn j Q .ret e h := H
theorem X_in_same {j : Nat} (H : Q .normal e h) : AIn j Q (.exit j) e h := by show cond (Nat.beq j j) _ _; rw [beq_yes]; exact H
theorem X_in_other {i j : Nat} (hb : Nat.beq i j = false) (H : Q (.exit i) e h) : AIn j Q (.exit i) e h := by show cond (Nat.beq i j) _ _; rw [hb]; exact H
/-- The function hands back data. -/
theorem X_ret {tab : TTab} {rs : List ResultVar} {R : AVal → Heap → Prop} {v : AVal} (hv : ares tab e h rs = some v) (H : R v []) : APost nt tab rs R .ret e h := ⟨e, h, v, [], AWk.refl, hv, trivial, H⟩
theorem X_end {tab : TTab} {rs : List ResultVar} {R : AVal → Heap → Prop} {v : AVal} (hv : ares tab e h rs = some v) (H : R v []) : APost nt tab rs R .normal e h := ⟨e, h, v, [], AWk.refl, hv, trivial, H⟩
/-- .. passing to another state first (a row becomes data), or with blocks. -/
theorem X_retW {tab : TTab} {rs : List ResultVar} {R : AVal → Heap → Prop} {v : AVal} {e' : Env} {h' h2 : Heap} (hk : AWk nt e h e' h') (hv : ares tab e' h' rs = some v) (hs : Sub h2 h') (H : R v h2) : APost nt tab rs R .ret e h := ⟨e', h', v, h2, hk, hv, hs, H⟩
theorem X_endW {tab : TTab} {rs : List ResultVar} {R : AVal → Heap → Prop} {v : AVal} {e' : Env} {h' h2 : Heap} (hk : AWk nt e h e' h') (hv : ares tab e' h' rs = some v) (hs : Sub h2 h') (H : R v h2) : APost nt tab rs R .normal e h := ⟨e', h', v, h2, hk, hv, hs, H⟩

theorem R_list {id : Nat} {l : List Oper} (H : AOps P nt l.toArray Q l e h) (hnd : l.all notDef = true := by rfl) : AWp z P nt (.region id l.toArray false) Q e h := A_region hnd H
/-- No operation of it makes or writes memory by itself. -/
def quietOp : Op → Bool
  | .alloc _ => false
  | .box _ _ => false
  | .buildSlice _ _ _ => false
  | .insert _ _ _ _ => false
  | .store _ _ _ => false
  | .makeMap _ _ => false
  | .makeSlice _ _ _ => false
  | .mapUpdate _ _ _ _ => false
  | .mapEntry _ _ _ => false
  | .entryStore _ _ _ _ => false
  | .range _ _ => false
  | .next _ _ => false
  | .defer _ => false
  | .call { callee := .builtin .append, .. } => false
  | .call { callee := .builtin .copy, .. } => false
  | .call { callee := .builtin .delete, .. } => false
  | .call { callee := .builtin .clear, .. } => false
  | _ => true
def quietOps (l : List Oper) : Bool := l.all fun o => quietOp o.op
theorem quiet_notDef {l : List Oper} (hq : quietOps l = true) : l.toArray.toList.all notDef = true := List.all_eq_true.2 fun o ho => by
  have h := List.all_eq_true.1 hq o (by simpa using ho)
  unfold notDef
  split
  · rename_i c hc; rw [hc] at h; cases h
  · rfl
theorem R_quiet {id : Nat} {l : List Oper} (hq : quietOps l = true) (hm : P.follows .mixedOrders = true) (hB : Region.lexB .any l.toArray = true) (H : AQ P nt l.toArray Q l e h) : AWp z P nt (.region id l.toArray true) Q e h := A_quiet (quiet_notDef hq) hm hB (by simpa using H)
theorem O_y {c : AVal} {d : Nat} (hw : awant ops e o = some true) (hdst : o.dst = some d) (hd : Nat.blt d nt = true) (hy : AYield P [] e h o c) (H : AOps P nt ops Q rest ((d, c) :: e) h) : AOps P nt ops Q (o :: rest) e h :=
  O_yield hw (by rw [hdst]; exact hd) hy (by rw [hdst]; exact H)
theorem O_s {d : Nat} (hw : awant ops e o = some false) (hdst : o.dst = some d) (hd : Nat.blt d nt = true) (H : AOps P nt ops Q rest ((d, .und) :: e) h) : AOps P nt ops Q (o :: rest) e h :=
  O_skip hw (by rw [hdst]; exact hd) (by rw [hdst]; exact H)
theorem O_sn (hw : awant ops e o = some false) (hdst : o.dst = none) (H : AOps P nt ops Q rest e h) : AOps P nt ops Q (o :: rest) e h :=
  O_skip hw (by rw [hdst]; rfl) (by rw [hdst]; exact H)
theorem Q_y {c : AVal} {d : Nat} (hw : awant ops e o = some true) (hdst : o.dst = some d) (hd : Nat.blt d nt = true) (hy : AYield P [] e h o c) (H : AQ P nt ops Q rest ((d, c) :: e) h) : AQ P nt ops Q (o :: rest) e h :=
  Q_yield hw (by rw [hdst]; exact hd) hy (by rw [hdst]; exact H)
theorem Q_s {d : Nat} (hw : awant ops e o = some false) (hdst : o.dst = some d) (hd : Nat.blt d nt = true) (H : AQ P nt ops Q rest ((d, .und) :: e) h) : AQ P nt ops Q (o :: rest) e h :=
  Q_skip hw (by rw [hdst]; exact hd) (by rw [hdst]; exact H)
theorem Q_c {f : FuncId} {args : Array Operand} {ats : Array TypeId} {cs : List AVal} {c : AVal} {v : Value} {d : Nat} (hw : awant ops e o = some true) (hdst : o.dst = some d) (hd : Nat.blt d nt = true) (ho : o.op = .call { callee := .value (.func f), args := args, argTypes := ats }) (hx : aevs e args.toList = some cs)
    (H : ACall P f cs [] (fun c' h' => c' = c ∧ h' = [])) (hc : valA c = some v) (hrel : ∀ w F ι, VRel w F ι c v) (HK : AQ P nt ops Q rest ((d, c) :: e) h) : AQ P nt ops Q (o :: rest) e h :=
  Q_call ho hx hw (by rw [hdst]; exact hd) H hc hrel (by rw [hdst]; exact HK)
/-- A call that hands back data alone. -/
theorem O_c {f : FuncId} {args : Array Operand} {ats : Array TypeId} {cs : List AVal} {c : AVal} {d : Nat} (hw : awant ops e o = some true) (hdst : o.dst = some d) (hd : Nat.blt d nt = true) (ho : o.op = .call { callee := .value (.func f), args := args, argTypes := ats }) (hx : aevs e args.toList = some cs)
    (H : ACall P f cs [] (fun c' h' => c' = c ∧ h' = [])) (hc : ∀ j, c.has j = false) (HK : AOps P nt ops Q rest ((d, c) :: e) h) : AOps P nt ops Q (o :: rest) e h :=
  O_eff (T := []) hw (E_call0 ho hdst hx H hd hc) fun e' h' ⟨h1, h2⟩ => by subst h1 h2; exact HK
theorem O_alloc {t : TypeId} {d : Nat} {z : List AVal} (TO : TabOk P tab) (hw : awant ops e o = some true) (hdst : o.dst = some d) (hd : Nat.blt d nt = true) (hid : Nat.blt d 1000 = true) (ho : o.op = .alloc t) (hz : tzero tab t = some z)
    (HK : AOps P nt ops Q rest ((d, .ptr d 0) :: killE d e) ((d, .var z) :: killH d h)) : AOps P nt ops Q (o :: rest) e h := by
  obtain ⟨te, h1, h2, rfl⟩ := tzero_spec hz
  exact O_eff (T := []) hw (E_alloc TO ho hdst h1 hid hd h2) fun e' h' ⟨h1, h2⟩ => by subst h1 h2; exact HK
theorem O_box {t : TypeId} {x : Operand} {d : Nat} {c : AVal} {cs : List AVal} (hw : awant ops e o = some true) (hdst : o.dst = some d) (hd : Nat.blt d nt = true) (hid : Nat.blt d 1000 = true) (ho : o.op = .box t x) (hx : aev e x = some c) (hcs : cellsA c = some cs)
    (HK : AOps P nt ops Q rest ((d, .ptr d 0) :: killE d e) ((d, .var (cs.map (killV d))) :: killH d h)) : AOps P nt ops Q (o :: rest) e h :=
  O_eff (T := []) hw (E_box ho hdst hx hcs hid hd) fun e' h' ⟨h1, h2⟩ => by subst h1 h2; exact HK
theorem O_store {t : TypeId} {x y : Operand} {id off s : Nat} {cs xs : List AVal} {c : AVal} (TO : TabOk P tab) (hw : awant ops e o = some true) (hdst : o.dst = none) (ho : o.op = .store t x y) (hx : aev e x = some (.ptr id off)) (hb : look h id = some (.var cs))
    (hy : aev e y = some c) (hcs : cellsA c = some xs) (hp : xs.all plainC = true) (hs : tsize tab t = some s) (hl : Nat.beq xs.length s = true) (hle : Nat.ble (off + s) cs.length = true)
    (HK : AOps P nt ops Q rest e ((id, .var (setW cs off xs)) :: h)) : AOps P nt ops Q (o :: rest) e h := by
  obtain ⟨te, h1, h2⟩ := tsize_spec hs
  subst h2
  exact O_eff (T := [id]) hw (E_store_ptr TO ho hdst h1 hx hb hy hcs hp hl hle rfl rfl (by simp)) fun e' h' ⟨h1, h2⟩ => by subst h1 h2; exact HK
/-- 'out = append(out, x)' of rows. -/
theorem O_append {t el k rid n m d : Nat} {x y : Operand} {cx cy : AVal} {cs ds : List Dat} (rid0 : Nat) (hrid : rid = rid0) (TO : TabOk P tab) (hw : awant ops e o = some true) (hdst : o.dst = some d) (hd : Nat.blt d nt = true) (ho : o.op = .call { callee := .builtin .append, args := #[x, y], argTypes := #[t, t] })
    (hel : telem tab t = some el) (hsz : tsize tab el = some k) (hok : (match tlook tab el with | some te => Nat.blt 0 te.size && Nat.beq te.zero.length te.size && Nat.ble te.bytes 65536 | none => false) = true) (hid : Nat.blt rid 1000 = true)
    (hx : aev e x = some cx) (hy : aev e y = some cy) (D : Dst h el k rid cx n cs) (S : Src h cy m ds) (hl : ds.length = m * k) (hn : n + m ≤ 2147483648)
    (HK : AOps P nt ops Q rest ((d, .row rid) :: killE rid e) ((rid, .row el k (n + m) (cs ++ ds)) :: killH rid h)) : AOps P nt ops Q (o :: rest) e h := by
  obtain ⟨te, h1, h2⟩ := telem_spec hel
  obtain ⟨te', h3, rfl⟩ := tsize_spec hsz
  rw [h3] at hok
  simp only [Bool.and_eq_true] at hok
  exact O_eff (T := [rid]) hw (E_append TO ho hdst h1 h2 h3 hok.1.1 hok.1.2 hok.2 hx hy D S hl hn hid hd (by simp)) fun e' h' ⟨h1, h2⟩ => by subst h1 h2; exact HK
def datsA : List AVal → Option (List Dat)
  | [] => some []
  | .d x :: r => match datsA r with
    | some l => some (x :: l)
    | none => none
  | _ :: _ => none
theorem datsA_spec {xs : List AVal} {ds : List Dat} (h : datsA xs = some ds) : xs = ds.map AVal.d := by
  induction xs generalizing ds with
  | nil => cases h; rfl
  | cons c r ih =>
    cases c <;> simp [datsA] at h
    rename_i x
    cases hr : datsA r with
    | none => simp [hr] at h
    | some l => simp [hr] at h; subst h; rw [ih hr]; rfl
theorem O_slice {t el k len d : Nat} {ps : Array (Nat × Operand)} {al : List (Nat × AVal)} {xs : List AVal} {ds : List Dat} (TO : TabOk P tab) (hw : awant ops e o = some true) (hdst : o.dst = some d) (hd : Nat.blt d nt = true) (hid : Nat.blt d 1000 = true) (ho : o.op = .buildSlice t len ps)
    (hel : telem tab t = some el) (hsz : tsize tab el = some k) (hok : (match tlook tab el with | some te => te.zero.all (·.oneCell') && Nat.blt 0 te.size && Nat.beq te.zero.length te.size && Nat.blt (len * te.size) 16777216 && Nat.blt 0 len | none => false) = true)
    (hal : aparts e ps.toList = some al) (hf : (match tlook tab el with
      | some te => afill (fun i => some (i * te.size, te.size)) ((List.range (len * te.size)).map fun j => match te.zero[j % te.size]? with | some v => .d (.sc v) | none => .top) al
      | none => none) = some xs) (hds : datsA xs = some ds)
    (HK : AOps P nt ops Q rest ((d, .row d) :: killE d e) ((d, .row el k len ds) :: killH d h)) : AOps P nt ops Q (o :: rest) e h := by
  obtain ⟨te, h1, h2⟩ := telem_spec hel
  obtain ⟨te', h3, rfl⟩ := tsize_spec hsz
  rw [h3] at hok hf
  simp only [Bool.and_eq_true] at hok
  exact O_eff (T := []) hw (E_buildSlice TO ho hdst h1 h2 h3 hok.1.1.1.1 hok.1.1.1.2 hok.1.1.2 hok.1.2 hok.2 hal hf (datsA_spec hds) hid hd) fun e' h' ⟨h1, h2⟩ => by subst h1 h2; exact HK

theorem O_appR {t el k rid n m d : Nat} {x y : Operand} {cy : AVal} {cs ds : List Dat} (TO : TabOk P tab) (hw : awant ops e o = some true) (hdst : o.dst = some d) (hd : Nat.blt d nt = true) (ho : o.op = .call { callee := .builtin .append, args := #[x, y], argTypes := #[t, t] })
    (hel : telem tab t = some el) (hsz : tsize tab el = some k) (hok : (match tlook tab el with | some te => Nat.blt 0 te.size && Nat.beq te.zero.length te.size && Nat.ble te.bytes 65536 | none => false) = true)
    (hx : aev e x = some (.row rid)) (hb : look h rid = some (.row el k n cs)) (hid : Nat.blt rid 1000 = true) (hy : aev e y = some cy) (S : Src h cy m ds) (hl : ds.length = m * k) (hn : n + m ≤ 2147483648)
    (HK : AOps P nt ops Q rest ((d, .row rid) :: killE rid e) ((rid, .row el k (n + m) (cs ++ ds)) :: killH rid h)) : AOps P nt ops Q (o :: rest) e h :=
  O_append rid rfl TO hw hdst hd ho hel hsz hok hid hx hy (.row hb) S hl hn HK
theorem O_appN {t el k m d : Nat} {x y : Operand} {cy : AVal} {ds : List Dat} (TO : TabOk P tab) (hw : awant ops e o = some true) (hdst : o.dst = some d) (hd : Nat.blt d nt = true) (ho : o.op = .call { callee := .builtin .append, args := #[x, y], argTypes := #[t, t] })
    (hel : telem tab t = some el) (hsz : tsize tab el = some k) (hok : (match tlook tab el with | some te => Nat.blt 0 te.size && Nat.beq te.zero.length te.size && Nat.ble te.bytes 65536 | none => false) = true)
    (hx : aev e x = some (.d (.sc (.slice none 0 0)))) (hid : Nat.blt d 1000 = true) (hy : aev e y = some cy) (S : Src h cy m ds) (hl : ds.length = m * k) (hn : m ≤ 2147483648)
    (HK : AOps P nt ops Q rest ((d, .row d) :: killE d e) ((d, .row el k m ds) :: killH d h)) : AOps P nt ops Q (o :: rest) e h :=
  O_append d rfl TO hw hdst hd ho hel hsz hok hid hx hy .nil S hl (by omega) (by simpa using HK)
theorem row_eq {id el k n n' : Nat} {cs cs' : List Dat} (hn : n = n') (hc : cs = cs') {h : Heap} (hl : look h id = some (.row el k n cs)) : look h id = some (.row el k n' cs') := by subst hn hc; exact hl
theorem R_cmpT {op : BinOp} {t u : TypeId} {x y : Operand} {k : IntKind} {a b : Int} {c : Bool} (ho : o.op = .binOp op t x y u) (hx : aev e x = some (.d (.sc (.int k a)))) (hy : aev e y = some (.d (.sc (.int k b)))) (hr : ibin op k a b = some (.bool c)) (hc : c = true) :
    AYield P T e h o (.d (.sc (.bool true))) := by subst hc; exact Y_ibin ho hx hy hr
theorem R_cmpF {op : BinOp} {t u : TypeId} {x y : Operand} {k : IntKind} {a b : Int} {c : Bool} (ho : o.op = .binOp op t x y u) (hx : aev e x = some (.d (.sc (.int k a)))) (hy : aev e y = some (.d (.sc (.int k b)))) (hr : ibin op k a b = some (.bool c)) (hc : c = false) :
    AYield P T e h o (.d (.sc (.bool false))) := by subst hc; exact Y_ibin ho hx hy hr

/-! ### Operations that read -/
theorem R_index {t el k j : Nat} {x y : Operand} {cs : List Dat} {n : Nat} {q : IntKind} {i : Int} (TO : TabOk P tab) (ho : o.op = .indexAddr t x y) (hel : telem tab t = some el) (hsz : tsize tab el = some k) (hx : aev e x = some (.d (.sl cs n))) (hy : aev e y = some (.d (.sc (.int q i)))) (hj : i = (j : Int)) (hlt : j < n) :
    AYield P T e h o (.iptr cs (j * k)) := by
  obtain ⟨te, h1, h2⟩ := telem_spec hel
  obtain ⟨te', h3, rfl⟩ := tsize_spec hsz
  subst hj
  exact Y_index_sl TO ho h1 h2 h3 hx hy ⟨by omega, by omega⟩
theorem R_indexr {t el el' k kk j id : Nat} {x y : Operand} {cs : List Dat} {n : Nat} {q : IntKind} {i : Int} (TO : TabOk P tab) (ho : o.op = .indexAddr t x y) (hel : telem tab t = some el) (hsz : tsize tab el = some k) (hx : aev e x = some (.row id)) (hb : look h id = some (.row el' kk n cs)) (hy : aev e y = some (.d (.sc (.int q i)))) (hj : i = (j : Int)) (hlt : j < n) :
    AYield P T e h o (.eptr id (j * k)) := by
  obtain ⟨te, h1, h2⟩ := telem_spec hel
  obtain ⟨te', h3, rfl⟩ := tsize_spec hsz
  subst hj
  exact Y_index_row TO ho h1 h2 h3 hx hb hy ⟨by omega, by omega⟩
theorem R_field {t f off o1 id : Nat} {x : Operand} (TO : TabOk P tab) (ho : o.op = .fieldAddr t x f) (hf : tfield tab t f = some off) (hx : aev e x = some (.ptr id o1)) (hb : (look h id).isSome = true) : AYield P T e h o (.ptr id (o1 + off)) := by
  obtain ⟨te, fs, ft, te', h1, h2, h3, h4, h5⟩ := tfield_spec hf
  exact Y_field_ptr TO ho h1 h2 h3 h4 h5 hx hb
theorem R_fielde {t f off o1 id : Nat} {x : Operand} (TO : TabOk P tab) (ho : o.op = .fieldAddr t x f) (hf : tfield tab t f = some off) (hx : aev e x = some (.eptr id o1)) (hb : (look h id).isSome = true) : AYield P T e h o (.eptr id (o1 + off)) := by
  obtain ⟨te, fs, ft, te', h1, h2, h3, h4, h5⟩ := tfield_spec hf
  exact Y_field_eptr TO ho h1 h2 h3 h4 h5 hx hb
theorem R_fieldi {t f off o1 : Nat} {x : Operand} {cs : List Dat} (TO : TabOk P tab) (ho : o.op = .fieldAddr t x f) (hf : tfield tab t f = some off) (hx : aev e x = some (.iptr cs o1)) : AYield P T e h o (.iptr cs (o1 + off)) := by
  obtain ⟨te, fs, ft, te', h1, h2, h3, h4, h5⟩ := tfield_spec hf
  exact Y_field_iptr TO ho h1 h2 h3 h4 h5 hx
/-- What a load comes to. -/
def lval (ag : Bool) (xs : List AVal) : Option AVal := match ag, xs with
  | true, xs => some (.agg xs)
  | false, [c] => some c
  | false, _ => none
theorem lval_spec {ag : Bool} {xs : List AVal} {c : AVal} (h : lval ag xs = some c) : cond ag (some (.agg xs)) xs.head? = some c := by
  unfold lval at h
  split at h
  · exact h
  · exact h
  · cases h
theorem R_load {t id o1 s : Nat} {x : Operand} {cs xs : List AVal} {c : AVal} {ag : Bool} (TO : TabOk P tab) (ho : o.op = .load t x) (hs : tsize tab t = some s) (ha : tagg tab t = some ag) (hx : aev e x = some (.ptr id o1)) (hb : look h id = some (.var cs)) (hT : T.contains id = false)
    (hw : win cs o1 s = xs) (hl : Nat.beq xs.length s = true) (hc : lval ag xs = some c) : AYield P T e h o c := by
  obtain ⟨te, h1, rfl⟩ := tsize_spec hs
  obtain ⟨te', h3, rfl⟩ := tagg_spec ha
  rw [h1] at h3; cases h3
  exact Y_load_ptr TO ho h1 hx hb hT hw hl (lval_spec hc)
theorem R_loade {t id o1 s el k n : Nat} {x : Operand} {cs xs : List Dat} {c : AVal} {ag : Bool} (TO : TabOk P tab) (ho : o.op = .load t x) (hs : tsize tab t = some s) (ha : tagg tab t = some ag) (hx : aev e x = some (.eptr id o1)) (hb : look h id = some (.row el k n cs)) (hT : T.contains id = false)
    (hw : win cs o1 s = xs) (hl : Nat.beq xs.length s = true) (hc : lval ag (xs.map AVal.d) = some c) : AYield P T e h o c := by
  obtain ⟨te, h1, rfl⟩ := tsize_spec hs
  obtain ⟨te', h3, rfl⟩ := tagg_spec ha
  rw [h1] at h3; cases h3
  exact Y_load_eptr TO ho h1 hx hb hT (by rw [hw]) (by simpa using hl) (lval_spec hc)
theorem R_loadi {t o1 s : Nat} {x : Operand} {cs xs : List Dat} {c : AVal} {ag : Bool} (TO : TabOk P tab) (ho : o.op = .load t x) (hs : tsize tab t = some s) (ha : tagg tab t = some ag) (hx : aev e x = some (.iptr cs o1)) (hw : win cs o1 s = xs) (hl : Nat.beq xs.length s = true) (hc : lval ag (xs.map AVal.d) = some c) :
    AYield P T e h o c := by
  obtain ⟨te, h1, rfl⟩ := tsize_spec hs
  obtain ⟨te', h3, rfl⟩ := tagg_spec ha
  rw [h1] at h3; cases h3
  exact Y_load_iptr TO ho h1 hx hw hl (lval_spec hc)
theorem R_len {t el : Nat} {x : Operand} {cs : List Dat} {n : Nat} (TO : TabOk P tab) (ho : o.op = .call { callee := .builtin .len, args := #[x], argTypes := #[t] }) (hel : telem tab t = some el) (hx : aev e x = some (.d (.sl cs n))) : AYield P T e h o (.d (.sc (.int .i64 (n : Int)))) := by
  obtain ⟨te, h1, h2⟩ := telem_spec hel
  exact Y_len_sl TO ho h1 h2 hx
theorem R_lenr {t el el' id k n : Nat} {x : Operand} {cs : List Dat} (TO : TabOk P tab) (ho : o.op = .call { callee := .builtin .len, args := #[x], argTypes := #[t] }) (hel : telem tab t = some el) (hx : aev e x = some (.row id)) (hb : look h id = some (.row el' k n cs)) : AYield P T e h o (.d (.sc (.int .i64 (n : Int)))) := by
  obtain ⟨te, h1, h2⟩ := telem_spec hel
  exact Y_len_row TO ho h1 h2 hx hb
theorem R_lenn {t el : Nat} {x : Operand} (TO : TabOk P tab) (ho : o.op = .call { callee := .builtin .len, args := #[x], argTypes := #[t] }) (hel : telem tab t = some el) (hx : aev e x = some (.d (.sc (.slice none 0 0)))) : AYield P T e h o (.d (.sc (.int .i64 0))) := by
  obtain ⟨te, h1, h2⟩ := telem_spec hel
  exact Y_len_nil TO ho h1 h2 hx
theorem R_build {t : TypeId} {ps : Array (Nat × Operand)} {al : List (Nat × AVal)} {z xs : List AVal} {fs : List (Nat × TypeId)} (TO : TabOk P tab) (ho : o.op = .build t ps) (hz : tzero tab t = some z) (hfs : (match tlook tab t with | some ⟨_, _, _, _, .st fs⟩ => some fs | _ => none) = some fs) (hal' : fs.all (fun f => (tlook tab f.2).isSome) = true)
    (hal : aparts e ps.toList = some al) (hf : afill (stPlace tab fs) z al = some xs) : AYield P T e h o (.agg xs) := by
  obtain ⟨te, h1, h2, rfl⟩ := tzero_spec hz
  rw [h1] at hfs
  split at hfs
  · rename_i heq
    cases heq
    cases hfs
    exact Y_build TO ho h1 rfl hal' h2 hal hf
  · cases hfs
theorem wrap_nat {n : Int} {m : Nat} (h : n = (m : Int)) (h2 : m ≤ 9223372036854775807) : IntKind.i64.wrap n = (m : Int) := by rw [h]; exact wrap_i64 ⟨by omega, by omega⟩
theorem wrap_succ {k : Nat} (h2 : k < 9223372036854775807) : IntKind.i64.wrap ((k : Int) + 1) = ((k + 1 : Nat) : Int) := wrap_nat (by omega) (by omega)
theorem wrap_pred {k : Nat} (h1 : 1 ≤ k) (h2 : k ≤ 9223372036854775807) : IntKind.i64.wrap ((k : Int) - 1) = ((k - 1 : Nat) : Int) := wrap_nat (by omega) (by omega)
theorem win_flat {α : Type} {enc : α → List Dat} {sz : Nat} (hsz : ∀ x, (enc x).length = sz) (l : List α) (k j m : Nat) (hk : k < l.length) (hj : j + m ≤ sz) : win (l.flatMap enc) (k * sz + j) m = win (enc l[k]) j m := by
  induction l generalizing k with
  | nil => simp at hk
  | cons a r ih =>
    cases k with
    | zero =>
      simp only [List.flatMap_cons, Nat.zero_mul, Nat.zero_add, List.getElem_cons_zero, win]
      have := hsz a
      rw [List.drop_append_of_le_length (by omega), List.take_append_of_le_length (by simp; omega)]
    | succ k =>
      have h1 := ih k (by simpa using hk)
      simp only [List.flatMap_cons, List.getElem_cons_succ] at h1 ⊢
      rw [← h1]
      unfold win
      have := hsz a
      rw [show (k + 1) * sz + j = (enc a).length + (k * sz + j) by rw [this, Nat.add_mul]; omega, ← List.drop_drop, List.drop_left]
theorem win_flat0 {α : Type} {enc : α → List Dat} {sz : Nat} (hsz : ∀ x, (enc x).length = sz) (l : List α) (k m : Nat) (hk : k < l.length) (hj : m ≤ sz) : win (l.flatMap enc) (k * sz) m = win (enc l[k]) 0 m := win_flat hsz l k 0 m hk (by omega)
theorem win_flat2 {α : Type} {enc : α → List Dat} {sz : Nat} (hsz : ∀ x, (enc x).length = sz) (l : List α) (k j j2 m : Nat) (hk : k < l.length) (hj : j + j2 + m ≤ sz) : win (l.flatMap enc) (k * sz + j + j2) m = win (enc l[k]) (j + j2) m := by
  rw [Nat.add_assoc]; exact win_flat hsz l k (j + j2) m hk hj
theorem flat_len {α : Type} {enc : α → List Dat} {sz : Nat} (hsz : ∀ x, (enc x).length = sz) (l : List α) : (l.flatMap enc).length = l.length * sz := by
  induction l with
  | nil => simp
  | cons a r ih => simp [ih, hsz, Nat.add_mul]; omega
end
end Go.Proofs.Ytaecjmjdhbjbkaa.Ab

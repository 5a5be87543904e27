/-
  Texts of a proof, one behind the other (part 2).
-/
import Derived.Test.YtenolkolkpfjgaaGreatFt0
set_option linter.unusedVariables false
set_option linter.unusedSimpArgs false
namespace Go.Proofs.YtenolkolkpfjgaaGreat.Ab
set_option linter.unusedVariables false
open Go.RowKit

def tsize (tab : TTab) (t : TypeId) : Option Nat := match tlook tab t with
  | some ⟨s, _, _, _, _⟩ => some s
  | none => none
def telem (tab : TTab) (t : TypeId) : Option TypeId := match tlook tab t with
  | some ⟨_, _, _, _, .sl e⟩ => some e
  | _ => none
def tfield (tab : TTab) (t : TypeId) (f : Nat) : Option Nat := match tlook tab t with
  | some ⟨_, _, _, _, .st fs⟩ => match fs[f]? with
    | some (off, ft) => match tsize tab ft with
      | some (n + 1) => some off
      | _ => none
    | none => none
  | _ => none
def tagg (tab : TTab) (t : TypeId) : Option Bool := match tlook tab t with
  | some ⟨_, _, a, _, _⟩ => some a
  | none => none
def tzero (tab : TTab) (t : TypeId) : Option (List AVal) := match tlook tab t with
  | some ⟨_, _, _, z, _⟩ => cond (z.all (·.oneCell')) (some (z.map fun v => .d (.sc v))) none
  | none => none
theorem tsize_spec {tab : TTab} {t s : Nat} (h : tsize tab t = some s) : ∃ te, tlook tab t = some te ∧ te.size = s := by
  unfold tsize at h; split at h
  · rename_i hl; cases h; exact ⟨_, hl, rfl⟩
  · cases h
theorem telem_spec {tab : TTab} {t e : Nat} (h : telem tab t = some e) : ∃ te, tlook tab t = some te ∧ te.sh = .sl e := by
  unfold telem at h; split at h
  · rename_i hl; cases h; exact ⟨_, hl, rfl⟩
  · cases h
theorem tagg_spec {tab : TTab} {t : Nat} {a : Bool} (h : tagg tab t = some a) : ∃ te, tlook tab t = some te ∧ te.agg = a := by
  unfold tagg at h; split at h
  · rename_i hl; cases h; exact ⟨_, hl, rfl⟩
  · cases h
theorem tzero_spec {tab : TTab} {t : Nat} {z : List AVal} (h : tzero tab t = some z) : ∃ te, tlook tab t = some te ∧ te.zero.all (·.oneCell') = true ∧ z = te.zero.map fun v => .d (.sc v) := by
  unfold tzero at h; split at h
  · rename_i hl
    rename_i z0 _
    cases hz : z0.all (·.oneCell') with
    | false => rw [hz] at h; cases h
    | true => rw [hz] at h; cases h; exact ⟨_, hl, hz, rfl⟩
  · cases h
theorem tfield_spec {tab : TTab} {t f off : Nat} (h : tfield tab t f = some off) : ∃ te fs ft te', tlook tab t = some te ∧ te.sh = .st fs ∧ fs[f]? = some (off, ft) ∧ tlook tab ft = some te' ∧ Nat.beq te'.size 0 = false := by
  unfold tfield at h; split at h
  · rename_i hl
    split at h
    · rename_i hf
      split at h
      · rename_i hs
        cases h
        obtain ⟨te', h1, h2⟩ := tsize_spec hs
        exact ⟨_, _, _, te', hl, rfl, hf, h1, by rw [h2]; rfl⟩
      · cases h
    · cases h
  · cases h

section
variable {P : Program} {nt : Nat} {Q : Post} {K : Env → Heap → Prop} {e : Env} {h : Heap} {ops : Array Oper} {o : Oper} {rest : List Oper} {T : List Nat} {tab : TTab} {z : Bool}
theorem X_in_same {j : Nat} (H : Q .normal e h) : AIn j Q (.exit j) e h := by show cond (Nat.beq j j) _ _; rw [beq_yes]; exact H
theorem X_in_other {i j : Nat} (hb : Nat.beq i j = false) (H : Q (.exit i) e h) : AIn j Q (.exit i) e h := by show cond (Nat.beq i j) _ _; rw [hb]; exact H
theorem X_ret {tab : TTab} {rs : List ResultVar} {R : AVal → Heap → Prop} {v : AVal} (hv : ares tab e h rs = some v) (H : R v []) : APost nt tab rs R .ret e h := ⟨e, h, v, [], AWk.refl, hv, trivial, H⟩
theorem X_retW {tab : TTab} {rs : List ResultVar} {R : AVal → Heap → Prop} {v : AVal} {e' : Env} {h' h2 : Heap} (hk : AWk nt e h e' h') (hv : ares tab e' h' rs = some v) (hs : Sub h2 h') (H : R v h2) : APost nt tab rs R .ret e h := ⟨e', h', v, h2, hk, hv, hs, H⟩
theorem X_endW {tab : TTab} {rs : List ResultVar} {R : AVal → Heap → Prop} {v : AVal} {e' : Env} {h' h2 : Heap} (hk : AWk nt e h e' h') (hv : ares tab e' h' rs = some v) (hs : Sub h2 h') (H : R v h2) : APost nt tab rs R .normal e h := ⟨e', h', v, h2, hk, hv, hs, H⟩

theorem R_list {id : Nat} {l : List Oper} (H : AOps P nt l.toArray Q l e h) (hnd : l.all notDef = true := by rfl) : AWp z P nt (.region id l.toArray false) Q e h := A_region hnd H
def quietOp : Op → Bool
  | .alloc _ => false
  | .box _ _ => false
  | .buildSlice _ _ _ => false
  | .insert _ _ _ _ => false
  | .store _ _ _ => false
  | .makeMap _ _ => false
  | .makeSlice _ _ _ => false
  | .mapUpdate _ _ _ _ => false
  | .mapEntry _ _ _ => false
  | .entryStore _ _ _ _ => false
  | .range _ _ => false
  | .next _ _ => false
  | .defer _ => false
  | .call { callee := .builtin .append, .. } => false
  | .call { callee := .builtin .copy, .. } => false
  | .call { callee := .builtin .delete, .. } => false
  | .call { callee := .builtin .clear, .. } => false
  | _ => true
def quietOps (l : List Oper) : Bool := l.all fun o => quietOp o.op
theorem quiet_notDef {l : List Oper} (hq : quietOps l = true) : l.toArray.toList.all notDef = true := List.all_eq_true.2 fun o ho => by
  have h := List.all_eq_true.1 hq o (by simpa using ho)
  unfold notDef
  split
  · rename_i c hc; rw [hc] at h; cases h
  · rfl
theorem R_quiet {id : Nat} {l : List Oper} (hq : quietOps l = true) (hm : P.follows .mixedOrders = true) (hB : Region.lexB .any l.toArray = true) (H : AQ P nt l.toArray Q l e h) : AWp z P nt (.region id l.toArray true) Q e h := A_quiet (quiet_notDef hq) hm hB (by simpa using H)
theorem O_y {c : AVal} {d : Nat} (hw : awant ops e o = some true) (hdst : o.dst = some d) (hd : Nat.blt d nt = true) (hy : AYield P [] e h o c) (H : AOps P nt ops Q rest ((d, c) :: e) h) : AOps P nt ops Q (o :: rest) e h :=
  O_yield hw (by rw [hdst]; exact hd) hy (by rw [hdst]; exact H)
theorem O_s {d : Nat} (hw : awant ops e o = some false) (hdst : o.dst = some d) (hd : Nat.blt d nt = true) (H : AOps P nt ops Q rest ((d, .und) :: e) h) : AOps P nt ops Q (o :: rest) e h :=
  O_skip hw (by rw [hdst]; exact hd) (by rw [hdst]; exact H)
theorem O_sn (hw : awant ops e o = some false) (hdst : o.dst = none) (H : AOps P nt ops Q rest e h) : AOps P nt ops Q (o :: rest) e h :=
  O_skip hw (by rw [hdst]; rfl) (by rw [hdst]; exact H)
theorem Q_y {c : AVal} {d : Nat} (hw : awant ops e o = some true) (hdst : o.dst = some d) (hd : Nat.blt d nt = true) (hy : AYield P [] e h o c) (H : AQ P nt ops Q rest ((d, c) :: e) h) : AQ P nt ops Q (o :: rest) e h :=
  Q_yield hw (by rw [hdst]; exact hd) hy (by rw [hdst]; exact H)
theorem Q_s {d : Nat} (hw : awant ops e o = some false) (hdst : o.dst = some d) (hd : Nat.blt d nt = true) (H : AQ P nt ops Q rest ((d, .und) :: e) h) : AQ P nt ops Q (o :: rest) e h :=
  Q_skip hw (by rw [hdst]; exact hd) (by rw [hdst]; exact H)
theorem Q_c {f : FuncId} {args : Array Operand} {ats : Array TypeId} {cs : List AVal} {c : AVal} {v : Value} {d : Nat} (hw : awant ops e o = some true) (hdst : o.dst = some d) (hd : Nat.blt d nt = true) (ho : o.op = .call { callee := .value (.func f), args := args, argTypes := ats }) (hx : aevs e args.toList = some cs)
    (H : ACall P f cs [] (fun c' h' => c' = c ∧ h' = [])) (hc : valA c = some v) (hrel : ∀ w F ι, VRel w F ι c v) (HK : AQ P nt ops Q rest ((d, c) :: e) h) : AQ P nt ops Q (o :: rest) e h :=
  Q_call ho hx hw (by rw [hdst]; exact hd) H hc hrel (by rw [hdst]; exact HK)
theorem O_c {f : FuncId} {args : Array Operand} {ats : Array TypeId} {cs : List AVal} {c : AVal} {d : Nat} (hw : awant ops e o = some true) (hdst : o.dst = some d) (hd : Nat.blt d nt = true) (ho : o.op = .call { callee := .value (.func f), args := args, argTypes := ats }) (hx : aevs e args.toList = some cs)
    (H : ACall P f cs [] (fun c' h' => c' = c ∧ h' = [])) (hc : ∀ j, c.has j = false) (HK : AOps P nt ops Q rest ((d, c) :: e) h) : AOps P nt ops Q (o :: rest) e h :=
  O_eff (T := []) hw (E_call0 ho hdst hx H hd hc) fun e' h' ⟨h1, h2⟩ => by subst h1 h2; exact HK
theorem O_alloc {t : TypeId} {d : Nat} {z : List AVal} (TO : TabOk P tab) (hw : awant ops e o = some true) (hdst : o.dst = some d) (hd : Nat.blt d nt = true) (hid : Nat.blt d 1000 = true) (ho : o.op = .alloc t) (hz : tzero tab t = some z)
    (HK : AOps P nt ops Q rest ((d, .ptr d 0) :: killE d e) ((d, .var z) :: killH d h)) : AOps P nt ops Q (o :: rest) e h := by
  obtain ⟨te, h1, h2, rfl⟩ := tzero_spec hz
  exact O_eff (T := []) hw (E_alloc TO ho hdst h1 hid hd h2) fun e' h' ⟨h1, h2⟩ => by subst h1 h2; exact HK
theorem O_box {t : TypeId} {x : Operand} {d : Nat} {c : AVal} {cs : List AVal} (hw : awant ops e o = some true) (hdst : o.dst = some d) (hd : Nat.blt d nt = true) (hid : Nat.blt d 1000 = true) (ho : o.op = .box t x) (hx : aev e x = some c) (hcs : cellsA c = some cs)
    (HK : AOps P nt ops Q rest ((d, .ptr d 0) :: killE d e) ((d, .var (cs.map (killV d))) :: killH d h)) : AOps P nt ops Q (o :: rest) e h :=
  O_eff (T := []) hw (E_box ho hdst hx hcs hid hd) fun e' h' ⟨h1, h2⟩ => by subst h1 h2; exact HK
theorem O_store {t : TypeId} {x y : Operand} {id off s : Nat} {cs xs : List AVal} {c : AVal} (TO : TabOk P tab) (hw : awant ops e o = some true) (hdst : o.dst = none) (ho : o.op = .store t x y) (hx : aev e x = some (.ptr id off)) (hb : look h id = some (.var cs))
    (hy : aev e y = some c) (hcs : cellsA c = some xs) (hp : xs.all plainC = true) (hs : tsize tab t = some s) (hl : Nat.beq xs.length s = true) (hle : Nat.ble (off + s) cs.length = true)
    (HK : AOps P nt ops Q rest e ((id, .var (setW cs off xs)) :: h)) : AOps P nt ops Q (o :: rest) e h := by
  obtain ⟨te, h1, h2⟩ := tsize_spec hs
  subst h2
  exact O_eff (T := [id]) hw (E_store_ptr TO ho hdst h1 hx hb hy hcs hp hl hle rfl rfl (by simp)) fun e' h' ⟨h1, h2⟩ => by subst h1 h2; exact HK
theorem O_append {t el k rid n m d : Nat} {x y : Operand} {cx cy : AVal} {cs ds : List Dat} (rid0 : Nat) (hrid : rid = rid0) (TO : TabOk P tab) (hw : awant ops e o = some true) (hdst : o.dst = some d) (hd : Nat.blt d nt = true) (ho : o.op = .call { callee := .builtin .append, args := #[x, y], argTypes := #[t, t] })
    (hel : telem tab t = some el) (hsz : tsize tab el = some k) (hok : (match tlook tab el with | some te => Nat.blt 0 te.size && Nat.beq te.zero.length te.size && Nat.ble te.bytes 65536 | none => false) = true) (hid : Nat.blt rid 1000 = true)
    (hx : aev e x = some cx) (hy : aev e y = some cy) (D : Dst h el k rid cx n cs) (S : Src h cy m ds) (hl : ds.length = m * k) (hn : n + m ≤ 2147483648)
    (HK : AOps P nt ops Q rest ((d, .row rid) :: killE rid e) ((rid, .row el k (n + m) (cs ++ ds)) :: killH rid h)) : AOps P nt ops Q (o :: rest) e h := by
  obtain ⟨te, h1, h2⟩ := telem_spec hel
  obtain ⟨te', h3, rfl⟩ := tsize_spec hsz
  rw [h3] at hok
  simp only [Bool.and_eq_true] at hok
  exact O_eff (T := [rid]) hw (E_append TO ho hdst h1 h2 h3 hok.1.1 hok.1.2 hok.2 hx hy D S hl hn hid hd (by simp)) fun e' h' ⟨h1, h2⟩ => by subst h1 h2; exact HK
def datsA : List AVal → Option (List Dat)
  | [] => some []
  | .d x :: r => match datsA r with
    | some l => some (x :: l)
    | none => none
  | _ :: _ => none
theorem datsA_spec {xs : List AVal} {ds : List Dat} (h : datsA xs = some ds) : xs = ds.map AVal.d := by
  induction xs generalizing ds with
  | nil => cases h; rfl
  | cons c r ih =>
    cases c <;> simp [datsA] at h
    rename_i x
    cases hr : datsA r with
    | none => simp [hr] at h
    | some l => simp [hr] at h; subst h; rw [ih hr]; rfl
theorem O_slice {t el k len d : Nat} {ps : Array (Nat × Operand)} {al : List (Nat × AVal)} {xs : List AVal} {ds : List Dat} (TO : TabOk P tab) (hw : awant ops e o = some true) (hdst : o.dst = some d) (hd : Nat.blt d nt = true) (hid : Nat.blt d 1000 = true) (ho : o.op = .buildSlice t len ps)
    (hel : telem tab t = some el) (hsz : tsize tab el = some k) (hok : (match tlook tab el with | some te => te.zero.all (·.oneCell') && Nat.blt 0 te.size && Nat.beq te.zero.length te.size && Nat.blt (len * te.size) 16777216 && Nat.blt 0 len | none => false) = true)
    (hal : aparts e ps.toList = some al) (hf : (match tlook tab el with
      | some te => afill (fun i => some (i * te.size, te.size)) ((List.range (len * te.size)).map fun j => match te.zero[j % te.size]? with | some v => .d (.sc v) | none => .top) al
      | none => none) = some xs) (hds : datsA xs = some ds)
    (HK : AOps P nt ops Q rest ((d, .row d) :: killE d e) ((d, .row el k len ds) :: killH d h)) : AOps P nt ops Q (o :: rest) e h := by
  obtain ⟨te, h1, h2⟩ := telem_spec hel
  obtain ⟨te', h3, rfl⟩ := tsize_spec hsz
  rw [h3] at hok hf
  simp only [Bool.and_eq_true] at hok
  exact O_eff (T := []) hw (E_buildSlice TO ho hdst h1 h2 h3 hok.1.1.1.1 hok.1.1.1.2 hok.1.1.2 hok.1.2 hok.2 hal hf (datsA_spec hds) hid hd) fun e' h' ⟨h1, h2⟩ => by subst h1 h2; exact HK

theorem O_appR {t el k rid n m d : Nat} {x y : Operand} {cy : AVal} {cs ds : List Dat} (TO : TabOk P tab) (hw : awant ops e o = some true) (hdst : o.dst = some d) (hd : Nat.blt d nt = true) (ho : o.op = .call { callee := .builtin .append, args := #[x, y], argTypes := #[t, t] })
    (hel : telem tab t = some el) (hsz : tsize tab el = some k) (hok : (match tlook tab el with | some te => Nat.blt 0 te.size && Nat.beq te.zero.length te.size && Nat.ble te.bytes 65536 | none => false) = true)
    (hx : aev e x = some (.row rid)) (hb : look h rid = some (.row el k n cs)) (hid : Nat.blt rid 1000 = true) (hy : aev e y = some cy) (S : Src h cy m ds) (hl : ds.length = m * k) (hn : n + m ≤ 2147483648)
    (HK : AOps P nt ops Q rest ((d, .row rid) :: killE rid e) ((rid, .row el k (n + m) (cs ++ ds)) :: killH rid h)) : AOps P nt ops Q (o :: rest) e h :=
  O_append rid rfl TO hw hdst hd ho hel hsz hok hid hx hy (.row hb) S hl hn HK
theorem O_appN {t el k m d : Nat} {x y : Operand} {cy : AVal} {ds : List Dat} (TO : TabOk P tab) (hw : awant ops e o = some true) (hdst : o.dst = some d) (hd : Nat.blt d nt = true) (ho : o.op = .call { callee := .builtin .append, args := #[x, y], argTypes := #[t, t] })
    (hel : telem tab t = some el) (hsz : tsize tab el = some k) (hok : (match tlook tab el with | some te => Nat.blt 0 te.size && Nat.beq te.zero.length te.size && Nat.ble te.bytes 65536 | none => false) = true)
    (hx : aev e x = some (.d (.sc (.slice none 0 0)))) (hid : Nat.blt d 1000 = true) (hy : aev e y = some cy) (S : Src h cy m ds) (hl : ds.length = m * k) (hn : m ≤ 2147483648)
    (HK : AOps P nt ops Q rest ((d, .row d) :: killE d e) ((d, .row el k m ds) :: killH d h)) : AOps P nt ops Q (o :: rest) e h :=
  O_append d rfl TO hw hdst hd ho hel hsz hok hid hx hy .nil S hl (by omega) (by simpa using HK)
theorem row_eq {id el k n n' : Nat} {cs cs' : List Dat} (hn : n = n') (hc : cs = cs') {h : Heap} (hl : look h id = some (.row el k n cs)) : look h id = some (.row el k n' cs') := by subst hn hc; exact hl
theorem R_cmpT {op : BinOp} {t u : TypeId} {x y : Operand} {k : IntKind} {a b : Int} {c : Bool} (ho : o.op = .binOp op t x y u) (hx : aev e x = some (.d (.sc (.int k a)))) (hy : aev e y = some (.d (.sc (.int k b)))) (hr : ibin op k a b = some (.bool c)) (hc : c = true := by first | (simp only [decide_eq_true_eq, beq_iff_eq, bne_iff_ne, ne_eq]; done) | (simp only [decide_eq_true_eq, beq_iff_eq, bne_iff_ne, ne_eq]; omega)) :
    AYield P T e h o (.d (.sc (.bool true))) := by subst hc; exact Y_ibin ho hx hy hr
theorem R_cmpF {op : BinOp} {t u : TypeId} {x y : Operand} {k : IntKind} {a b : Int} {c : Bool} (ho : o.op = .binOp op t x y u) (hx : aev e x = some (.d (.sc (.int k a)))) (hy : aev e y = some (.d (.sc (.int k b)))) (hr : ibin op k a b = some (.bool c)) (hc : c = false := by first | (simp only [decide_eq_false_iff_not, beq_eq_false_iff_ne, bne_eq_false_iff_eq, ne_eq]; done) | (simp only [decide_eq_false_iff_not, beq_eq_false_iff_ne, bne_eq_false_iff_eq, ne_eq]; omega)) :
    AYield P T e h o (.d (.sc (.bool false))) := by subst hc; exact Y_ibin ho hx hy hr

theorem R_index {t el k j : Nat} {x y : Operand} {cs : List Dat} {n : Nat} {q : IntKind} {i : Int} (TO : TabOk P tab) (ho : o.op = .indexAddr t x y) (hel : telem tab t = some el) (hsz : tsize tab el = some k) (hx : aev e x = some (.d (.sl cs n))) (hy : aev e y = some (.d (.sc (.int q i)))) (hj : i = (j : Int)) (hlt : j < n) :
    AYield P T e h o (.iptr cs (j * k)) := by
  obtain ⟨te, h1, h2⟩ := telem_spec hel
  obtain ⟨te', h3, rfl⟩ := tsize_spec hsz
  subst hj
  exact Y_index_sl TO ho h1 h2 h3 hx hy ⟨by omega, by omega⟩
theorem R_indexr {t el el' k kk j id : Nat} {x y : Operand} {cs : List Dat} {n : Nat} {q : IntKind} {i : Int} (TO : TabOk P tab) (ho : o.op = .indexAddr t x y) (hel : telem tab t = some el) (hsz : tsize tab el = some k) (hx : aev e x = some (.row id)) (hb : look h id = some (.row el' kk n cs)) (hy : aev e y = some (.d (.sc (.int q i)))) (hj : i = (j : Int)) (hlt : j < n) :
    AYield P T e h o (.eptr id (j * k)) := by
  obtain ⟨te, h1, h2⟩ := telem_spec hel
  obtain ⟨te', h3, rfl⟩ := tsize_spec hsz
  subst hj
  exact Y_index_row TO ho h1 h2 h3 hx hb hy ⟨by omega, by omega⟩
theorem R_field {t f off o1 id : Nat} {x : Operand} (TO : TabOk P tab) (ho : o.op = .fieldAddr t x f) (hf : tfield tab t f = some off) (hx : aev e x = some (.ptr id o1)) (hb : (look h id).isSome = true) : AYield P T e h o (.ptr id (o1 + off)) := by
  obtain ⟨te, fs, ft, te', h1, h2, h3, h4, h5⟩ := tfield_spec hf
  exact Y_field_ptr TO ho h1 h2 h3 h4 h5 hx hb
theorem R_fielde {t f off o1 id : Nat} {x : Operand} (TO : TabOk P tab) (ho : o.op = .fieldAddr t x f) (hf : tfield tab t f = some off) (hx : aev e x = some (.eptr id o1)) (hb : (look h id).isSome = true) : AYield P T e h o (.eptr id (o1 + off)) := by
  obtain ⟨te, fs, ft, te', h1, h2, h3, h4, h5⟩ := tfield_spec hf
  exact Y_field_eptr TO ho h1 h2 h3 h4 h5 hx hb
theorem R_fieldi {t f off o1 : Nat} {x : Operand} {cs : List Dat} (TO : TabOk P tab) (ho : o.op = .fieldAddr t x f) (hf : tfield tab t f = some off) (hx : aev e x = some (.iptr cs o1)) : AYield P T e h o (.iptr cs (o1 + off)) := by
  obtain ⟨te, fs, ft, te', h1, h2, h3, h4, h5⟩ := tfield_spec hf
  exact Y_field_iptr TO ho h1 h2 h3 h4 h5 hx
def lval (ag : Bool) (xs : List AVal) : Option AVal := match ag, xs with
  | true, xs => some (.agg xs)
  | false, [c] => some c
  | false, _ => none
theorem lval_spec {ag : Bool} {xs : List AVal} {c : AVal} (h : lval ag xs = some c) : cond ag (some (.agg xs)) xs.head? = some c := by
  unfold lval at h
  split at h
  · exact h
  · exact h
  · cases h
theorem R_load {t id o1 s : Nat} {x : Operand} {cs xs : List AVal} {c : AVal} {ag : Bool} (TO : TabOk P tab) (ho : o.op = .load t x) (hs : tsize tab t = some s) (ha : tagg tab t = some ag) (hx : aev e x = some (.ptr id o1)) (hb : look h id = some (.var cs)) (hT : T.contains id = false)
    (hw : win cs o1 s = xs) (hl : Nat.beq xs.length s = true) (hc : lval ag xs = some c) : AYield P T e h o c := by
  obtain ⟨te, h1, rfl⟩ := tsize_spec hs
  obtain ⟨te', h3, rfl⟩ := tagg_spec ha
  rw [h1] at h3; cases h3
  exact Y_load_ptr TO ho h1 hx hb hT hw hl (lval_spec hc)
theorem R_loade {t id o1 s el k n : Nat} {x : Operand} {cs xs : List Dat} {c : AVal} {ag : Bool} (TO : TabOk P tab) (ho : o.op = .load t x) (hs : tsize tab t = some s) (ha : tagg tab t = some ag) (hx : aev e x = some (.eptr id o1)) (hb : look h id = some (.row el k n cs)) (hT : T.contains id = false)
    (hw : win cs o1 s = xs) (hl : Nat.beq xs.length s = true) (hc : lval ag (xs.map AVal.d) = some c) : AYield P T e h o c := by
  obtain ⟨te, h1, rfl⟩ := tsize_spec hs
  obtain ⟨te', h3, rfl⟩ := tagg_spec ha
  rw [h1] at h3; cases h3
  exact Y_load_eptr TO ho h1 hx hb hT (by rw [hw]) (by simpa using hl) (lval_spec hc)
theorem R_loadi {t o1 s : Nat} {x : Operand} {cs xs : List Dat} {c : AVal} {ag : Bool} (TO : TabOk P tab) (ho : o.op = .load t x) (hs : tsize tab t = some s) (ha : tagg tab t = some ag) (hx : aev e x = some (.iptr cs o1)) (hw : win cs o1 s = xs) (hl : Nat.beq xs.length s = true) (hc : lval ag (xs.map AVal.d) = some c) :
    AYield P T e h o c := by
  obtain ⟨te, h1, rfl⟩ := tsize_spec hs
  obtain ⟨te', h3, rfl⟩ := tagg_spec ha
  rw [h1] at h3; cases h3
  exact Y_load_iptr TO ho h1 hx hw hl (lval_spec hc)
theorem R_len {t el : Nat} {x : Operand} {cs : List Dat} {n : Nat} (TO : TabOk P tab) (ho : o.op = .call { callee := .builtin .len, args := #[x], argTypes := #[t] }) (hel : telem tab t = some el) (hx : aev e x = some (.d (.sl cs n))) : AYield P T e h o (.d (.sc (.int .i64 (n : Int)))) := by
  obtain ⟨te, h1, h2⟩ := telem_spec hel
  exact Y_len_sl TO ho h1 h2 hx
theorem R_lenr {t el el' id k n : Nat} {x : Operand} {cs : List Dat} (TO : TabOk P tab) (ho : o.op = .call { callee := .builtin .len, args := #[x], argTypes := #[t] }) (hel : telem tab t = some el) (hx : aev e x = some (.row id)) (hb : look h id = some (.row el' k n cs)) : AYield P T e h o (.d (.sc (.int .i64 (n : Int)))) := by
  obtain ⟨te, h1, h2⟩ := telem_spec hel
  exact Y_len_row TO ho h1 h2 hx hb
theorem R_lenn {t el : Nat} {x : Operand} (TO : TabOk P tab) (ho : o.op = .call { callee := .builtin .len, args := #[x], argTypes := #[t] }) (hel : telem tab t = some el) (hx : aev e x = some (.d (.sc (.slice none 0 0)))) : AYield P T e h o (.d (.sc (.int .i64 0))) := by
  obtain ⟨te, h1, h2⟩ := telem_spec hel
  exact Y_len_nil TO ho h1 h2 hx
theorem R_build {t : TypeId} {ps : Array (Nat × Operand)} {al : List (Nat × AVal)} {z xs : List AVal} {fs : List (Nat × TypeId)} (TO : TabOk P tab) (ho : o.op = .build t ps) (hz : tzero tab t = some z) (hfs : (match tlook tab t with | some ⟨_, _, _, _, .st fs⟩ => some fs | _ => none) = some fs) (hal' : fs.all (fun f => (tlook tab f.2).isSome) = true)
    (hal : aparts e ps.toList = some al) (hf : afill (stPlace tab fs) z al = some xs) : AYield P T e h o (.agg xs) := by
  obtain ⟨te, h1, h2, rfl⟩ := tzero_spec hz
  rw [h1] at hfs
  split at hfs
  · rename_i heq
    cases heq
    cases hfs
    exact Y_build TO ho h1 rfl hal' h2 hal hf
  · cases hfs
theorem wrap_nat {n : Int} {m : Nat} (h : n = (m : Int)) (h2 : m ≤ 9223372036854775807) : IntKind.i64.wrap n = (m : Int) := by rw [h]; exact wrap_i64 ⟨by omega, by omega⟩
theorem wrap_succ {k : Nat} (h2 : k < 9223372036854775807) : IntKind.i64.wrap ((k : Int) + 1) = ((k + 1 : Nat) : Int) := wrap_nat (by omega) (by omega)
theorem wrap_pred {k : Nat} (h1 : 1 ≤ k) (h2 : k ≤ 9223372036854775807) : IntKind.i64.wrap ((k : Int) - 1) = ((k - 1 : Nat) : Int) := wrap_nat (by omega) (by omega)
theorem A_ct {c : Operand} {x y : Code} {b : Bool} (hc : aev e c = some (.d (.sc (.bool b)))) (ht : AWp z P nt x Q e h) (hb : b = true := by first | rfl | assumption | (first | (simp only [decide_eq_true_eq]; done) | (simp only [decide_eq_true_eq]; omega))) : AWp z P nt (.cond c x y) Q e h := A_condt hc hb ht
theorem A_cf {c : Operand} {x y : Code} {b : Bool} (hc : aev e c = some (.d (.sc (.bool b)))) (ht : AWp z P nt y Q e h) (hb : b = false := by first | rfl | assumption | (first | (simp only [decide_eq_false_iff_not]; done) | (simp only [decide_eq_false_iff_not]; omega))) : AWp z P nt (.cond c x y) Q e h := A_condf hc hb ht
theorem win_flat {α : Type} {enc : α → List Dat} {sz : Nat} (hsz : ∀ x, (enc x).length = sz) (l : List α) (k j m : Nat) (hk : k < l.length) (hj : j + m ≤ sz) : win (l.flatMap enc) (k * sz + j) m = win (enc l[k]) j m := by
  induction l generalizing k with
  | nil => simp at hk
  | cons a r ih =>
    cases k with
    | zero =>
      simp only [List.flatMap_cons, Nat.zero_mul, Nat.zero_add, List.getElem_cons_zero, win]
      have := hsz a
      rw [List.drop_append_of_le_length (by omega), List.take_append_of_le_length (by simp; omega)]
    | succ k =>
      have h1 := ih k (by simpa using hk)
      simp only [List.flatMap_cons, List.getElem_cons_succ] at h1 ⊢
      rw [← h1]
      unfold win
      have := hsz a
      rw [show (k + 1) * sz + j = (enc a).length + (k * sz + j) by rw [this, Nat.add_mul]; omega, ← List.drop_drop, List.drop_left]
theorem win_flat0 {α : Type} {enc : α → List Dat} {sz : Nat} (hsz : ∀ x, (enc x).length = sz) (l : List α) (k m : Nat) (hk : k < l.length) (hj : m ≤ sz) : win (l.flatMap enc) (k * sz) m = win (enc l[k]) 0 m := win_flat hsz l k 0 m hk (by omega)
theorem win_flat2 {α : Type} {enc : α → List Dat} {sz : Nat} (hsz : ∀ x, (enc x).length = sz) (l : List α) (k j j2 m : Nat) (hk : k < l.length) (hj : j + j2 + m ≤ sz) : win (l.flatMap enc) (k * sz + j + j2) m = win (enc l[k]) (j + j2) m := by
  rw [Nat.add_assoc]; exact win_flat hsz l k (j + j2) m hk hj
theorem flat_len {α : Type} {enc : α → List Dat} {sz : Nat} (hsz : ∀ x, (enc x).length = sz) (l : List α) : (l.flatMap enc).length = l.length * sz := by
  induction l with
  | nil => simp
  | cons a r ih => simp [ih, hsz, Nat.add_mul]; omega
end
end Go.Proofs.YtenolkolkpfjgaaGreat.Ab

namespace Go.Proofs.YtenolkolkpfjgaaGreat.Ab
set_option linter.unusedVariables false
open Go.RowKit

def onlyN (Q : Exit → Act → World → Prop) : Exit → Act → World → Prop := fun x a w => x = .normal ∧ Q x a w
def AAny (P : Program) (nt : Nat) (ops : Array Oper) (Q : Post) (T : List Nat) (fuel : Nat) (listed : Array Bool) (e : Env) (h : Heap) : Prop :=
  ∀ Pm F w0 pin ι a w, Rel Pm F w0 pin ι nt e h a w → wpAnyH P .any ops (onlyN (real Pm F w0 pin nt Q)) (CT T ι w) fuel listed a w
def AAt (P : Program) (nt : Nat) (ops : Array Oper) (Q : Post) (T : List Nat) (fuel : Nat) (listed : Array Bool) (i : Nat) (e : Env) (h : Heap) : Prop :=
  ∀ Pm F w0 pin ι a w, Rel Pm F w0 pin ι nt e h a w → wpOp P ops (onlyN (real Pm F w0 pin nt Q)) i (fun a' w' => CT T ι w w' ∧ wpAnyH P .any ops (onlyN (real Pm F w0 pin nt Q)) (CT T ι w) fuel (listed.setIfInBounds i true) a' w') a w
def memOp : Op → Bool
  | .load _ _ => true
  | .lookup _ _ _ _ => true
  | .call _ => true
  | _ => false
def NoPanic (Q : Post) : Prop := ∀ ch e h, ¬ Q (.panic ch) e h
theorem np_then {K : Env → Heap → Prop} {Q : Post} (h : NoPanic Q) : NoPanic (AThen K Q) := fun ch e h' hq => h ch e h' hq
theorem np_in {j : Nat} {Q : Post} (h : NoPanic Q) : NoPanic (AIn j Q) := fun ch e h' hq => h ch e h' hq
theorem np_post {nt : Nat} {tab : TTab} {rs : List ResultVar} {R : AVal → Heap → Prop} : NoPanic (APost nt tab rs R) := fun _ _ _ h => h
section
variable {P : Program} {nt : Nat} {Q : Post} {e : Env} {h : Heap} {ops : Array Oper} {T : List Nat} {fuel i : Nat} {listed : Array Bool} {o : Oper}
theorem wpAnyH_mono {S S' : World → Prop} {Q' : Exit → Act → World → Prop} (hS : ∀ w, S w → S' w) : ∀ (fuel : Nat) (listed : Array Bool) (a : Act) (w : World), wpAnyH P .any ops Q' S fuel listed a w → wpAnyH P .any ops Q' S' fuel listed a w
  | 0, _, _, _, h => h
  | fuel + 1, _, _, _, h => ⟨h.1, fun i hi => wpOp_mono (fun a' w' h' => ⟨hS _ h'.1, wpAnyH_mono hS fuel _ a' w' h'.2⟩) (h.2 i hi)⟩
theorem real_panic {Pm F : Nat → Prop} {w0 w : World} {pin : Nat → Option Value} {a : Act} {ch : List PanicEntry} {Q : Post} (hQ : NoPanic Q) : ¬ onlyN (real Pm F w0 pin nt Q) (.panic ch) a w := fun h => by cases h.1
theorem N_begin {z : Bool} {id : Nat} {l : List Oper} (T : List Nat) (hm : P.follows .mixedOrders = true) (H : AAny P nt l.toArray Q T l.toArray.size (Array.replicate l.toArray.size false) e h) (hnd : l.all notDef = true := by rfl) : AWp z P nt (.region id l.toArray true) Q e h := fun lq Pm F w0 pin ι a w hz R =>
  wpIn_mono (wpIn_region_any hm (any_fq (Q := onlyN (real Pm F w0 pin nt Q)) (fun ⟨_, _, h, _⟩ => by cases h) hnd _ _ _ _ (wpAny_of_held _ _ _ _ (H Pm F w0 pin ι a _ (R.grew (Grew.drew w)))))) fun x a w h => h.2
theorem N_take {c : AVal} {d : Nat} (hi : ops[i]? = some o) (hs : Region.noSelect ops = true) (hf : Region.free .any ops listed i = true) (hr : (Region.ready .any ops listed).contains i = true) (hQ : NoPanic Q)
    (hw : awant ops e o = some true) (hdst : o.dst = some d) (hd : Nat.blt d nt = true) (hy : AYield P T e h o c) (H : AAny P nt ops Q T fuel (listed.setIfInBounds i true) ((d, c) :: e) h) : AAny P nt ops Q T (fuel + 1) listed e h := fun Pm F w0 pin ι a w R => by
  obtain ⟨v, hv, hrun⟩ := hy Pm F w0 pin ι a w R.heap R.env
  refine wpAnyH_take hi hs hf hr (fun ch a w hp => absurd hp (real_panic hQ)) (.inl ⟨awant_rel R.env hw, fun w' hw' => hrun w' hw'⟩) (CT.refl _ _ _) ?_
  have R' := R.put (d := some d) hd hv
  rw [hdst]
  exact H Pm F w0 pin ι _ w R'
theorem N_skip {d : Nat} (hi : ops[i]? = some o) (hs : Region.noSelect ops = true) (hf : Region.free .any ops listed i = true) (hr : (Region.ready .any ops listed).contains i = true) (hQ : NoPanic Q)
    (hw : awant ops e o = some false) (hdst : o.dst = some d) (hd : Nat.blt d nt = true) (H : AAny P nt ops Q T fuel (listed.setIfInBounds i true) ((d, .und) :: e) h) : AAny P nt ops Q T (fuel + 1) listed e h := fun Pm F w0 pin ι a w R => by
  refine wpAnyH_take hi hs hf hr (fun ch a w hp => absurd hp (real_panic hQ)) (.inr ⟨awant_rel R.env hw, rfl⟩) (CT.refl _ _ _) ?_
  have R' := R.put (d := some d) hd (.und (ι := ι) (w := w) (F := F))
  rw [hdst]
  exact H Pm F w0 pin ι _ w R'
theorem N_all {rs : List Nat} (hr : Region.ready .any ops listed = rs) (hne : rs.isEmpty = false) (H : ∀ i ∈ rs, AAt P nt ops Q T fuel listed i e h) : AAny P nt ops Q T (fuel + 1) listed e h := fun Pm F w0 pin ι a w R =>
  wpAnyH_all hr (by rintro rfl; cases hne) fun i hi => H i hi Pm F w0 pin ι a w R
theorem N_one {j : Nat} (hr : Region.ready .any ops listed = [j]) (H : AAt P nt ops Q T fuel listed j e h) : AAny P nt ops Q T (fuel + 1) listed e h :=
  N_all hr rfl fun i hi => by rw [List.mem_singleton.1 hi]; exact H
theorem N_two {j k : Nat} (hr : Region.ready .any ops listed = [j, k]) (H1 : AAt P nt ops Q T fuel listed j e h) (H2 : AAt P nt ops Q T fuel listed k e h) : AAny P nt ops Q T (fuel + 1) listed e h :=
  N_all hr rfl fun i hi => by
    rcases List.mem_cons.1 hi with rfl | hi
    · exact H1
    · rw [List.mem_singleton.1 hi]; exact H2
theorem N_done (hr : Region.ready .any ops listed = []) (H : Q .normal e h) : AAny P nt ops Q T fuel listed e h := fun Pm F w0 pin ι a w R => wpAnyH_done hr ⟨rfl, ι, e, h, H, R⟩ fuel
theorem T_eff {R : Env → Heap → Prop} (hi : ops[i]? = some o) (hw : awant ops e o = some true) (hy : AEff P nt T e h o R) (H : ∀ e' h', R e' h' → AAny P nt ops Q T fuel (listed.setIfInBounds i true) e' h') : AAt P nt ops Q T fuel listed i e h := fun Pm F w0 pin ι a w Rl => by
  unfold wpOp
  simp only [hi]
  rw [awant_rel Rl.env hw, if_pos rfl]
  left
  exact hy Pm F w0 pin ι a w Rl _ _ fun ι' e' h' a' w' hR hRel hC _ => ⟨hC.ct, wpAnyH_mono (fun w2 h2 => hC.trans h2) _ _ _ _ (H e' h' hR Pm F w0 pin ι' a' w' hRel)⟩
theorem T_yield {c : AVal} {d : Nat} (hi : ops[i]? = some o) (hw : awant ops e o = some true) (hdst : o.dst = some d) (hd : Nat.blt d nt = true) (hy : AYield P [] e h o c) (H : AAny P nt ops Q T fuel (listed.setIfInBounds i true) ((d, c) :: e) h) : AAt P nt ops Q T fuel listed i e h :=
  T_eff (R := fun e' h' => e' = (d, c) :: e ∧ h' = h) hi hw (fun Pm F w0 pin ι a w R K Qx hK => by
    obtain ⟨v, hv, hr⟩ := hy Pm F w0 pin ι a w R.heap R.env
    unfold Oper.wp
    rw [hr w (CT.refl _ _ _), Oper.upon_value, hdst]
    exact hK ι _ _ _ w ⟨rfl, rfl⟩ (R.put (d := some d) hd hv) ⟨CT.refl _ _ _, fun id _ v r h1 h2 _ => ⟨v, h1, h2⟩⟩ (put_defers _ _ _)) fun e' h' ⟨h1, h2⟩ => by subst h1 h2; exact H
theorem T_call {f : FuncId} {args : Array Operand} {ats : Array TypeId} {cs : List AVal} {c : AVal} {d : Nat} (hi : ops[i]? = some o) (hw : awant ops e o = some true) (hdst : o.dst = some d) (hd : Nat.blt d nt = true) (ho : o.op = .call { callee := .value (.func f), args := args, argTypes := ats }) (hx : aevs e args.toList = some cs)
    (HC : ACall P f cs [] (fun c' h' => c' = c ∧ h' = [])) (hc : ∀ j, c.has j = false) (H : AAny P nt ops Q T fuel (listed.setIfInBounds i true) ((d, c) :: e) h) : AAt P nt ops Q T fuel listed i e h :=
  T_eff hi hw (E_call0 ho hdst hx HC hd hc) fun e' h' ⟨h1, h2⟩ => by subst h1 h2; exact H
theorem T_alloc {t : TypeId} {d : Nat} {z : List AVal} {tab : TTab} (TO : TabOk P tab) (hi : ops[i]? = some o) (hw : awant ops e o = some true) (hdst : o.dst = some d) (hd : Nat.blt d nt = true) (hid : Nat.blt d 1000 = true) (ho : o.op = .alloc t) (hz : tzero tab t = some z)
    (H : AAny P nt ops Q T fuel (listed.setIfInBounds i true) ((d, .ptr d 0) :: killE d e) ((d, .var z) :: killH d h)) : AAt P nt ops Q T fuel listed i e h := by
  obtain ⟨te, h1, h2, rfl⟩ := tzero_spec hz
  exact T_eff hi hw (E_alloc TO ho hdst h1 hid hd h2) fun e' h' ⟨h1, h2⟩ => by subst h1 h2; exact H
theorem T_box {t : TypeId} {x : Operand} {d : Nat} {c : AVal} {cs : List AVal} (hi : ops[i]? = some o) (hw : awant ops e o = some true) (hdst : o.dst = some d) (hd : Nat.blt d nt = true) (hid : Nat.blt d 1000 = true) (ho : o.op = .box t x) (hx : aev e x = some c) (hcs : cellsA c = some cs)
    (H : AAny P nt ops Q T fuel (listed.setIfInBounds i true) ((d, .ptr d 0) :: killE d e) ((d, .var (cs.map (killV d))) :: killH d h)) : AAt P nt ops Q T fuel listed i e h :=
  T_eff hi hw (E_box ho hdst hx hcs hid hd) fun e' h' ⟨h1, h2⟩ => by subst h1 h2; exact H
theorem T_store {t : TypeId} {x y : Operand} {id off s : Nat} {cs xs : List AVal} {c : AVal} {tab : TTab} (TO : TabOk P tab) (hi : ops[i]? = some o) (hw : awant ops e o = some true) (hdst : o.dst = none) (ho : o.op = .store t x y) (hx : aev e x = some (.ptr id off)) (hb : look h id = some (.var cs))
    (hy : aev e y = some c) (hcs : cellsA c = some xs) (hp : xs.all plainC = true) (hs : tsize tab t = some s) (hl : Nat.beq xs.length s = true) (hle : Nat.ble (off + s) cs.length = true) (hT : T.contains id = true)
    (H : AAny P nt ops Q T fuel (listed.setIfInBounds i true) e ((id, .var (setW cs off xs)) :: h)) : AAt P nt ops Q T fuel listed i e h := by
  obtain ⟨te, h1, h2⟩ := tsize_spec hs
  subst h2
  exact T_eff hi hw (E_store_ptr TO ho hdst h1 hx hb hy hcs hp hl hle rfl rfl hT) fun e' h' ⟨h1, h2⟩ => by subst h1 h2; exact H
end
end Go.Proofs.YtenolkolkpfjgaaGreat.Ab

namespace Go.Proofs.YtenolkolkpfjgaaGreat.Ab
set_option linter.unusedVariables false
set_option maxRecDepth 100000
open Go.RowKit
section
variable {P : Program} {nt : Nat} {Q : Post} {e : Env} {h : Heap} {ops : Array Oper} {o : Oper} {rest : List Oper} {T : List Nat} {fuel i : Nat} {listed : Array Bool}
end
end Go.Proofs.YtenolkolkpfjgaaGreat.Ab

namespace Go.Proofs.YtenolkolkpfjgaaGreat.Ab
set_option linter.unusedVariables false
open Go.RowKit

theorem TFacts.elem {P : Program} {t : TypeId} {te : TE} {el : TypeId} (F : TFacts P t te) (hs : te.sh = .sl el) : P.elem t = el := by
  have := F.slice hs
  simp [Program.elem, this]

theorem see_pfx {xs ys : List Dat} {n : Nat} (w : World) (F : Nat → Prop) (ι : Nat → Option Value) (u : Value) (h : VRel w F ι (.d (.sl (xs ++ ys) n)) u) : VRel w F ι (.d (.sl xs n)) u := by
  cases h with
  | d _ _ hd =>
    generalize hz : xs ++ ys = zs at hd
    cases hd with
    | nil =>
      obtain ⟨h1, h2⟩ := List.append_eq_nil_iff.1 hz
      subst h1
      exact .d _ _ .nil
    | emp a =>
      obtain ⟨h1, h2⟩ := List.append_eq_nil_iff.1 hz
      subst h1
      exact .d _ _ (.emp a)
    | sl _ _ b o cap vs hn hl hf hc hr =>
      subst hz
      refine .d _ _ (.sl xs n b o cap (vs.take xs.length) hn (by simp at hl ⊢; omega) (fun hne => hf (by rintro rfl; simp at hne)) (fun i v hv => ?_) (fun i c v h1 h2 => ?_))
      · rw [List.getElem?_take] at hv
        split at hv
        · exact hc i v hv
        · cases hv
      · rw [List.getElem?_take] at h2
        split at h2
        · rename_i hi
          exact hr i c v (by rw [List.getElem?_append_left hi]; exact h1) h2
        · cases h2
section
variable {P : Program} {nt : Nat} {Q : Post} {e : Env} {h : Heap} {ops : Array Oper} {o : Oper} {rest : List Oper} {T : List Nat} {tab : TTab}
theorem O_weaken {e' : Env} {h' : Heap} {l : List Oper} (hk : AWk nt e h e' h') (H : AOps P nt ops Q l e' h') : AOps P nt ops Q l e h := fun hnd lq Pm F w0 pin ι a w R => by
  obtain ⟨ι', R'⟩ := hk Pm F w0 pin ι a w R
  exact H hnd lq Pm F w0 pin ι' a w R'
theorem R_min {x y : Operand} {ats : Array TypeId} {k : IntKind} {a b r : Int} (ho : o.op = .call { callee := .builtin .min, args := #[x, y], argTypes := ats }) (hx : aev e x = some (.d (.sc (.int k a)))) (hy : aev e y = some (.d (.sc (.int k b)))) (hr : (if b < a then b else a) = r) :
    AYield P T e h o (.d (.sc (.int k r))) := yield_of _ fun w F ι ac E => by
  refine ⟨.int k r, sc_rel rfl, fun w' => ?_⟩
  have h1 := (sc_of (aev_rel E hx)).1
  have h2 := (sc_of (aev_rel E hy)).1
  subst hr
  simp [execOp, ho, resolve, invoke, builtin, h1, h2, Builtin.min_, Builtin.min2]

theorem run_cutTo {t el : TypeId} {te te' : TE} (w' : World) (Ft : TFacts P t te) (hs : te.sh = .sl el) (Fe : TFacts P el te') (b : Option Addr) (hb : ∀ a, b = some a → a.add 0 = a) (n cap : Nat) (k : IntKind) (m : Nat) (hm : m ≤ cap) :
    (Instr.sliceAt t (.slice b n cap) none (some (.int k m)) none).run P w' = .ok (.slice b m cap) w' := by
  have hu := Ft.slice hs
  have he : P.elem t = el := Ft.elem hs
  rw [run_sliceAt_slice (t := t) (h := by rw [he]; exact hu), run_slice_h (P := P) (w := w') (t := t) (a := b) (len := n) (cap := cap) (ht := by rw [he]; exact hu) (kh := k) (h := (m : Int)) (by omega) (by omega), he, Fe.size]
  simp only [Result.andThen, sliced, Int.toNat_natCast, Nat.zero_mul, Nat.sub_zero]
  congr 2
  split
  · rfl
  · cases b with
    | none => rfl
    | some a => simp [hb a rfl]
theorem add0 (b o : Nat) : (⟨b, o, none⟩ : Addr).add 0 = ⟨b, o, none⟩ := rfl
theorem R_sliceD {t el k m : Nat} {x y : Operand} {cs : List Dat} {n : Nat} {q : IntKind} {i : Int} (TO : TabOk P tab) (ho : o.op = .slice t x none (some y) none) (hel : telem tab t = some el) (hsz : tsize tab el = some k) (hx : aev e x = some (.d (.sl cs n))) (hy : aev e y = some (.d (.sc (.int q i)))) (hi : i = (m : Int)) (hm : m ≤ n) :
    AYield P T e h o (.d (.sl cs m)) := by
  obtain ⟨te, h1, h2⟩ := telem_spec hel
  obtain ⟨te', h3, rfl⟩ := tsize_spec hsz
  subst hi
  refine yield_of _ fun w F ι a E => ?_
  have hv := aev_rel E hx
  have hk := (sc_of (aev_rel E hy)).1
  generalize hau : a.eval x = u at hv
  cases hv with
  | d _ _ hd =>
    cases hd with
    | nil =>
      have : m = 0 := by omega
      subst this
      exact ⟨_, .d _ _ .nil, fun w' => by simp only [execOp, ho, hau]; simp [hk]; rw [show (0 : Int) = ((0 : Nat) : Int) from rfl, run_cutTo w' (TO t te h1) h2 (TO el te' h3) none (fun a h => by cases h) 0 0 q 0 (Nat.le_refl _)]; rfl⟩
    | emp aa =>
      have : m = 0 := by omega
      subst this
      exact ⟨_, .d _ _ (.emp aa), fun w' => by simp only [execOp, ho, hau]; simp [hk]; rw [show (0 : Int) = ((0 : Nat) : Int) from rfl, run_cutTo w' (TO t te h1) h2 (TO el te' h3) (some aa) (fun a h => rfl) 0 0 q 0 (Nat.le_refl _)]; rfl⟩
    | sl _ _ b off cap vs hn hl hf hc hr =>
      exact ⟨_, .d _ _ (.sl cs m b off cap vs (by omega) hl hf hc hr), fun w' => by simp only [execOp, ho, hau]; simp [hk]; rw [run_cutTo w' (TO t te h1) h2 (TO el te' h3) _ (fun a h => by cases h; exact add0 _ _) n cap q m (by omega)]; rfl⟩
theorem E_buildSlice0 {t el : TypeId} {te te' : TE} {d : Option Tmp} {id : Nat} (TO : TabOk P tab) (ho : o.op = .buildSlice t 0 #[]) (hdst : o.dst = d) (ht : tlook tab t = some te) (hs : te.sh = .sl el) (hel : tlook tab el = some te') (hid : Nat.blt id 1000 = true) (hd : dstOk nt d = true) :
    AEff P nt T e h o (fun e' h' => e' = aput d (.row id) (killE id e) ∧ h' = (id, .row el te'.size 0 []) :: killH id h) := fun Pm F w0 pin ι a w R K Qx hK => by
  have hu := (TO t te ht).slice hs
  have hb : ∀ ι', ι' = upd ι id (some (.slice (some ⟨w.heap.size, 0, none⟩) 0 0)) → Ext w F ι (w.alloc (.cells #[] el)) ι' → BRel (w.alloc (.cells #[] el)) F ι' (.row el te'.size 0 []) (.slice (some ⟨w.heap.size, 0, none⟩) 0 0) := fun ι' h0 he =>
    ⟨[], ⟨by simp, .inr ⟨w.heap.size, 0, #[], rfl, Nat.zero_le _, heap_new _ _, Nat.le_refl _, Nat.zero_le _, by simp, by simp⟩⟩, rfl, by simp⟩
  obtain ⟨hR, hC⟩ := R.new (T := T) hid hd (.cells #[] el) (.slice (some ⟨w.heap.size, 0, none⟩) 0 0) (by simp [blockOf]) _ (.row id) hb fun ι' h1 => .row id _ rfl fun v hv => by subst h1; simp [upd] at hv; exact hv
  have hrun : (execOp a.eval o).run P w = .ok (.value (.slice (some ⟨w.heap.size, 0, none⟩) 0 0)) (w.alloc (.cells #[] el)) := by
    simp only [execOp, ho]
    simp [Instr.buildSlice, run_underlying hu, (TO el te' hel).size, Instr.fill, newRow, newObj, Sem.run]
    first | rfl | (rw [show Array.range 0 = #[] from rfl]; rfl) | (rw [show Array.range 0 = #[] from by decide]; simp)
  unfold Oper.wp
  rw [hrun, Oper.upon_value, hdst]
  exact hK _ _ _ _ _ ⟨rfl, rfl⟩ hR hC (put_defers _ _ _)
theorem O_slice0 {t el k d : Nat} (TO : TabOk P tab) (hw : awant ops e o = some true) (hdst : o.dst = some d) (hd : Nat.blt d nt = true) (hid : Nat.blt d 1000 = true) (ho : o.op = .buildSlice t 0 #[]) (hel : telem tab t = some el) (hsz : tsize tab el = some k)
    (HK : AOps P nt ops Q rest ((d, .row d) :: killE d e) ((d, .row el k 0 []) :: killH d h)) : AOps P nt ops Q (o :: rest) e h := by
  obtain ⟨te, h1, h2⟩ := telem_spec hel
  obtain ⟨te', h3, rfl⟩ := tsize_spec hsz
  exact O_eff (T := []) hw (E_buildSlice0 TO ho hdst h1 h2 h3 hid hd) fun e' h' ⟨h1, h2⟩ => by subst h1 h2; exact HK

theorem E_store_eptr {t : TypeId} {x y : Operand} {d : Option Tmp} {te : TE} {id off el k n : Nat} {cs ds : List Dat} {xs : List AVal} {c : AVal} (TO : TabOk P tab) (ho : o.op = .store t x y) (hdst : o.dst = d) (ht : tlook tab t = some te) (hx : aev e x = some (.eptr id off)) (hb : look h id = some (.row el k n cs))
    (hy : aev e y = some c) (hcs : cellsA c = some xs) (hds : xs = ds.map AVal.d) (hl : xs.length = te.size) (hle : off + te.size ≤ cs.length) (h0 : 0 < n) (hd : dstOk nt d = true) (hT : T.contains id = true) :
    AEff P nt T e h o (fun e' h' => e' = aput d .und e ∧ h' = (id, .row el k n (setW cs off ds)) :: h) := fun Pm F w0 pin ι a w R K Qx hK => by
  obtain ⟨v, hv, zs, hown, hlC, hr⟩ := R.heap.blk id _ hb
  have hrel := aev_rel R.env hx
  have hyr := aev_rel R.env hy
  obtain ⟨hsz, hcr⟩ := cells_rel hyr hcs
  obtain ⟨hzl, hcase⟩ := hown
  rcases hcase with ⟨_, h9⟩ | ⟨g, cap, cur, rfl, hg0, hC, hnc, hmx, hcs2, htake⟩
  · exact absurd h0 (by omega)
  have hnk : n * k ≤ cap * k := Nat.mul_le_mul_right _ hnc
  have hle2 : off + te.size ≤ n * k := by omega
  generalize hau : a.eval x = u at hrel
  cases hrel with
  | eptr _ _ _ h1 h2 =>
    obtain ⟨g', n', cap', h3, rfl⟩ := h2 _ hv
    cases h3
    have hdl : ds.length = te.size := by rw [← hl, hds, List.length_map]
    have hone : ∀ u ∈ (a.eval y).cells.toList, u.oneCell' = true := fun u hu => by
      obtain ⟨i, hi⟩ := List.mem_iff_getElem?.1 hu
      have hlt : i < xs.length := by rw [← hsz, ← Array.length_toList]; exact (List.getElem?_eq_some_iff.1 hi).1
      have hcc := hcr i xs[i] u (List.getElem?_eq_getElem hlt) (by simpa using hi)
      have hxi : xs[i] = .d (ds[i]'(by rw [hds] at hlt; simpa using hlt)) := by subst hds; simp
      rw [hxi] at hcc
      cases hcc with
      | d _ _ hdd => exact hdd.one
    have hrun := run_storeVar (w := w) (TO t te ht) hC (a.eval y) (by rw [hsz, hl]) (by rw [hcs2]; omega) hone (off := off)
    obtain ⟨hW, hnew⟩ := wrote_setRow (C' := (setW cur.toList off (a.eval y).cells.toList).toArray) hC (v := .slice (some ⟨g, 0, none⟩) n cap) rfl
    have hlen : (a.eval y).cells.toList.length = xs.length := by simpa using hsz
    unfold Oper.wp
    have hrun2 : (execOp a.eval o).run P w = .ok .skip (w.setRow g (setW cur.toList off (a.eval y).cells.toList).toArray) := by
      simp [execOp, ho, Instr.storeAt, Instr.sureAddr, hau, hrun]
    rw [hrun2, Oper.upon_skip, hdst]
    have hcl : cur.toList.length = cap * k := by simpa using hcs2
    refine hK ι _ _ _ _ ⟨rfl, rfl⟩ ?_ ?_ (put_defers _ _ _)
    · refine ⟨R.heap.wrote hW hv ⟨(setW cur.toList off (a.eval y).cells.toList).take (n * k), ⟨?_, .inr ⟨g, cap, _, rfl, hg0, hnew, hnc, hmx, ?_, rfl⟩⟩, ?_, fun i c' u h4 h5 => ?_⟩, (R.env.mono fun _ _ _ _ hv' => hv'.wrote hW hv).aput hd R.size .und, by rw [put_defers]; exact R.defers.ext (hW.ext hv), by rw [put_size]; exact R.size⟩
      · simp [setW]; omega
      · simp [setW]; omega
      · simp [setW]; omega
      · rw [setW_get (by omega)] at h4
        rw [List.getElem?_take] at h5
        split at h5
        · rename_i hin0
          rw [setW_get (by rw [hlen]; omega), hlen] at h5
          split at h4
          · rename_i hin
            rw [if_pos (by omega)] at h5
            have := hcr (i - off) (.d c') u (by rw [hds, List.getElem?_map, h4]; rfl) (by simpa using h5)
            have := this.wrote hW hv
            cases this with
            | d _ _ hdd => exact hdd
          · rename_i hin
            rw [if_neg (by omega)] at h5
            have := (VRel.d _ _ (hr i c' u h4 (by rw [← htake, List.getElem?_take, if_pos hin0]; exact h5))).wrote hW hv
            cases this with
            | d _ _ hdd => exact hdd
        · cases h5
    · exact ⟨⟨hW.os, hW.tape, hW.output, hW.size, fun r hr hne => hW.mem r hr fun hb => hne id (List.contains_iff_mem.1 hT) _ hv hb⟩, fun j _ u r hj hr _ => ⟨u, hj, hr⟩⟩
theorem O_storee {t : TypeId} {x y : Operand} {id off s el k n : Nat} {cs ds : List Dat} {xs : List AVal} {c : AVal} (TO : TabOk P tab) (hw : awant ops e o = some true) (hdst : o.dst = none) (ho : o.op = .store t x y) (hx : aev e x = some (.eptr id off)) (hb : look h id = some (.row el k n cs))
    (hy : aev e y = some c) (hcs : cellsA c = some xs) (hds : datsA xs = some ds) (hs : tsize tab t = some s) (hl : Nat.beq xs.length s = true) (hle : off + s ≤ cs.length) (h0 : 0 < n)
    (HK : AOps P nt ops Q rest e ((id, .row el k n (setW cs off ds)) :: h)) : AOps P nt ops Q (o :: rest) e h := by
  obtain ⟨te, h1, h2⟩ := tsize_spec hs
  subst h2
  exact O_eff (T := [id]) hw (E_store_eptr TO ho hdst h1 hx hb hy hcs (datsA_spec hds) (Nat.eq_of_beq_eq_true hl) hle h0 rfl (by simp)) fun e' h' ⟨h1, h2⟩ => by subst h1 h2; exact HK
end
def lendV (h : Heap) : AVal → AVal
  | .row id => match look h id with
    | some (.row _ _ n ds) => .d (.sl ds n)
    | _ => .top
  | c => c
theorem FreeB.all (r : Nat) : FreeB (fun _ => False) (fun _ => none) r := ⟨fun h => h, fun _ _ h => by cases h⟩
theorem lend_rel {Pm F : Nat → Prop} {w0 w : World} {pin ι : Nat → Option Value} {h : Heap} (H : HRel Pm F w0 pin ι h w) {c : AVal} {u : Value} (hc : VRel w F ι c u) : VRel w (fun _ => False) (fun _ => none) (lendV h c) u := by
  have other : ∀ {c : AVal}, VRel w F ι c u → VRel w (fun _ => False) (fun _ => none) c u := fun hc => hc.extF ⟨fun _ _ _ => rfl, fun r _ _ => FreeB.all r⟩ fun _ _ _ h => by cases h
  cases c with
  | row id =>
    cases hb : look h id with
    | none => simp only [lendV, hb]; exact .top u
    | some b =>
      cases b with
      | row el k n ds =>
        obtain ⟨v, hv, xs, hown, hl, hr⟩ := H.blk id _ hb
        cases hc with
        | row _ _ h1 h2 =>
          have := h2 v hv
          subst this
          rcases hown.2 with ⟨h3, h4⟩ | ⟨g, cap, cur, h3, _, hg, hn, _, hs, ht⟩
          · subst h3 h4
            have hx := hown.1
            rw [Nat.zero_mul] at hx
            have : ds = [] := List.length_eq_zero_iff.1 (by omega)
            subst this
            simp only [lendV, hb]
            exact .d _ _ .nil
          · subst h3
            simp only [lendV, hb]
            refine .d _ _ (.sl ds n g 0 cap xs hn hl (fun _ => FreeB.all g) (fun i x hx => ?_) fun i c x h5 h6 => (hr i c x h5 h6).ext (fun _ _ _ => rfl) fun r _ _ => FreeB.all r)
            rw [← ht, List.getElem?_take] at hx
            split at hx
            · simp only [World.cell?, hg]
              simpa using hx
            · cases hx
      | _ => simp only [lendV, hb]; exact .top u
  | _ => exact other hc
theorem args_lend {Pm F : Nat → Prop} {w0 w : World} {pin ι : Nat → Option Value} {h : Heap} (H : HRel Pm F w0 pin ι h w) {cs : List AVal} {us : Array Value} (A : ArgsRel w F ι cs us) : ArgsRel w (fun _ => False) (fun _ => none) (cs.map (lendV h)) us :=
  ⟨by rw [List.length_map]; exact A.1, fun i c u h1 h2 => by
    rw [List.getElem?_map] at h1
    cases hc : cs[i]? with
    | none => rw [hc] at h1; cases h1
    | some c' => rw [hc] at h1; cases h1; exact lend_rel H (A.2 i c' u hc h2)⟩
section
variable {P : Program} {nt : Nat} {Q : Post} {e : Env} {h : Heap} {ops : Array Oper} {o : Oper} {rest : List Oper} {T : List Nat} {tab : TTab}
theorem E_callL {f : FuncId} {args : Array Operand} {ats : Array TypeId} {cs : List AVal} {d : Option Tmp} {c : AVal} {v : Value} (ho : o.op = .call { callee := .value (.func f), args := args, argTypes := ats }) (hdst : o.dst = d) (hx : aevs e args.toList = some cs)
    (H : ACall P f (cs.map (lendV h)) [] (fun c' h' => c' = c ∧ h' = [])) (hd : dstOk nt d = true) (hc : valA c = some v) (hrel : ∀ w F ι, VRel w F ι c v) : AEff P nt T e h o (fun e' h' => e' = aput d c e ∧ h' = h) := fun Pm F w0 pin ι a w R K Qx hK => by
  unfold Oper.wp
  rw [run_callA H.1 ho, Oper.upon_enter, hdst]
  refine (H.2 _ _ w _ _ _ w (HRel.none (fun _ => False) w (fun _ h => h.elim)) (args_lend R.heap (args_of R.env hx))).mono ?_
  rintro x w' ⟨u, c', h', ι', rfl, ⟨rfl, rfl⟩, hH, hv⟩
  have := valA_rel hv hc
  subst this
  have G := hH.grewC
  exact hK ι _ _ _ w' ⟨rfl, rfl⟩ ((R.grew G).put hd (hrel _ _ _)) ⟨G.ct T, fun id _ v r h1 h2 _ => ⟨v, h1, h2⟩⟩ (put_defers _ _ _)
theorem O_cL {f : FuncId} {args : Array Operand} {ats : Array TypeId} {cs : List AVal} {c : AVal} {v : Value} {d : Nat} (hw : awant ops e o = some true) (hdst : o.dst = some d) (hd : Nat.blt d nt = true) (ho : o.op = .call { callee := .value (.func f), args := args, argTypes := ats }) (hx : aevs e args.toList = some cs)
    (H : ACall P f (cs.map (lendV h)) [] (fun c' h' => c' = c ∧ h' = [])) (hc : valA c = some v) (hrel : ∀ w F ι, VRel w F ι c v) (HK : AOps P nt ops Q rest ((d, c) :: e) h) : AOps P nt ops Q (o :: rest) e h :=
  O_eff (T := []) hw (E_callL ho hdst hx H hd hc hrel) fun e' h' ⟨h1, h2⟩ => by subst h1 h2; exact HK
theorem O_cRow {f : FuncId} {args : Array Operand} {ats : Array TypeId} {cs : List AVal} {d id el k n : Nat} {ds : List Dat} (hw : awant ops e o = some true) (hdst : o.dst = some d) (hd : Nat.blt d nt = true) (ho : o.op = .call { callee := .value (.func f), args := args, argTypes := ats }) (hx : aevs e args.toList = some cs)
    (H : ACall P f cs [] (fun c' h' => c' = .row id ∧ h' = [(id, .row el k n ds)])) (hid : Nat.blt id 1000 = true) (HK : AOps P nt ops Q rest ((d, .row id) :: killEs [id] e) ((id, .row el k n ds) :: killHs [id] h)) : AOps P nt ops Q (o :: rest) e h :=
  O_eff (T := []) hw (E_callQ ho hdst hx H hd fun c' h' ⟨h1, h2⟩ => by
    subst h1 h2
    refine ⟨by simp [hid], fun j b i hb hh => ?_, fun j hj => ?_⟩
    · unfold look at hb
      cases hj : Nat.beq id j with
      | true => rw [hj] at hb; cases hb; simp [blkHas] at hh
      | false => rw [hj] at hb; cases hb
    · simp [AVal.has] at hj
      subst hj
      simp [look]) fun e' h' ⟨c, h2, ⟨h3, h4⟩, h5, h6⟩ => by subst h3 h4 h5 h6; exact HK
end
end Go.Proofs.YtenolkolkpfjgaaGreat.Ab

namespace Go.Proofs.YtenolkolkpfjgaaGreat.Ab
set_option linter.unusedVariables false
open Go.RowKit
def lendW (h : Heap) : AVal → AVal
  | .agg cs => .agg (cs.map (lendV h))
  | c => lendV h c
section
variable {P : Program} {nt : Nat} {Q : Post} {e : Env} {h : Heap} {ops : Array Oper} {o : Oper} {rest : List Oper} {T : List Nat} {tab : TTab}
end
end Go.Proofs.YtenolkolkpfjgaaGreat.Ab

/-
  Rules on maps, arrays and nil checks, fitted for unification.
-/
import Derived.Test.YtaecjmjdhbjbkaaAbsMap
namespace Go.Proofs.Ytaecjmjdhbjbkaa.Ab
set_option linter.unusedVariables false
open Go.RowKit

def tmap (tab : TTab) (t : Nat) : Option (Nat × Nat) := match tlook tab t with
  | some te => match te.sh with | .mp k e => some (k, e) | _ => none
  | none => none
def tarr (tab : TTab) (t : Nat) : Option (Nat × Nat) := match tlook tab t with
  | some te => match te.sh with | .ar n e => some (n, e) | _ => none
  | none => none
def tptr (tab : TTab) (t : Nat) : Option Nat := match tlook tab t with
  | some te => match te.sh with | .pt e => some e | _ => none
  | none => none
theorem tmap_spec {tab : TTab} {t k e : Nat} (h : tmap tab t = some (k, e)) : ∃ te, tlook tab t = some te ∧ te.sh = .mp k e := by
  unfold tmap at h
  cases ht : tlook tab t with
  | none => rw [ht] at h; cases h
  | some te =>
    rw [ht] at h
    refine ⟨te, rfl, ?_⟩
    dsimp only at h
    split at h
    · rename_i hs; cases h; exact hs
    · cases h
theorem tarr_spec {tab : TTab} {t k e : Nat} (h : tarr tab t = some (k, e)) : ∃ te, tlook tab t = some te ∧ te.sh = .ar k e := by
  unfold tarr at h
  cases ht : tlook tab t with
  | none => rw [ht] at h; cases h
  | some te =>
    rw [ht] at h
    refine ⟨te, rfl, ?_⟩
    dsimp only at h
    split at h
    · rename_i hs; cases h; exact hs
    · cases h
theorem tptr_spec {tab : TTab} {t e : Nat} (h : tptr tab t = some e) : ∃ te, tlook tab t = some te ∧ te.sh = .pt e := by
  unfold tptr at h
  cases ht : tlook tab t with
  | none => rw [ht] at h; cases h
  | some te =>
    rw [ht] at h
    refine ⟨te, rfl, ?_⟩
    dsimp only at h
    split at h
    · rename_i hs; cases h; exact hs
    · cases h

section
variable {P : Program} {nt : Nat} {Q : Post} {e : Env} {h : Heap} {o : Oper} {ops : Array Oper} {rest : List Oper} {T : List Nat} {tab : TTab}
theorem R_pnil {op : BinOp} {t u el id o1 : Nat} {x : Operand} {r : Bool} (TO : TabOk P tab) (ho : o.op = .binOp op t x (.const (.pointer none)) u) (ht : tptr tab t = some el) (hx : aev e x = some (.ptr id o1)) (hb : (look h id).isSome = true) (hr : (match op with | .eql => some false | .neq => some true | _ => none) = some r) :
    AYield P T e h o (.d (.sc (.bool r))) := by
  obtain ⟨te, h1, h2⟩ := tptr_spec ht
  exact Y_ptr_nil TO ho h1 h2 hx hb hr
theorem R_ixp {t el n k id o1 j : Nat} {x y : Operand} {q : IntKind} {i : Int} (TO : TabOk P tab) (ho : o.op = .indexAddr t x y) (ht : tarr tab t = some (n, el)) (hsz : tsize tab el = some k) (hx : aev e x = some (.ptr id o1)) (hb : (look h id).isSome = true) (hy : aev e y = some (.d (.sc (.int q i)))) (hi : i = (j : Int)) (hj : j < n) :
    AYield P T e h o (.ptr id (o1 + j * k)) := by
  obtain ⟨te, h1, h2⟩ := tarr_spec ht
  obtain ⟨te', h3, rfl⟩ := tsize_spec hsz
  exact Y_index_ptr TO ho h1 h2 h3 hx hb hy hi hj
theorem R_ixa {t el n j : Nat} {x y : Operand} {cs : List AVal} {c : AVal} {q : IntKind} {i : Int} (TO : TabOk P tab) (ho : o.op = .index t x y) (ht : tarr tab t = some (n, el)) (hsz : tsize tab el = some 1) (hag : tagg tab el = some false) (hx : aev e x = some (.agg cs)) (hy : aev e y = some (.d (.sc (.int q i)))) (hi : i = (j : Int)) (hj : j < n) (hc : cs[j]? = some c) :
    AYield P T e h o c := by
  obtain ⟨te, h1, h2⟩ := tarr_spec ht
  obtain ⟨te', h3, h4⟩ := tsize_spec hsz
  obtain ⟨te2, h5, h6⟩ := tagg_spec hag
  rw [h3] at h5
  cases h5
  exact Y_index_arr TO ho h1 h2 h3 h6 h4 hx hy hi hj hc
theorem R_lenm {t K E id : Nat} {x : Operand} {es : List (AVal × AVal)} (TO : TabOk P tab) (ho : o.op = .call { callee := .builtin .len, args := #[x], argTypes := #[t] }) (ht : tmap tab t = some (K, E)) (hx : aev e x = some (.mp id)) (hb : look h id = some (.map es)) (hT : T.contains id = false) :
    AYield P T e h o (.d (.sc (.int .i64 (es.length : Int)))) := by
  obtain ⟨te, h1, h2⟩ := tmap_spec ht
  exact Y_len_map (κ := Nat) TO ho h1 h2 hx hb hT
variable {κ ν : Type} [DecidableEq κ] {ek : κ → Value} {ok : κ → Prop} {ka : κ → AVal} {xa : ν → AVal}
theorem R_lkIn {t K E id : Nat} {x y : Operand} {k : κ} {l : List (κ × ν)} {z : ν} {zv : Value} (law : KeyLaw P K ek ok) (hka : ∀ k, valA (ka k) = some (ek k)) (hz : ∀ W, (zeroValue E).run P W = .ok zv W) (hk : ok k) (hl : ∀ p ∈ l, ok p.1) (hn : (l.map (·.1)).Nodup) (hg : aget l k = some z)
    (TO : TabOk P tab) (ho : o.op = .lookup t x y true) (ht : tmap tab t = some (K, E)) (hx : aev e x = some (.mp id)) (hb : look h id = some (.map (ents ka xa l))) (hT : T.contains id = false) (hy : aev e y = some (ka k)) : AYield P T e h o (.tup [xa z, .d (.sc (.bool true))]) := by
  obtain ⟨te, h1, h2⟩ := tmap_spec ht
  exact Y_lookup_in TO law hka ho h1 h2 hx hb hT hy hk hl hn hg hz
theorem R_lkOut {t K E id : Nat} {x y : Operand} {k : κ} {l : List (κ × ν)} {zv : Value} (law : KeyLaw P K ek ok) (hka : ∀ k, valA (ka k) = some (ek k)) (hz : ∀ W, (zeroValue E).run P W = .ok zv W) (hz1 : zv.oneCell' = true) (hk : ok k) (hl : ∀ p ∈ l, ok p.1) (hn : (l.map (·.1)).Nodup) (hg : aget l k = none)
    (TO : TabOk P tab) (ho : o.op = .lookup t x y true) (ht : tmap tab t = some (K, E)) (hx : aev e x = some (.mp id)) (hb : look h id = some (.map (ents ka xa l))) (hT : T.contains id = false) (hy : aev e y = some (ka k)) : AYield P T e h o (.tup [.d (.sc zv), .d (.sc (.bool false))]) := by
  obtain ⟨te, h1, h2⟩ := tmap_spec ht
  exact Y_lookup_out TO law hka ho h1 h2 hx hb hT hy hk hl hn hg hz hz1
theorem R_lk1 {t K E id : Nat} {x y : Operand} {k : κ} {l : List (κ × ν)} {z : ν} {zv : Value} (law : KeyLaw P K ek ok) (hka : ∀ k, valA (ka k) = some (ek k)) (hz : ∀ W, (zeroValue E).run P W = .ok zv W) (hk : ok k) (hl : ∀ p ∈ l, ok p.1) (hn : (l.map (·.1)).Nodup) (hg : aget l k = some z)
    (TO : TabOk P tab) (ho : o.op = .lookup t x y false) (ht : tmap tab t = some (K, E)) (hx : aev e x = some (.mp id)) (hb : look h id = some (.map (ents ka xa l))) (hT : T.contains id = false) (hy : aev e y = some (ka k)) : AYield P T e h o (xa z) := by
  obtain ⟨te, h1, h2⟩ := tmap_spec ht
  exact Y_lookup1 TO law hka ho h1 h2 hx hb hT hy hk hl hn hg hz
/-- 'm[k] = z', at its turn in a region that draws. -/
theorem T_upd {fuel i : Nat} {listed : Array Bool} {t K E id : Nat} {x y z : Operand} {k : κ} {l : List (κ × ν)} {q : ν} (law : KeyLaw P K ek ok) (hka : ∀ k, valA (ka k) = some (ek k)) (hkv : ∀ k w F ι, VRel w F ι (ka k) (ek k)) (hk : ok k) (hl : ∀ p ∈ l, ok p.1) (hn : (l.map (·.1)).Nodup)
    (TO : TabOk P tab) (hi : ops[i]? = some o) (hw : awant ops e o = some true) (hdst : o.dst = none) (ho : o.op = .mapUpdate t x y z) (ht : tmap tab t = some (K, E)) (hx : aev e x = some (.mp id)) (hb : look h id = some (.map (ents ka xa l))) (hT : T.contains id = true) (hy : aev e y = some (ka k)) (hq : aev e z = some (xa q))
    (H : AAny P nt ops Q T fuel (listed.setIfInBounds i true) e ((id, .map (ents ka xa (Go.Proofs.Ytaecjmjdhbjbkaa.aput l k q))) :: h)) : AAt P nt ops Q T fuel listed i e h := by
  obtain ⟨te, h1, h2⟩ := tmap_spec ht
  exact T_eff hi hw (E_mapUpdate TO law hka hkv ho hdst h1 h2 hx hb hy hq hk hl hn rfl hT) fun e' h' ⟨h3, h4⟩ => by subst h3 h4; exact H
theorem T_del {fuel i : Nat} {listed : Array Bool} {t tk K E id : Nat} {x y : Operand} {k : κ} {l : List (κ × ν)} (law : KeyLaw P K ek ok) (hka : ∀ k, valA (ka k) = some (ek k)) (hkv : ∀ k w F ι, VRel w F ι (ka k) (ek k)) (hk : ok k) (hl : ∀ p ∈ l, ok p.1) (hn : (l.map (·.1)).Nodup)
    (TO : TabOk P tab) (hi : ops[i]? = some o) (hw : awant ops e o = some true) (hdst : o.dst = none) (ho : o.op = .call { callee := .builtin .delete, args := #[x, y], argTypes := #[t, tk] }) (ht : tmap tab t = some (K, E)) (hx : aev e x = some (.mp id)) (hb : look h id = some (.map (ents ka xa l))) (hT : T.contains id = true) (hy : aev e y = some (ka k))
    (H : AAny P nt ops Q T fuel (listed.setIfInBounds i true) e ((id, .map (ents ka xa (Go.Proofs.Ytaecjmjdhbjbkaa.adel l k))) :: h)) : AAt P nt ops Q T fuel listed i e h := by
  obtain ⟨te, h1, h2⟩ := tmap_spec ht
  exact T_eff hi hw (E_delete (d := none) TO law hka hkv ho hdst h1 h2 hx hb hy hk hl hn hT) fun e' h' ⟨h3, h4⟩ => by subst h3 h4; exact H
theorem T_storeS {fuel i : Nat} {listed : Array Bool} {t : TypeId} {x y : Operand} {id off s : Nat} {cs xs : List AVal} {c : AVal} (TO : TabOk P tab) (hi : ops[i]? = some o) (hw : awant ops e o = some true) (hdst : o.dst = none) (ho : o.op = .store t x y) (hx : aev e x = some (.ptr id off)) (hb : look h id = some (.var cs))
    (hy : aev e y = some c) (hcs : cellsA c = some xs) (hp : xs.all plainC = true) (hs : tsize tab t = some s) (hl : Nat.beq xs.length s = true) (hT : T.contains id = true) (hle : off + s ≤ cs.length)
    (H : AAny P nt ops Q T fuel (listed.setIfInBounds i true) e ((id, .var (setW cs off xs)) :: h)) : AAt P nt ops Q T fuel listed i e h := by
  obtain ⟨te, h1, h2⟩ := tsize_spec hs
  subst h2
  exact T_eff hi hw (E_store_ptr TO ho hdst h1 hx hb hy hcs hp hl (Nat.ble_eq_true_of_le hle) rfl rfl hT) fun e' h' ⟨h1, h2⟩ => by subst h1 h2; exact H
theorem O_makeMap {t d : Nat} (id : Nat) (hw : awant ops e o = some true) (hdst : o.dst = some d) (hd : Nat.blt d nt = true) (hid : Nat.blt id 1000 = true) (ho : o.op = .makeMap t none) (HK : AOps P nt ops Q rest ((d, .mp id) :: killE id e) ((id, .map []) :: killH id h)) : AOps P nt ops Q (o :: rest) e h :=
  O_eff (T := []) hw (E_makeMap ho hdst hid hd) fun e' h' ⟨h1, h2⟩ => by subst h1 h2; exact HK
/-- 'new' of a value, under a name of our choice. -/
theorem O_boxN {t : TypeId} {x : Operand} {d : Nat} {c : AVal} {cs : List AVal} (id : Nat) (hw : awant ops e o = some true) (hdst : o.dst = some d) (hd : Nat.blt d nt = true) (hid : Nat.blt id 1000 = true) (ho : o.op = .box t x) (hx : aev e x = some c) (hcs : cellsA c = some cs)
    (HK : AOps P nt ops Q rest ((d, .ptr id 0) :: killE id e) ((id, .var (cs.map (killV id))) :: killH id h)) : AOps P nt ops Q (o :: rest) e h :=
  O_eff (T := []) hw (E_box ho hdst hx hcs hid hd) fun e' h' ⟨h1, h2⟩ => by subst h1 h2; exact HK
/-- A call that gets blocks of ours. -/
theorem O_cP {f : FuncId} {args : Array Operand} {ats : Array TypeId} {cs0 cs : List AVal} {h0 h1 : Heap} {c : AVal} {d : Nat} (ρ : List (Nat × Nat)) (hinj : ∀ p p' i, look ρ p = some i → look ρ p' = some i → p = p') (hdom : ∀ p i, look ρ p = some i → 1000 ≤ p ∧ (look h0 p).isSome = true ∧ (look h1 p).isSome = true)
    (H : ACall P f cs h0 (fun c' h' => c' = c ∧ h' = h1)) (hok : ∀ c ∈ cs, okV ρ c = true) (hl : Lent ρ h h0) (hw : awant ops e o = some true) (hdst : o.dst = some d) (hd : Nat.blt d nt = true) (ho : o.op = .call { callee := .value (.func f), args := args, argTypes := ats }) (hx : aevs e args.toList = some cs0)
    (hcs : cs.map (renV ρ) = cs0) (HK : AOps P nt ops Q rest ((d, renV ρ c) :: e) (renH ρ h1 ++ h)) : AOps P nt ops Q (o :: rest) e h :=
  O_eff (T := ρ.map (·.2)) hw (E_callP ρ ho hdst hx hcs hok hl (fun p i hp => ⟨(hdom p i hp).1, (hdom p i hp).2.1⟩) hinj H hd (fun p i hp => by
    have : ∀ (ρ : List (Nat × Nat)), look ρ p = some i → i ∈ ρ.map (·.2) := by
      intro ρ
      induction ρ with
      | nil => intro h; cases h
      | cons q r ih =>
        obtain ⟨a, b⟩ := q
        intro h
        by_cases ha : a = p
        · subst ha; rw [look_cons_same] at h; cases h; simp
        · rw [look_cons_ne _ _ ha] at h; have := ih h; simp at this ⊢; exact .inr this
    exact List.contains_iff_mem.2 (this ρ hp)) (fun c' h' ⟨h3, h4⟩ p i hp => by subst h4; exact (hdom p i hp).2.2)) fun e' h' ⟨c', h2, ⟨h3, h4⟩, h5, h6⟩ => by subst h3 h4 h5 h6; exact HK
end
end Go.Proofs.Ytaecjmjdhbjbkaa.Ab

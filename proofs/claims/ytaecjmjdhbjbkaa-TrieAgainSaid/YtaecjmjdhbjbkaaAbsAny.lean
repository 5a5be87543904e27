/-
  Over abstract states: a region that draws its order and does more than read.
-/
import Derived.Test.YtaecjmjdhbjbkaaAbsRules
namespace Go.Proofs.Ytaecjmjdhbjbkaa.Ab
set_option linter.unusedVariables false
open Go.RowKit

/-- Off its end alone. -/
def onlyN (Q : Exit → Act → World → Prop) : Exit → Act → World → Prop := fun x a w => x = .normal ∧ Q x a w
/-- Whatever order is picked from here on. T: the blocks of before that the region writes. -/
def AAny (P : Program) (nt : Nat) (ops : Array Oper) (Q : Post) (T : List Nat) (fuel : Nat) (listed : Array Bool) (e : Env) (h : Heap) : Prop :=
  ∀ Pm F w0 pin ι a w, Rel Pm F w0 pin ι nt e h a w → wpAnyH P .any ops (onlyN (real Pm F w0 pin nt Q)) (CT T ι w) fuel listed a w
/-- Number i comes up. -/
def AAt (P : Program) (nt : Nat) (ops : Array Oper) (Q : Post) (T : List Nat) (fuel : Nat) (listed : Array Bool) (i : Nat) (e : Env) (h : Heap) : Prop :=
  ∀ Pm F w0 pin ι a w, Rel Pm F w0 pin ι nt e h a w → wpOp P ops (onlyN (real Pm F w0 pin nt Q)) i (fun a' w' => CT T ι w w' ∧ wpAnyH P .any ops (onlyN (real Pm F w0 pin nt Q)) (CT T ι w) fuel (listed.setIfInBounds i true) a' w') a w
/-- No way of the post is a panic's. -/
def memOp : Op → Bool
  | .load _ _ => true
  | .lookup _ _ _ _ => true
  | .call _ => true
  | _ => false
def NoPanic (Q : Post) : Prop := ∀ ch e h, ¬ Q (.panic ch) e h
theorem np_then {K : Env → Heap → Prop} {Q : Post} (h : NoPanic Q) : NoPanic (AThen K Q) := fun ch e h' hq => h ch e h' hq
theorem np_in {j : Nat} {Q : Post} (h : NoPanic Q) : NoPanic (AIn j Q) := fun ch e h' hq => h ch e h' hq
theorem np_post {nt : Nat} {tab : TTab} {rs : List ResultVar} {R : AVal → Heap → Prop} : NoPanic (APost nt tab rs R) := fun _ _ _ h => h
section
variable {P : Program} {nt : Nat} {Q : Post} {e : Env} {h : Heap} {ops : Array Oper} {T : List Nat} {fuel i : Nat} {listed : Array Bool} {o : Oper}
theorem wpAnyH_mono {S S' : World → Prop} {Q' : Exit → Act → World → Prop} (hS : ∀ w, S w → S' w) : ∀ (fuel : Nat) (listed : Array Bool) (a : Act) (w : World), wpAnyH P .any ops Q' S fuel listed a w → wpAnyH P .any ops Q' S' fuel listed a w
  | 0, _, _, _, h => h
  | fuel + 1, _, _, _, h => ⟨h.1, fun i hi => wpOp_mono (fun a' w' h' => ⟨hS _ h'.1, wpAnyH_mono hS fuel _ a' w' h'.2⟩) (h.2 i hi)⟩
theorem real_panic {Pm F : Nat → Prop} {w0 w : World} {pin : Nat → Option Value} {a : Act} {ch : List PanicEntry} {Q : Post} (hQ : NoPanic Q) : ¬ onlyN (real Pm F w0 pin nt Q) (.panic ch) a w := fun h => by cases h.1
theorem N_begin {z : Bool} {id : Nat} {l : List Oper} (T : List Nat) (hm : P.follows .mixedOrders = true) (H : AAny P nt l.toArray Q T l.toArray.size (Array.replicate l.toArray.size false) e h) (hnd : l.all notDef = true := by rfl) : AWp z P nt (.region id l.toArray true) Q e h := fun lq Pm F w0 pin ι a w hz R =>
  wpIn_mono (wpIn_region_any hm (any_fq (Q := onlyN (real Pm F w0 pin nt Q)) (fun ⟨_, _, h, _⟩ => by cases h) hnd _ _ _ _ (wpAny_of_held _ _ _ _ (H Pm F w0 pin ι a _ (R.grew (Grew.drew w)))))) fun x a w h => h.2
theorem N_take {c : AVal} {d : Nat} (hi : ops[i]? = some o) (hs : Region.noSelect ops = true) (hf : Region.free .any ops listed i = true) (hr : (Region.ready .any ops listed).contains i = true) (hQ : NoPanic Q)
    (hw : awant ops e o = some true) (hdst : o.dst = some d) (hd : Nat.blt d nt = true) (hy : AYield P T e h o c) (H : AAny P nt ops Q T fuel (listed.setIfInBounds i true) ((d, c) :: e) h) : AAny P nt ops Q T (fuel + 1) listed e h := fun Pm F w0 pin ι a w R => by
  obtain ⟨v, hv, hrun⟩ := hy Pm F w0 pin ι a w R.heap R.env
  refine wpAnyH_take hi hs hf hr (fun ch a w hp => absurd hp (real_panic hQ)) (.inl ⟨awant_rel R.env hw, fun w' hw' => hrun w' hw'⟩) (CT.refl _ _ _) ?_
  have R' := R.put (d := some d) hd hv
  rw [hdst]
  exact H Pm F w0 pin ι _ w R'
/-- .. an operation that asks nothing of the memory; one that does. -/
theorem N_takeN {c : AVal} {d : Nat} (hi : ops[i]? = some o) (hk : memOp o.op = false) (hs : Region.noSelect ops = true) (hf : Region.free .any ops listed i = true) (hr : (Region.ready .any ops listed).contains i = true) (hQ : NoPanic Q)
    (hw : awant ops e o = some true) (hdst : o.dst = some d) (hd : Nat.blt d nt = true) (hy : AYield P T e h o c) (H : AAny P nt ops Q T fuel (listed.setIfInBounds i true) ((d, c) :: e) h) : AAny P nt ops Q T (fuel + 1) listed e h := N_take hi hs hf hr hQ hw hdst hd hy H
theorem N_takeL {c : AVal} {d : Nat} (hi : ops[i]? = some o) (hk : memOp o.op = true) (hs : Region.noSelect ops = true) (hf : Region.free .any ops listed i = true) (hr : (Region.ready .any ops listed).contains i = true) (hQ : NoPanic Q)
    (hw : awant ops e o = some true) (hdst : o.dst = some d) (hd : Nat.blt d nt = true) (hy : AYield P T e h o c) (H : AAny P nt ops Q T fuel (listed.setIfInBounds i true) ((d, c) :: e) h) : AAny P nt ops Q T (fuel + 1) listed e h := N_take hi hs hf hr hQ hw hdst hd hy H
theorem N_skip {d : Nat} (hi : ops[i]? = some o) (hs : Region.noSelect ops = true) (hf : Region.free .any ops listed i = true) (hr : (Region.ready .any ops listed).contains i = true) (hQ : NoPanic Q)
    (hw : awant ops e o = some false) (hdst : o.dst = some d) (hd : Nat.blt d nt = true) (H : AAny P nt ops Q T fuel (listed.setIfInBounds i true) ((d, .und) :: e) h) : AAny P nt ops Q T (fuel + 1) listed e h := fun Pm F w0 pin ι a w R => by
  refine wpAnyH_take hi hs hf hr (fun ch a w hp => absurd hp (real_panic hQ)) (.inr ⟨awant_rel R.env hw, rfl⟩) (CT.refl _ _ _) ?_
  have R' := R.put (d := some d) hd (.und (ι := ι) (w := w) (F := F))
  rw [hdst]
  exact H Pm F w0 pin ι _ w R'
theorem N_all {rs : List Nat} (hr : Region.ready .any ops listed = rs) (hne : rs.isEmpty = false) (H : ∀ i ∈ rs, AAt P nt ops Q T fuel listed i e h) : AAny P nt ops Q T (fuel + 1) listed e h := fun Pm F w0 pin ι a w R =>
  wpAnyH_all hr (by rintro rfl; cases hne) fun i hi => H i hi Pm F w0 pin ι a w R
theorem N_one {j : Nat} (hr : Region.ready .any ops listed = [j]) (H : AAt P nt ops Q T fuel listed j e h) : AAny P nt ops Q T (fuel + 1) listed e h :=
  N_all hr rfl fun i hi => by rw [List.mem_singleton.1 hi]; exact H
theorem N_two {j k : Nat} (hr : Region.ready .any ops listed = [j, k]) (H1 : AAt P nt ops Q T fuel listed j e h) (H2 : AAt P nt ops Q T fuel listed k e h) : AAny P nt ops Q T (fuel + 1) listed e h :=
  N_all hr rfl fun i hi => by
    rcases List.mem_cons.1 hi with rfl | hi
    · exact H1
    · rw [List.mem_singleton.1 hi]; exact H2
theorem N_done (hr : Region.ready .any ops listed = []) (H : Q .normal e h) : AAny P nt ops Q T fuel listed e h := fun Pm F w0 pin ι a w R => wpAnyH_done hr ⟨rfl, ι, e, h, H, R⟩ fuel
theorem T_eff {R : Env → Heap → Prop} (hi : ops[i]? = some o) (hw : awant ops e o = some true) (hy : AEff P nt T e h o R) (H : ∀ e' h', R e' h' → AAny P nt ops Q T fuel (listed.setIfInBounds i true) e' h') : AAt P nt ops Q T fuel listed i e h := fun Pm F w0 pin ι a w Rl => by
  unfold wpOp
  simp only [hi]
  rw [awant_rel Rl.env hw, if_pos rfl]
  left
  exact hy Pm F w0 pin ι a w Rl _ _ fun ι' e' h' a' w' hR hRel hC _ => ⟨hC.ct, wpAnyH_mono (fun w2 h2 => hC.trans h2) _ _ _ _ (H e' h' hR Pm F w0 pin ι' a' w' hRel)⟩
theorem T_yield {c : AVal} {d : Nat} (hi : ops[i]? = some o) (hw : awant ops e o = some true) (hdst : o.dst = some d) (hd : Nat.blt d nt = true) (hy : AYield P [] e h o c) (H : AAny P nt ops Q T fuel (listed.setIfInBounds i true) ((d, c) :: e) h) : AAt P nt ops Q T fuel listed i e h :=
  T_eff (R := fun e' h' => e' = (d, c) :: e ∧ h' = h) hi hw (fun Pm F w0 pin ι a w R K Qx hK => by
    obtain ⟨v, hv, hr⟩ := hy Pm F w0 pin ι a w R.heap R.env
    unfold Oper.wp
    rw [hr w (CT.refl _ _ _), Oper.upon_value, hdst]
    exact hK ι _ _ _ w ⟨rfl, rfl⟩ (R.put (d := some d) hd hv) ⟨CT.refl _ _ _, fun id _ v r h1 h2 _ => ⟨v, h1, h2⟩⟩ (put_defers _ _ _)) fun e' h' ⟨h1, h2⟩ => by subst h1 h2; exact H
theorem T_call {f : FuncId} {args : Array Operand} {ats : Array TypeId} {cs : List AVal} {c : AVal} {d : Nat} (hi : ops[i]? = some o) (hw : awant ops e o = some true) (hdst : o.dst = some d) (hd : Nat.blt d nt = true) (ho : o.op = .call { callee := .value (.func f), args := args, argTypes := ats }) (hx : aevs e args.toList = some cs)
    (HC : ACall P f cs [] (fun c' h' => c' = c ∧ h' = [])) (hc : ∀ j, c.has j = false) (H : AAny P nt ops Q T fuel (listed.setIfInBounds i true) ((d, c) :: e) h) : AAt P nt ops Q T fuel listed i e h :=
  T_eff hi hw (E_call0 ho hdst hx HC hd hc) fun e' h' ⟨h1, h2⟩ => by subst h1 h2; exact H
theorem T_alloc {t : TypeId} {d : Nat} {z : List AVal} {tab : TTab} (TO : TabOk P tab) (hi : ops[i]? = some o) (hw : awant ops e o = some true) (hdst : o.dst = some d) (hd : Nat.blt d nt = true) (hid : Nat.blt d 1000 = true) (ho : o.op = .alloc t) (hz : tzero tab t = some z)
    (H : AAny P nt ops Q T fuel (listed.setIfInBounds i true) ((d, .ptr d 0) :: killE d e) ((d, .var z) :: killH d h)) : AAt P nt ops Q T fuel listed i e h := by
  obtain ⟨te, h1, h2, rfl⟩ := tzero_spec hz
  exact T_eff hi hw (E_alloc TO ho hdst h1 hid hd h2) fun e' h' ⟨h1, h2⟩ => by subst h1 h2; exact H
theorem T_box {t : TypeId} {x : Operand} {d : Nat} {c : AVal} {cs : List AVal} (hi : ops[i]? = some o) (hw : awant ops e o = some true) (hdst : o.dst = some d) (hd : Nat.blt d nt = true) (hid : Nat.blt d 1000 = true) (ho : o.op = .box t x) (hx : aev e x = some c) (hcs : cellsA c = some cs)
    (H : AAny P nt ops Q T fuel (listed.setIfInBounds i true) ((d, .ptr d 0) :: killE d e) ((d, .var (cs.map (killV d))) :: killH d h)) : AAt P nt ops Q T fuel listed i e h :=
  T_eff hi hw (E_box ho hdst hx hcs hid hd) fun e' h' ⟨h1, h2⟩ => by subst h1 h2; exact H
theorem T_store {t : TypeId} {x y : Operand} {id off s : Nat} {cs xs : List AVal} {c : AVal} {tab : TTab} (TO : TabOk P tab) (hi : ops[i]? = some o) (hw : awant ops e o = some true) (hdst : o.dst = none) (ho : o.op = .store t x y) (hx : aev e x = some (.ptr id off)) (hb : look h id = some (.var cs))
    (hy : aev e y = some c) (hcs : cellsA c = some xs) (hp : xs.all plainC = true) (hs : tsize tab t = some s) (hl : Nat.beq xs.length s = true) (hle : Nat.ble (off + s) cs.length = true) (hT : T.contains id = true)
    (H : AAny P nt ops Q T fuel (listed.setIfInBounds i true) e ((id, .var (setW cs off xs)) :: h)) : AAt P nt ops Q T fuel listed i e h := by
  obtain ⟨te, h1, h2⟩ := tsize_spec hs
  subst h2
  exact T_eff hi hw (E_store_ptr TO ho hdst h1 hx hb hy hcs hp hl hle rfl rfl hT) fun e' h' ⟨h1, h2⟩ => by subst h1 h2; exact H
end
end Go.Proofs.Ytaecjmjdhbjbkaa.Ab

/-
  Over abstract states: the statement 'range over a function'; what is asked of the function.
-/
import Derived.Test.YtaecjmjdhbjbkaaAbsMore
import Derived.RangeFuncSeq
namespace Go.Proofs.Ytaecjmjdhbjbkaa.Ab
set_option linter.unusedVariables false
open Go.RowKit

/-! ### The function that is ranged over -/
/-- What a round leaves as it is. -/
structure Keep (O : Nat → Prop) (A B : World) : Prop where
  os : B.os = A.os
  tape : B.tape = A.tape
  output : B.output = A.output
  size : A.heap.size ≤ B.heap.size
  mem : ∀ r, r < A.heap.size → ¬ O r → B.heap[r]? = A.heap[r]?
/-- It yields those, one after the other, as long as it is let. O: the blocks that are not its own business. -/
def SeqW (P : Program) (f : FuncId) (us : Array Value) (W : World) (O : Nat → Prop) (vs : List (Array Value)) : Prop :=
  ∀ (l : Nat) (J : Nat → World → Prop) (Jx : World → Prop), (∀ i A B, J i A → Grew A B → J i B) → (∀ A B, Jx A → Grew A B → Jx B) →
    (∀ i v A, vs[i]? = some v → J i A → W.heap.size ≤ A.heap.size → ∃ fn tmps as bd, (Instr.yield l v).run P A = .ok (.round l fn tmps as bd) A ∧
      RoundIn (Fq none) 0 P l fn tmps as bd A fun x B => (x = .returned (.bool true) ∧ J (i + 1) B ∧ Keep O A B) ∨ (x = .returned (.bool false) ∧ Jx B ∧ Keep O A B)) →
    J 0 W → CallsIn (Fq none) 0 P f (#[.func (.yield l) #[] #[]] ++ us) W fun x B => (∃ v, x = .returned v) ∧ (J vs.length B ∨ Jx B)
def ASeq (P : Program) (f : FuncId) (caps : List AVal) (xs : List (List AVal)) : Prop := isGo P f = true ∧
  ∀ (O : Nat → Prop) (W : World) (us : Array Value), (∀ r, O r → r < W.heap.size) → ArgsRel W O (fun _ => none) caps us →
    ∃ vs : List (Array Value), vs.length = xs.length ∧ (∀ (i : Nat) (x : List AVal) (v : Array Value), xs[i]? = some x → vs[i]? = some v → ArgsRel W O (fun _ => none) x v) ∧ SeqW P f us W O vs

/-! Its own walk -/
def SegR (O : Nat → Prop) (A : World) (nt : Nat) (e : Env) (h : Heap) (a : Act) (w : World) : Prop := ∃ ι, Rel (fun r => A.heap.size ≤ r) O A (fun _ => none) ι nt e h a w ∧ a.defers = []
section
variable {P : Program} {nt : Nat} {O : Nat → Prop} {A w : World} {e : Env} {h : Heap} {a : Act} {ops : Array Oper} {o : Oper} {rest : List Oper} {Q : Exit → Act → World → Prop}
theorem SegR.grew (S : SegR O A nt e h a w) : Grew A w := by
  obtain ⟨ι, R, _⟩ := S
  exact ⟨R.heap.os, R.heap.tape, R.heap.output, R.heap.size, fun r hr => R.heap.keep r hr (by omega)⟩
/-- A new start: none of its blocks is needed any more. -/
theorem SegR.new (S : SegR O A nt e h a w) {e1 : Env} (he : Sub e1 e) : SegR O w nt e1 [] a w := by
  obtain ⟨ι, R, hd⟩ := S
  obtain ⟨ι', R'⟩ := Wk_sel (nt := nt) (h1 := []) he trivial _ _ _ _ _ _ _ R
  have hn : ∀ id v, ι' id ≠ some v := fun id v hv => by obtain ⟨b, hb⟩ := R'.heap.dom id v hv; cases hb
  refine ⟨ι', ⟨⟨(fun _ _ h => by cases h), fun id v hv => absurd hv (hn id v), fun i _ v _ _ _ hv => absurd hv (hn i v), fun i v _ hv => absurd hv (hn i v), rfl, rfl, rfl, Nat.le_refl _, fun _ _ _ => rfl, fun _ h => h, fun i v _ hv => absurd hv (hn i v), fun i v _ hv => absurd hv (hn i v), fun r hr => Nat.lt_of_lt_of_le (R'.heap.forb r hr) R'.heap.size⟩, R'.env, by rw [hd]; exact MkOk.nil, R'.size⟩, hd⟩
/-- .. behind a round. -/
theorem SegR.round (S : SegR O A nt e [] a w) {B : World} (K : Keep O w B) : SegR O B nt e [] a B := by
  obtain ⟨ι, R, hd⟩ := S
  have hn : ∀ id v, ι id ≠ some v := fun id v hv => by obtain ⟨b, hb⟩ := R.heap.dom id v hv; cases hb
  refine ⟨ι, ⟨⟨(fun _ _ h => by cases h), fun id v hv => absurd hv (hn id v), fun i _ v _ _ _ hv => absurd hv (hn i v), fun i v _ hv => absurd hv (hn i v), rfl, rfl, rfl, Nat.le_refl _, fun _ _ _ => rfl, fun _ h => h, fun i v _ hv => absurd hv (hn i v), fun i v _ hv => absurd hv (hn i v), fun r hr => Nat.lt_of_lt_of_le (Nat.lt_of_lt_of_le (R.heap.forb r hr) R.heap.size) K.size⟩, R.env.mono fun t c u _ hv => hv.ext ⟨fun r hr hf => K.mem r hr hf.1, fun _ _ hf => hf⟩ fun _ _ _ h => h, by rw [hd]; exact MkOk.nil, R.size⟩, hd⟩
theorem L_y {c : AVal} {d : Nat} (S : SegR O A nt e h a w) (hw : awant ops e o = some true) (hdst : o.dst = some d) (hd : Nat.blt d nt = true) (hnd : notDef o = true) (hy : AYield P [] e h o c)
    (H : ∀ a', SegR O A nt ((d, c) :: e) h a' w → wpListIn (Fq none) 0 P ops Q rest a' w) : wpListIn (Fq none) 0 P ops Q (o :: rest) a w := by
  obtain ⟨ι, R, hdf⟩ := S
  refine wpListIn_step fun K hK => ?_
  rw [awant_rel R.env hw, if_pos rfl]
  obtain ⟨v, hv, hr⟩ := hy _ _ _ _ _ _ _ R.heap R.env
  refine op_fq hnd ?_
  unfold Oper.wp
  rw [hr w (CT.refl _ _ _), Oper.upon_value, hdst]
  exact hK _ _ (H _ ⟨ι, R.put (d := some d) hd hv, by rw [put_defers]; exact hdf⟩)
theorem L_e {T : List Nat} {S' : Env → Heap → Prop} (S : SegR O A nt e h a w) (hw : awant ops e o = some true) (hnd : notDef o = true) (hy : AEff P nt T e h o S')
    (H : ∀ e' h' a' w', S' e' h' → SegR O A nt e' h' a' w' → wpListIn (Fq none) 0 P ops Q rest a' w') : wpListIn (Fq none) 0 P ops Q (o :: rest) a w := by
  obtain ⟨ι, R, hdf⟩ := S
  refine wpListIn_step fun K hK => ?_
  rw [awant_rel R.env hw, if_pos rfl]
  exact op_fq hnd (hy _ _ _ _ _ _ _ R K _ fun ι' e' h' a' w' hR hRel _ hd => hK _ _ (H e' h' a' w' hR ⟨ι', hRel, hd.trans hdf⟩))
theorem L_alloc {t : TypeId} {d : Nat} {z : List AVal} {tab : TTab} (S : SegR O A nt e h a w) (TO : TabOk P tab) (hw : awant ops e o = some true) (hdst : o.dst = some d) (hd : Nat.blt d nt = true) (hid : Nat.blt d 1000 = true) (ho : o.op = .alloc t) (hz : tzero tab t = some z)
    (H : ∀ a' w', SegR O A nt ((d, .ptr d 0) :: killE d e) ((d, .var z) :: killH d h) a' w' → wpListIn (Fq none) 0 P ops Q rest a' w') : wpListIn (Fq none) 0 P ops Q (o :: rest) a w := by
  obtain ⟨te, h1, h2, rfl⟩ := tzero_spec hz
  exact L_e (T := []) S hw (by unfold notDef; rw [ho]) (E_alloc TO ho hdst h1 hid hd h2) fun e' h' a' w' ⟨h1, h2⟩ S' => by subst h1 h2; exact H a' w' S'
theorem L_store {t : TypeId} {x y : Operand} {id off s : Nat} {cs xs : List AVal} {c : AVal} {tab : TTab} (S : SegR O A nt e h a w) (TO : TabOk P tab) (hw : awant ops e o = some true) (hdst : o.dst = none) (ho : o.op = .store t x y) (hx : aev e x = some (.ptr id off)) (hb : look h id = some (.var cs))
    (hy : aev e y = some c) (hcs : cellsA c = some xs) (hp : xs.all plainC = true) (hs : tsize tab t = some s) (hl : Nat.beq xs.length s = true) (hle : Nat.ble (off + s) cs.length = true)
    (H : ∀ a' w', SegR O A nt e ((id, .var (setW cs off xs)) :: h) a' w' → wpListIn (Fq none) 0 P ops Q rest a' w') : wpListIn (Fq none) 0 P ops Q (o :: rest) a w := by
  obtain ⟨te, h1, h2⟩ := tsize_spec hs
  subst h2
  exact L_e (T := [id]) S hw (by unfold notDef; rw [ho]) (E_store_ptr TO ho hdst h1 hx hb hy hcs hp hl hle rfl rfl (by simp)) fun e' h' a' w' ⟨h1, h2⟩ S' => by subst h1 h2; exact H a' w' S'
theorem SegR.val (S : SegR O A nt e h a w) {x : Operand} {c : AVal} {v : Value} (hx : aev e x = some c) (hv : valA c = some v) : a.eval x = v := by
  obtain ⟨ι, R, _⟩ := S
  exact valA_rel (aev_rel R.env hx) hv
theorem SegR.tmp (S : SegR O A nt e h a w) {t : Nat} {c : AVal} {v : Value} (hx : look e t = some c) (hv : valA c = some v) : a.tmps[t]? = some v := by
  obtain ⟨ι, R, _⟩ := S
  obtain ⟨u, hu, hvu⟩ := R.env t c hx
  rw [hu, valA_rel hvu hv]
theorem SegR.nodef (S : SegR O A nt e h a w) : a.defers = [] := by obtain ⟨ι, R, hd⟩ := S; exact hd
/-- Where the function begins. -/
theorem SegR.start {us : Array Value} {k : Nat} {cs : List AVal} (hO : ∀ r, O r → r < w.heap.size) (hus : ArgsRel w O (fun _ => none) cs us) (hn : nt ≤ us.size + k) : SegR O w nt (argsEnv cs) [] { tmps := us ++ Array.replicate k undef, defers := [] } w := by
  refine ⟨fun _ => none, ⟨HRel.none O w hO, fun t c ht => ?_, MkOk.nil, by simp; omega⟩, rfl⟩
  obtain ⟨_, h2⟩ := look_argsEnv cs 0 t c ht
  rw [Nat.sub_zero] at h2
  have hlt : t < us.size := by rw [hus.1]; exact (List.getElem?_eq_some_iff.1 h2).1
  refine ⟨us[t], ?_, hus.2 t c _ h2 (Array.getElem?_eq_getElem hlt)⟩
  show (us ++ _)[t]? = _
  rw [Array.getElem?_append_left hlt, Array.getElem?_eq_getElem hlt]
theorem ArgsRel.cons1 {F : Nat → Prop} {ι : Nat → Option Value} {c : AVal} {u : Value} {cs : List AVal} {us : Array Value} (h1 : VRel w F ι c u) (h : ArgsRel w F ι cs us) : ArgsRel w F ι (c :: cs) (#[u] ++ us) := by
  refine ⟨by simp [h.1]; omega, fun j c' u' h3 h4 => ?_⟩
  have h5 : (u :: us.toList)[j]? = some u' := by
    have : (#[u] ++ us).toList = u :: us.toList := by simp
    rw [← this, Array.getElem?_toList]; exact h4
  cases j with
  | zero => simp at h3 h5; subst h3 h5; exact h1
  | succ j => simp at h3 h5; exact h.2 j c' u' h3 (by simpa using h5)
/-- The number in a slot. -/
def tmpN (a : Act) (t : Nat) : Nat := match a.tmps[t]? with
  | some (.int _ i) => i.toNat
  | _ => 0
theorem SegR.num (S : SegR O A nt e h a w) {t : Nat} {k : Nat} (hx : look e t = some (.d (.sc (.int .i64 (k : Int))))) : tmpN a t = k := by
  unfold tmpN
  rw [S.tmp hx rfl]
  simp
/-- A function that hands back nothing, out of its body. -/
theorem seq_of {f : FuncId} {fn : Func} {c : Code} {us : Array Value} {R : World → Prop} (hf : P.funcs[f]? = some fn) (hb : fn.body = some c) (hr : fn.results.toList = [])
    (h : c.wpIn (Fq none) 0 P (fun x a' w' => (x = .normal ∨ x = .ret) ∧ a'.defers = [] ∧ R w') { tmps := us ++ Array.replicate (fn.ntmps - us.size) undef, defers := [] } w) : CallsIn (Fq none) 0 P f us w fun x B => (∃ v, x = .returned v) ∧ R B := by
  refine callsIn_of_wp_marks hf hb trivial (wpIn_mono h ?_)
  rintro x a' w' ⟨hx, hd, hR⟩
  have hres : (results fn a'.tmps).run P w' = .ok (.tuple #[]) w' := by
    have : fn.results = #[] := Array.toList_inj.1 hr
    simp [results, this]
  have fin : LeavesInM (Fq none) 0 P fn a'.tmps (fun x B => (∃ v, x = .returned v) ∧ R B) a'.defers .returning w' := by
    rw [hd]
    unfold LeavesInM LeavesIn
    exact ⟨_, hres, ⟨_, rfl⟩, hR⟩
  rcases hx with rfl | rfl
  · exact fin
  · exact fin
/-- It yields. -/
theorem L_round {x : Operand} {args : Array Operand} {ats : Array TypeId} {l d i : Nat} {v : Array Value} {J : Nat → World → Prop} {Jx : World → Prop} (hw : awant ops e o = some true) (hdst : o.dst = some d) (hd : Nat.blt d nt = true) (hop : o.op = .call { callee := .value x, args := args, argTypes := ats })
    (hx : aev e x = some (.d (.sc (.func (.yield l) #[] #[])))) (hv : args.map a.eval = v) (S : SegR O A nt e [] a w)
    (hY : ∃ fn tmps as bd, (Instr.yield l v).run P w = .ok (.round l fn tmps as bd) w ∧
      RoundIn (Fq none) 0 P l fn tmps as bd w fun x B => (x = .returned (.bool true) ∧ J (i + 1) B ∧ Keep O w B) ∨ (x = .returned (.bool false) ∧ Jx B ∧ Keep O w B))
    (HT : ∀ a' B, J (i + 1) B → w.heap.size ≤ B.heap.size → SegR O B nt ((d, .d (.sc (.bool true))) :: e) [] a' B → wpListIn (Fq none) 0 P ops Q rest a' B)
    (HF : ∀ a' B, Jx B → w.heap.size ≤ B.heap.size → SegR O B nt ((d, .d (.sc (.bool false))) :: e) [] a' B → wpListIn (Fq none) 0 P ops Q rest a' B) : wpListIn (Fq none) 0 P ops Q (o :: rest) a w := by
  have S0 := S
  obtain ⟨ι, R, hdf⟩ := S
  refine wpListIn_step fun K hK => ?_
  rw [awant_rel R.env hw, if_pos rfl]
  obtain ⟨fn, tmps, as, bd, hy, hR⟩ := hY
  have hvx := aev_rel R.env hx
  have hxe : a.eval x = .func (.yield l) #[] #[] := (sc_of hvx).1
  have hrun : (execOp a.eval o).run P w = .ok (.round l fn tmps as bd) w := by
    simp [execOp, hop, resolve, hxe, Deferred.ofValue, invoke, hv, hy, callFunc]
  refine ⟨fun _ _ => trivial, ?_⟩
  show o.uponIn (Fq none) 0 P a K Q ((o.semAt none a.eval).run P w)
  rw [Oper.semAt_none, hrun, Oper.uponIn_round]
  refine ⟨fq_depth, hR.mono ?_⟩
  have put : ∀ (b : Bool) (B : World), Keep O w B → SegR O B nt ((d, .d (.sc (.bool b))) :: e) [] (a.put o.dst (.bool b)) B := fun b B k => by
    obtain ⟨ι', R', hd'⟩ := S0.round k
    rw [hdst]
    exact ⟨ι', R'.put (d := some d) hd (.d _ _ (.sc _ rfl)), by rw [put_defers]; exact hd'⟩
  rintro y B (⟨rfl, hj, k⟩ | ⟨rfl, hj, k⟩)
  · exact hK _ _ (HT _ B hj k.size (put true B k))
  · exact hK _ _ (HF _ B hj k.size (put false B k))
end

/-! ### Blocks under other numbers -/
mutual
def shV : AVal → AVal
  | .ptr id off => .ptr (id + 1000) off
  | .eptr id off => .eptr (id + 1000) off
  | .row id => .row (id + 1000)
  | .mp id => .mp (id + 1000)
  | .srow id o n => .srow (id + 1000) o n
  | .full cs n => .full cs n
  | .agg cs => .agg (shL cs)
  | .tup cs => .tup (shL cs)
  | .fn f cs => .fn f (shL cs)
  | .top => .top
  | .und => .und
  | .d x => .d x
  | .iptr cs off => .iptr cs off
def shL : List AVal → List AVal
  | [] => []
  | c :: r => shV c :: shL r
end
theorem shL_get (cs : List AVal) (i : Nat) : (shL cs)[i]? = (cs[i]?).map shV := by
  induction cs generalizing i with
  | nil => rfl
  | cons c r ih =>
    rw [shL]
    cases i with
    | zero => rfl
    | succ i => simpa using ih i
theorem shL_len (cs : List AVal) : (shL cs).length = cs.length := by
  induction cs with
  | nil => rfl
  | cons c r ih => rw [shL]; simp [ih]
def shB : ABlk → ABlk
  | .var cs => .var (shL cs)
  | .row e k n cs => .row e k n cs
  | .map es => .map (es.map fun p => (shV p.1, shV p.2))
  | .mapx r bs clk es => .mapx r bs clk (es.map fun p => (shV p.1, shV p.2))
  | .it o => .it o
def shE : Env → Env
  | [] => []
  | (k, c) :: r => (k, shV c) :: shE r
def shH : Heap → Heap
  | [] => []
  | (k, b) :: r => (k + 1000, shB b) :: shH r
theorem look_shE (e : Env) (t : Nat) : look (shE e) t = (look e t).map shV := by
  induction e with
  | nil => rfl
  | cons p r ih =>
    show cond _ _ _ = Option.map _ (cond _ _ _)
    cases Nat.beq p.1 t
    · exact ih
    · rfl
theorem look_shH (h : Heap) (t : Nat) : look (shH h) (t + 1000) = (look h t).map shB := by
  induction h with
  | nil => rfl
  | cons p r ih =>
    by_cases hp : p.1 = t
    · have e1 : look (shH (p :: r)) (t + 1000) = some (shB p.2) := by rw [← hp]; exact look_cons_same _ _ _
      have e2 : look (p :: r) t = some p.2 := by rw [← hp]; exact look_cons_same _ _ _
      rw [e1, e2]; rfl
    · have e1 : look (shH (p :: r)) (t + 1000) = look (shH r) (t + 1000) := look_cons_ne _ _ (by omega)
      have e2 : look (p :: r) t = look r t := look_cons_ne _ _ hp
      rw [e1, e2]; exact ih
theorem look_shH_big (h : Heap) (t : Nat) {b : ABlk} (hl : look (shH h) t = some b) : 1000 ≤ t := by
  induction h with
  | nil => cases hl
  | cons p r ih =>
    by_cases hp : p.1 + 1000 = t
    · omega
    · have e1 : look (shH (p :: r)) t = look (shH r) t := look_cons_ne _ _ hp
      rw [e1] at hl; exact ih hl
def shI (ι : Nat → Option Value) : Nat → Option Value := fun j => if 1000 ≤ j then ι (j - 1000) else none
def unI (ι : Nat → Option Value) : Nat → Option Value := fun j => ι (j + 1000)
theorem shI_add (ι : Nat → Option Value) (j : Nat) : shI ι (j + 1000) = ι j := by unfold shI; rw [if_pos (by omega), Nat.add_sub_cancel]
theorem shI_some {ι : Nat → Option Value} {j : Nat} {v : Value} (h : shI ι j = some v) : 1000 ≤ j ∧ ι (j - 1000) = some v := by
  unfold shI at h
  split at h
  · exact ⟨by assumption, h⟩
  · cases h
section
variable {w : World} {F : Nat → Prop} {ι : Nat → Option Value}
theorem VRel.sh {c : AVal} {u : Value} (h : VRel w F ι c u) : VRel w F (shI ι) (shV c) u := by
  have hf : ∀ r, FreeB F ι r → FreeB F (shI ι) r := fun r hf => ⟨hf.1, fun id v hv => hf.2 _ v (shI_some hv).2⟩
  induction h with
  | top u => exact .top u
  | und => exact .und
  | d x u h => exact .d x u (h.imp hf)
  | agg cs C hl h ih =>
    refine .agg _ C (by rw [shL_len]; exact hl) fun i c u h1 h2 => ?_
    rw [shL_get] at h1
    cases h3 : cs[i]? with
    | none => simp [h3] at h1
    | some c0 => simp [h3] at h1; subst h1; exact ih i c0 u h3 h2
  | tup cs C hl h ih =>
    refine .tup _ C (by rw [shL_len]; exact hl) fun i c u h1 h2 => ?_
    rw [shL_get] at h1
    cases h3 : cs[i]? with
    | none => simp [h3] at h1
    | some c0 => simp [h3] at h1; subst h1; exact ih i c0 u h3 h2
  | ptr id off u h1 h => exact .ptr _ off u h1 fun v hv => h v (by rw [shI_add] at hv; exact hv)
  | eptr id off u h1 h => exact .eptr _ off u h1 fun v hv => h v (by rw [shI_add] at hv; exact hv)
  | iptr cs off b o vs hl hf' hc hr => exact .iptr cs off b o vs hl (fun hne => hf b (hf' hne)) hc fun i c u h1 h2 => (hr i c u h1 h2).imp hf
  | row id u h1 h => exact .row _ u h1 fun v hv => h v (by rw [shI_add] at hv; exact hv)
  | mp id u h1 h => exact .mp _ u h1 fun v hv => h v (by rw [shI_add] at hv; exact hv)
  | srow id off n u h1 h => exact .srow _ off n u h1 fun v hv => h v (by rw [shI_add] at hv; exact hv)
  | full cs n b h => exact .full cs n b (h.imp hf)
  | fn f cs C hl h ih =>
    refine .fn f _ C (by rw [shL_len]; exact hl) fun i c u h1 h2 => ?_
    rw [shL_get] at h1
    cases h3 : cs[i]? with
    | none => simp [h3] at h1
    | some c0 => simp [h3] at h1; subst h1; exact ih i c0 u h3 h2
theorem un_free {r : Nat} (hf : FreeB F ι r) : FreeB F (unI ι) r := ⟨hf.1, fun id v hv => hf.2 _ v hv⟩
theorem VRel.un : ∀ {c : AVal} {u : Value}, VRel w F ι (shV c) u → VRel w F (unI ι) c u := by
  intro c u h
  generalize hc : shV c = c' at h
  induction h generalizing c with
  | top u => cases c <;> simp [shV] at hc; exact .top u
  | und => cases c <;> simp [shV] at hc; exact .und
  | d x u h => cases c <;> simp [shV] at hc; subst hc; exact .d _ u (h.imp fun _ => un_free)
  | agg cs C hl h ih =>
    cases c <;> simp [shV] at hc
    subst hc
    refine .agg _ C (by rw [shL_len] at hl; exact hl) fun i c u h1 h2 => ih i (shV c) u (by rw [shL_get, h1]; rfl) h2 rfl
  | tup cs C hl h ih =>
    cases c <;> simp [shV] at hc
    subst hc
    refine .tup _ C (by rw [shL_len] at hl; exact hl) fun i c u h1 h2 => ih i (shV c) u (by rw [shL_get, h1]; rfl) h2 rfl
  | ptr id off u h1 h => cases c <;> simp [shV] at hc; obtain ⟨rfl, rfl⟩ := hc; exact .ptr _ _ u h1 h
  | eptr id off u h1 h => cases c <;> simp [shV] at hc; obtain ⟨rfl, rfl⟩ := hc; exact .eptr _ _ u h1 h
  | iptr cs off b o vs hl hf hcc hr =>
    cases c <;> simp [shV] at hc
    obtain ⟨rfl, rfl⟩ := hc
    exact .iptr _ _ b o vs hl (fun hne => un_free (hf hne)) hcc fun i c u h1 h2 => (hr i c u h1 h2).imp fun _ => un_free
  | row id u h1 h => cases c <;> simp [shV] at hc; subst hc; exact .row _ u h1 h
  | mp id u h1 h => cases c <;> simp [shV] at hc; subst hc; exact .mp _ u h1 h
  | srow id off n u h1 h => cases c <;> simp [shV] at hc; obtain ⟨rfl, rfl, rfl⟩ := hc; exact .srow _ _ _ u h1 h
  | full cs n b h => cases c <;> simp [shV] at hc; obtain ⟨rfl, rfl⟩ := hc; exact .full _ _ b (h.imp fun _ => un_free)
  | fn f cs C hl h ih =>
    cases c <;> simp [shV] at hc
    obtain ⟨rfl, rfl⟩ := hc
    refine .fn _ _ C (by rw [shL_len] at hl; exact hl) fun i c u h1 h2 => ih i (shV c) u (by rw [shL_get, h1]; rfl) h2 rfl
theorem BRel.sh {b : ABlk} {v : Value} (h : BRel w F ι b v) : BRel w F (shI ι) (shB b) v := by
  have hf : ∀ r, FreeB F ι r → FreeB F (shI ι) r := fun r hf => ⟨hf.1, fun id v hv => hf.2 _ v (shI_some hv).2⟩
  cases b with
  | var cs =>
    obtain ⟨r, C, T, rfl, hc, hl, h⟩ := h
    refine ⟨r, C, T, rfl, hc, by rw [shL_len]; exact hl, fun i c u h1 h2 => ?_⟩
    rw [shL_get] at h1
    cases h3 : cs[i]? with
    | none => simp [h3] at h1
    | some c0 => simp [h3] at h1; subst h1; exact (h i c0 u h3 h2).sh
  | row e k n cs =>
    obtain ⟨xs, hown, hl, h⟩ := h
    exact ⟨xs, hown, hl, fun i c u h1 h2 => (h i c u h1 h2).imp hf⟩
  | map es =>
    obtain ⟨r, E, clk, rfl, hc, hl, h, h3⟩ := h
    refine ⟨r, E, clk, rfl, hc, by simpa using hl, fun i p m h1 h2 => ?_, h3⟩
    rw [List.getElem?_map] at h1
    cases h4 : es[i]? with
    | none => simp [h4] at h1
    | some p0 => simp [h4] at h1; subst h1; exact ⟨(h i p0 m h4 h2).1.sh, (h i p0 m h4 h2).2.sh⟩
  | mapx r0 bs0 clk0 es =>
    obtain ⟨E, rfl, hc, hl, h, h3⟩ := h
    refine ⟨E, rfl, hc, by simpa using hl, fun i p m h1 h2 => ?_, h3⟩
    rw [List.getElem?_map] at h1
    cases h4 : es[i]? with
    | none => simp [h4] at h1
    | some p0 => simp [h4] at h1; subst h1; exact ⟨(h i p0 m h4 h2).1.sh, (h i p0 m h4 h2).2.sh⟩
  | it o => exact h
theorem BRel.un {b : ABlk} {v : Value} (h : BRel w F ι (shB b) v) : BRel w F (unI ι) b v := by
  cases b with
  | var cs =>
    obtain ⟨r, C, T, rfl, hc, hl, h⟩ := h
    exact ⟨r, C, T, rfl, hc, by rw [shL_len] at hl; exact hl, fun i c u h1 h2 => (h i (shV c) u (by rw [shL_get, h1]; rfl) h2).un⟩
  | row e k n cs =>
    obtain ⟨xs, hown, hl, h⟩ := h
    exact ⟨xs, hown, hl, fun i c u h1 h2 => (h i c u h1 h2).imp fun _ => un_free⟩
  | map es =>
    obtain ⟨r, E, clk, rfl, hc, hl, h, h3⟩ := h
    refine ⟨r, E, clk, rfl, hc, by simpa using hl, fun i p m h1 h2 => ?_, h3⟩
    have := h i (shV p.1, shV p.2) m (by rw [List.getElem?_map, h1]; rfl) h2
    exact ⟨this.1.un, this.2.un⟩
  | mapx r0 bs0 clk0 es =>
    obtain ⟨E, rfl, hc, hl, h, h3⟩ := h
    refine ⟨E, rfl, hc, by simpa using hl, fun i p m h1 h2 => ?_, h3⟩
    have := h i (shV p.1, shV p.2) m (by rw [List.getElem?_map, h1]; rfl) h2
    exact ⟨this.1.un, this.2.un⟩
  | it o => exact h
end

/-! ### The statement -/
def psEnv : List Nat → List AVal → Env
  | t :: ts, c :: cs => (t, c) :: psEnv ts cs
  | _, _ => []
/-- Data that names no block of one's own. -/
def datA (c : AVal) : Prop := ∀ id, c.has id = false
theorem psEnv_look : ∀ {ts : List Nat} {cs : List AVal} {t : Nat} {c : AVal}, look (psEnv ts cs) t = some c → ∃ j : Nat, ts[j]? = some t ∧ cs[j]? = some c ∧ ∀ k : Nat, k < j → ts[k]? ≠ some t
  | [], _, _, _, h => by cases h
  | _ :: _, [], _, _, h => by cases h
  | s :: ts, c0 :: cs, t, c, h => by
    by_cases hs : s = t
    · have e1 : look (psEnv (s :: ts) (c0 :: cs)) t = some c0 := by rw [← hs]; exact look_cons_same _ _ _
      rw [e1] at h; cases h
      exact ⟨0, by simp [hs], rfl, fun k hk => by omega⟩
    · have e1 : look (psEnv (s :: ts) (c0 :: cs)) t = look (psEnv ts cs) t := look_cons_ne _ _ hs
      rw [e1] at h
      obtain ⟨j, h1, h2, h3⟩ := psEnv_look h
      refine ⟨j + 1, by simpa using h1, by simpa using h2, fun k hk => ?_⟩
      cases k with
      | zero => simpa using hs
      | succ k => simpa using h3 k (by omega)
theorem psEnv_none : ∀ {ts : List Nat} {cs : List AVal} {t : Nat}, ts.length = cs.length → look (psEnv ts cs) t = none → t ∉ ts
  | [], _, _, _, _ => by simp
  | _ :: _, [], _, hl, _ => by simp at hl
  | s :: ts, c0 :: cs, t, hl, h => by
    by_cases hs : s = t
    · have e1 : look (psEnv (s :: ts) (c0 :: cs)) t = some c0 := by rw [← hs]; exact look_cons_same _ _ _
      rw [e1] at h; cases h
    · have e1 : look (psEnv (s :: ts) (c0 :: cs)) t = look (psEnv ts cs) t := look_cons_ne _ _ hs
      rw [e1] at h
      have := psEnv_none (by simpa using hl) h
      simp [this]; exact Ne.symm hs
/-- The temporaries of a round. -/
theorem fold_keep : ∀ (l : List (Nat × Value)) (T : Array Value) (t : Nat), (∀ p ∈ l, p.1 ≠ t) → (l.foldl (fun T p => T.setIfInBounds p.1 p.2) T)[t]? = T[t]?
  | [], _, _, _ => rfl
  | p :: l, T, t, h => by
    rw [List.foldl_cons, fold_keep l _ t (fun q hq => h q (by simp [hq])), Array.getElem?_setIfInBounds_ne (h p (by simp))]
theorem fold_size : ∀ (l : List (Nat × Value)) (T : Array Value), (l.foldl (fun T p => T.setIfInBounds p.1 p.2) T).size = T.size
  | [], _ => rfl
  | p :: l, T => by rw [List.foldl_cons, fold_size l]; simp
theorem fold_set : ∀ (ts : List Nat) (us : List Value) (T : Array Value) (j : Nat) (t : Nat) (u : Value), ts.Nodup → ts[j]? = some t → us[j]? = some u → t < T.size → ((ts.zip us).foldl (fun T p => T.setIfInBounds p.1 p.2) T)[t]? = some u
  | [], _, _, _, _, _, _, h, _, _ => by simp at h
  | _ :: _, [], _, _, _, _, _, _, h, _ => by simp at h
  | s :: ts, v :: us, T, 0, t, u, hn, h1, h2, hl => by
    simp at h1 h2
    subst h1 h2
    rw [List.zip_cons_cons, List.foldl_cons, fold_keep]
    · simp [hl]
    · intro p hp hps
      have := List.of_mem_zip hp
      rw [hps] at this
      exact (List.nodup_cons.1 hn).1 this.1
  | s :: ts, v :: us, T, j + 1, t, u, hn, h1, h2, hl => by
    rw [List.zip_cons_cons, List.foldl_cons]
    exact fold_set ts us _ j t u (List.nodup_cons.1 hn).2 (by simpa using h1) (by simpa using h2) (by simpa using hl)

/-- How a round may be left. -/
def RoundQ (nt : Nat) (Q : Post) (E : Env) (Hn : Heap) : Post := fun x e h => match x with
  | .normal => AWk nt e h [] (shH Hn)
  | .ret => ∃ Hx, AWk nt e h [] (shH Hx) ∧ Q .ret E Hx
  | .exit id => ∃ Hx, AWk nt e h [] (shH Hx) ∧ Q (.exit id) E Hx
  | .goto t => ∃ Hx, AWk nt e h [] (shH Hx) ∧ Q (.goto t) E Hx
  | _ => False
def psOk (nt : Nat) (ps : List Nat) : Bool := ps.all (fun t => Nat.blt t nt) && decide ps.Nodup
/-- The heap relation, of which the start is now. -/
theorem HRel.rebase {Pm F M : Nat → Prop} {w0 w w' : World} {pin ι : Nat → Option Value} {h : Heap} (H : HRel Pm F w0 pin ι h w) (hM : ∀ r, M r → ∀ o v, w.cell? ⟨r, o, Option.none⟩ ≠ some v) (hn : ∀ r, M r → FreeB F ι r)
    (hk : ∀ r, ¬ M r → w'.heap[r]? = w.heap[r]?) (k4 : w.heap.size ≤ w'.heap.size) {Pm' : Nat → Prop} (hp1 : ∀ r, w'.heap.size ≤ r → Pm' r) (hp2 : ∀ i v r, ι i = some v → blockOf v = some r → Pm' r) : HRel Pm' F w' pin ι h w' := by
  obtain ⟨hV, hD⟩ := ExtM.go (F := F) (ι := ι) hM hk
  refine ⟨fun id b hb => ?_, H.dom, H.inj, hp2, rfl, rfl, rfl, Nat.le_refl _, fun _ _ _ => rfl, hp1, H.pinned, H.nf, fun r hr => Nat.lt_of_lt_of_le (Nat.lt_of_lt_of_le (H.forb r hr) H.size) k4⟩
  obtain ⟨v, hv, hB⟩ := H.blk id b hb
  exact ⟨v, hv, hB.via hV hD fun r hr => hk r fun hm => (hn r hm).2 id v hv hr⟩
theorem look_app {α : Type} (a b : List (Nat × α)) (t : Nat) : look (a ++ b) t = (match look a t with | some c => some c | none => look b t) := by
  induction a with
  | nil => rfl
  | cons p r ih =>
    show cond _ _ _ = _
    rw [List.append_eq, ih]
    show _ = (match cond (Nat.beq p.1 t) (some p.2) (look r t) with | some c => some c | none => look b t)
    cases Nat.beq p.1 t <;> rfl
theorem loop_nocell {w : World} {l : Nat} {r : Loop} (h : w.heap[l]? = some (.loop r)) (q : Nat) (hq : q = l) (o : Nat) (v : Value) : w.cell? ⟨q, o, none⟩ ≠ some v := by
  subst hq
  intro hc
  simp [World.cell?, h] at hc
section
variable {P : Program} {nt : Nat} {Q : Post}
set_option maxHeartbeats 2000000 in
theorem A_rangeFunc {g : Operand} {ps : Array Tmp} {as bd : Code} {f : FuncId} {caps : List AVal} {xs : List (List AVal)} {E : Env} {H : Nat → Heap}
    (hg : aev E g = some (.fn f caps)) (hS : ASeq P f caps xs) (hcd : ∀ c ∈ caps, datA c) (hps : psOk nt ps.toList = true) (hx : ∀ x ∈ xs, x.length = ps.toList.length ∧ ∀ c ∈ x, datA c)
    (hround : ∀ i x, xs[i]? = some x → AWp false P nt as (AThen (fun e1 h1 => AWp false P nt bd (RoundQ nt Q E (H (i + 1))) e1 h1) (fun _ _ _ => False)) (psEnv ps.toList x ++ shE E) (shH (H i)))
    (hdone : Q .normal E (H xs.length)) : AWp true P nt (.rangeFunc g ps as bd) Q E (H 0) := fun lq Pm F w0 pin ι a w hz R => by
  have hlq := hz rfl
  subst hlq
  have hv := aev_rel R.env hg
  generalize hau : a.eval g = ug at hv
  cases hv with
  | fn _ _ C hl hh =>
  refine wpIn_rangeFunc fun fn hfn => ?_
  obtain ⟨rec, hrec⟩ : ∃ rec : LoopState → Option Code → Loop, rec = fun st pe => { state := st, pending := pe, fn, tmps := a.tmps, params := ps, assign := as, body := bd, defers := w.heap.size } := ⟨_, rfl⟩
  obtain ⟨l, hld⟩ : ∃ l, w.heap.size + 1 = l := ⟨_, rfl⟩
  obtain ⟨W1, hW1⟩ : ∃ W1, (w.alloc (.deferred (some []))).alloc (.loop (rec .ready none)) = W1 := ⟨_, rfl⟩
  have hs1 : W1.heap.size = w.heap.size + 2 := by rw [← hW1, World.size_alloc, World.size_alloc]
  have hL1 : W1.heap[l]? = some (.loop (rec .ready none)) := by
    rw [← hW1, ← hld]; have := World.alloc_heap_new (w.alloc (.deferred (some []))) (.loop (rec .ready none)); rwa [World.size_alloc] at this
  have hK1 : W1.heap[w.heap.size]? = some (.deferred (some [])) := by
    rw [← hW1]; exact (Below.heap_alloc _ _ _ (by simp)).trans (World.alloc_heap_new w _)
  have hkeep1 : ∀ q, q < w.heap.size → W1.heap[q]? = w.heap[q]? := fun q hq => by
    rw [← hW1]; exact (Below.heap_alloc _ _ _ (by rw [World.size_alloc]; omega)).trans (Below.heap_alloc _ _ _ hq)
  have hsame1 : W1.os = w.os ∧ W1.tape = w.tape ∧ W1.output = w.output := by rw [← hW1]; exact ⟨rfl, rfl, rfl⟩
  have hw0 := R.heap.size
  -- the blocks that are ours
  let own0 : Nat → Prop := fun r => ∃ id v, ι id = some v ∧ blockOf v = some r
  have hown : ∀ r, own0 r → r < w.heap.size := fun r ⟨id, v, h1, h2⟩ => R.heap.lt h1 h2
  let O : Nat → Prop := fun r => F r ∨ own0 r ∨ r = l
  let PmL : Nat → Prop := fun r => W1.heap.size ≤ r ∨ own0 r ∨ r = l
  have hF : ∀ r, F r → r < w.heap.size := fun r hr => Nat.lt_of_lt_of_le (R.heap.forb r hr) hw0
  have hO : ∀ r, O r → r < W1.heap.size := fun r hr => by
    rcases hr with h1 | h1 | h1
    · have := hF r h1; omega
    · have := hown r h1; omega
    · omega
  have hshfree : ∀ r, FreeB F ι r → FreeB F (shI ι) r := fun r hf => ⟨hf.1, fun id v hv => hf.2 _ v (shI_some hv).2⟩
  have hunfree : ∀ r, FreeB F (shI ι) r → ¬ own0 r := fun r hf ⟨id, v, h1, h2⟩ => hf.2 (id + 1000) v (by rw [shI_add]; exact h1) h2
  have H1 : HRel PmL F W1 (shI ι) (shI ι) (shH (H 0)) W1 := by
    have big : ∀ id v, shI ι id = some v → ∃ j, id = j + 1000 ∧ ι j = some v := fun id v hv => ⟨id - 1000, by have := (shI_some hv).1; omega, (shI_some hv).2⟩
    refine ⟨fun id b hb => ?_, fun id v hv => ?_, fun i j v v' r hij hi hj => ?_, fun i v r hi hr => ?_, rfl, rfl, rfl, Nat.le_refl _, fun _ _ _ => rfl, fun r hr => .inl hr, fun _ _ _ h => h, fun i v r hi hr => ?_, fun r hr => by have := hF r hr; omega⟩
    · have h1 := look_shH_big _ _ hb
      obtain ⟨j, rfl⟩ : ∃ j, id = j + 1000 := ⟨id - 1000, by omega⟩
      rw [look_shH] at hb
      cases h2 : look (H 0) j with
      | none => simp [h2] at hb
      | some b0 =>
        simp [h2] at hb
        subst hb
        obtain ⟨v, hv, hB⟩ := R.heap.blk j b0 h2
        exact ⟨v, by rw [shI_add]; exact hv, hB.sh.ext ⟨fun r hr _ => hkeep1 r hr, fun r _ hf => hf⟩ (fun _ _ h => h) fun r hr => hkeep1 r (R.heap.lt hv hr)⟩
    · obtain ⟨j, rfl, h1⟩ := big id v hv
      obtain ⟨b, hb⟩ := R.heap.dom j v h1
      exact ⟨shB b, by rw [look_shH, hb]; rfl⟩
    · obtain ⟨i', rfl, h1⟩ := big i v hi
      obtain ⟨j', rfl, h2⟩ := big j v' hj
      exact R.heap.inj i' j' v v' r (by omega) h1 h2
    · obtain ⟨i', rfl, h1⟩ := big i v hi
      exact .inr (.inl ⟨i', v, h1, hr⟩)
    · obtain ⟨i', rfl, h1⟩ := big i v hi
      exact R.heap.nf i' v r h1 hr
  let J : Nat → World → Prop := fun i B => (∃ ι', HRel PmL F W1 (shI ι) ι' (shH (H i)) B) ∧ B.heap[l]? = some (.loop (rec .ready none)) ∧ B.heap[w.heap.size]? = some (.deferred (some []))
  let Jx : World → Prop := fun B => ∃ c x Hx ι', ((c = .ret ∧ x = .ret) ∨ (∃ id, c = .exit id ∧ x = .exit id) ∨ ∃ t, c = .goto t ∧ x = .goto t) ∧ Q x E Hx ∧ HRel PmL F W1 (shI ι) ι' (shH Hx) B ∧ B.heap[l]? = some (.loop (rec .done (some c))) ∧ B.heap[w.heap.size]? = some (.deferred (some []))
  have gk : ∀ {A B : World} {r : Nat} {o : Obj}, Grew A B → A.heap[r]? = some o → B.heap[r]? = some o := fun G h => by rw [G.mem _ (Array.getElem?_eq_some_iff.1 h).1]; exact h
  have hargs : ArgsRel W1 O (fun _ => none) caps C := ⟨hl, fun i c u h1 h2 => (hh i c u h1 h2).extF ⟨fun r hr _ => hkeep1 r hr, fun r hr hf => ⟨fun ho => by
    rcases ho with h3 | ⟨id, v, h3, h4⟩ | h3
    · exact hf.1 h3
    · exact hf.2 id v h3 h4
    · omega, fun _ _ h => by cases h⟩⟩ fun _ _ _ h => by cases h⟩
  obtain ⟨vs, hvl, hvr, hseq⟩ := hS.2 O W1 C hO hargs
  -- behind the loop
  have fin2 : ∀ (Hn : Heap) (ι' : Nat → Option Value) (B : World) (r0 r1 : Loop), HRel PmL F W1 (shI ι) ι' (shH Hn) B → B.heap[l]? = some (.loop r0) → B.heap[w.heap.size]? = some (.deferred (some [])) →
      Rel Pm F w0 pin (unI ι') nt E Hn { a with defers := [{ target := .collected w.heap.size, args := #[] }] ++ a.defers } (B.putObj l (.loop r1)) := fun Hn ι' B r0 r1 HJ hrl hrD => by
    obtain ⟨B', hB'⟩ : ∃ B', B.putObj l (.loop r1) = B' := ⟨_, rfl⟩
    have hput : ∀ q, q ≠ l → B'.heap[q]? = B.heap[q]? := fun q hq => by rw [← hB']; exact World.putObj_heap_other (by omega)
    have hs' : B'.heap.size = B.heap.size := by rw [← hB']; simp
    have hsm : B'.os = B.os ∧ B'.tape = B.tape ∧ B'.output = B.output := by rw [← hB']; exact ⟨rfl, rfl, rfl⟩
    have hun : ∀ id v, unI ι' id = some v → ι id = some v := fun id v hv => by
      have := HJ.pinned (id + 1000) v (by omega) hv
      rwa [shI_add] at this
    have hsz := HJ.size
    have hmem : ∀ r, r < w.heap.size → ¬ own0 r → B'.heap[r]? = w.heap[r]? := fun r hr hn => by
      rw [hput r (by omega), HJ.keep r (by omega) (fun h => by rcases h with h | h | h; omega; exact hn h; omega), hkeep1 r hr]
    have he : Ext w F ι B' (unI ι') := ⟨fun r hr hf => hmem r hr fun ⟨id, v, h1, h2⟩ => hf.2 id v h1 h2, fun r _ hf => ⟨hf.1, fun id v hv => hf.2 id v (hun id v hv)⟩⟩
    have hnl : FreeB F ι' l := ⟨fun h => by have := hF l h; omega, fun id v hv hb => by
      obtain ⟨b, hbl⟩ := HJ.dom id v hv
      have h1 := HJ.pinned id v (look_shH_big _ _ hbl) hv
      have := hown l ⟨_, v, (shI_some h1).2, hb⟩
      omega⟩
    rw [hB']
    have hlaid : ∀ id b, look (shH Hn) id = some b → ∃ v, ι' id = some v ∧ BRel B' F ι' b v := fun id b hb => by
      obtain ⟨v, hv, hBr⟩ := HJ.blk id b hb
      obtain ⟨hV, hD⟩ := ExtM.go (F := F) (ι := ι') (w := B) (w' := B') (M := fun q => q = l) (fun q hq => loop_nocell hrl q hq) hput
      exact ⟨v, hv, hBr.via hV hD fun r hr => hput r fun hm => hnl.2 id v hv (by rw [← hm]; exact hr)⟩
    refine ⟨⟨fun id b hb => ?_, fun id v hv => ?_, fun i j v v' r hij hi hj => HJ.inj _ _ v v' r (by omega) hi hj, fun i v r hi hr => R.heap.pm i v r (hun i v hi) hr, hsm.1.trans (HJ.os.trans (hsame1.1.trans R.heap.os)), hsm.2.1.trans (HJ.tape.trans (hsame1.2.1.trans R.heap.tape)), hsm.2.2.trans (HJ.output.trans (hsame1.2.2.trans R.heap.output)), by omega, fun r hr hp => ?_, R.heap.fresh, fun id v h1 hv => R.heap.pinned id v h1 (hun id v hv), fun i v r hi hr => R.heap.nf i v r (hun i v hi) hr, R.heap.forb⟩, R.env.mono fun t c u _ hv => hv.ext he fun id v _ hv => hun id v hv, ?_, R.size⟩
    · obtain ⟨v, hv, hBr⟩ := hlaid (id + 1000) (shB b) (by rw [look_shH, hb]; rfl)
      exact ⟨v, hv, hBr.un⟩
    · obtain ⟨b, hb⟩ := HJ.dom (id + 1000) v hv
      rw [look_shH] at hb
      cases h1 : look Hn id with
      | none => simp [h1] at hb
      | some b0 => exact ⟨b0, rfl⟩
    · rw [hmem r (by omega) fun ⟨id, v, h1, h2⟩ => hp (R.heap.pm id v r h1 h2)]
      exact R.heap.keep r hr hp
    · have M := R.defers.ext he
      refine ⟨fun d hd => ?_, List.pairwise_cons.2 ⟨fun d hd => ?_, M.apart⟩⟩
      · rcases List.mem_cons.1 hd with rfl | hd
        · refine ⟨w.heap.size, rfl, R.heap.fresh _ hw0, by rw [hput _ (by omega)]; exact hrD, fun h => by have := hF _ h; omega, fun id v hv hb => ?_⟩
          have := hown _ ⟨id, v, hun id v hv, hb⟩
          omega
        · exact M.all d hd
      · obtain ⟨q, h1, _, h3, _⟩ := R.defers.all d hd
        rw [h1]
        intro h
        simp [markOf] at h
        have := (Array.getElem?_eq_some_iff.1 h3).1
        omega
  have hcall := hseq l J Jx (fun i A B ⟨⟨ι', h1⟩, h2, h3⟩ G => ⟨⟨ι', h1.grew G⟩, gk G h2, gk G h3⟩) (fun A B ⟨c, x, Hx, ι', h0, h1, h2, h3, h4⟩ G => ⟨c, x, Hx, ι', h0, h1, h2.grew G, gk G h3, gk G h4⟩) (fun i v A hvi hJ hsz => ?_) ⟨⟨_, H1⟩, hL1, hK1⟩
  · have hc2 := fq_calls hcall
    refine ⟨l, [{ target := .collected w.heap.size, args := #[] }], W1, { target := .fn (.func f) C, args := #[.func (.yield l) #[] #[]] }, W1, f, #[.func (.yield l) #[] #[]] ++ C, W1, ?_, ?_, fun _ _ => trivial, ?_, fq_depth, ?_⟩
    rotate_left 3
    refine calls_fq ?_
    refine hc2.mono ?_
    rotate_left 1
    · rw [← hW1, hrec, ← hld]; exact run_enterLoop_outer _ _ _ _ _
    · simp only [resolve, hau]
      simp [go_sem]
    · simp [invoke, run_isGo hS.1]
    · rintro x B ⟨⟨v, rfl⟩, hj | hj⟩
      · obtain ⟨⟨ι', HJ⟩, hrl, hrD⟩ := hj
        refine ⟨none, B.putObj l (.loop { rec .ready none with state := .exhausted }), ?_, unI ι', E, H vs.length, by rw [hvl]; exact hdone, fin2 _ ι' B _ _ HJ hrl hrD⟩
        have := run_endLoop (P := P) hrl (by rw [hrec]; simp)
        rw [this, hrec]
      · obtain ⟨c, x, Hx, ι', hc, hq, HJ, hrl, hrD⟩ := hj
        refine ⟨some c, B.putObj l (.loop { rec .done (some c) with state := .exhausted }), ?_, ?_⟩
        · have := run_endLoop (P := P) hrl (by rw [hrec]; simp)
          rw [this, hrec]
        · have hR := fin2 Hx ι' B _ { rec .done (some c) with state := .exhausted } HJ hrl hrD
          rcases hc with ⟨rfl, rfl⟩ | ⟨id, rfl, rfl⟩ | ⟨t, rfl, rfl⟩
          · exact wpIn_ret ⟨_, _, _, hq, hR⟩
          · exact wpIn_exit ⟨_, _, _, hq, hR⟩
          · exact wpIn_goto ⟨_, _, _, hq, hR⟩
  · -- one round
    obtain ⟨⟨ιi, HJ⟩, hrl, hrD⟩ := hJ
    have hlA : l < A.heap.size := (Array.getElem?_eq_some_iff.1 hrl).1
    have hil : i < xs.length := by rw [← hvl]; exact (List.getElem?_eq_some_iff.1 hvi).1
    obtain ⟨x, hxi⟩ : ∃ x, xs[i]? = some x := ⟨_, List.getElem?_eq_getElem hil⟩
    obtain ⟨hxl, hxd⟩ := hx x (List.mem_of_getElem? hxi)
    have hxv := hvr i x v hxi hvi
    have hvsz : v.size = ps.size := by rw [hxv.1, hxl]; simp
    simp only [psOk, Bool.and_eq_true, List.all_eq_true, decide_eq_true_eq] at hps
    have hbig : ∀ id u, ιi id = some u → shI ι id = some u := fun id u hu => by
      obtain ⟨b, hb⟩ := HJ.dom id u hu
      exact HJ.pinned id u (look_shH_big _ _ hb) hu
    have howni : ∀ id u r, ιi id = some u → blockOf u = some r → own0 r := fun id u r hu hr => ⟨_, u, (shI_some (hbig id u hu)).2, hr⟩
    have hT : ∀ c u, VRel w F (shI ι) c u → VRel A F ιi c u := fun c u h => h.ext ⟨fun r hr hf => by
      rw [HJ.keep r (by omega) (fun h => by rcases h with h | h | h; omega; exact hunfree r hf h; omega), hkeep1 r hr], fun r hr hf => ⟨hf.1, fun id u hu hb => hunfree r hf (howni id u r hu hb)⟩⟩ fun id u _ hu => hbig id u hu
    have hT2 : ∀ c u, datA c → VRel W1 O (fun _ => none) c u → VRel A F ιi c u := fun c u hd h => h.extF ⟨fun r hr hf => HJ.keep r hr fun h => by
      rcases h with h | h | h
      · omega
      · exact hf.1 (.inr (.inl h))
      · exact hf.1 (.inr (.inr h)), fun r hr hf => ⟨fun h => hf.1 (.inl h), fun id u hu hb => hf.1 (.inr (.inl (howni id u r hu hb)))⟩⟩ fun id u hh => by rw [hd id] at hh; cases hh
    let PmA : Nat → Prop := fun r => A.heap.size ≤ r ∨ ∃ id u, ιi id = some u ∧ blockOf u = some r
    have hPmA : ∀ r, r < A.heap.size → PmA r → own0 r := fun r hr h => by
      rcases h with h | ⟨id, u, h1, h2⟩
      · omega
      · exact howni id u r h1 h2
    have hA0 : HRel PmA F A (shI ι) ιi (shH (H i)) A := HJ.rebase (M := fun _ => False) (fun _ h => h.elim) (fun _ h => h.elim) (fun _ _ => rfl) (Nat.le_refl _) (fun r hr => .inl hr) fun i u r hi hr => .inr ⟨i, u, hi, hr⟩
    have hy := run_yield (P := P) (args := v) hrl (by rw [hrec]; exact hvsz)
    rw [hrec] at hy
    refine ⟨fn, _, as, bd, hy, roundIn_of_wpIn (n := 0) trivial ?_⟩
    obtain ⟨T', hT'⟩ : ∃ T', (ps.toList.zip v.toList).foldl (fun T p => T.setIfInBounds p.1 p.2) a.tmps = T' := ⟨_, rfl⟩
    have hfold : (ps.zip v).foldl (fun tmps (t, a) => tmps.setIfInBounds t a) a.tmps = T' := by
      rw [← Array.foldl_toList, Array.toList_zip]
      exact hT'
    dsimp only
    rw [hfold]
    have RA : Rel PmA F A (shI ι) ιi nt (psEnv ps.toList x ++ shE E) (shH (H i)) { tmps := T', defers := [] } A := by
      refine ⟨hA0, fun t c ht => ?_, MkOk.nil, ?_⟩
      · rw [look_app] at ht
        cases h1 : look (psEnv ps.toList x) t with
        | some c1 =>
          rw [h1] at ht
          cases ht
          obtain ⟨j, h2, h3, _⟩ := psEnv_look h1
          have hj : j < v.size := by rw [hxv.1]; exact (List.getElem?_eq_some_iff.1 h3).1
          have h4 : v.toList[j]? = some v[j] := by simp [hj]
          refine ⟨v[j], ?_, hT2 c _ (hxd c (List.mem_of_getElem? h3)) (hxv.2 j c _ h3 (Array.getElem?_eq_getElem hj))⟩
          rw [← hT']
          have := hps.1 t (List.mem_of_getElem? h2)
          exact fold_set _ _ _ j t _ hps.2 h2 h4 (Nat.lt_of_lt_of_le (by simp [Nat.blt] at this; omega) R.size)
        | none =>
          rw [h1] at ht
          have ht2 : look (shE E) t = some c := ht
          rw [look_shE] at ht2
          cases h2 : look E t with
          | none => simp [h2] at ht2
          | some c0 =>
            simp [h2] at ht2
            subst ht2
            obtain ⟨u, hu, hvu⟩ := R.env t c0 h2
            refine ⟨u, ?_, hT _ _ hvu.sh⟩
            rw [← hT', fold_keep]
            · exact hu
            · intro p hp hpt
              have h3 := (List.of_mem_zip hp).1
              rw [hpt] at h3
              exact psEnv_none hxl.symm h1 h3
      · show nt ≤ T'.size
        rw [← hT', fold_size]
        exact R.size
    refine wpIn_mono (hround i x hxi (some l) PmA F A (shI ι) ιi _ A (fun h => by cases h) RA) ?_
    rintro x1 a1 w1 ⟨ι1, e1, h1, q1, R1⟩
    cases x1 with
    | normal =>
      have hnl : ¬ PmA l := fun h => by have := hown l (hPmA l hlA h); omega
      have hnD : ¬ PmA w.heap.size := fun h => by have := hown _ (hPmA _ (by omega) h); omega
      have hl1 : w1.heap[l]? = some (.loop (rec .ready none)) := (R1.heap.keep l hlA hnl).trans hrl
      have hD1 : w1.heap[w.heap.size]? = some (.deferred (some [])) := (R1.heap.keep _ (by omega) hnD).trans hrD
      have hbr := run_beginRound (P := P) hl1 (by rw [hrec])
      obtain ⟨w2, hw2⟩ : ∃ w2, w1.putObj l (.loop { rec .ready none with state := .busy }) = w2 := ⟨_, rfl⟩
      rw [hw2] at hbr
      refine ⟨w2, hbr, ?_⟩
      have hput2 : ∀ q, q ≠ l → w2.heap[q]? = w1.heap[q]? := fun q hq => by rw [← hw2]; exact World.putObj_heap_other (by omega)
      have hs2 : w2.heap.size = w1.heap.size := by rw [← hw2]; simp
      have hsm2 : w2.os = w1.os ∧ w2.tape = w1.tape ∧ w2.output = w1.output := by rw [← hw2]; exact ⟨rfl, rfl, rfl⟩
      have hsz1 := R1.heap.size
      have hl2 : w2.heap[l]? = some (.loop { rec .ready none with state := .busy }) := by rw [← hw2]; exact World.putObj_heap_same (by omega)
      let Pm2 : Nat → Prop := fun r => w2.heap.size ≤ r ∨ (∃ id u, ι1 id = some u ∧ blockOf u = some r) ∨ markOf r ∈ a1.defers
      have hPm2 : ∀ r, r < A.heap.size → Pm2 r → own0 r := fun r hr h => by
        rcases h with h | ⟨id, u, h2, h3⟩ | h
        · omega
        · exact hPmA r hr (R1.heap.pm id u r h2 h3)
        · obtain ⟨q, h2, h3, _⟩ := R1.defers.all _ h
          have : q = r := by simp [markOf] at h2; exact h2.symm
          subst this
          exact hPmA q hr h3
      have hfl : FreeB F ι1 l := ⟨fun h => by have := hF l h; omega, fun id u hu hb => hnl (R1.heap.pm id u l hu hb)⟩
      have R2 : Rel Pm2 F w2 (shI ι) ι1 nt e1 h1 a1 w2 := by
        refine ⟨R1.heap.rebase (M := fun q => q = l) (fun q hq => loop_nocell hl1 q hq) (fun q hq => by rw [hq]; exact hfl) hput2 (by omega) (fun r hr => .inl hr) fun i u r hi hr => .inr (.inl ⟨i, u, hi, hr⟩), R1.env.mono fun _ c u _ hv => (ExtM.go (M := fun q => q = l) (fun q hq => loop_nocell hl1 q hq) hput2).1 c u hv, ⟨fun d hd => ?_, R1.defers.apart⟩, R1.size⟩
        obtain ⟨r, h2, h3, h4, h5⟩ := R1.defers.all d hd
        refine ⟨r, h2, .inr (.inr (by rw [← h2]; exact hd)), ?_, h5⟩
        rw [hput2 r (by rintro rfl; rw [hl1] at h4; cases h4)]
        exact h4
      refine wpIn_mono (q1 (some l) Pm2 F w2 (shI ι) ι1 a1 w2 (fun h => by cases h) R2) ?_
      rintro x3 a3 w3 ⟨ι3, e3, h3, q3, R3⟩
      have hn2l : ¬ Pm2 l := fun h => by have := hown l (hPm2 l hlA h); omega
      have hn2D : ¬ Pm2 w.heap.size := fun h => by have := hown _ (hPm2 _ (by omega) h); omega
      have hl3 : w3.heap[l]? = some (.loop { rec .ready none with state := .busy }) := (R3.heap.keep l (by omega) hn2l).trans hl2
      have hD3 : w3.heap[w.heap.size]? = some (.deferred (some [])) := by
        rw [R3.heap.keep _ (by omega) hn2D, hput2 _ (by omega)]; exact hD1
      have hsz3 := R3.heap.size
      have fin : ∀ (Hn : Heap) (r1 : Loop), AWk nt e3 h3 [] (shH Hn) → ∃ ι4, HRel PmL F W1 (shI ι) ι4 (shH Hn) (w3.putObj l (.loop r1)) ∧ (w3.putObj l (.loop r1)).heap[l]? = some (.loop r1) ∧ (w3.putObj l (.loop r1)).heap[w.heap.size]? = some (.deferred (some [])) ∧ Keep O A (w3.putObj l (.loop r1)) := fun Hn r1 hk => by
        obtain ⟨ι4, R4⟩ := hk _ _ _ _ _ _ _ R3
        obtain ⟨w4, hw4⟩ : ∃ w4, w3.putObj l (.loop r1) = w4 := ⟨_, rfl⟩
        rw [hw4]
        have hput4 : ∀ q, q ≠ l → w4.heap[q]? = w3.heap[q]? := fun q hq => by rw [← hw4]; exact World.putObj_heap_other (by omega)
        have hs4 : w4.heap.size = w3.heap.size := by rw [← hw4]; simp
        have hsm4 : w4.os = w3.os ∧ w4.tape = w3.tape ∧ w4.output = w3.output := by rw [← hw4]; exact ⟨rfl, rfl, rfl⟩
        have hf4 : FreeB F ι4 l := ⟨fun h => by have := hF l h; omega, fun id u hu hb => hn2l (R4.heap.pm id u l hu hb)⟩
        have HB := R4.heap.rebase (M := fun q => q = l) (w' := w4) (fun q hq => loop_nocell hl3 q hq) (fun q hq => by rw [hq]; exact hf4) hput4 (by omega) (Pm' := fun r => w4.heap.size ≤ r ∨ ∃ id u, ι4 id = some u ∧ blockOf u = some r) (fun r hr => .inl hr) fun i u r hi hr => .inr ⟨i, u, hi, hr⟩
        have hchain : ∀ r, r < A.heap.size → ¬ own0 r → r ≠ l → w4.heap[r]? = A.heap[r]? := fun r hr hn hne => by
          rw [hput4 r hne, R3.heap.keep r (by omega) (fun h => hn (hPm2 r hr h)), hput2 r hne, R1.heap.keep r hr fun h => hn (hPmA r hr h)]
        have hos : w4.os = A.os := hsm4.1.trans (R3.heap.os.trans (hsm2.1.trans R1.heap.os))
        have hta : w4.tape = A.tape := hsm4.2.1.trans (R3.heap.tape.trans (hsm2.2.1.trans R1.heap.tape))
        have hou : w4.output = A.output := hsm4.2.2.trans (R3.heap.output.trans (hsm2.2.2.trans R1.heap.output))
        refine ⟨ι4, ⟨HB.blk, HB.dom, HB.inj, fun id u r hu hr => ?_, hos.trans HJ.os, hta.trans HJ.tape, hou.trans HJ.output, by have := HJ.size; omega, fun r hr hp => ?_, fun r hr => .inl hr, HB.pinned, HB.nf, HJ.forb⟩, ?_, ?_, ⟨hos, hta, hou, by omega, fun r hr ho => hchain r hr (fun h => ho (.inr (.inl h))) fun h => ho (.inr (.inr h))⟩⟩
        · obtain ⟨b, hb⟩ := HB.dom id u hu
          have h2 := HB.pinned id u (look_shH_big _ _ hb) hu
          exact .inr (.inl ⟨_, u, (shI_some h2).2, hr⟩)
        · rw [hchain r (by have := HJ.size; omega) (fun h => hp (.inr (.inl h))) fun h => hp (.inr (.inr h))]
          exact HJ.keep r hr hp
        · rw [← hw4]; exact World.putObj_heap_same (by omega)
        · rw [hput4 _ (by omega)]; exact hD3
      cases x3 with
      | normal =>
        obtain ⟨ι4, g1, g2, g3, g4⟩ := fin (H (i + 1)) (rec .ready none) q3
        have hend := run_endRound (P := P) none hl3
        refine ⟨_, _, hend, .inl ⟨rfl, ?_⟩⟩
        rw [hrec] at g1 g2 g3 g4 ⊢
        exact ⟨⟨⟨ι4, g1⟩, by rw [hrec]; exact g2, g3⟩, g4⟩
      | ret =>
        obtain ⟨Hx, hk, hq⟩ := q3
        obtain ⟨ι4, g1, g2, g3, g4⟩ := fin Hx (rec .done (some .ret)) hk
        have hend := run_endRound (P := P) (some .ret) hl3
        refine ⟨_, _, hend, .inr ⟨rfl, ?_⟩⟩
        rw [hrec] at g1 g2 g3 g4 ⊢
        exact ⟨⟨_, _, Hx, ι4, .inl ⟨rfl, rfl⟩, hq, g1, by rw [hrec]; exact g2, g3⟩, g4⟩
      | exit id =>
        obtain ⟨Hx, hk, hq⟩ := q3
        obtain ⟨ι4, g1, g2, g3, g4⟩ := fin Hx (rec .done (some (.exit id))) hk
        have hend := run_endRound (P := P) (some (.exit id)) hl3
        refine ⟨_, _, hend, .inr ⟨rfl, ?_⟩⟩
        rw [hrec] at g1 g2 g3 g4 ⊢
        exact ⟨⟨_, _, Hx, ι4, .inr (.inl ⟨id, rfl, rfl⟩), hq, g1, by rw [hrec]; exact g2, g3⟩, g4⟩
      | goto t =>
        obtain ⟨Hx, hk, hq⟩ := q3
        obtain ⟨ι4, g1, g2, g3, g4⟩ := fin Hx (rec .done (some (.goto t))) hk
        have hend := run_endRound (P := P) (some (.goto t)) hl3
        refine ⟨_, _, hend, .inr ⟨rfl, ?_⟩⟩
        rw [hrec] at g1 g2 g3 g4 ⊢
        exact ⟨⟨_, _, Hx, ι4, .inr (.inr ⟨t, rfl, rfl⟩), hq, g1, by rw [hrec]; exact g2, g3⟩, g4⟩
      | _ => exact q3.elim
    | _ => exact q1.elim
/-- A round that is not left. -/
def RN (nt : Nat) (hn : Heap) : Post := fun x e h => match x with
  | .normal => AWk nt e h [] hn
  | _ => False
def RF : Post := fun _ _ _ => False
/-- Whatever way the first part goes, it comes to one state. -/
theorem A_cut {z : Bool} {x y : Code} {e : Env} {h : Heap} (E1 : Env) (H1 : Heap) (h1 : AWp z P nt x (AThen (fun e' h' => AWk nt e' h' E1 H1) RF) e h) (h2 : AWp z P nt y Q E1 H1) : AWp z P nt (.seq x y) Q e h :=
  A_seq (h1.mono fun ex e h hq => by
    cases ex with
    | normal => exact A_weaken hq h2
    | _ => exact False.elim hq)
theorem A_range {g : Operand} {ps : Array Tmp} {as bd : Code} {f : FuncId} {caps : List AVal} {xs : List (List AVal)} {E E' : Env} {H H' : Nat → Heap}
    (hg : aev E g = some (.fn f caps)) (hS : ASeq P f caps xs) (hcd : ∀ c ∈ caps, datA c) (hps : psOk nt ps.toList = true) (hx : ∀ x ∈ xs, x.length = ps.toList.length ∧ ∀ c ∈ x, datA c) (hE : shE E = E') (hH : ∀ i, shH (H i) = H' i)
    (hround : ∀ i x, xs[i]? = some x → AWp false P nt as (AThen (fun e1 h1 => AWp false P nt bd (RN nt (H' (i + 1))) e1 h1) RF) (psEnv ps.toList x ++ E') (H' i))
    (hdone : Q .normal E (H xs.length)) : AWp true P nt (.rangeFunc g ps as bd) Q E (H 0) := by
  refine A_rangeFunc hg hS hcd hps hx (fun i x hxi => ?_) hdone
  rw [hE, hH]
  refine (hround i x hxi).mono fun ex e h hq => ?_
  cases ex with
  | normal =>
    have hq : AWp false P nt bd (RN nt (H' (i + 1))) e h := hq
    show AWp false P nt bd (RoundQ nt Q E (H (i + 1))) e h
    refine hq.mono fun ex2 e2 h2 hq2 => ?_
    cases ex2 with
    | normal =>
      have hq2 : AWk nt e2 h2 [] (H' (i + 1)) := hq2
      show AWk nt e2 h2 [] (shH (H (i + 1)))
      rw [hH]
      exact hq2
    | _ => exact False.elim hq2
  | _ => exact hq
end
end Go.Proofs.Ytaecjmjdhbjbkaa.Ab

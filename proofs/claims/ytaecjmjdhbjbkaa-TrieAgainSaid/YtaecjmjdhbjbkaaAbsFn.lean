/-
  Over abstract states: the rules of calls, functions, and of passing to another state.
-/
import Derived.Test.YtaecjmjdhbjbkaaAbsCall
import Derived.Test.YtaecjmjdhbjbkaaRunMarks
namespace Go.Proofs.Ytaecjmjdhbjbkaa.Ab
set_option linter.unusedVariables false
open Go.RowKit

/-! ### Passing to another state -/
section
variable {nt : Nat} {e e1 e2 : Env} {h h1 h2 : Heap}
theorem AWk.refl : AWk nt e h e h := fun _ _ _ _ ι _ _ R => ⟨ι, R⟩
theorem AWk.trans (a : AWk nt e h e1 h1) (b : AWk nt e1 h1 e2 h2) : AWk nt e h e2 h2 := fun Pm F w0 pin ι a' w R => let ⟨ι', R'⟩ := a Pm F w0 pin ι a' w R; b Pm F w0 pin ι' a' w R'
def Sub {α : Type} : List (Nat × α) → List (Nat × α) → Prop
  | [], _ => True
  | (k, c) :: r, l => look l k = some c ∧ Sub r l
theorem Sub.look {α : Type} {m l : List (Nat × α)} (hs : Sub m l) {t : Nat} {c : α} (ht : Ab.look m t = some c) : Ab.look l t = some c := by
  induction m with
  | nil => cases ht
  | cons p r ih =>
    by_cases hp : p.1 = t
    · have e1 : Ab.look (p :: r) t = some p.2 := by rw [← hp]; exact look_cons_same _ _ _
      rw [e1] at ht; cases ht; rw [← hp]; exact hs.1
    · have e1 : Ab.look (p :: r) t = Ab.look r t := look_cons_ne _ _ hp
      rw [e1] at ht; exact ih hs.2 ht
/-- What is not needed is forgotten. -/
theorem Wk_sel (he : Sub e1 e) (hh : Sub h1 h) : AWk nt e h e1 h1 := fun Pm F w0 pin ι a w R =>
  ⟨only h1 ι, R.heap.only fun id b hb => hh.look hb, fun t c ht => let ⟨u, hu, hv⟩ := R.env t c (he.look ht); ⟨u, hu, hv.only h1⟩, R.defers.ext (only_ext w F h1 ι), R.size⟩
/-- A slot's value seen otherwise. -/
theorem Wk_see {t : Nat} {c c' : AVal} (ht : look e t = some c) (hc : ∀ w F ι u, VRel w F ι c u → VRel w F ι c' u) : AWk nt e h ((t, c') :: e) h := fun Pm F w0 pin ι a w R =>
  ⟨ι, R.heap, fun s c2 hs => by
    by_cases hts : t = s
    · subst hts
      rw [look_cons_same] at hs; cases hs
      obtain ⟨u, hu, hv⟩ := R.env t c ht
      exact ⟨u, hu, hc _ _ _ _ hv⟩
    · rw [look_cons_ne _ _ hts] at hs; exact R.env s c2 hs, R.defers, R.size⟩
theorem see_nil (w F ι u) (h : VRel w F ι (.d (.sc (.slice none 0 0))) u) : VRel w F ι (.d (.sl [] 0)) u := by
  rw [(sc_of h).1]; exact .d _ _ .nil
/-- A nil slice is a row of one's own, of no element. -/
theorem Wk_nil {t id : Nat} (el k : Nat) (ht : look e t = some (.d (.sc (.slice none 0 0)))) (hid : Nat.blt id 1000 = true) : AWk nt e h ((t, .row id) :: killE id e) ((id, .row el k 0 []) :: killH id h) := fun Pm F w0 pin ι a w R => by
  have hid' : id < 1000 := by simp [Nat.blt] at hid; omega
  have TT : Touch w ι id (.slice none 0 0) w := ⟨rfl, rfl, rfl, Nat.le_refl _, fun _ _ _ => rfl, fun r hr => by cases hr⟩
  refine ⟨_, R.heap.touch TT (.inl hid') ⟨[], World.ownsRow_nil _ _ _ _, rfl, by simp⟩, fun s c hs => ?_, R.defers.ext TT.ext, R.size⟩
  by_cases hts : t = s
  · subst hts
    rw [look_cons_same] at hs; cases hs
    obtain ⟨u, hu, hv⟩ := R.env t _ ht
    exact ⟨u, hu, .row id u (by rw [(sc_of hv).1]; rfl) fun v hv' => by simp [upd] at hv'; rw [(sc_of hv).1, hv']⟩
  · rw [look_cons_ne _ _ hts] at hs
    exact (R.env.killed TT.ext) s c hs
mutual
def frV (id : Nat) (x : Dat) : AVal → AVal
  | .row j => cond (Nat.beq j id) (.d x) (.row j)
  | .srow j o n => cond (Nat.beq j id) .top (.srow j o n)
  | .agg cs => .agg (frL id x cs)
  | .tup cs => .tup (frL id x cs)
  | .fn f cs => .fn f (frL id x cs)
  | c => c
def frL (id : Nat) (x : Dat) : List AVal → List AVal
  | [] => []
  | c :: r => frV id x c :: frL id x r
end
theorem frL_get (id : Nat) (x : Dat) (cs : List AVal) (i : Nat) : (frL id x cs)[i]? = (cs[i]?).map (frV id x) := by
  induction cs generalizing i with
  | nil => rfl
  | cons c r ih =>
    rw [frL]
    cases i with
    | zero => rfl
    | succ i => simpa using ih i
theorem frL_len (id : Nat) (x : Dat) (cs : List AVal) : (frL id x cs).length = cs.length := by
  induction cs with
  | nil => rfl
  | cons c r ih => rw [frL]; simp [ih]
def frB (id : Nat) (x : Dat) : ABlk → ABlk
  | .var cs => .var (frL id x cs)
  | .row e k n cs => .row e k n cs
  | .map es => .map (es.map fun p => (frV id x p.1, frV id x p.2))
  | .mapx r bs clk es => .mapx r bs clk (es.map fun p => (frV id x p.1, frV id x p.2))
  | .it o => .it o
def frE (id : Nat) (x : Dat) : Env → Env
  | [] => []
  | (k, c) :: r => (k, frV id x c) :: frE id x r
def frH (id : Nat) (x : Dat) : Heap → Heap
  | [] => []
  | (k, b) :: r => cond (Nat.beq k id) (frH id x r) ((k, frB id x b) :: frH id x r)
theorem look_frE (id : Nat) (x : Dat) (e : Env) (t : Nat) : look (frE id x e) t = (look e t).map (frV id x) := by
  induction e with
  | nil => rfl
  | cons p r ih =>
    show cond _ _ _ = Option.map _ (cond _ _ _)
    cases Nat.beq p.1 t
    · exact ih
    · rfl
theorem look_frH (id : Nat) (x : Dat) (h : Heap) (t : Nat) : look (frH id x h) t = if t = id then none else (look h t).map (frB id x) := by
  induction h with
  | nil => simp [frH, look]
  | cons p r ih =>
    show look (cond _ _ _) t = _
    by_cases hpt : p.1 = t
    · cases hc : Nat.beq p.1 id
      · have := of_beq_no hc
        have e1 : look (p :: r) t = some p.2 := by rw [← hpt]; exact look_cons_same _ _ _
        rw [cond_false, e1, if_neg (by omega), ← hpt, look_cons_same]; rfl
      · have := Nat.eq_of_beq_eq_true hc
        rw [cond_true, ih, if_pos (by omega), if_pos (by omega)]
    · have e1 : look (p :: r) t = look r t := look_cons_ne _ _ hpt
      rw [e1]
      cases hc : Nat.beq p.1 id
      · rw [cond_false, look_cons_ne _ _ hpt, ih]
      · rw [cond_true, ih]
/-- A row of one's own becomes data. -/
theorem Wk_freeze {id el k n : Nat} {cs : List Dat} (hb : look h id = some (.row el k n cs)) : AWk nt e h (frE id (.sl cs n) e) (frH id (.sl cs n) h) := fun Pm F w0 pin ι a w R => by
  obtain ⟨v, hv, xs, hown, hl, hr⟩ := R.heap.blk id _ hb
  let ι' : Nat → Option Value := fun j => if j = id then none else ι j
  have hs : ∀ j u, ι' j = some u → j ≠ id ∧ ι j = some u := fun j u hj => by
    simp only [ι'] at hj
    split at hj
    · cases hj
    · exact ⟨by assumption, hj⟩
  have he : Ext w F ι w ι' := ⟨fun _ _ _ => rfl, fun r _ hf => ⟨hf.1, fun j u hj => hf.2 j u (hs j u hj).2⟩⟩
  have hD : DRel w (FreeB F ι') (.sl cs n) v := by
    rcases hown.2 with ⟨rfl, h0⟩ | ⟨g, cap, cur, rfl, _, hg, hnc, _⟩
    · have h1 := hown.1
      subst h0
      have : cs = [] := by cases cs with
        | nil => rfl
        | cons _ _ => simp at hl h1; rw [h1] at hl; simp at hl
      subst this
      exact .nil
    · refine .sl cs n g 0 cap xs hnc hl (fun _ => ⟨R.heap.nf id _ g hv rfl, fun j u hj hb => ?_⟩) (fun i u hu => ?_) fun i c u h1 h2 => (hr i c u h1 h2).ext he.mem he.free
      · obtain ⟨h1, h2⟩ := hs j u hj
        exact R.heap.inj j id u _ g h1 h2 hv hb rfl
      · have := hown.cells (g := g) rfl i u hu
        rwa [Addr.add_mid] at this
  have vk : ∀ c u, VRel w F ι c u → VRel w F ι' (frV id (.sl cs n) c) u := by
    intro c u hc
    induction hc with
    | top u => exact .top u
    | und => exact .und
    | d x u hd => exact .d x u (hd.ext he.mem he.free)
    | agg cs C hl h ih =>
      refine .agg _ C (by rw [frL_len]; exact hl) fun i c u h1 h2 => ?_
      rw [frL_get] at h1
      cases h3 : cs[i]? with
      | none => simp [h3] at h1
      | some c0 => simp [h3] at h1; subst h1; exact ih i c0 u h3 h2
    | tup cs C hl h ih =>
      refine .tup _ C (by rw [frL_len]; exact hl) fun i c u h1 h2 => ?_
      rw [frL_get] at h1
      cases h3 : cs[i]? with
      | none => simp [h3] at h1
      | some c0 => simp [h3] at h1; subst h1; exact ih i c0 u h3 h2
    | ptr j off u h1 h => exact .ptr j off u h1 fun v hv => h v (hs j v hv).2
    | eptr j off u h1 h => exact .eptr j off u h1 fun v hv => h v (hs j v hv).2
    | iptr cs off b o' vs hl hf hc hr => exact (VRel.iptr cs off b o' vs hl hf hc hr : VRel w F ι _ _).ext he fun j v _ hv => (hs j v hv).2
    | row j u h1 h =>
      rw [frV]
      cases hj : Nat.beq j id with
      | true =>
        have := Nat.eq_of_beq_eq_true hj
        subst this
        rw [cond_true, h v hv]
        exact .d _ _ hD
      | false => exact .row j u h1 fun v hv => h v (hs j v hv).2
    | mp j u h1 h => exact .mp j u h1 fun v hv => h v (hs j v hv).2
    | srow j off n u h1 h =>
      rw [frV]
      cases hj : Nat.beq j id with
      | true => exact .top u
      | false => exact .srow j off n u h1 fun v hv => h v (hs j v hv).2
    | full cs n b h => exact .full cs n b (h.ext he.mem he.free)
    | fn f cs C hl h ih =>
      refine .fn f _ C (by rw [frL_len]; exact hl) fun i c u h1 h2 => ?_
      rw [frL_get] at h1
      cases h3 : cs[i]? with
      | none => simp [h3] at h1
      | some c0 => simp [h3] at h1; subst h1; exact ih i c0 u h3 h2
  refine ⟨ι', ⟨?_, ?_, fun i j v v' r hij hi hj => R.heap.inj i j v v' r hij (hs i v hi).2 (hs j v' hj).2, fun i v r hi => R.heap.pm i v r (hs i v hi).2, R.heap.os, R.heap.tape, R.heap.output, R.heap.size, R.heap.keep, R.heap.fresh, fun i v h1 hi => R.heap.pinned i v h1 (hs i v hi).2, fun i v r hi => R.heap.nf i v r (hs i v hi).2, R.heap.forb⟩, ?_, R.defers.ext he, R.size⟩
  · intro j b hj
    rw [look_frH] at hj
    split at hj
    · cases hj
    · rename_i hji
      cases hl2 : look h j with
      | none => simp [hl2] at hj
      | some b0 =>
        simp [hl2] at hj
        subst hj
        obtain ⟨v2, hv2, hB⟩ := R.heap.blk j b0 hl2
        refine ⟨v2, by simp [ι', hji, hv2], ?_⟩
        cases b0 with
        | var ds =>
          obtain ⟨r, C, tt, rfl, h3, h4, h5⟩ := hB
          refine ⟨r, C, tt, rfl, h3, by rw [frL_len]; exact h4, fun i c u h6 h7 => ?_⟩
          rw [frL_get] at h6
          cases h8 : ds[i]? with
          | none => simp [h8] at h6
          | some c0 => simp [h8] at h6; subst h6; exact vk _ _ (h5 i c0 u h8 h7)
        | row el2 k2 n2 ds =>
          obtain ⟨ys, hown2, h4, h5⟩ := hB
          exact ⟨ys, hown2, h4, fun i c u h6 h7 => (h5 i c u h6 h7).ext he.mem he.free⟩
        | map es =>
          obtain ⟨r, E, clk, rfl, h3, h4, h5, h6⟩ := hB
          refine ⟨r, E, clk, rfl, h3, by simpa using h4, fun i p m h7 h8 => ?_, h6⟩
          rw [List.getElem?_map] at h7
          cases h9 : es[i]? with
          | none => simp [h9] at h7
          | some p0 => simp [h9] at h7; subst h7; exact ⟨vk _ _ (h5 i p0 m h9 h8).1, vk _ _ (h5 i p0 m h9 h8).2⟩
        | mapx r0 bs0 clk0 es =>
          obtain ⟨E, rfl, h3, h4, h5, h6⟩ := hB
          refine ⟨E, rfl, h3, by simpa using h4, fun i p m h7 h8 => ?_, h6⟩
          rw [List.getElem?_map] at h7
          cases h9 : es[i]? with
          | none => simp [h9] at h7
          | some p0 => simp [h9] at h7; subst h7; exact ⟨vk _ _ (h5 i p0 m h9 h8).1, vk _ _ (h5 i p0 m h9 h8).2⟩
        | it o => exact hB
  · intro j u hj
    obtain ⟨h1, h2⟩ := hs j u hj
    obtain ⟨b, hb⟩ := R.heap.dom j u h2
    exact ⟨frB id _ b, by rw [look_frH, if_neg h1, hb]; rfl⟩
  · intro t c ht
    rw [look_frE] at ht
    cases hl2 : look e t with
    | none => simp [hl2] at ht
    | some c0 =>
      simp [hl2] at ht
      subst ht
      obtain ⟨u, hu, hv2⟩ := R.env t c0 hl2
      exact ⟨u, hu, vk _ _ hv2⟩
end

/-! ### Calls -/
section
variable {P : Program} {nt : Nat} {T : List Nat} {e : Env} {h : Heap} {o : Oper} {tab : TTab}
/-- A callee that gets data (and no block of ours). -/
theorem E_callQ {f : FuncId} {args : Array Operand} {ats : Array TypeId} {cs : List AVal} {d : Option Tmp} {Q : AVal → Heap → Prop} (ho : o.op = .call { callee := .value (.func f), args := args, argTypes := ats }) (hdst : o.dst = d) (hx : aevs e args.toList = some cs)
    (H : ACall P f cs [] Q) (hd : dstOk nt d = true) (hq : ∀ c h', Q c h' → (h'.map (·.1)).all (fun j => Nat.blt j 1000) = true ∧ (∀ id b j, look h' id = some b → blkHas j b = true → (look h' j).isSome = true) ∧ ∀ j, c.has j = true → (look h' j).isSome = true) :
    AEff P nt T e h o (fun e' h2 => ∃ c h', Q c h' ∧ e' = aput d c (killEs (h'.map (·.1)) e) ∧ h2 = h' ++ killHs (h'.map (·.1)) h) := fun Pm F w0 pin ι a w R K Qx hK => by
  unfold Oper.wp
  rw [run_callA H.1 ho, Oper.upon_enter, hdst]
  have hF : ∀ r, Fc F ι r → r < w.heap.size := fun r hr => hr.elim (fun h1 => Nat.lt_of_lt_of_le (R.heap.forb r h1) R.heap.size) fun ⟨id, v, h1, h2⟩ => R.heap.lt h1 h2
  refine (H.2 _ _ w _ _ _ w (HRel.none (Fc F ι) w hF) (args_c (args_of R.env hx))).mono ?_
  rintro x w' ⟨u, c, h', ι', rfl, hQ, hH, hv⟩
  obtain ⟨h1, h2, h3⟩ := hq c h' hQ
  obtain ⟨ι2, hR, hC⟩ := R.called (T := T) hH hv h1 h2 h3 hd
  exact hK _ _ _ _ _ ⟨c, h', hQ, rfl, rfl⟩ hR hC (put_defers _ _ _)
theorem killEs_nil (e : Env) : killEs [] e = e := by
  induction e with
  | nil => rfl
  | cons p r ih => show (p.1, killVs [] p.2) :: killEs [] r = _; rw [ih]; rfl
theorem killHs_nil (h : Heap) : killHs [] h = h := by
  have kv : ∀ c, killVs [] c = c := fun c => rfl
  induction h with
  | nil => rfl
  | cons p r ih =>
    show (p.1, killBs [] p.2) :: killHs [] r = _
    rw [ih]
    obtain ⟨j, b⟩ := p
    cases b with
    | var cs => show (j, ABlk.var (cs.map (killVs []))) :: r = _; rw [List.map_congr_left (fun c _ => kv c)]; simp
    | row => rfl
    | map es => show (j, ABlk.map (es.map fun p => (killVs [] p.1, killVs [] p.2))) :: r = _; rw [show es.map (fun p => (killVs [] p.1, killVs [] p.2)) = es from (List.map_congr_left (g := id) (fun _ _ => rfl)).trans (List.map_id es)]
    | mapx r0 bs0 clk0 es => show (j, ABlk.mapx r0 bs0 clk0 (es.map fun p => (killVs [] p.1, killVs [] p.2))) :: r = _; rw [show es.map (fun p => (killVs [] p.1, killVs [] p.2)) = es from (List.map_congr_left (g := id) (fun _ _ => rfl)).trans (List.map_id es)]
    | it o => rfl
/-- .. that hands back data alone. -/
theorem E_call0 {f : FuncId} {args : Array Operand} {ats : Array TypeId} {cs : List AVal} {d : Option Tmp} {c : AVal} (ho : o.op = .call { callee := .value (.func f), args := args, argTypes := ats }) (hdst : o.dst = d) (hx : aevs e args.toList = some cs)
    (H : ACall P f cs [] (fun c' h' => c' = c ∧ h' = [])) (hd : dstOk nt d = true) (hc : ∀ j, c.has j = false) : AEff P nt T e h o (fun e' h' => e' = aput d c e ∧ h' = h) := fun Pm F w0 pin ι a w R K Qx hK =>
  E_callQ (T := T) ho hdst hx H hd (fun c' h' ⟨h1, h2⟩ => by subst h1 h2; exact ⟨rfl, fun _ _ _ h => (by cases h), fun j hj => by rw [hc] at hj; cases hj⟩) Pm F w0 pin ι a w R K Qx
    fun ι' e' h' a' w' ⟨c', h2, ⟨h3, h4⟩, h5, h6⟩ => by
      subst h3 h4
      rw [List.map_nil, killEs_nil] at h5
      rw [List.map_nil, killHs_nil, List.nil_append] at h6
      exact hK ι' e' h' a' w' ⟨h5, h6⟩
/-- .. with a condition on the data. -/
theorem E_callR {f : FuncId} {args : Array Operand} {ats : Array TypeId} {cs : List AVal} {d : Option Tmp} {Rc : AVal → Prop} (ho : o.op = .call { callee := .value (.func f), args := args, argTypes := ats }) (hdst : o.dst = d) (hx : aevs e args.toList = some cs)
    (H : ACall P f cs [] (fun c' h' => Rc c' ∧ h' = [])) (hd : dstOk nt d = true) (hc : ∀ c j, Rc c → c.has j = false) : AEff P nt T e h o (fun e' h' => ∃ c, Rc c ∧ e' = aput d c e ∧ h' = h) := fun Pm F w0 pin ι a w R K Qx hK =>
  E_callQ (T := T) ho hdst hx H hd (fun c' h' ⟨h1, h2⟩ => by subst h2; exact ⟨rfl, fun _ _ _ h => (by cases h), fun j hj => by rw [hc c' j h1] at hj; cases hj⟩) Pm F w0 pin ι a w R K Qx
    fun ι' e' h' a' w' ⟨c', h2, ⟨h3, h4⟩, h5, h6⟩ => by
      subst h4
      rw [List.map_nil, killEs_nil] at h5
      rw [List.map_nil, killHs_nil, List.nil_append] at h6
      exact hK ι' e' h' a' w' ⟨c', h3, h5, h6⟩

/-! The value of what holds no memory. -/
mutual
def valA : AVal → Option Value
  | .d (.sc v) => some v
  | .agg cs => match valL cs with
    | some l => some (.agg l.toArray)
    | none => none
  | .tup cs => match valL cs with
    | some l => some (.tuple l.toArray)
    | none => none
  | _ => none
def valL : List AVal → Option (List Value)
  | [] => some []
  | c :: r => match valA c, valL r with
    | some v, some l => some (v :: l)
    | _, _ => none
end
theorem valL_get {cs : List AVal} {l : List Value} (h : valL cs = some l) : l.length = cs.length ∧ ∀ (i : Nat) (c : AVal) (v : Value), cs[i]? = some c → l[i]? = some v → valA c = some v := by
  induction cs generalizing l with
  | nil => cases h; exact ⟨rfl, by simp⟩
  | cons c r ih =>
    rw [valL] at h
    cases hc : valA c with
    | none => simp [hc] at h
    | some v =>
      cases hr : valL r with
      | none => simp [hc, hr] at h
      | some l' =>
        simp [hc, hr] at h
        subst h
        obtain ⟨h1, h2⟩ := ih hr
        refine ⟨by simp [h1], fun i c' v' h3 h4 => ?_⟩
        cases i with
        | zero => simp at h3 h4; subst h3 h4; exact hc
        | succ i => exact h2 i c' v' (by simpa using h3) (by simpa using h4)
theorem valA_rel {w : World} {F : Nat → Prop} {ι : Nat → Option Value} {c : AVal} {u v : Value} (h : VRel w F ι c u) (hv : valA c = some v) : u = v := by
  induction h generalizing v with
  | d x u hd => cases hd <;> simp [valA] at hv; exact hv
  | agg cs C hl h ih =>
    rw [valA] at hv
    cases hc : valL cs with
    | none => simp [hc] at hv
    | some l =>
      simp [hc] at hv
      subst hv
      obtain ⟨h1, h2⟩ := valL_get hc
      congr 1
      apply Array.ext
      · simp [hl, h1]
      · intro i h3 h4
        have h5 : i < cs.length := by omega
        have h6 : i < l.length := by omega
        have := ih i cs[i] C[i] (List.getElem?_eq_getElem h5) (Array.getElem?_eq_getElem h3) (h2 i cs[i] l[i] (List.getElem?_eq_getElem h5) (List.getElem?_eq_getElem h6))
        simpa using this
  | tup cs C hl h ih =>
    rw [valA] at hv
    cases hc : valL cs with
    | none => simp [hc] at hv
    | some l =>
      simp [hc] at hv
      subst hv
      obtain ⟨h1, h2⟩ := valL_get hc
      congr 1
      apply Array.ext
      · simp [hl, h1]
      · intro i h3 h4
        have h5 : i < cs.length := by omega
        have h6 : i < l.length := by omega
        have := ih i cs[i] C[i] (List.getElem?_eq_getElem h5) (Array.getElem?_eq_getElem h3) (h2 i cs[i] l[i] (List.getElem?_eq_getElem h5) (List.getElem?_eq_getElem h6))
        simpa using this
  | _ => simp [valA] at hv
/-- A call, inside a region that draws its order, of a function that makes garbage at most. -/
theorem Q_call {Q : Post} {ops : Array Oper} {rest : List Oper} {f : FuncId} {args : Array Operand} {ats : Array TypeId} {cs : List AVal} {c : AVal} {v : Value} (ho : o.op = .call { callee := .value (.func f), args := args, argTypes := ats }) (hx : aevs e args.toList = some cs)
    (hw : awant ops e o = some true) (hd : dstOk nt o.dst = true) (H : ACall P f cs [] (fun c' h' => c' = c ∧ h' = [])) (hc : valA c = some v) (hrel : ∀ w F ι, VRel w F ι c v)
    (HK : AQ P nt ops Q rest (aput o.dst c e) h) : AQ P nt ops Q (o :: rest) e h := fun Pm F w0 pin ι a w R =>
  wpQuiet_step fun K hK => by
    rw [awant_rel R.env hw, if_pos rfl]
    refine ⟨v, fun w' hw' => ?_, hK _ (HK Pm F w0 pin ι _ w (R.put hd (hrel _ _ _)))⟩
    unfold Oper.quietAt
    rw [run_callA H.1 ho]
    refine ⟨rfl, ?_⟩
    have R' := R.grew hw'.grew
    have hF : ∀ r, Fc F ι r → r < w'.heap.size := fun r hr => hr.elim (fun h1 => Nat.lt_of_lt_of_le (R'.heap.forb r h1) R'.heap.size) fun ⟨id, v, h1, h2⟩ => R'.heap.lt h1 h2
    refine (H.2 _ _ w' _ _ _ w' (HRel.none (Fc F ι) w' hF) (args_c (args_of R'.env hx))).mono ?_
    rintro x w2 ⟨u, c', h', ι', rfl, ⟨rfl, rfl⟩, hH, hv⟩
    refine ⟨by rw [valA_rel hv hc], ?_⟩
    exact (hw'.grew.trans hH.grewC).ct []

/-! ### A function out of its body -/
def AOut (nt : Nat) (tab : TTab) (rs : List ResultVar) (Q : AVal → Heap → Prop) (e : Env) (h : Heap) : Prop := ∃ e' h' v h2, AWk nt e h e' h' ∧ ares tab e' h' rs = some v ∧ Sub h2 h' ∧ Q v h2
def APost (nt : Nat) (tab : TTab) (rs : List ResultVar) (Q : AVal → Heap → Prop) : Post := fun x e h => match x with
  | .normal => AOut nt tab rs Q e h
  | .ret => AOut nt tab rs Q e h
  | _ => False
theorem aresOne_rel {Pm F : Nat → Prop} {w0 w : World} {pin ι : Nat → Option Value} {a : Act} (TO : TabOk P tab) (R : Rel Pm F w0 pin ι nt e h a w) {r : ResultVar} {c : AVal} (hr : aresOne tab e h r = some c) :
    ∃ u, VRel w F ι c u ∧ (match r with
      | .tmp t => (pure (a.tmps.getD t undef) : Sem Value)
      | .cell s t => do loadVar t (← asAddr (a.tmps.getD s undef))).run P w = .ok u w := by
  cases r with
  | tmp t =>
    obtain ⟨u, hu, hv⟩ := R.env t c hr
    exact ⟨u, hv, by simp [hu]⟩
  | cell s t =>
    rw [aresOne] at hr
    split at hr
    · rename_i id te hs ht
      split at hr
      · rename_i cs hb
        obtain ⟨u, hu, hv⟩ := R.env s _ hs
        obtain ⟨v, hvι, g, C, tt, rfl, hC, hlC, hrr⟩ := R.heap.blk id _ hb
        cases hv with
        | ptr _ _ _ h1 h2 =>
          obtain ⟨g', h3, rfl⟩ := h2 _ hvι
          cases h3
          have hcell : ∀ (j : Nat) (u : Value), C.toList[j]? = some u → w.cell? ⟨g, 0 + j, none⟩ = some u := fun j u hj => by
            rw [Nat.zero_add]; simp [World.cell?, hC]; simpa using hj
          cases ha : te.agg with
          | true =>
            rw [ha, cond_true] at hr
            cases hb2 : Nat.beq cs.length te.size with
            | false => rw [hb2] at hr; cases hr
            | true =>
              rw [hb2] at hr
              cases hr
              have hl := Nat.eq_of_beq_eq_true hb2
              refine ⟨.agg C, .agg cs C hlC fun i c u h4 h5 => hrr i c u h4 h5, ?_⟩
              have := run_loadVar (P := P) w (TO t te ht) g 0 C.toList (by simp [hlC, hl]) hcell
              rw [ha] at this
              simp [hu, asAddr, this]
          | false =>
            rw [ha, cond_false] at hr
            have h0 : 0 < C.size := by rw [hlC]; exact (List.getElem?_eq_some_iff.1 hr).1
            refine ⟨C[0], hrr 0 c _ hr (Array.getElem?_eq_getElem h0), ?_⟩
            have h6 := hcell 0 C[0] (by rw [Array.getElem?_toList]; exact Array.getElem?_eq_getElem h0)
            simp [hu, asAddr, loadVar, (TO t te ht).run_agg, ha, load, Sem.run]
            rw [Nat.add_zero] at h6
            rw [h6]
      · cases hr
    · cases hr
theorem ares_rel {Pm F : Nat → Prop} {w0 w : World} {pin ι : Nat → Option Value} {a : Act} (TO : TabOk P tab) (R : Rel Pm F w0 pin ι nt e h a w) {fn : Func} {rs : List ResultVar} (hrs : fn.results.toList = rs) {c : AVal} (hr : ares tab e h rs = some c) :
    ∃ u, VRel w F ι c u ∧ (results fn a.tmps).run P w = .ok u w := by
  let g : ResultVar → Sem Value := fun
    | .tmp t => pure (a.tmps.getD t undef)
    | .cell s t => do loadVar t (← asAddr (a.tmps.getD s undef))
  have hg : results fn a.tmps = (do
      let vs ← fn.results.mapM g
      pure (if h : vs.size = 1 then vs[0] else .tuple vs)) := rfl
  have key : ∀ (rs : List ResultVar) (cs : List AVal), rs.mapM (aresOne tab e h) = some cs → ∃ us : List Value, us.length = cs.length ∧ (∀ (i : Nat) (c : AVal) (u : Value), cs[i]? = some c → us[i]? = some u → VRel w F ι c u) ∧ (rs.mapM g).run P w = .ok us w := by
    intro rs
    induction rs with
    | nil => intro cs h; simp at h; subst h; exact ⟨[], rfl, by simp, rfl⟩
    | cons r rs ih =>
      intro cs hm
      rw [List.mapM_cons] at hm
      cases h1 : aresOne tab e h r with
      | none => simp [h1] at hm
      | some c1 =>
        cases h2 : rs.mapM (aresOne tab e h) with
        | none => simp [h1, h2] at hm
        | some cs1 =>
          simp [h1, h2] at hm
          subst hm
          obtain ⟨us, h3, h4, h5⟩ := ih cs1 h2
          obtain ⟨u, h6, h7⟩ := aresOne_rel TO R h1
          refine ⟨u :: us, by simp [h3], fun i c u' h8 h9 => ?_, ?_⟩
          · cases i with
            | zero => simp at h8 h9; subst h8 h9; exact h6
            | succ i => exact h4 i c u' (by simpa using h8) (by simpa using h9)
          · rw [List.mapM_cons]
            have h7' : (g r).run P w = .ok u w := by cases r <;> exact h7
            simp [h7', h5]
  have gen : ∀ (cs : List AVal), rs.mapM (aresOne tab e h) = some cs → ∃ us : List Value, us.length = cs.length ∧ (∀ (i : Nat) (c : AVal) (u : Value), cs[i]? = some c → us[i]? = some u → VRel w F ι c u) ∧ (results fn a.tmps).run P w = .ok (if h : us.toArray.size = 1 then us.toArray[0] else .tuple us.toArray) w := by
    intro cs hm
    obtain ⟨us, h1, h2, h3⟩ := key rs cs hm
    refine ⟨us, h1, h2, ?_⟩
    rw [hg, Array.mapM_eq_mapM_toList, hrs]
    simp [h3]
  match rs, hrs, hr, gen with
  | [r], hrs, hr, gen =>
    have hr' : aresOne tab e h r = some c := hr
    obtain ⟨us, h1, h2, h3⟩ := gen [c] (by simp [hr'])
    match us, h1, h2, h3 with
    | [u], _, h2, h3 => exact ⟨u, h2 0 c u rfl rfl, by simpa using h3⟩
  | [], hrs, hr, gen =>
    have hr' : c = .tup [] := by have : some (AVal.tup []) = some c := hr; exact (Option.some.inj this).symm
    subst hr'
    obtain ⟨us, h1, h2, h3⟩ := gen [] (by simp)
    have : us = [] := by simpa using h1
    subst this
    exact ⟨_, .tup [] #[] rfl (by simp), by simpa using h3⟩
  | r1 :: r2 :: rs, hrs, hr, gen =>
    have hr' : ((r1 :: r2 :: rs).mapM (aresOne tab e h)).map AVal.tup = some c := hr
    cases hm : (r1 :: r2 :: rs).mapM (aresOne tab e h) with
    | none => rw [hm] at hr'; cases hr'
    | some cs =>
      rw [hm] at hr'
      cases hr'
      obtain ⟨us, h1, h2, h3⟩ := gen cs hm
      have hlen : cs.length = rs.length + 2 := by
        have : ∀ (l : List ResultVar) (cs : List AVal), l.mapM (aresOne tab e h) = some cs → cs.length = l.length := by
          intro l
          induction l with
          | nil => intro cs h; simp at h; subst h; rfl
          | cons r l ih =>
            intro cs hm
            rw [List.mapM_cons] at hm
            cases h1 : aresOne tab e h r with
            | none => simp [h1] at hm
            | some c1 =>
              cases h2 : l.mapM (aresOne tab e h) with
              | none => simp [h1, h2] at hm
              | some cs1 => simp [h1, h2] at hm; subst hm; simp [ih cs1 h2]
        simpa using this _ _ hm
      refine ⟨.tuple us.toArray, .tup cs _ (by simpa using h1) fun i c u h4 h5 => h2 i c u h4 (by simpa using h5), ?_⟩
      rw [h3, dif_neg (by simp [h1, hlen])]
/-- Blocks that hold no cell, and are nobody's, are not to be met from here on. -/
theorem DRel.forbid {w : World} {Fr M : Nat → Prop} (hM : ∀ r, M r → ∀ o v, w.cell? ⟨r, o, none⟩ ≠ some v) {x : Dat} {u : Value} (h : DRel w Fr x u) : DRel w (fun r => Fr r ∧ ¬ M r) x u := by
  induction h with
  | sc v h => exact .sc v h
  | nil => exact .nil
  | sl cs n b o cap vs hn hl hf hc hr ih =>
    refine .sl cs n b o cap vs hn hl (fun hne => ⟨hf hne, fun hm => ?_⟩) hc ih
    cases vs with
    | nil => exact hne rfl
    | cons v r => exact hM b hm _ v (hc 0 v rfl)
  | cut cs n m b o cap vs hn hm hl hf hc hr ih =>
    refine .cut cs n m b o cap vs hn hm hl (fun hne => ⟨hf hne, fun hm => ?_⟩) hc ih
    cases vs with
    | nil => exact hne rfl
    | cons v r => exact hM b hm _ v (hc 0 v rfl)
theorem DRel.imp {w : World} {Fr Fr' : Nat → Prop} {x : Dat} {u : Value} (h : DRel w Fr x u) (hf : ∀ r, Fr r → Fr' r) : DRel w Fr' x u := h.ext (fun _ _ _ => rfl) fun r _ => hf r
theorem VRel.forbid {w : World} {F M : Nat → Prop} {ι : Nat → Option Value} (hM : ∀ r, M r → ∀ o v, w.cell? ⟨r, o, none⟩ ≠ some v) {c : AVal} {u : Value} (h : VRel w F ι c u) : VRel w (fun r => F r ∨ M r) ι c u := by
  have hfr : ∀ r, FreeB F ι r ∧ ¬ M r → FreeB (fun r => F r ∨ M r) ι r := fun r h => ⟨fun hc => hc.elim h.1.1 h.2, h.1.2⟩
  induction h with
  | top u => exact .top u
  | und => exact .und
  | d x u h => exact .d x u ((h.forbid hM).imp hfr)
  | agg cs C hl h ih => exact .agg cs C hl ih
  | tup cs C hl h ih => exact .tup cs C hl ih
  | ptr id off u h1 h => exact .ptr id off u h1 h
  | eptr id off u h1 h => exact .eptr id off u h1 h
  | iptr cs off b o vs hl hf hc hr =>
    refine .iptr cs off b o vs hl (fun hne => hfr b ⟨hf hne, fun hm => ?_⟩) hc fun i c u h1 h2 => ((hr i c u h1 h2).forbid hM).imp hfr
    cases vs with
    | nil => exact hne rfl
    | cons v r => exact hM b hm _ v (hc 0 v rfl)
  | row id u h1 h => exact .row id u h1 h
  | mp id u h1 h => exact .mp id u h1 h
  | fn f caps C hl h ih => exact .fn f caps C hl ih
  | srow id off n u h1 h => exact .srow id off n u h1 h
  | full cs n b h => exact .full cs n b ((h.forbid hM).imp hfr)
/-- A block's contents, seen otherwise. -/
theorem BRel.via {w w' : World} {F F' : Nat → Prop} {ι ι' : Nat → Option Value} {b : ABlk} {v : Value} (h : BRel w F ι b v) (hV : ∀ c u, VRel w F ι c u → VRel w' F' ι' c u) (hD : ∀ c u, DRel w (FreeB F ι) c u → DRel w' (FreeB F' ι') c u)
    (hs : ∀ r, blockOf v = some r → w'.heap[r]? = w.heap[r]?) : BRel w' F' ι' b v := by
  cases b with
  | var cs =>
    obtain ⟨r, C, T, rfl, hc, hl, h⟩ := h
    exact ⟨r, C, T, rfl, (hs r rfl).trans hc, hl, fun i c u h1 h2 => hV _ _ (h i c u h1 h2)⟩
  | row e k n cs =>
    obtain ⟨xs, hown, hl, h⟩ := h
    refine ⟨xs, ⟨hown.1, ?_⟩, hl, fun i c u h1 h2 => hD _ _ (h i c u h1 h2)⟩
    rcases hown.2 with h1 | ⟨g, cap, cur, rfl, hb, hg, rest⟩
    · exact .inl h1
    · exact .inr ⟨g, cap, cur, rfl, hb, (hs g rfl).trans hg, rest⟩
  | map es =>
    obtain ⟨r, E, clk, rfl, hc, hl, h, h3⟩ := h
    exact ⟨r, E, clk, rfl, (hs r rfl).trans hc, hl, fun i p m h1 h2 => ⟨hV _ _ (h i p m h1 h2).1, hV _ _ (h i p m h1 h2).2⟩, h3⟩
  | mapx r0 bs0 clk0 es =>
    obtain ⟨E, rfl, hc, hl, h, h3⟩ := h
    exact ⟨E, rfl, (hs _ rfl).trans hc, hl, fun i p m h1 h2 => ⟨hV _ _ (h i p m h1 h2).1, hV _ _ (h i p m h1 h2).2⟩, h3⟩
  | it o => obtain ⟨r, rfl, hc⟩ := h; exact ⟨r, rfl, (hs r rfl).trans hc⟩
/-- Blocks without cells that are nobody's are laid anew. -/
theorem ExtM.go {w w' : World} {F M : Nat → Prop} {ι : Nat → Option Value} (hM : ∀ r, M r → ∀ o v, w.cell? ⟨r, o, none⟩ ≠ some v) (hk : ∀ r, ¬ M r → w'.heap[r]? = w.heap[r]?) :
    (∀ c u, VRel w F ι c u → VRel w' F ι c u) ∧ ∀ c u, DRel w (FreeB F ι) c u → DRel w' (FreeB F ι) c u :=
  ⟨fun c u h => (h.forbid hM).extF ⟨fun r _ hf => hk r fun hm => hf.1 (.inr hm), fun r _ hf => ⟨fun h => hf.1 (.inl h), hf.2⟩⟩ fun _ _ _ h => h,
   fun c u h => (h.forbid hM).ext (fun r _ hf => hk r hf.2) fun r _ hf => hf.1⟩
theorem HRel.laid {Pm F M : Nat → Prop} {w0 w w' : World} {pin ι : Nat → Option Value} {h : Heap} (H : HRel Pm F w0 pin ι h w) (hM : ∀ r, M r → ∀ o v, w.cell? ⟨r, o, Option.none⟩ ≠ some v) (hn : ∀ r, M r → Pm r ∧ FreeB F ι r)
    (hk : ∀ r, ¬ M r → w'.heap[r]? = w.heap[r]?) (k1 : w'.os = w.os) (k2 : w'.tape = w.tape) (k3 : w'.output = w.output) (k4 : w.heap.size ≤ w'.heap.size) : HRel Pm F w0 pin ι h w' := by
  obtain ⟨hV, hD⟩ := ExtM.go (F := F) (ι := ι) hM hk
  refine ⟨fun id b hb => ?_, H.dom, H.inj, H.pm, k1.trans H.os, k2.trans H.tape, k3.trans H.output, Nat.le_trans H.size k4, fun r hr hp => ?_, H.fresh, H.pinned, H.nf, H.forb⟩
  · obtain ⟨v, hv, hB⟩ := H.blk id b hb
    exact ⟨v, hv, hB.via hV hD fun r hr => hk r fun hm => (hn r hm).2.2 id v hv hr⟩
  · rw [hk r fun hm => hp (hn r hm).1]
    exact H.keep r hr hp
/-- The function is left: the marks' blocks are shut. -/
theorem Rel.left {Pm F : Nat → Prop} {w0 w w' : World} {pin ι : Nat → Option Value} {a : Act} (R : Rel Pm F w0 pin ι nt e h a w) (k1 : w'.os = w.os) (k2 : w'.tape = w.tape) (k3 : w'.output = w.output) (k4 : w'.heap.size = w.heap.size)
    (k5 : ∀ r, (∀ d ∈ a.defers, d ≠ ({ target := .collected r, args := #[] } : Deferred)) → w'.heap[r]? = w.heap[r]?) : Rel Pm F w0 pin ι nt e h { a with defers := [] } w' := by
  let M : Nat → Prop := fun r => markOf r ∈ a.defers
  have hm : ∀ r, M r → w.heap[r]? = some (.deferred (some [])) ∧ Pm r ∧ FreeB F ι r := fun r hr => by
    obtain ⟨q, h1, h2, h3, h4⟩ := R.defers.all _ hr
    have : q = r := by simp [markOf] at h1; exact h1.symm
    subst this
    exact ⟨h3, h2, h4⟩
  have hM : ∀ r, M r → ∀ o v, w.cell? ⟨r, o, none⟩ ≠ some v := fun r hr o v hc => by simp [World.cell?, (hm r hr).1] at hc
  have hk : ∀ r, ¬ M r → w'.heap[r]? = w.heap[r]? := fun r hr => k5 r fun d hd h => hr (by show markOf r ∈ _; rw [markOf, ← h]; exact hd)
  refine ⟨R.heap.laid hM (fun r hr => (hm r hr).2) hk k1 k2 k3 (by omega), R.env.mono fun _ c u _ hv => (ExtM.go hM hk).1 c u hv, MkOk.nil, R.size⟩
theorem ACall_of {f : FuncId} {fn : Func} {c : Code} {rs : List ResultVar} {args : List AVal} {Q : AVal → Heap → Prop} (TO : TabOk P tab) (hf : P.funcs[f]? = some fn) (hb : fn.body = some c) (hn : fn.ntmps = nt) (hr : fn.results.toList = rs) (hgo : isGo P f = true) (hle : Nat.ble args.length nt = true)
    (H : AWp true P nt c (APost nt tab rs Q) (argsEnv args) h) : ACall P f args h Q := ⟨hgo, fun Pm F w0 pin ι us w HH HA => by
  have hle := Nat.le_of_ble_eq_true hle
  refine fq_calls (l := none) (n := 0) (callsIn_of_wp_marks (F := Fq none) (n := 0) hf hb trivial ?_)
  have R : Rel Pm F w0 pin ι nt (argsEnv args) h { tmps := us ++ Array.replicate (fn.ntmps - us.size) undef, defers := [] } w := by
    refine ⟨HH, fun t c ht => ?_, MkOk.nil, ?_⟩
    · obtain ⟨_, h2⟩ := look_argsEnv args 0 t c ht
      rw [Nat.sub_zero] at h2
      have hlt : t < us.size := by rw [HA.1]; exact (List.getElem?_eq_some_iff.1 h2).1
      refine ⟨us[t], ?_, HA.2 t c _ h2 (Array.getElem?_eq_getElem hlt)⟩
      show (us ++ _)[t]? = _
      rw [Array.getElem?_append_left hlt, Array.getElem?_eq_getElem hlt]
    · show nt ≤ (us ++ _).size
      have := HA.1
      simp; omega
  refine wpIn_mono (H none Pm F w0 pin ι _ w (fun _ => rfl) R) ?_
  rintro x a' w' ⟨ι', e', h', hq, R'⟩
  have fin : AOut nt tab rs Q e' h' → LeavesInM (Fq none) 0 P fn a'.tmps (fun x w' => ∃ u c h' ι', x = .returned u ∧ Q c h' ∧ HRel Pm F w0 pin ι' h' w' ∧ VRel w' F ι' c u) a'.defers .returning w' := by
    rintro ⟨e2, h2, v, h3, hk, hv, hs, hQ⟩
    obtain ⟨ι2, R2⟩ := hk Pm F w0 pin ι' a' w' R'
    refine Rn.leave_marks _ w' (fun d hd => by obtain ⟨r, h1, _, h3, _⟩ := R2.defers.all d hd; exact ⟨r, h1, h3⟩) R2.defers.apart fun w2 k1 k2 k3 k4 k5 => ?_
    have R3 := R2.left k1 k2 k3 k4 k5
    obtain ⟨u, hu, hrun⟩ := ares_rel TO R3 hr hv
    exact ⟨u, hrun, u, v, h3, only h3 ι2, rfl, hQ, R3.heap.only fun id b hb => hs.look hb, hu.only h3⟩
  cases x with
  | normal => exact fin hq
  | ret => exact fin hq
  | _ => exact hq.elim⟩
end
end Go.Proofs.Ytaecjmjdhbjbkaa.Ab

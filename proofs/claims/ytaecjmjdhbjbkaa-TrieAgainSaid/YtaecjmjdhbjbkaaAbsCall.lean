/-
  Over abstract states: append; calls; a function out of its body.
-/
import Derived.Test.YtaecjmjdhbjbkaaAbsEff
import Derived.Maps.AppendAt
import Derived.Laws.AppendOwnNone
namespace Go.Proofs.Ytaecjmjdhbjbkaa.Ab
set_option linter.unusedVariables false
open Go.RowKit

section
variable {P : Program} {nt : Nat} {T : List Nat} {e : Env} {h : Heap} {o : Oper} {tab : TTab}

/-! ### append -/
theorem DRel.one {w : World} {Fr : Nat → Prop} {d : Dat} {u : Value} (h : DRel w Fr d u) : u.oneCell' = true := by cases h <;> first | assumption | rfl
/-- What is appended: cells ds of m elements. -/
inductive Src (h : Heap) : AVal → Nat → List Dat → Prop where
  | row {id el k m : Nat} {ds : List Dat} (hb : look h id = some (.row el k m ds)) : Src h (.row id) m ds
  | dat (ds : List Dat) (m : Nat) : Src h (.d (.sl ds m)) m ds
  | nil : Src h (.d (.sc (.slice none 0 0))) 0 []
theorem Src.cells {Pm F : Nat → Prop} {w0 w : World} {pin ι : Nat → Option Value} (H : HRel Pm F w0 pin ι h w) {c : AVal} {m : Nat} {ds : List Dat} (S : Src h c m ds) {u : Value} (hv : VRel w F ι c u) :
    ∃ news : List Value, news.length = ds.length ∧ (∀ (i : Nat) (d : Dat) (x : Value), ds[i]? = some d → news[i]? = some x → DRel w (FreeB F ι) d x) ∧
      ((u = .slice none 0 0 ∧ m = 0 ∧ ds = []) ∨ ∃ b o' c', u = .slice (some ⟨b, o', none⟩) m c' ∧ ∀ (j : Nat) (x : Value), news[j]? = some x → w.cell? ⟨b, o' + j, none⟩ = some x) := by
  cases S with
  | row hb =>
    obtain ⟨v, hv', xs, hown, hl, hr⟩ := H.blk _ _ hb
    refine ⟨xs, hl, hr, ?_⟩
    cases hv with
    | row _ _ h1 h2 =>
      have := h2 v hv'
      subst this
      rcases hown.2 with ⟨h3, h4⟩ | ⟨g, cap, cur, h3, _⟩
      · left
        refine ⟨h3, h4, ?_⟩
        have := hown.1
        subst h4
        simp at this
        subst this
        cases ds with
        | nil => rfl
        | cons _ _ => simp at hl
      · right
        refine ⟨g, 0, cap, h3, fun j x hj => ?_⟩
        have := hown.cells (g := g) (by rw [h3]; rfl) j x hj
        rwa [Addr.add_mid] at this
  | dat =>
    cases hv with
    | d _ _ hd =>
      cases hd with
      | nil => exact ⟨[], rfl, by simp, .inl ⟨rfl, rfl, rfl⟩⟩
      | sl _ _ b o' cap vs hn hl hf hc hr => exact ⟨vs, hl, hr, .inr ⟨b, o', cap, rfl, hc⟩⟩
  | nil =>
    obtain ⟨rfl, _⟩ := sc_of hv
    exact ⟨[], rfl, by simp, .inl ⟨rfl, rfl, rfl⟩⟩

theorem run_app {t el : TypeId} {te te' : TE} {ty : TypeId} (w : World) (Ft : TFacts P t te) (hs : te.sh = .sl el) (Fe : TFacts P el te') (hk : 0 < te'.size) (hk2 : te'.zero.length = te'.size) (v : Value) (n : Nat) (xs : List Value) (hown : w.ownsRow 0 el te'.size v n xs) (u : Value) (m : Nat) (news : List Value)
    (hl : news.length = m * te'.size) (hu : (u = .slice none 0 0 ∧ m = 0) ∨ ∃ b o' c', u = .slice (some ⟨b, o', none⟩) m c' ∧ ∀ (j : Nat) (x : Value), news[j]? = some x → w.cell? ⟨b, o' + j, none⟩ = some x)
    (h1 : ∀ x ∈ news, x.oneCell' = true) (hn : n + m ≤ 2147483648) (hb : te'.bytes ≤ 65536) :
    ∃ v' w', (Builtin.append_ #[t, t] ty #[v, u]).run P w = .ok v' w' ∧ w'.ownsRow 0 el te'.size v' (n + m) (xs ++ news) ∧ w.grownBy w' v.ownBlock ∧ (v'.ownBlock = v.ownBlock ∨ v'.ownBlock = some w.heap.size) := by
  have hut := Ft.slice hs
  obtain ⟨z, _, hz2, i, hi, hz3, hsz, hby⟩ := Fe.zero w
  have hzs : z.cells.size = te'.size := by rw [← Array.length_toList, hz2, hk2]
  have hbb : (n + m) * te'.bytes ≤ 140737488355328 := by have := Nat.mul_le_mul hn hb; omega
  rcases hu with ⟨rfl, rfl⟩ | ⟨b, o', c', rfl, hc⟩
  · have hnn : news = [] := by simpa using hl
    subst hnn
    refine ⟨v, w, ?_, by simpa using hown, ⟨rfl, rfl, rfl, Nat.le_refl _, fun _ _ _ => rfl⟩, .inl rfl⟩
    exact run_append_owned_none (P := P) (w := w) 0 t ty el i te'.size hut hi v n xs hown
  · obtain ⟨v', w', hr, h2, h3, _, h5⟩ := run_append_own_at (P := P) w 0 t ty el i z te'.size te'.bytes hut hi hz3 hsz hby hzs hk v n xs hown ⟨b, o', none⟩ m c' news hl
      (fun j x hj => by rw [Addr.add_mid]; exact hc j x hj) h1 (by unfold maxLen; omega) hbb (Nat.zero_le _)
    exact ⟨v', w', hr, h2, h3, h5⟩

theorem own_block {w : World} {base n k : Nat} {el : TypeId} {v : Value} {xs : List Value} (h : w.ownsRow base el k v n xs) : blockOf v = v.ownBlock := by
  rcases h.2 with ⟨rfl, _⟩ | ⟨g, cap, cur, rfl, _⟩ <;> rfl
theorem own_one {w : World} {base n k : Nat} {el : TypeId} {v : Value} {xs : List Value} (h : w.ownsRow base el k v n xs) : v.oneCell' = true := by
  rcases h.2 with ⟨rfl, _⟩ | ⟨g, cap, cur, rfl, _⟩ <;> rfl

/-- The slice appended to. -/
inductive Dst (h : Heap) (el k : Nat) (rid : Nat) : AVal → Nat → List Dat → Prop where
  | row {n : Nat} {cs : List Dat} (hb : look h rid = some (.row el k n cs)) : Dst h el k rid (.row rid) n cs
  | nil : Dst h el k rid (.d (.sc (.slice none 0 0))) 0 []
theorem E_append {t el : TypeId} {te te' : TE} {d : Option Tmp} {x y : Operand} {rid n m : Nat} {cx cy : AVal} {cs ds : List Dat} (TO : TabOk P tab) (ho : o.op = .call { callee := .builtin .append, args := #[x, y], argTypes := #[t, t] }) (hdst : o.dst = d)
    (ht : tlook tab t = some te) (hs : te.sh = .sl el) (hel : tlook tab el = some te') (hk : Nat.blt 0 te'.size = true) (hk2 : Nat.beq te'.zero.length te'.size = true) (hb : Nat.ble te'.bytes 65536 = true)
    (hx : aev e x = some cx) (hy : aev e y = some cy) (D : Dst h el te'.size rid cx n cs) (S : Src h cy m ds) (hl : ds.length = m * te'.size) (hn : n + m ≤ 2147483648) (hid : Nat.blt rid 1000 = true) (hd : dstOk nt d = true) (hT : T.contains rid = true) :
    AEff P nt T e h o (fun e' h' => e' = aput d (.row rid) (killE rid e) ∧ h' = (rid, .row el te'.size (n + m) (cs ++ ds)) :: killH rid h) := fun Pm F w0 pin ι a w R K Qx hK => by
  have hid' : rid < 1000 := by simp [Nat.blt] at hid; omega
  have hk' : 0 < te'.size := by simp [Nat.blt] at hk; omega
  obtain ⟨news, hnl, hnr, hsrc⟩ := S.cells R.heap (aev_rel R.env hy)
  have hDst : ∃ xs, w.ownsRow 0 el te'.size (a.eval x) n xs ∧ xs.length = cs.length ∧ (∀ (i : Nat) (c : Dat) (u : Value), cs[i]? = some c → xs[i]? = some u → DRel w (FreeB F ι) c u) ∧
      (∀ r, blockOf (a.eval x) = some r → ∃ v, ι rid = some v ∧ blockOf v = some r) := by
    have hv := aev_rel R.env hx
    cases D with
    | row hb =>
      obtain ⟨v, hv', xs, hown, hl, hr⟩ := R.heap.blk _ _ hb
      generalize a.eval x = u at hv
      cases hv with
      | row _ _ h1 h2 =>
        have := h2 v hv'
        subst this
        exact ⟨xs, hown, hl, hr, fun r hr => ⟨_, hv', hr⟩⟩
    | nil =>
      rw [(sc_of hv).1]
      exact ⟨[], World.ownsRow_nil _ _ _ _, rfl, by simp, by simp [blockOf]⟩
  obtain ⟨xs, hown, hxl, hxr, hblk⟩ := hDst
  have hone : ∀ u ∈ news, u.oneCell' = true := fun u hu => by
    obtain ⟨i, hi⟩ := List.mem_iff_getElem?.1 hu
    have hlt : i < ds.length := by rw [← hnl]; exact (List.getElem?_eq_some_iff.1 hi).1
    exact (hnr i ds[i] u (List.getElem?_eq_getElem hlt) hi).one
  obtain ⟨v', w', hr, hown', hg, hbl⟩ := run_app (P := P) (ty := o.type) w (TO t te ht) hs (TO el te' hel) hk' (Nat.eq_of_beq_eq_true hk2) (a.eval x) n xs hown (a.eval y) m news (by rw [hnl, hl])
    (by rcases hsrc with ⟨h1, h2, _⟩ | h1; exact .inl ⟨h1, h2⟩; exact .inr h1) hone hn (Nat.le_of_ble_eq_true hb)
  have hmem : ∀ r, r < w.heap.size → (∀ v, ι rid = some v → blockOf v ≠ some r) → w'.heap[r]? = w.heap[r]? := fun r hr1 hr2 => by
    refine hg.block r hr1 fun he => ?_
    rw [← own_block hown] at he
    obtain ⟨v, h1, h2⟩ := hblk r he.symm
    exact hr2 v h1 h2
  have TT : Touch w ι rid v' w' := ⟨hg.os, hg.tape, hg.output, hg.size, hmem, fun r hr1 => by
    rw [own_block hown'] at hr1
    rcases hbl with h1 | h1
    · rw [h1, ← own_block hown] at hr1
      exact .inr (hblk r hr1)
    · rw [h1] at hr1; cases hr1; exact .inl (Nat.le_refl _)⟩
  have hrun : (execOp a.eval o).run P w = .ok (.value v') w' := by
    simp [execOp, ho, resolve, invoke, builtin, hr]
  unfold Oper.wp
  rw [hrun, Oper.upon_value, hdst]
  refine hK _ _ _ _ _ ⟨rfl, rfl⟩ ⟨R.heap.touch TT (.inl hid') ⟨xs ++ news, hown', by simp [hxl, hnl], fun i c u h1 h2 => ?_⟩, (R.env.killed TT.ext).aput hd R.size (.row rid _ (own_one hown') fun v hv => by simp [upd] at hv; exact hv), by rw [put_defers]; exact R.defers.ext TT.ext, by rw [put_size]; exact R.size⟩ ?_ (put_defers _ _ _)
  · rw [List.getElem?_append] at h1 h2
    rw [hxl] at h2
    split at h1
    · rename_i hlt; rw [if_pos hlt] at h2; exact (hxr _ _ _ h1 h2).ext TT.ext.mem TT.ext.free
    · rename_i hlt; rw [if_neg hlt] at h2; exact (hnr _ _ _ h1 h2).ext TT.ext.mem TT.ext.free
  · refine ⟨⟨hg.os, hg.tape, hg.output, hg.size, fun r hr1 hne => hmem r hr1 fun v hv => hne rid (List.contains_iff_mem.1 hT) v hv⟩, fun j _ u r hj hr1 hlt => ?_⟩
    unfold upd at hj
    split at hj
    · rename_i hjr
      cases hj
      subst hjr
      rw [own_block hown'] at hr1
      rcases hbl with h1 | h1
      · rw [h1, ← own_block hown] at hr1; exact hblk r hr1
      · rw [h1] at hr1; cases hr1; omega
    · exact ⟨u, hj, hr1⟩
end

/-! ### Calls -/
def hasAny (ids : List Nat) (c : AVal) : Bool := ids.any fun id => c.has id
def killVs (ids : List Nat) (c : AVal) : AVal := cond (hasAny ids c) .top c
def killEs (ids : List Nat) : Env → Env
  | [] => []
  | (k, c) :: r => (k, killVs ids c) :: killEs ids r
def killBs (ids : List Nat) : ABlk → ABlk
  | .var cs => .var (cs.map (killVs ids))
  | .row e k n cs => .row e k n cs
  | .map es => .map (es.map fun p => (killVs ids p.1, killVs ids p.2))
  | .mapx r bs clk es => .mapx r bs clk (es.map fun p => (killVs ids p.1, killVs ids p.2))
  | .it o => .it o
def killHs (ids : List Nat) : Heap → Heap
  | [] => []
  | (k, b) :: r => cond (ids.contains k) (killHs ids r) ((k, killBs ids b) :: killHs ids r)
theorem look_killEs (ids : List Nat) (e : Env) (t : Nat) : look (killEs ids e) t = (look e t).map (killVs ids) := by
  induction e with
  | nil => rfl
  | cons p r ih =>
    show cond _ _ _ = Option.map _ (cond _ _ _)
    cases Nat.beq p.1 t
    · exact ih
    · rfl
theorem look_killHs (ids : List Nat) (h : Heap) (t : Nat) : look (killHs ids h) t = if ids.contains t then none else (look h t).map (killBs ids) := by
  induction h with
  | nil => simp [killHs, look]
  | cons p r ih =>
    show look (cond _ _ _) t = _
    by_cases hpt : p.1 = t
    · cases hc : ids.contains p.1
      · rw [cond_false, ← hpt, look_cons_same, hc]
        show _ = Option.map _ (cond _ _ _)
        rw [beq_yes]; rfl
      · rw [cond_true, ih, ← hpt, hc]; rfl
    · have e1 : look (p :: r) t = look r t := look_cons_ne _ _ hpt
      rw [e1]
      cases hc : ids.contains p.1
      · rw [cond_false, look_cons_ne _ _ hpt, ih]
      · rw [cond_true, ih]
theorem look_append {α : Type} (l m : List (Nat × α)) (t : Nat) : look (l ++ m) t = match look l t with
    | some c => some c
    | none => look m t := by
  induction l with
  | nil => rfl
  | cons p r ih =>
    by_cases hp : p.1 = t
    · have e1 : look (p :: r) t = some p.2 := by rw [← hp]; exact look_cons_same _ _ _
      have e2 : look (p :: r ++ m) t = some p.2 := by rw [← hp]; exact look_cons_same _ _ _
      rw [e1, e2]
    · have e1 : look (p :: r) t = look r t := look_cons_ne _ _ hp
      have e2 : look (p :: r ++ m) t = look (r ++ m) t := look_cons_ne _ _ hp
      rw [e1, e2, ih]
theorem contains_keys {α : Type} (l : List (Nat × α)) (t : Nat) : (l.map (·.1)).contains t = (look l t).isSome := by
  induction l with
  | nil => rfl
  | cons p r ih =>
    by_cases h : p.1 = t
    · subst h
      have : look (p :: r) p.1 = some p.2 := look_cons_same _ _ _
      simp [this]
    · have e1 : look (p :: r) t = look r t := look_cons_ne _ _ h
      rw [e1, ← ih]
      simp [Ne.symm h]
def blkHas (id : Nat) : ABlk → Bool
  | .var cs => hasL id cs
  | .row _ _ _ _ => false
  | .map es => es.any fun p => p.1.has id || p.2.has id
  | .mapx _ _ _ es => es.any fun p => p.1.has id || p.2.has id
  | .it _ => false

section
variable {P : Program} {nt : Nat} {T : List Nat} {e : Env} {h : Heap} {o : Oper} {tab : TTab}
theorem run_callA {f : FuncId} {args : Array Operand} {ats : Array TypeId} {a : Act} {w : World} (hg : isGo P f = true) (ho : o.op = .call { callee := .value (.func f), args := args, argTypes := ats }) :
    (execOp a.eval o).run P w = .ok (.enter f (args.map a.eval)) w := by
  simp [execOp, ho, resolve, Act.eval, Deferred.ofValue, invoke, run_isGo hg]
theorem run_callV {f : FuncId} {x : Operand} {args : Array Operand} {ats : Array TypeId} {a : Act} {w : World} {C : Array Value} (hg : isGo P f = true) (ho : o.op = .call { callee := .value x, args := args, argTypes := ats }) (hx : a.eval x = .func (.func f) #[] C) :
    (execOp a.eval o).run P w = .ok (.enter f (args.map a.eval ++ C)) w := by
  simp [execOp, ho, resolve, hx, Deferred.ofValue, invoke, run_isGo hg]
/-- The callee's view of the caller's state: none of its blocks. -/
def Fc (F : Nat → Prop) (ι : Nat → Option Value) : Nat → Prop := fun r => F r ∨ ∃ id v, ι id = some v ∧ blockOf v = some r
theorem Fc_free {F : Nat → Prop} {ι : Nat → Option Value} {r : Nat} (hf : FreeB F ι r) (ι' : Nat → Option Value) (h0 : ∀ id, ι' id = none) : FreeB (Fc F ι) ι' r :=
  ⟨fun hc => hc.elim hf.1 fun ⟨id, v, h1, h2⟩ => hf.2 id v h1 h2, fun id v hv => by rw [h0] at hv; cases hv⟩
theorem free_Fc {F : Nat → Prop} {ι ι' : Nat → Option Value} {r : Nat} (hf : FreeB (Fc F ι) ι' r) : FreeB F ι r := ⟨fun h => hf.1 (.inl h), fun id v h1 h2 => hf.1 (.inr ⟨id, v, h1, h2⟩)⟩
theorem HRel.none (F : Nat → Prop) (w : World) (hF : ∀ r, F r → r < w.heap.size) : HRel (fun r => w.heap.size ≤ r) F w (fun _ => none) (fun _ => none) [] w :=
  ⟨fun _ _ h => (by cases h), fun _ _ h => (by cases h), fun _ _ _ _ _ _ h => (by cases h), fun _ _ _ h => (by cases h), rfl, rfl, rfl, Nat.le_refl _, fun _ _ _ => rfl, fun _ h => h, fun _ _ _ h => (by cases h), fun _ _ _ h => (by cases h), hF⟩
theorem args_c {w : World} {F : Nat → Prop} {ι : Nat → Option Value} {cs : List AVal} {us : Array Value} (H : ArgsRel w F ι cs us) : ArgsRel w (Fc F ι) (fun _ => none) cs us :=
  ⟨H.1, fun i c u h1 h2 => (H.2 i c u h1 h2).extF ⟨fun _ _ _ => rfl, fun r _ hf => Fc_free hf _ fun _ => rfl⟩ fun _ _ _ h => by cases h⟩
theorem HRel.grewC {F : Nat → Prop} {w w' : World} {pin ι' : Nat → Option Value} {h' : Heap} (H : HRel (fun r => w.heap.size ≤ r) F w pin ι' h' w') : Grew w w' :=
  ⟨H.os, H.tape, H.output, H.size, fun r hr => H.keep r hr (by omega)⟩
theorem args_of {w : World} {F : Nat → Prop} {ι : Nat → Option Value} {a : Act} (E : EnvRel w F ι e a) {args : Array Operand} {cs : List AVal} (h : aevs e args.toList = some cs) : ArgsRel w F ι cs (args.map a.eval) := by
  have := aevs_rel E h
  refine ⟨by simpa using this.1, fun i c u h1 h2 => this.2 i c u h1 ?_⟩
  rw [← Array.toList_map, Array.getElem?_toList]; exact h2
theorem args_app {w : World} {F : Nat → Prop} {ι : Nat → Option Value} {cs ds : List AVal} {us C : Array Value} (h1 : ArgsRel w F ι cs us) (h2 : ArgsRel w F ι ds C) : ArgsRel w F ι (cs ++ ds) (us ++ C) := by
  refine ⟨by simp [h1.1, h2.1], fun i c u hc hu => ?_⟩
  rw [List.getElem?_append] at hc
  rw [Array.getElem?_append, h1.1] at hu
  split at hc
  · rename_i hl; rw [if_pos hl] at hu; exact h1.2 _ _ _ hc hu
  · rename_i hl; rw [if_neg hl] at hu; exact h2.2 _ _ _ hc hu

/-- The caller behind a call that has made the blocks h'. -/
theorem Rel.called {Pm F : Nat → Prop} {w0 w w' : World} {pin ι ι' : Nat → Option Value} {a : Act} (R : Rel Pm F w0 pin ι nt e h a w) {h' : Heap} {c : AVal} {u : Value} (H : HRel (fun r => w.heap.size ≤ r) (Fc F ι) w (fun _ => none) ι' h' w') (hc : VRel w' (Fc F ι) ι' c u)
    (hids : (h'.map (·.1)).all (fun j => Nat.blt j 1000) = true) (hcl : ∀ id b j, look h' id = some b → blkHas j b = true → (look h' j).isSome = true) (hcc : ∀ j, c.has j = true → (look h' j).isSome = true) {d : Option Tmp} (hd : dstOk nt d = true) :
    ∃ ι2, Rel Pm F w0 pin ι2 nt (aput d c (killEs (h'.map (·.1)) e)) (h' ++ killHs (h'.map (·.1)) h) (a.put d u) w' ∧ CTo T ι w ι2 w' := by
  have G := H.grewC
  let ι2 : Nat → Option Value := fun id => if (look h' id).isSome then ι' id else ι id
  have new : ∀ id v r, (look h' id).isSome = true → ι' id = some v → blockOf v = some r → w.heap.size ≤ r := fun id v r _ hv hr => H.pm id v r hv hr
  have e1 : Ext w F ι w' ι2 := ⟨fun r hr _ => G.mem r hr, fun r hr hf => ⟨hf.1, fun id v hv hb => by
    simp only [ι2] at hv
    split at hv
    · rename_i hs; have := new id v r hs hv hb; omega
    · exact hf.2 id v hv hb⟩⟩
  have e2 : ExtF w' (Fc F ι) ι' w' F ι2 := ⟨fun _ _ _ => rfl, fun r hr hf => ⟨(free_Fc hf).1, fun id v hv hb => by
    simp only [ι2] at hv
    split at hv
    · exact hf.2 id v hv hb
    · exact (free_Fc hf).2 id v hv hb⟩⟩
  have vk : ∀ c0 u0, VRel w F ι c0 u0 → VRel w' F ι2 (killVs (h'.map (·.1)) c0) u0 := fun c0 u0 hv => by
    unfold killVs
    cases hh : hasAny (h'.map (·.1)) c0 with
    | true => exact .top _
    | false =>
      refine hv.ext e1 fun id v hi hv2 => ?_
      simp only [ι2] at hv2
      split at hv2
      · rename_i hs
        rw [← contains_keys] at hs
        have := List.any_eq_false.1 hh id (List.contains_iff_mem.1 hs)
        rw [hi] at this; exact absurd rfl this
      · exact hv2
  refine ⟨ι2, ⟨⟨?_, ?_, ?_, ?_, G.os.trans R.heap.os, G.tape.trans R.heap.tape, G.output.trans R.heap.output, Nat.le_trans R.heap.size G.size, ?_, R.heap.fresh, ?_, ?_, R.heap.forb⟩, ?_, by rw [put_defers]; exact R.defers.ext e1, by rw [put_size]; exact R.size⟩, G.ct T, fun j _ v r hj hr hlt => by
    simp only [ι2] at hj
    split at hj
    · rename_i hs; have := new j v r hs hj hr; omega
    · exact ⟨v, hj, hr⟩⟩
  · intro id b hb
    rw [look_append] at hb
    cases hl : look h' id with
    | some b' =>
      rw [hl] at hb
      cases hb
      obtain ⟨v, hv, hB⟩ := H.blk id b hl
      refine ⟨v, by simp [ι2, hl, hv], ?_⟩
      have hid : ∀ j v, blkHas j b = true → ι2 j = some v → ι' j = some v := fun j v hj hv => by
        simpa [ι2, hcl id b j hl hj] using hv
      cases b with
      | var cs =>
        obtain ⟨r, C, tt, h1, h2, h3, h4⟩ := hB
        refine ⟨r, C, tt, h1, h2, h3, fun i c u h5 h6 => (h4 i c u h5 h6).extF e2 fun j v hj hv => hid j v ?_ hv⟩
        show hasL j cs = true
        cases hh : hasL j cs with
        | true => rfl
        | false => rw [hasL_mem hh h5] at hj; cases hj
      | row el k n cs =>
        obtain ⟨xs, hown, h3, h4⟩ := hB
        exact ⟨xs, hown, h3, fun i c u h5 h6 => (h4 i c u h5 h6).ext (fun _ _ _ => rfl) e2.free⟩
      | map es =>
        obtain ⟨r, E, clk, h1, h2, h3, h4, h5⟩ := hB
        refine ⟨r, E, clk, h1, h2, h3, fun i p m h6 h7 => ⟨(h4 i p m h6 h7).1.extF e2 fun j v hj hv => hid j v ?_ hv, (h4 i p m h6 h7).2.extF e2 fun j v hj hv => hid j v ?_ hv⟩, h5⟩
        · exact List.any_eq_true.2 ⟨p, List.mem_of_getElem? h6, by simp [hj]⟩
        · exact List.any_eq_true.2 ⟨p, List.mem_of_getElem? h6, by simp [hj]⟩
      | mapx r0 bs0 clk0 es =>
        obtain ⟨E, h1, h2, h3, h4, h5⟩ := hB
        refine ⟨E, h1, h2, h3, fun i p m h6 h7 => ⟨(h4 i p m h6 h7).1.extF e2 fun j v hj hv => hid j v ?_ hv, (h4 i p m h6 h7).2.extF e2 fun j v hj hv => hid j v ?_ hv⟩, h5⟩
        · exact List.any_eq_true.2 ⟨p, List.mem_of_getElem? h6, by simp [hj]⟩
        · exact List.any_eq_true.2 ⟨p, List.mem_of_getElem? h6, by simp [hj]⟩
      | it o => exact hB
    | none =>
      rw [hl] at hb
      rw [look_killHs, contains_keys, hl] at hb
      simp only [Option.isSome_none, Bool.false_eq_true, if_false] at hb
      cases hl2 : look h id with
      | none => simp [hl2] at hb
      | some b0 =>
        simp [hl2] at hb
        subst hb
        obtain ⟨v, hv, hB⟩ := R.heap.blk id b0 hl2
        refine ⟨v, by simp [ι2, hl, hv], ?_⟩
        have hsame : ∀ r, blockOf v = some r → w'.heap[r]? = w.heap[r]? := fun r hr => G.mem r (hB.lt hr)
        cases b0 with
        | var cs =>
          obtain ⟨r, C, tt, rfl, h2, h3, h4⟩ := hB
          refine ⟨r, C, tt, rfl, (hsame r rfl).trans h2, by simpa using h3, fun i c u h5 h6 => ?_⟩
          rw [List.getElem?_map] at h5
          cases h7 : cs[i]? with
          | none => simp [h7] at h5
          | some c0 => simp [h7] at h5; subst h5; exact vk _ _ (h4 i c0 u h7 h6)
        | row el k n cs =>
          obtain ⟨xs, hown, h3, h4⟩ := hB
          refine ⟨xs, ⟨hown.1, ?_⟩, h3, fun i c u h5 h6 => (h4 i c u h5 h6).ext e1.mem e1.free⟩
          rcases hown.2 with h8 | ⟨g, cap, cur, rfl, hb, hg, rest⟩
          · exact .inl h8
          · exact .inr ⟨g, cap, cur, rfl, hb, (hsame g rfl).trans hg, rest⟩
        | map es =>
          obtain ⟨r, E, clk, rfl, h2, h3, h4, h5⟩ := hB
          refine ⟨r, E, clk, rfl, (hsame r rfl).trans h2, by simpa using h3, fun i p m h6 h7 => ?_, h5⟩
          rw [List.getElem?_map] at h6
          cases h8 : es[i]? with
          | none => simp [h8] at h6
          | some p0 => simp [h8] at h6; subst h6; exact ⟨vk _ _ (h4 i p0 m h8 h7).1, vk _ _ (h4 i p0 m h8 h7).2⟩
        | mapx r0 bs0 clk0 es =>
          obtain ⟨E, rfl, h2, h3, h4, h5⟩ := hB
          refine ⟨E, rfl, (hsame _ rfl).trans h2, by simpa using h3, fun i p m h6 h7 => ?_, h5⟩
          rw [List.getElem?_map] at h6
          cases h8 : es[i]? with
          | none => simp [h8] at h6
          | some p0 => simp [h8] at h6; subst h6; exact ⟨vk _ _ (h4 i p0 m h8 h7).1, vk _ _ (h4 i p0 m h8 h7).2⟩
        | it o => obtain ⟨r, rfl, h2⟩ := hB; exact ⟨r, rfl, (hsame r rfl).trans h2⟩
  · intro id v hv
    rw [look_append]
    cases hl : look h' id with
    | some b => exact ⟨b, rfl⟩
    | none =>
      have hv' : ι id = some v := by simpa [ι2, hl] using hv
      obtain ⟨b, hb⟩ := R.heap.dom id v hv'
      exact ⟨killBs _ b, by
        show look (killHs _ h) id = _
        rw [look_killHs, contains_keys, hl, hb]; rfl⟩
  · intro i j v v' r hij hi hj hr hr'
    simp only [ι2] at hi hj
    split at hi
    · rename_i h1
      split at hj
      · exact H.inj i j v v' r hij hi hj hr hr'
      · have := new i v r h1 hi hr; have := R.heap.lt hj hr'; omega
    · split at hj
      · rename_i h2
        have := new j v' r h2 hj hr'; have := R.heap.lt hi hr; omega
      · exact R.heap.inj i j v v' r hij hi hj hr hr'
  · intro id v r hv hr
    simp only [ι2] at hv
    split at hv
    · rename_i h1; exact R.heap.fresh r (Nat.le_trans R.heap.size (new id v r h1 hv hr))
    · exact R.heap.pm id v r hv hr
  · intro r hr hn
    rw [G.mem r (Nat.lt_of_lt_of_le hr R.heap.size)]; exact R.heap.keep r hr hn
  · intro id v h1 hv
    simp only [ι2] at hv
    split at hv
    · rename_i h2
      rw [← contains_keys] at h2
      have := List.all_eq_true.1 hids id (List.contains_iff_mem.1 h2)
      simp [Nat.blt] at this; omega
    · exact R.heap.pinned id v h1 hv
  · intro id v r hv hr hF
    simp only [ι2] at hv
    split at hv
    · rename_i h1
      have := new id v r h1 hv hr; have := R.heap.forb r hF; have := R.heap.size; omega
    · exact R.heap.nf id v r hv hr hF
  · refine EnvRel.aput (fun t c0 ht => ?_) hd R.size (hc.extF e2 fun j v hj hv => by simpa [ι2, hcc j hj] using hv)
    rw [look_killEs] at ht
    cases hl : look e t with
    | none => simp [hl] at ht
    | some c1 =>
      simp [hl] at ht
      subst ht
      obtain ⟨u0, hu0, hv0⟩ := R.env t c1 hl
      exact ⟨u0, hu0, vk _ _ hv0⟩
end
end Go.Proofs.Ytaecjmjdhbjbkaa.Ab

/-
  Further rules over abstract states: 'min', slices of slices, an empty row, stores into rows, values seen otherwise.
-/
import Derived.Test.YtaecjmjdhbjbkaaAbsRules
namespace Go.Proofs.Ytaecjmjdhbjbkaa.Ab
set_option linter.unusedVariables false
open Go.RowKit

theorem TFacts.elem {P : Program} {t : TypeId} {te : TE} {el : TypeId} (F : TFacts P t te) (hs : te.sh = .sl el) : P.elem t = el := by
  have := F.slice hs
  simp [Program.elem, this]

/-! Seen otherwise -/
theorem see_pfx {xs ys : List Dat} {n : Nat} (w : World) (F : Nat → Prop) (ι : Nat → Option Value) (u : Value) (h : VRel w F ι (.d (.sl (xs ++ ys) n)) u) : VRel w F ι (.d (.sl xs n)) u := by
  cases h with
  | d _ _ hd =>
    generalize hz : xs ++ ys = zs at hd
    cases hd with
    | nil =>
      obtain ⟨h1, h2⟩ := List.append_eq_nil_iff.1 hz
      subst h1
      exact .d _ _ .nil
    | sl _ _ b o cap vs hn hl hf hc hr =>
      subst hz
      refine .d _ _ (.sl xs n b o cap (vs.take xs.length) hn (by simp at hl ⊢; omega) (fun hne => hf (by rintro rfl; simp at hne)) (fun i v hv => ?_) (fun i c v h1 h2 => ?_))
      · rw [List.getElem?_take] at hv
        split at hv
        · exact hc i v hv
        · cases hv
      · rw [List.getElem?_take] at h2
        split at h2
        · rename_i hi
          exact hr i c v (by rw [List.getElem?_append_left hi]; exact h1) h2
        · cases h2
theorem see_cut {cs : List Dat} {n m : Nat} (w : World) (F : Nat → Prop) (ι : Nat → Option Value) (u : Value) (h : VRel w F ι (.d (.cut cs n m)) u) : VRel w F ι (.d (.sl cs n)) u := by
  cases h with
  | d _ _ hd =>
    cases hd with
    | cut _ _ _ b o cap vs hn hm hl hf hc hr => exact .d _ _ (.sl cs n b o cap vs (by omega) hl hf hc hr)

section
variable {P : Program} {nt : Nat} {Q : Post} {e : Env} {h : Heap} {ops : Array Oper} {o : Oper} {rest : List Oper} {T : List Nat} {tab : TTab}
theorem O_weaken {e' : Env} {h' : Heap} {l : List Oper} (hk : AWk nt e h e' h') (H : AOps P nt ops Q l e' h') : AOps P nt ops Q l e h := fun hnd lq Pm F w0 pin ι a w R => by
  obtain ⟨ι', R'⟩ := hk Pm F w0 pin ι a w R
  exact H hnd lq Pm F w0 pin ι' a w R'
theorem Q_see {l : List Oper} {t : Nat} {c c' : AVal} (ht : look e t = some c) (hc : ∀ w F ι u, VRel w F ι c u → VRel w F ι c' u) (H : AQ P nt ops Q l ((t, c') :: e) h) : AQ P nt ops Q l e h := fun Pm F w0 pin ι a w R =>
  H Pm F w0 pin ι a w ⟨R.heap, fun s c2 hs => by
    by_cases hts : t = s
    · subst hts
      rw [look_cons_same] at hs; cases hs
      obtain ⟨u, hu, hv⟩ := R.env t c ht
      exact ⟨u, hu, hc _ _ _ _ hv⟩
    · rw [look_cons_ne _ _ hts] at hs; exact R.env s c2 hs, R.defers, R.size⟩

theorem R_min {x y : Operand} {ats : Array TypeId} {k : IntKind} {a b r : Int} (ho : o.op = .call { callee := .builtin .min, args := #[x, y], argTypes := ats }) (hx : aev e x = some (.d (.sc (.int k a)))) (hy : aev e y = some (.d (.sc (.int k b)))) (hr : (if b < a then b else a) = r) :
    AYield P T e h o (.d (.sc (.int k r))) := yield_of _ fun w F ι ac E => by
  refine ⟨.int k r, sc_rel rfl, fun w' => ?_⟩
  have h1 := (sc_of (aev_rel E hx)).1
  have h2 := (sc_of (aev_rel E hy)).1
  subst hr
  simp [execOp, ho, resolve, invoke, builtin, h1, h2, Builtin.min_, Builtin.min2]

theorem run_cutTo {t el : TypeId} {te te' : TE} (w' : World) (Ft : TFacts P t te) (hs : te.sh = .sl el) (Fe : TFacts P el te') (b : Option Addr) (hb : ∀ a, b = some a → a.add 0 = a) (n cap : Nat) (k : IntKind) (m : Nat) (hm : m ≤ cap) :
    (Instr.sliceAt t (.slice b n cap) none (some (.int k m)) none).run P w' = .ok (.slice b m cap) w' := by
  have hu := Ft.slice hs
  have he : P.elem t = el := Ft.elem hs
  rw [run_sliceAt_slice (t := t) (h := by rw [he]; exact hu), run_slice_h (P := P) (w := w') (t := t) (a := b) (len := n) (cap := cap) (ht := by rw [he]; exact hu) (kh := k) (h := (m : Int)) (by omega) (by omega), he, Fe.size]
  simp only [Result.andThen, sliced, Int.toNat_natCast, Nat.zero_mul, Nat.sub_zero]
  congr 2
  split
  · rfl
  · cases b with
    | none => rfl
    | some a => simp [hb a rfl]
theorem add0 (b o : Nat) : (⟨b, o, none⟩ : Addr).add 0 = ⟨b, o, none⟩ := rfl
/-- 'l[:m]' of data, of what is there. -/
theorem R_sliceD {t el k m : Nat} {x y : Operand} {cs : List Dat} {n : Nat} {q : IntKind} {i : Int} (TO : TabOk P tab) (ho : o.op = .slice t x none (some y) none) (hel : telem tab t = some el) (hsz : tsize tab el = some k) (hx : aev e x = some (.d (.sl cs n))) (hy : aev e y = some (.d (.sc (.int q i)))) (hi : i = (m : Int)) (hm : m ≤ n) :
    AYield P T e h o (.d (.sl cs m)) := by
  obtain ⟨te, h1, h2⟩ := telem_spec hel
  obtain ⟨te', h3, rfl⟩ := tsize_spec hsz
  subst hi
  refine yield_of _ fun w F ι a E => ?_
  have hv := aev_rel E hx
  have hk := (sc_of (aev_rel E hy)).1
  generalize hau : a.eval x = u at hv
  cases hv with
  | d _ _ hd =>
    cases hd with
    | nil =>
      have : m = 0 := by omega
      subst this
      exact ⟨_, .d _ _ .nil, fun w' => by simp only [execOp, ho, hau]; simp [hk]; rw [show (0 : Int) = ((0 : Nat) : Int) from rfl, run_cutTo w' (TO t te h1) h2 (TO el te' h3) none (fun a h => by cases h) 0 0 q 0 (Nat.le_refl _)]; rfl⟩
    | sl _ _ b off cap vs hn hl hf hc hr =>
      exact ⟨_, .d _ _ (.sl cs m b off cap vs (by omega) hl hf hc hr), fun w' => by simp only [execOp, ho, hau]; simp [hk]; rw [run_cutTo w' (TO t te h1) h2 (TO el te' h3) _ (fun a h => by cases h; exact add0 _ _) n cap q m (by omega)]; rfl⟩
/-- .. kept with what stands behind it. -/
theorem R_sliceC {t el k m : Nat} {x y : Operand} {cs : List Dat} {n : Nat} {q : IntKind} {i : Int} (TO : TabOk P tab) (ho : o.op = .slice t x none (some y) none) (hel : telem tab t = some el) (hsz : tsize tab el = some k) (hx : aev e x = some (.d (.sl cs n))) (hy : aev e y = some (.d (.sc (.int q i)))) (hi : i = (m : Int)) (hm : m ≤ n) (h0 : 0 < n) :
    AYield P T e h o (.d (.cut cs m n)) := by
  obtain ⟨te, h1, h2⟩ := telem_spec hel
  obtain ⟨te', h3, rfl⟩ := tsize_spec hsz
  subst hi
  refine yield_of _ fun w F ι a E => ?_
  have hv := aev_rel E hx
  have hk := (sc_of (aev_rel E hy)).1
  generalize hau : a.eval x = u at hv
  cases hv with
  | d _ _ hd =>
    cases hd with
    | nil => exact absurd h0 (by omega)
    | sl _ _ b off cap vs hn hl hf hc hr =>
      exact ⟨_, .d _ _ (.cut cs m n b off cap vs hm hn hl hf hc hr), fun w' => by simp only [execOp, ho, hau]; simp [hk]; rw [run_cutTo w' (TO t te h1) h2 (TO el te' h3) _ (fun a h => by cases h; exact add0 _ _) n cap q m (by omega)]; rfl⟩
/-- .. and made longer again. -/
theorem R_sliceX {t el k m : Nat} {x y : Operand} {cs : List Dat} {n n0 : Nat} {q : IntKind} {i : Int} (TO : TabOk P tab) (ho : o.op = .slice t x none (some y) none) (hel : telem tab t = some el) (hsz : tsize tab el = some k) (hx : aev e x = some (.d (.cut cs n0 n))) (hy : aev e y = some (.d (.sc (.int q i)))) (hi : i = (m : Int)) (hm : m ≤ n) :
    AYield P T e h o (.d (.sl cs m)) := by
  obtain ⟨te, h1, h2⟩ := telem_spec hel
  obtain ⟨te', h3, rfl⟩ := tsize_spec hsz
  subst hi
  refine yield_of _ fun w F ι a E => ?_
  have hv := aev_rel E hx
  have hk := (sc_of (aev_rel E hy)).1
  generalize hau : a.eval x = u at hv
  cases hv with
  | d _ _ hd =>
    cases hd with
    | cut _ _ _ b off cap vs hn hn2 hl hf hc hr =>
      exact ⟨_, .d _ _ (.sl cs m b off cap vs (by omega) hl hf hc hr), fun w' => by simp only [execOp, ho, hau]; simp [hk]; rw [run_cutTo w' (TO t te h1) h2 (TO el te' h3) _ (fun a h => by cases h; exact add0 _ _) n0 cap q m (by omega)]; rfl⟩

/-- 'T{}' of a slice: a row of no element. -/
theorem E_buildSlice0 {t el : TypeId} {te te' : TE} {d : Option Tmp} {id : Nat} (TO : TabOk P tab) (ho : o.op = .buildSlice t 0 #[]) (hdst : o.dst = d) (ht : tlook tab t = some te) (hs : te.sh = .sl el) (hel : tlook tab el = some te') (hid : Nat.blt id 1000 = true) (hd : dstOk nt d = true) :
    AEff P nt T e h o (fun e' h' => e' = aput d (.row id) (killE id e) ∧ h' = (id, .row el te'.size 0 []) :: killH id h) := fun Pm F w0 pin ι a w R K Qx hK => by
  have hu := (TO t te ht).slice hs
  have hb : ∀ ι', ι' = upd ι id (some (.slice (some ⟨w.heap.size, 0, none⟩) 0 0)) → Ext w F ι (w.alloc (.cells #[] el)) ι' → BRel (w.alloc (.cells #[] el)) F ι' (.row el te'.size 0 []) (.slice (some ⟨w.heap.size, 0, none⟩) 0 0) := fun ι' h0 he =>
    ⟨[], ⟨by simp, .inr ⟨w.heap.size, 0, #[], rfl, Nat.zero_le _, heap_new _ _, Nat.le_refl _, Nat.zero_le _, by simp, by simp⟩⟩, rfl, by simp⟩
  obtain ⟨hR, hC⟩ := R.new (T := T) hid hd (.cells #[] el) (.slice (some ⟨w.heap.size, 0, none⟩) 0 0) (by simp [blockOf]) _ (.row id) hb fun ι' h1 => .row id _ rfl fun v hv => by subst h1; simp [upd] at hv; exact hv
  have hrun : (execOp a.eval o).run P w = .ok (.value (.slice (some ⟨w.heap.size, 0, none⟩) 0 0)) (w.alloc (.cells #[] el)) := by
    simp only [execOp, ho]
    simp [Instr.buildSlice, run_underlying hu, (TO el te' hel).size, Instr.fill, newRow, newObj, Sem.run]
    first | rfl | (rw [show Array.range 0 = #[] from rfl]; rfl) | (rw [show Array.range 0 = #[] from by decide]; simp)
  unfold Oper.wp
  rw [hrun, Oper.upon_value, hdst]
  exact hK _ _ _ _ _ ⟨rfl, rfl⟩ hR hC (put_defers _ _ _)
theorem O_slice0 {t el k d : Nat} (TO : TabOk P tab) (hw : awant ops e o = some true) (hdst : o.dst = some d) (hd : Nat.blt d nt = true) (hid : Nat.blt d 1000 = true) (ho : o.op = .buildSlice t 0 #[]) (hel : telem tab t = some el) (hsz : tsize tab el = some k)
    (HK : AOps P nt ops Q rest ((d, .row d) :: killE d e) ((d, .row el k 0 []) :: killH d h)) : AOps P nt ops Q (o :: rest) e h := by
  obtain ⟨te, h1, h2⟩ := telem_spec hel
  obtain ⟨te', h3, rfl⟩ := tsize_spec hsz
  exact O_eff (T := []) hw (E_buildSlice0 TO ho hdst h1 h2 h3 hid hd) fun e' h' ⟨h1, h2⟩ => by subst h1 h2; exact HK

/-- 'l[i].f = x' into a row of one's own. -/
theorem E_store_eptr {t : TypeId} {x y : Operand} {d : Option Tmp} {te : TE} {id off el k n : Nat} {cs ds : List Dat} {xs : List AVal} {c : AVal} (TO : TabOk P tab) (ho : o.op = .store t x y) (hdst : o.dst = d) (ht : tlook tab t = some te) (hx : aev e x = some (.eptr id off)) (hb : look h id = some (.row el k n cs))
    (hy : aev e y = some c) (hcs : cellsA c = some xs) (hds : xs = ds.map AVal.d) (hl : xs.length = te.size) (hle : off + te.size ≤ cs.length) (h0 : 0 < n) (hd : dstOk nt d = true) (hT : T.contains id = true) :
    AEff P nt T e h o (fun e' h' => e' = aput d .und e ∧ h' = (id, .row el k n (setW cs off ds)) :: h) := fun Pm F w0 pin ι a w R K Qx hK => by
  obtain ⟨v, hv, zs, hown, hlC, hr⟩ := R.heap.blk id _ hb
  have hrel := aev_rel R.env hx
  have hyr := aev_rel R.env hy
  obtain ⟨hsz, hcr⟩ := cells_rel hyr hcs
  obtain ⟨hzl, hcase⟩ := hown
  rcases hcase with ⟨_, h9⟩ | ⟨g, cap, cur, rfl, hg0, hC, hnc, hmx, hcs2, htake⟩
  · exact absurd h0 (by omega)
  have hnk : n * k ≤ cap * k := Nat.mul_le_mul_right _ hnc
  have hle2 : off + te.size ≤ n * k := by omega
  generalize hau : a.eval x = u at hrel
  cases hrel with
  | eptr _ _ _ h1 h2 =>
    obtain ⟨g', n', cap', h3, rfl⟩ := h2 _ hv
    cases h3
    have hdl : ds.length = te.size := by rw [← hl, hds, List.length_map]
    have hone : ∀ u ∈ (a.eval y).cells.toList, u.oneCell' = true := fun u hu => by
      obtain ⟨i, hi⟩ := List.mem_iff_getElem?.1 hu
      have hlt : i < xs.length := by rw [← hsz, ← Array.length_toList]; exact (List.getElem?_eq_some_iff.1 hi).1
      have hcc := hcr i xs[i] u (List.getElem?_eq_getElem hlt) (by simpa using hi)
      have hxi : xs[i] = .d (ds[i]'(by rw [hds] at hlt; simpa using hlt)) := by subst hds; simp
      rw [hxi] at hcc
      cases hcc with
      | d _ _ hdd => exact hdd.one
    have hrun := run_storeVar (w := w) (TO t te ht) hC (a.eval y) (by rw [hsz, hl]) (by rw [hcs2]; omega) hone (off := off)
    obtain ⟨hW, hnew⟩ := wrote_setRow (C' := (setW cur.toList off (a.eval y).cells.toList).toArray) hC (v := .slice (some ⟨g, 0, none⟩) n cap) rfl
    have hlen : (a.eval y).cells.toList.length = xs.length := by simpa using hsz
    unfold Oper.wp
    have hrun2 : (execOp a.eval o).run P w = .ok .skip (w.setRow g (setW cur.toList off (a.eval y).cells.toList).toArray) := by
      simp [execOp, ho, Instr.storeAt, Instr.sureAddr, hau, hrun]
    rw [hrun2, Oper.upon_skip, hdst]
    have hcl : cur.toList.length = cap * k := by simpa using hcs2
    refine hK ι _ _ _ _ ⟨rfl, rfl⟩ ?_ ?_ (put_defers _ _ _)
    · refine ⟨R.heap.wrote hW hv ⟨(setW cur.toList off (a.eval y).cells.toList).take (n * k), ⟨?_, .inr ⟨g, cap, _, rfl, hg0, hnew, hnc, hmx, ?_, rfl⟩⟩, ?_, fun i c' u h4 h5 => ?_⟩, (R.env.mono fun _ _ _ _ hv' => hv'.wrote hW hv).aput hd R.size .und, by rw [put_defers]; exact R.defers.ext (hW.ext hv), by rw [put_size]; exact R.size⟩
      · simp [setW]; omega
      · simp [setW]; omega
      · simp [setW]; omega
      · rw [setW_get (by omega)] at h4
        rw [List.getElem?_take] at h5
        split at h5
        · rename_i hin0
          rw [setW_get (by rw [hlen]; omega), hlen] at h5
          split at h4
          · rename_i hin
            rw [if_pos (by omega)] at h5
            have := hcr (i - off) (.d c') u (by rw [hds, List.getElem?_map, h4]; rfl) (by simpa using h5)
            have := this.wrote hW hv
            cases this with
            | d _ _ hdd => exact hdd
          · rename_i hin
            rw [if_neg (by omega)] at h5
            have := (VRel.d _ _ (hr i c' u h4 (by rw [← htake, List.getElem?_take, if_pos hin0]; exact h5))).wrote hW hv
            cases this with
            | d _ _ hdd => exact hdd
        · cases h5
    · exact ⟨⟨hW.os, hW.tape, hW.output, hW.size, fun r hr hne => hW.mem r hr fun hb => hne id (List.contains_iff_mem.1 hT) _ hv hb⟩, fun j _ u r hj hr _ => ⟨u, hj, hr⟩⟩
theorem O_storee {t : TypeId} {x y : Operand} {id off s el k n : Nat} {cs ds : List Dat} {xs : List AVal} {c : AVal} (TO : TabOk P tab) (hw : awant ops e o = some true) (hdst : o.dst = none) (ho : o.op = .store t x y) (hx : aev e x = some (.eptr id off)) (hb : look h id = some (.row el k n cs))
    (hy : aev e y = some c) (hcs : cellsA c = some xs) (hds : datsA xs = some ds) (hs : tsize tab t = some s) (hl : Nat.beq xs.length s = true) (hle : off + s ≤ cs.length) (h0 : 0 < n)
    (HK : AOps P nt ops Q rest e ((id, .row el k n (setW cs off ds)) :: h)) : AOps P nt ops Q (o :: rest) e h := by
  obtain ⟨te, h1, h2⟩ := tsize_spec hs
  subst h2
  exact O_eff (T := [id]) hw (E_store_eptr TO ho hdst h1 hx hb hy hcs (datsA_spec hds) (Nat.eq_of_beq_eq_true hl) hle h0 rfl (by simp)) fun e' h' ⟨h1, h2⟩ => by subst h1 h2; exact HK
end
/-! Lending: a callee that only reads gets rows of one's own as data. -/
def lendV (h : Heap) : AVal → AVal
  | .row id => match look h id with
    | some (.row _ _ n ds) => .d (.sl ds n)
    | _ => .top
  | c => c
theorem FreeB.all (r : Nat) : FreeB (fun _ => False) (fun _ => none) r := ⟨fun h => h, fun _ _ h => by cases h⟩
theorem lend_rel {Pm F : Nat → Prop} {w0 w : World} {pin ι : Nat → Option Value} {h : Heap} (H : HRel Pm F w0 pin ι h w) {c : AVal} {u : Value} (hc : VRel w F ι c u) : VRel w (fun _ => False) (fun _ => none) (lendV h c) u := by
  have other : ∀ {c : AVal}, VRel w F ι c u → VRel w (fun _ => False) (fun _ => none) c u := fun hc => hc.extF ⟨fun _ _ _ => rfl, fun r _ _ => FreeB.all r⟩ fun _ _ _ h => by cases h
  cases c with
  | row id =>
    cases hb : look h id with
    | none => simp only [lendV, hb]; exact .top u
    | some b =>
      cases b with
      | row el k n ds =>
        obtain ⟨v, hv, xs, hown, hl, hr⟩ := H.blk id _ hb
        cases hc with
        | row _ _ h1 h2 =>
          have := h2 v hv
          subst this
          rcases hown.2 with ⟨h3, h4⟩ | ⟨g, cap, cur, h3, _, hg, hn, _, hs, ht⟩
          · subst h3 h4
            have hx := hown.1
            rw [Nat.zero_mul] at hx
            have : ds = [] := List.length_eq_zero_iff.1 (by omega)
            subst this
            simp only [lendV, hb]
            exact .d _ _ .nil
          · subst h3
            simp only [lendV, hb]
            refine .d _ _ (.sl ds n g 0 cap xs hn hl (fun _ => FreeB.all g) (fun i x hx => ?_) fun i c x h5 h6 => (hr i c x h5 h6).ext (fun _ _ _ => rfl) fun r _ _ => FreeB.all r)
            rw [← ht, List.getElem?_take] at hx
            split at hx
            · simp only [World.cell?, hg]
              simpa using hx
            · cases hx
      | _ => simp only [lendV, hb]; exact .top u
  | _ => exact other hc
theorem args_lend {Pm F : Nat → Prop} {w0 w : World} {pin ι : Nat → Option Value} {h : Heap} (H : HRel Pm F w0 pin ι h w) {cs : List AVal} {us : Array Value} (A : ArgsRel w F ι cs us) : ArgsRel w (fun _ => False) (fun _ => none) (cs.map (lendV h)) us :=
  ⟨by rw [List.length_map]; exact A.1, fun i c u h1 h2 => by
    rw [List.getElem?_map] at h1
    cases hc : cs[i]? with
    | none => rw [hc] at h1; cases h1
    | some c' => rw [hc] at h1; cases h1; exact lend_rel H (A.2 i c' u hc h2)⟩
section
variable {P : Program} {nt : Nat} {Q : Post} {e : Env} {h : Heap} {ops : Array Oper} {o : Oper} {rest : List Oper} {T : List Nat} {tab : TTab}
theorem E_callL {f : FuncId} {args : Array Operand} {ats : Array TypeId} {cs : List AVal} {d : Option Tmp} {c : AVal} {v : Value} (ho : o.op = .call { callee := .value (.func f), args := args, argTypes := ats }) (hdst : o.dst = d) (hx : aevs e args.toList = some cs)
    (H : ACall P f (cs.map (lendV h)) [] (fun c' h' => c' = c ∧ h' = [])) (hd : dstOk nt d = true) (hc : valA c = some v) (hrel : ∀ w F ι, VRel w F ι c v) : AEff P nt T e h o (fun e' h' => e' = aput d c e ∧ h' = h) := fun Pm F w0 pin ι a w R K Qx hK => by
  unfold Oper.wp
  rw [run_callA H.1 ho, Oper.upon_enter, hdst]
  refine (H.2 _ _ w _ _ _ w (HRel.none (fun _ => False) w (fun _ h => h.elim)) (args_lend R.heap (args_of R.env hx))).mono ?_
  rintro x w' ⟨u, c', h', ι', rfl, ⟨rfl, rfl⟩, hH, hv⟩
  have := valA_rel hv hc
  subst this
  have G := hH.grewC
  exact hK ι _ _ _ w' ⟨rfl, rfl⟩ ((R.grew G).put hd (hrel _ _ _)) ⟨G.ct T, fun id _ v r h1 h2 _ => ⟨v, h1, h2⟩⟩ (put_defers _ _ _)
theorem O_cL {f : FuncId} {args : Array Operand} {ats : Array TypeId} {cs : List AVal} {c : AVal} {v : Value} {d : Nat} (hw : awant ops e o = some true) (hdst : o.dst = some d) (hd : Nat.blt d nt = true) (ho : o.op = .call { callee := .value (.func f), args := args, argTypes := ats }) (hx : aevs e args.toList = some cs)
    (H : ACall P f (cs.map (lendV h)) [] (fun c' h' => c' = c ∧ h' = [])) (hc : valA c = some v) (hrel : ∀ w F ι, VRel w F ι c v) (HK : AOps P nt ops Q rest ((d, c) :: e) h) : AOps P nt ops Q (o :: rest) e h :=
  O_eff (T := []) hw (E_callL ho hdst hx H hd hc hrel) fun e' h' ⟨h1, h2⟩ => by subst h1 h2; exact HK
theorem Q_cL {f : FuncId} {args : Array Operand} {ats : Array TypeId} {cs : List AVal} {c : AVal} {v : Value} {d : Nat} (hw : awant ops e o = some true) (hdst : o.dst = some d) (hd : Nat.blt d nt = true) (ho : o.op = .call { callee := .value (.func f), args := args, argTypes := ats }) (hx : aevs e args.toList = some cs)
    (H : ACall P f (cs.map (lendV h)) [] (fun c' h' => c' = c ∧ h' = [])) (hc : valA c = some v) (hrel : ∀ w F ι, VRel w F ι c v) (HK : AQ P nt ops Q rest ((d, c) :: e) h) : AQ P nt ops Q (o :: rest) e h := fun Pm F w0 pin ι a w R =>
  wpQuiet_step fun K hK => by
    rw [awant_rel R.env hw, if_pos rfl]
    refine ⟨v, fun w' hw' => ?_, ?_⟩
    · unfold Oper.quietAt
      rw [run_callA H.1 ho]
      refine ⟨rfl, ?_⟩
      have R' := R.grew hw'.grew
      refine (H.2 _ _ w' _ _ _ w' (HRel.none (fun _ => False) w' (fun _ h => h.elim)) (args_lend R'.heap (args_of R'.env hx))).mono ?_
      rintro x w2 ⟨u, c', h', ι', rfl, ⟨rfl, rfl⟩, hH, hv⟩
      refine ⟨by rw [valA_rel hv hc], ?_⟩
      exact (hw'.grew.trans hH.grewC).ct []
    · rw [hdst]
      exact hK _ (HK Pm F w0 pin ι _ w (R.put (d := some d) hd (hrel _ _ _)))
/-- A call that hands back a new row. -/
theorem O_cRow {f : FuncId} {args : Array Operand} {ats : Array TypeId} {cs : List AVal} {d id el k n : Nat} {ds : List Dat} (hw : awant ops e o = some true) (hdst : o.dst = some d) (hd : Nat.blt d nt = true) (ho : o.op = .call { callee := .value (.func f), args := args, argTypes := ats }) (hx : aevs e args.toList = some cs)
    (H : ACall P f cs [] (fun c' h' => c' = .row id ∧ h' = [(id, .row el k n ds)])) (hid : Nat.blt id 1000 = true) (HK : AOps P nt ops Q rest ((d, .row id) :: killEs [id] e) ((id, .row el k n ds) :: killHs [id] h)) : AOps P nt ops Q (o :: rest) e h :=
  O_eff (T := []) hw (E_callQ ho hdst hx H hd fun c' h' ⟨h1, h2⟩ => by
    subst h1 h2
    refine ⟨by simp [hid], fun j b i hb hh => ?_, fun j hj => ?_⟩
    · unfold look at hb
      cases hj : Nat.beq id j with
      | true => rw [hj] at hb; cases hb; simp [blkHas] at hh
      | false => rw [hj] at hb; cases hb
    · simp [AVal.has] at hj
      subst hj
      simp [look]) fun e' h' ⟨c, h2, ⟨h3, h4⟩, h5, h6⟩ => by subst h3 h4 h5 h6; exact HK
end
end Go.Proofs.Ytaecjmjdhbjbkaa.Ab

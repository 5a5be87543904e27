/-
  Texts of a proof, one behind the other (part 6).
-/
import Derived.WalkKit
import Derived.WalkSpells
import Derived.WalkLawsBesides
import Derived.Deep.QuietTactic
import Derived.BigQuiet
import Derived.Lib.Hide
import Derived.Lib.QuietBelow
import Derived.Maps.Own
import Derived.Maps.RangeRun
import Derived.Laws.StructEq
import Derived.Test.YtenolkolkpfjgaaGreatFt1
import Derived.Test.YtenolkolkpfjgaaGreatFt2
import Derived.Test.YtenolkolkpfjgaaGreatFt4
set_option linter.unusedVariables false
set_option linter.unusedSimpArgs false
namespace Go.Proofs.YtenolkolkpfjgaaGreat.Ab
set_option linter.unusedVariables false
set_option maxRecDepth 100000
open Go.RowKit
section
variable {P : Program} {nt : Nat} {Q : Post} {e : Env} {h : Heap} {ops : Array Oper} {o : Oper} {rest : List Oper} {T : List Nat} {tab : TTab} {fuel i : Nat} {listed : Array Bool}
theorem rowx_of {Pm F : Nat → Prop} {w0 w : World} {pin ι : Nat → Option Value} (H : HRel Pm F w0 pin ι h w) {id : Nat} {hv : Value} {el k n : Nat} {cs : List Dat} (hb : look h id = some (.rowx hv el k n cs)) :
    (∃ b c, hv = .slice b n c) ∧ (0 < n → ι id = some hv ∧ ∃ g cap, hv = .slice (some ⟨g, 0, none⟩) n cap) := by
  obtain ⟨v, hv', hB⟩ := H.blk id _ hb
  obtain ⟨rfl, xs, hown, _⟩ := hB
  rcases hown.2 with ⟨h3, h4⟩ | ⟨g, cap, cur, h3, _⟩
  · subst h4; exact ⟨⟨_, _, h3⟩, fun h => absurd h (by omega)⟩
  · exact ⟨⟨_, _, h3⟩, fun _ => ⟨hv', g, cap, h3⟩⟩
theorem R_lenx {t el el' id k n : Nat} {x : Operand} {cs : List Dat} {hv : Value} (hb : look h id = some (.rowx hv el' k n cs)) (TO : TabOk P tab) (ho : o.op = .call { callee := .builtin .len, args := #[x], argTypes := #[t] }) (hel : telem tab t = some el) (hx : aev e x = some (.d (.sc hv))) : AYield P T e h o (.d (.sc (.int .i64 (n : Int)))) := fun Pm F w0 pin ι a w H E => by
  obtain ⟨te, h1, h2⟩ := telem_spec hel
  refine ⟨.int .i64 n, sc_rel rfl, fun w' _ => ?_⟩
  obtain ⟨⟨b, c, hk⟩, _⟩ := rowx_of H hb
  have hu := (TO t te h1).slice h2
  have hxx := (sc_of (aev_rel E hx)).1
  rw [hk] at hxx
  simp [execOp, ho, resolve, invoke, builtin, hxx, Builtin.len_, run_underlying hu, goInt]
theorem R_indexx {t el el' k kk j id : Nat} {x y : Operand} {cs : List Dat} {n : Nat} {q : IntKind} {i : Int} {hv : Value} (hb : look h id = some (.rowx hv el' kk n cs)) (hjn : j < n) (TO : TabOk P tab) (ho : o.op = .indexAddr t x y) (hel : telem tab t = some el) (hsz : tsize tab el = some k) (hx : aev e x = some (.d (.sc hv))) (hy : aev e y = some (.d (.sc (.int q i)))) (hj : i = (j : Int)) :
    AYield P T e h o (.eptr id (j * k)) := fun Pm F w0 pin ι a w H E => by
  obtain ⟨te, h1, h2⟩ := telem_spec hel
  obtain ⟨te', h3, rfl⟩ := tsize_spec hsz
  obtain ⟨_, h4⟩ := rowx_of H hb
  obtain ⟨hvv, g, cap, rfl⟩ := h4 (by omega)
  have hk := (sc_of (aev_rel E hy)).1
  have hxx := (sc_of (aev_rel E hx)).1
  have hu := (TO t te h1).slice h2
  subst hj
  refine ⟨.pointer (some ⟨g, j * te'.size, none⟩), .eptr id _ _ rfl fun v' hv' => ?_, fun w' _ => ?_⟩
  · rw [hvv] at hv'; cases hv'; exact ⟨g, n, cap, rfl, rfl⟩
  · simp [execOp, ho, hxx, hk, run_indexAt w' hu (TO el te' h3) g 0 n cap q (j : Int) ⟨by omega, by omega⟩]
theorem E_store_x {t : TypeId} {x y : Operand} {d : Option Tmp} {te : TE} {id off el k n : Nat} {cs ds : List Dat} {xs : List AVal} {c : AVal} {hh : Value} (TO : TabOk P tab) (ho : o.op = .store t x y) (hdst : o.dst = d) (ht : tlook tab t = some te) (hx : aev e x = some (.eptr id off)) (hb : look h id = some (.rowx hh el k n cs))
    (hy : aev e y = some c) (hcs : cellsA c = some xs) (hds : xs = ds.map AVal.d) (hl : xs.length = te.size) (hle : off + te.size ≤ cs.length) (h0 : 0 < n) (hd : dstOk nt d = true) (hT : T.contains id = true) :
    AEff P nt T e h o (fun e' h' => e' = aput d .und e ∧ h' = (id, .rowx hh el k n (setW cs off ds)) :: h) := fun Pm F w0 pin ι a w R K Qx hK => by
  obtain ⟨v, hv, hB⟩ := R.heap.blk id _ hb
  obtain ⟨hvv, zs, hown, hlC, hr⟩ := hB
  have hrel := aev_rel R.env hx
  have hyr := aev_rel R.env hy
  obtain ⟨hsz, hcr⟩ := cells_rel hyr hcs
  obtain ⟨hzl, hcase⟩ := hown
  rcases hcase with ⟨_, h9⟩ | ⟨g, cap, cur, rfl, hg0, hC, hnc, hmx, hcs2, htake⟩
  · exact absurd h0 (by omega)
  have hnk : n * k ≤ cap * k := Nat.mul_le_mul_right _ hnc
  have hle2 : off + te.size ≤ n * k := by omega
  generalize hau : a.eval x = u at hrel
  cases hrel with
  | eptr _ _ _ h1 h2 =>
    obtain ⟨g', n', cap', h3, rfl⟩ := h2 _ hv
    cases h3
    have hdl : ds.length = te.size := by rw [← hl, hds, List.length_map]
    have hone : ∀ u ∈ (a.eval y).cells.toList, u.oneCell' = true := fun u hu => by
      obtain ⟨i, hi⟩ := List.mem_iff_getElem?.1 hu
      have hlt : i < xs.length := by rw [← hsz, ← Array.length_toList]; exact (List.getElem?_eq_some_iff.1 hi).1
      have hcc := hcr i xs[i] u (List.getElem?_eq_getElem hlt) (by simpa using hi)
      have hxi : xs[i] = .d (ds[i]'(by rw [hds] at hlt; simpa using hlt)) := by subst hds; simp
      rw [hxi] at hcc
      cases hcc with
      | d _ _ hdd => exact hdd.one
    have hrun := run_storeVar (w := w) (TO t te ht) hC (a.eval y) (by rw [hsz, hl]) (by rw [hcs2]; omega) hone (off := off)
    obtain ⟨hW, hnew⟩ := wrote_setRow (C' := (setW cur.toList off (a.eval y).cells.toList).toArray) hC (v := .slice (some ⟨g, 0, none⟩) n cap) rfl
    have hlen : (a.eval y).cells.toList.length = xs.length := by simpa using hsz
    unfold Oper.wp
    have hrun2 : (execOp a.eval o).run P w = .ok .skip (w.setRow g (setW cur.toList off (a.eval y).cells.toList).toArray) := by
      simp [execOp, ho, Instr.storeAt, Instr.sureAddr, hau, hrun]
    rw [hrun2, Oper.upon_skip, hdst]
    have hcl : cur.toList.length = cap * k := by simpa using hcs2
    refine hK ι _ _ _ _ ⟨rfl, rfl⟩ ?_ ?_ (put_defers _ _ _)
    · refine ⟨R.heap.wrote hW hv (⟨hvv, (setW cur.toList off (a.eval y).cells.toList).take (n * k), ⟨?_, .inr ⟨g, cap, _, rfl, hg0, hnew, hnc, hmx, ?_, rfl⟩⟩, ?_, fun i c' u h4 h5 => ?_⟩), (R.env.mono fun _ _ _ _ hv' => hv'.wrote hW hv).aput hd R.size .und, by rw [put_defers]; exact R.defers.ext (hW.ext hv), by rw [put_size]; exact R.size⟩
      · simp [setW]; omega
      · simp [setW]; omega
      · simp [setW]; omega
      · rw [setW_get (by omega)] at h4
        rw [List.getElem?_take] at h5
        split at h5
        · rename_i hin0
          rw [setW_get (by rw [hlen]; omega), hlen] at h5
          split at h4
          · rename_i hin
            rw [if_pos (by omega)] at h5
            have := hcr (i - off) (.d c') u (by rw [hds, List.getElem?_map, h4]; rfl) (by simpa using h5)
            have := this.wrote hW hv
            cases this with
            | d _ _ hdd => exact hdd
          · rename_i hin
            rw [if_neg (by omega)] at h5
            have := (VRel.d _ _ (hr i c' u h4 (by rw [← htake, List.getElem?_take, if_pos hin0]; exact h5))).wrote hW hv
            cases this with
            | d _ _ hdd => exact hdd
        · cases h5
    · exact ⟨⟨hW.os, hW.tape, hW.output, hW.size, fun r hr hne => hW.mem r hr fun hb => hne id (List.contains_iff_mem.1 hT) _ hv hb⟩, fun j _ u r hj hr _ => ⟨u, hj, hr⟩⟩
theorem O_storex {t : TypeId} {x y : Operand} {id off s el k n : Nat} {cs ds : List Dat} {xs : List AVal} {c : AVal} {hh : Value} (hb : look h id = some (.rowx hh el k n cs)) (hle : off + s ≤ cs.length) (h0 : 0 < n) (TO : TabOk P tab) (hw : awant ops e o = some true) (hdst : o.dst = none) (ho : o.op = .store t x y) (hx : aev e x = some (.eptr id off))
    (hy : aev e y = some c) (hcs : cellsA c = some xs) (hds : datsA xs = some ds) (hs : tsize tab t = some s) (hl : Nat.beq xs.length s = true)
    (HK : AOps P nt ops Q rest e ((id, .rowx hh el k n (setW cs off ds)) :: h)) : AOps P nt ops Q (o :: rest) e h := by
  obtain ⟨te, h1, h2⟩ := tsize_spec hs
  subst h2
  exact O_eff (T := [id]) hw (E_store_x TO ho hdst h1 hx hb hy hcs (datsA_spec hds) (Nat.eq_of_beq_eq_true hl) hle h0 rfl (by simp)) fun e' h' ⟨h1, h2⟩ => by subst h1 h2; exact HK

end
end Go.Proofs.YtenolkolkpfjgaaGreat.Ab

namespace Go.Proofs.YtenolkolkpfjgaaGreat
open Go.RowKit Go.Sort

theorem ret_int {k : IntKind} {a b : Int} (h : a = b) : Ending.returned (.int k a) = .returned (.int k b) := by rw [h]
def Ret (w : World) (v : Value) (e : Ending) (w' : World) : Prop := e = .returned v ∧ Below w.heap.size w w'
def RetS (w : World) (v : Value) (e : Ending) (w' : World) : Prop := e = .returned v ∧ w = w'

section
variable {P : Program} {f : FuncId} {args : Array Value} {w w' w1 : World} {v : Value}
theorem Ret.of_same (h : Calls P f args w (RetS w v)) : Calls P f args w (Ret w v) :=
  h.mono fun _ _ ⟨he, hw⟩ => ⟨he, hw ▸ Below.refl _ _⟩
theorem Ret.q {d : Nat} {os : Array Obj} (h : ∀ W, Below w.heap.size w W → Calls P f args W (Ret W v)) :
    Calls P f args (grow (redrawn w d) os) fun e w'' => e = .returned v ∧ ∃ p : Regrown, w'' = grow (redrawn w p.d) p.os :=
  Calls.regrown_of (h _ (below_regrown w d os))
theorem RetS.q {d : Nat} {os : Array Obj} (h : ∀ W, Below w.heap.size w W → Calls P f args W (RetS W v)) :
    Calls P f args (grow (redrawn w d) os) fun e w'' => e = .returned v ∧ ∃ p : Regrown, w'' = grow (redrawn w p.d) p.os :=
  Calls.regrown_of (Ret.of_same (h _ (below_regrown w d os)))
theorem Ret.q0 {d : Nat} {os : Array Obj} (h : ∀ W, Calls P f args W (Ret W v)) :
    Calls P f args (grow (redrawn w d) os) fun e w'' => e = .returned v ∧ ∃ p : Regrown, w'' = grow (redrawn w p.d) p.os :=
  Calls.regrown_of (h _)
theorem RetS.q0 {d : Nat} {os : Array Obj} (h : ∀ W, Calls P f args W (RetS W v)) :
    Calls P f args (grow (redrawn w d) os) fun e w'' => e = .returned v ∧ ∃ p : Regrown, w'' = grow (redrawn w p.d) p.os :=
  Calls.regrown_of (Ret.of_same (h _))
theorem RetS.d {n : Nat} (h : Calls P f args (w.drewN n) (RetS (w.drewN n) v)) : Calls P f args (w.drewN n) fun e w'' => e = .returned v ∧ ∃ m, w'' = w.drewN m :=
  h.mono fun _ _ ⟨he, hm⟩ => ⟨he, n, hm.symm⟩
theorem RetS.dd {a n : Nat} (h : Calls P f args (w.drewN (a + n)) (RetS (w.drewN (a + n)) v)) : Calls P f args (w.drewN (a + n)) fun e w'' => e = .returned v ∧ ∃ m, w'' = w.drewN (a + m) :=
  h.mono fun _ _ ⟨he, hm⟩ => ⟨he, n, hm.symm⟩

theorem below_drewN {B : Nat} {a w : World} (h : Below B a w) (n : Nat) : Below B a (w.drewN n) := ⟨h.os, h.tape, h.output, h.size, h.block⟩
theorem below_of_regrown {w w' : World} (h : ∃ p : Regrown, w' = grow (redrawn w p.d) p.os) : Below w.heap.size w w' := by
  obtain ⟨p, rfl⟩ := h
  exact below_regrown w _ _
theorem kc {w w1 : World} (hb : Below w.heap.size w w1) {a : Addr} {v : Value} (h : w.cell? a = some v) : w1.cell? a = some v := by
  rw [hb.cell (block_lt_of_cell h)]; exact h
theorem below_trans {a b c : World} (h : Below a.heap.size a b) (k : Below b.heap.size b c) : Below a.heap.size a c := h.trans (k.mono h.size)

def Kn (w : World) (b o : Nat) (v : Value) : Prop := w.cell? ⟨b, o, none⟩ = some v ∧ w.frozen? ⟨b, o, none⟩ = false
theorem Kn.lt {b o : Nat} (h : Kn w b o v) : b < w.heap.size := block_lt_of_cell h.1
theorem Kn.keep {b o : Nat} (h : Kn w b o v) (hb : Below w.heap.size w w1) : Kn w1 b o v := ⟨kc hb h.1, (hb.frozen (p := ⟨b, o, none⟩) h.lt).trans h.2⟩
theorem Kn.cell {b o : Nat} (h : Kn w b o v) : w.cell? ⟨b, o, none⟩ = some v := h.1
theorem Kn.free {b o : Nat} (h : Kn w b o v) : w.frozen? ⟨b, o, none⟩ = false := h.2
theorem Kn.new {cs : Array Value} {t : TypeId} {j : Nat} {u : Value} (h : cs[j]? = some u) : Kn (w.alloc (.cells cs t)) w.heap.size j u := by
  constructor
  · simp [World.cell?_alloc_at, h]
  · simp
theorem Kn.alloc {b o : Nat} (h : Kn w b o v) (x : Obj) : Kn (w.alloc x) b o v := by
  have hl := h.lt
  exact ⟨(World.cell?_alloc_lt w x ⟨b, o, none⟩ hl).trans h.1, (World.frozen?_alloc_old w x ⟨b, o, none⟩ (Nat.ne_of_lt hl)).trans h.2⟩
end

end Go.Proofs.YtenolkolkpfjgaaGreat

namespace Go.Proofs.YtenolkolkpfjgaaGreat
set_option linter.unusedVariables false
set_option linter.unusedSectionVars false
open Go.RowKit Go.Sort

section
variable {κ ν : Type} [DecidableEq κ]
def mget : List (κ × ν) → κ → Option (Nat × ν)
  | [], _ => none
  | (k', v) :: r, k => if k = k' then some (0, v) else (mget r k).map fun x => (x.1 + 1, x.2)
def aget (l : List (κ × ν)) (k : κ) : Option ν := (mget l k).map (·.2)
def aput (l : List (κ × ν)) (k : κ) (v : ν) : List (κ × ν) := match mget l k with
  | some (i, _) => l.set i (k, v)
  | none => l ++ [(k, v)]
def adel (l : List (κ × ν)) (k : κ) : List (κ × ν) := match mget l k with
  | some (i, _) => l.eraseIdx i
  | none => l

theorem mget_some {l : List (κ × ν)} {k : κ} {i : Nat} {v : ν} (h : mget l k = some (i, v)) : l[i]? = some (k, v) := by
  induction l generalizing i with
  | nil => cases h
  | cons p r ih =>
    obtain ⟨k', v'⟩ := p
    unfold mget at h
    split at h
    · rename_i e
      injection h with h
      injection h with h1 h2
      subst h1 h2 e
      rfl
    · cases hr : mget r k with
      | none => simp [hr] at h
      | some x =>
        simp only [hr, Option.map_some, Option.some.injEq, Prod.mk.injEq] at h
        obtain ⟨rfl, rfl⟩ := h
        simpa using ih hr
theorem mget_none {l : List (κ × ν)} {k : κ} (h : mget l k = none) : ∀ p ∈ l, p.1 ≠ k := by
  induction l with
  | nil => intro p hp; cases hp
  | cons q r ih =>
    obtain ⟨k', v'⟩ := q
    unfold mget at h
    split at h
    · cases h
    · rename_i hne
      intro p hp
      rcases List.mem_cons.1 hp with rfl | hp
      · exact fun e => hne e.symm
      · exact ih (by simpa using h) p hp
theorem aget_none {l : List (κ × ν)} {k : κ} (h : aget l k = none) : ∀ p ∈ l, p.1 ≠ k := mget_none (by simpa [aget] using h)
theorem mem_of_aget {l : List (κ × ν)} {k : κ} {v : ν} (h : aget l k = some v) : (k, v) ∈ l := by
  unfold aget at h
  cases hm : mget l k with
  | none => simp [hm] at h
  | some x =>
    obtain ⟨i, u⟩ := x
    simp [hm] at h
    subst h
    exact List.mem_of_getElem? (mget_some hm)
theorem aget_of_mem {l : List (κ × ν)} (hn : (l.map (·.1)).Nodup) {k : κ} {v : ν} (h : (k, v) ∈ l) : aget l k = some v := by
  cases hg : aget l k with
  | none => exact absurd rfl (aget_none hg _ h)
  | some u =>
    have h2 := mem_of_aget hg
    have : ∀ {l : List (κ × ν)}, (l.map (·.1)).Nodup → ∀ {u v : ν}, (k, u) ∈ l → (k, v) ∈ l → u = v := by
      intro l
      induction l with
      | nil => intro _ u v h; cases h
      | cons p r ih =>
        intro hn u v hu hv
        rw [List.map_cons, List.nodup_cons] at hn
        rcases List.mem_cons.1 hu with hu | hu
        · rcases List.mem_cons.1 hv with hv | hv
          · rw [← hu] at hv; injection hv with _ h; exact h.symm
          · exact absurd (List.mem_map.2 ⟨_, hv, by rw [← hu]⟩) hn.1
        · rcases List.mem_cons.1 hv with hv | hv
          · exact absurd (List.mem_map.2 ⟨_, hu, by rw [← hv]⟩) hn.1
          · exact ih hn.2 hu hv
    rw [this hn h2 h]
theorem aput_length {l : List (κ × ν)} {k : κ} {v : ν} : (aput l k v).length = if (aget l k).isSome then l.length else l.length + 1 := by
  unfold aput aget
  cases h : mget l k <;> simp
theorem set_keys {l : List (κ × ν)} {k : κ} {u v : ν} {i : Nat} (h : l[i]? = some (k, u)) : (l.set i (k, v)).map (·.1) = l.map (·.1) := by
  apply List.ext_getElem?
  intro j
  rw [List.getElem?_map, List.getElem?_set, List.getElem?_map]
  split
  · rename_i e
    subst e
    obtain ⟨hlt, h2⟩ := List.getElem?_eq_some_iff.1 h
    simp [hlt, h2]
  · rfl
theorem aput_nodup {l : List (κ × ν)} {k : κ} {v : ν} (hn : (l.map (·.1)).Nodup) : ((aput l k v).map (·.1)).Nodup := by
  unfold aput
  cases h : mget l k with
  | some x => obtain ⟨i, u⟩ := x; simp only; rw [set_keys (mget_some h)]; exact hn
  | none =>
    simp only [List.map_append, List.map_cons, List.map_nil]
    rw [List.nodup_append]
    refine ⟨hn, by simp, ?_⟩
    intro a ha b hb
    simp at hb
    subst hb
    obtain ⟨p, hp, rfl⟩ := List.mem_map.1 ha
    exact mget_none h p hp
theorem adel_nodup {l : List (κ × ν)} {k : κ} (hn : (l.map (·.1)).Nodup) : ((adel l k).map (·.1)).Nodup := by
  unfold adel
  cases h : mget l k with
  | some x => obtain ⟨i, u⟩ := x; exact hn.sublist ((List.eraseIdx_sublist l i).map _)
  | none => exact hn
theorem mem_aput {l : List (κ × ν)} (hn : (l.map (·.1)).Nodup) {k : κ} {v : ν} {p : κ × ν} : p ∈ aput l k v ↔ p = (k, v) ∨ p.1 ≠ k ∧ p ∈ l := by
  have hnd := aput_nodup (k := k) (v := v) hn
  unfold aput at *
  cases h : mget l k with
  | none =>
    have hnone := mget_none h
    simp only [List.mem_append, List.mem_singleton]
    constructor
    · rintro (h1 | h1)
      · exact .inr ⟨hnone p h1, h1⟩
      · exact .inl h1
    · rintro (h1 | ⟨_, h1⟩)
      · exact .inr h1
      · exact .inl h1
  | some x =>
    obtain ⟨i, u⟩ := x
    have hi := mget_some h
    have hlt : i < l.length := (List.getElem?_eq_some_iff.1 hi).1
    simp only [h] at hnd
    simp only
    constructor
    · intro hp
      by_cases hk : p.1 = k
      · left
        have h1 : (k, v) ∈ l.set i (k, v) := List.mem_of_getElem? (i := i) (by rw [List.getElem?_set]; simp [hlt])
        have e1 := aget_of_mem hnd h1
        have e2 := aget_of_mem hnd (k := k) (v := p.2) (by rw [show (k, p.2) = p from by rw [← hk]]; exact hp)
        rw [e1] at e2
        injection e2 with e2
        rw [← hk, e2]
      · right
        refine ⟨hk, ?_⟩
        obtain ⟨j, hj⟩ := List.getElem?_of_mem hp
        rw [List.getElem?_set] at hj
        by_cases e : i = j
        · simp [e] at hj
          exact absurd (by rw [← hj.2]) hk
        · rw [if_neg e] at hj; exact List.mem_of_getElem? hj
    · rintro (h1 | ⟨hk, h1⟩)
      · subst h1
        exact List.mem_of_getElem? (i := i) (by rw [List.getElem?_set]; simp [hlt])
      · obtain ⟨j, hj⟩ := List.getElem?_of_mem h1
        refine List.mem_of_getElem? (i := j) ?_
        rw [List.getElem?_set]
        split
        · rename_i e
          subst e
          rw [hi] at hj
          injection hj with hj
          exact absurd (by rw [← hj]) hk
        · exact hj
theorem aget_iff {l : List (κ × ν)} (hn : (l.map (·.1)).Nodup) {k : κ} {v : ν} : aget l k = some v ↔ (k, v) ∈ l := ⟨mem_of_aget, aget_of_mem hn⟩
theorem aget_aput {l : List (κ × ν)} (hn : (l.map (·.1)).Nodup) {k k' : κ} {v : ν} : aget (aput l k v) k' = if k' = k then some v else aget l k' := by
  apply Option.ext
  intro u
  rw [aget_iff (aput_nodup hn), mem_aput hn]
  split
  · rename_i e
    subst e
    simp [eq_comm]
  · rename_i e
    rw [aget_iff hn]
    simp [e]
end
end Go.Proofs.YtenolkolkpfjgaaGreat

namespace Go.Proofs.YtenolkolkpfjgaaGreat
set_option linter.unusedVariables false
set_option linter.unusedSectionVars false
open Go.RowKit Go.Sort Go.ChangeMaps

structure KeyLaw (P : Program) (K : TypeId) {κ : Type} [DecidableEq κ] (ek : κ → Value) (ok : κ → Prop) : Prop where
  check : ∀ b k w, ok k → (Instr.checkKey b 10000 K (ek k)).run P w = .ok () w
  find : ∀ (k : κ) (es : List MapEntry) (l : List (κ × Value)), ok k → (∀ p ∈ l, ok p.1) → es.map (fun e => (e.key, e.val)) = l.map (fun p => (ek p.1, p.2)) → ∀ w, (Instr.findKey K (ek k) es).run P w = .ok (mget l k) w
  bits : ∀ a, ok a → Instr.sameBits 10000 (ek a) (ek a) = true

theorem KeyLaw.of_agg {P : Program} {K : TypeId} {κ : Type} [DecidableEq κ] {ek : κ → Value} {ok : κ → Prop} {fs : Array Field} (hd : P.underlying K = some (.struct fs)) (hagg : ∀ k, ∃ cs, ek k = .agg cs)
    (check : ∀ b k w, ok k → (Instr.checkKey b 10000 K (ek k)).run P w = .ok () w) (eql : ∀ a b w, ok a → ok b → (Op.equal K (ek a) (ek b)).run P w = .ok (decide (a = b)) w)
    (bits : ∀ a, ok a → Instr.sameBits 10000 (ek a) (ek a) = true) : KeyLaw P K ek ok where
  check := check
  bits := bits
  find := by
    intro k es l hk hl he w
    have ask : ∀ (es : List MapEntry) (l : List (κ × Value)) (i : Nat), (∀ p ∈ l, ok p.1) → es.map (fun e => (e.key, e.val)) = l.map (fun p => (ek p.1, p.2)) →
        (Instr.findAsking K (ek k) es i).run P w = .ok ((mget l k).map fun x => (i + x.1, x.2)) w := by
      intro es
      induction es with
      | nil =>
        intro l i _ h
        cases l with
        | nil => rfl
        | cons p r => simp at h
      | cons e es ih =>
        intro l i hl h
        cases l with
        | nil => simp at h
        | cons p r =>
          obtain ⟨k', v⟩ := p
          simp only [List.map_cons, List.cons.injEq, Prod.mk.injEq] at h
          obtain ⟨⟨h1, h2⟩, h3⟩ := h
          unfold Instr.findAsking
          rw [Sem.run_bind, h1, eql k k' w hk (hl (k', v) (by simp))]
          simp only [Result.andThen_ok]
          unfold mget
          by_cases e : k = k'
          · simp [e, h2]
          · simp only [e, decide_false, Bool.false_eq_true, if_false]
            rw [ih r (i + 1) (fun p hp => hl p (by simp [hp])) h3]
            cases mget r k with
            | none => rfl
            | some x => simp; omega
    unfold Instr.findKey
    rw [Sem.run_bind, run_underlying hd]
    simp only [Result.andThen_ok]
    cases es with
    | nil =>
      cases l with
      | nil => simp [Instr.findNow, mget]
      | cons p r => simp at he
    | cons e es =>
      obtain ⟨cs, hcs⟩ := hagg k
      have hn : Instr.findNow (.struct fs) (ek k) (e :: es) 0 = none := by
        unfold Instr.findNow
        rw [hcs]
        cases e.key <;> rfl
      rw [hn]
      simp only
      rw [ask (e :: es) l 0 hl he]
      cases mget l k with
      | none => rfl
      | some x => simp

section
variable {P : Program} {κ ν : Type} [DecidableEq κ] {ek : κ → Value} {ev : ν → Value} {w w' : World} {B : Nat} {l : List (κ × ν)}

def MapIs (ek : κ → Value) (ev : ν → Value) (w : World) (B : Nat) (l : List (κ × ν)) : Prop :=
  ∃ es clock, w.heap[B]? = some (.map es clock) ∧ es.toList.map (fun e => (e.key, e.val)) = l.map (fun p => (ek p.1, ev p.2)) ∧ (∀ e ∈ es.toList, e.born < clock) ∧ (es.toList.map (·.born)).Pairwise (· < ·) ∧ (l.map (·.1)).Nodup

theorem MapIs.nodup (h : MapIs ek ev w B l) : (l.map (·.1)).Nodup := by obtain ⟨_, _, _, _, _, _, h⟩ := h; exact h
theorem MapIs.lt (h : MapIs ek ev w B l) : B < w.heap.size := by
  obtain ⟨_, _, h, _⟩ := h
  exact (Array.getElem?_eq_some_iff.1 h).1
theorem MapIs.of_block (h : MapIs ek ev w B l) (hb : w'.heap[B]? = w.heap[B]?) : MapIs ek ev w' B l := by
  obtain ⟨es, clock, h1, h2⟩ := h
  exact ⟨es, clock, hb.trans h1, h2⟩
theorem MapIs.keep (h : MapIs ek ev w B l) (hb : Below w.heap.size w w') : MapIs ek ev w' B l := h.of_block (hb.block B h.lt)
theorem MapIs.grown {row : Option Nat} (h : MapIs ek ev w B l) (hg : w.grownBy w' row) (hr : some B ≠ row) : MapIs ek ev w' B l := h.of_block (hg.block B h.lt hr)
theorem MapIs.alloc (h : MapIs ek ev w B l) (o : Obj) : MapIs ek ev (w.alloc o) B l := h.of_block (Below.heap_alloc w o B h.lt)
theorem MapIs.drew (h : MapIs ek ev w B l) : MapIs ek ev w.drew B l := h
theorem MapIs.drewN (h : MapIs ek ev w B l) (n : Nat) : MapIs ek ev (w.drewN n) B l := h
theorem MapIs.setCell (h : MapIs ek ev w B l) (a : Addr) (u : Value) : MapIs ek ev (w.setCell a u) B l := by
  obtain ⟨es, clock, h1, h2⟩ := h
  refine ⟨es, clock, ?_, h2⟩
  by_cases e : B = a.block
  · simp only [World.setCell, Array.getElem?_modify]
    rw [if_pos e.symm, h1]; rfl
  · rw [Below.heap_setCell w a u B e]; exact h1
theorem MapIs.made (w : World) : MapIs ek ev (w.alloc (.map #[] 0)) w.heap.size [] :=
  ⟨#[], 0, heap_alloc_new w _, rfl, by simp, by simp, by simp⟩
theorem MapIs.find {K : TypeId} {ok : κ → Prop} (h : MapIs ek ev w B l) (law : KeyLaw P K ek ok) {k : κ} (hk : ok k) (hl : ∀ p ∈ l, ok p.1) :
    ∃ es clock, w.heap[B]? = some (.map es clock) ∧ (∀ W, (Instr.findKey K (ek k) es.toList).run P W = .ok ((mget l k).map fun x => (x.1, ev x.2)) W) ∧ (∀ b W, (Instr.checkKey b 10000 K (ek k)).run P W = .ok () W) := by
  obtain ⟨es, clock, h1, h2, _⟩ := h
  refine ⟨es, clock, h1, fun W => ?_, fun b W => law.check b k W hk⟩
  have e : es.toList.map (fun e => (e.key, e.val)) = (l.map (fun p => (p.1, ev p.2))).map (fun p => (ek p.1, p.2)) := by rw [h2, List.map_map]; rfl
  rw [law.find k es.toList (l.map (fun p => (p.1, ev p.2))) hk (by intro p hp; obtain ⟨q, hq, rfl⟩ := List.mem_map.1 hp; exact hl q hq) e W]
  congr 1
  have : ∀ l : List (κ × ν), mget (l.map fun p => (p.1, ev p.2)) k = (mget l k).map fun x => (x.1, ev x.2) := by
    intro l
    induction l with
    | nil => rfl
    | cons p r ih =>
      obtain ⟨k', v⟩ := p
      simp only [List.map_cons, mget]
      split
      · rfl
      · rw [ih]; cases mget r k <;> rfl
  exact this l

theorem MapIs.lookup_ok {T K E : TypeId} {ok : κ → Prop} (h : MapIs ek ev w B l) (law : KeyLaw P K ek ok) (hT : P.underlying T = some (.map K E)) {z : Value} (hz : ∀ W, (zeroValue E).run P W = .ok z W) {k : κ} (hk : ok k) (hl : ∀ p ∈ l, ok p.1) :
    (Instr.lookup T (.map (some B)) (ek k) true).run P w = .ok (.tuple #[((aget l k).map ev).getD z, .bool (aget l k).isSome]) w := by
  obtain ⟨es, clock, h1, hf, hc⟩ := h.find law hk hl
  simp only [Instr.lookup, Sem.run_bind, run_underlying hT, Result.andThen_ok, MapKept.run_getObj_map h1, Sem.run_pure, hc, hf]
  unfold aget
  cases mget l k with
  | none => simp [hz]
  | some x => simp
theorem MapIs.lookup {T K E : TypeId} {ok : κ → Prop} (h : MapIs ek ev w B l) (law : KeyLaw P K ek ok) (hT : P.underlying T = some (.map K E)) {z : Value} (hz : ∀ W, (zeroValue E).run P W = .ok z W) {k : κ} (hk : ok k) (hl : ∀ p ∈ l, ok p.1) :
    (Instr.lookup T (.map (some B)) (ek k) false).run P w = .ok (((aget l k).map ev).getD z) w := by
  obtain ⟨es, clock, h1, hf, hc⟩ := h.find law hk hl
  simp only [Instr.lookup, Sem.run_bind, run_underlying hT, Result.andThen_ok, MapKept.run_getObj_map h1, Sem.run_pure, hc, hf]
  unfold aget
  cases mget l k with
  | none => simp [hz]
  | some x => simp

theorem setBlock_grown {es : Array MapEntry} {clock : Nat} (hb : w.heap[B]? = some (.map es clock)) (o : Obj) : w.grownBy (setBlock w B o) (some B) :=
  ⟨rfl, rfl, rfl, by simp [setBlock], fun k hk hne => heap_setBlock_other hb o (fun e => hne (by rw [e]))⟩
theorem modify_map {es : Array MapEntry} {i : Nat} (g : MapEntry → MapEntry) : (es.modify i g).toList = es.toList.modify i g := by simp
theorem list_modify_set {α : Type} (l : List α) (i : Nat) (g : α → α) {x : α} (h : l[i]? = some x) : l.modify i g = l.set i (g x) := by
  apply List.ext_getElem?
  intro j
  rw [List.getElem?_modify, List.getElem?_set]
  by_cases e : i = j
  · subst e
    obtain ⟨hlt, h2⟩ := List.getElem?_eq_some_iff.1 h
    simp [hlt, h2]
  · simp [e]

theorem MapIs.update {T K E : TypeId} {ok : κ → Prop} (h : MapIs ek ev w B l) (law : KeyLaw P K ek ok) (hT : P.underlying T = some (.map K E)) {k : κ} (hk : ok k) (hl : ∀ p ∈ l, ok p.1) (v : ν) :
    ∃ w', (Instr.mapUpdate T (.map (some B)) (ek k) (ev v)).run P w = .ok () w' ∧ MapIs ek ev w' B (aput l k v) ∧ w.grownBy w' (some B) ∧ w'.heap.size = w.heap.size := by
  have hn := aput_nodup (k := k) (v := v) h.nodup
  obtain ⟨es, clock, h1, hf, hc⟩ := h.find law hk hl
  obtain ⟨es', clock', h1', h2, h3, h4, h5⟩ := h
  rw [h1] at h1'
  injection h1' with h1'
  injection h1' with e1 e2
  subst e1 e2
  simp only [Instr.mapUpdate, Sem.run_bind, run_underlying hT, Result.andThen_ok, MapKept.run_getObj_map h1, hc, hf]
  unfold aput at *
  cases hm : mget l k with
  | none =>
    simp only [Option.map_none]
    refine ⟨setBlock w B (.map (es.push { key := ek k, val := ev v, born := clock }) (clock + 1)), by rw [MapKept.run_setObj_map _ h1]; rfl, ?_, setBlock_grown h1 _, by simp [setBlock]⟩
    refine ⟨_, _, heap_setBlock_same h1 _, ?_, ?_, ?_, by simpa [hm] using hn⟩
    · simp [h2]
    · intro e he
      simp at he
      rcases he with he | rfl
      · have := h3 e (by simpa using he); omega
      · simp
    · simp only [Array.toList_push, List.map_append, List.map_cons, List.map_nil]
      rw [List.pairwise_append]
      refine ⟨h4, by simp, ?_⟩
      intro a ha b hb
      simp at hb
      subst hb
      obtain ⟨e, he, rfl⟩ := List.mem_map.1 ha
      have := h3 e he
      omega
  | some x =>
    obtain ⟨i, u⟩ := x
    simp only [Option.map_some]
    have hi := mget_some hm
    have hie : (es.toList.map (fun e => (e.key, e.val)))[i]? = some (ek k, ev u) := by rw [h2, List.getElem?_map, hi]; rfl
    rw [List.getElem?_map] at hie
    cases hee : es.toList[i]? with
    | none => simp [hee] at hie
    | some e0 =>
      simp only [hee, Option.map_some, Option.some.injEq, Prod.mk.injEq] at hie
      have hes : es[i]? = some e0 := by rw [← Array.getElem?_toList]; exact hee
      have hstay : (Instr.keyThatStays (((es[i]?).map (·.key)).getD (ek k)) (ek k)).run P w = .ok (ek k) w := by
        rw [hes]
        simp only [Option.map_some, Option.getD_some, hie.1, Instr.keyThatStays, law.bits k hk, if_true, Sem.run_pure]
      rw [Sem.run_bind, hstay]
      simp only [Result.andThen_ok]
      refine ⟨setBlock w B (.map (es.modify i fun e => { e with key := ek k, val := ev v }) clock), by rw [MapKept.run_setObj_map _ h1]; rfl, ?_, setBlock_grown h1 _, by simp [setBlock]⟩
      have hmod : (es.modify i fun e => { e with key := ek k, val := ev v }).toList = es.toList.set i { e0 with key := ek k, val := ev v } := by
        rw [modify_map, list_modify_set _ _ _ hee]
      refine ⟨_, _, heap_setBlock_same h1 _, ?_, ?_, ?_, by simpa [hm] using hn⟩
      · rw [hmod, List.map_set, h2, List.map_set]
      · rw [hmod]
        intro e he
        obtain ⟨j, hj⟩ := List.getElem?_of_mem he
        rw [List.getElem?_set] at hj
        by_cases e2 : i = j
        · subst e2
          have hlt := (List.getElem?_eq_some_iff.1 hee).1
          simp at hlt
          simp [hlt] at hj
          subst hj
          exact h3 e0 (List.mem_of_getElem? hee)
        · rw [if_neg e2] at hj
          exact h3 e (List.mem_of_getElem? hj)
      · rw [hmod, List.map_set]
        have : (es.toList.map (·.born)).set i e0.born = es.toList.map (·.born) := by
          apply List.ext_getElem?
          intro j
          rw [List.getElem?_set]
          by_cases e2 : i = j
          · subst e2
            have hlt := (List.getElem?_eq_some_iff.1 hee).1
            simp at hlt
            obtain ⟨_, h9⟩ := Array.getElem?_eq_some_iff.1 hes
            simp [hlt, h9]
          · rw [if_neg e2]
        simpa [this] using h4

theorem map_eraseIdx' {α β : Type} (f : α → β) : ∀ (l : List α) (i : Nat), (l.eraseIdx i).map f = (l.map f).eraseIdx i
  | [], _ => by simp
  | a :: r, 0 => by simp
  | a :: r, i + 1 => by simp [map_eraseIdx' f r i]
theorem MapIs.delete {T K E ty : TypeId} {ok : κ → Prop} {tk : TypeId} (h : MapIs ek ev w B l) (law : KeyLaw P K ek ok) (hT : P.underlying T = some (.map K E)) {k : κ} (hk : ok k) (hl : ∀ p ∈ l, ok p.1) :
    ∃ w', (Builtin.delete_ #[T, tk] ty #[.map (some B), ek k]).run P w = .ok (.tuple #[]) w' ∧ MapIs ek ev w' B (adel l k) ∧ w.grownBy w' (some B) ∧ w'.heap.size = w.heap.size := by
  have hn := adel_nodup (k := k) h.nodup
  obtain ⟨es, clock, h1, hf, hc⟩ := h.find law hk hl
  obtain ⟨es', clock', h1', h2, h3, h4, h5⟩ := h
  rw [h1] at h1'
  injection h1' with h1'
  injection h1' with e1 e2
  subst e1 e2
  have hg1 : (#[T, tk] : Array TypeId)[0]? = some T := rfl
  have hg2 : (#[Value.map (some B), ek k] : Array Value)[0]? = some (.map (some B)) := rfl
  have hg3 : (#[Value.map (some B), ek k] : Array Value)[1]? = some (ek k) := rfl
  simp only [Builtin.delete_, hg1, hg2, hg3, Sem.run_bind, run_underlying hT, Result.andThen_ok, MapKept.run_getObj_map h1, hc, hf]
  unfold adel at *
  cases hm : mget l k with
  | none =>
    simp only [Option.map_none]
    refine ⟨setBlock w B (.map es clock), by rw [Sem.run_bind, MapKept.run_setObj_map _ h1]; rfl, ?_, setBlock_grown h1 _, by simp [setBlock]⟩
    exact ⟨_, _, heap_setBlock_same h1 _, h2, h3, h4, h5⟩
  | some x =>
    obtain ⟨i, u⟩ := x
    simp only [Option.map_some]
    refine ⟨setBlock w B (.map (es.eraseIdxIfInBounds i) clock), by rw [Sem.run_bind, MapKept.run_setObj_map _ h1]; rfl, ?_, setBlock_grown h1 _, by simp [setBlock]⟩
    have he : (es.eraseIdxIfInBounds i).toList = es.toList.eraseIdx i := by simp
    refine ⟨_, _, heap_setBlock_same h1 _, ?_, ?_, ?_, by simpa [hm] using hn⟩
    · rw [he, map_eraseIdx', h2, map_eraseIdx']
    · rw [he]
      intro e hem
      exact h3 e ((List.eraseIdx_sublist _ _).subset hem)
    · rw [he]
      exact h4.sublist ((List.eraseIdx_sublist _ _).map _)

theorem MapIs.size (h : MapIs ek ev w B l) : ∃ es clock, w.heap[B]? = some (.map es clock) ∧ es.size = l.length := by
  obtain ⟨es, clock, h1, h2, _⟩ := h
  refine ⟨es, clock, h1, ?_⟩
  have := congrArg List.length h2
  simpa using this
end
end Go.Proofs.YtenolkolkpfjgaaGreat

namespace Go.Proofs.YtenolkolkpfjgaaGreat.Ab
set_option linter.unusedVariables false
open Go.RowKit

section
variable {P : Program} {nt : Nat} {Q : Post} {e : Env} {h : Heap} {o : Oper} {T : List Nat} {tab : TTab}
theorem ptr_some {Pm F : Nat → Prop} {w0 w : World} {pin ι : Nat → Option Value} {h : Heap} (H : HRel Pm F w0 pin ι h w) {id o1 : Nat} {u : Value} (hb : (look h id).isSome = true) (hv : VRel w F ι (.ptr id o1) u) : ∃ r, ι id = some (.pointer (some ⟨r, 0, none⟩)) ∧ u = .pointer (some ⟨r, o1, none⟩) := by
  obtain ⟨b, hb⟩ := Option.isSome_iff_exists.1 hb
  obtain ⟨v, hv2, _⟩ := H.blk id _ hb
  cases hv with
  | ptr _ _ _ h1 h2 =>
    obtain ⟨r, rfl, rfl⟩ := h2 v hv2
    exact ⟨r, hv2, rfl⟩
theorem Y_nilCheck {x : Operand} {id o1 : Nat} (ho : o.op = .nilCheck x) (hx : aev e x = some (.ptr id o1)) (hb : (look h id).isSome = true) : AYield P T e h o (.ptr id o1) := fun Pm F w0 pin ι a w H E => by
  have hv := aev_rel E hx
  obtain ⟨r, h1, h2⟩ := ptr_some H hb hv
  refine ⟨a.eval x, hv, fun w' _ => ?_⟩
  simp only [execOp, ho, h2]
  rfl
theorem run_ptr_nil {w : World} {d : Nat} {t el : TypeId} (hd : P.underlying t = some (.pointer el)) (a : Addr) : (Op.equalIn (d + 1) t (.pointer (some a)) (.pointer none)).run P w = .ok false w := by
  unfold Op.equalIn
  simp [run_underlying hd]
theorem mp_eq {w : World} {F : Nat → Prop} {ι : Nat → Option Value} {id : Nat} {u v : Value} (h : VRel w F ι (.mp id) u) (hv : ι id = some v) : u = v := by
  cases h with
  | mp _ _ _ h2 => exact h2 v hv
theorem Y_ptr_nil {op : BinOp} {t u : TypeId} {te : TE} {el : TypeId} {x : Operand} {id o1 : Nat} {r : Bool} (TO : TabOk P tab) (ho : o.op = .binOp op t x (.const (.pointer none)) u) (ht : tlook tab t = some te) (hs : te.sh = .pt el) (hx : aev e x = some (.ptr id o1)) (hb : (look h id).isSome = true) (hr : (match op with | .eql => some false | .neq => some true | _ => none) = some r) :
    AYield P T e h o (.d (.sc (.bool r))) := fun Pm F w0 pin ι a w H E => by
  have hv := aev_rel E hx
  obtain ⟨rr, h1, h2⟩ := ptr_some H hb hv
  obtain ⟨d, hd, _, hh⟩ := (TO t te ht).und
  rw [hs] at hh
  cases hh
  refine ⟨.bool r, sc_rel rfl, fun w' _ => ?_⟩
  have key := run_ptr_nil (w := w') (d := 9999) hd ⟨rr, o1, none⟩
  have ev : a.eval (.const (.pointer none)) = .pointer none := rfl
  cases op <;> simp at hr <;> subst hr <;> simp only [execOp, ho, h2, ev, eqGuard, binOp, Op.equal] <;> rw [show Op.maxDepth = 9999 + 1 from rfl] <;> simp [key]
theorem Y_index_ptr {t el n : Nat} {te te' : TE} {x y : Operand} {id o1 j : Nat} {k : IntKind} {i : Int} (TO : TabOk P tab) (ho : o.op = .indexAddr t x y) (ht : tlook tab t = some te) (hs : te.sh = .ar n el) (hel : tlook tab el = some te') (hx : aev e x = some (.ptr id o1)) (hb : (look h id).isSome = true) (hy : aev e y = some (.d (.sc (.int k i)))) (hi : i = (j : Int)) (hj : j < n) :
    AYield P T e h o (.ptr id (o1 + j * te'.size)) := fun Pm F w0 pin ι a w H E => by
  have hv := aev_rel E hx
  obtain ⟨r, h1, h2⟩ := ptr_some H hb hv
  have hk := (sc_of (aev_rel E hy)).1
  obtain ⟨d, hd, _, hh⟩ := (TO t te ht).und
  rw [hs] at hh
  cases hh
  subst hi
  refine ⟨.pointer (some ⟨r, o1 + j * te'.size, none⟩), .ptr id _ _ rfl fun v hv' => ?_, fun w' _ => ?_⟩
  · rw [h1] at hv'; cases hv'; exact ⟨r, rfl, rfl⟩
  · simp [execOp, ho, h2, hk, Instr.indexAt, asIntOf, run_underlying hd, Instr.sureAddr, hj, (TO el te' hel).size, Addr.add_mid]
theorem Y_index_arr {t el n : Nat} {te te' : TE} {x y : Operand} {cs : List AVal} {c : AVal} {j : Nat} {k : IntKind} {i : Int} (TO : TabOk P tab) (ho : o.op = .index t x y) (ht : tlook tab t = some te) (hs : te.sh = .ar n el) (hel : tlook tab el = some te') (hag : te'.agg = false) (hsz : te'.size = 1) (hx : aev e x = some (.agg cs)) (hy : aev e y = some (.d (.sc (.int k i)))) (hi : i = (j : Int)) (hj : j < n) (hc : cs[j]? = some c) :
    AYield P T e h o c := yield_of _ fun w F ι a E => by
  have hv := aev_rel E hx
  have hk := (sc_of (aev_rel E hy)).1
  obtain ⟨d, hd, _, hh⟩ := (TO t te ht).und
  rw [hs] at hh
  cases hh
  subst hi
  generalize hau : a.eval x = u at hv
  cases hv with
  | agg _ C hl hr =>
    have hlt : j < C.size := by rw [hl]; exact (List.getElem?_eq_some_iff.1 hc).1
    refine ⟨C[j], hr j c C[j] hc (Array.getElem?_eq_getElem hlt), fun w' => ?_⟩
    simp [execOp, ho, hau, hk, Instr.index, asIntOf, run_underlying hd, hj, (TO el te' hel).size, part, (TO el te' hel).run_agg, hag, hsz, hlt]

variable {κ ν : Type} {ek : κ → Value} {ok : κ → Prop} {ka : κ → AVal} {xa : ν → AVal}
def ents (ka : κ → AVal) (xa : ν → AVal) (l : List (κ × ν)) : List (AVal × AVal) := l.map fun p => (ka p.1, xa p.2)
def Beside (w : World) (F : Nat → Prop) (ι : Nat → Option Value) (xa : ν → AVal) : List (κ × ν) → List (κ × Value) → Prop
  | [], [] => True
  | p :: l, q :: m => q.1 = p.1 ∧ VRel w F ι (xa p.2) q.2 ∧ Beside w F ι xa l m
  | _, _ => False
theorem Beside.keys {w : World} {F : Nat → Prop} {ι : Nat → Option Value} {l : List (κ × ν)} {m : List (κ × Value)} (h : Beside w F ι xa l m) : m.map (·.1) = l.map (·.1) := by
  induction l generalizing m with
  | nil => cases m with
    | nil => rfl
    | cons q m => cases h
  | cons p l ih => cases m with
    | nil => cases h
    | cons q m => rw [List.map_cons, List.map_cons, h.1, ih h.2.2]
theorem Beside.mget [DecidableEq κ] {w : World} {F : Nat → Prop} {ι : Nat → Option Value} {l : List (κ × ν)} {m : List (κ × Value)} (h : Beside w F ι xa l m) (k : κ) :
    (∀ i x, mget l k = some (i, x) → ∃ u, mget m k = some (i, u) ∧ VRel w F ι (xa x) u) ∧ (mget l k = none → mget m k = none) := by
  induction l generalizing m with
  | nil => cases m with
    | nil => exact ⟨fun i x h => (by cases h), fun _ => rfl⟩
    | cons q m => cases h
  | cons p l ih => cases m with
    | nil => cases h
    | cons q m =>
      obtain ⟨k1, x1⟩ := p
      obtain ⟨k2, u2⟩ := q
      obtain ⟨h1, h2, h3⟩ := h
      dsimp only at h1 h2
      subst h1
      obtain ⟨i1, i2⟩ := ih h3
      unfold Go.Proofs.YtenolkolkpfjgaaGreat.mget
      split
      · exact ⟨fun i x hx => (by cases hx; exact ⟨u2, rfl, h2⟩), fun hx => (by cases hx)⟩
      · refine ⟨fun i x hx => ?_, fun hx => ?_⟩
        · cases hm : Go.Proofs.YtenolkolkpfjgaaGreat.mget l k with
          | none => rw [hm] at hx; cases hx
          | some y =>
            rw [hm] at hx
            cases hx
            obtain ⟨u, h5, h6⟩ := i1 y.1 y.2 hm
            exact ⟨u, by rw [h5]; rfl, h6⟩
        · cases hm : Go.Proofs.YtenolkolkpfjgaaGreat.mget l k with
          | none => rw [i2 hm]; rfl
          | some y => rw [hm] at hx; cases hx
theorem Beside.aget [DecidableEq κ] {w : World} {F : Nat → Prop} {ι : Nat → Option Value} {l : List (κ × ν)} {m : List (κ × Value)} (h : Beside w F ι xa l m) (k : κ) :
    (∀ x, aget l k = some x → ∃ u, aget m k = some u ∧ VRel w F ι (xa x) u) ∧ (aget l k = none → aget m k = none) := by
  obtain ⟨h1, h2⟩ := h.mget k
  unfold Go.Proofs.YtenolkolkpfjgaaGreat.aget
  refine ⟨fun x hx => ?_, fun hx => ?_⟩
  · cases hm : Go.Proofs.YtenolkolkpfjgaaGreat.mget l k with
    | none => rw [hm] at hx; cases hx
    | some y =>
      rw [hm] at hx
      cases hx
      obtain ⟨u, h5, h6⟩ := h1 y.1 y.2 hm
      exact ⟨u, by rw [h5]; rfl, h6⟩
  · cases hm : Go.Proofs.YtenolkolkpfjgaaGreat.mget l k with
    | none => rw [h2 hm]; rfl
    | some y => rw [hm] at hx; cases hx
theorem beside_of {w : World} {F : Nat → Prop} {ι : Nat → Option Value} (hka : ∀ k, valA (ka k) = some (ek k)) (l : List (κ × ν)) (E : List MapEntry) (hl : E.length = l.length) (h : ∀ (i : Nat) (p : AVal × AVal) (m : MapEntry), (ents ka xa l)[i]? = some p → E[i]? = some m → VRel w F ι p.1 m.key ∧ VRel w F ι p.2 m.val) :
    ∃ m : List (κ × Value), Beside w F ι xa l m ∧ E.map (fun e => (e.key, e.val)) = m.map fun p => (ek p.1, p.2) := by
  induction l generalizing E with
  | nil =>
    have : E = [] := List.length_eq_zero_iff.1 hl
    subst this
    exact ⟨[], trivial, rfl⟩
  | cons p l ih => cases E with
    | nil => cases hl
    | cons q E =>
      obtain ⟨m, h1, h2⟩ := ih E (by simpa using hl) fun i p' m' a b => h (i + 1) p' m' a b
      have h0 := h 0 (ka p.1, xa p.2) q rfl rfl
      refine ⟨(p.1, q.val) :: m, ⟨rfl, h0.2, h1⟩, ?_⟩
      rw [List.map_cons, List.map_cons, h2, valA_rel h0.1 (hka p.1)]
theorem born_up (E : List MapEntry) : (∀ (i j : Nat) (m m' : MapEntry), i < j → E[i]? = some m → E[j]? = some m' → m.born < m'.born) ↔ (E.map (·.born)).Pairwise (· < ·) := by
  rw [List.pairwise_map, List.pairwise_iff_getElem]
  constructor
  · intro h i j hi hj hij
    exact h i j E[i] E[j] hij (List.getElem?_eq_getElem hi) (List.getElem?_eq_getElem hj)
  · intro h i j m m' hij h1 h2
    obtain ⟨hi, rfl⟩ := List.getElem?_eq_some_iff.1 h1
    obtain ⟨hj, rfl⟩ := List.getElem?_eq_some_iff.1 h2
    exact h i j hi hj hij
theorem map_is [DecidableEq κ] {w : World} {F : Nat → Prop} {ι : Nat → Option Value} (hka : ∀ k, valA (ka k) = some (ek k)) {l : List (κ × ν)} (hn : (l.map (·.1)).Nodup) {v : Value} (h : BRel w F ι (.map (ents ka xa l)) v) :
    ∃ B m, v = .map (some B) ∧ MapIs ek (fun u : Value => u) w B m ∧ Beside w F ι xa l m := by
  obtain ⟨r, E, clk, rfl, hc, hl, h1, h2, h3⟩ := h
  obtain ⟨m, h4, h5⟩ := beside_of hka l E.toList (by rw [Array.length_toList, hl, ents, List.length_map]) fun i p m a b => h1 i p m a (by simpa using b)
  refine ⟨r, m, rfl, ⟨E, clk, hc, h5, fun e he => ?_, (born_up _).1 fun i j m m' a b c => h2 i j m m' a (by simpa using b) (by simpa using c), by rw [h4.keys]; exact hn⟩, h4⟩
  obtain ⟨i, hi⟩ := List.getElem?_of_mem he
  exact h3 i e (by simpa using hi)
theorem mapIs_same [DecidableEq κ] {w w' : World} {B : Nat} {m : List (κ × Value)} (h : MapIs ek (fun u : Value => u) w B m) (hb : w'.heap[B]? = w.heap[B]?) : MapIs ek (fun u : Value => u) w' B m := h.of_block hb

theorem Y_lookup_in [DecidableEq κ] {t K E : Nat} {te : TE} {x y : Operand} {id : Nat} {k : κ} {l : List (κ × ν)} {z : ν} (TO : TabOk P tab) (law : KeyLaw P K ek ok) (hka : ∀ k, valA (ka k) = some (ek k)) (ho : o.op = .lookup t x y true) (ht : tlook tab t = some te) (hs : te.sh = .mp K E) (hx : aev e x = some (.mp id)) (hb : look h id = some (.map (ents ka xa l))) (hT : T.contains id = false)
    (hy : aev e y = some (ka k)) (hk : ok k) (hl : ∀ p ∈ l, ok p.1) (hn : (l.map (·.1)).Nodup) (hg : aget l k = some z) {zv : Value} (hz : ∀ W, (zeroValue E).run P W = .ok zv W) : AYield P T e h o (.tup [xa z, .d (.sc (.bool true))]) := fun Pm F w0 pin ι a w H Er => by
  obtain ⟨v, hv, hB⟩ := H.blk id _ hb
  obtain ⟨B, m, rfl, hm, hbes⟩ := map_is hka hn hB
  obtain ⟨d, hd, _, hh⟩ := (TO t te ht).und
  rw [hs] at hh
  cases hh
  have hxv := aev_rel Er hx
  have hkv := valA_rel (aev_rel Er hy) (hka k)
  obtain ⟨u, h1, h2⟩ := (hbes.aget k).1 z hg
  have hxe := mp_eq hxv hv
  refine ⟨.tuple #[u, .bool true], .tup _ _ rfl fun i c uu hi hu => ?_, fun w' hw' => ?_⟩
  · match i, hi, hu with
    | 0, hi, hu => cases hi; cases hu; exact h2
    | 1, hi, hu => cases hi; cases hu; exact sc_rel rfl
  · have hm' := mapIs_same hm (ct_same H hw' hv rfl hT)
    have := hm'.lookup_ok law hd hz hk (fun p hp => by
      have : p.1 ∈ m.map (·.1) := List.mem_map.2 ⟨p, hp, rfl⟩
      rw [hbes.keys] at this
      obtain ⟨q, hq, he⟩ := List.mem_map.1 this
      rw [← he]; exact hl q hq)
    rw [h1] at this
    simp only [execOp, ho, hxe, hkv]
    simp only [Sem.run_bind, this]
    rfl
theorem Y_lookup_out [DecidableEq κ] {t K E : Nat} {te : TE} {x y : Operand} {id : Nat} {k : κ} {l : List (κ × ν)} (TO : TabOk P tab) (law : KeyLaw P K ek ok) (hka : ∀ k, valA (ka k) = some (ek k)) (ho : o.op = .lookup t x y true) (ht : tlook tab t = some te) (hs : te.sh = .mp K E) (hx : aev e x = some (.mp id)) (hb : look h id = some (.map (ents ka xa l))) (hT : T.contains id = false)
    (hy : aev e y = some (ka k)) (hk : ok k) (hl : ∀ p ∈ l, ok p.1) (hn : (l.map (·.1)).Nodup) (hg : aget l k = none) {zv : Value} (hz : ∀ W, (zeroValue E).run P W = .ok zv W) (hz1 : zv.oneCell' = true) : AYield P T e h o (.tup [.d (.sc zv), .d (.sc (.bool false))]) := fun Pm F w0 pin ι a w H Er => by
  obtain ⟨v, hv, hB⟩ := H.blk id _ hb
  obtain ⟨B, m, rfl, hm, hbes⟩ := map_is hka hn hB
  obtain ⟨d, hd, _, hh⟩ := (TO t te ht).und
  rw [hs] at hh
  cases hh
  have hxv := aev_rel Er hx
  have hkv := valA_rel (aev_rel Er hy) (hka k)
  have h1 := (hbes.aget k).2 hg
  have hxe := mp_eq hxv hv
  refine ⟨.tuple #[zv, .bool false], .tup _ _ rfl fun i c uu hi hu => ?_, fun w' hw' => ?_⟩
  · match i, hi, hu with
    | 0, hi, hu => cases hi; cases hu; exact sc_rel hz1
    | 1, hi, hu => cases hi; cases hu; exact sc_rel rfl
  · have hm' := mapIs_same hm (ct_same H hw' hv rfl hT)
    have := hm'.lookup_ok law hd hz hk (fun p hp => by
      have : p.1 ∈ m.map (·.1) := List.mem_map.2 ⟨p, hp, rfl⟩
      rw [hbes.keys] at this
      obtain ⟨q, hq, he⟩ := List.mem_map.1 this
      rw [← he]; exact hl q hq)
    rw [h1] at this
    simp only [execOp, ho, hxe, hkv]
    simp only [Sem.run_bind, this]
    rfl
theorem Y_lookup1 [DecidableEq κ] {t K E : Nat} {te : TE} {x y : Operand} {id : Nat} {k : κ} {l : List (κ × ν)} {z : ν} (TO : TabOk P tab) (law : KeyLaw P K ek ok) (hka : ∀ k, valA (ka k) = some (ek k)) (ho : o.op = .lookup t x y false) (ht : tlook tab t = some te) (hs : te.sh = .mp K E) (hx : aev e x = some (.mp id)) (hb : look h id = some (.map (ents ka xa l))) (hT : T.contains id = false)
    (hy : aev e y = some (ka k)) (hk : ok k) (hl : ∀ p ∈ l, ok p.1) (hn : (l.map (·.1)).Nodup) (hg : aget l k = some z) {zv : Value} (hz : ∀ W, (zeroValue E).run P W = .ok zv W) : AYield P T e h o (xa z) := fun Pm F w0 pin ι a w H Er => by
  obtain ⟨v, hv, hB⟩ := H.blk id _ hb
  obtain ⟨B, m, rfl, hm, hbes⟩ := map_is hka hn hB
  obtain ⟨d, hd, _, hh⟩ := (TO t te ht).und
  rw [hs] at hh
  cases hh
  have hxv := aev_rel Er hx
  have hkv := valA_rel (aev_rel Er hy) (hka k)
  obtain ⟨u, h1, h2⟩ := (hbes.aget k).1 z hg
  have hxe := mp_eq hxv hv
  refine ⟨u, h2, fun w' hw' => ?_⟩
  have hm' := mapIs_same hm (ct_same H hw' hv rfl hT)
  have := hm'.lookup law hd hz hk (fun p hp => by
    have : p.1 ∈ m.map (·.1) := List.mem_map.2 ⟨p, hp, rfl⟩
    rw [hbes.keys] at this
    obtain ⟨q, hq, he⟩ := List.mem_map.1 this
    rw [← he]; exact hl q hq)
  rw [h1] at this
  simp only [execOp, ho, hxe, hkv]
  simp only [Sem.run_bind, this]
  rfl
theorem Beside.wrote {w w' : World} {F : Nat → Prop} {ι : Nat → Option Value} {id : Nat} {v : Value} (hW : Wrote w v w') (hv : ι id = some v) : ∀ {l : List (κ × ν)} {m : List (κ × Value)}, Beside w F ι xa l m → Beside w' F ι xa l m
  | [], [], _ => trivial
  | p :: l, q :: m, h => ⟨h.1, h.2.1.wrote hW hv, Beside.wrote hW hv h.2.2⟩
  | [], _ :: _, h => h.elim
  | _ :: _, [], h => h.elim
theorem Beside.snoc {w : World} {F : Nat → Prop} {ι : Nat → Option Value} {k : κ} {z : ν} {u : Value} (hz : VRel w F ι (xa z) u) : ∀ {l : List (κ × ν)} {m : List (κ × Value)}, Beside w F ι xa l m → Beside w F ι xa (l ++ [(k, z)]) (m ++ [(k, u)])
  | [], [], _ => ⟨rfl, hz, trivial⟩
  | p :: l, q :: m, h => ⟨h.1, h.2.1, Beside.snoc hz h.2.2⟩
  | [], _ :: _, h => h.elim
  | _ :: _, [], h => h.elim
theorem Beside.set {w : World} {F : Nat → Prop} {ι : Nat → Option Value} {k : κ} {z : ν} {u : Value} (hz : VRel w F ι (xa z) u) : ∀ (i : Nat) {l : List (κ × ν)} {m : List (κ × Value)}, Beside w F ι xa l m → Beside w F ι xa (l.set i (k, z)) (m.set i (k, u))
  | _, [], [], _ => trivial
  | 0, p :: l, q :: m, h => ⟨rfl, hz, h.2.2⟩
  | i + 1, p :: l, q :: m, h => ⟨h.1, h.2.1, Beside.set hz i h.2.2⟩
  | _, [], _ :: _, h => h.elim
  | _, _ :: _, [], h => h.elim
theorem Beside.erase {w : World} {F : Nat → Prop} {ι : Nat → Option Value} : ∀ (i : Nat) {l : List (κ × ν)} {m : List (κ × Value)}, Beside w F ι xa l m → Beside w F ι xa (l.eraseIdx i) (m.eraseIdx i)
  | _, [], [], _ => trivial
  | 0, p :: l, q :: m, h => h.2.2
  | i + 1, p :: l, q :: m, h => ⟨h.1, h.2.1, Beside.erase i h.2.2⟩
  | _, [], _ :: _, h => h.elim
  | _, _ :: _, [], h => h.elim
theorem Beside.aput [DecidableEq κ] {w : World} {F : Nat → Prop} {ι : Nat → Option Value} {k : κ} {z : ν} {u : Value} (hz : VRel w F ι (xa z) u) {l : List (κ × ν)} {m : List (κ × Value)} (h : Beside w F ι xa l m) : Beside w F ι xa (Go.Proofs.YtenolkolkpfjgaaGreat.aput l k z) (Go.Proofs.YtenolkolkpfjgaaGreat.aput m k u) := by
  obtain ⟨h1, h2⟩ := h.mget k
  unfold Go.Proofs.YtenolkolkpfjgaaGreat.aput
  cases hm : Go.Proofs.YtenolkolkpfjgaaGreat.mget l k with
  | none => rw [h2 hm]; exact Beside.snoc hz h
  | some y =>
    obtain ⟨i, x⟩ := y
    obtain ⟨u', h5, _⟩ := h1 i x hm
    rw [h5]
    exact Beside.set hz i h
theorem Beside.adel [DecidableEq κ] {w : World} {F : Nat → Prop} {ι : Nat → Option Value} {k : κ} {l : List (κ × ν)} {m : List (κ × Value)} (h : Beside w F ι xa l m) : Beside w F ι xa (Go.Proofs.YtenolkolkpfjgaaGreat.adel l k) (Go.Proofs.YtenolkolkpfjgaaGreat.adel m k) := by
  obtain ⟨h1, h2⟩ := h.mget k
  unfold Go.Proofs.YtenolkolkpfjgaaGreat.adel
  cases hm : Go.Proofs.YtenolkolkpfjgaaGreat.mget l k with
  | none => rw [h2 hm]; exact h
  | some y =>
    obtain ⟨i, x⟩ := y
    obtain ⟨u', h5, _⟩ := h1 i x hm
    rw [h5]
    exact Beside.erase i h
theorem is_map [DecidableEq κ] {w : World} {F : Nat → Prop} {ι : Nat → Option Value} (hkv : ∀ k w F ι, VRel w F ι (ka k) (ek k)) {l : List (κ × ν)} {B : Nat} {m : List (κ × Value)} (h : MapIs ek (fun u : Value => u) w B m) (hb : Beside w F ι xa l m) : BRel w F ι (.map (ents ka xa l)) (.map (some B)) := by
  obtain ⟨E, clk, hc, h1, h2, h3, _⟩ := h
  have hlen : ∀ {l : List (κ × ν)} {m : List (κ × Value)}, Beside w F ι xa l m → m.length = l.length := fun hb => by have := congrArg List.length hb.keys; simpa using this
  have hEl : E.toList.length = m.length := by have := congrArg List.length h1; simpa using this
  refine ⟨B, E, clk, rfl, hc, by rw [← Array.length_toList, hEl, hlen hb, ents, List.length_map], fun i p e hp he => ?_, fun i j a b hij ha hb' => (born_up E.toList).2 h3 i j a b hij (by simpa using ha) (by simpa using hb'), fun i e he => h2 e (List.mem_of_getElem? (i := i) (by simpa using he))⟩
  have key : ∀ (i : Nat) {l : List (κ × ν)} {m : List (κ × Value)}, Beside w F ι xa l m → ∀ p q, l[i]? = some p → m[i]? = some q → q.1 = p.1 ∧ VRel w F ι (xa p.2) q.2 := by
    intro i
    induction i with
    | zero => intro l m hb p q hp hq; match l, m, hb with
      | a :: l, b :: m, hb => cases hp; cases hq; exact ⟨hb.1, hb.2.1⟩
      | [], [], _ => cases hp
    | succ i ih => intro l m hb p q hp hq; match l, m, hb with
      | a :: l, b :: m, hb => exact ih hb.2.2 p q (by simpa using hp) (by simpa using hq)
      | [], [], _ => cases hp
  rw [ents, List.getElem?_map] at hp
  cases hli : l[i]? with
  | none => rw [hli] at hp; cases hp
  | some p0 =>
    rw [hli] at hp
    cases hp
    have he2 : (E.toList.map (fun e => (e.key, e.val)))[i]? = some (e.key, e.val) := by rw [List.getElem?_map, Array.getElem?_toList, he]; rfl
    rw [h1, List.getElem?_map] at he2
    cases hmi : m[i]? with
    | none => rw [hmi] at he2; cases he2
    | some q =>
      rw [hmi] at he2
      simp only [Option.map_some, Option.some.injEq, Prod.mk.injEq] at he2
      obtain ⟨h5, h6⟩ := key i hb p0 q hli hmi
      rw [← he2.1, ← he2.2, h5]
      exact ⟨hkv _ _ _ _, h6⟩
theorem E_mapUpdate [DecidableEq κ] {t K E : Nat} {te : TE} {x y z : Operand} {d : Option Tmp} {id : Nat} {k : κ} {l : List (κ × ν)} {q : ν} (TO : TabOk P tab) (law : KeyLaw P K ek ok) (hka : ∀ k, valA (ka k) = some (ek k)) (hkv : ∀ k w F ι, VRel w F ι (ka k) (ek k)) (ho : o.op = .mapUpdate t x y z) (hdst : o.dst = d) (ht : tlook tab t = some te) (hs : te.sh = .mp K E) (hx : aev e x = some (.mp id)) (hb : look h id = some (.map (ents ka xa l)))
    (hy : aev e y = some (ka k)) (hq : aev e z = some (xa q)) (hk : ok k) (hl : ∀ p ∈ l, ok p.1) (hn : (l.map (·.1)).Nodup) (hd : dstOk nt d = true) (hT : T.contains id = true) :
    AEff P nt T e h o (fun e' h' => e' = aput d .und e ∧ h' = (id, .map (ents ka xa (Go.Proofs.YtenolkolkpfjgaaGreat.aput l k q))) :: h) := fun Pm F w0 pin ι a w R Kt Qx hK => by
  obtain ⟨v, hv, hB⟩ := R.heap.blk id _ hb
  obtain ⟨B, m, rfl, hm, hbes⟩ := map_is hka hn hB
  obtain ⟨dd, hdd, _, hh⟩ := (TO t te ht).und
  rw [hs] at hh
  cases hh
  have hxe := mp_eq (aev_rel R.env hx) hv
  have hye := valA_rel (aev_rel R.env hy) (hka k)
  have hze := aev_rel R.env hq
  obtain ⟨w', hrun, hm', hg, hsz⟩ := hm.update law hdd hk (fun p hp => by
    have : p.1 ∈ m.map (·.1) := List.mem_map.2 ⟨p, hp, rfl⟩
    rw [hbes.keys] at this
    obtain ⟨r, hr, he⟩ := List.mem_map.1 this
    rw [← he]; exact hl r hr) (a.eval z)
  have hW : Wrote w (.map (some B)) w' := ⟨hg.os, hg.tape, hg.output, hg.size, fun r hr hne => hg.block r hr fun he => hne (by rw [blockOf]; exact he.symm)⟩
  have hrun2 : (execOp a.eval o).run P w = .ok .skip w' := by
    simp only [execOp, ho, hxe, hye, Sem.run_bind, hrun]
    rfl
  unfold Oper.wp
  rw [hrun2, Oper.upon_skip, hdst]
  refine hK ι _ _ _ w' ⟨rfl, rfl⟩ ⟨R.heap.wrote hW hv (is_map hkv hm' ((hbes.aput hze).wrote hW hv)), (R.env.mono fun _ _ _ _ hv' => hv'.wrote hW hv).aput hd R.size .und, by rw [put_defers]; exact R.defers.ext (hW.ext hv), by rw [put_size]; exact R.size⟩ ?_ (put_defers _ _ _)
  exact ⟨⟨hW.os, hW.tape, hW.output, hW.size, fun r hr hne => hW.mem r hr fun hb => hne id (List.contains_iff_mem.1 hT) _ hv hb⟩, fun j _ u r hj hr _ => ⟨u, hj, hr⟩⟩
theorem E_makeMap {t : TypeId} {d : Option Tmp} {id : Nat} (ho : o.op = .makeMap t none) (hdst : o.dst = d) (hid : Nat.blt id 1000 = true) (hd : dstOk nt d = true) : AEff P nt T e h o (fun e' h' => e' = aput d (.mp id) (killE id e) ∧ h' = (id, .map []) :: killH id h) := fun Pm F w0 pin ι a w R K Qx hK => by
  have hb : ∀ ι', ι' = upd ι id (some (.map (some w.heap.size))) → Ext w F ι (w.alloc (.map #[] 0)) ι' → BRel (w.alloc (.map #[] 0)) F ι' (.map []) (.map (some w.heap.size)) := fun ι' h0 he =>
    ⟨w.heap.size, #[], 0, rfl, heap_new _ _, rfl, fun i p m h1 => by simp at h1, fun i j m m' _ h1 => by simp at h1, fun i m h1 => by simp at h1⟩
  obtain ⟨hR, hC⟩ := R.new (T := T) hid hd (.map #[] 0) (.map (some w.heap.size)) (by simp [blockOf]) _ (.mp id) hb fun ι' h1 => .mp id _ rfl fun v hv => by subst h1; simp [upd] at hv; exact hv
  have hrun : (execOp a.eval o).run P w = .ok (.value (.map (some w.heap.size))) (w.alloc (.map #[] 0)) := by
    simp only [execOp, ho]
    simp [Instr.makeMap, newObj, Sem.run]
  unfold Oper.wp
  rw [hrun, Oper.upon_value, hdst]
  exact hK _ _ _ _ _ ⟨rfl, rfl⟩ hR hC (put_defers _ _ _)
end
end Go.Proofs.YtenolkolkpfjgaaGreat.Ab

namespace Go.Proofs.YtenolkolkpfjgaaGreat.Ab
set_option linter.unusedVariables false
open Go.RowKit

def tmap (tab : TTab) (t : Nat) : Option (Nat × Nat) := match tlook tab t with
  | some te => match te.sh with | .mp k e => some (k, e) | _ => none
  | none => none
def tarr (tab : TTab) (t : Nat) : Option (Nat × Nat) := match tlook tab t with
  | some te => match te.sh with | .ar n e => some (n, e) | _ => none
  | none => none
def tptr (tab : TTab) (t : Nat) : Option Nat := match tlook tab t with
  | some te => match te.sh with | .pt e => some e | _ => none
  | none => none
theorem tmap_spec {tab : TTab} {t k e : Nat} (h : tmap tab t = some (k, e)) : ∃ te, tlook tab t = some te ∧ te.sh = .mp k e := by
  unfold tmap at h
  cases ht : tlook tab t with
  | none => rw [ht] at h; cases h
  | some te =>
    rw [ht] at h
    refine ⟨te, rfl, ?_⟩
    dsimp only at h
    split at h
    · rename_i hs; cases h; exact hs
    · cases h
theorem tarr_spec {tab : TTab} {t k e : Nat} (h : tarr tab t = some (k, e)) : ∃ te, tlook tab t = some te ∧ te.sh = .ar k e := by
  unfold tarr at h
  cases ht : tlook tab t with
  | none => rw [ht] at h; cases h
  | some te =>
    rw [ht] at h
    refine ⟨te, rfl, ?_⟩
    dsimp only at h
    split at h
    · rename_i hs; cases h; exact hs
    · cases h
theorem tptr_spec {tab : TTab} {t e : Nat} (h : tptr tab t = some e) : ∃ te, tlook tab t = some te ∧ te.sh = .pt e := by
  unfold tptr at h
  cases ht : tlook tab t with
  | none => rw [ht] at h; cases h
  | some te =>
    rw [ht] at h
    refine ⟨te, rfl, ?_⟩
    dsimp only at h
    split at h
    · rename_i hs; cases h; exact hs
    · cases h

section
variable {P : Program} {nt : Nat} {Q : Post} {e : Env} {h : Heap} {o : Oper} {ops : Array Oper} {rest : List Oper} {T : List Nat} {tab : TTab}
theorem R_pnil {op : BinOp} {t u el id o1 : Nat} {x : Operand} {r : Bool} (TO : TabOk P tab) (ho : o.op = .binOp op t x (.const (.pointer none)) u) (ht : tptr tab t = some el) (hx : aev e x = some (.ptr id o1)) (hb : (look h id).isSome = true) (hr : (match op with | .eql => some false | .neq => some true | _ => none) = some r) :
    AYield P T e h o (.d (.sc (.bool r))) := by
  obtain ⟨te, h1, h2⟩ := tptr_spec ht
  exact Y_ptr_nil TO ho h1 h2 hx hb hr
theorem R_ixp {t el n k id o1 j : Nat} {x y : Operand} {q : IntKind} {i : Int} (TO : TabOk P tab) (ho : o.op = .indexAddr t x y) (ht : tarr tab t = some (n, el)) (hsz : tsize tab el = some k) (hx : aev e x = some (.ptr id o1)) (hb : (look h id).isSome = true) (hy : aev e y = some (.d (.sc (.int q i)))) (hi : i = (j : Int)) (hj : j < n) :
    AYield P T e h o (.ptr id (o1 + j * k)) := by
  obtain ⟨te, h1, h2⟩ := tarr_spec ht
  obtain ⟨te', h3, rfl⟩ := tsize_spec hsz
  exact Y_index_ptr TO ho h1 h2 h3 hx hb hy hi hj
theorem R_ixa {t el n j : Nat} {x y : Operand} {cs : List AVal} {c : AVal} {q : IntKind} {i : Int} (TO : TabOk P tab) (ho : o.op = .index t x y) (ht : tarr tab t = some (n, el)) (hsz : tsize tab el = some 1) (hag : tagg tab el = some false) (hx : aev e x = some (.agg cs)) (hy : aev e y = some (.d (.sc (.int q i)))) (hi : i = (j : Int)) (hj : j < n) (hc : cs[j]? = some c) :
    AYield P T e h o c := by
  obtain ⟨te, h1, h2⟩ := tarr_spec ht
  obtain ⟨te', h3, h4⟩ := tsize_spec hsz
  obtain ⟨te2, h5, h6⟩ := tagg_spec hag
  rw [h3] at h5
  cases h5
  exact Y_index_arr TO ho h1 h2 h3 h6 h4 hx hy hi hj hc
variable {κ ν : Type} [DecidableEq κ] {ek : κ → Value} {ok : κ → Prop} {ka : κ → AVal} {xa : ν → AVal}
theorem R_lkIn {t K E id : Nat} {x y : Operand} {k : κ} {l : List (κ × ν)} {z : ν} {zv : Value} (law : KeyLaw P K ek ok) (hka : ∀ k, valA (ka k) = some (ek k)) (hz : ∀ W, (zeroValue E).run P W = .ok zv W) (hk : ok k) (hl : ∀ p ∈ l, ok p.1) (hn : (l.map (·.1)).Nodup) (hg : aget l k = some z)
    (TO : TabOk P tab) (ho : o.op = .lookup t x y true) (ht : tmap tab t = some (K, E)) (hx : aev e x = some (.mp id)) (hb : look h id = some (.map (ents ka xa l))) (hT : T.contains id = false) (hy : aev e y = some (ka k)) : AYield P T e h o (.tup [xa z, .d (.sc (.bool true))]) := by
  obtain ⟨te, h1, h2⟩ := tmap_spec ht
  exact Y_lookup_in TO law hka ho h1 h2 hx hb hT hy hk hl hn hg hz
theorem R_lkOut {t K E id : Nat} {x y : Operand} {k : κ} {l : List (κ × ν)} {zv : Value} (law : KeyLaw P K ek ok) (hka : ∀ k, valA (ka k) = some (ek k)) (hz : ∀ W, (zeroValue E).run P W = .ok zv W) (hz1 : zv.oneCell' = true) (hk : ok k) (hl : ∀ p ∈ l, ok p.1) (hn : (l.map (·.1)).Nodup) (hg : aget l k = none)
    (TO : TabOk P tab) (ho : o.op = .lookup t x y true) (ht : tmap tab t = some (K, E)) (hx : aev e x = some (.mp id)) (hb : look h id = some (.map (ents ka xa l))) (hT : T.contains id = false) (hy : aev e y = some (ka k)) : AYield P T e h o (.tup [.d (.sc zv), .d (.sc (.bool false))]) := by
  obtain ⟨te, h1, h2⟩ := tmap_spec ht
  exact Y_lookup_out TO law hka ho h1 h2 hx hb hT hy hk hl hn hg hz hz1
theorem R_lk1 {t K E id : Nat} {x y : Operand} {k : κ} {l : List (κ × ν)} {z : ν} {zv : Value} (law : KeyLaw P K ek ok) (hka : ∀ k, valA (ka k) = some (ek k)) (hz : ∀ W, (zeroValue E).run P W = .ok zv W) (hk : ok k) (hl : ∀ p ∈ l, ok p.1) (hn : (l.map (·.1)).Nodup) (hg : aget l k = some z)
    (TO : TabOk P tab) (ho : o.op = .lookup t x y false) (ht : tmap tab t = some (K, E)) (hx : aev e x = some (.mp id)) (hb : look h id = some (.map (ents ka xa l))) (hT : T.contains id = false) (hy : aev e y = some (ka k)) : AYield P T e h o (xa z) := by
  obtain ⟨te, h1, h2⟩ := tmap_spec ht
  exact Y_lookup1 TO law hka ho h1 h2 hx hb hT hy hk hl hn hg hz
theorem T_upd {fuel i : Nat} {listed : Array Bool} {t K E id : Nat} {x y z : Operand} {k : κ} {l : List (κ × ν)} {q : ν} (law : KeyLaw P K ek ok) (hka : ∀ k, valA (ka k) = some (ek k)) (hkv : ∀ k w F ι, VRel w F ι (ka k) (ek k)) (hk : ok k) (hl : ∀ p ∈ l, ok p.1) (hn : (l.map (·.1)).Nodup)
    (TO : TabOk P tab) (hi : ops[i]? = some o) (hw : awant ops e o = some true) (hdst : o.dst = none) (ho : o.op = .mapUpdate t x y z) (ht : tmap tab t = some (K, E)) (hx : aev e x = some (.mp id)) (hb : look h id = some (.map (ents ka xa l))) (hT : T.contains id = true) (hy : aev e y = some (ka k)) (hq : aev e z = some (xa q))
    (H : AAny P nt ops Q T fuel (listed.setIfInBounds i true) e ((id, .map (ents ka xa (Go.Proofs.YtenolkolkpfjgaaGreat.aput l k q))) :: h)) : AAt P nt ops Q T fuel listed i e h := by
  obtain ⟨te, h1, h2⟩ := tmap_spec ht
  exact T_eff hi hw (E_mapUpdate TO law hka hkv ho hdst h1 h2 hx hb hy hq hk hl hn rfl hT) fun e' h' ⟨h3, h4⟩ => by subst h3 h4; exact H
theorem T_storeS {fuel i : Nat} {listed : Array Bool} {t : TypeId} {x y : Operand} {id off s : Nat} {cs xs : List AVal} {c : AVal} (TO : TabOk P tab) (hi : ops[i]? = some o) (hw : awant ops e o = some true) (hdst : o.dst = none) (ho : o.op = .store t x y) (hx : aev e x = some (.ptr id off)) (hb : look h id = some (.var cs))
    (hy : aev e y = some c) (hcs : cellsA c = some xs) (hp : xs.all plainC = true) (hs : tsize tab t = some s) (hl : Nat.beq xs.length s = true) (hT : T.contains id = true) (hle : off + s ≤ cs.length)
    (H : AAny P nt ops Q T fuel (listed.setIfInBounds i true) e ((id, .var (setW cs off xs)) :: h)) : AAt P nt ops Q T fuel listed i e h := by
  obtain ⟨te, h1, h2⟩ := tsize_spec hs
  subst h2
  exact T_eff hi hw (E_store_ptr TO ho hdst h1 hx hb hy hcs hp hl (Nat.ble_eq_true_of_le hle) rfl rfl hT) fun e' h' ⟨h1, h2⟩ => by subst h1 h2; exact H
theorem O_makeMap {t d : Nat} (id : Nat) (hw : awant ops e o = some true) (hdst : o.dst = some d) (hd : Nat.blt d nt = true) (hid : Nat.blt id 1000 = true) (ho : o.op = .makeMap t none) (HK : AOps P nt ops Q rest ((d, .mp id) :: killE id e) ((id, .map []) :: killH id h)) : AOps P nt ops Q (o :: rest) e h :=
  O_eff (T := []) hw (E_makeMap ho hdst hid hd) fun e' h' ⟨h1, h2⟩ => by subst h1 h2; exact HK
theorem O_cP {f : FuncId} {args : Array Operand} {ats : Array TypeId} {cs0 cs : List AVal} {h0 h1 : Heap} {c : AVal} {d : Nat} (ρ : List (Nat × Nat)) (hinj : ∀ p p' i, look ρ p = some i → look ρ p' = some i → p = p') (hdom : ∀ p i, look ρ p = some i → 1000 ≤ p ∧ (look h0 p).isSome = true ∧ (look h1 p).isSome = true)
    (H : ACall P f cs h0 (fun c' h' => c' = c ∧ h' = h1)) (hok : ∀ c ∈ cs, okV ρ c = true) (hl : Lent ρ h h0) (hw : awant ops e o = some true) (hdst : o.dst = some d) (hd : Nat.blt d nt = true) (ho : o.op = .call { callee := .value (.func f), args := args, argTypes := ats }) (hx : aevs e args.toList = some cs0)
    (hcs : cs.map (renV ρ) = cs0) (HK : AOps P nt ops Q rest ((d, renV ρ c) :: e) (renH ρ h1 ++ h)) : AOps P nt ops Q (o :: rest) e h :=
  O_eff (T := ρ.map (·.2)) hw (E_callP ρ ho hdst hx hcs hok hl (fun p i hp => ⟨(hdom p i hp).1, (hdom p i hp).2.1⟩) hinj H hd (fun p i hp => by
    have : ∀ (ρ : List (Nat × Nat)), look ρ p = some i → i ∈ ρ.map (·.2) := by
      intro ρ
      induction ρ with
      | nil => intro h; cases h
      | cons q r ih =>
        obtain ⟨a, b⟩ := q
        intro h
        by_cases ha : a = p
        · subst ha; rw [look_cons_same] at h; cases h; simp
        · rw [look_cons_ne _ _ ha] at h; have := ih h; simp at this ⊢; exact .inr this
    exact List.contains_iff_mem.2 (this ρ hp)) (fun c' h' ⟨h3, h4⟩ p i hp => by subst h4; exact (hdom p i hp).2.2)) fun e' h' ⟨c', h2, ⟨h3, h4⟩, h5, h6⟩ => by subst h3 h4 h5 h6; exact HK
end
end Go.Proofs.YtenolkolkpfjgaaGreat.Ab

namespace Go.Proofs.YtenolkolkpfjgaaGreat.Ab
set_option linter.unusedVariables false
open Go.RowKit
section
variable {P : Program} {nt : Nat} {Q : Post} {e : Env} {h : Heap} {ops : Array Oper} {o : Oper} {rest : List Oper} {T : List Nat} {tab : TTab}
variable {κ ν : Type} [DecidableEq κ] {ek : κ → Value} {ok : κ → Prop} {ka : κ → AVal} {xa : ν → AVal}
theorem R_lkOutA {t K E id : Nat} {x y : Operand} {k : κ} {l : List (κ × ν)} {zv : Value} (c0 : AVal) (hc0 : ∀ w F ι, VRel w F ι c0 zv) (law : KeyLaw P K ek ok) (hka : ∀ k, valA (ka k) = some (ek k)) (hz : ∀ W, (zeroValue E).run P W = .ok zv W) (hk : ok k) (hl : ∀ p ∈ l, ok p.1) (hn : (l.map (·.1)).Nodup) (hg : aget l k = none)
    (TO : TabOk P tab) (ho : o.op = .lookup t x y true) (ht : tmap tab t = some (K, E)) (hx : aev e x = some (.mp id)) (hb : look h id = some (.map (ents ka xa l))) (hT : T.contains id = false) (hy : aev e y = some (ka k)) : AYield P T e h o (.tup [c0, .d (.sc (.bool false))]) := fun Pm F w0 pin ι a w H Er => by
  obtain ⟨te, ht, hs⟩ := tmap_spec ht
  obtain ⟨v, hv, hB⟩ := H.blk id _ hb
  obtain ⟨B, m, rfl, hm, hbes⟩ := map_is hka hn hB
  obtain ⟨d, hd, _, hh⟩ := (TO t te ht).und
  rw [hs] at hh
  cases hh
  have hxv := aev_rel Er hx
  have hkv := valA_rel (aev_rel Er hy) (hka k)
  have h1 := (hbes.aget k).2 hg
  have hxe := mp_eq hxv hv
  refine ⟨.tuple #[zv, .bool false], .tup _ _ rfl fun i c uu hi hu => ?_, fun w' hw' => ?_⟩
  · match i, hi, hu with
    | 0, hi, hu => cases hi; cases hu; exact hc0 _ _ _
    | 1, hi, hu => cases hi; cases hu; exact sc_rel rfl
  · have hm' := mapIs_same hm (ct_same H hw' hv rfl hT)
    have := hm'.lookup_ok law hd hz hk (fun p hp => by
      have : p.1 ∈ m.map (·.1) := List.mem_map.2 ⟨p, hp, rfl⟩
      rw [hbes.keys] at this
      obtain ⟨q, hq, he⟩ := List.mem_map.1 this
      rw [← he]; exact hl q hq)
    rw [h1] at this
    simp only [execOp, ho, hxe, hkv]
    simp only [Sem.run_bind, this]
    rfl
end
end Go.Proofs.YtenolkolkpfjgaaGreat.Ab

namespace Go.Proofs.YtenolkolkpfjgaaGreat.Ab
set_option linter.unusedVariables false
open Go.RowKit
section
variable {P : Program} {nt : Nat} {Q : Post}
def RF : Post := fun _ _ _ => False
end
end Go.Proofs.YtenolkolkpfjgaaGreat.Ab

namespace Go.Proofs.YtenolkolkpfjgaaGreat.Ab
set_option linter.unusedVariables false
open Go.RowKit

mutual
def fzV (id : Nat) (ds : List Dat) : AVal → AVal
  | .ptr j off => cond (Nat.beq j id) (.iptr ds off) (.ptr j off)
  | .agg cs => .agg (fzL id ds cs)
  | .tup cs => .tup (fzL id ds cs)
  | .fn f cs => .fn f (fzL id ds cs)
  | .top => .top
  | .und => .und
  | .d x => .d x
  | .eptr j off => .eptr j off
  | .iptr cs off => .iptr cs off
  | .row j => .row j
  | .mp j => .mp j
  | .srow j o n => .srow j o n
  | .full cs n => .full cs n
def fzL (id : Nat) (ds : List Dat) : List AVal → List AVal
  | [] => []
  | c :: r => fzV id ds c :: fzL id ds r
end
def fzB (id : Nat) (ds : List Dat) : ABlk → ABlk
  | .var cs => .var (fzL id ds cs)
  | .row e k n cs => .row e k n cs
  | .rowA e k n cs => .rowA e k n (fzL id ds cs)
  | .map es => .map (es.map fun p => (fzV id ds p.1, fzV id ds p.2))
  | .mapx r bs clk es => .mapx r bs clk (es.map fun p => (fzV id ds p.1, fzV id ds p.2))
  | .it o => .it o
  | .rowx hv e k n cs => .rowx hv e k n cs
def fzE (id : Nat) (ds : List Dat) : Env → Env
  | [] => []
  | (k, c) :: r => (k, fzV id ds c) :: fzE id ds r
def fzH (id : Nat) (ds : List Dat) : Heap → Heap
  | [] => []
  | (k, b) :: r => cond (Nat.beq k id) (fzH id ds r) ((k, fzB id ds b) :: fzH id ds r)
section
variable {nt : Nat} {e : Env} {h : Heap}
theorem Wk_nilB {b id : Nat} (el k : Nat) (hb : look h b = some (.var [.d (.sc (.slice none 0 0))])) (hid : Nat.blt id 1000 = true) (hne : Nat.beq b id = false) :
    AWk nt e h (killE id e) ((b, .var [.row id]) :: (id, .row el k 0 []) :: killH id h) := fun Pm F w0 pin ι a w R => by
  have hid' : id < 1000 := by simp [Nat.blt] at hid; omega
  have hne' := of_beq_no hne
  have TT : Touch w ι id (.slice none 0 0) w := ⟨rfl, rfl, rfl, Nat.le_refl _, fun _ _ _ => rfl, fun r hr => by cases hr⟩
  have H1 := R.heap.touch TT (.inl hid') (b' := .row el k 0 []) ⟨[], World.ownsRow_nil _ _ _ _, rfl, by simp⟩
  obtain ⟨v, hv, r, C, T, rfl, hC, hlC, hrr⟩ := R.heap.blk b _ hb
  have hv1 : upd ι id (some (.slice none 0 0)) b = some (.pointer (some ⟨r, 0, none⟩)) := by simp [upd, hne', hv]
  have hW : Wrote w (.pointer (some ⟨r, 0, none⟩)) w := ⟨rfl, rfl, rfl, Nat.le_refl _, fun _ _ _ => rfl⟩
  have H2 := H1.wrote (b' := .var [.row id]) hW hv1 ⟨r, C, T, rfl, hC, hlC, fun i c u h1 h2 => by
    cases i with
    | zero =>
      simp at h1
      subst h1
      have h3 := hrr 0 _ u rfl h2
      refine .row id u (by rw [(sc_of h3).1]; rfl) fun v' hv' => ?_
      simp [upd] at hv'
      rw [(sc_of h3).1, hv']
    | succ i => simp at h1⟩
  exact ⟨_, H2, R.env.killed TT.ext, R.defers.ext TT.ext, R.size⟩
end
section
variable {P : Program} {nt : Nat} {Q : Post} {e : Env} {h : Heap} {ops : Array Oper} {T : List Nat} {fuel i : Nat} {listed : Array Bool} {o : Oper} {tab : TTab}
theorem T_slice {t el k len d : Nat} {ps : Array (Nat × Operand)} {al : List (Nat × AVal)} {xs : List AVal} {ds : List Dat} (TO : TabOk P tab) (hi : ops[i]? = some o) (hw : awant ops e o = some true) (hdst : o.dst = some d) (hd : Nat.blt d nt = true) (hid : Nat.blt d 1000 = true) (ho : o.op = .buildSlice t len ps)
    (hel : telem tab t = some el) (hsz : tsize tab el = some k) (hok : (match tlook tab el with | some te => te.zero.all (·.oneCell') && Nat.blt 0 te.size && Nat.beq te.zero.length te.size && Nat.blt (len * te.size) 16777216 && Nat.blt 0 len | none => false) = true)
    (hal : aparts e ps.toList = some al) (hf : (match tlook tab el with
      | some te => afill (fun i => some (i * te.size, te.size)) ((List.range (len * te.size)).map fun j => match te.zero[j % te.size]? with | some v => .d (.sc v) | none => .top) al
      | none => none) = some xs) (hds : datsA xs = some ds)
    (HK : AAny P nt ops Q T fuel (listed.setIfInBounds i true) ((d, .row d) :: killE d e) ((d, .row el k len ds) :: killH d h)) : AAt P nt ops Q T fuel listed i e h := by
  obtain ⟨te, h1, h2⟩ := telem_spec hel
  obtain ⟨te', h3, rfl⟩ := tsize_spec hsz
  rw [h3] at hok hf
  simp only [Bool.and_eq_true] at hok
  exact T_eff hi hw (E_buildSlice TO ho hdst h1 h2 h3 hok.1.1.1.1 hok.1.1.1.2 hok.1.1.2 hok.1.2 hok.2 hal hf (datsA_spec hds) hid hd) fun e' h' ⟨h1, h2⟩ => by subst h1 h2; exact HK
theorem T_appR {t el k rid n m d : Nat} {x y : Operand} {cy : AVal} {cs ds : List Dat} (TO : TabOk P tab) (hi : ops[i]? = some o) (hw : awant ops e o = some true) (hdst : o.dst = some d) (hd : Nat.blt d nt = true) (ho : o.op = .call { callee := .builtin .append, args := #[x, y], argTypes := #[t, t] })
    (hel : telem tab t = some el) (hsz : tsize tab el = some k) (hok : (match tlook tab el with | some te => Nat.blt 0 te.size && Nat.beq te.zero.length te.size && Nat.ble te.bytes 65536 | none => false) = true)
    (hx : aev e x = some (.row rid)) (hb : look h rid = some (.row el k n cs)) (hid : Nat.blt rid 1000 = true) (hy : aev e y = some cy) (S : Src h cy m ds) (hl : ds.length = m * k) (hn : n + m ≤ 2147483648) (hT : T.contains rid = true)
    (HK : AAny P nt ops Q T fuel (listed.setIfInBounds i true) ((d, .row rid) :: killE rid e) ((rid, .row el k (n + m) (cs ++ ds)) :: killH rid h)) : AAt P nt ops Q T fuel listed i e h := by
  obtain ⟨te, h1, h2⟩ := telem_spec hel
  obtain ⟨te', h3, rfl⟩ := tsize_spec hsz
  rw [h3] at hok
  simp only [Bool.and_eq_true] at hok
  exact T_eff hi hw (E_append TO ho hdst h1 h2 h3 hok.1.1 hok.1.2 hok.2 hx hy (.row hb) S hl hn hid hd hT) fun e' h' ⟨h1, h2⟩ => by subst h1 h2; exact HK
end
end Go.Proofs.YtenolkolkpfjgaaGreat.Ab

namespace Go.Proofs.YtenolkolkpfjgaaGreat.Ab
set_option linter.unusedVariables false
open Go.RowKit
open Go.ChangeMaps (setBlock)

section
variable {nt : Nat} {e : Env} {h : Heap}
theorem Rel.opened {Pm F : Nat → Prop} {w0 w : World} {pin ι : Nat → Option Value} {a : Act} (R : Rel Pm F w0 pin ι nt e h a w) {mid : Nat} {es : List (AVal × AVal)} (hb : look h mid = some (.map es)) :
    ∃ r bs clk, bs.length = es.length ∧ bs.Pairwise (fun a b => a < b) ∧ (∀ b ∈ bs, b < clk) ∧ Rel Pm F w0 pin ι nt e ((mid, .mapx r bs clk es) :: h) a w := by
  obtain ⟨v, hv, r, E, clk, rfl, hC, hl, hr, h1, h2⟩ := R.heap.blk mid _ hb
  have hW : Wrote w (.map (some r)) w := ⟨rfl, rfl, rfl, Nat.le_refl _, fun _ _ _ => rfl⟩
  have hp : (E.toList.map (·.born)).Pairwise (fun a b => a < b) := by
    rw [List.pairwise_map, List.pairwise_iff_getElem]
    intro i j hi hj hij
    exact h1 i j _ _ hij (by rw [← Array.getElem?_toList]; exact List.getElem?_eq_getElem hi) (by rw [← Array.getElem?_toList]; exact List.getElem?_eq_getElem hj)
  have hlt : ∀ b ∈ E.toList.map (·.born), b < clk := fun b hb => by
    obtain ⟨m, hm, rfl⟩ := List.mem_map.1 hb
    obtain ⟨i, hi⟩ := List.getElem?_of_mem hm
    exact h2 i m (by rw [← Array.getElem?_toList]; exact hi)
  exact ⟨r, E.toList.map (·.born), clk, by simp [hl], hp, hlt, R.heap.wrote hW hv ⟨E, rfl, hC, hl, hr, rfl, hp, hlt⟩, R.env, R.defers, R.size⟩
end
section
variable {P : Program} {nt : Nat} {Q : Post} {e : Env} {h : Heap} {ops : Array Oper} {o : Oper} {rest : List Oper} {T : List Nat} {tab : TTab} {z : Bool}
end
end Go.Proofs.YtenolkolkpfjgaaGreat.Ab

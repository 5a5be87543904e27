/-
  Texts of a proof, one behind the other (part 11).
-/
import Derived.Test.YtblgdfcijkaimaaBg1
import Derived.Test.YtblgdfcijkaimaaBg7
import Derived.Test.YtblgdfcijkaimaaBg9
set_option linter.unusedVariables false
set_option linter.unusedSimpArgs false
namespace Go.Proofs.Ytblgdfcijkaimaa.Ab
set_option linter.unusedVariables false
set_option maxRecDepth 100000
open Go.RowKit
section
variable {P : Program} {nt : Nat} {Q : Post} {e : Env} {h : Heap} {ops : Array Oper} {o : Oper} {rest : List Oper} {T : List Nat} {tab : TTab} {fuel i : Nat} {listed : Array Bool}
theorem rowx_of {Pm F : Nat → Prop} {w0 w : World} {pin ι : Nat → Option Value} (H : HRel Pm F w0 pin ι h w) {id : Nat} {hv : Value} {el k n : Nat} {cs : List Dat} (hb : look h id = some (.rowx hv el k n cs)) :
    (∃ b c, hv = .slice b n c) ∧ (0 < n → ι id = some hv ∧ ∃ g cap, hv = .slice (some ⟨g, 0, none⟩) n cap) := by
  obtain ⟨v, hv', hB⟩ := H.blk id _ hb
  rcases hB with ⟨rfl, xs, hown, _⟩ | ⟨_, rfl, _, a, rfl⟩
  · rcases hown.2 with ⟨h3, h4⟩ | ⟨g, cap, cur, h3, _⟩
    · subst h4; exact ⟨⟨_, _, h3⟩, fun h => absurd h (by omega)⟩
    · exact ⟨⟨_, _, h3⟩, fun _ => ⟨hv', g, cap, h3⟩⟩
  · exact ⟨⟨_, _, rfl⟩, fun h => absurd h (by omega)⟩
theorem R_lenx {t el el' id k n : Nat} {x : Operand} {cs : List Dat} {hv : Value} (hb : look h id = some (.rowx hv el' k n cs)) (TO : TabOk P tab) (ho : o.op = .call { callee := .builtin .len, args := #[x], argTypes := #[t] }) (hel : telem tab t = some el) (hx : aev e x = some (.d (.sc hv))) : AYield P T e h o (.d (.sc (.int .i64 (n : Int)))) := fun Pm F w0 pin ι a w H E => by
  obtain ⟨te, h1, h2⟩ := telem_spec hel
  refine ⟨.int .i64 n, sc_rel rfl, fun w' _ => ?_⟩
  obtain ⟨⟨b, c, hk⟩, _⟩ := rowx_of H hb
  have hu := (TO t te h1).slice h2
  have hxx := (sc_of (aev_rel E hx)).1
  rw [hk] at hxx
  simp [execOp, ho, resolve, invoke, builtin, hxx, Builtin.len_, run_underlying hu, goInt]
theorem R_indexx {t el el' k kk j id : Nat} {x y : Operand} {cs : List Dat} {n : Nat} {q : IntKind} {i : Int} {hv : Value} (hb : look h id = some (.rowx hv el' kk n cs)) (hjn : j < n) (TO : TabOk P tab) (ho : o.op = .indexAddr t x y) (hel : telem tab t = some el) (hsz : tsize tab el = some k) (hx : aev e x = some (.d (.sc hv))) (hy : aev e y = some (.d (.sc (.int q i)))) (hj : i = (j : Int)) :
    AYield P T e h o (.eptr id (j * k)) := fun Pm F w0 pin ι a w H E => by
  obtain ⟨te, h1, h2⟩ := telem_spec hel
  obtain ⟨te', h3, rfl⟩ := tsize_spec hsz
  obtain ⟨_, h4⟩ := rowx_of H hb
  obtain ⟨hvv, g, cap, rfl⟩ := h4 (by omega)
  have hk := (sc_of (aev_rel E hy)).1
  have hxx := (sc_of (aev_rel E hx)).1
  have hu := (TO t te h1).slice h2
  subst hj
  refine ⟨.pointer (some ⟨g, j * te'.size, none⟩), .eptr id _ _ rfl fun v' hv' => ?_, fun w' _ => ?_⟩
  · rw [hvv] at hv'; cases hv'; exact ⟨g, n, cap, rfl, rfl⟩
  · simp [execOp, ho, hxx, hk, run_indexAt w' hu (TO el te' h3) g 0 n cap q (j : Int) ⟨by omega, by omega⟩]
theorem E_store_x {t : TypeId} {x y : Operand} {d : Option Tmp} {te : TE} {id off el k n : Nat} {cs ds : List Dat} {xs : List AVal} {c : AVal} {hh : Value} (TO : TabOk P tab) (ho : o.op = .store t x y) (hdst : o.dst = d) (ht : tlook tab t = some te) (hx : aev e x = some (.eptr id off)) (hb : look h id = some (.rowx hh el k n cs))
    (hy : aev e y = some c) (hcs : cellsA c = some xs) (hds : xs = ds.map AVal.d) (hl : xs.length = te.size) (hle : off + te.size ≤ cs.length) (h0 : 0 < n) (hd : dstOk nt d = true) (hT : T.contains id = true) :
    AEff P nt T e h o (fun e' h' => e' = aput d .und e ∧ h' = (id, .rowx hh el k n (setW cs off ds)) :: h) := fun Pm F w0 pin ι a w R K Qx hK => by
  obtain ⟨v, hv, hB⟩ := R.heap.blk id _ hb
  rcases hB with ⟨hvv, zs, hown, hlC, hr⟩ | ⟨_, h9, _⟩
  rotate_left
  · omega
  have hrel := aev_rel R.env hx
  have hyr := aev_rel R.env hy
  obtain ⟨hsz, hcr⟩ := cells_rel hyr hcs
  obtain ⟨hzl, hcase⟩ := hown
  rcases hcase with ⟨_, h9⟩ | ⟨g, cap, cur, rfl, hg0, hC, hnc, hmx, hcs2, htake⟩
  · exact absurd h0 (by omega)
  have hnk : n * k ≤ cap * k := Nat.mul_le_mul_right _ hnc
  have hle2 : off + te.size ≤ n * k := by omega
  generalize hau : a.eval x = u at hrel
  cases hrel with
  | eptr _ _ _ h1 h2 =>
    obtain ⟨g', n', cap', h3, rfl⟩ := h2 _ hv
    cases h3
    have hdl : ds.length = te.size := by rw [← hl, hds, List.length_map]
    have hone : ∀ u ∈ (a.eval y).cells.toList, u.oneCell' = true := fun u hu => by
      obtain ⟨i, hi⟩ := List.mem_iff_getElem?.1 hu
      have hlt : i < xs.length := by rw [← hsz, ← Array.length_toList]; exact (List.getElem?_eq_some_iff.1 hi).1
      have hcc := hcr i xs[i] u (List.getElem?_eq_getElem hlt) (by simpa using hi)
      have hxi : xs[i] = .d (ds[i]'(by rw [hds] at hlt; simpa using hlt)) := by subst hds; simp
      rw [hxi] at hcc
      cases hcc with
      | d _ _ hdd => exact hdd.one
    have hrun := run_storeVar (w := w) (TO t te ht) hC (a.eval y) (by rw [hsz, hl]) (by rw [hcs2]; omega) hone (off := off)
    obtain ⟨hW, hnew⟩ := wrote_setRow (C' := (setW cur.toList off (a.eval y).cells.toList).toArray) hC (v := .slice (some ⟨g, 0, none⟩) n cap) rfl
    have hlen : (a.eval y).cells.toList.length = xs.length := by simpa using hsz
    unfold Oper.wp
    have hrun2 : (execOp a.eval o).run P w = .ok .skip (w.setRow g (setW cur.toList off (a.eval y).cells.toList).toArray) := by
      simp [execOp, ho, Instr.storeAt, Instr.sureAddr, hau, hrun]
    rw [hrun2, Oper.upon_skip, hdst]
    have hcl : cur.toList.length = cap * k := by simpa using hcs2
    refine hK ι _ _ _ _ ⟨rfl, rfl⟩ ?_ ?_ (put_defers _ _ _)
    · refine ⟨R.heap.wrote hW hv (.inl ⟨hvv, (setW cur.toList off (a.eval y).cells.toList).take (n * k), ⟨?_, .inr ⟨g, cap, _, rfl, hg0, hnew, hnc, hmx, ?_, rfl⟩⟩, ?_, fun i c' u h4 h5 => ?_⟩), (R.env.mono fun _ _ _ _ hv' => hv'.wrote hW hv).aput hd R.size .und, by rw [put_defers]; exact R.defers.ext (hW.ext hv), by rw [put_size]; exact R.size⟩
      · simp [setW]; omega
      · simp [setW]; omega
      · simp [setW]; omega
      · rw [setW_get (by omega)] at h4
        rw [List.getElem?_take] at h5
        split at h5
        · rename_i hin0
          rw [setW_get (by rw [hlen]; omega), hlen] at h5
          split at h4
          · rename_i hin
            rw [if_pos (by omega)] at h5
            have := hcr (i - off) (.d c') u (by rw [hds, List.getElem?_map, h4]; rfl) (by simpa using h5)
            have := this.wrote hW hv
            cases this with
            | d _ _ hdd => exact hdd
          · rename_i hin
            rw [if_neg (by omega)] at h5
            have := (VRel.d _ _ (hr i c' u h4 (by rw [← htake, List.getElem?_take, if_pos hin0]; exact h5))).wrote hW hv
            cases this with
            | d _ _ hdd => exact hdd
        · cases h5
    · exact ⟨⟨hW.os, hW.tape, hW.output, hW.size, fun r hr hne => hW.mem r hr fun hb => hne id (List.contains_iff_mem.1 hT) _ hv hb⟩, fun j _ u r hj hr _ => ⟨u, hj, hr⟩⟩
theorem O_storex {t : TypeId} {x y : Operand} {id off s el k n : Nat} {cs ds : List Dat} {xs : List AVal} {c : AVal} {hh : Value} (hb : look h id = some (.rowx hh el k n cs)) (hle : off + s ≤ cs.length) (h0 : 0 < n) (TO : TabOk P tab) (hw : awant ops e o = some true) (hdst : o.dst = none) (ho : o.op = .store t x y) (hx : aev e x = some (.eptr id off))
    (hy : aev e y = some c) (hcs : cellsA c = some xs) (hds : datsA xs = some ds) (hs : tsize tab t = some s) (hl : Nat.beq xs.length s = true)
    (HK : AOps P nt ops Q rest e ((id, .rowx hh el k n (setW cs off ds)) :: h)) : AOps P nt ops Q (o :: rest) e h := by
  obtain ⟨te, h1, h2⟩ := tsize_spec hs
  subst h2
  exact O_eff (T := [id]) hw (E_store_x TO ho hdst h1 hx hb hy hcs (datsA_spec hds) (Nat.eq_of_beq_eq_true hl) hle h0 rfl (by simp)) fun e' h' ⟨h1, h2⟩ => by subst h1 h2; exact HK

theorem E_callAway {f : FuncId} {args : Array Operand} {ats : Array TypeId} {d : Option Tmp} {p0 i0 : Nat} {h0 h2 : Heap} (g : Nat → Option Nat) (ho : o.op = .call { callee := .value (.func f), args := args, argTypes := ats }) (hdst : o.dst = d) (hx : aevs e args.toList = some [.row i0]) (hg0 : g p0 = some i0)
    (hl : ∀ p b, look h0 p = some b → ∃ i, g p = some i ∧ look h i = some b ∧ plainB b = true) (hdom : ∀ p i, g p = some i → (look h0 p).isSome = true) (hinj : ∀ p q i, g p = some i → g q = some i → p = q)
    (H : ACall P f [.row p0] h0 (fun c h' => c = .tup [])) (h2ok : ∀ id b, look h2 id = some b → look h id = some b ∧ ∀ p, g p ≠ some id) (hd : dstOk nt d = true) (hT : ∀ p i, g p = some i → T.contains i = true) :
    AEff P nt T e h o (fun e' h' => e' = aput d (.tup []) e ∧ h' = h2) := fun Pm F w0 pin ι a w R K Qx hK => by
  unfold Oper.wp
  rw [run_callA H.1 ho, Oper.upon_enter, hdst]
  have HR := R.heap
  let ι0 : Nat → Option Value := fun p => match g p with | some i => ι i | none => none
  have h0some : ∀ p v, ι0 p = some v → ∃ i, g p = some i ∧ ι i = some v := fun p v hv => by
    simp only [ι0] at hv
    cases hp : g p with
    | none => rw [hp] at hv; cases hv
    | some i => rw [hp] at hv; exact ⟨i, rfl, hv⟩
  have h0of : ∀ p i, g p = some i → ι0 p = ι i := fun p i hp => by simp only [ι0, hp]
  let F' : Nat → Prop := fun r => F r ∨ ∃ id v, ι id = some v ∧ blockOf v = some r ∧ ∀ p, g p ≠ some id
  let Pm' : Nat → Prop := fun r => w.heap.size ≤ r ∨ ∃ p v, ι0 p = some v ∧ blockOf v = some r
  have HC : HRel Pm' F' w ι0 ι0 h0 w := by
    refine ⟨fun p b hb => ?_, fun p v hv => ?_, fun p q v v' r hpq hv hv' hr => ?_, fun p v r hv hr => .inr ⟨p, v, hv, hr⟩, rfl, rfl, rfl, Nat.le_refl _, fun _ _ _ => rfl, fun r hr => .inl hr, fun p v _ hv => hv, fun p v r hv hr hF' => ?_, fun r hr => ?_⟩
    · obtain ⟨i, h1, h2, h3⟩ := hl p b hb
      obtain ⟨v, hv, hB⟩ := HR.blk i _ h2
      exact ⟨v, by rw [h0of p i h1]; exact hv, hB.plain h3⟩
    · obtain ⟨i, h1, h2⟩ := h0some p v hv
      exact Option.isSome_iff_exists.1 (hdom p i h1)
    · obtain ⟨i, h1, h2⟩ := h0some p v hv
      obtain ⟨j, h3, h4⟩ := h0some q v' hv'
      exact HR.inj i j v v' r (by rintro rfl; exact hpq (hinj p q i h1 h3)) h2 h4 hr
    · obtain ⟨i, h1, h2⟩ := h0some p v hv
      rcases hF' with h3 | ⟨id, v', h3, h4, h5⟩
      · exact HR.nf i v r h2 hr h3
      · have : i ≠ id := by rintro rfl; exact h5 p h1
        exact HR.inj i id v v' r this h2 h3 hr h4
    · rcases hr with h1 | ⟨id, v, h1, h2, _⟩
      · exact Nat.lt_of_lt_of_le (HR.forb r h1) HR.size
      · exact HR.lt h1 h2
  have HA : ArgsRel w F' ι0 [.row p0] (args.map a.eval) := by
    have := args_of R.env hx
    refine ⟨this.1, fun i c u h1 h2 => ?_⟩
    match i, h1 with
    | 0, h1 =>
      cases h1
      have := this.2 0 _ u rfl h2
      cases this with
      | row _ _ h3 h4 => exact .row p0 u h3 fun v hv => h4 v (by rw [← h0of p0 i0 hg0]; exact hv)
    | i + 1, h1 => simp at h1
  refine (H.2 Pm' F' w ι0 ι0 _ w HC HA).mono ?_
  rintro x w' ⟨u, c, h', ι', rfl, rfl, hH, hv⟩
  have hkeep : ∀ r, r < w.heap.size → (∀ p i v, g p = some i → ι i = some v → blockOf v ≠ some r) → w'.heap[r]? = w.heap[r]? := fun r hr hn => hH.keep r hr fun hp => by
    rcases hp with h1 | ⟨p, v, h1, h2⟩
    · omega
    · obtain ⟨i, h3, h4⟩ := h0some p v h1
      exact hn p i v h3 h4 h2
  have hext : Ext w F ι w' (only h2 ι) := ⟨fun r hr hf => hkeep r hr fun p i v h1 h2 h3 => hf.2 i v h2 h3, fun r hr hf => ⟨hf.1, fun id v hv => hf.2 id v (only_some hv)⟩⟩
  refine hK (only h2 ι) _ _ _ w' ⟨rfl, rfl⟩ ⟨⟨fun id b hb => ?_, fun id v hv => ?_, fun i j v v' r hij hi hj => HR.inj i j v v' r hij (only_some hi) (only_some hj), fun i v r hi => HR.pm i v r (only_some hi), hH.os.trans HR.os, hH.tape.trans HR.tape, hH.output.trans HR.output, Nat.le_trans HR.size hH.size,
      fun r hr hp => ?_, HR.fresh, fun id v h1 hv => HR.pinned id v h1 (only_some hv), fun i v r hi => HR.nf i v r (only_some hi), HR.forb⟩, ?_, by rw [put_defers]; exact R.defers.ext hext, by rw [put_size]; exact R.size⟩
    ⟨⟨hH.os, hH.tape, hH.output, hH.size, fun r hr hne => hkeep r hr fun p i v h1 h2 => hne i (List.contains_iff_mem.1 (hT p i h1)) v h2⟩, fun id _ v r h1 h2 _ => ⟨v, only_some h1, h2⟩⟩ (put_defers _ _ _)
  · obtain ⟨h1, h3⟩ := h2ok id b hb
    obtain ⟨v, hv2, hB⟩ := HR.blk id b h1
    exact ⟨v, by simp [only, hb, hv2], hB.ext hext (fun _ _ h => only_some h) fun r hr => hkeep r (HR.lt hv2 hr) fun p i v2 h5 h6 h7 => HR.inj i id v2 v r (by rintro rfl; exact h3 p h5) h6 hv2 h7 hr⟩
  · unfold only at hv
    split at hv
    · rename_i hs; exact Option.isSome_iff_exists.1 hs
    · cases hv
  · rw [hkeep r (Nat.lt_of_lt_of_le hr HR.size) fun p i v h1 h2 h3 => hp (HR.pm i v r h2 h3)]
    exact HR.keep r hr hp
  · refine EnvRel.aput (R.env.mono fun t c u _ hc => hc.ext hext fun id v _ h => only_some h) hd R.size ?_
    cases hv with
    | tup _ C hl hh => exact .tup [] C hl fun i c u h => by simp at h
theorem O_cAway {f : FuncId} {args : Array Operand} {ats : Array TypeId} {d p0 i0 : Nat} {h0 h2 : Heap} (g : Nat → Option Nat) (hg0 : g p0 = some i0)
    (hl : ∀ p b, look h0 p = some b → ∃ i, g p = some i ∧ look h i = some b ∧ plainB b = true) (hdom : ∀ p i, g p = some i → i < 1000 ∧ (look h0 p).isSome = true) (hinj : ∀ p q i, g p = some i → g q = some i → p = q)
    (H : ACall P f [.row p0] h0 (fun c h' => c = .tup [])) (h2ok : ∀ id b, look h2 id = some b → look h id = some b ∧ ∀ p, g p ≠ some id)
    (hw : awant ops e o = some true) (hdst : o.dst = some d) (hd : Nat.blt d nt = true) (ho : o.op = .call { callee := .value (.func f), args := args, argTypes := ats }) (hx : aevs e args.toList = some [.row i0])
    (HK : AOps P nt ops Q rest ((d, .tup []) :: e) h2) : AOps P nt ops Q (o :: rest) e h :=
  O_eff (T := List.range 1000) hw (E_callAway g ho hdst hx hg0 hl (fun p i h => (hdom p i h).2) hinj H h2ok hd fun p i h => List.contains_iff_mem.2 (List.mem_range.2 (hdom p i h).1)) fun e' h' ⟨h1, h2⟩ => by subst h1 h2; exact HK
end
end Go.Proofs.Ytblgdfcijkaimaa.Ab

namespace Go.Proofs.Ytblgdfcijkaimaa.Ab
set_option linter.unusedVariables false
open Go.RowKit
section
variable {nt : Nat} {e : Env} {h : Heap}
end
end Go.Proofs.Ytblgdfcijkaimaa.Ab

namespace Go.Proofs.Ytblgdfcijkaimaa.Ab
set_option linter.unusedVariables false
open Go.RowKit
section
variable {P : Program} {nt : Nat} {Q : Post} {e : Env} {h : Heap} {ops : Array Oper} {T : List Nat} {fuel : Nat} {listed : Array Bool}
theorem N_thr {j k l : Nat} (hr : Region.ready .any ops listed = [j, k, l]) (H1 : AAt P nt ops Q T fuel listed j e h) (H2 : AAt P nt ops Q T fuel listed k e h) (H3 : AAt P nt ops Q T fuel listed l e h) : AAny P nt ops Q T (fuel + 1) listed e h :=
  N_all hr rfl fun i hi => by
    rcases List.mem_cons.1 hi with rfl | hi
    · exact H1
    rcases List.mem_cons.1 hi with rfl | hi
    · exact H2
    · rw [List.mem_singleton.1 hi]; exact H3
theorem np_rfc : NoPanic RF := fun _ _ _ h => h
end
end Go.Proofs.Ytblgdfcijkaimaa.Ab

namespace Go.Proofs.Ytblgdfcijkaimaa.Ab
set_option linter.unusedVariables false
open Go.RowKit
section
variable {P : Program} {nt : Nat} {Q : Post} {e : Env} {h : Heap} {ops : Array Oper} {o : Oper} {rest : List Oper} {T : List Nat} {tab : TTab} {fuel i : Nat} {listed : Array Bool}
theorem Wk_rename {p id el k n t : Nat} {cs : List Dat} (hid : Nat.blt id 1000 = true) (ht : look e t = some (.row p)) :
    AWk nt e [(p, .row el k n cs)] [(t, .row id)] [(id, .row el k n cs)] := fun Pm F w0 pin ι a w R => by
  have hid' : id < 1000 := by simp [Nat.blt] at hid; omega
  have H := R.heap
  obtain ⟨v, hv, xs, hown, hxl, hxr⟩ := H.blk p _ (look_cons_same _ _ _)
  have hι : ∀ i u, (fun i => if i = id then ι p else none) i = some u → i = id ∧ ι p = some u := fun i u hu => by
    dsimp only at hu
    split at hu
    · rename_i h; exact ⟨h, hu⟩
    · cases hu
  have hex : Ext w F ι w (fun i => if i = id then ι p else none) := ⟨fun _ _ _ => rfl, fun r _ hf => ⟨hf.1, fun i u hu => hf.2 p u (hι i u hu).2⟩⟩
  refine ⟨fun i => if i = id then ι p else none, ⟨fun i b hb => ?_, fun i u hu => ?_, fun i j u u' r hij hi hj => ?_, fun i u r hu => H.pm p u r (hι i u hu).2, H.os, H.tape, H.output, H.size, H.keep, H.fresh, fun i u h1 hu => ?_, fun i u r hu => H.nf p u r (hι i u hu).2, H.forb⟩, fun s c hs => ?_, R.defers.ext hex, R.size⟩
  · by_cases h1 : id = i
    · subst h1
      rw [look_cons_same] at hb
      cases hb
      exact ⟨v, by simp only [if_true]; exact hv, xs, hown, hxl, fun i c u h3 h4 => (hxr i c u h3 h4).ext (fun _ _ _ => rfl) fun r hr hf => hex.free r hr hf⟩
    · rw [look_cons_ne _ _ h1] at hb; cases hb
  · obtain ⟨rfl, _⟩ := hι i u hu
    exact ⟨_, look_cons_same _ _ _⟩
  · exact absurd ((hι i u hi).1.trans (hι j u' hj).1.symm) hij
  · obtain ⟨rfl, _⟩ := hι i u hu
    omega
  · by_cases h1 : t = s
    · subst h1
      rw [look_cons_same] at hs
      cases hs
      obtain ⟨u, hu, hr⟩ := R.env t _ ht
      refine ⟨u, hu, ?_⟩
      cases hr with
      | row _ _ g1 g2 => exact .row id u g1 fun v2 hv2 => g2 v2 (hι id v2 hv2).2
    · rw [look_cons_ne _ _ h1] at hs; cases hs
theorem run_nilEq {P : Program} {t el : TypeId} (w : World) (hu : P.underlying t = some (.slice el)) (dp : Nat) (b : Option Addr) (n c : Nat) : (Op.equalIn (dp + 1) t (.slice b n c) (.slice none 0 0)).run P w = .ok b.isNone w := by
  unfold Op.equalIn
  cases b <;> simp [run_underlying hu]
theorem E_nilEq {t u el : TypeId} {te : TE} {x : Operand} {d : Option Tmp} {cs : List Dat} {n : Nat} (TO : TabOk P tab) (ho : o.op = .binOp .eql t x (.const (.slice none 0 0)) u) (hdst : o.dst = d) (ht : tlook tab t = some te) (hs : te.sh = .sl el) (hx : aev e x = some (.d (.sl cs n))) (hd : dstOk nt d = true) :
    AEff P nt T e h o (fun e' h' => ∃ b : Bool, (b = true → cs = [] ∧ n = 0) ∧ e' = aput d (.d (.sc (.bool b))) e ∧ h' = h) := fun Pm F w0 pin ι a w R K Qx hK => by
  have hu := (TO t te ht).slice hs
  have hv := aev_rel R.env hx
  have ev : a.eval (.const (.slice none 0 0)) = .slice none 0 0 := rfl
  have key : ∃ b : Bool, (b = true → cs = [] ∧ n = 0) ∧ (execOp a.eval o).run P w = .ok (.value (.bool b)) w := by
    generalize hau : a.eval x = ux at hv
    cases hv with
    | d _ _ hD =>
      cases hD with
      | nil => exact ⟨true, fun _ => ⟨rfl, rfl⟩, by simp only [execOp, ho, hau, ev, eqGuard, binOp, Op.equal]; rw [show Op.maxDepth = 9999 + 1 from rfl]; simp [run_nilEq w hu 9999]⟩
      | sl _ _ b o2 cap vs => exact ⟨false, fun h => (by cases h), by simp only [execOp, ho, hau, ev, eqGuard, binOp, Op.equal]; rw [show Op.maxDepth = 9999 + 1 from rfl]; simp [run_nilEq w hu 9999]⟩
      | emp ea => exact ⟨false, fun h => (by cases h), by simp only [execOp, ho, hau, ev, eqGuard, binOp, Op.equal]; rw [show Op.maxDepth = 9999 + 1 from rfl]; simp [run_nilEq w hu 9999]⟩
  obtain ⟨b, hb, hrun⟩ := key
  unfold Oper.wp
  rw [hrun, Oper.upon_value, hdst]
  refine hK ι _ _ _ _ ⟨b, hb, rfl, rfl⟩ ⟨R.heap, R.env.aput hd R.size (sc_rel rfl), by rw [put_defers]; exact R.defers, by rw [put_size]; exact R.size⟩ ⟨CT.refl T ι w, fun id _ v r hv hr _ => ⟨v, hv, hr⟩⟩ (put_defers _ _ _)
theorem O_nilEq {t u el : TypeId} {x : Operand} {d : Nat} {cs : List Dat} {n : Nat} (TO : TabOk P tab) (hw : awant ops e o = some true) (hdst : o.dst = some d) (hd : Nat.blt d nt = true) (ho : o.op = .binOp .eql t x (.const (.slice none 0 0)) u) (hel : telem tab t = some el) (hx : aev e x = some (.d (.sl cs n)))
    (HK : ∀ b : Bool, (b = true → cs = [] ∧ n = 0) → AOps P nt ops Q rest ((d, .d (.sc (.bool b))) :: e) h) : AOps P nt ops Q (o :: rest) e h := by
  obtain ⟨te, h1, h2⟩ := telem_spec hel
  exact O_eff (T := []) hw (E_nilEq (d := some d) TO ho hdst h1 h2 hx hd) fun e' h' ⟨b, h3, h4, h5⟩ => by subst h4 h5; exact HK b h3
end
end Go.Proofs.Ytblgdfcijkaimaa.Ab

namespace Go.Proofs.Ytblgdfcijkaimaa.Ab
set_option linter.unusedVariables false
open Go.RowKit
section
variable {P : Program} {nt : Nat} {Q : Post} {e : Env} {h : Heap} {ops : Array Oper} {o : Oper} {rest : List Oper} {T : List Nat} {tab : TTab} {fuel i : Nat} {listed : Array Bool}
theorem ACall.reid {f : FuncId} {args : List AVal} {p id el k n : Nat} {ds : List Dat} (hid : Nat.blt id 1000 = true) (H : ACall P f args h (fun c h' => c = .row p ∧ h' = [(p, .row el k n ds)])) : ACall P f args h (fun c h' => c = .row id ∧ h' = [(id, .row el k n ds)]) :=
  ⟨H.1, fun Pm F w0 pin ι0 us w a b => (H.2 Pm F w0 pin ι0 us w a b).mono fun x w' ⟨u, c, h', ι, h1, ⟨h2, h3⟩, H, hv⟩ => by
    subst h2 h3
    have hid' : id < 1000 := by simp [Nat.blt] at hid; omega
    obtain ⟨v, hvv, xs, hown, hxl, hxr⟩ := H.blk p _ (look_cons_same _ _ _)
    have hι : ∀ i u, (fun i => if i = id then ι p else none) i = some u → i = id ∧ ι p = some u := fun i u hu => by
      dsimp only at hu
      split at hu
      · rename_i h; exact ⟨h, hu⟩
      · cases hu
    have hex : Ext w' F ι w' (fun i => if i = id then ι p else none) := ⟨fun _ _ _ => rfl, fun r _ hf => ⟨hf.1, fun i u hu => hf.2 p u (hι i u hu).2⟩⟩
    refine ⟨u, .row id, _, fun i => if i = id then ι p else none, h1, ⟨rfl, rfl⟩, ⟨fun i b hb => ?_, fun i u hu => ?_, fun i j u u' r hij hi hj => ?_, fun i u r hu => H.pm p u r (hι i u hu).2, H.os, H.tape, H.output, H.size, H.keep, H.fresh, fun i u h1 hu => ?_, fun i u r hu => H.nf p u r (hι i u hu).2, H.forb⟩, ?_⟩
    · by_cases h1 : id = i
      · subst h1
        rw [look_cons_same] at hb
        cases hb
        exact ⟨v, by simp only [if_true]; exact hvv, xs, hown, hxl, fun i c u h3 h4 => (hxr i c u h3 h4).ext (fun _ _ _ => rfl) fun r hr hf => hex.free r hr hf⟩
      · rw [look_cons_ne _ _ h1] at hb; cases hb
    · obtain ⟨rfl, _⟩ := hι i u hu
      exact ⟨_, look_cons_same _ _ _⟩
    · exact absurd ((hι i u hi).1.trans (hι j u' hj).1.symm) hij
    · obtain ⟨rfl, _⟩ := hι i u hu
      omega
    · cases hv with
      | row _ _ g1 g2 => exact .row id u g1 fun v2 hv2 => g2 v2 (hι id v2 hv2).2⟩
end
end Go.Proofs.Ytblgdfcijkaimaa.Ab

namespace Go.Proofs.Ytblgdfcijkaimaa.Ab
set_option linter.unusedVariables false
open Go.RowKit
section
variable {P : Program} {nt : Nat} {Q : Post} {e : Env} {h : Heap} {ops : Array Oper} {o : Oper} {T : List Nat} {fuel i : Nat} {listed : Array Bool}
theorem T_cRow {f : FuncId} {args : Array Operand} {ats : Array TypeId} {cs : List AVal} {d id el k n : Nat} {ds : List Dat} (hi : ops[i]? = some o) (hw : awant ops e o = some true) (hdst : o.dst = some d) (hd : Nat.blt d nt = true) (ho : o.op = .call { callee := .value (.func f), args := args, argTypes := ats }) (hx : aevs e args.toList = some cs)
    (H : ACall P f cs [] (fun c' h' => c' = .row id ∧ h' = [(id, .row el k n ds)])) (hid : Nat.blt id 1000 = true) (HK : AAny P nt ops Q T fuel (listed.setIfInBounds i true) ((d, .row id) :: killEs [id] e) ((id, .row el k n ds) :: killHs [id] h)) : AAt P nt ops Q T fuel listed i e h :=
  T_eff hi hw (E_callQ ho hdst hx H hd fun c' h' ⟨h1, h2⟩ => by
    subst h1 h2
    refine ⟨by simp [hid], fun j b i hb hh => ?_, fun j hj => ?_⟩
    · unfold look at hb
      cases hj : Nat.beq id j with
      | true => rw [hj] at hb; cases hb; simp [blkHas] at hh
      | false => rw [hj] at hb; cases hb
    · simp [AVal.has] at hj
      subst hj
      simp [look]) fun e' h' ⟨c, h2, ⟨h3, h4⟩, h5, h6⟩ => by subst h3 h4 h5 h6; exact HK
end
end Go.Proofs.Ytblgdfcijkaimaa.Ab

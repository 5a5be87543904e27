/-
  Texts of a proof, one behind the other (part 14).
-/
import Derived.Maps.RangeRun
import Derived.Laws.StructEq
import Derived.Test.YtblgdfcijkaimaaBg1
import Derived.Test.YtblgdfcijkaimaaBg6
import Derived.Test.YtblgdfcijkaimaaBg7
import Derived.Test.YtblgdfcijkaimaaBg10
import Derived.Test.YtblgdfcijkaimaaBg11
import Derived.Test.YtblgdfcijkaimaaBg12
set_option linter.unusedVariables false
set_option linter.unusedSimpArgs false
namespace Go.Proofs.Ytblgdfcijkaimaa
structure AdvR where
  a : Adv
  v1 : Value
  v2 : Value
  v3 : Value
instance : Inhabited AdvR := ⟨⟨⟨⟨0, 0⟩, 0, 0, 0, [], [], 0, 0, false, 0, [], 0⟩, undef, undef, undef⟩⟩
namespace Ab
set_option linter.unusedVariables false
set_option maxRecDepth 100000
open Go.RowKit Go.Lib
def advRV (x : AdvR) : List Value := [.int .u32 x.a.p.a, .int .i64 x.a.p.b, .int .u32 x.a.hop, .int .i64 x.a.pref, .int .i64 x.a.met, x.v1, x.v2, .int .u32 x.a.peer, .int .u32 x.a.pid, .bool x.a.ext, .int .u32 x.a.orig, x.v3, .int .i64 x.a.ses]
def advRD (x : AdvR) : List Dat := [uD x.a.p.a, iD x.a.p.b, uD x.a.hop, iD x.a.pref, iD x.a.met, .sc x.v1, .sc x.v2, uD x.a.peer, uD x.a.pid, bD x.a.ext, uD x.a.orig, .sc x.v3, iD x.a.ses]
theorem advRD_len (x : AdvR) : (advRD x).length = 13 := rfl
abbrev advRA (x : AdvR) : AVal := aggD (advRD x)
abbrev nRow (l : List Int) : ABlk := .row 27 1 l.length (l.flatMap u1D)
abbrev aRow (l : List Int) : ABlk := .row 28 1 l.length (l.flatMap u1D)
abbrev nRowx (v : Value) (l : List Int) : ABlk := .rowx v 27 1 l.length (l.flatMap u1D)
abbrev aRowx (v : Value) (l : List Int) : ABlk := .rowx v 28 1 l.length (l.flatMap u1D)
set_option linter.unusedSimpArgs false
attribute [local irreducible] AWp AOps AQ AYield AEff ACall AWk AAny AAt AThen AIn APost NoPanic
theorem cloneN_A (l : List Int) (hb : l.length * 4 ≤ 140737488351232) : ACall Try.prog 35 [usA l] [] (fun c h => c = .row 5 ∧ h = [(5, nRow l)]) := by
  refine ACall_of tabOk Try.func35 rfl Try.ntmps35 (congrArg Array.toList Try.results35) (by kernel_rfl) rfl ?_
  repeat (first | refine q_Z ?_ | refine R_quiet rfl mixed (by kernel_rfl) ?_ | ((first | apply O_y rfl rfl rfl | apply Q_y rfl rfl rfl); (first | exact q_A | exact q_5 | exact q_B)) | refine q_d ?_ | refine q_a ?_ | refine q_b ?_ | refine q_c ?_ | refine A_ct rfl ?_ | refine A_cf rfl ?_ | refine q_W ?_ | (refine O_nilEq tabOk rfl rfl rfl rfl rfl rfl ?_; intro b hb2))
  cases b with
  | true =>
    have : l = [] := List.eq_nil_of_length_eq_zero (hb2 rfl).2
    subst this
    repeat (first | refine q_Z ?_ | refine R_quiet rfl mixed (by kernel_rfl) ?_ | ((first | apply O_y rfl rfl rfl | apply Q_y rfl rfl rfl); (first | exact q_A | exact q_5 | exact q_B)) | refine q_d ?_ | refine q_a ?_ | refine q_b ?_ | refine q_c ?_ | refine A_ct rfl ?_ | refine A_cf rfl ?_ | refine q_W ?_)
    exact X_retW (Wk_nil 27 1 (t := 2) (id := 5) rfl rfl) rfl (h2 := [(5, nRow [])]) ⟨rfl, trivial⟩ ⟨rfl, rfl⟩
  | false =>
    repeat (first | refine q_Z ?_ | refine R_quiet rfl mixed (by kernel_rfl) ?_ | ((first | apply O_y rfl rfl rfl | apply Q_y rfl rfl rfl); (first | exact q_A | exact q_5 | exact q_B)) | refine q_d ?_ | refine q_a ?_ | refine q_b ?_ | refine q_c ?_ | refine A_ct rfl ?_ | refine A_cf rfl ?_ | refine q_W ?_ | (refine O_slice0 tabOk rfl rfl rfl rfl rfl rfl rfl ?_))
    refine O_appRB (rid := 5) tabOk rfl rfl rfl rfl rfl rfl rfl rfl rfl rfl rfl rfl (Src.dat _ _) (flat_len u1D_len _) (by omega) ?_
    repeat (first | refine q_Z ?_ | refine R_quiet rfl mixed (by kernel_rfl) ?_ | ((first | apply O_y rfl rfl rfl | apply Q_y rfl rfl rfl); (first | exact q_A | exact q_5 | exact q_B)) | refine q_d ?_ | refine q_a ?_ | refine q_b ?_ | refine q_c ?_ | refine A_ct rfl ?_ | refine A_cf rfl ?_ | refine q_W ?_)
    exact X_retW AWk.refl rfl (h2 := [(5, nRow l)]) ⟨by rw [Nat.zero_add]; rfl, trivial⟩ ⟨rfl, rfl⟩
theorem cloneA_A (l : List Int) (hb : l.length * 4 ≤ 140737488351232) : ACall Try.prog 36 [usA l] [] (fun c h => c = .row 5 ∧ h = [(5, aRow l)]) := by
  refine ACall_of tabOk Try.func36 rfl Try.ntmps36 (congrArg Array.toList Try.results36) (by kernel_rfl) rfl ?_
  repeat (first | refine q_Z ?_ | refine R_quiet rfl mixed (by kernel_rfl) ?_ | ((first | apply O_y rfl rfl rfl | apply Q_y rfl rfl rfl); (first | exact q_A | exact q_5 | exact q_B)) | refine q_d ?_ | refine q_a ?_ | refine q_b ?_ | refine q_c ?_ | refine A_ct rfl ?_ | refine A_cf rfl ?_ | refine q_W ?_ | (refine O_nilEq tabOk rfl rfl rfl rfl rfl rfl ?_; intro b hb2))
  cases b with
  | true =>
    have : l = [] := List.eq_nil_of_length_eq_zero (hb2 rfl).2
    subst this
    repeat (first | refine q_Z ?_ | refine R_quiet rfl mixed (by kernel_rfl) ?_ | ((first | apply O_y rfl rfl rfl | apply Q_y rfl rfl rfl); (first | exact q_A | exact q_5 | exact q_B)) | refine q_d ?_ | refine q_a ?_ | refine q_b ?_ | refine q_c ?_ | refine A_ct rfl ?_ | refine A_cf rfl ?_ | refine q_W ?_)
    exact X_retW (Wk_nil 28 1 (t := 2) (id := 5) rfl rfl) rfl (h2 := [(5, aRow [])]) ⟨rfl, trivial⟩ ⟨rfl, rfl⟩
  | false =>
    repeat (first | refine q_Z ?_ | refine R_quiet rfl mixed (by kernel_rfl) ?_ | ((first | apply O_y rfl rfl rfl | apply Q_y rfl rfl rfl); (first | exact q_A | exact q_5 | exact q_B)) | refine q_d ?_ | refine q_a ?_ | refine q_b ?_ | refine q_c ?_ | refine A_ct rfl ?_ | refine A_cf rfl ?_ | refine q_W ?_ | (refine O_slice0 tabOk rfl rfl rfl rfl rfl rfl rfl ?_))
    refine O_appRB (rid := 5) tabOk rfl rfl rfl rfl rfl rfl rfl rfl rfl rfl rfl rfl (Src.dat _ _) (flat_len u1D_len _) (by omega) ?_
    repeat (first | refine q_Z ?_ | refine R_quiet rfl mixed (by kernel_rfl) ?_ | ((first | apply O_y rfl rfl rfl | apply Q_y rfl rfl rfl); (first | exact q_A | exact q_5 | exact q_B)) | refine q_d ?_ | refine q_a ?_ | refine q_b ?_ | refine q_c ?_ | refine A_ct rfl ?_ | refine A_cf rfl ?_ | refine q_W ?_)
    exact X_retW AWk.refl rfl (h2 := [(5, aRow l)]) ⟨by rw [Nat.zero_add]; rfl, trivial⟩ ⟨rfl, rfl⟩
set_option maxHeartbeats 8000000 in
theorem copiedA_A (x : Adv) (hx : x.ok) : ACall Try.prog 19 [advA x] [] (fun c h => c = .agg [.d (uD x.p.a), .d (iD x.p.b), .d (uD x.hop), .d (iD x.pref), .d (iD x.met), .row 51, .row 52, .d (uD x.peer), .d (uD x.pid), .d (bD x.ext), .d (uD x.orig), .row 53, .d (iD x.ses)] ∧ h = [(51, nRow x.path), (52, nRow x.com), (53, aRow x.clus)]) := by
  have k1 := (cloneN_A x.path hx.b1).reid (id := 51) rfl
  have k2 := (cloneN_A x.com hx.b2).reid (id := 52) rfl
  have k3 := (cloneA_A x.clus hx.b3).reid (id := 53) rfl
  refine ACall_of tabOk Try.func19 rfl Try.ntmps19 (congrArg Array.toList Try.results19) (by kernel_rfl) rfl ?_
  refine A_seq ?_
  refine R_list ?_
  refine q_d ?_
  refine q_a ?_
  refine O_nil ?_
  refine q_j ?_
  refine A_weaken (Wk_sel (e1 := [(1, .ptr 1 0), (2, .ptr 2 0)]) (h1 := [(1, .var ((advD x).map .d)), (2, .var ([.d (.sc (.int .u32 0)), .d (.sc (.int .i64 0)), .d (.sc (.int .u32 0)), .d (.sc (.int .i64 0)), .d (.sc (.int .i64 0)), .d (.sc (.slice none 0 0)), .d (.sc (.slice none 0 0)), .d (.sc (.int .u32 0)), .d (.sc (.int .u32 0)), .d (.sc (.bool false)), .d (.sc (.int .u32 0)), .d (.sc (.slice none 0 0)), .d (.sc (.int .i64 0))]))]) ⟨rfl, rfl, trivial⟩ ⟨rfl, rfl, trivial⟩) ?_
  refine A_cut [(1, .ptr 1 0), (2, .ptr 2 0)] [(1, .var [.d (uD x.p.a), .d (iD x.p.b), .d (uD x.hop), .d (iD x.pref), .d (iD x.met), .row 51, .row 52, .d (uD x.peer), .d (uD x.pid), .d (bD x.ext), .d (uD x.orig), .row 53, .d (iD x.ses)]), (2, .var ([.d (.sc (.int .u32 0)), .d (.sc (.int .i64 0)), .d (.sc (.int .u32 0)), .d (.sc (.int .i64 0)), .d (.sc (.int .i64 0)), .d (.sc (.slice none 0 0)), .d (.sc (.slice none 0 0)), .d (.sc (.int .u32 0)), .d (.sc (.int .u32 0)), .d (.sc (.bool false)), .d (.sc (.int .u32 0)), .d (.sc (.slice none 0 0)), .d (.sc (.int .i64 0))])), (51, nRow x.path), (52, nRow x.com), (53, aRow x.clus)] ?_ ?_
  · skip
  -- BEGIN region 1
    refine N_begin [1] mixed ?_
    repeat' (first | (apply N_take (i := 0) rfl (by kernel_rfl) (by decide +kernel) (by decide +kernel) (by repeat (first | exact np_post | exact np_rfc | apply np_then | apply np_in)) rfl rfl rfl; exact q_8) | (apply N_take (i := 3) rfl (by kernel_rfl) (by decide +kernel) (by decide +kernel) (by repeat (first | exact np_post | exact np_rfc | apply np_then | apply np_in)) rfl rfl rfl; exact q_8) | (apply N_take (i := 6) rfl (by kernel_rfl) (by decide +kernel) (by decide +kernel) (by repeat (first | exact np_post | exact np_rfc | apply np_then | apply np_in)) rfl rfl rfl; exact q_8) | (apply N_take (i := 9) rfl (by kernel_rfl) (by decide +kernel) (by decide +kernel) (by repeat (first | exact np_post | exact np_rfc | apply np_then | apply np_in)) rfl rfl rfl; exact q_8) | (apply N_take (i := 11) rfl (by kernel_rfl) (by decide +kernel) (by decide +kernel) (by repeat (first | exact np_post | exact np_rfc | apply np_then | apply np_in)) rfl rfl rfl; exact q_8) | (apply N_take (i := 13) rfl (by kernel_rfl) (by decide +kernel) (by decide +kernel) (by repeat (first | exact np_post | exact np_rfc | apply np_then | apply np_in)) rfl rfl rfl; exact q_8) | (refine T_cRow (i := 2) rfl rfl rfl rfl rfl rfl k1 rfl ?_) | (refine T_cRow (i := 5) rfl rfl rfl rfl rfl rfl k2 rfl ?_) | (refine T_cRow (i := 8) rfl rfl rfl rfl rfl rfl k3 rfl ?_) | (apply T_yield rfl rfl rfl rfl; exact q_7) | refine T_store tabOk rfl rfl rfl rfl rfl rfl rfl rfl rfl rfl rfl rfl rfl ?_ | refine N_one (j := 1) (by decide +kernel) ?_ | refine N_one (j := 2) (by decide +kernel) ?_ | refine N_one (j := 4) (by decide +kernel) ?_ | refine N_one (j := 5) (by decide +kernel) ?_ | refine N_one (j := 7) (by decide +kernel) ?_ | refine N_one (j := 8) (by decide +kernel) ?_ | refine N_one (j := 10) (by decide +kernel) ?_ | refine N_one (j := 12) (by decide +kernel) ?_ | refine N_one (j := 14) (by decide +kernel) ?_ | refine N_two (j := 1) (k := 4) (by decide +kernel) ?_ ?_ | refine N_two (j := 1) (k := 7) (by decide +kernel) ?_ ?_ | refine N_two (j := 2) (k := 4) (by decide +kernel) ?_ ?_ | refine N_two (j := 2) (k := 7) (by decide +kernel) ?_ ?_ | refine N_two (j := 4) (k := 7) (by decide +kernel) ?_ ?_ | refine N_two (j := 5) (k := 7) (by decide +kernel) ?_ ?_ | refine N_thr (j := 1) (k := 4) (l := 7) (by decide +kernel) ?_ ?_ ?_ | refine N_thr (j := 2) (k := 4) (l := 7) (by decide +kernel) ?_ ?_ ?_ | refine N_done (by decide +kernel) ?_ | (refine q_j ?_; exact Wk_sel ⟨rfl, rfl, trivial⟩ ⟨rfl, rfl, rfl, rfl, rfl, trivial⟩))
  -- END region 1
  ·
    repeat (first | refine q_Z ?_ | ((first | apply O_y rfl rfl rfl | apply Q_y rfl rfl rfl); (first | exact q_A | exact q_5 | exact q_B)) | refine q_d ?_ | refine q_a ?_ | refine q_b ?_ | refine q_c ?_ | refine A_ct rfl ?_ | refine A_cf rfl ?_ | refine q_W ?_)
    exact X_retW AWk.refl rfl (h2 := [(51, nRow x.path), (52, nRow x.com), (53, aRow x.clus)]) ⟨rfl, rfl, rfl, trivial⟩ ⟨rfl, rfl⟩
theorem copied_A (x : Adv) (hx : x.ok) : ACall Try.prog 19 [advA x] [] (fun c h => ∃ y : AdvR, y.a = x ∧ c = advRA y ∧ h = [(51, nRowx y.v1 x.path), (52, nRowx y.v2 x.com), (53, aRowx y.v3 x.clus)]) := by
  refine (ACall.raw (copiedA_A x hx) fun id h => ?_).mono ?_
  · simp only [List.mem_cons, AVal.row.injEq, reduceCtorEq, false_or, or_false, List.not_mem_nil] at h
    rcases h with rfl | rfl | rfl <;> rfl
  · rintro c h ⟨ρ, rfl, rfl⟩
    exact ⟨⟨x, ρ 51, ρ 52, ρ 53⟩, rfl, rfl, rfl⟩
end Ab
end Go.Proofs.Ytblgdfcijkaimaa

namespace Go.Proofs.Ytblgdfcijkaimaa
set_option linter.unusedVariables false
set_option linter.unusedSectionVars false
open Go.RowKit Go.Sort Go.ChangeMaps

structure KeyLaw (P : Program) (K : TypeId) {κ : Type} [DecidableEq κ] (ek : κ → Value) (ok : κ → Prop) : Prop where
  check : ∀ b k w, ok k → (Instr.checkKey b 10000 K (ek k)).run P w = .ok () w
  find : ∀ (k : κ) (es : List MapEntry) (l : List (κ × Value)), ok k → (∀ p ∈ l, ok p.1) → es.map (fun e => (e.key, e.val)) = l.map (fun p => (ek p.1, p.2)) → ∀ w, (Instr.findKey K (ek k) es).run P w = .ok (mget l k) w
  bits : ∀ a, ok a → Instr.sameBits 10000 (ek a) (ek a) = true

theorem KeyLaw.of_agg {P : Program} {K : TypeId} {κ : Type} [DecidableEq κ] {ek : κ → Value} {ok : κ → Prop} {fs : Array Field} (hd : P.underlying K = some (.struct fs)) (hagg : ∀ k, ∃ cs, ek k = .agg cs)
    (check : ∀ b k w, ok k → (Instr.checkKey b 10000 K (ek k)).run P w = .ok () w) (eql : ∀ a b w, ok a → ok b → (Op.equal K (ek a) (ek b)).run P w = .ok (decide (a = b)) w)
    (bits : ∀ a, ok a → Instr.sameBits 10000 (ek a) (ek a) = true) : KeyLaw P K ek ok where
  check := check
  bits := bits
  find := by
    intro k es l hk hl he w
    have ask : ∀ (es : List MapEntry) (l : List (κ × Value)) (i : Nat), (∀ p ∈ l, ok p.1) → es.map (fun e => (e.key, e.val)) = l.map (fun p => (ek p.1, p.2)) →
        (Instr.findAsking K (ek k) es i).run P w = .ok ((mget l k).map fun x => (i + x.1, x.2)) w := by
      intro es
      induction es with
      | nil =>
        intro l i _ h
        cases l with
        | nil => rfl
        | cons p r => simp at h
      | cons e es ih =>
        intro l i hl h
        cases l with
        | nil => simp at h
        | cons p r =>
          obtain ⟨k', v⟩ := p
          simp only [List.map_cons, List.cons.injEq, Prod.mk.injEq] at h
          obtain ⟨⟨h1, h2⟩, h3⟩ := h
          unfold Instr.findAsking
          rw [Sem.run_bind, h1, eql k k' w hk (hl (k', v) (by simp))]
          simp only [Result.andThen_ok]
          unfold mget
          by_cases e : k = k'
          · simp [e, h2]
          · simp only [e, decide_false, Bool.false_eq_true, if_false]
            rw [ih r (i + 1) (fun p hp => hl p (by simp [hp])) h3]
            cases mget r k with
            | none => rfl
            | some x => simp; omega
    unfold Instr.findKey
    rw [Sem.run_bind, run_underlying hd]
    simp only [Result.andThen_ok]
    cases es with
    | nil =>
      cases l with
      | nil => simp [Instr.findNow, mget]
      | cons p r => simp at he
    | cons e es =>
      obtain ⟨cs, hcs⟩ := hagg k
      have hn : Instr.findNow (.struct fs) (ek k) (e :: es) 0 = none := by
        unfold Instr.findNow
        rw [hcs]
        cases e.key <;> rfl
      rw [hn]
      simp only
      rw [ask (e :: es) l 0 hl he]
      cases mget l k with
      | none => rfl
      | some x => simp

section
variable {P : Program} {κ ν : Type} [DecidableEq κ] {ek : κ → Value} {ev : ν → Value} {w w' : World} {B : Nat} {l : List (κ × ν)}

def MapIs (ek : κ → Value) (ev : ν → Value) (w : World) (B : Nat) (l : List (κ × ν)) : Prop :=
  ∃ es clock, w.heap[B]? = some (.map es clock) ∧ es.toList.map (fun e => (e.key, e.val)) = l.map (fun p => (ek p.1, ev p.2)) ∧ (∀ e ∈ es.toList, e.born < clock) ∧ (es.toList.map (·.born)).Pairwise (· < ·) ∧ (l.map (·.1)).Nodup

theorem MapIs.nodup (h : MapIs ek ev w B l) : (l.map (·.1)).Nodup := by obtain ⟨_, _, _, _, _, _, h⟩ := h; exact h
theorem MapIs.lt (h : MapIs ek ev w B l) : B < w.heap.size := by
  obtain ⟨_, _, h, _⟩ := h
  exact (Array.getElem?_eq_some_iff.1 h).1
theorem MapIs.of_block (h : MapIs ek ev w B l) (hb : w'.heap[B]? = w.heap[B]?) : MapIs ek ev w' B l := by
  obtain ⟨es, clock, h1, h2⟩ := h
  exact ⟨es, clock, hb.trans h1, h2⟩
theorem MapIs.keep (h : MapIs ek ev w B l) (hb : Below w.heap.size w w') : MapIs ek ev w' B l := h.of_block (hb.block B h.lt)
theorem MapIs.grown {row : Option Nat} (h : MapIs ek ev w B l) (hg : w.grownBy w' row) (hr : some B ≠ row) : MapIs ek ev w' B l := h.of_block (hg.block B h.lt hr)
theorem MapIs.alloc (h : MapIs ek ev w B l) (o : Obj) : MapIs ek ev (w.alloc o) B l := h.of_block (Below.heap_alloc w o B h.lt)
theorem MapIs.drew (h : MapIs ek ev w B l) : MapIs ek ev w.drew B l := h
theorem MapIs.drewN (h : MapIs ek ev w B l) (n : Nat) : MapIs ek ev (w.drewN n) B l := h
theorem MapIs.setCell (h : MapIs ek ev w B l) (a : Addr) (u : Value) : MapIs ek ev (w.setCell a u) B l := by
  obtain ⟨es, clock, h1, h2⟩ := h
  refine ⟨es, clock, ?_, h2⟩
  by_cases e : B = a.block
  · simp only [World.setCell, Array.getElem?_modify]
    rw [if_pos e.symm, h1]; rfl
  · rw [Below.heap_setCell w a u B e]; exact h1
theorem MapIs.made (w : World) : MapIs ek ev (w.alloc (.map #[] 0)) w.heap.size [] :=
  ⟨#[], 0, heap_alloc_new w _, rfl, by simp, by simp, by simp⟩
theorem MapIs.find {K : TypeId} {ok : κ → Prop} (h : MapIs ek ev w B l) (law : KeyLaw P K ek ok) {k : κ} (hk : ok k) (hl : ∀ p ∈ l, ok p.1) :
    ∃ es clock, w.heap[B]? = some (.map es clock) ∧ (∀ W, (Instr.findKey K (ek k) es.toList).run P W = .ok ((mget l k).map fun x => (x.1, ev x.2)) W) ∧ (∀ b W, (Instr.checkKey b 10000 K (ek k)).run P W = .ok () W) := by
  obtain ⟨es, clock, h1, h2, _⟩ := h
  refine ⟨es, clock, h1, fun W => ?_, fun b W => law.check b k W hk⟩
  have e : es.toList.map (fun e => (e.key, e.val)) = (l.map (fun p => (p.1, ev p.2))).map (fun p => (ek p.1, p.2)) := by rw [h2, List.map_map]; rfl
  rw [law.find k es.toList (l.map (fun p => (p.1, ev p.2))) hk (by intro p hp; obtain ⟨q, hq, rfl⟩ := List.mem_map.1 hp; exact hl q hq) e W]
  congr 1
  have : ∀ l : List (κ × ν), mget (l.map fun p => (p.1, ev p.2)) k = (mget l k).map fun x => (x.1, ev x.2) := by
    intro l
    induction l with
    | nil => rfl
    | cons p r ih =>
      obtain ⟨k', v⟩ := p
      simp only [List.map_cons, mget]
      split
      · rfl
      · rw [ih]; cases mget r k <;> rfl
  exact this l

theorem MapIs.lookup_ok {T K E : TypeId} {ok : κ → Prop} (h : MapIs ek ev w B l) (law : KeyLaw P K ek ok) (hT : P.underlying T = some (.map K E)) {z : Value} (hz : ∀ W, (zeroValue E).run P W = .ok z W) {k : κ} (hk : ok k) (hl : ∀ p ∈ l, ok p.1) :
    (Instr.lookup T (.map (some B)) (ek k) true).run P w = .ok (.tuple #[((aget l k).map ev).getD z, .bool (aget l k).isSome]) w := by
  obtain ⟨es, clock, h1, hf, hc⟩ := h.find law hk hl
  simp only [Instr.lookup, Sem.run_bind, run_underlying hT, Result.andThen_ok, MapKept.run_getObj_map h1, Sem.run_pure, hc, hf]
  unfold aget
  cases mget l k with
  | none => simp [hz]
  | some x => simp
theorem MapIs.lookup {T K E : TypeId} {ok : κ → Prop} (h : MapIs ek ev w B l) (law : KeyLaw P K ek ok) (hT : P.underlying T = some (.map K E)) {z : Value} (hz : ∀ W, (zeroValue E).run P W = .ok z W) {k : κ} (hk : ok k) (hl : ∀ p ∈ l, ok p.1) :
    (Instr.lookup T (.map (some B)) (ek k) false).run P w = .ok (((aget l k).map ev).getD z) w := by
  obtain ⟨es, clock, h1, hf, hc⟩ := h.find law hk hl
  simp only [Instr.lookup, Sem.run_bind, run_underlying hT, Result.andThen_ok, MapKept.run_getObj_map h1, Sem.run_pure, hc, hf]
  unfold aget
  cases mget l k with
  | none => simp [hz]
  | some x => simp

theorem setBlock_grown {es : Array MapEntry} {clock : Nat} (hb : w.heap[B]? = some (.map es clock)) (o : Obj) : w.grownBy (setBlock w B o) (some B) :=
  ⟨rfl, rfl, rfl, by simp [setBlock], fun k hk hne => heap_setBlock_other hb o (fun e => hne (by rw [e]))⟩
theorem modify_map {es : Array MapEntry} {i : Nat} (g : MapEntry → MapEntry) : (es.modify i g).toList = es.toList.modify i g := by simp
theorem list_modify_set {α : Type} (l : List α) (i : Nat) (g : α → α) {x : α} (h : l[i]? = some x) : l.modify i g = l.set i (g x) := by
  apply List.ext_getElem?
  intro j
  rw [List.getElem?_modify, List.getElem?_set]
  by_cases e : i = j
  · subst e
    obtain ⟨hlt, h2⟩ := List.getElem?_eq_some_iff.1 h
    simp [hlt, h2]
  · simp [e]

theorem MapIs.update {T K E : TypeId} {ok : κ → Prop} (h : MapIs ek ev w B l) (law : KeyLaw P K ek ok) (hT : P.underlying T = some (.map K E)) {k : κ} (hk : ok k) (hl : ∀ p ∈ l, ok p.1) (v : ν) :
    ∃ w', (Instr.mapUpdate T (.map (some B)) (ek k) (ev v)).run P w = .ok () w' ∧ MapIs ek ev w' B (aput l k v) ∧ w.grownBy w' (some B) ∧ w'.heap.size = w.heap.size := by
  have hn := aput_nodup (k := k) (v := v) h.nodup
  obtain ⟨es, clock, h1, hf, hc⟩ := h.find law hk hl
  obtain ⟨es', clock', h1', h2, h3, h4, h5⟩ := h
  rw [h1] at h1'
  injection h1' with h1'
  injection h1' with e1 e2
  subst e1 e2
  simp only [Instr.mapUpdate, Sem.run_bind, run_underlying hT, Result.andThen_ok, MapKept.run_getObj_map h1, hc, hf]
  unfold aput at *
  cases hm : mget l k with
  | none =>
    simp only [Option.map_none]
    refine ⟨setBlock w B (.map (es.push { key := ek k, val := ev v, born := clock }) (clock + 1)), by rw [MapKept.run_setObj_map _ h1]; rfl, ?_, setBlock_grown h1 _, by simp [setBlock]⟩
    refine ⟨_, _, heap_setBlock_same h1 _, ?_, ?_, ?_, by simpa [hm] using hn⟩
    · simp [h2]
    · intro e he
      simp at he
      rcases he with he | rfl
      · have := h3 e (by simpa using he); omega
      · simp
    · simp only [Array.toList_push, List.map_append, List.map_cons, List.map_nil]
      rw [List.pairwise_append]
      refine ⟨h4, by simp, ?_⟩
      intro a ha b hb
      simp at hb
      subst hb
      obtain ⟨e, he, rfl⟩ := List.mem_map.1 ha
      have := h3 e he
      omega
  | some x =>
    obtain ⟨i, u⟩ := x
    simp only [Option.map_some]
    have hi := mget_some hm
    have hie : (es.toList.map (fun e => (e.key, e.val)))[i]? = some (ek k, ev u) := by rw [h2, List.getElem?_map, hi]; rfl
    rw [List.getElem?_map] at hie
    cases hee : es.toList[i]? with
    | none => simp [hee] at hie
    | some e0 =>
      simp only [hee, Option.map_some, Option.some.injEq, Prod.mk.injEq] at hie
      have hes : es[i]? = some e0 := by rw [← Array.getElem?_toList]; exact hee
      have hstay : (Instr.keyThatStays (((es[i]?).map (·.key)).getD (ek k)) (ek k)).run P w = .ok (ek k) w := by
        rw [hes]
        simp only [Option.map_some, Option.getD_some, hie.1, Instr.keyThatStays, law.bits k hk, if_true, Sem.run_pure]
      rw [Sem.run_bind, hstay]
      simp only [Result.andThen_ok]
      refine ⟨setBlock w B (.map (es.modify i fun e => { e with key := ek k, val := ev v }) clock), by rw [MapKept.run_setObj_map _ h1]; rfl, ?_, setBlock_grown h1 _, by simp [setBlock]⟩
      have hmod : (es.modify i fun e => { e with key := ek k, val := ev v }).toList = es.toList.set i { e0 with key := ek k, val := ev v } := by
        rw [modify_map, list_modify_set _ _ _ hee]
      refine ⟨_, _, heap_setBlock_same h1 _, ?_, ?_, ?_, by simpa [hm] using hn⟩
      · rw [hmod, List.map_set, h2, List.map_set]
      · rw [hmod]
        intro e he
        obtain ⟨j, hj⟩ := List.getElem?_of_mem he
        rw [List.getElem?_set] at hj
        by_cases e2 : i = j
        · subst e2
          have hlt := (List.getElem?_eq_some_iff.1 hee).1
          simp at hlt
          simp [hlt] at hj
          subst hj
          exact h3 e0 (List.mem_of_getElem? hee)
        · rw [if_neg e2] at hj
          exact h3 e (List.mem_of_getElem? hj)
      · rw [hmod, List.map_set]
        have : (es.toList.map (·.born)).set i e0.born = es.toList.map (·.born) := by
          apply List.ext_getElem?
          intro j
          rw [List.getElem?_set]
          by_cases e2 : i = j
          · subst e2
            have hlt := (List.getElem?_eq_some_iff.1 hee).1
            simp at hlt
            obtain ⟨_, h9⟩ := Array.getElem?_eq_some_iff.1 hes
            simp [hlt, h9]
          · rw [if_neg e2]
        simpa [this] using h4

theorem map_eraseIdx' {α β : Type} (f : α → β) : ∀ (l : List α) (i : Nat), (l.eraseIdx i).map f = (l.map f).eraseIdx i
  | [], _ => by simp
  | a :: r, 0 => by simp
  | a :: r, i + 1 => by simp [map_eraseIdx' f r i]
theorem MapIs.delete {T K E ty : TypeId} {ok : κ → Prop} {tk : TypeId} (h : MapIs ek ev w B l) (law : KeyLaw P K ek ok) (hT : P.underlying T = some (.map K E)) {k : κ} (hk : ok k) (hl : ∀ p ∈ l, ok p.1) :
    ∃ w', (Builtin.delete_ #[T, tk] ty #[.map (some B), ek k]).run P w = .ok (.tuple #[]) w' ∧ MapIs ek ev w' B (adel l k) ∧ w.grownBy w' (some B) ∧ w'.heap.size = w.heap.size := by
  have hn := adel_nodup (k := k) h.nodup
  obtain ⟨es, clock, h1, hf, hc⟩ := h.find law hk hl
  obtain ⟨es', clock', h1', h2, h3, h4, h5⟩ := h
  rw [h1] at h1'
  injection h1' with h1'
  injection h1' with e1 e2
  subst e1 e2
  have hg1 : (#[T, tk] : Array TypeId)[0]? = some T := rfl
  have hg2 : (#[Value.map (some B), ek k] : Array Value)[0]? = some (.map (some B)) := rfl
  have hg3 : (#[Value.map (some B), ek k] : Array Value)[1]? = some (ek k) := rfl
  simp only [Builtin.delete_, hg1, hg2, hg3, Sem.run_bind, run_underlying hT, Result.andThen_ok, MapKept.run_getObj_map h1, hc, hf]
  unfold adel at *
  cases hm : mget l k with
  | none =>
    simp only [Option.map_none]
    refine ⟨setBlock w B (.map es clock), by rw [Sem.run_bind, MapKept.run_setObj_map _ h1]; rfl, ?_, setBlock_grown h1 _, by simp [setBlock]⟩
    exact ⟨_, _, heap_setBlock_same h1 _, h2, h3, h4, h5⟩
  | some x =>
    obtain ⟨i, u⟩ := x
    simp only [Option.map_some]
    refine ⟨setBlock w B (.map (es.eraseIdxIfInBounds i) clock), by rw [Sem.run_bind, MapKept.run_setObj_map _ h1]; rfl, ?_, setBlock_grown h1 _, by simp [setBlock]⟩
    have he : (es.eraseIdxIfInBounds i).toList = es.toList.eraseIdx i := by simp
    refine ⟨_, _, heap_setBlock_same h1 _, ?_, ?_, ?_, by simpa [hm] using hn⟩
    · rw [he, map_eraseIdx', h2, map_eraseIdx']
    · rw [he]
      intro e hem
      exact h3 e ((List.eraseIdx_sublist _ _).subset hem)
    · rw [he]
      exact h4.sublist ((List.eraseIdx_sublist _ _).map _)

theorem MapIs.size (h : MapIs ek ev w B l) : ∃ es clock, w.heap[B]? = some (.map es clock) ∧ es.size = l.length := by
  obtain ⟨es, clock, h1, h2, _⟩ := h
  refine ⟨es, clock, h1, ?_⟩
  have := congrArg List.length h2
  simpa using this
end
end Go.Proofs.Ytblgdfcijkaimaa

namespace Go.Proofs.Ytblgdfcijkaimaa.Ab
set_option linter.unusedVariables false
open Go.RowKit

section
variable {P : Program} {nt : Nat} {Q : Post} {e : Env} {h : Heap} {o : Oper} {T : List Nat} {tab : TTab}
theorem mp_eq {w : World} {F : Nat → Prop} {ι : Nat → Option Value} {id : Nat} {u v : Value} (h : VRel w F ι (.mp id) u) (hv : ι id = some v) : u = v := by
  cases h with
  | mp _ _ _ h2 => exact h2 v hv
variable {κ ν : Type} {ek : κ → Value} {ok : κ → Prop} {ka : κ → AVal} {xa : ν → AVal}
def ents (ka : κ → AVal) (xa : ν → AVal) (l : List (κ × ν)) : List (AVal × AVal) := l.map fun p => (ka p.1, xa p.2)
def Beside (w : World) (F : Nat → Prop) (ι : Nat → Option Value) (xa : ν → AVal) : List (κ × ν) → List (κ × Value) → Prop
  | [], [] => True
  | p :: l, q :: m => q.1 = p.1 ∧ VRel w F ι (xa p.2) q.2 ∧ Beside w F ι xa l m
  | _, _ => False
theorem Beside.keys {w : World} {F : Nat → Prop} {ι : Nat → Option Value} {l : List (κ × ν)} {m : List (κ × Value)} (h : Beside w F ι xa l m) : m.map (·.1) = l.map (·.1) := by
  induction l generalizing m with
  | nil => cases m with
    | nil => rfl
    | cons q m => cases h
  | cons p l ih => cases m with
    | nil => cases h
    | cons q m => rw [List.map_cons, List.map_cons, h.1, ih h.2.2]
theorem Beside.mget [DecidableEq κ] {w : World} {F : Nat → Prop} {ι : Nat → Option Value} {l : List (κ × ν)} {m : List (κ × Value)} (h : Beside w F ι xa l m) (k : κ) :
    (∀ i x, mget l k = some (i, x) → ∃ u, mget m k = some (i, u) ∧ VRel w F ι (xa x) u) ∧ (mget l k = none → mget m k = none) := by
  induction l generalizing m with
  | nil => cases m with
    | nil => exact ⟨fun i x h => (by cases h), fun _ => rfl⟩
    | cons q m => cases h
  | cons p l ih => cases m with
    | nil => cases h
    | cons q m =>
      obtain ⟨k1, x1⟩ := p
      obtain ⟨k2, u2⟩ := q
      obtain ⟨h1, h2, h3⟩ := h
      dsimp only at h1 h2
      subst h1
      obtain ⟨i1, i2⟩ := ih h3
      unfold Go.Proofs.Ytblgdfcijkaimaa.mget
      split
      · exact ⟨fun i x hx => (by cases hx; exact ⟨u2, rfl, h2⟩), fun hx => (by cases hx)⟩
      · refine ⟨fun i x hx => ?_, fun hx => ?_⟩
        · cases hm : Go.Proofs.Ytblgdfcijkaimaa.mget l k with
          | none => rw [hm] at hx; cases hx
          | some y =>
            rw [hm] at hx
            cases hx
            obtain ⟨u, h5, h6⟩ := i1 y.1 y.2 hm
            exact ⟨u, by rw [h5]; rfl, h6⟩
        · cases hm : Go.Proofs.Ytblgdfcijkaimaa.mget l k with
          | none => rw [i2 hm]; rfl
          | some y => rw [hm] at hx; cases hx
theorem Beside.aget [DecidableEq κ] {w : World} {F : Nat → Prop} {ι : Nat → Option Value} {l : List (κ × ν)} {m : List (κ × Value)} (h : Beside w F ι xa l m) (k : κ) :
    (∀ x, aget l k = some x → ∃ u, aget m k = some u ∧ VRel w F ι (xa x) u) ∧ (aget l k = none → aget m k = none) := by
  obtain ⟨h1, h2⟩ := h.mget k
  unfold Go.Proofs.Ytblgdfcijkaimaa.aget
  refine ⟨fun x hx => ?_, fun hx => ?_⟩
  · cases hm : Go.Proofs.Ytblgdfcijkaimaa.mget l k with
    | none => rw [hm] at hx; cases hx
    | some y =>
      rw [hm] at hx
      cases hx
      obtain ⟨u, h5, h6⟩ := h1 y.1 y.2 hm
      exact ⟨u, by rw [h5]; rfl, h6⟩
  · cases hm : Go.Proofs.Ytblgdfcijkaimaa.mget l k with
    | none => rw [h2 hm]; rfl
    | some y => rw [hm] at hx; cases hx
theorem beside_of {w : World} {F : Nat → Prop} {ι : Nat → Option Value} (hka : ∀ k, valA (ka k) = some (ek k)) (l : List (κ × ν)) (E : List MapEntry) (hl : E.length = l.length) (h : ∀ (i : Nat) (p : AVal × AVal) (m : MapEntry), (ents ka xa l)[i]? = some p → E[i]? = some m → VRel w F ι p.1 m.key ∧ VRel w F ι p.2 m.val) :
    ∃ m : List (κ × Value), Beside w F ι xa l m ∧ E.map (fun e => (e.key, e.val)) = m.map fun p => (ek p.1, p.2) := by
  induction l generalizing E with
  | nil =>
    have : E = [] := List.length_eq_zero_iff.1 hl
    subst this
    exact ⟨[], trivial, rfl⟩
  | cons p l ih => cases E with
    | nil => cases hl
    | cons q E =>
      obtain ⟨m, h1, h2⟩ := ih E (by simpa using hl) fun i p' m' a b => h (i + 1) p' m' a b
      have h0 := h 0 (ka p.1, xa p.2) q rfl rfl
      refine ⟨(p.1, q.val) :: m, ⟨rfl, h0.2, h1⟩, ?_⟩
      rw [List.map_cons, List.map_cons, h2, valA_rel h0.1 (hka p.1)]
theorem born_up (E : List MapEntry) : (∀ (i j : Nat) (m m' : MapEntry), i < j → E[i]? = some m → E[j]? = some m' → m.born < m'.born) ↔ (E.map (·.born)).Pairwise (· < ·) := by
  rw [List.pairwise_map, List.pairwise_iff_getElem]
  constructor
  · intro h i j hi hj hij
    exact h i j E[i] E[j] hij (List.getElem?_eq_getElem hi) (List.getElem?_eq_getElem hj)
  · intro h i j m m' hij h1 h2
    obtain ⟨hi, rfl⟩ := List.getElem?_eq_some_iff.1 h1
    obtain ⟨hj, rfl⟩ := List.getElem?_eq_some_iff.1 h2
    exact h i j hi hj hij
theorem map_is [DecidableEq κ] {w : World} {F : Nat → Prop} {ι : Nat → Option Value} (hka : ∀ k, valA (ka k) = some (ek k)) {l : List (κ × ν)} (hn : (l.map (·.1)).Nodup) {v : Value} (h : BRel w F ι (.map (ents ka xa l)) v) :
    ∃ B m, v = .map (some B) ∧ MapIs ek (fun u : Value => u) w B m ∧ Beside w F ι xa l m := by
  obtain ⟨r, E, clk, rfl, hc, hl, h1, h2, h3⟩ := h
  obtain ⟨m, h4, h5⟩ := beside_of hka l E.toList (by rw [Array.length_toList, hl, ents, List.length_map]) fun i p m a b => h1 i p m a (by simpa using b)
  refine ⟨r, m, rfl, ⟨E, clk, hc, h5, fun e he => ?_, (born_up _).1 fun i j m m' a b c => h2 i j m m' a (by simpa using b) (by simpa using c), by rw [h4.keys]; exact hn⟩, h4⟩
  obtain ⟨i, hi⟩ := List.getElem?_of_mem he
  exact h3 i e (by simpa using hi)
theorem mapIs_same [DecidableEq κ] {w w' : World} {B : Nat} {m : List (κ × Value)} (h : MapIs ek (fun u : Value => u) w B m) (hb : w'.heap[B]? = w.heap[B]?) : MapIs ek (fun u : Value => u) w' B m := h.of_block hb

theorem Y_lookup_in [DecidableEq κ] {t K E : Nat} {te : TE} {x y : Operand} {id : Nat} {k : κ} {l : List (κ × ν)} {z : ν} (TO : TabOk P tab) (law : KeyLaw P K ek ok) (hka : ∀ k, valA (ka k) = some (ek k)) (ho : o.op = .lookup t x y true) (ht : tlook tab t = some te) (hs : te.sh = .mp K E) (hx : aev e x = some (.mp id)) (hb : look h id = some (.map (ents ka xa l))) (hT : T.contains id = false)
    (hy : aev e y = some (ka k)) (hk : ok k) (hl : ∀ p ∈ l, ok p.1) (hn : (l.map (·.1)).Nodup) (hg : aget l k = some z) {zv : Value} (hz : ∀ W, (zeroValue E).run P W = .ok zv W) : AYield P T e h o (.tup [xa z, .d (.sc (.bool true))]) := fun Pm F w0 pin ι a w H Er => by
  obtain ⟨v, hv, hB⟩ := H.blk id _ hb
  obtain ⟨B, m, rfl, hm, hbes⟩ := map_is hka hn hB
  obtain ⟨d, hd, _, hh⟩ := (TO t te ht).und
  rw [hs] at hh
  cases hh
  have hxv := aev_rel Er hx
  have hkv := valA_rel (aev_rel Er hy) (hka k)
  obtain ⟨u, h1, h2⟩ := (hbes.aget k).1 z hg
  have hxe := mp_eq hxv hv
  refine ⟨.tuple #[u, .bool true], .tup _ _ rfl fun i c uu hi hu => ?_, fun w' hw' => ?_⟩
  · match i, hi, hu with
    | 0, hi, hu => cases hi; cases hu; exact h2
    | 1, hi, hu => cases hi; cases hu; exact sc_rel rfl
  · have hm' := mapIs_same hm (ct_same H hw' hv rfl hT)
    have := hm'.lookup_ok law hd hz hk (fun p hp => by
      have : p.1 ∈ m.map (·.1) := List.mem_map.2 ⟨p, hp, rfl⟩
      rw [hbes.keys] at this
      obtain ⟨q, hq, he⟩ := List.mem_map.1 this
      rw [← he]; exact hl q hq)
    rw [h1] at this
    simp only [execOp, ho, hxe, hkv]
    simp only [Sem.run_bind, this]
    rfl
theorem Y_lookup1 [DecidableEq κ] {t K E : Nat} {te : TE} {x y : Operand} {id : Nat} {k : κ} {l : List (κ × ν)} {z : ν} (TO : TabOk P tab) (law : KeyLaw P K ek ok) (hka : ∀ k, valA (ka k) = some (ek k)) (ho : o.op = .lookup t x y false) (ht : tlook tab t = some te) (hs : te.sh = .mp K E) (hx : aev e x = some (.mp id)) (hb : look h id = some (.map (ents ka xa l))) (hT : T.contains id = false)
    (hy : aev e y = some (ka k)) (hk : ok k) (hl : ∀ p ∈ l, ok p.1) (hn : (l.map (·.1)).Nodup) (hg : aget l k = some z) {zv : Value} (hz : ∀ W, (zeroValue E).run P W = .ok zv W) : AYield P T e h o (xa z) := fun Pm F w0 pin ι a w H Er => by
  obtain ⟨v, hv, hB⟩ := H.blk id _ hb
  obtain ⟨B, m, rfl, hm, hbes⟩ := map_is hka hn hB
  obtain ⟨d, hd, _, hh⟩ := (TO t te ht).und
  rw [hs] at hh
  cases hh
  have hxv := aev_rel Er hx
  have hkv := valA_rel (aev_rel Er hy) (hka k)
  obtain ⟨u, h1, h2⟩ := (hbes.aget k).1 z hg
  have hxe := mp_eq hxv hv
  refine ⟨u, h2, fun w' hw' => ?_⟩
  have hm' := mapIs_same hm (ct_same H hw' hv rfl hT)
  have := hm'.lookup law hd hz hk (fun p hp => by
    have : p.1 ∈ m.map (·.1) := List.mem_map.2 ⟨p, hp, rfl⟩
    rw [hbes.keys] at this
    obtain ⟨q, hq, he⟩ := List.mem_map.1 this
    rw [← he]; exact hl q hq)
  rw [h1] at this
  simp only [execOp, ho, hxe, hkv]
  simp only [Sem.run_bind, this]
  rfl
theorem Beside.wrote {w w' : World} {F : Nat → Prop} {ι : Nat → Option Value} {id : Nat} {v : Value} (hW : Wrote w v w') (hv : ι id = some v) : ∀ {l : List (κ × ν)} {m : List (κ × Value)}, Beside w F ι xa l m → Beside w' F ι xa l m
  | [], [], _ => trivial
  | p :: l, q :: m, h => ⟨h.1, h.2.1.wrote hW hv, Beside.wrote hW hv h.2.2⟩
  | [], _ :: _, h => h.elim
  | _ :: _, [], h => h.elim
theorem Beside.snoc {w : World} {F : Nat → Prop} {ι : Nat → Option Value} {k : κ} {z : ν} {u : Value} (hz : VRel w F ι (xa z) u) : ∀ {l : List (κ × ν)} {m : List (κ × Value)}, Beside w F ι xa l m → Beside w F ι xa (l ++ [(k, z)]) (m ++ [(k, u)])
  | [], [], _ => ⟨rfl, hz, trivial⟩
  | p :: l, q :: m, h => ⟨h.1, h.2.1, Beside.snoc hz h.2.2⟩
  | [], _ :: _, h => h.elim
  | _ :: _, [], h => h.elim
theorem Beside.set {w : World} {F : Nat → Prop} {ι : Nat → Option Value} {k : κ} {z : ν} {u : Value} (hz : VRel w F ι (xa z) u) : ∀ (i : Nat) {l : List (κ × ν)} {m : List (κ × Value)}, Beside w F ι xa l m → Beside w F ι xa (l.set i (k, z)) (m.set i (k, u))
  | _, [], [], _ => trivial
  | 0, p :: l, q :: m, h => ⟨rfl, hz, h.2.2⟩
  | i + 1, p :: l, q :: m, h => ⟨h.1, h.2.1, Beside.set hz i h.2.2⟩
  | _, [], _ :: _, h => h.elim
  | _, _ :: _, [], h => h.elim
theorem Beside.erase {w : World} {F : Nat → Prop} {ι : Nat → Option Value} : ∀ (i : Nat) {l : List (κ × ν)} {m : List (κ × Value)}, Beside w F ι xa l m → Beside w F ι xa (l.eraseIdx i) (m.eraseIdx i)
  | _, [], [], _ => trivial
  | 0, p :: l, q :: m, h => h.2.2
  | i + 1, p :: l, q :: m, h => ⟨h.1, h.2.1, Beside.erase i h.2.2⟩
  | _, [], _ :: _, h => h.elim
  | _, _ :: _, [], h => h.elim
theorem Beside.aput [DecidableEq κ] {w : World} {F : Nat → Prop} {ι : Nat → Option Value} {k : κ} {z : ν} {u : Value} (hz : VRel w F ι (xa z) u) {l : List (κ × ν)} {m : List (κ × Value)} (h : Beside w F ι xa l m) : Beside w F ι xa (Go.Proofs.Ytblgdfcijkaimaa.aput l k z) (Go.Proofs.Ytblgdfcijkaimaa.aput m k u) := by
  obtain ⟨h1, h2⟩ := h.mget k
  unfold Go.Proofs.Ytblgdfcijkaimaa.aput
  cases hm : Go.Proofs.Ytblgdfcijkaimaa.mget l k with
  | none => rw [h2 hm]; exact Beside.snoc hz h
  | some y =>
    obtain ⟨i, x⟩ := y
    obtain ⟨u', h5, _⟩ := h1 i x hm
    rw [h5]
    exact Beside.set hz i h
theorem Beside.adel [DecidableEq κ] {w : World} {F : Nat → Prop} {ι : Nat → Option Value} {k : κ} {l : List (κ × ν)} {m : List (κ × Value)} (h : Beside w F ι xa l m) : Beside w F ι xa (Go.Proofs.Ytblgdfcijkaimaa.adel l k) (Go.Proofs.Ytblgdfcijkaimaa.adel m k) := by
  obtain ⟨h1, h2⟩ := h.mget k
  unfold Go.Proofs.Ytblgdfcijkaimaa.adel
  cases hm : Go.Proofs.Ytblgdfcijkaimaa.mget l k with
  | none => rw [h2 hm]; exact h
  | some y =>
    obtain ⟨i, x⟩ := y
    obtain ⟨u', h5, _⟩ := h1 i x hm
    rw [h5]
    exact Beside.erase i h
theorem is_map [DecidableEq κ] {w : World} {F : Nat → Prop} {ι : Nat → Option Value} (hkv : ∀ k w F ι, VRel w F ι (ka k) (ek k)) {l : List (κ × ν)} {B : Nat} {m : List (κ × Value)} (h : MapIs ek (fun u : Value => u) w B m) (hb : Beside w F ι xa l m) : BRel w F ι (.map (ents ka xa l)) (.map (some B)) := by
  obtain ⟨E, clk, hc, h1, h2, h3, _⟩ := h
  have hlen : ∀ {l : List (κ × ν)} {m : List (κ × Value)}, Beside w F ι xa l m → m.length = l.length := fun hb => by have := congrArg List.length hb.keys; simpa using this
  have hEl : E.toList.length = m.length := by have := congrArg List.length h1; simpa using this
  refine ⟨B, E, clk, rfl, hc, by rw [← Array.length_toList, hEl, hlen hb, ents, List.length_map], fun i p e hp he => ?_, fun i j a b hij ha hb' => (born_up E.toList).2 h3 i j a b hij (by simpa using ha) (by simpa using hb'), fun i e he => h2 e (List.mem_of_getElem? (i := i) (by simpa using he))⟩
  have key : ∀ (i : Nat) {l : List (κ × ν)} {m : List (κ × Value)}, Beside w F ι xa l m → ∀ p q, l[i]? = some p → m[i]? = some q → q.1 = p.1 ∧ VRel w F ι (xa p.2) q.2 := by
    intro i
    induction i with
    | zero => intro l m hb p q hp hq; match l, m, hb with
      | a :: l, b :: m, hb => cases hp; cases hq; exact ⟨hb.1, hb.2.1⟩
      | [], [], _ => cases hp
    | succ i ih => intro l m hb p q hp hq; match l, m, hb with
      | a :: l, b :: m, hb => exact ih hb.2.2 p q (by simpa using hp) (by simpa using hq)
      | [], [], _ => cases hp
  rw [ents, List.getElem?_map] at hp
  cases hli : l[i]? with
  | none => rw [hli] at hp; cases hp
  | some p0 =>
    rw [hli] at hp
    cases hp
    have he2 : (E.toList.map (fun e => (e.key, e.val)))[i]? = some (e.key, e.val) := by rw [List.getElem?_map, Array.getElem?_toList, he]; rfl
    rw [h1, List.getElem?_map] at he2
    cases hmi : m[i]? with
    | none => rw [hmi] at he2; cases he2
    | some q =>
      rw [hmi] at he2
      simp only [Option.map_some, Option.some.injEq, Prod.mk.injEq] at he2
      obtain ⟨h5, h6⟩ := key i hb p0 q hli hmi
      rw [← he2.1, ← he2.2, h5]
      exact ⟨hkv _ _ _ _, h6⟩
theorem E_mapUpdate [DecidableEq κ] {t K E : Nat} {te : TE} {x y z : Operand} {d : Option Tmp} {id : Nat} {k : κ} {l : List (κ × ν)} {q : ν} (TO : TabOk P tab) (law : KeyLaw P K ek ok) (hka : ∀ k, valA (ka k) = some (ek k)) (hkv : ∀ k w F ι, VRel w F ι (ka k) (ek k)) (ho : o.op = .mapUpdate t x y z) (hdst : o.dst = d) (ht : tlook tab t = some te) (hs : te.sh = .mp K E) (hx : aev e x = some (.mp id)) (hb : look h id = some (.map (ents ka xa l)))
    (hy : aev e y = some (ka k)) (hq : aev e z = some (xa q)) (hk : ok k) (hl : ∀ p ∈ l, ok p.1) (hn : (l.map (·.1)).Nodup) (hd : dstOk nt d = true) (hT : T.contains id = true) :
    AEff P nt T e h o (fun e' h' => e' = aput d .und e ∧ h' = (id, .map (ents ka xa (Go.Proofs.Ytblgdfcijkaimaa.aput l k q))) :: h) := fun Pm F w0 pin ι a w R Kt Qx hK => by
  obtain ⟨v, hv, hB⟩ := R.heap.blk id _ hb
  obtain ⟨B, m, rfl, hm, hbes⟩ := map_is hka hn hB
  obtain ⟨dd, hdd, _, hh⟩ := (TO t te ht).und
  rw [hs] at hh
  cases hh
  have hxe := mp_eq (aev_rel R.env hx) hv
  have hye := valA_rel (aev_rel R.env hy) (hka k)
  have hze := aev_rel R.env hq
  obtain ⟨w', hrun, hm', hg, hsz⟩ := hm.update law hdd hk (fun p hp => by
    have : p.1 ∈ m.map (·.1) := List.mem_map.2 ⟨p, hp, rfl⟩
    rw [hbes.keys] at this
    obtain ⟨r, hr, he⟩ := List.mem_map.1 this
    rw [← he]; exact hl r hr) (a.eval z)
  have hW : Wrote w (.map (some B)) w' := ⟨hg.os, hg.tape, hg.output, hg.size, fun r hr hne => hg.block r hr fun he => hne (by rw [blockOf]; exact he.symm)⟩
  have hrun2 : (execOp a.eval o).run P w = .ok .skip w' := by
    simp only [execOp, ho, hxe, hye, Sem.run_bind, hrun]
    rfl
  unfold Oper.wp
  rw [hrun2, Oper.upon_skip, hdst]
  refine hK ι _ _ _ w' ⟨rfl, rfl⟩ ⟨R.heap.wrote hW hv (is_map hkv hm' ((hbes.aput hze).wrote hW hv)), (R.env.mono fun _ _ _ _ hv' => hv'.wrote hW hv).aput hd R.size .und, by rw [put_defers]; exact R.defers.ext (hW.ext hv), by rw [put_size]; exact R.size⟩ ?_ (put_defers _ _ _)
  exact ⟨⟨hW.os, hW.tape, hW.output, hW.size, fun r hr hne => hW.mem r hr fun hb => hne id (List.contains_iff_mem.1 hT) _ hv hb⟩, fun j _ u r hj hr _ => ⟨u, hj, hr⟩⟩
theorem E_makeMap {t : TypeId} {d : Option Tmp} {id : Nat} (ho : o.op = .makeMap t none) (hdst : o.dst = d) (hid : Nat.blt id 1000 = true) (hd : dstOk nt d = true) : AEff P nt T e h o (fun e' h' => e' = aput d (.mp id) (killE id e) ∧ h' = (id, .map []) :: killH id h) := fun Pm F w0 pin ι a w R K Qx hK => by
  have hb : ∀ ι', ι' = upd ι id (some (.map (some w.heap.size))) → Ext w F ι (w.alloc (.map #[] 0)) ι' → BRel (w.alloc (.map #[] 0)) F ι' (.map []) (.map (some w.heap.size)) := fun ι' h0 he =>
    ⟨w.heap.size, #[], 0, rfl, heap_new _ _, rfl, fun i p m h1 => by simp at h1, fun i j m m' _ h1 => by simp at h1, fun i m h1 => by simp at h1⟩
  obtain ⟨hR, hC⟩ := R.new (T := T) hid hd (.map #[] 0) (.map (some w.heap.size)) (by simp [blockOf]) _ (.mp id) hb fun ι' h1 => .mp id _ rfl fun v hv => by subst h1; simp [upd] at hv; exact hv
  have hrun : (execOp a.eval o).run P w = .ok (.value (.map (some w.heap.size))) (w.alloc (.map #[] 0)) := by
    simp only [execOp, ho]
    simp [Instr.makeMap, newObj, Sem.run]
  unfold Oper.wp
  rw [hrun, Oper.upon_value, hdst]
  exact hK _ _ _ _ _ ⟨rfl, rfl⟩ hR hC (put_defers _ _ _)
end
end Go.Proofs.Ytblgdfcijkaimaa.Ab

namespace Go.Proofs.Ytblgdfcijkaimaa.Ab
set_option linter.unusedVariables false
open Go.RowKit

def tmap (tab : TTab) (t : Nat) : Option (Nat × Nat) := match tlook tab t with
  | some te => match te.sh with | .mp k e => some (k, e) | _ => none
  | none => none
def tarr (tab : TTab) (t : Nat) : Option (Nat × Nat) := match tlook tab t with
  | some te => match te.sh with | .ar n e => some (n, e) | _ => none
  | none => none
def tptr (tab : TTab) (t : Nat) : Option Nat := match tlook tab t with
  | some te => match te.sh with | .pt e => some e | _ => none
  | none => none
theorem tmap_spec {tab : TTab} {t k e : Nat} (h : tmap tab t = some (k, e)) : ∃ te, tlook tab t = some te ∧ te.sh = .mp k e := by
  unfold tmap at h
  cases ht : tlook tab t with
  | none => rw [ht] at h; cases h
  | some te =>
    rw [ht] at h
    refine ⟨te, rfl, ?_⟩
    dsimp only at h
    split at h
    · rename_i hs; cases h; exact hs
    · cases h
section
variable {P : Program} {nt : Nat} {Q : Post} {e : Env} {h : Heap} {o : Oper} {ops : Array Oper} {rest : List Oper} {T : List Nat} {tab : TTab}
variable {κ ν : Type} [DecidableEq κ] {ek : κ → Value} {ok : κ → Prop} {ka : κ → AVal} {xa : ν → AVal}
theorem R_lkIn {t K E id : Nat} {x y : Operand} {k : κ} {l : List (κ × ν)} {z : ν} {zv : Value} (law : KeyLaw P K ek ok) (hka : ∀ k, valA (ka k) = some (ek k)) (hz : ∀ W, (zeroValue E).run P W = .ok zv W) (hk : ok k) (hl : ∀ p ∈ l, ok p.1) (hn : (l.map (·.1)).Nodup) (hg : aget l k = some z)
    (TO : TabOk P tab) (ho : o.op = .lookup t x y true) (ht : tmap tab t = some (K, E)) (hx : aev e x = some (.mp id)) (hb : look h id = some (.map (ents ka xa l))) (hT : T.contains id = false) (hy : aev e y = some (ka k)) : AYield P T e h o (.tup [xa z, .d (.sc (.bool true))]) := by
  obtain ⟨te, h1, h2⟩ := tmap_spec ht
  exact Y_lookup_in TO law hka ho h1 h2 hx hb hT hy hk hl hn hg hz
theorem R_lk1 {t K E id : Nat} {x y : Operand} {k : κ} {l : List (κ × ν)} {z : ν} {zv : Value} (law : KeyLaw P K ek ok) (hka : ∀ k, valA (ka k) = some (ek k)) (hz : ∀ W, (zeroValue E).run P W = .ok zv W) (hk : ok k) (hl : ∀ p ∈ l, ok p.1) (hn : (l.map (·.1)).Nodup) (hg : aget l k = some z)
    (TO : TabOk P tab) (ho : o.op = .lookup t x y false) (ht : tmap tab t = some (K, E)) (hx : aev e x = some (.mp id)) (hb : look h id = some (.map (ents ka xa l))) (hT : T.contains id = false) (hy : aev e y = some (ka k)) : AYield P T e h o (xa z) := by
  obtain ⟨te, h1, h2⟩ := tmap_spec ht
  exact Y_lookup1 TO law hka ho h1 h2 hx hb hT hy hk hl hn hg hz
theorem T_upd {fuel i : Nat} {listed : Array Bool} {t K E id : Nat} {x y z : Operand} {k : κ} {l : List (κ × ν)} {q : ν} (law : KeyLaw P K ek ok) (hka : ∀ k, valA (ka k) = some (ek k)) (hkv : ∀ k w F ι, VRel w F ι (ka k) (ek k)) (hk : ok k) (hl : ∀ p ∈ l, ok p.1) (hn : (l.map (·.1)).Nodup)
    (TO : TabOk P tab) (hi : ops[i]? = some o) (hw : awant ops e o = some true) (hdst : o.dst = none) (ho : o.op = .mapUpdate t x y z) (ht : tmap tab t = some (K, E)) (hx : aev e x = some (.mp id)) (hb : look h id = some (.map (ents ka xa l))) (hT : T.contains id = true) (hy : aev e y = some (ka k)) (hq : aev e z = some (xa q))
    (H : AAny P nt ops Q T fuel (listed.setIfInBounds i true) e ((id, .map (ents ka xa (Go.Proofs.Ytblgdfcijkaimaa.aput l k q))) :: h)) : AAt P nt ops Q T fuel listed i e h := by
  obtain ⟨te, h1, h2⟩ := tmap_spec ht
  exact T_eff hi hw (E_mapUpdate TO law hka hkv ho hdst h1 h2 hx hb hy hq hk hl hn rfl hT) fun e' h' ⟨h3, h4⟩ => by subst h3 h4; exact H
theorem O_makeMap {t d : Nat} (id : Nat) (hw : awant ops e o = some true) (hdst : o.dst = some d) (hd : Nat.blt d nt = true) (hid : Nat.blt id 1000 = true) (ho : o.op = .makeMap t none) (HK : AOps P nt ops Q rest ((d, .mp id) :: killE id e) ((id, .map []) :: killH id h)) : AOps P nt ops Q (o :: rest) e h :=
  O_eff (T := []) hw (E_makeMap ho hdst hid hd) fun e' h' ⟨h1, h2⟩ => by subst h1 h2; exact HK
theorem O_cP {f : FuncId} {args : Array Operand} {ats : Array TypeId} {cs0 cs : List AVal} {h0 h1 : Heap} {c : AVal} {d : Nat} (ρ : List (Nat × Nat)) (hinj : ∀ p p' i, look ρ p = some i → look ρ p' = some i → p = p') (hdom : ∀ p i, look ρ p = some i → 1000 ≤ p ∧ (look h0 p).isSome = true ∧ (look h1 p).isSome = true)
    (H : ACall P f cs h0 (fun c' h' => c' = c ∧ h' = h1)) (hok : ∀ c ∈ cs, okV ρ c = true) (hl : Lent ρ h h0) (hw : awant ops e o = some true) (hdst : o.dst = some d) (hd : Nat.blt d nt = true) (ho : o.op = .call { callee := .value (.func f), args := args, argTypes := ats }) (hx : aevs e args.toList = some cs0)
    (hcs : cs.map (renV ρ) = cs0) (HK : AOps P nt ops Q rest ((d, renV ρ c) :: e) (renH ρ h1 ++ h)) : AOps P nt ops Q (o :: rest) e h :=
  O_eff (T := ρ.map (·.2)) hw (E_callP ρ ho hdst hx hcs hok hl (fun p i hp => ⟨(hdom p i hp).1, (hdom p i hp).2.1⟩) hinj H hd (fun p i hp => by
    have : ∀ (ρ : List (Nat × Nat)), look ρ p = some i → i ∈ ρ.map (·.2) := by
      intro ρ
      induction ρ with
      | nil => intro h; cases h
      | cons q r ih =>
        obtain ⟨a, b⟩ := q
        intro h
        by_cases ha : a = p
        · subst ha; rw [look_cons_same] at h; cases h; simp
        · rw [look_cons_ne _ _ ha] at h; have := ih h; simp at this ⊢; exact .inr this
    exact List.contains_iff_mem.2 (this ρ hp)) (fun c' h' ⟨h3, h4⟩ p i hp => by subst h4; exact (hdom p i hp).2.2)) fun e' h' ⟨c', h2, ⟨h3, h4⟩, h5, h6⟩ => by subst h3 h4 h5 h6; exact HK
end
end Go.Proofs.Ytblgdfcijkaimaa.Ab

namespace Go.Proofs.Ytblgdfcijkaimaa.Ab
set_option linter.unusedVariables false
open Go.RowKit
section
variable {P : Program} {nt : Nat} {Q : Post} {e : Env} {h : Heap} {ops : Array Oper} {o : Oper} {rest : List Oper} {T : List Nat} {tab : TTab}
variable {κ ν : Type} [DecidableEq κ] {ek : κ → Value} {ok : κ → Prop} {ka : κ → AVal} {xa : ν → AVal}
theorem R_lkOutA {t K E id : Nat} {x y : Operand} {k : κ} {l : List (κ × ν)} {zv : Value} (c0 : AVal) (hc0 : ∀ w F ι, VRel w F ι c0 zv) (law : KeyLaw P K ek ok) (hka : ∀ k, valA (ka k) = some (ek k)) (hz : ∀ W, (zeroValue E).run P W = .ok zv W) (hk : ok k) (hl : ∀ p ∈ l, ok p.1) (hn : (l.map (·.1)).Nodup) (hg : aget l k = none)
    (TO : TabOk P tab) (ho : o.op = .lookup t x y true) (ht : tmap tab t = some (K, E)) (hx : aev e x = some (.mp id)) (hb : look h id = some (.map (ents ka xa l))) (hT : T.contains id = false) (hy : aev e y = some (ka k)) : AYield P T e h o (.tup [c0, .d (.sc (.bool false))]) := fun Pm F w0 pin ι a w H Er => by
  obtain ⟨te, ht, hs⟩ := tmap_spec ht
  obtain ⟨v, hv, hB⟩ := H.blk id _ hb
  obtain ⟨B, m, rfl, hm, hbes⟩ := map_is hka hn hB
  obtain ⟨d, hd, _, hh⟩ := (TO t te ht).und
  rw [hs] at hh
  cases hh
  have hxv := aev_rel Er hx
  have hkv := valA_rel (aev_rel Er hy) (hka k)
  have h1 := (hbes.aget k).2 hg
  have hxe := mp_eq hxv hv
  refine ⟨.tuple #[zv, .bool false], .tup _ _ rfl fun i c uu hi hu => ?_, fun w' hw' => ?_⟩
  · match i, hi, hu with
    | 0, hi, hu => cases hi; cases hu; exact hc0 _ _ _
    | 1, hi, hu => cases hi; cases hu; exact sc_rel rfl
  · have hm' := mapIs_same hm (ct_same H hw' hv rfl hT)
    have := hm'.lookup_ok law hd hz hk (fun p hp => by
      have : p.1 ∈ m.map (·.1) := List.mem_map.2 ⟨p, hp, rfl⟩
      rw [hbes.keys] at this
      obtain ⟨q, hq, he⟩ := List.mem_map.1 this
      rw [← he]; exact hl q hq)
    rw [h1] at this
    simp only [execOp, ho, hxe, hkv]
    simp only [Sem.run_bind, this]
    rfl
end
end Go.Proofs.Ytblgdfcijkaimaa.Ab

namespace Go.Proofs.Ytblgdfcijkaimaa.Ab
set_option linter.unusedVariables false
open Go.RowKit
open Go.ChangeMaps (setBlock)

section
variable {nt : Nat} {e : Env} {h : Heap}
theorem Rel.opened {Pm F : Nat → Prop} {w0 w : World} {pin ι : Nat → Option Value} {a : Act} (R : Rel Pm F w0 pin ι nt e h a w) {mid : Nat} {es : List (AVal × AVal)} (hb : look h mid = some (.map es)) :
    ∃ r bs clk, bs.length = es.length ∧ bs.Pairwise (fun a b => a < b) ∧ (∀ b ∈ bs, b < clk) ∧ Rel Pm F w0 pin ι nt e ((mid, .mapx r bs clk es) :: h) a w := by
  obtain ⟨v, hv, r, E, clk, rfl, hC, hl, hr, h1, h2⟩ := R.heap.blk mid _ hb
  have hW : Wrote w (.map (some r)) w := ⟨rfl, rfl, rfl, Nat.le_refl _, fun _ _ _ => rfl⟩
  have hp : (E.toList.map (·.born)).Pairwise (fun a b => a < b) := by
    rw [List.pairwise_map, List.pairwise_iff_getElem]
    intro i j hi hj hij
    exact h1 i j _ _ hij (by rw [← Array.getElem?_toList]; exact List.getElem?_eq_getElem hi) (by rw [← Array.getElem?_toList]; exact List.getElem?_eq_getElem hj)
  have hlt : ∀ b ∈ E.toList.map (·.born), b < clk := fun b hb => by
    obtain ⟨m, hm, rfl⟩ := List.mem_map.1 hb
    obtain ⟨i, hi⟩ := List.getElem?_of_mem hm
    exact h2 i m (by rw [← Array.getElem?_toList]; exact hi)
  exact ⟨r, E.toList.map (·.born), clk, by simp [hl], hp, hlt, R.heap.wrote hW hv ⟨E, rfl, hC, hl, hr, rfl, hp, hlt⟩, R.env, R.defers, R.size⟩
theorem Wk_close {mid r clk : Nat} {bs : List Nat} {es : List (AVal × AVal)} (hb : look h mid = some (.mapx r bs clk es)) : AWk nt e h e ((mid, .map es) :: h) := fun Pm F w0 pin ι a w R => by
  obtain ⟨v, hv, E, rfl, hC, hl, hr, h1, h2, h3⟩ := R.heap.blk mid _ hb
  have hW : Wrote w (.map (some r)) w := ⟨rfl, rfl, rfl, Nat.le_refl _, fun _ _ _ => rfl⟩
  refine ⟨ι, R.heap.wrote hW hv ⟨r, E, clk, rfl, hC, hl, hr, fun i j m m' hij hi hj => ?_, fun i m hi => ?_⟩, R.env, R.defers, R.size⟩
  · rw [← h1, List.pairwise_map, List.pairwise_iff_getElem] at h2
    have hi' := (Array.getElem?_eq_some_iff.1 hi)
    have hj' := (Array.getElem?_eq_some_iff.1 hj)
    have := h2 i j (by simpa using hi'.1) (by simpa using hj'.1) hij
    rw [Array.getElem_toList, Array.getElem_toList, hi'.2, hj'.2] at this
    exact this
  · refine h3 m.born ?_
    rw [← h1]
    exact List.mem_map.2 ⟨m, Array.mem_toList_iff.2 (Array.mem_of_getElem? hi), rfl⟩
end
section
variable {P : Program} {nt : Nat} {Q : Post} {e : Env} {h : Heap} {ops : Array Oper} {o : Oper} {rest : List Oper} {T : List Nat} {tab : TTab} {z : Bool}
theorem A_open {c : Code} {mid : Nat} {es : List (AVal × AVal)} (hb : look h mid = some (.map es)) (H : ∀ r bs clk, bs.length = es.length → bs.Pairwise (fun a b => a < b) → (∀ b ∈ bs, b < clk) → AWp z P nt c Q e ((mid, .mapx r bs clk es) :: h)) : AWp z P nt c Q e h :=
  fun lq Pm F w0 pin ι a w hz R => by
    obtain ⟨r, bs, clk, h1, h2, h3, R'⟩ := R.opened hb
    exact H r bs clk h1 h2 h3 lq Pm F w0 pin ι a w hz R'
theorem E_range {t : TypeId} {x : Operand} {d : Option Tmp} {id mid r clk : Nat} {bs : List Nat} {es : List (AVal × AVal)} {k v : TypeId} (TO : TabOk P tab) (ho : o.op = .range t x) (hdst : o.dst = d) (ht : tmap tab t = some (k, v)) (hx : aev e x = some (.mp mid)) (hm : look h mid = some (.mapx r bs clk es)) (hid : Nat.blt id 1000 = true) (hd : dstOk nt d = true) :
    AEff P nt T e h o (fun e' h' => e' = aput d (.ptr id 0) (killE id e) ∧ h' = (id, .it (.mapIter (some r) clk #[] clk)) :: killH id h) := fun Pm F w0 pin ι a w R K Qx hK => by
  obtain ⟨te, h1, h2⟩ := tmap_spec ht
  obtain ⟨vm, hvm, E, rfl, hC, _⟩ := R.heap.blk mid _ hm
  have hxv := aev_rel R.env hx
  have hxe : a.eval x = .map (some r) := by
    generalize a.eval x = u at hxv
    cases hxv with
    | mp _ _ h1 h2 => exact h2 _ hvm
  have hb : ∀ ι', ι' = upd ι id (some (.pointer (some ⟨w.heap.size, 0, none⟩))) → Ext w F ι (w.alloc (.mapIter (some r) clk #[] clk)) ι' → BRel (w.alloc (.mapIter (some r) clk #[] clk)) F ι' (.it (.mapIter (some r) clk #[] clk)) (.pointer (some ⟨w.heap.size, 0, none⟩)) := fun ι' _ _ => ⟨_, rfl, heap_new _ _⟩
  obtain ⟨hR, hCt⟩ := R.new (T := T) hid hd (.mapIter (some r) clk #[] clk) (.pointer (some ⟨w.heap.size, 0, none⟩)) (by simp [blockOf]) _ (.ptr id 0) hb fun ι' h1 => .ptr id 0 _ rfl fun v hv => by subst h1; simp [upd] at hv; subst hv; exact ⟨_, rfl, rfl⟩
  have hrun : (execOp a.eval o).run P w = .ok (.value (.pointer (some ⟨w.heap.size, 0, none⟩))) (w.alloc (.mapIter (some r) clk #[] clk)) := by
    have hu : P.underlying t = some (.map k v) := by
      obtain ⟨d, hd, _, hs⟩ := (TO t te h1).und
      rw [h2] at hs
      rw [hd, show d = .map k v from hs]
    simp only [execOp, ho, hxe]
    simp [run_range_map w t k v r E clk hu hC]
  unfold Oper.wp
  rw [hrun, Oper.upon_value, hdst]
  exact hK _ _ _ _ _ ⟨rfl, rfl⟩ hR hCt (put_defers _ _ _)
theorem O_range {t : TypeId} {x : Operand} {d mid r clk : Nat} {bs : List Nat} {es : List (AVal × AVal)} {k v : TypeId} (TO : TabOk P tab) (hw : awant ops e o = some true) (hdst : o.dst = some d) (hd : Nat.blt d nt = true) (hid : Nat.blt d 1000 = true) (ho : o.op = .range t x) (ht : tmap tab t = some (k, v)) (hx : aev e x = some (.mp mid)) (hm : look h mid = some (.mapx r bs clk es))
    (HK : AOps P nt ops Q rest ((d, .ptr d 0) :: killE d e) ((d, .it (.mapIter (some r) clk #[] clk)) :: killH d h)) : AOps P nt ops Q (o :: rest) e h :=
  O_eff (T := []) hw (E_range TO ho hdst ht hx hm hid hd) fun e' h' ⟨h1, h2⟩ => by subst h1 h2; exact HK
theorem it_val {Pm F : Nat → Prop} {w0 w : World} {pin ι : Nat → Option Value} {a : Act} (H : HRel Pm F w0 pin ι h w) (E : EnvRel w F ι e a) {x : Operand} {it : Nat} {ob : Obj} (hx : aev e x = some (.ptr it 0)) (hi : look h it = some (.it ob)) :
    ∃ r, ι it = some (.pointer (some ⟨r, 0, none⟩)) ∧ w.heap[r]? = some ob ∧ a.eval x = .pointer (some ⟨r, 0, none⟩) := by
  obtain ⟨v, hv, r, rfl, hr⟩ := H.blk it _ hi
  refine ⟨r, hv, hr, ?_⟩
  have hxv := aev_rel E hx
  generalize a.eval x = u at hxv
  cases hxv with
  | ptr _ _ _ h1 h2 =>
    obtain ⟨r', h3, h4⟩ := h2 _ hv
    cases h3
    exact h4
theorem E_next {x : Operand} {d : Option Tmp} {it mid r since c0 clk : Nat} {seen : Array Nat} {bs : List Nat} {es : List (AVal × AVal)} (ho : o.op = .next x false) (hdst : o.dst = d) (hx : aev e x = some (.ptr it 0)) (hi : look h it = some (.it (.mapIter (some r) since seen c0))) (hm : look h mid = some (.mapx r bs clk es))
    (hs : clk ≤ since) (hsc : since ≤ c0) (hd : dstOk nt d = true) (hT : T.contains it = true) :
    AEff P nt T e h o (fun e' h' => (e' = aput d (.tup [.d (.sc (.bool false))]) e ∧ h' = h ∧ ∀ b ∈ bs, seen.contains b = true) ∨
      ∃ (j : Nat) (p : AVal × AVal) (b : Nat), es[j]? = some p ∧ bs[j]? = some b ∧ seen.contains b = false ∧ e' = aput d (.tup [.d (.sc (.bool true)), p.1, p.2]) e ∧ h' = (it, .it (.mapIter (some r) since (seen.push b) clk)) :: h) := fun Pm F w0 pin ι a w R K Qx hK => by
  obtain ⟨ri, hvi, hri, hxe⟩ := it_val R.heap R.env hx hi
  obtain ⟨vm, hvm, E, rfl, hC, hl, hr, hbs, hp, hlt⟩ := R.heap.blk mid _ hm
  have hold : ∀ m ∈ E.toList, m.born < since := fun m hm => Nat.lt_of_lt_of_le (hlt m.born (by rw [← hbs]; exact List.mem_map.2 ⟨m, hm, rfl⟩)) hs
  unfold Oper.wp
  rcases run_next_at (P := P) w o.type ri r since c0 seen E clk hri hC hold hsc with ⟨h0, hrun⟩ | ⟨en, hen, w1, hw1, hrun⟩
  · have hrun2 : (execOp a.eval o).run P w = .ok (.value (.tuple #[.bool false])) w := by
      simp only [execOp, ho, hxe]
      simp [hrun]
    rw [hrun2, Oper.upon_value, hdst]
    refine hK ι _ _ _ w (.inl ⟨rfl, rfl, fun b hb => ?_⟩) (R.put hd (.tup _ _ rfl fun i c u h1 h2 => ?_)) ⟨CT.refl _ _ _, fun id _ v r h1 h2 _ => ⟨v, h1, h2⟩⟩ (put_defers _ _ _)
    · rw [← hbs] at hb
      obtain ⟨m, hm, rfl⟩ := List.mem_map.1 hb
      cases hc : seen.contains m.born with
      | true => rfl
      | false =>
        have : m ∈ (leftOf E seen).toList := by
          unfold leftOf
          rw [Array.toList_filter]
          exact List.mem_filter.2 ⟨hm, by rw [hc]; rfl⟩
        rw [Array.eq_empty_of_size_eq_zero h0] at this
        simp at this
    · match i with
      | 0 => simp at h1 h2; subst h1 h2; exact .d _ _ (.sc _ rfl)
      | i + 1 => simp at h1
  · obtain ⟨w', hw'⟩ : ∃ w', setBlock w1 ri (.mapIter (some r) since (seen.push en.born) clk) = w' := ⟨_, rfl⟩
    rw [hw'] at hrun
    have hrun2 : (execOp a.eval o).run P w = .ok (.value (.tuple #[.bool true, en.key, en.val])) w' := by
      simp only [execOp, ho, hxe]
      simp [hrun]
    rw [hrun2, Oper.upon_value, hdst]
    have hmem : en ∈ E.toList ∧ seen.contains en.born = false := by
      unfold leftOf at hen
      rw [Array.toList_filter] at hen
      have := List.mem_filter.1 hen
      exact ⟨this.1, by simpa using this.2⟩
    obtain ⟨j, hj⟩ := List.getElem?_of_mem hmem.1
    have hj2 : E[j]? = some en := by rw [← Array.getElem?_toList]; exact hj
    have hjl : j < es.length := by rw [← hl]; exact (Array.getElem?_eq_some_iff.1 hj2).1
    have h1w : w1.heap = w.heap ∧ w1.os = w.os ∧ w1.tape = w.tape ∧ w1.output = w.output := by rcases hw1 with rfl | rfl <;> exact ⟨rfl, rfl, rfl, rfl⟩
    have hlt' : ri < w.heap.size := (Array.getElem?_eq_some_iff.1 hri).1
    have hW : Wrote w (.pointer (some ⟨ri, 0, none⟩)) w' := by
      rw [← hw']
      refine ⟨h1w.2.1, h1w.2.2.1, h1w.2.2.2, by simp [setBlock, h1w.1], fun q hq hne => ?_⟩
      have : ri ≠ q := by rintro rfl; exact hne rfl
      simp [setBlock, h1w.1, Array.getElem?_setIfInBounds_ne this]
    have hnew : w'.heap[ri]? = some (.mapIter (some r) since (seen.push en.born) clk) := by
      rw [← hw']; simp [setBlock, h1w.1, hlt']
    have hB := (hr j es[j] en (List.getElem?_eq_getElem hjl) hj2)
    refine hK ι _ _ _ w' (.inr ⟨j, es[j], en.born, List.getElem?_eq_getElem hjl, by rw [← hbs, List.getElem?_map, hj]; rfl, hmem.2, rfl, rfl⟩) ⟨R.heap.wrote hW hvi ⟨ri, rfl, hnew⟩, (R.env.mono fun _ _ _ _ hv' => hv'.wrote hW hvi).aput hd R.size (.tup _ _ rfl fun i c u h1 h2 => ?_), by rw [put_defers]; exact R.defers.ext (hW.ext hvi), by rw [put_size]; exact R.size⟩ ⟨⟨hW.os, hW.tape, hW.output, hW.size, fun q hq hne => hW.mem q hq fun hb => hne it (List.contains_iff_mem.1 hT) _ hvi hb⟩, fun id _ v r h1 h2 _ => ⟨v, h1, h2⟩⟩ (put_defers _ _ _)
    match i with
    | 0 => simp at h1 h2; subst h1 h2; exact .d _ _ (.sc _ rfl)
    | 1 => simp at h1 h2; subst h1 h2; exact hB.1.wrote hW hvi
    | 2 => simp at h1 h2; subst h1 h2; exact hB.2.wrote hW hvi
    | i + 3 => simp at h1
theorem O_next {x : Operand} {d it mid r since c0 clk : Nat} {seen : Array Nat} {bs : List Nat} {es : List (AVal × AVal)} (hw : awant ops e o = some true) (hdst : o.dst = some d) (hd : Nat.blt d nt = true) (ho : o.op = .next x false) (hx : aev e x = some (.ptr it 0)) (hi : look h it = some (.it (.mapIter (some r) since seen c0))) (hm : look h mid = some (.mapx r bs clk es))
    (hs : clk ≤ since) (hsc : since ≤ c0) (H0 : (∀ b ∈ bs, seen.contains b = true) → AOps P nt ops Q rest ((d, .tup [.d (.sc (.bool false))]) :: e) h)
    (H1 : ∀ (j : Nat) (p : AVal × AVal) (b : Nat), es[j]? = some p → bs[j]? = some b → seen.contains b = false → AOps P nt ops Q rest ((d, .tup [.d (.sc (.bool true)), p.1, p.2]) :: e) ((it, .it (.mapIter (some r) since (seen.push b) clk)) :: h)) : AOps P nt ops Q (o :: rest) e h :=
  O_eff (T := [it]) hw (E_next (d := some d) ho hdst hx hi hm hs hsc hd (by simp)) fun e' h' hR => by
    rcases hR with ⟨h1, h2, h3⟩ | ⟨j, p, b, h1, h2, h3, h4, h5⟩
    · subst h1 h2; exact H0 h3
    · subst h4 h5; exact H1 j p b h1 h2 h3
theorem R_entry {x : Operand} {it mid r since clk j b : Nat} {seen : Array Nat} {bs : List Nat} {es : List (AVal × AVal)} {p : AVal × AVal} (ho : o.op = .entry x) (hx : aev e x = some (.ptr it 0)) (hi : look h it = some (.it (.mapIter (some r) since (seen.push b) clk))) (hm : look h mid = some (.mapx r bs clk es))
    (hp : es[j]? = some p) (hb : bs[j]? = some b) (hT1 : T.contains it = false) (hT2 : T.contains mid = false) : AYield P T e h o (.tup [p.1, p.2]) := fun Pm F w0 pin ι a w H E => by
  obtain ⟨ri, hvi, hri, hxe⟩ := it_val H E hx hi
  obtain ⟨vm, hvm, Ar, rfl, hC, hl, hr, hbs, hpw, hlt⟩ := H.blk mid _ hm
  have hj : j < Ar.size := by rw [hl]; exact (List.getElem?_eq_some_iff.1 hp).1
  have hj2 : Ar[j]? = some Ar[j] := Array.getElem?_eq_getElem hj
  have hborn : Ar[j].born = b := by
    rw [← hbs, List.getElem?_map, Array.getElem?_toList, hj2] at hb
    simpa using hb
  have hB := hr j p _ hp hj2
  refine ⟨.tuple #[Ar[j].key, Ar[j].val], .tup _ _ rfl fun i c u h1 h2 => ?_, fun w' hw' => ?_⟩
  · match i with
    | 0 => simp at h1 h2; subst h1 h2; exact hB.1
    | 1 => simp at h1 h2; subst h1 h2; exact hB.2
    | i + 2 => simp at h1
  · have keep : ∀ (id : Nat) (v : Value) (q : Nat), ι id = some v → blockOf v = some q → T.contains id = false → w'.heap[q]? = w.heap[q]? := fun id v q hv hq hn => hw'.mem q (H.lt hv hq) fun id2 h2 v2 hv2 hb2 => by
      have hne : id2 ≠ id := by rintro rfl; rw [List.contains_iff_mem.2 h2] at hn; cases hn
      exact H.inj id2 id v2 v q hne hv2 hv hb2 hq
    have g1 : w'.heap[ri]? = some (.mapIter (some r) since (seen.push Ar[j].born) clk) := by rw [keep it _ ri hvi rfl hT1, hborn]; exact hri
    have g2 : w'.heap[r]? = some (.map Ar clk) := by rw [keep mid _ r hvm rfl hT2]; exact hC
    have hnd : (Ar.toList.map (·.born)).Nodup := by rw [hbs]; exact hpw.imp fun h => Nat.ne_of_lt h
    have := run_entry_at (P := P) w' ri r since seen Ar clk Ar[j] g1 g2 (by simp) hnd
    simp only [execOp, ho, hxe]
    simp [this]

theorem E_callF {f : FuncId} {x : Operand} {caps : List AVal} {args : Array Operand} {ats : Array TypeId} {cs : List AVal} {d : Option Tmp} {c : AVal} (ho : o.op = .call { callee := .value x, args := args, argTypes := ats }) (hdst : o.dst = d) (hf : aev e x = some (.fn f caps)) (hx : aevs e args.toList = some cs)
    (H : ACall P f (cs ++ caps) [] (fun c' h' => c' = c ∧ h' = [])) (hd : dstOk nt d = true) (hc : ∀ j, c.has j = false) : AEff P nt T e h o (fun e' h' => e' = aput d c e ∧ h' = h) := fun Pm F w0 pin ι a w R K Qx hK => by
  have hfv := aev_rel R.env hf
  generalize hau : a.eval x = u at hfv
  cases hfv with
  | fn _ _ C hl hh =>
    unfold Oper.wp
    rw [run_callV H.1 ho hau, Oper.upon_enter, hdst]
    have hF : ∀ r, Fc F ι r → r < w.heap.size := fun r hr => hr.elim (fun h1 => Nat.lt_of_lt_of_le (R.heap.forb r h1) R.heap.size) fun ⟨id, v, h1, h2⟩ => R.heap.lt h1 h2
    have hA := args_of R.env hx
    have hA2 : ArgsRel w F ι (cs ++ caps) (args.map a.eval ++ C) := by
      refine ⟨by simp [hl]; exact by simpa using hA.1, fun i c u h1 h2 => ?_⟩
      have hAl : (args.map a.eval).size = cs.length := hA.1
      by_cases hi : i < cs.length
      · rw [List.getElem?_append_left hi] at h1
        rw [Array.getElem?_append_left (by omega)] at h2
        exact hA.2 i c u h1 h2
      · rw [List.getElem?_append_right (by omega)] at h1
        rw [Array.getElem?_append_right (by omega), hAl] at h2
        exact hh (i - cs.length) c u h1 h2
    refine (H.2 _ _ w _ _ _ w (HRel.none (Fc F ι) w hF) (args_c hA2)).mono ?_
    rintro y w' ⟨u, c', h', ι', rfl, ⟨rfl, rfl⟩, hH, hv⟩
    obtain ⟨ι2, hR, hC⟩ := R.called (T := T) hH hv (by rfl) (fun _ _ _ h => (by cases h)) (fun j hj => by rw [hc] at hj; cases hj) hd
    rw [List.map_nil, killEs_nil, killHs_nil, List.nil_append] at hR
    exact hK _ _ _ _ _ ⟨rfl, rfl⟩ hR hC (put_defers _ _ _)
end
end Go.Proofs.Ytblgdfcijkaimaa.Ab

/-
  Texts of a proof, one behind the other (part 27).
-/
import Derived.Test.YtpnhkkejcnicoaaGreatRo3
import Derived.Test.YtpnhkkejcnicoaaGreatRo4
import Derived.Test.YtpnhkkejcnicoaaGreatRo6
import Derived.Test.YtpnhkkejcnicoaaGreatRo11
import Derived.Test.YtpnhkkejcnicoaaGreatRo20
import Derived.Test.YtpnhkkejcnicoaaGreatRo25
set_option linter.unusedVariables false
set_option linter.unusedSimpArgs false
namespace Go.Proofs.YtpnhkkejcnicoaaGreat
set_option linter.unusedVariables false
set_option maxRecDepth 100000
open Go.RowKit Go.Lib
def skipJ (cs : List Cls) (j : Int) (k : Nat) : Nat :=
  if h : k < cs.length then (if cs[k].seq < j then skipJ cs j (k + 1) else k) else k
termination_by cs.length - k
def runL (d : Dvc) (cs : List Cls) (dft : Bool) : List Cls → Nat → Nat → Int → Sbj → List (Nat × Sbj) → Bool × Int × List (Nat × Sbj)
  | [], i, fr, b, s, ms => (decide (0 ≤ b) || dft, b, ms)
  | c :: r, i, fr, b, s, ms =>
    if i < fr then runL d cs dft r (i + 1) fr b s ms
    else if fitsC d c s = false then runL d cs dft r (i + 1) fr b s ms
    else if c.act = 0 then (false, (i : Int), ms ++ [(i, s)])
    else if c.act = 1 then
      (if c.jump = 0 then (true, (i : Int), ms ++ [(i, setC c s)]) else runL d cs dft r (i + 1) (skipJ cs c.jump (i + 1)) (i : Int) (setC c s) (ms ++ [(i, setC c s)]))
    else runL d cs dft r (i + 1) fr b (setC c s) (ms ++ [(i, setC c s)])
def runP (d : Dvc) (p : Pol) (s : Sbj) : Bool × Int × List (Nat × Sbj) := runL d p.cs p.dft p.cs 0 0 (-1) s []
def wP (cs : List Cls) : Nat := (cs.map fun c => c.pre.length).sum
def wC (cs : List Cls) : Nat := (cs.map fun c => c.sCom.length).sum
theorem wP_cons (c : Cls) (r : List Cls) : wP (c :: r) = c.pre.length + wP r := rfl
theorem wC_cons (c : Cls) (r : List Cls) : wC (c :: r) = c.sCom.length + wC r := rfl
structure OkR (s : Sbj) (r : List Cls) : Prop where
  p : s.p.ok
  pu : ∀ n ∈ s.path, 0 ≤ n ∧ n < 4294967296
  ru : ∀ c ∈ r, ∀ n ∈ c.pre, 0 ≤ n ∧ n < 4294967296
  wp : s.path.length + wP r ≤ 1000000000
  wc : s.com.length + wC r ≤ 1000000000
theorem OkR.s {s : Sbj} {r : List Cls} (h : OkR s r) : OkS s := ⟨h.p, by have := h.wc; omega, by have := h.wp; omega, h.pu⟩
theorem OkR.skip {s : Sbj} {c : Cls} {r : List Cls} (h : OkR s (c :: r)) : OkR s r :=
  ⟨h.p, h.pu, fun c hc => h.ru c (List.mem_cons_of_mem _ hc), by have := h.wp; rw [wP_cons] at this; omega, by have := h.wc; rw [wC_cons] at this; omega⟩
theorem OkR.set {s : Sbj} {c : Cls} {r : List Cls} (h : OkR s (c :: r)) : OkR (setC c s) r := by
  refine ⟨h.p, fun n hn => ?_, fun c hc => h.ru c (List.mem_cons_of_mem _ hc), ?_, ?_⟩
  · rcases List.mem_append.1 (show n ∈ c.pre ++ s.path from hn) with h1 | h1
    · exact h.ru c (List.mem_cons_self ..) n h1
    · exact h.pu n h1
  · have := h.wp
    rw [wP_cons] at this
    show (c.pre ++ s.path).length + _ ≤ _
    rw [List.length_append]; omega
  · have := h.wc
    rw [wC_cons] at this
    show (if c.sCom.length = 0 then s.com else if c.add then nrm (s.com ++ c.sCom) else nrm c.sCom).length + _ ≤ _
    have h1 := nrm_len (s.com ++ c.sCom)
    have h2 := nrm_len c.sCom
    rw [List.length_append] at h1
    split
    · omega
    · split <;> omega
def lastS (s : Sbj) (ms : List (Nat × Sbj)) : Sbj := match ms.getLast? with
  | some m => m.2
  | none => s
theorem lastS_snoc (s : Sbj) (ms : List (Nat × Sbj)) (i : Nat) (t : Sbj) : lastS s (ms ++ [(i, t)]) = t := by
  unfold lastS; rw [List.getLast?_append]; rfl
namespace Ab
def markD (m : Nat × Sbj) : List Dat := iD (m.1 : Int) :: sbjD m.2
def lastB (s : Sbj) (ms : List (Nat × Sbj)) : ABlk := .var ((sbjD (lastS s ms)).map .d)
set_option linter.unusedSimpArgs false
attribute [local irreducible] AWp AOps AQ AYield AEff ACall AWk AAny AAt AThen AIn APost NoPanic
theorem apply1_A (s : Sbj) (ms : List (Nat × Sbj)) (i : Nat) (t : Sbj) : ACall Tryz.prog 33 ([natA i, aggD (sbjD t)] ++ [.ptr 1000 0]) [(1000, lastB s ms)] (fun c h => c = .tup [] ∧ h = [(1000, lastB s (ms ++ [(i, t)]))]) := by
  have hl : lastB s (ms ++ [(i, t)]) = .var ((sbjD t).map .d) := by unfold lastB; rw [lastS_snoc]
  rw [hl]
  refine ACall_of tabOk Tryz.func33 rfl Tryz.ntmps33 (congrArg Array.toList Tryz.results33) (by kernel_rfl) rfl ?_
  repeat (first | refine q_Z ?_ | refine R_quiet rfl mixed (by kernel_rfl) ?_ | ((first | apply O_y rfl rfl rfl | apply Q_y rfl rfl rfl); (first | exact q_A | exact q_5 | exact q_B)) | refine q_d ?_ | refine q_a ?_ | refine q_b ?_ | refine q_c ?_ | refine A_ct rfl ?_ | refine A_cf rfl ?_ | refine q_W ?_)
  exact X_endW AWk.refl rfl (h2 := [(1000, .var ((sbjD t).map .d))]) ⟨rfl, trivial⟩ ⟨rfl, rfl⟩
theorem named1_A (p : Pol) (nm : List UInt8) : ACall Tryz.prog 51 ([aggD (polD p)] ++ [.iptr [sD nm] 0]) [] (Just (boolA (decide (p.nm = nm)))) := by
  obtain ⟨n, cs, dft⟩ := p
  refine ACall_of tabOk Tryz.func51 rfl Tryz.ntmps51 (congrArg Array.toList Tryz.results51) (by kernel_rfl) rfl ?_
  by_cases h : n = nm
  · rw [decide_eq_true h]
    repeat (first | refine q_Z ?_ | ((first | apply O_y rfl rfl rfl | apply Q_y rfl rfl rfl); (first | exact q_A | exact q_5 | exact q_B | (exact R_sT rfl rfl rfl rfl (decide_eq_true h)))) | refine q_d ?_ | refine q_a ?_ | refine q_b ?_ | refine q_c ?_ | refine A_ct rfl ?_ | refine A_cf rfl ?_ | refine q_W ?_)
    exact X_ret rfl ⟨rfl, rfl⟩
  · rw [decide_eq_false h]
    repeat (first | refine q_Z ?_ | ((first | apply O_y rfl rfl rfl | apply Q_y rfl rfl rfl); (first | exact q_A | exact q_5 | exact q_B | (exact R_sF rfl rfl rfl rfl (decide_eq_false h)))) | refine q_d ?_ | refine q_a ?_ | refine q_b ?_ | refine q_c ?_ | refine A_ct rfl ?_ | refine A_cf rfl ?_ | refine q_W ?_)
    exact X_ret rfl ⟨rfl, rfl⟩
def polZ : AVal := .agg [.d (sD []), .d (.sc (.slice none 0 0)), .d (bD false)]
def namedA (d : Dvc) (nm : List UInt8) : AVal := match d.pols.find? (fun p => decide (p.nm = nm)) with
  | some p => .tup [aggD (polD p), .d (iD 0)]
  | none => .tup [polZ, .d (iD 120)]
set_option maxHeartbeats 4000000 in
theorem named_A (d : Dvc) (nm : List UInt8) (hn : d.pols.length ≤ 1000000000) : ACall Tryz.prog 31 [dvcA d, .d (sD nm)] [] (Just (namedA d nm)) := by
  have hi := idxPol_A d.pols 51 [.iptr [sD nm] 0] (fun p => decide (p.nm = nm)) (fun p _ => named1_A p nm) hn
  have hfi := idxOf_find (fun p : Pol => decide (p.nm = nm)) d.pols
  unfold namedA
  obtain ⟨i, hii⟩ : ∃ i, idxOf (fun p : Pol => decide (p.nm = nm)) d.pols = i := ⟨_, rfl⟩
  rw [hii] at hi hfi
  refine ACall_of tabOk Tryz.func31 rfl Tryz.ntmps31 (congrArg Array.toList Tryz.results31) (by kernel_rfl) rfl ?_
  refine A_seq ?_
  refine R_list ?_
  refine q_d ?_
  refine q_d ?_
  refine O_weaken (Wk_freezeV (id := 3) (ds := [sD nm]) rfl rfl) ?_
  rcases hfi with ⟨rfl, h2⟩ | ⟨k, hk, rfl, h2⟩
  · rw [h2]
    repeat (first | refine q_Z ?_ | refine R_quiet rfl mixed (by kernel_rfl) ?_ | ((first | apply O_y rfl rfl rfl | apply Q_y rfl rfl rfl); (first | exact q_A | exact q_5 | exact q_B | (exact Y_makeFunc rfl rfl))) | refine q_d ?_ | refine q_a ?_ | refine q_b ?_ | refine q_c ?_ | refine A_ct rfl ?_ | refine A_cf rfl ?_ | refine q_W ?_ | refine O_c rfl rfl rfl rfl rfl hi (fun _ => rfl) ?_)
    exact X_retW AWk.refl rfl (h2 := []) trivial ⟨rfl, rfl⟩
  · rw [h2]
    have hw := win_flat0 polD_len d.pols k 3 hk (by decide)
    repeat (first | refine q_Z ?_ | refine R_quiet rfl mixed (by kernel_rfl) ?_ | ((first | apply O_y rfl rfl rfl | apply Q_y rfl rfl rfl); (first | exact q_A | exact R_loadi tabOk rfl rfl rfl rfl (by first | exact hw | rfl) rfl rfl | exact q_B | (first | exact Y_makeFunc rfl rfl | exact R_index (j := k) tabOk rfl rfl rfl rfl rfl rfl hk))) | refine q_d ?_ | refine q_a ?_ | refine q_b ?_ | refine q_c ?_ | refine A_ct rfl ?_ | refine A_cf rfl ?_ | refine q_W ?_ | refine O_c rfl rfl rfl rfl rfl hi (fun _ => rfl) ?_)
    exact X_retW AWk.refl rfl (h2 := []) trivial ⟨rfl, rfl⟩
end Ab
end Go.Proofs.YtpnhkkejcnicoaaGreat

namespace Go.Proofs.YtpnhkkejcnicoaaGreat
set_option linter.unusedVariables false
set_option maxRecDepth 100000
open Go.RowKit Go.Lib
def zeroS : Sbj := ⟨⟨0, 0⟩, 0, 0, 0, [], [], 0⟩
def applyP (d : Dvc) (nm : List UInt8) (s : Sbj) : Sbj × Bool × Int :=
  if nm = [] then (s, true, 0) else match d.pols.find? (fun p => decide (p.nm = nm)) with
    | none => (zeroS, false, 120)
    | some p => if (runP d p s).1 then (lastS s (runP d p s).2.2, true, 0) else (zeroS, false, 0)
def runV (d : Dvc) (nm : List UInt8) (s : Sbj) : List (Nat × Sbj) × Bool × Int :=
  if nm = [] then ([], true, 0) else match d.pols.find? (fun p => decide (p.nm = nm)) with
    | none => ([], false, 120)
    | some p => ((runP d p s).2.2, (runP d p s).1, 0)
structure OkA (d : Dvc) (s : Sbj) : Prop where
  od : OkD d
  n : d.pols.length ≤ 1000000
  os : OkS s
  op : ∀ p ∈ d.pols, p.cs.length ≤ 1000000 ∧ OkR s p.cs
theorem runL_ok (d : Dvc) (cs : List Cls) (dft : Bool) : ∀ (r : List Cls) (i fr : Nat) (b : Int) (s s0 : Sbj) (ms : List (Nat × Sbj)), OkR s r → OkS (lastS s0 ms) → OkS (lastS s0 (runL d cs dft r i fr b s ms).2.2) := fun r => by
  induction r with
  | nil => intro i fr b s s0 ms h h2; exact h2
  | cons c r ih =>
    intro i fr b s s0 ms h h2
    rw [runL]
    split
    · exact ih _ _ _ _ _ _ h.skip h2
    · split
      · exact ih _ _ _ _ _ _ h.skip h2
      · split
        · show OkS (lastS s0 (ms ++ [(i, s)])); rw [lastS_snoc]; exact h.s
        · split
          · split
            · show OkS (lastS s0 (ms ++ [(i, setC c s)])); rw [lastS_snoc]; exact h.set.s
            · exact ih _ _ _ _ _ _ h.set (by rw [lastS_snoc]; exact h.set.s)
          · exact ih _ _ _ _ _ _ h.set (by rw [lastS_snoc]; exact h.set.s)
end Go.Proofs.YtpnhkkejcnicoaaGreat

namespace Go.Proofs.YtpnhkkejcnicoaaGreat
set_option linter.unusedVariables false
open Go.RowKit Go.Lib
structure Rte where
  p : Pfx
  f : Int
  d : Int
  m : Int
  t : Int
  i : List UInt8
  h : Int
  x : Bool
  deriving DecidableEq
def ordP : Pfx → Pfx → Int := lexc (fun x y => c2 x.a y.a) (fun x y => c2 x.b y.b)
def ordR : Rte → Rte → Int := lexc (fun x y => ordP x.p y.p) (lexc (fun x y => c2 x.f y.f) (lexc (fun x y => c2 x.d y.d) (lexc (fun x y => c2 x.m y.m) (lexc (fun x y => c2 x.t y.t) (lexc (fun x y => c2 x.h y.h) (lexc (fun x y => compareBytes x.i y.i) (fun x y => cB x.x y.x)))))))
theorem good_ordP : Good ordP := (good_c2.of _).lex (good_c2.of _)
theorem good_ordR : Good ordR := (good_ordP.of _).lex ((good_c2.of _).lex ((good_c2.of _).lex ((good_c2.of _).lex ((good_c2.of _).lex ((good_c2.of _).lex ((good_bytes.of _).lex (good_cB.of _)))))))
theorem ordP_zero (x y : Pfx) : ordP x y = 0 ↔ x = y := by
  obtain ⟨a, b⟩ := x
  obtain ⟨c, d⟩ := y
  simp [ordP, lexc_zero, c2_zero]
theorem ordR_zero (x y : Rte) : ordR x y = 0 ↔ x = y := by
  obtain ⟨a, b, c, d, e, f, g, h⟩ := x
  obtain ⟨a', b', c', d', e', f', g', h'⟩ := y
  simp only [ordR, lexc_zero, c2_zero, bytes_zero, cB_zero, ordP_zero, Rte.mk.injEq]
  constructor
  · rintro ⟨h1, h2, h3, h4, h5, h6, h7, h8⟩; exact ⟨h1, h2, h3, h4, h5, h7, h6, h8⟩
  · rintro ⟨h1, h2, h3, h4, h5, h7, h6, h8⟩; exact ⟨h1, h2, h3, h4, h5, h6, h7, h8⟩
def rank : Rte → Rte → Int := lexc (fun x y => c2 x.d y.d) (lexc (fun x y => c2 x.f y.f) (fun x y => c2 x.m y.m))
theorem good_rank : Good rank := (good_c2.of _).lex ((good_c2.of _).lex (good_c2.of _))
def firstI : List Int → Int
  | [] => 0
  | x :: r => if x = 0 then firstI r else x
theorem ordP_first (x y : Pfx) : firstI [c2 x.a y.a, c2 x.b y.b] = ordP x y := by
  simp only [firstI, ordP, lexc]
  split
  · split
    · rename_i h; exact h.symm
    · rfl
  · rfl
theorem ordR_first (x y : Rte) : firstI [ordP x.p y.p, c2 x.f y.f, c2 x.d y.d, c2 x.m y.m, c2 x.t y.t, c2 x.h y.h, compareBytes x.i y.i, cB x.x y.x] = ordR x y := by
  have key : ∀ a : Int, (if a = 0 then 0 else a) = a := fun a => by split <;> omega
  simp only [firstI, ordR, lexc, key]
namespace Ab
def rteD (r : Rte) : List Dat := [.sc (.int .u32 r.p.a), .sc (.int .i64 r.p.b), .sc (.int .u8 r.f), .sc (.int .i64 r.d), .sc (.int .i64 r.m), .sc (.int .i64 r.t), .sc (.string ⟨⟨r.i⟩⟩), .sc (.int .u32 r.h), .sc (.bool r.x)]
theorem rteD_len (r : Rte) : (rteD r).length = 9 := rfl
def rteA (r : Rte) : AVal := .agg [.d (.sc (.int .u32 r.p.a)), .d (.sc (.int .i64 r.p.b)), .d (.sc (.int .u8 r.f)), .d (.sc (.int .i64 r.d)), .d (.sc (.int .i64 r.m)), .d (.sc (.int .i64 r.t)), .d (.sc (.string ⟨⟨r.i⟩⟩)), .d (.sc (.int .u32 r.h)), .d (.sc (.bool r.x))]
def rtesA (l : List Rte) : AVal := .d (.sl (l.flatMap rteD) l.length)
end Ab
end Go.Proofs.YtpnhkkejcnicoaaGreat

namespace Go.Proofs.YtpnhkkejcnicoaaGreat
set_option linter.unusedVariables false
def winB (l : List Rte) (r : Rte) : Bool := l.all fun s => !(decide (s.p = r.p) && decide (rank s r < 0))
theorem winB_iff {l : List Rte} {r : Rte} : winB l r = true ↔ ∀ s ∈ l, s.p = r.p → 0 ≤ rank s r := by
  unfold winB
  rw [List.all_eq_true]
  refine forall_congr' fun s => forall_congr' fun _ => ?_
  simp only [Bool.not_eq_true', Bool.and_eq_false_iff, decide_eq_false_iff_not, Int.not_lt]
  constructor
  · rintro (h | h) hp
    · exact absurd hp h
    · exact h
  · intro h
    by_cases hp : s.p = r.p
    · exact .inr (h hp)
    · exact .inl hp
def takeR (l : List Rte) : List Rte := sortU ordR (l.filter (winB l))
theorem ordR_eq (x y : Rte) (h : ordR x y = 0) : x = y := (ordR_zero x y).1 h
theorem takeR_mem {l : List Rte} {r : Rte} : r ∈ takeR l ↔ r ∈ l ∧ ∀ s ∈ l, s.p = r.p → 0 ≤ rank s r := by
  unfold takeR
  rw [sortU_mem, List.mem_filter, winB_iff]
theorem takeR_rising (l : List Rte) : Rising ordR (takeR l) := sortU_rising good_ordR ordR_eq _
theorem least {α : Type} {c : α → α → Int} (G : Good c) : ∀ (l : List α), l ≠ [] → ∃ b ∈ l, ∀ s ∈ l, c b s ≤ 0
  | [], h => absurd rfl h
  | [x], _ => ⟨x, List.mem_cons_self .., fun s hs => by rcases List.mem_cons.1 hs with rfl | h; exact Int.le_of_eq (G.refl _); cases h⟩
  | x :: y :: r, _ => by
    obtain ⟨b, hb, hl⟩ := least G (y :: r) (by simp)
    rcases Int.lt_or_le 0 (c x b) with h | h
    · refine ⟨b, List.mem_cons_of_mem _ hb, fun s hs => ?_⟩
      rcases List.mem_cons.1 hs with rfl | hs
      · have := G.anti s b; omega
      · exact hl s hs
    · refine ⟨x, List.mem_cons_self .., fun s hs => ?_⟩
      rcases List.mem_cons.1 hs with rfl | hs
      · exact Int.le_of_eq (G.refl _)
      · exact G.trans _ _ _ h (hl s hs)
structure Kept (l : List Rte) (es : List (Pfx × Rte)) : Prop where
  mem : ∀ e ∈ es, e.2 ∈ l ∧ e.2.p = e.1
  all : ∀ r ∈ l, ∃ e ∈ es, e.1 = r.p ∧ rank e.2 r ≤ 0
theorem kept_win {l : List Rte} {es : List (Pfx × Rte)} (K : Kept l es) {r b : Rte} (hn : (es.map (·.1)).Nodup) (hb : (r.p, b) ∈ es) (hr : r ∈ l) : winB l r = true ↔ rank r b = 0 := by
  have hb1 := K.mem _ hb
  have least : ∀ s ∈ l, s.p = r.p → rank b s ≤ 0 := fun s hs hp => by
    obtain ⟨e, he, h1, h2⟩ := K.all s hs
    have : e = (r.p, b) := by
      obtain ⟨k, v⟩ := e
      dsimp only at h1
      have h3 : k = r.p := h1.trans hp
      subst h3
      exact Prod.ext rfl (Option.some.inj ((aget_of_mem hn he).symm.trans (aget_of_mem hn hb)))
    rw [this] at h2
    exact h2
  rw [winB_iff]
  constructor
  · intro h
    have h1 := h b hb1.1 hb1.2
    have h2 := good_rank.anti b r
    have := least r hr rfl
    omega
  · intro h s hs hp
    have h1 := least s hs hp
    have h2 := good_rank.anti s b
    have h3 := good_rank.anti s r
    have := good_rank.trans r b s (by omega) h1
    omega
theorem kept_put {l : List Rte} {es : List (Pfx × Rte)} (K : Kept l es) (hn : (es.map (·.1)).Nodup) {r : Rte} (h : ∀ b, aget es r.p = some b → rank r b < 0) : Kept (l ++ [r]) (aput es r.p r) := by
  refine ⟨fun e he => ?_, fun s hs => ?_⟩
  · rcases (mem_aput hn).1 he with rfl | ⟨_, h1⟩
    · exact ⟨by simp, rfl⟩
    · have := K.mem e h1
      exact ⟨List.mem_append_left _ this.1, this.2⟩
  · rcases List.mem_append.1 hs with h1 | h1
    · obtain ⟨e, he, h2, h3⟩ := K.all s h1
      by_cases hk : e.1 = r.p
      · have hg := aget_of_mem hn (k := r.p) (v := e.2) (by rw [← hk]; exact he)
        exact ⟨(r.p, r), (mem_aput hn).2 (.inl rfl), hk.symm.trans h2, Int.le_of_lt (good_rank.lt_le (h _ hg) h3)⟩
      · exact ⟨e, (mem_aput hn).2 (.inr ⟨hk, he⟩), h2, h3⟩
    · have : s = r := by simpa using h1
      subst this
      exact ⟨(s.p, s), (mem_aput hn).2 (.inl rfl), rfl, Int.le_of_eq (good_rank.refl _)⟩
theorem kept_stay {l : List Rte} {es : List (Pfx × Rte)} (K : Kept l es) {r b : Rte} (hg : aget es r.p = some b) (h : 0 ≤ rank r b) : Kept (l ++ [r]) es := by
  refine ⟨fun e he => ⟨List.mem_append_left _ (K.mem e he).1, (K.mem e he).2⟩, fun s hs => ?_⟩
  rcases List.mem_append.1 hs with h1 | h1
  · exact K.all s h1
  · have : s = r := by simpa using h1
    subst this
    have := good_rank.anti s b
    exact ⟨(s.p, b), mem_of_aget hg, rfl, by dsimp only; omega⟩
theorem kept_nil : Kept [] [] := ⟨fun _ h => (by cases h), fun _ h => (by cases h)⟩
end Go.Proofs.YtpnhkkejcnicoaaGreat

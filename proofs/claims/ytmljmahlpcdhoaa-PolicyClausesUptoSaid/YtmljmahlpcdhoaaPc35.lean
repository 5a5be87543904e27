/-
  Texts of a proof, one behind the other (part 36).
-/
import Derived.Test.YtmljmahlpcdhoaaPc2
import Derived.Test.YtmljmahlpcdhoaaPc24
import Derived.Test.YtmljmahlpcdhoaaPc26
import Derived.Test.YtmljmahlpcdhoaaPc34
set_option linter.unusedVariables false
set_option linter.unusedSimpArgs false
namespace Go.Proofs.Ytmljmahlpcdhoaa
set_option linter.unusedVariables false
set_option maxRecDepth 100000
open Go.RowKit Go.Lib
def skipJ (cs : List Cls) (j : Int) (k : Nat) : Nat :=
  if h : k < cs.length then (if cs[k].seq < j then skipJ cs j (k + 1) else k) else k
termination_by cs.length - k
def runL (d : Dvc) (cs : List Cls) (dft : Bool) : List Cls → Nat → Nat → Int → Sbj → List (Nat × Sbj) → Bool × Int × List (Nat × Sbj)
  | [], i, fr, b, s, ms => (decide (0 ≤ b) || dft, b, ms)
  | c :: r, i, fr, b, s, ms =>
    if i < fr then runL d cs dft r (i + 1) fr b s ms
    else if fitsC d c s = false then runL d cs dft r (i + 1) fr b s ms
    else if c.act = 0 then (false, (i : Int), ms ++ [(i, s)])
    else if c.act = 1 then
      (if c.jump = 0 then (true, (i : Int), ms ++ [(i, setC c s)]) else runL d cs dft r (i + 1) (skipJ cs c.jump (i + 1)) (i : Int) (setC c s) (ms ++ [(i, setC c s)]))
    else runL d cs dft r (i + 1) fr b (setC c s) (ms ++ [(i, setC c s)])
def runP (d : Dvc) (p : Pol) (s : Sbj) : Bool × Int × List (Nat × Sbj) := runL d p.cs p.dft p.cs 0 0 (-1) s []
def wP (cs : List Cls) : Nat := (cs.map fun c => c.pre.length).sum
def wC (cs : List Cls) : Nat := (cs.map fun c => c.sCom.length).sum
theorem wP_cons (c : Cls) (r : List Cls) : wP (c :: r) = c.pre.length + wP r := rfl
theorem wC_cons (c : Cls) (r : List Cls) : wC (c :: r) = c.sCom.length + wC r := rfl
structure OkR (s : Sbj) (r : List Cls) : Prop where
  p : s.p.ok
  pu : ∀ n ∈ s.path, 0 ≤ n ∧ n < 4294967296
  ru : ∀ c ∈ r, ∀ n ∈ c.pre, 0 ≤ n ∧ n < 4294967296
  wp : s.path.length + wP r ≤ 1000000000
  wc : s.com.length + wC r ≤ 1000000000
theorem OkR.s {s : Sbj} {r : List Cls} (h : OkR s r) : OkS s := ⟨h.p, by have := h.wc; omega, by have := h.wp; omega, h.pu⟩
theorem OkR.skip {s : Sbj} {c : Cls} {r : List Cls} (h : OkR s (c :: r)) : OkR s r :=
  ⟨h.p, h.pu, fun c hc => h.ru c (List.mem_cons_of_mem _ hc), by have := h.wp; rw [wP_cons] at this; omega, by have := h.wc; rw [wC_cons] at this; omega⟩
theorem OkR.set {s : Sbj} {c : Cls} {r : List Cls} (h : OkR s (c :: r)) : OkR (setC c s) r := by
  refine ⟨h.p, fun n hn => ?_, fun c hc => h.ru c (List.mem_cons_of_mem _ hc), ?_, ?_⟩
  · rcases List.mem_append.1 (show n ∈ c.pre ++ s.path from hn) with h1 | h1
    · exact h.ru c (List.mem_cons_self ..) n h1
    · exact h.pu n h1
  · have := h.wp
    rw [wP_cons] at this
    show (c.pre ++ s.path).length + _ ≤ _
    rw [List.length_append]; omega
  · have := h.wc
    rw [wC_cons] at this
    show (if c.sCom.length = 0 then s.com else if c.add then nrm (s.com ++ c.sCom) else nrm c.sCom).length + _ ≤ _
    have h1 := nrm_len (s.com ++ c.sCom)
    have h2 := nrm_len c.sCom
    rw [List.length_append] at h1
    split
    · omega
    · split <;> omega
def lastS (s : Sbj) (ms : List (Nat × Sbj)) : Sbj := match ms.getLast? with
  | some m => m.2
  | none => s
theorem lastS_snoc (s : Sbj) (ms : List (Nat × Sbj)) (i : Nat) (t : Sbj) : lastS s (ms ++ [(i, t)]) = t := by
  unfold lastS; rw [List.getLast?_append]; rfl
namespace Ab
def markD (m : Nat × Sbj) : List Dat := iD (m.1 : Int) :: sbjD m.2
def markB (l : List (Nat × Sbj)) : ABlk := .row 57 9 l.length (l.flatMap markD)
def lastB (s : Sbj) (ms : List (Nat × Sbj)) : ABlk := .var ((sbjD (lastS s ms)).map .d)
set_option linter.unusedSimpArgs false
attribute [local irreducible] AWp AOps AQ AYield AEff ACall AWk AAny AAt AThen AIn APost NoPanic
theorem apply1_A (s : Sbj) (ms : List (Nat × Sbj)) (i : Nat) (t : Sbj) : ACall Try.prog 25 ([natA i, aggD (sbjD t)] ++ [.ptr 1000 0]) [(1000, lastB s ms)] (fun c h => c = .tup [] ∧ h = [(1000, lastB s (ms ++ [(i, t)]))]) := by
  have hl : lastB s (ms ++ [(i, t)]) = .var ((sbjD t).map .d) := by unfold lastB; rw [lastS_snoc]
  rw [hl]
  refine ACall_of tabOk Try.func25 rfl Try.ntmps25 (congrArg Array.toList Try.results25) (by kernel_rfl) rfl ?_
  repeat (first | refine A_seq ?_ | refine A_block ?_ | refine R_list ?_ | refine R_quiet rfl mixed (by kernel_rfl) ?_ | ((first | apply O_y rfl rfl rfl | apply Q_y rfl rfl rfl); (first | exact q_A | exact q_5 | exact q_B | fail)) | refine O_nil ?_ | refine Q_nil ?_ | refine q_j ?_ | refine q_k ?_ | refine q_d ?_ | refine q_a ?_ | refine q_b ?_ | refine q_c ?_ | refine A_ct rfl ?_ | refine A_cf rfl ?_ | refine A_skip ?_ | refine A_exit ?_ | refine A_ret ?_ | refine q_l ?_ | refine q_m ?_ | refine q_n ?_ | refine q_h ?_ | refine q_o ?_ | refine q_e ?_ | refine q_f ?_ | refine q_g ?_ | fail)
  exact X_endW AWk.refl rfl (h2 := [(1000, .var ((sbjD t).map .d))]) ⟨rfl, trivial⟩ ⟨rfl, rfl⟩
theorem named1_A (p : Pol) (nm : List UInt8) : ACall Try.prog 51 ([aggD (polD p)] ++ [.iptr [sD nm] 0]) [] (Just (boolA (decide (p.nm = nm)))) := by
  obtain ⟨n, cs, dft⟩ := p
  refine ACall_of tabOk Try.func51 rfl Try.ntmps51 (congrArg Array.toList Try.results51) (by kernel_rfl) rfl ?_
  by_cases h : n = nm
  · rw [decide_eq_true h]
    repeat (first | refine A_seq ?_ | refine A_block ?_ | refine R_list ?_ | ((first | apply O_y rfl rfl rfl | apply Q_y rfl rfl rfl); (first | exact q_A | exact q_5 | exact q_B | (exact R_sT rfl rfl rfl rfl (decide_eq_true h)))) | refine O_nil ?_ | refine Q_nil ?_ | refine q_j ?_ | refine q_k ?_ | refine q_d ?_ | refine q_a ?_ | refine q_b ?_ | refine q_c ?_ | refine A_ct rfl ?_ | refine A_cf rfl ?_ | refine A_skip ?_ | refine A_exit ?_ | refine A_ret ?_ | refine q_l ?_ | refine q_m ?_ | refine q_n ?_ | refine q_h ?_ | refine q_o ?_ | refine q_e ?_ | refine q_f ?_ | refine q_g ?_ | fail)
    exact X_ret rfl ⟨rfl, rfl⟩
  · rw [decide_eq_false h]
    repeat (first | refine A_seq ?_ | refine A_block ?_ | refine R_list ?_ | ((first | apply O_y rfl rfl rfl | apply Q_y rfl rfl rfl); (first | exact q_A | exact q_5 | exact q_B | (exact R_sF rfl rfl rfl rfl (decide_eq_false h)))) | refine O_nil ?_ | refine Q_nil ?_ | refine q_j ?_ | refine q_k ?_ | refine q_d ?_ | refine q_a ?_ | refine q_b ?_ | refine q_c ?_ | refine A_ct rfl ?_ | refine A_cf rfl ?_ | refine A_skip ?_ | refine A_exit ?_ | refine A_ret ?_ | refine q_l ?_ | refine q_m ?_ | refine q_n ?_ | refine q_h ?_ | refine q_o ?_ | refine q_e ?_ | refine q_f ?_ | refine q_g ?_ | fail)
    exact X_ret rfl ⟨rfl, rfl⟩
def polZ : AVal := .agg [.d (sD []), .d (.sc (.slice none 0 0)), .d (bD false)]
def namedA (d : Dvc) (nm : List UInt8) : AVal := match d.pols.find? (fun p => decide (p.nm = nm)) with
  | some p => .tup [aggD (polD p), .d (iD 0)]
  | none => .tup [polZ, .d (iD 120)]
set_option maxHeartbeats 4000000 in
theorem named_A (d : Dvc) (nm : List UInt8) (hn : d.pols.length ≤ 1000000000) : ACall Try.prog 21 [dvcA d, .d (sD nm)] [] (Just (namedA d nm)) := by
  have hi := idxPol_A d.pols 51 [.iptr [sD nm] 0] (fun p => decide (p.nm = nm)) (fun p _ => named1_A p nm) hn
  have hfi := idxOf_find (fun p : Pol => decide (p.nm = nm)) d.pols
  unfold namedA
  obtain ⟨i, hii⟩ : ∃ i, idxOf (fun p : Pol => decide (p.nm = nm)) d.pols = i := ⟨_, rfl⟩
  rw [hii] at hi hfi
  refine ACall_of tabOk Try.func21 rfl Try.ntmps21 (congrArg Array.toList Try.results21) (by kernel_rfl) rfl ?_
  refine A_seq ?_
  refine R_list ?_
  refine q_d ?_
  refine q_d ?_
  refine O_weaken (Wk_freezeV (id := 3) (ds := [sD nm]) rfl rfl) ?_
  rcases hfi with ⟨rfl, h2⟩ | ⟨k, hk, rfl, h2⟩
  · rw [h2]
    repeat (first | refine A_seq ?_ | refine A_block ?_ | refine R_list ?_ | refine R_quiet rfl mixed (by kernel_rfl) ?_ | ((first | apply O_y rfl rfl rfl | apply Q_y rfl rfl rfl); (first | exact q_A | exact q_5 | exact q_B | (exact Y_makeFunc rfl rfl))) | refine O_nil ?_ | refine Q_nil ?_ | refine q_j ?_ | refine q_k ?_ | refine q_d ?_ | refine q_a ?_ | refine q_b ?_ | refine q_c ?_ | refine A_ct rfl ?_ | refine A_cf rfl ?_ | refine A_skip ?_ | refine A_exit ?_ | refine A_ret ?_ | refine q_l ?_ | refine q_m ?_ | refine q_n ?_ | refine q_h ?_ | refine q_o ?_ | refine q_e ?_ | refine q_f ?_ | refine q_g ?_ | refine O_c rfl rfl rfl rfl rfl hi (fun _ => rfl) ?_)
    exact X_retW AWk.refl rfl (h2 := []) trivial ⟨rfl, rfl⟩
  · rw [h2]
    have hw := win_flat0 polD_len d.pols k 3 hk (by decide)
    repeat (first | refine A_seq ?_ | refine A_block ?_ | refine R_list ?_ | refine R_quiet rfl mixed (by kernel_rfl) ?_ | ((first | apply O_y rfl rfl rfl | apply Q_y rfl rfl rfl); (first | exact q_A | exact R_loadi tabOk rfl rfl rfl rfl (by first | exact hw | rfl) rfl rfl | exact q_B | (first | exact Y_makeFunc rfl rfl | exact R_index (j := k) tabOk rfl rfl rfl rfl rfl rfl hk))) | refine O_nil ?_ | refine Q_nil ?_ | refine q_j ?_ | refine q_k ?_ | refine q_d ?_ | refine q_a ?_ | refine q_b ?_ | refine q_c ?_ | refine A_ct rfl ?_ | refine A_cf rfl ?_ | refine A_skip ?_ | refine A_exit ?_ | refine A_ret ?_ | refine q_l ?_ | refine q_m ?_ | refine q_n ?_ | refine q_h ?_ | refine q_o ?_ | refine q_e ?_ | refine q_f ?_ | refine q_g ?_ | refine O_c rfl rfl rfl rfl rfl hi (fun _ => rfl) ?_)
    exact X_retW AWk.refl rfl (h2 := []) trivial ⟨rfl, rfl⟩
end Ab
end Go.Proofs.Ytmljmahlpcdhoaa

namespace Go.Proofs.Ytmljmahlpcdhoaa
set_option linter.unusedVariables false
set_option maxRecDepth 100000
open Go.RowKit Go.Lib
def zeroS : Sbj := ⟨⟨0, 0⟩, 0, 0, 0, [], [], 0⟩
def applyP (d : Dvc) (nm : List UInt8) (s : Sbj) : Sbj × Bool × Int :=
  if nm = [] then (s, true, 0) else match d.pols.find? (fun p => decide (p.nm = nm)) with
    | none => (zeroS, false, 120)
    | some p => if (runP d p s).1 then (lastS s (runP d p s).2.2, true, 0) else (zeroS, false, 0)
def runV (d : Dvc) (nm : List UInt8) (s : Sbj) : List (Nat × Sbj) × Bool × Int :=
  if nm = [] then ([], true, 0) else match d.pols.find? (fun p => decide (p.nm = nm)) with
    | none => ([], false, 120)
    | some p => ((runP d p s).2.2, (runP d p s).1, 0)
structure OkA (d : Dvc) (s : Sbj) : Prop where
  od : OkD d
  n : d.pols.length ≤ 1000000
  os : OkS s
  op : ∀ p ∈ d.pols, p.cs.length ≤ 1000000 ∧ OkR s p.cs
theorem runL_ok (d : Dvc) (cs : List Cls) (dft : Bool) : ∀ (r : List Cls) (i fr : Nat) (b : Int) (s s0 : Sbj) (ms : List (Nat × Sbj)), OkR s r → OkS (lastS s0 ms) → OkS (lastS s0 (runL d cs dft r i fr b s ms).2.2) := fun r => by
  induction r with
  | nil => intro i fr b s s0 ms h h2; exact h2
  | cons c r ih =>
    intro i fr b s s0 ms h h2
    rw [runL]
    split
    · exact ih _ _ _ _ _ _ h.skip h2
    · split
      · exact ih _ _ _ _ _ _ h.skip h2
      · split
        · show OkS (lastS s0 (ms ++ [(i, s)])); rw [lastS_snoc]; exact h.s
        · split
          · split
            · show OkS (lastS s0 (ms ++ [(i, setC c s)])); rw [lastS_snoc]; exact h.set.s
            · exact ih _ _ _ _ _ _ h.set (by rw [lastS_snoc]; exact h.set.s)
          · exact ih _ _ _ _ _ _ h.set (by rw [lastS_snoc]; exact h.set.s)
end Go.Proofs.Ytmljmahlpcdhoaa

namespace Go.Proofs.Ytmljmahlpcdhoaa
set_option linter.unusedVariables false
set_option maxRecDepth 100000
open Go.RowKit Go.Lib
def Rise (cs : List Cls) : Prop := cs.Pairwise fun a b => a.seq < b.seq
def runT (d : Dvc) (dft : Bool) : List Cls → Nat → (Int → Bool) → Bool → Sbj → Bool × Sbj × List Nat
  | [], i, sk, b, s => (b || dft, s, [])
  | c :: r, i, sk, b, s =>
    if sk c.seq = true then runT d dft r (i + 1) sk b s
    else if fitsC d c s = false then runT d dft r (i + 1) sk b s
    else if c.act = 0 then (false, s, [i])
    else if c.act = 1 then
      (if c.jump = 0 then (true, setC c s, [i]) else
        ((runT d dft r (i + 1) (fun q => decide (q < c.jump)) true (setC c s)).1, (runT d dft r (i + 1) (fun q => decide (q < c.jump)) true (setC c s)).2.1, i :: (runT d dft r (i + 1) (fun q => decide (q < c.jump)) true (setC c s)).2.2))
    else ((runT d dft r (i + 1) sk b (setC c s)).1, (runT d dft r (i + 1) sk b (setC c s)).2.1, i :: (runT d dft r (i + 1) sk b (setC c s)).2.2)
def keepU (U : Nat → Bool) : Nat → List Cls → List Cls
  | _, [] => []
  | i, c :: r => if U i = true then c :: keepU U (i + 1) r else keepU U (i + 1) r
def setsC (c : Cls) : Bool := decide (c.sMet ≠ -1) || decide (c.sPref ≠ -1) || decide (c.sTag ≠ -1) || decide (c.sHop ≠ 0) || decide (0 < c.sCom.length) || decide (0 < c.pre.length)
end Go.Proofs.Ytmljmahlpcdhoaa

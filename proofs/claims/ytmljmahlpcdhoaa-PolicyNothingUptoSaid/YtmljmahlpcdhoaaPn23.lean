/-
  Texts of a proof, one behind the other (part 24).
-/
import Derived.Test.YtmljmahlpcdhoaaPn1
import Derived.Test.YtmljmahlpcdhoaaPn4
import Derived.Test.YtmljmahlpcdhoaaPn9
import Derived.Test.YtmljmahlpcdhoaaPn18
import Derived.Test.YtmljmahlpcdhoaaPn22
set_option linter.unusedVariables false
set_option linter.unusedSimpArgs false
namespace Go.Proofs.Ytmljmahlpcdhoaa
set_option linter.unusedVariables false
set_option maxRecDepth 100000
open Go.RowKit Go.Lib
def skipJ (cs : List Cls) (j : Int) (k : Nat) : Nat :=
  if h : k < cs.length then (if cs[k].seq < j then skipJ cs j (k + 1) else k) else k
termination_by cs.length - k
def runL (d : Dvc) (cs : List Cls) (dft : Bool) : List Cls → Nat → Nat → Int → Sbj → List (Nat × Sbj) → Bool × Int × List (Nat × Sbj)
  | [], i, fr, b, s, ms => (decide (0 ≤ b) || dft, b, ms)
  | c :: r, i, fr, b, s, ms =>
    if i < fr then runL d cs dft r (i + 1) fr b s ms
    else if fitsC d c s = false then runL d cs dft r (i + 1) fr b s ms
    else if c.act = 0 then (false, (i : Int), ms ++ [(i, s)])
    else if c.act = 1 then
      (if c.jump = 0 then (true, (i : Int), ms ++ [(i, setC c s)]) else runL d cs dft r (i + 1) (skipJ cs c.jump (i + 1)) (i : Int) (setC c s) (ms ++ [(i, setC c s)]))
    else runL d cs dft r (i + 1) fr b (setC c s) (ms ++ [(i, setC c s)])
def runP (d : Dvc) (p : Pol) (s : Sbj) : Bool × Int × List (Nat × Sbj) := runL d p.cs p.dft p.cs 0 0 (-1) s []
theorem skip_le (cs : List Cls) (j : Int) : ∀ (n k : Nat), cs.length - k = n → k ≤ skipJ cs j k ∧ skipJ cs j k ≤ max k cs.length := fun n => by
  induction n with
  | zero => intro k h; rw [skipJ, dif_neg (by omega)]; omega
  | succ n ih =>
    intro k h
    rw [skipJ, dif_pos (by omega)]
    split
    · have := ih (k + 1) (by omega); omega
    · omega
def wP (cs : List Cls) : Nat := (cs.map fun c => c.pre.length).sum
def wC (cs : List Cls) : Nat := (cs.map fun c => c.sCom.length).sum
theorem wP_cons (c : Cls) (r : List Cls) : wP (c :: r) = c.pre.length + wP r := rfl
theorem wC_cons (c : Cls) (r : List Cls) : wC (c :: r) = c.sCom.length + wC r := rfl
structure OkR (s : Sbj) (r : List Cls) : Prop where
  p : s.p.ok
  pu : ∀ n ∈ s.path, 0 ≤ n ∧ n < 4294967296
  ru : ∀ c ∈ r, ∀ n ∈ c.pre, 0 ≤ n ∧ n < 4294967296
  wp : s.path.length + wP r ≤ 1000000000
  wc : s.com.length + wC r ≤ 1000000000
theorem OkR.s {s : Sbj} {r : List Cls} (h : OkR s r) : OkS s := ⟨h.p, by have := h.wc; omega, by have := h.wp; omega, h.pu⟩
theorem OkR.skip {s : Sbj} {c : Cls} {r : List Cls} (h : OkR s (c :: r)) : OkR s r :=
  ⟨h.p, h.pu, fun c hc => h.ru c (List.mem_cons_of_mem _ hc), by have := h.wp; rw [wP_cons] at this; omega, by have := h.wc; rw [wC_cons] at this; omega⟩
theorem OkR.set {s : Sbj} {c : Cls} {r : List Cls} (h : OkR s (c :: r)) : OkR (setC c s) r := by
  refine ⟨h.p, fun n hn => ?_, fun c hc => h.ru c (List.mem_cons_of_mem _ hc), ?_, ?_⟩
  · rcases List.mem_append.1 (show n ∈ c.pre ++ s.path from hn) with h1 | h1
    · exact h.ru c (List.mem_cons_self ..) n h1
    · exact h.pu n h1
  · have := h.wp
    rw [wP_cons] at this
    show (c.pre ++ s.path).length + _ ≤ _
    rw [List.length_append]; omega
  · have := h.wc
    rw [wC_cons] at this
    show (if c.sCom.length = 0 then s.com else if c.add then nrm (s.com ++ c.sCom) else nrm c.sCom).length + _ ≤ _
    have h1 := nrm_len (s.com ++ c.sCom)
    have h2 := nrm_len c.sCom
    rw [List.length_append] at h1
    split
    · omega
    · split <;> omega
def lastS (s : Sbj) (ms : List (Nat × Sbj)) : Sbj := match ms.getLast? with
  | some m => m.2
  | none => s
theorem lastS_snoc (s : Sbj) (ms : List (Nat × Sbj)) (i : Nat) (t : Sbj) : lastS s (ms ++ [(i, t)]) = t := by
  unfold lastS; rw [List.getLast?_append]; rfl
namespace Ab
def markD (m : Nat × Sbj) : List Dat := iD (m.1 : Int) :: sbjD m.2
theorem markD_len (m : Nat × Sbj) : (markD m).length = 9 := rfl
def markB (l : List (Nat × Sbj)) : ABlk := .row 57 9 l.length (l.flatMap markD)
def lastB (s : Sbj) (ms : List (Nat × Sbj)) : ABlk := .var ((sbjD (lastS s ms)).map .d)
set_option linter.unusedSimpArgs false
attribute [local irreducible] AWp AOps AQ AYield AEff ACall AWk AAny AAt AThen AIn APost NoPanic
theorem apply1_A (s : Sbj) (ms : List (Nat × Sbj)) (i : Nat) (t : Sbj) : ACall Try.prog 25 ([natA i, aggD (sbjD t)] ++ [.ptr 1000 0]) [(1000, lastB s ms)] (fun c h => c = .tup [] ∧ h = [(1000, lastB s (ms ++ [(i, t)]))]) := by
  have hl : lastB s (ms ++ [(i, t)]) = .var ((sbjD t).map .d) := by unfold lastB; rw [lastS_snoc]
  rw [hl]
  refine ACall_of tabOk Try.func25 rfl Try.ntmps25 (congrArg Array.toList Try.results25) (by kernel_rfl) rfl ?_
  repeat (first | refine A_seq ?_ | refine A_block ?_ | refine R_list ?_ | refine R_quiet rfl mixed (by kernel_rfl) ?_ | ((first | apply O_y rfl rfl rfl | apply Q_y rfl rfl rfl); (first | exact q_1 | exact q_2 | exact q_3 | exact q_4 | exact q_5 | exact q_6 | exact q_7 | exact q_8 | exact q_9 | exact q_10 | exact q_11 | exact q_12 | exact q_13 | exact q_14 | exact q_15 | exact q_16 | exact q_17 | exact q_18 | exact q_19 | exact q_20 | exact q_21 | exact q_22 | exact q_23 | exact q_24 | fail)) | refine O_nil ?_ | refine Q_nil ?_ | refine q_j ?_ | refine q_k ?_ | refine q_d ?_ | refine q_a ?_ | refine q_b ?_ | refine q_c ?_ | refine A_ct rfl ?_ | refine A_cf rfl ?_ | refine A_skip ?_ | refine A_exit ?_ | refine A_ret ?_ | refine q_l ?_ | refine q_m ?_ | refine q_n ?_ | refine q_h ?_ | refine q_o ?_ | refine q_e ?_ | refine q_f ?_ | refine q_g ?_ | fail)
  exact X_endW AWk.refl rfl (h2 := [(1000, .var ((sbjD t).map .d))]) ⟨rfl, trivial⟩ ⟨rfl, rfl⟩
theorem named1_A (p : Pol) (nm : List UInt8) : ACall Try.prog 51 ([aggD (polD p)] ++ [.iptr [sD nm] 0]) [] (Just (boolA (decide (p.nm = nm)))) := by
  obtain ⟨n, cs, dft⟩ := p
  refine ACall_of tabOk Try.func51 rfl Try.ntmps51 (congrArg Array.toList Try.results51) (by kernel_rfl) rfl ?_
  by_cases h : n = nm
  · rw [decide_eq_true h]
    repeat (first | refine A_seq ?_ | refine A_block ?_ | refine R_list ?_ | ((first | apply O_y rfl rfl rfl | apply Q_y rfl rfl rfl); (first | exact q_1 | exact q_2 | exact q_3 | exact q_4 | exact q_5 | exact q_6 | exact q_7 | exact q_8 | exact q_9 | exact q_10 | exact q_11 | exact q_12 | exact q_13 | exact q_14 | exact q_15 | exact q_16 | exact q_17 | exact q_18 | exact q_19 | exact q_20 | exact q_21 | exact q_22 | exact q_23 | exact q_24 | (exact R_sT rfl rfl rfl rfl (decide_eq_true h)))) | refine O_nil ?_ | refine Q_nil ?_ | refine q_j ?_ | refine q_k ?_ | refine q_d ?_ | refine q_a ?_ | refine q_b ?_ | refine q_c ?_ | refine A_ct rfl ?_ | refine A_cf rfl ?_ | refine A_skip ?_ | refine A_exit ?_ | refine A_ret ?_ | refine q_l ?_ | refine q_m ?_ | refine q_n ?_ | refine q_h ?_ | refine q_o ?_ | refine q_e ?_ | refine q_f ?_ | refine q_g ?_ | fail)
    exact X_ret rfl ⟨rfl, rfl⟩
  · rw [decide_eq_false h]
    repeat (first | refine A_seq ?_ | refine A_block ?_ | refine R_list ?_ | ((first | apply O_y rfl rfl rfl | apply Q_y rfl rfl rfl); (first | exact q_1 | exact q_2 | exact q_3 | exact q_4 | exact q_5 | exact q_6 | exact q_7 | exact q_8 | exact q_9 | exact q_10 | exact q_11 | exact q_12 | exact q_13 | exact q_14 | exact q_15 | exact q_16 | exact q_17 | exact q_18 | exact q_19 | exact q_20 | exact q_21 | exact q_22 | exact q_23 | exact q_24 | (exact R_sF rfl rfl rfl rfl (decide_eq_false h)))) | refine O_nil ?_ | refine Q_nil ?_ | refine q_j ?_ | refine q_k ?_ | refine q_d ?_ | refine q_a ?_ | refine q_b ?_ | refine q_c ?_ | refine A_ct rfl ?_ | refine A_cf rfl ?_ | refine A_skip ?_ | refine A_exit ?_ | refine A_ret ?_ | refine q_l ?_ | refine q_m ?_ | refine q_n ?_ | refine q_h ?_ | refine q_o ?_ | refine q_e ?_ | refine q_f ?_ | refine q_g ?_ | fail)
    exact X_ret rfl ⟨rfl, rfl⟩
def polZ : AVal := .agg [.d (sD []), .d (.sc (.slice none 0 0)), .d (bD false)]
def namedA (d : Dvc) (nm : List UInt8) : AVal := match d.pols.find? (fun p => decide (p.nm = nm)) with
  | some p => .tup [aggD (polD p), .d (iD 0)]
  | none => .tup [polZ, .d (iD 120)]
set_option maxHeartbeats 4000000 in
theorem named_A (d : Dvc) (nm : List UInt8) (hn : d.pols.length ≤ 1000000000) : ACall Try.prog 21 [dvcA d, .d (sD nm)] [] (Just (namedA d nm)) := by
  have hi := idxPol_A d.pols 51 [.iptr [sD nm] 0] (fun p => decide (p.nm = nm)) (fun p _ => named1_A p nm) hn
  have hfi := idxOf_find (fun p : Pol => decide (p.nm = nm)) d.pols
  unfold namedA
  obtain ⟨i, hii⟩ : ∃ i, idxOf (fun p : Pol => decide (p.nm = nm)) d.pols = i := ⟨_, rfl⟩
  rw [hii] at hi hfi
  refine ACall_of tabOk Try.func21 rfl Try.ntmps21 (congrArg Array.toList Try.results21) (by kernel_rfl) rfl ?_
  refine A_seq ?_
  refine R_list ?_
  refine q_d ?_
  refine q_d ?_
  refine O_weaken (Wk_freezeV (id := 3) (ds := [sD nm]) rfl rfl) ?_
  rcases hfi with ⟨rfl, h2⟩ | ⟨k, hk, rfl, h2⟩
  · rw [h2]
    repeat (first | refine A_seq ?_ | refine A_block ?_ | refine R_list ?_ | refine R_quiet rfl mixed (by kernel_rfl) ?_ | ((first | apply O_y rfl rfl rfl | apply Q_y rfl rfl rfl); (first | exact q_1 | exact q_2 | exact q_3 | exact q_4 | exact q_5 | exact q_6 | exact q_7 | exact q_8 | exact q_9 | exact q_10 | exact q_11 | exact q_12 | exact q_13 | exact q_14 | exact q_15 | exact q_16 | exact q_17 | exact q_18 | exact q_19 | exact q_20 | exact q_21 | exact q_22 | exact q_23 | exact q_24 | (exact Y_makeFunc rfl rfl))) | refine O_nil ?_ | refine Q_nil ?_ | refine q_j ?_ | refine q_k ?_ | refine q_d ?_ | refine q_a ?_ | refine q_b ?_ | refine q_c ?_ | refine A_ct rfl ?_ | refine A_cf rfl ?_ | refine A_skip ?_ | refine A_exit ?_ | refine A_ret ?_ | refine q_l ?_ | refine q_m ?_ | refine q_n ?_ | refine q_h ?_ | refine q_o ?_ | refine q_e ?_ | refine q_f ?_ | refine q_g ?_ | refine O_c rfl rfl rfl rfl rfl hi (fun _ => rfl) ?_)
    exact X_retW AWk.refl rfl (h2 := []) trivial ⟨rfl, rfl⟩
  · rw [h2]
    have hw := win_flat0 polD_len d.pols k 3 hk (by decide)
    repeat (first | refine A_seq ?_ | refine A_block ?_ | refine R_list ?_ | refine R_quiet rfl mixed (by kernel_rfl) ?_ | ((first | apply O_y rfl rfl rfl | apply Q_y rfl rfl rfl); (first | exact q_1 | exact q_2 | exact q_3 | exact q_4 | exact R_loadi tabOk rfl rfl rfl rfl (by first | exact hw | rfl) rfl rfl | exact q_6 | exact q_7 | exact q_8 | exact q_9 | exact q_10 | exact q_11 | exact q_12 | exact q_13 | exact q_14 | exact q_15 | exact q_16 | exact q_17 | exact q_18 | exact q_19 | exact q_20 | exact q_21 | exact q_22 | exact q_23 | exact q_24 | (first | exact Y_makeFunc rfl rfl | exact R_index (j := k) tabOk rfl rfl rfl rfl rfl rfl hk))) | refine O_nil ?_ | refine Q_nil ?_ | refine q_j ?_ | refine q_k ?_ | refine q_d ?_ | refine q_a ?_ | refine q_b ?_ | refine q_c ?_ | refine A_ct rfl ?_ | refine A_cf rfl ?_ | refine A_skip ?_ | refine A_exit ?_ | refine A_ret ?_ | refine q_l ?_ | refine q_m ?_ | refine q_n ?_ | refine q_h ?_ | refine q_o ?_ | refine q_e ?_ | refine q_f ?_ | refine q_g ?_ | refine O_c rfl rfl rfl rfl rfl hi (fun _ => rfl) ?_)
    exact X_retW AWk.refl rfl (h2 := []) trivial ⟨rfl, rfl⟩
end Ab
end Go.Proofs.Ytmljmahlpcdhoaa

namespace Go.Proofs.Ytmljmahlpcdhoaa.Ab
set_option linter.unusedVariables false
open Go.RowKit
section
variable {P : Program} {nt : Nat} {Q : Post} {e : Env} {h : Heap} {ops : Array Oper} {o : Oper} {rest : List Oper} {T : List Nat} {tab : TTab} {fuel i : Nat} {listed : Array Bool}
end
end Go.Proofs.Ytmljmahlpcdhoaa.Ab

/-
 Texts of a proof, one behind the other (part 25).
-/
import Derived.Test.YtmmdkjanmegjdaaGreatRv1
import Derived.Test.YtmmdkjanmegjdaaGreatRv4
import Derived.Test.YtmmdkjanmegjdaaGreatRv9
import Derived.Test.YtmmdkjanmegjdaaGreatRv18
import Derived.Test.YtmmdkjanmegjdaaGreatRv23
set_option linter.unusedSimpArgs false
set_option linter.unusedVariables false
namespace Go.Proofs.YtmmdkjanmegjdaaGreat
set_option maxRecDepth 100000
open Go.RowKit Go.Lib
def skipJ (cs : List Cls) (j : Int) (k : Nat) : Nat :=
 if h : k < cs.length then (if cs[k].seq < j then skipJ cs j (k + 1) else k) else k
termination_by cs.length - k
def runL (d : Dvc) (cs : List Cls) (dft : Bool) : List Cls → Nat → Nat → Int → Sbj → List (Nat × Sbj) → Bool × Int × List (Nat × Sbj)
 | [], i, fr, b, s, ms => (decide (0 ≤ b) || dft, b, ms)
 | c :: r, i, fr, b, s, ms =>
  if i < fr then runL d cs dft r (i + 1) fr b s ms
  else if fitsC d c s = false then runL d cs dft r (i + 1) fr b s ms
  else if c.act = 0 then (false, (i : Int), ms ++ [(i, s)])
  else if c.act = 1 then
   (if c.jump = 0 then (true, (i : Int), ms ++ [(i, setC c s)]) else runL d cs dft r (i + 1) (skipJ cs c.jump (i + 1)) (i : Int) (setC c s) (ms ++ [(i, setC c s)]))
  else runL d cs dft r (i + 1) fr b (setC c s) (ms ++ [(i, setC c s)])
def runP (d : Dvc) (p : Pol) (s : Sbj) : Bool × Int × List (Nat × Sbj) := runL d p.cs p.dft p.cs 0 0 (-1) s []
theorem zmG (cs : List Cls) (j : Int) : ∀ (n k : Nat), cs.length - k = n → k ≤ skipJ cs j k ∧ skipJ cs j k ≤ max k cs.length := fun n => by
 induction n with
 | zero => intro k h; rw [skipJ, dif_neg (by omega)]; omega
 | succ n ih =>
  intro k h
  rw [skipJ, dif_pos (by omega)]
  split
  ·have := ih (k + 1) (by omega); omega
  ·omega
def wP (cs : List Cls) : Nat := (cs.map fun c => c.pre.length).sum
def wC (cs : List Cls) : Nat := (cs.map fun c => c.sCom.length).sum
theorem zdg (c : Cls) (r : List Cls) : wP (c :: r) = c.pre.length + wP r := rfl
theorem zdh (c : Cls) (r : List Cls) : wC (c :: r) = c.sCom.length + wC r := rfl
structure OkR (s : Sbj) (r : List Cls) : Prop where
 p : s.p.ok
 pu : ∀ n ∈ s.path, 0 ≤ n ∧ n < 4294967296
 ru : ∀ c ∈ r, ∀ n ∈ c.pre, 0 ≤ n ∧ n < 4294967296
 wp : s.path.length + wP r ≤ 1000000000
 wc : s.com.length + wC r ≤ 1000000000
theorem OkR.s {s : Sbj} {r : List Cls} (h : OkR s r) : OkS s := ⟨h.p, by have := h.wc; omega, by have := h.wp; omega, h.pu⟩
theorem OkR.skip {s : Sbj} {c : Cls} {r : List Cls} (h : OkR s (c :: r)) : OkR s r :=
 ⟨h.p, h.pu, fun c hc => h.ru c (List.mem_cons_of_mem _ hc), by have := h.wp; rw [zdg] at this; omega, by have := h.wc; rw [zdh] at this; omega⟩
theorem OkR.set {s : Sbj} {c : Cls} {r : List Cls} (h : OkR s (c :: r)) : OkR (setC c s) r := by
 refine ⟨h.p, fun n hn => ?_, fun c hc => h.ru c (List.mem_cons_of_mem _ hc), ?_, ?_⟩
 ·rcases List.mem_append.1 (show n ∈ c.pre ++ s.path from hn) with h1 | h1
  ·exact h.ru c (List.mem_cons_self ..) n h1
  ·exact h.pu n h1
 ·have := h.wp
  rw [zdg] at this
  show (c.pre ++ s.path).length + _ ≤ _
  rw [List.length_append]; omega
 ·have := h.wc
  rw [zdh] at this
  show (if c.sCom.length = 0 then s.com else if c.add then nrm (s.com ++ c.sCom) else nrm c.sCom).length + _ ≤ _
  have h1 := zga (s.com ++ c.sCom)
  have h2 := zga c.sCom
  rw [List.length_append] at h1
  split
  ·omega
  ·split <;> omega
def lastS (s : Sbj) (ms : List (Nat × Sbj)) : Sbj := match ms.getLast? with
 | some m => m.2
 | none => s
theorem zaK (s : Sbj) (ms : List (Nat × Sbj)) (i : Nat) (t : Sbj) : lastS s (ms ++ [(i, t)]) = t := by
 unfold lastS; rw [List.getLast?_append]; rfl
namespace Ab
def markD (m : Nat × Sbj) : List Dat := iD (m.1 : Int) :: sbjD m.2
def lastB (s : Sbj) (ms : List (Nat × Sbj)) : ABlk := .var ((sbjD (lastS s ms)).map .d)
attribute [local irreducible] AWp AOps AQ AYield AEff ACall AWk AAny AAt AThen AIn APost NoPanic
theorem zhp (s : Sbj) (ms : List (Nat × Sbj)) (i : Nat) (t : Sbj) : ACall Tryz.prog 41 ([natA i, aggD (sbjD t)] ++ [.ptr 1000 0]) [(1000, lastB s ms)] (fun c h => c = .tup [] ∧ h = [(1000, lastB s (ms ++ [(i, t)]))]) := by
 have hl : lastB s (ms ++ [(i, t)]) = .var ((sbjD t).map .d) := by unfold lastB; rw [zaK]
 rw [hl]
 refine zf za Tryz.func41 rfl Tryz.ntmps41 (congrArg Array.toList Tryz.results41) (by kernel_rfl) rfl ?_
 repeat (first | refine q_Y ?_ | ((first | apply q_K rfl | apply q_X rfl); (exact q_H)) | refine q_U ?_)
 exact zdd AWk.refl rfl (h2 := [(1000, .var ((sbjD t).map .d))]) ⟨rfl, trivial⟩ ⟨rfl, rfl⟩
theorem zk9 (p : Pol) (nm : List UInt8) : ACall Tryz.prog 64 ([aggD (polD p)] ++ [.iptr [sD nm] 0]) [] (Just (boolA (decide (p.nm = nm)))) := by
 obtain ⟨n, cs, dft⟩ := p
 refine zf za Tryz.func64 rfl Tryz.ntmps64 (congrArg Array.toList Tryz.results64) (by kernel_rfl) rfl ?_
 by_cases h : n = nm
 ·rw [decide_eq_true h]
  repeat (first | refine q_Z ?_ | ((first | apply q_K rfl | apply q_X rfl); (first | exact q_H | (exact R_sT rfl rfl rfl rfl (decide_eq_true h)))) | refine q_U ?_)
  exact zk rfl ⟨rfl, rfl⟩
 ·rw [decide_eq_false h]
  repeat (first | refine q_Z ?_ | ((first | apply q_K rfl | apply q_X rfl); (first | exact q_H | (exact R_sF rfl rfl rfl rfl (decide_eq_false h)))) | refine q_U ?_)
  exact zk rfl ⟨rfl, rfl⟩
def polZ : AVal := .agg [.d (sD []), .d (.sc (.slice none 0 0)), .d (bD false)]
def namedA (d : Dvc) (nm : List UInt8) : AVal := match d.pols.find? (fun p => decide (p.nm = nm)) with
 | some p => .tup [aggD (polD p), .d (iD 0)]
 | none => .tup [polZ, .d (iD 120)]
set_option maxHeartbeats 4000000 in
theorem ziM (d : Dvc) (nm : List UInt8) (hn : d.pols.length ≤ 1000000000) : ACall Tryz.prog 39 [dvcA d, .d (sD nm)] [] (Just (namedA d nm)) := by
 have hi := zlo d.pols 64 [.iptr [sD nm] 0] (fun p => decide (p.nm = nm)) (fun p _ => zk9 p nm) hn
 have hfi := za8 (fun p : Pol => decide (p.nm = nm)) d.pols
 unfold namedA
 obtain ⟨i, hii⟩ : ∃ i, idxOf (fun p : Pol => decide (p.nm = nm)) d.pols = i := ⟨_, rfl⟩
 rw [hii] at hi hfi
 refine zf za Tryz.func39 rfl Tryz.ntmps39 (congrArg Array.toList Tryz.results39) (by kernel_rfl) rfl ?_
 refine z7 ?_
 refine zab ?_
 refine q_d ?_
 refine q_d ?_
 refine zB (zG (id := 3) (ds := [sD nm]) rfl rfl) ?_
 rcases hfi with ⟨rfl, h2⟩ | ⟨k, hk, rfl, h2⟩
 ·rw [h2]
  repeat (first | refine q_Y ?_ | ((first | apply q_K rfl | apply q_X rfl); (first | exact q_H | (exact zU rfl rfl))) | refine q_U ?_ | refine q_O hi ?_)
  exact zo AWk.refl rfl (h2 := []) trivial ⟨rfl, rfl⟩
 ·rw [h2]
  have hw := zn zdp d.pols k 3 hk (by decide)
  repeat (first | refine q_Y ?_ | ((first | apply q_K rfl | apply q_X rfl); (first | exact q_A | exact q_R (w := (by first | exact hw | rfl)) | exact q_B | (first | exact zU rfl rfl | exact q_I k hk))) | refine q_U ?_ | refine q_O hi ?_)
  exact zo AWk.refl rfl (h2 := []) trivial ⟨rfl, rfl⟩
end Ab
end Go.Proofs.YtmmdkjanmegjdaaGreat

namespace Go.Proofs.YtmmdkjanmegjdaaGreat.Ab
open Go.RowKit
section
variable {P : Program} {nt : Nat} {Q : Post} {e : Env} {h : Heap} {ops : Array Oper} {o : Oper} {rest : List Oper} {T : List Nat} {tab : TTab} {fuel i : Nat} {listed : Array Bool}
theorem zkg {t el : TypeId} {te te' : TE} {d : Option Tmp} {x y : Operand} {n m : Nat} {cy : AVal} {cs ds : List Dat} (TO : TabOk P tab) (ho : o.op = .call { callee := .builtin .append, args := #[x, y], argTypes := #[t, t] }) (hdst : o.dst = d)
  (ht : tlook tab t = some te) (hs : te.sh = .sl el) (hel : tlook tab el = some te') (hk : Nat.blt 0 te'.size = true) (hk2 : Nat.beq te'.zero.length te'.size = true) (hb : Nat.ble te'.bytes 65536 = true)
  (hx : aev e x = some (.full cs n)) (hcs : cs.length = n * te'.size) (hy : aev e y = some cy) (S : Src h cy m ds) (hm : 0 < m) (hl : ds.length = m * te'.size) (hn : n + m ≤ 2147483648) (hd : dstOk nt d = true) :
  AEff P nt T e h o (fun e' h' => e' = aput d (.d (.sl (cs ++ ds) (n + m))) e ∧ h' = h) := fun Pm F w0 pin ι a w R K Qx hK => by
 have hk' : 0 < te'.size := by simp [Nat.blt] at hk; omega
 obtain ⟨news, hnl, hnr, hsrc⟩ := S.cells R.heap (zj R.env hy)
 have hone : ∀ u ∈ news, u.oneCell' = true := fun u hu => by
  obtain ⟨i, hi⟩ := List.mem_iff_getElem?.1 hu
  have hlt : i < ds.length := by rw [← hnl]; exact (List.getElem?_eq_some_iff.1 hi).1
  exact (hnr i ds[i] u (List.getElem?_eq_getElem hlt) hi).one
 have hsrc' : ∃ b o' c', a.eval y = .slice (some ⟨b, o', none⟩) m c' ∧ ∀ (j : Nat) (x : Value), news[j]? = some x → w.cell? ⟨b, o' + j, none⟩ = some x := by
  rcases hsrc with ⟨_, h2, _⟩ | ⟨_, h2, _⟩ | h1
  ·omega
  ·omega
  ·exact h1
 have hxv := zj R.env hx
 obtain ⟨ux, hux⟩ : ∃ ux, a.eval x = ux := ⟨_, rfl⟩
 rw [hux] at hxv
 cases hxv with
 | full _ _ b hD =>
 obtain ⟨olds, hol, hor, hold⟩ : ∃ olds : List Value, olds.length = cs.length ∧ (∀ (i : Nat) (c : Dat) (u : Value), cs[i]? = some c → olds[i]? = some u → DRel w (FreeB F ι) c u) ∧ ((b = none ∧ n = 0) ∨ ∃ ba, b = some ba ∧ ∀ (j : Nat) (x : Value), olds[j]? = some x → w.cell? (ba.add j) = some x) := by
  cases hD with
  | nil => exact ⟨[], rfl, by simp, .inl ⟨rfl, rfl⟩⟩
  | emp ea => exact ⟨[], rfl, by simp, .inr ⟨ea, rfl, fun j x hj => by simp at hj⟩⟩
  | sl _ _ b o cap vs hn hl hf hc hr => exact ⟨vs, hl, hr, .inr ⟨_, rfl, fun j x hj => by rw [zcI]; exact hc j x hj⟩⟩
 obtain ⟨v', w', hr, hown', hg⟩ := zkI (P := P) (ty := o.type) w (TO t te ht) hs (TO el te' hel) hk' (Nat.eq_of_beq_eq_true hk2) b n olds (by rw [hol, hcs]) hold (a.eval y) m news hm (by rw [hnl, hl]) hsrc' hone hn (Nat.le_of_ble_eq_true hb)
 have G : Grew w w' := ⟨hg.os, hg.tape, hg.output, hg.size, fun r hr1 => hg.block r hr1 (by simp)⟩
 have hrun : (execOp a.eval o).run P w = .ok (.value v') w' := by
  simp [execOp, ho, resolve, invoke, builtin, hux, hr]
 have hDR : DRel w' (FreeB F ι) (.sl (cs ++ ds) (n + m)) v' := by
  rcases hown'.2 with ⟨_, h0⟩ | ⟨g, cap, cur, rfl, hge, hg2, hnc, _⟩
  ·omega
  ·refine .sl _ _ g 0 cap (olds ++ news) hnc (by simp [hol, hnl]) (fun _ => ⟨fun hF => ?_, fun id v hv hb2 => ?_⟩) (fun i u hu => ?_) fun i c u h1 h2 => ?_
   ·have := R.heap.forb g hF
    have := R.heap.size
    omega
   ·have := R.heap.lt hv hb2
    omega
   ·have := hown'.cells (g := g) rfl i u hu
    rwa [Addr.add_mid] at this
   ·rw [List.getElem?_append] at h1 h2
    rw [hol] at h2
    split at h1
    ·rename_i hlt; rw [if_pos hlt] at h2; exact (hor _ _ _ h1 h2).ext (fun r hr _ => G.mem r hr) fun _ _ hf => hf
    ·rename_i hlt; rw [if_neg hlt] at h2; exact (hnr _ _ _ h1 h2).ext (fun r hr _ => G.mem r hr) fun _ _ hf => hf
 unfold Oper.wp
 rw [hrun, Oper.upon_value, hdst]
 exact hK ι _ _ _ w' ⟨rfl, rfl⟩ ((R.grew G).put hd (.d _ _ hDR)) ⟨G.ct T, fun id _ v r h1 h2 _ => ⟨v, h1, h2⟩⟩ (zl _ _ _)
theorem zgq {t el k n m d : Nat} {x y : Operand} {cy : AVal} {cs ds : List Dat} (TO : TabOk P tab) (hi : ops[i]? = some o) (hw : awant ops e o = some true) (hdst : o.dst = some d) (hd : Nat.blt d nt = true) (ho : o.op = .call { callee := .builtin .append, args := #[x, y], argTypes := #[t, t] })
  (hel : telem tab t = some el) (hsz : tsize tab el = some k) (hok : (match tlook tab el with | some te => Nat.blt 0 te.size && Nat.beq te.zero.length te.size && Nat.ble te.bytes 65536 | none => false) = true)
  (hx : aev e x = some (.full cs n)) (hy : aev e y = some cy) (S : Src h cy m ds) (hcs : cs.length = n * k) (hm : 0 < m) (hl : ds.length = m * k) (hn : n + m ≤ 2147483648)
  (HK : AAny P nt ops Q T fuel (listed.setIfInBounds i true) ((d, .d (.sl (cs ++ ds) (n + m))) :: e) h) : AAt P nt ops Q T fuel listed i e h := by
 obtain ⟨te, h1, h2⟩ := zy hel
 obtain ⟨te', h3, rfl⟩ := zu hsz
 rw [h3] at hok
 simp only [Bool.and_eq_true] at hok
 exact za5 hi hw (zkg TO ho hdst h1 h2 h3 hok.1.1 hok.1.2 hok.2 hx hcs hy S hm hl hn hd) fun e' h' ⟨h4, h5⟩ => by subst h4 h5; exact HK
end
end Go.Proofs.YtmmdkjanmegjdaaGreat.Ab

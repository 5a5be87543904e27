/-
 Texts of a proof, one behind the other (part 7).
-/
import Derived.Test.YtmmdkjanmegjdaaGreatRv4
import Derived.Test.YtmmdkjanmegjdaaGreatRv5
set_option linter.unusedSimpArgs false
set_option linter.unusedVariables false
namespace Go.Proofs.YtmmdkjanmegjdaaGreat
open Go.RowKit Go.Lib
def fitsLE (e : LEnt) (p : Pfx) : Bool := withinB p e.p && decide (e.ge ≤ p.b) && decide (p.b ≤ e.le)
def permitsL (l : PLst) (p : Pfx) : Bool := match l.es.find? (fun e => fitsLE e p) with
 | some e => e.ok
 | none => false
def fitsM (m : Mem) (com : List Int) : Bool := m.all.all fun c => com.any fun d => d == c
def allowsL (l : CLst) (com : List Int) : Bool := match l.ms.find? (fun m => fitsM m com) with
 | some m => m.ok
 | none => false
namespace Ab
set_option maxRecDepth 100000
section
variable {P : Program} {T : List Nat} {e : Env} {h : Heap} {o : Oper}
theorem ziZ {x y : Operand} {ats : Array TypeId} {k : IntKind} {a b r : Int} (ho : o.op = .call { callee := .builtin .max, args := #[x, y], argTypes := ats }) (hx : aev e x = some (.d (.sc (.int k a)))) (hy : aev e y = some (.d (.sc (.int k b)))) (hr : (if a < b then b else a) = r) :
  AYield P T e h o (.d (.sc (.int k r))) := zN _ fun w F ι ac E => by
 refine ⟨.int k r, zH rfl, fun w' => ?_⟩
 have h1 := (zQ (zj E hx)).1
 have h2 := (zQ (zj E hy)).1
 subst hr
 simp [execOp, ho, resolve, invoke, builtin, h1, h2, Builtin.max_, Builtin.max2]
end
attribute [local irreducible] AWp AOps AQ AYield AEff ACall AWk AAny AAt AThen AIn APost NoPanic
set_option maxHeartbeats 4000000 in
theorem zm9 (e : LEnt) (p : Pfx) (he : e.p.ok) (hp : p.ok) : ACall Tryz.prog 135 [aggD (lentD e), pfxA p] [] (Just (boolA (fitsLE e p))) := by
 have hw := zkj p e.p hp he
 obtain ⟨ok, ⟨ea, eb⟩, ge, le⟩ := e
 obtain ⟨pa, pb⟩ := p
 obtain ⟨b, hb⟩ : ∃ b, withinB ⟨pa, pb⟩ ⟨ea, eb⟩ = b := ⟨_, rfl⟩
 unfold fitsLE
 dsimp only at hw ⊢
 rw [hb] at hw ⊢
 refine zf za Tryz.func135 rfl Tryz.ntmps135 (congrArg Array.toList Tryz.results135) (by kernel_rfl) rfl ?_
 cases b with
 | false =>
  repeat (first | refine q_Z ?_ | ((first | apply q_K rfl | apply q_X rfl); (exact q_H)) | refine q_U ?_ | refine q_O hw ?_)
  exact zk rfl ⟨rfl, rfl⟩
 | true =>
  by_cases h1 : ge ≤ pb
  ·by_cases h2 : pb ≤ le
   ·rw [decide_eq_true h1, decide_eq_true h2]
    repeat (first | refine q_Z ?_ | ((first | apply q_K rfl | apply q_X rfl); (exact q_H)) | refine q_U ?_ | refine q_O hw ?_)
    exact zk rfl ⟨rfl, rfl⟩
   ·rw [decide_eq_true h1, decide_eq_false h2]
    repeat (first | refine q_Z ?_ | ((first | apply q_K rfl | apply q_X rfl); (exact q_H)) | refine q_U ?_ | refine q_O hw ?_)
    exact zk rfl ⟨rfl, rfl⟩
  ·rw [decide_eq_false h1]
   repeat (first | refine q_Z ?_ | ((first | apply q_K rfl | apply q_X rfl); (exact q_H)) | refine q_U ?_ | refine q_O hw ?_)
   exact zk rfl ⟨rfl, rfl⟩
theorem zlD (e : LEnt) (p : Pfx) (he : e.p.ok) (hp : p.ok) : ACall Tryz.prog 134 ([aggD (lentD e)] ++ [.iptr (pfxD p) 0]) [] (Just (boolA (fitsLE e p))) := by
 have hf := zm9 e p he hp
 refine zf za Tryz.func134 rfl Tryz.ntmps134 (congrArg Array.toList Tryz.results134) (by kernel_rfl) rfl ?_
 repeat (first | refine q_Z ?_ | ((first | apply q_K rfl | apply q_X rfl); (exact q_H)) | refine q_U ?_ | refine q_O hf ?_)
 exact zk rfl ⟨rfl, rfl⟩
theorem zlC (L : List LEnt) (f : FuncId) (caps : List AVal) (p : LEnt → Bool) (hf : ∀ x ∈ L, ACall Tryz.prog f ([aggD (lentD x)] ++ caps) [] (Just (boolA (p x)))) (hn : L.length ≤ 1000000000) :
  ACall Tryz.prog 133 [.d (.sl (L.flatMap lentD) L.length), .fn f caps] [] (Just (.tup [intA (if idxOf p L < 0 then 0 else idxOf p L), boolA (decide (0 ≤ idxOf p L))])) := by
 have hi := zlq L f caps p hf hn
 obtain ⟨i, hii⟩ : ∃ i, idxOf p L = i := ⟨_, rfl⟩
 rw [hii] at hi ⊢
 refine zf za Tryz.func133 rfl Tryz.ntmps133 (congrArg Array.toList Tryz.results133) (by kernel_rfl) rfl ?_
 by_cases h0 : 0 ≤ i
 ·rw [decide_eq_true h0]
  repeat (first | refine q_Z ?_ | ((first | apply q_K rfl | apply q_X rfl); (first | exact q_H | (exact ziZ rfl rfl rfl rfl))) | refine q_U ?_ | refine q_O hi ?_)
  exact zk rfl ⟨rfl, rfl⟩
 ·rw [decide_eq_false h0]
  repeat (first | refine q_Z ?_ | ((first | apply q_K rfl | apply q_X rfl); (first | exact q_H | (exact ziZ rfl rfl rfl rfl))) | refine q_U ?_ | refine q_O hi ?_)
  exact zk rfl ⟨rfl, rfl⟩
theorem zlB (L : List Mem) (f : FuncId) (caps : List AVal) (p : Mem → Bool) (hf : ∀ x ∈ L, ACall Tryz.prog f ([aggD (memD x)] ++ caps) [] (Just (boolA (p x)))) (hn : L.length ≤ 1000000000) :
  ACall Tryz.prog 136 [.d (.sl (L.flatMap memD) L.length), .fn f caps] [] (Just (.tup [intA (if idxOf p L < 0 then 0 else idxOf p L), boolA (decide (0 ≤ idxOf p L))])) := by
 have hi := zlp L f caps p hf hn
 obtain ⟨i, hii⟩ : ∃ i, idxOf p L = i := ⟨_, rfl⟩
 rw [hii] at hi ⊢
 refine zf za Tryz.func136 rfl Tryz.ntmps136 (congrArg Array.toList Tryz.results136) (by kernel_rfl) rfl ?_
 by_cases h0 : 0 ≤ i
 ·rw [decide_eq_true h0]
  repeat (first | refine q_Z ?_ | ((first | apply q_K rfl | apply q_X rfl); (first | exact q_H | (exact ziZ rfl rfl rfl rfl))) | refine q_U ?_ | refine q_O hi ?_)
  exact zk rfl ⟨rfl, rfl⟩
 ·rw [decide_eq_false h0]
  repeat (first | refine q_Z ?_ | ((first | apply q_K rfl | apply q_X rfl); (first | exact q_H | (exact ziZ rfl rfl rfl rfl))) | refine q_U ?_ | refine q_O hi ?_)
  exact zk rfl ⟨rfl, rfl⟩
theorem znn (l : PLst) (p : Pfx) (hl : ∀ e ∈ l.es, e.p.ok) (hp : p.ok) (hn : l.es.length ≤ 1000000000) :
  ACall Tryz.prog 122 [aggD (plstD l), pfxA p] [] (Just (.tup [intA (if idxOf (fun e => fitsLE e p) l.es < 0 then 0 else idxOf (fun e => fitsLE e p) l.es), boolA (decide (0 ≤ idxOf (fun e => fitsLE e p) l.es))])) := by
 have hf := zlC l.es 134 [.iptr (pfxD p) 0] (fun e => fitsLE e p) (fun e he => zlD e p (hl e he) hp) hn
 obtain ⟨nm, es⟩ := l
 refine zf za Tryz.func122 rfl Tryz.ntmps122 (congrArg Array.toList Tryz.results122) (by kernel_rfl) rfl ?_
 refine z7 ?_
 refine zab ?_
 refine q_d ?_
 refine q_d ?_
 refine zB (zG (id := 3) (ds := pfxD p) rfl rfl) ?_
 repeat (first | refine q_Z ?_ | ((first | apply q_K rfl | apply q_X rfl); (first | exact q_H | (exact zU rfl rfl))) | refine q_U ?_ | refine q_O hf ?_)
 exact zk rfl ⟨rfl, rfl⟩
set_option maxHeartbeats 4000000 in
theorem zjw (l : PLst) (p : Pfx) (hl : ∀ e ∈ l.es, e.p.ok) (hp : p.ok) (hn : l.es.length ≤ 1000000000) : ACall Tryz.prog 92 [aggD (plstD l), pfxA p] [] (Just (boolA (permitsL l p))) := by
 have he := znn l p hl hp hn
 unfold permitsL
 have hfi := za8 (fun e => fitsLE e p) l.es
 obtain ⟨nm, es⟩ := l
 dsimp only at he hfi ⊢
 rcases hfi with ⟨h1, h2⟩ | ⟨k, hk, h1, h2⟩
 ·rw [h1] at he
  rw [h2]
  have he : ACall Tryz.prog 122 [aggD (plstD ⟨nm, es⟩), pfxA p] [] (Just (.tup [intA 0, boolA false])) := he
  refine zf za Tryz.func92 rfl Tryz.ntmps92 (congrArg Array.toList Tryz.results92) (by kernel_rfl) rfl ?_
  repeat (first | refine q_Z ?_ | ((first | apply q_K rfl | apply q_X rfl); (exact q_H)) | refine q_U ?_ | refine q_O he ?_)
  exact zk rfl ⟨rfl, rfl⟩
 ·rw [h1, if_neg (by omega), decide_eq_true (show (0 : Int) ≤ (k : Int) by omega)] at he
  rw [h2]
  have hw : win (es.flatMap lentD) (k * 5 + 0) 1 = [.sc (.bool es[k].ok)] := zx zcU es k 0 1 hk (by decide)
  refine zf za Tryz.func92 rfl Tryz.ntmps92 (congrArg Array.toList Tryz.results92) (by kernel_rfl) rfl ?_
  repeat (first | refine q_Z ?_ | ((first | apply q_K rfl | apply q_X rfl); (first | exact q_A | exact q_R (w := (by first | exact hw | rfl)) | exact q_B | (exact q_I k hk))) | refine q_U ?_ | refine q_O he ?_)
  exact zk rfl ⟨rfl, rfl⟩
end Ab
end Go.Proofs.YtmmdkjanmegjdaaGreat

/-
 Texts of a proof, one behind the other (part 51).
-/
import Derived.Test.YtmmdkjanmegjdaaGreatRv4
import Derived.Test.YtmmdkjanmegjdaaGreatRv49
set_option linter.unusedSimpArgs false
set_option linter.unusedVariables false
namespace Go.Proofs.YtmmdkjanmegjdaaGreat.Ab
set_option maxRecDepth 100000
open Go.RowKit Go.Lib
section
variable {P : Program} {nt : Nat} {Q : Post} {e : Env} {h : Heap} {ops : Array Oper} {o : Oper} {rest : List Oper} {T : List Nat}
theorem zme {t f off ft : Nat} {te te' : TE} {fs : List (Nat × TypeId)} {x : Operand} {cs : List AVal} {c : AVal} {tab : TTab} (TO : TabOk P tab) (ho : o.op = .field t x f) (ht : tlook tab t = some te) (hs : te.sh = .st fs) (hf : fs[f]? = some (off, ft)) (hft : tlook tab ft = some te') (h1 : te'.agg = false)
  (hx : aev e x = some (.agg cs)) (hc : cs[off]? = some c) : AYield P T e h o c := zN _ fun w F ι a E => by
 have hv := zj E hx
 generalize hu : a.eval x = u at hv
 cases hv with
 | agg _ C hl hh =>
  obtain ⟨FF, hu2, hF⟩ := (TO t te ht).struct hs
  rw [← hF, List.getElem?_map] at hf
  have hlt : off < C.size := by rw [hl]; exact (List.getElem?_eq_some_iff.1 hc).1
  have hg : C[off]? = some C[off] := Array.getElem?_eq_getElem hlt
  cases hfi : FF[f]? with
  | none => simp [hfi] at hf
  | some fl =>
   simp [hfi] at hf
   obtain ⟨rfl, rfl⟩ := hf
   refine ⟨C[fl.offset], hh _ c _ hc hg, fun w' => ?_⟩
   simp [execOp, ho, hu, Instr.field, run_underlying hu2, hfi, asAgg, part, (TO _ te' hft).run_agg, h1, hg]
theorem zpJ {f : FuncId} {args : Array Operand} {ats : Array TypeId} {cs : List AVal} {d : Nat} {Rc : AVal → Prop} (hw : awant ops e o = some true) (hdst : o.dst = some d) (hd : Nat.blt d nt = true) (ho : o.op = .call { callee := .value (.func f), args := args, argTypes := ats }) (hx : aevs e args.toList = some cs)
  (H : ACall P f cs [] (fun c' h' => Rc c' ∧ h' = [])) (hc : ∀ c j, Rc c → c.has j = false) (HK : ∀ c, Rc c → AOps P nt ops Q rest ((d, c) :: e) h) : AOps P nt ops Q (o :: rest) e h :=
 zat (T := []) hw (znY (d := some d) ho hdst hx H hd hc) fun e' h' ⟨c, h1, h2, h3⟩ => by subst h2 h3; exact HK c h1
end
attribute [local irreducible] AWp AOps AQ AYield AEff ACall AWk AAny AAt AThen AIn APost NoPanic
theorem zls (l : List Rte) (hn : l.length ≤ 1000000) : ACall Tryz.prog 30 [rtesA l, .fn 31 []] [] (Just (boolA (l.any (·.x)))) := by
 have hi := zg6 l hn
 refine zf za Tryz.func30 rfl Tryz.ntmps30 (congrArg Array.toList Tryz.results30) (by kernel_rfl) rfl ?_
 repeat (first | refine q_Z ?_ | ((first | apply q_K rfl | apply q_X rfl); (exact q_H)) | refine q_U ?_)
 refine zpJ rfl rfl rfl rfl rfl hi (fun c j ⟨i, h, _⟩ => by rw [h]; rfl) fun c hc => ?_
 obtain ⟨i, rfl, hi2⟩ := hc
 have he : decide (i ≥ 0) = l.any (·.x) := by
  rw [Bool.eq_iff_iff, decide_eq_true_eq]
  exact hi2
 repeat (first | refine q_Z ?_ | ((first | apply q_K rfl | apply q_X rfl); (first | exact q_H | (exact q_13))) | refine q_U ?_)
 exact zk rfl ⟨by rw [← he]; rfl, rfl⟩
def ownB (r : Rte) : Bool := !decide (r.f = 7) && !decide (r.f = 8)
def usN (l : List Rte) (x : Int) : Int × Bool := match longL (l.filter ownB) x with
 | [] => (0, false)
 | r :: t => if (r :: t).any (·.x) then (0, false) else ((minR r t).m, true)
set_option maxHeartbeats 8000000 in
theorem zko (l : List Rte) (hok : ∀ r ∈ l, okR r) (hn : l.length ≤ 1000000) (x : Int) (x0 : 0 ≤ x) (x1 : x < 4294967296) : ACall Tryz.prog 11 [rtesA l, .d (.sc (.int .u32 x))] [] (Just (.tup [intA (usN l x).1, boolA (usN l x).2])) := by
 refine zf za Tryz.func11 rfl Tryz.ntmps11 (congrArg Array.toList Tryz.results11) (by kernel_rfl) rfl ?_
 repeat (first | refine q_Z ?_ | ((first | apply q_K rfl | apply q_X rfl); (exact q_H)) | refine q_U ?_)
 refine zt (zbn 58 9 (t := 6) (id := 6) rfl rfl) ?_
 refine zw (fun k : Nat => [(1, .d (.sc (.int .u32 x))), (6, .row 6), (10, rtesA l), (11, intA (l.length : Int)), (12, intA (k : Int))]) (fun k => [(6, rteB ((l.take k).filter ownB))]) (fun k => k ≤ l.length) (fun k => l.length - k) 0 (Nat.zero_le _) (q_S) ?_
 intro k hk
 try dsimp only
 have hfl : ((l.take k).filter ownB).length ≤ l.length := Nat.le_trans (List.length_filter_le _ _) (by rw [List.length_take]; omega)
 by_cases hlt : k < l.length
 ·have hst := zdC ownB l k hlt
  have hw := zb0 l k hlt
  by_cases h7 : l[k].f = 7
  ·rw [show ownB l[k] = false by simp [ownB, h7]] at hst
   repeat (first | refine q_Z ?_ | ((first | apply q_K rfl | apply q_X rfl); (first | exact q_A | exact q_R (w := (by first | exact zn zr l k _ hlt (by decide) | exact zx zr l k _ _ hlt (by decide) | exact zaj zr l k _ _ _ hlt (by decide) | rfl)) | exact q_B)) | refine q_U ?_)
   exact ⟨k + 1, by omega, by omega, zm ⟨rfl, rfl, rfl, rfl, rfl, trivial⟩ ⟨zah (by rw [hst]; simp) (by rw [hst]; simp) rfl, trivial⟩⟩
  ·by_cases h8 : l[k].f = 8
   ·rw [show ownB l[k] = false by simp [ownB, h8]] at hst
    repeat (first | refine q_Z ?_ | ((first | apply q_K rfl | apply q_X rfl); (first | exact q_A | exact q_R (w := (by first | exact zn zr l k _ hlt (by decide) | exact zx zr l k _ _ hlt (by decide) | exact zaj zr l k _ _ _ hlt (by decide) | rfl)) | exact q_B)) | refine q_U ?_)
    exact ⟨k + 1, by omega, by omega, zm ⟨rfl, rfl, rfl, rfl, rfl, trivial⟩ ⟨zah (by rw [hst]; simp) (by rw [hst]; simp) rfl, trivial⟩⟩
   ·rw [show ownB l[k] = true by simp [ownB, h7, h8], if_pos rfl] at hst
    repeat (first | refine q_Z ?_ | ((first | apply q_K rfl | apply q_X rfl); (first | exact q_A | exact q_R (w := (by first | exact zn zr l k _ hlt (by decide) | exact zx zr l k _ _ hlt (by decide) | exact zaj zr l k _ _ _ hlt (by decide) | rfl)) | exact q_B)) | refine q_U ?_ | (first | refine zaE za rfl rfl rfl rfl rfl rfl rfl rfl rfl rfl rfl (by first | exact Src.row rfl | exact Src.dat _ _ | exact Src.nil) rfl (by omega) ?_ | refine zaF za rfl rfl rfl rfl rfl rfl rfl rfl rfl rfl (by first | exact Src.row rfl | exact Src.dat _ _ | exact Src.nil) rfl (by omega) ?_))
    exact ⟨k + 1, by omega, by omega, zm ⟨rfl, rfl, rfl, rfl, rfl, trivial⟩ ⟨zah (by rw [hst]; simp) (by rw [hst]; simp [rteD]) rfl, trivial⟩⟩
 ·have hkk : k = l.length := by omega
  subst hkk
  rw [List.take_length]
  have hfl2 : (l.filter ownB).length ≤ l.length := List.length_filter_le _ _
  have hlo := zdm (l.filter ownB) (fun r hr => hok r (List.mem_filter.1 hr).1) (by omega) x x0 x1
  have hll : (longL (l.filter ownB) x).length ≤ 1000000 := Nat.le_trans (zbi _) (Nat.le_trans (List.length_filter_le _ _) (by omega))
  unfold usN
  repeat (first | refine q_Z ?_ | ((first | apply q_K rfl | apply q_X rfl); (exact q_H)) | refine q_U ?_)
  refine zB (zF (id := 6) rfl) ?_
  refine zbh rfl rfl rfl rfl rfl hlo rfl ?_
  repeat (first | refine q_Z ?_ | ((first | apply q_K rfl | apply q_X rfl); (exact q_H)) | refine q_U ?_)
  refine zB (zF (id := 5) rfl) ?_
  generalize longL (l.filter ownB) x = b at *
  cases b with
  | nil =>
   repeat (first | refine q_Z ?_ | ((first | apply q_K rfl | apply q_X rfl); (exact q_H)) | refine q_U ?_)
   exact zk rfl ⟨rfl, rfl⟩
  | cons r t =>
   have hco := zls (r :: t) hll
   have hmi := zjD r t (by simp at hll; omega)
   have hlen : 0 < (r :: t).length := by simp
   dsimp only
   cases hx : (r :: t).any (·.x) with
   | true =>
    rw [hx] at hco
    rw [if_pos rfl]
    repeat (first | refine q_Z ?_ | ((first | apply q_K rfl | apply q_X rfl); (exact q_H)) | refine q_U ?_ | refine q_O hco ?_)
    exact zk rfl ⟨rfl, rfl⟩
   | false =>
    rw [hx] at hco
    rw [if_neg (by simp)]
    repeat (first | refine q_Z ?_ | ((first | apply q_K rfl | apply q_X rfl); (first | exact q_H | (exact zme za rfl rfl rfl rfl rfl rfl rfl rfl))) | refine q_U ?_ | (first | refine q_O hco ?_ | refine q_O hmi ?_))
    exact zk rfl ⟨rfl, rfl⟩
end Go.Proofs.YtmmdkjanmegjdaaGreat.Ab

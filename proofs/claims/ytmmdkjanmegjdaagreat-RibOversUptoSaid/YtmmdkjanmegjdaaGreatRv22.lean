/-
 Texts of a proof, one behind the other (part 23).
-/
import Derived.Test.YtmmdkjanmegjdaaGreatRv1
import Derived.Test.YtmmdkjanmegjdaaGreatRv4
import Derived.Test.YtmmdkjanmegjdaaGreatRv19
import Derived.Test.YtmmdkjanmegjdaaGreatRv21
set_option maxRecDepth 100000
set_option linter.unusedSimpArgs false
set_option linter.unusedVariables false
namespace Go.Proofs.YtmmdkjanmegjdaaGreat.Ab
open Go.RowKit Go.Lib
attribute [local irreducible] AWp AOps AQ AYield AEff ACall AWk AAny AAt AThen AIn APost NoPanic
def lstD (l : List Int) : List Dat := [usD l]
theorem zgZ (l : List Int) : (lstD l).length = 1 := rfl
theorem zcp {α : Type} (L : List (List α)) (k : Nat) (h : k < L.length) : (L.take (k + 1)).flatten = (L.take k).flatten ++ L[k] := by
 rw [List.take_succ_eq_append_getElem h, List.flatten_append]; simp
theorem zcq {α : Type} (L : List (List α)) (k : Nat) : (L.take k).flatten.length ≤ L.flatten.length := by
 have : L.flatten = (L.take k).flatten ++ (L.drop k).flatten := by rw [← List.flatten_append, List.take_append_drop]
 rw [this, List.length_append]; omega
set_option maxHeartbeats 4000000 in
theorem zlM (L : List (List Int)) (hn : L.length ≤ 1000000) (hL : L.flatten.length ≤ 1000000000) : ACall Tryz.prog 125 [.d (.sl (L.flatMap lstD) L.length)] [] (fun c h => c = .row 5 ∧ h = [(5, uB L.flatten)]) := by
 have hg := zoX L.flatten.length (by omega)
 refine zf za Tryz.func125 rfl Tryz.ntmps125 (congrArg Array.toList Tryz.results125) (by kernel_rfl) rfl ?_
 repeat ((fail_if_success refine zb ?_); (fail_if_success refine zL ?_); first | refine q_Y ?_ | ((first | apply q_K rfl | apply q_X rfl); (exact q_G)) | refine q_U ?_)
 refine za7 (fun k : Nat => [(0, .d (.sl (L.flatMap lstD) L.length)), (3, intA ((L.take k).flatten.length : Int)), (9, .d (.sl (L.flatMap lstD) L.length)), (10, intA (L.length : Int)), (11, intA (k : Int))]) (fun _ => []) (fun k => k ≤ L.length) (fun k => L.length - k) 0 [(0, .d (.sl (L.flatMap lstD) L.length)), (3, intA (L.flatten.length : Int))] [] (Nat.zero_le _) (q_S) ?_ ?_
 ·intro k hk
  by_cases hkl : k < L.length
  ·have hw := zn zgZ L k 1 hkl (by decide)
   have h1 := zcq L k
   have h2 := zcq L (k + 1)
   have h3 := congrArg List.length (zcp L k hkl)
   rw [List.length_append] at h3
   repeat (first | refine q_Y ?_ | ((first | apply q_K rfl | apply q_X rfl); (first | exact q_A | exact q_R (w := hw) | exact q_B | (exact zbF za rfl rfl rfl rfl rfl rfl hkl))) | refine q_U ?_)
   exact ⟨k + 1, by (try dsimp only); omega, by (try dsimp only); omega, zm ⟨rfl, intE (by omega), rfl, rfl, rfl, trivial⟩ trivial⟩
  ·have hkk : k = L.length := by omega
   subst hkk
   repeat (first | refine q_Y ?_ | ((first | apply q_K rfl | apply q_X rfl); (exact q_H)) | refine q_U ?_)
   exact zm ⟨rfl, by rw [List.take_length]; rfl, trivial⟩ trivial
 ·
  repeat ((fail_if_success refine zb ?_); (fail_if_success refine zL ?_); first | refine q_Y ?_ | ((first | apply q_K rfl | apply q_X rfl); (exact q_G)) | refine q_U ?_ | (refine zbh rfl rfl rfl rfl rfl hg rfl ?_))
  refine za7 (fun k : Nat => [(6, .row 5), (25, .d (.sl (L.flatMap lstD) L.length)), (26, intA (L.length : Int)), (27, intA (k : Int))]) (fun k => [(5, uB (L.take k).flatten)]) (fun k => k ≤ L.length) (fun k => L.length - k) 0 [(6, .row 5)] [(5, uB L.flatten)] (Nat.zero_le _) (q_S) ?_ ?_
  ·intro k hk
   by_cases hkl : k < L.length
   ·have hw := zn zgZ L k 1 hkl (by decide)
    have h1 := zcq L k
    have h2 := zcq L (k + 1)
    have h3 := congrArg List.length (zcp L k hkl)
    rw [List.length_append] at h3
    have hfl : (L[k].flatMap u1D).length = L[k].length * 1 := zM zV _
    repeat (first | refine q_Y ?_ | ((first | apply q_K rfl | apply q_X rfl); (first | exact q_A | exact q_R (w := hw) | exact q_B | (exact zbF za rfl rfl rfl rfl rfl rfl hkl))) | refine q_U ?_ | (first | refine zaE za rfl rfl rfl rfl rfl rfl rfl rfl rfl rfl rfl (by first | exact Src.row rfl | exact Src.dat _ _ | exact Src.nil) hfl (by omega) ?_ | refine zaF za rfl rfl rfl rfl rfl rfl rfl rfl rfl rfl (by first | exact Src.row rfl | exact Src.dat _ _ | exact Src.nil) hfl (by omega) ?_))
    exact ⟨k + 1, by (try dsimp only); omega, by (try dsimp only); omega, zm ⟨rfl, rfl, rfl, rfl, trivial⟩ ⟨zah h3.symm (by rw [zcp L k hkl, List.flatMap_append]) rfl, trivial⟩⟩
   ·have hkk : k = L.length := by omega
    subst hkk
    repeat (first | refine q_Y ?_ | ((first | apply q_K rfl | apply q_X rfl); (exact q_H)) | refine q_U ?_)
    exact zm ⟨rfl, trivial⟩ ⟨by rw [List.take_length]; rfl, trivial⟩
  ·
   repeat (first | refine q_Y ?_ | ((first | apply q_K rfl | apply q_X rfl); (exact q_H)) | refine q_U ?_)
   exact zo AWk.refl rfl (h2 := [(5, uB L.flatten)]) ⟨rfl, trivial⟩ ⟨rfl, rfl⟩
theorem zoT (a b : List Int) (h : a.length + b.length ≤ 1000000000) : ACall Tryz.prog 102 [usA a, usA b] [] (fun c h => c = .row 5 ∧ h = [(5, uB (nrm (a ++ b)))]) := by
 have e1 : [a, b].flatten = a ++ b := by simp
 have h1 := zlM [a, b] (by simp) (by rw [e1, List.length_append]; omega)
 rw [e1] at h1
 have h2 := zgV (a ++ b) (by rw [List.length_append]; omega)
 refine zf za Tryz.func102 rfl Tryz.ntmps102 (congrArg Array.toList Tryz.results102) (by kernel_rfl) rfl ?_
 repeat (first | refine q_Y ?_ | ((first | apply q_K rfl | apply q_X rfl); (exact q_H)) | refine q_U ?_)
 refine zB (zF (id := 7) rfl) ?_
 refine zbh rfl rfl rfl rfl rfl h1 rfl ?_
 refine zB (zF (id := 5) rfl) ?_
 refine zbh rfl rfl rfl rfl rfl h2 rfl ?_
 repeat (first | refine q_Y ?_ | ((first | apply q_K rfl | apply q_X rfl); (exact q_H)) | refine q_U ?_)
 exact zo AWk.refl rfl (h2 := [(5, uB (nrm (a ++ b)))]) ⟨rfl, trivial⟩ ⟨rfl, rfl⟩
end Go.Proofs.YtmmdkjanmegjdaaGreat.Ab

namespace Go.Proofs.YtmmdkjanmegjdaaGreat.Ab
open Go.RowKit
section
variable {P : Program} {nt : Nat} {Q : Post} {e : Env} {h : Heap} {ops : Array Oper} {o : Oper} {T : List Nat} {fuel i : Nat} {listed : Array Bool}
theorem zbA {f : FuncId} {args : Array Operand} {ats : Array TypeId} {cs : List AVal} {d id el k n : Nat} {ds : List Dat} (hi : ops[i]? = some o) (hw : awant ops e o = some true) (hdst : o.dst = some d) (hd : Nat.blt d nt = true) (ho : o.op = .call { callee := .value (.func f), args := args, argTypes := ats }) (hx : aevs e args.toList = some cs)
  (H : ACall P f cs [] (fun c' h' => c' = .row id ∧ h' = [(id, .row el k n ds)])) (hid : Nat.blt id 1000 = true) (HK : AAny P nt ops Q T fuel (listed.setIfInBounds i true) ((d, .row id) :: killEs [id] e) ((id, .row el k n ds) :: killHs [id] h)) : AAt P nt ops Q T fuel listed i e h :=
 za5 hi hw (zcu ho hdst hx H hd fun c' h' ⟨h1, h2⟩ => by
  subst h1 h2
  refine ⟨by simp [hid], fun j b i hb hh => ?_, fun j hj => ?_⟩
  ·unfold look at hb
   cases hj : Nat.beq id j with
   | true => rw [hj] at hb; cases hb; simp [blkHas] at hh
   | false => rw [hj] at hb; cases hb
  ·simp [AVal.has] at hj
   subst hj
   simp [look]) fun e' h' ⟨c, h2, ⟨h3, h4⟩, h5, h6⟩ => by subst h3 h4 h5 h6; exact HK
end
end Go.Proofs.YtmmdkjanmegjdaaGreat.Ab

namespace Go.Proofs.YtmmdkjanmegjdaaGreat.Ab
open Go.RowKit
section
variable {P : Program} {nt : Nat} {Q : Post} {e : Env} {h : Heap} {ops : Array Oper} {o : Oper} {rest : List Oper} {T : List Nat} {fuel i : Nat} {listed : Array Bool}
theorem ACall.wk {f : FuncId} {args : List AVal} {c0 c1 : AVal} {h0 h1 : Heap} (H : ACall P f args h (fun c h' => c = c0 ∧ h' = h0)) (hk : AWk 1 [(0, c0)] h0 [(0, c1)] h1) : ACall P f args h (fun c h' => c = c1 ∧ h' = h1) :=
 ⟨H.1, fun Pm F w0 pin ι us w a b => (H.2 Pm F w0 pin ι us w a b).mono fun x w' ⟨u, c, h', ι', h2, h3, h4, h5⟩ => by
  obtain ⟨rfl, rfl⟩ := h3
  have R0 : Rel Pm F w0 pin ι' 1 [(0, c)] h' { tmps := #[u], defers := [] } w' := by
   refine ⟨h4, fun t c' ht => ?_, MkOk.nil, by simp⟩
   by_cases h0 : 0 = t
   ·subst h0
    rw [ze] at ht
    cases ht
    exact ⟨u, rfl, h5⟩
   ·rw [zc _ _ h0] at ht; cases ht
  obtain ⟨ι2, R1⟩ := hk _ _ _ _ _ _ _ R0
  obtain ⟨u', hu1, hu2⟩ := R1.env 0 _ rfl
  cases hu1
  exact ⟨u, c1, h1, ι2, h2, ⟨rfl, rfl⟩, R1.heap, hu2⟩⟩
theorem O_cN {f : FuncId} {args : Array Operand} {ats : Array TypeId} {cs : List AVal} {d : Nat} {c : AVal} {h1 : Heap} (hw : awant ops e o = some true) (hdst : o.dst = some d) (hd : Nat.blt d nt = true) (ho : o.op = .call { callee := .value (.func f), args := args, argTypes := ats }) (hx : aevs e args.toList = some cs)
  (H : ACall P f cs [] (fun c' h' => c' = c ∧ h' = h1)) (hids : (h1.map (·.1)).all (fun j => Nat.blt j 1000) = true) (hcl : ∀ id b j, look h1 id = some b → blkHas j b = true → (look h1 j).isSome = true) (hcc : ∀ j, c.has j = true → (look h1 j).isSome = true)
  (HK : AOps P nt ops Q rest ((d, c) :: killEs (h1.map (·.1)) e) (h1 ++ killHs (h1.map (·.1)) h)) : AOps P nt ops Q (o :: rest) e h :=
 zat (T := []) hw (zcu (d := some d) ho hdst hx H hd fun c' h' ⟨q1, q2⟩ => by subst q1 q2; exact ⟨hids, hcl, hcc⟩) fun e' h' ⟨c', h2, ⟨q1, q2⟩, q3, q4⟩ => by subst q1 q2 q3 q4; exact HK
end
end Go.Proofs.YtmmdkjanmegjdaaGreat.Ab

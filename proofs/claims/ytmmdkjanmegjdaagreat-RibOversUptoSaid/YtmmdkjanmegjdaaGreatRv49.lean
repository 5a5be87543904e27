/-
 Texts of a proof, one behind the other (part 50).
-/
import Derived.Test.YtmmdkjanmegjdaaGreatRv4
import Derived.Test.YtmmdkjanmegjdaaGreatRv48
set_option linter.unusedSimpArgs false
set_option linter.unusedVariables false
namespace Go.Proofs.YtmmdkjanmegjdaaGreat.Ab
set_option maxRecDepth 100000
open Go.RowKit Go.Lib
section
variable {P : Program} {nt : Nat} {Q : Post} {e : Env} {h : Heap} {ops : Array Oper} {o : Oper} {rest : List Oper} {T : List Nat} {fuel i : Nat} {listed : Array Bool}
theorem T_cF {f : FuncId} {x : Operand} {caps : List AVal} {args : Array Operand} {ats : Array TypeId} {cs : List AVal} {d : Nat} {c : AVal} (hi : ops[i]? = some o) (hw : awant ops e o = some true) (hdst : o.dst = some d) (hd : Nat.blt d nt = true) (ho : o.op = .call { callee := .value x, args := args, argTypes := ats }) (hf : aev e x = some (.fn f caps)) (hx : aevs e args.toList = some cs)
  (H : ACall P f (cs ++ caps) [] (fun c' h' => c' = c ∧ h' = [])) (hc : ∀ j, c.has j = false) (HK : AAny P nt ops Q T fuel (listed.setIfInBounds i true) ((d, c) :: e) h) : AAt P nt ops Q T fuel listed i e h :=
 za5 hi hw (zja (d := some d) ho hdst hf hx H hd hc) fun e' h' ⟨h1, h2⟩ => by subst h1 h2; exact HK
end
attribute [local irreducible] AWp AOps AQ AYield AEff ACall AWk AAny AAt AThen AIn APost NoPanic
def minR : Rte → List Rte → Rte
 | c, [] => c
 | c, s :: t => minR (if s.m < c.m then s else c) t
theorem zfy : ∀ (c : Rte) (l : List Rte) (s : Rte), minR c (l ++ [s]) = if s.m < (minR c l).m then s else minR c l
 | c, [], s => rfl
 | c, a :: t, s => zfy _ t s
theorem zo1 (r : Rte) : ACall Tryz.prog 31 ([rteA r] ++ []) [] (Just (boolA r.x)) := by
 show ACall _ _ [rteA r] _ _
 refine zf za Tryz.func31 rfl Tryz.ntmps31 (congrArg Array.toList Tryz.results31) (by kernel_rfl) rfl ?_
 repeat (first | refine q_Y ?_ | ((first | apply q_K rfl | apply q_X rfl); (exact q_H)) | refine q_U ?_)
 exact zk rfl ⟨rfl, rfl⟩
theorem zo3 (a b : Rte) : ACall Tryz.prog 33 ([rteA a, rteA b] ++ []) [] (Just (intA (c2 a.m b.m))) := by
 show ACall _ _ [rteA a, rteA b] _ _
 have h1 := zaG a.m b.m
 refine zf za Tryz.func33 rfl Tryz.ntmps33 (congrArg Array.toList Tryz.results33) (by kernel_rfl) rfl ?_
 repeat (first | refine q_Y ?_ | ((first | apply q_K rfl | apply q_X rfl); (exact q_H)) | refine q_U ?_ | refine q_O h1 ?_)
 exact zk rfl ⟨rfl, rfl⟩
def discI : List Rte → Int
 | [] => -1
 | r :: t => if r.x then 0 else (if discI t < 0 then -1 else discI t + 1)
set_option maxHeartbeats 4000000 in
theorem zg6 (l : List Rte) (hn : l.length ≤ 1000000) : ACall Tryz.prog 55 [rtesA l, .fn 31 []] [] (fun c h => (∃ i : Int, c = intA i ∧ (0 ≤ i ↔ l.any (·.x) = true)) ∧ h = []) := by
 refine zf za Tryz.func55 rfl Tryz.ntmps55 (congrArg Array.toList Tryz.results55) (by kernel_rfl) rfl ?_
 repeat (first | refine q_Y ?_ | ((first | apply q_K rfl | apply q_X rfl); (exact q_H)) | refine q_U ?_)
 refine zw (fun k : Nat => [(0, rtesA l), (1, .fn 31 []), (7, intA (l.length : Int)), (8, intA (k : Int))]) (fun _ => []) (fun k => k ≤ l.length ∧ (l.take k).any (·.x) = false) (fun k => l.length - k) 0 ⟨Nat.zero_le _, rfl⟩ (q_S) ?_
 rintro k ⟨hk, he⟩
 dsimp only
 by_cases hlt : k < l.length
 ·have hd := zo1 l[k]
  cases hx : l[k].x with
  | true =>
   rw [hx] at hd
   repeat (first | refine q_Z ?_ | ((first | apply q_K rfl | apply q_X rfl); (first | exact q_A | exact q_R (w := (by first | exact zn zr l k _ hlt (by decide) | exact zx zr l k _ _ hlt (by decide) | exact zaj zr l k _ _ _ hlt (by decide) | rfl)) | exact q_B)) | refine q_U ?_ | (refine O_cF rfl rfl rfl rfl rfl rfl hd (fun _ => rfl) ?_))
   exact zk rfl ⟨⟨_, rfl, ⟨fun _ => List.any_eq_true.2 ⟨l[k], List.getElem_mem hlt, hx⟩, fun _ => by omega⟩⟩, rfl⟩
  | false =>
   rw [hx] at hd
   repeat (first | refine q_Z ?_ | ((first | apply q_K rfl | apply q_X rfl); (first | exact q_A | exact q_R (w := (by first | exact zn zr l k _ hlt (by decide) | exact zx zr l k _ _ hlt (by decide) | exact zaj zr l k _ _ _ hlt (by decide) | rfl)) | exact q_B)) | refine q_U ?_ | (refine O_cF rfl rfl rfl rfl rfl rfl hd (fun _ => rfl) ?_))
   exact ⟨k + 1, ⟨by omega, by rw [List.take_succ_eq_append_getElem hlt, List.any_append, he]; simp [hx]⟩, by omega, q_S⟩
 ·have hkk : k = l.length := by omega
  subst hkk
  rw [List.take_length] at he
  repeat (first | refine q_Z ?_ | ((first | apply q_K rfl | apply q_X rfl); (exact q_H)) | refine q_U ?_)
  exact zk rfl ⟨⟨_, rfl, ⟨fun h => absurd h (by omega), fun h => by rw [he] at h; cases h⟩⟩, rfl⟩
set_option maxHeartbeats 4000000 in
theorem zjD (r : Rte) (t : List Rte) (hn : t.length ≤ 1000000) : ACall Tryz.prog 32 [rtesA (r :: t), .fn 33 []] [] (Just (rteA (minR r t))) := by
 refine zf za Tryz.func32 rfl Tryz.ntmps32 (congrArg Array.toList Tryz.results32) (by kernel_rfl) rfl ?_
 have h0 : 0 < (r :: t).length := by simp
 have hl : (r :: t).length = t.length + 1 := rfl
 have hw0 : win ((r :: t).flatMap rteD) 0 9 = rteD r := zb0 (r :: t) 0 h0
 obtain ⟨l, hll⟩ : ∃ l, r :: t = l := ⟨_, rfl⟩
 rw [hll] at h0 hl hw0 ⊢
 repeat (first | refine q_Y ?_ | ((first | apply q_K rfl | apply q_X rfl); (first | exact q_A | exact q_R (w := hw0) | exact q_B | (exact q_I 0 h0))) | refine q_U ?_)
 refine zw (fun k : Nat => [(0, rtesA l), (1, .fn 33 []), (4, .ptr 4 0), (5, .ptr 5 0), (6, intA (k : Int))]) (fun k => [(4, rteB1 rte0), (5, rteB1 (minR r (t.take (k - 1))))]) (fun k => 1 ≤ k ∧ k ≤ l.length) (fun k => l.length - k) 1 ⟨Nat.le_refl _, h0⟩ (q_S) ?_
 rintro k ⟨hk1, hk2⟩
 dsimp only
 by_cases hlt : k < l.length
 ·have hkt : k - 1 < t.length := by omega
  have hlk : l[k] = t[k - 1] := by
   subst hll
   obtain ⟨j, rfl⟩ : ∃ j, k = j + 1 := ⟨k - 1, by omega⟩
   rfl
  have hw := zb0 l k hlt
  rw [hlk] at hw
  have hco := zo3 t[k - 1] (minR r (t.take (k - 1)))
  have hsn : minR r (t.take (k + 1 - 1)) = if t[k - 1].m < (minR r (t.take (k - 1))).m then t[k - 1] else minR r (t.take (k - 1)) := by
   rw [show k + 1 - 1 = k - 1 + 1 by omega, List.take_succ_eq_append_getElem hkt, zfy]
  generalize minR r (t.take (k - 1)) = b at *
  by_cases hm : t[k - 1].m < b.m
  ·rw [if_pos hm] at hsn
   have hc := zoa.2 hm
   repeat (first | refine q_Z ?_ | ((first | apply q_K rfl | apply q_X rfl); (first | exact q_A | exact q_R (w := hw) | exact q_B)) | refine q_U ?_)
   refine zA [] mixed ?_
   repeat (first | ((first | apply q_M 0 rfl rfl (by kernel_rfl) (by decide +kernel) (by decide +kernel) rfl rfl rfl | apply q_M 1 rfl rfl (by kernel_rfl) (by decide +kernel) (by decide +kernel) rfl rfl rfl | apply q_M 2 rfl rfl (by kernel_rfl) (by decide +kernel) (by decide +kernel) rfl rfl rfl | apply q_M 3 rfl rfl (by kernel_rfl) (by decide +kernel) (by decide +kernel) rfl rfl rfl | apply q_M 4 rfl rfl (by kernel_rfl) (by decide +kernel) (by decide +kernel) rfl rfl rfl | apply q_M 5 rfl rfl (by kernel_rfl) (by decide +kernel) (by decide +kernel) rfl rfl rfl | apply q_M 6 rfl rfl (by kernel_rfl) (by decide +kernel) (by decide +kernel) rfl rfl rfl | apply q_M 7 rfl rfl (by kernel_rfl) (by decide +kernel) (by decide +kernel) rfl rfl rfl | apply q_M 8 rfl rfl (by kernel_rfl) (by decide +kernel) (by decide +kernel) rfl rfl rfl | apply q_M 9 rfl rfl (by kernel_rfl) (by decide +kernel) (by decide +kernel) rfl rfl rfl | apply q_M 10 rfl rfl (by kernel_rfl) (by decide +kernel) (by decide +kernel) rfl rfl rfl | apply q_M 11 rfl rfl (by kernel_rfl) (by decide +kernel) (by decide +kernel) rfl rfl rfl | apply q_M 12 rfl rfl (by kernel_rfl) (by decide +kernel) (by decide +kernel) rfl rfl rfl ); (first | exact q_A | exact q_R (w := hw) | exact q_B)) | (apply q_L 0 rfl rfl (by kernel_rfl) (by decide +kernel) (by decide +kernel) rfl rfl rfl; (first | exact q_R (w := hw) | exact q_6 | exact q_7 | exact q_15 | exact q_16 | exact q_19)) | (apply q_L 1 rfl rfl (by kernel_rfl) (by decide +kernel) (by decide +kernel) rfl rfl rfl; (first | exact q_R (w := hw) | exact q_6 | exact q_7 | exact q_15 | exact q_16 | exact q_19)) | (apply q_L 2 rfl rfl (by kernel_rfl) (by decide +kernel) (by decide +kernel) rfl rfl rfl; (first | exact q_R (w := hw) | exact q_6 | exact q_7 | exact q_15 | exact q_16 | exact q_19)) | (apply q_L 3 rfl rfl (by kernel_rfl) (by decide +kernel) (by decide +kernel) rfl rfl rfl; (first | exact q_R (w := hw) | exact q_6 | exact q_7 | exact q_15 | exact q_16 | exact q_19)) | (apply q_L 4 rfl rfl (by kernel_rfl) (by decide +kernel) (by decide +kernel) rfl rfl rfl; (first | exact q_R (w := hw) | exact q_6 | exact q_7 | exact q_15 | exact q_16 | exact q_19)) | (apply q_L 5 rfl rfl (by kernel_rfl) (by decide +kernel) (by decide +kernel) rfl rfl rfl; (first | exact q_R (w := hw) | exact q_6 | exact q_7 | exact q_15 | exact q_16 | exact q_19)) | (apply q_L 6 rfl rfl (by kernel_rfl) (by decide +kernel) (by decide +kernel) rfl rfl rfl; (first | exact q_R (w := hw) | exact q_6 | exact q_7 | exact q_15 | exact q_16 | exact q_19)) | (apply q_L 7 rfl rfl (by kernel_rfl) (by decide +kernel) (by decide +kernel) rfl rfl rfl; (first | exact q_R (w := hw) | exact q_6 | exact q_7 | exact q_15 | exact q_16 | exact q_19)) | (apply q_L 8 rfl rfl (by kernel_rfl) (by decide +kernel) (by decide +kernel) rfl rfl rfl; (first | exact q_R (w := hw) | exact q_6 | exact q_7 | exact q_15 | exact q_16 | exact q_19)) | (apply q_L 9 rfl rfl (by kernel_rfl) (by decide +kernel) (by decide +kernel) rfl rfl rfl; (first | exact q_R (w := hw) | exact q_6 | exact q_7 | exact q_15 | exact q_16 | exact q_19)) | (apply q_L 10 rfl rfl (by kernel_rfl) (by decide +kernel) (by decide +kernel) rfl rfl rfl; (first | exact q_R (w := hw) | exact q_6 | exact q_7 | exact q_15 | exact q_16 | exact q_19)) | (apply q_L 11 rfl rfl (by kernel_rfl) (by decide +kernel) (by decide +kernel) rfl rfl rfl; (first | exact q_R (w := hw) | exact q_6 | exact q_7 | exact q_15 | exact q_16 | exact q_19)) | (apply q_L 12 rfl rfl (by kernel_rfl) (by decide +kernel) (by decide +kernel) rfl rfl rfl; (first | exact q_R (w := hw) | exact q_6 | exact q_7 | exact q_15 | exact q_16 | exact q_19)) | refine zd (j := 0) (by decide +kernel) ?_ | refine zd (j := 1) (by decide +kernel) ?_ | refine zd (j := 2) (by decide +kernel) ?_ | refine zd (j := 3) (by decide +kernel) ?_ | refine zd (j := 4) (by decide +kernel) ?_ | refine zd (j := 5) (by decide +kernel) ?_ | refine zd (j := 6) (by decide +kernel) ?_ | refine zd (j := 7) (by decide +kernel) ?_ | refine zd (j := 8) (by decide +kernel) ?_ | refine zd (j := 9) (by decide +kernel) ?_ | refine zd (j := 10) (by decide +kernel) ?_ | refine zd (j := 11) (by decide +kernel) ?_ | refine zd (j := 12) (by decide +kernel) ?_ | refine zW za rfl rfl rfl rfl rfl rfl rfl ?_ | refine zJ za rfl rfl rfl rfl rfl rfl rfl rfl rfl rfl rfl rfl rfl ?_ | refine zfP rfl rfl rfl rfl rfl rfl rfl rfl ?_ | (apply zP rfl rfl rfl rfl; (first | exact q_A | exact q_R (w := hw) | exact q_B)) | refine zz (by decide +kernel) ?_ | (refine T_cF rfl rfl rfl rfl rfl rfl rfl hco (fun _ => rfl) ?_))
   repeat (first | refine q_Z ?_ | ((first | apply q_K rfl | apply q_X rfl); (first | exact q_A | exact q_R (w := hw) | exact q_B)) | refine q_U ?_)
   exact ⟨k + 1, ⟨by omega, by omega⟩, by omega, zm ⟨rfl, rfl, rfl, rfl, rfl, trivial⟩ ⟨rfl, by rw [hsn]; rfl, trivial⟩⟩
  ·rw [if_neg hm] at hsn
   have hc : ¬ c2 t[k - 1].m b.m < 0 := fun h => hm (zoa.1 h)
   repeat (first | refine q_Z ?_ | ((first | apply q_K rfl | apply q_X rfl); (first | exact q_A | exact q_R (w := hw) | exact q_B)) | refine q_U ?_)
   refine zA [] mixed ?_
   repeat (first | ((first | apply q_M 0 rfl rfl (by kernel_rfl) (by decide +kernel) (by decide +kernel) rfl rfl rfl | apply q_M 1 rfl rfl (by kernel_rfl) (by decide +kernel) (by decide +kernel) rfl rfl rfl | apply q_M 2 rfl rfl (by kernel_rfl) (by decide +kernel) (by decide +kernel) rfl rfl rfl | apply q_M 3 rfl rfl (by kernel_rfl) (by decide +kernel) (by decide +kernel) rfl rfl rfl | apply q_M 4 rfl rfl (by kernel_rfl) (by decide +kernel) (by decide +kernel) rfl rfl rfl | apply q_M 5 rfl rfl (by kernel_rfl) (by decide +kernel) (by decide +kernel) rfl rfl rfl | apply q_M 6 rfl rfl (by kernel_rfl) (by decide +kernel) (by decide +kernel) rfl rfl rfl | apply q_M 7 rfl rfl (by kernel_rfl) (by decide +kernel) (by decide +kernel) rfl rfl rfl | apply q_M 8 rfl rfl (by kernel_rfl) (by decide +kernel) (by decide +kernel) rfl rfl rfl | apply q_M 9 rfl rfl (by kernel_rfl) (by decide +kernel) (by decide +kernel) rfl rfl rfl | apply q_M 10 rfl rfl (by kernel_rfl) (by decide +kernel) (by decide +kernel) rfl rfl rfl | apply q_M 11 rfl rfl (by kernel_rfl) (by decide +kernel) (by decide +kernel) rfl rfl rfl | apply q_M 12 rfl rfl (by kernel_rfl) (by decide +kernel) (by decide +kernel) rfl rfl rfl ); (first | exact q_A | exact q_R (w := hw) | exact q_B)) | (apply q_L 0 rfl rfl (by kernel_rfl) (by decide +kernel) (by decide +kernel) rfl rfl rfl; (first | exact q_R (w := hw) | exact q_6 | exact q_7 | exact q_15 | exact q_16 | exact q_19)) | (apply q_L 1 rfl rfl (by kernel_rfl) (by decide +kernel) (by decide +kernel) rfl rfl rfl; (first | exact q_R (w := hw) | exact q_6 | exact q_7 | exact q_15 | exact q_16 | exact q_19)) | (apply q_L 2 rfl rfl (by kernel_rfl) (by decide +kernel) (by decide +kernel) rfl rfl rfl; (first | exact q_R (w := hw) | exact q_6 | exact q_7 | exact q_15 | exact q_16 | exact q_19)) | (apply q_L 3 rfl rfl (by kernel_rfl) (by decide +kernel) (by decide +kernel) rfl rfl rfl; (first | exact q_R (w := hw) | exact q_6 | exact q_7 | exact q_15 | exact q_16 | exact q_19)) | (apply q_L 4 rfl rfl (by kernel_rfl) (by decide +kernel) (by decide +kernel) rfl rfl rfl; (first | exact q_R (w := hw) | exact q_6 | exact q_7 | exact q_15 | exact q_16 | exact q_19)) | (apply q_L 5 rfl rfl (by kernel_rfl) (by decide +kernel) (by decide +kernel) rfl rfl rfl; (first | exact q_R (w := hw) | exact q_6 | exact q_7 | exact q_15 | exact q_16 | exact q_19)) | (apply q_L 6 rfl rfl (by kernel_rfl) (by decide +kernel) (by decide +kernel) rfl rfl rfl; (first | exact q_R (w := hw) | exact q_6 | exact q_7 | exact q_15 | exact q_16 | exact q_19)) | (apply q_L 7 rfl rfl (by kernel_rfl) (by decide +kernel) (by decide +kernel) rfl rfl rfl; (first | exact q_R (w := hw) | exact q_6 | exact q_7 | exact q_15 | exact q_16 | exact q_19)) | (apply q_L 8 rfl rfl (by kernel_rfl) (by decide +kernel) (by decide +kernel) rfl rfl rfl; (first | exact q_R (w := hw) | exact q_6 | exact q_7 | exact q_15 | exact q_16 | exact q_19)) | (apply q_L 9 rfl rfl (by kernel_rfl) (by decide +kernel) (by decide +kernel) rfl rfl rfl; (first | exact q_R (w := hw) | exact q_6 | exact q_7 | exact q_15 | exact q_16 | exact q_19)) | (apply q_L 10 rfl rfl (by kernel_rfl) (by decide +kernel) (by decide +kernel) rfl rfl rfl; (first | exact q_R (w := hw) | exact q_6 | exact q_7 | exact q_15 | exact q_16 | exact q_19)) | (apply q_L 11 rfl rfl (by kernel_rfl) (by decide +kernel) (by decide +kernel) rfl rfl rfl; (first | exact q_R (w := hw) | exact q_6 | exact q_7 | exact q_15 | exact q_16 | exact q_19)) | (apply q_L 12 rfl rfl (by kernel_rfl) (by decide +kernel) (by decide +kernel) rfl rfl rfl; (first | exact q_R (w := hw) | exact q_6 | exact q_7 | exact q_15 | exact q_16 | exact q_19)) | refine zd (j := 0) (by decide +kernel) ?_ | refine zd (j := 1) (by decide +kernel) ?_ | refine zd (j := 2) (by decide +kernel) ?_ | refine zd (j := 3) (by decide +kernel) ?_ | refine zd (j := 4) (by decide +kernel) ?_ | refine zd (j := 5) (by decide +kernel) ?_ | refine zd (j := 6) (by decide +kernel) ?_ | refine zd (j := 7) (by decide +kernel) ?_ | refine zd (j := 8) (by decide +kernel) ?_ | refine zd (j := 9) (by decide +kernel) ?_ | refine zd (j := 10) (by decide +kernel) ?_ | refine zd (j := 11) (by decide +kernel) ?_ | refine zd (j := 12) (by decide +kernel) ?_ | refine zW za rfl rfl rfl rfl rfl rfl rfl ?_ | refine zJ za rfl rfl rfl rfl rfl rfl rfl rfl rfl rfl rfl rfl rfl ?_ | refine zfP rfl rfl rfl rfl rfl rfl rfl rfl ?_ | (apply zP rfl rfl rfl rfl; (first | exact q_A | exact q_R (w := hw) | exact q_B)) | refine zz (by decide +kernel) ?_ | (refine T_cF rfl rfl rfl rfl rfl rfl rfl hco (fun _ => rfl) ?_))
   repeat (first | refine q_Z ?_ | ((first | apply q_K rfl | apply q_X rfl); (first | exact q_A | exact q_R (w := hw) | exact q_B)) | refine q_U ?_)
   exact ⟨k + 1, ⟨by omega, by omega⟩, by omega, zm ⟨rfl, rfl, rfl, rfl, rfl, trivial⟩ ⟨rfl, by rw [hsn]; rfl, trivial⟩⟩
 ·have hkk : k = l.length := by omega
  rw [show t.take (k - 1) = t by rw [List.take_of_length_le]; omega]
  repeat (first | refine q_Z ?_ | ((first | apply q_K rfl | apply q_X rfl); (exact q_H)) | refine q_U ?_)
  exact zk rfl ⟨rfl, rfl⟩
end Go.Proofs.YtmmdkjanmegjdaaGreat.Ab

/-
  Texts of a proof, one behind the other (part 51).
-/
import Derived.Test.YtpnhkkejcnicoaaGreatRo6
import Derived.Test.YtpnhkkejcnicoaaGreatRo49
set_option linter.unusedVariables false
set_option linter.unusedSimpArgs false
namespace Go.Proofs.YtpnhkkejcnicoaaGreat.Ab
set_option linter.unusedVariables false
set_option maxRecDepth 100000
open Go.RowKit Go.Lib
section
variable {P : Program} {nt : Nat} {Q : Post} {e : Env} {h : Heap} {ops : Array Oper} {o : Oper} {rest : List Oper} {T : List Nat} {fuel i : Nat} {listed : Array Bool}
theorem T_cF {f : FuncId} {x : Operand} {caps : List AVal} {args : Array Operand} {ats : Array TypeId} {cs : List AVal} {d : Nat} {c : AVal} (hi : ops[i]? = some o) (hw : awant ops e o = some true) (hdst : o.dst = some d) (hd : Nat.blt d nt = true) (ho : o.op = .call { callee := .value x, args := args, argTypes := ats }) (hf : aev e x = some (.fn f caps)) (hx : aevs e args.toList = some cs)
    (H : ACall P f (cs ++ caps) [] (fun c' h' => c' = c ∧ h' = [])) (hc : ∀ j, c.has j = false) (HK : AAny P nt ops Q T fuel (listed.setIfInBounds i true) ((d, c) :: e) h) : AAt P nt ops Q T fuel listed i e h :=
  T_eff hi hw (E_callF (d := some d) ho hdst hf hx H hd hc) fun e' h' ⟨h1, h2⟩ => by subst h1 h2; exact HK
end
set_option linter.unusedSimpArgs false
attribute [local irreducible] AWp AOps AQ AYield AEff ACall AWk AAny AAt AThen AIn APost NoPanic
def minR : Rte → List Rte → Rte
  | c, [] => c
  | c, s :: t => minR (if s.m < c.m then s else c) t
theorem minR_snoc : ∀ (c : Rte) (l : List Rte) (s : Rte), minR c (l ++ [s]) = if s.m < (minR c l).m then s else minR c l
  | c, [], s => rfl
  | c, a :: t, s => minR_snoc _ t s
theorem disc_A (r : Rte) : ACall Tryz.prog 26 ([rteA r] ++ []) [] (Just (boolA r.x)) := by
  show ACall _ _ [rteA r] _ _
  refine ACall_of tabOk Tryz.func26 rfl Tryz.ntmps26 (congrArg Array.toList Tryz.results26) (by kernel_rfl) rfl ?_
  repeat (first | refine q_Z ?_ | refine R_quiet rfl mixed (by kernel_rfl) ?_ | ((first | apply O_y rfl rfl rfl | apply Q_y rfl rfl rfl); (first | exact q_A | exact q_5 | exact q_B)) | refine q_d ?_ | refine q_a ?_ | refine q_b ?_ | refine q_c ?_ | refine A_ct rfl ?_ | refine A_cf rfl ?_ | refine q_W ?_)
  exact X_ret rfl ⟨rfl, rfl⟩
theorem cost_A (a b : Rte) : ACall Tryz.prog 28 ([rteA a, rteA b] ++ []) [] (Just (intA (c2 a.m b.m))) := by
  show ACall _ _ [rteA a, rteA b] _ _
  have h1 := compare_int a.m b.m
  refine ACall_of tabOk Tryz.func28 rfl Tryz.ntmps28 (congrArg Array.toList Tryz.results28) (by kernel_rfl) rfl ?_
  repeat (first | refine q_Z ?_ | refine R_quiet rfl mixed (by kernel_rfl) ?_ | ((first | apply O_y rfl rfl rfl | apply Q_y rfl rfl rfl); (first | exact q_A | exact q_5 | exact q_B)) | refine q_d ?_ | refine q_a ?_ | refine q_b ?_ | refine q_c ?_ | refine A_ct rfl ?_ | refine A_cf rfl ?_ | refine q_W ?_ | refine O_c rfl rfl rfl rfl rfl h1 (fun _ => rfl) ?_)
  exact X_ret rfl ⟨rfl, rfl⟩
def discI : List Rte → Int
  | [] => -1
  | r :: t => if r.x then 0 else (if discI t < 0 then -1 else discI t + 1)
set_option maxHeartbeats 4000000 in
theorem indexDisc_A (l : List Rte) (hn : l.length ≤ 1000000) : ACall Tryz.prog 47 [rtesA l, .fn 26 []] [] (fun c h => (∃ i : Int, c = intA i ∧ (0 ≤ i ↔ l.any (·.x) = true)) ∧ h = []) := by
  refine ACall_of tabOk Tryz.func47 rfl Tryz.ntmps47 (congrArg Array.toList Tryz.results47) (by kernel_rfl) rfl ?_
  repeat (first | refine q_Z ?_ | refine R_quiet rfl mixed (by kernel_rfl) ?_ | ((first | apply O_y rfl rfl rfl | apply Q_y rfl rfl rfl); (first | exact q_A | exact q_5 | exact q_B)) | refine q_d ?_ | refine q_a ?_ | refine q_b ?_ | refine q_c ?_ | refine A_ct rfl ?_ | refine A_cf rfl ?_ | refine q_W ?_)
  refine A_loop (fun k : Nat => [(0, rtesA l), (1, .fn 26 []), (7, intA (l.length : Int)), (8, intA (k : Int))]) (fun _ => []) (fun k => k ≤ l.length ∧ (l.take k).any (·.x) = false) (fun k => l.length - k) 0 ⟨Nat.zero_le _, rfl⟩ (Wk_sel ⟨rfl, rfl, rfl, rfl, trivial⟩ trivial) ?_
  rintro k ⟨hk, he⟩
  dsimp only
  by_cases hlt : k < l.length
  · have hd := disc_A l[k]
    cases hx : l[k].x with
    | true =>
      rw [hx] at hd
      repeat (first | refine q_Z ?_ | ((first | apply O_y rfl rfl rfl | apply Q_y rfl rfl rfl); (first | exact q_A | exact R_loadi tabOk rfl rfl rfl rfl (by first | exact win_flat0 rteD_len l k _ hlt (by decide) | exact win_flat rteD_len l k _ _ hlt (by decide) | exact win_flat2 rteD_len l k _ _ _ hlt (by decide) | rfl) rfl rfl | exact q_B)) | refine q_d ?_ | refine q_a ?_ | refine q_b ?_ | refine q_c ?_ | refine A_ct rfl ?_ | refine A_cf rfl ?_ | refine q_W ?_ | (refine O_cF rfl rfl rfl rfl rfl rfl hd (fun _ => rfl) ?_))
      exact X_ret rfl ⟨⟨_, rfl, ⟨fun _ => List.any_eq_true.2 ⟨l[k], List.getElem_mem hlt, hx⟩, fun _ => by omega⟩⟩, rfl⟩
    | false =>
      rw [hx] at hd
      repeat (first | refine q_Z ?_ | ((first | apply O_y rfl rfl rfl | apply Q_y rfl rfl rfl); (first | exact q_A | exact R_loadi tabOk rfl rfl rfl rfl (by first | exact win_flat0 rteD_len l k _ hlt (by decide) | exact win_flat rteD_len l k _ _ hlt (by decide) | exact win_flat2 rteD_len l k _ _ _ hlt (by decide) | rfl) rfl rfl | exact q_B)) | refine q_d ?_ | refine q_a ?_ | refine q_b ?_ | refine q_c ?_ | refine A_ct rfl ?_ | refine A_cf rfl ?_ | refine q_W ?_ | (refine O_cF rfl rfl rfl rfl rfl rfl hd (fun _ => rfl) ?_))
      exact ⟨k + 1, ⟨by omega, by rw [List.take_succ_eq_append_getElem hlt, List.any_append, he]; simp [hx]⟩, by omega, Wk_sel ⟨rfl, rfl, rfl, rfl, trivial⟩ trivial⟩
  · have hkk : k = l.length := by omega
    subst hkk
    rw [List.take_length] at he
    repeat (first | refine q_Z ?_ | ((first | apply O_y rfl rfl rfl | apply Q_y rfl rfl rfl); (first | exact q_A | exact q_5 | exact q_B)) | refine q_d ?_ | refine q_a ?_ | refine q_b ?_ | refine q_c ?_ | refine A_ct rfl ?_ | refine A_cf rfl ?_ | refine q_W ?_)
    exact X_ret rfl ⟨⟨_, rfl, ⟨fun h => absurd h (by omega), fun h => by rw [he] at h; cases h⟩⟩, rfl⟩
set_option maxHeartbeats 4000000 in
theorem minFunc_A (r : Rte) (t : List Rte) (hn : t.length ≤ 1000000) : ACall Tryz.prog 27 [rtesA (r :: t), .fn 28 []] [] (Just (rteA (minR r t))) := by
  refine ACall_of tabOk Tryz.func27 rfl Tryz.ntmps27 (congrArg Array.toList Tryz.results27) (by kernel_rfl) rfl ?_
  have h0 : 0 < (r :: t).length := by simp
  have hl : (r :: t).length = t.length + 1 := rfl
  have hw0 : win ((r :: t).flatMap rteD) 0 9 = rteD r := win_at (r :: t) 0 h0
  obtain ⟨l, hll⟩ : ∃ l, r :: t = l := ⟨_, rfl⟩
  rw [hll] at h0 hl hw0 ⊢
  repeat (first | refine q_Z ?_ | refine R_quiet rfl mixed (by kernel_rfl) ?_ | ((first | apply O_y rfl rfl rfl | apply Q_y rfl rfl rfl); (first | exact q_A | exact R_loadi tabOk rfl rfl rfl rfl hw0 rfl rfl | exact q_B | (exact R_index (j := 0) tabOk rfl rfl rfl rfl rfl rfl h0))) | refine q_d ?_ | refine q_a ?_ | refine q_b ?_ | refine q_c ?_ | refine A_ct rfl ?_ | refine A_cf rfl ?_ | refine q_W ?_)
  refine A_loop (fun k : Nat => [(0, rtesA l), (1, .fn 28 []), (4, .ptr 4 0), (5, .ptr 5 0), (6, intA (k : Int))]) (fun k => [(4, rteB1 rte0), (5, rteB1 (minR r (t.take (k - 1))))]) (fun k => 1 ≤ k ∧ k ≤ l.length) (fun k => l.length - k) 1 ⟨Nat.le_refl _, h0⟩ (Wk_sel ⟨rfl, rfl, rfl, rfl, rfl, trivial⟩ ⟨rfl, rfl, trivial⟩) ?_
  rintro k ⟨hk1, hk2⟩
  dsimp only
  by_cases hlt : k < l.length
  · have hkt : k - 1 < t.length := by omega
    have hlk : l[k] = t[k - 1] := by
      subst hll
      obtain ⟨j, rfl⟩ : ∃ j, k = j + 1 := ⟨k - 1, by omega⟩
      rfl
    have hw := win_at l k hlt
    rw [hlk] at hw
    have hco := cost_A t[k - 1] (minR r (t.take (k - 1)))
    have hsn : minR r (t.take (k + 1 - 1)) = if t[k - 1].m < (minR r (t.take (k - 1))).m then t[k - 1] else minR r (t.take (k - 1)) := by
      rw [show k + 1 - 1 = k - 1 + 1 by omega, List.take_succ_eq_append_getElem hkt, minR_snoc]
    generalize minR r (t.take (k - 1)) = b at *
    by_cases hm : t[k - 1].m < b.m
    · rw [if_pos hm] at hsn
      have hc := c2_lt.2 hm
      repeat (first | refine q_Z ?_ | ((first | apply O_y rfl rfl rfl | apply Q_y rfl rfl rfl); (first | exact q_A | exact R_loadi tabOk rfl rfl rfl rfl hw rfl rfl | exact q_B)) | refine q_d ?_ | refine q_a ?_ | refine q_b ?_ | refine q_c ?_ | refine A_ct rfl ?_ | refine A_cf rfl ?_ | refine q_W ?_)
      refine N_begin [] mixed ?_
      repeat (first | ((first | apply q_M 0 rfl rfl (by kernel_rfl) (by decide +kernel) (by decide +kernel) rfl rfl rfl | apply q_M 1 rfl rfl (by kernel_rfl) (by decide +kernel) (by decide +kernel) rfl rfl rfl | apply q_M 2 rfl rfl (by kernel_rfl) (by decide +kernel) (by decide +kernel) rfl rfl rfl | apply q_M 3 rfl rfl (by kernel_rfl) (by decide +kernel) (by decide +kernel) rfl rfl rfl | apply q_M 4 rfl rfl (by kernel_rfl) (by decide +kernel) (by decide +kernel) rfl rfl rfl | apply q_M 5 rfl rfl (by kernel_rfl) (by decide +kernel) (by decide +kernel) rfl rfl rfl | apply q_M 6 rfl rfl (by kernel_rfl) (by decide +kernel) (by decide +kernel) rfl rfl rfl | apply q_M 7 rfl rfl (by kernel_rfl) (by decide +kernel) (by decide +kernel) rfl rfl rfl | apply q_M 8 rfl rfl (by kernel_rfl) (by decide +kernel) (by decide +kernel) rfl rfl rfl | apply q_M 9 rfl rfl (by kernel_rfl) (by decide +kernel) (by decide +kernel) rfl rfl rfl | apply q_M 10 rfl rfl (by kernel_rfl) (by decide +kernel) (by decide +kernel) rfl rfl rfl | apply q_M 11 rfl rfl (by kernel_rfl) (by decide +kernel) (by decide +kernel) rfl rfl rfl | apply q_M 12 rfl rfl (by kernel_rfl) (by decide +kernel) (by decide +kernel) rfl rfl rfl ); (first | exact q_A | exact R_loadi tabOk rfl rfl rfl rfl hw rfl rfl | exact q_B)) | (apply q_L 0 rfl rfl (by kernel_rfl) (by decide +kernel) (by decide +kernel) rfl rfl rfl; (first | exact R_loadi tabOk rfl rfl rfl rfl hw rfl rfl | exact q_6 | exact q_7 | exact q_15 | exact q_16 | exact q_19)) | (apply q_L 1 rfl rfl (by kernel_rfl) (by decide +kernel) (by decide +kernel) rfl rfl rfl; (first | exact R_loadi tabOk rfl rfl rfl rfl hw rfl rfl | exact q_6 | exact q_7 | exact q_15 | exact q_16 | exact q_19)) | (apply q_L 2 rfl rfl (by kernel_rfl) (by decide +kernel) (by decide +kernel) rfl rfl rfl; (first | exact R_loadi tabOk rfl rfl rfl rfl hw rfl rfl | exact q_6 | exact q_7 | exact q_15 | exact q_16 | exact q_19)) | (apply q_L 3 rfl rfl (by kernel_rfl) (by decide +kernel) (by decide +kernel) rfl rfl rfl; (first | exact R_loadi tabOk rfl rfl rfl rfl hw rfl rfl | exact q_6 | exact q_7 | exact q_15 | exact q_16 | exact q_19)) | (apply q_L 4 rfl rfl (by kernel_rfl) (by decide +kernel) (by decide +kernel) rfl rfl rfl; (first | exact R_loadi tabOk rfl rfl rfl rfl hw rfl rfl | exact q_6 | exact q_7 | exact q_15 | exact q_16 | exact q_19)) | (apply q_L 5 rfl rfl (by kernel_rfl) (by decide +kernel) (by decide +kernel) rfl rfl rfl; (first | exact R_loadi tabOk rfl rfl rfl rfl hw rfl rfl | exact q_6 | exact q_7 | exact q_15 | exact q_16 | exact q_19)) | (apply q_L 6 rfl rfl (by kernel_rfl) (by decide +kernel) (by decide +kernel) rfl rfl rfl; (first | exact R_loadi tabOk rfl rfl rfl rfl hw rfl rfl | exact q_6 | exact q_7 | exact q_15 | exact q_16 | exact q_19)) | (apply q_L 7 rfl rfl (by kernel_rfl) (by decide +kernel) (by decide +kernel) rfl rfl rfl; (first | exact R_loadi tabOk rfl rfl rfl rfl hw rfl rfl | exact q_6 | exact q_7 | exact q_15 | exact q_16 | exact q_19)) | (apply q_L 8 rfl rfl (by kernel_rfl) (by decide +kernel) (by decide +kernel) rfl rfl rfl; (first | exact R_loadi tabOk rfl rfl rfl rfl hw rfl rfl | exact q_6 | exact q_7 | exact q_15 | exact q_16 | exact q_19)) | (apply q_L 9 rfl rfl (by kernel_rfl) (by decide +kernel) (by decide +kernel) rfl rfl rfl; (first | exact R_loadi tabOk rfl rfl rfl rfl hw rfl rfl | exact q_6 | exact q_7 | exact q_15 | exact q_16 | exact q_19)) | (apply q_L 10 rfl rfl (by kernel_rfl) (by decide +kernel) (by decide +kernel) rfl rfl rfl; (first | exact R_loadi tabOk rfl rfl rfl rfl hw rfl rfl | exact q_6 | exact q_7 | exact q_15 | exact q_16 | exact q_19)) | (apply q_L 11 rfl rfl (by kernel_rfl) (by decide +kernel) (by decide +kernel) rfl rfl rfl; (first | exact R_loadi tabOk rfl rfl rfl rfl hw rfl rfl | exact q_6 | exact q_7 | exact q_15 | exact q_16 | exact q_19)) | (apply q_L 12 rfl rfl (by kernel_rfl) (by decide +kernel) (by decide +kernel) rfl rfl rfl; (first | exact R_loadi tabOk rfl rfl rfl rfl hw rfl rfl | exact q_6 | exact q_7 | exact q_15 | exact q_16 | exact q_19)) | refine N_one (j := 0) (by decide +kernel) ?_ | refine N_one (j := 1) (by decide +kernel) ?_ | refine N_one (j := 2) (by decide +kernel) ?_ | refine N_one (j := 3) (by decide +kernel) ?_ | refine N_one (j := 4) (by decide +kernel) ?_ | refine N_one (j := 5) (by decide +kernel) ?_ | refine N_one (j := 6) (by decide +kernel) ?_ | refine N_one (j := 7) (by decide +kernel) ?_ | refine N_one (j := 8) (by decide +kernel) ?_ | refine N_one (j := 9) (by decide +kernel) ?_ | refine N_one (j := 10) (by decide +kernel) ?_ | refine N_one (j := 11) (by decide +kernel) ?_ | refine N_one (j := 12) (by decide +kernel) ?_ | refine T_alloc tabOk rfl rfl rfl rfl rfl rfl rfl ?_ | refine T_store tabOk rfl rfl rfl rfl rfl rfl rfl rfl rfl rfl rfl rfl rfl ?_ | refine T_box rfl rfl rfl rfl rfl rfl rfl rfl ?_ | (apply T_yield rfl rfl rfl rfl; (first | exact q_A | exact R_loadi tabOk rfl rfl rfl rfl hw rfl rfl | exact q_B)) | refine N_done (by decide +kernel) ?_ | (refine T_cF rfl rfl rfl rfl rfl rfl rfl hco (fun _ => rfl) ?_))
      repeat (first | refine q_Z ?_ | ((first | apply O_y rfl rfl rfl | apply Q_y rfl rfl rfl); (first | exact q_A | exact R_loadi tabOk rfl rfl rfl rfl hw rfl rfl | exact q_B)) | refine q_d ?_ | refine q_a ?_ | refine q_b ?_ | refine q_c ?_ | refine A_ct rfl ?_ | refine A_cf rfl ?_ | refine q_W ?_)
      exact ⟨k + 1, ⟨by omega, by omega⟩, by omega, Wk_sel ⟨rfl, rfl, rfl, rfl, rfl, trivial⟩ ⟨rfl, by rw [hsn]; rfl, trivial⟩⟩
    · rw [if_neg hm] at hsn
      have hc : ¬ c2 t[k - 1].m b.m < 0 := fun h => hm (c2_lt.1 h)
      repeat (first | refine q_Z ?_ | ((first | apply O_y rfl rfl rfl | apply Q_y rfl rfl rfl); (first | exact q_A | exact R_loadi tabOk rfl rfl rfl rfl hw rfl rfl | exact q_B)) | refine q_d ?_ | refine q_a ?_ | refine q_b ?_ | refine q_c ?_ | refine A_ct rfl ?_ | refine A_cf rfl ?_ | refine q_W ?_)
      refine N_begin [] mixed ?_
      repeat (first | ((first | apply q_M 0 rfl rfl (by kernel_rfl) (by decide +kernel) (by decide +kernel) rfl rfl rfl | apply q_M 1 rfl rfl (by kernel_rfl) (by decide +kernel) (by decide +kernel) rfl rfl rfl | apply q_M 2 rfl rfl (by kernel_rfl) (by decide +kernel) (by decide +kernel) rfl rfl rfl | apply q_M 3 rfl rfl (by kernel_rfl) (by decide +kernel) (by decide +kernel) rfl rfl rfl | apply q_M 4 rfl rfl (by kernel_rfl) (by decide +kernel) (by decide +kernel) rfl rfl rfl | apply q_M 5 rfl rfl (by kernel_rfl) (by decide +kernel) (by decide +kernel) rfl rfl rfl | apply q_M 6 rfl rfl (by kernel_rfl) (by decide +kernel) (by decide +kernel) rfl rfl rfl | apply q_M 7 rfl rfl (by kernel_rfl) (by decide +kernel) (by decide +kernel) rfl rfl rfl | apply q_M 8 rfl rfl (by kernel_rfl) (by decide +kernel) (by decide +kernel) rfl rfl rfl | apply q_M 9 rfl rfl (by kernel_rfl) (by decide +kernel) (by decide +kernel) rfl rfl rfl | apply q_M 10 rfl rfl (by kernel_rfl) (by decide +kernel) (by decide +kernel) rfl rfl rfl | apply q_M 11 rfl rfl (by kernel_rfl) (by decide +kernel) (by decide +kernel) rfl rfl rfl | apply q_M 12 rfl rfl (by kernel_rfl) (by decide +kernel) (by decide +kernel) rfl rfl rfl ); (first | exact q_A | exact R_loadi tabOk rfl rfl rfl rfl hw rfl rfl | exact q_B)) | (apply q_L 0 rfl rfl (by kernel_rfl) (by decide +kernel) (by decide +kernel) rfl rfl rfl; (first | exact R_loadi tabOk rfl rfl rfl rfl hw rfl rfl | exact q_6 | exact q_7 | exact q_15 | exact q_16 | exact q_19)) | (apply q_L 1 rfl rfl (by kernel_rfl) (by decide +kernel) (by decide +kernel) rfl rfl rfl; (first | exact R_loadi tabOk rfl rfl rfl rfl hw rfl rfl | exact q_6 | exact q_7 | exact q_15 | exact q_16 | exact q_19)) | (apply q_L 2 rfl rfl (by kernel_rfl) (by decide +kernel) (by decide +kernel) rfl rfl rfl; (first | exact R_loadi tabOk rfl rfl rfl rfl hw rfl rfl | exact q_6 | exact q_7 | exact q_15 | exact q_16 | exact q_19)) | (apply q_L 3 rfl rfl (by kernel_rfl) (by decide +kernel) (by decide +kernel) rfl rfl rfl; (first | exact R_loadi tabOk rfl rfl rfl rfl hw rfl rfl | exact q_6 | exact q_7 | exact q_15 | exact q_16 | exact q_19)) | (apply q_L 4 rfl rfl (by kernel_rfl) (by decide +kernel) (by decide +kernel) rfl rfl rfl; (first | exact R_loadi tabOk rfl rfl rfl rfl hw rfl rfl | exact q_6 | exact q_7 | exact q_15 | exact q_16 | exact q_19)) | (apply q_L 5 rfl rfl (by kernel_rfl) (by decide +kernel) (by decide +kernel) rfl rfl rfl; (first | exact R_loadi tabOk rfl rfl rfl rfl hw rfl rfl | exact q_6 | exact q_7 | exact q_15 | exact q_16 | exact q_19)) | (apply q_L 6 rfl rfl (by kernel_rfl) (by decide +kernel) (by decide +kernel) rfl rfl rfl; (first | exact R_loadi tabOk rfl rfl rfl rfl hw rfl rfl | exact q_6 | exact q_7 | exact q_15 | exact q_16 | exact q_19)) | (apply q_L 7 rfl rfl (by kernel_rfl) (by decide +kernel) (by decide +kernel) rfl rfl rfl; (first | exact R_loadi tabOk rfl rfl rfl rfl hw rfl rfl | exact q_6 | exact q_7 | exact q_15 | exact q_16 | exact q_19)) | (apply q_L 8 rfl rfl (by kernel_rfl) (by decide +kernel) (by decide +kernel) rfl rfl rfl; (first | exact R_loadi tabOk rfl rfl rfl rfl hw rfl rfl | exact q_6 | exact q_7 | exact q_15 | exact q_16 | exact q_19)) | (apply q_L 9 rfl rfl (by kernel_rfl) (by decide +kernel) (by decide +kernel) rfl rfl rfl; (first | exact R_loadi tabOk rfl rfl rfl rfl hw rfl rfl | exact q_6 | exact q_7 | exact q_15 | exact q_16 | exact q_19)) | (apply q_L 10 rfl rfl (by kernel_rfl) (by decide +kernel) (by decide +kernel) rfl rfl rfl; (first | exact R_loadi tabOk rfl rfl rfl rfl hw rfl rfl | exact q_6 | exact q_7 | exact q_15 | exact q_16 | exact q_19)) | (apply q_L 11 rfl rfl (by kernel_rfl) (by decide +kernel) (by decide +kernel) rfl rfl rfl; (first | exact R_loadi tabOk rfl rfl rfl rfl hw rfl rfl | exact q_6 | exact q_7 | exact q_15 | exact q_16 | exact q_19)) | (apply q_L 12 rfl rfl (by kernel_rfl) (by decide +kernel) (by decide +kernel) rfl rfl rfl; (first | exact R_loadi tabOk rfl rfl rfl rfl hw rfl rfl | exact q_6 | exact q_7 | exact q_15 | exact q_16 | exact q_19)) | refine N_one (j := 0) (by decide +kernel) ?_ | refine N_one (j := 1) (by decide +kernel) ?_ | refine N_one (j := 2) (by decide +kernel) ?_ | refine N_one (j := 3) (by decide +kernel) ?_ | refine N_one (j := 4) (by decide +kernel) ?_ | refine N_one (j := 5) (by decide +kernel) ?_ | refine N_one (j := 6) (by decide +kernel) ?_ | refine N_one (j := 7) (by decide +kernel) ?_ | refine N_one (j := 8) (by decide +kernel) ?_ | refine N_one (j := 9) (by decide +kernel) ?_ | refine N_one (j := 10) (by decide +kernel) ?_ | refine N_one (j := 11) (by decide +kernel) ?_ | refine N_one (j := 12) (by decide +kernel) ?_ | refine T_alloc tabOk rfl rfl rfl rfl rfl rfl rfl ?_ | refine T_store tabOk rfl rfl rfl rfl rfl rfl rfl rfl rfl rfl rfl rfl rfl ?_ | refine T_box rfl rfl rfl rfl rfl rfl rfl rfl ?_ | (apply T_yield rfl rfl rfl rfl; (first | exact q_A | exact R_loadi tabOk rfl rfl rfl rfl hw rfl rfl | exact q_B)) | refine N_done (by decide +kernel) ?_ | (refine T_cF rfl rfl rfl rfl rfl rfl rfl hco (fun _ => rfl) ?_))
      repeat (first | refine q_Z ?_ | ((first | apply O_y rfl rfl rfl | apply Q_y rfl rfl rfl); (first | exact q_A | exact R_loadi tabOk rfl rfl rfl rfl hw rfl rfl | exact q_B)) | refine q_d ?_ | refine q_a ?_ | refine q_b ?_ | refine q_c ?_ | refine A_ct rfl ?_ | refine A_cf rfl ?_ | refine q_W ?_)
      exact ⟨k + 1, ⟨by omega, by omega⟩, by omega, Wk_sel ⟨rfl, rfl, rfl, rfl, rfl, trivial⟩ ⟨rfl, by rw [hsn]; rfl, trivial⟩⟩
  · have hkk : k = l.length := by omega
    rw [show t.take (k - 1) = t by rw [List.take_of_length_le]; omega]
    repeat (first | refine q_Z ?_ | ((first | apply O_y rfl rfl rfl | apply Q_y rfl rfl rfl); (first | exact q_A | exact q_5 | exact q_B)) | refine q_d ?_ | refine q_a ?_ | refine q_b ?_ | refine q_c ?_ | refine A_ct rfl ?_ | refine A_cf rfl ?_ | refine q_W ?_)
    exact X_ret rfl ⟨rfl, rfl⟩
end Go.Proofs.YtpnhkkejcnicoaaGreat.Ab

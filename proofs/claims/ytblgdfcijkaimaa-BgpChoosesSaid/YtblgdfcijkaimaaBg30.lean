/-
  Texts of a proof, one behind the other (part 31).
-/
import Derived.Test.YtblgdfcijkaimaaBg11
import Derived.Test.YtblgdfcijkaimaaBg13
import Derived.Test.YtblgdfcijkaimaaBg29
set_option linter.unusedVariables false
set_option linter.unusedSimpArgs false
namespace Go.Proofs.Ytblgdfcijkaimaa.Ab
set_option linter.unusedVariables false
set_option maxRecDepth 100000
open Go.RowKit Go.Lib
section
variable {P : Program} {nt : Nat} {Q : Post} {e : Env} {h : Heap} {ops : Array Oper} {o : Oper} {rest : List Oper} {T : List Nat} {tab : TTab}
theorem O_cC {α : Type} {Φ : α → Prop} {C : α → AVal} {f : FuncId} {args : Array Operand} {ats : Array TypeId} {cs : List AVal} {d : Nat} (H : ACall P f cs [] (fun c' h' => ∃ x, Φ x ∧ c' = C x ∧ h' = [])) (hcc : ∀ x j, (C x).has j = false)
    (hw : awant ops e o = some true) (hdst : o.dst = some d) (hd : Nat.blt d nt = true) (ho : o.op = .call { callee := .value (.func f), args := args, argTypes := ats }) (hx : aevs e args.toList = some cs)
    (HK : ∀ x, Φ x → AOps P nt ops Q rest ((d, C x) :: e) h) : AOps P nt ops Q (o :: rest) e h :=
  O_eff (T := []) hw (E_callR (d := some d) (Rc := fun c => ∃ x, Φ x ∧ c = C x) ho hdst hx (H.mono fun c h ⟨x, h1, h2, h3⟩ => ⟨⟨x, h1, h2⟩, h3⟩) hd fun c j ⟨x, _, hc⟩ => by rw [hc]; exact hcc x j) fun e' h' ⟨c, ⟨x, h1, h2⟩, h3, h4⟩ => by subst h2 h3 h4; exact HK x h1
end
set_option linter.unusedSimpArgs false
attribute [local irreducible] AWp AOps AQ AYield AEff ACall AWk AAny AAt AThen AIn APost NoPanic
structure RSt where
  i : Nat
  out : List Adv
structure RInv (r : List Rte) (l : List Adv) (s : RSt) : Prop where
  il : s.i ≤ l.length
  br : BestR (useL r l) (useL r (l.take s.i)) s.out
  ol : s.out.length ≤ s.i
def RefQ (r : List Rte) (l : List Adv) (c : AVal) (h : Heap) : Prop := ∃ out, BestOk (useL r l) out ∧ c = advsA out ∧ h = []
set_option maxHeartbeats 32000000 in
theorem refBest_A (l : List Adv) (r : List Rte) (hl : ∀ x ∈ l, x.ok) (hr : ∀ x ∈ r, x.p.ok) (hn : l.length ≤ 100) (hm : r.length ≤ 1000000) : ACall Try.prog 10 [advsA l, rtesA r] [] (RefQ r l) := by
  refine ACall_of tabOk Try.func10 rfl Try.ntmps10 (congrArg Array.toList Try.results10) (by kernel_rfl) rfl ?_
  repeat (first | refine q_Z ?_ | refine R_quiet rfl mixed (by kernel_rfl) ?_ | ((first | apply O_y rfl rfl rfl | apply Q_y rfl rfl rfl); (first | exact q_A | exact q_5 | exact q_B)) | refine q_d ?_ | refine q_a ?_ | refine q_b ?_ | refine q_c ?_ | refine A_ct rfl ?_ | refine A_cf rfl ?_ | refine q_W ?_)
  refine A_weaken (Wk_see (t := 5) rfl see_nil) ?_
  refine A_loop (fun s : RSt => [(0, advsA l), (1, rtesA r), (5, advsA s.out), (6, intA (s.i : Int))]) (fun _ => []) (RInv r l) (fun s => l.length - s.i) ⟨0, []⟩ ⟨Nat.zero_le _, BestR.nil _, Nat.le_refl _⟩ (Wk_sel ⟨rfl, rfl, rfl, rfl, trivial⟩ trivial) ?_
  rintro ⟨i, out⟩ hI
  have hil := hI.il
  have hol := hI.ol
  have hbr := hI.br
  dsimp only at hil hol hbr
  try dsimp only
  by_cases hi : i < l.length
  · have hu := refUse_A l[i] (hl _ (List.getElem_mem hi)) r hr hm
    rw [use_eq] at hu
    have hut := useL_take r l i hi
    obtain ⟨c0, ok, huo⟩ : ∃ c o, useP l[i] r = (c, o) := ⟨_, _, rfl⟩
    rw [huo] at hu hut
    dsimp only at hut
    have skip : ∀ (hx : (useL r (l.take (i + 1)) = useL r (l.take i)) ∨ (ok = true ∧ ((∃ a ∈ out, a.p = l[i].p) ∨ ¬ Mn (useL r l) (l[i], c0)))), RInv r l ⟨i + 1, out⟩ := fun hx => by
      refine ⟨hi, ?_, Nat.le_succ_of_le hol⟩
      rcases hx with hx | ⟨hok, hx⟩
      · dsimp only; rw [hx]; exact hbr
      · subst hok
        dsimp only; rw [hut, if_pos rfl]
        exact hbr.skip (useL_split r l i hi huo) hx
    cases ok with
    | false =>
      rw [if_neg (by simp), List.append_nil] at hut
      repeat (first | refine q_Z ?_ | refine R_quiet rfl mixed (by kernel_rfl) ?_ | ((first | apply O_y rfl rfl rfl | apply Q_y rfl rfl rfl); (first | exact q_A | exact R_loadi tabOk rfl rfl rfl rfl (by first | exact win_flat0 advD_len l i _ hi (by decide) | exact win_flat advD_len l i _ _ hi (by decide) | exact win_flat2 advD_len l i _ _ _ hi (by decide) | rfl) rfl rfl | exact q_B | (first | exact q_25 | exact q_26 | exact q_20))) | refine q_d ?_ | refine q_a ?_ | refine q_b ?_ | refine q_c ?_ | refine A_ct rfl ?_ | refine A_cf rfl ?_ | refine q_W ?_ | (first | refine O_c rfl rfl rfl rfl rfl hu (fun _ => rfl) ?_ | refine Q_c rfl rfl rfl rfl rfl hu rfl (fun _ _ _ => val_mk _ _ _ _ _ rfl rfl) ?_))
      refine A_loop (fun _ : Unit => [(0, advsA l), (1, rtesA r), (5, advsA out), (6, intA (i : Int)), (9, boolA false), (10, intA 0)]) (fun _ => []) (fun _ => True) (fun _ => 0) () trivial (Wk_sel ⟨rfl, rfl, rfl, rfl, rfl, rfl, trivial⟩ trivial) ?_
      intro _ _
      try dsimp only
      repeat (first | refine q_Z ?_ | refine R_quiet rfl mixed (by kernel_rfl) ?_ | ((first | apply O_y rfl rfl rfl | apply Q_y rfl rfl rfl); (first | exact q_A | exact q_5 | exact q_B | (first | exact q_25 | exact q_26 | exact q_20))) | refine q_d ?_ | refine q_a ?_ | refine q_b ?_ | refine q_c ?_ | refine A_ct rfl ?_ | refine A_cf rfl ?_ | refine q_W ?_)
      exact ⟨⟨i + 1, out⟩, skip (.inl hut), by dsimp only; omega, Wk_sel ⟨rfl, rfl, rfl, rfl, trivial⟩ trivial⟩
    | true =>
      rw [if_pos rfl] at hut
      have hfi := bgFind_A out l[i].p (by omega)
      obtain ⟨hf1, hf2, hf3⟩ := findI_neg l[i].p out 0
      obtain ⟨z, hz⟩ : ∃ z, findI l[i].p out 0 = z := ⟨_, rfl⟩
      rw [hz] at hfi hf1 hf2 hf3
      by_cases hz0 : z < 0
      rotate_left
      · have hex : ∃ a ∈ out, a.p = l[i].p := by
          have h1 : ¬ ∀ y ∈ out, y.p ≠ l[i].p := fun h => hz0 (hf1.2 h)
          simp only [Classical.not_forall] at h1
          obtain ⟨a, h2, h3⟩ := h1
          exact ⟨a, h2, Classical.not_not.1 h3⟩
        repeat (first | refine q_Z ?_ | refine R_quiet rfl mixed (by kernel_rfl) ?_ | ((first | apply O_y rfl rfl rfl | apply Q_y rfl rfl rfl); (first | exact q_A | exact R_loadi tabOk rfl rfl rfl rfl (by first | exact win_flat0 advD_len l i _ hi (by decide) | exact win_flat advD_len l i _ _ hi (by decide) | exact win_flat2 advD_len l i _ _ _ hi (by decide) | rfl) rfl rfl | exact q_B | (first | exact q_25 | exact q_26 | exact q_20))) | refine q_d ?_ | refine q_a ?_ | refine q_b ?_ | refine q_c ?_ | refine A_ct rfl ?_ | refine A_cf rfl ?_ | refine q_W ?_ | (first | refine O_c rfl rfl rfl rfl rfl hu (fun _ => rfl) ?_ | refine Q_c rfl rfl rfl rfl rfl hu rfl (fun _ _ _ => val_mk _ _ _ _ _ rfl rfl) ?_ | refine O_c rfl rfl rfl rfl rfl hfi (fun _ => rfl) ?_ | refine Q_c rfl rfl rfl rfl rfl hfi rfl (fun _ _ _ => val_mk _ _ _ _ _ rfl rfl) ?_))
        refine A_loop (fun _ : Unit => [(0, advsA l), (1, rtesA r), (5, advsA out), (6, intA (i : Int)), (9, boolA false), (10, intA 0)]) (fun _ => []) (fun _ => True) (fun _ => 0) () trivial (Wk_sel ⟨rfl, rfl, rfl, rfl, rfl, rfl, trivial⟩ trivial) ?_
        intro _ _
        try dsimp only
        repeat (first | refine q_Z ?_ | refine R_quiet rfl mixed (by kernel_rfl) ?_ | ((first | apply O_y rfl rfl rfl | apply Q_y rfl rfl rfl); (first | exact q_A | exact q_5 | exact q_B | (first | exact q_25 | exact q_26 | exact q_20))) | refine q_d ?_ | refine q_a ?_ | refine q_b ?_ | refine q_c ?_ | refine A_ct rfl ?_ | refine A_cf rfl ?_ | refine q_W ?_)
        exact ⟨⟨i + 1, out⟩, skip (.inr ⟨rfl, .inl hex⟩), by dsimp only; omega, Wk_sel ⟨rfl, rfl, rfl, rfl, trivial⟩ trivial⟩
      have hno := hf1.1 hz0
      have hmn := Mn_iff (r := r) (l := l) (x := l[i]) (c := c0)
      repeat (first | refine q_Z ?_ | refine R_quiet rfl mixed (by kernel_rfl) ?_ | ((first | apply O_y rfl rfl rfl | apply Q_y rfl rfl rfl); (first | exact q_A | exact R_loadi tabOk rfl rfl rfl rfl (by first | exact win_flat0 advD_len l i _ hi (by decide) | exact win_flat advD_len l i _ _ hi (by decide) | exact win_flat2 advD_len l i _ _ _ hi (by decide) | rfl) rfl rfl | exact q_B | (first | exact q_25 | exact q_26 | exact q_20))) | refine q_d ?_ | refine q_a ?_ | refine q_b ?_ | refine q_c ?_ | refine A_ct rfl ?_ | refine A_cf rfl ?_ | refine q_W ?_ | (first | refine O_c rfl rfl rfl rfl rfl hu (fun _ => rfl) ?_ | refine Q_c rfl rfl rfl rfl rfl hu rfl (fun _ _ _ => val_mk _ _ _ _ _ rfl rfl) ?_ | refine O_c rfl rfl rfl rfl rfl hfi (fun _ => rfl) ?_ | refine Q_c rfl rfl rfl rfl rfl hfi rfl (fun _ _ _ => val_mk _ _ _ _ _ rfl rfl) ?_))
      refine A_loop (fun k : Nat => [(0, advsA l), (1, rtesA r), (5, advsA out), (6, intA (i : Int)), (7, intA c0), (9, boolA ((l.take k).all fun y => !badB r l[i] c0 y)), (10, intA (k : Int))]) (fun _ => []) (fun k => k ≤ l.length) (fun k => l.length - k) 0 (Nat.zero_le _) (Wk_sel ⟨rfl, rfl, rfl, rfl, rfl, rfl, rfl, trivial⟩ trivial) ?_
      intro k hkl
      try dsimp only
      by_cases hb : ((l.take k).all fun y => !badB r l[i] c0 y) = true
      rotate_left
      · have hb0 : ((l.take k).all fun y => !badB r l[i] c0 y) = false := by simpa using hb
        have hnm : ¬ Mn (useL r l) (l[i], c0) := fun h => by
          rw [hmn] at h
          refine hb ?_
          rw [List.all_eq_true] at h ⊢
          exact fun y hy => h y (List.mem_of_mem_take hy)
        rw [hb0]
        by_cases hk : k < l.length
        ·
          repeat (first | refine q_Z ?_ | refine R_quiet rfl mixed (by kernel_rfl) ?_ | ((first | apply O_y rfl rfl rfl | apply Q_y rfl rfl rfl); (first | exact q_A | exact q_5 | exact q_B | (first | exact q_25 | exact q_26 | exact q_20))) | refine q_d ?_ | refine q_a ?_ | refine q_b ?_ | refine q_c ?_ | refine A_ct rfl ?_ | refine A_cf rfl ?_ | refine q_W ?_)
          exact ⟨⟨i + 1, out⟩, skip (.inr ⟨rfl, .inr hnm⟩), by dsimp only; omega, Wk_sel ⟨rfl, rfl, rfl, rfl, trivial⟩ trivial⟩
        ·
          repeat (first | refine q_Z ?_ | refine R_quiet rfl mixed (by kernel_rfl) ?_ | ((first | apply O_y rfl rfl rfl | apply Q_y rfl rfl rfl); (first | exact q_A | exact q_5 | exact q_B | (first | exact q_25 | exact q_26 | exact q_20))) | refine q_d ?_ | refine q_a ?_ | refine q_b ?_ | refine q_c ?_ | refine A_ct rfl ?_ | refine A_cf rfl ?_ | refine q_W ?_)
          exact ⟨⟨i + 1, out⟩, skip (.inr ⟨rfl, .inr hnm⟩), by dsimp only; omega, Wk_sel ⟨rfl, rfl, rfl, rfl, trivial⟩ trivial⟩
      rw [hb]
      by_cases hk : k < l.length
      · have hst : ((l.take (k + 1)).all fun y => !badB r l[i] c0 y) = !badB r l[i] c0 l[k] := by
          rw [List.take_succ_eq_append_getElem hk, List.all_append, hb]; simp
        have hv := refUse_A l[k] (hl _ (List.getElem_mem hk)) r hr hm
        rw [use_eq] at hv
        obtain ⟨d0, od, hdo⟩ : ∃ c o, useP l[k] r = (c, o) := ⟨_, _, rfl⟩
        rw [hdo] at hv
        have hsm := bgSame_A l[k].p l[i].p
        have hbt := refBetter_A l[k] l[i] d0 c0
        cases od with
        | false =>
          rw [show badB r l[i] c0 l[k] = false by unfold badB; rw [hdo]; rfl] at hst
          repeat (first | refine q_Z ?_ | refine R_quiet rfl mixed (by kernel_rfl) ?_ | ((first | apply O_y rfl rfl rfl | apply Q_y rfl rfl rfl); (first | exact q_A | exact R_loadi tabOk rfl rfl rfl rfl (by first | exact win_flat0 advD_len l k _ hk (by decide) | exact win_flat advD_len l k _ _ hk (by decide) | exact win_flat0 advD_len l i _ hi (by decide) | exact win_flat advD_len l i _ _ hi (by decide) | rfl) rfl rfl | exact q_B | (first | exact q_25 | exact q_26 | exact q_20))) | refine q_d ?_ | refine q_a ?_ | refine q_b ?_ | refine q_c ?_ | refine A_ct rfl ?_ | refine A_cf rfl ?_ | refine q_W ?_ | (first | refine O_c rfl rfl rfl rfl rfl hv (fun _ => rfl) ?_ | refine Q_c rfl rfl rfl rfl rfl hv rfl (fun _ _ _ => val_mk _ _ _ _ _ rfl rfl) ?_))
          exact ⟨k + 1, by omega, by omega, by rw [hst]; exact Wk_sel ⟨rfl, rfl, rfl, rfl, rfl, rfl, rfl, trivial⟩ trivial⟩
        | true =>
          by_cases hsp : l[k].p = l[i].p
          rotate_left
          · rw [decide_eq_false hsp] at hsm
            rw [show badB r l[i] c0 l[k] = false by unfold badB; rw [decide_eq_false hsp]; simp] at hst
            repeat (first | refine q_Z ?_ | refine R_quiet rfl mixed (by kernel_rfl) ?_ | ((first | apply O_y rfl rfl rfl | apply Q_y rfl rfl rfl); (first | exact q_A | exact R_loadi tabOk rfl rfl rfl rfl (by first | exact win_flat0 advD_len l k _ hk (by decide) | exact win_flat advD_len l k _ _ hk (by decide) | exact win_flat0 advD_len l i _ hi (by decide) | exact win_flat advD_len l i _ _ hi (by decide) | rfl) rfl rfl | exact q_B | (first | exact q_25 | exact q_26 | exact q_20))) | refine q_d ?_ | refine q_a ?_ | refine q_b ?_ | refine q_c ?_ | refine A_ct rfl ?_ | refine A_cf rfl ?_ | refine q_W ?_ | (first | refine O_c rfl rfl rfl rfl rfl hv (fun _ => rfl) ?_ | refine Q_c rfl rfl rfl rfl rfl hv rfl (fun _ _ _ => val_mk _ _ _ _ _ rfl rfl) ?_ | refine O_c rfl rfl rfl rfl rfl hsm (fun _ => rfl) ?_ | refine Q_c rfl rfl rfl rfl rfl hsm rfl (fun _ _ _ => val_mk _ _ _ _ _ rfl rfl) ?_))
            exact ⟨k + 1, by omega, by omega, by rw [hst]; exact Wk_sel ⟨rfl, rfl, rfl, rfl, rfl, rfl, rfl, trivial⟩ trivial⟩
          rw [decide_eq_true hsp] at hsm
          cases hbb : betR l[k] l[i] d0 c0 with
          | false =>
            rw [hbb] at hbt
            rw [show badB r l[i] c0 l[k] = false by unfold badB; rw [hdo, hbb]; simp] at hst
            repeat (first | refine q_Z ?_ | refine R_quiet rfl mixed (by kernel_rfl) ?_ | ((first | apply O_y rfl rfl rfl | apply Q_y rfl rfl rfl); (first | exact q_A | exact R_loadi tabOk rfl rfl rfl rfl (by first | exact win_flat0 advD_len l k _ hk (by decide) | exact win_flat advD_len l k _ _ hk (by decide) | exact win_flat0 advD_len l i _ hi (by decide) | exact win_flat advD_len l i _ _ hi (by decide) | rfl) rfl rfl | exact q_B | (first | exact q_25 | exact q_26 | exact q_20))) | refine q_d ?_ | refine q_a ?_ | refine q_b ?_ | refine q_c ?_ | refine A_ct rfl ?_ | refine A_cf rfl ?_ | refine q_W ?_ | (first | refine O_c rfl rfl rfl rfl rfl hv (fun _ => rfl) ?_ | refine Q_c rfl rfl rfl rfl rfl hv rfl (fun _ _ _ => val_mk _ _ _ _ _ rfl rfl) ?_ | refine O_c rfl rfl rfl rfl rfl hsm (fun _ => rfl) ?_ | refine Q_c rfl rfl rfl rfl rfl hsm rfl (fun _ _ _ => val_mk _ _ _ _ _ rfl rfl) ?_ | refine O_c rfl rfl rfl rfl rfl hbt (fun _ => rfl) ?_ | refine Q_c rfl rfl rfl rfl rfl hbt rfl (fun _ _ _ => val_mk _ _ _ _ _ rfl rfl) ?_))
            exact ⟨k + 1, by omega, by omega, by rw [hst]; exact Wk_sel ⟨rfl, rfl, rfl, rfl, rfl, rfl, rfl, trivial⟩ trivial⟩
          | true =>
            rw [hbb] at hbt
            rw [show badB r l[i] c0 l[k] = true by unfold badB; rw [hdo, hbb, decide_eq_true hsp]; rfl] at hst
            repeat (first | refine q_Z ?_ | refine R_quiet rfl mixed (by kernel_rfl) ?_ | ((first | apply O_y rfl rfl rfl | apply Q_y rfl rfl rfl); (first | exact q_A | exact R_loadi tabOk rfl rfl rfl rfl (by first | exact win_flat0 advD_len l k _ hk (by decide) | exact win_flat advD_len l k _ _ hk (by decide) | exact win_flat0 advD_len l i _ hi (by decide) | exact win_flat advD_len l i _ _ hi (by decide) | rfl) rfl rfl | exact q_B | (first | exact q_25 | exact q_26 | exact q_20))) | refine q_d ?_ | refine q_a ?_ | refine q_b ?_ | refine q_c ?_ | refine A_ct rfl ?_ | refine A_cf rfl ?_ | refine q_W ?_ | (first | refine O_c rfl rfl rfl rfl rfl hv (fun _ => rfl) ?_ | refine Q_c rfl rfl rfl rfl rfl hv rfl (fun _ _ _ => val_mk _ _ _ _ _ rfl rfl) ?_ | refine O_c rfl rfl rfl rfl rfl hsm (fun _ => rfl) ?_ | refine Q_c rfl rfl rfl rfl rfl hsm rfl (fun _ _ _ => val_mk _ _ _ _ _ rfl rfl) ?_ | refine O_c rfl rfl rfl rfl rfl hbt (fun _ => rfl) ?_ | refine Q_c rfl rfl rfl rfl rfl hbt rfl (fun _ _ _ => val_mk _ _ _ _ _ rfl rfl) ?_))
            exact ⟨k + 1, by omega, by omega, by rw [hst]; exact Wk_sel ⟨rfl, rfl, rfl, rfl, rfl, rfl, rfl, trivial⟩ trivial⟩
      · obtain rfl : k = l.length := by omega
        rw [List.take_length] at hb
        have hM := hmn.2 hb
        have hpt := bgPut_A out l[i] (by omega)
        repeat (first | refine q_Z ?_ | refine R_quiet rfl mixed (by kernel_rfl) ?_ | ((first | apply O_y rfl rfl rfl | apply Q_y rfl rfl rfl); (first | exact q_A | exact R_loadi tabOk rfl rfl rfl rfl (by first | exact win_flat0 advD_len l i _ hi (by decide) | exact win_flat advD_len l i _ _ hi (by decide) | exact win_flat2 advD_len l i _ _ _ hi (by decide) | rfl) rfl rfl | exact q_B | (first | exact q_25 | exact q_26 | exact q_20))) | refine q_d ?_ | refine q_a ?_ | refine q_b ?_ | refine q_c ?_ | refine A_ct rfl ?_ | refine A_cf rfl ?_ | refine q_W ?_)
        refine O_cC (C := fun k => advsA (out.take k ++ [l[i]] ++ out.drop k)) hpt (fun _ _ => rfl) rfl rfl rfl rfl rfl fun k hk3 => ?_
        obtain ⟨g1, g2, g3⟩ := hk3
        repeat (first | refine q_Z ?_ | refine R_quiet rfl mixed (by kernel_rfl) ?_ | ((first | apply O_y rfl rfl rfl | apply Q_y rfl rfl rfl); (first | exact q_A | exact q_5 | exact q_B | (first | exact q_25 | exact q_26 | exact q_20))) | refine q_d ?_ | refine q_a ?_ | refine q_b ?_ | refine q_c ?_ | refine A_ct rfl ?_ | refine A_cf rfl ?_ | refine q_W ?_)
        exact ⟨⟨i + 1, out.take k ++ [l[i]] ++ out.drop k⟩, ⟨hi, by dsimp only; rw [hut]; exact hbr.put (useL_split r l i hi huo) hM hno g1 g2 g3, by dsimp only; simp; omega⟩, by dsimp only; omega, Wk_sel ⟨rfl, rfl, rfl, rfl, trivial⟩ trivial⟩
  · obtain rfl : i = l.length := by omega
    rw [List.take_length] at hbr
    repeat (first | refine q_Z ?_ | refine R_quiet rfl mixed (by kernel_rfl) ?_ | ((first | apply O_y rfl rfl rfl | apply Q_y rfl rfl rfl); (first | exact q_A | exact q_5 | exact q_B | (first | exact q_25 | exact q_26 | exact q_20))) | refine q_d ?_ | refine q_a ?_ | refine q_b ?_ | refine q_c ?_ | refine A_ct rfl ?_ | refine A_cf rfl ?_ | refine q_W ?_)
    exact X_ret rfl ⟨out, hbr.done, rfl, rfl⟩
end Go.Proofs.Ytblgdfcijkaimaa.Ab

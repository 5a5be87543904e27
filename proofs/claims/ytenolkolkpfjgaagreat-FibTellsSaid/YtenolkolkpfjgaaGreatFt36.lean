/-
  Texts of a proof, one behind the other (part 37).
-/
import Derived.Test.YtenolkolkpfjgaaGreatFt8
import Derived.Test.YtenolkolkpfjgaaGreatFt35
set_option linter.unusedVariables false
set_option linter.unusedSimpArgs false
namespace Go.Proofs.YtenolkolkpfjgaaGreat.Ab
set_option linter.unusedVariables false
set_option maxRecDepth 100000
open Go.RowKit Go.Lib
set_option linter.unusedSimpArgs false
attribute [local irreducible] AWp AOps AQ AYield AEff ACall AWk AAny AAt AThen AIn APost NoPanic
set_option maxHeartbeats 8000000 in
theorem refLed_A (l : List Rte) (r : Rte) (hok : ∀ s ∈ l, okR s) (hh : ∀ s ∈ r :: l, 0 ≤ s.h ∧ s.h < 4294967296) (hn : l.length ≤ 80) :
    ACall Tryz.prog 30 [rtesA l, rteA r] [] (fun c h => c = .row 950 ∧ h = [(950, hop2B (ledH l r))]) := by
  have hsq : (l.length + 1) * l.length + 1 ≤ 6481 := by
    have : (l.length + 1) * l.length ≤ 81 * 80 := Nat.mul_le_mul (by omega) hn
    omega
  obtain ⟨⟨pa, pb⟩, f, d, m, t, i, a, x⟩ := r
  cases x with
  | true =>
    rw [show ledH l ⟨⟨pa, pb⟩, f, d, m, t, i, a, true⟩ = [] by unfold ledH; rfl]
    refine ACall_of tabOk Tryz.func30 rfl Tryz.ntmps30 (congrArg Array.toList Tryz.results30) (by kernel_rfl) rfl ?_
    repeat (first | refine q_Z ?_ | ((first | apply O_y rfl rfl rfl | apply Q_y rfl rfl rfl); (first | exact q_A | exact q_5 | exact q_B)) | refine q_d ?_ | refine q_a ?_ | refine q_b ?_ | refine q_c ?_ | refine A_ct rfl ?_ | refine A_cf rfl ?_ | refine q_W ?_)
    exact X_retW (Wk_nil 77 2 (t := 4) (id := 950) rfl rfl) rfl (h2 := [(950, hop2B [])]) ⟨rfl, trivial⟩ ⟨rfl, rfl⟩
  | false =>
    by_cases hi : i = []
    · obtain ⟨r, hr⟩ : ∃ r : Rte, r = ⟨⟨pa, pb⟩, f, d, m, t, i, a, false⟩ := ⟨_, rfl⟩
      have hrx : r.x = false := by rw [hr]
      have hri : r.i = [] := by rw [hr]; exact hi
      rw [← hr] at hh
      refine ACall_of tabOk Tryz.func30 rfl Tryz.ntmps30 (congrArg Array.toList Tryz.results30) (by kernel_rfl) rfl ?_
      repeat (first | refine q_Z ?_ | ((first | apply O_y rfl rfl rfl | apply Q_y rfl rfl rfl); (first | exact q_A | exact q_5 | exact q_B | (exact R_sF rfl rfl rfl rfl (by simp [hi])))) | refine q_d ?_ | refine q_a ?_ | refine q_b ?_ | refine q_c ?_ | refine A_ct rfl ?_ | refine A_cf rfl ?_ | refine q_W ?_)
      refine A_weaken (Wk_nil 77 2 (t := 5) (id := 5) rfl rfl) ?_
      rw [← hr]
      refine A_loop (fun x : Nat × List Rte × List Hp => [(0, rtesA l), (5, .row 5), (6, .row 24), (7, intA (x.1 : Int))]) (fun x => [(5, hop2B x.2.2), (24, rteB x.2.1)]) (fun x => x.1 ≤ x.2.1.length ∧ Bfs l r x.1 0 x.2.1 x.2.2) (fun x => l.length + 1 - x.1) (0, [r], []) ⟨Nat.zero_le _, Bfs.zero⟩ (Wk_sel ⟨rfl, rfl, rfl, rfl, trivial⟩ ⟨rfl, by rw [hr]; rfl, trivial⟩) ?_
      rintro ⟨i, S, O⟩ ⟨hiS, B⟩
      dsimp only at hiS B ⊢
      have hSl := B.len
      have hOl := B.olen hrx hri
      by_cases hlt : i < S.length
      · have hs0 : S[i]? = some S[i] := List.getElem?_eq_getElem hlt
        have hsb := hh S[i] ((B.led _ (List.getElem_mem hlt)).mem.elim (fun h => by rw [h]; simp) (List.mem_cons_of_mem _))
        have hlong := (refLongest_A l hok (by omega) S[i].h hsb.1 hsb.2).reid (id := 8) rfl
        have hNl : (longL l S[i].h).length ≤ 80 := Nat.le_trans (longL_le l S[i].h) hn
        have hNm : ∀ q ∈ longL l S[i].h, q ∈ l := fun q hq => longL_sub hq
        repeat (first | refine q_Z ?_ | ((first | apply O_y rfl rfl rfl | apply Q_y rfl rfl rfl); (first | exact q_A | exact q_5 | exact q_B | (exact R_loade tabOk rfl rfl rfl rfl rfl rfl (by first | exact win_flat0 rteD_len S i _ hlt (by decide) | exact win_flat rteD_len S i _ _ hlt (by decide) | exact win_flat2 rteD_len S i _ _ _ hlt (by decide) | rfl) rfl rfl))) | refine q_d ?_ | refine q_a ?_ | refine q_b ?_ | refine q_c ?_ | refine A_ct rfl ?_ | refine A_cf rfl ?_ | refine q_W ?_)
        refine O_cRow rfl rfl rfl rfl rfl hlong rfl ?_
        refine O_weaken (Wk_freeze (id := 8) rfl) ?_
        obtain ⟨s0, hs⟩ : ∃ s0, S[i] = s0 := ⟨_, rfl⟩
        rw [hs] at hs0 hsb hNl hNm ⊢
        obtain ⟨N, hN⟩ : ∃ N, longL l s0.h = N := ⟨_, rfl⟩
        rw [hN] at hNl hNm ⊢
        refine O_weaken (Wk_sel (e1 := [(0, rtesA l), (5, .row 5), (6, .row 24), (7, intA (i : Int)), (37, rtesA N)]) (h1 := [(5, hop2B O), (24, rteB S)]) ⟨rfl, rfl, rfl, rfl, rfl, trivial⟩ ⟨rfl, rfl, trivial⟩) ?_
        repeat (first | refine q_Z ?_ | ((first | apply O_y rfl rfl rfl | apply Q_y rfl rfl rfl); (first | exact q_A | exact q_5 | exact q_B)) | refine q_d ?_ | refine q_a ?_ | refine q_b ?_ | refine q_c ?_ | refine A_ct rfl ?_ | refine A_cf rfl ?_ | refine q_W ?_)
        refine A_loop (fun x : Nat × List Rte × List Hp => [(0, rtesA l), (5, .row 5), (6, .row 24), (7, intA (i : Int)), (8, rtesA N), (9, intA (x.1 : Int))]) (fun x => [(5, hop2B x.2.2), (24, rteB x.2.1)]) (fun x => x.1 ≤ N.length ∧ x.2.1[i]? = some s0 ∧ Bfs l r i x.1 x.2.1 x.2.2) (fun x => N.length - x.1) (0, S, O) ⟨Nat.zero_le _, hs0, B⟩ (Wk_sel ⟨rfl, rfl, rfl, rfl, rfl, rfl, trivial⟩ ⟨rfl, rfl, trivial⟩) ?_
        clear B hSl hOl hiS hlong hs hlt hs0
        rintro ⟨j, S, O⟩ ⟨hj, h0, B⟩
        dsimp only at hj h0 B ⊢
        have hSl := B.len
        have hOl := B.olen hrx hri
        obtain ⟨hlt, hs⟩ := List.getElem?_eq_some_iff.1 h0
        by_cases hjN : j < N.length
        · have hw0 := win_at N j hjN
          have hskip := B.skip h0 hN hjN
          have hon := B.on h0 hN hjN
          have hgo := B.go h0 hN hjN
          obtain ⟨q, hq⟩ : ∃ q, N[j] = q := ⟨_, rfl⟩
          rw [hq] at hw0 hskip hon hgo
          obtain ⟨⟨pa, pb⟩, f, d, m, t, qi, a, x⟩ := q
          cases x with
          | true =>
            repeat (first | refine q_Z ?_ | ((first | apply O_y rfl rfl rfl | apply Q_y rfl rfl rfl); (first | exact q_A | exact R_loadi tabOk rfl rfl rfl rfl hw0 rfl rfl | exact q_B)) | refine q_d ?_ | refine q_a ?_ | refine q_b ?_ | refine q_c ?_ | refine A_ct rfl ?_ | refine A_cf rfl ?_ | refine q_W ?_)
            exact ⟨(j + 1, S, O), ⟨by dsimp only; omega, h0, hskip (fun h => by cases h) rfl⟩, by dsimp only; omega, Wk_sel ⟨rfl, rfl, rfl, rfl, rfl, rfl, trivial⟩ ⟨rfl, rfl, trivial⟩⟩
          | false =>
            by_cases hqi : qi = []
            · have hA := refHas_A S ⟨⟨pa, pb⟩, f, d, m, t, qi, a, false⟩ (by omega)
              by_cases hm : (⟨⟨pa, pb⟩, f, d, m, t, qi, a, false⟩ : Rte) ∈ S
              · rw [decide_eq_true hm] at hA
                repeat (first | refine q_Z ?_ | ((first | apply O_y rfl rfl rfl | apply Q_y rfl rfl rfl); (first | exact q_A | exact R_loadi tabOk rfl rfl rfl rfl hw0 rfl rfl | exact q_B | (exact R_sT rfl rfl rfl rfl (by simp [hqi])))) | refine q_d ?_ | refine q_a ?_ | refine q_b ?_ | refine q_c ?_ | refine A_ct rfl ?_ | refine A_cf rfl ?_ | refine q_W ?_ | (refine O_cL rfl rfl rfl rfl rfl hA rfl (fun _ _ _ => val_mk _ _ _ _ _ rfl rfl) ?_))
                exact ⟨(j + 1, S, O), ⟨by dsimp only; omega, h0, hskip (fun _ => hm) (by unfold outB; simp [hqi])⟩, by dsimp only; omega, Wk_sel ⟨rfl, rfl, rfl, rfl, rfl, rfl, trivial⟩ ⟨rfl, rfl, trivial⟩⟩
              · rw [decide_eq_false hm] at hA
                repeat (first | refine q_Z ?_ | ((first | apply O_y rfl rfl rfl | apply Q_y rfl rfl rfl); (first | exact q_A | exact R_loadi tabOk rfl rfl rfl rfl hw0 rfl rfl | exact q_B | (exact R_sT rfl rfl rfl rfl (by simp [hqi])))) | refine q_d ?_ | refine q_a ?_ | refine q_b ?_ | refine q_c ?_ | refine A_ct rfl ?_ | refine A_cf rfl ?_ | refine q_W ?_ | (first | refine O_cL rfl rfl rfl rfl rfl hA rfl (fun _ _ _ => val_mk _ _ _ _ _ rfl rfl) ?_ | (first | refine O_appR tabOk rfl rfl rfl rfl rfl rfl rfl rfl rfl rfl rfl (by first | exact Src.row rfl | exact Src.dat _ _ | exact Src.nil) rfl (by omega) ?_ | refine O_appN tabOk rfl rfl rfl rfl rfl rfl rfl rfl rfl rfl (by first | exact Src.row rfl | exact Src.dat _ _ | exact Src.nil) rfl (by omega) ?_)))
                exact ⟨(j + 1, S ++ [⟨⟨pa, pb⟩, f, d, m, t, qi, a, false⟩], O), ⟨by dsimp only; omega, by dsimp only; rw [List.getElem?_append_left hlt]; exact h0, hon (by unfold onB; simp [hqi]) hm⟩, by dsimp only; omega, Wk_sel ⟨rfl, rfl, rfl, rfl, rfl, rfl, trivial⟩ ⟨rfl, row_eq (by simp) (by simp [rteD]) rfl, trivial⟩⟩
            · have hgo := hgo (by unfold outB; simp [hqi])
              have hput := refPut_A O B.ris (hopOf s0.h ⟨⟨pa, pb⟩, f, d, m, t, qi, a, false⟩) (by omega)
              by_cases ha : a = 0
              · rw [show hopOf s0.h ⟨⟨pa, pb⟩, f, d, m, t, qi, a, false⟩ = ⟨qi, s0.h⟩ by unfold hopOf; rw [if_pos ha]] at hput hgo
                rw [← hs] at hput
                repeat (first | refine q_Z ?_ | ((first | apply O_y rfl rfl rfl | apply Q_y rfl rfl rfl); (first | exact q_A | exact R_loadi tabOk rfl rfl rfl rfl hw0 rfl rfl | exact q_B | (first | exact R_sF rfl rfl rfl rfl (by simp [hqi]) | exact R_loade tabOk rfl rfl rfl rfl rfl rfl (by first | exact win_flat0 rteD_len S i _ hlt (by decide) | exact win_flat rteD_len S i _ _ hlt (by decide) | exact win_flat2 rteD_len S i _ _ _ hlt (by decide) | rfl) rfl rfl))) | refine q_d ?_ | refine q_a ?_ | refine q_b ?_ | refine q_c ?_ | refine A_ct rfl ?_ | refine A_cf rfl ?_ | refine q_W ?_)
                refine O_cM rfl rfl rfl rfl rfl hput rfl (fun c hc => by simp at hc; rcases hc with rfl | rfl <;> rfl) rfl rfl ?_
                rw [hs]
                repeat (first | refine q_Z ?_ | ((first | apply O_y rfl rfl rfl | apply Q_y rfl rfl rfl); (first | exact q_A | exact q_5 | exact q_B)) | refine q_d ?_ | refine q_a ?_ | refine q_b ?_ | refine q_c ?_ | refine A_ct rfl ?_ | refine A_cf rfl ?_ | refine q_W ?_)
                exact ⟨(j + 1, S, _), ⟨by dsimp only; omega, h0, hgo⟩, by dsimp only; omega, Wk_sel ⟨rfl, rfl, rfl, rfl, rfl, rfl, trivial⟩ ⟨rfl, rfl, trivial⟩⟩
              · rw [show hopOf s0.h ⟨⟨pa, pb⟩, f, d, m, t, qi, a, false⟩ = ⟨qi, a⟩ by unfold hopOf; rw [if_neg ha]] at hput hgo
                repeat (first | refine q_Z ?_ | ((first | apply O_y rfl rfl rfl | apply Q_y rfl rfl rfl); (first | exact q_A | exact R_loadi tabOk rfl rfl rfl rfl hw0 rfl rfl | exact q_B | (exact R_sF rfl rfl rfl rfl (by simp [hqi])))) | refine q_d ?_ | refine q_a ?_ | refine q_b ?_ | refine q_c ?_ | refine A_ct rfl ?_ | refine A_cf rfl ?_ | refine q_W ?_)
                refine O_cM rfl rfl rfl rfl rfl hput rfl (fun c hc => by simp at hc; rcases hc with rfl | rfl <;> rfl) rfl rfl ?_
                repeat (first | refine q_Z ?_ | ((first | apply O_y rfl rfl rfl | apply Q_y rfl rfl rfl); (first | exact q_A | exact q_5 | exact q_B)) | refine q_d ?_ | refine q_a ?_ | refine q_b ?_ | refine q_c ?_ | refine A_ct rfl ?_ | refine A_cf rfl ?_ | refine q_W ?_)
                exact ⟨(j + 1, S, _), ⟨by dsimp only; omega, h0, hgo⟩, by dsimp only; omega, Wk_sel ⟨rfl, rfl, rfl, rfl, rfl, rfl, trivial⟩ ⟨rfl, rfl, trivial⟩⟩
        · have : j = N.length := by omega
          subst this
          repeat (first | refine q_Z ?_ | ((first | apply O_y rfl rfl rfl | apply Q_y rfl rfl rfl); (first | exact q_A | exact q_5 | exact q_B)) | refine q_d ?_ | refine q_a ?_ | refine q_b ?_ | refine q_c ?_ | refine A_ct rfl ?_ | refine A_cf rfl ?_ | refine q_W ?_)
          exact ⟨(i + 1, S, O), ⟨hlt, B.next h0 hN⟩, by dsimp only; omega, Wk_sel ⟨rfl, rfl, rfl, rfl, trivial⟩ ⟨rfl, rfl, trivial⟩⟩
      · have : i = S.length := by omega
        subst this
        rw [← B.done hrx hri]
        repeat (first | refine q_Z ?_ | ((first | apply O_y rfl rfl rfl | apply Q_y rfl rfl rfl); (first | exact q_A | exact q_5 | exact q_B)) | refine q_d ?_ | refine q_a ?_ | refine q_b ?_ | refine q_c ?_ | refine A_ct rfl ?_ | refine A_cf rfl ?_ | refine q_W ?_)
        exact X_retW (AWk.trans (Wk_sel (e1 := [(4, .row 5)]) (h1 := [(5, hop2B O)]) ⟨rfl, trivial⟩ ⟨rfl, trivial⟩) (Wk_rename (p := 5) (id := 950) (t := 4) rfl rfl)) rfl (h2 := [(950, hop2B O)]) ⟨rfl, trivial⟩ ⟨rfl, rfl⟩
    · rw [show ledH l ⟨⟨pa, pb⟩, f, d, m, t, i, a, false⟩ = [⟨i, a⟩] by unfold ledH; simp [hi]]
      refine ACall_of tabOk Tryz.func30 rfl Tryz.ntmps30 (congrArg Array.toList Tryz.results30) (by kernel_rfl) rfl ?_
      repeat (first | refine q_Z ?_ | ((first | apply O_y rfl rfl rfl | apply Q_y rfl rfl rfl); (first | exact q_A | exact q_5 | exact q_B | (exact R_sT rfl rfl rfl rfl (by simp [hi])))) | refine q_d ?_ | refine q_a ?_ | refine q_b ?_ | refine q_c ?_ | refine A_ct rfl ?_ | refine A_cf rfl ?_ | refine q_W ?_)
      exact X_retW (AWk.trans (Wk_sel (e1 := [(4, .row 22)]) (h1 := [(22, hop2B [⟨i, a⟩])]) ⟨rfl, trivial⟩ ⟨rfl, trivial⟩) (Wk_rename (p := 22) (id := 950) (t := 4) rfl rfl)) rfl (h2 := [(950, hop2B [⟨i, a⟩])]) ⟨rfl, trivial⟩ ⟨rfl, rfl⟩
end Go.Proofs.YtenolkolkpfjgaaGreat.Ab

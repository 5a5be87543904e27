/-
  Texts of a proof, one behind the other (part 38).
-/
import Derived.Test.YtenolkolkpfjgaaGreatFt8
import Derived.Test.YtenolkolkpfjgaaGreatFt11
import Derived.Test.YtenolkolkpfjgaaGreatFt27
import Derived.Test.YtenolkolkpfjgaaGreatFt28
import Derived.Test.YtenolkolkpfjgaaGreatFt33
import Derived.Test.YtenolkolkpfjgaaGreatFt36
set_option linter.unusedVariables false
set_option linter.unusedSimpArgs false
namespace Go.Proofs.YtenolkolkpfjgaaGreat.Ab
set_option linter.unusedVariables false
set_option maxRecDepth 100000
open Go.RowKit Go.Lib
set_option linter.unusedSimpArgs false
attribute [local irreducible] AWp AOps AQ AYield AEff ACall AWk AAny AAt AThen AIn APost NoPanic
set_option maxHeartbeats 8000000 in
theorem prefixes_A (l : List Rte) (hok : ∀ s ∈ l, okR s) (hn : l.length ≤ 1000) : ACall Tryz.prog 16 [rtesA l] [] (fun c h => c = .row 3 ∧ h = [(3, pfxB (sortU ordP (goodP l)))]) := by
  have hso := refSort_A l (by omega)
  have hSl := sortU_len (c := ordR) l
  have hfin := pfold_sort l
  have hSo : ∀ s ∈ sortU ordR l, okR s := fun s hs => hok s ((sortU_mem _ _).1 hs)
  obtain ⟨S, hS⟩ : ∃ S, sortU ordR l = S := ⟨_, rfl⟩
  rw [hS] at hso hSl hfin hSo
  refine ACall_of tabOk Tryz.func16 rfl Tryz.ntmps16 (congrArg Array.toList Tryz.results16) (by kernel_rfl) rfl ?_
  repeat (first | refine q_Z ?_ | refine R_quiet rfl mixed (by kernel_rfl) ?_ | ((first | apply O_y rfl rfl rfl | apply Q_y rfl rfl rfl); (first | exact q_A | exact q_5 | exact q_B)) | refine q_d ?_ | refine q_a ?_ | refine q_b ?_ | refine q_c ?_ | refine A_ct rfl ?_ | refine A_cf rfl ?_ | refine q_W ?_)
  refine O_cRow rfl rfl rfl rfl rfl hso rfl ?_
  refine O_weaken (Wk_freeze (id := 3) rfl) ?_
  repeat (first | refine q_Z ?_ | refine R_quiet rfl mixed (by kernel_rfl) ?_ | ((first | apply O_y rfl rfl rfl | apply Q_y rfl rfl rfl); (first | exact q_A | exact q_5 | exact q_B)) | refine q_d ?_ | refine q_a ?_ | refine q_b ?_ | refine q_c ?_ | refine A_ct rfl ?_ | refine A_cf rfl ?_ | refine q_W ?_)
  refine A_weaken (Wk_nil 39 2 (t := 3) (id := 3) rfl rfl) ?_
  refine A_loop (fun k : Nat => [(0, rtesA S), (3, .row 3), (4, intA (k : Int))]) (fun k => [(3, pfxB ((S.take k).foldl pstep []))]) (fun k => k ≤ S.length) (fun k => S.length - k) 0 (Nat.zero_le _) (Wk_sel ⟨rfl, rfl, rfl, trivial⟩ ⟨rfl, trivial⟩) ?_
  intro k hkl
  try dsimp only
  by_cases hk : k < S.length
  · have hst : (S.take (k + 1)).foldl pstep [] = pstep ((S.take k).foldl pstep []) S[k] := by rw [List.take_succ_eq_append_getElem hk, List.foldl_append]; rfl
    have hck := refCheck_A S[k].p (hSo _ (List.getElem_mem hk)).2
    have hOl : ((S.take k).foldl pstep []).length ≤ k := by
      have : ∀ (L : List Rte) (O : List Pfx), (L.foldl pstep O).length ≤ O.length + L.length := fun L => by
        induction L with
        | nil => intro O; simp
        | cons r L ih =>
          intro O
          rw [List.foldl_cons]
          have h1 := ih (pstep O r)
          have h2 : (pstep O r).length ≤ O.length + 1 := by unfold pstep; split <;> simp
          rw [List.length_cons]; omega
      have h1 := this (S.take k) []
      rw [List.length_take] at h1
      simp at h1
      omega
    obtain ⟨O, hO⟩ : ∃ O, (S.take k).foldl pstep [] = O := ⟨_, rfl⟩
    rw [hO] at hst hOl ⊢
    clear hO
    by_cases hc : chk S[k].p = 0
    rotate_left
    · rw [show pstep O S[k] = O from if_neg (fun h => hc h.1)] at hst
      repeat (first | refine q_Z ?_ | refine R_quiet rfl mixed (by kernel_rfl) ?_ | ((first | apply O_y rfl rfl rfl | apply Q_y rfl rfl rfl); (first | exact q_A | exact R_loadi tabOk rfl rfl rfl rfl (by first | exact win_flat0 rteD_len S k _ hk (by decide) | exact win_flat rteD_len S k _ _ hk (by decide) | exact win_flat2 rteD_len S k _ _ _ hk (by decide) | rfl) rfl rfl | exact q_B | (first | exact q_25 | exact q_26 | exact q_20))) | refine q_d ?_ | refine q_a ?_ | refine q_b ?_ | refine q_c ?_ | refine A_ct rfl ?_ | refine A_cf rfl ?_ | refine q_W ?_ | (first | refine Q_c rfl rfl rfl rfl rfl hck rfl (fun _ _ _ => val_mk _ _ _ _ _ rfl rfl) ?_))
      exact ⟨k + 1, by omega, by omega, by rw [hst]; exact Wk_sel ⟨rfl, rfl, rfl, trivial⟩ ⟨rfl, trivial⟩⟩
    rw [hc] at hck
    rcases List.eq_nil_or_concat O with rfl | ⟨A, q, hAq⟩
    · rw [show pstep [] S[k] = [S[k].p] from if_pos ⟨hc, by simp⟩] at hst
      repeat (first | refine q_Z ?_ | refine R_quiet rfl mixed (by kernel_rfl) ?_ | ((first | apply O_y rfl rfl rfl | apply Q_y rfl rfl rfl); (first | exact q_A | exact R_loadi tabOk rfl rfl rfl rfl (by first | exact win_flat0 rteD_len S k _ hk (by decide) | exact win_flat rteD_len S k _ _ hk (by decide) | exact win_flat2 rteD_len S k _ _ _ hk (by decide) | rfl) rfl rfl | exact q_B | (first | exact q_25 | exact q_26 | exact q_20))) | refine q_d ?_ | refine q_a ?_ | refine q_b ?_ | refine q_c ?_ | refine A_ct rfl ?_ | refine A_cf rfl ?_ | refine q_W ?_ | (first | refine Q_c rfl rfl rfl rfl rfl hck rfl (fun _ _ _ => val_mk _ _ _ _ _ rfl rfl) ?_ | (first | refine O_appR tabOk rfl rfl rfl rfl rfl rfl rfl rfl rfl rfl rfl (by first | exact Src.row rfl | exact Src.dat _ _ | exact Src.nil) rfl (by omega) ?_ | refine O_appN tabOk rfl rfl rfl rfl rfl rfl rfl rfl rfl rfl (by first | exact Src.row rfl | exact Src.dat _ _ | exact Src.nil) rfl (by omega) ?_)))
      exact ⟨k + 1, by omega, by omega, by rw [hst]; exact Wk_sel ⟨rfl, rfl, rfl, trivial⟩ ⟨rfl, trivial⟩⟩
    rw [List.concat_eq_append] at hAq
    subst hAq
    have hqw : win ((A ++ [q]).flatMap pfxD) (A.length * 2) 2 = pfxD q := (win_flat0 pfxD_len (A ++ [q]) A.length 2 (by simp) (by decide)).trans (by simp [win, pfxD])
    have hpe := pfxEq q S[k].p
    refine A_weaken (Wk_sel (e1 := [(0, rtesA S), (3, .row 3), (4, intA (k : Int))]) (h1 := [(3, .row 39 2 (A.length + 1) ((A ++ [q]).flatMap pfxD))]) ⟨rfl, rfl, rfl, trivial⟩ ⟨row_eq (n := (A ++ [q]).length) (by simp) rfl rfl, trivial⟩) ?_
    rw [List.length_append, List.length_singleton] at hOl
    by_cases hq : q = S[k].p
    · rw [show pstep (A ++ [q]) S[k] = A ++ [q] from if_neg (fun h => h.2 (by rw [hq]; simp))] at hst
      rw [show (q == S[k].p) = true by simp [hq]] at hpe
      repeat (first | refine q_Z ?_ | refine R_quiet rfl mixed (by kernel_rfl) ?_ | ((first | apply O_y rfl rfl rfl | apply Q_y rfl rfl rfl); (first | exact q_A | exact R_loadi tabOk rfl rfl rfl rfl (by first | exact win_flat0 rteD_len S k _ hk (by decide) | exact win_flat rteD_len S k _ _ hk (by decide) | exact win_flat2 rteD_len S k _ _ _ hk (by decide) | rfl) rfl rfl | exact q_B | (first | (first | exact q_25 | exact q_26 | exact q_20) | exact R_loade tabOk rfl rfl rfl rfl rfl rfl hqw rfl rfl | exact R_indexr (j := A.length) tabOk rfl rfl rfl rfl rfl rfl rfl (by omega) | exact Y_eq tabOk noStand rfl rfl rfl rfl rfl rfl rfl rfl rfl (by kernel_rfl) hpe rfl))) | refine q_d ?_ | refine q_a ?_ | refine q_b ?_ | refine q_c ?_ | refine A_ct rfl ?_ | refine A_cf rfl ?_ | refine q_W ?_ | (first | refine Q_c rfl rfl rfl rfl rfl hck rfl (fun _ _ _ => val_mk _ _ _ _ _ rfl rfl) ?_))
      exact ⟨k + 1, by omega, by omega, by rw [hst]; exact Wk_sel ⟨rfl, rfl, rfl, trivial⟩ ⟨row_eq (by simp) rfl rfl, trivial⟩⟩
    · rw [show pstep (A ++ [q]) S[k] = A ++ [q] ++ [S[k].p] from if_pos ⟨hc, by simp; exact hq⟩] at hst
      rw [show (q == S[k].p) = false by simp [hq]] at hpe
      repeat (first | refine q_Z ?_ | refine R_quiet rfl mixed (by kernel_rfl) ?_ | ((first | apply O_y rfl rfl rfl | apply Q_y rfl rfl rfl); (first | exact q_A | exact R_loadi tabOk rfl rfl rfl rfl (by first | exact win_flat0 rteD_len S k _ hk (by decide) | exact win_flat rteD_len S k _ _ hk (by decide) | exact win_flat2 rteD_len S k _ _ _ hk (by decide) | rfl) rfl rfl | exact q_B | (first | (first | exact q_25 | exact q_26 | exact q_20) | exact R_loade tabOk rfl rfl rfl rfl rfl rfl hqw rfl rfl | exact R_indexr (j := A.length) tabOk rfl rfl rfl rfl rfl rfl rfl (by omega) | exact Y_eq tabOk noStand rfl rfl rfl rfl rfl rfl rfl rfl rfl (by kernel_rfl) hpe rfl))) | refine q_d ?_ | refine q_a ?_ | refine q_b ?_ | refine q_c ?_ | refine A_ct rfl ?_ | refine A_cf rfl ?_ | refine q_W ?_ | (first | refine Q_c rfl rfl rfl rfl rfl hck rfl (fun _ _ _ => val_mk _ _ _ _ _ rfl rfl) ?_ | (first | refine O_appR tabOk rfl rfl rfl rfl rfl rfl rfl rfl rfl rfl rfl (by first | exact Src.row rfl | exact Src.dat _ _ | exact Src.nil) rfl (by omega) ?_ | refine O_appN tabOk rfl rfl rfl rfl rfl rfl rfl rfl rfl rfl (by first | exact Src.row rfl | exact Src.dat _ _ | exact Src.nil) rfl (by omega) ?_)))
      exact ⟨k + 1, by omega, by omega, by rw [hst]; exact Wk_sel ⟨rfl, rfl, rfl, trivial⟩ ⟨row_eq (by simp) (by simp [pfxD]) rfl, trivial⟩⟩
  · obtain rfl : k = S.length := by omega
    rw [List.take_length, hfin]
    repeat (first | refine q_Z ?_ | refine R_quiet rfl mixed (by kernel_rfl) ?_ | ((first | apply O_y rfl rfl rfl | apply Q_y rfl rfl rfl); (first | exact q_A | exact q_5 | exact q_B)) | refine q_d ?_ | refine q_a ?_ | refine q_b ?_ | refine q_c ?_ | refine A_ct rfl ?_ | refine A_cf rfl ?_ | refine q_W ?_)
    exact X_retW AWk.refl rfl (h2 := [(3, pfxB (sortU ordP (goodP l)))]) ⟨rfl, trivial⟩ ⟨rfl, rfl⟩
def LkI (E : List Ent) (x : Int) (i : Nat) (at_ : Option Nat) : Prop := match at_ with
  | none => ∀ (j : Nat) (hj : j < E.length), j < i → inB x E[j].p = false
  | some m => ∃ hm : m < E.length, m < i ∧ inB x E[m].p = true ∧ ∀ (j : Nat) (hj : j < E.length), j < i → inB x E[j].p = true → E[j].p.b ≤ E[m].p.b
def lkA (at_ : Option Nat) : AVal := match at_ with
  | none => intA (-1)
  | some m => intA (m : Int)
set_option maxHeartbeats 8000000 in
theorem refLookE_A (E : List Ent) (x : Int) (x0 : 0 ≤ x) (x1 : x < 4294967296) (hn : (E.map (·.p)).Nodup) (hg : ∀ y ∈ E, Go.Proofs.YtenolkolkpfjgaaGreat.good y.p) (hpo : ∀ y ∈ E, y.p.ok) (hl : E.length ≤ 1000) :
    ACall Tryz.prog 13 [.d (.sl (E.flatMap entD) E.length), .d (.sc (.int .u32 x))] [] (fun c h => c = .tup [entA (longRE (uE E) (mE E) x).2.1, boolA (longRE (uE E) (mE E) x).2.2] ∧ h = []) := by
  have hu := fun y => look_uniq hn hg (x := x) (y := y)
  have hno := look_none hn hg (x := x)
  obtain ⟨Z, hZ⟩ : ∃ Z, (longRE (uE E) (mE E) x).2 = Z := ⟨_, rfl⟩
  simp only [hZ] at hu hno ⊢
  clear hZ
  refine ACall_of tabOk Tryz.func13 rfl Tryz.ntmps13 (congrArg Array.toList Tryz.results13) (by kernel_rfl) rfl ?_
  repeat (first | refine q_Z ?_ | refine R_quiet rfl mixed (by kernel_rfl) ?_ | ((first | apply O_y rfl rfl rfl | apply Q_y rfl rfl rfl); (first | exact q_A | exact q_5 | exact q_B)) | refine q_d ?_ | refine q_a ?_ | refine q_b ?_ | refine q_c ?_ | refine A_ct rfl ?_ | refine A_cf rfl ?_ | refine q_W ?_)
  refine A_loop (fun s : Nat × Option Nat => [(0, .d (.sl (E.flatMap entD) E.length)), (1, .d (.sc (.int .u32 x))), (4, .ptr 4 0), (6, lkA s.2), (7, intA (s.1 : Int))]) (fun _ => [(4, .var [.d (.sc (.int .u32 0)), .d (.sc (.int .i64 0)), .d (.sc (.bool false)), .d (.sc (.slice none 0 0))])]) (fun s => s.1 ≤ E.length ∧ LkI E x s.1 s.2) (fun s => E.length - s.1) (0, none) ⟨Nat.zero_le _, fun j _ h => by omega⟩ (by dsimp only; exact Wk_sel ⟨rfl, rfl, rfl, rfl, rfl, trivial⟩ ⟨rfl, trivial⟩) ?_
  rintro ⟨i, at_⟩ ⟨hi, hI⟩
  dsimp only at hi hI
  try dsimp only
  by_cases hiE : i < E.length
  · have hin := refIn_A x E[i].p (hpo _ (List.getElem_mem hiE)) x0 x1
    cases hb : inB x E[i].p with
    | false =>
      rw [hb] at hin
      cases at_ with
      | none =>
        repeat (first | refine q_Z ?_ | refine R_quiet rfl mixed (by kernel_rfl) ?_ | ((first | apply O_y rfl rfl rfl | apply Q_y rfl rfl rfl); (first | exact q_A | exact R_loadi tabOk rfl rfl rfl rfl (by first | exact win_flat0 entD_len E i _ hiE (by decide) | exact win_flat entD_len E i _ _ hiE (by decide) | exact win_flat2 entD_len E i _ _ _ hiE (by decide) | rfl) rfl rfl | exact q_B | (first | exact q_25 | exact q_26 | exact q_20))) | refine q_d ?_ | refine q_a ?_ | refine q_b ?_ | refine q_c ?_ | refine A_ct rfl ?_ | refine A_cf rfl ?_ | refine q_W ?_ | (first | refine Q_c rfl rfl rfl rfl rfl hin rfl (fun _ _ _ => val_mk _ _ _ _ _ rfl rfl) ?_))
        exact ⟨(i + 1, none), ⟨by dsimp only; omega, fun j hj h => by
          by_cases e : j = i
          · subst e; exact hb
          · exact hI j hj (by omega)⟩, by dsimp only; omega, by dsimp only; exact Wk_sel ⟨rfl, rfl, rfl, rfl, rfl, trivial⟩ ⟨rfl, trivial⟩⟩
      | some m =>
        obtain ⟨hm, h1, h2, h3⟩ := hI
        repeat (first | refine q_Z ?_ | refine R_quiet rfl mixed (by kernel_rfl) ?_ | ((first | apply O_y rfl rfl rfl | apply Q_y rfl rfl rfl); (first | exact q_A | exact R_loadi tabOk rfl rfl rfl rfl (by first | exact win_flat0 entD_len E i _ hiE (by decide) | exact win_flat entD_len E i _ _ hiE (by decide) | exact win_flat2 entD_len E i _ _ _ hiE (by decide) | rfl) rfl rfl | exact q_B | (first | exact q_25 | exact q_26 | exact q_20))) | refine q_d ?_ | refine q_a ?_ | refine q_b ?_ | refine q_c ?_ | refine A_ct rfl ?_ | refine A_cf rfl ?_ | refine q_W ?_ | (first | refine Q_c rfl rfl rfl rfl rfl hin rfl (fun _ _ _ => val_mk _ _ _ _ _ rfl rfl) ?_))
        exact ⟨(i + 1, some m), ⟨by dsimp only; omega, hm, by omega, h2, fun j hj h h4 => by
          by_cases e : j = i
          · subst e; rw [hb] at h4; cases h4
          · exact h3 j hj (by omega) h4⟩, by dsimp only; omega, by dsimp only; exact Wk_sel ⟨rfl, rfl, rfl, rfl, rfl, trivial⟩ ⟨rfl, trivial⟩⟩
    | true =>
      rw [hb] at hin
      cases at_ with
      | none =>
        repeat (first | refine q_Z ?_ | refine R_quiet rfl mixed (by kernel_rfl) ?_ | ((first | apply O_y rfl rfl rfl | apply Q_y rfl rfl rfl); (first | exact q_A | exact R_loadi tabOk rfl rfl rfl rfl (by first | exact win_flat0 entD_len E i _ hiE (by decide) | exact win_flat entD_len E i _ _ hiE (by decide) | exact win_flat2 entD_len E i _ _ _ hiE (by decide) | rfl) rfl rfl | exact q_B | (first | exact q_25 | exact q_26 | exact q_20))) | refine q_d ?_ | refine q_a ?_ | refine q_b ?_ | refine q_c ?_ | refine A_ct rfl ?_ | refine A_cf rfl ?_ | refine q_W ?_ | (first | refine Q_c rfl rfl rfl rfl rfl hin rfl (fun _ _ _ => val_mk _ _ _ _ _ rfl rfl) ?_))
        exact ⟨(i + 1, some i), ⟨by dsimp only; omega, hiE, by omega, hb, fun j hj h h4 => by
          by_cases e : j = i
          · subst e; exact Int.le_refl _
          · rw [hI j hj (by omega)] at h4; cases h4⟩, by dsimp only; omega, by dsimp only; exact Wk_sel ⟨rfl, rfl, rfl, rfl, rfl, trivial⟩ ⟨rfl, trivial⟩⟩
      | some m =>
        obtain ⟨hm, h1, h2, h3⟩ := hI
        have wm := win_flat entD_len E m 1 1 hm (by decide)
        by_cases hgt : E[m].p.b < E[i].p.b
        ·
          repeat (first | refine q_Z ?_ | refine R_quiet rfl mixed (by kernel_rfl) ?_ | ((first | apply O_y rfl rfl rfl | apply Q_y rfl rfl rfl); (first | exact q_A | exact R_loadi tabOk rfl rfl rfl rfl (by first | exact wm | exact win_flat0 entD_len E i _ hiE (by decide) | exact win_flat entD_len E i _ _ hiE (by decide) | exact win_flat2 entD_len E i _ _ _ hiE (by decide) | exact win_flat2 entD_len E m _ _ _ hm (by decide) | rfl) rfl rfl | exact q_B | (first | exact q_25 | exact q_26 | exact q_20))) | refine q_d ?_ | refine q_a ?_ | refine q_b ?_ | refine q_c ?_ | refine A_ct rfl ?_ | refine A_cf rfl ?_ | refine q_W ?_ | (first | refine Q_c rfl rfl rfl rfl rfl hin rfl (fun _ _ _ => val_mk _ _ _ _ _ rfl rfl) ?_))
          exact ⟨(i + 1, some i), ⟨by dsimp only; omega, hiE, by omega, hb, fun j hj h h4 => by
            by_cases e : j = i
            · subst e; exact Int.le_refl _
            · have := h3 j hj (by omega) h4; omega⟩, by dsimp only; omega, by dsimp only; exact Wk_sel ⟨rfl, rfl, rfl, rfl, rfl, trivial⟩ ⟨rfl, trivial⟩⟩
        ·
          repeat (first | refine q_Z ?_ | refine R_quiet rfl mixed (by kernel_rfl) ?_ | ((first | apply O_y rfl rfl rfl | apply Q_y rfl rfl rfl); (first | exact q_A | exact R_loadi tabOk rfl rfl rfl rfl (by first | exact wm | exact win_flat0 entD_len E i _ hiE (by decide) | exact win_flat entD_len E i _ _ hiE (by decide) | exact win_flat2 entD_len E i _ _ _ hiE (by decide) | exact win_flat2 entD_len E m _ _ _ hm (by decide) | rfl) rfl rfl | exact q_B | (first | exact q_25 | exact q_26 | exact q_20))) | refine q_d ?_ | refine q_a ?_ | refine q_b ?_ | refine q_c ?_ | refine A_ct rfl ?_ | refine A_cf rfl ?_ | refine q_W ?_ | (first | refine Q_c rfl rfl rfl rfl rfl hin rfl (fun _ _ _ => val_mk _ _ _ _ _ rfl rfl) ?_))
          exact ⟨(i + 1, some m), ⟨by dsimp only; omega, hm, by omega, h2, fun j hj h h4 => by
            by_cases e : j = i
            · subst e; omega
            · exact h3 j hj (by omega) h4⟩, by dsimp only; omega, by dsimp only; exact Wk_sel ⟨rfl, rfl, rfl, rfl, rfl, trivial⟩ ⟨rfl, trivial⟩⟩
  · obtain rfl : i = E.length := by omega
    cases at_ with
    | none =>
      have hz := hno fun y hy => by
        obtain ⟨j, hj, rfl⟩ := List.mem_iff_getElem.1 hy
        exact hI j hj hj
      subst hz
      repeat (first | refine q_Z ?_ | refine R_quiet rfl mixed (by kernel_rfl) ?_ | ((first | apply O_y rfl rfl rfl | apply Q_y rfl rfl rfl); (first | exact q_A | exact q_5 | exact q_B | (first | exact q_25 | exact q_26 | exact q_20))) | refine q_d ?_ | refine q_a ?_ | refine q_b ?_ | refine q_c ?_ | refine A_ct rfl ?_ | refine A_cf rfl ?_ | refine q_W ?_)
      exact X_retW (Wk_seeC (b := 4) (i := 3) rfl rfl) rfl (h2 := []) trivial ⟨rfl, rfl⟩
    | some m =>
      obtain ⟨hm, h1, h2, h3⟩ := hI
      have hz := hu E[m] (List.getElem_mem hm) h2 fun y hy h4 => by
        obtain ⟨j, hj, rfl⟩ := List.mem_iff_getElem.1 hy
        exact h3 j hj hj h4
      subst hz
      have wm := win_flat0 entD_len E m 4 hm (by decide)
      repeat (first | refine q_Z ?_ | refine R_quiet rfl mixed (by kernel_rfl) ?_ | ((first | apply O_y rfl rfl rfl | apply Q_y rfl rfl rfl); (first | exact q_A | exact R_loadi tabOk rfl rfl rfl rfl (by first | exact wm | rfl) rfl rfl | exact q_B | (first | exact q_25 | exact q_26 | exact q_20))) | refine q_d ?_ | refine q_a ?_ | refine q_b ?_ | refine q_c ?_ | refine A_ct rfl ?_ | refine A_cf rfl ?_ | refine q_W ?_)
      exact X_ret rfl ⟨rfl, rfl⟩
end Go.Proofs.YtenolkolkpfjgaaGreat.Ab

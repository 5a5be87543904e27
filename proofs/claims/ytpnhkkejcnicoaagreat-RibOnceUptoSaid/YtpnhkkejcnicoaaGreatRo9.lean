/-
  Texts of a proof, one behind the other (part 10).
-/
import Derived.Test.YtpnhkkejcnicoaaGreatRo6
import Derived.Test.YtpnhkkejcnicoaaGreatRo8
set_option linter.unusedVariables false
set_option linter.unusedSimpArgs false
namespace Go.Proofs.YtpnhkkejcnicoaaGreat.Ab
set_option linter.unusedVariables false
set_option maxRecDepth 100000
open Go.RowKit Go.Lib
set_option linter.unusedSimpArgs false
attribute [local irreducible] AWp AOps AQ AYield AEff ACall AWk AAny AAt AThen AIn APost NoPanic
theorem index_A (L : List Int) (v : Int) (hn : L.length ≤ 1000000000) : ACall Tryz.prog 125 [usA L, u32A v] [] (Just (intA (idxOf (fun x => v == x) L))) := by
  refine ACall_of tabOk Tryz.func125 rfl Tryz.ntmps125 (congrArg Array.toList Tryz.results125) (by kernel_rfl) rfl ?_
  repeat (first | refine q_Z ?_ | ((first | apply O_y rfl rfl rfl | apply Q_y rfl rfl rfl); (first | exact q_A | exact q_5 | exact q_B)) | refine q_d ?_ | refine q_a ?_ | refine q_b ?_ | refine q_c ?_ | refine A_ct rfl ?_ | refine A_cf rfl ?_ | refine q_W ?_)
  refine A_loop (fun k : Nat => [(0, usA L), (1, u32A v), (7, intA (L.length : Int)), (8, intA (k : Int))]) (fun _ => []) (fun k => k ≤ L.length ∧ ∀ j (hj : j < L.length), j < k → (v == L[j]) = false) (fun k => L.length - k) 0 ⟨Nat.zero_le _, fun j _ h => absurd h (Nat.not_lt_zero j)⟩ (Wk_sel ⟨rfl, rfl, rfl, rfl, trivial⟩ trivial) ?_
  rintro k ⟨hk, hall⟩
  try dsimp only
  by_cases hkL : k < L.length
  · have hw := win_flat0 u1D_len L k 1 hkL (by decide)
    by_cases hp : v = L[k]
    ·
      repeat (first | refine q_Z ?_ | ((first | apply O_y rfl rfl rfl | apply Q_y rfl rfl rfl); (first | exact q_A | exact R_loadi tabOk rfl rfl rfl rfl hw rfl rfl | exact q_B)) | refine q_d ?_ | refine q_a ?_ | refine q_b ?_ | refine q_c ?_ | refine A_ct rfl ?_ | refine A_cf rfl ?_ | refine q_W ?_)
      refine X_ret rfl ⟨?_, rfl⟩
      rw [idxOf_at _ L k hkL (fun j hj => hall j (by omega) hj) (by simpa using hp)]
    ·
      repeat (first | refine q_Z ?_ | ((first | apply O_y rfl rfl rfl | apply Q_y rfl rfl rfl); (first | exact q_A | exact R_loadi tabOk rfl rfl rfl rfl hw rfl rfl | exact q_B)) | refine q_d ?_ | refine q_a ?_ | refine q_b ?_ | refine q_c ?_ | refine A_ct rfl ?_ | refine A_cf rfl ?_ | refine q_W ?_)
      refine ⟨k + 1, ⟨by omega, fun j hj h => ?_⟩, by omega, Wk_sel ⟨rfl, rfl, rfl, rfl, trivial⟩ trivial⟩
      by_cases hjk : j = k
      · subst hjk; simpa using hp
      · exact hall j hj (by omega)
  ·
    repeat (first | refine q_Z ?_ | ((first | apply O_y rfl rfl rfl | apply Q_y rfl rfl rfl); (first | exact q_A | exact q_5 | exact q_B)) | refine q_d ?_ | refine q_a ?_ | refine q_b ?_ | refine q_c ?_ | refine A_ct rfl ?_ | refine A_cf rfl ?_ | refine q_W ?_)
    refine X_ret rfl ⟨?_, rfl⟩
    rw [idxOf_none _ L fun x hx => by
      obtain ⟨j, hj, rfl⟩ := List.mem_iff_getElem.1 hx
      exact hall j hj (by omega)]; rfl
theorem idxOf_any {α : Type} (p : α → Bool) (L : List α) : decide (0 ≤ idxOf p L) = L.any p := by
  induction L with
  | nil => rfl
  | cons x r ih =>
    rw [List.any_cons, ← ih]
    have := idxOf_ge p r
    rw [show idxOf p (x :: r) = if p x = true then 0 else if idxOf p r = -1 then -1 else idxOf p r + 1 from rfl]
    by_cases hx : p x = true
    · rw [if_pos hx, hx, Bool.true_or]; rfl
    · rw [if_neg hx, show p x = false by simpa using hx, Bool.false_or]
      by_cases h1 : idxOf p r = -1
      · rw [if_pos h1, h1]
      · rw [if_neg h1, decide_eq_true (show (0 : Int) ≤ idxOf p r + 1 by omega), decide_eq_true (show (0 : Int) ≤ idxOf p r by omega)]
theorem contains_A (L : List Int) (v : Int) (hn : L.length ≤ 1000000000) : ACall Tryz.prog 118 [usA L, u32A v] [] (Just (boolA (L.any fun x => v == x))) := by
  have hi := index_A L v hn
  rw [← idxOf_any]
  obtain ⟨i, hii⟩ : ∃ i, idxOf (fun x => v == x) L = i := ⟨_, rfl⟩
  rw [hii] at hi ⊢
  refine ACall_of tabOk Tryz.func118 rfl Tryz.ntmps118 (congrArg Array.toList Tryz.results118) (by kernel_rfl) rfl ?_
  by_cases h0 : 0 ≤ i
  · rw [decide_eq_true h0]
    repeat (first | refine q_Z ?_ | ((first | apply O_y rfl rfl rfl | apply Q_y rfl rfl rfl); (first | exact q_A | exact q_5 | exact q_B)) | refine q_d ?_ | refine q_a ?_ | refine q_b ?_ | refine q_c ?_ | refine A_ct rfl ?_ | refine A_cf rfl ?_ | refine q_W ?_ | refine O_c rfl rfl rfl rfl rfl hi (fun _ => rfl) ?_)
    exact X_ret rfl ⟨rfl, rfl⟩
  · rw [decide_eq_false h0]
    repeat (first | refine q_Z ?_ | ((first | apply O_y rfl rfl rfl | apply Q_y rfl rfl rfl); (first | exact q_A | exact q_5 | exact q_B)) | refine q_d ?_ | refine q_a ?_ | refine q_b ?_ | refine q_c ?_ | refine A_ct rfl ?_ | refine A_cf rfl ?_ | refine q_W ?_ | refine O_c rfl rfl rfl rfl rfl hi (fun _ => rfl) ?_)
    exact X_ret rfl ⟨rfl, rfl⟩
theorem containsF_A (L : List Int) (f : FuncId) (caps : List AVal) (p : Int → Bool) (hf : ∀ x ∈ L, ACall Tryz.prog f ([u32A x] ++ caps) [] (Just (boolA (p x)))) (hn : L.length ≤ 1000000000) :
    ACall Tryz.prog 83 [usA L, .fn f caps] [] (Just (boolA (L.any p))) := by
  have hi := idxU_A L f caps p hf hn
  rw [← idxOf_any]
  obtain ⟨i, hii⟩ : ∃ i, idxOf p L = i := ⟨_, rfl⟩
  rw [hii] at hi ⊢
  refine ACall_of tabOk Tryz.func83 rfl Tryz.ntmps83 (congrArg Array.toList Tryz.results83) (by kernel_rfl) rfl ?_
  by_cases h0 : 0 ≤ i
  · rw [decide_eq_true h0]
    repeat (first | refine q_Z ?_ | ((first | apply O_y rfl rfl rfl | apply Q_y rfl rfl rfl); (first | exact q_A | exact q_5 | exact q_B)) | refine q_d ?_ | refine q_a ?_ | refine q_b ?_ | refine q_c ?_ | refine A_ct rfl ?_ | refine A_cf rfl ?_ | refine q_W ?_ | refine O_c rfl rfl rfl rfl rfl hi (fun _ => rfl) ?_)
    exact X_ret rfl ⟨rfl, rfl⟩
  · rw [decide_eq_false h0]
    repeat (first | refine q_Z ?_ | ((first | apply O_y rfl rfl rfl | apply Q_y rfl rfl rfl); (first | exact q_A | exact q_5 | exact q_B)) | refine q_d ?_ | refine q_a ?_ | refine q_b ?_ | refine q_c ?_ | refine A_ct rfl ?_ | refine A_cf rfl ?_ | refine q_W ?_ | refine O_c rfl rfl rfl rfl rfl hi (fun _ => rfl) ?_)
    exact X_ret rfl ⟨rfl, rfl⟩
theorem member11_A (c : Int) (com : List Int) (hn : com.length ≤ 1000000000) : ACall Tryz.prog 117 ([u32A c] ++ [.iptr [usD com] 0]) [] (Just (boolA (!com.any fun x => c == x))) := by
  have hc := contains_A com c hn
  refine ACall_of tabOk Tryz.func117 rfl Tryz.ntmps117 (congrArg Array.toList Tryz.results117) (by kernel_rfl) rfl ?_
  repeat (first | refine q_Z ?_ | ((first | apply O_y rfl rfl rfl | apply Q_y rfl rfl rfl); (first | exact q_A | exact q_5 | exact q_B)) | refine q_d ?_ | refine q_a ?_ | refine q_b ?_ | refine q_c ?_ | refine A_ct rfl ?_ | refine A_cf rfl ?_ | refine q_W ?_ | refine O_c rfl rfl rfl rfl rfl hc (fun _ => rfl) ?_)
  exact X_ret rfl ⟨rfl, rfl⟩
theorem fitsM_eq (m : Mem) (com : List Int) : fitsM m com = !(m.all.any fun c => !com.any fun x => c == x) := by
  unfold fitsM
  rw [List.not_any_eq_all_not]
  congr 1
  funext c
  rw [Bool.not_not]
  congr 1
  funext x
  rw [Bool.eq_iff_iff]; simp only [beq_iff_eq]; exact eq_comm
theorem member1_A (m : Mem) (com : List Int) (hn : com.length ≤ 1000000000) (hm : m.all.length ≤ 1000000000) : ACall Tryz.prog 116 ([aggD (memD m)] ++ [.iptr [usD com] 0]) [] (Just (boolA (fitsM m com))) := by
  have hc := containsF_A m.all 117 [.iptr [usD com] 0] (fun c => !com.any fun x => c == x) (fun c _ => member11_A c com hn) hm
  rw [fitsM_eq]
  obtain ⟨ok, all⟩ := m
  dsimp only at hc ⊢
  obtain ⟨b, hb⟩ : ∃ b, (all.any fun c => !com.any fun x => c == x) = b := ⟨_, rfl⟩
  rw [hb] at hc ⊢
  refine ACall_of tabOk Tryz.func116 rfl Tryz.ntmps116 (congrArg Array.toList Tryz.results116) (by kernel_rfl) rfl ?_
  repeat (first | refine q_Z ?_ | ((first | apply O_y rfl rfl rfl | apply Q_y rfl rfl rfl); (first | exact q_A | exact q_5 | exact q_B | (exact Y_makeFunc rfl rfl))) | refine q_d ?_ | refine q_a ?_ | refine q_b ?_ | refine q_c ?_ | refine A_ct rfl ?_ | refine A_cf rfl ?_ | refine q_W ?_ | refine O_c rfl rfl rfl rfl rfl hc (fun _ => rfl) ?_)
  exact X_ret rfl ⟨rfl, rfl⟩
theorem member_A (l : CLst) (com : List Int) (hl : ∀ m ∈ l.ms, m.all.length ≤ 1000000000) (hc : com.length ≤ 1000000000) (hn : l.ms.length ≤ 1000000000) :
    ACall Tryz.prog 103 [aggD (clstD l), usA com] [] (Just (.tup [intA (if idxOf (fun m => fitsM m com) l.ms < 0 then 0 else idxOf (fun m => fitsM m com) l.ms), boolA (decide (0 ≤ idxOf (fun m => fitsM m com) l.ms))])) := by
  have hf := firstM_A l.ms 116 [.iptr [usD com] 0] (fun m => fitsM m com) (fun m hm => member1_A m com hc (hl m hm)) hn
  obtain ⟨nm, ms⟩ := l
  refine ACall_of tabOk Tryz.func103 rfl Tryz.ntmps103 (congrArg Array.toList Tryz.results103) (by kernel_rfl) rfl ?_
  refine A_seq ?_
  refine R_list ?_
  refine q_d ?_
  refine q_d ?_
  refine O_weaken (Wk_freezeV (id := 3) (ds := [usD com]) rfl rfl) ?_
  repeat (first | refine q_Z ?_ | ((first | apply O_y rfl rfl rfl | apply Q_y rfl rfl rfl); (first | exact q_A | exact q_5 | exact q_B | (exact Y_makeFunc rfl rfl))) | refine q_d ?_ | refine q_a ?_ | refine q_b ?_ | refine q_c ?_ | refine A_ct rfl ?_ | refine A_cf rfl ?_ | refine q_W ?_ | refine O_c rfl rfl rfl rfl rfl hf (fun _ => rfl) ?_)
  exact X_ret rfl ⟨rfl, rfl⟩
set_option maxHeartbeats 4000000 in
theorem allows_A (l : CLst) (com : List Int) (hl : ∀ m ∈ l.ms, m.all.length ≤ 1000000000) (hc : com.length ≤ 1000000000) (hn : l.ms.length ≤ 1000000000) : ACall Tryz.prog 79 [aggD (clstD l), usA com] [] (Just (boolA (allowsL l com))) := by
  have he := member_A l com hl hc hn
  unfold allowsL
  have hfi := idxOf_find (fun m => fitsM m com) l.ms
  obtain ⟨nm, ms⟩ := l
  dsimp only at he hfi ⊢
  rcases hfi with ⟨h1, h2⟩ | ⟨k, hk, h1, h2⟩
  · rw [h1] at he
    rw [h2]
    have he : ACall Tryz.prog 103 [aggD (clstD ⟨nm, ms⟩), usA com] [] (Just (.tup [intA 0, boolA false])) := he
    refine ACall_of tabOk Tryz.func79 rfl Tryz.ntmps79 (congrArg Array.toList Tryz.results79) (by kernel_rfl) rfl ?_
    repeat (first | refine q_Z ?_ | ((first | apply O_y rfl rfl rfl | apply Q_y rfl rfl rfl); (first | exact q_A | exact q_5 | exact q_B)) | refine q_d ?_ | refine q_a ?_ | refine q_b ?_ | refine q_c ?_ | refine A_ct rfl ?_ | refine A_cf rfl ?_ | refine q_W ?_ | refine O_c rfl rfl rfl rfl rfl he (fun _ => rfl) ?_)
    exact X_ret rfl ⟨rfl, rfl⟩
  · rw [h1, if_neg (by omega), decide_eq_true (show (0 : Int) ≤ (k : Int) by omega)] at he
    rw [h2]
    have hw : win (ms.flatMap memD) (k * 2 + 0) 1 = [.sc (.bool ms[k].ok)] := win_flat memD_len ms k 0 1 hk (by decide)
    refine ACall_of tabOk Tryz.func79 rfl Tryz.ntmps79 (congrArg Array.toList Tryz.results79) (by kernel_rfl) rfl ?_
    repeat (first | refine q_Z ?_ | ((first | apply O_y rfl rfl rfl | apply Q_y rfl rfl rfl); (first | exact q_A | exact R_loadi tabOk rfl rfl rfl rfl (by first | exact hw | rfl) rfl rfl | exact q_B | (exact R_index (j := k) tabOk rfl rfl rfl rfl rfl rfl hk))) | refine q_d ?_ | refine q_a ?_ | refine q_b ?_ | refine q_c ?_ | refine A_ct rfl ?_ | refine A_cf rfl ?_ | refine q_W ?_ | refine O_c rfl rfl rfl rfl rfl he (fun _ => rfl) ?_)
    exact X_ret rfl ⟨rfl, rfl⟩
end Go.Proofs.YtpnhkkejcnicoaaGreat.Ab

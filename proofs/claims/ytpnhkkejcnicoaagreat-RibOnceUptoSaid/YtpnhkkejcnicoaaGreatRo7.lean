/-
  Texts of a proof, one behind the other (part 8).
-/
import Derived.Test.YtpnhkkejcnicoaaGreatRo6
set_option linter.unusedVariables false
set_option linter.unusedSimpArgs false
namespace Go.Proofs.YtpnhkkejcnicoaaGreat.Ab
set_option linter.unusedVariables false
set_option maxRecDepth 100000
open Go.RowKit Go.Lib
set_option linter.unusedSimpArgs false
attribute [local irreducible] AWp AOps AQ AYield AEff ACall AWk AAny AAt AThen AIn APost NoPanic
theorem idxPlst_A (L : List PLst) (f : FuncId) (caps : List AVal) (p : PLst → Bool) (hf : ∀ x ∈ L, ACall Tryz.prog f ([aggD (plstD x)] ++ caps) [] (Just (boolA (p x)))) (hn : L.length ≤ 1000000000) :
    ACall Tryz.prog 73 [.d (.sl (L.flatMap plstD) L.length), .fn f caps] [] (Just (intA (idxOf p L))) := by
  refine ACall_of tabOk Tryz.func73 rfl Tryz.ntmps73 (congrArg Array.toList Tryz.results73) (by kernel_rfl) rfl ?_
  repeat (first | refine q_Z ?_ | ((first | apply O_y rfl rfl rfl | apply Q_y rfl rfl rfl); (first | exact q_A | exact q_5 | exact q_B)) | refine q_d ?_ | refine q_a ?_ | refine q_b ?_ | refine q_c ?_ | refine A_ct rfl ?_ | refine A_cf rfl ?_ | refine q_W ?_)
  refine A_loop (fun k : Nat => [(0, .d (.sl (L.flatMap plstD) L.length)), (1, .fn f caps), (7, intA (L.length : Int)), (8, intA (k : Int))]) (fun _ => []) (fun k => k ≤ L.length ∧ ∀ j (hj : j < L.length), j < k → p L[j] = false) (fun k => L.length - k) 0 ⟨Nat.zero_le _, fun j _ h => absurd h (Nat.not_lt_zero j)⟩ (Wk_sel ⟨rfl, rfl, rfl, rfl, trivial⟩ trivial) ?_
  rintro k ⟨hk, hall⟩
  try dsimp only
  by_cases hkL : k < L.length
  · have hq := hf _ (List.getElem_mem hkL)
    have hw := win_flat0 plstD_len L k 2 hkL (by decide)
    cases hp : p L[k] with
    | true =>
      rw [hp] at hq
      repeat (first | refine q_Z ?_ | ((first | apply O_y rfl rfl rfl | apply Q_y rfl rfl rfl); (first | exact q_A | exact R_loadi tabOk rfl rfl rfl rfl hw rfl rfl | exact q_B)) | refine q_d ?_ | refine q_a ?_ | refine q_b ?_ | refine q_c ?_ | refine A_ct rfl ?_ | refine A_cf rfl ?_ | refine q_W ?_ | (refine O_cF rfl rfl rfl rfl rfl rfl hq (fun _ => rfl) ?_))
      refine X_ret rfl ⟨?_, rfl⟩
      rw [idxOf_at p L k hkL (fun j hj => hall j (by omega) hj) hp]
    | false =>
      rw [hp] at hq
      repeat (first | refine q_Z ?_ | ((first | apply O_y rfl rfl rfl | apply Q_y rfl rfl rfl); (first | exact q_A | exact R_loadi tabOk rfl rfl rfl rfl hw rfl rfl | exact q_B)) | refine q_d ?_ | refine q_a ?_ | refine q_b ?_ | refine q_c ?_ | refine A_ct rfl ?_ | refine A_cf rfl ?_ | refine q_W ?_ | (refine O_cF rfl rfl rfl rfl rfl rfl hq (fun _ => rfl) ?_))
      refine ⟨k + 1, ⟨by omega, fun j hj h => ?_⟩, by omega, Wk_sel ⟨rfl, rfl, rfl, rfl, trivial⟩ trivial⟩
      by_cases hjk : j = k
      · subst hjk; exact hp
      · exact hall j hj (by omega)
  ·
    repeat (first | refine q_Z ?_ | ((first | apply O_y rfl rfl rfl | apply Q_y rfl rfl rfl); (first | exact q_A | exact q_5 | exact q_B)) | refine q_d ?_ | refine q_a ?_ | refine q_b ?_ | refine q_c ?_ | refine A_ct rfl ?_ | refine A_cf rfl ?_ | refine q_W ?_)
    refine X_ret rfl ⟨?_, rfl⟩
    rw [idxOf_none p L fun x hx => by
      obtain ⟨j, hj, rfl⟩ := List.mem_iff_getElem.1 hx
      exact hall j hj (by omega)]; rfl
theorem idxClst_A (L : List CLst) (f : FuncId) (caps : List AVal) (p : CLst → Bool) (hf : ∀ x ∈ L, ACall Tryz.prog f ([aggD (clstD x)] ++ caps) [] (Just (boolA (p x)))) (hn : L.length ≤ 1000000000) :
    ACall Tryz.prog 77 [.d (.sl (L.flatMap clstD) L.length), .fn f caps] [] (Just (intA (idxOf p L))) := by
  refine ACall_of tabOk Tryz.func77 rfl Tryz.ntmps77 (congrArg Array.toList Tryz.results77) (by kernel_rfl) rfl ?_
  repeat (first | refine q_Z ?_ | ((first | apply O_y rfl rfl rfl | apply Q_y rfl rfl rfl); (first | exact q_A | exact q_5 | exact q_B)) | refine q_d ?_ | refine q_a ?_ | refine q_b ?_ | refine q_c ?_ | refine A_ct rfl ?_ | refine A_cf rfl ?_ | refine q_W ?_)
  refine A_loop (fun k : Nat => [(0, .d (.sl (L.flatMap clstD) L.length)), (1, .fn f caps), (7, intA (L.length : Int)), (8, intA (k : Int))]) (fun _ => []) (fun k => k ≤ L.length ∧ ∀ j (hj : j < L.length), j < k → p L[j] = false) (fun k => L.length - k) 0 ⟨Nat.zero_le _, fun j _ h => absurd h (Nat.not_lt_zero j)⟩ (Wk_sel ⟨rfl, rfl, rfl, rfl, trivial⟩ trivial) ?_
  rintro k ⟨hk, hall⟩
  try dsimp only
  by_cases hkL : k < L.length
  · have hq := hf _ (List.getElem_mem hkL)
    have hw := win_flat0 clstD_len L k 2 hkL (by decide)
    cases hp : p L[k] with
    | true =>
      rw [hp] at hq
      repeat (first | refine q_Z ?_ | ((first | apply O_y rfl rfl rfl | apply Q_y rfl rfl rfl); (first | exact q_A | exact R_loadi tabOk rfl rfl rfl rfl hw rfl rfl | exact q_B)) | refine q_d ?_ | refine q_a ?_ | refine q_b ?_ | refine q_c ?_ | refine A_ct rfl ?_ | refine A_cf rfl ?_ | refine q_W ?_ | (refine O_cF rfl rfl rfl rfl rfl rfl hq (fun _ => rfl) ?_))
      refine X_ret rfl ⟨?_, rfl⟩
      rw [idxOf_at p L k hkL (fun j hj => hall j (by omega) hj) hp]
    | false =>
      rw [hp] at hq
      repeat (first | refine q_Z ?_ | ((first | apply O_y rfl rfl rfl | apply Q_y rfl rfl rfl); (first | exact q_A | exact R_loadi tabOk rfl rfl rfl rfl hw rfl rfl | exact q_B)) | refine q_d ?_ | refine q_a ?_ | refine q_b ?_ | refine q_c ?_ | refine A_ct rfl ?_ | refine A_cf rfl ?_ | refine q_W ?_ | (refine O_cF rfl rfl rfl rfl rfl rfl hq (fun _ => rfl) ?_))
      refine ⟨k + 1, ⟨by omega, fun j hj h => ?_⟩, by omega, Wk_sel ⟨rfl, rfl, rfl, rfl, trivial⟩ trivial⟩
      by_cases hjk : j = k
      · subst hjk; exact hp
      · exact hall j hj (by omega)
  ·
    repeat (first | refine q_Z ?_ | ((first | apply O_y rfl rfl rfl | apply Q_y rfl rfl rfl); (first | exact q_A | exact q_5 | exact q_B)) | refine q_d ?_ | refine q_a ?_ | refine q_b ?_ | refine q_c ?_ | refine A_ct rfl ?_ | refine A_cf rfl ?_ | refine q_W ?_)
    refine X_ret rfl ⟨?_, rfl⟩
    rw [idxOf_none p L fun x hx => by
      obtain ⟨j, hj, rfl⟩ := List.mem_iff_getElem.1 hx
      exact hall j hj (by omega)]; rfl
theorem idxPol_A (L : List Pol) (f : FuncId) (caps : List AVal) (p : Pol → Bool) (hf : ∀ x ∈ L, ACall Tryz.prog f ([aggD (polD x)] ++ caps) [] (Just (boolA (p x)))) (hn : L.length ≤ 1000000000) :
    ACall Tryz.prog 50 [.d (.sl (L.flatMap polD) L.length), .fn f caps] [] (Just (intA (idxOf p L))) := by
  refine ACall_of tabOk Tryz.func50 rfl Tryz.ntmps50 (congrArg Array.toList Tryz.results50) (by kernel_rfl) rfl ?_
  repeat (first | refine q_Z ?_ | ((first | apply O_y rfl rfl rfl | apply Q_y rfl rfl rfl); (first | exact q_A | exact q_5 | exact q_B)) | refine q_d ?_ | refine q_a ?_ | refine q_b ?_ | refine q_c ?_ | refine A_ct rfl ?_ | refine A_cf rfl ?_ | refine q_W ?_)
  refine A_loop (fun k : Nat => [(0, .d (.sl (L.flatMap polD) L.length)), (1, .fn f caps), (7, intA (L.length : Int)), (8, intA (k : Int))]) (fun _ => []) (fun k => k ≤ L.length ∧ ∀ j (hj : j < L.length), j < k → p L[j] = false) (fun k => L.length - k) 0 ⟨Nat.zero_le _, fun j _ h => absurd h (Nat.not_lt_zero j)⟩ (Wk_sel ⟨rfl, rfl, rfl, rfl, trivial⟩ trivial) ?_
  rintro k ⟨hk, hall⟩
  try dsimp only
  by_cases hkL : k < L.length
  · have hq := hf _ (List.getElem_mem hkL)
    have hw := win_flat0 polD_len L k 3 hkL (by decide)
    cases hp : p L[k] with
    | true =>
      rw [hp] at hq
      repeat (first | refine q_Z ?_ | ((first | apply O_y rfl rfl rfl | apply Q_y rfl rfl rfl); (first | exact q_A | exact R_loadi tabOk rfl rfl rfl rfl hw rfl rfl | exact q_B)) | refine q_d ?_ | refine q_a ?_ | refine q_b ?_ | refine q_c ?_ | refine A_ct rfl ?_ | refine A_cf rfl ?_ | refine q_W ?_ | (refine O_cF rfl rfl rfl rfl rfl rfl hq (fun _ => rfl) ?_))
      refine X_ret rfl ⟨?_, rfl⟩
      rw [idxOf_at p L k hkL (fun j hj => hall j (by omega) hj) hp]
    | false =>
      rw [hp] at hq
      repeat (first | refine q_Z ?_ | ((first | apply O_y rfl rfl rfl | apply Q_y rfl rfl rfl); (first | exact q_A | exact R_loadi tabOk rfl rfl rfl rfl hw rfl rfl | exact q_B)) | refine q_d ?_ | refine q_a ?_ | refine q_b ?_ | refine q_c ?_ | refine A_ct rfl ?_ | refine A_cf rfl ?_ | refine q_W ?_ | (refine O_cF rfl rfl rfl rfl rfl rfl hq (fun _ => rfl) ?_))
      refine ⟨k + 1, ⟨by omega, fun j hj h => ?_⟩, by omega, Wk_sel ⟨rfl, rfl, rfl, rfl, trivial⟩ trivial⟩
      by_cases hjk : j = k
      · subst hjk; exact hp
      · exact hall j hj (by omega)
  ·
    repeat (first | refine q_Z ?_ | ((first | apply O_y rfl rfl rfl | apply Q_y rfl rfl rfl); (first | exact q_A | exact q_5 | exact q_B)) | refine q_d ?_ | refine q_a ?_ | refine q_b ?_ | refine q_c ?_ | refine A_ct rfl ?_ | refine A_cf rfl ?_ | refine q_W ?_)
    refine X_ret rfl ⟨?_, rfl⟩
    rw [idxOf_none p L fun x hx => by
      obtain ⟨j, hj, rfl⟩ := List.mem_iff_getElem.1 hx
      exact hall j hj (by omega)]; rfl
theorem idxEnt_A (L : List LEnt) (f : FuncId) (caps : List AVal) (p : LEnt → Bool) (hf : ∀ x ∈ L, ACall Tryz.prog f ([aggD (lentD x)] ++ caps) [] (Just (boolA (p x)))) (hn : L.length ≤ 1000000000) :
    ACall Tryz.prog 122 [.d (.sl (L.flatMap lentD) L.length), .fn f caps] [] (Just (intA (idxOf p L))) := by
  refine ACall_of tabOk Tryz.func122 rfl Tryz.ntmps122 (congrArg Array.toList Tryz.results122) (by kernel_rfl) rfl ?_
  repeat (first | refine q_Z ?_ | ((first | apply O_y rfl rfl rfl | apply Q_y rfl rfl rfl); (first | exact q_A | exact q_5 | exact q_B)) | refine q_d ?_ | refine q_a ?_ | refine q_b ?_ | refine q_c ?_ | refine A_ct rfl ?_ | refine A_cf rfl ?_ | refine q_W ?_)
  refine A_loop (fun k : Nat => [(0, .d (.sl (L.flatMap lentD) L.length)), (1, .fn f caps), (7, intA (L.length : Int)), (8, intA (k : Int))]) (fun _ => []) (fun k => k ≤ L.length ∧ ∀ j (hj : j < L.length), j < k → p L[j] = false) (fun k => L.length - k) 0 ⟨Nat.zero_le _, fun j _ h => absurd h (Nat.not_lt_zero j)⟩ (Wk_sel ⟨rfl, rfl, rfl, rfl, trivial⟩ trivial) ?_
  rintro k ⟨hk, hall⟩
  try dsimp only
  by_cases hkL : k < L.length
  · have hq := hf _ (List.getElem_mem hkL)
    have hw := win_flat0 lentD_len L k 5 hkL (by decide)
    cases hp : p L[k] with
    | true =>
      rw [hp] at hq
      repeat (first | refine q_Z ?_ | ((first | apply O_y rfl rfl rfl | apply Q_y rfl rfl rfl); (first | exact q_A | exact R_loadi tabOk rfl rfl rfl rfl hw rfl rfl | exact q_B)) | refine q_d ?_ | refine q_a ?_ | refine q_b ?_ | refine q_c ?_ | refine A_ct rfl ?_ | refine A_cf rfl ?_ | refine q_W ?_ | (refine O_cF rfl rfl rfl rfl rfl rfl hq (fun _ => rfl) ?_))
      refine X_ret rfl ⟨?_, rfl⟩
      rw [idxOf_at p L k hkL (fun j hj => hall j (by omega) hj) hp]
    | false =>
      rw [hp] at hq
      repeat (first | refine q_Z ?_ | ((first | apply O_y rfl rfl rfl | apply Q_y rfl rfl rfl); (first | exact q_A | exact R_loadi tabOk rfl rfl rfl rfl hw rfl rfl | exact q_B)) | refine q_d ?_ | refine q_a ?_ | refine q_b ?_ | refine q_c ?_ | refine A_ct rfl ?_ | refine A_cf rfl ?_ | refine q_W ?_ | (refine O_cF rfl rfl rfl rfl rfl rfl hq (fun _ => rfl) ?_))
      refine ⟨k + 1, ⟨by omega, fun j hj h => ?_⟩, by omega, Wk_sel ⟨rfl, rfl, rfl, rfl, trivial⟩ trivial⟩
      by_cases hjk : j = k
      · subst hjk; exact hp
      · exact hall j hj (by omega)
  ·
    repeat (first | refine q_Z ?_ | ((first | apply O_y rfl rfl rfl | apply Q_y rfl rfl rfl); (first | exact q_A | exact q_5 | exact q_B)) | refine q_d ?_ | refine q_a ?_ | refine q_b ?_ | refine q_c ?_ | refine A_ct rfl ?_ | refine A_cf rfl ?_ | refine q_W ?_)
    refine X_ret rfl ⟨?_, rfl⟩
    rw [idxOf_none p L fun x hx => by
      obtain ⟨j, hj, rfl⟩ := List.mem_iff_getElem.1 hx
      exact hall j hj (by omega)]; rfl
theorem idxMem_A (L : List Mem) (f : FuncId) (caps : List AVal) (p : Mem → Bool) (hf : ∀ x ∈ L, ACall Tryz.prog f ([aggD (memD x)] ++ caps) [] (Just (boolA (p x)))) (hn : L.length ≤ 1000000000) :
    ACall Tryz.prog 124 [.d (.sl (L.flatMap memD) L.length), .fn f caps] [] (Just (intA (idxOf p L))) := by
  refine ACall_of tabOk Tryz.func124 rfl Tryz.ntmps124 (congrArg Array.toList Tryz.results124) (by kernel_rfl) rfl ?_
  repeat (first | refine q_Z ?_ | ((first | apply O_y rfl rfl rfl | apply Q_y rfl rfl rfl); (first | exact q_A | exact q_5 | exact q_B)) | refine q_d ?_ | refine q_a ?_ | refine q_b ?_ | refine q_c ?_ | refine A_ct rfl ?_ | refine A_cf rfl ?_ | refine q_W ?_)
  refine A_loop (fun k : Nat => [(0, .d (.sl (L.flatMap memD) L.length)), (1, .fn f caps), (7, intA (L.length : Int)), (8, intA (k : Int))]) (fun _ => []) (fun k => k ≤ L.length ∧ ∀ j (hj : j < L.length), j < k → p L[j] = false) (fun k => L.length - k) 0 ⟨Nat.zero_le _, fun j _ h => absurd h (Nat.not_lt_zero j)⟩ (Wk_sel ⟨rfl, rfl, rfl, rfl, trivial⟩ trivial) ?_
  rintro k ⟨hk, hall⟩
  try dsimp only
  by_cases hkL : k < L.length
  · have hq := hf _ (List.getElem_mem hkL)
    have hw := win_flat0 memD_len L k 2 hkL (by decide)
    cases hp : p L[k] with
    | true =>
      rw [hp] at hq
      repeat (first | refine q_Z ?_ | ((first | apply O_y rfl rfl rfl | apply Q_y rfl rfl rfl); (first | exact q_A | exact R_loadi tabOk rfl rfl rfl rfl hw rfl rfl | exact q_B)) | refine q_d ?_ | refine q_a ?_ | refine q_b ?_ | refine q_c ?_ | refine A_ct rfl ?_ | refine A_cf rfl ?_ | refine q_W ?_ | (refine O_cF rfl rfl rfl rfl rfl rfl hq (fun _ => rfl) ?_))
      refine X_ret rfl ⟨?_, rfl⟩
      rw [idxOf_at p L k hkL (fun j hj => hall j (by omega) hj) hp]
    | false =>
      rw [hp] at hq
      repeat (first | refine q_Z ?_ | ((first | apply O_y rfl rfl rfl | apply Q_y rfl rfl rfl); (first | exact q_A | exact R_loadi tabOk rfl rfl rfl rfl hw rfl rfl | exact q_B)) | refine q_d ?_ | refine q_a ?_ | refine q_b ?_ | refine q_c ?_ | refine A_ct rfl ?_ | refine A_cf rfl ?_ | refine q_W ?_ | (refine O_cF rfl rfl rfl rfl rfl rfl hq (fun _ => rfl) ?_))
      refine ⟨k + 1, ⟨by omega, fun j hj h => ?_⟩, by omega, Wk_sel ⟨rfl, rfl, rfl, rfl, trivial⟩ trivial⟩
      by_cases hjk : j = k
      · subst hjk; exact hp
      · exact hall j hj (by omega)
  ·
    repeat (first | refine q_Z ?_ | ((first | apply O_y rfl rfl rfl | apply Q_y rfl rfl rfl); (first | exact q_A | exact q_5 | exact q_B)) | refine q_d ?_ | refine q_a ?_ | refine q_b ?_ | refine q_c ?_ | refine A_ct rfl ?_ | refine A_cf rfl ?_ | refine q_W ?_)
    refine X_ret rfl ⟨?_, rfl⟩
    rw [idxOf_none p L fun x hx => by
      obtain ⟨j, hj, rfl⟩ := List.mem_iff_getElem.1 hx
      exact hall j hj (by omega)]; rfl
theorem idxU_A (L : List Int) (f : FuncId) (caps : List AVal) (p : Int → Bool) (hf : ∀ x ∈ L, ACall Tryz.prog f ([u32A x] ++ caps) [] (Just (boolA (p x)))) (hn : L.length ≤ 1000000000) :
    ACall Tryz.prog 104 [.d (.sl (L.flatMap u1D) L.length), .fn f caps] [] (Just (intA (idxOf p L))) := by
  refine ACall_of tabOk Tryz.func104 rfl Tryz.ntmps104 (congrArg Array.toList Tryz.results104) (by kernel_rfl) rfl ?_
  repeat (first | refine q_Z ?_ | ((first | apply O_y rfl rfl rfl | apply Q_y rfl rfl rfl); (first | exact q_A | exact q_5 | exact q_B)) | refine q_d ?_ | refine q_a ?_ | refine q_b ?_ | refine q_c ?_ | refine A_ct rfl ?_ | refine A_cf rfl ?_ | refine q_W ?_)
  refine A_loop (fun k : Nat => [(0, .d (.sl (L.flatMap u1D) L.length)), (1, .fn f caps), (7, intA (L.length : Int)), (8, intA (k : Int))]) (fun _ => []) (fun k => k ≤ L.length ∧ ∀ j (hj : j < L.length), j < k → p L[j] = false) (fun k => L.length - k) 0 ⟨Nat.zero_le _, fun j _ h => absurd h (Nat.not_lt_zero j)⟩ (Wk_sel ⟨rfl, rfl, rfl, rfl, trivial⟩ trivial) ?_
  rintro k ⟨hk, hall⟩
  try dsimp only
  by_cases hkL : k < L.length
  · have hq := hf _ (List.getElem_mem hkL)
    have hw := win_flat0 u1D_len L k 1 hkL (by decide)
    cases hp : p L[k] with
    | true =>
      rw [hp] at hq
      repeat (first | refine q_Z ?_ | ((first | apply O_y rfl rfl rfl | apply Q_y rfl rfl rfl); (first | exact q_A | exact R_loadi tabOk rfl rfl rfl rfl hw rfl rfl | exact q_B)) | refine q_d ?_ | refine q_a ?_ | refine q_b ?_ | refine q_c ?_ | refine A_ct rfl ?_ | refine A_cf rfl ?_ | refine q_W ?_ | (refine O_cF rfl rfl rfl rfl rfl rfl hq (fun _ => rfl) ?_))
      refine X_ret rfl ⟨?_, rfl⟩
      rw [idxOf_at p L k hkL (fun j hj => hall j (by omega) hj) hp]
    | false =>
      rw [hp] at hq
      repeat (first | refine q_Z ?_ | ((first | apply O_y rfl rfl rfl | apply Q_y rfl rfl rfl); (first | exact q_A | exact R_loadi tabOk rfl rfl rfl rfl hw rfl rfl | exact q_B)) | refine q_d ?_ | refine q_a ?_ | refine q_b ?_ | refine q_c ?_ | refine A_ct rfl ?_ | refine A_cf rfl ?_ | refine q_W ?_ | (refine O_cF rfl rfl rfl rfl rfl rfl hq (fun _ => rfl) ?_))
      refine ⟨k + 1, ⟨by omega, fun j hj h => ?_⟩, by omega, Wk_sel ⟨rfl, rfl, rfl, rfl, trivial⟩ trivial⟩
      by_cases hjk : j = k
      · subst hjk; exact hp
      · exact hall j hj (by omega)
  ·
    repeat (first | refine q_Z ?_ | ((first | apply O_y rfl rfl rfl | apply Q_y rfl rfl rfl); (first | exact q_A | exact q_5 | exact q_B)) | refine q_d ?_ | refine q_a ?_ | refine q_b ?_ | refine q_c ?_ | refine A_ct rfl ?_ | refine A_cf rfl ?_ | refine q_W ?_)
    refine X_ret rfl ⟨?_, rfl⟩
    rw [idxOf_none p L fun x hx => by
      obtain ⟨j, hj, rfl⟩ := List.mem_iff_getElem.1 hx
      exact hall j hj (by omega)]; rfl
end Go.Proofs.YtpnhkkejcnicoaaGreat.Ab

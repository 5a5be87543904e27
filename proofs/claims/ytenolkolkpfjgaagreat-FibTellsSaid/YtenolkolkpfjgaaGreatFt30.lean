/-
  Texts of a proof, one behind the other (part 31).
-/
import Derived.Test.YtenolkolkpfjgaaGreatFt8
import Derived.Test.YtenolkolkpfjgaaGreatFt25
import Derived.Test.YtenolkolkpfjgaaGreatFt29
set_option linter.unusedVariables false
set_option linter.unusedSimpArgs false
namespace Go.Proofs.YtenolkolkpfjgaaGreat.Ab
set_option linter.unusedVariables false
set_option maxRecDepth 100000
open Go.RowKit Go.Lib
theorem win_atF {cs : List Dat} {o : Nat} {c : Dat} (h : cs[o]? = some c) : win cs o 1 = [c] := by
  obtain ⟨h1, h2⟩ := List.getElem?_eq_some_iff.1 h
  unfold win
  rw [List.drop_eq_getElem_cons h1, h2]
  rfl
theorem setW_lenF {cs ds : List Dat} {o : Nat} (h : o + ds.length ≤ cs.length) : (setW cs o ds).length = cs.length := by
  simp only [setW, List.length_append, List.length_take, List.length_drop]; omega
theorem flat_atF (R : List EntR) (i j : Nat) (hi : i < R.length) (hj : j < 4) : (R.flatMap entRD)[i * 4 + j]? = (entRD R[i])[j]? := by
  induction R generalizing i with
  | nil => simp at hi
  | cons x r ih =>
    rw [List.flatMap_cons]
    cases i with
    | zero => rw [Nat.zero_mul, Nat.zero_add, List.getElem?_append_left (by exact hj)]; rfl
    | succ i =>
      rw [List.getElem?_append_right (by rw [entRD_len]; omega), entRD_len, show (i + 1) * 4 + j - 4 = i * 4 + j by omega]
      exact ih i (by simpa using hi)
theorem famB {R : List EntR} {b0 : Nat} {h : Heap} (h0 : 100 ≤ b0) (hn : b0 + R.length ≤ 300) (hh : ∀ j b, 100 ≤ j → j < 300 → isX b = true → look (famE R b0) j = some b → look h j = some b) : ∀ id b, look (famE R b0) id = some b → look h id = some b := fun id b hb => by
  obtain ⟨h1, h2, h3⟩ := famE_in hb
  exact hh id b (by omega) (by omega) h3 hb
theorem Wk_spo {nt : Nat} {e e1 : Env} {h : Heap} {Y : List EntR} {i n : Nat} {cs : List Dat} (hil : i < Y.length) (hn : Y.length ≤ 200) (he : Sub e1 e) (h9 : look h 900 = some (.row 45 4 n cs)) (hG : ∀ id b, look (famE (Y.drop i) (100 + i)) id = some b → look h id = some b) (hev : ∀ t c, look e1 t = some c → ∀ j, j = 6 ∨ 100 ≤ j ∧ j < 300 → c.has j = false) :
    AWk nt e h e1 ([(900, .row 45 4 n cs), (6, hopX Y[i].v Y[i].x.hs)] ++ famE (Y.drop (i + 1)) (100 + (i + 1))) := by
  have hdr : Y.drop i = Y[i] :: Y.drop (i + 1) := List.drop_eq_getElem_cons hil
  have hl1 : (Y.drop (i + 1)).length = Y.length - (i + 1) := List.length_drop ..
  rw [hdr, famE] at hG
  have inn : ∀ j b, look ((6, hopX Y[i].v Y[i].x.hs) :: famE (Y.drop (i + 1)) (100 + (i + 1))) j = some b → (j = 6 ∧ b = hopX Y[i].v Y[i].x.hs) ∨ (100 + i + 1 ≤ j ∧ j < 300 ∧ j ≠ 6 ∧ isX b = true ∧ look (famE (Y.drop (i + 1)) (100 + i + 1)) j = some b) := fun j b hb => by
    by_cases h6 : 6 = j
    · subst h6; rw [look_cons_same] at hb; cases hb; exact .inl ⟨rfl, rfl⟩
    · rw [look_cons_ne _ _ h6] at hb
      obtain ⟨h1, h2, h3⟩ := famE_in hb
      exact .inr ⟨by omega, by omega, by omega, h3, hb⟩
  have dom : ∀ j, (look ((6, hopX Y[i].v Y[i].x.hs) :: famE (Y.drop (i + 1)) (100 + (i + 1))) j).isSome = true → j = 6 ∨ 100 + i + 1 ≤ j ∧ j < 300 := fun j hj => by
    obtain ⟨b, hb⟩ := Option.isSome_iff_exists.1 hj
    rcases inn j b hb with ⟨h1, _⟩ | ⟨h1, h2, _⟩
    · exact .inl h1
    · exact .inr ⟨h1, h2⟩
  have := Wk_reG (nt := nt) (h := h) (h1 := [(900, .row 45 4 n cs)]) (G := (6, hopX Y[i].v Y[i].x.hs) :: famE (Y.drop (i + 1)) (100 + (i + 1))) (fun j => if j = 6 then some (100 + i) else some j) he ⟨h9, trivial⟩ (fun j b hb => ?_) (fun j j' p hj hj' hs hs' => ?_) (fun j hj => ?_) (fun j p hj hp => ?_) (fun t c ht j hj => ?_) (fun id b hb j hj => ?_)
  · exact this
  · rcases inn j b hb with ⟨h1, h2⟩ | ⟨h1, h2, h3, h4, h5⟩
    · exact ⟨100 + i, by rw [if_pos h1], hG _ _ (by rw [h2]; exact look_cons_same _ _ _), by rw [h2]; exact plain_hops _, by omega⟩
    · exact ⟨j, by rw [if_neg h3], hG _ _ (by rw [look_cons_ne _ _ (by omega)]; exact h5), h4, by omega⟩
  · have d1 := dom j hs
    have d2 := dom j' hs'
    split at hj <;> split at hj' <;> cases hj <;> injection hj' with hj' <;> omega
  · have d1 := dom j hj
    rw [look_cons_ne _ _ (by omega)]; rfl
  · have d1 := dom j hj
    have : p ≠ 900 := by split at hp <;> injection hp with hp <;> omega
    rw [look_cons_ne _ _ (by omega)]; rfl
  · have d1 := dom j hj
    exact hev t c ht j (by omega)
  · by_cases h3 : 900 = id
    · subst h3; rw [look_cons_same] at hb; cases hb; rfl
    · rw [look_cons_ne _ _ h3] at hb; cases hb
set_option linter.unusedSimpArgs false
attribute [local irreducible] AWp AOps AQ AYield AEff ACall AWk AAny AAt AThen AIn APost NoPanic
set_option maxHeartbeats 32000000 in
theorem spoilF_A (Y : List EntR) (hn : Y.length ≤ 200) (hb : ∀ y ∈ Y, y.x.hs.length ≤ 1000000) : ACall Tryz.prog 10 [.row 900] ((900, entRB Y) :: famE Y 100) (fun c h => c = intA ((Y.length + 9 : Nat) : Int)) := by
  refine ACall_of tabOk Tryz.func10 rfl Tryz.ntmps10 (congrArg Array.toList Tryz.results10) (by kernel_rfl) rfl ?_
  repeat (first | refine q_Z ?_ | ((first | apply O_y rfl rfl rfl | apply Q_y rfl rfl rfl); (first | exact q_A | exact q_5 | exact q_B)) | refine q_d ?_ | refine q_a ?_ | refine q_b ?_ | refine q_c ?_ | refine A_ct rfl ?_ | refine A_cf rfl ?_ | refine q_W ?_)
  refine A_loop (fun s : Nat × List Dat => [(0, .row 900), (3, intA (s.1 : Int))]) (fun s => [(900, .row 45 4 Y.length s.2)] ++ famE (Y.drop s.1) (100 + s.1)) (fun s => s.1 ≤ Y.length ∧ s.2.length = Y.length * 4 ∧ ∀ (j : Nat) (hj : j < Y.length), s.1 ≤ j → s.2[j * 4 + 3]? = some (.sc Y[j].v)) (fun s => Y.length - s.1) (0, Y.flatMap entRD) ⟨Nat.zero_le _, flat_len entRD_len Y, fun j hj _ => flat_atF Y j 3 hj (by decide)⟩ (by dsimp only; exact Wk_selG (h1 := [(900, entRB Y)]) (G := famE Y 100) ⟨rfl, rfl, trivial⟩ ⟨rfl, trivial⟩ (famB (by omega) (by omega) fun j b h1 h2 hx hb => fx_cons (by decide) h1 h2 hb)) ?_
  rintro ⟨i, cs⟩ ⟨hi, hcl, hcv⟩
  dsimp only at hi hcl hcv
  try dsimp only
  have hdl : (Y.drop (i + 1)).length = Y.length - (i + 1) := List.length_drop ..
  have hdl0 : (Y.drop i).length = Y.length - i := List.length_drop ..
  by_cases hil : i < Y.length
  rotate_left
  · have hie : i = Y.length := by omega
    subst hie
    repeat (first | refine q_Z ?_ | ((first | apply O_y rfl rfl rfl | apply Q_y rfl rfl rfl); (first | exact q_A | exact q_5 | exact q_B)) | refine q_d ?_ | refine q_a ?_ | refine q_b ?_ | refine q_c ?_ | refine A_ct rfl ?_ | refine A_cf rfl ?_ | refine q_W ?_)
    refine A_loop (fun s : Nat × List Dat => [(0, .row 900), (6, intA (s.1 : Int))]) (fun s => [(900, .row 45 4 (Y.length + s.1) s.2)]) (fun s => s.1 ≤ 9) (fun s => 9 - s.1) (0, cs) (Nat.zero_le _) (by dsimp only; exact Wk_sel ⟨rfl, rfl, trivial⟩ ⟨rfl, trivial⟩) ?_
    rintro ⟨k, ds⟩ hk
    dsimp only at hk
    try dsimp only
    by_cases hk9 : k < 9
    ·
      repeat (first | refine q_Z ?_ | ((first | apply O_y rfl rfl rfl | apply Q_y rfl rfl rfl); (first | exact q_A | exact q_5 | exact q_B)) | refine q_d ?_ | refine q_a ?_ | refine q_b ?_ | refine q_c ?_ | refine A_ct rfl ?_ | refine A_cf rfl ?_ | refine q_W ?_ | (first | refine O_appR tabOk rfl rfl rfl rfl rfl rfl rfl rfl rfl rfl rfl (by first | exact Src.row rfl | exact Src.dat _ _ | exact Src.nil) rfl (by omega) ?_ | refine O_appN tabOk rfl rfl rfl rfl rfl rfl rfl rfl rfl rfl (by first | exact Src.row rfl | exact Src.dat _ _ | exact Src.nil) rfl (by omega) ?_))
      exact ⟨(k + 1, _), by dsimp only; omega, by dsimp only; omega, by dsimp only; exact Wk_sel ⟨rfl, rfl, trivial⟩ ⟨rfl, trivial⟩⟩
    · obtain rfl : k = 9 := by omega
      repeat (first | refine q_Z ?_ | ((first | apply O_y rfl rfl rfl | apply Q_y rfl rfl rfl); (first | exact q_A | exact q_5 | exact q_B)) | refine q_d ?_ | refine q_a ?_ | refine q_b ?_ | refine q_c ?_ | refine A_ct rfl ?_ | refine A_cf rfl ?_ | refine q_W ?_)
      exact X_ret rfl rfl
  have hcw := win_atF (hcv i hil (Nat.le_refl _))
  have hbi := hb _ (List.getElem_mem hil)
  have hmu : (i + 1) * 4 ≤ Y.length * 4 := Nat.mul_le_mul_right _ hil
  have hci := hcv i hil (Nat.le_refl _)
  obtain ⟨y, hy⟩ : ∃ y, Y[i] = y := ⟨_, rfl⟩
  rw [hy] at hcw hci hbi
  repeat (first | refine q_Z ?_ | ((first | apply O_y rfl rfl rfl | apply Q_y rfl rfl rfl); (first | exact q_A | exact q_5 | exact q_B)) | refine q_d ?_ | refine q_a ?_ | refine q_b ?_ | refine q_c ?_ | refine A_ct rfl ?_ | refine A_cf rfl ?_ | refine q_W ?_)
  refine A_loop (fun s : Nat × List Dat => [(0, .row 900), (3, intA (i : Int)), (4, intA (s.1 : Int))]) (fun s => [(900, .row 45 4 Y.length cs), (6, .rowx y.v 66 2 y.x.hs.length s.2)] ++ famE (Y.drop (i + 1)) (100 + (i + 1))) (fun s => s.1 ≤ y.x.hs.length ∧ s.2.length = y.x.hs.length * 2) (fun s => y.x.hs.length - s.1) (0, y.x.hs.flatMap hopD) ⟨Nat.zero_le _, flat_len hopD_len _⟩ (by
    dsimp only
    subst hy
    refine Wk_spo hil hn ?_ ?_ ?_ fun t c ht j hj => ?_
    · exact ⟨rfl, rfl, rfl, trivial⟩
    · exact rfl
    · exact famB (by omega) (by omega) fun j b h1 h2 hx hb => fx_cons (by decide) h1 h2 hb
    have hm := look_memF ht
    simp only [List.mem_cons, Prod.mk.injEq, List.not_mem_nil, or_false] at hm
    rcases hm with ⟨_, rfl⟩ | ⟨_, rfl⟩ | ⟨_, rfl⟩
    · show (900 == j) = false; simp; omega
    · rfl
    · rfl) ?_
  obtain ⟨v, hv⟩ : ∃ v, y.v = v := ⟨_, rfl⟩
  obtain ⟨n, hnn⟩ : ∃ n, y.x.hs.length = n := ⟨_, rfl⟩
  rw [hv] at hcw hci ⊢
  rw [hnn] at hbi ⊢
  clear hv hnn hy
  rintro ⟨k, ds⟩ ⟨hk, hds⟩
  dsimp only at hk hds
  try dsimp only
  by_cases hkn : k < n
  · have hmk : (k + 1) * 2 ≤ n * 2 := Nat.mul_le_mul_right _ hkn
    repeat (first | refine q_Z ?_ | ((first | apply O_y rfl rfl rfl | apply Q_y rfl rfl rfl); (first | exact q_A | exact q_5 | exact q_B | (first | exact R_loade tabOk rfl rfl rfl rfl rfl rfl hcw rfl rfl | exact R_lenx (id := 6) rfl tabOk rfl rfl rfl | exact R_indexx (id := 6) rfl hkn tabOk rfl rfl rfl rfl rfl rfl))) | refine q_d ?_ | refine q_a ?_ | refine q_b ?_ | refine q_c ?_ | refine A_ct rfl ?_ | refine A_cf rfl ?_ | refine q_W ?_)
    refine O_storex (id := 6) (ds := [.sc (.int .u32 99)]) rfl (by omega) (by omega) tabOk rfl rfl rfl rfl rfl rfl rfl rfl rfl ?_
    repeat (first | refine q_Z ?_ | ((first | apply O_y rfl rfl rfl | apply Q_y rfl rfl rfl); (first | exact q_A | exact q_5 | exact q_B)) | refine q_d ?_ | refine q_a ?_ | refine q_b ?_ | refine q_c ?_ | refine A_ct rfl ?_ | refine A_cf rfl ?_ | refine q_W ?_)
    exact ⟨(k + 1, setW ds (k * 2 + 1) [.sc (.int .u32 99)]), ⟨by dsimp only; omega, by dsimp only; rw [setW_lenF (by simp; omega)]; exact hds⟩, by dsimp only; omega, by dsimp only; exact Wk_selG (h1 := [(900, .row 45 4 Y.length cs), (6, .rowx v 66 2 n (setW ds (k * 2 + 1) [.sc (.int .u32 99)]))]) (G := famE (Y.drop (i + 1)) (100 + (i + 1))) ⟨rfl, rfl, rfl, trivial⟩ ⟨rfl, rfl, trivial⟩ (famB (by omega) (by omega) fun j b h1 h2 hx hb => by repeat (first | exact hb | refine fx_cons (by decide) h1 h2 ?_ | refine fx_killH (by decide) h1 h2 hx ?_ | refine fx_killHs (by decide) h1 h2 hx ?_ | refine fx_frH (by decide) h1 h2 hx ?_)) ⟩
  repeat (first | refine q_Z ?_ | ((first | apply O_y rfl rfl rfl | apply Q_y rfl rfl rfl); (first | exact q_A | exact q_5 | exact q_B | (first | exact R_loade tabOk rfl rfl rfl rfl rfl rfl hcw rfl rfl | exact R_lenx (id := 6) rfl tabOk rfl rfl rfl))) | refine q_d ?_ | refine q_a ?_ | refine q_b ?_ | refine q_c ?_ | refine A_ct rfl ?_ | refine A_cf rfl ?_ | refine q_W ?_)
  refine A_loop (fun s : Nat × Value × List Dat × List Dat => [(0, .row 900), (3, intA (i : Int)), (5, intA (s.1 : Int))]) (fun s => [(900, .row 45 4 Y.length s.2.2.2), (6, .rowx s.2.1 66 2 (n + s.1) s.2.2.1)] ++ famE (Y.drop (i + 1)) (100 + (i + 1))) (fun s => s.1 ≤ 9 ∧ s.2.2.2.length = Y.length * 4 ∧ s.2.2.2[i * 4 + 3]? = some (.sc s.2.1) ∧ ∀ (j : Nat) (hj : j < Y.length), i + 1 ≤ j → s.2.2.2[j * 4 + 3]? = some (.sc Y[j].v)) (fun s => 9 - s.1) (0, v, ds, cs) ⟨Nat.zero_le _, hcl, hci, fun j hj h => hcv j hj (by omega)⟩ (by dsimp only; exact Wk_selG (h1 := [(900, .row 45 4 Y.length cs), (6, .rowx v 66 2 (n + 0) ds)]) (G := famE (Y.drop (i + 1)) (100 + (i + 1))) ⟨rfl, rfl, rfl, trivial⟩ ⟨rfl, rfl, trivial⟩ (famB (by omega) (by omega) fun j b h1 h2 hx hb => by repeat (first | exact hb | refine fx_cons (by decide) h1 h2 ?_ | refine fx_killH (by decide) h1 h2 hx ?_ | refine fx_killHs (by decide) h1 h2 hx ?_ | refine fx_frH (by decide) h1 h2 hx ?_)) ) ?_
  clear hcw hci hcv hcl hk hkn hds
  clear ds cs v k y
  rintro ⟨q, v, ds, cs⟩ ⟨hq, hcl, hci, hcv⟩
  dsimp only at hq hcl hci hcv
  try dsimp only
  by_cases hq9 : q < 9
  · have hcw := win_atF hci
    repeat (first | refine q_Z ?_ | ((first | apply O_y rfl rfl rfl | apply Q_y rfl rfl rfl); (first | exact q_A | exact q_5 | exact q_B | (exact R_loade tabOk rfl rfl rfl rfl rfl rfl hcw rfl rfl))) | refine q_d ?_ | refine q_a ?_ | refine q_b ?_ | refine q_c ?_ | refine A_ct rfl ?_ | refine A_cf rfl ?_ | refine q_W ?_)
    refine O_weaken (Wk_name (t := 41) (id := 6) rfl rfl rfl) ?_
    (first | refine O_appR tabOk rfl rfl rfl rfl rfl rfl rfl rfl rfl rfl rfl (by first | exact Src.row rfl | exact Src.dat _ _ | exact Src.nil) rfl (by omega) ?_ | refine O_appN tabOk rfl rfl rfl rfl rfl rfl rfl rfl rfl rfl (by first | exact Src.row rfl | exact Src.dat _ _ | exact Src.nil) rfl (by omega) ?_)
    refine O_weakX (Wk_rawI (id := 6) rfl) fun bc => ?_
    obtain ⟨b0, c0⟩ := bc
    try dsimp only
    repeat (first | refine q_Z ?_ | ((first | apply O_y rfl rfl rfl | apply Q_y rfl rfl rfl); (first | exact q_A | exact q_5 | exact q_B)) | refine q_d ?_ | refine q_a ?_ | refine q_b ?_ | refine q_c ?_ | refine A_ct rfl ?_ | refine A_cf rfl ?_ | refine q_W ?_)
    refine O_storee (ds := [.sc (.slice b0 (n + q + 1) c0)]) tabOk rfl rfl rfl rfl rfl rfl rfl rfl rfl rfl (by omega) (by omega) ?_
    repeat (first | refine q_Z ?_ | ((first | apply O_y rfl rfl rfl | apply Q_y rfl rfl rfl); (first | exact q_A | exact q_5 | exact q_B)) | refine q_d ?_ | refine q_a ?_ | refine q_b ?_ | refine q_c ?_ | refine A_ct rfl ?_ | refine A_cf rfl ?_ | refine q_W ?_)
    have hle : i * 4 + 3 + [Dat.sc (.slice b0 (n + q + 1) c0)].length ≤ cs.length := by simp; omega
    refine ⟨(q + 1, .slice b0 (n + q + 1) c0, ds ++ [.sc (.string ⟨#[]⟩), .sc (.int .u32 0)], setW cs (i * 4 + 3) [.sc (.slice b0 (n + q + 1) c0)]), ⟨by dsimp only; omega, by dsimp only; rw [setW_lenF hle]; exact hcl, by dsimp only; rw [setW_get hle, if_pos (by simp)]; simp, fun j hj h => by dsimp only; rw [setW_get hle, if_neg (by simp; omega)]; exact hcv j hj h⟩, by dsimp only; omega, ?_⟩
    dsimp only
    refine Wk_selG (G := famE (Y.drop (i + 1)) (100 + (i + 1))) ?_ ?_ ?_
    · exact ⟨rfl, rfl, rfl, trivial⟩
    · exact ⟨rfl, rfl, trivial⟩
    · exact (famB (by omega) (by omega) fun j b h1 h2 hx hb => by repeat (first | exact hb | refine fx_cons (by decide) h1 h2 ?_ | refine fx_killH (by decide) h1 h2 hx ?_ | refine fx_killHs (by decide) h1 h2 hx ?_ | refine fx_frH (by decide) h1 h2 hx ?_))
  obtain rfl : q = 9 := by omega
  repeat (first | refine q_Z ?_ | ((first | apply O_y rfl rfl rfl | apply Q_y rfl rfl rfl); (first | exact q_A | exact q_5 | exact q_B)) | refine q_d ?_ | refine q_a ?_ | refine q_b ?_ | refine q_c ?_ | refine A_ct rfl ?_ | refine A_cf rfl ?_ | refine q_W ?_)
  refine O_storee (ds := [.sc (.int .i64 99)]) tabOk rfl rfl rfl rfl rfl rfl rfl rfl rfl rfl (by omega) (by omega) ?_
  repeat (first | refine q_Z ?_ | ((first | apply O_y rfl rfl rfl | apply Q_y rfl rfl rfl); (first | exact q_A | exact q_5 | exact q_B)) | refine q_d ?_ | refine q_a ?_ | refine q_b ?_ | refine q_c ?_ | refine A_ct rfl ?_ | refine A_cf rfl ?_ | refine q_W ?_)
  have hle : i * 4 + 1 + [Dat.sc (.int .i64 99)].length ≤ cs.length := by simp; omega
  exact ⟨(i + 1, setW cs (i * 4 + 1) [.sc (.int .i64 99)]), ⟨by dsimp only; omega, by dsimp only; rw [setW_lenF hle]; exact hcl, fun j hj h => by dsimp only; rw [setW_get hle, if_neg (by simp; omega)]; exact hcv j hj h⟩, by dsimp only; omega, by dsimp only; exact Wk_selG (h1 := [(900, .row 45 4 Y.length (setW cs (i * 4 + 1) [.sc (.int .i64 99)]))]) (G := famE (Y.drop (i + 1)) (100 + (i + 1))) ⟨rfl, rfl, trivial⟩ ⟨rfl, trivial⟩ (famB (by omega) (by omega) fun j b h1 h2 hx hb => by repeat (first | exact hb | refine fx_cons (by decide) h1 h2 ?_ | refine fx_killH (by decide) h1 h2 hx ?_ | refine fx_killHs (by decide) h1 h2 hx ?_ | refine fx_frH (by decide) h1 h2 hx ?_)) ⟩
end Go.Proofs.YtenolkolkpfjgaaGreat.Ab

namespace Go.Proofs.YtenolkolkpfjgaaGreat.Ab
set_option linter.unusedVariables false
set_option maxRecDepth 100000
open Go.RowKit Go.Lib
def gF (r b n p : Nat) : Option Nat := if p = 900 then some r else if 100 ≤ p ∧ p < 100 + n then some (p - 100 + b) else none
theorem gF_inv {r b n p j : Nat} (h : gF r b n p = some j) : (p = 900 ∧ j = r) ∨ (100 ≤ p ∧ p < 100 + n ∧ j = p - 100 + b) := by
  unfold gF at h
  split at h
  · rename_i h1; cases h; exact .inl ⟨h1, rfl⟩
  · split at h
    · rename_i h1; cases h; exact .inr ⟨h1.1, h1.2, rfl⟩
    · cases h
theorem plain_entR (Y : List EntR) : plainB (entRB Y) = true := by
  show (Y.flatMap entRD).all plainD = true
  rw [List.all_eq_true]
  intro c hc
  obtain ⟨x, _, hx⟩ := List.mem_flatMap.1 hc
  simp [entRD] at hx
  rcases hx with rfl | rfl | rfl | rfl <;> rfl
section
variable {Y : List EntR} {H : Heap} {r b : Nat}
theorem awayF_l (hn : Y.length ≤ 200) (hr : look H r = some (entRB Y)) (hG : ∀ id bl, look (famE Y b) id = some bl → look H id = some bl) : ∀ p bl, look ((900, entRB Y) :: famE Y 100) p = some bl → ∃ i, gF r b Y.length p = some i ∧ look H i = some bl ∧ plainB bl = true := by
  intro p bl hb
  by_cases hp : 900 = p
  · subst hp
    rw [look_cons_same] at hb
    cases hb
    exact ⟨r, if_pos rfl, hr, plain_entR Y⟩
  · rw [look_cons_ne _ _ hp] at hb
    have hx := isX_plain (famE_in hb).2.2
    obtain ⟨i, hi, rfl, rfl⟩ := famE_inv Y 100 p bl hb
    refine ⟨b + i, ?_, hG _ _ (famE_at Y b i hi), hx⟩
    unfold gF
    rw [if_neg (fun h => hp h.symm), if_pos ⟨by omega, by omega⟩, show 100 + i - 100 + b = b + i by omega]
theorem awayF_dom (hn : Y.length ≤ 200) (hr : r < 1000) (hb : b + 200 ≤ 1000) : ∀ p i, gF r b Y.length p = some i → i < 1000 ∧ (look ((900, entRB Y) :: famE Y 100) p).isSome = true := by
  intro p j hp
  rcases gF_inv hp with ⟨rfl, rfl⟩ | ⟨h1, h2, rfl⟩
  · exact ⟨hr, by rw [look_cons_same]; rfl⟩
  · have := famE_at Y 100 (p - 100) (by omega)
    rw [show 100 + (p - 100) = p by omega] at this
    exact ⟨by omega, by rw [look_cons_ne _ _ (by omega), this]; rfl⟩
theorem awayF_inj (hn : Y.length ≤ 200) (hrb : r < b ∨ b + 200 ≤ r) : ∀ p q i, gF r b Y.length p = some i → gF r b Y.length q = some i → p = q := by
  intro p q j hp hq
  rcases gF_inv hp with ⟨rfl, rfl⟩ | ⟨h1, h2, rfl⟩ <;> rcases gF_inv hq with ⟨rfl, h4⟩ | ⟨h3, h4, h5⟩ <;> omega
theorem awayF_2 {h2 : Heap} (hn : Y.length ≤ 200) (h : ∀ id bl, look h2 id = some bl → look H id = some bl ∧ id ≠ r ∧ (id < b ∨ b + 200 ≤ id)) : ∀ id bl, look h2 id = some bl → look H id = some bl ∧ ∀ p, gF r b Y.length p ≠ some id := by
  intro id bl hb
  obtain ⟨h1, h3, h4⟩ := h id bl hb
  refine ⟨h1, fun p hp => ?_⟩
  rcases gF_inv hp with ⟨_, h5⟩ | ⟨h5, h6, h7⟩ <;> omega
end
theorem entsB_q (Y : List EntR) (r b : Nat) (hr : r < 1000) (hb : b + 200 ≤ 1000) (hn : Y.length ≤ 200) : (((r, entRB Y) :: famE Y b).map (·.1)).all (fun j => Nat.blt j 1000) = true ∧ plainV (.row r) = true ∧ (∀ id bl, look ((r, entRB Y) :: famE Y b) id = some bl → plainB bl = true) ∧ ∀ j, (AVal.row r).has j = true → (look ((r, entRB Y) :: famE Y b) j).isSome = true := by
  refine ⟨?_, rfl, fun id bl hb2 => ?_, fun j hj => ?_⟩
  · rw [List.all_eq_true]
    intro j hj
    rcases List.mem_cons.1 hj with rfl | h1
    · exact Nat.ble_eq_true_of_le hr
    · obtain ⟨bl, hb2⟩ := look_of_key h1
      have := famE_in hb2
      exact Nat.ble_eq_true_of_le (by omega)
  · by_cases h : r = id
    · subst h; rw [look_cons_same] at hb2; cases hb2; exact plain_entR Y
    · rw [look_cons_ne _ _ h] at hb2; exact isX_plain (famE_in hb2).2.2
  · have h1 : (r == j) = true := hj
    have : r = j := by simpa using h1
    subst this
    rw [look_cons_same]; rfl
theorem entR_lend {h : Heap} {Y : List EntR} {b : Nat} (hG : ∀ id bl, look (famE Y b) id = some bl → look h id = some bl) : RawDs h (Y.flatMap entRD) ((Y.map (·.x)).flatMap entD) := by
  have key : ∀ (Y : List EntR) (b : Nat), (∀ id bl, look (famE Y b) id = some bl → look h id = some bl) → RawDs h (Y.flatMap entRD) ((Y.map (·.x)).flatMap entD) := by
    intro Y
    induction Y with
    | nil => intro b _; exact RawDs.nil h
    | cons y r ih =>
      intro b hG
      rw [List.map_cons, List.flatMap_cons, List.flatMap_cons]
      refine RawDs.app ?_ (ih (b + 1) fun id bl hb => hG id bl ?_)
      · exact .cons (.same _) (.cons (.same _) (.cons (.same _) (.cons (.row y.v b 66 2 y.x.hs.length (y.x.hs.flatMap hopD) (hG b _ (look_cons_same _ _ _))) (.nil _))))
      · rw [famE, look_cons_ne _ _ (by have := (famE_in hb).1; omega)]; exact hb
  exact key Y b hG
theorem entR_row {h : Heap} {Y : List EntR} {r b : Nat} (hr : look h r = some (entRB Y)) (hG : ∀ id bl, look (famE Y b) id = some bl → look h id = some bl) : RawV h (.row r) (entsA (Y.map (·.x))) := by
  show RawV h (.row r) (.d (.sl ((Y.map (·.x)).flatMap entD) (Y.map (·.x)).length))
  rw [List.length_map]
  exact .row r _ 4 Y.length _ _ hr (entR_lend hG)
theorem entR_one {h : Heap} {x : Ent} {v : Value} {j : Nat} (hj : look h j = some (hopX v x.hs)) : RawV h (entRA ⟨x, v⟩) (entA x) :=
  .agg (entRD ⟨x, v⟩) (entD x) (.cons (.same _) (.cons (.same _) (.cons (.same _) (.cons (.row v j 66 2 x.hs.length (x.hs.flatMap hopD) hj) (.nil _)))))
end Go.Proofs.YtenolkolkpfjgaaGreat.Ab

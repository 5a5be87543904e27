/-
  Texts of a proof, one behind the other (part 25).
-/
import Derived.Test.YtblgdfcijkaimaaBg11
import Derived.Test.YtblgdfcijkaimaaBg16
import Derived.Test.YtblgdfcijkaimaaBg20
set_option linter.unusedVariables false
set_option linter.unusedSimpArgs false
namespace Go.Proofs.Ytblgdfcijkaimaa.Ab
set_option linter.unusedVariables false
set_option maxRecDepth 100000
open Go.RowKit Go.Lib
theorem win_at {α : Type} {cs : List α} {o : Nat} {c : α} (h : cs[o]? = some c) : win cs o 1 = [c] := by
  obtain ⟨h1, h2⟩ := List.getElem?_eq_some_iff.1 h
  unfold win
  rw [List.drop_eq_getElem_cons h1, h2]
  rfl
structure SpC (R : List AdvR) (cs : List Dat) : Prop where
  len : cs.length = R.length * 13
  c1 : ∀ (i : Nat) (hi : i < R.length), cs[i * 13 + 5]? = some (.sc R[i].v1)
  c2 : ∀ (i : Nat) (hi : i < R.length), cs[i * 13 + 6]? = some (.sc R[i].v2)
  c3 : ∀ (i : Nat) (hi : i < R.length), cs[i * 13 + 11]? = some (.sc R[i].v3)
theorem SpC.set {R : List AdvR} {cs : List Dat} (h : SpC R cs) {i : Nat} (hi : i < R.length) (x : Dat) : SpC R (setW cs (i * 13 + 3) [x]) := by
  have hl := h.len
  have hle : i * 13 + 3 + [x].length ≤ cs.length := by have : (i + 1) * 13 ≤ R.length * 13 := Nat.mul_le_mul_right _ hi; simp; omega
  have key : ∀ j, j ≠ i * 13 + 3 → (setW cs (i * 13 + 3) [x])[j]? = cs[j]? := fun j hj => by
    rw [setW_get hle, if_neg (by simp; omega)]
  refine ⟨?_, fun j hj => ?_, fun j hj => ?_, fun j hj => ?_⟩
  · simp only [setW, List.length_append, List.length_take, List.length_drop, List.length_cons, List.length_nil] at hle ⊢; omega
  · rw [key _ (by omega)]; exact h.c1 j hj
  · rw [key _ (by omega)]; exact h.c2 j hj
  · rw [key _ (by omega)]; exact h.c3 j hj
theorem flat_at (R : List AdvR) (i j : Nat) (hi : i < R.length) (hj : j < 13) : (R.flatMap advRD)[i * 13 + j]? = (advRD R[i])[j]? := by
  induction R generalizing i with
  | nil => simp at hi
  | cons x r ih =>
    rw [List.flatMap_cons]
    cases i with
    | zero => rw [Nat.zero_mul, Nat.zero_add, List.getElem?_append_left (by exact hj)]; rfl
    | succ i =>
      rw [List.getElem?_append_right (by rw [advRD_len]; omega), advRD_len, show (i + 1) * 13 + j - 13 = i * 13 + j by omega]
      exact ih i (by simpa using hi)
theorem SpC.first (R : List AdvR) : SpC R (R.flatMap advRD) :=
  ⟨flat_len advRD_len R, fun i hi => flat_at R i 5 hi (by decide), fun i hi => flat_at R i 6 hi (by decide), fun i hi => flat_at R i 11 hi (by decide)⟩
structure SpG (R : List AdvR) (G : Heap) : Prop where
  no : look G 1000 = none
  o1 : ∀ (i : Nat) (hi : i < R.length), ∃ cs, look G (3 * i + 1001) = some (.rowx R[i].v1 27 1 cs.length cs) ∧ cs.length ≤ 140737488355328
  o2 : ∀ (i : Nat) (hi : i < R.length), ∃ cs, look G (3 * i + 1002) = some (.rowx R[i].v2 27 1 cs.length cs) ∧ cs.length ≤ 140737488355328
  o3 : ∀ (i : Nat) (hi : i < R.length), ∃ cs, look G (3 * i + 1003) = some (.rowx R[i].v3 28 1 cs.length cs) ∧ cs.length ≤ 140737488355328
theorem SpG.put {R : List AdvR} {G : Heap} (h : SpG R G) {id : Nat} {v : Value} {e : TypeId} {cs cs' : List Dat} (hid : id ≠ 1000) (hl : look G id = some (.rowx v e 1 cs.length cs)) (hn : cs'.length = cs.length) : SpG R ((id, .rowx v e 1 cs.length cs') :: G) := by
  have key : ∀ j w q, (∃ ds, look G j = some (.rowx w q 1 ds.length ds) ∧ ds.length ≤ 140737488355328) → ∃ ds, look ((id, ABlk.rowx v e 1 cs.length cs') :: G) j = some (.rowx w q 1 ds.length ds) ∧ ds.length ≤ 140737488355328 := fun j w q ⟨ds, hd, hb⟩ => by
    by_cases hj : id = j
    · subst hj
      rw [hl] at hd
      injection hd with hd
      injection hd with h1 h2 _ _ h5
      subst h1 h2 h5
      exact ⟨cs', by rw [look_cons_same, hn], by rw [hn]; exact hb⟩
    · exact ⟨ds, by rw [look_cons_ne _ _ hj]; exact hd, hb⟩
  exact ⟨by rw [look_cons_ne _ _ hid]; exact h.no, fun i hi => key _ _ _ (h.o1 i hi), fun i hi => key _ _ _ (h.o2 i hi), fun i hi => key _ _ _ (h.o3 i hi)⟩
theorem sp_sub {G : Heap} {b : ABlk} {id : Nat} {x : ABlk} (hno : look G 1000 = none) : ∀ j c, look ((id, x) :: G) j = some c → id ≠ 1000 → look ((id, x) :: (1000, b) :: G) j = some c := fun j c hc hid => by
  by_cases hj : id = j
  · subst hj; rw [look_cons_same] at hc ⊢; exact hc
  · rw [look_cons_ne _ _ hj] at hc ⊢
    rw [look_cons_ne _ _ (by rintro rfl; rw [hno] at hc; cases hc)]; exact hc
theorem sp_look {G : Heap} {b : ABlk} (hno : look G 1000 = none) (id : Nat) (c : ABlk) (hc : look G id = some c) : look ((1000, b) :: G) id = some c := by
  rw [look_cons_ne _ _ (by rintro rfl; rw [hno] at hc; cases hc)]; exact hc
theorem sp_look2 {G : Heap} {a b : ABlk} (hno : look G 1000 = none) (id : Nat) (c : ABlk) (hc : look G id = some c) : look ((1000, a) :: (1000, b) :: G) id = some c := by
  have hne : 1000 ≠ id := by rintro rfl; rw [hno] at hc; cases hc
  rw [look_cons_ne _ _ hne, look_cons_ne _ _ hne]; exact hc
theorem spW_len {cs ds : List Dat} {o : Nat} (h : o + ds.length ≤ cs.length) : (setW cs o ds).length = cs.length := by
  simp only [setW, List.length_append, List.length_take, List.length_drop]; omega
set_option linter.unusedSimpArgs false
attribute [local irreducible] AWp AOps AQ AYield AEff ACall AWk AAny AAt AThen AIn APost NoPanic
set_option maxHeartbeats 16000000 in
theorem spoilB_A (R : List AdvR) (G0 : Heap) (hG0 : SpG R G0) (hn : R.length ≤ 1000000) : ACall Try.prog 12 [.row 1000] ((1000, rB R) :: G0) (fun c h => c = .tup []) := by
  refine ACall_of tabOk Try.func12 rfl Try.ntmps12 (congrArg Array.toList Try.results12) (by kernel_rfl) rfl ?_
  repeat (first | refine q_Z ?_ | refine R_quiet rfl mixed (by kernel_rfl) ?_ | ((first | apply O_y rfl rfl rfl | apply Q_y rfl rfl rfl); (first | exact q_A | exact q_5 | exact q_B)) | refine q_d ?_ | refine q_a ?_ | refine q_b ?_ | refine q_c ?_ | refine A_ct rfl ?_ | refine A_cf rfl ?_ | refine q_W ?_)
  refine A_loop (fun x : Nat × List Dat × Heap => [(0, .row 1000), (2, intA (x.1 : Int))]) (fun x => [(1000, .row 34 13 R.length x.2.1)] ++ x.2.2) (fun x => x.1 ≤ R.length ∧ SpC R x.2.1 ∧ SpG R x.2.2) (fun x => R.length - x.1) (0, R.flatMap advRD, G0) ⟨Nat.zero_le _, SpC.first R, hG0⟩ (by dsimp only; exact Wk_selG (h1 := [(1000, rB R)]) (G := G0) ⟨rfl, rfl, trivial⟩ ⟨rfl, trivial⟩ (sp_look hG0.no)) ?_
  rintro ⟨i, cs, G⟩ ⟨hi, hC, hG⟩
  dsimp only at hi hC hG
  try dsimp only
  by_cases hil : i < R.length
  rotate_left
  ·
    repeat (first | refine q_Z ?_ | refine R_quiet rfl mixed (by kernel_rfl) ?_ | ((first | apply O_y rfl rfl rfl | apply Q_y rfl rfl rfl); (first | exact q_A | exact q_5 | exact q_B)) | refine q_d ?_ | refine q_a ?_ | refine q_b ?_ | refine q_c ?_ | refine A_ct rfl ?_ | refine A_cf rfl ?_ | refine q_W ?_)
    exact X_end rfl rfl
  repeat (first | refine q_Z ?_ | refine R_quiet rfl mixed (by kernel_rfl) ?_ | ((first | apply O_y rfl rfl rfl | apply Q_y rfl rfl rfl); (first | exact q_A | exact q_5 | exact q_B)) | refine q_d ?_ | refine q_a ?_ | refine q_b ?_ | refine q_c ?_ | refine A_ct rfl ?_ | refine A_cf rfl ?_ | refine q_W ?_)
  obtain ⟨c3, hc3, hb3⟩ := hG.o1 i hil
  have hcw := win_at (hC.c1 i hil)
  refine A_loop (fun x : Nat × Heap => [(0, .row 1000), (2, intA (i : Int)), (3, intA (x.1 : Int))]) (fun x => [(1000, .row 34 13 R.length cs)] ++ x.2) (fun x => SpG R x.2 ∧ x.1 ≤ c3.length ∧ ∃ c, look x.2 (3 * i + 1001) = some (.rowx R[i].v1 27 1 c.length c) ∧ c.length = c3.length) (fun x => c3.length - x.1) (0, G) ⟨hG, Nat.zero_le _, c3, hc3, rfl⟩ (by dsimp only; exact Wk_selG (h1 := [(1000, .row 34 13 R.length cs)]) (G := G) ⟨rfl, rfl, rfl, trivial⟩ ⟨rfl, trivial⟩ (sp_look hG.no)) ?_
  clear hc3 hG
  clear G
  rintro ⟨k, G⟩ ⟨hG, hkc, c, hc, hcl⟩
  dsimp only at hG hkc hc hcl
  try dsimp only
  have hb : look ([(1000, ABlk.row 34 13 R.length cs)] ++ G) (3 * i + 1001) = some (.rowx R[i].v1 27 1 c.length c) := by
    show look ((1000, _) :: G) _ = _
    rw [look_cons_ne _ _ (by omega)]; exact hc
  by_cases hk : k < c.length
  ·
    repeat (first | refine q_Z ?_ | refine R_quiet rfl mixed (by kernel_rfl) ?_ | ((first | apply O_y rfl rfl rfl | apply Q_y rfl rfl rfl); (first | exact q_A | exact q_5 | exact q_B | (first | exact R_loade tabOk rfl rfl rfl rfl rfl rfl hcw rfl rfl | exact R_lenx hb tabOk rfl rfl rfl | exact R_indexx hb hk tabOk rfl rfl rfl rfl rfl rfl))) | refine q_d ?_ | refine q_a ?_ | refine q_b ?_ | refine q_c ?_ | refine A_ct rfl ?_ | refine A_cf rfl ?_ | refine q_W ?_ | (refine O_storex (ds := [uD 77]) hb (by omega) (by omega) tabOk rfl rfl rfl rfl rfl rfl rfl rfl rfl ?_))
    have hsl : (setW c (k * 1) [uD 77]).length = c.length := spW_len (by simp; omega)
    exact ⟨(k + 1, (3 * i + 1001, .rowx R[i].v1 27 1 c.length (setW c (k * 1) [uD 77])) :: G), ⟨hG.put (by omega) hc hsl, by dsimp only; omega, setW c (k * 1) [uD 77], by dsimp only; rw [look_cons_same, hsl], by rw [hsl]; exact hcl⟩, by dsimp only; omega, by dsimp only; exact Wk_selG (h1 := [(1000, .row 34 13 R.length cs)]) ⟨rfl, rfl, rfl, trivial⟩ ⟨look_cons_ne _ _ (by omega), trivial⟩ fun j b hb => sp_sub hG.no j b hb (by omega)⟩
  repeat (first | refine q_Z ?_ | refine R_quiet rfl mixed (by kernel_rfl) ?_ | ((first | apply O_y rfl rfl rfl | apply Q_y rfl rfl rfl); (first | exact q_A | exact q_5 | exact q_B | (first | exact R_loade tabOk rfl rfl rfl rfl rfl rfl hcw rfl rfl | exact R_lenx hb tabOk rfl rfl rfl))) | refine q_d ?_ | refine q_a ?_ | refine q_b ?_ | refine q_c ?_ | refine A_ct rfl ?_ | refine A_cf rfl ?_ | refine q_W ?_)
  clear hb hk hc hcl hkc hcw
  obtain ⟨c4, hc4, hb4⟩ := hG.o2 i hil
  have hcw := win_at (hC.c2 i hil)
  refine A_loop (fun x : Nat × Heap => [(0, .row 1000), (2, intA (i : Int)), (4, intA (x.1 : Int))]) (fun x => [(1000, .row 34 13 R.length cs)] ++ x.2) (fun x => SpG R x.2 ∧ x.1 ≤ c4.length ∧ ∃ c, look x.2 (3 * i + 1002) = some (.rowx R[i].v2 27 1 c.length c) ∧ c.length = c4.length) (fun x => c4.length - x.1) (0, G) ⟨hG, Nat.zero_le _, c4, hc4, rfl⟩ (by dsimp only; exact Wk_selG (h1 := [(1000, .row 34 13 R.length cs)]) (G := G) ⟨rfl, rfl, rfl, trivial⟩ ⟨rfl, trivial⟩ (sp_look hG.no)) ?_
  clear hc4 hG
  clear G
  rintro ⟨k, G⟩ ⟨hG, hkc, c, hc, hcl⟩
  dsimp only at hG hkc hc hcl
  try dsimp only
  have hb : look ([(1000, ABlk.row 34 13 R.length cs)] ++ G) (3 * i + 1002) = some (.rowx R[i].v2 27 1 c.length c) := by
    show look ((1000, _) :: G) _ = _
    rw [look_cons_ne _ _ (by omega)]; exact hc
  by_cases hk : k < c.length
  ·
    repeat (first | refine q_Z ?_ | refine R_quiet rfl mixed (by kernel_rfl) ?_ | ((first | apply O_y rfl rfl rfl | apply Q_y rfl rfl rfl); (first | exact q_A | exact q_5 | exact q_B | (first | exact R_loade tabOk rfl rfl rfl rfl rfl rfl hcw rfl rfl | exact R_lenx hb tabOk rfl rfl rfl | exact R_indexx hb hk tabOk rfl rfl rfl rfl rfl rfl))) | refine q_d ?_ | refine q_a ?_ | refine q_b ?_ | refine q_c ?_ | refine A_ct rfl ?_ | refine A_cf rfl ?_ | refine q_W ?_ | (refine O_storex (ds := [uD 77]) hb (by omega) (by omega) tabOk rfl rfl rfl rfl rfl rfl rfl rfl rfl ?_))
    have hsl : (setW c (k * 1) [uD 77]).length = c.length := spW_len (by simp; omega)
    exact ⟨(k + 1, (3 * i + 1002, .rowx R[i].v2 27 1 c.length (setW c (k * 1) [uD 77])) :: G), ⟨hG.put (by omega) hc hsl, by dsimp only; omega, setW c (k * 1) [uD 77], by dsimp only; rw [look_cons_same, hsl], by rw [hsl]; exact hcl⟩, by dsimp only; omega, by dsimp only; exact Wk_selG (h1 := [(1000, .row 34 13 R.length cs)]) ⟨rfl, rfl, rfl, trivial⟩ ⟨look_cons_ne _ _ (by omega), trivial⟩ fun j b hb => sp_sub hG.no j b hb (by omega)⟩
  repeat (first | refine q_Z ?_ | refine R_quiet rfl mixed (by kernel_rfl) ?_ | ((first | apply O_y rfl rfl rfl | apply Q_y rfl rfl rfl); (first | exact q_A | exact q_5 | exact q_B | (first | exact R_loade tabOk rfl rfl rfl rfl rfl rfl hcw rfl rfl | exact R_lenx hb tabOk rfl rfl rfl))) | refine q_d ?_ | refine q_a ?_ | refine q_b ?_ | refine q_c ?_ | refine A_ct rfl ?_ | refine A_cf rfl ?_ | refine q_W ?_)
  clear hb hk hc hcl hkc hcw
  obtain ⟨c5, hc5, hb5⟩ := hG.o3 i hil
  have hcw := win_at (hC.c3 i hil)
  refine A_loop (fun x : Nat × Heap => [(0, .row 1000), (2, intA (i : Int)), (5, intA (x.1 : Int))]) (fun x => [(1000, .row 34 13 R.length cs)] ++ x.2) (fun x => SpG R x.2 ∧ x.1 ≤ c5.length ∧ ∃ c, look x.2 (3 * i + 1003) = some (.rowx R[i].v3 28 1 c.length c) ∧ c.length = c5.length) (fun x => c5.length - x.1) (0, G) ⟨hG, Nat.zero_le _, c5, hc5, rfl⟩ (by dsimp only; exact Wk_selG (h1 := [(1000, .row 34 13 R.length cs)]) (G := G) ⟨rfl, rfl, rfl, trivial⟩ ⟨rfl, trivial⟩ (sp_look hG.no)) ?_
  clear hc5 hG
  clear G
  rintro ⟨k, G⟩ ⟨hG, hkc, c, hc, hcl⟩
  dsimp only at hG hkc hc hcl
  try dsimp only
  have hb : look ([(1000, ABlk.row 34 13 R.length cs)] ++ G) (3 * i + 1003) = some (.rowx R[i].v3 28 1 c.length c) := by
    show look ((1000, _) :: G) _ = _
    rw [look_cons_ne _ _ (by omega)]; exact hc
  by_cases hk : k < c.length
  ·
    repeat (first | refine q_Z ?_ | refine R_quiet rfl mixed (by kernel_rfl) ?_ | ((first | apply O_y rfl rfl rfl | apply Q_y rfl rfl rfl); (first | exact q_A | exact q_5 | exact q_B | (first | exact R_loade tabOk rfl rfl rfl rfl rfl rfl hcw rfl rfl | exact R_lenx hb tabOk rfl rfl rfl | exact R_indexx hb hk tabOk rfl rfl rfl rfl rfl rfl))) | refine q_d ?_ | refine q_a ?_ | refine q_b ?_ | refine q_c ?_ | refine A_ct rfl ?_ | refine A_cf rfl ?_ | refine q_W ?_ | (refine O_storex (ds := [uD 77]) hb (by omega) (by omega) tabOk rfl rfl rfl rfl rfl rfl rfl rfl rfl ?_))
    have hsl : (setW c (k * 1) [uD 77]).length = c.length := spW_len (by simp; omega)
    exact ⟨(k + 1, (3 * i + 1003, .rowx R[i].v3 28 1 c.length (setW c (k * 1) [uD 77])) :: G), ⟨hG.put (by omega) hc hsl, by dsimp only; omega, setW c (k * 1) [uD 77], by dsimp only; rw [look_cons_same, hsl], by rw [hsl]; exact hcl⟩, by dsimp only; omega, by dsimp only; exact Wk_selG (h1 := [(1000, .row 34 13 R.length cs)]) ⟨rfl, rfl, rfl, trivial⟩ ⟨look_cons_ne _ _ (by omega), trivial⟩ fun j b hb => sp_sub hG.no j b hb (by omega)⟩
  repeat (first | refine q_Z ?_ | refine R_quiet rfl mixed (by kernel_rfl) ?_ | ((first | apply O_y rfl rfl rfl | apply Q_y rfl rfl rfl); (first | exact q_A | exact q_5 | exact q_B | (first | exact R_loade tabOk rfl rfl rfl rfl rfl rfl hcw rfl rfl | exact R_lenx hb tabOk rfl rfl rfl))) | refine q_d ?_ | refine q_a ?_ | refine q_b ?_ | refine q_c ?_ | refine A_ct rfl ?_ | refine A_cf rfl ?_ | refine q_W ?_)
  clear hb hk hc hcl hkc hcw
  have hln := hC.len
  have hmu : (i + 1) * 13 ≤ R.length * 13 := Nat.mul_le_mul_right _ hil
  repeat (first | refine q_Z ?_ | refine R_quiet rfl mixed (by kernel_rfl) ?_ | ((first | apply O_y rfl rfl rfl | apply Q_y rfl rfl rfl); (first | exact q_A | exact q_5 | exact q_B)) | refine q_d ?_ | refine q_a ?_ | refine q_b ?_ | refine q_c ?_ | refine A_ct rfl ?_ | refine A_cf rfl ?_ | refine q_W ?_)
  refine O_storee (ds := [iD (-5)]) tabOk rfl rfl rfl rfl rfl rfl rfl rfl rfl rfl (by omega) (by omega) ?_
  repeat (first | refine q_Z ?_ | refine R_quiet rfl mixed (by kernel_rfl) ?_ | ((first | apply O_y rfl rfl rfl | apply Q_y rfl rfl rfl); (first | exact q_A | exact q_5 | exact q_B)) | refine q_d ?_ | refine q_a ?_ | refine q_b ?_ | refine q_c ?_ | refine A_ct rfl ?_ | refine A_cf rfl ?_ | refine q_W ?_)
  exact ⟨(i + 1, setW cs (i * 13 + 3) [iD (-5)], G), ⟨by dsimp only; omega, hC.set hil _, hG⟩, by dsimp only; omega, by dsimp only; exact Wk_selG (h1 := [(1000, .row 34 13 R.length (setW cs (i * 13 + 3) [iD (-5)]))]) (G := G) ⟨rfl, rfl, trivial⟩ ⟨rfl, trivial⟩ fun j b hb => sp_look2 hG.no j b hb⟩
end Go.Proofs.Ytblgdfcijkaimaa.Ab

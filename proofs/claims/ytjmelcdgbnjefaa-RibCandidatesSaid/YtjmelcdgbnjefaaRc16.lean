/-
  Texts of a proof, one behind the other (part 17).
-/
import Derived.Test.YtjmelcdgbnjefaaRc0
import Derived.Test.YtjmelcdgbnjefaaRc1
import Derived.Test.YtjmelcdgbnjefaaRc5
set_option linter.unusedVariables false
set_option linter.unusedSimpArgs false
namespace Go.Proofs.Ytjmelcdgbnjefaa
set_option linter.unusedVariables false
section
variable {α : Type} [DecidableEq α] {c : α → α → Int}
theorem insU_old (G : Good c) (hi : ∀ x y, c x y = 0 → x = y) {L out : List α} {x : α} (h : sortU c L = out) (hx : x ∈ out) : sortU c (L ++ [x]) = out := by
  rw [← h]
  refine sortU_ext G hi fun y => ?_
  rw [List.mem_append, List.mem_singleton]
  refine ⟨fun h1 => h1.elim id fun h2 => ?_, .inl⟩
  rw [h2, ← sortU_mem (c := c), h]
  exact hx
theorem insU_new (G : Good c) (hi : ∀ x y, c x y = 0 → x = y) {L out : List α} {x : α} (h : sortU c L = out) {k : Nat} (hk : k ≤ out.length) (hb : ∀ (j : Nat) (hj : j < out.length), k ≤ j → c x out[j] < 0)
    (ha : ∀ (j : Nat) (hj : j < out.length), j + 1 = k → 0 < c x out[j]) : sortU c (L ++ [x]) = out.take k ++ x :: out.drop k := by
  have hr : Rising c out := by rw [← h]; exact sortU_rising G hi L
  have hb' : ∀ y ∈ out.drop k, c x y < 0 := fun y hy => by
    obtain ⟨j, hj, rfl⟩ := List.mem_iff_getElem.1 hy
    rw [List.length_drop] at hj
    rw [List.getElem_drop]
    exact hb (k + j) (by omega) (by omega)
  have ha' : ∀ y ∈ out.take k, c y x < 0 := fun y hy => by
    obtain ⟨j, hj, rfl⟩ := List.mem_iff_getElem.1 hy
    rw [List.length_take] at hj
    rw [List.getElem_take]
    have h1 := ha (k - 1) (by omega) (by omega)
    have h2 := G.anti x (out[k - 1]'(by omega))
    by_cases hjk : j = k - 1
    · subst hjk; omega
    · have h3 := List.pairwise_iff_getElem.1 hr j (k - 1) (by omega) (by omega) (by omega)
      exact G.lt_lt h3 (by omega)
  refine rising_ext G (sortU_rising G hi _) ?_ fun y => ?_
  · have hsp : Rising c (out.take k ++ out.drop k) := by rw [List.take_append_drop]; exact hr
    unfold Rising at hsp ⊢
    rw [List.pairwise_append] at hsp ⊢
    refine ⟨hsp.1, List.pairwise_cons.2 ⟨hb', hsp.2.1⟩, fun y hy z hz => ?_⟩
    rcases List.mem_cons.1 hz with rfl | hz
    · exact ha' y hy
    · exact hsp.2.2 y hy z hz
  · rw [sortU_mem, List.mem_append, List.mem_singleton, List.mem_append, List.mem_cons, ← sortU_mem (c := c), h]
    constructor
    · rintro (h1 | h1)
      · rw [← List.take_append_drop k out, List.mem_append] at h1
        rcases h1 with h2 | h2
        · exact .inl h2
        · exact .inr (.inr h2)
      · exact .inr (.inl h1)
    · rintro (h1 | h1 | h1)
      · exact .inl (List.mem_of_mem_take h1)
      · exact .inr h1
      · exact .inl (List.mem_of_mem_drop h1)
end
namespace Ab
theorem flat_ins {α : Type} {enc : α → List Dat} {sz : Nat} (hsz : ∀ x, (enc x).length = sz) (out : List α) (x : α) (Z : List Dat) (hZ : Z.length = sz) (k : Nat) (hk : k ≤ out.length) :
    (setW (out.flatMap enc ++ Z) ((k + 1) * sz) (win (out.flatMap enc ++ Z) (k * sz) ((out.length - k) * sz))).length = (out.length + 1) * sz ∧
    setW (setW (out.flatMap enc ++ Z) ((k + 1) * sz) (win (out.flatMap enc ++ Z) (k * sz) ((out.length - k) * sz))) (k * sz) (enc x) = (out.take k ++ x :: out.drop k).flatMap enc := by
  obtain ⟨A, hA⟩ : ∃ A, (out.take k).flatMap enc = A := ⟨_, rfl⟩
  obtain ⟨B, hB⟩ : ∃ B, (out.drop k).flatMap enc = B := ⟨_, rfl⟩
  have hAl : A.length = k * sz := by rw [← hA, flat_len hsz, List.length_take, Nat.min_eq_left hk]
  have hBl : B.length = (out.length - k) * sz := by rw [← hB, flat_len hsz, List.length_drop]
  have hF : out.flatMap enc = A ++ B := by rw [← hA, ← hB, ← List.flatMap_append, List.take_append_drop]
  have hx := hsz x
  have hG : (out.take k ++ x :: out.drop k).flatMap enc = A ++ enc x ++ B := by rw [List.flatMap_append, List.flatMap_cons, hA, hB, List.append_assoc]
  have e1 : (k + 1) * sz = k * sz + sz := Nat.succ_mul k sz
  have e2 : (out.length + 1) * sz = k * sz + (out.length - k) * sz + sz := by
    rw [← Nat.add_mul, Nat.succ_mul]; congr 2; omega
  have hw : win (A ++ B ++ Z) (k * sz) ((out.length - k) * sz) = B := by
    unfold win
    rw [List.append_assoc, ← hAl, List.drop_left, ← hBl, List.take_left]
  have hs : setW (A ++ B ++ Z) ((k + 1) * sz) B = (A ++ B ++ Z).take ((k + 1) * sz) ++ B := by
    unfold setW
    rw [List.drop_eq_nil_of_le (by simp only [List.length_append]; omega), List.append_nil]
  have hl : ((A ++ B ++ Z).take ((k + 1) * sz)).length = k * sz + sz := by
    rw [List.length_take]; simp only [List.length_append]; omega
  rw [hF, hw, hs, hG]
  refine ⟨by rw [List.length_append, hl, hBl, e2]; omega, ?_⟩
  have h1 : ((A ++ B ++ Z).take ((k + 1) * sz) ++ B).take (k * sz) = A := by
    rw [List.take_append_of_le_length (by rw [hl]; omega), List.take_take, Nat.min_eq_left (by rw [e1]; omega), List.append_assoc, ← hAl, List.take_left]
  have h2 : ((A ++ B ++ Z).take ((k + 1) * sz) ++ B).drop (k * sz + sz) = B := by rw [← hl, List.drop_left]
  unfold setW
  rw [hx, h1, h2]
end Ab
end Go.Proofs.Ytjmelcdgbnjefaa

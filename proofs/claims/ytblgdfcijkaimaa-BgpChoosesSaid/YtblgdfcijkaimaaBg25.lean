/-
  Texts of a proof, one behind the other (part 26).
-/
import Derived.Test.YtblgdfcijkaimaaBg11
import Derived.Test.YtblgdfcijkaimaaBg23
import Derived.Test.YtblgdfcijkaimaaBg24
set_option linter.unusedVariables false
set_option linter.unusedSimpArgs false
namespace Go.Proofs.Ytblgdfcijkaimaa.Ab
set_option linter.unusedVariables false
set_option maxRecDepth 100000
open Go.RowKit Go.Lib
theorem killVs_id {ids : List Nat} {c : AVal} (h : ∀ j ∈ ids, c.has j = false) : killVs ids c = c := by
  unfold killVs
  have e : hasAny ids c = false := by
    unfold hasAny
    rw [List.any_eq_false]
    intro j hj
    rw [h j hj]; simp
  rw [e]; rfl
theorem killEs_keep {ids : List Nat} {e : Env} {t : Nat} {c : AVal} (hl : look e t = some c) (h : ∀ j ∈ ids, c.has j = false) : look (killEs ids e) t = some c := by
  rw [look_killEs, hl]
  show some (killVs ids c) = _
  rw [killVs_id h]
theorem RawDs.refl (h : Heap) (cs : List Dat) : RawDs h cs cs := ⟨rfl, fun i c c' h1 h2 => by rw [h1] at h2; cases h2; exact .same _⟩
theorem All2.of_map {α β : Type} {R : α → β → Prop} {f : α → β} : ∀ {l : List α}, (∀ x ∈ l, R x (f x)) → All2 R l (l.map f)
  | [], _ => .nil
  | x :: l, h => .cons (h x (by simp)) (All2.of_map fun y hy => h y (List.mem_cons_of_mem _ hy))
theorem plain_advR (R : List AdvR) : (R.flatMap advRD).all plainD = true := by
  rw [List.all_eq_true]
  intro c hc
  obtain ⟨x, _, hx⟩ := List.mem_flatMap.1 hc
  simp [advRD] at hx
  rcases hx with rfl | rfl | rfl | rfl | rfl | rfl | rfl | rfl | rfl | rfl | rfl | rfl | rfl <;> rfl
def famS : List AdvR → Nat → Heap
  | [], _ => []
  | x :: r, b => three b x ++ famS r (b + 3)
theorem three_skip {b j : Nat} {x : AdvR} {G : Heap} (h : j < b ∨ b + 3 ≤ j) : look (three b x ++ G) j = look G j := by
  show look ((b, _) :: (b + 1, _) :: (b + 2, _) :: G) j = _
  rw [look_cons_ne _ _ (by omega), look_cons_ne _ _ (by omega), look_cons_ne _ _ (by omega)]
theorem famS_at (R : List AdvR) (b i : Nat) (hi : i < R.length) : Own3 (famS R b) (3 * i + b) R[i] := by
  induction R generalizing b i with
  | nil => simp at hi
  | cons x r ih =>
    cases i with
    | zero =>
      rw [Nat.mul_zero, Nat.zero_add]
      exact Own3.new _ _ _
    | succ i =>
      have h := ih (b + 3) i (by simpa using hi)
      have e : 3 * (i + 1) + b = 3 * i + (b + 3) := by omega
      rw [e]
      exact ⟨by rw [famS, three_skip (by omega)]; exact h.o1, by rw [famS, three_skip (by omega)]; exact h.o2, by rw [famS, three_skip (by omega)]; exact h.o3⟩
theorem famS_inv (R : List AdvR) (b p : Nat) (bl : ABlk) (h : look (famS R b) p = some bl) : ∃ i c, i < R.length ∧ c < 3 ∧ p = 3 * i + b + c := by
  induction R generalizing b with
  | nil => cases h
  | cons x r ih =>
    by_cases hp : p < b ∨ b + 3 ≤ p
    · rw [famS, three_skip hp] at h
      obtain ⟨i, c, h1, h2, h3⟩ := ih (b + 3) h
      exact ⟨i + 1, c, by simpa using h1, h2, by omega⟩
    · exact ⟨0, p - b, by simp, by omega, by omega⟩
theorem famS_low (R : List AdvR) (b p : Nat) (h : p < b) : look (famS R b) p = none := by
  cases hl : look (famS R b) p with
  | none => rfl
  | some bl => obtain ⟨i, c, _, _, h3⟩ := famS_inv R b p bl hl; omega
def gS (n : Nat) (β : Nat → Nat) (p : Nat) : Option Nat := if p = 1000 then some 3 else if 1001 ≤ p ∧ (p - 1001) / 3 < n then some (3 * β ((p - 1001) / 3) + 100 + (p - 1001) % 3) else none
theorem gS_at {n : Nat} {β : Nat → Nat} {i c : Nat} (hi : i < n) (hc : c < 3) : gS n β (3 * i + 1001 + c) = some (3 * β i + 100 + c) := by
  have e1 : (3 * i + 1001 + c - 1001) / 3 = i := by omega
  have e2 : (3 * i + 1001 + c - 1001) % 3 = c := by omega
  unfold gS
  rw [if_neg (by omega), e1, e2, if_pos ⟨by omega, hi⟩]
theorem gS_inv {n : Nat} {β : Nat → Nat} {p j : Nat} (h : gS n β p = some j) : (p = 1000 ∧ j = 3) ∨ ∃ i c, i < n ∧ c < 3 ∧ p = 3 * i + 1001 + c ∧ j = 3 * β i + 100 + c := by
  unfold gS at h
  split at h
  · rename_i h1; cases h; exact .inl ⟨h1, rfl⟩
  · split at h
    · rename_i h2
      cases h
      exact .inr ⟨(p - 1001) / 3, (p - 1001) % 3, h2.2, by omega, by omega, rfl⟩
    · cases h
def BestP (r : List Rte) (l : List Adv) (x : List AdvR × Heap) : Prop := ∃ (m : Nat) (β : Nat → Nat), BestOk (useL r l) (x.1.map (·.a)) ∧ x.1.length ≤ l.length ∧ Fam x.2 m ∧ m ≤ l.length ∧ (∀ (i : Nat) (hi : i < x.1.length), β i < m ∧ Own3 x.2 (3 * β i + 100) x.1[i]) ∧ (∀ i j, i < x.1.length → j < x.1.length → β i = β j → i = j)
theorem BestQ.p {r : List Rte} {l : List Adv} {c : AVal} {h : Heap} (H : BestQ r l c h) : ∃ x : List AdvR × Heap, BestP r l x ∧ c = .row 3 ∧ h = (3, rB x.1) :: x.2 := by
  obtain ⟨R, G, m, β, q1, q2, q3, q4, q5, q6, q7, q8⟩ := H
  exact ⟨(R, G), ⟨m, β, q1, q2, q3, q4, q5, q6⟩, q7, q8⟩
theorem BestP.q {r : List Rte} {l : List Adv} {x : List AdvR × Heap} (H : BestP r l x) (hn : l.length ≤ 100) : (((3, rB x.1) :: x.2).map (·.1)).all (fun j => Nat.blt j 1000) = true ∧ plainV (.row 3) = true ∧ (∀ id b, look ((3, rB x.1) :: x.2) id = some b → plainB b = true) ∧ ∀ j, (AVal.row 3).has j = true → (look ((3, rB x.1) :: x.2) j).isSome = true := by
  obtain ⟨R, G⟩ := x
  obtain ⟨m, β, q1, q2, q3, q4, q5, q6⟩ := H
  dsimp only at q3 ⊢
  refine ⟨?_, rfl, fun id b hb => ?_, fun j hj => ?_⟩
  · rw [List.all_eq_true]
    intro j hj
    rcases List.mem_cons.1 hj with rfl | h1
    · rfl
    · obtain ⟨b, hb⟩ := look_of_key h1
      have := q3.lo j b hb
      exact Nat.ble_eq_true_of_le (by omega)
  · by_cases h3 : 3 = id
    · subst h3
      rw [look_cons_same] at hb
      cases hb
      exact plain_advR R
    · rw [look_cons_ne _ _ h3] at hb
      exact isX_plain (q3.ix id b hb)
  · have : 3 = j := by
      have h1 : (3 == j) = true := hj
      simpa using h1
    subst this
    rw [look_cons_same]; rfl
section
variable {R : List AdvR} {G H : Heap} {m : Nat} {β : Nat → Nat}
theorem away_l (hown : ∀ (i : Nat) (hi : i < R.length), β i < m ∧ Own3 G (3 * β i + 100) R[i]) (h3 : look H 3 = some (rB R)) (hG : ∀ id b, look G id = some b → look H id = some b) (hF : Fam G m) : ∀ p b, look ((1000, rB R) :: famS R 1001) p = some b → ∃ i, gS R.length β p = some i ∧ look H i = some b ∧ plainB b = true := by
  intro p b hb
  by_cases hp : 1000 = p
  · subst hp
    rw [look_cons_same] at hb
    cases hb
    exact ⟨3, if_pos rfl, h3, plain_advR R⟩
  · rw [look_cons_ne _ _ hp] at hb
    obtain ⟨i, c, hi, hc, rfl⟩ := famS_inv R 1001 p b hb
    have h1 := famS_at R 1001 i hi
    have h2 := (hown i hi).2
    refine ⟨_, gS_at hi hc, ?_⟩
    have key : look G (3 * β i + 100 + c) = some b := by
      match c, hc with
      | 0, _ => rw [Nat.add_zero] at hb ⊢; rw [h1.o1] at hb; cases hb; exact h2.o1
      | 1, _ => rw [h1.o2] at hb; cases hb; exact h2.o2
      | 2, _ => rw [h1.o3] at hb; cases hb; exact h2.o3
    exact ⟨hG _ _ key, isX_plain (hF.ix _ _ key)⟩
theorem away_dom (hown : ∀ (i : Nat) (hi : i < R.length), β i < m ∧ Own3 G (3 * β i + 100) R[i]) (hm : m ≤ 100) : ∀ p i, gS R.length β p = some i → i < 1000 ∧ (look ((1000, rB R) :: famS R 1001) p).isSome = true := by
  intro p j hp
  rcases gS_inv hp with ⟨rfl, rfl⟩ | ⟨i, c, hi, hc, rfl, rfl⟩
  · exact ⟨by decide, by rw [look_cons_same]; rfl⟩
  · have h1 := (hown i hi).1
    refine ⟨by omega, ?_⟩
    rw [look_cons_ne _ _ (by omega)]
    have h1 := famS_at R 1001 i hi
    match c, hc with
    | 0, _ => rw [Nat.add_zero, h1.o1]; rfl
    | 1, _ => rw [h1.o2]; rfl
    | 2, _ => rw [h1.o3]; rfl
theorem away_inj (hβ : ∀ i j, i < R.length → j < R.length → β i = β j → i = j) : ∀ p q i, gS R.length β p = some i → gS R.length β q = some i → p = q := by
  intro p q j hp hq
  rcases gS_inv hp with ⟨rfl, rfl⟩ | ⟨i, c, hi, hc, rfl, rfl⟩ <;> rcases gS_inv hq with ⟨rfl, h2⟩ | ⟨i', c', hi', hc', rfl, h2⟩
  · rfl
  · omega
  · omega
  · have e1 : β i = β i' := by omega
    have e2 := hβ i i' hi hi' e1
    subst e2
    omega
theorem away_2 {b0 : ABlk} (h70 : look H 70 = some b0) : ∀ id b, look [(70, b0)] id = some b → look H id = some b ∧ ∀ p, gS R.length β p ≠ some id := by
  intro id b hb
  by_cases hp : 70 = id
  · subst hp
    rw [look_cons_same] at hb
    cases hb
    refine ⟨h70, fun p hp => ?_⟩
    rcases gS_inv hp with ⟨_, h2⟩ | ⟨i, c, _, _, _, h2⟩
    · cases h2
    · omega
  · rw [look_cons_ne _ _ hp] at hb; cases hb
theorem away_sp (hok : ∀ (i : Nat) (hi : i < R.length), R[i].a.ok) : SpG R (famS R 1001) := by
  have e : ∀ l : List Int, (l.flatMap u1D).length = l.length := fun l => by rw [flat_len u1D_len, Nat.mul_one]
  refine ⟨famS_low _ _ _ (by decide), fun i hi => ⟨_, by rw [e]; exact (famS_at R 1001 i hi).o1, ?_⟩, fun i hi => ⟨_, by rw [e]; exact (famS_at R 1001 i hi).o2, ?_⟩, fun i hi => ⟨_, by rw [e]; exact (famS_at R 1001 i hi).o3, ?_⟩⟩
  · rw [e]; have h1 : R[i].a.path.length * 4 ≤ 140737488351232 := (hok i hi).b1; omega
  · rw [e]; have h1 : R[i].a.com.length * 4 ≤ 140737488351232 := (hok i hi).b2; omega
  · rw [e]; have h1 : R[i].a.clus.length * 4 ≤ 140737488351232 := (hok i hi).b3; omega
end
theorem best_70 {R : List AdvR} {G : Heap} {m n : Nat} {cs : List Dat} (hF : Fam G m) : look (((3, rB R) :: G) ++ killHs (((3, rB R) :: G).map (·.1)) [(70, .row 34 13 n cs)]) 70 = some (.row 34 13 n cs) := by
  rw [look_append, look_cons_ne _ _ (by decide)]
  have h1 : look G 70 = none := by
    cases hl : look G 70 with
    | none => rfl
    | some b => have := hF.lo 70 b hl; omega
  rw [h1]
  show look (killHs _ _) 70 = _
  rw [look_killHs, if_neg]
  · rfl
  · intro hc
    rcases List.mem_cons.1 (List.contains_iff_mem.1 hc) with h2 | h2
    · cases h2
    · obtain ⟨b, hb⟩ := look_of_key h2
      have := hF.lo 70 b hb; omega
theorem best_G {R : List AdvR} {G h : Heap} {m : Nat} (hF : Fam G m) : ∀ id b, look G id = some b → look (((3, rB R) :: G) ++ h) id = some b := fun id b hb => by
  rw [look_append, look_cons_ne _ _ (by have := hF.lo id b hb; omega), hb]
theorem best_G2 {R : List AdvR} {G : Heap} {m : Nat} {b0 : ABlk} (hF : Fam G m) : ∀ id b, look G id = some b → look ([(3, rB R), (70, b0)] ++ G) id = some b := fun id b hb => by
  have h1 := hF.lo id b hb
  show look ((3, _) :: (70, _) :: G) id = _
  rw [look_cons_ne _ _ (by omega), look_cons_ne _ _ (by omega)]; exact hb
theorem best_e {R : List AdvR} {G : Heap} {m : Nat} {e : Env} {t : Nat} {c : AVal} (hF : Fam G m) (hl : look e t = some c) (h3 : c.has 3 = false) (hc : ∀ j, 100 ≤ j → c.has j = false) : look (((95 : Nat), AVal.row 3) :: killEs (((3, rB R) :: G).map (·.1)) e) t = if 95 = t then some (.row 3) else some c := by
  by_cases ht : 95 = t
  · subst ht; rw [look_cons_same, if_pos rfl]
  · rw [look_cons_ne _ _ ht, if_neg ht]
    refine killEs_keep hl fun j hj => ?_
    rcases List.mem_cons.1 hj with rfl | h2
    · exact h3
    · obtain ⟨b, hb⟩ := look_of_key h2
      exact hc j (hF.lo j b hb).1
end Go.Proofs.Ytblgdfcijkaimaa.Ab

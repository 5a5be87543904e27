/-
  Texts of a proof, one behind the other (part 32).
-/
import Derived.Test.YtenolkolkpfjgaaGreatFt7
import Derived.Test.YtenolkolkpfjgaaGreatFt8
import Derived.Test.YtenolkolkpfjgaaGreatFt15
import Derived.Test.YtenolkolkpfjgaaGreatFt29
import Derived.Test.YtenolkolkpfjgaaGreatFt30
set_option linter.unusedVariables false
set_option linter.unusedSimpArgs false
namespace Go.Proofs.YtenolkolkpfjgaaGreat.Ab
set_option linter.unusedVariables false
set_option maxRecDepth 100000
open Go.RowKit Go.Lib
def fD (r b : Nat) (k : Nat) : Bool := decide (k = r ∨ b ≤ k ∧ k < b + 200)
def tD (f k : Nat) : Bool := decide (k = 10 ∨ k = 3 ∨ k = 902 ∨ k = 950 ∨ f ≤ k ∧ k < f + 200)
abbrev tabB (Y : List EntR) (f : Nat) : Heap := (10, .var [.row 950, .ptr 3 0]) :: (950, entRB Y) :: (3, tblB 902 (V.uE (V.vE Y))) :: (902, V.emapB (V.mE (V.vE Y))) :: famE Y f
theorem clo_ents {Y : List EntR} {r b : Nat} (hn : Y.length ≤ 200) : Clo ((r, entRB Y) :: famE Y b) (fD r b) := ⟨fun id bl hb => by
  by_cases h : r = id
  · subst h; rw [look_cons_same] at hb; cases hb
    exact ⟨by simp [fD], fun j _ => rfl⟩
  · rw [look_cons_ne _ _ h] at hb
    have h1 := famE_in hb
    exact ⟨by simp only [fD, decide_eq_true_eq]; omega, fun j _ => isX_has h1.2.2 j⟩⟩
theorem newB_D {Y : List EntR} {f : Nat} (hn : Y.length ≤ 200) : ∀ id b, look (tabB Y f) id = some b → tD f id = true := fun id b hb => by
  by_cases h1 : 10 = id
  · subst h1; rfl
  rw [look_cons_ne _ _ h1] at hb
  by_cases h2 : 950 = id
  · subst h2; rfl
  rw [look_cons_ne _ _ h2] at hb
  by_cases h3 : 3 = id
  · subst h3; rfl
  rw [look_cons_ne _ _ h3] at hb
  by_cases h4 : 902 = id
  · subst h4; rfl
  rw [look_cons_ne _ _ h4] at hb
  have := famE_in hb
  simp only [tD, decide_eq_true_eq]; omega
theorem ents_at {Y : List EntR} {r b : Nat} {H : Heap} (hrb : r < b ∨ b + 200 ≤ r) (hn : Y.length ≤ 200) (h : ∀ id bl, look ((r, entRB Y) :: famE Y b) id = some bl → look H id = some bl) : look H r = some (entRB Y) ∧ ∀ id bl, look (famE Y b) id = some bl → look H id = some bl :=
  ⟨h _ _ (look_cons_same _ _ _), fun id bl hb => h id bl (by rw [look_cons_ne _ _ (by have := famE_in hb; omega)]; exact hb)⟩
theorem pfx_q (L : List Pfx) (r : Nat) (hr : r < 1000) : (([(r, pfxB L)] : Heap).map (·.1)).all (fun j => Nat.blt j 1000) = true ∧ plainV (.row r) = true ∧ (∀ id bl, look [(r, pfxB L)] id = some bl → plainB bl = true) ∧ ∀ j, (AVal.row r).has j = true → (look [(r, pfxB L)] j).isSome = true := by
  refine ⟨?_, rfl, fun id bl hb => ?_, fun j hj => ?_⟩
  · show (Nat.blt r 1000 && true) = true
    rw [Bool.and_true]; exact Nat.ble_eq_true_of_le hr
  · by_cases h : r = id
    · subst h; rw [look_cons_same] at hb; cases hb
      show (L.flatMap pfxD).all plainD = true
      rw [List.all_eq_true]
      intro c hc
      obtain ⟨x, _, hx⟩ := List.mem_flatMap.1 hc
      simp [pfxD] at hx
      rcases hx with rfl | rfl <;> rfl
    · rw [look_cons_ne _ _ h] at hb; cases hb
  · have h1 : (r == j) = true := hj
    have : r = j := by simpa using h1
    subst this
    rw [look_cons_same]; rfl
theorem one_D {r id : Nat} {b bl : ABlk} (h : look [(r, b)] id = some bl) : Nat.beq r id = true := by
  by_cases h1 : r = id
  · subst h1; exact Nat.beq_refl r
  · rw [look_cons_ne _ _ h1] at h; cases h
theorem tab_no {Y : List EntR} {f : Nat} : ∀ id b, look (tabB Y f) id = some b → ∀ j, j ≠ 3 → j ≠ 902 → j ≠ 950 → blkHas j b = false := fun id b hb j j1 j2 j3 => by
  by_cases h1 : 10 = id
  · subst h1
    rw [look_cons_same] at hb; cases hb
    show ((950 == j) || ((3 == j) || false)) = false
    simp; omega
  rw [look_cons_ne _ _ h1] at hb
  by_cases h2 : 950 = id
  · subst h2; rw [look_cons_same] at hb; cases hb; rfl
  rw [look_cons_ne _ _ h2] at hb
  by_cases h3 : 3 = id
  · subst h3
    rw [look_cons_same] at hb; cases hb
    show ((AVal.mp 902).has j || hasL j (usedA (V.uE (V.vE Y)))) = false
    rw [show hasL j (usedA (V.uE (V.vE Y))) = false from shutL_has j (usedA (V.uE (V.vE Y))) rfl, Bool.or_false]
    show (902 == j) = false
    simp; omega
  rw [look_cons_ne _ _ h3] at hb
  by_cases h4 : 902 = id
  · subst h4
    rw [look_cons_same] at hb; cases hb
    show ((ents pfxA V.entA (V.mE (V.vE Y))).any fun p => p.1.has j || p.2.has j) = false
    rw [List.any_eq_false]
    intro p hp
    obtain ⟨q, _, rfl⟩ := List.mem_map.1 hp
    intro h; cases h
  rw [look_cons_ne _ _ h4] at hb
  exact isX_has (famE_in hb).2.2 j
theorem clo_tab {Y : List EntR} {f : Nat} (hn : Y.length ≤ 200) : Clo (tabB Y f) (tD f) := ⟨fun id b hb => ⟨newB_D hn id b hb, fun j hj => by
  simp only [tD, decide_eq_false_iff_not] at hj
  exact tab_no id b hb j (by omega) (by omega) (by omega)⟩⟩
theorem Wk_tab2 {nt : Nat} {e e1 : Env} {Y : List EntR} (hn : Y.length ≤ 200) (he : Sub e1 e) (hev : apE (fD 1000 200) e1 = true) : AWk nt e (tabB Y 100) e1 (tabB Y 200) := by
  have hlo : ∀ j b, look (famE Y 100) j = some b → look (tabB Y 100) j = some b := fun j b hb => by
    have := famE_in hb
    rw [look_cons_ne _ _ (by omega), look_cons_ne _ _ (by omega), look_cons_ne _ _ (by omega), look_cons_ne _ _ (by omega)]
    exact hb
  have hd : ∀ j, (look (famE Y 200) j).isSome = true → 200 ≤ j ∧ j < 400 := fun j hj => by
    obtain ⟨b, hb⟩ := Option.isSome_iff_exists.1 hj
    have := famE_in hb
    omega
  have hno : ∀ j, 11 ≤ j → j < 900 → look [(10, ABlk.var [.row 950, .ptr 3 0]), (950, entRB Y), (3, tblB 902 (V.uE (V.vE Y))), (902, V.emapB (V.mE (V.vE Y)))] j = none := fun j h1 h2 => by
    rw [look_cons_ne _ _ (by omega), look_cons_ne _ _ (by omega), look_cons_ne _ _ (by omega), look_cons_ne _ _ (by omega)]; rfl
  refine Wk_reG (h1 := [(10, .var [.row 950, .ptr 3 0]), (950, entRB Y), (3, tblB 902 (V.uE (V.vE Y))), (902, V.emapB (V.mE (V.vE Y)))]) (G := famE Y 200) (fun j => if 200 ≤ j ∧ j < 400 then some (j - 100) else none) he ⟨rfl, rfl, rfl, rfl, trivial⟩ (fun j b hb => ?_) (fun j j' p hj hj' _ _ => ?_) (fun j hj => hno j (by have := hd j hj; omega) (by have := hd j hj; omega)) (fun j p hj hp => ?_) (fun t c ht j hj => ?_) (fun id b hb j hj => ?_)
  · have hx := (famE_in hb).2.2
    obtain ⟨i, hi, rfl, rfl⟩ := famE_inv Y 200 j b hb
    refine ⟨100 + i, by rw [if_pos (by omega), show 200 + i - 100 = 100 + i by omega], hlo _ _ (famE_at Y 100 i hi), hx, by omega⟩
  · split at hj <;> split at hj'
    · have h1 := Option.some.inj hj; have h2 := Option.some.inj hj'; omega
    · cases hj'
    · cases hj
    · cases hj
  · have := hd j hj
    rw [if_pos this] at hp
    cases hp
    exact hno _ (by omega) (by omega)
  · have h1 := hd j hj
    exact apV_has (List.all_eq_true.1 hev _ (look_memC ht)) (by simp only [fD, decide_eq_true_eq]; omega)
  · have h1 := hd j hj
    exact tab_no (Y := Y) (f := 100) id b (look_left (G := famE Y 100) hb) j (by omega) (by omega) (by omega)
def rT (f n : Nat) : List (Nat × Nat) := (1000, 10) :: (1001, 3) :: (1002, 902) :: (1003, 950) :: shl 1100 f n
theorem rT_cases {f n p i : Nat} (h : look (rT f n) p = some i) : (p = 1000 ∧ i = 10) ∨ (p = 1001 ∧ i = 3) ∨ (p = 1002 ∧ i = 902) ∨ (p = 1003 ∧ i = 950) ∨ (1100 ≤ p ∧ p < 1100 + n ∧ i = p - 1100 + f) := by
  unfold rT at h
  by_cases h1 : 1000 = p
  · subst h1; rw [look_cons_same] at h; cases h; exact .inl ⟨rfl, rfl⟩
  rw [look_cons_ne _ _ h1] at h
  by_cases h2 : 1001 = p
  · subst h2; rw [look_cons_same] at h; cases h; exact .inr (.inl ⟨rfl, rfl⟩)
  rw [look_cons_ne _ _ h2] at h
  by_cases h3 : 1002 = p
  · subst h3; rw [look_cons_same] at h; cases h; exact .inr (.inr (.inl ⟨rfl, rfl⟩))
  rw [look_cons_ne _ _ h3] at h
  by_cases h4 : 1003 = p
  · subst h4; rw [look_cons_same] at h; cases h; exact .inr (.inr (.inr (.inl ⟨rfl, rfl⟩)))
  rw [look_cons_ne _ _ h4, look_shl] at h
  split at h
  · rename_i h5; cases h; exact .inr (.inr (.inr (.inr ⟨h5.1, h5.2, rfl⟩)))
  · cases h
theorem rT_fam {f n i : Nat} (hi : i < n) : look (rT f n) (1100 + i) = some (f + i) := by
  unfold rT
  rw [look_cons_ne _ _ (by omega), look_cons_ne _ _ (by omega), look_cons_ne _ _ (by omega), look_cons_ne _ _ (by omega), look_shl, if_pos ⟨by omega, by omega⟩, show 1100 + i - 1100 + f = f + i by omega]
theorem rT_inj {f n p p' i : Nat} (hf : 20 ≤ f ∧ f ≤ 700) (hn : n ≤ 200) (h : look (rT f n) p = some i) (h' : look (rT f n) p' = some i) : p = p' := by
  rcases rT_cases h with h1 | h1 | h1 | h1 | h1 <;> rcases rT_cases h' with h2 | h2 | h2 | h2 | h2 <;> omega
theorem rT_D {f n p i : Nat} (hn : n ≤ 200) (h : look (rT f n) p = some i) : tD f i = true ∧ 1000 ≤ p := by
  simp only [tD, decide_eq_true_eq]
  rcases rT_cases h with h1 | h1 | h1 | h1 | h1 <;> omega
theorem famE_mem : ∀ {R : List EntR} {b : Nat} {x : Nat × ABlk}, x ∈ famE R b → ∃ i, ∃ hi : i < R.length, x = (b + i, hopX R[i].v R[i].x.hs)
  | [], b, x, h => by cases h
  | y :: r, b, x, h => by
    rcases List.mem_cons.1 h with rfl | h
    · exact ⟨0, by simp, rfl⟩
    · obtain ⟨i, hi, rfl⟩ := famE_mem h
      exact ⟨i + 1, by simpa using hi, by rw [show b + (i + 1) = b + 1 + i by omega]; rfl⟩
theorem lent_of {ρ : List (Nat × Nat)} {h : Heap} : ∀ {l : Heap}, (∀ x ∈ l, ∃ i b', look ρ x.1 = some i ∧ look h i = some b' ∧ renB ρ x.2 = b' ∧ okB ρ x.2) → Lent ρ h l
  | [], _ => trivial
  | x :: l, H => ⟨H x (List.mem_cons_self ..), lent_of fun y hy => H y (List.mem_cons_of_mem _ hy)⟩
theorem ren_tblT {ρ : List (Nat × Nat)} {m i : Nat} (hm : look ρ m = some i) (u : Nat → Int) : renB ρ (tblB m u) = tblB i u := by
  show ABlk.var (renV ρ (.mp m) :: (usedA u).map (renV ρ)) = ABlk.var (.mp i :: usedA u)
  have h1 : renV ρ (.mp m) = .mp i := by rw [renV, hm]
  rw [h1]
  congr 2
theorem ok_tblT {ρ : List (Nat × Nat)} {m i : Nat} (hm : look ρ m = some i) (u : Nat → Int) : okB ρ (tblB m u) := by
  intro c hc
  rcases List.mem_cons.1 hc with rfl | hc
  · show (look ρ m).isSome = true; rw [hm]; rfl
  · obtain ⟨b, _, rfl⟩ := List.mem_map.1 hc
    rfl
theorem ren_varT {ρ : List (Nat × Nat)} {a b i j : Nat} (ha : look ρ a = some i) (hb : look ρ b = some j) : renB ρ (.var [.row a, .ptr b 0]) = .var [.row i, .ptr j 0] := by
  show ABlk.var [renV ρ (.row a), renV ρ (.ptr b 0)] = _
  rw [renV, renV, ha, hb]
theorem lentT {h : Heap} {T : List EntR} {f : Nat} (hf : 20 ≤ f ∧ f ≤ 700) (hn : T.length ≤ 200) (hT : ∀ id b, look (tabB T f) id = some b → look h id = some b) : Lent (rT f T.length) h (V.tabV0 T) := by
  have hfam : ∀ i (hi : i < T.length), look h (f + i) = some (hopX T[i].v T[i].x.hs) := fun i hi => hT _ _ (by
    show look ((10, _) :: (950, _) :: (3, _) :: (902, _) :: famE T f) (f + i) = _
    rw [look_cons_ne _ _ (by omega), look_cons_ne _ _ (by omega), look_cons_ne _ _ (by omega), look_cons_ne _ _ (by omega)]
    exact famE_at T f i hi)
  refine ⟨⟨10, _, rfl, hT 10 _ rfl, ren_varT rfl rfl, fun c hc => by simp at hc; rcases hc with rfl | rfl <;> rfl⟩, ⟨3, _, rfl, hT 3 _ rfl, ren_tblT rfl _, ok_tblT (i := 902) rfl _⟩, ⟨902, _, rfl, hT 902 _ rfl, V.ren_mapE _ _, V.ok_mapE _ _⟩, ⟨950, _, rfl, hT 950 _ rfl, rfl, trivial⟩, lent_of fun x hx => ?_⟩
  obtain ⟨i, hi, rfl⟩ := famE_mem hx
  exact ⟨f + i, _, rT_fam hi, hfam i hi, rfl, trivial⟩
theorem plain_ren {b : ABlk} (h : plainB b = true) (ρ : List (Nat × Nat)) : renB ρ b = b := by cases b <;> first | rfl | cases h
theorem tab_dom {T : List EntR} {f p i : Nat} (h : look (rT f T.length) p = some i) : (look (V.tabV0 T) p).isSome = true := by
  rcases rT_cases h with ⟨rfl, _⟩ | ⟨rfl, _⟩ | ⟨rfl, _⟩ | ⟨rfl, _⟩ | ⟨h1, h2, _⟩
  · rfl
  · rfl
  · rfl
  · rfl
  · show (look ((1000, _) :: (1001, _) :: (1002, _) :: (1003, _) :: famE T 1100) p).isSome = true
    rw [look_cons_ne _ _ (by omega), look_cons_ne _ _ (by omega), look_cons_ne _ _ (by omega), look_cons_ne _ _ (by omega)]
    have := famE_at T 1100 (p - 1100) (by omega)
    rw [show 1100 + (p - 1100) = p by omega] at this
    rw [this]; rfl
theorem tab_of {T : List EntR} {f : Nat} (hn : T.length ≤ 200) {σ : List (Nat × Nat)} (hσ : ∀ p, 1000 ≤ p → look σ p = look (rT f T.length) p) {id : Nat} {b : ABlk} (hb : look (tabB T f) id = some b) : ∃ p b', look σ p = some id ∧ look (V.tabV0 T) p = some b' ∧ renB σ b' = b := by
  by_cases h1 : 10 = id
  · subst h1; rw [look_cons_same] at hb; cases hb
    exact ⟨1000, _, by rw [hσ _ (by decide)]; rfl, rfl, ren_varT (by rw [hσ _ (by decide)]; rfl) (by rw [hσ _ (by decide)]; rfl)⟩
  rw [look_cons_ne _ _ h1] at hb
  by_cases h2 : 950 = id
  · subst h2; rw [look_cons_same] at hb; cases hb
    exact ⟨1003, _, by rw [hσ _ (by decide)]; rfl, rfl, rfl⟩
  rw [look_cons_ne _ _ h2] at hb
  by_cases h3 : 3 = id
  · subst h3; rw [look_cons_same] at hb; cases hb
    exact ⟨1001, _, by rw [hσ _ (by decide)]; rfl, rfl, ren_tblT (by rw [hσ _ (by decide)]; rfl) _⟩
  rw [look_cons_ne _ _ h3] at hb
  by_cases h4 : 902 = id
  · subst h4; rw [look_cons_same] at hb; cases hb
    exact ⟨1002, _, by rw [hσ _ (by decide)]; rfl, rfl, V.ren_mapE _ _⟩
  rw [look_cons_ne _ _ h4] at hb
  obtain ⟨i, hi, rfl, rfl⟩ := famE_inv T f id b hb
  refine ⟨1100 + i, hopX T[i].v T[i].x.hs, by rw [hσ _ (by omega)]; exact rT_fam hi, ?_, rfl⟩
  show look ((1000, _) :: (1001, _) :: (1002, _) :: (1003, _) :: famE T 1100) (1100 + i) = _
  rw [look_cons_ne _ _ (by omega), look_cons_ne _ _ (by omega), look_cons_ne _ _ (by omega), look_cons_ne _ _ (by omega)]
  exact famE_at T 1100 i hi
section
variable {P : Program} {nt d : Nat} {Q : Post} {e e1 : Env} {h h1 H' M : Heap} {ops : Array Oper} {o : Oper} {rest : List Oper} {T : List EntR} {ν : List (Nat × Nat)} {DM : Nat → Bool} {c : AVal} {f : Nat}
theorem Wk_tab (hf : 20 ≤ f ∧ f ≤ 700) (hn : T.length ≤ 200) (hν : ∀ x ∈ ν, x.1 < 1000 ∧ DM x.2 = true) (hνinj : ∀ p p' i, look ν p = some i → look ν p' = some i → p = p') (hdis : ∀ k, DM k = true → tD f k = false)
    (hM : ∀ id b, look M id = some b → ∃ p, look ν p = some id ∧ look H' p = some b ∧ plainB b = true) (hH : ∀ p b, look (V.tabV0 T) p = some b → look H' p = some b)
    (he : Sub e1 e) (hea : apE DM e1 = true) (hed : e1.all (fun p => !Nat.beq d p.1) = true) (hh : Sub h1 h) (hha : apH (fun k => DM k || tD f k) h1 = true) :
    AWk nt ((d, c) :: killEs (ν.map (·.2)) e) (renH (ν ++ rT f T.length) H' ++ killHs (ν.map (·.2)) h) ((d, c) :: e1) (h1 ++ (M ++ tabB T f)) := by
  have hσ : ∀ p, 1000 ≤ p → look (ν ++ rT f T.length) p = look (rT f T.length) p := fun p hp => by
    rw [look_append]
    cases hl : look ν p with
    | none => rfl
    | some i => have := (hν _ (look_memC hl)).1; omega
  have hσ1 : ∀ p i, look ν p = some i → look (ν ++ rT f T.length) p = some i := fun p i hp => by rw [look_append, hp]
  have hσ2 : ∀ p i, look (ν ++ rT f T.length) p = some i → look ν p = some i ∨ (look ν p = none ∧ look (rT f T.length) p = some i) := fun p i hp => by
    rw [look_append] at hp
    cases hl : look ν p with
    | none => rw [hl] at hp; exact .inr ⟨rfl, hp⟩
    | some j => rw [hl] at hp; exact .inl hp
  have hinj : ∀ p p' i, look (ν ++ rT f T.length) p = some i → look (ν ++ rT f T.length) p' = some i → p = p' := fun p p' i hp hp' => by
    rcases hσ2 p i hp with h1 | ⟨_, h1⟩ <;> rcases hσ2 p' i hp' with h2 | ⟨_, h2⟩
    · exact hνinj p p' i h1 h2
    · have h3 := hdis i (hν _ (look_memC h1)).2
      rw [(rT_D hn h2).1] at h3; cases h3
    · have h3 := hdis i (hν _ (look_memC h2)).2
      rw [(rT_D hn h1).1] at h3; cases h3
    · exact rT_inj hf hn h1 h2
  have hids : ∀ j ∈ ν.map (·.2), DM j = true := fun j hj => by
    obtain ⟨x, hx, rfl⟩ := List.mem_map.1 hj
    exact (hν x hx).2
  refine Wk_selG (apE_sub hids he hea hed) (apH_sub (D' := fun k => DM k || tD f k) (fun j hj => by simp [hids j hj]) hh hha fun id hd => ?_) fun id b hb => ?_
  · cases hl : look (renH (ν ++ rT f T.length) H') id with
    | none => rfl
    | some b =>
      obtain ⟨p, b', h1, _⟩ := (look_renH hinj H' id).1 b hl
      rw [Bool.or_eq_false_iff] at hd
      rcases hσ2 p id h1 with h2 | ⟨_, h2⟩
      · have := (hν _ (look_memC h2)).2
        rw [hd.1] at this; cases this
      · have := (rT_D hn h2).1
        rw [hd.2] at this; cases this
  · rw [look_append] at hb
    rw [look_append]
    cases hl : look M id with
    | some b' =>
      rw [hl] at hb; cases hb
      obtain ⟨p, h1, h2, h3⟩ := hM id b hl
      rw [ren_at hinj (hσ1 p id h1) h2, plain_ren h3]
    | none =>
      rw [hl] at hb
      have hb : look (tabB T f) id = some b := hb
      obtain ⟨p, b', h1, h2, h3⟩ := tab_of hn hσ hb
      rw [ren_at hinj h1 (hH p b' h2), h3]
def nuE : List (Nat × Nat) := (3, 965) :: shl 100 400 200
theorem nuE_in : ∀ x ∈ nuE, x.1 < 1000 ∧ fD 965 400 x.2 = true := fun x hx => by
  rcases List.mem_cons.1 hx with rfl | hx
  · exact ⟨by decide, rfl⟩
  · have := shl_in _ _ _ x hx
    exact ⟨by omega, by simp only [fD, decide_eq_true_eq]; omega⟩
theorem nuE_inj (p p' i : Nat) (h : look nuE p = some i) (h' : look nuE p' = some i) : p = p' := by
  have key : ∀ p, look nuE p = some i → (p = 3 ∧ i = 965) ∨ (100 ≤ p ∧ p < 300 ∧ i = p - 100 + 400) := fun p hp => by
    rcases List.mem_cons.1 (look_memC hp) with h1 | h1
    · cases h1; exact .inl ⟨rfl, rfl⟩
    · have := shl_in _ _ _ _ h1
      exact .inr (by dsimp only at this; omega)
  rcases key p h with h1 | h1 <;> rcases key p' h' with h2 | h2 <;> omega
theorem nuE_nd : (nuE.map (·.1)).Nodup := by
  unfold nuE
  rw [List.map_cons, List.nodup_cons]
  refine ⟨fun h => ?_, shl_nd _ _ _⟩
  obtain ⟨x, hx, h1⟩ := List.mem_map.1 h
  have := shl_in _ _ _ x hx
  dsimp only at h1
  omega
theorem nuE_fam {i : Nat} (hi : i < 200) : look nuE (100 + i) = some (400 + i) := by
  unfold nuE
  rw [look_cons_ne _ _ (by omega), look_shl, if_pos ⟨by omega, by omega⟩, show 100 + i - 100 + 400 = 400 + i by omega]
theorem tabV0_ge {p : Nat} {b : ABlk} (hb : look (V.tabV0 T) p = some b) : 1000 ≤ p := (V.tabV_has T p b hb).1
theorem O_tEnt (hl : ∀ y ∈ T, y.x.hs.length ≤ 2147483648) (hn : T.length ≤ 200) (hT : ∀ id b, look (tabB T 100) id = some b → look h id = some b) (he : Sub e1 e) (hea : apE (fD 965 400) e1 = true) (hed : e1.all (fun p => !Nat.beq d p.1) = true) (hh : Sub h1 h) (hha : apH (fun k => fD 965 400 k || tD 100 k) h1 = true)
    {args : Array Operand} {ats : Array TypeId} (hw : awant ops e o = some true) (hdst : o.dst = some d) (hd : Nat.blt d nt = true) (ho : o.op = .call { callee := .value (.func 11), args := args, argTypes := ats }) (hx : aevs e args.toList = some [.ptr 10 0])
    (HK : ∀ Z : List EntR, Z.map (·.x) = T.map (·.x) → AOps Tryz.prog nt ops Q rest ((d, .row 965) :: e1) (h1 ++ (((965, entRB Z) :: famE Z 400) ++ tabB T 100))) : AOps Tryz.prog nt ops Q (o :: rest) e h := by
  refine O_cX (α := List EntR) (C := fun _ => .row 3) (H1 := fun Z => ((3, entRB Z) :: V.tabV0 T) ++ famE Z 100) (Φ := fun Z => Z.map (·.x) = T.map (·.x)) (rT 100 T.length) nuE (fun p p' i h1 h2 => rT_inj ⟨by decide, by decide⟩ hn h1 h2) (fun p i hp => ⟨(rT_D hn hp).2, tab_dom hp, fun Z => ?_⟩) (fun p i hp => ?_) nuE_inj nuE_nd (V.tEntriesV_A T hl hn) rfl (lentT ⟨by decide, by decide⟩ hn hT) hw hdst hd ho hx rfl fun Z hZ => ?_
  · have h1 := (rT_D hn hp).2
    rw [look_append, look_cons_ne _ _ (by omega)]
    obtain ⟨b, hb⟩ := Option.isSome_iff_exists.1 (tab_dom hp)
    rw [hb]; rfl
  · have h1 := nuE_in _ (look_memC hp)
    simp only [fD, decide_eq_true_eq] at h1
    exact ⟨h1.1, by omega, fun q hq => by
      have h2 := (rT_D hn hq).1
      simp only [tD, decide_eq_true_eq] at h2
      omega⟩
  · have hZl : Z.length ≤ 200 := by
      have h1 := congrArg List.length hZ
      rw [List.length_map, List.length_map] at h1; omega
    refine O_weaken (Wk_tab (f := 100) ⟨by decide, by decide⟩ (DM := fD 965 400) hn nuE_in nuE_inj (fun k hk => ?_) (M := (965, entRB Z) :: famE Z 400) (fun id b hb => ?_) (fun p b hb => ?_) he hea hed hh hha) (HK Z hZ)
    · simp only [fD, tD, decide_eq_true_eq, decide_eq_false_iff_not] at hk ⊢; omega
    · by_cases h3 : 965 = id
      · subst h3; rw [look_cons_same] at hb; cases hb
        exact ⟨3, rfl, rfl, plain_entR Z⟩
      · rw [look_cons_ne _ _ h3] at hb
        have hx := isX_plain (famE_in hb).2.2
        obtain ⟨i, hi, rfl, rfl⟩ := famE_inv Z 400 id b hb
        refine ⟨100 + i, nuE_fam (by omega), ?_, hx⟩
        rw [look_append, look_cons_ne _ _ (by omega)]
        cases hl : look (V.tabV0 T) (100 + i) with
        | some b2 => have := tabV0_ge hl; omega
        | none => exact famE_at Z 100 i hi
    · have := tabV0_ge hb
      rw [look_append, look_cons_ne _ _ (by omega), hb]
theorem O_tLook (hf : 20 ≤ f ∧ f ≤ 500) {E : List Ent} {x : Int} {z : Ent} {b : Bool} (hTE : T.map (·.x) = E) (hzb : (longRE (uE E) (mE E) x).2 = (z, b)) (x0 : 0 ≤ x) (x1 : x < 4294967296) (hnd : (E.map (·.p)).Nodup) (hg : ∀ y ∈ E, Go.Proofs.YtenolkolkpfjgaaGreat.good y.p) (hl : ∀ y ∈ E, y.hs.length ≤ 2147483648) (hn : T.length ≤ 200) (hT : ∀ id b, look (tabB T f) id = some b → look h id = some b) (he : Sub e1 e) (hea : apE (fD 1000 700) e1 = true) (hed : e1.all (fun p => !Nat.beq d p.1) = true) (hh : Sub h1 h) (hha : apH (fun k => fD 1000 700 k || tD f k) h1 = true)
    {args : Array Operand} {ats : Array TypeId} (hw : awant ops e o = some true) (hdst : o.dst = some d) (hd : Nat.blt d nt = true) (ho : o.op = .call { callee := .value (.func 12), args := args, argTypes := ats }) (hx : aevs e args.toList = some [.ptr 10 0, .d (.sc (.int .u32 x))])
    (HK : ∀ v : Value, AOps Tryz.prog nt ops Q rest ((d, .tup [entRA ⟨z, v⟩, boolA b]) :: e1) (h1 ++ ([(700, hopX v z.hs)] ++ tabB T f))) : AOps Tryz.prog nt ops Q (o :: rest) e h := by
  subst hTE
  have hlk := V.lookV_A T x x0 x1 hnd (fun y hy => hl _ (List.mem_map.2 ⟨y, hy, rfl⟩)) (fun y hy => hg _ (List.mem_map.2 ⟨y, hy, rfl⟩))
  rw [hzb] at hlk
  dsimp only at hlk
  clear hzb hnd hg hl
  have hν : ∀ p i, look [(950, 700)] p = some i → p = 950 ∧ i = 700 := fun p i hp => by
    have := look_memC hp
    simp at this
    exact this
  refine O_cX (α := Value) (C := fun v => .tup [entRA ⟨z, v⟩, boolA b]) (H1 := fun v => (950, hopX v z.hs) :: V.tabV0 T) (Φ := fun _ => True) (rT f T.length) [(950, 700)] (fun p p' i h1 h2 => rT_inj ⟨hf.1, by omega⟩ hn h1 h2) (fun p i hp => ⟨(rT_D hn hp).2, tab_dom hp, fun Z => ?_⟩) (fun p i hp => ?_) (fun p p' i h1 h2 => (hν p i h1).1.trans (hν p' i h2).1.symm) (by simp) hlk rfl (lentT ⟨hf.1, by omega⟩ hn hT) hw hdst hd ho hx rfl fun v _ => ?_
  · have h1 := (rT_D hn hp).2
    rw [look_cons_ne _ _ (by omega)]
    exact tab_dom hp
  · obtain ⟨rfl, rfl⟩ := hν p i hp
    exact ⟨by decide, by decide, fun q hq => by
      have h2 := (rT_D hn hq).1
      simp only [tD, decide_eq_true_eq] at h2
      omega⟩
  · refine O_weaken (Wk_tab ⟨hf.1, by omega⟩ (DM := fD 1000 700) hn (fun x hx => ?_) (fun p p' i h1 h2 => (hν p i h1).1.trans (hν p' i h2).1.symm) (fun k hk => ?_) (M := [(700, hopX v z.hs)]) (fun id b hb => ?_) (fun p b hb => ?_) he hea hed hh hha) (HK v)
    · simp at hx; subst hx; exact ⟨by decide, rfl⟩
    · simp only [fD, tD, decide_eq_true_eq, decide_eq_false_iff_not] at hk ⊢; omega
    · by_cases h3 : 700 = id
      · subst h3; rw [look_cons_same] at hb; cases hb
        exact ⟨950, rfl, rfl, plain_hops _⟩
      · rw [look_cons_ne _ _ h3] at hb; cases hb
    · have := tabV0_ge hb
      rw [look_cons_ne _ _ (by omega), hb]
end
end Go.Proofs.YtenolkolkpfjgaaGreat.Ab

namespace Go.Proofs.YtenolkolkpfjgaaGreat.Ab
set_option linter.unusedVariables false
set_option maxRecDepth 100000
open Go.RowKit Go.Lib
set_option linter.unusedSimpArgs false
attribute [local irreducible] AWp AOps AQ AYield AEff ACall AWk AAny AAt AThen AIn APost NoPanic
def oneI (a b : Bool) : Int := if a then -1 else if b then 1 else 0
theorem one_A (a b : Bool) : ACall Tryz.prog 64 [boolA a, boolA b] [] (Just (intA (oneI a b))) := by
  refine ACall_of tabOk Tryz.func64 rfl Tryz.ntmps64 (congrArg Array.toList Tryz.results64) (by kernel_rfl) rfl ?_
  cases a
  · cases b
    ·
      repeat (first | refine q_Z ?_ | refine R_quiet rfl mixed (by kernel_rfl) ?_ | ((first | apply O_y rfl rfl rfl | apply Q_y rfl rfl rfl); (first | exact q_A | exact q_5 | exact q_B)) | refine q_d ?_ | refine q_a ?_ | refine q_b ?_ | refine q_c ?_ | refine A_ct rfl ?_ | refine A_cf rfl ?_ | refine q_W ?_)
      exact X_ret rfl ⟨rfl, rfl⟩
    ·
      repeat (first | refine q_Z ?_ | refine R_quiet rfl mixed (by kernel_rfl) ?_ | ((first | apply O_y rfl rfl rfl | apply Q_y rfl rfl rfl); (first | exact q_A | exact q_5 | exact q_B)) | refine q_d ?_ | refine q_a ?_ | refine q_b ?_ | refine q_c ?_ | refine A_ct rfl ?_ | refine A_cf rfl ?_ | refine q_W ?_)
      exact X_ret rfl ⟨rfl, rfl⟩
  ·
    repeat (first | refine q_Z ?_ | refine R_quiet rfl mixed (by kernel_rfl) ?_ | ((first | apply O_y rfl rfl rfl | apply Q_y rfl rfl rfl); (first | exact q_A | exact q_5 | exact q_B)) | refine q_d ?_ | refine q_a ?_ | refine q_b ?_ | refine q_c ?_ | refine A_ct rfl ?_ | refine A_cf rfl ?_ | refine q_W ?_)
    exact X_ret rfl ⟨rfl, rfl⟩
theorem oneI_c2 (x y : Int) : oneI (decide (x < y)) (decide (x > y)) = c2 x y := by
  unfold oneI c2
  by_cases h1 : x < y
  · simp [h1]
  · by_cases h2 : y < x
    · simp [h1, h2]
    · simp [h1, h2]
theorem oneI_bytes (x y : List UInt8) : oneI (decide (compareBytes x y < 0)) (decide (0 < compareBytes x y)) = compareBytes x y := by
  rcases bytes_c2 x y with h | h | h <;> rw [h] <;> rfl
theorem oneI_cB1 (b : Bool) : oneI b false = cB false b := by cases b <;> rfl
theorem oneI_cB2 (b : Bool) : oneI false (!b) = cB true b := by cases b <;> rfl
theorem one_c2 (x y : Int) : ACall Tryz.prog 64 [boolA (decide (x < y)), boolA (decide (x > y))] [] (Just (intA (c2 x y))) := by
  have := one_A (decide (x < y)) (decide (x > y)); rw [oneI_c2] at this; exact this
theorem one_bytes (x y : List UInt8) : ACall Tryz.prog 64 [boolA (decide (compareBytes x y < 0)), boolA (decide (0 < compareBytes x y))] [] (Just (intA (compareBytes x y))) := by
  have := one_A (decide (compareBytes x y < 0)) (decide (0 < compareBytes x y)); rw [oneI_bytes] at this; exact this
theorem first_A (l : List Int) (hn : l.length ≤ 1000000) : ACall Tryz.prog 62 [intsA l] [] (Just (intA (firstI l))) := by
  refine ACall_of tabOk Tryz.func62 rfl Tryz.ntmps62 (congrArg Array.toList Tryz.results62) (by kernel_rfl) rfl ?_
  repeat (first | refine q_Z ?_ | refine R_quiet rfl mixed (by kernel_rfl) ?_ | ((first | apply O_y rfl rfl rfl | apply Q_y rfl rfl rfl); (first | exact q_A | exact q_5 | exact q_B)) | refine q_d ?_ | refine q_a ?_ | refine q_b ?_ | refine q_c ?_ | refine A_ct rfl ?_ | refine A_cf rfl ?_ | refine q_W ?_)
  refine A_loop (fun k : Nat => [(0, intsA l), (3, intA (k : Int))]) (fun _ => []) (fun k => k ≤ l.length ∧ firstI l = firstI (l.drop k)) (fun k => l.length - k) 0 ⟨by omega, rfl⟩ (Wk_sel ⟨rfl, rfl, trivial⟩ trivial) ?_
  rintro k ⟨hk, he⟩
  dsimp only
  by_cases hlt : k < l.length
  · by_cases h0 : l[k] = 0
    ·
      repeat (first | refine q_Z ?_ | refine R_quiet rfl mixed (by kernel_rfl) ?_ | ((first | apply O_y rfl rfl rfl | apply Q_y rfl rfl rfl); (first | exact q_A | exact R_loadi tabOk rfl rfl rfl rfl (by first | exact win_flat0 intD_len l k _ hlt (by decide) | exact win_flat intD_len l k _ _ hlt (by decide) | exact win_flat2 intD_len l k _ _ _ hlt (by decide) | rfl) rfl rfl | exact q_B)) | refine q_d ?_ | refine q_a ?_ | refine q_b ?_ | refine q_c ?_ | refine A_ct rfl ?_ | refine A_cf rfl ?_ | refine q_W ?_)
      exact ⟨k + 1, ⟨by omega, by rw [he, firstI_drop hlt h0]⟩, by omega, Wk_sel ⟨rfl, rfl, trivial⟩ trivial⟩
    ·
      repeat (first | refine q_Z ?_ | refine R_quiet rfl mixed (by kernel_rfl) ?_ | ((first | apply O_y rfl rfl rfl | apply Q_y rfl rfl rfl); (first | exact q_A | exact R_loadi tabOk rfl rfl rfl rfl (by first | exact win_flat0 intD_len l k _ hlt (by decide) | exact win_flat intD_len l k _ _ hlt (by decide) | exact win_flat2 intD_len l k _ _ _ hlt (by decide) | rfl) rfl rfl | exact q_B)) | refine q_d ?_ | refine q_a ?_ | refine q_b ?_ | refine q_c ?_ | refine A_ct rfl ?_ | refine A_cf rfl ?_ | refine q_W ?_)
      exact X_ret rfl ⟨by rw [he, firstI_at hlt h0]; rfl, rfl⟩
  · have : k = l.length := by omega
    subst this
    repeat (first | refine q_Z ?_ | refine R_quiet rfl mixed (by kernel_rfl) ?_ | ((first | apply O_y rfl rfl rfl | apply Q_y rfl rfl rfl); (first | exact q_A | exact q_5 | exact q_B)) | refine q_d ?_ | refine q_a ?_ | refine q_b ?_ | refine q_c ?_ | refine A_ct rfl ?_ | refine A_cf rfl ?_ | refine q_W ?_)
    exact X_ret rfl ⟨by rw [he, List.drop_length]; rfl, rfl⟩
set_option maxHeartbeats 8000000 in
theorem refPrefix_A (p q : Pfx) : ACall Tryz.prog 63 [pfxA p, pfxA q] [] (Just (intA (ordP p q))) := by
  have h1 := one_c2 p.a q.a
  have h2 := one_c2 p.b q.b
  have h3 := first_A [c2 p.a q.a, c2 p.b q.b] (by simp)
  rw [ordP_first] at h3
  refine ACall_of tabOk Tryz.func63 rfl Tryz.ntmps63 (congrArg Array.toList Tryz.results63) (by kernel_rfl) rfl ?_
  refine A_seq ?_
  refine R_list ?_
  repeat (first | refine q_Z ?_ | refine R_quiet rfl mixed (by kernel_rfl) ?_ | ((first | apply O_y rfl rfl rfl | apply Q_y rfl rfl rfl); (first | exact q_A | exact q_5 | exact q_B)) | refine q_d ?_ | refine q_a ?_ | refine q_b ?_ | refine q_c ?_ | refine A_ct rfl ?_ | refine A_cf rfl ?_ | refine q_W ?_)
  refine N_begin [] mixed ?_
  (apply q_P 0 rfl (by kernel_rfl) rfl rfl rfl; (first | exact q_1 | exact q_2 | exact q_8 | exact q_7 | exact q_13 | exact Y_sbin rfl rfl rfl rfl | exact q_20 | exact q_25 | exact q_26))
  (apply q_P 1 rfl (by kernel_rfl) rfl rfl rfl; (first | exact q_1 | exact q_2 | exact q_8 | exact q_7 | exact q_13 | exact Y_sbin rfl rfl rfl rfl | exact q_20 | exact q_25 | exact q_26))
  (apply q_P 2 rfl (by kernel_rfl) rfl rfl rfl; (first | exact q_1 | exact q_2 | exact q_8 | exact q_7 | exact q_13 | exact Y_sbin rfl rfl rfl rfl | exact q_20 | exact q_25 | exact q_26))
  (apply q_P 3 rfl (by kernel_rfl) rfl rfl rfl; (first | exact q_1 | exact q_2 | exact q_8 | exact q_7 | exact q_13 | exact Y_sbin rfl rfl rfl rfl | exact q_20 | exact q_25 | exact q_26))
  (apply q_P 4 rfl (by kernel_rfl) rfl rfl rfl; (first | exact q_1 | exact q_2 | exact q_8 | exact q_7 | exact q_13 | exact Y_sbin rfl rfl rfl rfl | exact q_20 | exact q_25 | exact q_26))
  (apply q_P 5 rfl (by kernel_rfl) rfl rfl rfl; (first | exact q_1 | exact q_2 | exact q_8 | exact q_7 | exact q_13 | exact Y_sbin rfl rfl rfl rfl | exact q_20 | exact q_25 | exact q_26))
  (apply q_P 6 rfl (by kernel_rfl) rfl rfl rfl; (first | exact q_1 | exact q_2 | exact q_8 | exact q_7 | exact q_13 | exact Y_sbin rfl rfl rfl rfl | exact q_20 | exact q_25 | exact q_26))
  (apply q_P 7 rfl (by kernel_rfl) rfl rfl rfl; (first | exact q_1 | exact q_2 | exact q_8 | exact q_7 | exact q_13 | exact Y_sbin rfl rfl rfl rfl | exact q_20 | exact q_25 | exact q_26))
  (apply q_P 8 rfl (by kernel_rfl) rfl rfl rfl; (first | exact q_1 | exact q_2 | exact q_8 | exact q_7 | exact q_13 | exact Y_sbin rfl rfl rfl rfl | exact q_20 | exact q_25 | exact q_26))
  (apply q_P 9 rfl (by kernel_rfl) rfl rfl rfl; (first | exact q_1 | exact q_2 | exact q_8 | exact q_7 | exact q_13 | exact Y_sbin rfl rfl rfl rfl | exact q_20 | exact q_25 | exact q_26))
  (apply q_P 11 rfl (by kernel_rfl) rfl rfl rfl; (first | exact q_1 | exact q_2 | exact q_8 | exact q_7 | exact q_13 | exact Y_sbin rfl rfl rfl rfl | exact q_20 | exact q_25 | exact q_26))
  (apply q_P 12 rfl (by kernel_rfl) rfl rfl rfl; (first | exact q_1 | exact q_2 | exact q_8 | exact q_7 | exact q_13 | exact Y_sbin rfl rfl rfl rfl | exact q_20 | exact q_25 | exact q_26))
  (apply q_P 13 rfl (by kernel_rfl) rfl rfl rfl; (first | exact q_1 | exact q_2 | exact q_8 | exact q_7 | exact q_13 | exact Y_sbin rfl rfl rfl rfl | exact q_20 | exact q_25 | exact q_26))
  (apply q_P 14 rfl (by kernel_rfl) rfl rfl rfl; (first | exact q_1 | exact q_2 | exact q_8 | exact q_7 | exact q_13 | exact Y_sbin rfl rfl rfl rfl | exact q_20 | exact q_25 | exact q_26))
  (apply q_P 15 rfl (by kernel_rfl) rfl rfl rfl; (first | exact q_1 | exact q_2 | exact q_8 | exact q_7 | exact q_13 | exact Y_sbin rfl rfl rfl rfl | exact q_20 | exact q_25 | exact q_26))
  (apply q_P 16 rfl (by kernel_rfl) rfl rfl rfl; (first | exact q_1 | exact q_2 | exact q_8 | exact q_7 | exact q_13 | exact Y_sbin rfl rfl rfl rfl | exact q_20 | exact q_25 | exact q_26))
  (apply q_P 17 rfl (by kernel_rfl) rfl rfl rfl; (first | exact q_1 | exact q_2 | exact q_8 | exact q_7 | exact q_13 | exact Y_sbin rfl rfl rfl rfl | exact q_20 | exact q_25 | exact q_26))
  (apply q_P 18 rfl (by kernel_rfl) rfl rfl rfl; (first | exact q_1 | exact q_2 | exact q_8 | exact q_7 | exact q_13 | exact Y_sbin rfl rfl rfl rfl | exact q_20 | exact q_25 | exact q_26))
  (apply q_P 19 rfl (by kernel_rfl) rfl rfl rfl; (first | exact q_1 | exact q_2 | exact q_8 | exact q_7 | exact q_13 | exact Y_sbin rfl rfl rfl rfl | exact q_20 | exact q_25 | exact q_26))
  (apply q_P 20 rfl (by kernel_rfl) rfl rfl rfl; (first | exact q_1 | exact q_2 | exact q_8 | exact q_7 | exact q_13 | exact Y_sbin rfl rfl rfl rfl | exact q_20 | exact q_25 | exact q_26))
  refine N_one (j := 10) (by kernel_rfl) ?_
  refine T_call rfl rfl rfl rfl rfl rfl h1 (fun _ => rfl) ?_
  refine N_one (j := 21) (by kernel_rfl) ?_
  refine T_call rfl rfl rfl rfl rfl rfl h2 (fun _ => rfl) ?_
  refine N_one (j := 22) (by kernel_rfl) ?_
  refine T_slice tabOk rfl rfl rfl rfl rfl rfl rfl rfl rfl rfl rfl rfl ?_
  refine N_one (j := 23) (by kernel_rfl) ?_
  refine T_cL rfl rfl rfl rfl rfl rfl h3 rfl (fun _ _ _ => val_mk _ _ _ _ _ rfl rfl) ?_
  (apply q_P 24 rfl (by kernel_rfl) rfl rfl rfl; (first | exact q_1 | exact q_2 | exact q_8 | exact q_7 | exact q_13 | exact Y_sbin rfl rfl rfl rfl | exact q_20 | exact q_25 | exact q_26))
  refine N_done (by kernel_rfl) ?_
  repeat (first | refine q_Z ?_ | refine R_quiet rfl mixed (by kernel_rfl) ?_ | ((first | apply O_y rfl rfl rfl | apply Q_y rfl rfl rfl); (first | exact q_A | exact q_5 | exact q_B)) | refine q_d ?_ | refine q_a ?_ | refine q_b ?_ | refine q_c ?_ | refine A_ct rfl ?_ | refine A_cf rfl ?_ | refine q_W ?_)
  exact X_ret rfl ⟨rfl, rfl⟩
end Go.Proofs.YtenolkolkpfjgaaGreat.Ab

/-
  Texts of a proof, one behind the other (part 28).
-/
import Derived.Test.YtpnhkkejcnicoaaGreatRo6
import Derived.Test.YtpnhkkejcnicoaaGreatRo26
set_option linter.unusedVariables false
set_option linter.unusedSimpArgs false
namespace Go.Proofs.YtpnhkkejcnicoaaGreat
set_option linter.unusedVariables false
set_option maxRecDepth 100000
open Go.RowKit Go.Lib
theorem runL_p (d : Dvc) (cs : List Cls) (dft : Bool) (s0 : Sbj) : ∀ (r : List Cls) (i fr : Nat) (b : Int) (s : Sbj) (ms : List (Nat × Sbj)), s.p = s0.p → (lastS s0 ms).p = s0.p → (lastS s0 (runL d cs dft r i fr b s ms).2.2).p = s0.p := fun r => by
  induction r with
  | nil => intro i fr b s ms h h2; exact h2
  | cons c r ih =>
    intro i fr b s ms h h2
    have hs : (setC c s).p = s0.p := h
    rw [runL]
    split
    · exact ih _ _ _ _ _ h h2
    split
    · exact ih _ _ _ _ _ h h2
    split
    · show (lastS s0 (ms ++ [(i, s)])).p = _; rw [lastS_snoc]; exact h
    split
    · split
      · show (lastS s0 (ms ++ [(i, setC c s)])).p = _; rw [lastS_snoc]; exact hs
      · exact ih _ _ _ _ _ hs (by rw [lastS_snoc]; exact hs)
    · exact ih _ _ _ _ _ hs (by rw [lastS_snoc]; exact hs)
theorem applyP_p {d : Dvc} {nm : List UInt8} {s : Sbj} (h : (applyP d nm s).2.1 = true) : (applyP d nm s).1.p = s.p := by
  unfold applyP at h ⊢
  split
  · rfl
  · rename_i hn
    rw [if_neg hn] at h
    cases hf : d.pols.find? (fun p => decide (p.nm = nm)) with
    | none => rw [hf] at h; cases h
    | some p =>
      rw [hf] at h
      dsimp only at h ⊢
      split
      · exact runL_p d p.cs p.dft s p.cs 0 0 (-1) s [] rfl rfl
      · rename_i hk; rw [if_neg hk] at h; cases h
def andC (a b : Int) : Int := IntKind.u8.wrap ((BitVec.ofInt 8 a &&& BitVec.ofInt 8 b).toNat)
def comesB (f fr : Int) : Bool :=
  if f = 1 then decide (andC fr 1 ≠ 0) else if f = 2 then decide (andC fr 2 ≠ 0) else if 3 ≤ f ∧ f ≤ 6 then decide (andC fr 4 ≠ 0) else if f = 7 ∨ f = 8 then decide (andC fr 8 ≠ 0) else false
def subjR (x : Rds) (ospf : Bool) (r : Rte) : Sbj := ⟨r.p, if x.met ≠ -1 then x.met else if ospf then 20 else r.m, r.t, 100, [], [], 0⟩
abbrev Tkn := Nat × Sbj
def inR (d : Dvc) (x : Rds) (i : Nat) (ospf : Bool) : List Rte → List (Pfx × Tkn) → List Pfx → List (Pfx × Tkn)
  | [], tk, lk => tk
  | r :: rs, tk, lk =>
    if (aget tk r.p).isSome = true ∨ comesB r.f x.from_ = false ∨ r.p ∈ lk then inR d x i ospf rs tk lk
    else if (applyP d x.pol (subjR x ospf r)).2.1 = true then inR d x i ospf rs (tk ++ [(r.p, (i, (applyP d x.pol (subjR x ospf r)).1))]) (lk ++ [r.p])
    else inR d x i ospf rs tk (lk ++ [r.p])
def outR (d : Dvc) (ospf : Bool) (rs : List Rte) : List Rds → Nat → List (Pfx × Tkn) → List (Pfx × Tkn)
  | [], i, tk => tk
  | x :: l, i, tk => outR d ospf rs l (i + 1) (inR d x i ospf rs tk [])
theorem cmpP_three (x y : Pfx) : (cmpP x y = -1 ∧ (x.a < y.a ∨ x.a = y.a ∧ x.b < y.b)) ∨ (cmpP x y = 0 ∧ x.a = y.a ∧ x.b = y.b) ∨ (cmpP x y = 1 ∧ (y.a < x.a ∨ x.a = y.a ∧ y.b < x.b)) := by
  obtain ⟨a, b⟩ := x
  obtain ⟨c, d⟩ := y
  unfold cmpP
  dsimp only
  by_cases h : a < c ∨ a = c ∧ b < d
  · rw [if_pos h]; exact .inl ⟨rfl, h⟩
  · rw [if_neg h]
    by_cases h2 : (⟨a, b⟩ : Pfx) = ⟨c, d⟩
    · rw [if_pos h2]
      injection h2 with h3 h4
      exact .inr (.inl ⟨rfl, h3, h4⟩)
    · rw [if_neg h2]
      refine .inr (.inr ⟨rfl, ?_⟩)
      have h3 : ¬ (a = c ∧ b = d) := fun ⟨h3, h4⟩ => h2 (by rw [h3, h4])
      omega
theorem good_cmpP : Good cmpP := by
  refine ⟨fun x y => ?_, fun x y z h1 h2 => ?_⟩
  · rcases cmpP_three x y with ⟨e1, h1⟩ | ⟨e1, h1⟩ | ⟨e1, h1⟩ <;> rcases cmpP_three y x with ⟨e2, h2⟩ | ⟨e2, h2⟩ | ⟨e2, h2⟩ <;> rw [e1, e2] <;> omega
  · rcases cmpP_three x y with ⟨e1, g1⟩ | ⟨e1, g1⟩ | ⟨e1, g1⟩ <;> rcases cmpP_three y z with ⟨e2, g2⟩ | ⟨e2, g2⟩ | ⟨e2, g2⟩ <;> rcases cmpP_three x z with ⟨e3, g3⟩ | ⟨e3, g3⟩ | ⟨e3, g3⟩ <;> rw [e3] <;> omega
theorem cmpP_zero {x y : Pfx} (h : cmpP x y = 0) : x = y := by
  rcases cmpP_three x y with ⟨e1, h1⟩ | ⟨e1, h1⟩ | ⟨e1, h1⟩
  · omega
  · obtain ⟨a, b⟩ := x
    obtain ⟨c, d⟩ := y
    dsimp only at h1
    rw [h1.1, h1.2]
  · omega
def cmpT (x y : Tkn) : Int := cmpP x.2.p y.2.p
theorem good_cmpT : Good cmpT := ⟨fun _ _ => good_cmpP.anti _ _, fun _ _ _ => good_cmpP.trans _ _ _⟩
def takenL (tk : List (Pfx × Tkn)) : List Tkn := srt cmpT (tk.map (·.2))
def errR (d : Dvc) (l : List Rds) : Bool := l.any fun x => decide ((applyP d x.pol zeroS).2.2 ≠ 0)
def overR (d : Dvc) (l : List Rds) (rs : List Rte) (ospf : Bool) : List Tkn × Int := if errR d l = true then ([], 120) else (takenL (outR d ospf (sortU ordR rs) l 0 []), 0)
structure Ents (tk : List (Pfx × Tkn)) : Prop where
  nd : (tk.map (·.1)).Nodup
  key : ∀ e ∈ tk, e.2.2.p = e.1
theorem ents_snoc {tk : List (Pfx × Tkn)} (h : Ents tk) {p : Pfx} {v : Tkn} (hp : aget tk p = none) (hv : v.2.p = p) : Ents (tk ++ [(p, v)]) := by
  refine ⟨?_, fun e he => ?_⟩
  · rw [List.map_append, List.nodup_append]
    refine ⟨h.nd, by simp, fun a ha b hb => ?_⟩
    obtain ⟨e, he, rfl⟩ := List.mem_map.1 ha
    have : b = p := by simpa using hb
    subst this
    exact aget_none hp e he
  · rcases List.mem_append.1 he with he | he
    · exact h.key e he
    · have : e = (p, v) := by simpa using he
      subst this; exact hv
theorem inR_ext (d : Dvc) (x : Rds) (i : Nat) (ospf : Bool) : ∀ (rs : List Rte) (tk : List (Pfx × Tkn)) (lk : List Pfx), Ents tk →
    ∃ ext, inR d x i ospf rs tk lk = tk ++ ext ∧ Ents (tk ++ ext) ∧ ∀ e ∈ ext, e.2.1 = i ∧ ∃ r ∈ rs, r.p = e.1 ∧ comesB r.f x.from_ = true
  | [], tk, lk, h => ⟨[], by simp [inR], by simpa using h, by simp⟩
  | r :: rs, tk, lk, h => by
    rw [inR]
    split
    · obtain ⟨ext, e1, e2, e3⟩ := inR_ext d x i ospf rs tk lk h
      exact ⟨ext, e1, e2, fun e he => ⟨(e3 e he).1, by obtain ⟨r', h1, h2⟩ := (e3 e he).2; exact ⟨r', by simp [h1], h2⟩⟩⟩
    · rename_i hn
      have hn1 : aget tk r.p = none := by
        cases hg : aget tk r.p with
        | none => rfl
        | some v => exact absurd (.inl (by rw [hg]; rfl)) hn
      have hn2 : comesB r.f x.from_ = true := by
        cases hg : comesB r.f x.from_
        · exact absurd (.inr (.inl hg)) hn
        · rfl
      split
      · rename_i hok
        have hp := applyP_p hok
        obtain ⟨ext, e1, e2, e3⟩ := inR_ext d x i ospf rs _ (lk ++ [r.p]) (ents_snoc h hn1 (v := (i, (applyP d x.pol (subjR x ospf r)).1)) hp)
        refine ⟨(r.p, (i, (applyP d x.pol (subjR x ospf r)).1)) :: ext, by rw [e1]; simp, by simpa using e2, fun e he => ?_⟩
        rcases List.mem_cons.1 he with rfl | he
        · exact ⟨rfl, r, by simp, rfl, hn2⟩
        · obtain ⟨h1, r', h2, h3⟩ := e3 e he
          exact ⟨h1, r', by simp [h2], h3⟩
      · obtain ⟨ext, e1, e2, e3⟩ := inR_ext d x i ospf rs tk (lk ++ [r.p]) h
        exact ⟨ext, e1, e2, fun e he => ⟨(e3 e he).1, by obtain ⟨r', h1, h2⟩ := (e3 e he).2; exact ⟨r', by simp [h1], h2⟩⟩⟩
theorem outR_ext (d : Dvc) (ospf : Bool) (rs : List Rte) : ∀ (l : List Rds) (i : Nat) (tk : List (Pfx × Tkn)), Ents tk →
    ∃ ext, outR d ospf rs l i tk = tk ++ ext ∧ Ents (tk ++ ext) ∧ ∀ e ∈ ext, i ≤ e.2.1 ∧ ∃ h : e.2.1 - i < l.length, ∃ r ∈ rs, r.p = e.1 ∧ comesB r.f (l[e.2.1 - i]).from_ = true
  | [], i, tk, h => ⟨[], by simp [outR], by simpa using h, by simp⟩
  | x :: l, i, tk, h => by
    rw [outR]
    obtain ⟨e1, a1, a2, a3⟩ := inR_ext d x i ospf rs tk [] h
    rw [a1]
    obtain ⟨e2, b1, b2, b3⟩ := outR_ext d ospf rs l (i + 1) _ a2
    refine ⟨e1 ++ e2, by rw [b1, List.append_assoc], by rw [← List.append_assoc]; exact b2, fun e he => ?_⟩
    rcases List.mem_append.1 he with he | he
    · obtain ⟨h1, h2⟩ := a3 e he
      refine ⟨by omega, by rw [h1]; simp, ?_⟩
      have : e.2.1 - i = 0 := by omega
      simpa [this] using h2
    · obtain ⟨h1, h2, h3⟩ := b3 e he
      refine ⟨by omega, by rw [List.length_cons]; omega, ?_⟩
      have : e.2.1 - i = (e.2.1 - (i + 1)) + 1 := by omega
      simpa [this] using h3
theorem outR_take (d : Dvc) (ospf : Bool) (rs : List Rte) : ∀ (l m : List Rds) (i : Nat) (tk : List (Pfx × Tkn)), outR d ospf rs (l ++ m) i tk = outR d ospf rs m (i + l.length) (outR d ospf rs l i tk)
  | [], m, i, tk => by simp [outR]
  | x :: l, m, i, tk => by rw [List.cons_append, outR, outR, outR_take d ospf rs l m (i + 1) _, List.length_cons]; congr 1; omega
theorem ents_nil : Ents ([] : List (Pfx × Tkn)) := ⟨by simp, by simp⟩
theorem takenL_mem {tk : List (Pfx × Tkn)} {x : Tkn} : x ∈ takenL tk ↔ ∃ p, (p, x) ∈ tk := by
  unfold takenL
  rw [srt_mem, List.mem_map]
  constructor
  · rintro ⟨⟨p, y⟩, h1, rfl⟩; exact ⟨p, h1⟩
  · rintro ⟨p, h⟩; exact ⟨(p, x), h, rfl⟩
theorem takenL_rising {tk : List (Pfx × Tkn)} (h : Ents tk) : Rising cmpT (takenL tk) := by
  have h1 := srt_pair good_cmpT (tk.map (·.2))
  have h2 : (takenL tk).Pairwise fun x y => x.2.p ≠ y.2.p := by
    have h3 : (tk.map (·.2)).Pairwise fun x y => x.2.p ≠ y.2.p := by
      rw [List.pairwise_map]
      have h4 : tk.Pairwise fun a b => a.1 ≠ b.1 := List.pairwise_map.1 h.nd
      exact h4.imp_of_mem fun {a b} ha hb hne => by rw [h.key a ha, h.key b hb]; exact hne
    exact (List.mergeSort_perm _ _).symm.pairwise h3 fun {a b} hne => fun e => hne e.symm
  exact h1.and h2 |>.imp fun {x y} ⟨a, b⟩ => by
    rcases Int.lt_or_eq_of_le a with h | h
    · exact h
    · exact absurd (cmpP_zero h) b
theorem takenL_len (tk : List (Pfx × Tkn)) : (takenL tk).length = tk.length := by unfold takenL; rw [srt_len, List.length_map]
theorem over_filter (d : Dvc) (ospf : Bool) (rs : List Rte) (l : List Rds) (n : Nat) (hn : n ≤ l.length) :
    takenL (outR d ospf rs (l.take n) 0 []) = (takenL (outR d ospf rs l 0 [])).filter fun x => decide (x.1 < n) := by
  have e : outR d ospf rs l 0 [] = outR d ospf rs (l.drop n) (0 + (l.take n).length) (outR d ospf rs (l.take n) 0 []) := by
    rw [← outR_take, List.take_append_drop]
  obtain ⟨a, a1, a2, a3⟩ := outR_ext d ospf rs (l.take n) 0 [] ents_nil
  rw [List.nil_append] at a1 a2
  obtain ⟨b, b1, b2, b3⟩ := outR_ext d ospf rs (l.drop n) (0 + (l.take n).length) _ (a1 ▸ a2)
  rw [← e, a1] at b1
  rw [a1] at b2
  rw [b1, a1]
  have hl : (l.take n).length = n := by rw [List.length_take]; omega
  refine rising_ext good_cmpT (takenL_rising a2) ((takenL_rising b2).filter _) fun x => ?_
  rw [List.mem_filter, takenL_mem, takenL_mem]
  constructor
  · rintro ⟨p, h⟩
    refine ⟨⟨p, by simp [h]⟩, ?_⟩
    obtain ⟨_, h2, _⟩ := a3 _ h
    rw [hl] at h2
    simp at h2 ⊢
    exact h2
  · rintro ⟨⟨p, h⟩, h2⟩
    rcases List.mem_append.1 h with h | h
    · exact ⟨p, h⟩
    · obtain ⟨h3, _⟩ := b3 _ h
      rw [hl] at h3
      simp at h2 h3
      omega
theorem over_each (d : Dvc) (ospf : Bool) (rs : List Rte) (l : List Rds) : ∀ x ∈ takenL (outR d ospf (sortU ordR rs) l 0 []), ∃ h : x.1 < l.length, ∃ r ∈ rs, r.p = x.2.p ∧ comesB r.f (l[x.1]).from_ = true := fun x hx => by
  obtain ⟨a, a1, a2, a3⟩ := outR_ext d ospf (sortU ordR rs) l 0 [] ents_nil
  rw [List.nil_append] at a1 a2
  rw [a1, takenL_mem] at hx
  obtain ⟨p, hp⟩ := hx
  obtain ⟨_, h2, r, h3, h4, h5⟩ := a3 _ hp
  have hk := a2.key _ hp
  dsimp only at hk h2 h4 h5
  refine ⟨by simpa using h2, r, (sortU_mem _ _).1 h3, by rw [h4, hk], by simpa using h5⟩
theorem errR_take {d : Dvc} {l : List Rds} (h : errR d l = false) (n : Nat) : errR d (l.take n) = false := by
  unfold errR at h ⊢
  rw [List.any_eq_false] at h ⊢
  exact fun x hx => h x (List.mem_of_mem_take hx)
theorem filt_at {α : Type} (p : α → Bool) (l : List α) (i : Nat) (hi : i < l.length) (hp : p l[i] = true) : (l.filter p)[((l.take i).filter p).length]? = some l[i] := by
  have e : l = l.take i ++ l[i] :: l.drop (i + 1) := by rw [← List.drop_eq_getElem_cons hi, List.take_append_drop]
  conv => lhs; arg 1; rw [e]
  rw [List.filter_append, List.filter_cons, if_pos hp, List.getElem?_append_right (Nat.le_refl _), Nat.sub_self]
  rfl
theorem filt_step {α : Type} (p : α → Bool) (l : List α) (i : Nat) (hi : i < l.length) : ((l.take (i + 1)).filter p).length = ((l.take i).filter p).length + (if p l[i] = true then 1 else 0) := by
  rw [List.take_succ_eq_append_getElem hi, List.filter_append, List.length_append]
  congr 1
  cases h : p l[i] <;> simp [h]
end Go.Proofs.YtpnhkkejcnicoaaGreat

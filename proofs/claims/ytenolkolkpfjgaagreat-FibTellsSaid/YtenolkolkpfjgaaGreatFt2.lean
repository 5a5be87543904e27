/-
  Texts of a proof, one behind the other (part 3).
-/
import Derived.Test.YtenolkolkpfjgaaGreatFt1
set_option linter.unusedVariables false
set_option linter.unusedSimpArgs false
namespace Go.Proofs.YtenolkolkpfjgaaGreat.Ab
set_option linter.unusedVariables false
open Go.RowKit

mutual
def shut : AVal → Bool
  | .agg cs => shutL cs
  | .tup cs => shutL cs
  | .fn _ cs => shutL cs
  | .ptr _ _ => false
  | .eptr _ _ => false
  | .row _ => false
  | .mp _ => false
  | .srow _ _ _ => false
  | _ => true
def shutL : List AVal → Bool
  | [] => true
  | c :: r => shut c && shutL r
end
mutual
theorem shut_has (id : Nat) : (c : AVal) → shut c = true → c.has id = false
  | .agg cs, h => by rw [AVal.has]; exact shutL_has id cs h
  | .tup cs, h => by rw [AVal.has]; exact shutL_has id cs h
  | .fn _ cs, h => by rw [AVal.has]; exact shutL_has id cs h
  | .ptr _ _, h => by cases h
  | .eptr _ _, h => by cases h
  | .row _, h => by cases h
  | .mp _, h => by cases h
  | .srow _ _ _, h => by cases h
  | .full _ _, _ => rfl
  | .top, _ => rfl
  | .und, _ => rfl
  | .d _, _ => rfl
  | .iptr _ _, _ => rfl
theorem shutL_has (id : Nat) : (cs : List AVal) → shutL cs = true → hasL id cs = false
  | [], _ => rfl
  | c :: r, h => by
    rw [shutL, Bool.and_eq_true] at h
    rw [hasL, shut_has id c h.1, shutL_has id r h.2]
    rfl
end
def ren1 (ρ : List (Nat × Nat)) : AVal → AVal
  | .ptr p o => match look ρ p with | some i => .ptr i o | none => .top
  | .eptr p o => match look ρ p with | some i => .eptr i o | none => .top
  | .row p => match look ρ p with | some i => .row i | none => .top
  | .mp p => match look ρ p with | some i => .mp i | none => .top
  | .srow p o n => match look ρ p with | some i => .srow i o n | none => .top
  | .full cs n => .full cs n
  | .d x => .d x
  | .und => .und
  | .iptr cs o => .iptr cs o
  | .agg cs => cond (shutL cs) (.agg cs) .top
  | .tup cs => cond (shutL cs) (.tup cs) .top
  | .fn f cs => cond (shutL cs) (.fn f cs) .top
  | .top => .top
def ok1 (ρ : List (Nat × Nat)) : AVal → Bool
  | .ptr p _ => (look ρ p).isSome
  | .eptr p _ => (look ρ p).isSome
  | .row p => (look ρ p).isSome
  | .mp p => (look ρ p).isSome
  | .srow p _ _ => (look ρ p).isSome
  | c => shut c
def renV (ρ : List (Nat × Nat)) : AVal → AVal
  | .ptr p o => match look ρ p with | some i => .ptr i o | none => .top
  | .eptr p o => match look ρ p with | some i => .eptr i o | none => .top
  | .row p => match look ρ p with | some i => .row i | none => .top
  | .mp p => match look ρ p with | some i => .mp i | none => .top
  | .srow p o n => match look ρ p with | some i => .srow i o n | none => .top
  | .full cs n => .full cs n
  | .d x => .d x
  | .und => .und
  | .iptr cs o => .iptr cs o
  | .agg cs => cond (shutL cs) (.agg cs) .top
  | .tup cs => cond (shutL cs) (.tup cs) .top
  | .fn f cs => cond (shutL cs) (.fn f cs) (.fn f (cs.map (ren1 ρ)))
  | .top => .top
def okV (ρ : List (Nat × Nat)) : AVal → Bool
  | .ptr p _ => (look ρ p).isSome
  | .eptr p _ => (look ρ p).isSome
  | .row p => (look ρ p).isSome
  | .mp p => (look ρ p).isSome
  | .srow p _ _ => (look ρ p).isSome
  | .fn f cs => shutL cs || cs.all (ok1 ρ)
  | c => shut c
def renB (ρ : List (Nat × Nat)) : ABlk → ABlk
  | .var cs => .var (cs.map (renV ρ))
  | .row e k n cs => .row e k n cs
  | .rowA e k n cs => .rowA e k n (cs.map (renV ρ))
  | .map es => .map (es.map fun p => (renV ρ p.1, renV ρ p.2))
  | .mapx r bs clk es => .mapx r bs clk (es.map fun p => (renV ρ p.1, renV ρ p.2))
  | .it o => .it o
  | .rowx hv e k n cs => .rowx hv e k n cs
def okB (ρ : List (Nat × Nat)) : ABlk → Prop
  | .var cs => ∀ c ∈ cs, okV ρ c = true
  | .row _ _ _ _ => True
  | .rowA _ _ _ cs => ∀ c ∈ cs, okV ρ c = true
  | .map es => ∀ p ∈ es, okV ρ p.1 = true ∧ okV ρ p.2 = true
  | .mapx _ _ _ es => ∀ p ∈ es, okV ρ p.1 = true ∧ okV ρ p.2 = true
  | .it _ => True
  | .rowx _ _ _ _ _ => True
def renH (ρ : List (Nat × Nat)) : Heap → Heap
  | [] => []
  | (p, b) :: r => match look ρ p with
    | some i => (i, renB ρ b) :: renH ρ r
    | none => renH ρ r
def Lent (ρ : List (Nat × Nat)) (h : Heap) : Heap → Prop
  | [] => True
  | (p, b) :: r => (∃ i b', look ρ p = some i ∧ look h i = some b' ∧ renB ρ b = b' ∧ okB ρ b) ∧ Lent ρ h r
theorem Lent.get {ρ : List (Nat × Nat)} {h h0 : Heap} (H : Lent ρ h h0) {p : Nat} {b : ABlk} (hb : look h0 p = some b) : ∃ i, look ρ p = some i ∧ look h i = some (renB ρ b) ∧ okB ρ b := by
  induction h0 with
  | nil => cases hb
  | cons q r ih =>
    obtain ⟨q, b0⟩ := q
    by_cases hq : q = p
    · subst hq
      rw [look_cons_same] at hb
      cases hb
      obtain ⟨⟨i, b', h1, h2, h3, h4⟩, _⟩ := H
      exact ⟨i, h1, by rw [h3]; exact h2, h4⟩
    · rw [look_cons_ne _ _ hq] at hb
      exact ih H.2 hb
theorem look_renH {ρ : List (Nat × Nat)} (hinj : ∀ p p' i, look ρ p = some i → look ρ p' = some i → p = p') (h' : Heap) (i : Nat) :
    (∀ b, look (renH ρ h') i = some b → ∃ p b', look ρ p = some i ∧ look h' p = some b' ∧ b = renB ρ b') ∧ (look (renH ρ h') i = none → ∀ p, look ρ p = some i → look h' p = none) := by
  induction h' with
  | nil => exact ⟨fun b hb => (by cases hb), fun _ p _ => rfl⟩
  | cons q r ih =>
    obtain ⟨q, b0⟩ := q
    rw [renH]
    cases hq : look ρ q with
    | none =>
      refine ⟨fun b hb => ?_, fun hn p hp => ?_⟩
      · obtain ⟨p, b', h1, h2, h3⟩ := ih.1 b hb
        have : q ≠ p := by rintro rfl; rw [hq] at h1; cases h1
        exact ⟨p, b', h1, by rw [look_cons_ne _ _ this]; exact h2, h3⟩
      · have : q ≠ p := by rintro rfl; rw [hq] at hp; cases hp
        rw [look_cons_ne _ _ this]
        exact ih.2 hn p hp
    | some j =>
      dsimp only
      by_cases hj : j = i
      · subst hj
        refine ⟨fun b hb => ?_, fun hn => ?_⟩
        · rw [look_cons_same] at hb
          cases hb
          exact ⟨q, b0, hq, look_cons_same _ _ _, rfl⟩
        · rw [look_cons_same] at hn; cases hn
      · refine ⟨fun b hb => ?_, fun hn p hp => ?_⟩
        · rw [look_cons_ne _ _ hj] at hb
          obtain ⟨p, b', h1, h2, h3⟩ := ih.1 b hb
          have : q ≠ p := by rintro rfl; rw [hq] at h1; cases h1; exact hj rfl
          exact ⟨p, b', h1, by rw [look_cons_ne _ _ this]; exact h2, h3⟩
        · rw [look_cons_ne _ _ hj] at hn
          have : q ≠ p := by rintro rfl; rw [hq] at hp; cases hp; exact hj rfl
          rw [look_cons_ne _ _ this]
          exact ih.2 hn p hp

theorem VRel.up1 {w : World} {F F' : Nat → Prop} {ι ι' : Nat → Option Value} {ρ : List (Nat × Nat)} {c : AVal} {u : Value} (h : VRel w F' ι' c u) (hF : ExtF w F' ι' w F ι) (hρ : ∀ p i, look ρ p = some i → ∀ v, ι i = some v → ι' p = some v) : VRel w F ι (ren1 ρ c) u := by
  have closed : ∀ {c : AVal}, VRel w F' ι' c u → shut c = true → VRel w F ι c u := fun h hs => h.extF hF fun id v hi => by rw [shut_has id _ hs] at hi; cases hi
  cases c with
  | ptr p o =>
    rw [ren1]
    cases hp : look ρ p with
    | none => exact .top u
    | some i => cases h with | ptr _ _ _ h1 h2 => exact .ptr i o u h1 fun v hv => h2 v (hρ p i hp v hv)
  | eptr p o =>
    rw [ren1]
    cases hp : look ρ p with
    | none => exact .top u
    | some i => cases h with | eptr _ _ _ h1 h2 => exact .eptr i o u h1 fun v hv => h2 v (hρ p i hp v hv)
  | row p =>
    rw [ren1]
    cases hp : look ρ p with
    | none => exact .top u
    | some i => cases h with | row _ _ h1 h2 => exact .row i u h1 fun v hv => h2 v (hρ p i hp v hv)
  | mp p =>
    rw [ren1]
    cases hp : look ρ p with
    | none => exact .top u
    | some i => cases h with | mp _ _ h1 h2 => exact .mp i u h1 fun v hv => h2 v (hρ p i hp v hv)
  | srow p o n =>
    rw [ren1]
    cases hp : look ρ p with
    | none => exact .top u
    | some i => cases h with | srow _ _ _ _ h1 h2 => exact .srow i o n u h1 fun v hv => h2 v (hρ p i hp v hv)
  | full cs n => exact closed h rfl
  | d x => exact closed h rfl
  | und => exact closed h rfl
  | iptr cs o => exact closed h rfl
  | top => exact .top u
  | agg cs =>
    rw [ren1]
    cases hs : shutL cs with
    | true => exact closed h hs
    | false => exact .top u
  | tup cs =>
    rw [ren1]
    cases hs : shutL cs with
    | true => exact closed h hs
    | false => exact .top u
  | fn f cs =>
    rw [ren1]
    cases hs : shutL cs with
    | true => exact closed h hs
    | false => exact .top u
theorem VRel.down1 {w : World} {F F' : Nat → Prop} {ι ι0 : Nat → Option Value} {ρ : List (Nat × Nat)} {c : AVal} {u : Value} (hok : ok1 ρ c = true) (h : VRel w F ι (ren1 ρ c) u) (hF : ExtF w F ι w F' ι0) (hρ : ∀ p v, ι0 p = some v → ∃ i, look ρ p = some i ∧ ι i = some v) : VRel w F' ι0 c u := by
  have closed : ∀ {c : AVal}, VRel w F ι c u → shut c = true → VRel w F' ι0 c u := fun h hs => h.extF hF fun id v hi => by rw [shut_has id _ hs] at hi; cases hi
  have key : ∀ {p i : Nat}, look ρ p = some i → ∀ v, ι0 p = some v → ι i = some v := fun hp v hv => by
    obtain ⟨j, h1, h2⟩ := hρ _ v hv
    rw [hp] at h1; cases h1; exact h2
  cases c with
  | ptr p o =>
    obtain ⟨i, hp⟩ := Option.isSome_iff_exists.1 hok
    rw [ren1, hp] at h
    cases h with | ptr _ _ _ h1 h2 => exact .ptr p o u h1 fun v hv => h2 v (key hp v hv)
  | eptr p o =>
    obtain ⟨i, hp⟩ := Option.isSome_iff_exists.1 hok
    rw [ren1, hp] at h
    cases h with | eptr _ _ _ h1 h2 => exact .eptr p o u h1 fun v hv => h2 v (key hp v hv)
  | row p =>
    obtain ⟨i, hp⟩ := Option.isSome_iff_exists.1 hok
    rw [ren1, hp] at h
    cases h with | row _ _ h1 h2 => exact .row p u h1 fun v hv => h2 v (key hp v hv)
  | mp p =>
    obtain ⟨i, hp⟩ := Option.isSome_iff_exists.1 hok
    rw [ren1, hp] at h
    cases h with | mp _ _ h1 h2 => exact .mp p u h1 fun v hv => h2 v (key hp v hv)
  | srow p o n =>
    obtain ⟨i, hp⟩ := Option.isSome_iff_exists.1 hok
    rw [ren1, hp] at h
    cases h with | srow _ _ _ _ h1 h2 => exact .srow p o n u h1 fun v hv => h2 v (key hp v hv)
  | full cs n => exact closed h rfl
  | d x => exact closed h rfl
  | und => exact closed h rfl
  | iptr cs o => exact closed h rfl
  | top => exact .top u
  | agg cs => have hs : shutL cs = true := hok; rw [ren1, hs] at h; exact closed h hs
  | tup cs => have hs : shutL cs = true := hok; rw [ren1, hs] at h; exact closed h hs
  | fn f cs => have hs : shutL cs = true := hok; rw [ren1, hs] at h; exact closed h hs

theorem VRel.up {w : World} {F F' : Nat → Prop} {ι ι' : Nat → Option Value} {ρ : List (Nat × Nat)} {c : AVal} {u : Value} (h : VRel w F' ι' c u) (hF : ExtF w F' ι' w F ι) (hρ : ∀ p i, look ρ p = some i → ∀ v, ι i = some v → ι' p = some v) : VRel w F ι (renV ρ c) u := by
  have closed : ∀ {c : AVal}, VRel w F' ι' c u → shut c = true → VRel w F ι c u := fun h hs => h.extF hF fun id v hi => by rw [shut_has id _ hs] at hi; cases hi
  cases c with
  | ptr p o =>
    rw [renV]
    cases hp : look ρ p with
    | none => exact .top u
    | some i => cases h with | ptr _ _ _ h1 h2 => exact .ptr i o u h1 fun v hv => h2 v (hρ p i hp v hv)
  | eptr p o =>
    rw [renV]
    cases hp : look ρ p with
    | none => exact .top u
    | some i => cases h with | eptr _ _ _ h1 h2 => exact .eptr i o u h1 fun v hv => h2 v (hρ p i hp v hv)
  | row p =>
    rw [renV]
    cases hp : look ρ p with
    | none => exact .top u
    | some i => cases h with | row _ _ h1 h2 => exact .row i u h1 fun v hv => h2 v (hρ p i hp v hv)
  | mp p =>
    rw [renV]
    cases hp : look ρ p with
    | none => exact .top u
    | some i => cases h with | mp _ _ h1 h2 => exact .mp i u h1 fun v hv => h2 v (hρ p i hp v hv)
  | srow p o n =>
    rw [renV]
    cases hp : look ρ p with
    | none => exact .top u
    | some i => cases h with | srow _ _ _ _ h1 h2 => exact .srow i o n u h1 fun v hv => h2 v (hρ p i hp v hv)
  | full cs n => exact closed h rfl
  | d x => exact closed h rfl
  | und => exact closed h rfl
  | iptr cs o => exact closed h rfl
  | top => exact .top u
  | agg cs =>
    rw [renV]
    cases hs : shutL cs with
    | true => exact closed h hs
    | false => exact .top u
  | tup cs =>
    rw [renV]
    cases hs : shutL cs with
    | true => exact closed h hs
    | false => exact .top u
  | fn f cs =>
    rw [renV]
    cases hs : shutL cs with
    | true => exact closed h hs
    | false =>
      cases h with
      | fn _ _ C hl hh =>
        refine .fn f _ C (by simpa using hl) fun i c u h1 h2 => ?_
        rw [List.getElem?_map] at h1
        cases hi : cs[i]? with
        | none => rw [hi] at h1; cases h1
        | some c' => rw [hi] at h1; cases h1; exact (hh i c' u hi h2).up1 hF hρ
theorem VRel.down {w : World} {F F' : Nat → Prop} {ι ι0 : Nat → Option Value} {ρ : List (Nat × Nat)} {c : AVal} {u : Value} (hok : okV ρ c = true) (h : VRel w F ι (renV ρ c) u) (hF : ExtF w F ι w F' ι0) (hρ : ∀ p v, ι0 p = some v → ∃ i, look ρ p = some i ∧ ι i = some v) : VRel w F' ι0 c u := by
  have closed : ∀ {c : AVal}, VRel w F ι c u → shut c = true → VRel w F' ι0 c u := fun h hs => h.extF hF fun id v hi => by rw [shut_has id _ hs] at hi; cases hi
  have key : ∀ {p i : Nat}, look ρ p = some i → ∀ v, ι0 p = some v → ι i = some v := fun hp v hv => by
    obtain ⟨j, h1, h2⟩ := hρ _ v hv
    rw [hp] at h1; cases h1; exact h2
  cases c with
  | ptr p o =>
    obtain ⟨i, hp⟩ := Option.isSome_iff_exists.1 hok
    rw [renV, hp] at h
    cases h with | ptr _ _ _ h1 h2 => exact .ptr p o u h1 fun v hv => h2 v (key hp v hv)
  | eptr p o =>
    obtain ⟨i, hp⟩ := Option.isSome_iff_exists.1 hok
    rw [renV, hp] at h
    cases h with | eptr _ _ _ h1 h2 => exact .eptr p o u h1 fun v hv => h2 v (key hp v hv)
  | row p =>
    obtain ⟨i, hp⟩ := Option.isSome_iff_exists.1 hok
    rw [renV, hp] at h
    cases h with | row _ _ h1 h2 => exact .row p u h1 fun v hv => h2 v (key hp v hv)
  | mp p =>
    obtain ⟨i, hp⟩ := Option.isSome_iff_exists.1 hok
    rw [renV, hp] at h
    cases h with | mp _ _ h1 h2 => exact .mp p u h1 fun v hv => h2 v (key hp v hv)
  | srow p o n =>
    obtain ⟨i, hp⟩ := Option.isSome_iff_exists.1 hok
    rw [renV, hp] at h
    cases h with | srow _ _ _ _ h1 h2 => exact .srow p o n u h1 fun v hv => h2 v (key hp v hv)
  | full cs n => exact closed h rfl
  | d x => exact closed h rfl
  | und => exact closed h rfl
  | iptr cs o => exact closed h rfl
  | top => exact .top u
  | agg cs => have hs : shutL cs = true := hok; rw [renV, hs] at h; exact closed h hs
  | tup cs => have hs : shutL cs = true := hok; rw [renV, hs] at h; exact closed h hs
  | fn f cs =>
    rw [renV] at h
    cases hs : shutL cs with
    | true => rw [hs] at h; exact closed h hs
    | false =>
      rw [hs] at h
      have hok2 : cs.all (ok1 ρ) = true := by
        have h3 : (shutL cs || cs.all (ok1 ρ)) = true := hok
        rw [hs] at h3; exact h3
      cases h with
      | fn _ _ C hl hh => exact .fn f cs C (by simpa using hl) fun i c u h1 h2 => (hh i (ren1 ρ c) u (by rw [List.getElem?_map, h1]; rfl) h2).down1 (List.all_eq_true.1 hok2 c (List.mem_of_getElem? h1)) hF hρ

theorem BRel.up {w : World} {F F' : Nat → Prop} {ι ι' : Nat → Option Value} {ρ : List (Nat × Nat)} {b : ABlk} {v : Value} (h : BRel w F' ι' b v) (hF : ExtF w F' ι' w F ι) (hρ : ∀ p i, look ρ p = some i → ∀ v, ι i = some v → ι' p = some v) : BRel w F ι (renB ρ b) v := by
  cases b with
  | var cs =>
    obtain ⟨r, C, T, rfl, hc, hl, h⟩ := h
    refine ⟨r, C, T, rfl, hc, by simpa using hl, fun i c u h1 h2 => ?_⟩
    rw [List.getElem?_map] at h1
    cases hi : cs[i]? with
    | none => rw [hi] at h1; cases h1
    | some c' => rw [hi] at h1; cases h1; exact (h i c' u hi h2).up hF hρ
  | row e k n cs =>
    obtain ⟨xs, hown, hl, h⟩ := h
    exact ⟨xs, hown, hl, fun i c u h1 h2 => (h i c u h1 h2).ext hF.mem hF.free⟩
  | rowA e k n cs =>
    obtain ⟨xs, hown, hl, h⟩ := h
    refine ⟨xs, hown, by simpa using hl, fun i c u h1 h2 => ?_⟩
    rw [List.getElem?_map] at h1
    cases hi : cs[i]? with
    | none => rw [hi] at h1; cases h1
    | some c' => rw [hi] at h1; cases h1; exact (h i c' u hi h2).up hF hρ
  | map es =>
    obtain ⟨r, E, clk, rfl, hc, hl, h, h3⟩ := h
    refine ⟨r, E, clk, rfl, hc, by simpa using hl, fun i p m h1 h2 => ?_, h3⟩
    rw [List.getElem?_map] at h1
    cases hi : es[i]? with
    | none => rw [hi] at h1; cases h1
    | some c' => rw [hi] at h1; cases h1; exact ⟨(h i c' m hi h2).1.up hF hρ, (h i c' m hi h2).2.up hF hρ⟩
  | mapx r0 bs0 clk0 es =>
    obtain ⟨E, rfl, hc, hl, h, h3⟩ := h
    refine ⟨E, rfl, hc, by simpa using hl, fun i p m h1 h2 => ?_, h3⟩
    rw [List.getElem?_map] at h1
    cases hi : es[i]? with
    | none => rw [hi] at h1; cases h1
    | some c' => rw [hi] at h1; cases h1; exact ⟨(h i c' m hi h2).1.up hF hρ, (h i c' m hi h2).2.up hF hρ⟩
  | rowx hv e k n cs => exact h.viaX (fun c u h => h.ext hF.mem hF.free) fun _ _ => rfl
  | it o => exact h
theorem BRel.down {w : World} {F F' : Nat → Prop} {ι ι0 : Nat → Option Value} {ρ : List (Nat × Nat)} {b : ABlk} {v : Value} (hok : okB ρ b) (h : BRel w F ι (renB ρ b) v) (hF : ExtF w F ι w F' ι0) (hρ : ∀ p v, ι0 p = some v → ∃ i, look ρ p = some i ∧ ι i = some v) : BRel w F' ι0 b v := by
  cases b with
  | var cs =>
    obtain ⟨r, C, T, rfl, hc, hl, h⟩ := h
    exact ⟨r, C, T, rfl, hc, by simpa using hl, fun i c u h1 h2 => (h i (renV ρ c) u (by rw [List.getElem?_map, h1]; rfl) h2).down (hok c (List.mem_of_getElem? h1)) hF hρ⟩
  | row e k n cs =>
    obtain ⟨xs, hown, hl, h⟩ := h
    exact ⟨xs, hown, hl, fun i c u h1 h2 => (h i c u h1 h2).ext hF.mem hF.free⟩
  | rowA e k n cs =>
    obtain ⟨xs, hown, hl, h⟩ := h
    exact ⟨xs, hown, by simpa using hl, fun i c u h1 h2 => (h i (renV ρ c) u (by rw [List.getElem?_map, h1]; rfl) h2).down (hok c (List.mem_of_getElem? h1)) hF hρ⟩
  | map es =>
    obtain ⟨r, E, clk, rfl, hc, hl, h, h3⟩ := h
    refine ⟨r, E, clk, rfl, hc, by simpa using hl, fun i p m h1 h2 => ?_, h3⟩
    have hk := hok p (List.mem_of_getElem? h1)
    have := h i (renV ρ p.1, renV ρ p.2) m (by rw [List.getElem?_map, h1]; rfl) h2
    exact ⟨this.1.down hk.1 hF hρ, this.2.down hk.2 hF hρ⟩
  | mapx r0 bs0 clk0 es =>
    obtain ⟨E, rfl, hc, hl, h, h3⟩ := h
    refine ⟨E, rfl, hc, by simpa using hl, fun i p m h1 h2 => ?_, h3⟩
    have hk := hok p (List.mem_of_getElem? h1)
    have := h i (renV ρ p.1, renV ρ p.2) m (by rw [List.getElem?_map, h1]; rfl) h2
    exact ⟨this.1.down hk.1 hF hρ, this.2.down hk.2 hF hρ⟩
  | rowx hv e k n cs => exact h.viaX (fun c u h => h.ext hF.mem hF.free) fun _ _ => rfl
  | it o => exact h

section
variable {P : Program} {nt : Nat} {T : List Nat} {e : Env} {h : Heap} {o : Oper} {tab : TTab}
theorem E_callP {f : FuncId} {args : Array Operand} {ats : Array TypeId} {cs0 cs : List AVal} {h0 : Heap} {d : Option Tmp} {Q : AVal → Heap → Prop} (ρ : List (Nat × Nat)) (ho : o.op = .call { callee := .value (.func f), args := args, argTypes := ats }) (hdst : o.dst = d) (hx : aevs e args.toList = some cs0)
    (hcs : cs.map (renV ρ) = cs0) (hok : ∀ c ∈ cs, okV ρ c = true) (hl : Lent ρ h h0) (hdom : ∀ p i, look ρ p = some i → 1000 ≤ p ∧ (look h0 p).isSome = true) (hinj : ∀ p p' i, look ρ p = some i → look ρ p' = some i → p = p')
    (H : ACall P f cs h0 Q) (hd : dstOk nt d = true) (hT : ∀ p i, look ρ p = some i → T.contains i = true) (hq : ∀ c h', Q c h' → ∀ p i, look ρ p = some i → (look h' p).isSome = true) :
    AEff P nt T e h o (fun e' h2 => ∃ c h', Q c h' ∧ e' = aput d (renV ρ c) e ∧ h2 = renH ρ h' ++ h) := fun Pm F w0 pin ι a w R K Qx hK => by
  unfold Oper.wp
  rw [run_callA H.1 ho, Oper.upon_enter, hdst]
  have HR := R.heap
  let ι0 : Nat → Option Value := fun p => match look ρ p with | some i => ι i | none => none
  have h0some : ∀ p v, ι0 p = some v → ∃ i, look ρ p = some i ∧ ι i = some v := fun p v hv => by
    simp only [ι0] at hv
    cases hp : look ρ p with
    | none => rw [hp] at hv; cases hv
    | some i => rw [hp] at hv; exact ⟨i, rfl, hv⟩
  have h0of : ∀ p i, look ρ p = some i → ι0 p = ι i := fun p i hp => by simp only [ι0, hp]
  let F' : Nat → Prop := fun r => F r ∨ ∃ id v, ι id = some v ∧ blockOf v = some r ∧ ∀ p, look ρ p ≠ some id
  let Pm' : Nat → Prop := fun r => w.heap.size ≤ r ∨ ∃ p v, ι0 p = some v ∧ blockOf v = some r
  have hFdown : ExtF w F ι w F' ι0 := ⟨fun _ _ _ => rfl, fun r _ hf => ⟨fun hc => hc.elim hf.1 fun ⟨id, v, h1, h2, _⟩ => hf.2 id v h1 h2, fun p v hv hb => by
    obtain ⟨i, _, h2⟩ := h0some p v hv
    exact hf.2 i v h2 hb⟩⟩
  have HC : HRel Pm' F' w ι0 ι0 h0 w := by
    refine ⟨fun p b hb => ?_, fun p v hv => ?_, fun p q v v' r hpq hv hv' hr => ?_, fun p v r hv hr => .inr ⟨p, v, hv, hr⟩, rfl, rfl, rfl, Nat.le_refl _, fun _ _ _ => rfl, fun r hr => .inl hr, fun p v _ hv => hv, fun p v r hv hr hF' => ?_, fun r hr => ?_⟩
    · obtain ⟨i, h1, h2, h3⟩ := hl.get hb
      obtain ⟨v, hv, hB⟩ := HR.blk i _ h2
      exact ⟨v, by rw [h0of p i h1]; exact hv, hB.down h3 hFdown h0some⟩
    · obtain ⟨i, h1, h2⟩ := h0some p v hv
      exact Option.isSome_iff_exists.1 (hdom p i h1).2
    · obtain ⟨i, h1, h2⟩ := h0some p v hv
      obtain ⟨j, h3, h4⟩ := h0some q v' hv'
      exact HR.inj i j v v' r (by rintro rfl; exact hpq (hinj p q i h1 h3)) h2 h4 hr
    · obtain ⟨i, h1, h2⟩ := h0some p v hv
      rcases hF' with h3 | ⟨id, v', h3, h4, h5⟩
      · exact HR.nf i v r h2 hr h3
      · have : i ≠ id := by rintro rfl; exact h5 p h1
        exact HR.inj i id v v' r this h2 h3 hr h4
    · rcases hr with h1 | ⟨id, v, h1, h2, _⟩
      · exact Nat.lt_of_lt_of_le (HR.forb r h1) HR.size
      · exact HR.lt h1 h2
  have HA : ArgsRel w F' ι0 cs (args.map a.eval) := by
    have := args_of R.env hx
    refine ⟨by rw [this.1, ← hcs, List.length_map], fun i c u h1 h2 => (this.2 i (renV ρ c) u (by rw [← hcs, List.getElem?_map, h1]; rfl) h2).down (hok c (List.mem_of_getElem? h1)) hFdown h0some⟩
  refine (H.2 Pm' F' w ι0 ι0 _ w HC HA).mono ?_
  rintro x w' ⟨u, c, h', ι', rfl, hQ, hH, hv⟩
  have hsz := hH.size
  have hkeep : ∀ r, r < w.heap.size → (∀ p i v, look ρ p = some i → ι i = some v → blockOf v ≠ some r) → w'.heap[r]? = w.heap[r]? := fun r hr hn => hH.keep r hr fun hp => by
    rcases hp with h1 | ⟨p, v, h1, h2⟩
    · omega
    · obtain ⟨i, h3, h4⟩ := h0some p v h1
      exact hn p i v h3 h4 h2
  have hpin : ∀ p i, look ρ p = some i → ∀ v, ι i = some v → ι' p = some v := fun p i hp v hv => by
    obtain ⟨b, hb⟩ := Option.isSome_iff_exists.1 (hq c h' hQ p i hp)
    obtain ⟨v', hv', _⟩ := hH.blk p b hb
    have := hH.pinned p v' (hdom p i hp).1 hv'
    rw [h0of p i hp, hv] at this
    cases this
    exact hv'
  have hFup : ExtF w' F' ι' w' F ι := ⟨fun _ _ _ => rfl, fun r _ hf => ⟨fun hc => hf.1 (.inl hc), fun id v hid hb => by
    by_cases hex : ∃ p, look ρ p = some id
    · obtain ⟨p, hp⟩ := hex
      exact hf.2 p v (hpin p id hp v hid) hb
    · exact hf.1 (.inr ⟨id, v, hid, hb, fun p hp => hex ⟨p, hp⟩⟩)⟩⟩
  have hext : Ext w F ι w' ι := ⟨fun r hr hf => hkeep r hr fun p i v hp hi hb => hf.2 i v hi hb, fun r _ hf => hf⟩
  have hheap : HRel Pm F w0 pin ι (renH ρ h' ++ h) w' := by
    refine ⟨fun id b hb => ?_, fun id v hv => ?_, HR.inj, HR.pm, hH.os.trans HR.os, hH.tape.trans HR.tape, hH.output.trans HR.output, Nat.le_trans HR.size hsz, fun r hr hn => ?_, HR.fresh, HR.pinned, HR.nf, HR.forb⟩
    · rw [look_append] at hb
      cases hl2 : look (renH ρ h') id with
      | some b' =>
        rw [hl2] at hb
        cases hb
        obtain ⟨p, b0, h1, h2, h3⟩ := (look_renH hinj h' id).1 b hl2
        subst h3
        obtain ⟨v', hv', hB⟩ := hH.blk p b0 h2
        have h4 := hH.pinned p v' (hdom p id h1).1 hv'
        rw [h0of p id h1] at h4
        exact ⟨v', h4, hB.up hFup hpin⟩
      | none =>
        rw [hl2] at hb
        have hb2 : look h id = some b := hb
        have hno : ∀ p, look ρ p ≠ some id := fun p hp => by
          have h1 := (look_renH hinj h' id).2 hl2 p hp
          have h2 := hq c h' hQ p id hp
          rw [h1] at h2; cases h2
        obtain ⟨v, hv, hB⟩ := HR.blk id b hb2
        refine ⟨v, hv, hB.ext hext (fun _ _ h => h) fun r hr => hkeep r (HR.lt hv hr) fun p i v2 hp hi hb3 => ?_⟩
        exact HR.inj i id v2 v r (by rintro rfl; exact hno p hp) hi hv hb3 hr
    · obtain ⟨b, hb⟩ := HR.dom id v hv
      rw [look_append]
      cases hl2 : look (renH ρ h') id with
      | some b' => exact ⟨b', rfl⟩
      | none => exact ⟨b, hb⟩
    · rw [hkeep r (Nat.lt_of_lt_of_le hr HR.size) fun p i v hp hi hb => hn (HR.pm i v r hi hb)]
      exact HR.keep r hr hn
  have R2 : Rel Pm F w0 pin ι nt e (renH ρ h' ++ h) a w' := ⟨hheap, R.env.mono fun _ _ _ _ hv => hv.ext hext fun _ _ _ h => h, R.defers.ext hext, R.size⟩
  exact hK ι _ _ _ w' ⟨c, h', hQ, rfl, rfl⟩ (R2.put hd (hv.up hFup hpin)) ⟨⟨hH.os, hH.tape, hH.output, hsz, fun r hr hne => hkeep r hr fun p i v hp hi hb => hne i (List.contains_iff_mem.1 (hT p i hp)) v hi hb⟩, fun id _ v r h1 h2 _ => ⟨v, h1, h2⟩⟩ (put_defers _ _ _)
end
end Go.Proofs.YtenolkolkpfjgaaGreat.Ab

namespace Go.Proofs.YtenolkolkpfjgaaGreat.Ab
set_option linter.unusedVariables false
open Go.RowKit

open Classical in
noncomputable def invN (ν : List (Nat × Nat)) (i : Nat) : Option Nat := if h : ∃ p, look ν p = some i then some (Classical.choose h) else none
theorem invN_some {ν : List (Nat × Nat)} {i p : Nat} (h : invN ν i = some p) : look ν p = some i := by
  unfold invN at h
  split at h
  · rename_i h2
    cases h
    exact Classical.choose_spec h2
  · cases h
theorem invN_none {ν : List (Nat × Nat)} {i : Nat} (h : invN ν i = none) (p : Nat) : look ν p ≠ some i := fun hp => by
  unfold invN at h
  rw [dif_pos ⟨p, hp⟩] at h
  cases h
theorem invN_of {ν : List (Nat × Nat)} (hinj : ∀ p p' i, look ν p = some i → look ν p' = some i → p = p') {i p : Nat} (h : look ν p = some i) : invN ν i = some p := by
  cases h2 : invN ν i with
  | none => exact absurd h (invN_none h2 p)
  | some q => rw [hinj p q i h (invN_some h2)]
theorem look_mem2 {ν : List (Nat × Nat)} {p i : Nat} (h : look ν p = some i) : i ∈ ν.map (·.2) := by
  induction ν with
  | nil => cases h
  | cons q r ih =>
    obtain ⟨a, b⟩ := q
    by_cases ha : a = p
    · subst ha; rw [look_cons_same] at h; cases h; simp
    · rw [look_cons_ne _ _ ha] at h; have := ih h; simp at this ⊢; exact .inr this
theorem mem2_look {ν : List (Nat × Nat)} (hn : (ν.map (·.1)).Nodup) {i : Nat} (h : i ∈ ν.map (·.2)) : ∃ p, look ν p = some i := by
  induction ν with
  | nil => simp at h
  | cons q r ih =>
    obtain ⟨a, b⟩ := q
    rw [List.map_cons, List.nodup_cons] at hn
    rcases List.mem_cons.1 h with h1 | h1
    · exact ⟨a, by rw [h1]; exact look_cons_same _ _ _⟩
    · obtain ⟨p, hp⟩ := ih hn.2 h1
      refine ⟨p, ?_⟩
      rw [look_cons_ne _ _ ?_]
      · exact hp
      · rintro rfl
        refine hn.1 ?_
        have : ∀ (r : List (Nat × Nat)), look r a = some i → a ∈ r.map (·.1) := by
          intro r
          induction r with
          | nil => intro h; cases h
          | cons q r ih =>
            intro h
            by_cases hq : q.1 = a
            · rw [← hq]; simp
            · have e : look (q :: r) a = look r a := look_cons_ne _ _ hq
              rw [e] at h
              exact List.mem_cons_of_mem _ (ih h)
        exact this r hp
end Go.Proofs.YtenolkolkpfjgaaGreat.Ab

/-
  Texts of a proof, one behind the other (part 5).
-/
import Derived.ArgAppend
import Derived.Deep.AppendLies
import Derived.Laws.CopyRow
import Derived.Test.YtjmelcdgbnjefaaRc0
set_option linter.unusedVariables false
set_option linter.unusedSimpArgs false
namespace Go.Proofs.Ytjmelcdgbnjefaa.Ab
set_option linter.unusedVariables false
open Go.RowKit

mutual
def shut : AVal → Bool
  | .agg cs => shutL cs
  | .tup cs => shutL cs
  | .fn _ cs => shutL cs
  | .ptr _ _ => false
  | .eptr _ _ => false
  | .row _ => false
  | .mp _ => false
  | .srow _ _ _ => false
  | _ => true
def shutL : List AVal → Bool
  | [] => true
  | c :: r => shut c && shutL r
end
mutual
theorem shut_has (id : Nat) : (c : AVal) → shut c = true → c.has id = false
  | .agg cs, h => by rw [AVal.has]; exact shutL_has id cs h
  | .tup cs, h => by rw [AVal.has]; exact shutL_has id cs h
  | .fn _ cs, h => by rw [AVal.has]; exact shutL_has id cs h
  | .ptr _ _, h => by cases h
  | .eptr _ _, h => by cases h
  | .row _, h => by cases h
  | .mp _, h => by cases h
  | .srow _ _ _, h => by cases h
  | .full _ _, _ => rfl
  | .top, _ => rfl
  | .und, _ => rfl
  | .d _, _ => rfl
  | .iptr _ _, _ => rfl
theorem shutL_has (id : Nat) : (cs : List AVal) → shutL cs = true → hasL id cs = false
  | [], _ => rfl
  | c :: r, h => by
    rw [shutL, Bool.and_eq_true] at h
    rw [hasL, shut_has id c h.1, shutL_has id r h.2]
    rfl
end
def ren1 (ρ : List (Nat × Nat)) : AVal → AVal
  | .ptr p o => match look ρ p with | some i => .ptr i o | none => .top
  | .eptr p o => match look ρ p with | some i => .eptr i o | none => .top
  | .row p => match look ρ p with | some i => .row i | none => .top
  | .mp p => match look ρ p with | some i => .mp i | none => .top
  | .srow p o n => match look ρ p with | some i => .srow i o n | none => .top
  | .full cs n => .full cs n
  | .d x => .d x
  | .und => .und
  | .iptr cs o => .iptr cs o
  | .agg cs => cond (shutL cs) (.agg cs) .top
  | .tup cs => cond (shutL cs) (.tup cs) .top
  | .fn f cs => cond (shutL cs) (.fn f cs) .top
  | .top => .top
def ok1 (ρ : List (Nat × Nat)) : AVal → Bool
  | .ptr p _ => (look ρ p).isSome
  | .eptr p _ => (look ρ p).isSome
  | .row p => (look ρ p).isSome
  | .mp p => (look ρ p).isSome
  | .srow p _ _ => (look ρ p).isSome
  | c => shut c
def renV (ρ : List (Nat × Nat)) : AVal → AVal
  | .ptr p o => match look ρ p with | some i => .ptr i o | none => .top
  | .eptr p o => match look ρ p with | some i => .eptr i o | none => .top
  | .row p => match look ρ p with | some i => .row i | none => .top
  | .mp p => match look ρ p with | some i => .mp i | none => .top
  | .srow p o n => match look ρ p with | some i => .srow i o n | none => .top
  | .full cs n => .full cs n
  | .d x => .d x
  | .und => .und
  | .iptr cs o => .iptr cs o
  | .agg cs => cond (shutL cs) (.agg cs) .top
  | .tup cs => cond (shutL cs) (.tup cs) .top
  | .fn f cs => cond (shutL cs) (.fn f cs) (.fn f (cs.map (ren1 ρ)))
  | .top => .top
def okV (ρ : List (Nat × Nat)) : AVal → Bool
  | .ptr p _ => (look ρ p).isSome
  | .eptr p _ => (look ρ p).isSome
  | .row p => (look ρ p).isSome
  | .mp p => (look ρ p).isSome
  | .srow p _ _ => (look ρ p).isSome
  | .fn f cs => shutL cs || cs.all (ok1 ρ)
  | c => shut c
def renB (ρ : List (Nat × Nat)) : ABlk → ABlk
  | .var cs => .var (cs.map (renV ρ))
  | .row e k n cs => .row e k n cs
  | .rowA e k n cs => .rowA e k n (cs.map (renV ρ))
  | .map es => .map (es.map fun p => (renV ρ p.1, renV ρ p.2))
  | .mapx r bs clk es => .mapx r bs clk (es.map fun p => (renV ρ p.1, renV ρ p.2))
  | .it o => .it o
def okB (ρ : List (Nat × Nat)) : ABlk → Prop
  | .var cs => ∀ c ∈ cs, okV ρ c = true
  | .row _ _ _ _ => True
  | .rowA _ _ _ cs => ∀ c ∈ cs, okV ρ c = true
  | .map es => ∀ p ∈ es, okV ρ p.1 = true ∧ okV ρ p.2 = true
  | .mapx _ _ _ es => ∀ p ∈ es, okV ρ p.1 = true ∧ okV ρ p.2 = true
  | .it _ => True
def renH (ρ : List (Nat × Nat)) : Heap → Heap
  | [] => []
  | (p, b) :: r => match look ρ p with
    | some i => (i, renB ρ b) :: renH ρ r
    | none => renH ρ r
def Lent (ρ : List (Nat × Nat)) (h : Heap) : Heap → Prop
  | [] => True
  | (p, b) :: r => (∃ i b', look ρ p = some i ∧ look h i = some b' ∧ renB ρ b = b' ∧ okB ρ b) ∧ Lent ρ h r
theorem Lent.get {ρ : List (Nat × Nat)} {h h0 : Heap} (H : Lent ρ h h0) {p : Nat} {b : ABlk} (hb : look h0 p = some b) : ∃ i, look ρ p = some i ∧ look h i = some (renB ρ b) ∧ okB ρ b := by
  induction h0 with
  | nil => cases hb
  | cons q r ih =>
    obtain ⟨q, b0⟩ := q
    by_cases hq : q = p
    · subst hq
      rw [look_cons_same] at hb
      cases hb
      obtain ⟨⟨i, b', h1, h2, h3, h4⟩, _⟩ := H
      exact ⟨i, h1, by rw [h3]; exact h2, h4⟩
    · rw [look_cons_ne _ _ hq] at hb
      exact ih H.2 hb
theorem look_renH {ρ : List (Nat × Nat)} (hinj : ∀ p p' i, look ρ p = some i → look ρ p' = some i → p = p') (h' : Heap) (i : Nat) :
    (∀ b, look (renH ρ h') i = some b → ∃ p b', look ρ p = some i ∧ look h' p = some b' ∧ b = renB ρ b') ∧ (look (renH ρ h') i = none → ∀ p, look ρ p = some i → look h' p = none) := by
  induction h' with
  | nil => exact ⟨fun b hb => (by cases hb), fun _ p _ => rfl⟩
  | cons q r ih =>
    obtain ⟨q, b0⟩ := q
    rw [renH]
    cases hq : look ρ q with
    | none =>
      refine ⟨fun b hb => ?_, fun hn p hp => ?_⟩
      · obtain ⟨p, b', h1, h2, h3⟩ := ih.1 b hb
        have : q ≠ p := by rintro rfl; rw [hq] at h1; cases h1
        exact ⟨p, b', h1, by rw [look_cons_ne _ _ this]; exact h2, h3⟩
      · have : q ≠ p := by rintro rfl; rw [hq] at hp; cases hp
        rw [look_cons_ne _ _ this]
        exact ih.2 hn p hp
    | some j =>
      dsimp only
      by_cases hj : j = i
      · subst hj
        refine ⟨fun b hb => ?_, fun hn => ?_⟩
        · rw [look_cons_same] at hb
          cases hb
          exact ⟨q, b0, hq, look_cons_same _ _ _, rfl⟩
        · rw [look_cons_same] at hn; cases hn
      · refine ⟨fun b hb => ?_, fun hn p hp => ?_⟩
        · rw [look_cons_ne _ _ hj] at hb
          obtain ⟨p, b', h1, h2, h3⟩ := ih.1 b hb
          have : q ≠ p := by rintro rfl; rw [hq] at h1; cases h1; exact hj rfl
          exact ⟨p, b', h1, by rw [look_cons_ne _ _ this]; exact h2, h3⟩
        · rw [look_cons_ne _ _ hj] at hn
          have : q ≠ p := by rintro rfl; rw [hq] at hp; cases hp; exact hj rfl
          rw [look_cons_ne _ _ this]
          exact ih.2 hn p hp

theorem VRel.up1 {w : World} {F F' : Nat → Prop} {ι ι' : Nat → Option Value} {ρ : List (Nat × Nat)} {c : AVal} {u : Value} (h : VRel w F' ι' c u) (hF : ExtF w F' ι' w F ι) (hρ : ∀ p i, look ρ p = some i → ∀ v, ι i = some v → ι' p = some v) : VRel w F ι (ren1 ρ c) u := by
  have closed : ∀ {c : AVal}, VRel w F' ι' c u → shut c = true → VRel w F ι c u := fun h hs => h.extF hF fun id v hi => by rw [shut_has id _ hs] at hi; cases hi
  cases c with
  | ptr p o =>
    rw [ren1]
    cases hp : look ρ p with
    | none => exact .top u
    | some i => cases h with | ptr _ _ _ h1 h2 => exact .ptr i o u h1 fun v hv => h2 v (hρ p i hp v hv)
  | eptr p o =>
    rw [ren1]
    cases hp : look ρ p with
    | none => exact .top u
    | some i => cases h with | eptr _ _ _ h1 h2 => exact .eptr i o u h1 fun v hv => h2 v (hρ p i hp v hv)
  | row p =>
    rw [ren1]
    cases hp : look ρ p with
    | none => exact .top u
    | some i => cases h with | row _ _ h1 h2 => exact .row i u h1 fun v hv => h2 v (hρ p i hp v hv)
  | mp p =>
    rw [ren1]
    cases hp : look ρ p with
    | none => exact .top u
    | some i => cases h with | mp _ _ h1 h2 => exact .mp i u h1 fun v hv => h2 v (hρ p i hp v hv)
  | srow p o n =>
    rw [ren1]
    cases hp : look ρ p with
    | none => exact .top u
    | some i => cases h with | srow _ _ _ _ h1 h2 => exact .srow i o n u h1 fun v hv => h2 v (hρ p i hp v hv)
  | full cs n => exact closed h rfl
  | d x => exact closed h rfl
  | und => exact closed h rfl
  | iptr cs o => exact closed h rfl
  | top => exact .top u
  | agg cs =>
    rw [ren1]
    cases hs : shutL cs with
    | true => exact closed h hs
    | false => exact .top u
  | tup cs =>
    rw [ren1]
    cases hs : shutL cs with
    | true => exact closed h hs
    | false => exact .top u
  | fn f cs =>
    rw [ren1]
    cases hs : shutL cs with
    | true => exact closed h hs
    | false => exact .top u
theorem VRel.down1 {w : World} {F F' : Nat → Prop} {ι ι0 : Nat → Option Value} {ρ : List (Nat × Nat)} {c : AVal} {u : Value} (hok : ok1 ρ c = true) (h : VRel w F ι (ren1 ρ c) u) (hF : ExtF w F ι w F' ι0) (hρ : ∀ p v, ι0 p = some v → ∃ i, look ρ p = some i ∧ ι i = some v) : VRel w F' ι0 c u := by
  have closed : ∀ {c : AVal}, VRel w F ι c u → shut c = true → VRel w F' ι0 c u := fun h hs => h.extF hF fun id v hi => by rw [shut_has id _ hs] at hi; cases hi
  have key : ∀ {p i : Nat}, look ρ p = some i → ∀ v, ι0 p = some v → ι i = some v := fun hp v hv => by
    obtain ⟨j, h1, h2⟩ := hρ _ v hv
    rw [hp] at h1; cases h1; exact h2
  cases c with
  | ptr p o =>
    obtain ⟨i, hp⟩ := Option.isSome_iff_exists.1 hok
    rw [ren1, hp] at h
    cases h with | ptr _ _ _ h1 h2 => exact .ptr p o u h1 fun v hv => h2 v (key hp v hv)
  | eptr p o =>
    obtain ⟨i, hp⟩ := Option.isSome_iff_exists.1 hok
    rw [ren1, hp] at h
    cases h with | eptr _ _ _ h1 h2 => exact .eptr p o u h1 fun v hv => h2 v (key hp v hv)
  | row p =>
    obtain ⟨i, hp⟩ := Option.isSome_iff_exists.1 hok
    rw [ren1, hp] at h
    cases h with | row _ _ h1 h2 => exact .row p u h1 fun v hv => h2 v (key hp v hv)
  | mp p =>
    obtain ⟨i, hp⟩ := Option.isSome_iff_exists.1 hok
    rw [ren1, hp] at h
    cases h with | mp _ _ h1 h2 => exact .mp p u h1 fun v hv => h2 v (key hp v hv)
  | srow p o n =>
    obtain ⟨i, hp⟩ := Option.isSome_iff_exists.1 hok
    rw [ren1, hp] at h
    cases h with | srow _ _ _ _ h1 h2 => exact .srow p o n u h1 fun v hv => h2 v (key hp v hv)
  | full cs n => exact closed h rfl
  | d x => exact closed h rfl
  | und => exact closed h rfl
  | iptr cs o => exact closed h rfl
  | top => exact .top u
  | agg cs => have hs : shutL cs = true := hok; rw [ren1, hs] at h; exact closed h hs
  | tup cs => have hs : shutL cs = true := hok; rw [ren1, hs] at h; exact closed h hs
  | fn f cs => have hs : shutL cs = true := hok; rw [ren1, hs] at h; exact closed h hs

theorem VRel.up {w : World} {F F' : Nat → Prop} {ι ι' : Nat → Option Value} {ρ : List (Nat × Nat)} {c : AVal} {u : Value} (h : VRel w F' ι' c u) (hF : ExtF w F' ι' w F ι) (hρ : ∀ p i, look ρ p = some i → ∀ v, ι i = some v → ι' p = some v) : VRel w F ι (renV ρ c) u := by
  have closed : ∀ {c : AVal}, VRel w F' ι' c u → shut c = true → VRel w F ι c u := fun h hs => h.extF hF fun id v hi => by rw [shut_has id _ hs] at hi; cases hi
  cases c with
  | ptr p o =>
    rw [renV]
    cases hp : look ρ p with
    | none => exact .top u
    | some i => cases h with | ptr _ _ _ h1 h2 => exact .ptr i o u h1 fun v hv => h2 v (hρ p i hp v hv)
  | eptr p o =>
    rw [renV]
    cases hp : look ρ p with
    | none => exact .top u
    | some i => cases h with | eptr _ _ _ h1 h2 => exact .eptr i o u h1 fun v hv => h2 v (hρ p i hp v hv)
  | row p =>
    rw [renV]
    cases hp : look ρ p with
    | none => exact .top u
    | some i => cases h with | row _ _ h1 h2 => exact .row i u h1 fun v hv => h2 v (hρ p i hp v hv)
  | mp p =>
    rw [renV]
    cases hp : look ρ p with
    | none => exact .top u
    | some i => cases h with | mp _ _ h1 h2 => exact .mp i u h1 fun v hv => h2 v (hρ p i hp v hv)
  | srow p o n =>
    rw [renV]
    cases hp : look ρ p with
    | none => exact .top u
    | some i => cases h with | srow _ _ _ _ h1 h2 => exact .srow i o n u h1 fun v hv => h2 v (hρ p i hp v hv)
  | full cs n => exact closed h rfl
  | d x => exact closed h rfl
  | und => exact closed h rfl
  | iptr cs o => exact closed h rfl
  | top => exact .top u
  | agg cs =>
    rw [renV]
    cases hs : shutL cs with
    | true => exact closed h hs
    | false => exact .top u
  | tup cs =>
    rw [renV]
    cases hs : shutL cs with
    | true => exact closed h hs
    | false => exact .top u
  | fn f cs =>
    rw [renV]
    cases hs : shutL cs with
    | true => exact closed h hs
    | false =>
      cases h with
      | fn _ _ C hl hh =>
        refine .fn f _ C (by simpa using hl) fun i c u h1 h2 => ?_
        rw [List.getElem?_map] at h1
        cases hi : cs[i]? with
        | none => rw [hi] at h1; cases h1
        | some c' => rw [hi] at h1; cases h1; exact (hh i c' u hi h2).up1 hF hρ
theorem VRel.down {w : World} {F F' : Nat → Prop} {ι ι0 : Nat → Option Value} {ρ : List (Nat × Nat)} {c : AVal} {u : Value} (hok : okV ρ c = true) (h : VRel w F ι (renV ρ c) u) (hF : ExtF w F ι w F' ι0) (hρ : ∀ p v, ι0 p = some v → ∃ i, look ρ p = some i ∧ ι i = some v) : VRel w F' ι0 c u := by
  have closed : ∀ {c : AVal}, VRel w F ι c u → shut c = true → VRel w F' ι0 c u := fun h hs => h.extF hF fun id v hi => by rw [shut_has id _ hs] at hi; cases hi
  have key : ∀ {p i : Nat}, look ρ p = some i → ∀ v, ι0 p = some v → ι i = some v := fun hp v hv => by
    obtain ⟨j, h1, h2⟩ := hρ _ v hv
    rw [hp] at h1; cases h1; exact h2
  cases c with
  | ptr p o =>
    obtain ⟨i, hp⟩ := Option.isSome_iff_exists.1 hok
    rw [renV, hp] at h
    cases h with | ptr _ _ _ h1 h2 => exact .ptr p o u h1 fun v hv => h2 v (key hp v hv)
  | eptr p o =>
    obtain ⟨i, hp⟩ := Option.isSome_iff_exists.1 hok
    rw [renV, hp] at h
    cases h with | eptr _ _ _ h1 h2 => exact .eptr p o u h1 fun v hv => h2 v (key hp v hv)
  | row p =>
    obtain ⟨i, hp⟩ := Option.isSome_iff_exists.1 hok
    rw [renV, hp] at h
    cases h with | row _ _ h1 h2 => exact .row p u h1 fun v hv => h2 v (key hp v hv)
  | mp p =>
    obtain ⟨i, hp⟩ := Option.isSome_iff_exists.1 hok
    rw [renV, hp] at h
    cases h with | mp _ _ h1 h2 => exact .mp p u h1 fun v hv => h2 v (key hp v hv)
  | srow p o n =>
    obtain ⟨i, hp⟩ := Option.isSome_iff_exists.1 hok
    rw [renV, hp] at h
    cases h with | srow _ _ _ _ h1 h2 => exact .srow p o n u h1 fun v hv => h2 v (key hp v hv)
  | full cs n => exact closed h rfl
  | d x => exact closed h rfl
  | und => exact closed h rfl
  | iptr cs o => exact closed h rfl
  | top => exact .top u
  | agg cs => have hs : shutL cs = true := hok; rw [renV, hs] at h; exact closed h hs
  | tup cs => have hs : shutL cs = true := hok; rw [renV, hs] at h; exact closed h hs
  | fn f cs =>
    rw [renV] at h
    cases hs : shutL cs with
    | true => rw [hs] at h; exact closed h hs
    | false =>
      rw [hs] at h
      have hok2 : cs.all (ok1 ρ) = true := by
        have h3 : (shutL cs || cs.all (ok1 ρ)) = true := hok
        rw [hs] at h3; exact h3
      cases h with
      | fn _ _ C hl hh => exact .fn f cs C (by simpa using hl) fun i c u h1 h2 => (hh i (ren1 ρ c) u (by rw [List.getElem?_map, h1]; rfl) h2).down1 (List.all_eq_true.1 hok2 c (List.mem_of_getElem? h1)) hF hρ

theorem BRel.up {w : World} {F F' : Nat → Prop} {ι ι' : Nat → Option Value} {ρ : List (Nat × Nat)} {b : ABlk} {v : Value} (h : BRel w F' ι' b v) (hF : ExtF w F' ι' w F ι) (hρ : ∀ p i, look ρ p = some i → ∀ v, ι i = some v → ι' p = some v) : BRel w F ι (renB ρ b) v := by
  cases b with
  | var cs =>
    obtain ⟨r, C, T, rfl, hc, hl, h⟩ := h
    refine ⟨r, C, T, rfl, hc, by simpa using hl, fun i c u h1 h2 => ?_⟩
    rw [List.getElem?_map] at h1
    cases hi : cs[i]? with
    | none => rw [hi] at h1; cases h1
    | some c' => rw [hi] at h1; cases h1; exact (h i c' u hi h2).up hF hρ
  | row e k n cs =>
    obtain ⟨xs, hown, hl, h⟩ := h
    exact ⟨xs, hown, hl, fun i c u h1 h2 => (h i c u h1 h2).ext hF.mem hF.free⟩
  | rowA e k n cs =>
    obtain ⟨xs, hown, hl, h⟩ := h
    refine ⟨xs, hown, by simpa using hl, fun i c u h1 h2 => ?_⟩
    rw [List.getElem?_map] at h1
    cases hi : cs[i]? with
    | none => rw [hi] at h1; cases h1
    | some c' => rw [hi] at h1; cases h1; exact (h i c' u hi h2).up hF hρ
  | map es =>
    obtain ⟨r, E, clk, rfl, hc, hl, h, h3⟩ := h
    refine ⟨r, E, clk, rfl, hc, by simpa using hl, fun i p m h1 h2 => ?_, h3⟩
    rw [List.getElem?_map] at h1
    cases hi : es[i]? with
    | none => rw [hi] at h1; cases h1
    | some c' => rw [hi] at h1; cases h1; exact ⟨(h i c' m hi h2).1.up hF hρ, (h i c' m hi h2).2.up hF hρ⟩
  | mapx r0 bs0 clk0 es =>
    obtain ⟨E, rfl, hc, hl, h, h3⟩ := h
    refine ⟨E, rfl, hc, by simpa using hl, fun i p m h1 h2 => ?_, h3⟩
    rw [List.getElem?_map] at h1
    cases hi : es[i]? with
    | none => rw [hi] at h1; cases h1
    | some c' => rw [hi] at h1; cases h1; exact ⟨(h i c' m hi h2).1.up hF hρ, (h i c' m hi h2).2.up hF hρ⟩
  | it o => exact h
theorem BRel.down {w : World} {F F' : Nat → Prop} {ι ι0 : Nat → Option Value} {ρ : List (Nat × Nat)} {b : ABlk} {v : Value} (hok : okB ρ b) (h : BRel w F ι (renB ρ b) v) (hF : ExtF w F ι w F' ι0) (hρ : ∀ p v, ι0 p = some v → ∃ i, look ρ p = some i ∧ ι i = some v) : BRel w F' ι0 b v := by
  cases b with
  | var cs =>
    obtain ⟨r, C, T, rfl, hc, hl, h⟩ := h
    exact ⟨r, C, T, rfl, hc, by simpa using hl, fun i c u h1 h2 => (h i (renV ρ c) u (by rw [List.getElem?_map, h1]; rfl) h2).down (hok c (List.mem_of_getElem? h1)) hF hρ⟩
  | row e k n cs =>
    obtain ⟨xs, hown, hl, h⟩ := h
    exact ⟨xs, hown, hl, fun i c u h1 h2 => (h i c u h1 h2).ext hF.mem hF.free⟩
  | rowA e k n cs =>
    obtain ⟨xs, hown, hl, h⟩ := h
    exact ⟨xs, hown, by simpa using hl, fun i c u h1 h2 => (h i (renV ρ c) u (by rw [List.getElem?_map, h1]; rfl) h2).down (hok c (List.mem_of_getElem? h1)) hF hρ⟩
  | map es =>
    obtain ⟨r, E, clk, rfl, hc, hl, h, h3⟩ := h
    refine ⟨r, E, clk, rfl, hc, by simpa using hl, fun i p m h1 h2 => ?_, h3⟩
    have hk := hok p (List.mem_of_getElem? h1)
    have := h i (renV ρ p.1, renV ρ p.2) m (by rw [List.getElem?_map, h1]; rfl) h2
    exact ⟨this.1.down hk.1 hF hρ, this.2.down hk.2 hF hρ⟩
  | mapx r0 bs0 clk0 es =>
    obtain ⟨E, rfl, hc, hl, h, h3⟩ := h
    refine ⟨E, rfl, hc, by simpa using hl, fun i p m h1 h2 => ?_, h3⟩
    have hk := hok p (List.mem_of_getElem? h1)
    have := h i (renV ρ p.1, renV ρ p.2) m (by rw [List.getElem?_map, h1]; rfl) h2
    exact ⟨this.1.down hk.1 hF hρ, this.2.down hk.2 hF hρ⟩
  | it o => exact h

section
variable {P : Program} {nt : Nat} {T : List Nat} {e : Env} {h : Heap} {o : Oper} {tab : TTab}
theorem E_callP {f : FuncId} {args : Array Operand} {ats : Array TypeId} {cs0 cs : List AVal} {h0 : Heap} {d : Option Tmp} {Q : AVal → Heap → Prop} (ρ : List (Nat × Nat)) (ho : o.op = .call { callee := .value (.func f), args := args, argTypes := ats }) (hdst : o.dst = d) (hx : aevs e args.toList = some cs0)
    (hcs : cs.map (renV ρ) = cs0) (hok : ∀ c ∈ cs, okV ρ c = true) (hl : Lent ρ h h0) (hdom : ∀ p i, look ρ p = some i → 1000 ≤ p ∧ (look h0 p).isSome = true) (hinj : ∀ p p' i, look ρ p = some i → look ρ p' = some i → p = p')
    (H : ACall P f cs h0 Q) (hd : dstOk nt d = true) (hT : ∀ p i, look ρ p = some i → T.contains i = true) (hq : ∀ c h', Q c h' → ∀ p i, look ρ p = some i → (look h' p).isSome = true) :
    AEff P nt T e h o (fun e' h2 => ∃ c h', Q c h' ∧ e' = aput d (renV ρ c) e ∧ h2 = renH ρ h' ++ h) := fun Pm F w0 pin ι a w R K Qx hK => by
  unfold Oper.wp
  rw [run_callA H.1 ho, Oper.upon_enter, hdst]
  have HR := R.heap
  let ι0 : Nat → Option Value := fun p => match look ρ p with | some i => ι i | none => none
  have h0some : ∀ p v, ι0 p = some v → ∃ i, look ρ p = some i ∧ ι i = some v := fun p v hv => by
    simp only [ι0] at hv
    cases hp : look ρ p with
    | none => rw [hp] at hv; cases hv
    | some i => rw [hp] at hv; exact ⟨i, rfl, hv⟩
  have h0of : ∀ p i, look ρ p = some i → ι0 p = ι i := fun p i hp => by simp only [ι0, hp]
  let F' : Nat → Prop := fun r => F r ∨ ∃ id v, ι id = some v ∧ blockOf v = some r ∧ ∀ p, look ρ p ≠ some id
  let Pm' : Nat → Prop := fun r => w.heap.size ≤ r ∨ ∃ p v, ι0 p = some v ∧ blockOf v = some r
  have hFdown : ExtF w F ι w F' ι0 := ⟨fun _ _ _ => rfl, fun r _ hf => ⟨fun hc => hc.elim hf.1 fun ⟨id, v, h1, h2, _⟩ => hf.2 id v h1 h2, fun p v hv hb => by
    obtain ⟨i, _, h2⟩ := h0some p v hv
    exact hf.2 i v h2 hb⟩⟩
  have HC : HRel Pm' F' w ι0 ι0 h0 w := by
    refine ⟨fun p b hb => ?_, fun p v hv => ?_, fun p q v v' r hpq hv hv' hr => ?_, fun p v r hv hr => .inr ⟨p, v, hv, hr⟩, rfl, rfl, rfl, Nat.le_refl _, fun _ _ _ => rfl, fun r hr => .inl hr, fun p v _ hv => hv, fun p v r hv hr hF' => ?_, fun r hr => ?_⟩
    · obtain ⟨i, h1, h2, h3⟩ := hl.get hb
      obtain ⟨v, hv, hB⟩ := HR.blk i _ h2
      exact ⟨v, by rw [h0of p i h1]; exact hv, hB.down h3 hFdown h0some⟩
    · obtain ⟨i, h1, h2⟩ := h0some p v hv
      exact Option.isSome_iff_exists.1 (hdom p i h1).2
    · obtain ⟨i, h1, h2⟩ := h0some p v hv
      obtain ⟨j, h3, h4⟩ := h0some q v' hv'
      exact HR.inj i j v v' r (by rintro rfl; exact hpq (hinj p q i h1 h3)) h2 h4 hr
    · obtain ⟨i, h1, h2⟩ := h0some p v hv
      rcases hF' with h3 | ⟨id, v', h3, h4, h5⟩
      · exact HR.nf i v r h2 hr h3
      · have : i ≠ id := by rintro rfl; exact h5 p h1
        exact HR.inj i id v v' r this h2 h3 hr h4
    · rcases hr with h1 | ⟨id, v, h1, h2, _⟩
      · exact Nat.lt_of_lt_of_le (HR.forb r h1) HR.size
      · exact HR.lt h1 h2
  have HA : ArgsRel w F' ι0 cs (args.map a.eval) := by
    have := args_of R.env hx
    refine ⟨by rw [this.1, ← hcs, List.length_map], fun i c u h1 h2 => (this.2 i (renV ρ c) u (by rw [← hcs, List.getElem?_map, h1]; rfl) h2).down (hok c (List.mem_of_getElem? h1)) hFdown h0some⟩
  refine (H.2 Pm' F' w ι0 ι0 _ w HC HA).mono ?_
  rintro x w' ⟨u, c, h', ι', rfl, hQ, hH, hv⟩
  have hsz := hH.size
  have hkeep : ∀ r, r < w.heap.size → (∀ p i v, look ρ p = some i → ι i = some v → blockOf v ≠ some r) → w'.heap[r]? = w.heap[r]? := fun r hr hn => hH.keep r hr fun hp => by
    rcases hp with h1 | ⟨p, v, h1, h2⟩
    · omega
    · obtain ⟨i, h3, h4⟩ := h0some p v h1
      exact hn p i v h3 h4 h2
  have hpin : ∀ p i, look ρ p = some i → ∀ v, ι i = some v → ι' p = some v := fun p i hp v hv => by
    obtain ⟨b, hb⟩ := Option.isSome_iff_exists.1 (hq c h' hQ p i hp)
    obtain ⟨v', hv', _⟩ := hH.blk p b hb
    have := hH.pinned p v' (hdom p i hp).1 hv'
    rw [h0of p i hp, hv] at this
    cases this
    exact hv'
  have hFup : ExtF w' F' ι' w' F ι := ⟨fun _ _ _ => rfl, fun r _ hf => ⟨fun hc => hf.1 (.inl hc), fun id v hid hb => by
    by_cases hex : ∃ p, look ρ p = some id
    · obtain ⟨p, hp⟩ := hex
      exact hf.2 p v (hpin p id hp v hid) hb
    · exact hf.1 (.inr ⟨id, v, hid, hb, fun p hp => hex ⟨p, hp⟩⟩)⟩⟩
  have hext : Ext w F ι w' ι := ⟨fun r hr hf => hkeep r hr fun p i v hp hi hb => hf.2 i v hi hb, fun r _ hf => hf⟩
  have hheap : HRel Pm F w0 pin ι (renH ρ h' ++ h) w' := by
    refine ⟨fun id b hb => ?_, fun id v hv => ?_, HR.inj, HR.pm, hH.os.trans HR.os, hH.tape.trans HR.tape, hH.output.trans HR.output, Nat.le_trans HR.size hsz, fun r hr hn => ?_, HR.fresh, HR.pinned, HR.nf, HR.forb⟩
    · rw [look_append] at hb
      cases hl2 : look (renH ρ h') id with
      | some b' =>
        rw [hl2] at hb
        cases hb
        obtain ⟨p, b0, h1, h2, h3⟩ := (look_renH hinj h' id).1 b hl2
        subst h3
        obtain ⟨v', hv', hB⟩ := hH.blk p b0 h2
        have h4 := hH.pinned p v' (hdom p id h1).1 hv'
        rw [h0of p id h1] at h4
        exact ⟨v', h4, hB.up hFup hpin⟩
      | none =>
        rw [hl2] at hb
        have hb2 : look h id = some b := hb
        have hno : ∀ p, look ρ p ≠ some id := fun p hp => by
          have h1 := (look_renH hinj h' id).2 hl2 p hp
          have h2 := hq c h' hQ p id hp
          rw [h1] at h2; cases h2
        obtain ⟨v, hv, hB⟩ := HR.blk id b hb2
        refine ⟨v, hv, hB.ext hext (fun _ _ h => h) fun r hr => hkeep r (HR.lt hv hr) fun p i v2 hp hi hb3 => ?_⟩
        exact HR.inj i id v2 v r (by rintro rfl; exact hno p hp) hi hv hb3 hr
    · obtain ⟨b, hb⟩ := HR.dom id v hv
      rw [look_append]
      cases hl2 : look (renH ρ h') id with
      | some b' => exact ⟨b', rfl⟩
      | none => exact ⟨b, hb⟩
    · rw [hkeep r (Nat.lt_of_lt_of_le hr HR.size) fun p i v hp hi hb => hn (HR.pm i v r hi hb)]
      exact HR.keep r hr hn
  have R2 : Rel Pm F w0 pin ι nt e (renH ρ h' ++ h) a w' := ⟨hheap, R.env.mono fun _ _ _ _ hv => hv.ext hext fun _ _ _ h => h, R.defers.ext hext, R.size⟩
  exact hK ι _ _ _ w' ⟨c, h', hQ, rfl, rfl⟩ (R2.put hd (hv.up hFup hpin)) ⟨⟨hH.os, hH.tape, hH.output, hsz, fun r hr hne => hkeep r hr fun p i v hp hi hb => hne i (List.contains_iff_mem.1 (hT p i hp)) v hi hb⟩, fun id _ v r h1 h2 _ => ⟨v, h1, h2⟩⟩ (put_defers _ _ _)
end
end Go.Proofs.Ytjmelcdgbnjefaa.Ab

namespace Go.Proofs.Ytjmelcdgbnjefaa.Ab
set_option linter.unusedVariables false
open Go.RowKit

section
variable {P : Program} {nt : Nat} {Q : Post} {e : Env} {h : Heap} {ops : Array Oper} {o : Oper} {rest : List Oper} {T : List Nat} {tab : TTab}
theorem HRel.relook {Pm F : Nat → Prop} {w0 w : World} {pin ι : Nat → Option Value} {h h' : Heap} (H : HRel Pm F w0 pin ι h w) (hs : ∀ j, look h' j = look h j) : HRel Pm F w0 pin ι h' w :=
  ⟨fun j b hj => H.blk j b (by rw [← hs]; exact hj), fun j v hj => by rw [hs]; exact H.dom j v hj, H.inj, H.pm, H.os, H.tape, H.output, H.size, H.keep, H.fresh, H.pinned, H.nf, H.forb⟩
theorem run_cutFrom {t el : TypeId} {te te' : TE} (w' : World) (Ft : TFacts P t te) (hs : te.sh = .sl el) (Fe : TFacts P el te') (b : Option Addr) (n cap : Nat) (k : IntKind) (m : Nat) (hm : m ≤ n) :
    (Instr.sliceAt t (.slice b n cap) (some (.int k m)) none none).run P w' = .ok (.slice (if cap = m then b else b.map (·.add (m * te'.size))) (n - m) (cap - m)) w' := by
  have hu := Ft.slice hs
  have he : P.elem t = el := Ft.elem hs
  rw [run_sliceAt_slice (t := t) (h := by rw [he]; exact hu), run_slice_l (P := P) (w := w') (t := t) (a := b) (len := n) (cap := cap) (ht := by rw [he]; exact hu) (kl := k) (l := (m : Int)) (by omega) (by omega), he, Fe.size]
  simp only [Result.andThen, sliced, Int.toNat_natCast]
theorem run_cut3 {t el : TypeId} {te te' : TE} (w' : World) (Ft : TFacts P t te) (hs : te.sh = .sl el) (Fe : TFacts P el te') (b : Option Addr) (hb : ∀ a, b = some a → a.add 0 = a) (n cap : Nat) (k k2 : IntKind) (m : Nat) (hm : m ≤ cap) :
    (Instr.sliceAt t (.slice b n cap) none (some (.int k m)) (some (.int k2 m))).run P w' = .ok (.slice b m m) w' := by
  have hu := Ft.slice hs
  have he : P.elem t = el := Ft.elem hs
  rw [run_sliceAt_slice (t := t) (h := by rw [he]; exact hu), run_slice_hm (P := P) (w := w') (t := t) (a := b) (len := n) (cap := cap) (ht := by rw [he]; exact hu) (kh := k) (km := k2) (h := (m : Int)) (m := (m : Int)) (by omega) (by omega) (by omega), he, Fe.size]
  simp only [Result.andThen, sliced, Int.toNat_natCast, Nat.zero_mul, Nat.sub_zero]
  congr 2
  split
  · rfl
  · cases b with
    | none => rfl
    | some a => simp [hb a rfl]
theorem add_lit0 (g o j : Nat) : (⟨g, o, none⟩ : Addr).add j = ⟨g, o + j, none⟩ := by unfold Addr.add; split <;> simp_all

theorem R_rowFrom {t el el' k kk m id : Nat} {x y : Operand} {cs : List Dat} {n : Nat} {q : IntKind} {i : Int} (TO : TabOk P tab) (ho : o.op = .slice t x (some y) none none) (hel : telem tab t = some el) (hsz : tsize tab el = some k) (hx : aev e x = some (.row id)) (hb : look h id = some (.row el' kk n cs)) (hy : aev e y = some (.d (.sc (.int q i)))) (hi : i = (m : Int)) (hm : m ≤ n) :
    AYield P T e h o (.srow id (m * k) (n - m)) := by
  obtain ⟨te, h1, h2⟩ := telem_spec hel
  obtain ⟨te', h3, rfl⟩ := tsize_spec hsz
  subst hi
  intro Pm F w0 pin ι a w H E
  obtain ⟨v, hv, xs, hown, _⟩ := H.blk id _ hb
  have hr := aev_rel E hx
  have hk := (sc_of (aev_rel E hy)).1
  generalize hau : a.eval x = u at hr
  cases hr with
  | row _ _ g1 g2 =>
    have g3 := g2 v hv
    subst g3
    rcases hown.2 with ⟨rfl, h4⟩ | ⟨g, cap, cur, rfl, _, _, hnc, _⟩
    · subst h4
      have : m = 0 := by omega
      subst this
      refine ⟨.slice none 0 0, .srow id _ _ _ rfl fun v' hv' => ⟨none, 0, rfl, by omega, fun h => by omega⟩, fun w' _ => ?_⟩
      simp only [execOp, ho, hau]; simp [hk]; rw [show (0 : Int) = ((0 : Nat) : Int) from rfl, run_cutFrom w' (TO t te h1) h2 (TO el te' h3) none 0 0 q 0 (Nat.le_refl _)]; rfl
    · refine ⟨_, .srow id _ _ (.slice (if cap = m then (some ⟨g, 0, none⟩) else some ⟨g, m * te'.size, none⟩) (n - m) (cap - m)) rfl fun v' hv' => ?_, fun w' _ => ?_⟩
      · rw [hv] at hv'; cases hv'
        refine ⟨_, _, rfl, by omega, fun hpos => ⟨g, n, cap, rfl, ?_⟩⟩
        rw [if_neg (by omega)]
      · simp only [execOp, ho, hau]; simp [hk]; rw [run_cutFrom w' (TO t te h1) h2 (TO el te' h3) _ n cap q m hm]
        simp only [Option.map_some, add_lit0, Nat.zero_add]
        rfl
theorem R_indexs {t el k j id off n : Nat} {x y : Operand} {el' kk nn : Nat} {cs : List Dat} {q : IntKind} {i : Int} (TO : TabOk P tab) (ho : o.op = .indexAddr t x y) (hel : telem tab t = some el) (hsz : tsize tab el = some k) (hx : aev e x = some (.srow id off n)) (hb : look h id = some (.row el' kk nn cs)) (hy : aev e y = some (.d (.sc (.int q i)))) (hj : i = (j : Int)) (hlt : j < n) :
    AYield P T e h o (.eptr id (off + j * k)) := by
  obtain ⟨te, h1, h2⟩ := telem_spec hel
  obtain ⟨te', h3, rfl⟩ := tsize_spec hsz
  subst hj
  intro Pm F w0 pin ι a w H E
  obtain ⟨v, hv, xs, hown, _⟩ := H.blk id _ hb
  have hr := aev_rel E hx
  have hk := (sc_of (aev_rel E hy)).1
  have hu := (TO t te h1).slice h2
  generalize hau : a.eval x = u at hr
  cases hr with
  | srow _ _ _ _ g1 g2 =>
    obtain ⟨b', c', rfl, _, g3⟩ := g2 v hv
    obtain ⟨g, N, cap, rfl, rfl⟩ := g3 (by omega)
    refine ⟨.pointer (some ⟨g, off + j * te'.size, none⟩), .eptr id _ _ rfl fun v' hv' => ?_, fun w' _ => ?_⟩
    · rw [hv] at hv'; cases hv'; exact ⟨g, N, cap, rfl, rfl⟩
    · simp [execOp, ho, hau, hk, run_indexAt w' hu (TO el te' h3) g off n c' q (j : Int) ⟨by omega, by omega⟩]
theorem R_lens {t el id off n : Nat} {x : Operand} {el' kk nn : Nat} {cs : List Dat} (TO : TabOk P tab) (ho : o.op = .call { callee := .builtin .len, args := #[x], argTypes := #[t] }) (hel : telem tab t = some el) (hx : aev e x = some (.srow id off n)) (hb : look h id = some (.row el' kk nn cs)) : AYield P T e h o (.d (.sc (.int .i64 (n : Int)))) := by
  obtain ⟨te, h1, h2⟩ := telem_spec hel
  intro Pm F w0 pin ι a w H E
  obtain ⟨v, hv, xs, hown, _⟩ := H.blk id _ hb
  have hu := (TO t te h1).slice h2
  have hr := aev_rel E hx
  generalize hau : a.eval x = u at hr
  cases hr with
  | srow _ _ _ _ g1 g2 =>
    obtain ⟨b', c', rfl, _, g3⟩ := g2 v hv
    exact ⟨_, sc_rel rfl, fun w' _ => by simp [execOp, ho, resolve, invoke, builtin, hau, Builtin.len_, run_underlying hu, goInt]⟩
theorem R_clip {t el k : Nat} {x y z : Operand} {cs : List Dat} {n : Nat} {q q2 : IntKind} {i j : Int} (TO : TabOk P tab) (ho : o.op = .slice t x none (some y) (some z)) (hel : telem tab t = some el) (hsz : tsize tab el = some k) (hx : aev e x = some (.d (.sl cs n))) (hy : aev e y = some (.d (.sc (.int q i)))) (hz : aev e z = some (.d (.sc (.int q2 j)))) (hi : i = (n : Int)) (hj : j = (n : Int)) :
    AYield P T e h o (.full cs n) := by
  obtain ⟨te, h1, h2⟩ := telem_spec hel
  obtain ⟨te', h3, rfl⟩ := tsize_spec hsz
  subst hi hj
  refine yield_of _ fun w F ι a E => ?_
  have hv := aev_rel E hx
  have hk := (sc_of (aev_rel E hy)).1
  have hk2 := (sc_of (aev_rel E hz)).1
  generalize hau : a.eval x = u at hv
  cases hv with
  | d _ _ hd =>
    cases hd with
    | nil => exact ⟨_, .full [] 0 none .nil, fun w' => by simp only [execOp, ho, hau]; simp [hk, hk2]; rw [show (0 : Int) = ((0 : Nat) : Int) from rfl, run_cut3 w' (TO t te h1) h2 (TO el te' h3) none (fun a h => by cases h) 0 0 q q2 0 (Nat.le_refl _)]; rfl⟩
    | emp ea => exact ⟨_, .full [] 0 _ (.emp ea), fun w' => by simp only [execOp, ho, hau]; simp [hk, hk2]; rw [show (0 : Int) = ((0 : Nat) : Int) from rfl, run_cut3 w' (TO t te h1) h2 (TO el te' h3) (some ea) (fun a h => rfl) 0 0 q q2 0 (Nat.le_refl _)]; rfl⟩
    | sl _ _ b off cap vs hn hl hf hc hr =>
      exact ⟨_, .full cs n _ (.sl cs n b off n vs (Nat.le_refl _) hl hf hc hr), fun w' => by simp only [execOp, ho, hau]; simp [hk, hk2]; rw [run_cut3 w' (TO t te h1) h2 (TO el te' h3) _ (fun a h => by cases h; exact add0 _ _) n cap q q2 n hn]; rfl⟩

theorem E_rowTo {t el : TypeId} {te te' : TE} {d : Option Tmp} {x y : Operand} {rid n m : Nat} {cs : List Dat} {q : IntKind} {el' kk : Nat} (TO : TabOk P tab) (ho : o.op = .slice t x none (some y) none) (hdst : o.dst = d)
    (ht : tlook tab t = some te) (hs : te.sh = .sl el) (hel : tlook tab el = some te') (hx : aev e x = some (.row rid)) (hb : look h rid = some (.row el' kk n cs)) (hy : aev e y = some (.d (.sc (.int q (m : Int))))) (hm : m ≤ n) (hid : Nat.blt rid 1000 = true) (hd : dstOk nt d = true) (hT : T.contains rid = true) :
    AEff P nt T e h o (fun e' h' => e' = aput d (.row rid) (killE rid e) ∧ h' = (rid, .row el' kk m (cs.take (m * kk))) :: killH rid h) := fun Pm F w0 pin ι a w R K Qx hK => by
  have hid' : rid < 1000 := by simp [Nat.blt] at hid; omega
  obtain ⟨v, hv, xs, hown, hxl, hxr⟩ := R.heap.blk _ _ hb
  have hr := aev_rel R.env hx
  have hk := (sc_of (aev_rel R.env hy)).1
  obtain ⟨b, N, cap, hvv, hN, hadd⟩ : ∃ b N cap, v = .slice b N cap ∧ m ≤ cap ∧ ∀ a, b = some a → a.add 0 = a := by
    rcases hown.2 with ⟨h1, h2⟩ | ⟨g, cap, cur, h1, _, _, h2, _⟩
    · exact ⟨none, 0, 0, h1, by omega, fun a h => by cases h⟩
    · exact ⟨_, _, cap, h1, by omega, fun a h => by cases h; exact add0 _ _⟩
  have hval : a.eval x = v := by
    generalize a.eval x = u at hr
    cases hr with
    | row _ _ g1 g2 => exact g2 v hv
  have hlen : (xs.take (m * kk)).length = m * kk := by rw [List.length_take, hown.1]; exact Nat.min_eq_left (Nat.mul_le_mul_right kk hm)
  have hown' : w.ownsRow 0 el' kk (.slice b m cap) m (xs.take (m * kk)) := by
    refine ⟨hlen, ?_⟩
    rcases hown.2 with ⟨h1, h2⟩ | ⟨g, cap2, cur, h1, g2, g3, g4, g5, g6, g7⟩
    · rw [hvv] at h1; cases h1; exact .inl ⟨by rw [show m = 0 by omega], by omega⟩
    · rw [hvv] at h1; cases h1
      refine .inr ⟨g, cap, cur, rfl, g2, g3, hN, g5, g6, ?_⟩
      rw [← g7, List.take_take, Nat.min_eq_left (Nat.mul_le_mul_right kk hm)]
  have hblk : blockOf (.slice b m cap) = blockOf v := by subst hvv; cases b <;> rfl
  have TT : Touch w ι rid (.slice b m cap) w := ⟨rfl, rfl, rfl, Nat.le_refl _, fun r _ _ => rfl, fun r hr1 => .inr ⟨v, hv, by rw [← hblk]; exact hr1⟩⟩
  have hrun : (execOp a.eval o).run P w = .ok (.value (.slice b m cap)) w := by
    simp only [execOp, ho, hval, hvv, Option.map_some, Option.map_none, hk]
    simp
    rw [run_cutTo w (TO t te ht) hs (TO el te' hel) b hadd N cap q m hN]
    rfl
  unfold Oper.wp
  rw [hrun, Oper.upon_value, hdst]
  refine hK _ _ _ _ _ ⟨rfl, rfl⟩ ⟨R.heap.touch TT (.inl hid') ⟨xs.take (m * kk), hown', by rw [List.length_take, List.length_take, hxl], fun i c u h1 h2 => ?_⟩, (R.env.killed TT.ext).aput hd R.size (.row rid _ (own_one hown') fun v hv => by simp [upd] at hv; exact hv), by rw [put_defers]; exact R.defers.ext TT.ext, by rw [put_size]; exact R.size⟩ ?_ (put_defers _ _ _)
  · rw [List.getElem?_take] at h1 h2
    split at h1
    · rename_i hlt
      rw [if_pos hlt] at h2
      exact (hxr _ _ _ h1 h2).ext TT.ext.mem TT.ext.free
    · cases h1
  · refine ⟨⟨rfl, rfl, rfl, Nat.le_refl _, fun r _ _ => rfl⟩, fun j _ u r hj hr1 hlt => ?_⟩
    unfold upd at hj
    split at hj
    · rename_i hjr
      subst hjr
      cases hj
      exact ⟨v, hv, by rw [← hblk]; exact hr1⟩
    · exact ⟨u, hj, hr1⟩

theorem run_copyK {P : Program} (w : World) (dT sT ty elem : TypeId) (k : Nat) (g o dLen dCap : Nat) (a : Addr) (sLen sCap : Nat) (cur : Array Value) (t : TypeId) (cs : List Value)
    (hu : P.underlying dT = some (.slice elem)) (hs : (P.info? elem).map (·.size) = some k)
    (hg : w.heap[g]? = some (.cells cur t (0, 0))) (hn : cs.length = Nat.min sLen dLen * k)
    (hsrc : ∀ j v, cs[j]? = some v → w.cell? (a.add j) = some v) (hfit : o + cs.length ≤ cur.size) (h1 : ∀ v ∈ cs, v.oneCell' = true) :
    (Builtin.copy_ #[dT, sT] ty #[.slice (some ⟨g, o, none⟩) dLen dCap, .slice (some a) sLen sCap]).run P w =
      .ok (goInt (Nat.min sLen dLen)) (w.setRow g (setW cur.toList o cs).toArray) := by
  have hl := run_loadCells_list (P := P) w a cs hsrc
  have hst := run_storeCells_at P g o t cs 0 cur w hg (by simpa using hfit) h1
  cases hq : P.info? elem with
  | none => simp [hq] at hs
  | some i =>
    have hi : i.size = k := by simpa [hq] using hs
    simp [Builtin.copy_, run_underlying hu, Builtin.lenOf, Builtin.firstCells, sizeOf, typeInfo, hq, hi, ← hn, hl, hst, setW]
theorem run_copyK0 {P : Program} (w : World) (dT sT ty elem : TypeId) (k : Nat) (d a : Option Addr) (dLen dCap sLen sCap : Nat) (hu : P.underlying dT = some (.slice elem)) (hs : (P.info? elem).map (·.size) = some k) (hn : Nat.min sLen dLen = 0) :
    (Builtin.copy_ #[dT, sT] ty #[.slice d dLen dCap, .slice a sLen sCap]).run P w = .ok (goInt 0) w := by
  cases hq : P.info? elem with
  | none => simp [hq] at hs
  | some i =>
    have hl : ∀ (x : Addr), (loadCells x 0).run P w = .ok #[] w := fun x => by simpa using run_loadCells_list (P := P) w x [] (by simp)
    cases d <;> cases a <;> simp [Builtin.copy_, run_underlying hu, Builtin.lenOf, Builtin.firstCells, sizeOf, typeInfo, hq, hn, storeCells, hl]
theorem win_get' {α : Type} (cs : List α) (off k j : Nat) (hj : j < k) : (win cs off k)[j]? = cs[off + j]? := by
  unfold win
  rw [List.getElem?_take_of_lt hj, List.getElem?_drop]
theorem win_len {α : Type} (cs : List α) (off k : Nat) (h : off + k ≤ cs.length) : (win cs off k).length = k := by
  unfold win
  rw [List.length_take, List.length_drop]; omega
theorem setW_nil {α : Type} (cs : List α) (off : Nat) : setW cs off [] = cs := by unfold setW; simp
theorem setW_len {α : Type} (cs xs : List α) (off : Nat) (h : off + xs.length ≤ cs.length) : (setW cs off xs).length = cs.length := by
  unfold setW
  simp; omega
theorem own_set {w : World} {e k n g cap off : Nat} {cur : Array Value} {xs news : List Value} (hg : w.heap[g]? = some (.cells cur e (0, 0))) (hlen : xs.length = n * k) (hcap : n ≤ cap) (hmax : cap ≤ maxLen) (hsz : cur.size = cap * k) (ht : cur.toList.take (n * k) = xs) (hfit : off + news.length ≤ n * k) :
    (w.setRow g (setW cur.toList off news).toArray).ownsRow 0 e k (.slice (some ⟨g, 0, none⟩) n cap) n (setW xs off news) := by
  have hle : n * k ≤ cur.size := by rw [hsz]; exact Nat.mul_le_mul_right k hcap
  have h1 := setRow_heap w g cur (setW cur.toList off news).toArray e (0, 0) hg
  refine ⟨by rw [setW_len _ _ _ (by omega), hlen], .inr ⟨g, cap, _, rfl, Nat.zero_le _, h1, hcap, hmax, ?_, ?_⟩⟩
  · rw [List.size_toArray, setW_len _ _ _ (by rw [Array.length_toList (xs := cur)]; omega), Array.length_toList, hsz]
  · rw [List.toList_toArray, ← ht]
    apply List.ext_getElem?
    intro i
    by_cases hi : i < n * k
    · rw [List.getElem?_take_of_lt hi, setW_get (by rw [Array.length_toList (xs := cur)]; omega), setW_get (by rw [List.length_take, Array.length_toList (xs := cur)]; omega), List.getElem?_take_of_lt hi]
    · rw [List.getElem?_eq_none (by rw [List.length_take]; omega), List.getElem?_eq_none (by rw [setW_len _ _ _ (by rw [List.length_take, Array.length_toList (xs := cur)]; omega), List.length_take]; omega)]
theorem E_copyS {t sT el : TypeId} {te te' : TE} {d : Option Tmp} {x y : Operand} {id off1 n1 off2 n2 n k : Nat} {cs : List Dat} (TO : TabOk P tab) (ho : o.op = .call { callee := .builtin .copy, args := #[x, y], argTypes := #[t, sT] }) (hdst : o.dst = d)
    (ht : tlook tab t = some te) (hs : te.sh = .sl el) (hel : tlook tab el = some te') (hk : te'.size = k) (hx : aev e x = some (.srow id off1 n1)) (hy : aev e y = some (.srow id off2 n2)) (hb : look h id = some (.row el k n cs))
    (h1 : off1 + Nat.min n2 n1 * k ≤ n * k) (h2 : off2 + Nat.min n2 n1 * k ≤ n * k) (hd : dstOk nt d = true) (hT : T.contains id = true) :
    AEff P nt T e h o (fun e' h' => e' = aput d (.d (.sc (.int .i64 ((Nat.min n2 n1 : Nat) : Int)))) e ∧ h' = (id, .row el k n (setW cs off1 (win cs off2 (Nat.min n2 n1 * k)))) :: h) := fun Pm F w0 pin ι a w R K Qx hK => by
  subst hk
  obtain ⟨v, hv, xs, hown, hxl, hxr⟩ := R.heap.blk _ _ hb
  have hu := (TO t te ht).slice hs
  have hsz : (P.info? el).map (·.size) = some te'.size := by
    obtain ⟨z, _, _, i, hi, _, hsz, _⟩ := (TO el te' hel).zero w
    rw [hi]; simp [hsz]
  have hrx := aev_rel R.env hx
  have hry := aev_rel R.env hy
  have hcl : cs.length = n * te'.size := by rw [← hxl]; exact hown.1
  obtain ⟨ux, hux⟩ : ∃ ux, a.eval x = ux := ⟨_, rfl⟩
  obtain ⟨uy, huy⟩ : ∃ uy, a.eval y = uy := ⟨_, rfl⟩
  rw [hux] at hrx
  rw [huy] at hry
  cases hrx with
  | srow _ _ _ _ g1 g2 =>
  cases hry with
  | srow _ _ _ _ g3 g4 =>
    obtain ⟨b1, c1, rfl, _, k1⟩ := g2 v hv
    obtain ⟨b2, c2, rfl, _, k2⟩ := g4 v hv
    by_cases h0 : Nat.min n2 n1 = 0
    · have hrun : (execOp a.eval o).run P w = .ok (.value (goInt 0)) w := by
        simp [execOp, ho, resolve, invoke, builtin, hux, huy, run_copyK0 w t sT o.type el te'.size b1 b2 n1 c1 n2 c2 hu hsz h0]
      unfold Oper.wp
      rw [hrun, Oper.upon_value, hdst]
      refine hK ι _ _ _ _ ⟨rfl, rfl⟩ ?_ ⟨CT.refl T ι w, fun id _ v r hv hr _ => ⟨v, hv, hr⟩⟩ (put_defers _ _ _)
      rw [h0]
      refine ⟨?_, R.env.aput hd R.size (sc_rel rfl), by rw [put_defers]; exact R.defers, by rw [put_size]; exact R.size⟩
      have e1 : setW cs off1 (win cs off2 (0 * te'.size)) = cs := by unfold win; rw [Nat.zero_mul, List.take_zero]; exact setW_nil _ _
      rw [e1]
      refine R.heap.relook fun j => ?_
      by_cases hj2 : id = j
      · subst hj2; rw [look_cons_same, hb]
      · rw [look_cons_ne _ _ hj2]
    · have hm1 : 0 < n1 := by have e : Nat.min n2 n1 = min n2 n1 := rfl; omega
      have hm2 : 0 < n2 := by have e : Nat.min n2 n1 = min n2 n1 := rfl; omega
      obtain ⟨g, N, cap, hvv, rfl⟩ := k1 hm1
      obtain ⟨g', N', cap', hvv2, rfl⟩ := k2 hm2
      rw [hvv] at hvv2; cases hvv2
      rcases hown.2 with ⟨q1, _⟩ | ⟨g0, cap0, cur, q1, _, hg, q4, q5, q6, q7⟩
      · rw [hvv] at q1; cases q1
      rw [hvv] at q1; cases q1
      have hle : n * te'.size ≤ cur.size := by rw [q6]; exact Nat.mul_le_mul_right _ q4
      have hwl : (win cur.toList off2 (Nat.min n2 n1 * te'.size)).length = Nat.min n2 n1 * te'.size := win_len _ _ _ (by rw [Array.length_toList (xs := cur)]; omega)
      have hcell : ∀ j v, (win cur.toList off2 (Nat.min n2 n1 * te'.size))[j]? = some v → w.cell? ((⟨g, off2, none⟩ : Addr).add j) = some v := fun j v hj => by
        have hjl : j < Nat.min n2 n1 * te'.size := by rw [← hwl]; exact (List.getElem?_eq_some_iff.1 hj).1
        rw [win_get' _ _ _ _ hjl, Array.getElem?_toList] at hj
        rw [add_lit0, cell_of_row w g (off2 + j) cur el (0, 0) hg]
        exact hj
      have hxw : win cur.toList off2 (Nat.min n2 n1 * te'.size) = win xs off2 (Nat.min n2 n1 * te'.size) := by
        rw [← q7]
        apply List.ext_getElem?
        intro i
        by_cases hi : i < Nat.min n2 n1 * te'.size
        · rw [win_get' _ _ _ _ hi, win_get' _ _ _ _ hi, List.getElem?_take_of_lt (by omega)]
        · rw [List.getElem?_eq_none (by omega), List.getElem?_eq_none (by rw [win_len _ _ _ (by rw [List.length_take, Array.length_toList (xs := cur)]; omega)]; omega)]
      have hone : ∀ u ∈ win cur.toList off2 (Nat.min n2 n1 * te'.size), u.oneCell' = true := fun u hu => by
        rw [hxw] at hu
        obtain ⟨i, hi⟩ := List.mem_iff_getElem?.1 hu
        have hlt : i < Nat.min n2 n1 * te'.size := by
          have := (List.getElem?_eq_some_iff.1 hi).1
          rw [win_len _ _ _ (by rw [hown.1]; omega)] at this
          exact this
        rw [win_get' _ _ _ _ hlt] at hi
        have hlt2 : off2 + i < cs.length := by rw [← hxl]; exact (List.getElem?_eq_some_iff.1 hi).1
        exact (hxr _ _ _ (List.getElem?_eq_getElem hlt2) hi).one
      have hrun0 := run_copyK (P := P) w t sT o.type el te'.size g off1 n1 c1 ⟨g, off2, none⟩ n2 c2 cur el _ hu hsz hg hwl hcell (by rw [hwl]; omega) hone
      have hrun : (execOp a.eval o).run P w = .ok (.value (goInt (Nat.min n2 n1))) (w.setRow g (setW cur.toList off1 (win cur.toList off2 (Nat.min n2 n1 * te'.size))).toArray) := by
        simp only [execOp, ho, resolve, invoke, builtin]
        simp [hux, huy, hrun0]
      obtain ⟨hW, hnew⟩ := wrote_setRow (C' := (setW cur.toList off1 (win cur.toList off2 (Nat.min n2 n1 * te'.size))).toArray) hg (v := v) (by rw [hvv]; rfl)
      have hown2 := own_set (off := off1) (news := win cur.toList off2 (Nat.min n2 n1 * te'.size)) hg hown.1 q4 q5 q6 q7 (by rw [hwl]; exact h1)
      unfold Oper.wp
      rw [hrun, Oper.upon_value, hdst]
      refine hK ι _ _ _ _ ⟨rfl, rfl⟩ ?_ ⟨⟨hW.os, hW.tape, hW.output, hW.size, fun r hr hne => hW.mem r hr fun he => hne id (List.contains_iff_mem.1 hT) v hv he⟩, fun id _ v r hv hr _ => ⟨v, hv, hr⟩⟩ (put_defers _ _ _)
      refine ⟨R.heap.wrote hW hv ⟨_, by rw [hvv]; exact hown2, by rw [setW_len _ _ _ (by rw [hwl, hown.1]; omega), setW_len _ _ _ (by rw [win_len _ _ _ (by omega)]; omega), hxl], fun i c u h4 h5 => ?_⟩, (R.env.mono fun _ _ _ _ hv' => hv'.wrote hW hv).aput hd R.size (sc_rel rfl), by rw [put_defers]; exact R.defers.ext (hW.ext hv), by rw [put_size]; exact R.size⟩
      rw [setW_get (by rw [win_len _ _ _ (by omega)]; omega), win_len _ _ _ (by omega)] at h4
      rw [setW_get (by rw [hwl, hown.1]; omega), hwl] at h5
      split at h4
      · rename_i hin
        rw [if_pos hin] at h5
        rw [hxw] at h5
        rw [win_get' _ _ _ _ (by omega)] at h4 h5
        exact (hxr _ _ _ h4 h5).ext (hW.ext hv).mem (hW.ext hv).free
      · rename_i hin
        rw [if_neg hin] at h5
        exact (hxr _ _ _ h4 h5).ext (hW.ext hv).mem (hW.ext hv).free

theorem run_appF {P : Program} {t el : TypeId} {te te' : TE} {ty : TypeId} (w : World) (Ft : TFacts P t te) (hs : te.sh = .sl el) (Fe : TFacts P el te') (hk : 0 < te'.size) (hk2 : te'.zero.length = te'.size) (b : Option Addr) (n : Nat) (olds : List Value)
    (hol : olds.length = n * te'.size) (hold : (b = none ∧ n = 0) ∨ ∃ ba, b = some ba ∧ ∀ (j : Nat) (x : Value), olds[j]? = some x → w.cell? (ba.add j) = some x) (u : Value) (m : Nat) (news : List Value) (hm : 0 < m)
    (hl : news.length = m * te'.size) (hu : ∃ b o' c', u = .slice (some ⟨b, o', none⟩) m c' ∧ ∀ (j : Nat) (x : Value), news[j]? = some x → w.cell? ⟨b, o' + j, none⟩ = some x)
    (h1 : ∀ x ∈ news, x.oneCell' = true) (hn : n + m ≤ 2147483648) (hb : te'.bytes ≤ 65536) :
    ∃ v' w', (Builtin.append_ #[t, t] ty #[.slice b n n, u]).run P w = .ok v' w' ∧ w'.ownsRow w.heap.size el te'.size v' (n + m) (olds ++ news) ∧ w.grownBy w' none := by
  have hut := Ft.slice hs
  obtain ⟨z, _, hz2, i, hi, hz3, hsz, hby⟩ := Fe.zero w
  have hzs : z.cells.size = te'.size := by rw [← Array.length_toList, hz2, hk2]
  have hbb : (n + m) * te'.bytes ≤ 140737488355328 := by have := Nat.mul_le_mul hn hb; omega
  obtain ⟨b2, o', c', rfl, hc⟩ := hu
  rcases hold with ⟨rfl, rfl⟩ | ⟨ba, rfl, hco⟩
  · have hnil : olds = [] := by simpa using hol
    subst hnil
    obtain ⟨v', w', hr, h2, h3, _, h5⟩ := run_append_own_at (P := P) w w.heap.size t ty el i z te'.size te'.bytes hut hi hz3 hsz hby hzs hk (.slice none 0 0) 0 [] (World.ownsRow_nil _ _ _ _) ⟨b2, o', none⟩ m c' news hl
      (fun j x hj => by rw [Addr.add_mid]; exact hc j x hj) h1 (by unfold maxLen; omega) hbb (Nat.le_refl _)
    exact ⟨v', w', hr, h2, h3⟩
  · exact run_append_arg_grows (P := P) w t ty el i z te'.size te'.bytes hut hi hz3 hsz hby hzs hk ba n n olds hol (fun j x hj => hco j x hj) ⟨b2, o', none⟩ m c' news hl
      (fun j x hj => by rw [add_lit0]; exact hc j x hj) (by omega) (by unfold maxLen; omega) hbb
end
end Go.Proofs.Ytjmelcdgbnjefaa.Ab

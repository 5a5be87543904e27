/-
  Tables by prefixes: the prefixes of which it is so, in order.
-/
import Derived.Test.YtaecjmjdhbjbkaaAbsRng
import Derived.Test.YtaecjmjdhbjbkaaTblOver
import Derived.Test.YtaecjmjdhbjbkaaSortP
namespace Go.Proofs.Ytaecjmjdhbjbkaa.Ab
set_option linter.unusedVariables false
set_option maxRecDepth 100000
open Go.RowKit

/-- slices.SortFunc at a row of prefixes of one's own. -/
theorem sort_A (l : List Pfx) (hn : l.length ≤ 1000000) :
    ACall Try.prog 45 [.row 1000, .fn 46 []] [(1000, .row 26 2 l.length (l.flatMap pfxD))] (fun c h => c = .tup [] ∧ h = [(1000, .row 26 2 l.length ((sortP l).flatMap pfxD))]) := by
  refine ⟨by kernel_rfl, fun Pm F w0 pin ι us w H HA => ?_⟩
  obtain ⟨v, hv, xs, hown, hxl, hxr⟩ := H.blk 1000 _ rfl
  have hval : ∀ (m : List Pfx) (xs : List Value), xs.length = (m.flatMap pfxD).length → (∀ (i : Nat) (c : Dat) (u : Value), (m.flatMap pfxD)[i]? = some c → xs[i]? = some u → DRel w (FreeB F ι) c u) → xs = pcs m := fun m xs h1 h2 => by
    have hlen : (m.flatMap pfxD).length = (pcs m).length := by
      unfold pcs
      induction m with
      | nil => rfl
      | cons p m ih => simp [pfxD]
    have hd : ∀ i : Nat, (m.flatMap pfxD)[i]? = ((pcs m)[i]?).map Dat.sc := fun i => by
      rw [← List.getElem?_map]
      congr 1
      unfold pcs
      rw [List.map_flatMap]
      rfl
    apply List.ext_getElem?
    intro i
    by_cases hi : i < xs.length
    · have h3 := h2 i (.sc (pcs m)[i]) xs[i] (by rw [hd, List.getElem?_eq_getElem (by omega)]; rfl) (List.getElem?_eq_getElem hi)
      rw [List.getElem?_eq_getElem hi, List.getElem?_eq_getElem (by omega)]
      congr 1
      generalize xs[i] = u0 at h3 ⊢
      generalize (pcs m)[i] = v0 at h3 ⊢
      cases h3
      rfl
    · rw [List.getElem?_eq_none (by omega), List.getElem?_eq_none (by omega)]
  have hxs := hval l xs hxl hxr
  subst hxs
  have hus : us = #[v, .func (.func 46) #[] #[]] := by
    have hsz : us.size = 2 := HA.1
    obtain ⟨u0, u1, rfl⟩ : ∃ u0 u1, us = #[u0, u1] := ⟨us[0], us[1], by apply Array.ext <;> simp [hsz]; intro i h1 h2; match i with | 0 => rfl | 1 => rfl | i + 2 => omega⟩
    have h0 := HA.2 0 _ u0 rfl rfl
    have h1 := HA.2 1 _ u1 rfl rfl
    cases h0 with
    | row _ _ _ h3 =>
      cases h1 with
      | fn _ _ C hl _ =>
        have : C = #[] := Array.eq_empty_of_size_eq_zero hl
        rw [h3 v hv, this]
  subst hus
  refine (sort_any v 0 l w hown hn).mono ?_
  rintro x w' ⟨rfl, hown', hk⟩
  have hbl : ∀ r, blockOf v ≠ some r → r ∉ v.ownBlock.toList := fun r hr hm => by
    rcases hown.2 with ⟨h1, _⟩ | ⟨g, cap, cur, h1, _⟩
    · rw [h1] at hm; simp [Value.ownBlock] at hm
    · rw [h1] at hm hr; simp [Value.ownBlock] at hm; exact hr (by rw [hm]; rfl)
  have hW : Wrote w v w' := ⟨hk.os, hk.tape, hk.output, hk.size, fun r hr hne => hk.block r hr (hbl r hne)⟩
  have hlen : (sortP l).length = l.length := List.length_mergeSort _
  refine ⟨.tuple #[], .tup [], _, ι, rfl, ⟨rfl, rfl⟩, ?_, .tup _ _ rfl (by simp)⟩
  have HB := H.wrote hW hv (b' := .row 26 2 l.length ((sortP l).flatMap pfxD)) ⟨pcs (sortP l), hown', by
    unfold pcs
    simp [List.length_flatMap, pfxD], fun i c u h1 h2 => ?_⟩
  · have := HB.only (h' := [(1000, .row 26 2 l.length ((sortP l).flatMap pfxD))]) fun id b hb => by
      by_cases hid : 1000 = id
      · subst hid; exact hb
      · rw [look_cons_ne _ _ hid] at hb; cases hb
    have e : Ab.only [(1000, ABlk.row 26 2 l.length ((sortP l).flatMap pfxD))] ι = ι := funext fun id => by
      unfold Ab.only
      split
      · rfl
      · rename_i hn2
        cases hi : ι id with
        | none => rfl
        | some v' =>
          obtain ⟨b, hb⟩ := H.dom id v' hi
          by_cases hid : 1000 = id
          · subst hid; exact absurd rfl hn2
          · rw [look_cons_ne _ _ hid] at hb; cases hb
    rw [e] at this
    exact this
  · have hd : ((sortP l).flatMap pfxD)[i]? = ((pcs (sortP l))[i]?).map Dat.sc := by
      rw [← List.getElem?_map]
      congr 1
      unfold pcs
      rw [List.map_flatMap]
      rfl
    rw [hd, h2] at h1
    cases h1
    refine .sc u ?_
    have : u ∈ pcs (sortP l) := List.mem_of_getElem? h2
    unfold pcs at this
    obtain ⟨p, _, hp⟩ := List.mem_flatMap.1 this
    simp at hp
    rcases hp with rfl | rfl <;> rfl
set_option linter.unusedSimpArgs false
attribute [local irreducible] AWp AOps AQ AYield AEff ACall AWk AAny AAt AThen AIn APost NoPanic
end Go.Proofs.Ytaecjmjdhbjbkaa.Ab

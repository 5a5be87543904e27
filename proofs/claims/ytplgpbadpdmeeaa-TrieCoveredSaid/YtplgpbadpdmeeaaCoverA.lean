/-
  Same and the program's Cover over abstract states, out of their contracts.
-/
import Derived.Test.YtplgpbadpdmeeaaAbsPfx
import Derived.Test.YtplgpbadpdmeeaaAbsMore
import Derived.Test.YtplgpbadpdmeeaaCover
import Derived.Test.YtplgpbadpdmeeaaPRows
namespace Go.Proofs.Ytplgpbadpdmeeaa.Ab
set_option linter.unusedVariables false
open Go.RowKit

theorem pcs_sc (l : List Pfx) : l.flatMap pfxD = (pcs l).map Dat.sc := by
  induction l with
  | nil => rfl
  | cons p l ih => rw [List.flatMap_cons, ih, pcs_cons]; rfl
theorem drel_sc {w : World} {Fr : Nat → Prop} {u v : Value} (h : DRel w Fr (.sc u) v) : v = u := by cases h; rfl
theorem rdP_of {w : World} {F : Nat → Prop} {ι : Nat → Option Value} {l : List Pfx} {u : Value} (h : VRel w F ι (pfxsA l) u) : RdP w u l := by
  unfold pfxsA at h
  cases h with
  | d _ _ hd =>
    generalize hcs : l.flatMap pfxD = cs at hd
    generalize hn : l.length = n at hd
    cases hd with
    | nil =>
      have : l = [] := List.length_eq_zero_iff.1 hn
      subst this
      exact ⟨none, 0, rfl, rfl, fun h => absurd h (by simp)⟩
    | sl _ _ b o cap vs hnc hl hf hc hr =>
      refine ⟨some ⟨b, o, none⟩, cap, by rw [hn], pcs_length l, fun _ => ⟨b, o, rfl, fun j u hu => ?_⟩⟩
      have h1 : cs[j]? = some (.sc u) := by rw [← hcs, pcs_sc, List.getElem?_map, hu]; rfl
      have h2 : j < vs.length := by rw [hl]; exact (List.getElem?_eq_some_iff.1 h1).1
      have h3 := drel_sc (hr j _ vs[j] h1 (List.getElem?_eq_getElem h2))
      rw [← h3]
      exact hc j _ (List.getElem?_eq_getElem h2)
theorem two {us : Array Value} (h : us.size = 2) : ∃ a b, us = #[a, b] := by
  obtain ⟨l⟩ := us
  match l, h with
  | [a, b], _ => exact ⟨a, b, rfl⟩
theorem one {us : Array Value} (h : us.size = 1) : ∃ a, us = #[a] := by
  obtain ⟨l⟩ := us
  match l, h with
  | [a], _ => exact ⟨a, rfl⟩
theorem same_A (ps qs : List Pfx) (hn : ps.length ≤ 140737488355328) : ACall Try.prog 11 [pfxsA ps, pfxsA qs] [] (Just (boolA (decide (ps = qs)))) := ⟨by kernel_rfl, fun Pm F w0 pin ι us w HH HA => by
  obtain ⟨h1, h2⟩ := HA
  obtain ⟨a, b, rfl⟩ := two h1
  refine (same_any a b ps qs w (rdP_of (h2 0 _ a rfl rfl)) (rdP_of (h2 1 _ b rfl rfl)) hn).mono ?_
  rintro e w' ⟨rfl, hb⟩
  exact ⟨_, _, [], ι, rfl, ⟨rfl, rfl⟩, HH.grew (Grew.of_below hb), sc_rel rfl⟩⟩
theorem cover_A (id : Nat) (hid : id < 1000) (l : List Pfx) (hp : ∀ p ∈ l, p.ok) (hn : l.length ≤ 1000000) :
    ACall Try.prog 10 [pfxsA l] [] (fun c h => c = .row id ∧ h = [(id, .row 26 2 (coverT l).length ((coverT l).flatMap pfxD))]) := ⟨by kernel_rfl, fun Pm F w0 pin ι us w HH HA => by
  obtain ⟨h1, h2⟩ := HA
  obtain ⟨a, rfl⟩ := one h1
  refine (cover_any a l w (rdP_of (h2 0 _ a rfl rfl)) hp hn).mono ?_
  rintro e w' ⟨v, rfl, hown, hb⟩
  have hnone : ∀ j v', ι j = some v' → False := fun j v' hj => by obtain ⟨b, hb⟩ := HH.dom j v' hj; cases hb
  have hbl : ∀ r, blockOf v = some r → w.heap.size ≤ r := by
    intro r hr
    rcases hown.2 with ⟨h3, _⟩ | ⟨g, cap, cur, h3, hg, _⟩
    · rw [h3] at hr; cases hr
    · rw [h3] at hr; cases hr; exact hg
  have TT : Touch w ι id v w' := ⟨hb.os, hb.tape, hb.output, hb.size, fun r hr _ => hb.block r hr, fun r hr => .inl (hbl r hr)⟩
  have hown0 : w'.ownsRow 0 26 2 v (coverT l).length (pcs (coverT l)) := ⟨hown.1, hown.2.imp (fun h => h) fun ⟨g, cap, cur, h3, _, h4⟩ => ⟨g, cap, cur, h3, Nat.zero_le _, h4⟩⟩
  have hone : v.oneCell' = true := by
    rcases hown.2 with ⟨h3, _⟩ | ⟨g, cap, cur, h3, _⟩ <;> subst h3 <;> rfl
  have hpc : ∀ (i : Nat) (c : Dat) (u : Value), ((coverT l).flatMap pfxD)[i]? = some c → (pcs (coverT l))[i]? = some u → c = .sc u ∧ u.oneCell' = true := by
    intro i c u h3 h4
    rw [pcs_sc, List.getElem?_map, h4] at h3
    cases h3
    refine ⟨rfl, ?_⟩
    have := List.mem_of_getElem? h4
    simp only [pcs, List.mem_flatMap] at this
    obtain ⟨p, _, hm⟩ := this
    simp at hm
    rcases hm with rfl | rfl <;> rfl
  have H2 := HH.touch TT (.inl hid) (b' := .row 26 2 (coverT l).length ((coverT l).flatMap pfxD)) ⟨_, hown0, by rw [pcs_sc]; simp, fun i c u h3 h4 => by
    obtain ⟨rfl, h5⟩ := hpc i c u h3 h4
    exact .sc u h5⟩
  exact ⟨v, _, _, _, rfl, ⟨rfl, rfl⟩, H2, .row id v hone fun v' hv' => by simp [upd] at hv'; exact hv'⟩⟩
end Go.Proofs.Ytplgpbadpdmeeaa.Ab

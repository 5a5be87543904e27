/-
  Texts of a proof, one behind the other (part 19).
-/
import Derived.Shelf.SlSortCmp.WholeK
import Derived.Sort.LotA
import Derived.Test.YtblgdfcijkaimaaBg1
import Derived.Test.YtblgdfcijkaimaaBg4
import Derived.Test.YtblgdfcijkaimaaBg6
import Derived.Test.YtblgdfcijkaimaaBg11
import Derived.Test.YtblgdfcijkaimaaBg17
set_option linter.unusedVariables false
set_option linter.unusedSimpArgs false
namespace Go.Proofs.Ytblgdfcijkaimaa
set_option linter.unusedVariables false
set_option maxRecDepth 100000
open Go.RowKit Go.Sort Go.Shelf
section
variable {α : Type} [Inhabited α] (enc : α → List Value) (k : Nat)
theorem flat_get (hk : ∀ x, (enc x).length = k) (l : List α) (t : Nat) (h : t < l.length * k) : (l.flatMap enc)[t]? = some (enc l[t / k]!)[t % k]! := by
  have k0 : 0 < k := by rcases Nat.eq_zero_or_pos k with h0 | h0; · subst h0; simp at h
                        · exact h0
  induction l generalizing t with
  | nil => simp at h
  | cons x l ih =>
    rw [List.flatMap_cons]
    rcases Nat.lt_or_ge t k with h1 | h1
    · rw [List.getElem?_append_left (by rw [hk]; exact h1), Nat.div_eq_of_lt h1, Nat.mod_eq_of_lt h1]
      simp [hk, h1]
    · rw [List.getElem?_append_right (by rw [hk]; exact h1), hk]
      have e1 : t = (t - k) + k := by omega
      have e2 : t / k = (t - k) / k + 1 := by conv => lhs; rw [e1]; rw [Nat.add_div_right _ k0]
      have e3 : t % k = (t - k) % k := by conv => lhs; rw [e1]; rw [Nat.add_mod_right]
      rw [e2, e3, ih (t - k) (by simp [Nat.add_mul] at h; omega)]
      simp
theorem flat_len (hk : ∀ x, (enc x).length = k) (l : List α) : (l.flatMap enc).length = l.length * k := by
  induction l with
  | nil => exact (fun (_ : α) => by simp) (default : α)
  | cons x l ih => rw [List.flatMap_cons, List.length_append, ih, hk]; simp [Nat.add_mul]; omega
theorem flat_toList (hk : ∀ x, (enc x).length = k) (d : Array α) : (flatK enc k d).toList = d.toList.flatMap enc := by
  apply List.ext_getElem?
  intro t
  by_cases ht : t < d.size * k
  · rw [flat_get enc k hk d.toList t (by simpa using ht), Array.getElem?_toList]
    have h1 : t < (flatK enc k d).size := by simpa using ht
    rw [Array.getElem?_eq_getElem h1]
    have := get_flatK enc k d t ht
    rw [getElem!_pos _ t h1] at this
    rw [this]
    have e9 : d[t / k]! = d.toList[t / k]! := by rw [← Array.getElem!_toList]
    rw [e9]
  · rw [List.getElem?_eq_none (by simp; omega), List.getElem?_eq_none (by rw [flat_len enc k hk]; simp; omega)]
variable {w : World} {base g n cap : Nat} {e : TypeId} {os : Array Obj} {cur : Array Value}
theorem holds_of_owns (hk : ∀ x, (enc x).length = k) (l : List α) (hg : w.heap[g]? = some (.cells cur e (0, 0))) (ht : cur.toList.take (l.length * k) = l.flatMap enc) (hs : l.length * k ≤ cur.size) : HoldsK enc k w g 0 l.toArray := by
  intro j hj
  have hj' : j < l.length * k := by simpa using hj
  have e1 : (flatK enc k l.toArray)[j]! = (enc l[j / k]!)[j % k]! := by
    rw [get_flatK _ _ _ _ (by simpa using hj')]; simp
  have e2 := flat_get enc k hk l j hj'
  rw [← ht, List.getElem?_take_of_lt hj', Array.getElem?_toList] at e2
  rw [Nat.zero_add]
  refine ⟨?_, ?_⟩
  · rw [cell_of_row w g j cur e (0, 0) hg, e1, e2]; rfl
  · simp [World.frozen?, hg]
theorem heap_of_sort (d : Array α) {fr : Nat × Nat} (hb : w.heap[g]? = some (.cells cur e fr)) :
    (sortWorldK enc k w g 0 n d os).heap[g]? = some (.cells (putCells id 0 (flatK enc k d) cur) e fr) := by
  have hg : g < w.heap.size := (Array.getElem?_eq_some_iff.1 hb).1
  unfold sortWorldK putRowK
  rw [heap_grow_old _ _ (by simpa using hg)]
  simp [putRow, mapBlock, Sort.ahead, Array.getElem?_modify, hb, onCells]
theorem wrote_sort (d : Array α) {v : Value} (hv : Ab.blockOf v = some g) : Ab.Wrote w v (sortWorldK enc k w g 0 n d os) := by
  refine ⟨rfl, rfl, rfl, ?_, fun j hj hne => ?_⟩
  · unfold sortWorldK putRowK; simp
  · unfold sortWorldK putRowK
    rw [heap_grow_old _ _ (by simpa using hj)]
    have : g ≠ j := fun e => hne (by rw [hv, e])
    simp [putRow, mapBlock, Sort.ahead, Array.getElem?_modify, this]
theorem take_put (F : Array Value) (h : F.size ≤ cur.size) : (putCells id 0 F cur).toList.take F.size = F.toList := by
  apply List.ext_getElem?
  intro j
  by_cases hj : j < F.size
  · rw [List.getElem?_take_of_lt hj, Array.getElem?_toList]
    simp [putCells, hj, show j < cur.size by omega]
  · rw [List.getElem?_take_eq_none (by omega), List.getElem?_eq_none (by simp; omega)]
theorem owns_of_sort (hk : ∀ x, (enc x).length = k) (d : Array α) (hbase : base ≤ g) (hb : w.heap[g]? = some (.cells cur e (0, 0))) (h1 : d.size ≤ cap) (h2 : cap ≤ maxLen) (h3 : cur.size = cap * k) :
    (sortWorldK enc k w g 0 n d os).ownsRow base e k (.slice (some ⟨g, 0, none⟩) d.size cap) d.size (d.toList.flatMap enc) := by
  refine ⟨by rw [flat_len enc k hk]; simp, .inr ⟨g, cap, _, rfl, hbase, heap_of_sort enc k d hb, h1, h2, by simp [putCells, h3], ?_⟩⟩
  have := take_put (cur := cur) (flatK enc k d) (by rw [size_flatK, h3]; exact Nat.mul_le_mul_right k h1)
  rw [size_flatK] at this
  rw [this, flat_toList enc k hk]
end
theorem swo_of {α : Type} {cf : α → α → Int} (G : Good cf) : SWO (ltOf cf) := by
  refine ⟨fun x => ?_, fun x y z h1 h2 => ?_, fun x y z h1 h2 => ?_⟩
  · simp only [ltOf, decide_eq_false_iff_not]
    rw [G.refl]
    omega
  · simp only [ltOf, decide_eq_true_eq] at *
    exact G.lt_lt h1 h2
  · simp only [ltOf, decide_eq_false_iff_not] at *
    have e1 := G.anti x y
    have e2 := G.anti y z
    have e3 := G.anti x z
    have := G.trans z y x (by omega) (by omega)
    omega
theorem tot_of {α : Type} {cf : α → α → Int} (G : Good cf) (hz : ∀ x y, cf x y = 0 → x = y) (x y : α) (h1 : ltOf cf x y = false) (h2 : ltOf cf y x = false) : x = y := by
  simp only [ltOf, decide_eq_false_iff_not] at *
  have := G.anti x y
  exact hz x y (by omega)
theorem world_grown {w w' : World} (G : Ab.Grew w w') (hd : w.drawn ≤ w'.drawn) : ∃ n os, w' = grow (w.drewN n) os := by
  refine ⟨w'.drawn - w.drawn, w'.heap.extract w.heap.size w'.heap.size, ?_⟩
  have h1 := G.os
  have h2 := G.tape
  have h3 := G.output
  have h4 := G.size
  have h5 := G.mem
  obtain ⟨hp, tp, dr, os, ot⟩ := w
  obtain ⟨hp', tp', dr', os', ot'⟩ := w'
  dsimp only at h1 h2 h3 h4 h5 hd
  subst h1 h2 h3
  have e1 : hp' = hp ++ hp'.extract hp.size hp'.size := by
    apply Array.ext_getElem?
    intro i
    by_cases hi : i < hp.size
    · rw [Array.getElem?_append_left hi]
      exact h5 i hi
    · rw [Array.getElem?_append_right (by omega), Array.getElem?_extract]
      split
      · congr 1; omega
      · exact Array.getElem?_eq_none (by omega)
  show World.mk .. = World.mk ..
  dsimp only [World.drewN]
  have e2 : dr' = dr + (dr' - dr) := by omega
  rw [← e1, ← e2]
namespace Ab
section
variable {P : Program} {ρ : Ren} {α : Type} [Inhabited α]
end
end Ab
end Go.Proofs.Ytblgdfcijkaimaa

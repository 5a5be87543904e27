/-
  Plain laws of tables by prefixes: which prefixes an address is in.
-/
import Derived.Test.YtaecjmjdhbjbkaaTLaid
import Derived.Test.YtaecjmjdhbjbkaaTSeqs
namespace Go.Proofs.Ytaecjmjdhbjbkaa.Ab
set_option linter.unusedVariables false
open Go.RowKit

theorem over_mem {s : TS} {k : Nat} (T : TOk s k) (x : Int) (q : Pfx) : q ∈ overS s.1 s.2 x 33 ↔ (∃ z, aget s.2 q = some z) ∧ inB x q = true := by
  unfold overS
  rw [List.mem_map]
  constructor
  · rintro ⟨b, hb, rfl⟩
    have h1 := (List.mem_filter.1 hb).2
    simp only [Bool.and_eq_true] at h1
    obtain ⟨z, hz⟩ := Option.isSome_iff_exists.1 h1.2
    refine ⟨⟨z, hz⟩, ?_⟩
    rw [← inB_low x _ (T.good _ (mem_of_aget hz))]
    exact decide_eq_true rfl
  · rintro ⟨⟨z, hz⟩, hin⟩
    have hm := mem_of_aget hz
    have hg := T.good _ hm
    rw [← inB_low x q hg, decide_eq_true_eq] at hin
    have hu := T.used _ hm
    obtain ⟨a, b⟩ := q
    have hb0 := hg.1
    have hb1 := hg.2.1
    dsimp only at hb0 hb1 hin hu
    obtain ⟨B, rfl⟩ : ∃ B : Nat, b = (B : Int) := ⟨b.toNat, by omega⟩
    have hsub : sub x (B : Int) = ⟨a, (B : Int)⟩ := by
      unfold sub
      rw [hin]
    rw [Int.toNat_natCast] at hu
    refine ⟨B, List.mem_filter.2 ⟨List.mem_range.2 (by omega), ?_⟩, hsub⟩
    rw [hsub, hz]
    simp
    omega
theorem over_sorted (u : Nat → Int) (m : List (Pfx × Int)) (x : Int) (k : Nat) : (overS u m x k).Pairwise fun p q => p.b < q.b := by
  unfold overS
  rw [List.pairwise_map]
  refine List.Pairwise.imp ?_ (List.Pairwise.filter _ List.pairwise_lt_range)
  intro a b h
  show (a : Int) < (b : Int)
  omega
theorem nodup_of_lt {l : List Pfx} (h : l.Pairwise fun p q => p.b < q.b) : l.Nodup := h.imp fun {a b} h1 h2 => by rw [h2] at h1; omega
theorem sortP_mem {l : List Pfx} {q : Pfx} : q ∈ sortP l ↔ q ∈ l := (List.mergeSort_perm _ _).mem_iff
theorem key_iff {m : List (Pfx × Int)} {q : Pfx} : q ∈ m.map (·.1) ↔ ∃ z, aget m q = some z := by
  constructor
  · exact key_get m q
  · rintro ⟨z, hz⟩
    exact List.mem_map.2 ⟨_, mem_of_aget hz, rfl⟩
/-- All keys, in order. -/
def keysP (m : List (Pfx × Int)) : List Pfx := sortP ((m.map (·.1)).filter fun _ => true)
theorem keysP_perm (m : List (Pfx × Int)) : (keysP m).Perm (m.map (·.1)) := by
  have h : (m.map (·.1)).filter (fun _ => true) = m.map (·.1) := List.filter_eq_self.2 fun _ _ => rfl
  unfold keysP
  rw [h]
  exact List.mergeSort_perm _ _
theorem over_count {s : TS} {k : Nat} (T : TOk s k) (x : Int) : ((keysP s.2).filter (inB x)).length = (overS s.1 s.2 x 33).length := by
  refine List.Perm.length_eq ?_
  refine (List.perm_ext_iff_of_nodup (((keysP_perm s.2).nodup_iff.2 T.nd).filter _) (nodup_of_lt (over_sorted _ _ _ _))).2 fun q => ?_
  rw [List.mem_filter, (keysP_perm s.2).mem_iff, over_mem T x q, key_iff]
theorem within_count (m : List (Pfx × Int)) (is : Pfx → Bool) : ((keysP m).filter is).length = (sortP ((m.map (·.1)).filter is)).length := by
  refine List.Perm.length_eq ?_
  exact (((keysP_perm m).filter is).trans (List.mergeSort_perm _ _).symm)
/-- What Longest tells is the last of them. -/
theorem long_none {u : Nat → Int} {m : List (Pfx × Int)} {x : Int} (h : overS u m x 33 = []) : longR u m x = (⟨0, 0⟩, 0, false) := by
  unfold longR
  rw [h]
  rfl
theorem long_some {u : Nat → Int} {m : List (Pfx × Int)} {x : Int} (h : overS u m x 33 ≠ []) : ∃ p z, (overS u m x 33).getLast? = some p ∧ aget m p = some z ∧ longR u m x = (p, z, true) := by
  have h1 : (overS u m x 33).getLast? = some ((overS u m x 33).getLast h) := List.getLast?_eq_some_getLast h
  obtain ⟨z, hz⟩ := overS_mem u m x 33 _ (List.getLast_mem h)
  refine ⟨_, z, h1, hz, ?_⟩
  unfold longR
  rw [h1]
  show (_, (aget m _).getD 0, true) = _
  rw [hz]
  rfl
/-- It is the longest. -/
theorem long_most {u : Nat → Int} {m : List (Pfx × Int)} {x : Int} {p q : Pfx} (h : (overS u m x 33).getLast? = some p) (hq : q ∈ overS u m x 33) : q.b ≤ p.b := by
  have hs := over_sorted u m x 33
  generalize overS u m x 33 = L at *
  obtain ⟨i, hi⟩ := List.getElem?_of_mem hq
  rw [List.getLast?_eq_getElem?] at h
  have hil := (List.getElem?_eq_some_iff.1 hi)
  have hjl := (List.getElem?_eq_some_iff.1 h)
  rcases Nat.lt_or_ge i (L.length - 1) with h1 | h1
  · have := List.pairwise_iff_getElem.1 hs i (L.length - 1) hil.1 hjl.1 h1
    rw [hil.2, hjl.2] at this
    omega
  · have h2 := hil.1
    have : i = L.length - 1 := by omega
    subst this
    rw [h] at hi
    cases hi
    omega
theorem filter_take_succ {α : Type} (l : List α) (p : α → Bool) (k : Nat) (h : k < l.length) : ((l.take (k + 1)).filter p).length = ((l.take k).filter p).length + (if p l[k] then 1 else 0) := by
  rw [List.take_add_one, List.getElem?_eq_getElem h, List.filter_append, List.length_append]
  cases hp : p l[k] <;> simp [hp]
end Go.Proofs.Ytaecjmjdhbjbkaa.Ab

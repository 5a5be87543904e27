/-
  waymarkref04.Cover: what it computes; the walk.
-/
import Derived.Test.YtplgpbadpdmeeaaRefRows
import Derived.Test.YtplgpbadpdmeeaaCover
namespace Go.Proofs.Ytplgpbadpdmeeaa
set_option linter.unusedVariables false
open Go.RowKit Go.Sort Go.Lib

/-- Prefixes put one by one. -/
def insL (l : List Pfx) : List Row := l.foldl (fun o p => putR o p 0) []
theorem putR_len (l : List Row) (p : Pfx) (v : Int) : (putR l p v).length ≤ l.length + 1 := by
  unfold putR
  split
  · have := putFold_len l p v
    dsimp only
    split
    · rename_i h; rw [h] at this; simpa using this
    · rename_i h
      have h' : (putFold l p v).2 = false := by simpa using h
      rw [h'] at this; simp at this ⊢; omega
  · omega
theorem insL_len (l : List Pfx) : (insL l).length ≤ l.length := by
  unfold insL
  have key : ∀ (l : List Pfx) (s : List Row), (l.foldl (fun o p => putR o p 0) s).length ≤ s.length + l.length := by
    intro l
    induction l with
    | nil => intro s; simp
    | cons p l ih => intro s; have := ih (putR s p 0); have := putR_len s p 0; simp only [List.foldl_cons, List.length_cons]; omega
  have := key l []
  simpa using this
theorem insL_step (l : List Pfx) (k : Nat) (h : k < l.length) : insL (l.take (k + 1)) = putR (insL (l.take k)) l[k] 0 := by
  unfold insL
  rw [List.take_succ_eq_append_getElem h, List.foldl_append]; rfl
/-- Is the i-th in another one? Of those ahead of k. -/
def innerTo (all : List Pfx) (i k : Nat) : Bool := (List.range k).any fun j => j != i && withinB (all.getD i default) (all.getD j default)
theorem innerTo_succ (all : List Pfx) (i k : Nat) : innerTo all i (k + 1) = (innerTo all i k || (k != i && withinB (all.getD i default) (all.getD k default))) := by
  unfold innerTo
  rw [List.range_succ, List.any_append]; simp
def innerAt (all : List Pfx) (i : Nat) : Bool := innerTo all i all.length
/-- Are the i-th and the next one halves? -/
def sibAt (all : List Pfx) (i : Nat) : Bool := decide (i + 1 < all.length) && decide ((all.getD i default).b > 0) && decide ((all.getD (i + 1) default).b = (all.getD i default).b) && decide ((commonP (all.getD i default) (all.getD (i + 1) default)).b = (all.getD i default).b - 1)
/-- A pass from the i-th on, at most n steps. -/
def passGo (all : List Pfx) : Nat → Nat → List Pfx × Bool
  | 0, _ => ([], false)
  | n + 1, i =>
    if i < all.length then
      if innerAt all i then ((passGo all n (i + 1)).1, true)
      else if sibAt all i then (commonP (all.getD i default) (all.getD (i + 1) default) :: (passGo all n (i + 2)).1, true)
      else (all.getD i default :: (passGo all n (i + 1)).1, (passGo all n (i + 1)).2)
    else ([], false)
end Go.Proofs.Ytplgpbadpdmeeaa

/-
  slices.SortFunc at prefixes.
-/
import Derived.Test.YtaecjmjdhbjbkaaSortK
import Derived.Test.YtaecjmjdhbjbkaaPRows
import Derived.Test.YtaecjmjdhbjbkaaShelf
namespace Go.Proofs.Ytaecjmjdhbjbkaa
set_option linter.unusedVariables false
open Go.RowKit Go.Sort Go.Lib

instance : Inhabited Pfx := ⟨⟨0, 0⟩⟩
def encP (p : Pfx) : List Value := [.int .u32 p.a, .int .i64 p.b]
theorem encP_pcs (l : List Pfx) : l.flatMap encP = pcs l := rfl
/-- The order of prefixes. -/
theorem cmpP_lt (p q : Pfx) : ltOf cmpP p q = true ↔ p.a < q.a ∨ p.a = q.a ∧ p.b < q.b := by
  unfold ltOf cmpP
  rw [decide_eq_true_iff]
  by_cases h : p.a < q.a ∨ p.a = q.a ∧ p.b < q.b
  · simp [h]
  · by_cases h2 : p = q <;> simp [h, h2]
theorem cmpP_lt_false (p q : Pfx) : ltOf cmpP p q = false ↔ ¬ (p.a < q.a ∨ p.a = q.a ∧ p.b < q.b) := by
  rw [← Bool.not_eq_true, cmpP_lt]
theorem swoP : SWO (ltOf cmpP) := by
  refine ⟨fun x => ?_, fun x y z h1 h2 => ?_, fun x y z h1 h2 => ?_⟩
  · rw [cmpP_lt_false]; omega
  · rw [cmpP_lt] at *; omega
  · rw [cmpP_lt_false] at *; omega
theorem antiP (x y : Pfx) (h1 : ltOf cmpP x y = false) (h2 : ltOf cmpP y x = false) : x = y := by
  rw [cmpP_lt_false] at *
  obtain ⟨a, b⟩ := x
  obtain ⟨c, d⟩ := y
  simp only [Pfx.mk.injEq] at *
  omega
/-- The sorted list. -/
def sortP (l : List Pfx) : List Pfx := l.mergeSort fun x y => !ltOf cmpP y x

theorem insNil_any (c : Value) (w : World) : Calls Try.prog 74 #[.slice none 0 0, .int .i64 0, .int .i64 0, c] w (RetS w (.tuple #[])) := by
  go_enter Try.func74, Try.ntmps74
  go_wp2_with fail
  refine wp_loop_rounds 1 ?_
  rw [rounds_succ]; go_wp2_with fail
  go_end0
  exact ⟨rfl, rfl⟩
theorem pdqNil_any (c : Value) (w : World) (n : Int) : Calls Try.prog 64 #[.slice none 0 0, .int .i64 0, .int .i64 0, .int .i64 n, c] w (RetS w (.tuple #[])) := by
  go_enter Try.func64, Try.ntmps64
  go_wp2_with fail
  refine wp_loop_rounds 1 ?_
  rw [rounds_succ]; go_wp2_with fail
  refine (insNil_any c _).mono ?_
  rintro e w' ⟨rfl, rfl⟩
  go_wp2_with fail
  go_end0
  exact ⟨rfl, rfl⟩
theorem sortNil_any (c : Value) (w : World) : Calls Try.prog 45 #[.slice none 0 0, c] w (RetS w (.tuple #[])) := by
  have hl := fun W => Any.bits_Len (SlLaysF0.n15.bits (P := _) (ρ := _) { Try.sortPrefix with }) (0 : Int) W (by omega) (by omega)
  go_enter Try.func45, Try.ntmps45
  go_wp2_with fail
  refine (hl _).mono ?_
  rintro e w' ⟨rfl, rfl⟩
  go_wp2_with fail
  refine (pdqNil_any c _ _).mono ?_
  rintro e w' ⟨rfl, rfl⟩
  go_wp2_with fail
  go_end0
  exact ⟨rfl, rfl⟩

theorem sort_any (v : Value) (base : Nat) (l : List Pfx) (w : World) (hown : w.ownsRow base 26 2 v l.length (pcs l)) (hn : l.length ≤ 1000000) :
    Calls Try.prog 45 #[v, .func (.func 46) #[] #[]] w fun e w' => e = .returned (.tuple #[]) ∧ w'.ownsRow base 26 2 v l.length (pcs (sortP l)) ∧ Kp v.ownBlock.toList w w' := by
  have hlen : (sortP l).length = l.length := List.length_mergeSort _
  obtain ⟨h0, ⟨rfl, h1⟩ | ⟨g, cap, cur, rfl, hb, hg, hcap, hmax, hsz, ht⟩⟩ := hown
  · have : l = [] := List.eq_nil_of_length_eq_zero h1
    subst this
    refine (sortNil_any _ w).mono ?_
    rintro e w' ⟨rfl, rfl⟩
    have e0 : sortP [] = [] := by unfold sortP; simp
    rw [e0]
    exact ⟨rfl, World.ownsRow_nil _ _ _ _, Kp.refl _ _⟩
  · have hk : ∀ x : Pfx, (encP x).length = 2 := fun _ => rfl
    have hH := holdsK_owns encP 2 hk l hg ht (by rw [hsz]; exact Nat.mul_le_mul_right 2 hcap)
    refine (AnyQ.slices_SortFunc Try.sortPrefix 2 (fun W => Try.isAgg26 W) (fun W => Try.sizeOf26 W) encP hk (fun x v hv => by simp [encP] at hv; rcases hv with rfl | rfl <;> rfl) cmpP swoP 46 #[] g 0 cap l.toArray w (fun args W => by go_simp) ?_ hH (Array.getElem?_eq_some_iff.1 hg).1 (by simp; omega)).mono ?_
    · intro m os dk hdk x y
      exact cmp_lays x y _
    · rintro e w' ⟨rfl, d', n, os, hp, hs, rfl⟩
      have e1 : d'.toList = sortP l := sorted_is cmpP swoP antiP l d' hp hs
      have e2 : d'.size = l.length := by rw [hp.1]; simp
      refine ⟨rfl, ?_, kp_sortedK encP 2 d'⟩
      have := owns_sortedK (os := os) (n := n) encP 2 hk d' hb hg (by rw [e2]; exact hcap) hmax hsz
      rw [e2, e1] at this
      exact this
end Go.Proofs.Ytaecjmjdhbjbkaa

/-
  The marks of statements 'range over a function': how a function with such marks is left.
-/
import Derived.RangeFuncLeaves
import Derived.WalkKit
namespace Go.Proofs.Ytaecjmjdhbjbkaa.Rn
open Go
set_option linter.unusedVariables false
theorem run_take {P : Program} {w : World} {r : Nat} (hr : w.heap[r]? = some (.deferred (some []))) : (Instr.takeDeferred r).run P w = .ok [] ({ w with heap := w.heap.setIfInBounds r (.deferred none) }) := by
  simp [Instr.takeDeferred, getObj, setObj, Sem.run, hr]
theorem leave_marks {P : Program} {F : Fence} {n : Nat} {fn : Func} {tmps : Array Value} {R : Ending → World → Prop} : ∀ (ds : List Deferred) (w : World), (∀ d ∈ ds, ∃ r, d = ({ target := .collected r, args := #[] } : Deferred) ∧ w.heap[r]? = some (.deferred (some []))) → ds.Pairwise (fun a b => a ≠ b) →
    (∀ w', w'.os = w.os → w'.tape = w.tape → w'.output = w.output → w'.heap.size = w.heap.size → (∀ r, (∀ d ∈ ds, d ≠ ({ target := .collected r, args := #[] } : Deferred)) → w'.heap[r]? = w.heap[r]?) → ∃ v, (results fn tmps).run P w' = .ok v w' ∧ R (.returned v) w') → LeavesInM F n P fn tmps R ds .returning w
  | [], w, _, _, h => by
    unfold LeavesInM LeavesIn
    exact h w rfl rfl rfl rfl fun _ _ => rfl
  | d :: ds, w, ha, hp, h => by
    obtain ⟨r, rfl, hr⟩ := ha d (by simp)
    obtain ⟨hp1, hp2⟩ := List.pairwise_cons.1 hp
    unfold LeavesInM
    have hput : ∀ q, q ≠ r → ({ w with heap := w.heap.setIfInBounds r (.deferred none) } : World).heap[q]? = w.heap[q]? := fun q hq => by simp [Array.getElem?_setIfInBounds_ne (Ne.symm hq)]
    refine ⟨by simp, .inl ⟨r, { w with heap := w.heap.setIfInBounds r (.deferred none) }, rfl, run_take hr, leave_marks ds _ (fun d hd => ?_) hp2 fun w' h1 h2 h3 h4 h5 => ?_⟩⟩
    · obtain ⟨q, rfl, hq⟩ := ha d (by simp [hd])
      refine ⟨q, rfl, ?_⟩
      rw [hput q (by rintro rfl; exact hp1 _ hd rfl)]
      exact hq
    · refine h w' h1 h2 h3 (h4.trans (by simp)) fun q hq => ?_
      rw [h5 q (fun d hd => hq d (by simp [hd])), hput q (by rintro rfl; exact hq _ (by simp) rfl)]
end Go.Proofs.Ytaecjmjdhbjbkaa.Rn

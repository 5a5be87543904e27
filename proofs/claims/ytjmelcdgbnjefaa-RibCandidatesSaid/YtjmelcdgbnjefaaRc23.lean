/-
  Texts of a proof, one behind the other (part 24).
-/
import Derived.Test.YtjmelcdgbnjefaaRc0
import Derived.Test.YtjmelcdgbnjefaaRc5
set_option linter.unusedVariables false
set_option linter.unusedSimpArgs false
namespace Go.Proofs.Ytjmelcdgbnjefaa.Ab
set_option linter.unusedVariables false
open Go.RowKit
section
variable {nt : Nat} {e : Env} {h : Heap}
theorem Wk_nilC {b id i : Nat} {cs : List AVal} (el k : Nat) (hb : look h b = some (.var cs)) (hi : cs[i]? = some (.d (.sc (.slice none 0 0)))) (hid : Nat.blt id 1000 = true) (hne : Nat.beq b id = false) :
    AWk nt e h (killE id e) ((b, .var ((cs.map (killV id)).set i (.row id))) :: (id, .row el k 0 []) :: killH id h) := fun Pm F w0 pin ι a w R => by
  have hid' : id < 1000 := by simp [Nat.blt] at hid; omega
  have hne' := of_beq_no hne
  have TT : Touch w ι id (.slice none 0 0) w := ⟨rfl, rfl, rfl, Nat.le_refl _, fun _ _ _ => rfl, fun r hr => by cases hr⟩
  have H1 := R.heap.touch TT (.inl hid') (b' := .row el k 0 []) ⟨[], World.ownsRow_nil _ _ _ _, rfl, by simp⟩
  obtain ⟨v, hv, r, C, T, rfl, hC, hlC, hrr⟩ := R.heap.blk b _ hb
  have hv1 : upd ι id (some (.slice none 0 0)) b = some (.pointer (some ⟨r, 0, none⟩)) := by simp [upd, hne', hv]
  have hW : Wrote w (.pointer (some ⟨r, 0, none⟩)) w := ⟨rfl, rfl, rfl, Nat.le_refl _, fun _ _ _ => rfl⟩
  have H2 := H1.wrote (b' := .var ((cs.map (killV id)).set i (.row id))) hW hv1 ⟨r, C, T, rfl, hC, by rw [List.length_set, List.length_map]; exact hlC, fun j c u h1 h2 => by
    rw [List.getElem?_set] at h1
    by_cases hij : i = j
    · subst hij
      rw [if_pos rfl] at h1
      split at h1
      · cases h1
        have h3 := hrr i _ u hi h2
        refine .row id u (by rw [(sc_of h3).1]; rfl) fun v' hv' => ?_
        simp [upd] at hv'
        rw [(sc_of h3).1, hv']
      · cases h1
    · rw [if_neg hij, List.getElem?_map] at h1
      cases hc : cs[j]? with
      | none => rw [hc] at h1; cases h1
      | some c0 => rw [hc] at h1; cases h1; exact (hrr j c0 u hc h2).killed TT.ext⟩
  exact ⟨_, H2, R.env.killed TT.ext, R.defers.ext TT.ext, R.size⟩
end
end Go.Proofs.Ytjmelcdgbnjefaa.Ab

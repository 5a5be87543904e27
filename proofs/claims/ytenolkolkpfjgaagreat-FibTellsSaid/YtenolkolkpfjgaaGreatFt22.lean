/-
  Texts of a proof, one behind the other (part 23).
-/
import Derived.Test.YtenolkolkpfjgaaGreatFt5
import Derived.Test.YtenolkolkpfjgaaGreatFt8
import Derived.Test.YtenolkolkpfjgaaGreatFt9
import Derived.Test.YtenolkolkpfjgaaGreatFt16
import Derived.Test.YtenolkolkpfjgaaGreatFt21
set_option linter.unusedVariables false
set_option linter.unusedSimpArgs false
namespace Go.Proofs.YtenolkolkpfjgaaGreat.Ab
set_option linter.unusedVariables false
set_option maxRecDepth 100000
open Go.RowKit
set_option linter.unusedSimpArgs false
attribute [local irreducible] AWp AOps AQ AYield AEff ACall AWk AAny AAt AThen AIn APost NoPanic
def emapB (l : List (Pfx × Ent)) : ABlk := .map (ents pfxA entA l)
theorem zeroEnt (W : World) : (zeroValue 45).run Tryz.prog W = .ok (.agg #[.int .u32 0, .int .i64 0, .bool false, .slice none 0 0]) W := by
  have h : tlook tab 45 = some _ := rfl
  obtain ⟨z, h1, h2, i, h3, h4, _⟩ := (tabOk _ _ h).zero W
  have h5 : (Tryz.prog.info? 45).bind (·.zero) = some (.agg #[.int .u32 0, .int .i64 0, .bool false, .slice none 0 0]) := by kernel_rfl
  rw [h3] at h5
  simp only [Option.bind_some] at h5
  rw [h4] at h5
  cases h5
  exact h1
def ent0A : AVal := .agg [.d (.sc (.int .u32 0)), .d (.sc (.int .i64 0)), .d (.sc (.bool false)), .d (.sc (.slice none 0 0))]
theorem ent0_rel (w : World) (F : Nat → Prop) (ι : Nat → Option Value) : VRel w F ι ent0A (.agg #[.int .u32 0, .int .i64 0, .bool false, .slice none 0 0]) := by
  refine .agg _ _ rfl fun i c u hc hu => ?_
  match i, hc, hu with
  | 0, hc, hu => cases hc; cases hu; exact sc_rel rfl
  | 1, hc, hu => cases hc; cases hu; exact sc_rel rfl
  | 2, hc, hu => cases hc; cases hu; exact sc_rel rfl
  | 3, hc, hu => cases hc; cases hu; exact sc_rel rfl
theorem kill_mapE (id : Nat) (l : List (Pfx × Ent)) : some (killB id (emapB l)) = some (emapB l) := by
  show some (ABlk.map ((l.map fun p => (pfxA p.1, entA p.2)).map fun p => (killV id p.1, killV id p.2))) = _
  rw [List.map_map]
  rfl
def entB1 (x : Ent) : ABlk := .var ((entD x).map AVal.d)
def overSE (u : Nat → Int) (l : List (Pfx × Ent)) (x : Int) (k : Nat) : List Pfx := ((List.range k).filter fun b => !(u b == 0) && (aget l (sub x (b : Nat))).isSome).map fun b => sub x (b : Nat)
theorem ren_mapE (ρ : List (Nat × Nat)) (l : List (Pfx × Ent)) : renB ρ (emapB l) = emapB l := by
  show ABlk.map ((l.map fun p => (pfxA p.1, entA p.2)).map fun p => (renV ρ p.1, renV ρ p.2)) = _
  rw [List.map_map]
  rfl
theorem ok_mapE (ρ : List (Nat × Nat)) (l : List (Pfx × Ent)) : okB ρ (emapB l) := by
  intro p hp
  obtain ⟨q, _, rfl⟩ := List.mem_map.1 hp
  exact ⟨rfl, rfl⟩
section
variable {P : Program} {nt : Nat} {Q : Post} {e : Env} {h : Heap} {o : Oper} {ops : Array Oper} {rest : List Oper}
end
def longRE (u : Nat → Int) (l : List (Pfx × Ent)) (x : Int) : Pfx × Ent × Bool := match (overSE u l x 33).getLast? with
  | some p => (p, (aget l p).getD ⟨⟨0, 0⟩, false, []⟩, true)
  | none => (⟨0, 0⟩, ⟨⟨0, 0⟩, false, []⟩, false)
end Go.Proofs.YtenolkolkpfjgaaGreat.Ab

namespace Go.Proofs.YtenolkolkpfjgaaGreat.Ab
set_option linter.unusedVariables false
set_option maxRecDepth 100000
open Go.RowKit
set_option linter.unusedSimpArgs false
attribute [local irreducible] AWp AOps AQ AYield AEff ACall AWk AAny AAt AThen AIn APost NoPanic
end Go.Proofs.YtenolkolkpfjgaaGreat.Ab

namespace Go.Proofs.YtenolkolkpfjgaaGreat.Ab
set_option linter.unusedVariables false
set_option maxRecDepth 100000
open Go.RowKit Go.Lib
set_option linter.unusedSimpArgs false
attribute [local irreducible] AWp AOps AQ AYield AEff ACall AWk AAny AAt AThen AIn APost NoPanic
section
variable {P : Program} {nt : Nat} {Q : Post} {e : Env} {h : Heap} {o : Oper} {ops : Array Oper} {rest : List Oper} {T : List Nat}
end
end Go.Proofs.YtenolkolkpfjgaaGreat.Ab

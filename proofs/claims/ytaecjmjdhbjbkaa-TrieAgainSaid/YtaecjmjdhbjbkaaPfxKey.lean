/-
  Prefixes as keys of maps.
-/
import Derived.Test.YtaecjmjdhbjbkaaAbsPfx
import Derived.Test.YtaecjmjdhbjbkaaAbsMap
namespace Go.Proofs.Ytaecjmjdhbjbkaa.Ab
set_option linter.unusedVariables false
set_option linter.unusedSimpArgs false
set_option maxRecDepth 100000
open Go.RowKit

def pfxV (p : Pfx) : Value := .agg #[.int .u32 p.a, .int .i64 p.b]
theorem pfxA_val (p : Pfx) : valA (pfxA p) = some (pfxV p) := rfl
theorem pfxA_rel (p : Pfx) (w : World) (F : Nat → Prop) (ι : Nat → Option Value) : VRel w F ι (pfxA p) (pfxV p) := val_mk _ _ _ _ _ rfl rfl
theorem chk_int (b : Bool) (n : Nat) (t : TypeId) (q : IntKind) (x : Int) (w : World) (ht : Try.prog.underlying t = some (.int q)) : (Instr.checkKey b (n + 1) t (.int q x)).run Try.prog w = .ok () w := by
  unfold Instr.checkKey
  simp [run_underlying ht]
theorem part_u32 (p : Pfx) (w : World) : (part 24 #[.int .u32 p.a, .int .i64 p.b] 0).run Try.prog w = .ok (.int .u32 p.a) w := by
  have h : tlook tab 24 = some _ := rfl
  unfold part
  simp [(tabOk _ _ h).run_agg]
theorem part_i64 (p : Pfx) (w : World) : (part 3 #[.int .u32 p.a, .int .i64 p.b] 1).run Try.prog w = .ok (.int .i64 p.b) w := by
  have h : tlook tab 3 = some _ := rfl
  unfold part
  simp [(tabOk _ _ h).run_agg]
theorem chk_pfx (b : Bool) (k : Pfx) (w : World) (n : Nat) : (Instr.checkKey b (n + 2) 26 (pfxV k)).run Try.prog w = .ok () w := by
  unfold Instr.checkKey
  simp [pfxV, run_underlying Try.underlying26, part_u32, part_i64, chk_int b n _ _ _ _ Try.underlying24, chk_int b n _ _ _ _ Try.underlying3]
theorem pfxKey : KeyLaw Try.prog 26 pfxV (fun _ => True) := by
  refine KeyLaw.of_agg Try.underlying26 (fun k => ⟨_, rfl⟩) ?_ ?_ ?_
  · intro b k w _
    exact chk_pfx b k w 9998
  · intro a b w _ _
    have h := run_eqLeafs tabOk noStand 8 26 _ [.int .u32 a.a, .int .i64 a.b] [.int .u32 b.a, .int .i64 b.b] _ 9999 _ w rfl rfl rfl rfl (pfxEq a b) (by omega)
    have e : (a == b) = decide (a = b) := by rw [Bool.eq_iff_iff]; simp
    rw [e] at h
    exact h
  · intro a _
    simp [Instr.sameBits, pfxV]
end Go.Proofs.Ytaecjmjdhbjbkaa.Ab

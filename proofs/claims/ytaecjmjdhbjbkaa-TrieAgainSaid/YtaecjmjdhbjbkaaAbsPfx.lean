/-
  Prefixes over abstract states: how they stand in memory; the contracts of the calls that take and give prefixes.
-/
import Derived.Test.YtaecjmjdhbjbkaaAbsEq
import Derived.Test.YtaecjmjdhbjbkaaAbsAny
import Derived.Test.YtaecjmjdhbjbkaaTab
import Derived.Test.YtaecjmjdhbjbkaaAddrW5
import Derived.Test.YtaecjmjdhbjbkaaAddrW4
namespace Go.Proofs.Ytaecjmjdhbjbkaa.Ab
set_option linter.unusedVariables false
open Go.RowKit

def intA (n : Int) : AVal := .d (.sc (.int .i64 n))
def boolA (b : Bool) : AVal := .d (.sc (.bool b))
def pfxD (p : Pfx) : List Dat := [.sc (.int .u32 p.a), .sc (.int .i64 p.b)]
theorem pfxD_len (p : Pfx) : (pfxD p).length = 2 := rfl
def pfxA (p : Pfx) : AVal := .agg [.d (.sc (.int .u32 p.a)), .d (.sc (.int .i64 p.b))]
def pfxsA (l : List Pfx) : AVal := .d (.sl (l.flatMap pfxD) l.length)
theorem pfxEq (x y : Pfx) : eqCells [.int .u32 x.a, .int .i64 x.b] [.int .u32 y.a, .int .i64 y.b] = some (x == y) := by
  obtain ⟨a, b⟩ := x
  obtain ⟨c, d⟩ := y
  simp only [eqCells, eqV, if_true, Bool.and_true, Option.some.injEq]
  rw [Bool.eq_iff_iff]
  simp [Pfx.mk.injEq]
theorem noStand : ∀ t, (tlook tab t).isSome = true → Try.prog.stoodInHeld t = false := by
  have h : tab.all (fun t _ => !Try.prog.stoodInHeld t) = true := by kernel_rfl
  intro t ht
  obtain ⟨te, hte⟩ := Option.isSome_iff_exists.1 ht
  simpa using TTab.of_all h hte
abbrev Just (c : AVal) : AVal → Heap → Prop := fun c' h' => c' = c ∧ h' = []

theorem refCheck_A (p : Pfx) (hp : p.ok) : ACall Try.prog 25 [pfxA p] [] (Just (intA (chk p))) := ACall_val (by kernel_rfl) rfl rfl rfl fun w => refCheck_any p w hp
theorem check_A (p : Pfx) (hp : p.ok) : ACall Try.prog 44 [pfxA p] [] (Just (intA (chk p))) := ACall_val (by kernel_rfl) rfl rfl rfl fun w => check_any p w hp
theorem refIn_A (x : Int) (p : Pfx) (hp : p.ok) (x0 : 0 ≤ x) (x1 : x < 4294967296) : ACall Try.prog 13 [.d (.sc (.int .u32 x)), pfxA p] [] (Just (boolA (inB x p))) := ACall_val (by kernel_rfl) rfl rfl rfl fun w => refIn_any x p w hp x0 x1
theorem in_A (x : Int) (p : Pfx) (hp : p.ok) (x0 : 0 ≤ x) (x1 : x < 4294967296) : ACall Try.prog 69 [.d (.sc (.int .u32 x)), pfxA p] [] (Just (boolA (inB x p))) := ACall_val (by kernel_rfl) rfl rfl rfl fun w => in_any x p w hp x0 x1
theorem refCmp_A (p q : Pfx) : ACall Try.prog 15 [pfxA p, pfxA q] [] (Just (intA (cmpP p q))) := ACall_val (by kernel_rfl) rfl rfl rfl fun w => refCmp_any p q w
theorem cmp_A (p q : Pfx) : ACall Try.prog 46 [pfxA p, pfxA q] [] (Just (intA (cmpP p q))) := ACall_val (by kernel_rfl) rfl rfl rfl fun w => cmp_any p q w
theorem refWithin_A (p q : Pfx) (hp : p.ok) (hq : q.ok) : ACall Try.prog 16 [pfxA p, pfxA q] [] (Just (boolA (withinB p q))) := ACall_val (by kernel_rfl) rfl rfl rfl fun w => refWithin_any p q w hp hq
theorem within_A (p q : Pfx) (hp : p.ok) (hq : q.ok) : ACall Try.prog 47 [pfxA p, pfxA q] [] (Just (boolA (withinB p q))) := ACall_val (by kernel_rfl) rfl rfl rfl fun w => within_any p q w hp hq
theorem common_A (p q : Pfx) (hp : p.ok) (hq : q.ok) (gp : good p) (gq : good q) : ACall Try.prog 48 [pfxA p, pfxA q] [] (Just (.tup [pfxA (commonP p q), intA 0])) := ACall_val (by kernel_rfl) rfl rfl rfl fun w => common_any p q w hp hq gp gq
theorem refCommon_A (p q : Pfx) (hp : p.ok) (hq : q.ok) (gp : good p) (gq : good q) : ACall Try.prog 14 [pfxA p, pfxA q] [] (Just (.tup [pfxA (commonP p q), intA 0])) := ACall_val (by kernel_rfl) rfl rfl rfl fun w => refCommon_any p q w hp hq gp gq
end Go.Proofs.Ytaecjmjdhbjbkaa.Ab

/-
 Texts of a proof, one behind the other (part 27).
-/
import Derived.Test.YtmmdkjanmegjdaaGreatRv1
import Derived.Test.YtmmdkjanmegjdaaGreatRv4
import Derived.Test.YtmmdkjanmegjdaaGreatRv9
import Derived.Test.YtmmdkjanmegjdaaGreatRv25
set_option linter.unusedSimpArgs false
set_option linter.unusedVariables false
namespace Go.Proofs.YtmmdkjanmegjdaaGreat
set_option maxRecDepth 100000
open Go.RowKit Go.Lib
namespace Ab
attribute [local irreducible] AWp AOps AQ AYield AEff ACall AWk AAny AAt AThen AIn APost NoPanic
set_option maxHeartbeats 8000000 in
theorem ziX (d : Dvc) (nm : List UInt8) (s : Sbj) (ho : OkA d s) : ACall Tryz.prog 17 [dvcA d, .d (sD nm), aggD (sbjD s)] [] (Just (.tup [aggD (sbjD (applyP d nm s).1), boolA (applyP d nm s).2.1, .d (iD (applyP d nm s).2.2)])) := by
 unfold applyP
 by_cases hn : nm = []
 ·have how := zn8 s ho.os.path ho.os.com
  rw [if_pos hn]
  refine zf za Tryz.func17 rfl Tryz.ntmps17 (congrArg Array.toList Tryz.results17) (by kernel_rfl) rfl ?_
  repeat (first | refine q_Y ?_ | ((first | apply q_K rfl | apply q_X rfl); (first | exact q_H | (exact R_sT rfl rfl rfl rfl (decide_eq_true hn)))) | refine q_U ?_ | refine q_O how ?_)
  exact zk rfl ⟨rfl, rfl⟩
 rw [if_neg hn]
 have hna := ziM d nm (by have := ho.n; omega)
 unfold namedA at hna
 cases hf : d.pols.find? (fun p => decide (p.nm = nm)) with
 | none =>
  rw [hf] at hna
  try dsimp only at hna ⊢
  refine zf za Tryz.func17 rfl Tryz.ntmps17 (congrArg Array.toList Tryz.results17) (by kernel_rfl) rfl ?_
  repeat (first | refine q_Y ?_ | ((first | apply q_K rfl | apply q_X rfl); (first | exact q_H | (exact R_sF rfl rfl rfl rfl (decide_eq_false hn)))) | refine q_U ?_ | refine q_O hna ?_)
  exact zo ((zbZ (b := 6) (i := 5) rfl rfl).trans (zbZ (b := 6) (i := 6) rfl rfl)) rfl (h2 := []) trivial ⟨rfl, rfl⟩
 | some p =>
  rw [hf] at hna
  try dsimp only at hna ⊢
  have hp := ho.op p (List.mem_of_find?_eq_some hf)
  obtain ⟨x, hr⟩ : ∃ x, runP d p s = x := ⟨_, rfl⟩
  have hlast : OkS (lastS s (runP d p s).2.2) := zf2 d p.cs p.dft p.cs 0 0 (-1) s s [] hp.2 ho.os
  rw [hr] at hlast ⊢
  obtain ⟨ok, b, ms⟩ := x
  try dsimp only at hlast ⊢
  have hru := zkL d p s ho.od hp.1 hp.2 hr
  have how := zn8 (lastS s ms) hlast.path hlast.com
  refine zf za Tryz.func17 rfl Tryz.ntmps17 (congrArg Array.toList Tryz.results17) (by kernel_rfl) rfl ?_
  repeat (first | refine q_Y ?_ | ((first | apply q_K rfl | apply q_X rfl); (first | exact q_H | first | exact R_sF rfl rfl rfl rfl (decide_eq_false hn) | exact zU rfl rfl)) | refine q_U ?_ | refine q_O hna ?_)
  refine O_cP [(1000, 11)] (fun p p' i h1 h2 => by rw [(zK h1).1, (zK h2).1]) (fun p i h1 => by rw [(zK h1).1]; exact ⟨Nat.le_refl _, rfl, rfl⟩) hru (List.all_eq_true.1 (show List.all _ _ = true from rfl)) ⟨⟨11, _, rfl, rfl, rfl, fun c hc => by obtain ⟨x, _, rfl⟩ := List.mem_map.1 hc; rfl⟩, trivial⟩ rfl rfl rfl rfl rfl rfl ?_
  cases ok with
  | true =>
   repeat (first | refine q_Y ?_ | ((first | apply q_K rfl | apply q_X rfl); (exact q_H)) | refine q_U ?_ | refine q_O how ?_)
   exact zk rfl ⟨rfl, rfl⟩
  | false =>
   repeat (first | refine q_Y ?_ | ((first | apply q_K rfl | apply q_X rfl); (exact q_H)) | refine q_U ?_)
   exact zo ((zbZ (b := 6) (i := 5) rfl rfl).trans (zbZ (b := 6) (i := 6) rfl rfl)) rfl (h2 := []) trivial ⟨rfl, rfl⟩
abbrev marksA (l : List (Nat × Sbj)) : AVal := .d (.sl (l.flatMap markD) l.length)
end Ab
end Go.Proofs.YtmmdkjanmegjdaaGreat

namespace Go.Proofs.YtmmdkjanmegjdaaGreat.Ab
open Go.RowKit
def lendW (h : Heap) : AVal → AVal
 | .agg cs => .agg (cs.map (lendV h))
 | c => lendV h c
section
variable {P : Program} {nt : Nat} {Q : Post} {e : Env} {h : Heap} {ops : Array Oper} {o : Oper} {rest : List Oper} {T : List Nat} {tab : TTab}
end
end Go.Proofs.YtmmdkjanmegjdaaGreat.Ab

namespace Go.Proofs.YtmmdkjanmegjdaaGreat.Ab
open Go.RowKit

section
variable {P : Program} {nt : Nat} {T : List Nat} {Q0 : Post} {ops : Array Oper} {rest : List Oper} {e : Env} {h : Heap} {o : Oper} {tab : TTab}
end
end Go.Proofs.YtmmdkjanmegjdaaGreat.Ab

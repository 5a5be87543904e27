/-
 Texts of a proof, one behind the other (part 24).
-/
import Derived.Scope
import Derived.Test.YtmmdkjanmegjdaaGreatRv1
import Derived.Test.YtmmdkjanmegjdaaGreatRv2
import Derived.Test.YtmmdkjanmegjdaaGreatRv4
import Derived.Test.YtmmdkjanmegjdaaGreatRv8
import Derived.Test.YtmmdkjanmegjdaaGreatRv22
set_option maxRecDepth 100000
set_option linter.unusedSimpArgs false
set_option linter.unusedVariables false
namespace Go.Proofs.YtmmdkjanmegjdaaGreat
open Go.RowKit Go.Lib
def setC (c : Cls) (s : Sbj) : Sbj :=
 {p := s.p, met := if c.sMet = -1 then s.met else c.sMet, tag := if c.sTag = -1 then s.tag else c.sTag, pref := if c.sPref = -1 then s.pref else c.sPref, path := c.pre ++ s.path,
  com := if c.sCom.length = 0 then s.com else if c.add then nrm (s.com ++ c.sCom) else nrm c.sCom, hop := if c.sHop = 0 then s.hop else c.sHop }
namespace Ab
attribute [local irreducible] AWp AOps AQ AYield AEff ACall AWk AAny AAt AThen AIn APost NoPanic
def sbjV (s : Sbj) (x y : AVal) : List AVal := [.d (uD s.p.a), .d (iD s.p.b), .d (iD s.met), .d (iD s.tag), .d (iD s.pref), x, y, .d (uD s.hop)]
def sbjZ : List AVal := [.d (uD 0), .d (iD 0), .d (iD 0), .d (iD 0), .d (iD 0), .d (.sc (.slice none 0 0)), .d (.sc (.slice none 0 0)), .d (uD 0)]
theorem zne {s : Sbj} {a b : Nat} {l m : List Int} (j : Nat) (h : (AVal.agg (sbjV s (.row a) (.row b))).has j = true) : (look [(a, uB l), (b, uB m)] j).isSome = true := by
 simp only [AVal.has, hasL, sbjV, Bool.false_or, Bool.or_false, Bool.or_eq_true, beq_iff_eq] at h
 simp only [look]
 rcases h with h | h
 ·subst h; rw [zcs]; rfl
 ·subst h
  cases Nat.beq a b
  ·rw [zcs]; rfl
  ·rfl
theorem znz {a b : Nat} {l m : List Int} (id : Nat) (c : ABlk) (j : Nat) (h : look [(a, uB l), (b, uB m)] id = some c) (hh : blkHas j c = true) : (look [(a, uB l), (b, uB m)] j).isSome = true := by
 simp only [look] at h
 cases h1 : Nat.beq a id
 ·rw [h1] at h
  cases h2 : Nat.beq b id
  ·rw [h2] at h; cases h
  ·rw [h2] at h; cases h; cases hh
 ·rw [h1] at h; cases h; cases hh
set_option maxHeartbeats 4000000 in
theorem zhX (s : Sbj) (h1 : s.path.length ≤ 1000000000) (h2 : s.com.length ≤ 1000000000) : ACall Tryz.prog 38 [aggD (sbjD s)] [] (fun c h => c = .agg (sbjV s (.row 21) (.row 22)) ∧ h = [(21, uB s.path), (22, uB s.com)]) := by
 have a1 := ACall.reid (id := 21) rfl (ze5 s.path (by omega))
 have a2 := ACall.reid (id := 22) rfl (ze5 s.com (by omega))
 refine zf za Tryz.func38 rfl Tryz.ntmps38 (congrArg Array.toList Tryz.results38) (by kernel_rfl) rfl ?_
 refine z7 ?_
 refine zab ?_
 refine q_d ?_
 refine q_a ?_
 refine zcv ?_
 refine q_j ?_
 refine zaH [(1, .ptr 1 0), (2, .ptr 2 0)] [(1, .var (sbjV s (.row 21) (.row 22))), (2, .var sbjZ), (21, uB s.path), (22, uB s.com)] ?_ ?_
 ·refine zA [1] mixed ?_
  apply zbB (i := 0) rfl (by kernel_rfl) (by kernel_rfl) (by kernel_rfl) (by repeat (first | exact zed | exact zaX | refine zaW ?_ | refine zbT ?_)) rfl rfl rfl
  exact q_8
  apply zbB (i := 3) rfl (by kernel_rfl) (by kernel_rfl) (by kernel_rfl) (by repeat (first | exact zed | exact zaX | refine zaW ?_ | refine zbT ?_)) rfl rfl rfl
  exact q_8
  refine zcf (j := 1) (k := 4) (by kernel_rfl) ?_ ?_
  ·apply zP rfl rfl rfl rfl
   exact q_7
   refine zcf (j := 2) (k := 4) (by kernel_rfl) ?_ ?_
   ·first | refine zbA rfl rfl rfl rfl rfl rfl a1 rfl ?_ | refine zbA rfl rfl rfl rfl rfl rfl a2 rfl ?_
    refine zd (j := 4) (by kernel_rfl) ?_
    apply zP rfl rfl rfl rfl
    exact q_7
    apply zbB (i := 6) rfl (by kernel_rfl) (by kernel_rfl) (by kernel_rfl) (by repeat (first | exact zed | exact zaX | refine zaW ?_ | refine zbT ?_)) rfl rfl rfl
    exact q_8
    refine zd (j := 5) (by kernel_rfl) ?_
    first | refine zbA rfl rfl rfl rfl rfl rfl a1 rfl ?_ | refine zbA rfl rfl rfl rfl rfl rfl a2 rfl ?_
    refine zd (j := 7) (by kernel_rfl) ?_
    refine zJ za rfl rfl rfl rfl rfl rfl rfl rfl rfl rfl rfl rfl rfl ?_
    apply zbB (i := 8) rfl (by kernel_rfl) (by kernel_rfl) (by kernel_rfl) (by repeat (first | exact zed | exact zaX | refine zaW ?_ | refine zbT ?_)) rfl rfl rfl
    exact q_8
    refine zd (j := 9) (by kernel_rfl) ?_
    refine zJ za rfl rfl rfl rfl rfl rfl rfl rfl rfl rfl rfl rfl rfl ?_
    refine zz (by kernel_rfl) ?_
    refine q_j ?_
    exact q_S
   ·apply zP rfl rfl rfl rfl
    exact q_7
    refine zd (j := 2) (by kernel_rfl) ?_
    first | refine zbA rfl rfl rfl rfl rfl rfl a1 rfl ?_ | refine zbA rfl rfl rfl rfl rfl rfl a2 rfl ?_
    apply zbB (i := 6) rfl (by kernel_rfl) (by kernel_rfl) (by kernel_rfl) (by repeat (first | exact zed | exact zaX | refine zaW ?_ | refine zbT ?_)) rfl rfl rfl
    exact q_8
    refine zd (j := 5) (by kernel_rfl) ?_
    first | refine zbA rfl rfl rfl rfl rfl rfl a1 rfl ?_ | refine zbA rfl rfl rfl rfl rfl rfl a2 rfl ?_
    refine zd (j := 7) (by kernel_rfl) ?_
    refine zJ za rfl rfl rfl rfl rfl rfl rfl rfl rfl rfl rfl rfl rfl ?_
    apply zbB (i := 8) rfl (by kernel_rfl) (by kernel_rfl) (by kernel_rfl) (by repeat (first | exact zed | exact zaX | refine zaW ?_ | refine zbT ?_)) rfl rfl rfl
    exact q_8
    refine zd (j := 9) (by kernel_rfl) ?_
    refine zJ za rfl rfl rfl rfl rfl rfl rfl rfl rfl rfl rfl rfl rfl ?_
    refine zz (by kernel_rfl) ?_
    refine q_j ?_
    exact q_S
  ·apply zP rfl rfl rfl rfl
   exact q_7
   refine zd (j := 1) (by kernel_rfl) ?_
   apply zP rfl rfl rfl rfl
   exact q_7
   refine zd (j := 2) (by kernel_rfl) ?_
   first | refine zbA rfl rfl rfl rfl rfl rfl a1 rfl ?_ | refine zbA rfl rfl rfl rfl rfl rfl a2 rfl ?_
   apply zbB (i := 6) rfl (by kernel_rfl) (by kernel_rfl) (by kernel_rfl) (by repeat (first | exact zed | exact zaX | refine zaW ?_ | refine zbT ?_)) rfl rfl rfl
   exact q_8
   refine zd (j := 5) (by kernel_rfl) ?_
   first | refine zbA rfl rfl rfl rfl rfl rfl a1 rfl ?_ | refine zbA rfl rfl rfl rfl rfl rfl a2 rfl ?_
   refine zd (j := 7) (by kernel_rfl) ?_
   refine zJ za rfl rfl rfl rfl rfl rfl rfl rfl rfl rfl rfl rfl rfl ?_
   apply zbB (i := 8) rfl (by kernel_rfl) (by kernel_rfl) (by kernel_rfl) (by repeat (first | exact zed | exact zaX | refine zaW ?_ | refine zbT ?_)) rfl rfl rfl
   exact q_8
   refine zd (j := 9) (by kernel_rfl) ?_
   refine zJ za rfl rfl rfl rfl rfl rfl rfl rfl rfl rfl rfl rfl rfl ?_
   refine zz (by kernel_rfl) ?_
   refine q_j ?_
   exact q_S
 ·
  repeat (first | refine q_Y ?_ | ((first | apply q_K rfl | apply q_X rfl); (exact q_H)) | refine q_U ?_)
  exact zo AWk.refl rfl (h2 := [(21, uB s.path), (22, uB s.com)]) ⟨rfl, rfl, trivial⟩ ⟨rfl, rfl⟩
theorem zn8 (s : Sbj) (h1 : s.path.length ≤ 1000000000) (h2 : s.com.length ≤ 1000000000) : ACall Tryz.prog 38 [aggD (sbjD s)] [] (Just (aggD (sbjD s))) :=
 ACall.wk (zhX s h1 h2) (((zF (id := 21) rfl).trans (zF (id := 22) rfl)).trans (q_S))
theorem zh5 (a b : List Int) (z : Dat) : setW (setW (List.replicate (a.length + b.length) z) 0 (a.flatMap u1D)) (a.length * 1) (b.flatMap u1D) = (a ++ b).flatMap u1D := by
 have h1 := zfV a
 have h2 := zfV b
 have e1 : setW (List.replicate (a.length + b.length) z) 0 (a.flatMap u1D) = a.flatMap u1D ++ List.replicate b.length z := by
  unfold setW
  rw [List.take_zero, List.nil_append, Nat.zero_add, h1, List.drop_replicate]
  congr 2
  omega
 rw [e1]
 unfold setW
 rw [Nat.mul_one, ← h1, List.take_left, h2, List.drop_append, List.drop_of_length_le (by omega), List.drop_of_length_le (by rw [List.length_replicate]; omega), List.append_nil, List.append_nil, List.flatMap_append]
set_option maxHeartbeats 16000000 in
theorem zok (c : Cls) (s : Sbj) (h1 : s.path.length + c.pre.length ≤ 1000000000) (h2 : s.com.length + c.sCom.length ≤ 1000000000) :
  ACall Tryz.prog 66 [aggD (clsD c), aggD (sbjD s)] [] (fun x h => x = .agg (sbjV (setC c s) (.row 57) (.row 22)) ∧ h = [(57, uB (setC c s).path), (22, uB (setC c s).com)]) := by
 have ho := zhX s (by omega) (by omega)
 have hj := ACall.reid (id := 22) rfl (zoT s.com c.sCom h2)
 have hn := ACall.reid (id := 22) rfl (zgV c.sCom (by omega))
 obtain ⟨m1, e1⟩ : ∃ m, (if c.sMet = -1 then s.met else c.sMet) = m := ⟨_, rfl⟩
 obtain ⟨m2, e2⟩ : ∃ m, (if c.sPref = -1 then s.pref else c.sPref) = m := ⟨_, rfl⟩
 obtain ⟨m3, e3⟩ : ∃ m, (if c.sTag = -1 then s.tag else c.sTag) = m := ⟨_, rfl⟩
 obtain ⟨m4, e4⟩ : ∃ m, (if c.sHop = 0 then s.hop else c.sHop) = m := ⟨_, rfl⟩
 obtain ⟨m5, e5⟩ : ∃ m, (if c.sCom.length = 0 then s.com else if c.add then nrm (s.com ++ c.sCom) else nrm c.sCom) = m := ⟨_, rfl⟩
 have hset : setC c s = ⟨s.p, m1, m3, m2, c.pre ++ s.path, m5, m4⟩ := by unfold setC; rw [e1, e2, e3, e4, e5]
 rw [hset]
 refine zf za Tryz.func66 rfl Tryz.ntmps66 (congrArg Array.toList Tryz.results66) (by kernel_rfl) rfl ?_
 refine z7 ?_
 refine zab ?_
 refine q_d ?_
 refine q_d ?_
 refine q_a ?_
 refine zcv ?_
 refine q_j ?_
 repeat ((fail_if_success refine zb ?_); (fail_if_success refine zL ?_); first | refine q_Y ?_ | ((first | apply q_K rfl | apply q_X rfl); (exact q_G)) | refine q_U ?_ | (refine O_cN rfl rfl rfl rfl rfl ho rfl znz zne ?_))
 refine zt (zF (id := 21) rfl) ?_
 refine zaH [(2, .ptr 2 0), (3, .ptr 3 0), (4, .ptr 4 0)] [(2, .var ((clsD c).map .d)), (3, .var (sbjV { s with met := m1 } (.d (usD s.path)) (.row 22))), (4, .var sbjZ), (22, uB s.com)] ?_ ?_
 ·by_cases hc : c.sMet = -1
  ·rw [if_pos hc] at e1
   subst e1
   repeat ((fail_if_success refine zb ?_); (fail_if_success refine zL ?_); first | refine q_Y ?_ | ((first | apply q_K rfl | apply q_X rfl); (exact q_G)) | refine q_U ?_)
   exact q_S
  ·rw [if_neg hc] at e1
   subst e1
   repeat ((fail_if_success refine zb ?_); (fail_if_success refine zL ?_); first | refine q_Y ?_ | ((first | apply q_K rfl | apply q_X rfl); (exact q_G)) | refine q_U ?_)
   exact q_S
 refine zaH [(2, .ptr 2 0), (3, .ptr 3 0), (4, .ptr 4 0)] [(2, .var ((clsD c).map .d)), (3, .var (sbjV { s with met := m1, pref := m2 } (.d (usD s.path)) (.row 22))), (4, .var sbjZ), (22, uB s.com)] ?_ ?_
 ·by_cases hc : c.sPref = -1
  ·rw [if_pos hc] at e2
   subst e2
   repeat ((fail_if_success refine zb ?_); (fail_if_success refine zL ?_); first | refine q_Y ?_ | ((first | apply q_K rfl | apply q_X rfl); (exact q_G)) | refine q_U ?_)
   exact q_S
  ·rw [if_neg hc] at e2
   subst e2
   repeat ((fail_if_success refine zb ?_); (fail_if_success refine zL ?_); first | refine q_Y ?_ | ((first | apply q_K rfl | apply q_X rfl); (exact q_G)) | refine q_U ?_)
   exact q_S
 refine zaH [(2, .ptr 2 0), (3, .ptr 3 0), (4, .ptr 4 0)] [(2, .var ((clsD c).map .d)), (3, .var (sbjV { s with met := m1, pref := m2, tag := m3 } (.d (usD s.path)) (.row 22))), (4, .var sbjZ), (22, uB s.com)] ?_ ?_
 ·by_cases hc : c.sTag = -1
  ·rw [if_pos hc] at e3
   subst e3
   repeat ((fail_if_success refine zb ?_); (fail_if_success refine zL ?_); first | refine q_Y ?_ | ((first | apply q_K rfl | apply q_X rfl); (exact q_G)) | refine q_U ?_)
   exact q_S
  ·rw [if_neg hc] at e3
   subst e3
   repeat ((fail_if_success refine zb ?_); (fail_if_success refine zL ?_); first | refine q_Y ?_ | ((first | apply q_K rfl | apply q_X rfl); (exact q_G)) | refine q_U ?_)
   exact q_S
 refine zaH [(2, .ptr 2 0), (3, .ptr 3 0), (4, .ptr 4 0)] [(2, .var ((clsD c).map .d)), (3, .var (sbjV ⟨s.p, m1, m3, m2, [], [], m4⟩ (.d (usD s.path)) (.row 22))), (4, .var sbjZ), (22, uB s.com)] ?_ ?_
 ·by_cases hc : c.sHop = 0
  ·rw [if_pos hc] at e4
   subst e4
   repeat ((fail_if_success refine zb ?_); (fail_if_success refine zL ?_); first | refine q_Y ?_ | ((first | apply q_K rfl | apply q_X rfl); (exact q_G)) | refine q_U ?_)
   exact q_S
  ·rw [if_neg hc] at e4
   subst e4
   repeat ((fail_if_success refine zb ?_); (fail_if_success refine zL ?_); first | refine q_Y ?_ | ((first | apply q_K rfl | apply q_X rfl); (exact q_G)) | refine q_U ?_)
   exact q_S
 refine zaH [(2, .ptr 2 0), (3, .ptr 3 0), (4, .ptr 4 0)] [(2, .var ((clsD c).map .d)), (3, .var (sbjV ⟨s.p, m1, m3, m2, [], [], m4⟩ (.d (usD s.path)) (.row 22))), (4, .var sbjZ), (22, uB m5)] ?_ ?_
 ·by_cases hc : c.sCom.length = 0
  ·rw [if_pos hc] at e5
   subst e5
   repeat ((fail_if_success refine zb ?_); (fail_if_success refine zL ?_); first | refine q_Y ?_ | ((first | apply q_K rfl | apply q_X rfl); (exact q_G)) | refine q_U ?_)
   exact q_S
  ·rw [if_neg hc] at e5
   cases had : c.add with
   | true =>
    rw [had, if_pos rfl] at e5
    rw [e5] at hj
    refine zt (zF (id := 22) rfl) ?_
    repeat ((fail_if_success refine zb ?_); (fail_if_success refine zL ?_); first | refine q_Y ?_ | ((first | apply q_K rfl | apply q_X rfl); (first | exact q_F | (first | exact q_H | (exact Y_assignB rfl had rfl)))) | refine q_U ?_ | (refine zbh rfl rfl rfl rfl rfl hj rfl ?_))
    exact q_S
   | false =>
    rw [had, if_neg (by decide)] at e5
    rw [e5] at hn
    refine zt (zF (id := 22) rfl) ?_
    repeat ((fail_if_success refine zb ?_); (fail_if_success refine zL ?_); first | refine q_Y ?_ | ((first | apply q_K rfl | apply q_X rfl); (first | exact q_F | (first | exact q_H | (exact Y_assignB rfl had rfl)))) | refine q_U ?_ | (refine zbh rfl rfl rfl rfl rfl hn rfl ?_))
    exact q_S
 have f1 : (c.pre.flatMap u1D).length = c.pre.length * 1 := zM zV _
 have f2 : (s.path.flatMap u1D).length = s.path.length * 1 := zM zV _
 repeat ((fail_if_success refine zb ?_); (fail_if_success refine zL ?_); first | refine q_Y ?_ | ((first | apply q_K rfl | apply q_X rfl); (exact q_G)) | refine q_U ?_ | first | (refine zgu za rfl rfl rfl rfl rfl rfl rfl rfl rfl (by omega) ?_) | (refine znQ za rfl rfl rfl rfl rfl rfl rfl rfl CDst.row rfl (by omega) f1 (by omega) ?_))
 refine zA [57] mixed ?_
 (apply q_P 0 rfl (by kernel_rfl) rfl rfl rfl; (first | exact q_H | fail))
 (apply q_P 1 rfl (by kernel_rfl) rfl rfl rfl; (first | exact q_H | fail))
 (apply q_P 2 rfl (by kernel_rfl) rfl rfl rfl; (first | exact q_H | fail))
 (apply q_P 3 rfl (by kernel_rfl) rfl rfl rfl; (first | exact q_H | fail))
 (apply q_P 4 rfl (by kernel_rfl) rfl rfl rfl; (first | exact q_H | (exact za3 za rfl rfl rfl rfl rfl rfl rfl (show c.pre.length ≤ c.pre.length + s.path.length by omega))))
 (apply q_P 5 rfl (by kernel_rfl) rfl rfl rfl; (first | exact q_H | fail))
 (apply q_P 6 rfl (by kernel_rfl) rfl rfl rfl; (first | exact q_H | fail))
 refine zd (j := 7) (by kernel_rfl) ?_
 refine znJ za rfl rfl rfl rfl rfl rfl rfl rfl rfl (CDst.srow _ _) rfl rfl (by omega) f2 (by omega) ?_
 refine zz (by kernel_rfl) ?_
 repeat ((fail_if_success refine zb ?_); (fail_if_success refine zL ?_); first | refine q_Y ?_ | ((first | apply q_K rfl | apply q_X rfl); (exact q_G)) | refine q_U ?_)
 exact zo AWk.refl rfl (h2 := [(57, uB (c.pre ++ s.path)), (22, uB m5)]) ⟨zah (by rw [List.length_append]) (zh5 c.pre s.path _) rfl, rfl, trivial⟩ ⟨rfl, rfl⟩
theorem zpx (c : Cls) (s : Sbj) (h1 : s.path.length + c.pre.length ≤ 1000000000) (h2 : s.com.length + c.sCom.length ≤ 1000000000) : ACall Tryz.prog 66 [aggD (clsD c), aggD (sbjD s)] [] (Just (aggD (sbjD (setC c s)))) :=
 ACall.wk (zok c s h1 h2) (((zF (id := 57) rfl).trans (zF (id := 22) rfl)).trans (q_S))
end Ab
end Go.Proofs.YtmmdkjanmegjdaaGreat

namespace Go.Proofs.YtmmdkjanmegjdaaGreat.Ab
open Go.RowKit
section
variable {P : Program} {nt : Nat} {Q : Post} {e : Env} {h : Heap} {z : Bool}
theorem zn2 {l : Nat} (H : Q .normal e h) : AWp z P nt (.label l) Q e h := fun lq Pm F w0 pin ι a w _ R => wpIn_label ⟨ι, e, h, H, R⟩
theorem zn0 {c : Code} (hq : ∀ l e h, ¬ Q (.goto l) e h) (H : AWp true P nt c Q e h) : AWp true P nt (.scope c) Q e h := fun lq Pm F w0 pin ι a w hz R => by
 have hl : lq = none := hz rfl
 subst hl
 have h1 : c.wp P (real Pm F w0 pin nt Q) a w := wpIn_wide (n := 0).1 (H none Pm F w0 pin ι a w hz R)
 refine (wpIn_wide (n := 0)).2 (wp_scope_straight fun b k cs => ?_)
 obtain ⟨x, a', w', hx, hr⟩ := h1 b k cs
 refine ⟨x, a', w', ?_, hr⟩
 cases x with
 | goto l => obtain ⟨ι', e', h', hx, _⟩ := hx; exact (hq l e' h' hx).elim
 | normal => exact hx
 | exit id => exact hx
 | ret => exact hx
 | panic ch => exact hx
 | outgrown => exact hx
theorem zm4 {tab : TTab} {rs : List ResultVar} {R : AVal → Heap → Prop} (l : Nat) (e : Env) (h : Heap) : ¬ APost nt tab rs R (.goto l) e h := fun h => h
end
end Go.Proofs.YtmmdkjanmegjdaaGreat.Ab

namespace Go.Proofs.YtmmdkjanmegjdaaGreat.Ab
open Go.RowKit
section
variable {P : Program} {nt : Nat} {Q : Post} {e : Env} {h : Heap} {ops : Array Oper} {o : Oper} {rest : List Oper} {T : List Nat}
theorem zmm {f : FuncId} {x0 : Operand} {args : Array Operand} {ats : Array TypeId} {cs0 cs1 caps cs : List AVal} {h0 : Heap} {d : Option Tmp} {Q : AVal → Heap → Prop} (ρ : List (Nat × Nat)) (ho : o.op = .call { callee := .value x0, args := args, argTypes := ats }) (hdst : o.dst = d) (hfn : aev e x0 = some (.fn f caps)) (hx : aevs e args.toList = some cs1) (hcc : cs1 ++ caps = cs0)
  (hcs : cs.map (renV ρ) = cs0) (hok : ∀ c ∈ cs, okV ρ c = true) (hl : Lent ρ h h0) (hdom : ∀ p i, look ρ p = some i → 1000 ≤ p ∧ (look h0 p).isSome = true) (hinj : ∀ p p' i, look ρ p = some i → look ρ p' = some i → p = p')
  (H : ACall P f cs h0 Q) (hd : dstOk nt d = true) (hT : ∀ p i, look ρ p = some i → T.contains i = true) (hq : ∀ c h', Q c h' → ∀ p i, look ρ p = some i → (look h' p).isSome = true) :
  AEff P nt T e h o (fun e' h2 => ∃ c h', Q c h' ∧ e' = aput d (renV ρ c) e ∧ h2 = renH ρ h' ++ h) := fun Pm F w0 pin ι a w R K Qx hK => by
 have hfv := zj R.env hfn
 generalize hau : a.eval x0 = u0 at hfv
 cases hfv with
 | fn _ _ C hlC hhC =>
 unfold Oper.wp
 rw [zdS H.1 ho hau, Oper.upon_enter, hdst]
 have HR := R.heap
 let ι0 : Nat → Option Value := fun p => match look ρ p with | some i => ι i | none => none
 have h0some : ∀ p v, ι0 p = some v → ∃ i, look ρ p = some i ∧ ι i = some v := fun p v hv => by
  simp only [ι0] at hv
  cases hp : look ρ p with
  | none => rw [hp] at hv; cases hv
  | some i => rw [hp] at hv; exact ⟨i, rfl, hv⟩
 have h0of : ∀ p i, look ρ p = some i → ι0 p = ι i := fun p i hp => by simp only [ι0, hp]
 let F' : Nat → Prop := fun r => F r ∨ ∃ id v, ι id = some v ∧ blockOf v = some r ∧ ∀ p, look ρ p ≠ some id
 let Pm' : Nat → Prop := fun r => w.heap.size ≤ r ∨ ∃ p v, ι0 p = some v ∧ blockOf v = some r
 have hFdown : ExtF w F ι w F' ι0 := ⟨fun _ _ _ => rfl, fun r _ hf => ⟨fun hc => hc.elim hf.1 fun ⟨id, v, h1, h2, _⟩ => hf.2 id v h1 h2, fun p v hv hb => by
  obtain ⟨i, _, h2⟩ := h0some p v hv
  exact hf.2 i v h2 hb⟩⟩
 have HC : HRel Pm' F' w ι0 ι0 h0 w := by
  refine ⟨fun p b hb => ?_, fun p v hv => ?_, fun p q v v' r hpq hv hv' hr => ?_, fun p v r hv hr => .inr ⟨p, v, hv, hr⟩, rfl, rfl, rfl, Nat.le_refl _, fun _ _ _ => rfl, fun r hr => .inl hr, fun p v _ hv => hv, fun p v r hv hr hF' => ?_, fun r hr => ?_⟩
  ·obtain ⟨i, h1, h2, h3⟩ := hl.get hb
   obtain ⟨v, hv, hB⟩ := HR.blk i _ h2
   exact ⟨v, by rw [h0of p i h1]; exact hv, hB.down h3 hFdown h0some⟩
  ·obtain ⟨i, h1, h2⟩ := h0some p v hv
   exact Option.isSome_iff_exists.1 (hdom p i h1).2
  ·obtain ⟨i, h1, h2⟩ := h0some p v hv
   obtain ⟨j, h3, h4⟩ := h0some q v' hv'
   exact HR.inj i j v v' r (by rintro rfl; exact hpq (hinj p q i h1 h3)) h2 h4 hr
  ·obtain ⟨i, h1, h2⟩ := h0some p v hv
   rcases hF' with h3 | ⟨id, v', h3, h4, h5⟩
   ·exact HR.nf i v r h2 hr h3
   ·have : i ≠ id := by rintro rfl; exact h5 p h1
    exact HR.inj i id v v' r this h2 h3 hr h4
  ·rcases hr with h1 | ⟨id, v, h1, h2, _⟩
   ·exact Nat.lt_of_lt_of_le (HR.forb r h1) HR.size
   ·exact HR.lt h1 h2
 have HA : ArgsRel w F' ι0 cs (args.map a.eval ++ C) := by
  have : ArgsRel w F ι cs0 (args.map a.eval ++ C) := by rw [← hcc]; exact zlU (zbD R.env hx) ⟨hlC, hhC⟩
  refine ⟨by rw [this.1, ← hcs, List.length_map], fun i c u h1 h2 => (this.2 i (renV ρ c) u (by rw [← hcs, List.getElem?_map, h1]; rfl) h2).down (hok c (List.mem_of_getElem? h1)) hFdown h0some⟩
 refine (H.2 Pm' F' w ι0 ι0 _ w HC HA).mono ?_
 rintro x w' ⟨u, c, h', ι', rfl, hQ, hH, hv⟩
 have hsz := hH.size
 have hkeep : ∀ r, r < w.heap.size → (∀ p i v, look ρ p = some i → ι i = some v → blockOf v ≠ some r) → w'.heap[r]? = w.heap[r]? := fun r hr hn => hH.keep r hr fun hp => by
  rcases hp with h1 | ⟨p, v, h1, h2⟩
  ·omega
  ·obtain ⟨i, h3, h4⟩ := h0some p v h1
   exact hn p i v h3 h4 h2
 have hpin : ∀ p i, look ρ p = some i → ∀ v, ι i = some v → ι' p = some v := fun p i hp v hv => by
  obtain ⟨b, hb⟩ := Option.isSome_iff_exists.1 (hq c h' hQ p i hp)
  obtain ⟨v', hv', _⟩ := hH.blk p b hb
  have := hH.pinned p v' (hdom p i hp).1 hv'
  rw [h0of p i hp, hv] at this
  cases this
  exact hv'
 have hFup : ExtF w' F' ι' w' F ι := ⟨fun _ _ _ => rfl, fun r _ hf => ⟨fun hc => hf.1 (.inl hc), fun id v hid hb => by
  by_cases hex : ∃ p, look ρ p = some id
  ·obtain ⟨p, hp⟩ := hex
   exact hf.2 p v (hpin p id hp v hid) hb
  ·exact hf.1 (.inr ⟨id, v, hid, hb, fun p hp => hex ⟨p, hp⟩⟩)⟩⟩
 have hext : Ext w F ι w' ι := ⟨fun r hr hf => hkeep r hr fun p i v hp hi hb => hf.2 i v hi hb, fun r _ hf => hf⟩
 have hheap : HRel Pm F w0 pin ι (renH ρ h' ++ h) w' := by
  refine ⟨fun id b hb => ?_, fun id v hv => ?_, HR.inj, HR.pm, hH.os.trans HR.os, hH.tape.trans HR.tape, hH.output.trans HR.output, Nat.le_trans HR.size hsz, fun r hr hn => ?_, HR.fresh, HR.pinned, HR.nf, HR.forb⟩
  ·rw [zI] at hb
   cases hl2 : look (renH ρ h') id with
   | some b' =>
    rw [hl2] at hb
    cases hb
    obtain ⟨p, b0, h1, h2, h3⟩ := (zcT hinj h' id).1 b hl2
    subst h3
    obtain ⟨v', hv', hB⟩ := hH.blk p b0 h2
    have h4 := hH.pinned p v' (hdom p id h1).1 hv'
    rw [h0of p id h1] at h4
    exact ⟨v', h4, hB.up hFup hpin⟩
   | none =>
    rw [hl2] at hb
    have hb2 : look h id = some b := hb
    have hno : ∀ p, look ρ p ≠ some id := fun p hp => by
     have h1 := (zcT hinj h' id).2 hl2 p hp
     have h2 := hq c h' hQ p id hp
     rw [h1] at h2; cases h2
    obtain ⟨v, hv, hB⟩ := HR.blk id b hb2
    refine ⟨v, hv, hB.ext hext (fun _ _ h => h) fun r hr => hkeep r (HR.lt hv hr) fun p i v2 hp hi hb3 => ?_⟩
    exact HR.inj i id v2 v r (by rintro rfl; exact hno p hp) hi hv hb3 hr
  ·obtain ⟨b, hb⟩ := HR.dom id v hv
   rw [zI]
   cases hl2 : look (renH ρ h') id with
   | some b' => exact ⟨b', rfl⟩
   | none => exact ⟨b, hb⟩
  ·rw [hkeep r (Nat.lt_of_lt_of_le hr HR.size) fun p i v hp hi hb => hn (HR.pm i v r hi hb)]
   exact HR.keep r hr hn
 have R2 : Rel Pm F w0 pin ι nt e (renH ρ h' ++ h) a w' := ⟨hheap, R.env.mono fun _ _ _ _ hv => hv.ext hext fun _ _ _ h => h, R.defers.ext hext, R.size⟩
 exact hK ι _ _ _ w' ⟨c, h', hQ, rfl, rfl⟩ (R2.put hd (hv.up hFup hpin)) ⟨⟨hH.os, hH.tape, hH.output, hsz, fun r hr hne => hkeep r hr fun p i v hp hi hb => hne i (List.contains_iff_mem.1 (hT p i hp)) v hi hb⟩, fun id _ v r h1 h2 _ => ⟨v, h1, h2⟩⟩ (zl _ _ _)
theorem zi6 {f : FuncId} {x0 : Operand} {args : Array Operand} {ats : Array TypeId} {cs0 cs1 caps cs : List AVal} {h0 h1 : Heap} {c : AVal} {d : Nat} (ρ : List (Nat × Nat)) (hinj : ∀ p p' i, look ρ p = some i → look ρ p' = some i → p = p') (hdom : ∀ p i, look ρ p = some i → 1000 ≤ p ∧ (look h0 p).isSome = true ∧ (look h1 p).isSome = true)
  (H : ACall P f cs h0 (fun c' h' => c' = c ∧ h' = h1)) (hok : ∀ c ∈ cs, okV ρ c = true) (hl : Lent ρ h h0) (hw : awant ops e o = some true) (hdst : o.dst = some d) (hd : Nat.blt d nt = true) (ho : o.op = .call { callee := .value x0, args := args, argTypes := ats }) (hfn : aev e x0 = some (.fn f caps)) (hx : aevs e args.toList = some cs1) (hcc : cs1 ++ caps = cs0)
  (hcs : cs.map (renV ρ) = cs0) (HK : AOps P nt ops Q rest ((d, renV ρ c) :: e) (renH ρ h1 ++ h)) : AOps P nt ops Q (o :: rest) e h :=
 zat (T := ρ.map (·.2)) hw (zmm ρ ho hdst hfn hx hcc hcs hok hl (fun p i hp => ⟨(hdom p i hp).1, (hdom p i hp).2.1⟩) hinj H hd (fun p i hp => by
  have : ∀ (ρ : List (Nat × Nat)), look ρ p = some i → i ∈ ρ.map (·.2) := by
   intro ρ
   induction ρ with
   | nil => intro h; cases h
   | cons q r ih =>
    obtain ⟨a, b⟩ := q
    intro h
    by_cases ha : a = p
    ·subst ha; rw [ze] at h; cases h; simp
    ·rw [zc _ _ ha] at h; have := ih h; simp at this ⊢; exact .inr this
  exact List.contains_iff_mem.2 (this ρ hp)) (fun c' h' ⟨h3, h4⟩ p i hp => by subst h4; exact (hdom p i hp).2.2)) fun e' h' ⟨c', h2, ⟨h3, h4⟩, h5, h6⟩ => by subst h3 h4 h5 h6; exact HK
end
end Go.Proofs.YtmmdkjanmegjdaaGreat.Ab

/-
  Texts of a proof, one behind the other (part 22).
-/
import Derived.Test.YtenolkolkpfjgaaGreatFt5
import Derived.Test.YtenolkolkpfjgaaGreatFt8
import Derived.Test.YtenolkolkpfjgaaGreatFt20
set_option linter.unusedVariables false
set_option linter.unusedSimpArgs false
namespace Go.Proofs.YtenolkolkpfjgaaGreat.Ab
set_option linter.unusedVariables false
set_option maxRecDepth 100000
open Go.RowKit Go.Lib
structure Ent where
  p : Pfx
  x : Bool
  hs : List Hp
  deriving DecidableEq
def entD (x : Ent) : List Dat := [.sc (.int .u32 x.p.a), .sc (.int .i64 x.p.b), .sc (.bool x.x), .sl (x.hs.flatMap hopD) x.hs.length]
theorem entD_len (x : Ent) : (entD x).length = 4 := rfl
def entA (x : Ent) : AVal := .agg ((entD x).map AVal.d)
def entB (l : List Ent) : ABlk := .row 45 4 l.length (l.flatMap entD)
set_option linter.unusedSimpArgs false
attribute [local irreducible] AWp AOps AQ AYield AEff ACall AWk AAny AAt AThen AIn APost NoPanic
theorem entriesFn_A (x : Ent) (l : List Ent) (hn : l.length ≤ 1000000) : ACall Tryz.prog 19 [entA x, .ptr 1000 0] [(1000, .var [.row 950]), (950, entB l)] (fun c h => c = .tup [] ∧ h = [(1000, .var [.row 950]), (950, entB (if x.x || decide (0 < x.hs.length) then l ++ [x] else l))]) := by
  obtain ⟨⟨pa, pb⟩, b, hs⟩ := x
  refine ACall_of tabOk Tryz.func19 rfl Tryz.ntmps19 (congrArg Array.toList Tryz.results19) (by kernel_rfl) rfl ?_
  cases b with
  | true =>
    rw [show ((⟨⟨pa, pb⟩, true, hs⟩ : Ent).x || decide (0 < (⟨⟨pa, pb⟩, true, hs⟩ : Ent).hs.length)) = true from rfl, if_pos rfl]
    repeat (first | refine q_Z ?_ | ((first | apply O_y rfl rfl rfl | apply Q_y rfl rfl rfl); (first | exact q_A | exact q_5 | exact q_B)) | refine q_d ?_ | refine q_a ?_ | refine q_b ?_ | refine q_c ?_ | refine A_ct rfl ?_ | refine A_cf rfl ?_ | refine q_W ?_ | (first | refine O_appR tabOk rfl rfl rfl rfl rfl rfl rfl rfl rfl rfl rfl (by first | exact Src.row rfl | exact Src.dat _ _ | exact Src.nil) rfl (by omega) ?_ | refine O_appN tabOk rfl rfl rfl rfl rfl rfl rfl rfl rfl rfl (by first | exact Src.row rfl | exact Src.dat _ _ | exact Src.nil) rfl (by omega) ?_))
    exact X_endW AWk.refl rfl (h2 := [(1000, .var [.row 950]), (950, entB (l ++ [⟨⟨pa, pb⟩, true, hs⟩]))]) ⟨rfl, row_eq (by simp) (by simp [entD]) rfl, trivial⟩ ⟨rfl, rfl⟩
  | false =>
    by_cases h0 : 0 < hs.length
    · rw [show ((⟨⟨pa, pb⟩, false, hs⟩ : Ent).x || decide (0 < (⟨⟨pa, pb⟩, false, hs⟩ : Ent).hs.length)) = true by simp [h0], if_pos rfl]
      repeat (first | refine q_Z ?_ | ((first | apply O_y rfl rfl rfl | apply Q_y rfl rfl rfl); (first | exact q_A | exact q_5 | exact q_B)) | refine q_d ?_ | refine q_a ?_ | refine q_b ?_ | refine q_c ?_ | refine A_ct rfl ?_ | refine A_cf rfl ?_ | refine q_W ?_ | (first | refine O_appR tabOk rfl rfl rfl rfl rfl rfl rfl rfl rfl rfl rfl (by first | exact Src.row rfl | exact Src.dat _ _ | exact Src.nil) rfl (by omega) ?_ | refine O_appN tabOk rfl rfl rfl rfl rfl rfl rfl rfl rfl rfl (by first | exact Src.row rfl | exact Src.dat _ _ | exact Src.nil) rfl (by omega) ?_))
      exact X_endW AWk.refl rfl (h2 := [(1000, .var [.row 950]), (950, entB (l ++ [⟨⟨pa, pb⟩, false, hs⟩]))]) ⟨rfl, row_eq (by simp) (by simp [entD]) rfl, trivial⟩ ⟨rfl, rfl⟩
    · rw [show ((⟨⟨pa, pb⟩, false, hs⟩ : Ent).x || decide (0 < (⟨⟨pa, pb⟩, false, hs⟩ : Ent).hs.length)) = false by simp [h0], if_neg (by simp)]
      repeat (first | refine q_Z ?_ | ((first | apply O_y rfl rfl rfl | apply Q_y rfl rfl rfl); (first | exact q_A | exact q_5 | exact q_B)) | refine q_d ?_ | refine q_a ?_ | refine q_b ?_ | refine q_c ?_ | refine A_ct rfl ?_ | refine A_cf rfl ?_ | refine q_W ?_ | (first | refine O_appR tabOk rfl rfl rfl rfl rfl rfl rfl rfl rfl rfl rfl (by first | exact Src.row rfl | exact Src.dat _ _ | exact Src.nil) rfl (by omega) ?_ | refine O_appN tabOk rfl rfl rfl rfl rfl rfl rfl rfl rfl rfl (by first | exact Src.row rfl | exact Src.dat _ _ | exact Src.nil) rfl (by omega) ?_))
      exact X_endW AWk.refl rfl (h2 := [(1000, .var [.row 950]), (950, entB l)]) ⟨rfl, rfl, trivial⟩ ⟨rfl, rfl⟩
theorem lostFn_A (x : Ent) (l : List Pfx) (hn : l.length ≤ 1000000) : ACall Tryz.prog 20 [entA x, .ptr 1000 0] [(1000, .var [.row 950]), (950, pfxB l)] (fun c h => c = .tup [] ∧ h = [(1000, .var [.row 950]), (950, pfxB (if x.x || decide (0 < x.hs.length) then l else l ++ [x.p]))]) := by
  obtain ⟨⟨pa, pb⟩, b, hs⟩ := x
  refine ACall_of tabOk Tryz.func20 rfl Tryz.ntmps20 (congrArg Array.toList Tryz.results20) (by kernel_rfl) rfl ?_
  cases b with
  | true =>
    rw [show ((⟨⟨pa, pb⟩, true, hs⟩ : Ent).x || decide (0 < (⟨⟨pa, pb⟩, true, hs⟩ : Ent).hs.length)) = true from rfl, if_pos rfl]
    repeat (first | refine q_Z ?_ | ((first | apply O_y rfl rfl rfl | apply Q_y rfl rfl rfl); (first | exact q_A | exact q_5 | exact q_B)) | refine q_d ?_ | refine q_a ?_ | refine q_b ?_ | refine q_c ?_ | refine A_ct rfl ?_ | refine A_cf rfl ?_ | refine q_W ?_ | (first | refine O_appR tabOk rfl rfl rfl rfl rfl rfl rfl rfl rfl rfl rfl (by first | exact Src.row rfl | exact Src.dat _ _ | exact Src.nil) rfl (by omega) ?_ | refine O_appN tabOk rfl rfl rfl rfl rfl rfl rfl rfl rfl rfl (by first | exact Src.row rfl | exact Src.dat _ _ | exact Src.nil) rfl (by omega) ?_))
    exact X_endW AWk.refl rfl (h2 := [(1000, .var [.row 950]), (950, pfxB l)]) ⟨rfl, rfl, trivial⟩ ⟨rfl, rfl⟩
  | false =>
    by_cases h0 : 0 < hs.length
    · rw [show ((⟨⟨pa, pb⟩, false, hs⟩ : Ent).x || decide (0 < (⟨⟨pa, pb⟩, false, hs⟩ : Ent).hs.length)) = true by simp [h0], if_pos rfl]
      repeat (first | refine q_Z ?_ | ((first | apply O_y rfl rfl rfl | apply Q_y rfl rfl rfl); (first | exact q_A | exact q_5 | exact q_B)) | refine q_d ?_ | refine q_a ?_ | refine q_b ?_ | refine q_c ?_ | refine A_ct rfl ?_ | refine A_cf rfl ?_ | refine q_W ?_ | (first | refine O_appR tabOk rfl rfl rfl rfl rfl rfl rfl rfl rfl rfl rfl (by first | exact Src.row rfl | exact Src.dat _ _ | exact Src.nil) rfl (by omega) ?_ | refine O_appN tabOk rfl rfl rfl rfl rfl rfl rfl rfl rfl rfl (by first | exact Src.row rfl | exact Src.dat _ _ | exact Src.nil) rfl (by omega) ?_))
      exact X_endW AWk.refl rfl (h2 := [(1000, .var [.row 950]), (950, pfxB l)]) ⟨rfl, rfl, trivial⟩ ⟨rfl, rfl⟩
    · rw [show ((⟨⟨pa, pb⟩, false, hs⟩ : Ent).x || decide (0 < (⟨⟨pa, pb⟩, false, hs⟩ : Ent).hs.length)) = false by simp [h0], if_neg (by simp)]
      repeat (first | refine q_Z ?_ | ((first | apply O_y rfl rfl rfl | apply Q_y rfl rfl rfl); (first | exact q_A | exact q_5 | exact q_B)) | refine q_d ?_ | refine q_a ?_ | refine q_b ?_ | refine q_c ?_ | refine A_ct rfl ?_ | refine A_cf rfl ?_ | refine q_W ?_ | (first | refine O_appR tabOk rfl rfl rfl rfl rfl rfl rfl rfl rfl rfl rfl (by first | exact Src.row rfl | exact Src.dat _ _ | exact Src.nil) rfl (by omega) ?_ | refine O_appN tabOk rfl rfl rfl rfl rfl rfl rfl rfl rfl rfl (by first | exact Src.row rfl | exact Src.dat _ _ | exact Src.nil) rfl (by omega) ?_))
      exact X_endW AWk.refl rfl (h2 := [(1000, .var [.row 950]), (950, pfxB (l ++ [⟨pa, pb⟩]))]) ⟨rfl, row_eq (by simp) (by simp [pfxD]) rfl, trivial⟩ ⟨rfl, rfl⟩
end Go.Proofs.YtenolkolkpfjgaaGreat.Ab

namespace Go.Proofs.YtenolkolkpfjgaaGreat.Ab
set_option linter.unusedVariables false
open Go.RowKit
section
variable {nt : Nat} {e : Env} {h : Heap}
theorem Wk_nilC {b id i : Nat} {cs : List AVal} (el k : Nat) (hb : look h b = some (.var cs)) (hi : cs[i]? = some (.d (.sc (.slice none 0 0)))) (hid : Nat.blt id 1000 = true) (hne : Nat.beq b id = false) :
    AWk nt e h (killE id e) ((b, .var ((cs.map (killV id)).set i (.row id))) :: (id, .row el k 0 []) :: killH id h) := fun Pm F w0 pin ι a w R => by
  have hid' : id < 1000 := by simp [Nat.blt] at hid; omega
  have hne' := of_beq_no hne
  have TT : Touch w ι id (.slice none 0 0) w := ⟨rfl, rfl, rfl, Nat.le_refl _, fun _ _ _ => rfl, fun r hr => by cases hr⟩
  have H1 := R.heap.touch TT (.inl hid') (b' := .row el k 0 []) ⟨[], World.ownsRow_nil _ _ _ _, rfl, by simp⟩
  obtain ⟨v, hv, r, C, T, rfl, hC, hlC, hrr⟩ := R.heap.blk b _ hb
  have hv1 : upd ι id (some (.slice none 0 0)) b = some (.pointer (some ⟨r, 0, none⟩)) := by simp [upd, hne', hv]
  have hW : Wrote w (.pointer (some ⟨r, 0, none⟩)) w := ⟨rfl, rfl, rfl, Nat.le_refl _, fun _ _ _ => rfl⟩
  have H2 := H1.wrote (b' := .var ((cs.map (killV id)).set i (.row id))) hW hv1 ⟨r, C, T, rfl, hC, by rw [List.length_set, List.length_map]; exact hlC, fun j c u h1 h2 => by
    rw [List.getElem?_set] at h1
    by_cases hij : i = j
    · subst hij
      rw [if_pos rfl] at h1
      split at h1
      · cases h1
        have h3 := hrr i _ u hi h2
        refine .row id u (by rw [(sc_of h3).1]; rfl) fun v' hv' => ?_
        simp [upd] at hv'
        rw [(sc_of h3).1, hv']
      · cases h1
    · rw [if_neg hij, List.getElem?_map] at h1
      cases hc : cs[j]? with
      | none => rw [hc] at h1; cases h1
      | some c0 => rw [hc] at h1; cases h1; exact (hrr j c0 u hc h2).killed TT.ext⟩
  exact ⟨_, H2, R.env.killed TT.ext, R.defers.ext TT.ext, R.size⟩
theorem Wk_seeC {b i : Nat} {cs : List AVal} (hb : look h b = some (.var cs)) (hi : cs[i]? = some (.d (.sc (.slice none 0 0)))) : AWk nt e h e ((b, .var (cs.set i (.d (.sl [] 0)))) :: h) := fun Pm F w0 pin ι a w R => by
  obtain ⟨v, hv, r, C, T, rfl, hC, hlC, hrr⟩ := R.heap.blk b _ hb
  have hW : Wrote w (.pointer (some ⟨r, 0, none⟩)) w := ⟨rfl, rfl, rfl, Nat.le_refl _, fun _ _ _ => rfl⟩
  have H2 := R.heap.wrote (b' := .var (cs.set i (.d (.sl [] 0)))) hW hv ⟨r, C, T, rfl, hC, by rw [List.length_set]; exact hlC, fun j c u h1 h2 => by
    rw [List.getElem?_set] at h1
    by_cases hij : i = j
    · subst hij
      rw [if_pos rfl] at h1
      split at h1
      · cases h1; exact see_nil _ _ _ _ (hrr i _ u hi h2)
      · cases h1
    · rw [if_neg hij] at h1; exact hrr j c u h1 h2⟩
  exact ⟨_, H2, R.env, R.defers, R.size⟩
end
theorem see_ent {a b c : Dat} (w : World) (F : Nat → Prop) (ι : Nat → Option Value) (u : Value) (h : VRel w F ι (.agg [.d a, .d b, .d c, .d (.sc (.slice none 0 0))]) u) : VRel w F ι (.agg [.d a, .d b, .d c, .d (.sl [] 0)]) u := by
  cases h with
  | agg _ C hl h =>
    refine .agg _ C hl fun i c u hc hu => ?_
    match i, hc, hu with
    | 0, hc, hu => exact h 0 c u hc hu
    | 1, hc, hu => exact h 1 c u hc hu
    | 2, hc, hu => exact h 2 c u hc hu
    | 3, hc, hu => cases hc; exact see_nil _ _ _ _ (h 3 _ u rfl hu)
end Go.Proofs.YtenolkolkpfjgaaGreat.Ab

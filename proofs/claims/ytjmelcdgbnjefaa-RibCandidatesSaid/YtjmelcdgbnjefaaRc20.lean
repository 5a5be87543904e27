/-
  Texts of a proof, one behind the other (part 21).
-/
import Derived.Test.YtjmelcdgbnjefaaRc2
import Derived.Test.YtjmelcdgbnjefaaRc5
import Derived.Test.YtjmelcdgbnjefaaRc19
set_option linter.unusedVariables false
set_option linter.unusedSimpArgs false
namespace Go.Proofs.Ytjmelcdgbnjefaa
def distB (from_ : Int) : Option (Int × Int) := if from_ = 1 then some (0, 0) else if from_ = 3 ∨ from_ = 4 then some (110, 10) else if from_ = 5 ∨ from_ = 6 then some (110, 150) else if from_ = 7 then some (20, 170) else if from_ = 8 then some (200, 170) else none
def distR (kind from_ : Int) : Int × Bool := match distB from_ with
  | some (a, b) => if kind = 1 then (a, true) else if kind = 2 then (b, true) else (0, false)
  | none => (0, false)
def distM : List (Int × (Int × Int)) := [(1, (0, 0)), (3, (110, 10)), (4, (110, 10)), (5, (110, 150)), (6, (110, 150)), (7, (20, 170)), (8, (200, 170))]
theorem distM_get (f : Int) : aget distM f = distB f := by
  unfold distB distM aget
  simp only [mget]
  by_cases h1 : f = 1
  · subst h1; rfl
  by_cases h3 : f = 3
  · subst h3; rfl
  by_cases h4 : f = 4
  · subst h4; rfl
  by_cases h5 : f = 5
  · subst h5; rfl
  by_cases h6 : f = 6
  · subst h6; rfl
  by_cases h7 : f = 7
  · subst h7; rfl
  by_cases h8 : f = 8
  · subst h8; rfl
  simp [h1, h3, h4, h5, h6, h7, h8]
namespace Ab
set_option linter.unusedVariables false
set_option maxRecDepth 100000
open Go.RowKit Go.Lib
set_option linter.unusedSimpArgs false
attribute [local irreducible] AWp AOps AQ AYield AEff ACall AWk AAny AAt AThen AIn APost NoPanic
theorem refPick_A (b : Bool) (x y : Int) : ACall Try.prog 22 [boolA b, intA x, intA y] [] (Just (intA (if b then x else y))) := by
  cases b
  · refine ACall_of tabOk Try.func22 rfl Try.ntmps22 (congrArg Array.toList Try.results22) (by kernel_rfl) rfl ?_
    repeat (first | refine A_seq ?_ | refine A_block ?_ | refine R_list ?_ | refine R_quiet rfl mixed (by kernel_rfl) ?_ | ((first | apply O_y rfl rfl rfl | apply Q_y rfl rfl rfl); (first | exact q_1 | exact q_2 | exact q_3 | exact q_4 | exact q_5 | exact q_6 | exact q_7 | exact q_8 | exact q_9 | exact q_10 | exact q_11 | exact q_12 | exact q_13 | exact q_14 | exact q_15 | exact q_16 | exact q_17 | exact q_18 | exact q_19 | exact q_20 | exact q_21 | exact q_22 | exact q_23 | exact q_24 | fail)) | refine O_nil ?_ | refine Q_nil ?_ | refine q_j ?_ | refine q_k ?_ | refine q_d ?_ | refine q_a ?_ | refine q_b ?_ | refine q_c ?_ | refine A_ct rfl ?_ | refine A_cf rfl ?_ | refine A_skip ?_ | refine A_exit ?_ | refine A_ret ?_ | refine q_l ?_ | refine q_m ?_ | refine q_n ?_ | refine q_h ?_ | refine q_o ?_ | refine q_e ?_ | refine q_f ?_ | refine q_g ?_ | fail)
    exact X_ret rfl ⟨rfl, rfl⟩
  · refine ACall_of tabOk Try.func22 rfl Try.ntmps22 (congrArg Array.toList Try.results22) (by kernel_rfl) rfl ?_
    repeat (first | refine A_seq ?_ | refine A_block ?_ | refine R_list ?_ | refine R_quiet rfl mixed (by kernel_rfl) ?_ | ((first | apply O_y rfl rfl rfl | apply Q_y rfl rfl rfl); (first | exact q_1 | exact q_2 | exact q_3 | exact q_4 | exact q_5 | exact q_6 | exact q_7 | exact q_8 | exact q_9 | exact q_10 | exact q_11 | exact q_12 | exact q_13 | exact q_14 | exact q_15 | exact q_16 | exact q_17 | exact q_18 | exact q_19 | exact q_20 | exact q_21 | exact q_22 | exact q_23 | exact q_24 | fail)) | refine O_nil ?_ | refine Q_nil ?_ | refine q_j ?_ | refine q_k ?_ | refine q_d ?_ | refine q_a ?_ | refine q_b ?_ | refine q_c ?_ | refine A_ct rfl ?_ | refine A_cf rfl ?_ | refine A_skip ?_ | refine A_exit ?_ | refine A_ret ?_ | refine q_l ?_ | refine q_m ?_ | refine q_n ?_ | refine q_h ?_ | refine q_o ?_ | refine q_e ?_ | refine q_f ?_ | refine q_g ?_ | fail)
    exact X_ret rfl ⟨rfl, rfl⟩
abbrev u8A (x : Int) : AVal := .d (.sc (.int .u8 x))
def two (p : Int × Int) : AVal := .agg [intA p.1, intA p.2]
theorem u8_rel (k : Int) (w : World) (F : Nat → Prop) (ι : Nat → Option Value) : VRel w F ι (u8A k) (.int .u8 k) := .d _ _ (.sc _ rfl)
theorem u8Key : KeyLaw Try.prog 5 (fun a : Int => .int .u8 a) (fun _ => True) := intKey Try.underlying5
theorem zero2 : ∀ W, (zeroValue 62).run Try.prog W = .ok (.agg #[.int .i64 0, .int .i64 0]) W := fun W => by
  have h : tlook tab 62 = some _ := rfl
  obtain ⟨z, h1, h2, i, h3, h4, _⟩ := (tabOk _ _ h).zero W
  have hi : Try.prog.info? 62 = some i := h3
  rw [h1]
  have : i.zero = some (.agg #[.int .i64 0, .int .i64 0]) := by
    have : (Try.prog.info? 62).bind (·.zero) = some (.agg #[.int .i64 0, .int .i64 0]) := by kernel_rfl
    rw [hi] at this; exact this
  rw [h4] at this
  cases this; rfl
set_option maxHeartbeats 8000000 in
theorem ribDist_A (kind from_ : Int) (hk : okC kind) : ACall Try.prog 5 [u8A kind, u8A from_] [] (Just (.tup [intA (distR kind from_).1, boolA (distR kind from_).2])) := by
  have hg := distM_get from_
  have hnd : (distM.map (·.1)).Nodup := by decide
  refine ACall_of tabOk Try.func5 rfl Try.ntmps5 (congrArg Array.toList Try.results5) (by kernel_rfl) rfl ?_
  repeat (first | refine A_seq ?_ | refine A_block ?_ | refine R_list ?_ | ((first | apply O_y rfl rfl rfl | apply Q_y rfl rfl rfl); (first | exact q_1 | exact q_2 | exact q_3 | exact q_4 | exact q_5 | exact q_6 | exact q_7 | exact q_8 | exact q_9 | exact q_10 | exact q_11 | exact q_12 | exact q_13 | exact q_14 | exact q_15 | exact q_16 | exact q_17 | exact q_18 | exact q_19 | exact q_20 | exact q_21 | exact q_22 | exact q_23 | exact q_24 | fail)) | refine O_nil ?_ | refine Q_nil ?_ | refine q_j ?_ | refine q_k ?_ | refine q_d ?_ | refine q_a ?_ | refine q_b ?_ | refine q_c ?_ | refine A_ct rfl ?_ | refine A_cf rfl ?_ | refine A_skip ?_ | refine A_exit ?_ | refine A_ret ?_ | refine q_l ?_ | refine q_m ?_ | refine q_n ?_ | refine q_h ?_ | refine q_o ?_ | refine q_e ?_ | refine q_f ?_ | refine q_g ?_ | fail)
  refine O_makeMap 9 rfl rfl rfl rfl rfl ?_
  apply O_y rfl rfl rfl
  exact R_buildArr tabOk rfl rfl rfl rfl rfl rfl
  refine O_insert (ka := u8A) (xa := two) (k := 1) (q := (0, 0)) (l := []) u8Key (fun _ => rfl) u8_rel trivial (fun _ _ => trivial) (by decide) tabOk rfl rfl rfl rfl rfl rfl rfl rfl ?_
  refine O_weaken (Wk_sel (e1 := [(0, u8A kind), (1, u8A from_), (9, .mp 9)]) (h1 := [(9, .map (ents u8A two ([] ++ [(1, (0, 0))])))]) ⟨rfl, rfl, rfl, trivial⟩ ⟨rfl, trivial⟩) ?_
  apply O_y rfl rfl rfl
  exact R_buildArr tabOk rfl rfl rfl rfl rfl rfl
  refine O_insert (ka := u8A) (xa := two) (k := 3) (q := (110, 10)) (l := [(1, (0, 0))]) u8Key (fun _ => rfl) u8_rel trivial (fun _ _ => trivial) (by decide) tabOk rfl rfl rfl rfl rfl rfl rfl rfl ?_
  refine O_weaken (Wk_sel (e1 := [(0, u8A kind), (1, u8A from_), (9, .mp 9)]) (h1 := [(9, .map (ents u8A two ([(1, (0, 0))] ++ [(3, (110, 10))])))]) ⟨rfl, rfl, rfl, trivial⟩ ⟨rfl, trivial⟩) ?_
  apply O_y rfl rfl rfl
  exact R_buildArr tabOk rfl rfl rfl rfl rfl rfl
  refine O_insert (ka := u8A) (xa := two) (k := 4) (q := (110, 10)) (l := [(1, (0, 0)), (3, (110, 10))]) u8Key (fun _ => rfl) u8_rel trivial (fun _ _ => trivial) (by decide) tabOk rfl rfl rfl rfl rfl rfl rfl rfl ?_
  refine O_weaken (Wk_sel (e1 := [(0, u8A kind), (1, u8A from_), (9, .mp 9)]) (h1 := [(9, .map (ents u8A two ([(1, (0, 0)), (3, (110, 10))] ++ [(4, (110, 10))])))]) ⟨rfl, rfl, rfl, trivial⟩ ⟨rfl, trivial⟩) ?_
  apply O_y rfl rfl rfl
  exact R_buildArr tabOk rfl rfl rfl rfl rfl rfl
  refine O_insert (ka := u8A) (xa := two) (k := 5) (q := (110, 150)) (l := [(1, (0, 0)), (3, (110, 10)), (4, (110, 10))]) u8Key (fun _ => rfl) u8_rel trivial (fun _ _ => trivial) (by decide) tabOk rfl rfl rfl rfl rfl rfl rfl rfl ?_
  refine O_weaken (Wk_sel (e1 := [(0, u8A kind), (1, u8A from_), (9, .mp 9)]) (h1 := [(9, .map (ents u8A two ([(1, (0, 0)), (3, (110, 10)), (4, (110, 10))] ++ [(5, (110, 150))])))]) ⟨rfl, rfl, rfl, trivial⟩ ⟨rfl, trivial⟩) ?_
  apply O_y rfl rfl rfl
  exact R_buildArr tabOk rfl rfl rfl rfl rfl rfl
  refine O_insert (ka := u8A) (xa := two) (k := 6) (q := (110, 150)) (l := [(1, (0, 0)), (3, (110, 10)), (4, (110, 10)), (5, (110, 150))]) u8Key (fun _ => rfl) u8_rel trivial (fun _ _ => trivial) (by decide) tabOk rfl rfl rfl rfl rfl rfl rfl rfl ?_
  refine O_weaken (Wk_sel (e1 := [(0, u8A kind), (1, u8A from_), (9, .mp 9)]) (h1 := [(9, .map (ents u8A two ([(1, (0, 0)), (3, (110, 10)), (4, (110, 10)), (5, (110, 150))] ++ [(6, (110, 150))])))]) ⟨rfl, rfl, rfl, trivial⟩ ⟨rfl, trivial⟩) ?_
  apply O_y rfl rfl rfl
  exact R_buildArr tabOk rfl rfl rfl rfl rfl rfl
  refine O_insert (ka := u8A) (xa := two) (k := 7) (q := (20, 170)) (l := [(1, (0, 0)), (3, (110, 10)), (4, (110, 10)), (5, (110, 150)), (6, (110, 150))]) u8Key (fun _ => rfl) u8_rel trivial (fun _ _ => trivial) (by decide) tabOk rfl rfl rfl rfl rfl rfl rfl rfl ?_
  refine O_weaken (Wk_sel (e1 := [(0, u8A kind), (1, u8A from_), (9, .mp 9)]) (h1 := [(9, .map (ents u8A two ([(1, (0, 0)), (3, (110, 10)), (4, (110, 10)), (5, (110, 150)), (6, (110, 150))] ++ [(7, (20, 170))])))]) ⟨rfl, rfl, rfl, trivial⟩ ⟨rfl, trivial⟩) ?_
  apply O_y rfl rfl rfl
  exact R_buildArr tabOk rfl rfl rfl rfl rfl rfl
  refine O_insert (ka := u8A) (xa := two) (k := 8) (q := (200, 170)) (l := [(1, (0, 0)), (3, (110, 10)), (4, (110, 10)), (5, (110, 150)), (6, (110, 150)), (7, (20, 170))]) u8Key (fun _ => rfl) u8_rel trivial (fun _ _ => trivial) (by decide) tabOk rfl rfl rfl rfl rfl rfl rfl rfl ?_
  refine O_weaken (Wk_sel (e1 := [(0, u8A kind), (1, u8A from_), (9, .mp 9)]) (h1 := [(9, .map (ents u8A two ([(1, (0, 0)), (3, (110, 10)), (4, (110, 10)), (5, (110, 150)), (6, (110, 150)), (7, (20, 170))] ++ [(8, (200, 170))])))]) ⟨rfl, rfl, rfl, trivial⟩ ⟨rfl, trivial⟩) ?_
  refine O_weaken (Wk_sel (e1 := [(0, u8A kind), (1, u8A from_), (9, .mp 9)]) (h1 := [(9, .map (ents u8A two distM))]) ⟨rfl, rfl, rfl, trivial⟩ ⟨rfl, trivial⟩) ?_
  unfold distR
  cases hd : distB from_ with
  | none =>
    rw [hd] at hg
    repeat (first | refine A_seq ?_ | refine A_block ?_ | refine R_list ?_ | ((first | apply O_y rfl rfl rfl | apply Q_y rfl rfl rfl); (first | exact q_1 | exact q_2 | exact q_3 | exact q_4 | exact q_5 | exact q_6 | exact q_7 | exact q_8 | exact q_9 | exact q_10 | exact q_11 | exact q_12 | exact q_13 | exact q_14 | exact q_15 | exact q_16 | exact q_17 | exact q_18 | exact q_19 | exact q_20 | exact q_21 | exact q_22 | exact q_23 | exact q_24 | (exact R_lkOutA (two (0, 0)) (fun w F ι => val_mk _ _ _ _ _ rfl rfl) (k := from_) (l := distM) u8Key (fun _ => rfl) zero2 trivial (fun _ _ => trivial) hnd hg tabOk rfl rfl rfl rfl rfl rfl))) | refine O_nil ?_ | refine Q_nil ?_ | refine q_j ?_ | refine q_k ?_ | refine q_d ?_ | refine q_a ?_ | refine q_b ?_ | refine q_c ?_ | refine A_ct rfl ?_ | refine A_cf rfl ?_ | refine A_skip ?_ | refine A_exit ?_ | refine A_ret ?_ | refine q_l ?_ | refine q_m ?_ | refine q_n ?_ | refine q_h ?_ | refine q_o ?_ | refine q_e ?_ | refine q_f ?_ | refine q_g ?_ | fail)
    exact X_ret rfl ⟨rfl, rfl⟩
  | some p =>
    rw [hd] at hg
    obtain ⟨a, b⟩ := p
    by_cases h1 : kind = 1
    · subst h1
      repeat (first | refine A_seq ?_ | refine A_block ?_ | refine R_list ?_ | ((first | apply O_y rfl rfl rfl | apply Q_y rfl rfl rfl); (first | exact q_1 | exact q_2 | exact q_3 | exact q_4 | exact q_5 | exact q_6 | exact q_7 | exact q_8 | exact q_9 | exact q_10 | exact q_11 | exact q_12 | exact q_13 | exact q_14 | exact q_15 | exact q_16 | exact q_17 | exact q_18 | exact q_19 | exact q_20 | exact q_21 | exact q_22 | exact q_23 | exact q_24 | (first | exact R_lkIn (k := from_) (l := distM) u8Key (fun _ => rfl) zero2 trivial (fun _ _ => trivial) hnd hg tabOk rfl rfl rfl rfl rfl rfl | exact R_ixp (j := 0) tabOk rfl rfl rfl rfl rfl rfl rfl (by decide)))) | refine O_nil ?_ | refine Q_nil ?_ | refine q_j ?_ | refine q_k ?_ | refine q_d ?_ | refine q_a ?_ | refine q_b ?_ | refine q_c ?_ | refine A_ct rfl ?_ | refine A_cf rfl ?_ | refine A_skip ?_ | refine A_exit ?_ | refine A_ret ?_ | refine q_l ?_ | refine q_m ?_ | refine q_n ?_ | refine q_h ?_ | refine q_o ?_ | refine q_e ?_ | refine q_f ?_ | refine q_g ?_ | fail)
      exact X_ret rfl ⟨rfl, rfl⟩
    · by_cases h2 : kind = 2
      · subst h2
        repeat (first | refine A_seq ?_ | refine A_block ?_ | refine R_list ?_ | ((first | apply O_y rfl rfl rfl | apply Q_y rfl rfl rfl); (first | exact q_1 | exact q_2 | exact q_3 | exact q_4 | exact q_5 | exact q_6 | exact q_7 | exact q_8 | exact q_9 | exact q_10 | exact q_11 | exact q_12 | exact q_13 | exact q_14 | exact q_15 | exact q_16 | exact q_17 | exact q_18 | exact q_19 | exact q_20 | exact q_21 | exact q_22 | exact q_23 | exact q_24 | (first | exact R_lkIn (k := from_) (l := distM) u8Key (fun _ => rfl) zero2 trivial (fun _ _ => trivial) hnd hg tabOk rfl rfl rfl rfl rfl rfl | exact R_ixp (j := 1) tabOk rfl rfl rfl rfl rfl rfl rfl (by decide)))) | refine O_nil ?_ | refine Q_nil ?_ | refine q_j ?_ | refine q_k ?_ | refine q_d ?_ | refine q_a ?_ | refine q_b ?_ | refine q_c ?_ | refine A_ct rfl ?_ | refine A_cf rfl ?_ | refine A_skip ?_ | refine A_exit ?_ | refine A_ret ?_ | refine q_l ?_ | refine q_m ?_ | refine q_n ?_ | refine q_h ?_ | refine q_o ?_ | refine q_e ?_ | refine q_f ?_ | refine q_g ?_ | fail)
        exact X_ret rfl ⟨rfl, rfl⟩
      · dsimp only
        rw [if_neg h1, if_neg h2]
        repeat (first | refine A_seq ?_ | refine A_block ?_ | refine R_list ?_ | ((first | apply O_y rfl rfl rfl | apply Q_y rfl rfl rfl); (first | exact q_1 | exact q_2 | exact q_3 | exact q_4 | exact q_5 | exact q_6 | exact q_7 | exact q_8 | exact q_9 | exact q_10 | exact q_11 | exact q_12 | exact q_13 | exact q_14 | exact q_15 | exact q_16 | exact q_17 | exact q_18 | exact q_19 | exact q_20 | exact q_21 | exact q_22 | exact q_23 | exact q_24 | (exact R_lkIn (k := from_) (l := distM) u8Key (fun _ => rfl) zero2 trivial (fun _ _ => trivial) hnd hg tabOk rfl rfl rfl rfl rfl rfl))) | refine O_nil ?_ | refine Q_nil ?_ | refine q_j ?_ | refine q_k ?_ | refine q_d ?_ | refine q_a ?_ | refine q_b ?_ | refine q_c ?_ | refine A_ct rfl ?_ | refine A_cf rfl ?_ | refine A_skip ?_ | refine A_exit ?_ | refine A_ret ?_ | refine q_l ?_ | refine q_m ?_ | refine q_n ?_ | refine q_h ?_ | refine q_o ?_ | refine q_e ?_ | refine q_f ?_ | refine q_g ?_ | fail)
        exact X_ret rfl ⟨rfl, rfl⟩
set_option maxHeartbeats 8000000 in
theorem refRibDist_A (kind from_ : Int) : ACall Try.prog 6 [u8A kind, u8A from_] [] (Just (.tup [intA (distR kind from_).1, boolA (distR kind from_).2])) := by
  have ht := refPick_A true
  have hf := refPick_A false
  have p1 := ht 110 10
  have p2 := ht 110 150
  have p3 := ht 20 170
  have p4 := ht 200 170
  have q1 := hf 110 10
  have q2 := hf 110 150
  have q3 := hf 20 170
  have q4 := hf 200 170
  unfold distR distB
  by_cases h1 : kind = 1
  · subst h1
    by_cases f1 : from_ = 1
    · subst f1
      refine ACall_of tabOk Try.func6 rfl Try.ntmps6 (congrArg Array.toList Try.results6) (by kernel_rfl) rfl ?_
      repeat (first | refine A_seq ?_ | refine A_block ?_ | refine R_list ?_ | ((first | apply O_y rfl rfl rfl | apply Q_y rfl rfl rfl); (first | exact q_1 | exact q_2 | exact q_3 | exact q_4 | exact q_5 | exact q_6 | exact q_7 | exact q_8 | exact q_9 | exact q_10 | exact q_11 | exact q_12 | exact q_13 | exact q_14 | exact q_15 | exact q_16 | exact q_17 | exact q_18 | exact q_19 | exact q_20 | exact q_21 | exact q_22 | exact q_23 | exact q_24 | fail)) | refine O_nil ?_ | refine Q_nil ?_ | refine q_j ?_ | refine q_k ?_ | refine q_d ?_ | refine q_a ?_ | refine q_b ?_ | refine q_c ?_ | refine A_ct rfl ?_ | refine A_cf rfl ?_ | refine A_skip ?_ | refine A_exit ?_ | refine A_ret ?_ | refine q_l ?_ | refine q_m ?_ | refine q_n ?_ | refine q_h ?_ | refine q_o ?_ | refine q_e ?_ | refine q_f ?_ | refine q_g ?_ | (first | refine O_c rfl rfl rfl rfl rfl p1 (fun _ => rfl) ?_ | refine O_c rfl rfl rfl rfl rfl p2 (fun _ => rfl) ?_ | refine O_c rfl rfl rfl rfl rfl p3 (fun _ => rfl) ?_ | refine O_c rfl rfl rfl rfl rfl p4 (fun _ => rfl) ?_ | refine O_c rfl rfl rfl rfl rfl q1 (fun _ => rfl) ?_ | refine O_c rfl rfl rfl rfl rfl q2 (fun _ => rfl) ?_ | refine O_c rfl rfl rfl rfl rfl q3 (fun _ => rfl) ?_ | refine O_c rfl rfl rfl rfl rfl q4 (fun _ => rfl) ?_))
      exact X_ret rfl ⟨rfl, rfl⟩
    by_cases f3 : from_ = 3
    · subst f3
      refine ACall_of tabOk Try.func6 rfl Try.ntmps6 (congrArg Array.toList Try.results6) (by kernel_rfl) rfl ?_
      repeat (first | refine A_seq ?_ | refine A_block ?_ | refine R_list ?_ | ((first | apply O_y rfl rfl rfl | apply Q_y rfl rfl rfl); (first | exact q_1 | exact q_2 | exact q_3 | exact q_4 | exact q_5 | exact q_6 | exact q_7 | exact q_8 | exact q_9 | exact q_10 | exact q_11 | exact q_12 | exact q_13 | exact q_14 | exact q_15 | exact q_16 | exact q_17 | exact q_18 | exact q_19 | exact q_20 | exact q_21 | exact q_22 | exact q_23 | exact q_24 | fail)) | refine O_nil ?_ | refine Q_nil ?_ | refine q_j ?_ | refine q_k ?_ | refine q_d ?_ | refine q_a ?_ | refine q_b ?_ | refine q_c ?_ | refine A_ct rfl ?_ | refine A_cf rfl ?_ | refine A_skip ?_ | refine A_exit ?_ | refine A_ret ?_ | refine q_l ?_ | refine q_m ?_ | refine q_n ?_ | refine q_h ?_ | refine q_o ?_ | refine q_e ?_ | refine q_f ?_ | refine q_g ?_ | (first | refine O_c rfl rfl rfl rfl rfl p1 (fun _ => rfl) ?_ | refine O_c rfl rfl rfl rfl rfl p2 (fun _ => rfl) ?_ | refine O_c rfl rfl rfl rfl rfl p3 (fun _ => rfl) ?_ | refine O_c rfl rfl rfl rfl rfl p4 (fun _ => rfl) ?_ | refine O_c rfl rfl rfl rfl rfl q1 (fun _ => rfl) ?_ | refine O_c rfl rfl rfl rfl rfl q2 (fun _ => rfl) ?_ | refine O_c rfl rfl rfl rfl rfl q3 (fun _ => rfl) ?_ | refine O_c rfl rfl rfl rfl rfl q4 (fun _ => rfl) ?_))
      exact X_ret rfl ⟨rfl, rfl⟩
    by_cases f4 : from_ = 4
    · subst f4
      refine ACall_of tabOk Try.func6 rfl Try.ntmps6 (congrArg Array.toList Try.results6) (by kernel_rfl) rfl ?_
      repeat (first | refine A_seq ?_ | refine A_block ?_ | refine R_list ?_ | ((first | apply O_y rfl rfl rfl | apply Q_y rfl rfl rfl); (first | exact q_1 | exact q_2 | exact q_3 | exact q_4 | exact q_5 | exact q_6 | exact q_7 | exact q_8 | exact q_9 | exact q_10 | exact q_11 | exact q_12 | exact q_13 | exact q_14 | exact q_15 | exact q_16 | exact q_17 | exact q_18 | exact q_19 | exact q_20 | exact q_21 | exact q_22 | exact q_23 | exact q_24 | fail)) | refine O_nil ?_ | refine Q_nil ?_ | refine q_j ?_ | refine q_k ?_ | refine q_d ?_ | refine q_a ?_ | refine q_b ?_ | refine q_c ?_ | refine A_ct rfl ?_ | refine A_cf rfl ?_ | refine A_skip ?_ | refine A_exit ?_ | refine A_ret ?_ | refine q_l ?_ | refine q_m ?_ | refine q_n ?_ | refine q_h ?_ | refine q_o ?_ | refine q_e ?_ | refine q_f ?_ | refine q_g ?_ | (first | refine O_c rfl rfl rfl rfl rfl p1 (fun _ => rfl) ?_ | refine O_c rfl rfl rfl rfl rfl p2 (fun _ => rfl) ?_ | refine O_c rfl rfl rfl rfl rfl p3 (fun _ => rfl) ?_ | refine O_c rfl rfl rfl rfl rfl p4 (fun _ => rfl) ?_ | refine O_c rfl rfl rfl rfl rfl q1 (fun _ => rfl) ?_ | refine O_c rfl rfl rfl rfl rfl q2 (fun _ => rfl) ?_ | refine O_c rfl rfl rfl rfl rfl q3 (fun _ => rfl) ?_ | refine O_c rfl rfl rfl rfl rfl q4 (fun _ => rfl) ?_))
      exact X_ret rfl ⟨rfl, rfl⟩
    by_cases f5 : from_ = 5
    · subst f5
      refine ACall_of tabOk Try.func6 rfl Try.ntmps6 (congrArg Array.toList Try.results6) (by kernel_rfl) rfl ?_
      repeat (first | refine A_seq ?_ | refine A_block ?_ | refine R_list ?_ | ((first | apply O_y rfl rfl rfl | apply Q_y rfl rfl rfl); (first | exact q_1 | exact q_2 | exact q_3 | exact q_4 | exact q_5 | exact q_6 | exact q_7 | exact q_8 | exact q_9 | exact q_10 | exact q_11 | exact q_12 | exact q_13 | exact q_14 | exact q_15 | exact q_16 | exact q_17 | exact q_18 | exact q_19 | exact q_20 | exact q_21 | exact q_22 | exact q_23 | exact q_24 | fail)) | refine O_nil ?_ | refine Q_nil ?_ | refine q_j ?_ | refine q_k ?_ | refine q_d ?_ | refine q_a ?_ | refine q_b ?_ | refine q_c ?_ | refine A_ct rfl ?_ | refine A_cf rfl ?_ | refine A_skip ?_ | refine A_exit ?_ | refine A_ret ?_ | refine q_l ?_ | refine q_m ?_ | refine q_n ?_ | refine q_h ?_ | refine q_o ?_ | refine q_e ?_ | refine q_f ?_ | refine q_g ?_ | (first | refine O_c rfl rfl rfl rfl rfl p1 (fun _ => rfl) ?_ | refine O_c rfl rfl rfl rfl rfl p2 (fun _ => rfl) ?_ | refine O_c rfl rfl rfl rfl rfl p3 (fun _ => rfl) ?_ | refine O_c rfl rfl rfl rfl rfl p4 (fun _ => rfl) ?_ | refine O_c rfl rfl rfl rfl rfl q1 (fun _ => rfl) ?_ | refine O_c rfl rfl rfl rfl rfl q2 (fun _ => rfl) ?_ | refine O_c rfl rfl rfl rfl rfl q3 (fun _ => rfl) ?_ | refine O_c rfl rfl rfl rfl rfl q4 (fun _ => rfl) ?_))
      exact X_ret rfl ⟨rfl, rfl⟩
    by_cases f6 : from_ = 6
    · subst f6
      refine ACall_of tabOk Try.func6 rfl Try.ntmps6 (congrArg Array.toList Try.results6) (by kernel_rfl) rfl ?_
      repeat (first | refine A_seq ?_ | refine A_block ?_ | refine R_list ?_ | ((first | apply O_y rfl rfl rfl | apply Q_y rfl rfl rfl); (first | exact q_1 | exact q_2 | exact q_3 | exact q_4 | exact q_5 | exact q_6 | exact q_7 | exact q_8 | exact q_9 | exact q_10 | exact q_11 | exact q_12 | exact q_13 | exact q_14 | exact q_15 | exact q_16 | exact q_17 | exact q_18 | exact q_19 | exact q_20 | exact q_21 | exact q_22 | exact q_23 | exact q_24 | fail)) | refine O_nil ?_ | refine Q_nil ?_ | refine q_j ?_ | refine q_k ?_ | refine q_d ?_ | refine q_a ?_ | refine q_b ?_ | refine q_c ?_ | refine A_ct rfl ?_ | refine A_cf rfl ?_ | refine A_skip ?_ | refine A_exit ?_ | refine A_ret ?_ | refine q_l ?_ | refine q_m ?_ | refine q_n ?_ | refine q_h ?_ | refine q_o ?_ | refine q_e ?_ | refine q_f ?_ | refine q_g ?_ | (first | refine O_c rfl rfl rfl rfl rfl p1 (fun _ => rfl) ?_ | refine O_c rfl rfl rfl rfl rfl p2 (fun _ => rfl) ?_ | refine O_c rfl rfl rfl rfl rfl p3 (fun _ => rfl) ?_ | refine O_c rfl rfl rfl rfl rfl p4 (fun _ => rfl) ?_ | refine O_c rfl rfl rfl rfl rfl q1 (fun _ => rfl) ?_ | refine O_c rfl rfl rfl rfl rfl q2 (fun _ => rfl) ?_ | refine O_c rfl rfl rfl rfl rfl q3 (fun _ => rfl) ?_ | refine O_c rfl rfl rfl rfl rfl q4 (fun _ => rfl) ?_))
      exact X_ret rfl ⟨rfl, rfl⟩
    by_cases f7 : from_ = 7
    · subst f7
      refine ACall_of tabOk Try.func6 rfl Try.ntmps6 (congrArg Array.toList Try.results6) (by kernel_rfl) rfl ?_
      repeat (first | refine A_seq ?_ | refine A_block ?_ | refine R_list ?_ | ((first | apply O_y rfl rfl rfl | apply Q_y rfl rfl rfl); (first | exact q_1 | exact q_2 | exact q_3 | exact q_4 | exact q_5 | exact q_6 | exact q_7 | exact q_8 | exact q_9 | exact q_10 | exact q_11 | exact q_12 | exact q_13 | exact q_14 | exact q_15 | exact q_16 | exact q_17 | exact q_18 | exact q_19 | exact q_20 | exact q_21 | exact q_22 | exact q_23 | exact q_24 | fail)) | refine O_nil ?_ | refine Q_nil ?_ | refine q_j ?_ | refine q_k ?_ | refine q_d ?_ | refine q_a ?_ | refine q_b ?_ | refine q_c ?_ | refine A_ct rfl ?_ | refine A_cf rfl ?_ | refine A_skip ?_ | refine A_exit ?_ | refine A_ret ?_ | refine q_l ?_ | refine q_m ?_ | refine q_n ?_ | refine q_h ?_ | refine q_o ?_ | refine q_e ?_ | refine q_f ?_ | refine q_g ?_ | (first | refine O_c rfl rfl rfl rfl rfl p1 (fun _ => rfl) ?_ | refine O_c rfl rfl rfl rfl rfl p2 (fun _ => rfl) ?_ | refine O_c rfl rfl rfl rfl rfl p3 (fun _ => rfl) ?_ | refine O_c rfl rfl rfl rfl rfl p4 (fun _ => rfl) ?_ | refine O_c rfl rfl rfl rfl rfl q1 (fun _ => rfl) ?_ | refine O_c rfl rfl rfl rfl rfl q2 (fun _ => rfl) ?_ | refine O_c rfl rfl rfl rfl rfl q3 (fun _ => rfl) ?_ | refine O_c rfl rfl rfl rfl rfl q4 (fun _ => rfl) ?_))
      exact X_ret rfl ⟨rfl, rfl⟩
    by_cases f8 : from_ = 8
    · subst f8
      refine ACall_of tabOk Try.func6 rfl Try.ntmps6 (congrArg Array.toList Try.results6) (by kernel_rfl) rfl ?_
      repeat (first | refine A_seq ?_ | refine A_block ?_ | refine R_list ?_ | ((first | apply O_y rfl rfl rfl | apply Q_y rfl rfl rfl); (first | exact q_1 | exact q_2 | exact q_3 | exact q_4 | exact q_5 | exact q_6 | exact q_7 | exact q_8 | exact q_9 | exact q_10 | exact q_11 | exact q_12 | exact q_13 | exact q_14 | exact q_15 | exact q_16 | exact q_17 | exact q_18 | exact q_19 | exact q_20 | exact q_21 | exact q_22 | exact q_23 | exact q_24 | fail)) | refine O_nil ?_ | refine Q_nil ?_ | refine q_j ?_ | refine q_k ?_ | refine q_d ?_ | refine q_a ?_ | refine q_b ?_ | refine q_c ?_ | refine A_ct rfl ?_ | refine A_cf rfl ?_ | refine A_skip ?_ | refine A_exit ?_ | refine A_ret ?_ | refine q_l ?_ | refine q_m ?_ | refine q_n ?_ | refine q_h ?_ | refine q_o ?_ | refine q_e ?_ | refine q_f ?_ | refine q_g ?_ | (first | refine O_c rfl rfl rfl rfl rfl p1 (fun _ => rfl) ?_ | refine O_c rfl rfl rfl rfl rfl p2 (fun _ => rfl) ?_ | refine O_c rfl rfl rfl rfl rfl p3 (fun _ => rfl) ?_ | refine O_c rfl rfl rfl rfl rfl p4 (fun _ => rfl) ?_ | refine O_c rfl rfl rfl rfl rfl q1 (fun _ => rfl) ?_ | refine O_c rfl rfl rfl rfl rfl q2 (fun _ => rfl) ?_ | refine O_c rfl rfl rfl rfl rfl q3 (fun _ => rfl) ?_ | refine O_c rfl rfl rfl rfl rfl q4 (fun _ => rfl) ?_))
      exact X_ret rfl ⟨rfl, rfl⟩
    simp only [f1, f3, f4, f5, f6, f7, f8, if_false, or_self]
    refine ACall_of tabOk Try.func6 rfl Try.ntmps6 (congrArg Array.toList Try.results6) (by kernel_rfl) rfl ?_
    repeat (first | refine A_seq ?_ | refine A_block ?_ | refine R_list ?_ | ((first | apply O_y rfl rfl rfl | apply Q_y rfl rfl rfl); (first | exact q_1 | exact q_2 | exact q_3 | exact q_4 | exact q_5 | exact q_6 | exact q_7 | exact q_8 | exact q_9 | exact q_10 | exact q_11 | exact q_12 | exact q_13 | exact q_14 | exact q_15 | exact q_16 | exact q_17 | exact q_18 | exact q_19 | exact q_20 | exact q_21 | exact q_22 | exact q_23 | exact q_24 | fail)) | refine O_nil ?_ | refine Q_nil ?_ | refine q_j ?_ | refine q_k ?_ | refine q_d ?_ | refine q_a ?_ | refine q_b ?_ | refine q_c ?_ | refine A_ct rfl ?_ | refine A_cf rfl ?_ | refine A_skip ?_ | refine A_exit ?_ | refine A_ret ?_ | refine q_l ?_ | refine q_m ?_ | refine q_n ?_ | refine q_h ?_ | refine q_o ?_ | refine q_e ?_ | refine q_f ?_ | refine q_g ?_ | (first | refine O_c rfl rfl rfl rfl rfl p1 (fun _ => rfl) ?_ | refine O_c rfl rfl rfl rfl rfl p2 (fun _ => rfl) ?_ | refine O_c rfl rfl rfl rfl rfl p3 (fun _ => rfl) ?_ | refine O_c rfl rfl rfl rfl rfl p4 (fun _ => rfl) ?_ | refine O_c rfl rfl rfl rfl rfl q1 (fun _ => rfl) ?_ | refine O_c rfl rfl rfl rfl rfl q2 (fun _ => rfl) ?_ | refine O_c rfl rfl rfl rfl rfl q3 (fun _ => rfl) ?_ | refine O_c rfl rfl rfl rfl rfl q4 (fun _ => rfl) ?_))
    exact X_ret rfl ⟨rfl, rfl⟩
  by_cases h2 : kind = 2
  · subst h2
    by_cases f1 : from_ = 1
    · subst f1
      refine ACall_of tabOk Try.func6 rfl Try.ntmps6 (congrArg Array.toList Try.results6) (by kernel_rfl) rfl ?_
      repeat (first | refine A_seq ?_ | refine A_block ?_ | refine R_list ?_ | ((first | apply O_y rfl rfl rfl | apply Q_y rfl rfl rfl); (first | exact q_1 | exact q_2 | exact q_3 | exact q_4 | exact q_5 | exact q_6 | exact q_7 | exact q_8 | exact q_9 | exact q_10 | exact q_11 | exact q_12 | exact q_13 | exact q_14 | exact q_15 | exact q_16 | exact q_17 | exact q_18 | exact q_19 | exact q_20 | exact q_21 | exact q_22 | exact q_23 | exact q_24 | fail)) | refine O_nil ?_ | refine Q_nil ?_ | refine q_j ?_ | refine q_k ?_ | refine q_d ?_ | refine q_a ?_ | refine q_b ?_ | refine q_c ?_ | refine A_ct rfl ?_ | refine A_cf rfl ?_ | refine A_skip ?_ | refine A_exit ?_ | refine A_ret ?_ | refine q_l ?_ | refine q_m ?_ | refine q_n ?_ | refine q_h ?_ | refine q_o ?_ | refine q_e ?_ | refine q_f ?_ | refine q_g ?_ | (first | refine O_c rfl rfl rfl rfl rfl p1 (fun _ => rfl) ?_ | refine O_c rfl rfl rfl rfl rfl p2 (fun _ => rfl) ?_ | refine O_c rfl rfl rfl rfl rfl p3 (fun _ => rfl) ?_ | refine O_c rfl rfl rfl rfl rfl p4 (fun _ => rfl) ?_ | refine O_c rfl rfl rfl rfl rfl q1 (fun _ => rfl) ?_ | refine O_c rfl rfl rfl rfl rfl q2 (fun _ => rfl) ?_ | refine O_c rfl rfl rfl rfl rfl q3 (fun _ => rfl) ?_ | refine O_c rfl rfl rfl rfl rfl q4 (fun _ => rfl) ?_))
      exact X_ret rfl ⟨rfl, rfl⟩
    by_cases f3 : from_ = 3
    · subst f3
      refine ACall_of tabOk Try.func6 rfl Try.ntmps6 (congrArg Array.toList Try.results6) (by kernel_rfl) rfl ?_
      repeat (first | refine A_seq ?_ | refine A_block ?_ | refine R_list ?_ | ((first | apply O_y rfl rfl rfl | apply Q_y rfl rfl rfl); (first | exact q_1 | exact q_2 | exact q_3 | exact q_4 | exact q_5 | exact q_6 | exact q_7 | exact q_8 | exact q_9 | exact q_10 | exact q_11 | exact q_12 | exact q_13 | exact q_14 | exact q_15 | exact q_16 | exact q_17 | exact q_18 | exact q_19 | exact q_20 | exact q_21 | exact q_22 | exact q_23 | exact q_24 | fail)) | refine O_nil ?_ | refine Q_nil ?_ | refine q_j ?_ | refine q_k ?_ | refine q_d ?_ | refine q_a ?_ | refine q_b ?_ | refine q_c ?_ | refine A_ct rfl ?_ | refine A_cf rfl ?_ | refine A_skip ?_ | refine A_exit ?_ | refine A_ret ?_ | refine q_l ?_ | refine q_m ?_ | refine q_n ?_ | refine q_h ?_ | refine q_o ?_ | refine q_e ?_ | refine q_f ?_ | refine q_g ?_ | (first | refine O_c rfl rfl rfl rfl rfl p1 (fun _ => rfl) ?_ | refine O_c rfl rfl rfl rfl rfl p2 (fun _ => rfl) ?_ | refine O_c rfl rfl rfl rfl rfl p3 (fun _ => rfl) ?_ | refine O_c rfl rfl rfl rfl rfl p4 (fun _ => rfl) ?_ | refine O_c rfl rfl rfl rfl rfl q1 (fun _ => rfl) ?_ | refine O_c rfl rfl rfl rfl rfl q2 (fun _ => rfl) ?_ | refine O_c rfl rfl rfl rfl rfl q3 (fun _ => rfl) ?_ | refine O_c rfl rfl rfl rfl rfl q4 (fun _ => rfl) ?_))
      exact X_ret rfl ⟨rfl, rfl⟩
    by_cases f4 : from_ = 4
    · subst f4
      refine ACall_of tabOk Try.func6 rfl Try.ntmps6 (congrArg Array.toList Try.results6) (by kernel_rfl) rfl ?_
      repeat (first | refine A_seq ?_ | refine A_block ?_ | refine R_list ?_ | ((first | apply O_y rfl rfl rfl | apply Q_y rfl rfl rfl); (first | exact q_1 | exact q_2 | exact q_3 | exact q_4 | exact q_5 | exact q_6 | exact q_7 | exact q_8 | exact q_9 | exact q_10 | exact q_11 | exact q_12 | exact q_13 | exact q_14 | exact q_15 | exact q_16 | exact q_17 | exact q_18 | exact q_19 | exact q_20 | exact q_21 | exact q_22 | exact q_23 | exact q_24 | fail)) | refine O_nil ?_ | refine Q_nil ?_ | refine q_j ?_ | refine q_k ?_ | refine q_d ?_ | refine q_a ?_ | refine q_b ?_ | refine q_c ?_ | refine A_ct rfl ?_ | refine A_cf rfl ?_ | refine A_skip ?_ | refine A_exit ?_ | refine A_ret ?_ | refine q_l ?_ | refine q_m ?_ | refine q_n ?_ | refine q_h ?_ | refine q_o ?_ | refine q_e ?_ | refine q_f ?_ | refine q_g ?_ | (first | refine O_c rfl rfl rfl rfl rfl p1 (fun _ => rfl) ?_ | refine O_c rfl rfl rfl rfl rfl p2 (fun _ => rfl) ?_ | refine O_c rfl rfl rfl rfl rfl p3 (fun _ => rfl) ?_ | refine O_c rfl rfl rfl rfl rfl p4 (fun _ => rfl) ?_ | refine O_c rfl rfl rfl rfl rfl q1 (fun _ => rfl) ?_ | refine O_c rfl rfl rfl rfl rfl q2 (fun _ => rfl) ?_ | refine O_c rfl rfl rfl rfl rfl q3 (fun _ => rfl) ?_ | refine O_c rfl rfl rfl rfl rfl q4 (fun _ => rfl) ?_))
      exact X_ret rfl ⟨rfl, rfl⟩
    by_cases f5 : from_ = 5
    · subst f5
      refine ACall_of tabOk Try.func6 rfl Try.ntmps6 (congrArg Array.toList Try.results6) (by kernel_rfl) rfl ?_
      repeat (first | refine A_seq ?_ | refine A_block ?_ | refine R_list ?_ | ((first | apply O_y rfl rfl rfl | apply Q_y rfl rfl rfl); (first | exact q_1 | exact q_2 | exact q_3 | exact q_4 | exact q_5 | exact q_6 | exact q_7 | exact q_8 | exact q_9 | exact q_10 | exact q_11 | exact q_12 | exact q_13 | exact q_14 | exact q_15 | exact q_16 | exact q_17 | exact q_18 | exact q_19 | exact q_20 | exact q_21 | exact q_22 | exact q_23 | exact q_24 | fail)) | refine O_nil ?_ | refine Q_nil ?_ | refine q_j ?_ | refine q_k ?_ | refine q_d ?_ | refine q_a ?_ | refine q_b ?_ | refine q_c ?_ | refine A_ct rfl ?_ | refine A_cf rfl ?_ | refine A_skip ?_ | refine A_exit ?_ | refine A_ret ?_ | refine q_l ?_ | refine q_m ?_ | refine q_n ?_ | refine q_h ?_ | refine q_o ?_ | refine q_e ?_ | refine q_f ?_ | refine q_g ?_ | (first | refine O_c rfl rfl rfl rfl rfl p1 (fun _ => rfl) ?_ | refine O_c rfl rfl rfl rfl rfl p2 (fun _ => rfl) ?_ | refine O_c rfl rfl rfl rfl rfl p3 (fun _ => rfl) ?_ | refine O_c rfl rfl rfl rfl rfl p4 (fun _ => rfl) ?_ | refine O_c rfl rfl rfl rfl rfl q1 (fun _ => rfl) ?_ | refine O_c rfl rfl rfl rfl rfl q2 (fun _ => rfl) ?_ | refine O_c rfl rfl rfl rfl rfl q3 (fun _ => rfl) ?_ | refine O_c rfl rfl rfl rfl rfl q4 (fun _ => rfl) ?_))
      exact X_ret rfl ⟨rfl, rfl⟩
    by_cases f6 : from_ = 6
    · subst f6
      refine ACall_of tabOk Try.func6 rfl Try.ntmps6 (congrArg Array.toList Try.results6) (by kernel_rfl) rfl ?_
      repeat (first | refine A_seq ?_ | refine A_block ?_ | refine R_list ?_ | ((first | apply O_y rfl rfl rfl | apply Q_y rfl rfl rfl); (first | exact q_1 | exact q_2 | exact q_3 | exact q_4 | exact q_5 | exact q_6 | exact q_7 | exact q_8 | exact q_9 | exact q_10 | exact q_11 | exact q_12 | exact q_13 | exact q_14 | exact q_15 | exact q_16 | exact q_17 | exact q_18 | exact q_19 | exact q_20 | exact q_21 | exact q_22 | exact q_23 | exact q_24 | fail)) | refine O_nil ?_ | refine Q_nil ?_ | refine q_j ?_ | refine q_k ?_ | refine q_d ?_ | refine q_a ?_ | refine q_b ?_ | refine q_c ?_ | refine A_ct rfl ?_ | refine A_cf rfl ?_ | refine A_skip ?_ | refine A_exit ?_ | refine A_ret ?_ | refine q_l ?_ | refine q_m ?_ | refine q_n ?_ | refine q_h ?_ | refine q_o ?_ | refine q_e ?_ | refine q_f ?_ | refine q_g ?_ | (first | refine O_c rfl rfl rfl rfl rfl p1 (fun _ => rfl) ?_ | refine O_c rfl rfl rfl rfl rfl p2 (fun _ => rfl) ?_ | refine O_c rfl rfl rfl rfl rfl p3 (fun _ => rfl) ?_ | refine O_c rfl rfl rfl rfl rfl p4 (fun _ => rfl) ?_ | refine O_c rfl rfl rfl rfl rfl q1 (fun _ => rfl) ?_ | refine O_c rfl rfl rfl rfl rfl q2 (fun _ => rfl) ?_ | refine O_c rfl rfl rfl rfl rfl q3 (fun _ => rfl) ?_ | refine O_c rfl rfl rfl rfl rfl q4 (fun _ => rfl) ?_))
      exact X_ret rfl ⟨rfl, rfl⟩
    by_cases f7 : from_ = 7
    · subst f7
      refine ACall_of tabOk Try.func6 rfl Try.ntmps6 (congrArg Array.toList Try.results6) (by kernel_rfl) rfl ?_
      repeat (first | refine A_seq ?_ | refine A_block ?_ | refine R_list ?_ | ((first | apply O_y rfl rfl rfl | apply Q_y rfl rfl rfl); (first | exact q_1 | exact q_2 | exact q_3 | exact q_4 | exact q_5 | exact q_6 | exact q_7 | exact q_8 | exact q_9 | exact q_10 | exact q_11 | exact q_12 | exact q_13 | exact q_14 | exact q_15 | exact q_16 | exact q_17 | exact q_18 | exact q_19 | exact q_20 | exact q_21 | exact q_22 | exact q_23 | exact q_24 | fail)) | refine O_nil ?_ | refine Q_nil ?_ | refine q_j ?_ | refine q_k ?_ | refine q_d ?_ | refine q_a ?_ | refine q_b ?_ | refine q_c ?_ | refine A_ct rfl ?_ | refine A_cf rfl ?_ | refine A_skip ?_ | refine A_exit ?_ | refine A_ret ?_ | refine q_l ?_ | refine q_m ?_ | refine q_n ?_ | refine q_h ?_ | refine q_o ?_ | refine q_e ?_ | refine q_f ?_ | refine q_g ?_ | (first | refine O_c rfl rfl rfl rfl rfl p1 (fun _ => rfl) ?_ | refine O_c rfl rfl rfl rfl rfl p2 (fun _ => rfl) ?_ | refine O_c rfl rfl rfl rfl rfl p3 (fun _ => rfl) ?_ | refine O_c rfl rfl rfl rfl rfl p4 (fun _ => rfl) ?_ | refine O_c rfl rfl rfl rfl rfl q1 (fun _ => rfl) ?_ | refine O_c rfl rfl rfl rfl rfl q2 (fun _ => rfl) ?_ | refine O_c rfl rfl rfl rfl rfl q3 (fun _ => rfl) ?_ | refine O_c rfl rfl rfl rfl rfl q4 (fun _ => rfl) ?_))
      exact X_ret rfl ⟨rfl, rfl⟩
    by_cases f8 : from_ = 8
    · subst f8
      refine ACall_of tabOk Try.func6 rfl Try.ntmps6 (congrArg Array.toList Try.results6) (by kernel_rfl) rfl ?_
      repeat (first | refine A_seq ?_ | refine A_block ?_ | refine R_list ?_ | ((first | apply O_y rfl rfl rfl | apply Q_y rfl rfl rfl); (first | exact q_1 | exact q_2 | exact q_3 | exact q_4 | exact q_5 | exact q_6 | exact q_7 | exact q_8 | exact q_9 | exact q_10 | exact q_11 | exact q_12 | exact q_13 | exact q_14 | exact q_15 | exact q_16 | exact q_17 | exact q_18 | exact q_19 | exact q_20 | exact q_21 | exact q_22 | exact q_23 | exact q_24 | fail)) | refine O_nil ?_ | refine Q_nil ?_ | refine q_j ?_ | refine q_k ?_ | refine q_d ?_ | refine q_a ?_ | refine q_b ?_ | refine q_c ?_ | refine A_ct rfl ?_ | refine A_cf rfl ?_ | refine A_skip ?_ | refine A_exit ?_ | refine A_ret ?_ | refine q_l ?_ | refine q_m ?_ | refine q_n ?_ | refine q_h ?_ | refine q_o ?_ | refine q_e ?_ | refine q_f ?_ | refine q_g ?_ | (first | refine O_c rfl rfl rfl rfl rfl p1 (fun _ => rfl) ?_ | refine O_c rfl rfl rfl rfl rfl p2 (fun _ => rfl) ?_ | refine O_c rfl rfl rfl rfl rfl p3 (fun _ => rfl) ?_ | refine O_c rfl rfl rfl rfl rfl p4 (fun _ => rfl) ?_ | refine O_c rfl rfl rfl rfl rfl q1 (fun _ => rfl) ?_ | refine O_c rfl rfl rfl rfl rfl q2 (fun _ => rfl) ?_ | refine O_c rfl rfl rfl rfl rfl q3 (fun _ => rfl) ?_ | refine O_c rfl rfl rfl rfl rfl q4 (fun _ => rfl) ?_))
      exact X_ret rfl ⟨rfl, rfl⟩
    simp only [f1, f3, f4, f5, f6, f7, f8, if_false, or_self]
    refine ACall_of tabOk Try.func6 rfl Try.ntmps6 (congrArg Array.toList Try.results6) (by kernel_rfl) rfl ?_
    repeat (first | refine A_seq ?_ | refine A_block ?_ | refine R_list ?_ | ((first | apply O_y rfl rfl rfl | apply Q_y rfl rfl rfl); (first | exact q_1 | exact q_2 | exact q_3 | exact q_4 | exact q_5 | exact q_6 | exact q_7 | exact q_8 | exact q_9 | exact q_10 | exact q_11 | exact q_12 | exact q_13 | exact q_14 | exact q_15 | exact q_16 | exact q_17 | exact q_18 | exact q_19 | exact q_20 | exact q_21 | exact q_22 | exact q_23 | exact q_24 | fail)) | refine O_nil ?_ | refine Q_nil ?_ | refine q_j ?_ | refine q_k ?_ | refine q_d ?_ | refine q_a ?_ | refine q_b ?_ | refine q_c ?_ | refine A_ct rfl ?_ | refine A_cf rfl ?_ | refine A_skip ?_ | refine A_exit ?_ | refine A_ret ?_ | refine q_l ?_ | refine q_m ?_ | refine q_n ?_ | refine q_h ?_ | refine q_o ?_ | refine q_e ?_ | refine q_f ?_ | refine q_g ?_ | (first | refine O_c rfl rfl rfl rfl rfl p1 (fun _ => rfl) ?_ | refine O_c rfl rfl rfl rfl rfl p2 (fun _ => rfl) ?_ | refine O_c rfl rfl rfl rfl rfl p3 (fun _ => rfl) ?_ | refine O_c rfl rfl rfl rfl rfl p4 (fun _ => rfl) ?_ | refine O_c rfl rfl rfl rfl rfl q1 (fun _ => rfl) ?_ | refine O_c rfl rfl rfl rfl rfl q2 (fun _ => rfl) ?_ | refine O_c rfl rfl rfl rfl rfl q3 (fun _ => rfl) ?_ | refine O_c rfl rfl rfl rfl rfl q4 (fun _ => rfl) ?_))
    exact X_ret rfl ⟨rfl, rfl⟩
  have : ∀ o : Option (Int × Int), (match o with | some (a, b) => if kind = 1 then (a, true) else if kind = 2 then (b, true) else (0, false) | none => (0, false)) = ((0, false) : Int × Bool) := fun o => by
    cases o with
    | none => rfl
    | some p => simp [h1, h2]
  rw [this]
  refine ACall_of tabOk Try.func6 rfl Try.ntmps6 (congrArg Array.toList Try.results6) (by kernel_rfl) rfl ?_
  repeat (first | refine A_seq ?_ | refine A_block ?_ | refine R_list ?_ | ((first | apply O_y rfl rfl rfl | apply Q_y rfl rfl rfl); (first | exact q_1 | exact q_2 | exact q_3 | exact q_4 | exact q_5 | exact q_6 | exact q_7 | exact q_8 | exact q_9 | exact q_10 | exact q_11 | exact q_12 | exact q_13 | exact q_14 | exact q_15 | exact q_16 | exact q_17 | exact q_18 | exact q_19 | exact q_20 | exact q_21 | exact q_22 | exact q_23 | exact q_24 | fail)) | refine O_nil ?_ | refine Q_nil ?_ | refine q_j ?_ | refine q_k ?_ | refine q_d ?_ | refine q_a ?_ | refine q_b ?_ | refine q_c ?_ | refine A_ct rfl ?_ | refine A_cf rfl ?_ | refine A_skip ?_ | refine A_exit ?_ | refine A_ret ?_ | refine q_l ?_ | refine q_m ?_ | refine q_n ?_ | refine q_h ?_ | refine q_o ?_ | refine q_e ?_ | refine q_f ?_ | refine q_g ?_ | (first | refine O_c rfl rfl rfl rfl rfl p1 (fun _ => rfl) ?_ | refine O_c rfl rfl rfl rfl rfl p2 (fun _ => rfl) ?_ | refine O_c rfl rfl rfl rfl rfl p3 (fun _ => rfl) ?_ | refine O_c rfl rfl rfl rfl rfl p4 (fun _ => rfl) ?_ | refine O_c rfl rfl rfl rfl rfl q1 (fun _ => rfl) ?_ | refine O_c rfl rfl rfl rfl rfl q2 (fun _ => rfl) ?_ | refine O_c rfl rfl rfl rfl rfl q3 (fun _ => rfl) ?_ | refine O_c rfl rfl rfl rfl rfl q4 (fun _ => rfl) ?_))
  exact X_ret rfl ⟨rfl, rfl⟩
end Ab
end Go.Proofs.Ytjmelcdgbnjefaa

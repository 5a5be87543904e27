/-
  Texts of a proof, one behind the other (part 24).
-/
import Derived.Test.YtenolkolkpfjgaaGreatFt1
import Derived.Test.YtenolkolkpfjgaaGreatFt5
import Derived.Test.YtenolkolkpfjgaaGreatFt8
import Derived.Test.YtenolkolkpfjgaaGreatFt9
import Derived.Test.YtenolkolkpfjgaaGreatFt14
import Derived.Test.YtenolkolkpfjgaaGreatFt16
import Derived.Test.YtenolkolkpfjgaaGreatFt21
import Derived.Test.YtenolkolkpfjgaaGreatFt22
set_option linter.unusedVariables false
set_option linter.unusedSimpArgs false
namespace Go.Proofs.YtenolkolkpfjgaaGreat.Ab.V
set_option linter.unusedVariables false
set_option maxRecDepth 100000
open Go.RowKit
structure Ent where
  p : Pfx
  x : Bool
  hs : Value
def entD (x : Ent) : List Dat := [.sc (.int .u32 x.p.a), .sc (.int .i64 x.p.b), .sc (.bool x.x), .sc x.hs]
theorem entD_len (x : Ent) : (entD x).length = 4 := rfl
def entA (x : Ent) : AVal := .agg ((entD x).map AVal.d)
def entB (l : List Ent) : ABlk := .row 45 4 l.length (l.flatMap entD)
set_option linter.unusedSimpArgs false
attribute [local irreducible] AWp AOps AQ AYield AEff ACall AWk AAny AAt AThen AIn APost NoPanic
def emapB (l : List (Pfx × Ent)) : ABlk := .map (ents pfxA entA l)
theorem newV_A : ACall Tryz.prog 21 [] [] (fun c h => c = .ptr 3 0 ∧ h = [(3, tblB 902 fun _ => 0), (902, emapB [])]) := by
  refine ACall_of tabOk Tryz.func21 rfl Tryz.ntmps21 (congrArg Array.toList Tryz.results21) (by kernel_rfl) rfl ?_
  repeat (first | refine q_Z ?_ | refine R_quiet rfl mixed (by kernel_rfl) ?_ | ((first | apply O_y rfl rfl rfl | apply Q_y rfl rfl rfl); (first | exact q_A | exact q_5 | exact q_B)) | refine q_d ?_ | refine q_a ?_ | refine q_b ?_ | refine q_c ?_ | refine A_ct rfl ?_ | refine A_cf rfl ?_ | refine q_W ?_ | (refine O_makeMap 902 rfl rfl rfl rfl rfl ?_))
  exact X_retW AWk.refl rfl (h2 := [(3, tblB 902 fun _ => 0), (902, emapB [])]) ⟨rfl, rfl, trivial⟩ ⟨rfl, rfl⟩
theorem zeroEnt (W : World) : (zeroValue 45).run Tryz.prog W = .ok (.agg #[.int .u32 0, .int .i64 0, .bool false, .slice none 0 0]) W := by
  have h : tlook tab 45 = some _ := rfl
  obtain ⟨z, h1, h2, i, h3, h4, _⟩ := (tabOk _ _ h).zero W
  have h5 : (Tryz.prog.info? 45).bind (·.zero) = some (.agg #[.int .u32 0, .int .i64 0, .bool false, .slice none 0 0]) := by kernel_rfl
  rw [h3] at h5
  simp only [Option.bind_some] at h5
  rw [h4] at h5
  cases h5
  exact h1
def ent0A : AVal := .agg [.d (.sc (.int .u32 0)), .d (.sc (.int .i64 0)), .d (.sc (.bool false)), .d (.sc (.slice none 0 0))]
theorem ent0_rel (w : World) (F : Nat → Prop) (ι : Nat → Option Value) : VRel w F ι ent0A (.agg #[.int .u32 0, .int .i64 0, .bool false, .slice none 0 0]) := by
  refine .agg _ _ rfl fun i c u hc hu => ?_
  match i, hc, hu with
  | 0, hc, hu => cases hc; cases hu; exact sc_rel rfl
  | 1, hc, hu => cases hc; cases hu; exact sc_rel rfl
  | 2, hc, hu => cases hc; cases hu; exact sc_rel rfl
  | 3, hc, hu => cases hc; cases hu; exact sc_rel rfl
theorem kill_mapE (id : Nat) (l : List (Pfx × Ent)) : some (killB id (emapB l)) = some (emapB l) := by
  show some (ABlk.map ((l.map fun p => (pfxA p.1, entA p.2)).map fun p => (killV id p.1, killV id p.2))) = _
  rw [List.map_map]
  rfl
def entB1 (x : Ent) : ABlk := .var ((entD x).map AVal.d)
theorem kill2V (i j : Nat) (l : List (Pfx × Ent)) : some (killB i (killB j (emapB l))) = some (emapB l) := by
  have h : ∀ i, killB i (emapB l) = emapB l := fun i => Option.some.inj (kill_mapE i l)
  rw [h, h]
set_option maxHeartbeats 4000000 in
theorem putV_A (u : Nat → Int) (l : List (Pfx × Ent)) (p : Pfx) (v : Ent) (hp : p.ok) (hn : (l.map (·.1)).Nodup) (hu : ∀ j, 0 ≤ u j ∧ u j ≤ 1000000000) (hc : chk p = 0) :
    ACall Tryz.prog 22 [.ptr 1000 0, pfxA p, entA v] [(1000, tblB 1001 u), (1001, emapB l)] (fun c h => c = intA 0 ∧ h = [(1000, tblB 1001 (if (aget l p).isSome then u else bump u p.b.toNat 1)), (1001, emapB (Go.Proofs.YtenolkolkpfjgaaGreat.aput l p v))]) := by
  refine ACall_of tabOk Tryz.func22 rfl Tryz.ntmps22 (congrArg Array.toList Tryz.results22) (by kernel_rfl) rfl ?_
  have hck := check_A p hp
  rw [hc] at hck
  have hg := (chk_eq p).1 hc
  obtain ⟨a, b⟩ := p
  obtain ⟨⟨va, vb⟩, vx, vh⟩ := v
  obtain ⟨B, rfl⟩ : ∃ B : Nat, b = (B : Int) := ⟨b.toNat, by have := hg.1; simp at this; omega⟩
  have hB : B < 33 := by have := hg.2.1; simp at this; omega
  have huB := hu B
  refine A_seq ?_
  refine R_list ?_
  refine q_d ?_
  refine q_d ?_
  refine O_weaken (Wk_sel (e1 := [(0, .ptr 1000 0), (4, .ptr 4 0), (5, .ptr 5 0)]) (h1 := [(4, .var [.d (.sc (.int .u32 a)), .d (.sc (.int .i64 (B : Int)))]), (5, entB1 ⟨⟨va, vb⟩, vx, vh⟩), (1000, tblB 1001 u), (1001, emapB l)]) ⟨rfl, rfl, rfl, trivial⟩ ⟨rfl, rfl, rfl, kill2V _ _ l, trivial⟩) ?_
  cases hag : aget l ⟨a, (B : Int)⟩ with
  | none =>
    repeat (first | refine q_Z ?_ | refine R_quiet rfl mixed (by kernel_rfl) ?_ | ((first | apply O_y rfl rfl rfl | apply Q_y rfl rfl rfl); (first | exact q_A | exact q_5 | exact q_B | (first | exact R_pnil tabOk rfl rfl rfl rfl rfl | exact Y_nilCheck rfl rfl rfl))) | refine q_d ?_ | refine q_a ?_ | refine q_b ?_ | refine q_c ?_ | refine A_ct rfl ?_ | refine A_cf rfl ?_ | refine q_W ?_ | refine O_c rfl rfl rfl rfl rfl hck (fun _ => rfl) ?_)
    refine N_begin [8] mixed ?_
    repeat (first | ((first | apply q_M 0 rfl rfl (by kernel_rfl) (by decide +kernel) (by decide +kernel) rfl rfl rfl | apply q_M 1 rfl rfl (by kernel_rfl) (by decide +kernel) (by decide +kernel) rfl rfl rfl | apply q_M 2 rfl rfl (by kernel_rfl) (by decide +kernel) (by decide +kernel) rfl rfl rfl | apply q_M 3 rfl rfl (by kernel_rfl) (by decide +kernel) (by decide +kernel) rfl rfl rfl | apply q_M 4 rfl rfl (by kernel_rfl) (by decide +kernel) (by decide +kernel) rfl rfl rfl | apply q_M 5 rfl rfl (by kernel_rfl) (by decide +kernel) (by decide +kernel) rfl rfl rfl | apply q_M 6 rfl rfl (by kernel_rfl) (by decide +kernel) (by decide +kernel) rfl rfl rfl | apply q_M 7 rfl rfl (by kernel_rfl) (by decide +kernel) (by decide +kernel) rfl rfl rfl | apply q_M 8 rfl rfl (by kernel_rfl) (by decide +kernel) (by decide +kernel) rfl rfl rfl | apply q_M 9 rfl rfl (by kernel_rfl) (by decide +kernel) (by decide +kernel) rfl rfl rfl | apply q_M 10 rfl rfl (by kernel_rfl) (by decide +kernel) (by decide +kernel) rfl rfl rfl | apply q_M 11 rfl rfl (by kernel_rfl) (by decide +kernel) (by decide +kernel) rfl rfl rfl ); (first | exact q_A | exact q_5 | exact q_B | exact Y_nilCheck rfl rfl rfl)) | (apply q_L 3 rfl rfl (by kernel_rfl) (by decide +kernel) (by decide +kernel) rfl rfl rfl; (first | exact q_5 | exact q_7 | exact q_19 | exact R_lkOutA ent0A ent0_rel pfxKey pfxA_val zeroEnt trivial (fun _ _ => trivial) hn hag tabOk rfl rfl rfl rfl rfl rfl)) | (apply q_L 4 rfl rfl (by kernel_rfl) (by decide +kernel) (by decide +kernel) rfl rfl rfl; (first | exact q_5 | exact q_7 | exact q_19 | exact R_lkOutA ent0A ent0_rel pfxKey pfxA_val zeroEnt trivial (fun _ _ => trivial) hn hag tabOk rfl rfl rfl rfl rfl rfl)) | (apply q_L 5 rfl rfl (by kernel_rfl) (by decide +kernel) (by decide +kernel) rfl rfl rfl; (first | exact q_5 | exact q_7 | exact q_19 | exact R_lkOutA ent0A ent0_rel pfxKey pfxA_val zeroEnt trivial (fun _ _ => trivial) hn hag tabOk rfl rfl rfl rfl rfl rfl)) | refine N_one (j := 0) (by decide +kernel) ?_ | refine N_one (j := 1) (by decide +kernel) ?_ | refine N_one (j := 2) (by decide +kernel) ?_ | refine N_one (j := 3) (by decide +kernel) ?_ | refine N_one (j := 4) (by decide +kernel) ?_ | refine N_one (j := 5) (by decide +kernel) ?_ | refine N_one (j := 6) (by decide +kernel) ?_ | refine N_one (j := 7) (by decide +kernel) ?_ | refine N_one (j := 8) (by decide +kernel) ?_ | refine N_one (j := 9) (by decide +kernel) ?_ | refine N_one (j := 10) (by decide +kernel) ?_ | refine N_one (j := 11) (by decide +kernel) ?_ | refine T_alloc tabOk rfl rfl rfl rfl rfl rfl rfl ?_ | refine T_store tabOk rfl rfl rfl rfl rfl rfl rfl rfl rfl rfl rfl rfl rfl ?_ | (apply T_yield rfl rfl rfl rfl; (first | exact q_2 | exact q_1 | first | exact q_5 | exact q_7 | exact q_19 | exact R_lkOutA ent0A ent0_rel pfxKey pfxA_val zeroEnt trivial (fun _ _ => trivial) hn hag tabOk rfl rfl rfl rfl rfl rfl)) | refine N_done (by decide +kernel) ?_)
    refine q_j ?_
    refine A_weaken (Wk_sel (e1 := [(0, .ptr 1000 0), (4, .ptr 4 0), (5, .ptr 5 0), (9, boolA false)]) (h1 := [(4, .var [.d (.sc (.int .u32 a)), .d (.sc (.int .i64 (B : Int)))]), (5, entB1 ⟨⟨va, vb⟩, vx, vh⟩), (1000, tblB 1001 u), (1001, emapB l)]) ⟨rfl, rfl, rfl, rfl, trivial⟩ ⟨rfl, rfl, rfl, kill_mapE 8 l, trivial⟩) ?_
    repeat (first | refine q_Z ?_ | refine R_quiet rfl mixed (by kernel_rfl) ?_ | ((first | apply O_y rfl rfl rfl | apply Q_y rfl rfl rfl); (first | exact q_A | exact q_5 | exact q_B)) | refine q_d ?_ | refine q_a ?_ | refine q_b ?_ | refine q_c ?_ | refine A_ct rfl ?_ | refine A_cf rfl ?_ | refine q_W ?_)
    refine N_begin [1000] mixed ?_
    repeat (first | ((first | apply q_M 0 rfl rfl (by kernel_rfl) (by decide +kernel) (by decide +kernel) rfl rfl rfl | apply q_M 1 rfl rfl (by kernel_rfl) (by decide +kernel) (by decide +kernel) rfl rfl rfl | apply q_M 2 rfl rfl (by kernel_rfl) (by decide +kernel) (by decide +kernel) rfl rfl rfl | apply q_M 3 rfl rfl (by kernel_rfl) (by decide +kernel) (by decide +kernel) rfl rfl rfl | apply q_M 4 rfl rfl (by kernel_rfl) (by decide +kernel) (by decide +kernel) rfl rfl rfl | apply q_M 5 rfl rfl (by kernel_rfl) (by decide +kernel) (by decide +kernel) rfl rfl rfl | apply q_M 6 rfl rfl (by kernel_rfl) (by decide +kernel) (by decide +kernel) rfl rfl rfl | apply q_M 7 rfl rfl (by kernel_rfl) (by decide +kernel) (by decide +kernel) rfl rfl rfl | apply q_M 8 rfl rfl (by kernel_rfl) (by decide +kernel) (by decide +kernel) rfl rfl rfl | apply q_M 9 rfl rfl (by kernel_rfl) (by decide +kernel) (by decide +kernel) rfl rfl rfl | apply q_M 10 rfl rfl (by kernel_rfl) (by decide +kernel) (by decide +kernel) rfl rfl rfl | apply q_M 11 rfl rfl (by kernel_rfl) (by decide +kernel) (by decide +kernel) rfl rfl rfl ); (first | exact q_A | exact q_5 | exact q_B | (first | exact Y_nilCheck rfl rfl rfl | exact R_ixp tabOk rfl rfl rfl rfl rfl rfl rfl hB))) | (apply q_L 2 rfl rfl (by kernel_rfl) (by decide +kernel) (by decide +kernel) rfl rfl rfl; (first | exact q_5 | exact q_7 | exact q_19 | exact R_load tabOk rfl rfl rfl rfl rfl rfl (used_get _ _ _ hB) rfl rfl)) | (apply q_L 3 rfl rfl (by kernel_rfl) (by decide +kernel) (by decide +kernel) rfl rfl rfl; (first | exact q_5 | exact q_7 | exact q_19 | exact R_load tabOk rfl rfl rfl rfl rfl rfl (used_get _ _ _ hB) rfl rfl)) | (apply q_L 4 rfl rfl (by kernel_rfl) (by decide +kernel) (by decide +kernel) rfl rfl rfl; (first | exact q_5 | exact q_7 | exact q_19 | exact R_load tabOk rfl rfl rfl rfl rfl rfl (used_get _ _ _ hB) rfl rfl)) | (apply q_L 5 rfl rfl (by kernel_rfl) (by decide +kernel) (by decide +kernel) rfl rfl rfl; (first | exact q_5 | exact q_7 | exact q_19 | exact R_load tabOk rfl rfl rfl rfl rfl rfl (used_get _ _ _ hB) rfl rfl)) | (apply q_L 6 rfl rfl (by kernel_rfl) (by decide +kernel) (by decide +kernel) rfl rfl rfl; (first | exact q_5 | exact q_7 | exact q_19 | exact R_load tabOk rfl rfl rfl rfl rfl rfl (used_get _ _ _ hB) rfl rfl)) | refine N_one (j := 0) (by decide +kernel) ?_ | refine N_one (j := 1) (by decide +kernel) ?_ | refine N_one (j := 2) (by decide +kernel) ?_ | refine N_one (j := 3) (by decide +kernel) ?_ | refine N_one (j := 4) (by decide +kernel) ?_ | refine N_one (j := 5) (by decide +kernel) ?_ | refine N_one (j := 6) (by decide +kernel) ?_ | refine N_one (j := 7) (by decide +kernel) ?_ | refine N_one (j := 8) (by decide +kernel) ?_ | refine N_one (j := 9) (by decide +kernel) ?_ | refine N_one (j := 10) (by decide +kernel) ?_ | refine N_one (j := 11) (by decide +kernel) ?_ | refine T_alloc tabOk rfl rfl rfl rfl rfl rfl rfl ?_ | refine T_store tabOk rfl rfl rfl rfl rfl rfl rfl rfl rfl rfl rfl rfl rfl ?_ | (apply T_yield rfl rfl rfl rfl; (first | exact q_2 | exact q_1 | first | exact q_5 | exact q_7 | exact q_19 | exact R_load tabOk rfl rfl rfl rfl rfl rfl (used_get _ _ _ hB) rfl rfl)) | refine N_done (by decide +kernel) ?_ | refine T_storeS tabOk rfl rfl rfl rfl rfl rfl rfl rfl rfl rfl rfl rfl (by simp [usedA]; omega) ?_)
    repeat (first | refine q_Z ?_ | refine R_quiet rfl mixed (by kernel_rfl) ?_ | ((first | apply O_y rfl rfl rfl | apply Q_y rfl rfl rfl); (first | exact q_A | exact q_5 | exact q_B)) | refine q_d ?_ | refine q_a ?_ | refine q_b ?_ | refine q_c ?_ | refine A_ct rfl ?_ | refine A_cf rfl ?_ | refine q_W ?_)
    refine A_weaken (Wk_sel (e1 := [(0, .ptr 1000 0), (4, .ptr 4 0), (5, .ptr 5 0)]) (h1 := [(4, .var [.d (.sc (.int .u32 a)), .d (.sc (.int .i64 (B : Int)))]), (5, entB1 ⟨⟨va, vb⟩, vx, vh⟩), (1000, tblB 1001 (bump u B 1)), (1001, emapB l)]) ⟨rfl, rfl, rfl, trivial⟩ ⟨rfl, rfl, var_eq (used_set 1001 u B 1 hB) rfl, rfl, trivial⟩) ?_
    refine N_begin [1001] mixed ?_
    repeat (first | ((first | apply q_M 0 rfl rfl (by kernel_rfl) (by decide +kernel) (by decide +kernel) rfl rfl rfl | apply q_M 1 rfl rfl (by kernel_rfl) (by decide +kernel) (by decide +kernel) rfl rfl rfl | apply q_M 2 rfl rfl (by kernel_rfl) (by decide +kernel) (by decide +kernel) rfl rfl rfl | apply q_M 3 rfl rfl (by kernel_rfl) (by decide +kernel) (by decide +kernel) rfl rfl rfl | apply q_M 4 rfl rfl (by kernel_rfl) (by decide +kernel) (by decide +kernel) rfl rfl rfl | apply q_M 5 rfl rfl (by kernel_rfl) (by decide +kernel) (by decide +kernel) rfl rfl rfl | apply q_M 6 rfl rfl (by kernel_rfl) (by decide +kernel) (by decide +kernel) rfl rfl rfl ); (first | exact q_A | exact q_5 | exact q_B | exact Y_nilCheck rfl rfl rfl)) | (apply q_L 3 rfl rfl (by kernel_rfl) (by decide +kernel) (by decide +kernel) rfl rfl rfl; (first | exact q_5 | exact q_7 | exact q_19)) | (apply q_L 4 rfl rfl (by kernel_rfl) (by decide +kernel) (by decide +kernel) rfl rfl rfl; (first | exact q_5 | exact q_7 | exact q_19)) | (apply q_L 5 rfl rfl (by kernel_rfl) (by decide +kernel) (by decide +kernel) rfl rfl rfl; (first | exact q_5 | exact q_7 | exact q_19)) | refine N_one (j := 0) (by decide +kernel) ?_ | refine N_one (j := 1) (by decide +kernel) ?_ | refine N_one (j := 2) (by decide +kernel) ?_ | refine N_one (j := 3) (by decide +kernel) ?_ | refine N_one (j := 4) (by decide +kernel) ?_ | refine N_one (j := 5) (by decide +kernel) ?_ | refine N_one (j := 6) (by decide +kernel) ?_ | refine T_alloc tabOk rfl rfl rfl rfl rfl rfl rfl ?_ | refine T_store tabOk rfl rfl rfl rfl rfl rfl rfl rfl rfl rfl rfl rfl rfl ?_ | (apply T_yield rfl rfl rfl rfl; (first | exact q_2 | exact q_1 | first | exact q_5 | exact q_7 | exact q_19)) | refine N_done (by decide +kernel) ?_ | refine T_upd (k := ⟨a, (B : Int)⟩) (xa := entA) (q := ⟨⟨va, vb⟩, vx, vh⟩) pfxKey pfxA_val pfxA_rel trivial (fun _ _ => trivial) hn tabOk rfl rfl rfl rfl rfl rfl rfl rfl rfl rfl ?_)
    repeat (first | refine q_Z ?_ | refine R_quiet rfl mixed (by kernel_rfl) ?_ | ((first | apply O_y rfl rfl rfl | apply Q_y rfl rfl rfl); (first | exact q_A | exact q_5 | exact q_B)) | refine q_d ?_ | refine q_a ?_ | refine q_b ?_ | refine q_c ?_ | refine A_ct rfl ?_ | refine A_cf rfl ?_ | refine q_W ?_)
    exact X_retW AWk.refl rfl (h2 := [(1000, tblB 1001 (bump u B 1)), (1001, emapB (Go.Proofs.YtenolkolkpfjgaaGreat.aput l ⟨a, (B : Int)⟩ ⟨⟨va, vb⟩, vx, vh⟩))]) ⟨rfl, rfl, trivial⟩ ⟨rfl, rfl⟩
  | some x =>
    obtain ⟨⟨xa', xb'⟩, xx, xh⟩ := x
    repeat (first | refine q_Z ?_ | refine R_quiet rfl mixed (by kernel_rfl) ?_ | ((first | apply O_y rfl rfl rfl | apply Q_y rfl rfl rfl); (first | exact q_A | exact q_5 | exact q_B | (first | exact R_pnil tabOk rfl rfl rfl rfl rfl | exact Y_nilCheck rfl rfl rfl))) | refine q_d ?_ | refine q_a ?_ | refine q_b ?_ | refine q_c ?_ | refine A_ct rfl ?_ | refine A_cf rfl ?_ | refine q_W ?_ | refine O_c rfl rfl rfl rfl rfl hck (fun _ => rfl) ?_)
    refine N_begin [8] mixed ?_
    repeat (first | ((first | apply q_M 0 rfl rfl (by kernel_rfl) (by decide +kernel) (by decide +kernel) rfl rfl rfl | apply q_M 1 rfl rfl (by kernel_rfl) (by decide +kernel) (by decide +kernel) rfl rfl rfl | apply q_M 2 rfl rfl (by kernel_rfl) (by decide +kernel) (by decide +kernel) rfl rfl rfl | apply q_M 3 rfl rfl (by kernel_rfl) (by decide +kernel) (by decide +kernel) rfl rfl rfl | apply q_M 4 rfl rfl (by kernel_rfl) (by decide +kernel) (by decide +kernel) rfl rfl rfl | apply q_M 5 rfl rfl (by kernel_rfl) (by decide +kernel) (by decide +kernel) rfl rfl rfl | apply q_M 6 rfl rfl (by kernel_rfl) (by decide +kernel) (by decide +kernel) rfl rfl rfl | apply q_M 7 rfl rfl (by kernel_rfl) (by decide +kernel) (by decide +kernel) rfl rfl rfl | apply q_M 8 rfl rfl (by kernel_rfl) (by decide +kernel) (by decide +kernel) rfl rfl rfl | apply q_M 9 rfl rfl (by kernel_rfl) (by decide +kernel) (by decide +kernel) rfl rfl rfl | apply q_M 10 rfl rfl (by kernel_rfl) (by decide +kernel) (by decide +kernel) rfl rfl rfl | apply q_M 11 rfl rfl (by kernel_rfl) (by decide +kernel) (by decide +kernel) rfl rfl rfl ); (first | exact q_A | exact q_5 | exact q_B | exact Y_nilCheck rfl rfl rfl)) | (apply q_L 3 rfl rfl (by kernel_rfl) (by decide +kernel) (by decide +kernel) rfl rfl rfl; (first | exact q_5 | exact q_7 | exact q_19 | exact R_lkIn (xa := entA) pfxKey pfxA_val zeroEnt trivial (fun _ _ => trivial) hn hag tabOk rfl rfl rfl rfl rfl rfl)) | (apply q_L 4 rfl rfl (by kernel_rfl) (by decide +kernel) (by decide +kernel) rfl rfl rfl; (first | exact q_5 | exact q_7 | exact q_19 | exact R_lkIn (xa := entA) pfxKey pfxA_val zeroEnt trivial (fun _ _ => trivial) hn hag tabOk rfl rfl rfl rfl rfl rfl)) | (apply q_L 5 rfl rfl (by kernel_rfl) (by decide +kernel) (by decide +kernel) rfl rfl rfl; (first | exact q_5 | exact q_7 | exact q_19 | exact R_lkIn (xa := entA) pfxKey pfxA_val zeroEnt trivial (fun _ _ => trivial) hn hag tabOk rfl rfl rfl rfl rfl rfl)) | refine N_one (j := 0) (by decide +kernel) ?_ | refine N_one (j := 1) (by decide +kernel) ?_ | refine N_one (j := 2) (by decide +kernel) ?_ | refine N_one (j := 3) (by decide +kernel) ?_ | refine N_one (j := 4) (by decide +kernel) ?_ | refine N_one (j := 5) (by decide +kernel) ?_ | refine N_one (j := 6) (by decide +kernel) ?_ | refine N_one (j := 7) (by decide +kernel) ?_ | refine N_one (j := 8) (by decide +kernel) ?_ | refine N_one (j := 9) (by decide +kernel) ?_ | refine N_one (j := 10) (by decide +kernel) ?_ | refine N_one (j := 11) (by decide +kernel) ?_ | refine T_alloc tabOk rfl rfl rfl rfl rfl rfl rfl ?_ | refine T_store tabOk rfl rfl rfl rfl rfl rfl rfl rfl rfl rfl rfl rfl rfl ?_ | (apply T_yield rfl rfl rfl rfl; (first | exact q_2 | exact q_1 | first | exact q_5 | exact q_7 | exact q_19 | exact R_lkIn (xa := entA) pfxKey pfxA_val zeroEnt trivial (fun _ _ => trivial) hn hag tabOk rfl rfl rfl rfl rfl rfl)) | refine N_done (by decide +kernel) ?_)
    refine q_j ?_
    refine A_weaken (Wk_sel (e1 := [(0, .ptr 1000 0), (4, .ptr 4 0), (5, .ptr 5 0), (9, boolA true)]) (h1 := [(4, .var [.d (.sc (.int .u32 a)), .d (.sc (.int .i64 (B : Int)))]), (5, entB1 ⟨⟨va, vb⟩, vx, vh⟩), (1000, tblB 1001 u), (1001, emapB l)]) ⟨rfl, rfl, rfl, rfl, trivial⟩ ⟨rfl, rfl, rfl, kill_mapE 8 l, trivial⟩) ?_
    repeat (first | refine q_Z ?_ | refine R_quiet rfl mixed (by kernel_rfl) ?_ | ((first | apply O_y rfl rfl rfl | apply Q_y rfl rfl rfl); (first | exact q_A | exact q_5 | exact q_B)) | refine q_d ?_ | refine q_a ?_ | refine q_b ?_ | refine q_c ?_ | refine A_ct rfl ?_ | refine A_cf rfl ?_ | refine q_W ?_)
    refine N_begin [1001] mixed ?_
    repeat (first | ((first | apply q_M 0 rfl rfl (by kernel_rfl) (by decide +kernel) (by decide +kernel) rfl rfl rfl | apply q_M 1 rfl rfl (by kernel_rfl) (by decide +kernel) (by decide +kernel) rfl rfl rfl | apply q_M 2 rfl rfl (by kernel_rfl) (by decide +kernel) (by decide +kernel) rfl rfl rfl | apply q_M 3 rfl rfl (by kernel_rfl) (by decide +kernel) (by decide +kernel) rfl rfl rfl | apply q_M 4 rfl rfl (by kernel_rfl) (by decide +kernel) (by decide +kernel) rfl rfl rfl | apply q_M 5 rfl rfl (by kernel_rfl) (by decide +kernel) (by decide +kernel) rfl rfl rfl | apply q_M 6 rfl rfl (by kernel_rfl) (by decide +kernel) (by decide +kernel) rfl rfl rfl ); (first | exact q_A | exact q_5 | exact q_B | exact Y_nilCheck rfl rfl rfl)) | (apply q_L 3 rfl rfl (by kernel_rfl) (by decide +kernel) (by decide +kernel) rfl rfl rfl; (first | exact q_5 | exact q_7 | exact q_19)) | (apply q_L 4 rfl rfl (by kernel_rfl) (by decide +kernel) (by decide +kernel) rfl rfl rfl; (first | exact q_5 | exact q_7 | exact q_19)) | (apply q_L 5 rfl rfl (by kernel_rfl) (by decide +kernel) (by decide +kernel) rfl rfl rfl; (first | exact q_5 | exact q_7 | exact q_19)) | refine N_one (j := 0) (by decide +kernel) ?_ | refine N_one (j := 1) (by decide +kernel) ?_ | refine N_one (j := 2) (by decide +kernel) ?_ | refine N_one (j := 3) (by decide +kernel) ?_ | refine N_one (j := 4) (by decide +kernel) ?_ | refine N_one (j := 5) (by decide +kernel) ?_ | refine N_one (j := 6) (by decide +kernel) ?_ | refine T_alloc tabOk rfl rfl rfl rfl rfl rfl rfl ?_ | refine T_store tabOk rfl rfl rfl rfl rfl rfl rfl rfl rfl rfl rfl rfl rfl ?_ | (apply T_yield rfl rfl rfl rfl; (first | exact q_2 | exact q_1 | first | exact q_5 | exact q_7 | exact q_19)) | refine N_done (by decide +kernel) ?_ | refine T_upd (k := ⟨a, (B : Int)⟩) (xa := entA) (q := ⟨⟨va, vb⟩, vx, vh⟩) pfxKey pfxA_val pfxA_rel trivial (fun _ _ => trivial) hn tabOk rfl rfl rfl rfl rfl rfl rfl rfl rfl rfl ?_)
    repeat (first | refine q_Z ?_ | refine R_quiet rfl mixed (by kernel_rfl) ?_ | ((first | apply O_y rfl rfl rfl | apply Q_y rfl rfl rfl); (first | exact q_A | exact q_5 | exact q_B)) | refine q_d ?_ | refine q_a ?_ | refine q_b ?_ | refine q_c ?_ | refine A_ct rfl ?_ | refine A_cf rfl ?_ | refine q_W ?_)
    exact X_retW AWk.refl rfl (h2 := [(1000, tblB 1001 u), (1001, emapB (Go.Proofs.YtenolkolkpfjgaaGreat.aput l ⟨a, (B : Int)⟩ ⟨⟨va, vb⟩, vx, vh⟩))]) ⟨rfl, rfl, trivial⟩ ⟨rfl, rfl⟩
def overSE (u : Nat → Int) (l : List (Pfx × Ent)) (x : Int) (k : Nat) : List Pfx := ((List.range k).filter fun b => !(u b == 0) && (aget l (sub x (b : Nat))).isSome).map fun b => sub x (b : Nat)
theorem overS_inV (u : Nat → Int) (l : List (Pfx × Ent)) (x : Int) (k : Nat) (h1 : u k ≠ 0) {z : Ent} (h2 : aget l (sub x (k : Nat)) = some z) : overSE u l x (k + 1) = overSE u l x k ++ [sub x (k : Nat)] := by
  unfold overSE
  rw [List.range_succ, List.filter_append, List.map_append]
  simp [h1, h2]
theorem overS_noV (u : Nat → Int) (l : List (Pfx × Ent)) (x : Int) (k : Nat) (h1 : u k = 0 ∨ aget l (sub x (k : Nat)) = none) : overSE u l x (k + 1) = overSE u l x k := by
  unfold overSE
  rw [List.range_succ, List.filter_append, List.map_append]
  rcases h1 with h1 | h1 <;> simp [h1]
theorem overS_lenV (u : Nat → Int) (l : List (Pfx × Ent)) (x : Int) (k : Nat) : (overSE u l x k).length ≤ k := by
  unfold overSE
  rw [List.length_map]
  exact Nat.le_trans (List.length_filter_le _ _) (by simp)
theorem kill4V (i j k m : Nat) (l : List (Pfx × Ent)) : some (killB i (killB j (killB k (killB m (emapB l))))) = some (emapB l) := by
  have h : ∀ i, killB i (emapB l) = emapB l := fun i => Option.some.inj (kill_mapE i l)
  rw [h, h, h, h]
theorem freeze_mapV (id : Nat) (x : Dat) (l : List (Pfx × Ent)) : some (frB id x (emapB l)) = some (emapB l) := by
  show some (ABlk.map ((l.map fun p => (pfxA p.1, entA p.2)).map fun p => (frV id x p.1, frV id x p.2))) = _
  rw [List.map_map]
  rfl
set_option maxHeartbeats 4000000 in
theorem overV_A (u : Nat → Int) (l : List (Pfx × Ent)) (x : Int) (x0 : 0 ≤ x) (x1 : x < 4294967296) (hn : (l.map (·.1)).Nodup) :
    ACall Tryz.prog 38 [.ptr 1000 0, .d (.sc (.int .u32 x))] [(1000, tblB 1001 u), (1001, emapB l)] (fun c h => c = pfxsA (overSE u l x 33) ∧ h = [(1000, tblB 1001 u), (1001, emapB l)]) := by
  refine ACall_of tabOk Tryz.func38 rfl Tryz.ntmps38 (congrArg Array.toList Tryz.results38) (by kernel_rfl) rfl ?_
  repeat (first | refine q_Z ?_ | refine R_quiet rfl mixed (by kernel_rfl) ?_ | ((first | apply O_y rfl rfl rfl | apply Q_y rfl rfl rfl); (first | exact q_A | exact q_5 | exact q_B | (first | exact R_pnil tabOk rfl rfl rfl rfl rfl | exact Y_nilCheck rfl rfl rfl))) | refine q_d ?_ | refine q_a ?_ | refine q_b ?_ | refine q_c ?_ | refine A_ct rfl ?_ | refine A_cf rfl ?_ | refine q_W ?_)
  refine A_weaken (Wk_nil 39 2 (t := 5) (id := 5) rfl rfl) ?_
  refine A_loop (fun k : Nat => [(0, .ptr 1000 0), (1, .d (.sc (.int .u32 x))), (5, .row 5), (17, .agg (usedA u)), (18, intA (k : Int))]) (fun k => [(5, .row 39 2 (overSE u l x k).length ((overSE u l x k).flatMap pfxD)), (1000, tblB 1001 u), (1001, emapB l)]) (fun k => k ≤ 33) (fun k => 33 - k) 0 (by omega) (Wk_sel ⟨rfl, rfl, rfl, rfl, rfl, trivial⟩ ⟨rfl, rfl, kill_mapE 5 l, trivial⟩) ?_
  intro k hk
  dsimp only
  have hlen := overS_lenV u l x k
  by_cases hlt : k < 33
  · have hk32 : k ≤ 32 := by omega
    have huk : (usedA u)[k]? = some (intA (u k)) := by simp [usedA, List.getElem?_map, List.getElem?_range hlt]
    by_cases h0 : u k = 0
    ·
      repeat (first | refine q_Z ?_ | refine R_quiet rfl mixed (by kernel_rfl) ?_ | ((first | apply O_y rfl rfl rfl | apply Q_y rfl rfl rfl); (first | exact q_A | exact q_5 | exact q_B | (first | exact R_ixa tabOk rfl rfl rfl rfl rfl rfl rfl hlt huk))) | refine q_d ?_ | refine q_a ?_ | refine q_b ?_ | refine q_c ?_ | refine A_ct rfl ?_ | refine A_cf rfl ?_ | refine q_W ?_)
      exact ⟨k + 1, by omega, by omega, Wk_sel ⟨rfl, rfl, rfl, rfl, rfl, trivial⟩ ⟨by rw [overS_noV u l x k (.inl h0)]; rfl, rfl, rfl, trivial⟩⟩
    · cases hag : aget l (sub x (k : Nat)) with
      | none =>
        repeat (first | refine q_Z ?_ | refine R_quiet rfl mixed (by kernel_rfl) ?_ | ((first | apply O_y rfl rfl rfl | apply Q_y rfl rfl rfl); (first | exact q_A | exact q_5 | exact q_B | (first | exact R_ixa tabOk rfl rfl rfl rfl rfl rfl rfl hlt huk))) | refine q_d ?_ | refine q_a ?_ | refine q_b ?_ | refine q_c ?_ | refine A_ct rfl ?_ | refine A_cf rfl ?_ | refine q_W ?_ | refine O_c rfl rfl rfl rfl rfl (subnet_A x k hk32 x0 x1) (fun _ => rfl) ?_)
        refine N_begin [10] mixed ?_
        repeat (first | ((first | apply q_M 0 rfl rfl (by kernel_rfl) (by decide +kernel) (by decide +kernel) rfl rfl rfl | apply q_M 1 rfl rfl (by kernel_rfl) (by decide +kernel) (by decide +kernel) rfl rfl rfl | apply q_M 2 rfl rfl (by kernel_rfl) (by decide +kernel) (by decide +kernel) rfl rfl rfl | apply q_M 3 rfl rfl (by kernel_rfl) (by decide +kernel) (by decide +kernel) rfl rfl rfl | apply q_M 4 rfl rfl (by kernel_rfl) (by decide +kernel) (by decide +kernel) rfl rfl rfl | apply q_M 5 rfl rfl (by kernel_rfl) (by decide +kernel) (by decide +kernel) rfl rfl rfl | apply q_M 6 rfl rfl (by kernel_rfl) (by decide +kernel) (by decide +kernel) rfl rfl rfl | apply q_M 7 rfl rfl (by kernel_rfl) (by decide +kernel) (by decide +kernel) rfl rfl rfl | apply q_M 8 rfl rfl (by kernel_rfl) (by decide +kernel) (by decide +kernel) rfl rfl rfl | apply q_M 9 rfl rfl (by kernel_rfl) (by decide +kernel) (by decide +kernel) rfl rfl rfl | apply q_M 10 rfl rfl (by kernel_rfl) (by decide +kernel) (by decide +kernel) rfl rfl rfl | apply q_M 11 rfl rfl (by kernel_rfl) (by decide +kernel) (by decide +kernel) rfl rfl rfl ); (first | exact q_A | exact q_5 | exact q_B | exact Y_nilCheck rfl rfl rfl)) | (apply q_L 3 rfl rfl (by kernel_rfl) (by decide +kernel) (by decide +kernel) rfl rfl rfl; (first | exact q_5 | exact q_7 | exact q_19 | exact R_lkOutA ent0A ent0_rel pfxKey pfxA_val zeroEnt trivial (fun _ _ => trivial) hn hag tabOk rfl rfl rfl (kill_mapE 8 l) rfl rfl)) | (apply q_L 4 rfl rfl (by kernel_rfl) (by decide +kernel) (by decide +kernel) rfl rfl rfl; (first | exact q_5 | exact q_7 | exact q_19 | exact R_lkOutA ent0A ent0_rel pfxKey pfxA_val zeroEnt trivial (fun _ _ => trivial) hn hag tabOk rfl rfl rfl (kill_mapE 8 l) rfl rfl)) | (apply q_L 5 rfl rfl (by kernel_rfl) (by decide +kernel) (by decide +kernel) rfl rfl rfl; (first | exact q_5 | exact q_7 | exact q_19 | exact R_lkOutA ent0A ent0_rel pfxKey pfxA_val zeroEnt trivial (fun _ _ => trivial) hn hag tabOk rfl rfl rfl (kill_mapE 8 l) rfl rfl)) | refine N_one (j := 0) (by decide +kernel) ?_ | refine N_one (j := 1) (by decide +kernel) ?_ | refine N_one (j := 2) (by decide +kernel) ?_ | refine N_one (j := 3) (by decide +kernel) ?_ | refine N_one (j := 4) (by decide +kernel) ?_ | refine N_one (j := 5) (by decide +kernel) ?_ | refine N_one (j := 6) (by decide +kernel) ?_ | refine N_one (j := 7) (by decide +kernel) ?_ | refine N_one (j := 8) (by decide +kernel) ?_ | refine N_one (j := 9) (by decide +kernel) ?_ | refine N_one (j := 10) (by decide +kernel) ?_ | refine N_one (j := 11) (by decide +kernel) ?_ | refine T_alloc tabOk rfl rfl rfl rfl rfl rfl rfl ?_ | refine T_store tabOk rfl rfl rfl rfl rfl rfl rfl rfl rfl rfl rfl rfl rfl ?_ | (apply T_yield rfl rfl rfl rfl; (first | exact q_2 | exact q_1 | first | exact q_5 | exact q_7 | exact q_19 | exact R_lkOutA ent0A ent0_rel pfxKey pfxA_val zeroEnt trivial (fun _ _ => trivial) hn hag tabOk rfl rfl rfl (kill_mapE 8 l) rfl rfl)) | refine N_done (by decide +kernel) ?_)
        repeat (first | refine q_Z ?_ | refine R_quiet rfl mixed (by kernel_rfl) ?_ | ((first | apply O_y rfl rfl rfl | apply Q_y rfl rfl rfl); (first | exact q_A | exact q_5 | exact q_B)) | refine q_d ?_ | refine q_a ?_ | refine q_b ?_ | refine q_c ?_ | refine A_ct rfl ?_ | refine A_cf rfl ?_ | refine q_W ?_)
        exact ⟨k + 1, by omega, by omega, Wk_sel ⟨rfl, rfl, rfl, rfl, rfl, trivial⟩ ⟨by rw [overS_noV u l x k (.inr hag)]; rfl, rfl, kill2V _ _ l, trivial⟩⟩
      | some z =>
        obtain ⟨⟨za, zb⟩, zx, zh⟩ := z
        repeat (first | refine q_Z ?_ | refine R_quiet rfl mixed (by kernel_rfl) ?_ | ((first | apply O_y rfl rfl rfl | apply Q_y rfl rfl rfl); (first | exact q_A | exact q_5 | exact q_B | (first | exact R_ixa tabOk rfl rfl rfl rfl rfl rfl rfl hlt huk))) | refine q_d ?_ | refine q_a ?_ | refine q_b ?_ | refine q_c ?_ | refine A_ct rfl ?_ | refine A_cf rfl ?_ | refine q_W ?_ | refine O_c rfl rfl rfl rfl rfl (subnet_A x k hk32 x0 x1) (fun _ => rfl) ?_)
        refine N_begin [10] mixed ?_
        repeat (first | ((first | apply q_M 0 rfl rfl (by kernel_rfl) (by decide +kernel) (by decide +kernel) rfl rfl rfl | apply q_M 1 rfl rfl (by kernel_rfl) (by decide +kernel) (by decide +kernel) rfl rfl rfl | apply q_M 2 rfl rfl (by kernel_rfl) (by decide +kernel) (by decide +kernel) rfl rfl rfl | apply q_M 3 rfl rfl (by kernel_rfl) (by decide +kernel) (by decide +kernel) rfl rfl rfl | apply q_M 4 rfl rfl (by kernel_rfl) (by decide +kernel) (by decide +kernel) rfl rfl rfl | apply q_M 5 rfl rfl (by kernel_rfl) (by decide +kernel) (by decide +kernel) rfl rfl rfl | apply q_M 6 rfl rfl (by kernel_rfl) (by decide +kernel) (by decide +kernel) rfl rfl rfl | apply q_M 7 rfl rfl (by kernel_rfl) (by decide +kernel) (by decide +kernel) rfl rfl rfl | apply q_M 8 rfl rfl (by kernel_rfl) (by decide +kernel) (by decide +kernel) rfl rfl rfl | apply q_M 9 rfl rfl (by kernel_rfl) (by decide +kernel) (by decide +kernel) rfl rfl rfl | apply q_M 10 rfl rfl (by kernel_rfl) (by decide +kernel) (by decide +kernel) rfl rfl rfl | apply q_M 11 rfl rfl (by kernel_rfl) (by decide +kernel) (by decide +kernel) rfl rfl rfl ); (first | exact q_A | exact q_5 | exact q_B | exact Y_nilCheck rfl rfl rfl)) | (apply q_L 3 rfl rfl (by kernel_rfl) (by decide +kernel) (by decide +kernel) rfl rfl rfl; (first | exact q_5 | exact q_7 | exact q_19 | exact R_lkIn (xa := entA) pfxKey pfxA_val zeroEnt trivial (fun _ _ => trivial) hn hag tabOk rfl rfl rfl (kill_mapE 8 l) rfl rfl)) | (apply q_L 4 rfl rfl (by kernel_rfl) (by decide +kernel) (by decide +kernel) rfl rfl rfl; (first | exact q_5 | exact q_7 | exact q_19 | exact R_lkIn (xa := entA) pfxKey pfxA_val zeroEnt trivial (fun _ _ => trivial) hn hag tabOk rfl rfl rfl (kill_mapE 8 l) rfl rfl)) | (apply q_L 5 rfl rfl (by kernel_rfl) (by decide +kernel) (by decide +kernel) rfl rfl rfl; (first | exact q_5 | exact q_7 | exact q_19 | exact R_lkIn (xa := entA) pfxKey pfxA_val zeroEnt trivial (fun _ _ => trivial) hn hag tabOk rfl rfl rfl (kill_mapE 8 l) rfl rfl)) | refine N_one (j := 0) (by decide +kernel) ?_ | refine N_one (j := 1) (by decide +kernel) ?_ | refine N_one (j := 2) (by decide +kernel) ?_ | refine N_one (j := 3) (by decide +kernel) ?_ | refine N_one (j := 4) (by decide +kernel) ?_ | refine N_one (j := 5) (by decide +kernel) ?_ | refine N_one (j := 6) (by decide +kernel) ?_ | refine N_one (j := 7) (by decide +kernel) ?_ | refine N_one (j := 8) (by decide +kernel) ?_ | refine N_one (j := 9) (by decide +kernel) ?_ | refine N_one (j := 10) (by decide +kernel) ?_ | refine N_one (j := 11) (by decide +kernel) ?_ | refine T_alloc tabOk rfl rfl rfl rfl rfl rfl rfl ?_ | refine T_store tabOk rfl rfl rfl rfl rfl rfl rfl rfl rfl rfl rfl rfl rfl ?_ | (apply T_yield rfl rfl rfl rfl; (first | exact q_2 | exact q_1 | first | exact q_5 | exact q_7 | exact q_19 | exact R_lkIn (xa := entA) pfxKey pfxA_val zeroEnt trivial (fun _ _ => trivial) hn hag tabOk rfl rfl rfl (kill_mapE 8 l) rfl rfl)) | refine N_done (by decide +kernel) ?_)
        repeat (first | refine q_Z ?_ | refine R_quiet rfl mixed (by kernel_rfl) ?_ | ((first | apply O_y rfl rfl rfl | apply Q_y rfl rfl rfl); (first | exact q_A | exact q_5 | exact q_B)) | refine q_d ?_ | refine q_a ?_ | refine q_b ?_ | refine q_c ?_ | refine A_ct rfl ?_ | refine A_cf rfl ?_ | refine q_W ?_ | (first | refine O_appR tabOk rfl rfl rfl rfl rfl rfl rfl rfl rfl rfl rfl (by first | exact Src.row rfl | exact Src.dat _ _ | exact Src.nil) rfl (by omega) ?_ | refine O_appN tabOk rfl rfl rfl rfl rfl rfl rfl rfl rfl rfl (by first | exact Src.row rfl | exact Src.dat _ _ | exact Src.nil) rfl (by omega) ?_))
        exact ⟨k + 1, by omega, by omega, Wk_sel ⟨rfl, rfl, rfl, rfl, rfl, trivial⟩ ⟨row_eq (by rw [overS_inV u l x k h0 hag]; simp) (by rw [overS_inV u l x k h0 hag, List.flatMap_append]; simp [pfxD]) rfl, rfl, kill4V _ _ _ _ l, trivial⟩⟩
  · have hk33 : k = 33 := by omega
    subst hk33
    repeat (first | refine q_Z ?_ | refine R_quiet rfl mixed (by kernel_rfl) ?_ | ((first | apply O_y rfl rfl rfl | apply Q_y rfl rfl rfl); (first | exact q_A | exact q_5 | exact q_B)) | refine q_d ?_ | refine q_a ?_ | refine q_b ?_ | refine q_c ?_ | refine A_ct rfl ?_ | refine A_cf rfl ?_ | refine q_W ?_)
    refine X_retW (Wk_freeze (id := 5) rfl) rfl (h2 := [(1000, tblB 1001 u), (1001, emapB l)]) ⟨rfl, freeze_mapV _ _ l, trivial⟩ ⟨rfl, rfl⟩
theorem ren_mapE (ρ : List (Nat × Nat)) (l : List (Pfx × Ent)) : renB ρ (emapB l) = emapB l := by
  show ABlk.map ((l.map fun p => (pfxA p.1, entA p.2)).map fun p => (renV ρ p.1, renV ρ p.2)) = _
  rw [List.map_map]
  rfl
theorem ok_mapE (ρ : List (Nat × Nat)) (l : List (Pfx × Ent)) : okB ρ (emapB l) := by
  intro p hp
  obtain ⟨q, _, rfl⟩ := List.mem_map.1 hp
  exact ⟨rfl, rfl⟩
section
variable {P : Program} {nt : Nat} {Q : Post} {e : Env} {h : Heap} {o : Oper} {ops : Array Oper} {rest : List Oper}
theorem O_cTblV {f : FuncId} {args : Array Operand} {ats : Array TypeId} {cs0 cs : List AVal} {c : AVal} {d : Nat} (i j : Nat) (hij : i ≠ j) {u u' : Nat → Int} {l l' : List (Pfx × Ent)}
    (H : ACall P f cs [(1000, tblB 1001 u), (1001, emapB l)] (fun c' h' => c' = c ∧ h' = [(1000, tblB 1001 u'), (1001, emapB l')])) (hw : awant ops e o = some true) (hdst : o.dst = some d) (hd : Nat.blt d nt = true) (ho : o.op = .call { callee := .value (.func f), args := args, argTypes := ats }) (hx : aevs e args.toList = some cs0)
    (hok : cs.all (okV [(1000, i), (1001, j)]) = true) (hcs : cs.map (renV [(1000, i), (1001, j)]) = cs0) (hi : look h i = some (tblB j u)) (hj : look h j = some (emapB l))
    (HK : AOps P nt ops Q rest ((d, renV [(1000, i), (1001, j)] c) :: e) ((i, tblB j u') :: (j, emapB l') :: h)) : AOps P nt ops Q (o :: rest) e h := by
  refine O_cP [(1000, i), (1001, j)] (fun p p' k h1 h2 => ?_) (fun p k h1 => ?_) H (fun c hc => List.all_eq_true.1 hok c hc) ⟨⟨i, _, rfl, hi, ren_tbl i j u, ok_tbl i j u⟩, ⟨j, _, rfl, hj, ren_mapE _ l, ok_mapE _ l⟩, trivial⟩ hw hdst hd ho hx hcs ?_
  · rcases look_pass h1 with ⟨h3, h4⟩ | ⟨h3, h4⟩ <;> rcases look_pass h2 with ⟨h5, h6⟩ | ⟨h5, h6⟩ <;> omega
  · rcases look_pass h1 with ⟨h3, h4⟩ | ⟨h3, h4⟩ <;> subst h3 <;> exact ⟨by omega, rfl, rfl⟩
  · have e1 : renH [(1000, i), (1001, j)] [(1000, tblB 1001 u'), (1001, emapB l')] ++ h = (i, tblB j u') :: (j, emapB l') :: h := by
      show (i, renB _ (tblB 1001 u')) :: (j, renB _ (emapB l')) :: ([] ++ h) = _
      rw [ren_tbl, ren_mapE]
      rfl
    rw [e1]
    exact HK
end
theorem overS_memV (u : Nat → Int) (l : List (Pfx × Ent)) (x : Int) (k : Nat) (q : Pfx) (h : q ∈ overSE u l x k) : ∃ z, aget l q = some z := by
  unfold overSE at h
  obtain ⟨b, hb, rfl⟩ := List.mem_map.1 h
  have := (List.mem_filter.1 hb).2
  simp only [Bool.and_eq_true] at this
  exact Option.isSome_iff_exists.1 this.2
def longRE (u : Nat → Int) (l : List (Pfx × Ent)) (x : Int) : Pfx × Ent × Bool := match (overSE u l x 33).getLast? with
  | some p => (p, (aget l p).getD ⟨⟨0, 0⟩, false, .slice none 0 0⟩, true)
  | none => (⟨0, 0⟩, ⟨⟨0, 0⟩, false, .slice none 0 0⟩, false)
end Go.Proofs.YtenolkolkpfjgaaGreat.Ab.V

namespace Go.Proofs.YtenolkolkpfjgaaGreat.Ab.V
set_option linter.unusedVariables false
set_option maxRecDepth 100000
open Go.RowKit
set_option linter.unusedSimpArgs false
attribute [local irreducible] AWp AOps AQ AYield AEff ACall AWk AAny AAt AThen AIn APost NoPanic
set_option maxHeartbeats 4000000 in
theorem longestV_A (u : Nat → Int) (l : List (Pfx × Ent)) (x : Int) (x0 : 0 ≤ x) (x1 : x < 4294967296) (hn : (l.map (·.1)).Nodup) :
    ACall Tryz.prog 24 [.ptr 1000 0, .d (.sc (.int .u32 x))] [(1000, tblB 1001 u), (1001, emapB l)] (fun c h => c = .tup [pfxA (longRE u l x).1, entA (longRE u l x).2.1, boolA (longRE u l x).2.2] ∧ h = [(1000, tblB 1001 u), (1001, emapB l)]) := by
  refine ACall_of tabOk Tryz.func24 rfl Tryz.ntmps24 (congrArg Array.toList Tryz.results24) (by kernel_rfl) rfl ?_
  refine A_seq ?_
  refine R_list ?_
  refine q_a ?_
  refine q_a ?_
  refine O_weaken (Wk_sel (e1 := [(0, .ptr 1000 0), (1, .d (.sc (.int .u32 x))), (4, .ptr 4 0), (5, .ptr 5 0)]) (h1 := [(4, .var [.d (.sc (.int .u32 0)), .d (.sc (.int .i64 0))]), (5, .var [.d (.sc (.int .u32 0)), .d (.sc (.int .i64 0)), .d (.sc (.bool false)), .d (.sc (.slice none 0 0))]), (1000, tblB 1001 u), (1001, emapB l)]) ⟨rfl, rfl, rfl, rfl, trivial⟩ ⟨rfl, rfl, rfl, kill2V _ _ l, trivial⟩) ?_
  obtain ⟨L, hL⟩ : ∃ L, overSE u l x 33 = L := ⟨_, rfl⟩
  have hov := overV_A u l x x0 x1 hn
  rw [hL] at hov
  have hLn : L.length ≤ 33 := by rw [← hL]; exact overS_lenV u l x 33
  unfold longRE
  rw [hL]
  by_cases h0 : L.length = 0
  · have : L = [] := List.length_eq_zero_iff.1 h0
    subst this
    repeat (first | refine q_Z ?_ | refine R_quiet rfl mixed (by kernel_rfl) ?_ | ((first | apply O_y rfl rfl rfl | apply Q_y rfl rfl rfl); (first | exact q_A | exact q_5 | exact q_B)) | refine q_d ?_ | refine q_a ?_ | refine q_b ?_ | refine q_c ?_ | refine A_ct rfl ?_ | refine A_cf rfl ?_ | refine q_W ?_ | (refine O_cTblV 1000 1001 (by omega) hov rfl rfl rfl rfl rfl rfl rfl rfl rfl ?_))
    refine N_begin [4, 5] mixed ?_
    refine N_two (j := 0) (k := 1) (by decide +kernel) ?_ ?_
    · apply T_yield rfl rfl rfl rfl ((by first | exact q_7 | exact q_19))
      refine N_two (j := 1) (k := 2) (by decide +kernel) ?_ ?_
      ·
        repeat (first | ((first | apply q_M 0 rfl rfl (by kernel_rfl) (by decide +kernel) (by decide +kernel) rfl rfl rfl | apply q_M 1 rfl rfl (by kernel_rfl) (by decide +kernel) (by decide +kernel) rfl rfl rfl | apply q_M 2 rfl rfl (by kernel_rfl) (by decide +kernel) (by decide +kernel) rfl rfl rfl | apply q_M 3 rfl rfl (by kernel_rfl) (by decide +kernel) (by decide +kernel) rfl rfl rfl | apply q_M 4 rfl rfl (by kernel_rfl) (by decide +kernel) (by decide +kernel) rfl rfl rfl ); (first | exact q_A | exact q_5 | exact q_B)) | (apply q_L 0 rfl rfl (by kernel_rfl) (by decide +kernel) (by decide +kernel) rfl rfl rfl; (first | exact q_5 | exact q_7 | exact q_19)) | (apply q_L 1 rfl rfl (by kernel_rfl) (by decide +kernel) (by decide +kernel) rfl rfl rfl; (first | exact q_5 | exact q_7 | exact q_19)) | refine N_one (j := 0) (by decide +kernel) ?_ | refine N_one (j := 1) (by decide +kernel) ?_ | refine N_one (j := 2) (by decide +kernel) ?_ | refine N_one (j := 3) (by decide +kernel) ?_ | refine N_one (j := 4) (by decide +kernel) ?_ | refine T_alloc tabOk rfl rfl rfl rfl rfl rfl rfl ?_ | refine T_store tabOk rfl rfl rfl rfl rfl rfl rfl rfl rfl rfl rfl rfl rfl ?_ | (apply T_yield rfl rfl rfl rfl; (first | exact q_2 | exact q_1 | first | exact q_5 | exact q_7 | exact q_19)) | refine N_done (by decide +kernel) ?_)
        repeat (first | refine q_Z ?_ | refine R_quiet rfl mixed (by kernel_rfl) ?_ | ((first | apply O_y rfl rfl rfl | apply Q_y rfl rfl rfl); (first | exact q_A | exact q_5 | exact q_B)) | refine q_d ?_ | refine q_a ?_ | refine q_b ?_ | refine q_c ?_ | refine A_ct rfl ?_ | refine A_cf rfl ?_ | refine q_W ?_)
        exact X_retW AWk.refl rfl (h2 := [(1000, tblB 1001 u), (1001, emapB l)]) ⟨rfl, rfl, trivial⟩ ⟨rfl, rfl⟩
      ·
        repeat (first | ((first | apply q_M 0 rfl rfl (by kernel_rfl) (by decide +kernel) (by decide +kernel) rfl rfl rfl | apply q_M 1 rfl rfl (by kernel_rfl) (by decide +kernel) (by decide +kernel) rfl rfl rfl | apply q_M 2 rfl rfl (by kernel_rfl) (by decide +kernel) (by decide +kernel) rfl rfl rfl | apply q_M 3 rfl rfl (by kernel_rfl) (by decide +kernel) (by decide +kernel) rfl rfl rfl | apply q_M 4 rfl rfl (by kernel_rfl) (by decide +kernel) (by decide +kernel) rfl rfl rfl ); (first | exact q_A | exact q_5 | exact q_B)) | (apply q_L 0 rfl rfl (by kernel_rfl) (by decide +kernel) (by decide +kernel) rfl rfl rfl; (first | exact q_5 | exact q_7 | exact q_19)) | (apply q_L 1 rfl rfl (by kernel_rfl) (by decide +kernel) (by decide +kernel) rfl rfl rfl; (first | exact q_5 | exact q_7 | exact q_19)) | refine N_one (j := 0) (by decide +kernel) ?_ | refine N_one (j := 1) (by decide +kernel) ?_ | refine N_one (j := 2) (by decide +kernel) ?_ | refine N_one (j := 3) (by decide +kernel) ?_ | refine N_one (j := 4) (by decide +kernel) ?_ | refine T_alloc tabOk rfl rfl rfl rfl rfl rfl rfl ?_ | refine T_store tabOk rfl rfl rfl rfl rfl rfl rfl rfl rfl rfl rfl rfl rfl ?_ | (apply T_yield rfl rfl rfl rfl; (first | exact q_2 | exact q_1 | first | exact q_5 | exact q_7 | exact q_19)) | refine N_done (by decide +kernel) ?_)
        repeat (first | refine q_Z ?_ | refine R_quiet rfl mixed (by kernel_rfl) ?_ | ((first | apply O_y rfl rfl rfl | apply Q_y rfl rfl rfl); (first | exact q_A | exact q_5 | exact q_B)) | refine q_d ?_ | refine q_a ?_ | refine q_b ?_ | refine q_c ?_ | refine A_ct rfl ?_ | refine A_cf rfl ?_ | refine q_W ?_)
        exact X_retW AWk.refl rfl (h2 := [(1000, tblB 1001 u), (1001, emapB l)]) ⟨rfl, rfl, trivial⟩ ⟨rfl, rfl⟩
    ·
      repeat (first | ((first | apply q_M 0 rfl rfl (by kernel_rfl) (by decide +kernel) (by decide +kernel) rfl rfl rfl | apply q_M 1 rfl rfl (by kernel_rfl) (by decide +kernel) (by decide +kernel) rfl rfl rfl | apply q_M 2 rfl rfl (by kernel_rfl) (by decide +kernel) (by decide +kernel) rfl rfl rfl | apply q_M 3 rfl rfl (by kernel_rfl) (by decide +kernel) (by decide +kernel) rfl rfl rfl | apply q_M 4 rfl rfl (by kernel_rfl) (by decide +kernel) (by decide +kernel) rfl rfl rfl ); (first | exact q_A | exact q_5 | exact q_B)) | (apply q_L 0 rfl rfl (by kernel_rfl) (by decide +kernel) (by decide +kernel) rfl rfl rfl; (first | exact q_5 | exact q_7 | exact q_19)) | (apply q_L 1 rfl rfl (by kernel_rfl) (by decide +kernel) (by decide +kernel) rfl rfl rfl; (first | exact q_5 | exact q_7 | exact q_19)) | refine N_one (j := 0) (by decide +kernel) ?_ | refine N_one (j := 1) (by decide +kernel) ?_ | refine N_one (j := 2) (by decide +kernel) ?_ | refine N_one (j := 3) (by decide +kernel) ?_ | refine N_one (j := 4) (by decide +kernel) ?_ | refine T_alloc tabOk rfl rfl rfl rfl rfl rfl rfl ?_ | refine T_store tabOk rfl rfl rfl rfl rfl rfl rfl rfl rfl rfl rfl rfl rfl ?_ | (apply T_yield rfl rfl rfl rfl; (first | exact q_2 | exact q_1 | first | exact q_5 | exact q_7 | exact q_19)) | refine N_done (by decide +kernel) ?_)
      repeat (first | refine q_Z ?_ | refine R_quiet rfl mixed (by kernel_rfl) ?_ | ((first | apply O_y rfl rfl rfl | apply Q_y rfl rfl rfl); (first | exact q_A | exact q_5 | exact q_B)) | refine q_d ?_ | refine q_a ?_ | refine q_b ?_ | refine q_c ?_ | refine A_ct rfl ?_ | refine A_cf rfl ?_ | refine q_W ?_)
      exact X_retW AWk.refl rfl (h2 := [(1000, tblB 1001 u), (1001, emapB l)]) ⟨rfl, rfl, trivial⟩ ⟨rfl, rfl⟩
  · have hlt : L.length - 1 < L.length := by omega
    repeat (first | refine q_Z ?_ | refine R_quiet rfl mixed (by kernel_rfl) ?_ | ((first | apply O_y rfl rfl rfl | apply Q_y rfl rfl rfl); (first | exact q_A | exact R_loadi tabOk rfl rfl rfl rfl (by first | exact win_flat0 pfxD_len L (L.length - 1) _ hlt (by decide) | exact win_flat pfxD_len L (L.length - 1) _ _ hlt (by decide) | exact win_flat2 pfxD_len L (L.length - 1) _ _ _ hlt (by decide) | rfl) rfl rfl | exact q_B | (exact R_index (j := L.length - 1) tabOk rfl rfl rfl rfl rfl (by omega) hlt))) | refine q_d ?_ | refine q_a ?_ | refine q_b ?_ | refine q_c ?_ | refine A_ct rfl ?_ | refine A_cf rfl ?_ | refine q_W ?_ | (refine O_cTblV 1000 1001 (by omega) hov rfl rfl rfl rfl rfl rfl rfl rfl rfl ?_))
    obtain ⟨q, hq⟩ : ∃ q, L[L.length - 1] = q := ⟨_, rfl⟩
    have hlast : L.getLast? = some q := by rw [List.getLast?_eq_getElem?, List.getElem?_eq_getElem hlt, hq]
    obtain ⟨z, hz⟩ : ∃ z, aget l q = some z := by
      refine overS_memV u l x 33 q ?_
      rw [hL]
      exact List.mem_of_getElem? (by rw [← hq]; exact List.getElem?_eq_getElem hlt)
    obtain ⟨⟨za, zb⟩, zx, zh⟩ := z
    rw [hq]
    refine A_weaken (Wk_sel (e1 := [(0, .ptr 1000 0), (4, .ptr 4 0), (5, .ptr 5 0)]) (h1 := [(4, .var [.d (.sc (.int .u32 q.a)), .d (.sc (.int .i64 q.b))]), (5, .var [.d (.sc (.int .u32 0)), .d (.sc (.int .i64 0)), .d (.sc (.bool false)), .d (.sc (.slice none 0 0))]), (1000, tblB 1001 u), (1001, emapB l)]) ⟨rfl, rfl, rfl, trivial⟩ ⟨rfl, rfl, rfl, rfl, trivial⟩) ?_
    refine N_begin [4, 5] mixed ?_
    repeat (first | ((first | apply q_M 0 rfl rfl (by kernel_rfl) (by decide +kernel) (by decide +kernel) rfl rfl rfl | apply q_M 1 rfl rfl (by kernel_rfl) (by decide +kernel) (by decide +kernel) rfl rfl rfl | apply q_M 2 rfl rfl (by kernel_rfl) (by decide +kernel) (by decide +kernel) rfl rfl rfl | apply q_M 3 rfl rfl (by kernel_rfl) (by decide +kernel) (by decide +kernel) rfl rfl rfl | apply q_M 4 rfl rfl (by kernel_rfl) (by decide +kernel) (by decide +kernel) rfl rfl rfl | apply q_M 5 rfl rfl (by kernel_rfl) (by decide +kernel) (by decide +kernel) rfl rfl rfl | apply q_M 6 rfl rfl (by kernel_rfl) (by decide +kernel) (by decide +kernel) rfl rfl rfl | apply q_M 7 rfl rfl (by kernel_rfl) (by decide +kernel) (by decide +kernel) rfl rfl rfl | apply q_M 8 rfl rfl (by kernel_rfl) (by decide +kernel) (by decide +kernel) rfl rfl rfl | apply q_M 9 rfl rfl (by kernel_rfl) (by decide +kernel) (by decide +kernel) rfl rfl rfl ); (first | exact q_A | exact q_5 | exact q_B | exact Y_nilCheck rfl rfl rfl)) | (apply q_L 4 rfl rfl (by kernel_rfl) (by decide +kernel) (by decide +kernel) rfl rfl rfl; (first | exact q_5 | exact q_7 | exact q_19)) | (apply q_L 5 rfl rfl (by kernel_rfl) (by decide +kernel) (by decide +kernel) rfl rfl rfl; (first | exact q_5 | exact q_7 | exact q_19)) | (apply q_L 6 rfl rfl (by kernel_rfl) (by decide +kernel) (by decide +kernel) rfl rfl rfl; (first | exact q_5 | exact q_7 | exact q_19)) | refine N_one (j := 0) (by decide +kernel) ?_ | refine N_one (j := 1) (by decide +kernel) ?_ | refine N_one (j := 2) (by decide +kernel) ?_ | refine N_one (j := 3) (by decide +kernel) ?_ | refine N_one (j := 4) (by decide +kernel) ?_ | refine N_one (j := 5) (by decide +kernel) ?_ | refine N_one (j := 6) (by decide +kernel) ?_ | refine N_one (j := 7) (by decide +kernel) ?_ | refine N_one (j := 8) (by decide +kernel) ?_ | refine N_one (j := 9) (by decide +kernel) ?_ | refine T_alloc tabOk rfl rfl rfl rfl rfl rfl rfl ?_ | refine T_store tabOk rfl rfl rfl rfl rfl rfl rfl rfl rfl rfl rfl rfl rfl ?_ | (apply T_yield rfl rfl rfl rfl; (first | exact q_2 | exact q_1 | first | exact q_5 | exact q_7 | exact q_19)) | refine N_done (by decide +kernel) ?_)
    refine N_two (j := 0) (k := 5) (by decide +kernel) ?_ ?_
    ·
      repeat (first | ((first | apply q_M 0 rfl rfl (by kernel_rfl) (by decide +kernel) (by decide +kernel) rfl rfl rfl | apply q_M 1 rfl rfl (by kernel_rfl) (by decide +kernel) (by decide +kernel) rfl rfl rfl | apply q_M 2 rfl rfl (by kernel_rfl) (by decide +kernel) (by decide +kernel) rfl rfl rfl | apply q_M 3 rfl rfl (by kernel_rfl) (by decide +kernel) (by decide +kernel) rfl rfl rfl | apply q_M 4 rfl rfl (by kernel_rfl) (by decide +kernel) (by decide +kernel) rfl rfl rfl | apply q_M 5 rfl rfl (by kernel_rfl) (by decide +kernel) (by decide +kernel) rfl rfl rfl | apply q_M 6 rfl rfl (by kernel_rfl) (by decide +kernel) (by decide +kernel) rfl rfl rfl | apply q_M 7 rfl rfl (by kernel_rfl) (by decide +kernel) (by decide +kernel) rfl rfl rfl | apply q_M 8 rfl rfl (by kernel_rfl) (by decide +kernel) (by decide +kernel) rfl rfl rfl | apply q_M 9 rfl rfl (by kernel_rfl) (by decide +kernel) (by decide +kernel) rfl rfl rfl ); (first | exact q_A | exact q_5 | exact q_B | exact Y_nilCheck rfl rfl rfl)) | (apply q_L 4 rfl rfl (by kernel_rfl) (by decide +kernel) (by decide +kernel) rfl rfl rfl; (first | exact q_5 | exact q_7 | exact q_19 | exact R_lk1 (xa := entA) pfxKey pfxA_val zeroEnt trivial (fun _ _ => trivial) hn hz tabOk rfl rfl rfl rfl rfl rfl)) | (apply q_L 5 rfl rfl (by kernel_rfl) (by decide +kernel) (by decide +kernel) rfl rfl rfl; (first | exact q_5 | exact q_7 | exact q_19 | exact R_lk1 (xa := entA) pfxKey pfxA_val zeroEnt trivial (fun _ _ => trivial) hn hz tabOk rfl rfl rfl rfl rfl rfl)) | (apply q_L 6 rfl rfl (by kernel_rfl) (by decide +kernel) (by decide +kernel) rfl rfl rfl; (first | exact q_5 | exact q_7 | exact q_19 | exact R_lk1 (xa := entA) pfxKey pfxA_val zeroEnt trivial (fun _ _ => trivial) hn hz tabOk rfl rfl rfl rfl rfl rfl)) | refine N_one (j := 0) (by decide +kernel) ?_ | refine N_one (j := 1) (by decide +kernel) ?_ | refine N_one (j := 2) (by decide +kernel) ?_ | refine N_one (j := 3) (by decide +kernel) ?_ | refine N_one (j := 4) (by decide +kernel) ?_ | refine N_one (j := 5) (by decide +kernel) ?_ | refine N_one (j := 6) (by decide +kernel) ?_ | refine N_one (j := 7) (by decide +kernel) ?_ | refine N_one (j := 8) (by decide +kernel) ?_ | refine N_one (j := 9) (by decide +kernel) ?_ | refine T_alloc tabOk rfl rfl rfl rfl rfl rfl rfl ?_ | refine T_store tabOk rfl rfl rfl rfl rfl rfl rfl rfl rfl rfl rfl rfl rfl ?_ | (apply T_yield rfl rfl rfl rfl; (first | exact q_2 | exact q_1 | first | exact q_5 | exact q_7 | exact q_19 | exact R_lk1 (xa := entA) pfxKey pfxA_val zeroEnt trivial (fun _ _ => trivial) hn hz tabOk rfl rfl rfl rfl rfl rfl)) | refine N_done (by decide +kernel) ?_)
      repeat (first | refine q_Z ?_ | refine R_quiet rfl mixed (by kernel_rfl) ?_ | ((first | apply O_y rfl rfl rfl | apply Q_y rfl rfl rfl); (first | exact q_A | exact q_5 | exact q_B)) | refine q_d ?_ | refine q_a ?_ | refine q_b ?_ | refine q_c ?_ | refine A_ct rfl ?_ | refine A_cf rfl ?_ | refine q_W ?_)
      refine X_retW AWk.refl rfl (h2 := [(1000, tblB 1001 u), (1001, emapB l)]) ⟨rfl, rfl, trivial⟩ ⟨?_, rfl⟩
      rw [hlast]
      simp only [hz, Option.getD_some]
      rfl
    ·
      repeat (first | ((first | apply q_M 0 rfl rfl (by kernel_rfl) (by decide +kernel) (by decide +kernel) rfl rfl rfl | apply q_M 1 rfl rfl (by kernel_rfl) (by decide +kernel) (by decide +kernel) rfl rfl rfl | apply q_M 2 rfl rfl (by kernel_rfl) (by decide +kernel) (by decide +kernel) rfl rfl rfl | apply q_M 3 rfl rfl (by kernel_rfl) (by decide +kernel) (by decide +kernel) rfl rfl rfl | apply q_M 4 rfl rfl (by kernel_rfl) (by decide +kernel) (by decide +kernel) rfl rfl rfl | apply q_M 5 rfl rfl (by kernel_rfl) (by decide +kernel) (by decide +kernel) rfl rfl rfl | apply q_M 6 rfl rfl (by kernel_rfl) (by decide +kernel) (by decide +kernel) rfl rfl rfl | apply q_M 7 rfl rfl (by kernel_rfl) (by decide +kernel) (by decide +kernel) rfl rfl rfl | apply q_M 8 rfl rfl (by kernel_rfl) (by decide +kernel) (by decide +kernel) rfl rfl rfl | apply q_M 9 rfl rfl (by kernel_rfl) (by decide +kernel) (by decide +kernel) rfl rfl rfl ); (first | exact q_A | exact q_5 | exact q_B | exact Y_nilCheck rfl rfl rfl)) | (apply q_L 4 rfl rfl (by kernel_rfl) (by decide +kernel) (by decide +kernel) rfl rfl rfl; (first | exact q_5 | exact q_7 | exact q_19 | exact R_lk1 (xa := entA) pfxKey pfxA_val zeroEnt trivial (fun _ _ => trivial) hn hz tabOk rfl rfl rfl rfl rfl rfl)) | (apply q_L 5 rfl rfl (by kernel_rfl) (by decide +kernel) (by decide +kernel) rfl rfl rfl; (first | exact q_5 | exact q_7 | exact q_19 | exact R_lk1 (xa := entA) pfxKey pfxA_val zeroEnt trivial (fun _ _ => trivial) hn hz tabOk rfl rfl rfl rfl rfl rfl)) | (apply q_L 6 rfl rfl (by kernel_rfl) (by decide +kernel) (by decide +kernel) rfl rfl rfl; (first | exact q_5 | exact q_7 | exact q_19 | exact R_lk1 (xa := entA) pfxKey pfxA_val zeroEnt trivial (fun _ _ => trivial) hn hz tabOk rfl rfl rfl rfl rfl rfl)) | refine N_one (j := 0) (by decide +kernel) ?_ | refine N_one (j := 1) (by decide +kernel) ?_ | refine N_one (j := 2) (by decide +kernel) ?_ | refine N_one (j := 3) (by decide +kernel) ?_ | refine N_one (j := 4) (by decide +kernel) ?_ | refine N_one (j := 5) (by decide +kernel) ?_ | refine N_one (j := 6) (by decide +kernel) ?_ | refine N_one (j := 7) (by decide +kernel) ?_ | refine N_one (j := 8) (by decide +kernel) ?_ | refine N_one (j := 9) (by decide +kernel) ?_ | refine T_alloc tabOk rfl rfl rfl rfl rfl rfl rfl ?_ | refine T_store tabOk rfl rfl rfl rfl rfl rfl rfl rfl rfl rfl rfl rfl rfl ?_ | (apply T_yield rfl rfl rfl rfl; (first | exact q_2 | exact q_1 | first | exact q_5 | exact q_7 | exact q_19 | exact R_lk1 (xa := entA) pfxKey pfxA_val zeroEnt trivial (fun _ _ => trivial) hn hz tabOk rfl rfl rfl rfl rfl rfl)) | refine N_done (by decide +kernel) ?_)
      repeat (first | refine q_Z ?_ | refine R_quiet rfl mixed (by kernel_rfl) ?_ | ((first | apply O_y rfl rfl rfl | apply Q_y rfl rfl rfl); (first | exact q_A | exact q_5 | exact q_B)) | refine q_d ?_ | refine q_a ?_ | refine q_b ?_ | refine q_c ?_ | refine A_ct rfl ?_ | refine A_cf rfl ?_ | refine q_W ?_)
      refine X_retW AWk.refl rfl (h2 := [(1000, tblB 1001 u), (1001, emapB l)]) ⟨rfl, rfl, trivial⟩ ⟨?_, rfl⟩
      rw [hlast]
      simp only [hz, Option.getD_some]
      rfl
end Go.Proofs.YtenolkolkpfjgaaGreat.Ab.V

namespace Go.Proofs.YtenolkolkpfjgaaGreat.Ab.V
set_option linter.unusedVariables false
set_option maxRecDepth 100000
open Go.RowKit Go.Lib
set_option linter.unusedSimpArgs false
attribute [local irreducible] AWp AOps AQ AYield AEff ACall AWk AAny AAt AThen AIn APost NoPanic
section
variable {P : Program} {nt : Nat} {Q : Post} {e : Env} {h : Heap} {o : Oper} {ops : Array Oper} {rest : List Oper} {T : List Nat}
theorem O_cNewV {f : FuncId} {args : Array Operand} {ats : Array TypeId} {cs : List AVal} {d : Nat} {u : Nat → Int} {l : List (Pfx × Ent)} (H : ACall P f cs [] (fun c' h' => c' = .ptr 3 0 ∧ h' = [(3, tblB 902 u), (902, emapB l)])) (hw : awant ops e o = some true) (hdst : o.dst = some d) (hd : Nat.blt d nt = true)
    (ho : o.op = .call { callee := .value (.func f), args := args, argTypes := ats }) (hx : aevs e args.toList = some cs) (HK : AOps P nt ops Q rest ((d, .ptr 3 0) :: killEs [3, 902] e) ((3, tblB 902 u) :: (902, emapB l) :: killHs [3, 902] h)) : AOps P nt ops Q (o :: rest) e h :=
  O_eff (T := []) hw (E_callQ ho hdst hx H hd fun c' h' ⟨h1, h2⟩ => by
    subst h1 h2
    refine ⟨rfl, fun id b j hb hh => ?_, fun j hj => ?_⟩
    · by_cases h3 : 3 = id
      · subst h3
        rw [look_cons_same] at hb
        cases hb
        have hs : hasL j (usedA u) = false := shutL_has j (usedA u) rfl
        have : (902 == j) = true := by
          have h9 : ((AVal.mp 902).has j || hasL j (usedA u)) = true := hh
          rw [hs, Bool.or_false] at h9
          exact h9
        have : 902 = j := by simpa using this
        subst this
        rfl
      · rw [look_cons_ne _ _ h3] at hb
        by_cases h4 : 902 = id
        · subst h4
          rw [look_cons_same] at hb
          cases hb
          have h9 : (ents pfxA entA l).any (fun p => p.1.has j || p.2.has j) = true := hh
          obtain ⟨p, hp, h10⟩ := List.any_eq_true.1 h9
          obtain ⟨q, _, rfl⟩ := List.mem_map.1 hp
          rw [shut_has j (pfxA q.1) rfl, shut_has j (entA q.2) rfl] at h10
          cases h10
        · rw [look_cons_ne _ _ h4] at hb; cases hb
    · have h9 : (3 == j) = true := hj
      have : 3 = j := by simpa using h9
      subst this
      rfl) fun e' h' ⟨c, h2, ⟨h3, h4⟩, h5, h6⟩ => by subst h3 h4 h5 h6; exact HK
theorem T_cTblV {f : FuncId} {args : Array Operand} {ats : Array TypeId} {cs0 cs : List AVal} {c : AVal} {d fuel n : Nat} {listed : Array Bool} (i j : Nat) (hij : i ≠ j) {u u' : Nat → Int} {l l' : List (Pfx × Ent)}
    (H : ACall P f cs [(1000, tblB 1001 u), (1001, emapB l)] (fun c' h' => c' = c ∧ h' = [(1000, tblB 1001 u'), (1001, emapB l')])) (hn : ops[n]? = some o) (hw : awant ops e o = some true) (hdst : o.dst = some d) (hd : Nat.blt d nt = true) (ho : o.op = .call { callee := .value (.func f), args := args, argTypes := ats }) (hx : aevs e args.toList = some cs0)
    (hok : cs.all (okV [(1000, i), (1001, j)]) = true) (hcs : cs.map (renV [(1000, i), (1001, j)]) = cs0) (hi : look h i = some (tblB j u)) (hj : look h j = some (emapB l)) (hT1 : T.contains i = true) (hT2 : T.contains j = true)
    (HK : AAny P nt ops Q T fuel (listed.setIfInBounds n true) ((d, renV [(1000, i), (1001, j)] c) :: e) ((i, tblB j u') :: (j, emapB l') :: h)) : AAt P nt ops Q T fuel listed n e h := by
  refine T_eff hn hw (E_callP (h0 := [(1000, tblB 1001 u), (1001, emapB l)]) [(1000, i), (1001, j)] ho hdst hx hcs (fun c hc => List.all_eq_true.1 hok c hc) ⟨⟨i, _, rfl, hi, ren_tbl i j u, ok_tbl i j u⟩, ⟨j, _, rfl, hj, ren_mapE _ l, ok_mapE _ l⟩, trivial⟩ (fun p k h1 => ?_) (fun p p' k h1 h2 => ?_) H hd (fun p k h1 => ?_) (fun c' h' ⟨_, hh⟩ p k h1 => ?_)) fun e' h' ⟨c', h2, ⟨h3, h4⟩, h5, h6⟩ => ?_
  · rcases look_pass h1 with ⟨h3, h4⟩ | ⟨h3, h4⟩ <;> subst h3 <;> exact ⟨by omega, rfl⟩
  · rcases look_pass h1 with ⟨h3, h4⟩ | ⟨h3, h4⟩ <;> rcases look_pass h2 with ⟨h5, h6⟩ | ⟨h5, h6⟩ <;> omega
  · rcases look_pass h1 with ⟨h3, h4⟩ | ⟨h3, h4⟩ <;> subst h4 <;> assumption
  · subst hh
    rcases look_pass h1 with ⟨h3, h4⟩ | ⟨h3, h4⟩ <;> subst h3 <;> rfl
  · subst h3 h4 h5 h6
    have e1 : renH [(1000, i), (1001, j)] [(1000, tblB 1001 u'), (1001, emapB l')] ++ h = (i, tblB j u') :: (j, emapB l') :: h := by
      show (i, renB _ (tblB 1001 u')) :: (j, renB _ (emapB l')) :: ([] ++ h) = _
      rw [ren_tbl, ren_mapE]
      rfl
    rw [e1]
    exact HK
end
end Go.Proofs.YtenolkolkpfjgaaGreat.Ab.V

namespace Go.Proofs.YtenolkolkpfjgaaGreat.Ab
set_option linter.unusedVariables false
open Go.RowKit
section
variable {P : Program} {nt : Nat} {Q : Post} {e : Env} {h : Heap} {ops : Array Oper} {o : Oper} {T : List Nat} {fuel i : Nat} {listed : Array Bool}
theorem T_cRow {f : FuncId} {args : Array Operand} {ats : Array TypeId} {cs : List AVal} {d id el k n : Nat} {ds : List Dat} (hi : ops[i]? = some o) (hw : awant ops e o = some true) (hdst : o.dst = some d) (hd : Nat.blt d nt = true) (ho : o.op = .call { callee := .value (.func f), args := args, argTypes := ats }) (hx : aevs e args.toList = some cs)
    (H : ACall P f cs [] (fun c' h' => c' = .row id ∧ h' = [(id, .row el k n ds)])) (hid : Nat.blt id 1000 = true) (HK : AAny P nt ops Q T fuel (listed.setIfInBounds i true) ((d, .row id) :: killEs [id] e) ((id, .row el k n ds) :: killHs [id] h)) : AAt P nt ops Q T fuel listed i e h :=
  T_eff hi hw (E_callQ ho hdst hx H hd fun c' h' ⟨h1, h2⟩ => by
    subst h1 h2
    refine ⟨by simp [hid], fun j b i hb hh => ?_, fun j hj => ?_⟩
    · unfold look at hb
      cases hj : Nat.beq id j with
      | true => rw [hj] at hb; cases hb; simp [blkHas] at hh
      | false => rw [hj] at hb; cases hb
    · simp [AVal.has] at hj
      subst hj
      simp [look]) fun e' h' ⟨c, h2, ⟨h3, h4⟩, h5, h6⟩ => by subst h3 h4 h5 h6; exact HK
theorem Wk_rename2 {p id el k n t s2 : Nat} {cs : List Dat} {c2 : AVal} (hid : Nat.blt id 1000 = true) (ht : look e t = some (.row p)) (hs2 : look e s2 = some c2) (hc2 : ∀ j, c2.has j = false) :
    AWk nt e [(p, .row el k n cs)] [(t, .row id), (s2, c2)] [(id, .row el k n cs)] := fun Pm F w0 pin ι a w R => by
  have hid' : id < 1000 := by simp [Nat.blt] at hid; omega
  have H := R.heap
  obtain ⟨v, hv, xs, hown, hxl, hxr⟩ := H.blk p _ (look_cons_same _ _ _)
  have hι : ∀ i u, (fun i => if i = id then ι p else none) i = some u → i = id ∧ ι p = some u := fun i u hu => by
    dsimp only at hu
    split at hu
    · rename_i h; exact ⟨h, hu⟩
    · cases hu
  have hex : Ext w F ι w (fun i => if i = id then ι p else none) := ⟨fun _ _ _ => rfl, fun r _ hf => ⟨hf.1, fun i u hu => hf.2 p u (hι i u hu).2⟩⟩
  refine ⟨fun i => if i = id then ι p else none, ⟨fun i b hb => ?_, fun i u hu => ?_, fun i j u u' r hij hi hj => ?_, fun i u r hu => H.pm p u r (hι i u hu).2, H.os, H.tape, H.output, H.size, H.keep, H.fresh, fun i u h1 hu => ?_, fun i u r hu => H.nf p u r (hι i u hu).2, H.forb⟩, fun s c hs => ?_, R.defers.ext hex, R.size⟩
  · by_cases h1 : id = i
    · subst h1
      rw [look_cons_same] at hb
      cases hb
      exact ⟨v, by simp only [if_true]; exact hv, xs, hown, hxl, fun i c u h3 h4 => (hxr i c u h3 h4).ext (fun _ _ _ => rfl) fun r hr hf => hex.free r hr hf⟩
    · rw [look_cons_ne _ _ h1] at hb; cases hb
  · obtain ⟨rfl, _⟩ := hι i u hu
    exact ⟨_, look_cons_same _ _ _⟩
  · exact absurd ((hι i u hi).1.trans (hι j u' hj).1.symm) hij
  · obtain ⟨rfl, _⟩ := hι i u hu
    omega
  · by_cases h1 : t = s
    · subst h1
      rw [look_cons_same] at hs
      cases hs
      obtain ⟨u, hu, hr⟩ := R.env t _ ht
      refine ⟨u, hu, ?_⟩
      cases hr with
      | row _ _ g1 g2 => exact .row id u g1 fun v2 hv2 => g2 v2 (hι id v2 hv2).2
    · rw [look_cons_ne _ _ h1] at hs
      by_cases h2 : s2 = s
      · subst h2
        rw [look_cons_same] at hs
        cases hs
        obtain ⟨u, hu, hr⟩ := R.env s2 _ hs2
        exact ⟨u, hu, hr.ext hex fun j _ hj => by rw [hc2] at hj; cases hj⟩
      · rw [look_cons_ne _ _ h2] at hs; cases hs
end
end Go.Proofs.YtenolkolkpfjgaaGreat.Ab

namespace Go.Proofs.YtenolkolkpfjgaaGreat.Ab
set_option linter.unusedVariables false
open Go.RowKit Go.Lib
theorem Led.head {l : List Rte} {r s : Rte} (h : Led l r s) : s = r ∨ ∃ q ∈ longL l r.h, onB q = true ∧ Led l q s := by
  induction h with
  | refl => exact .inl rfl
  | step h hq ho ih =>
    rcases ih with e | ⟨q, h1, h2, h3⟩
    · rw [e] at hq; exact .inr ⟨_, hq, ho, .refl⟩
    · exact .inr ⟨q, h1, h2, h3.step hq ho⟩
theorem ledH_mem {l : List Rte} {r : Rte} {x : Hp} (hx : r.x = false) (hi : r.i = []) : x ∈ ledH l r ↔ IsHop l r x := by
  unfold ledH
  rw [hx, if_neg (by simp), if_neg (by simpa using hi), sortU_mem, ledSet_mem]
theorem ledH_rising {l : List Rte} {r : Rte} (hx : r.x = false) (hi : r.i = []) : Rising ordH (ledH l r) := by
  unfold ledH
  rw [hx, if_neg (by simp), if_neg (by simpa using hi)]
  exact sortU_rising good_ordH ordH_eq _
theorem flat_le {α β : Type} (f : α → List β) (c : Nat) : ∀ L : List α, (∀ s ∈ L, (f s).length ≤ c) → (L.flatMap f).length ≤ L.length * c
  | [], _ => by simp
  | a :: t, h => by
    have h1 := h a (List.mem_cons_self ..)
    have h2 := flat_le f c t fun s hs => h s (List.mem_cons_of_mem _ hs)
    rw [List.flatMap_cons, List.length_append, List.length_cons, Nat.succ_mul]
    omega
theorem longL_le (l : List Rte) (a : Int) : (longL l a).length ≤ l.length := Nat.le_trans (sortU_len _) (List.length_filter_le _ _)
theorem ledH_len (l : List Rte) (r : Rte) : (ledH l r).length ≤ (l.length + 1) * l.length + 1 := by
  unfold ledH
  split
  · simp
  · split
    · simp
    · refine Nat.le_trans (sortU_len _) (Nat.le_succ_of_le ?_)
      unfold ledSet
      have := flat_le (fun s => (longL l s.h).filterMap fun q => open Classical in if Led l r s ∧ outB q = true then some (hopOf s.h q) else none) l.length (r :: l) fun s _ => Nat.le_trans (List.length_filterMap_le _ _) (longL_le l s.h)
      rw [List.length_cons] at this
      exact this
noncomputable def stepH (l : List Rte) (a : Int) (q : Rte) : List Hp := if q.x then [] else if q.i ≠ [] then [hopOf a q] else ledH l q
theorem take_flat {α β : Type} (f : α → List β) (l : List α) (k : Nat) (h : k < l.length) : (l.take (k + 1)).flatMap f = (l.take k).flatMap f ++ f l[k] := by
  rw [List.take_succ_eq_append_getElem h, List.flatMap_append]; simp
end Go.Proofs.YtenolkolkpfjgaaGreat.Ab

/-
  Texts of a proof, one behind the other (part 41).
-/
import Derived.Test.YtenolkolkpfjgaaGreatFt8
import Derived.Test.YtenolkolkpfjgaaGreatFt31
import Derived.Test.YtenolkolkpfjgaaGreatFt39
set_option linter.unusedVariables false
set_option linter.unusedSimpArgs false
namespace Go.Proofs.YtenolkolkpfjgaaGreat.Ab
set_option linter.unusedVariables false
set_option maxRecDepth 100000
open Go.RowKit Go.Lib
def adD (x : Int) : List Dat := [.sc (.int .u32 x)]
theorem adD_len (x : Int) : (adD x).length = 1 := rfl
abbrev adsA (l : List Int) : AVal := .d (.sl (l.flatMap adD) l.length)
theorem bb_same (b : Bool) : bbin .neq b b = some false := by cases b <;> rfl
set_option linter.unusedSimpArgs false
attribute [local irreducible] AWp AOps AQ AYield AEff ACall AWk AAny AAt AThen AIn APost NoPanic
set_option maxHeartbeats 32000000 in
theorem tells_A (hawake : ACall Tryz.prog 15 [] [] (Just (boolA true))) (l rest : List Rte) (as_ : List Int) (has : ∀ x ∈ as_, 0 ≤ x ∧ x < 4294967296) (hok : ∀ s ∈ l, okR s) (hh : ∀ s ∈ l, 0 ≤ s.h ∧ s.h < 4294967296) (hn : l.length ≤ 80) (hr : rest ≠ [] → l.length = 80) :
    ACall Tryz.prog 3 [.d (.sl (l.flatMap rteD ++ rest.flatMap rteD) (l.length + rest.length)), adsA as_] [] (Just (boolA true)) := by
  have hTmk := V.fibNewR_A l hok hh (by omega)
  have hmin : (if (80 : Int) < ((l.length + rest.length : Nat) : Int) then (80 : Int) else ((l.length + rest.length : Nat) : Int)) = (l.length : Int) := by
    cases rest with
    | nil => simp; omega
    | cons b r => have := hr (by simp); simp; omega
  have hfl : (l.flatMap rteD).length = l.length * 9 := flat_len rteD_len l
  have href := refEntries_A l hok hh hn
  have hEb : ∀ y ∈ entsE l, y.hs.length ≤ 1000000 := fun y hy => by
    have h1 := each_len hy
    have h2 : (l.length + 1) * l.length ≤ 81 * 80 := Nat.mul_le_mul (by omega) hn
    have h3 : l.length * ((l.length + 1) * l.length + 1) ≤ 80 * (81 * 80 + 1) := Nat.mul_le_mul hn (by omega)
    omega
  have hEl := entsE_len l
  have hLl := lostE_len l
  have hYl : ∀ Y : List EntR, Y.map (·.x) = entsE l → Y.length ≤ 200 := fun Y hY => by
    have h1 := congrArg List.length hY
    rw [List.length_map] at h1
    omega
  have hent := entries22_A (entsE l) (by omega) hEb
  have hsame := pfxsSame_A (lostE l) (by omega)
  have hlost1 := (lost_A l hok hh (by omega)).reid (id := 961) rfl
  have hlost2 := (lost_A l hok hh (by omega)).reid (id := 962) rfl
  have ha := entriesB_A 963 400 (by decide) (by decide) (by decide) l hok hh (by omega)
  have hb := entriesB_A 964 600 (by decide) (by decide) (by decide) l hok hh (by omega)
  have hEg := fun x => entsE_good (l := l) (x := x)
  have hnd := entsE_nd l
  have hpo : ∀ x ∈ entsE l, x.p.ok := fun x hx => by
    obtain ⟨_, r, hr, hp⟩ := hEg x hx
    rw [← hp]; exact (hok r hr).2
  have hgood : ∀ x ∈ entsE l, Go.Proofs.YtenolkolkpfjgaaGreat.good x.p := fun x hx => (chk_eq x.p).1 (hEg x hx).1
  clear hEg
  obtain ⟨E, hE⟩ : ∃ E, entsE l = E := ⟨_, rfl⟩
  obtain ⟨L, hL⟩ : ∃ L, lostE l = L := ⟨_, rfl⟩
  simp only [hE, hL] at href hEb hEl hLl hYl hent hsame hlost1 hlost2 ha hb hnd hpo hgood hTmk
  refine ACall_of tabOk Tryz.func3 rfl Tryz.ntmps3 (congrArg Array.toList Tryz.results3) (by kernel_rfl) rfl ?_
  repeat (first | refine q_Z ?_ | ((first | apply O_y rfl rfl rfl | apply Q_y rfl rfl rfl); (first | exact q_A | exact q_5 | exact q_B | (first | exact R_min rfl rfl rfl hmin | exact R_sliceD tabOk rfl rfl rfl rfl rfl rfl (by omega)))) | refine q_d ?_ | refine q_a ?_ | refine q_b ?_ | refine q_c ?_ | refine A_ct rfl ?_ | refine A_cf rfl ?_ | refine q_W ?_)
  refine O_weaken (Wk_see (t := 0) rfl see_pfx) ?_
  refine O_weaken (Wk_sel (e1 := [(0, rtesA l), (1, adsA as_)]) (h1 := []) ⟨rfl, rfl, trivial⟩ trivial) ?_
  refine O_slice0 tabOk rfl rfl rfl rfl rfl rfl rfl ?_
  repeat (first | refine q_Z ?_ | ((first | apply O_y rfl rfl rfl | apply Q_y rfl rfl rfl); (first | exact q_A | exact q_5 | exact q_B)) | refine q_d ?_ | refine q_a ?_ | refine q_b ?_ | refine q_c ?_ | refine A_ct rfl ?_ | refine A_cf rfl ?_ | refine q_W ?_ | (first | (first | refine O_appR tabOk rfl rfl rfl rfl rfl rfl rfl rfl rfl rfl rfl (by first | exact Src.row rfl | exact Src.dat _ _ | exact Src.nil) hfl (by omega) ?_ | refine O_appN tabOk rfl rfl rfl rfl rfl rfl rfl rfl rfl rfl (by first | exact Src.row rfl | exact Src.dat _ _ | exact Src.nil) hfl (by omega) ?_) | refine O_c rfl rfl rfl rfl rfl href (fun _ => rfl) ?_))
  refine O_weaken (Wk_sel (e1 := [(1, adsA as_), (5, .row 28), (6, entsA E), (7, pfxsA L), (36, .row 28)]) (h1 := [(28, rteB l)]) ⟨rfl, rfl, rfl, rfl, rfl, trivial⟩ ⟨row_eq (Nat.zero_add _) rfl rfl, trivial⟩) ?_
  refine O_cRN (α := List EntR) (Φ := fun Y => Y.map (·.x) = E) (C := fun _ => .row 963) (H1 := fun Y => (963, entRB Y) :: famE Y 400) (cs := [.row 28]) (cs' := [rtesA l]) (.cons (.row 28 _ 9 l.length _ _ rfl (.refl _ _)) .nil) ha (fun Y hY => entsB_q Y 963 400 (by decide) (by decide) (hYl Y hY)) rfl rfl rfl rfl rfl fun A hA => ?_
  have hAn := hYl A hA
  have cA := clo_ents (Y := A) (r := 963) (b := 400) hAn
  refine O_weaken (Wk_new (N := (963, entRB A) :: famE A 400) (D' := fD 963 400) (D := fun _ => false) (G := []) (e1 := [(1, adsA as_), (5, .row 28), (6, entsA E), (7, pfxsA L)]) (h1 := [(28, rteB l)]) (fun id b hb => (cA.at_ id b hb).1) (Clo.nil _) (fun k hk => rfl) ⟨rfl, rfl, rfl, rfl, trivial⟩ rfl rfl ⟨rfl, trivial⟩ rfl (fun id b hb => by cases hb)) ?_
  have cA0 := cA.app (Clo.nil fun _ => false)
  repeat (first | refine q_Z ?_ | ((first | apply O_y rfl rfl rfl | apply Q_y rfl rfl rfl); (first | exact q_A | exact q_5 | exact q_B)) | refine q_d ?_ | refine q_a ?_ | refine q_b ?_ | refine q_c ?_ | refine A_ct rfl ?_ | refine A_cf rfl ?_ | refine q_W ?_)
  refine O_cRN (α := List EntR) (Φ := fun Y => Y.map (·.x) = E) (C := fun _ => .row 964) (H1 := fun Y => (964, entRB Y) :: famE Y 600) (cs := [.row 28]) (cs' := [rtesA l]) (.cons (.row 28 _ 9 l.length _ _ rfl (.refl _ _)) .nil) hb (fun Y hY => entsB_q Y 964 600 (by decide) (by decide) (hYl Y hY)) rfl rfl rfl rfl rfl fun B hB => ?_
  have hBn := hYl B hB
  have cB := clo_ents (Y := B) (r := 964) (b := 600) hBn
  refine O_weaken (Wk_new (N := (964, entRB B) :: famE B 600) (D' := fD 964 600) (G := ((963, entRB A) :: famE A 400) ++ []) (e1 := [(1, adsA as_), (5, .row 28), (6, entsA E), (7, pfxsA L), (37, .row 963)]) (h1 := [(28, rteB l)]) (fun id b hb => (cB.at_ id b hb).1) cA0 (fun k hk => ?_) ⟨rfl, rfl, rfl, rfl, rfl, trivial⟩ rfl rfl ⟨rfl, trivial⟩ rfl (fun id b hb => cA0.cons hb rfl hb)) ?_
  · simp only [fD, decide_eq_true_eq, Bool.or_false, decide_eq_false_iff_not] at hk ⊢; omega
  have cBA := cB.app cA0
  repeat (first | refine q_Z ?_ | ((first | apply O_y rfl rfl rfl | apply Q_y rfl rfl rfl); (first | exact q_A | exact q_5 | exact q_B)) | refine q_d ?_ | refine q_a ?_ | refine q_b ?_ | refine q_c ?_ | refine A_ct rfl ?_ | refine A_cf rfl ?_ | refine q_W ?_)
  refine O_cRN (α := Unit) (Φ := fun _ => True) (C := fun _ => .row 961) (H1 := fun _ => [(961, pfxB L)]) (cs := [.row 28]) (cs' := [rtesA l]) (.cons (.row 28 _ 9 l.length _ _ rfl (.refl _ _)) .nil) (hlost1.mono fun c h ⟨h1, h2⟩ => ⟨(), trivial, h1, h2⟩) (fun _ _ => pfx_q L 961 (by decide)) rfl rfl rfl rfl rfl fun _ _ => ?_
  refine O_weaken (Wk_new (N := [(961, pfxB L)]) (D' := fun k => Nat.beq 961 k) (G := ((964, entRB B) :: famE B 600) ++ (((963, entRB A) :: famE A 400) ++ [])) (e1 := [(1, adsA as_), (5, .row 28), (6, entsA E), (7, pfxsA L), (8, .row 963), (9, .row 964)]) (h1 := [(28, rteB l)]) (fun id b hb => one_D hb) cBA (fun k hk => by obtain rfl := Nat.eq_of_beq_eq_true hk; rfl) ⟨rfl, rfl, rfl, rfl, rfl, rfl, trivial⟩ rfl rfl ⟨rfl, trivial⟩ rfl (fun id b hb => cBA.cons hb rfl hb)) ?_
  repeat (first | refine q_Z ?_ | ((first | apply O_y rfl rfl rfl | apply Q_y rfl rfl rfl); (first | exact q_A | exact q_5 | exact q_B)) | refine q_d ?_ | refine q_a ?_ | refine q_b ?_ | refine q_c ?_ | refine A_ct rfl ?_ | refine A_cf rfl ?_ | refine q_W ?_)
  refine O_cRN (α := Unit) (Φ := fun _ => True) (C := fun _ => .row 962) (H1 := fun _ => [(962, pfxB L)]) (cs := [.row 28]) (cs' := [rtesA l]) (.cons (.row 28 _ 9 l.length _ _ rfl (.refl _ _)) .nil) (hlost2.mono fun c h ⟨h1, h2⟩ => ⟨(), trivial, h1, h2⟩) (fun _ _ => pfx_q L 962 (by decide)) rfl rfl rfl rfl rfl fun _ _ => ?_
  refine O_weaken (Wk_new (N := [(962, pfxB L)]) (D' := fun k => Nat.beq 962 k) (G := ((964, entRB B) :: famE B 600) ++ (((963, entRB A) :: famE A 400) ++ [])) (e1 := [(1, adsA as_), (5, .row 28), (6, entsA E), (7, pfxsA L), (8, .row 963), (9, .row 964), (41, .row 961)]) (h1 := [(28, rteB l), (961, pfxB L)]) (fun id b hb => one_D hb) cBA (fun k hk => by obtain rfl := Nat.eq_of_beq_eq_true hk; rfl) ⟨rfl, rfl, rfl, rfl, rfl, rfl, rfl, trivial⟩ rfl rfl ⟨rfl, rfl, trivial⟩ rfl (fun id b hb => cBA.cons hb rfl (cBA.cons hb rfl hb))) ?_
  repeat (first | refine q_Z ?_ | ((first | apply O_y rfl rfl rfl | apply Q_y rfl rfl rfl); (first | exact q_A | exact q_5 | exact q_B)) | refine q_d ?_ | refine q_a ?_ | refine q_b ?_ | refine q_c ?_ | refine A_ct rfl ?_ | refine A_cf rfl ?_ | refine q_W ?_)
  refine O_cRP (α := List EntR) (Φ := fun Y => Y.map (·.x) = E) (C := fun _ => .ptr 10 0) (H1 := fun Y => V.newB Y) (cs := [.row 28]) (cs' := [rtesA l]) (.cons (.row 28 _ 9 l.length _ _ rfl (.refl _ _)) .nil) hTmk (fun Y hY => V.new_q Y (hYl Y hY)) rfl rfl rfl rfl rfl fun T hT => ?_
  have hTn := hYl T hT
  have cT := clo_tab (f := 100) hTn
  refine O_weaken (Wk_new (N := V.newB T) (D' := tD 100) (G := ((964, entRB B) :: famE B 600) ++ (((963, entRB A) :: famE A 400) ++ [])) (e1 := [(1, adsA as_), (5, .row 28), (6, entsA E), (7, pfxsA L), (8, .row 963), (9, .row 964), (10, .row 961), (11, .row 962)]) (h1 := [(28, rteB l), (961, pfxB L), (962, pfxB L)]) (newB_D hTn) cBA (fun k hk => ?_) ⟨rfl, rfl, rfl, rfl, rfl, rfl, rfl, rfl, trivial⟩ rfl rfl ⟨rfl, rfl, rfl, trivial⟩ rfl (fun id b hb => cBA.cons hb rfl (cBA.cons hb rfl (cBA.cons hb rfl hb)))) ?_
  · simp only [fD, tD, decide_eq_true_eq, Bool.or_false, Bool.or_eq_false_iff, decide_eq_false_iff_not] at hk ⊢; omega
  have hAt := ents_at (Y := A) (r := 963) (b := 400) (H := (28, rteB l) :: (961, pfxB L) :: (962, pfxB L) :: (V.newB T ++ (((964, entRB B) :: famE B 600) ++ (((963, entRB A) :: famE A 400) ++ [])))) (.inr (by decide)) hAn fun id bl hb => by
    have h1 := (cA.at_ id bl hb).1
    simp only [fD, decide_eq_true_eq] at h1
    refine cA.cons hb rfl (cA.cons hb rfl (cA.cons hb rfl (look_past cT ?_ (look_past cB ?_ (look_left hb)))))
    · simp only [tD, decide_eq_false_iff_not]; omega
    · simp only [fD, decide_eq_false_iff_not]; omega
  have hBt := ents_at (Y := B) (r := 964) (b := 600) (H := (28, rteB l) :: (961, pfxB L) :: (962, pfxB L) :: (V.newB T ++ ((964, entRB B) :: famE B 600))) (.inr (by decide)) hBn fun id bl hb => by
    have h1 := (cB.at_ id bl hb).1
    simp only [fD, decide_eq_true_eq] at h1
    refine cB.cons hb rfl (cB.cons hb rfl (cB.cons hb rfl (look_past cT ?_ hb)))
    simp only [tD, decide_eq_false_iff_not]; omega
  have rA := entR_row hAt.1 hAt.2
  have rB := entR_row hBt.1 hBt.2
  rw [hA] at rA
  rw [hB] at rB
  have hspA := spoilF_A A hAn (fun y hy => hEb _ (by rw [← hA]; exact List.mem_map.2 ⟨y, hy, rfl⟩))
  rw [show A.length = E.length by rw [← hA, List.length_map]] at hspA
  repeat (first | refine q_Z ?_ | ((first | apply O_y rfl rfl rfl | apply Q_y rfl rfl rfl); (first | exact q_A | exact q_5 | exact q_B | (first | exact R_pnil tabOk rfl rfl rfl rfl rfl | exact q_25 | exact q_26 | exact Y_bbin tabOk rfl rfl rfl rfl (bb_same _)))) | refine q_d ?_ | refine q_a ?_ | refine q_b ?_ | refine q_c ?_ | refine A_ct rfl ?_ | refine A_cf rfl ?_ | refine q_W ?_ | (first | refine O_cR (.cons rA (.cons (.same _) .nil)) hent rfl rfl rfl rfl rfl rfl (fun _ _ _ => val_mk _ _ _ _ _ rfl rfl) ?_ | refine O_cR (cs' := [pfxsA L, pfxsA L]) (.cons (.row 961 _ 2 L.length _ _ rfl (.refl _ _)) (.cons (.same _) .nil)) hsame rfl rfl rfl rfl rfl rfl (fun _ _ _ => val_mk _ _ _ _ _ rfl rfl) ?_))
  refine O_cAwayV (i0 := 963) (h2 := (28, rteB l) :: (961, pfxB L) :: (962, pfxB L) :: (V.newB T ++ ((964, entRB B) :: famE B 600))) (gF 963 400 A.length) (if_pos rfl) (awayF_l hAn hAt.1 hAt.2) (awayF_dom hAn (by decide) (by decide)) (awayF_inj hAn (.inr (by decide))) hspA rfl (fun _ _ _ => val_mk _ _ _ _ _ rfl rfl) (awayF_2 hAn fun id bl hb => ?_) rfl rfl rfl rfl rfl ?_
  · have hP := (clo_rows (X := [(28, rteB l), (961, pfxB L), (962, pfxB L)]) (D := fun k => decide (k = 28 ∨ k = 961 ∨ k = 962)) rfl).app (cT.app cB)
    have h1 := (hP.at_ id bl hb).1
    simp only [fD, tD, Bool.or_eq_true, decide_eq_true_eq] at h1
    refine ⟨?_, by omega, by omega⟩
    have h2 := look_left (G := ((963, entRB A) :: famE A 400) ++ []) (N := [(28, rteB l), (961, pfxB L), (962, pfxB L)] ++ (V.newB T ++ ((964, entRB B) :: famE B 600))) hb
    rw [List.append_assoc, List.append_assoc] at h2
    exact h2
  repeat (first | refine q_Z ?_ | ((first | apply O_y rfl rfl rfl | apply Q_y rfl rfl rfl); (first | exact q_A | exact q_5 | exact q_B | (first | exact R_pnil tabOk rfl rfl rfl rfl rfl | exact q_25 | exact q_26 | exact Y_bbin tabOk rfl rfl rfl rfl (bb_same _)))) | refine q_d ?_ | refine q_a ?_ | refine q_b ?_ | refine q_c ?_ | refine A_ct rfl ?_ | refine A_cf rfl ?_ | refine q_W ?_ | (first | refine O_cR (.cons rB (.cons (.same _) .nil)) hent rfl rfl rfl rfl rfl rfl (fun _ _ _ => val_mk _ _ _ _ _ rfl rfl) ?_))
  refine A_loop (fun s : Nat × List Dat => [(1, adsA as_), (5, .row 28), (6, entsA E), (7, pfxsA L), (10, .row 961), (11, .row 962), (12, .ptr 10 0), (13, intA (s.1 : Int))]) (fun s => [(28, rteB l), (961, .row 39 2 L.length s.2), (962, pfxB L)] ++ V.newB T) (fun s => s.1 ≤ L.length ∧ s.2.length = L.length * 2) (fun s => L.length - s.1) (0, L.flatMap pfxD) ⟨Nat.zero_le _, flat_len pfxD_len L⟩ (by dsimp only; exact Wk_selG ⟨rfl, rfl, rfl, rfl, rfl, rfl, rfl, rfl, trivial⟩ ⟨rfl, rfl, rfl, trivial⟩ (fun id b hb => by have hcT := clo_tab (f := 100) hTn; repeat (first | exact hb | exact look_left hb | refine hcT.cons hb rfl ?_ | refine hcT.killH hb rfl ?_)) ) ?_
  rintro ⟨k, cs⟩ ⟨hk, hcl⟩
  dsimp only at hk hcl
  try dsimp only
  by_cases hkL : k < L.length
  ·
    repeat (first | refine q_Z ?_ | ((first | apply O_y rfl rfl rfl | apply Q_y rfl rfl rfl); (first | exact q_A | exact q_5 | exact q_B)) | refine q_d ?_ | refine q_a ?_ | refine q_b ?_ | refine q_c ?_ | refine A_ct rfl ?_ | refine A_cf rfl ?_ | refine q_W ?_)
    refine O_storee (ds := [.sc (.int .i64 99)]) tabOk rfl rfl rfl rfl rfl rfl rfl rfl rfl rfl (by omega) (by omega) ?_
    repeat (first | refine q_Z ?_ | ((first | apply O_y rfl rfl rfl | apply Q_y rfl rfl rfl); (first | exact q_A | exact q_5 | exact q_B)) | refine q_d ?_ | refine q_a ?_ | refine q_b ?_ | refine q_c ?_ | refine A_ct rfl ?_ | refine A_cf rfl ?_ | refine q_W ?_)
    exact ⟨(k + 1, setW cs (k * 2 + 1) [.sc (.int .i64 99)]), ⟨by dsimp only; omega, (setW_lenF (by show k * 2 + 1 + 1 ≤ _; omega)).trans hcl⟩, by dsimp only; omega, by dsimp only; exact Wk_selG ⟨rfl, rfl, rfl, rfl, rfl, rfl, rfl, rfl, trivial⟩ ⟨rfl, rfl, rfl, trivial⟩ (fun id b hb => by have hcT := clo_tab (f := 100) hTn; repeat (first | exact hb | exact look_left hb | refine hcT.cons hb rfl ?_ | refine hcT.killH hb rfl ?_)) ⟩
  obtain rfl : k = L.length := by omega
  clear hkL hk
  repeat (first | refine q_Z ?_ | ((first | apply O_y rfl rfl rfl | apply Q_y rfl rfl rfl); (first | exact q_A | exact q_5 | exact q_B)) | refine q_d ?_ | refine q_a ?_ | refine q_b ?_ | refine q_c ?_ | refine A_ct rfl ?_ | refine A_cf rfl ?_ | refine q_W ?_)
  refine A_loop (fun s : Nat × List Dat => [(1, adsA as_), (5, .row 28), (6, entsA E), (7, pfxsA L), (11, .row 962), (12, .ptr 10 0), (14, intA (s.1 : Int))]) (fun s => [(28, .row 41 9 l.length s.2), (962, pfxB L)] ++ V.newB T) (fun s => s.1 ≤ l.length ∧ s.2.length = l.length * 9) (fun s => l.length - s.1) (0, l.flatMap rteD) ⟨Nat.zero_le _, flat_len rteD_len l⟩ (by dsimp only; exact Wk_selG ⟨rfl, rfl, rfl, rfl, rfl, rfl, rfl, trivial⟩ ⟨rfl, rfl, trivial⟩ (fun id b hb => by have hcT := clo_tab (f := 100) hTn; repeat (first | exact hb | exact look_left hb | refine hcT.cons hb rfl ?_ | refine hcT.killH hb rfl ?_)) ) ?_
  clear hcl cs
  rintro ⟨k, cs⟩ ⟨hk, hcl⟩
  dsimp only at hk hcl
  try dsimp only
  by_cases hkl : k < l.length
  ·
    repeat (first | refine q_Z ?_ | ((first | apply O_y rfl rfl rfl | apply Q_y rfl rfl rfl); (first | exact q_A | exact q_5 | exact q_B)) | refine q_d ?_ | refine q_a ?_ | refine q_b ?_ | refine q_c ?_ | refine A_ct rfl ?_ | refine A_cf rfl ?_ | refine q_W ?_)
    refine O_storee (ds := rteD ⟨⟨0, 0⟩, 0, 0, 0, 0, [], 0, false⟩) tabOk rfl rfl rfl rfl rfl rfl rfl rfl rfl rfl (by omega) (by omega) ?_
    repeat (first | refine q_Z ?_ | ((first | apply O_y rfl rfl rfl | apply Q_y rfl rfl rfl); (first | exact q_A | exact q_5 | exact q_B)) | refine q_d ?_ | refine q_a ?_ | refine q_b ?_ | refine q_c ?_ | refine A_ct rfl ?_ | refine A_cf rfl ?_ | refine q_W ?_)
    exact ⟨(k + 1, setW cs (k * 9) (rteD ⟨⟨0, 0⟩, 0, 0, 0, 0, [], 0, false⟩)), ⟨by dsimp only; omega, (setW_lenF (by show k * 9 + 9 ≤ _; omega)).trans hcl⟩, by dsimp only; omega, by dsimp only; exact Wk_selG ⟨rfl, rfl, rfl, rfl, rfl, rfl, rfl, trivial⟩ ⟨rfl, rfl, trivial⟩ (fun id b hb => by have hcT := clo_tab (f := 100) hTn; repeat (first | exact hb | exact look_left hb | refine hcT.cons hb rfl ?_ | refine hcT.killH hb rfl ?_)) ⟩
  obtain rfl : k = l.length := by omega
  clear hkl hk
  repeat (first | refine q_Z ?_ | ((first | apply O_y rfl rfl rfl | apply Q_y rfl rfl rfl); (first | exact q_A | exact q_5 | exact q_B)) | refine q_d ?_ | refine q_a ?_ | refine q_b ?_ | refine q_c ?_ | refine A_ct rfl ?_ | refine A_cf rfl ?_ | refine q_W ?_)
  have hTl : ∀ y ∈ T, y.x.hs.length ≤ 2147483648 := fun y hy => Nat.le_trans (hEb _ (by rw [← hT]; exact List.mem_map.2 ⟨y, hy, rfl⟩)) (by decide)
  refine O_tEnt (T := T) (e1 := [(1, adsA as_), (6, entsA E), (7, pfxsA L), (11, .row 962), (12, .ptr 10 0)]) (h1 := [(962, pfxB L)]) hTl hTn (fun id b hb => by have hcT := clo_tab (f := 100) hTn; repeat (first | exact hb | exact look_left hb | refine hcT.cons hb rfl ?_ | refine hcT.killH hb rfl ?_)) ⟨rfl, rfl, rfl, rfl, rfl, trivial⟩ rfl rfl ⟨rfl, trivial⟩ rfl rfl rfl rfl rfl rfl fun C hC => ?_
  have hCE : C.map (·.x) = E := hC.trans hT
  have hCn := hYl C hCE
  have cC := clo_ents (Y := C) (r := 965) (b := 400) hCn
  have hCt := ents_at (Y := C) (r := 965) (b := 400) (H := (962, pfxB L) :: (((965, entRB C) :: famE C 400) ++ V.newB T)) (.inr (by decide)) hCn fun id bl hb => cC.cons hb rfl (look_left hb)
  have rC := entR_row hCt.1 hCt.2
  rw [hCE] at rC
  have hspC := spoilF_A C hCn (fun y hy => hEb _ (by rw [← hCE]; exact List.mem_map.2 ⟨y, hy, rfl⟩))
  rw [show C.length = E.length by rw [← hCE, List.length_map]] at hspC
  repeat (first | refine q_Z ?_ | ((first | apply O_y rfl rfl rfl | apply Q_y rfl rfl rfl); (first | exact q_A | exact q_5 | exact q_B | (first | exact R_pnil tabOk rfl rfl rfl rfl rfl | exact q_25 | exact q_26 | exact Y_bbin tabOk rfl rfl rfl rfl (bb_same _)))) | refine q_d ?_ | refine q_a ?_ | refine q_b ?_ | refine q_c ?_ | refine A_ct rfl ?_ | refine A_cf rfl ?_ | refine q_W ?_ | (first | refine O_cR (.cons rC (.cons (.same _) .nil)) hent rfl rfl rfl rfl rfl rfl (fun _ _ _ => val_mk _ _ _ _ _ rfl rfl) ?_ | refine O_cR (cs' := [pfxsA L, pfxsA L]) (.cons (.row 962 _ 2 L.length _ _ rfl (.refl _ _)) (.cons (.same _) .nil)) hsame rfl rfl rfl rfl rfl rfl (fun _ _ _ => val_mk _ _ _ _ _ rfl rfl) ?_))
  refine O_cAwayV (i0 := 965) (h2 := V.newB T) (gF 965 400 C.length) (if_pos rfl) (awayF_l hCn hCt.1 hCt.2) (awayF_dom hCn (by decide) (by decide)) (awayF_inj hCn (.inr (by decide))) hspC rfl (fun _ _ _ => val_mk _ _ _ _ _ rfl rfl) (awayF_2 hCn fun id bl hb => ?_) rfl rfl rfl rfl rfl ?_
  · have h1 := (cT.at_ id bl hb).1
    simp only [tD, decide_eq_true_eq] at h1
    refine ⟨cT.cons hb rfl (look_past (N := (965, entRB C) :: famE C 400) (G := V.newB T) cC ?_ hb), by omega, by omega⟩
    simp only [fD, decide_eq_false_iff_not]; omega
  repeat (first | refine q_Z ?_ | ((first | apply O_y rfl rfl rfl | apply Q_y rfl rfl rfl); (first | exact q_A | exact q_5 | exact q_B | (first | exact R_pnil tabOk rfl rfl rfl rfl rfl | exact q_25 | exact q_26 | exact Y_bbin tabOk rfl rfl rfl rfl (bb_same _)))) | refine q_d ?_ | refine q_a ?_ | refine q_b ?_ | refine q_c ?_ | refine A_ct rfl ?_ | refine A_cf rfl ?_ | refine q_W ?_)
  refine O_tEnt (T := T) (e1 := [(1, adsA as_), (6, entsA E), (12, .ptr 10 0), (114, boolA false)]) (h1 := []) hTl hTn (fun id b hb => by have hcT := clo_tab (f := 100) hTn; repeat (first | exact hb | exact look_left hb | refine hcT.cons hb rfl ?_ | refine hcT.killH hb rfl ?_)) ⟨rfl, rfl, rfl, rfl, trivial⟩ rfl rfl trivial rfl rfl rfl rfl rfl rfl fun F hF => ?_
  have hFE : F.map (·.x) = E := hF.trans hT
  have hFn := hYl F hFE
  have hFt := ents_at (Y := F) (r := 965) (b := 400) (H := ((965, entRB F) :: famE F 400) ++ V.newB T) (.inr (by decide)) hFn fun id bl hb => look_left hb
  have rF := entR_row hFt.1 hFt.2
  rw [hFE] at rF
  repeat (first | refine q_Z ?_ | ((first | apply O_y rfl rfl rfl | apply Q_y rfl rfl rfl); (first | exact q_A | exact q_5 | exact q_B | (first | exact R_pnil tabOk rfl rfl rfl rfl rfl | exact q_25 | exact q_26 | exact Y_bbin tabOk rfl rfl rfl rfl (bb_same _)))) | refine q_d ?_ | refine q_a ?_ | refine q_b ?_ | refine q_c ?_ | refine A_ct rfl ?_ | refine A_cf rfl ?_ | refine q_W ?_ | (first | refine O_cR (.cons rF (.cons (.same _) .nil)) hent rfl rfl rfl rfl rfl rfl (fun _ _ _ => val_mk _ _ _ _ _ rfl rfl) ?_))
  refine A_weaken (Wk_selG (h1 := []) (G := V.newB T) (e1 := [(1, adsA as_), (6, entsA E), (12, .ptr 10 0), (16, intA 0)]) ⟨rfl, rfl, rfl, rfl, trivial⟩ trivial (fun id b hb => by have h1 := (cT.at_ id b hb).1; simp only [tD, decide_eq_true_eq] at h1; exact look_past (N := (965, entRB F) :: famE F 400) (G := V.newB T) (clo_ents hFn) (by simp only [fD, decide_eq_false_iff_not]; omega) hb)) ?_
  refine A_weaken (Wk_tab2 (Y := T) (e1 := [(1, adsA as_), (6, entsA E), (12, .ptr 10 0), (16, intA 0)]) hTn ⟨rfl, rfl, rfl, rfl, trivial⟩ rfl) ?_
  refine A_loop (fun i : Nat => [(1, adsA as_), (6, entsA E), (12, .ptr 10 0), (16, intA (i : Int))]) (fun _ => tabB T 200) (fun i => i ≤ as_.length) (fun i => as_.length - i) 0 (Nat.zero_le _) AWk.refl ?_
  intro i hi
  try dsimp only
  by_cases hil : i < as_.length
  rotate_left
  · obtain rfl : i = as_.length := by omega
    repeat (first | refine q_Z ?_ | ((first | apply O_y rfl rfl rfl | apply Q_y rfl rfl rfl); (first | exact q_A | exact q_5 | exact q_B | (first | exact R_pnil tabOk rfl rfl rfl rfl rfl | exact q_25 | exact q_26 | exact Y_bbin tabOk rfl rfl rfl rfl (bb_same _)))) | refine q_d ?_ | refine q_a ?_ | refine q_b ?_ | refine q_c ?_ | refine A_ct rfl ?_ | refine A_cf rfl ?_ | refine q_W ?_ | refine O_c rfl rfl rfl rfl rfl hawake (fun _ => rfl) ?_)
    exact X_ret rfl ⟨rfl, rfl⟩
  by_cases h20 : i < 20
  rotate_left
  ·
    repeat (first | refine q_Z ?_ | ((first | apply O_y rfl rfl rfl | apply Q_y rfl rfl rfl); (first | exact q_A | exact q_5 | exact q_B | (first | exact R_pnil tabOk rfl rfl rfl rfl rfl | exact q_25 | exact q_26 | exact Y_bbin tabOk rfl rfl rfl rfl (bb_same _)))) | refine q_d ?_ | refine q_a ?_ | refine q_b ?_ | refine q_c ?_ | refine A_ct rfl ?_ | refine A_cf rfl ?_ | refine q_W ?_ | refine O_c rfl rfl rfl rfl rfl hawake (fun _ => rfl) ?_)
    exact X_ret rfl ⟨rfl, rfl⟩
  have hm := List.getElem_mem hil
  have hlook := refLookE_A E as_[i] (has _ hm).1 (has _ hm).2 hnd hgood hpo (by omega)
  obtain ⟨⟨z, bz⟩, hzb⟩ : ∃ r, (longRE (uE E) (mE E) as_[i]).2 = r := ⟨_, rfl⟩
  have hzl : z.hs.length ≤ 1000000 := by
    rcases look_law hnd hgood as_[i] with ⟨_, h2, _⟩ | ⟨_, h2, _⟩
    · rw [hzb] at h2; exact hEb _ h2
    · rw [hzb] at h2; dsimp only at h2; rw [h2]; decide
  have hone := one22_A z hzl
  rw [hzb] at hlook
  dsimp only at hlook
  have hwi := win_flat0 adD_len as_ i 1 hil (by decide)
  have hElen : ∀ y ∈ E, y.hs.length ≤ 2147483648 := fun y hy => Nat.le_trans (hEb y hy) (by decide)
  have hx0 := (has _ hm).1
  have hx1 := (has _ hm).2
  obtain ⟨x, hx⟩ : ∃ x, as_[i] = x := ⟨_, rfl⟩
  rw [hx] at hlook hzb hwi hx0 hx1
  obtain ⟨⟨za, zb⟩, zx, zh⟩ := z
  repeat (first | refine q_Z ?_ | ((first | apply O_y rfl rfl rfl | apply Q_y rfl rfl rfl); (first | exact q_A | exact R_loadi tabOk rfl rfl rfl rfl hwi rfl rfl | exact q_B | (first | exact R_pnil tabOk rfl rfl rfl rfl rfl | exact q_25 | exact q_26 | exact Y_bbin tabOk rfl rfl rfl rfl (bb_same _)))) | refine q_d ?_ | refine q_a ?_ | refine q_b ?_ | refine q_c ?_ | refine A_ct rfl ?_ | refine A_cf rfl ?_ | refine q_W ?_)
  refine O_tLook (T := T) (f := 200) ⟨by decide, by decide⟩ (x := x) (e1 := [(1, adsA as_), (6, entsA E), (12, .ptr 10 0), (16, intA (i : Int))]) (h1 := []) hT hzb hx0 hx1 hnd hgood hElen hTn (fun id b hb => by have hcT := clo_tab (f := 200) hTn; repeat (first | exact hb | exact look_left hb | refine hcT.cons hb rfl ?_ | refine hcT.killH hb rfl ?_)) ⟨rfl, rfl, rfl, rfl, trivial⟩ rfl rfl trivial rfl rfl rfl rfl rfl rfl fun v => ?_
  repeat (first | refine q_Z ?_ | ((first | apply O_y rfl rfl rfl | apply Q_y rfl rfl rfl); (first | exact q_A | exact R_loadi tabOk rfl rfl rfl rfl hwi rfl rfl | exact q_B | (first | exact R_pnil tabOk rfl rfl rfl rfl rfl | exact q_25 | exact q_26 | exact Y_bbin tabOk rfl rfl rfl rfl (bb_same _)))) | refine q_d ?_ | refine q_a ?_ | refine q_b ?_ | refine q_c ?_ | refine A_ct rfl ?_ | refine A_cf rfl ?_ | refine q_W ?_ | (first | refine O_c rfl rfl rfl rfl rfl hlook (fun _ => rfl) ?_ | refine O_cR (cs := [entRA ⟨⟨⟨za, zb⟩, zx, zh⟩, v⟩, entA ⟨⟨za, zb⟩, zx, zh⟩]) (.cons (entR_one (j := 700) rfl) (.cons (.same _) .nil)) hone rfl rfl rfl rfl rfl rfl (fun _ _ _ => val_mk _ _ _ _ _ rfl rfl) ?_))
  have hsp1 := spoilF_A [⟨⟨⟨za, zb⟩, zx, zh⟩, v⟩] (by simp) (fun y hy => by simp at hy; subst hy; exact hzl)
  have gF1 : ∀ p i, gF 159 700 1 p = some i → (p = 900 ∧ i = 159) ∨ (p = 100 ∧ i = 700) := fun p i h => by
    rcases gF_inv h with ⟨h1, h2⟩ | ⟨h1, h2, h3⟩
    · exact .inl ⟨h1, h2⟩
    · exact .inr (by omega)
  refine O_cAwayV (i0 := 159) (h2 := (19, .var ((entD ⟨⟨za, zb⟩, zx, zh⟩).map AVal.d)) :: tabB T 200) (gF 159 700 1) (if_pos rfl) (awayF_l (Y := [⟨⟨⟨za, zb⟩, zx, zh⟩, v⟩]) (by simp) rfl fun id bl hb => ?_) (awayF_dom (Y := [⟨⟨⟨za, zb⟩, zx, zh⟩, v⟩]) (by simp) (by decide) (by decide)) (awayF_inj (Y := [⟨⟨⟨za, zb⟩, zx, zh⟩, v⟩]) (by simp) (.inl (by decide))) hsp1 rfl (fun _ _ _ => val_mk _ _ _ _ _ rfl rfl) (awayF_2 (Y := [⟨⟨⟨za, zb⟩, zx, zh⟩, v⟩]) (by simp) fun id bl hb => ?_) rfl rfl rfl rfl rfl ?_
  · by_cases h7 : 700 = id
    · subst h7; rw [famE, look_cons_same] at hb; cases hb; rfl
    · rw [famE, look_cons_ne _ _ h7] at hb; cases hb
  · by_cases h7 : 19 = id
    · subst h7; rw [look_cons_same] at hb; cases hb; exact ⟨rfl, by decide, by decide⟩
    · rw [look_cons_ne _ _ h7] at hb
      have h1 := ((clo_tab (f := 200) hTn).at_ id bl hb).1
      simp only [tD, decide_eq_true_eq] at h1
      exact ⟨(fun id b hb => by have hcT := clo_tab (f := 200) hTn; repeat (first | exact hb | exact look_left hb | refine hcT.cons hb rfl ?_ | refine hcT.killH hb rfl ?_)) id bl hb, by omega, by omega⟩
  repeat (first | refine q_Z ?_ | ((first | apply O_y rfl rfl rfl | apply Q_y rfl rfl rfl); (first | exact q_A | exact R_loadi tabOk rfl rfl rfl rfl hwi rfl rfl | exact q_B | (first | exact R_pnil tabOk rfl rfl rfl rfl rfl | exact q_25 | exact q_26 | exact Y_bbin tabOk rfl rfl rfl rfl (bb_same _)))) | refine q_d ?_ | refine q_a ?_ | refine q_b ?_ | refine q_c ?_ | refine A_ct rfl ?_ | refine A_cf rfl ?_ | refine q_W ?_)
  refine O_tLook (T := T) (f := 200) ⟨by decide, by decide⟩ (x := x) (e1 := [(1, adsA as_), (6, entsA E), (12, .ptr 10 0), (16, intA (i : Int)), (19, .ptr 19 0)]) (h1 := [(19, .var ((entD ⟨⟨za, zb⟩, zx, zh⟩).map AVal.d))]) hT hzb hx0 hx1 hnd hgood hElen hTn (fun id b hb => by have hcT := clo_tab (f := 200) hTn; repeat (first | exact hb | exact look_left hb | refine hcT.cons hb rfl ?_ | refine hcT.killH hb rfl ?_)) ⟨rfl, rfl, rfl, rfl, rfl, trivial⟩ rfl rfl ⟨rfl, trivial⟩ rfl rfl rfl rfl rfl rfl fun v2 => ?_
  repeat (first | refine q_Z ?_ | ((first | apply O_y rfl rfl rfl | apply Q_y rfl rfl rfl); (first | exact q_A | exact R_loadi tabOk rfl rfl rfl rfl hwi rfl rfl | exact q_B | (first | exact R_pnil tabOk rfl rfl rfl rfl rfl | exact q_25 | exact q_26 | exact Y_bbin tabOk rfl rfl rfl rfl (bb_same _)))) | refine q_d ?_ | refine q_a ?_ | refine q_b ?_ | refine q_c ?_ | refine A_ct rfl ?_ | refine A_cf rfl ?_ | refine q_W ?_ | (first | refine O_cR (cs := [entRA ⟨⟨⟨za, zb⟩, zx, zh⟩, v2⟩, entA ⟨⟨za, zb⟩, zx, zh⟩]) (.cons (entR_one (j := 700) rfl) (.cons (.same _) .nil)) hone rfl rfl rfl rfl rfl rfl (fun _ _ _ => val_mk _ _ _ _ _ rfl rfl) ?_))
  exact ⟨i + 1, by omega, by omega, Wk_selG (h1 := []) ⟨rfl, rfl, rfl, rfl, trivial⟩ trivial (fun id b hb => by have hcT := clo_tab (f := 200) hTn; repeat (first | exact hb | exact look_left hb | refine hcT.cons hb rfl ?_ | refine hcT.killH hb rfl ?_)) ⟩
end Go.Proofs.YtenolkolkpfjgaaGreat.Ab

/-
  Texts of a proof, one behind the other (part 39).
-/
import Derived.Test.YtpnhkkejcnicoaaGreatRo6
import Derived.Test.YtpnhkkejcnicoaaGreatRo26
import Derived.Test.YtpnhkkejcnicoaaGreatRo36
import Derived.Test.YtpnhkkejcnicoaaGreatRo37
set_option linter.unusedVariables false
set_option linter.unusedSimpArgs false
namespace Go.Proofs.YtpnhkkejcnicoaaGreat.Ab
set_option linter.unusedVariables false
set_option maxRecDepth 100000
open Go.RowKit Go.Lib
set_option linter.unusedSimpArgs false
attribute [local irreducible] AWp AOps AQ AYield AEff ACall AWk AAny AAt AThen AIn APost NoPanic
def rte0 : Rte := ⟨⟨0, 0⟩, 0, 0, 0, 0, [], 0, false⟩
theorem rteA_rel (w : World) (F : Nat → Prop) (ι : Nat → Option Value) (r : Rte) : VRel w F ι (rteA r) (.agg (rteV r).toArray) := val_mk _ _ _ _ _ rfl rfl
theorem zeroRte (W : World) : (zeroValue 52).run Tryz.prog W = .ok (.agg (rteV rte0).toArray) W := by
  have h : tlook tab 52 = some _ := rfl
  obtain ⟨z, h1, h2, i, h3, h4, _⟩ := (tabOk _ _ h).zero W
  have h5 : (Tryz.prog.info? 52).bind (·.zero) = some (.agg (rteV rte0).toArray) := by kernel_rfl
  rw [h3] at h5
  simp only [Option.bind_some] at h5
  rw [h4] at h5
  cases h5
  exact h1
def bestB (l : List (Pfx × Rte)) : ABlk := .map (ents pfxA rteA l)
theorem kill_best (id : Nat) (l : List (Pfx × Rte)) : some (killB id (bestB l)) = some (bestB l) := by
  show some (ABlk.map ((l.map fun p => (pfxA p.1, rteA p.2)).map fun p => (killV id p.1, killV id p.2))) = _
  rw [List.map_map]
  rfl
theorem kill_best2 (i j : Nat) (l : List (Pfx × Rte)) : some (killB i (killB j (bestB l))) = some (bestB l) := by
  rw [Option.some.inj (kill_best j l)]; exact kill_best i l
theorem kill_best3 (i j m : Nat) (l : List (Pfx × Rte)) : some (killB i (killB j (killB m (bestB l)))) = some (bestB l) := by
  rw [Option.some.inj (kill_best m l)]; exact kill_best2 i j l
theorem take_snoc {α : Type} (l : List α) (k : Nat) (h : k < l.length) : l.take (k + 1) = l.take k ++ [l[k]] := List.take_succ_eq_append_getElem h
theorem filter_takeR (p : Rte → Bool) (l : List Rte) (k : Nat) (h : k < l.length) : (l.take (k + 1)).filter p = (l.take k).filter p ++ (if p l[k] then [l[k]] else []) := by
  rw [take_snoc l k h, List.filter_append]
  congr 1
  cases hp : p l[k] <;> simp [hp]
def okR (r : Rte) : Prop := (0 ≤ r.f ∧ r.f < 256) ∧ r.p.ok
set_option maxHeartbeats 8000000 in
theorem take_A (l : List Rte) (hok : ∀ r ∈ l, okR r) (hn : l.length ≤ 1000000) : ACall Tryz.prog 9 [rtesA l] [] (fun c h => c = .row 5 ∧ h = [(5, rteB (takeR l))]) := by
  refine ACall_of tabOk Tryz.func9 rfl Tryz.ntmps9 (congrArg Array.toList Tryz.results9) (by kernel_rfl) rfl ?_
  repeat (first | refine q_Z ?_ | refine R_quiet rfl mixed (by kernel_rfl) ?_ | ((first | apply O_y rfl rfl rfl | apply Q_y rfl rfl rfl); (first | exact q_A | exact q_5 | exact q_B)) | refine q_d ?_ | refine q_a ?_ | refine q_b ?_ | refine q_c ?_ | refine A_ct rfl ?_ | refine A_cf rfl ?_ | refine q_W ?_ | (refine O_makeMap 903 rfl rfl rfl rfl rfl ?_))
  refine A_loop (fun x : Nat × List (Pfx × Rte) => [(0, rtesA l), (3, .mp 903), (12, rtesA l), (13, intA (l.length : Int)), (14, intA (x.1 : Int))]) (fun x => [(903, bestB x.2)]) (fun x => x.1 ≤ l.length ∧ Kept (l.take x.1) x.2 ∧ (x.2.map (·.1)).Nodup) (fun x => l.length - x.1) (0, []) ⟨Nat.zero_le _, kept_nil, .nil⟩ (Wk_sel ⟨rfl, rfl, rfl, rfl, rfl, trivial⟩ ⟨rfl, trivial⟩) ?_
  rintro ⟨k, es⟩ ⟨hk, K, hn2⟩
  dsimp only at hk K hn2 ⊢
  by_cases hlt : k < l.length
  · have hkr := hok _ (List.getElem_mem hlt)
    repeat (first | refine q_Z ?_ | refine R_quiet rfl mixed (by kernel_rfl) ?_ | ((first | apply O_y rfl rfl rfl | apply Q_y rfl rfl rfl); (first | exact q_A | exact R_loadi tabOk rfl rfl rfl rfl (by first | exact win_flat0 rteD_len l k _ hlt (by decide) | exact win_flat rteD_len l k _ _ hlt (by decide) | exact win_flat2 rteD_len l k _ _ _ hlt (by decide) | rfl) rfl rfl | exact q_B)) | refine q_d ?_ | refine q_a ?_ | refine q_b ?_ | refine q_c ?_ | refine A_ct rfl ?_ | refine A_cf rfl ?_ | refine q_W ?_)
    cases hag : aget es l[k].p with
    | none =>
      repeat (first | refine q_Z ?_ | refine R_quiet rfl mixed (by kernel_rfl) ?_ | ((first | apply O_y rfl rfl rfl | apply Q_y rfl rfl rfl); (first | exact q_A | exact q_5 | exact q_B | (exact R_lkOutA (k := l[k].p) (rteA rte0) (fun w F ι => rteA_rel w F ι rte0) pfxKey pfxA_val zeroRte trivial (fun _ _ => trivial) hn2 hag tabOk rfl rfl rfl (kill_best 5 es) rfl rfl))) | refine q_d ?_ | refine q_a ?_ | refine q_b ?_ | refine q_c ?_ | refine A_ct rfl ?_ | refine A_cf rfl ?_ | refine q_W ?_)
      refine O_upd (k := l[k].p) (xa := rteA) (q := l[k]) pfxKey pfxA_val pfxA_rel trivial (fun _ _ => trivial) hn2 tabOk rfl rfl rfl rfl rfl (kill_best2 6 5 es) rfl rfl ?_
      repeat (first | refine q_Z ?_ | refine R_quiet rfl mixed (by kernel_rfl) ?_ | ((first | apply O_y rfl rfl rfl | apply Q_y rfl rfl rfl); (first | exact q_A | exact q_5 | exact q_B)) | refine q_d ?_ | refine q_a ?_ | refine q_b ?_ | refine q_c ?_ | refine A_ct rfl ?_ | refine A_cf rfl ?_ | refine q_W ?_)
      exact ⟨(k + 1, Go.Proofs.YtpnhkkejcnicoaaGreat.aput es l[k].p l[k]), ⟨by dsimp only; omega, by dsimp only; rw [take_snoc l k hlt]; exact kept_put K hn2 (fun b hb => by (rw [hag] at hb; cases hb)), by dsimp only; exact aput_nodup hn2⟩, by dsimp only; omega, Wk_sel ⟨rfl, rfl, rfl, rfl, rfl, trivial⟩ ⟨rfl, trivial⟩⟩
    | some b =>
      have hbm := K.mem _ (mem_of_aget hag)
      have hbr := hok b (List.mem_of_mem_take hbm.1)
      have hcm := cmpRoutes_A l[k] b hkr.1 hbr.1
      by_cases hlt2 : rank l[k] b < 0
      ·
        repeat (first | refine q_Z ?_ | refine R_quiet rfl mixed (by kernel_rfl) ?_ | ((first | apply O_y rfl rfl rfl | apply Q_y rfl rfl rfl); (first | exact q_A | exact q_5 | exact q_B | (exact R_lkIn (k := l[k].p) pfxKey pfxA_val zeroRte trivial (fun _ _ => trivial) hn2 hag tabOk rfl rfl rfl (kill_best 5 es) rfl rfl))) | refine q_d ?_ | refine q_a ?_ | refine q_b ?_ | refine q_c ?_ | refine A_ct rfl ?_ | refine A_cf rfl ?_ | refine q_W ?_ | refine O_c rfl rfl rfl rfl rfl hcm (fun _ => rfl) ?_)
        refine O_upd (k := l[k].p) (xa := rteA) (q := l[k]) pfxKey pfxA_val pfxA_rel trivial (fun _ _ => trivial) hn2 tabOk rfl rfl rfl rfl rfl (kill_best2 6 5 es) rfl rfl ?_
        repeat (first | refine q_Z ?_ | refine R_quiet rfl mixed (by kernel_rfl) ?_ | ((first | apply O_y rfl rfl rfl | apply Q_y rfl rfl rfl); (first | exact q_A | exact q_5 | exact q_B)) | refine q_d ?_ | refine q_a ?_ | refine q_b ?_ | refine q_c ?_ | refine A_ct rfl ?_ | refine A_cf rfl ?_ | refine q_W ?_)
        exact ⟨(k + 1, Go.Proofs.YtpnhkkejcnicoaaGreat.aput es l[k].p l[k]), ⟨by dsimp only; omega, by dsimp only; rw [take_snoc l k hlt]; exact kept_put K hn2 (fun b2 hb => by (rw [hag] at hb; cases hb; exact hlt2)), by dsimp only; exact aput_nodup hn2⟩, by dsimp only; omega, Wk_sel ⟨rfl, rfl, rfl, rfl, rfl, trivial⟩ ⟨rfl, trivial⟩⟩
      ·
        repeat (first | refine q_Z ?_ | refine R_quiet rfl mixed (by kernel_rfl) ?_ | ((first | apply O_y rfl rfl rfl | apply Q_y rfl rfl rfl); (first | exact q_A | exact q_5 | exact q_B | (exact R_lkIn (k := l[k].p) pfxKey pfxA_val zeroRte trivial (fun _ _ => trivial) hn2 hag tabOk rfl rfl rfl (kill_best 5 es) rfl rfl))) | refine q_d ?_ | refine q_a ?_ | refine q_b ?_ | refine q_c ?_ | refine A_ct rfl ?_ | refine A_cf rfl ?_ | refine q_W ?_ | refine O_c rfl rfl rfl rfl rfl hcm (fun _ => rfl) ?_)
        exact ⟨(k + 1, es), ⟨by dsimp only; omega, by dsimp only; rw [take_snoc l k hlt]; exact kept_stay K hag (by omega), hn2⟩, by dsimp only; omega, Wk_sel ⟨rfl, rfl, rfl, rfl, rfl, trivial⟩ ⟨kill_best2 6 5 es, trivial⟩⟩
  · have hkk : k = l.length := by omega
    subst hkk
    rw [List.take_length] at K
    repeat (first | refine q_Z ?_ | refine R_quiet rfl mixed (by kernel_rfl) ?_ | ((first | apply O_y rfl rfl rfl | apply Q_y rfl rfl rfl); (first | exact q_A | exact q_5 | exact q_B)) | refine q_d ?_ | refine q_a ?_ | refine q_b ?_ | refine q_c ?_ | refine A_ct rfl ?_ | refine A_cf rfl ?_ | refine q_W ?_)
    refine A_weaken (Wk_nil 52 9 (t := 8) (id := 8) rfl rfl) ?_
    refine A_loop (fun k : Nat => [(3, .mp 903), (8, .row 8), (38, rtesA l), (39, intA (l.length : Int)), (40, intA (k : Int))]) (fun k => [(8, rteB ((l.take k).filter (winB l))), (903, bestB es)]) (fun k => k ≤ l.length) (fun k => l.length - k) 0 (Nat.zero_le _) (Wk_sel ⟨rfl, rfl, rfl, rfl, rfl, trivial⟩ ⟨rfl, kill_best 8 es, trivial⟩) ?_
    intro k hk
    try dsimp only
    have hfl : ((l.take k).filter (winB l)).length ≤ l.length := Nat.le_trans (List.length_filter_le _ _) (by rw [List.length_take]; omega)
    by_cases hlt : k < l.length
    · have hkr := hok _ (List.getElem_mem hlt)
      obtain ⟨⟨q, b⟩, hem, he1, he2⟩ := K.all l[k] (List.getElem_mem hlt)
      dsimp only at he1 he2
      subst he1
      have hag := aget_of_mem hn2 hem
      have hbm := K.mem _ hem
      have hbr := hok b hbm.1
      have hcm := cmpRoutes_A l[k] b hkr.1 hbr.1
      have hst := filter_takeR (winB l) l k hlt
      have hwin := kept_win K hn2 hem (List.getElem_mem hlt)
      cases hw : winB l l[k] with
      | true =>
        rw [hw, if_pos rfl] at hst
        have hr0 : rank l[k] b = 0 := hwin.1 hw
        rw [hr0] at hcm
        repeat (first | refine q_Z ?_ | refine R_quiet rfl mixed (by kernel_rfl) ?_ | ((first | apply O_y rfl rfl rfl | apply Q_y rfl rfl rfl); (first | exact q_A | exact R_loadi tabOk rfl rfl rfl rfl (by first | exact win_flat0 rteD_len l k _ hlt (by decide) | exact win_flat rteD_len l k _ _ hlt (by decide) | exact win_flat2 rteD_len l k _ _ _ hlt (by decide) | rfl) rfl rfl | exact q_B | (exact R_lk1 (k := l[k].p) pfxKey pfxA_val zeroRte trivial (fun _ _ => trivial) hn2 hag tabOk rfl rfl rfl (kill_best 10 es) rfl rfl))) | refine q_d ?_ | refine q_a ?_ | refine q_b ?_ | refine q_c ?_ | refine A_ct rfl ?_ | refine A_cf rfl ?_ | refine q_W ?_ | (first | refine Q_c rfl rfl rfl rfl rfl hcm rfl (fun _ _ _ => val_mk _ _ _ _ _ rfl rfl) ?_ | (first | refine O_appR tabOk rfl rfl rfl rfl rfl rfl rfl rfl rfl rfl rfl (by first | exact Src.row rfl | exact Src.dat _ _ | exact Src.nil) rfl (by omega) ?_ | refine O_appN tabOk rfl rfl rfl rfl rfl rfl rfl rfl rfl rfl (by first | exact Src.row rfl | exact Src.dat _ _ | exact Src.nil) rfl (by omega) ?_)))
        exact ⟨k + 1, by omega, by omega, Wk_sel ⟨rfl, rfl, rfl, rfl, rfl, trivial⟩ ⟨row_eq (by rw [hst]; simp) (by rw [hst]; simp [rteD]) rfl, kill_best3 _ _ _ es, trivial⟩⟩
      | false =>
        rw [hw] at hst
        have hst : (l.take (k + 1)).filter (winB l) = (l.take k).filter (winB l) := by simpa using hst
        have hr0 : rank l[k] b ≠ 0 := fun h => by rw [hwin.2 h] at hw; cases hw
        repeat (first | refine q_Z ?_ | refine R_quiet rfl mixed (by kernel_rfl) ?_ | ((first | apply O_y rfl rfl rfl | apply Q_y rfl rfl rfl); (first | exact q_A | exact R_loadi tabOk rfl rfl rfl rfl (by first | exact win_flat0 rteD_len l k _ hlt (by decide) | exact win_flat rteD_len l k _ _ hlt (by decide) | exact win_flat2 rteD_len l k _ _ _ hlt (by decide) | rfl) rfl rfl | exact q_B | (exact R_lk1 (k := l[k].p) pfxKey pfxA_val zeroRte trivial (fun _ _ => trivial) hn2 hag tabOk rfl rfl rfl (kill_best 10 es) rfl rfl))) | refine q_d ?_ | refine q_a ?_ | refine q_b ?_ | refine q_c ?_ | refine A_ct rfl ?_ | refine A_cf rfl ?_ | refine q_W ?_ | (first | refine Q_c rfl rfl rfl rfl rfl hcm rfl (fun _ _ _ => val_mk _ _ _ _ _ rfl rfl) ?_))
        exact ⟨k + 1, by omega, by omega, Wk_sel ⟨rfl, rfl, rfl, rfl, rfl, trivial⟩ ⟨by rw [hst]; rfl, kill_best 10 es, trivial⟩⟩
    · have hkk : k = l.length := by omega
      subst hkk
      rw [List.take_length]
      have hfl2 : (l.filter (winB l)).length ≤ l.length := List.length_filter_le _ _
      have hso := sort_R (l.filter (winB l)) (by omega)
      repeat (first | refine q_Z ?_ | refine R_quiet rfl mixed (by kernel_rfl) ?_ | ((first | apply O_y rfl rfl rfl | apply Q_y rfl rfl rfl); (first | exact q_A | exact q_5 | exact q_B)) | refine q_d ?_ | refine q_a ?_ | refine q_b ?_ | refine q_c ?_ | refine A_ct rfl ?_ | refine A_cf rfl ?_ | refine q_W ?_)
      refine O_weaken (Wk_freeze (id := 8) rfl) ?_
      refine O_cRow rfl rfl rfl rfl rfl hso rfl ?_
      repeat (first | refine q_Z ?_ | refine R_quiet rfl mixed (by kernel_rfl) ?_ | ((first | apply O_y rfl rfl rfl | apply Q_y rfl rfl rfl); (first | exact q_A | exact q_5 | exact q_B)) | refine q_d ?_ | refine q_a ?_ | refine q_b ?_ | refine q_c ?_ | refine A_ct rfl ?_ | refine A_cf rfl ?_ | refine q_W ?_)
      exact X_retW AWk.refl rfl (h2 := [(5, rteB (takeR l))]) ⟨rfl, trivial⟩ ⟨rfl, rfl⟩
end Go.Proofs.YtpnhkkejcnicoaaGreat.Ab

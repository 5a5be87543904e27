/-
  Texts of a proof, one behind the other (part 29).
-/
import Derived.Test.YtenolkolkpfjgaaGreatFt8
import Derived.Test.YtenolkolkpfjgaaGreatFt24
import Derived.Test.YtenolkolkpfjgaaGreatFt25
import Derived.Test.YtenolkolkpfjgaaGreatFt26
import Derived.Test.YtenolkolkpfjgaaGreatFt27
set_option linter.unusedVariables false
set_option linter.unusedSimpArgs false
namespace Go.Proofs.YtenolkolkpfjgaaGreat.Ab
set_option linter.unusedVariables false
set_option maxRecDepth 100000
open Go.RowKit Go.Lib
def nuR : Nat → List (Nat × Nat)
  | 0 => []
  | n + 1 => (100 + n, 100 + n) :: nuR n
theorem look_nuR : ∀ n p, look (nuR n) p = if 100 ≤ p ∧ p < 100 + n then some p else none
  | 0, p => by rw [if_neg (by omega)]; rfl
  | n + 1, p => by
    by_cases hp : 100 + n = p
    · subst hp
      rw [nuR, look_cons_same, if_pos (by omega)]
    · rw [nuR, look_cons_ne _ _ hp, look_nuR n p]
      by_cases h : 100 ≤ p ∧ p < 100 + n
      · rw [if_pos h, if_pos (by omega)]
      · rw [if_neg h, if_neg (by omega)]
theorem nuR_in : ∀ n x, x ∈ nuR n → 100 ≤ x.1 ∧ x.1 < 100 + n ∧ x.2 = x.1
  | 0, x, h => by cases h
  | n + 1, x, h => by
    rcases List.mem_cons.1 h with rfl | h
    · exact ⟨by dsimp only; omega, by dsimp only; omega, rfl⟩
    · obtain ⟨h1, h2, h3⟩ := nuR_in n x h
      exact ⟨h1, by omega, h3⟩
theorem nuR_nd : ∀ n, ((nuR n).map (·.1)).Nodup
  | 0 => .nil
  | n + 1 => by
    rw [nuR, List.map_cons, List.nodup_cons]
    refine ⟨fun h => ?_, nuR_nd n⟩
    obtain ⟨x, hx, h1⟩ := List.mem_map.1 h
    have := nuR_in n x hx
    dsimp only at h1
    omega
def nuF : List (Nat × Nat) := (950, 950) :: nuR 200
theorem nuF_some {p i : Nat} (h : look nuF p = some i) : i = p ∧ (p = 950 ∨ 100 ≤ p ∧ p < 300) := by
  unfold nuF at h
  by_cases hp : 950 = p
  · subst hp; rw [look_cons_same] at h; cases h; exact ⟨rfl, .inl rfl⟩
  · rw [look_cons_ne _ _ hp, look_nuR] at h
    split at h
    · rename_i h1; cases h; exact ⟨rfl, .inr (by omega)⟩
    · cases h
theorem nuF_of {p : Nat} (h : 100 ≤ p ∧ p < 300) : look nuF p = some p := by
  unfold nuF
  rw [look_cons_ne _ _ (by omega), look_nuR, if_pos (by omega)]
theorem nuF_nd : (nuF.map (·.1)).Nodup := by
  unfold nuF
  rw [List.map_cons, List.nodup_cons]
  refine ⟨fun h => ?_, nuR_nd 200⟩
  obtain ⟨x, hx, h1⟩ := List.mem_map.1 h
  have := nuR_in 200 x hx
  dsimp only at h1
  omega
theorem nuF_keys {j : Nat} (h : j ∈ nuF.map (·.2)) : j = 950 ∨ 100 ≤ j ∧ j < 300 := by
  obtain ⟨x, hx, rfl⟩ := List.mem_map.1 h
  unfold nuF at hx
  rcases List.mem_cons.1 hx with rfl | h1
  · exact .inl rfl
  · have := nuR_in 200 x h1
    exact .inr (by omega)
theorem nu_inj {p p' i : Nat} (h1 : look (nuF ++ [(1000, 3)]) p = some i) (h2 : look (nuF ++ [(1000, 3)]) p' = some i) : p = p' := by
  have key : ∀ q, look (nuF ++ [(1000, 3)]) q = some i → (i = q ∧ (q = 950 ∨ 100 ≤ q ∧ q < 300)) ∨ (q = 1000 ∧ i = 3) := fun q h => by
    rw [look_append] at h
    cases hl : look nuF q with
    | some j => rw [hl] at h; cases h; exact .inl (nuF_some hl)
    | none => rw [hl] at h; exact .inr (look_one' h)
  rcases key p h1 with h3 | h3 <;> rcases key p' h2 with h4 | h4 <;> omega
set_option linter.unusedSimpArgs false
attribute [local irreducible] AWp AOps AQ AYield AEff ACall AWk AAny AAt AThen AIn APost NoPanic
set_option maxHeartbeats 8000000 in
theorem entriesR_A (l : List Rte) (hok : ∀ s ∈ l, okR s) (hh : ∀ s ∈ l, 0 ≤ s.h ∧ s.h < 4294967296) (hn : l.length ≤ 200) :
    ACall Tryz.prog 5 [rtesA l] [] (fun c h => ∃ Y : List EntR, Y.map (·.x) = entsE l ∧ c = .row 950 ∧ h = (950, entRB Y) :: famE Y 100) := by
  have hst := toldR_A l hok hh hn
  have hEl := entsE_len l
  refine ACall_of tabOk Tryz.func5 rfl Tryz.ntmps5 (congrArg Array.toList Tryz.results5) (by kernel_rfl) rfl ?_
  repeat (first | refine q_Z ?_ | ((first | apply O_y rfl rfl rfl | apply Q_y rfl rfl rfl); (first | exact q_A | exact q_5 | exact q_B | (exact Y_makeFunc rfl rfl))) | refine q_d ?_ | refine q_a ?_ | refine q_b ?_ | refine q_c ?_ | refine A_ct rfl ?_ | refine A_cf rfl ?_ | refine q_W ?_)
  refine O_weaken (Wk_nilB (b := 3) (id := 950) 45 4 rfl rfl rfl) ?_
  refine O_weaken (Wk_sel (e1 := [(3, .ptr 3 0), (4, rtesA l), (5, .fn 19 [.ptr 3 0])]) (h1 := [(3, .var [.row 950]), (950, entRB [])]) ⟨rfl, rfl, rfl, trivial⟩ ⟨rfl, rfl, trivial⟩) ?_
  refine O_cTV (α := List EntR) (C := fun _ => .tup []) (H1 := fun Y => [(1000, .var [.row 950]), (950, entRB Y)] ++ famE Y 100) (Φ := fun Y => Y.map (·.x) = entsE l) [(1000, 3)] nuF 950 950 (fun p p' i h1 h2 => by rw [(look_one' h1).1, (look_one' h2).1]) (fun p i h1 => by rw [(look_one' h1).1]; exact ⟨Nat.le_refl _, rfl, fun _ => rfl⟩) (fun p i h1 => ⟨by have := nuF_some h1; omega, by have := nuF_some h1; omega, fun q hq => by have := (look_one' hq).2; have := nuF_some h1; omega⟩) (fun p p' i h1 h2 => by have := nuF_some h1; have := nuF_some h2; omega) nuF_nd (by decide) (by omega) rfl ⟨950, look_cons_same _ _ _⟩ hst rfl ⟨⟨3, _, rfl, rfl, rfl, fun c hc => by simp at hc; subst hc; rfl⟩, ⟨950, _, rfl, rfl, rfl, trivial⟩, trivial⟩ rfl rfl rfl rfl rfl rfl rfl rfl fun Y hY => ?_
  have hYl : Y.length ≤ 200 := by have h1 : (Y.map (·.x)).length = (entsE l).length := by rw [hY]
                                  rw [List.length_map] at h1; omega
  refine O_weaken (Wk_selG (e1 := [(3, .ptr 3 0)]) (h1 := [(3, .var [.row 950]), (950, entRB Y)]) (G := famE Y 100) ⟨by rw [look_cons_ne _ _ (by decide)]; exact killEs_keep rfl fun j hj => by have := nuF_keys hj; show (3 == j) = false; simp; omega, trivial⟩ ⟨by rw [look_append, ren_at (fun p p' i => nu_inj) (p := 1000) rfl rfl]; rfl, by rw [look_append, ren_at (fun p p' i => nu_inj) (p := 950) rfl rfl]; rfl, trivial⟩ fun id b hb => by
    have h1 := famE_in hb
    rw [look_append, ren_at (h' := [(1000, ABlk.var [.row 950]), (950, entRB Y)] ++ famE Y 100) (fun p p' i => nu_inj) (p := id) (i := id) (by rw [look_append, nuF_of (by omega)]) (fx_cons (by decide) h1.1 (by omega) (fx_cons (by decide) h1.1 (by omega) hb)), isX_ren h1.2.2]) ?_
  repeat (first | refine q_Z ?_ | ((first | apply O_y rfl rfl rfl | apply Q_y rfl rfl rfl); (first | exact q_A | exact q_5 | exact q_B)) | refine q_d ?_ | refine q_a ?_ | refine q_b ?_ | refine q_c ?_ | refine A_ct rfl ?_ | refine A_cf rfl ?_ | refine q_W ?_)
  exact X_retW AWk.refl rfl (h2 := (950, entRB Y) :: famE Y 100) ⟨rfl, sub_of_look (famE_nd Y 100) fun id b hb => fx_cons (by decide) (famE_in hb).1 (by have := (famE_in hb).2.1; omega) (fx_cons (by decide) (famE_in hb).1 (by have := (famE_in hb).2.1; omega) hb)⟩ ⟨Y, hY, rfl, rfl⟩
theorem ownN_A (x : Ent) (hl : x.hs.length ≤ 2147483648) : ACall Tryz.prog 23 [entA x] [] (fun c h => c = .agg [.d (.sc (.int .u32 x.p.a)), .d (.sc (.int .i64 x.p.b)), .d (.sc (.bool x.x)), .row 950] ∧ h = [(950, hopB x.hs)]) := by
  obtain ⟨⟨pa, pb⟩, xx, hs⟩ := x
  have hc := cloneH_A hs hl
  refine ACall_of tabOk Tryz.func23 rfl Tryz.ntmps23 (congrArg Array.toList Tryz.results23) (by kernel_rfl) rfl ?_
  repeat (first | refine q_Z ?_ | ((first | apply O_y rfl rfl rfl | apply Q_y rfl rfl rfl); (first | exact q_A | exact q_5 | exact q_B)) | refine q_d ?_ | refine q_a ?_ | refine q_b ?_ | refine q_c ?_ | refine A_ct rfl ?_ | refine A_cf rfl ?_ | refine q_W ?_)
  refine O_cRow rfl rfl rfl rfl rfl hc rfl ?_
  repeat (first | refine q_Z ?_ | ((first | apply O_y rfl rfl rfl | apply Q_y rfl rfl rfl); (first | exact q_A | exact q_5 | exact q_B)) | refine q_d ?_ | refine q_a ?_ | refine q_b ?_ | refine q_c ?_ | refine A_ct rfl ?_ | refine A_cf rfl ?_ | refine q_W ?_)
  exact X_retW AWk.refl rfl (h2 := [(950, hopB hs)]) ⟨rfl, trivial⟩ ⟨rfl, rfl⟩
theorem ownR_A (x : Ent) (hl : x.hs.length ≤ 2147483648) : ACall Tryz.prog 23 [entA x] [] (fun c h => ∃ v : Value, True ∧ c = entRA ⟨x, v⟩ ∧ h = [(950, hopX v x.hs)]) :=
  ((ownN_A x hl).raw (fun id hm => by simp at hm; subst hm; rfl)).mono fun c h ⟨ρ, h1, h2⟩ => ⟨ρ 950, trivial, h1, h2⟩
theorem hopX_q (x : Ent) (v : Value) : (([(950, hopX v x.hs)] : Heap).map (·.1)).all (fun j => Nat.blt j 1000) = true ∧ (∀ id b j, look [(950, hopX v x.hs)] id = some b → blkHas j b = true → (look [(950, hopX v x.hs)] j).isSome = true) ∧ ∀ j, (entRA ⟨x, v⟩).has j = true → (look [(950, hopX v x.hs)] j).isSome = true :=
  ⟨rfl, (fun id b j hb hj => by
    by_cases h : 950 = id
    · subst h; rw [look_cons_same] at hb; cases hb; cases hj
    · rw [look_cons_ne _ _ h] at hb; cases hb), (fun j hj => by cases hj)⟩
end Go.Proofs.YtenolkolkpfjgaaGreat.Ab

namespace Go.Proofs.YtenolkolkpfjgaaGreat.Ab.V
set_option linter.unusedVariables false
set_option maxRecDepth 100000
open Go.RowKit Go.Lib
set_option linter.unusedSimpArgs false
attribute [local irreducible] AWp AOps AQ AYield AEff ACall AWk AAny AAt AThen AIn APost NoPanic
theorem ents_q (Y : List EntR) (hn : Y.length ≤ 200) : (((950, entRB Y) :: famE Y 100).map (·.1)).all (fun j => Nat.blt j 1000) = true ∧ (∀ id b j, look ((950, entRB Y) :: famE Y 100) id = some b → blkHas j b = true → (look ((950, entRB Y) :: famE Y 100) j).isSome = true) ∧ ∀ j, (AVal.row 950).has j = true → (look ((950, entRB Y) :: famE Y 100) j).isSome = true := by
  refine ⟨?_, fun id b j hb hj => ?_, fun j hj => ?_⟩
  · rw [List.all_eq_true]
    intro j hj
    rcases List.mem_cons.1 hj with rfl | h1
    · rfl
    · obtain ⟨b, hb⟩ := look_of_key h1
      have := famE_in hb
      exact Nat.ble_eq_true_of_le (by omega)
  · by_cases h : 950 = id
    · subst h; rw [look_cons_same] at hb; cases hb; cases hj
    · rw [look_cons_ne _ _ h] at hb
      rw [isX_has (famE_in hb).2.2] at hj; cases hj
  · have h1 : (950 == j) = true := hj
    have : 950 = j := by simpa using h1
    subst this
    rw [look_cons_same]; rfl
abbrev nwE (E : List Ent) (k : Nat) : Env := [(3, .ptr 10 0), (14, .row 950), (15, intA (E.length : Int)), (16, intA (k : Int))]
abbrev nwH (Y : List EntR) (E : List Ent) (k : Nat) : Heap := [(10, .var [.row 950, .ptr 3 0]), (950, entRB Y), (3, tblB 902 (uE (E.take k))), (902, emapB (mE (E.take k)))]
set_option maxHeartbeats 8000000 in
theorem fibNewR_A (l : List Rte) (hok : ∀ s ∈ l, okR s) (hh : ∀ s ∈ l, 0 ≤ s.h ∧ s.h < 4294967296) (hn : l.length ≤ 200) :
    ACall Tryz.prog 7 [rtesA l] [] (fun c h => ∃ Y : List EntR, Y.map (·.x) = entsE l ∧ c = .ptr 10 0 ∧ h = [(10, .var [.row 950, .ptr 3 0]), (950, entRB Y), (3, tblB 902 (uE (vE Y))), (902, emapB (mE (vE Y)))] ++ famE Y 100) := by
  have hent := entriesR_A l hok hh hn
  have hEl := entsE_len l
  have hEg := fun x => entsE_good (l := l) (x := x)
  have hnd0 := entsE_nd l
  refine ACall_of tabOk Tryz.func7 rfl Tryz.ntmps7 (congrArg Array.toList Tryz.results7) (by kernel_rfl) rfl ?_
  repeat (first | refine q_Z ?_ | ((first | apply O_y rfl rfl rfl | apply Q_y rfl rfl rfl); (first | exact q_A | exact q_5 | exact q_B)) | refine q_d ?_ | refine q_a ?_ | refine q_b ?_ | refine q_c ?_ | refine A_ct rfl ?_ | refine A_cf rfl ?_ | refine q_W ?_)
  refine O_cNE (α := List EntR) (Φ := fun Y => Y.map (·.x) = entsE l) (C := fun _ => .row 950) (H1 := fun Y => (950, entRB Y) :: famE Y 100) hent (fun Y hY => ents_q Y (by have h1 : (Y.map (·.x)).length = (entsE l).length := by rw [hY]
                                                                                                                                                                            rw [List.length_map] at h1; omega)) rfl rfl rfl rfl rfl fun Y hY => ?_
  have hYl : Y.length ≤ 200 := by have h1 : (Y.map (·.x)).length = (entsE l).length := by rw [hY]
                                  rw [List.length_map] at h1; omega
  have hfl : Y.flatMap entRD = (vE Y).flatMap entD := (vE_flat Y).symm
  have hlen : Y.length = (vE Y).length := by rw [List.length_map]
  have hnd : ((vE Y).map (·.p)).Nodup := by rw [vE_p, hY]; exact hnd0
  have hpg : ∀ x ∈ vE Y, x.p.ok ∧ chk x.p = 0 := fun x hx => by
    obtain ⟨y, hy, rfl⟩ := List.mem_map.1 hx
    have hm : y.x ∈ entsE l := by rw [← hY]; exact List.mem_map.2 ⟨y, hy, rfl⟩
    obtain ⟨h1, r, hr, hp⟩ := hEg _ hm
    exact ⟨by show y.x.p.ok; rw [← hp]; exact (hok r hr).2, h1⟩
  refine O_weaken (Wk_selG (e1 := [(7, .row 950)]) (h1 := [(950, entRB Y)]) (G := famE Y 100) ⟨rfl, trivial⟩ ⟨rfl, trivial⟩ fun id b hb => ?_) ?_
  · have h1 := famE_in hb
    show look ((950, entRB Y) :: (famE Y 100 ++ _)) id = _
    rw [look_cons_ne _ _ (by omega), look_append, hb]
  obtain ⟨E, hE⟩ : ∃ E, vE Y = E := ⟨_, rfl⟩
  rw [hE] at hfl hlen hnd hpg
  refine O_cNewV newV_A rfl rfl rfl rfl rfl ?_
  repeat (first | refine q_Z ?_ | ((first | apply O_y rfl rfl rfl | apply Q_y rfl rfl rfl); (first | exact q_A | exact q_5 | exact q_B | (exact Y_nilCheck rfl rfl rfl))) | refine q_d ?_ | refine q_a ?_ | refine q_b ?_ | refine q_c ?_ | refine A_ct rfl ?_ | refine A_cf rfl ?_ | refine q_W ?_)
  rw [hlen]
  refine A_loop (fun k : Nat => nwE E k) (fun k => nwH Y E k ++ famE Y 100) (fun k => k ≤ E.length) (fun k => E.length - k) 0 (Nat.zero_le _) (by (try dsimp only); exact Wk_selG (h1 := nwH Y E 0) (G := famE Y 100) ⟨rfl, rfl, rfl, rfl, trivial⟩ ⟨rfl, rfl, rfl, rfl, trivial⟩ (look_famE (by omega) fun j b h1 h2 hx hb => by repeat (first | exact hb | refine fx_cons (by decide) h1 h2 ?_ | refine fx_killH (by decide) h1 h2 hx ?_ | refine fx_killHs (ks := [3, 902]) (by decide) h1 h2 hx ?_ | refine fx_killHs (by decide) h1 h2 hx ?_ | refine fx_frH (by decide) h1 h2 hx ?_)) ) ?_
  intro k hk
  try dsimp only
  by_cases hkE : k < E.length
  · have hm := List.getElem_mem hkE
    obtain ⟨hg1, hg2⟩ := mE_put hnd k hkE
    have hub := uE_snoc (E.take k) E[k]
    rw [← List.take_succ_eq_append_getElem hkE] at hub
    have hnk : ((mE (E.take k)).map (·.1)).Nodup := by
      rw [mE_keys]
      exact hnd.sublist ((List.take_sublist k E).map _)
    have hp := putV_A (uE (E.take k)) (mE (E.take k)) E[k].p E[k] (hpg _ hm).1 hnk (fun j => by have := uE_bd (E.take k) j; rw [List.length_take] at this; omega) (hpg _ hm).2
    rw [hg1, hg2] at hp
    simp only [Option.isSome_none, Bool.false_eq_true, if_false] at hp
    rw [hub] at hp
    obtain ⟨x, hx⟩ : ∃ x, E[k] = x := ⟨_, rfl⟩
    have hw0 : win (Y.flatMap entRD) (k * 4) 4 = entD x := by rw [hfl]; exact (win_flat0 entD_len E k 4 hkE (by decide)).trans (by rw [hx]; rfl)
    rw [hx] at hp
    clear hg1 hg2 hub
    obtain ⟨⟨pa, pb⟩, xx, hs⟩ := x
    have hkY : k < Y.length := by omega
    repeat (first | refine q_Z ?_ | ((first | apply O_y rfl rfl rfl | apply Q_y rfl rfl rfl); (first | exact q_A | exact q_5 | exact q_B | (first | exact R_loade tabOk rfl rfl rfl rfl rfl rfl hw0 rfl rfl | exact R_indexr (j := k) tabOk rfl rfl rfl rfl rfl rfl rfl hkY))) | refine q_d ?_ | refine q_a ?_ | refine q_b ?_ | refine q_c ?_ | refine A_ct rfl ?_ | refine A_cf rfl ?_ | refine q_W ?_)
    refine A_weaken (Wk_selG (e1 := (5, .ptr 5 0) :: nwE E k) (h1 := (5, entB1 ⟨⟨pa, pb⟩, xx, hs⟩) :: nwH Y E k) (G := famE Y 100) ⟨rfl, rfl, rfl, rfl, rfl, trivial⟩ ⟨rfl, rfl, rfl, rfl, kill_mapE 5 _, trivial⟩ (look_famE (by omega) fun j b h1 h2 hx hb => by repeat (first | exact hb | refine fx_cons (by decide) h1 h2 ?_ | refine fx_killH (by decide) h1 h2 hx ?_ | refine fx_killHs (ks := [3, 902]) (by decide) h1 h2 hx ?_ | refine fx_killHs (by decide) h1 h2 hx ?_ | refine fx_frH (by decide) h1 h2 hx ?_)) ) ?_
    refine N_begin [3, 902] mixed ?_
    repeat (first | ((first | apply q_M 0 rfl rfl (by kernel_rfl) (by decide +kernel) (by decide +kernel) rfl rfl rfl | apply q_M 1 rfl rfl (by kernel_rfl) (by decide +kernel) (by decide +kernel) rfl rfl rfl | apply q_M 2 rfl rfl (by kernel_rfl) (by decide +kernel) (by decide +kernel) rfl rfl rfl | apply q_M 3 rfl rfl (by kernel_rfl) (by decide +kernel) (by decide +kernel) rfl rfl rfl | apply q_M 4 rfl rfl (by kernel_rfl) (by decide +kernel) (by decide +kernel) rfl rfl rfl | apply q_M 5 rfl rfl (by kernel_rfl) (by decide +kernel) (by decide +kernel) rfl rfl rfl | apply q_M 6 rfl rfl (by kernel_rfl) (by decide +kernel) (by decide +kernel) rfl rfl rfl | apply q_M 7 rfl rfl (by kernel_rfl) (by decide +kernel) (by decide +kernel) rfl rfl rfl ); (first | exact q_A | exact q_5 | exact q_B | exact Y_nilCheck rfl rfl rfl)) | (apply q_L 3 rfl rfl (by kernel_rfl) (by decide +kernel) (by decide +kernel) rfl rfl rfl; (first | exact q_5 | exact q_7 | exact q_19)) | (apply q_L 4 rfl rfl (by kernel_rfl) (by decide +kernel) (by decide +kernel) rfl rfl rfl; (first | exact q_5 | exact q_7 | exact q_19)) | (apply q_L 5 rfl rfl (by kernel_rfl) (by decide +kernel) (by decide +kernel) rfl rfl rfl; (first | exact q_5 | exact q_7 | exact q_19)) | (apply q_L 6 rfl rfl (by kernel_rfl) (by decide +kernel) (by decide +kernel) rfl rfl rfl; (first | exact q_5 | exact q_7 | exact q_19)) | refine N_one (j := 0) (by decide +kernel) ?_ | refine N_one (j := 1) (by decide +kernel) ?_ | refine N_one (j := 2) (by decide +kernel) ?_ | refine N_one (j := 3) (by decide +kernel) ?_ | refine N_one (j := 4) (by decide +kernel) ?_ | refine N_one (j := 5) (by decide +kernel) ?_ | refine N_one (j := 6) (by decide +kernel) ?_ | refine N_one (j := 7) (by decide +kernel) ?_ | refine T_alloc tabOk rfl rfl rfl rfl rfl rfl rfl ?_ | refine T_store tabOk rfl rfl rfl rfl rfl rfl rfl rfl rfl rfl rfl rfl rfl ?_ | (apply T_yield rfl rfl rfl rfl; (first | exact q_2 | exact q_1 | first | exact q_5 | exact q_7 | exact q_19)) | refine N_done (by decide +kernel) ?_ | refine T_cTblV 3 902 (by omega) hp rfl rfl rfl rfl rfl rfl rfl rfl rfl rfl rfl rfl ?_)
    repeat (first | refine q_Z ?_ | ((first | apply O_y rfl rfl rfl | apply Q_y rfl rfl rfl); (first | exact q_A | exact q_5 | exact q_B)) | refine q_d ?_ | refine q_a ?_ | refine q_b ?_ | refine q_c ?_ | refine A_ct rfl ?_ | refine A_cf rfl ?_ | refine q_W ?_)
    exact ⟨k + 1, by omega, by omega, by (try dsimp only); exact Wk_selG (h1 := nwH Y E (k + 1)) (G := famE Y 100) ⟨rfl, rfl, rfl, rfl, trivial⟩ ⟨rfl, rfl, rfl, rfl, trivial⟩ (look_famE (by omega) fun j b h1 h2 hx hb => by repeat (first | exact hb | refine fx_cons (by decide) h1 h2 ?_ | refine fx_killH (by decide) h1 h2 hx ?_ | refine fx_killHs (ks := [3, 902]) (by decide) h1 h2 hx ?_ | refine fx_killHs (by decide) h1 h2 hx ?_ | refine fx_frH (by decide) h1 h2 hx ?_)) ⟩
  · have : k = E.length := by omega
    subst this
    repeat (first | refine q_Z ?_ | ((first | apply O_y rfl rfl rfl | apply Q_y rfl rfl rfl); (first | exact q_A | exact q_5 | exact q_B)) | refine q_d ?_ | refine q_a ?_ | refine q_b ?_ | refine q_c ?_ | refine A_ct rfl ?_ | refine A_cf rfl ?_ | refine q_W ?_)
    refine X_retW AWk.refl rfl (h2 := (10, .var [.row 950, .ptr 3 0]) :: (950, entRB Y) :: (3, tblB 902 (uE E)) :: (902, emapB (mE E)) :: famE Y 100) ⟨rfl, rfl, by show some _ = _; rw [List.take_length], by show some _ = _; rw [List.take_length], sub_of_look (famE_nd Y 100) fun id b hb => ?_⟩ ⟨Y, hY, rfl, by rw [hE]; rfl⟩
    have h1 := famE_in hb
    exact fx_cons (by decide) h1.1 (by omega) (fx_cons (by decide) h1.1 (by omega) (fx_cons (by decide) h1.1 (by omega) (fx_cons (by decide) h1.1 (by omega) hb)))
end Go.Proofs.YtenolkolkpfjgaaGreat.Ab.V

namespace Go.Proofs.YtenolkolkpfjgaaGreat.Ab.V
set_option linter.unusedVariables false
set_option maxRecDepth 100000
open Go.RowKit Go.Lib
theorem fy_cons {h : Heap} {j k : Nat} {b c : ABlk} (hk : k < 1100) (h1 : 1100 ≤ j) (hl : look h j = some b) : look ((k, c) :: h) j = some b := by rw [look_cons_ne _ _ (by omega)]; exact hl
theorem fy_killH {h : Heap} {j k : Nat} {b : ABlk} (hk : k < 1100) (h1 : 1100 ≤ j) (hx : isX b = true) (hl : look h j = some b) : look (killH k h) j = some b := by
  rw [look_killH, if_neg (by omega), hl]; show some (killB k b) = _; rw [isX_kill hx]
theorem fy_killHs {h : Heap} {j : Nat} {ks : List Nat} {b : ABlk} (hk : ∀ k ∈ ks, k < 1100) (h1 : 1100 ≤ j) (hx : isX b = true) (hl : look h j = some b) : look (killHs ks h) j = some b := by
  rw [look_killHs, if_neg (fun hc => by have := hk j (List.contains_iff_mem.1 hc); omega), hl]; show some (killBs ks b) = _; rw [isX_kills hx]
theorem fy_app {Y Z : List EntR} {j : Nat} {b : ABlk} (hl : look (famE Y 1100) j = some b) : look (famE Y 1100 ++ famE Z 100) j = some b := by rw [look_append, hl]
theorem fx_app {Y Z : List EntR} {j : Nat} {b : ABlk} (h2 : j < 300) (hl : look (famE Z 100) j = some b) : look (famE Y 1100 ++ famE Z 100) j = some b := by
  rw [look_append]
  cases hy : look (famE Y 1100) j with
  | none => exact hl
  | some c => have := famE_in hy; omega
set_option linter.unusedSimpArgs false
attribute [local irreducible] AWp AOps AQ AYield AEff ACall AWk AAny AAt AThen AIn APost NoPanic
abbrev tabV0 (Y : List EntR) : Heap := (1000, .var [.row 1003, .ptr 1001 0]) :: (1001, tblB 1002 (uE (vE Y))) :: (1002, emapB (mE (vE Y))) :: (1003, entRB Y) :: famE Y 1100
theorem kmV (id : Nat) (l : List (Pfx × Ent)) : killB id (emapB l) = emapB l := Option.some.inj (kill_mapE id l)
theorem kmVs (ids : List Nat) (l : List (Pfx × Ent)) : killBs ids (emapB l) = emapB l := by
  show ABlk.map ((l.map fun p => (pfxA p.1, entA p.2)).map fun p => (killVs ids p.1, killVs ids p.2)) = _
  rw [List.map_map]
  refine congrArg ABlk.map (List.map_congr_left fun p _ => ?_)
  show (killVs ids (pfxA p.1), killVs ids (entA p.2)) = _
  rw [killVs_id fun j _ => rfl, killVs_id fun j _ => rfl]
theorem tabV_has (Y : List EntR) : ∀ id b, look (tabV0 Y) id = some b → (1000 ≤ id ∧ ∀ j, 100 ≤ j → j < 300 → blkHas j b = false) := fun id b hb => by
  have hm := look_memF hb
  simp only [tabV0, List.mem_cons, Prod.mk.injEq] at hm
  rcases hm with ⟨rfl, rfl⟩ | ⟨rfl, rfl⟩ | ⟨rfl, rfl⟩ | ⟨rfl, rfl⟩ | hm
  · refine ⟨by decide, fun j h1 h2 => ?_⟩
    show ((1003 == j) || ((1001 == j) || false)) = false; simp; omega
  · refine ⟨by decide, fun j h1 h2 => ?_⟩
    show ((1002 == j) || _) = false
    rw [show ((1002 : Nat) == j) = false by simp; omega, Bool.false_or]
    rfl
  · refine ⟨by decide, fun j h1 h2 => ?_⟩
    show (List.any _ _) = false
    rw [List.any_eq_false]
    intro p hp
    obtain ⟨q, _, rfl⟩ := List.mem_map.1 hp
    show ¬ ((pfxA q.1).has j || (entA q.2).has j) = true
    simp [pfxA, entA, entD, AVal.has, hasL]
  · exact ⟨by decide, fun j h1 h2 => rfl⟩
  · obtain ⟨bl, hbl⟩ := look_of_key (List.mem_map.2 ⟨_, hm, rfl⟩)
    have h1 := famE_in hbl
    dsimp only at h1
    have h3 : look (famE Y 1100) id = some b := by
      have h4 := hb
      unfold tabV0 at h4
      rw [look_cons_ne _ _ (by omega), look_cons_ne _ _ (by omega), look_cons_ne _ _ (by omega), look_cons_ne _ _ (by omega)] at h4
      exact h4
    exact ⟨by omega, fun j _ _ => isX_has (famE_in h3).2.2 j⟩
set_option maxHeartbeats 8000000 in
theorem tEntriesV_A (Y : List EntR) (hl : ∀ y ∈ Y, y.x.hs.length ≤ 2147483648) (hn : Y.length ≤ 200) : ACall Tryz.prog 11 [.ptr 1000 0] (tabV0 Y) (fun c h => ∃ Z : List EntR, Z.map (·.x) = Y.map (·.x) ∧ c = .row 3 ∧ h = ((3, entRB Z) :: tabV0 Y) ++ famE Z 100) := by
  refine ACall_of tabOk Tryz.func11 rfl Tryz.ntmps11 (congrArg Array.toList Tryz.results11) (by kernel_rfl) rfl ?_
  repeat (first | refine q_Z ?_ | ((first | apply O_y rfl rfl rfl | apply Q_y rfl rfl rfl); (first | exact q_A | exact q_5 | exact q_B | (first | exact R_pnil tabOk rfl rfl rfl rfl rfl | exact Y_nilCheck rfl rfl rfl))) | refine q_d ?_ | refine q_a ?_ | refine q_b ?_ | refine q_c ?_ | refine A_ct rfl ?_ | refine A_cf rfl ?_ | refine q_W ?_)
  refine A_weaken (Wk_nil 45 4 (t := 3) (id := 3) rfl rfl) ?_
  refine A_loop (fun s : Nat × List EntR => [(0, .ptr 1000 0), (3, .row 3), (11, .row 1003), (12, intA (Y.length : Int)), (13, intA (s.1 : Int))]) (fun s => ((3, entRB s.2) :: tabV0 Y) ++ famE s.2 100) (fun s => s.1 ≤ Y.length ∧ s.2.map (·.x) = (Y.take s.1).map (·.x)) (fun s => Y.length - s.1) (0, []) ⟨Nat.zero_le _, rfl⟩ (by dsimp only; exact Wk_sel (h1 := (3, entRB []) :: tabV0 Y ++ []) ⟨rfl, rfl, rfl, rfl, rfl, trivial⟩ ⟨rfl, rfl, rfl, (by show some _ = _; simp only [kmV, kmVs]), rfl, by rw [show List.append (famE Y 1100) ([] : Heap) = famE Y 1100 from List.append_nil _]; exact (sub_of_look (famE_nd Y 1100) fun id b hb => by have hd := famE_in hb; repeat (first | exact fy_app hb | exact hb | refine fy_cons (by decide) hd.1 ?_ | refine fy_killH (by decide) hd.1 hd.2.2 ?_ | refine fy_killHs (ks := [950]) (by decide) hd.1 hd.2.2 ?_ | refine fy_killHs (by decide) hd.1 hd.2.2 ?_)) ⟩) ?_
  rintro ⟨k, Z⟩ ⟨hk, hZe⟩
  dsimp only at hk hZe
  try dsimp only
  have hZl : Z.length = k := by have h1 : (Z.map (·.x)).length = ((Y.take k).map (·.x)).length := by rw [hZe]
                                rw [List.length_map, List.length_map, List.length_take] at h1; omega
  by_cases hkY : k < Y.length
  · have hm := List.getElem_mem hkY
    have htk := List.take_succ_eq_append_getElem hkY
    have hown := ownR_A Y[k].x (hl _ hm)
    have hq := hopX_q Y[k].x
    have hfk := famE_at Y 1100 k hkY
    obtain ⟨y, hy⟩ : ∃ y, Y[k] = y := ⟨_, rfl⟩
    have hw0 : win (Y.flatMap entRD) (k * 4) 4 = entRD y := (win_flat0 entRD_len Y k 4 hkY (by decide)).trans (by rw [hy]; rfl)
    rw [hy] at hown hq htk hfk
    obtain ⟨⟨⟨pa, pb⟩, xx, hs⟩, v⟩ := y
    repeat (first | refine q_Z ?_ | ((first | apply O_y rfl rfl rfl | apply Q_y rfl rfl rfl); (first | exact q_A | exact q_5 | exact q_B | (first | exact R_loade tabOk rfl rfl rfl rfl rfl rfl hw0 rfl rfl | exact R_indexr (j := k) tabOk rfl rfl rfl rfl rfl rfl rfl hkY))) | refine q_d ?_ | refine q_a ?_ | refine q_b ?_ | refine q_c ?_ | refine A_ct rfl ?_ | refine A_cf rfl ?_ | refine q_W ?_)
    refine O_cRN (α := Value) (Φ := fun _ => True) (C := fun v' => entRA ⟨⟨⟨pa, pb⟩, xx, hs⟩, v'⟩) (H1 := fun v' => [(950, hopX v' hs)]) (cs := [entRA ⟨⟨⟨pa, pb⟩, xx, hs⟩, v⟩]) (cs' := [Ab.entA ⟨⟨pa, pb⟩, xx, hs⟩]) ?_ hown (fun v' _ => ⟨rfl, rfl, fun id b hb => ?_, fun j hj => by cases hj⟩) rfl rfl rfl rfl rfl fun v' _ => ?_
    · refine .cons (.agg (entRD ⟨⟨⟨pa, pb⟩, xx, hs⟩, v⟩) (Ab.entD ⟨⟨pa, pb⟩, xx, hs⟩) ?_) .nil
      refine .cons (.same _) (.cons (.same _) (.cons (.same _) (.cons (.row v (1100 + k) 66 2 hs.length (hs.flatMap hopD) ?_) (.nil _))))
      repeat (first | exact fy_app hfk | refine fy_cons (by decide) (by omega) ?_ | refine fy_killH (by decide) (by omega) (plain_hops _) ?_)
    · by_cases h : 950 = id
      · subst h; rw [look_cons_same] at hb; cases hb; exact plain_hops _
      · rw [look_cons_ne _ _ h] at hb; cases hb
    repeat (first | refine q_Z ?_ | ((first | apply O_y rfl rfl rfl | apply Q_y rfl rfl rfl); (first | exact q_A | exact q_5 | exact q_B)) | refine q_d ?_ | refine q_a ?_ | refine q_b ?_ | refine q_c ?_ | refine A_ct rfl ?_ | refine A_cf rfl ?_ | refine q_W ?_ | (first | refine O_appR tabOk rfl rfl rfl rfl rfl rfl rfl rfl rfl rfl rfl (by first | exact Src.row rfl | exact Src.dat _ _ | exact Src.nil) rfl (by omega) ?_ | refine O_appN tabOk rfl rfl rfl rfl rfl rfl rfl rfl rfl rfl (by first | exact Src.row rfl | exact Src.dat _ _ | exact Src.nil) rfl (by omega) ?_))
    refine ⟨(k + 1, Z ++ [⟨⟨⟨pa, pb⟩, xx, hs⟩, v'⟩]), ⟨by dsimp only; omega, by dsimp only; rw [htk, List.map_append, List.map_append, hZe]; rfl⟩, by dsimp only; omega, ?_⟩
    dsimp only
    refine Wk_famX (src := 950) (.inr (by decide)) (by omega) ⟨rfl, rfl, rfl, rfl, rfl, trivial⟩ ⟨row_eq (by simp) (by simp [entRD]) rfl, rfl, rfl, (by show some _ = _; simp only [kmV, kmVs]), rfl, (sub_of_look (famE_nd Y 1100) fun id b hb => by have hd := famE_in hb; repeat (first | exact fy_app hb | exact hb | refine fy_cons (by decide) hd.1 ?_ | refine fy_killH (by decide) hd.1 hd.2.2 ?_ | refine fy_killHs (ks := [950]) (by decide) hd.1 hd.2.2 ?_ | refine fy_killHs (by decide) hd.1 hd.2.2 ?_)) ⟩ rfl (look_famE (by omega) fun j b h1 h2 hx hb => by repeat (first | exact fx_app h2 hb | refine fx_cons (by decide) h1 h2 ?_ | refine fx_killH (by decide) h1 h2 hx ?_ | refine fx_killHs (ks := [950]) (by decide) h1 h2 hx ?_ | refine fx_killHs (by decide) h1 h2 hx ?_)) ?_ (fun id b hb => ?_) (fun t c ht j h1 h2 => ?_) (fun id b hb j h1 h2 => ?_)
    · rw [look_cons_ne _ _ (by decide)]
      cases ho : look (tabV0 Y) 950 with
      | none => rfl
      | some b => have := (tabV_has Y 950 b ho).1; omega
    · by_cases h3 : 3 = id
      · subst h3; exact .inl (by decide)
      · rw [look_cons_ne _ _ h3] at hb; have := (tabV_has Y id b hb).1; exact .inr (by omega)
    · have hm := look_memF ht
      simp only [List.mem_cons, Prod.mk.injEq, List.not_mem_nil, or_false] at hm
      rcases hm with ⟨_, rfl⟩ | ⟨_, rfl⟩ | ⟨_, rfl⟩ | ⟨_, rfl⟩ | ⟨_, rfl⟩
      · show (1000 == j) = false; simp; omega
      · show (3 == j) = false; simp; omega
      · show (1003 == j) = false; simp; omega
      · rfl
      · rfl
    · by_cases h3 : 3 = id
      · subst h3; rw [look_cons_same] at hb; cases hb; rfl
      · rw [look_cons_ne _ _ h3] at hb; exact (tabV_has Y id b hb).2 j h1 h2
  · obtain rfl : k = Y.length := by omega
    rw [List.take_length] at hZe
    repeat (first | refine q_Z ?_ | ((first | apply O_y rfl rfl rfl | apply Q_y rfl rfl rfl); (first | exact q_A | exact q_5 | exact q_B)) | refine q_d ?_ | refine q_a ?_ | refine q_b ?_ | refine q_c ?_ | refine A_ct rfl ?_ | refine A_cf rfl ?_ | refine q_W ?_)
    have hnd2 : ((famE Y 1100 ++ famE Z 100).map (·.1)).Nodup := by
      rw [List.map_append, List.nodup_append]
      exact ⟨famE_nd _ _, famE_nd _ _, fun a ha b hb => by
        obtain ⟨x, hx⟩ := look_of_key ha
        obtain ⟨y, hy⟩ := look_of_key hb
        have := famE_in hx
        have := famE_in hy
        omega⟩
    refine X_retW AWk.refl rfl (h2 := (3, entRB Z) :: (1000, .var [.row 1003, .ptr 1001 0]) :: (1001, tblB 1002 (uE (vE Y))) :: (1002, emapB (mE (vE Y))) :: (1003, entRB Y) :: (famE Y 1100 ++ famE Z 100)) ⟨rfl, rfl, rfl, rfl, rfl, sub_of_look hnd2 fun id b hb => ?_⟩ ⟨Z, hZe, rfl, rfl⟩
    have h1 : 1100 ≤ id ∨ 100 ≤ id ∧ id < 300 := by
      rw [look_append] at hb
      cases hl1 : look (famE Y 1100) id with
      | some c => have := famE_in hl1; exact .inl this.1
      | none =>
        rw [hl1] at hb
        have hb : look (famE Z 100) id = some b := hb
        have := famE_in hb
        exact .inr (by omega)
    show look ((3, _) :: (1000, _) :: (1001, _) :: (1002, _) :: (1003, _) :: (famE Y 1100 ++ famE Z 100)) id = _
    rw [look_cons_ne _ _ (by omega), look_cons_ne _ _ (by omega), look_cons_ne _ _ (by omega), look_cons_ne _ _ (by omega), look_cons_ne _ _ (by omega)]
    exact hb
end Go.Proofs.YtenolkolkpfjgaaGreat.Ab.V

namespace Go.Proofs.YtenolkolkpfjgaaGreat.Ab
set_option linter.unusedVariables false
open Go.RowKit Go.Lib
theorem ordR_ordP {x y : Rte} (h : ordR x y ≤ 0) : ordP x.p y.p ≤ 0 := by
  unfold ordR lexc at h
  split at h
  · rename_i h1; exact Int.le_of_eq h1
  · exact h
def pstep (out : List Pfx) (r : Rte) : List Pfx := if chk r.p = 0 ∧ out.getLast? ≠ some r.p then out ++ [r.p] else out
theorem goodP_snoc (S : List Rte) (r : Rte) : goodP (S ++ [r]) = if chk r.p = 0 then goodP S ++ [r.p] else goodP S := by
  unfold goodP goodL
  rw [List.filter_append, List.map_append]
  by_cases h : chk r.p = 0
  · rw [if_pos h]; simp [h]
  · rw [if_neg h]; simp [h]
theorem last_max {O : List Pfx} (h : Rising ordP O) {p : Pfx} (hp : p ∈ O) : ∃ q, O.getLast? = some q ∧ q ∈ O ∧ ordP p q ≤ 0 := by
  have hne : O ≠ [] := List.ne_nil_of_mem hp
  refine ⟨O.getLast hne, List.getLast?_eq_some_getLast hne, List.getLast_mem hne, ?_⟩
  have e : O.dropLast ++ [O.getLast hne] = O := List.dropLast_concat_getLast hne
  rw [← e] at hp h
  rcases List.mem_append.1 hp with h1 | h1
  · exact Int.le_of_lt ((List.pairwise_append.1 h).2.2 p h1 _ (List.mem_singleton.2 rfl))
  · rw [List.mem_singleton.1 h1, (ordP_zero _ _).2 rfl]; exact Int.le_refl _
theorem pfold_all (S : List Rte) : (S.Pairwise fun x y => ordR x y ≤ 0) → S.foldl pstep [] = sortU ordP (goodP S) := by
  have key : ∀ n (S : List Rte), S.length = n → (S.Pairwise fun x y => ordR x y ≤ 0) → S.foldl pstep [] = sortU ordP (goodP S) := by
    intro n
    induction n with
    | zero => intro S hS _; rw [List.length_eq_zero_iff.1 hS]; exact (List.eq_nil_of_length_eq_zero (Nat.le_zero.1 (sortU_len (c := ordP) []))).symm
    | succ n ih =>
      intro S hS hp
      have hne : S ≠ [] := by rintro rfl; simp at hS
      obtain ⟨A, r, rfl⟩ : ∃ A r, S = A ++ [r] := ⟨S.dropLast, S.getLast hne, (List.dropLast_concat_getLast hne).symm⟩
      obtain ⟨hpA, _, hAr⟩ := List.pairwise_append.1 hp
      rw [List.foldl_append, ih A (by simpa using hS) hpA, goodP_snoc]
      have hrs := sortU_rising good_ordP ordP_eq (goodP A)
      have hle : ∀ q ∈ sortU ordP (goodP A), ordP q r.p ≤ 0 := fun q hq => by
        rw [sortU_mem] at hq
        obtain ⟨a, ha, _, rfl⟩ := goodP_mem.1 hq
        exact ordR_ordP (hAr a ha r (List.mem_singleton.2 rfl))
      show pstep _ r = _
      unfold pstep
      by_cases hc : chk r.p = 0
      · rw [if_pos hc]
        by_cases hl : (sortU ordP (goodP A)).getLast? = some r.p
        · rw [if_neg (fun h => h.2 hl)]
          refine sortU_ext good_ordP ordP_eq fun q => ?_
          have hm : r.p ∈ goodP A := by rw [← sortU_mem (c := ordP)]; exact List.mem_of_getLast? hl
          rw [List.mem_append, List.mem_singleton]
          exact ⟨.inl, fun h => h.elim id fun h => by rw [h]; exact hm⟩
        · rw [if_pos ⟨hc, hl⟩]
          have hni : r.p ∉ sortU ordP (goodP A) := fun hm => by
            obtain ⟨q, h1, h2, h3⟩ := last_max hrs hm
            have h4 := hle q h2
            have h5 := good_ordP.anti r.p q
            have : q = r.p := (ordP_zero _ _).1 (by omega)
            rw [this] at h1; exact hl h1
          refine rising_ext good_ordP ?_ (sortU_rising good_ordP ordP_eq _) fun q => ?_
          · refine List.pairwise_append.2 ⟨hrs, List.pairwise_singleton _ _, fun q hq s hs => ?_⟩
            rw [List.mem_singleton.1 hs]
            have h1 := hle q hq
            have h2 : ordP q r.p ≠ 0 := fun h => by rw [(ordP_zero _ _).1 h] at hq; exact hni hq
            omega
          · rw [sortU_mem, List.mem_append, List.mem_append, sortU_mem]
      · rw [if_neg hc, if_neg (fun h => hc h.1)]
  exact key _ S rfl
theorem pfold_sort (l : List Rte) : (sortU ordR l).foldl pstep [] = sortU ordP (goodP l) := by
  rw [pfold_all _ ((sortU_rising good_ordR (fun x y => (ordR_zero x y).1) l).imp fun h => Int.le_of_lt h)]
  refine sortU_ext good_ordP ordP_eq fun p => ?_
  rw [goodP_mem, goodP_mem]
  exact ⟨fun ⟨r, hr, h⟩ => ⟨r, (sortU_mem _ _).1 hr, h⟩, fun ⟨r, hr, h⟩ => ⟨r, (sortU_mem _ _).2 hr, h⟩⟩
theorem pfx_in_eq {x : Int} {p q : Pfx} (hp : Go.Proofs.YtenolkolkpfjgaaGreat.good p) (hq : Go.Proofs.YtenolkolkpfjgaaGreat.good q) (h1 : inB x p = true) (h2 : inB x q = true) (hb : p.b = q.b) : p = q := by
  have e1 := inB_low x p hp
  have e2 := inB_low x q hq
  rw [h1] at e1
  rw [h2] at e2
  have e1 := of_decide_eq_true e1
  have e2 := of_decide_eq_true e2
  rw [hb] at e1
  obtain ⟨a, b⟩ := p
  obtain ⟨c, d⟩ := q
  dsimp only at hb e1 e2
  rw [hb, ← e1, ← e2]
theorem look_uniq {E : List Ent} (hn : (E.map (·.p)).Nodup) (hg : ∀ x ∈ E, Go.Proofs.YtenolkolkpfjgaaGreat.good x.p) {x : Int} {y : Ent} (hy : y ∈ E) (hi : inB x y.p = true) (hm : ∀ z ∈ E, inB x z.p = true → z.p.b ≤ y.p.b) : (longRE (uE E) (mE E) x).2 = (y, true) := by
  rcases look_law hn hg x with ⟨h1, h2, h3, h4⟩ | ⟨h1, h2, h3⟩
  · have hb : (longRE (uE E) (mE E) x).2.1.p.b = y.p.b := by have := hm _ h2 h3; have := h4 y hy hi; omega
    have hp := pfx_in_eq (hg _ h2) (hg _ hy) h3 hi hb
    have e1 := mE_get hn h2
    rw [hp, mE_get hn hy] at e1
    cases hz : (longRE (uE E) (mE E) x).2 with
    | mk z b =>
      rw [hz] at e1 h1
      dsimp only at e1 h1
      cases e1
      rw [h1]
  · rw [h3 y hy] at hi; cases hi
theorem look_none {E : List Ent} (hn : (E.map (·.p)).Nodup) (hg : ∀ x ∈ E, Go.Proofs.YtenolkolkpfjgaaGreat.good x.p) {x : Int} (hi : ∀ y ∈ E, inB x y.p = false) : (longRE (uE E) (mE E) x).2 = (ent0, false) := by
  rcases look_law hn hg x with ⟨h1, h2, h3, h4⟩ | ⟨h1, h2, h3⟩
  · rw [hi _ h2] at h3; cases h3
  · cases hz : (longRE (uE E) (mE E) x).2 with
    | mk z b =>
      rw [hz] at h1 h2
      dsimp only at h1 h2
      rw [h1, h2]
end Go.Proofs.YtenolkolkpfjgaaGreat.Ab

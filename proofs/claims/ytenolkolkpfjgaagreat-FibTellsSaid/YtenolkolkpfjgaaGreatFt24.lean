/-
  Texts of a proof, one behind the other (part 25).
-/
import Derived.Test.YtenolkolkpfjgaaGreatFt8
import Derived.Test.YtenolkolkpfjgaaGreatFt20
import Derived.Test.YtenolkolkpfjgaaGreatFt21
import Derived.Test.YtenolkolkpfjgaaGreatFt22
import Derived.Test.YtenolkolkpfjgaaGreatFt23
set_option linter.unusedVariables false
set_option linter.unusedSimpArgs false
namespace Go.Proofs.YtenolkolkpfjgaaGreat.Ab
set_option linter.unusedVariables false
set_option maxRecDepth 100000
open Go.RowKit Go.Lib
set_option linter.unusedSimpArgs false
attribute [local irreducible] AWp AOps AQ AYield AEff ACall AWk AAny AAt AThen AIn APost NoPanic
noncomputable def entOf (l : List Rte) (p : Pfx) : Ent := ⟨p, (ofP (goodL l) p).any (·.x), if (ofP (goodL l) p).any (·.x) then [] else sortU ordH ((ofP (goodL l) p).flatMap (ledH l))⟩
noncomputable def entL (l : List Rte) : List Ent := (sortU ordP (goodP l)).map (entOf l)
theorem gX_kill (id : Nat) (G : Grp) : killB id (gB (gX G)) = gB (gX G) := gB_kill id _ fun p hp => by
  obtain ⟨q, _, rfl⟩ := List.mem_map.1 hp
  simp
theorem gX_fr (id : Nat) (d : Dat) (G : Grp) : frB id d (gB (gX G)) = gB (gX G) := by
  show ABlk.map ((ents pfxA gvA (gX G)).map fun p => (frV id _ p.1, frV id _ p.2)) = _
  unfold gB ents gX
  rw [List.map_map, List.map_map, List.map_map]
  rfl
theorem gX_kills (ids : List Nat) (G : Grp) : killBs ids (gB (gX G)) = gB (gX G) := by
  show ABlk.map ((ents pfxA gvA (gX G)).map fun p => (killVs ids p.1, killVs ids p.2)) = _
  unfold gB ents gX
  rw [List.map_map, List.map_map, List.map_map]
  have key : ∀ (p : Pfx) (R : List Rte), (killVs ids (pfxA p), killVs ids (rtesA R)) = (pfxA p, rtesA R) := fun p R => by
    have h1 : hasAny ids (pfxA p) = false := List.any_eq_false.2 fun x _ => by rw [show (pfxA p).has x = false from rfl]; simp
    have h2 : hasAny ids (rtesA R) = false := List.any_eq_false.2 fun x _ => by rw [show (rtesA R).has x = false from rfl]; simp
    unfold killVs
    rw [h1, h2]; rfl
  refine congrArg ABlk.map (List.map_congr_left fun p _ => ?_)
  exact key p.1 p.2
theorem gX_get {G : Grp} {p : Pfx} {R : List Rte} (h : Go.Proofs.YtenolkolkpfjgaaGreat.aget G p = some R) : Go.Proofs.YtenolkolkpfjgaaGreat.aget (gX G) p = some (.fix R) := by
  have key : ∀ (G : Grp), Go.Proofs.YtenolkolkpfjgaaGreat.mget (gX G) p = (Go.Proofs.YtenolkolkpfjgaaGreat.mget G p).map fun x => (x.1, GV.fix x.2) := fun G => by
    induction G with
    | nil => rfl
    | cons g t ih =>
      obtain ⟨q, L⟩ := g
      show Go.Proofs.YtenolkolkpfjgaaGreat.mget ((q, GV.fix L) :: gX t) p = _
      unfold Go.Proofs.YtenolkolkpfjgaaGreat.mget
      try dsimp only
      by_cases hp : p = q
      · rw [if_pos hp, if_pos hp]; rfl
      · rw [if_neg hp, if_neg hp, ih]
        cases Go.Proofs.YtenolkolkpfjgaaGreat.mget t p <;> rfl
  unfold Go.Proofs.YtenolkolkpfjgaaGreat.aget at h ⊢
  rw [key]
  cases hm : Go.Proofs.YtenolkolkpfjgaaGreat.mget G p with
  | none => rw [hm] at h; cases h
  | some x => rw [hm] at h; cases h; rfl
theorem tE_fr {l : List Rte} {f : FuncId} : ∀ j x, 100 ≤ j → j < 1000 → ∀ t c, look ((39, .row 5) :: tdE l f) t = some c → frV j x c = c := fun j x h1 h2 t c hl => by
  by_cases h : 39 = t
  · subst h; cases hl
    show cond (Nat.beq 5 j) _ _ = _
    rw [beq_no (by omega)]; rfl
  rw [look_cons_ne _ _ h] at hl
  by_cases h : 0 = t
  · subst h; cases hl; rfl
  rw [look_cons_ne _ _ h] at hl
  by_cases h : 1 = t
  · subst h; cases hl; rfl
  rw [look_cons_ne _ _ h] at hl
  by_cases h : 4 = t
  · subst h; cases hl; rfl
  rw [look_cons_ne _ _ h] at hl
  by_cases h : 5 = t
  · subst h; cases hl
    show cond (Nat.beq 5 j) _ _ = _
    rw [beq_no (by omega)]; rfl
  rw [look_cons_ne _ _ h] at hl
  cases hl
section
variable {α : Type} (f : FuncId) (el kk : Nat) (nn : α → Nat) (D : α → List Dat) (step : α → Ent → α) (a0 : α)
set_option maxHeartbeats 8000000 in
theorem told_A (hstep : ∀ a x, nn a ≤ 1000000 → ACall Tryz.prog f [entA x, .ptr 1000 0] [(1000, .var [.row 950]), (950, .row el kk (nn a) (D a))] (fun c h => c = .tup [] ∧ h = [(1000, .var [.row 950]), (950, .row el kk (nn (step a x)) (D (step a x)))]))
    (hnn : ∀ a x, nn (step a x) ≤ nn a + 1) (hn0 : nn a0 = 0) (l : List Rte) (hok : ∀ s ∈ l, okR s) (hh : ∀ s ∈ l, 0 ≤ s.h ∧ s.h < 4294967296) (hn : l.length ≤ 200) :
    ACall Tryz.prog 18 [rtesA l, .fn f [.ptr 1000 0]] [(1000, .var [.row 950]), (950, .row el kk (nn a0) (D a0))] (fun c h => c = .tup [] ∧ h = [(1000, .var [.row 950]), (950, .row el kk (nn ((entL l).foldl step a0)) (D ((entL l).foldl step a0)))]) := by
  refine ACall_of tabOk Tryz.func18 rfl Tryz.ntmps18 (congrArg Array.toList Tryz.results18) (by kernel_rfl) rfl ?_
  repeat (first | refine q_Z ?_ | ((first | apply O_y rfl rfl rfl | apply Q_y rfl rfl rfl); (first | exact q_A | exact q_5 | exact q_B)) | refine q_d ?_ | refine q_a ?_ | refine q_b ?_ | refine q_c ?_ | refine A_ct rfl ?_ | refine A_cf rfl ?_ | refine q_W ?_ | (refine O_makeMap 90 rfl rfl rfl rfl rfl ?_))
  refine A_weaken (Wk_nil 39 2 (t := 5) (id := 5) rfl rfl) ?_
  refine A_loop (fun k : Nat => (14, rtesA l) :: (15, intA (l.length : Int)) :: (16, intA (k : Int)) :: tdE l f) (fun k => tdH el kk (nn a0) (D a0) (grp (l.take k)) (goodP (l.take k))) (fun k => k ≤ l.length) (fun k => l.length - k) 0 (Nat.zero_le _) (Wk_sel ⟨rfl, rfl, rfl, rfl, rfl, rfl, rfl, trivial⟩ ⟨rfl, rfl, rfl, rfl, trivial⟩) ?_
  intro k hk
  try dsimp only
  by_cases hkl : k < l.length
  · have hgt := grp_take l k hkl
    have hpt := goodP_take l k hkl
    have hGl := grp_len (l.take k)
    have hGn := grp_nd (l.take k)
    have hPl : (goodP (l.take k)).length ≤ k := by unfold goodP goodL; rw [List.length_map]; exact Nat.le_trans (List.length_filter_le _ _) (by rw [List.length_take]; omega)
    rw [List.length_take] at hGl
    obtain ⟨G, hG⟩ : ∃ G, grp (l.take k) = G := ⟨_, rfl⟩
    obtain ⟨ps, hps⟩ : ∃ ps, goodP (l.take k) = ps := ⟨_, rfl⟩
    rw [hG] at hgt hGl hGn ⊢
    rw [hps] at hpt hPl ⊢
    have hw0 := win_at l k hkl
    have hck := check_A l[k].p (hok _ (List.getElem_mem hkl)).2
    by_cases hc : chk l[k].p = 0
    · rw [hc] at hck
      rw [if_pos hc] at hgt hpt
      have hid : Nat.blt (G.length + 100) 1000 = true := by simp [Nat.blt]; omega
      have hkn : ((gE 100 G).map (·.1)).Nodup := by rw [gE_keys]; exact hGn
      repeat (first | refine q_Z ?_ | ((first | apply O_y rfl rfl rfl | apply Q_y rfl rfl rfl); (first | exact q_A | exact R_loadi tabOk rfl rfl rfl rfl hw0 rfl rfl | exact q_B)) | refine q_d ?_ | refine q_a ?_ | refine q_b ?_ | refine q_c ?_ | refine A_ct rfl ?_ | refine A_cf rfl ?_ | refine q_W ?_ | refine O_c rfl rfl rfl rfl rfl hck (fun _ => rfl) ?_)
      refine O_weaken (Wk_look (e1 := (24, .mp 90) :: (26, pfxA l[k].p) :: (29, .row 29) :: (7, .ptr 7 0) :: (14, rtesA l) :: (15, intA (l.length : Int)) :: (16, intA (k : Int)) :: tdE l f) (h1 := (29, rteB [l[k]]) :: (7, rteB1 l[k]) :: tdH el kk (nn a0) (D a0) G ps) ⟨rfl, rfl, rfl, rfl, rfl, rfl, rfl, rfl, rfl, rfl, rfl, trivial⟩ (lk_cons rfl (lk_cons rfl (td_over 29 _ (td_none 29 (by omega) (by omega) (by omega)) (td_killup 29 (by omega) (by omega) (by omega) (td_over 7 _ (td_none 7 (by omega) (by omega) (by omega)) (td_over 7 _ (td_none 7 (by omega) (by omega) (by omega)) (td_killup 7 (by omega) (by omega) (by omega) fun _ _ h => h)))))))) ?_
      cases hm : Go.Proofs.YtenolkolkpfjgaaGreat.mget G l[k].p with
      | none =>
        have hg : Go.Proofs.YtenolkolkpfjgaaGreat.aget (gE 100 G) l[k].p = none := by unfold Go.Proofs.YtenolkolkpfjgaaGreat.aget; rw [mget_gE, hm]; rfl
        refine O_mapEntry0 (xa := gvA) (z := .nil) pfxKey pfxA_val pfxA_rel zeroRts (fun _ _ _ => sc_rel rfl) trivial (fun _ _ => trivial) hkn hg tabOk rfl rfl rfl rfl rfl rfl rfl rfl fun br bbs bb bc hbl => ?_
        repeat (first | refine q_Z ?_ | ((first | apply O_y rfl rfl rfl | apply Q_y rfl rfl rfl); (first | exact q_A | exact q_5 | exact q_B)) | refine q_d ?_ | refine q_a ?_ | refine q_b ?_ | refine q_c ?_ | refine A_ct rfl ?_ | refine A_cf rfl ?_ | refine q_W ?_)
        refine O_append (G.length + 100) rfl tabOk rfl rfl rfl rfl rfl rfl rfl hid rfl rfl .nil (Src.row rfl) rfl (by simp) ?_
        repeat (first | refine q_Z ?_ | ((first | apply O_y rfl rfl rfl | apply Q_y rfl rfl rfl); (first | exact q_A | exact q_5 | exact q_B)) | refine q_d ?_ | refine q_a ?_ | refine q_b ?_ | refine q_c ?_ | refine A_ct rfl ?_ | refine A_cf rfl ?_ | refine q_W ?_)
        have hcl : killV (G.length + 100) (.fn f [.ptr 1000 0]) = .fn f [.ptr 1000 0] := by
          show cond ((1000 == G.length + 100) || false) _ _ = _
          rw [show ((1000 : Nat) == G.length + 100) = false by simp; omega]; rfl
        have hks : gK (G.length + 100) (gE 100 G ++ [(l[k].p, .nil)]) = gE 100 G ++ [(l[k].p, .nil)] := by rw [Nat.add_comm]; exact gK_snoc 100 G l[k].p
        refine O_entryStore0 (xa := gvA) (k := l[k].p) (z := .nil) (z' := .own (G.length + 100)) (l := gE 100 G) hbl rfl rfl rfl rfl (congrArg (fun z => some (ABlk.mapx br (bbs ++ [bb]) bc z)) ((kill_gents _ _).trans (congrArg _ hks))) rfl rfl ?_
        refine O_weaken (Wk_look (e1 := (7, .ptr 7 0) :: (14, rtesA l) :: (15, intA (l.length : Int)) :: (16, intA (k : Int)) :: tdE l f) (h1 := (7, rteB1 l[k]) :: tdH el kk (nn a0) (D a0) (grp1 G l[k]) ps) ⟨rfl, rfl, rfl, rfl, rfl, congrArg some hcl, rfl, rfl, trivial⟩ (lk_cons ?_ (td_split ?_ ?_ ?_ ?_ ?_))) ?_
        · rw [look_cons_ne _ _ (by omega), look_cons_ne _ _ (by omega), look_killH, if_neg (by omega)]; rfl
        · rw [look_cons_ne _ _ (by omega), look_cons_ne _ _ (by omega), look_killH, if_neg (by omega)]
          show some (ABlk.var [killV (G.length + 100) (.row 950)]) = _
          rw [show killV (G.length + 100) (.row 950) = .row 950 by
            show cond (950 == G.length + 100) _ _ = _
            rw [show ((950 : Nat) == G.length + 100) = false by simp; omega]; rfl]
        · rw [look_cons_ne _ _ (by omega), look_cons_ne _ _ (by omega), look_killH, if_neg (by omega)]; rfl
        · rw [look_cons_ne _ _ (by omega), look_cons_ne _ _ (by omega), look_killH, if_neg (by omega)]; rfl
        · rw [grp1_new hm, gE_snoc, Nat.add_comm 100]; rfl
        · intro i g hi
          rw [grp1_new hm] at hi
          have hil := (List.getElem?_eq_some_iff.1 hi).1
          rw [List.length_append, List.length_singleton] at hil
          rw [look_cons_ne _ _ (by omega)]
          by_cases he : i = G.length
          · subst he
            rw [List.getElem?_append_right (Nat.le_refl _), Nat.sub_self] at hi
            cases hi
            rw [Nat.add_comm 100]
            exact look_cons_same _ _ _
          · rw [List.getElem?_append_left (by omega)] at hi
            rw [look_cons_ne _ _ (by omega), look_killH, if_neg (by omega), look_cons_ne _ _ (by omega), look_cons_ne _ _ (by omega), look_cons_ne _ _ (by omega), (td_row hi).resolve_right (by omega)]
            rfl
        ·
          repeat (first | refine q_Z ?_ | ((first | apply O_y rfl rfl rfl | apply Q_y rfl rfl rfl); (first | exact q_A | exact q_5 | exact q_B)) | refine q_d ?_ | refine q_a ?_ | refine q_b ?_ | refine q_c ?_ | refine A_ct rfl ?_ | refine A_cf rfl ?_ | refine q_W ?_ | (first | refine O_appR tabOk rfl rfl rfl rfl rfl rfl rfl rfl rfl rfl rfl (by first | exact Src.row rfl | exact Src.dat _ _ | exact Src.nil) rfl (by omega) ?_ | refine O_appN tabOk rfl rfl rfl rfl rfl rfl rfl rfl rfl rfl (by first | exact Src.row rfl | exact Src.dat _ _ | exact Src.nil) rfl (by omega) ?_))
          refine ⟨k + 1, by omega, by omega, Wk_look ⟨rfl, rfl, rfl, rfl, rfl, rfl, rfl, trivial⟩ ?_⟩
          rw [hgt, hpt]
          have hG1 := grp1_len G l[k]
          refine td_split rfl rfl (row_eq (by simp) (by simp [pfxD]) rfl) ?_ ?_
          · rw [look_cons_ne _ _ (by omega), look_killH, if_neg (by omega), look_cons_ne _ _ (by omega), look_killH, if_neg (by omega), look_cons_ne _ _ (by omega)]
            show some (killB 5 (killB 36 (gB (gE 100 (grp1 G l[k]))))) = _
            rw [gB_kill 36 _ (gE_no 36 _ (by omega)), gB_kill 5 _ (gE_no 5 _ (by omega))]
          · intro i g hi
            have := (List.getElem?_eq_some_iff.1 hi).1
            rw [look_cons_ne _ _ (by omega), look_killH, if_neg (by omega), look_cons_ne _ _ (by omega), look_killH, if_neg (by omega), look_cons_ne _ _ (by omega), (td_row hi).resolve_right (by omega)]
            rfl
      | some x =>
        obtain ⟨i, L⟩ := x
        have hi : G[i]? = some (l[k].p, L) := mget_some hm
        have hil := (List.getElem?_eq_some_iff.1 hi).1
        have hid : Nat.blt (i + 100) 1000 = true := by simp [Nat.blt]; omega
        have hmg : Go.Proofs.YtenolkolkpfjgaaGreat.mget (gE 100 G) l[k].p = some (i, .own (i + 100)) := by rw [mget_gE, hm, Nat.add_comm]; rfl
        have hLl : L.length ≤ k := by
          have h1 := grp_get (l.take k) l[k].p
          rw [hG] at h1
          unfold Go.Proofs.YtenolkolkpfjgaaGreat.aget at h1
          rw [hm] at h1
          have h2 : L = ofP (goodL (l.take k)) l[k].p := h1
          rw [h2]
          unfold ofP goodL
          exact Nat.le_trans (List.length_filter_le _ _) (Nat.le_trans (List.length_filter_le _ _) (by rw [List.length_take]; omega))
        have hcl : killV (i + 100) (.fn f [.ptr 1000 0]) = .fn f [.ptr 1000 0] := by
          show cond ((1000 == i + 100) || false) _ _ = _
          rw [show ((1000 : Nat) == i + 100) = false by simp; omega]; rfl
        refine O_mapEntry1 (xa := gvA) pfxKey pfxA_val trivial (fun _ _ => trivial) hkn hmg tabOk rfl rfl rfl rfl rfl rfl rfl rfl fun br bbs bb bc hbl hbj => ?_
        repeat (first | refine q_Z ?_ | ((first | apply O_y rfl rfl rfl | apply Q_y rfl rfl rfl); (first | exact q_A | exact q_5 | exact q_B)) | refine q_d ?_ | refine q_a ?_ | refine q_b ?_ | refine q_c ?_ | refine A_ct rfl ?_ | refine A_cf rfl ?_ | refine q_W ?_)
        refine O_weaken (Wk_see (t := 30) rfl see_tup2) ?_
        refine O_append (i + 100) rfl tabOk rfl rfl rfl rfl rfl rfl rfl hid rfl rfl (.row (n := L.length) (cs := L.flatMap rteD) ?_) (Src.row rfl) rfl (by simp; omega) ?_
        · rw [look_cons_ne _ _ (by omega), look_cons_ne _ _ (by omega), look_cons_ne _ _ (by omega), Nat.add_comm, (td_row hi).resolve_right (by omega)]
          rfl
        repeat (first | refine q_Z ?_ | ((first | apply O_y rfl rfl rfl | apply Q_y rfl rfl rfl); (first | exact q_A | exact q_5 | exact q_B)) | refine q_d ?_ | refine q_a ?_ | refine q_b ?_ | refine q_c ?_ | refine A_ct rfl ?_ | refine A_cf rfl ?_ | refine q_W ?_)
        have hks : (gK (i + 100) (gE 100 G))[i]? = some (l[k].p, .no) := by
          unfold gK
          rw [List.getElem?_map, gE_at 100 G i _ hi, Nat.add_comm]
          simp
        refine O_entryStore1 (id := 90) (r := br) (clk := bc) (ka := pfxA) (xa := gvA) (k := l[k].p) (z := .no) (z' := .own (i + 100)) (l := gK (i + 100) (gE 100 G)) (by rw [hbl]; unfold gK; rw [List.length_map]) hbj hks rfl rfl rfl rfl (congrArg (fun z => some (ABlk.mapx br bbs bc z)) (kill_gents _ _)) rfl rfl ?_
        refine O_weaken (Wk_look (e1 := (7, .ptr 7 0) :: (14, rtesA l) :: (15, intA (l.length : Int)) :: (16, intA (k : Int)) :: tdE l f) (h1 := (7, rteB1 l[k]) :: tdH el kk (nn a0) (D a0) (grp1 G l[k]) ps) ⟨rfl, rfl, rfl, rfl, rfl, congrArg some hcl, rfl, rfl, trivial⟩ (lk_cons ?_ (td_split ?_ ?_ ?_ ?_ ?_))) ?_
        · rw [look_cons_ne _ _ (by omega), look_cons_ne _ _ (by omega), look_killH, if_neg (by omega)]; rfl
        · rw [look_cons_ne _ _ (by omega), look_cons_ne _ _ (by omega), look_killH, if_neg (by omega)]
          show some (ABlk.var [killV (i + 100) (.row 950)]) = _
          rw [show killV (i + 100) (.row 950) = .row 950 by
            show cond (950 == i + 100) _ _ = _
            rw [show ((950 : Nat) == i + 100) = false by simp; omega]; rfl]
        · rw [look_cons_ne _ _ (by omega), look_cons_ne _ _ (by omega), look_killH, if_neg (by omega)]; rfl
        · rw [look_cons_ne _ _ (by omega), look_cons_ne _ _ (by omega), look_killH, if_neg (by omega)]; rfl
        · rw [grp1_old hm, gE_set 100 G i _ _ hi, look_cons_same]
          have := gK_set 100 G i _ hi
          rw [Nat.add_comm] at this
          rw [this]; rfl
        · intro j g hj
          rw [grp1_old hm] at hj
          rw [look_cons_ne _ _ (by omega)]
          have hjl := (List.getElem?_eq_some_iff.1 hj).1
          rw [List.length_set] at hjl
          by_cases he : i = j
          · subst he
            rw [List.getElem?_set_self hil] at hj
            cases hj
            rw [Nat.add_comm 100, look_cons_same]
            exact congrArg some (by unfold rteB; rw [List.length_append, List.flatMap_append])
          · rw [List.getElem?_set_ne he] at hj
            rw [look_cons_ne _ _ (by omega), look_killH, if_neg (by omega), look_cons_ne _ _ (by omega), look_cons_ne _ _ (by omega), look_cons_ne _ _ (by omega), (td_row hj).resolve_right (by omega)]
            rfl
        ·
          repeat (first | refine q_Z ?_ | ((first | apply O_y rfl rfl rfl | apply Q_y rfl rfl rfl); (first | exact q_A | exact q_5 | exact q_B)) | refine q_d ?_ | refine q_a ?_ | refine q_b ?_ | refine q_c ?_ | refine A_ct rfl ?_ | refine A_cf rfl ?_ | refine q_W ?_ | (first | refine O_appR tabOk rfl rfl rfl rfl rfl rfl rfl rfl rfl rfl rfl (by first | exact Src.row rfl | exact Src.dat _ _ | exact Src.nil) rfl (by omega) ?_ | refine O_appN tabOk rfl rfl rfl rfl rfl rfl rfl rfl rfl rfl (by first | exact Src.row rfl | exact Src.dat _ _ | exact Src.nil) rfl (by omega) ?_))
          refine ⟨k + 1, by omega, by omega, Wk_look ⟨rfl, rfl, rfl, rfl, rfl, rfl, rfl, trivial⟩ ?_⟩
          rw [hgt, hpt]
          have hG1 := grp1_len G l[k]
          refine td_split rfl rfl (row_eq (by simp) (by simp [pfxD]) rfl) ?_ ?_
          · rw [look_cons_ne _ _ (by omega), look_killH, if_neg (by omega), look_cons_ne _ _ (by omega), look_killH, if_neg (by omega), look_cons_ne _ _ (by omega)]
            show some (killB 5 (killB 36 (gB (gE 100 (grp1 G l[k]))))) = _
            rw [gB_kill 36 _ (gE_no 36 _ (by omega)), gB_kill 5 _ (gE_no 5 _ (by omega))]
          · intro i g hi
            have := (List.getElem?_eq_some_iff.1 hi).1
            rw [look_cons_ne _ _ (by omega), look_killH, if_neg (by omega), look_cons_ne _ _ (by omega), look_killH, if_neg (by omega), look_cons_ne _ _ (by omega), (td_row hi).resolve_right (by omega)]
            rfl
    · rw [if_neg hc] at hgt hpt
      obtain ⟨cc, hcc⟩ : ∃ cc, chk l[k].p = cc := ⟨_, rfl⟩
      rw [hcc] at hck hc
      repeat (first | refine q_Z ?_ | ((first | apply O_y rfl rfl rfl | apply Q_y rfl rfl rfl); (first | exact q_A | exact R_loadi tabOk rfl rfl rfl rfl hw0 rfl rfl | exact q_B)) | refine q_d ?_ | refine q_a ?_ | refine q_b ?_ | refine q_c ?_ | refine A_ct rfl ?_ | refine A_cf rfl ?_ | refine q_W ?_ | refine O_c rfl rfl rfl rfl rfl hck (fun _ => rfl) ?_)
      refine ⟨k + 1, by omega, by omega, Wk_look ⟨rfl, rfl, rfl, rfl, rfl, rfl, rfl, trivial⟩ ?_⟩
      rw [hgt, hpt, td_kill 7 (by omega) (by omega) (by omega)]
      exact td_over 7 _ (td_none 7 (by omega) (by omega) (by omega)) (td_over 7 _ (td_none 7 (by omega) (by omega) (by omega)) fun _ _ h => h)
  · have : k = l.length := by omega
    subst this
    rw [List.take_length]
    have hGl := grp_len l
    have hGn := grp_nd l
    have hGg := grp_get l
    have hPl : (goodP l).length ≤ l.length := by unfold goodP goodL; rw [List.length_map]; exact List.length_filter_le _ _
    have hPm : ∀ p ∈ goodP l, ∃ R, Go.Proofs.YtenolkolkpfjgaaGreat.aget (grp l) p = some R := fun p hp => by
      have h1 := grp_get l p
      cases hg : Go.Proofs.YtenolkolkpfjgaaGreat.aget (grp l) p with
      | some R => exact ⟨R, rfl⟩
      | none =>
        rw [hg] at h1
        unfold goodP at hp
        obtain ⟨r, hr, hrp⟩ := List.mem_map.1 hp
        have h2 : r ∈ ofP (goodL l) p := List.mem_filter.2 ⟨hr, by simpa using hrp⟩
        rw [← h1] at h2
        cases h2
    obtain ⟨G, hG⟩ : ∃ G, grp l = G := ⟨_, rfl⟩
    rw [hG] at hGl hGn hGg hPm ⊢
    obtain ⟨ps, hps⟩ : ∃ ps, goodP l = ps := ⟨_, rfl⟩
    unfold entL
    rw [hps] at hPl hPm ⊢
    repeat (first | refine q_Z ?_ | ((first | apply O_y rfl rfl rfl | apply Q_y rfl rfl rfl); (first | exact q_A | exact q_5 | exact q_B)) | refine q_d ?_ | refine q_a ?_ | refine q_b ?_ | refine q_c ?_ | refine A_ct rfl ?_ | refine A_cf rfl ?_ | refine q_W ?_)
    refine O_weaken (Wk_look (e1 := (39, .row 5) :: tdE l f) (h1 := tfH el kk (nn a0) (D a0) ps [] 100 G) ⟨rfl, rfl, rfl, rfl, rfl, trivial⟩ fun _ _ h => h) ?_
    refine O_weaken (td_fix tE_fr G [] 100 (Nat.le_refl _) (by omega)) ?_
    rw [List.nil_append]
    refine O_weaken (Wk_sel (e1 := (39, .row 5) :: tdE l f) (h1 := [(1000, .var [.row 950]), (950, .row el kk (nn a0) (D a0)), (5, pfxB ps), (90, gB (gX G))]) ⟨rfl, rfl, rfl, rfl, rfl, trivial⟩ ⟨rfl, rfl, rfl, (by unfold tfH; rw [show gX G ++ gE 0 [] = gX G from List.append_nil _]; rfl), trivial⟩) ?_
    have hso := sortO_A ps (by omega)
    have hco := compactP_A (srt ordP ps) (by rw [srt_len]; omega)
    have hPSm : ∀ p ∈ sortU ordP ps, p ∈ ps := fun p hp => (sortU_mem ps p).1 hp
    have hPSl := sortU_len (c := ordP) ps
    repeat (first | refine q_Z ?_ | ((first | apply O_y rfl rfl rfl | apply Q_y rfl rfl rfl); (first | exact q_A | exact q_5 | exact q_B)) | refine q_d ?_ | refine q_a ?_ | refine q_b ?_ | refine q_c ?_ | refine A_ct rfl ?_ | refine A_cf rfl ?_ | refine q_W ?_)
    refine O_cP [(1000, 5)] (fun p p' i h1 h2 => by rw [(look_one' h1).1, (look_one' h2).1]) (fun p i h1 => by rw [(look_one' h1).1]; exact ⟨Nat.le_refl _, rfl, rfl⟩) hso (fun c hc => by simp at hc; rcases hc with rfl | rfl <;> rfl) ⟨⟨5, _, rfl, rfl, rfl, trivial⟩, trivial⟩ rfl rfl rfl rfl rfl rfl ?_
    repeat (first | refine q_Z ?_ | ((first | apply O_y rfl rfl rfl | apply Q_y rfl rfl rfl); (first | exact q_A | exact q_5 | exact q_B)) | refine q_d ?_ | refine q_a ?_ | refine q_b ?_ | refine q_c ?_ | refine A_ct rfl ?_ | refine A_cf rfl ?_ | refine q_W ?_)
    refine O_cM rfl rfl rfl rfl rfl hco rfl (fun c hc => by simp at hc; subst hc; rfl) rfl rfl ?_
    refine O_weaken (Wk_freeze (id := 5) rfl) ?_
    obtain ⟨PS, hPS⟩ : ∃ PS, sortU ordP ps = PS := ⟨_, rfl⟩
    rw [hPS] at hPSm hPSl ⊢
    refine O_weaken (Wk_sel (e1 := [(0, rtesA l), (1, .fn f [.ptr 1000 0]), (4, .mp 90), (42, pfxsA PS)]) (h1 := [(1000, .var [.row 950]), (950, .row el kk (nn a0) (D a0)), (90, gB (gX G))]) ⟨rfl, rfl, rfl, (by rw [← hPS]; rfl), trivial⟩ ⟨rfl, rfl, ((by show some _ = _; simp only [gX_kill, gX_fr, gX_kills])), trivial⟩) ?_
    obtain ⟨Ff, hF⟩ : ∃ Ff : Nat → α, Ff = fun k => ((PS.take k).map (entOf l)).foldl step a0 := ⟨_, rfl⟩
    have hF0 : Ff 0 = a0 := by rw [hF]; rfl
    have hFl : (PS.map (entOf l)).foldl step a0 = Ff PS.length := by rw [hF]; dsimp only; rw [List.take_length]
    have hFs : ∀ k (h : k < PS.length), Ff (k + 1) = step (Ff k) (entOf l PS[k]) := fun k h => by
      rw [hF]; dsimp only
      rw [List.take_succ_eq_append_getElem h, List.map_append, List.foldl_append]; rfl
    have hFn : ∀ k, k ≤ PS.length → nn (Ff k) ≤ k := fun k => by
      induction k with
      | zero => intro _; rw [hF0, hn0]; exact Nat.le_refl _
      | succ k ih => intro h; rw [hFs k (by omega)]; have := ih (by omega); have := hnn (Ff k) (entOf l PS[k]); omega
    rw [hFl, ← hF0]
    clear hF hFl
    repeat (first | refine q_Z ?_ | ((first | apply O_y rfl rfl rfl | apply Q_y rfl rfl rfl); (first | exact q_A | exact q_5 | exact q_B)) | refine q_d ?_ | refine q_a ?_ | refine q_b ?_ | refine q_c ?_ | refine A_ct rfl ?_ | refine A_cf rfl ?_ | refine q_W ?_)
    refine A_loop (fun k : Nat => [(0, rtesA l), (1, .fn f [.ptr 1000 0]), (4, .mp 90), (42, pfxsA PS), (43, intA (PS.length : Int)), (44, intA (k : Int))]) (fun k => [(1000, .var [.row 950]), (950, .row el kk (nn (Ff k)) (D (Ff k))), (90, gB (gX G))]) (fun k => k ≤ PS.length) (fun k => PS.length - k) 0 (Nat.zero_le _) (Wk_sel ⟨rfl, rfl, rfl, rfl, rfl, rfl, trivial⟩ ⟨rfl, rfl, rfl, trivial⟩) ?_
    intro k hk
    try dsimp only
    by_cases hkP : k < PS.length
    · have hFk := hFs k hkP
      have hFb := hFn k hk
      obtain ⟨R, hR⟩ := hPm _ (hPSm _ (List.getElem_mem hkP))
      have hRe : R = ofP (goodL l) PS[k] := by have := hGg PS[k]; rw [hR] at this; exact this
      have hRm : ∀ r ∈ R, r ∈ l := fun r hr => by rw [hRe] at hr; exact (List.mem_filter.1 (List.mem_filter.1 hr).1).1
      have hRl : R.length ≤ 200 := by rw [hRe]; exact Nat.le_trans (Nat.le_trans (List.length_filter_le _ _) (List.length_filter_le _ _)) hn
      have hgx : Go.Proofs.YtenolkolkpfjgaaGreat.aget (gX G) PS[k] = some (.fix R) := gX_get hR
      have hgn : ((gX G).map (·.1)).Nodup := by unfold gX; rw [List.map_map]; exact hGn
      have hLs : ∀ j, ((R.take j).flatMap (ledH l)).length ≤ 200 * 40201 := fun j => by
        have hsq : (l.length + 1) * l.length + 1 ≤ 40201 := by
          have : (l.length + 1) * l.length ≤ 201 * 200 := Nat.mul_le_mul (by omega) hn
          omega
        refine Nat.le_trans (flat_le _ 40201 _ fun s _ => Nat.le_trans (ledH_len l s) hsq) (Nat.mul_le_mul_right _ ?_)
        rw [List.length_take]; omega
      have hent : entOf l PS[k] = ⟨PS[k], R.any (·.x), if R.any (·.x) then [] else sortU ordH (R.flatMap (ledH l))⟩ := by unfold entOf; rw [← hRe]
      have hw0 : win (PS.flatMap pfxD) (k * 2) 2 = pfxD PS[k] := win_flat0 pfxD_len PS k 2 hkP (by decide)
      clear hRe
      obtain ⟨p, hp⟩ : ∃ p, PS[k] = p := ⟨_, rfl⟩
      rw [hp] at hFk hR hgx hent hw0
      obtain ⟨pa, pb⟩ := p
      repeat (first | refine q_Z ?_ | ((first | apply O_y rfl rfl rfl | apply Q_y rfl rfl rfl); (first | exact q_A | exact R_loadi tabOk rfl rfl rfl rfl hw0 rfl rfl | exact q_B | (exact R_lk1 (xa := gvA) pfxKey pfxA_val zeroRts trivial (fun _ _ => trivial) hgn hgx tabOk rfl rfl rfl (by show some _ = _; simp only [gX_kill, gX_fr, gX_kills]; rfl) rfl rfl))) | refine q_d ?_ | refine q_a ?_ | refine q_b ?_ | refine q_c ?_ | refine A_ct rfl ?_ | refine A_cf rfl ?_ | refine q_W ?_)
      refine A_weaken (Wk_nilC (b := 10) (id := 6) (i := 3) 66 2 rfl rfl rfl rfl) ?_
      refine A_loop (fun j : Nat => [(0, rtesA l), (1, .fn f [.ptr 1000 0]), (4, .mp 90), (10, .ptr 10 0), (42, pfxsA PS), (43, intA (PS.length : Int)), (44, intA (k : Int)), (52, rtesA R), (53, intA (R.length : Int)), (54, intA (j : Int))]) (fun j => [(10, .var [.d (.sc (.int .u32 pa)), .d (.sc (.int .i64 pb)), .d (.sc (.bool ((R.take j).any (·.x)))), .row 6]), (6, hopB ((R.take j).flatMap (ledH l))), (1000, .var [.row 950]), (950, .row el kk (nn (Ff k)) (D (Ff k))), (90, gB (gX G))]) (fun j => j ≤ R.length) (fun j => R.length - j) 0 (Nat.zero_le _) (Wk_sel ⟨rfl, rfl, rfl, rfl, rfl, rfl, rfl, rfl, rfl, rfl, trivial⟩ ⟨rfl, rfl, rfl, rfl, ((by show some _ = _; simp only [gX_kill, gX_fr, gX_kills])), trivial⟩) ?_
      intro j hj
      try dsimp only
      by_cases hjR : j < R.length
      · have hrm := hRm _ (List.getElem_mem hjR)
        have hw1 := win_at R j hjR
        have hled := (led_A l R[j] hok (fun s hs => (List.mem_cons.1 hs).elim (fun h => by rw [h]; exact hh _ hrm) (hh s)) (by omega)).reid (id := 951) rfl
        have htf := take_flat (ledH l) R j hjR
        have hlj := hLs j
        have hlj2 := hLs (j + 1)
        have hta : (R.take (j + 1)).any (·.x) = ((R.take j).any (·.x) || R[j].x) := by rw [List.take_succ_eq_append_getElem hjR, List.any_append]; simp
        have hfl : ((ledH l R[j]).flatMap hopD).length = (ledH l R[j]).length * 2 := flat_len hopD_len _
        rw [htf, List.length_append] at hlj2
        obtain ⟨r, hr⟩ : ∃ r, R[j] = r := ⟨_, rfl⟩
        rw [hr] at hw1 hled htf hta hfl hlj2
        obtain ⟨b, hb⟩ : ∃ b, (R.take j).any (·.x) = b := ⟨_, rfl⟩
        rw [hb] at hta ⊢
        cases b with
        | true =>
          repeat (first | refine q_Z ?_ | ((first | apply O_y rfl rfl rfl | apply Q_y rfl rfl rfl); (first | exact q_A | exact R_loadi tabOk rfl rfl rfl rfl hw1 rfl rfl | exact q_B)) | refine q_d ?_ | refine q_a ?_ | refine q_b ?_ | refine q_c ?_ | refine A_ct rfl ?_ | refine A_cf rfl ?_ | refine q_W ?_)
          refine N_begin [10, 6] mixed ?_
          (apply q_P 0 rfl (by kernel_rfl) rfl rfl rfl; (first | exact q_A | exact q_5 | exact q_B | fail))
          (apply q_P 2 rfl (by kernel_rfl) rfl rfl rfl; (first | exact q_A | exact q_5 | exact q_B | fail))
          (apply q_P 3 rfl (by kernel_rfl) rfl rfl rfl; (first | exact q_A | exact q_5 | exact q_B | fail))
          refine N_two (j := 1) (k := 4) (by kernel_rfl) ?_ ?_
          · apply T_yield rfl rfl rfl rfl ((by first | exact q_7 | exact q_19))
            refine N_one (j := 4) (by kernel_rfl) ?_
            refine T_cRow rfl rfl rfl rfl rfl rfl hled rfl ?_
            refine N_one (j := 5) (by kernel_rfl) ?_
            refine T_appR tabOk rfl rfl rfl rfl rfl rfl rfl rfl rfl rfl rfl rfl (Src.row rfl) hfl (by omega) rfl ?_
            (apply q_P 6 rfl (by kernel_rfl) rfl rfl rfl; (first | exact q_A | exact q_5 | exact q_B | fail))
            refine N_one (j := 7) (by kernel_rfl) ?_
            refine T_store tabOk rfl rfl rfl rfl rfl rfl rfl rfl rfl rfl rfl rfl rfl ?_
            refine N_done (by kernel_rfl) ?_
            repeat (first | refine q_Z ?_ | ((first | apply O_y rfl rfl rfl | apply Q_y rfl rfl rfl); (first | exact q_A | exact q_5 | exact q_B)) | refine q_d ?_ | refine q_a ?_ | refine q_b ?_ | refine q_c ?_ | refine A_ct rfl ?_ | refine A_cf rfl ?_ | refine q_W ?_)
            exact ⟨j + 1, by omega, by omega, Wk_sel ⟨rfl, rfl, rfl, rfl, rfl, rfl, rfl, rfl, rfl, rfl, trivial⟩ ⟨by rw [hta]; rfl, row_eq (by rw [htf, List.length_append]) (by rw [htf, List.flatMap_append]) rfl, rfl, rfl, ((by show some _ = _; simp only [gX_kill, gX_fr, gX_kills])), trivial⟩⟩
          · refine T_cRow rfl rfl rfl rfl rfl rfl hled rfl ?_
            refine N_one (j := 1) (by kernel_rfl) ?_
            apply T_yield rfl rfl rfl rfl ((by first | exact q_7 | exact q_19))
            refine N_one (j := 5) (by kernel_rfl) ?_
            refine T_appR tabOk rfl rfl rfl rfl rfl rfl rfl rfl rfl rfl rfl rfl (Src.row rfl) hfl (by omega) rfl ?_
            (apply q_P 6 rfl (by kernel_rfl) rfl rfl rfl; (first | exact q_A | exact q_5 | exact q_B | fail))
            refine N_one (j := 7) (by kernel_rfl) ?_
            refine T_store tabOk rfl rfl rfl rfl rfl rfl rfl rfl rfl rfl rfl rfl rfl ?_
            refine N_done (by kernel_rfl) ?_
            repeat (first | refine q_Z ?_ | ((first | apply O_y rfl rfl rfl | apply Q_y rfl rfl rfl); (first | exact q_A | exact q_5 | exact q_B)) | refine q_d ?_ | refine q_a ?_ | refine q_b ?_ | refine q_c ?_ | refine A_ct rfl ?_ | refine A_cf rfl ?_ | refine q_W ?_)
            exact ⟨j + 1, by omega, by omega, Wk_sel ⟨rfl, rfl, rfl, rfl, rfl, rfl, rfl, rfl, rfl, rfl, trivial⟩ ⟨by rw [hta]; rfl, row_eq (by rw [htf, List.length_append]) (by rw [htf, List.flatMap_append]) rfl, rfl, rfl, ((by show some _ = _; simp only [gX_kill, gX_fr, gX_kills])), trivial⟩⟩
        | false =>
          repeat (first | refine q_Z ?_ | ((first | apply O_y rfl rfl rfl | apply Q_y rfl rfl rfl); (first | exact q_A | exact R_loadi tabOk rfl rfl rfl rfl hw1 rfl rfl | exact q_B)) | refine q_d ?_ | refine q_a ?_ | refine q_b ?_ | refine q_c ?_ | refine A_ct rfl ?_ | refine A_cf rfl ?_ | refine q_W ?_)
          refine N_begin [10, 6] mixed ?_
          (apply q_P 0 rfl (by kernel_rfl) rfl rfl rfl; (first | exact q_A | exact q_5 | exact q_B | fail))
          (apply q_P 2 rfl (by kernel_rfl) rfl rfl rfl; (first | exact q_A | exact q_5 | exact q_B | fail))
          (apply q_P 3 rfl (by kernel_rfl) rfl rfl rfl; (first | exact q_A | exact q_5 | exact q_B | fail))
          refine N_two (j := 1) (k := 4) (by kernel_rfl) ?_ ?_
          · apply T_yield rfl rfl rfl rfl ((by first | exact q_7 | exact q_19))
            refine N_one (j := 4) (by kernel_rfl) ?_
            refine T_cRow rfl rfl rfl rfl rfl rfl hled rfl ?_
            refine N_one (j := 5) (by kernel_rfl) ?_
            refine T_appR tabOk rfl rfl rfl rfl rfl rfl rfl rfl rfl rfl rfl rfl (Src.row rfl) hfl (by omega) rfl ?_
            (apply q_P 6 rfl (by kernel_rfl) rfl rfl rfl; (first | exact q_A | exact q_5 | exact q_B | fail))
            refine N_one (j := 7) (by kernel_rfl) ?_
            refine T_store tabOk rfl rfl rfl rfl rfl rfl rfl rfl rfl rfl rfl rfl rfl ?_
            refine N_done (by kernel_rfl) ?_
            repeat (first | refine q_Z ?_ | ((first | apply O_y rfl rfl rfl | apply Q_y rfl rfl rfl); (first | exact q_A | exact q_5 | exact q_B)) | refine q_d ?_ | refine q_a ?_ | refine q_b ?_ | refine q_c ?_ | refine A_ct rfl ?_ | refine A_cf rfl ?_ | refine q_W ?_)
            exact ⟨j + 1, by omega, by omega, Wk_sel ⟨rfl, rfl, rfl, rfl, rfl, rfl, rfl, rfl, rfl, rfl, trivial⟩ ⟨by rw [hta]; rfl, row_eq (by rw [htf, List.length_append]) (by rw [htf, List.flatMap_append]) rfl, rfl, rfl, ((by show some _ = _; simp only [gX_kill, gX_fr, gX_kills])), trivial⟩⟩
          · refine T_cRow rfl rfl rfl rfl rfl rfl hled rfl ?_
            refine N_one (j := 1) (by kernel_rfl) ?_
            apply T_yield rfl rfl rfl rfl ((by first | exact q_7 | exact q_19))
            refine N_one (j := 5) (by kernel_rfl) ?_
            refine T_appR tabOk rfl rfl rfl rfl rfl rfl rfl rfl rfl rfl rfl rfl (Src.row rfl) hfl (by omega) rfl ?_
            (apply q_P 6 rfl (by kernel_rfl) rfl rfl rfl; (first | exact q_A | exact q_5 | exact q_B | fail))
            refine N_one (j := 7) (by kernel_rfl) ?_
            refine T_store tabOk rfl rfl rfl rfl rfl rfl rfl rfl rfl rfl rfl rfl rfl ?_
            refine N_done (by kernel_rfl) ?_
            repeat (first | refine q_Z ?_ | ((first | apply O_y rfl rfl rfl | apply Q_y rfl rfl rfl); (first | exact q_A | exact q_5 | exact q_B)) | refine q_d ?_ | refine q_a ?_ | refine q_b ?_ | refine q_c ?_ | refine A_ct rfl ?_ | refine A_cf rfl ?_ | refine q_W ?_)
            exact ⟨j + 1, by omega, by omega, Wk_sel ⟨rfl, rfl, rfl, rfl, rfl, rfl, rfl, rfl, rfl, rfl, trivial⟩ ⟨by rw [hta]; rfl, row_eq (by rw [htf, List.length_append]) (by rw [htf, List.flatMap_append]) rfl, rfl, rfl, ((by show some _ = _; simp only [gX_kill, gX_fr, gX_kills])), trivial⟩⟩
      · have : j = R.length := by omega
        subst this
        have hlj := hLs R.length
        rw [List.take_length] at hlj ⊢
        have hso2 := fsorted_A (R.flatMap (ledH l)) (by omega)
        obtain ⟨hs, hhs⟩ : ∃ hs, sortU ordH (R.flatMap (ledH l)) = hs := ⟨_, rfl⟩
        rw [hhs] at hso2 hent
        have hst := (hstep (Ff k) (entOf l ⟨pa, pb⟩) (by omega)).mono fun c h hq => (⟨step (Ff k) (entOf l ⟨pa, pb⟩), rfl, hq.1, hq.2⟩ : ∃ a', a' = step (Ff k) (entOf l ⟨pa, pb⟩) ∧ c = .tup [] ∧ h = [(1000, .var [.row 950]), (950, .row el kk (nn a') (D a'))])
        obtain ⟨b, hb⟩ : ∃ b, R.any (·.x) = b := ⟨_, rfl⟩
        rw [hb] at hent ⊢
        cases b with
        | true =>
          rw [if_pos rfl] at hent
          rw [hent] at hst hFk
          repeat (first | refine q_Z ?_ | ((first | apply O_y rfl rfl rfl | apply Q_y rfl rfl rfl); (first | exact q_A | exact q_5 | exact q_B)) | refine q_d ?_ | refine q_a ?_ | refine q_b ?_ | refine q_c ?_ | refine A_ct rfl ?_ | refine A_cf rfl ?_ | refine q_W ?_ | (refine O_cM rfl rfl rfl rfl rfl hso2 rfl (fun c hc => by simp at hc; subst hc; rfl) rfl rfl ?_))
          refine O_weaken (Wk_see (t := 81) rfl see_ent) ?_
          refine O_cTV (α := α) (C := fun _ => .tup []) (H1 := fun a => [(1000, .var [.row 950]), (950, .row el kk (nn a) (D a))]) (Φ := fun a => a = step (Ff k) _) [(1000, 1000)] [(950, 950)] 950 950 (fun p p' i h1 h2 => by rw [(look_one' h1).1, (look_one' h2).1]) (fun p i h1 => by rw [(look_one' h1).1]; exact ⟨Nat.le_refl _, rfl, fun _ => rfl⟩) (fun p i h1 => ⟨by rw [(look_one' h1).1]; omega, by rw [(look_one' h1).2]; omega, fun q hq => by have := (look_one' h1).2; have := (look_one' hq).2; omega⟩) (fun p p' i h1 h2 => by rw [(look_one' h1).1, (look_one' h2).1]) (by decide) (by decide) (by omega) rfl ⟨950, rfl⟩ hst rfl ⟨⟨1000, _, rfl, rfl, rfl, fun c hc => by simp at hc; subst hc; rfl⟩, ⟨950, _, rfl, rfl, rfl, trivial⟩, trivial⟩ rfl rfl rfl rfl rfl rfl rfl rfl ?_
          rintro a rfl
          repeat (first | refine q_Z ?_ | ((first | apply O_y rfl rfl rfl | apply Q_y rfl rfl rfl); (first | exact q_A | exact q_5 | exact q_B)) | refine q_d ?_ | refine q_a ?_ | refine q_b ?_ | refine q_c ?_ | refine A_ct rfl ?_ | refine A_cf rfl ?_ | refine q_W ?_)
          exact ⟨k + 1, by omega, by omega, Wk_sel ⟨rfl, rfl, rfl, rfl, rfl, rfl, trivial⟩ ⟨rfl, by rw [hFk]; rfl, ((by show some _ = _; simp only [gX_kill, gX_fr, gX_kills])), trivial⟩⟩
        | false =>
          rw [if_neg (by simp)] at hent
          rw [hent] at hst hFk
          repeat (first | refine q_Z ?_ | ((first | apply O_y rfl rfl rfl | apply Q_y rfl rfl rfl); (first | exact q_A | exact q_5 | exact q_B)) | refine q_d ?_ | refine q_a ?_ | refine q_b ?_ | refine q_c ?_ | refine A_ct rfl ?_ | refine A_cf rfl ?_ | refine q_W ?_ | (refine O_cM rfl rfl rfl rfl rfl hso2 rfl (fun c hc => by simp at hc; subst hc; rfl) rfl rfl ?_))
          refine O_weaken (Wk_freeze (id := 6) rfl) ?_
          refine O_cTV (α := α) (C := fun _ => .tup []) (H1 := fun a => [(1000, .var [.row 950]), (950, .row el kk (nn a) (D a))]) (Φ := fun a => a = step (Ff k) _) [(1000, 1000)] [(950, 950)] 950 950 (fun p p' i h1 h2 => by rw [(look_one' h1).1, (look_one' h2).1]) (fun p i h1 => by rw [(look_one' h1).1]; exact ⟨Nat.le_refl _, rfl, fun _ => rfl⟩) (fun p i h1 => ⟨by rw [(look_one' h1).1]; omega, by rw [(look_one' h1).2]; omega, fun q hq => by have := (look_one' h1).2; have := (look_one' hq).2; omega⟩) (fun p p' i h1 h2 => by rw [(look_one' h1).1, (look_one' h2).1]) (by decide) (by decide) (by omega) rfl ⟨950, rfl⟩ hst rfl ⟨⟨1000, _, rfl, rfl, rfl, fun c hc => by simp at hc; subst hc; rfl⟩, ⟨950, _, rfl, rfl, rfl, trivial⟩, trivial⟩ rfl rfl rfl rfl rfl rfl rfl rfl ?_
          rintro a rfl
          repeat (first | refine q_Z ?_ | ((first | apply O_y rfl rfl rfl | apply Q_y rfl rfl rfl); (first | exact q_A | exact q_5 | exact q_B)) | refine q_d ?_ | refine q_a ?_ | refine q_b ?_ | refine q_c ?_ | refine A_ct rfl ?_ | refine A_cf rfl ?_ | refine q_W ?_)
          exact ⟨k + 1, by omega, by omega, Wk_sel ⟨rfl, rfl, rfl, rfl, rfl, rfl, trivial⟩ ⟨rfl, by rw [hFk]; rfl, ((by show some _ = _; simp only [gX_kill, gX_fr, gX_kills])), trivial⟩⟩
    · have : k = PS.length := by omega
      subst this
      repeat (first | refine q_Z ?_ | ((first | apply O_y rfl rfl rfl | apply Q_y rfl rfl rfl); (first | exact q_A | exact q_5 | exact q_B)) | refine q_d ?_ | refine q_a ?_ | refine q_b ?_ | refine q_c ?_ | refine A_ct rfl ?_ | refine A_cf rfl ?_ | refine q_W ?_)
      exact X_endW AWk.refl rfl (h2 := [(1000, .var [.row 950]), (950, .row el kk (nn (Ff PS.length)) (D (Ff PS.length)))]) ⟨rfl, rfl, trivial⟩ ⟨rfl, rfl⟩
end
end Go.Proofs.YtenolkolkpfjgaaGreat.Ab

namespace Go.Proofs.YtenolkolkpfjgaaGreat.Ab
set_option linter.unusedVariables false
open Go.RowKit Go.Lib
def liveE (x : Ent) : Bool := x.x || decide (0 < x.hs.length)
noncomputable def entsE (l : List Rte) : List Ent := (entL l).filter liveE
noncomputable def lostE (l : List Rte) : List Pfx := ((entL l).filter fun x => !liveE x).map (·.p)
def entStep (a : List Ent) (x : Ent) : List Ent := if x.x || decide (0 < x.hs.length) then a ++ [x] else a
def lostStep (a : List Pfx) (x : Ent) : List Pfx := if x.x || decide (0 < x.hs.length) then a else a ++ [x.p]
theorem entStep_fold (l : List Ent) : ∀ a, l.foldl entStep a = a ++ l.filter liveE := by
  induction l with
  | nil => intro a; simp
  | cons x t ih =>
    intro a
    rw [List.foldl_cons, ih, List.filter_cons]
    have e : entStep a x = if liveE x = true then a ++ [x] else a := rfl
    rw [e]
    by_cases h : liveE x = true
    · rw [if_pos h, if_pos h]; simp
    · rw [if_neg h, if_neg h]
theorem lostStep_fold (l : List Ent) : ∀ a, l.foldl lostStep a = a ++ (l.filter fun x => !liveE x).map (·.p) := by
  induction l with
  | nil => intro a; simp
  | cons x t ih =>
    intro a
    rw [List.foldl_cons, ih, List.filter_cons]
    have e : lostStep a x = if liveE x = true then a else a ++ [x.p] := rfl
    rw [e]
    cases h : liveE x with
    | true => simp
    | false => simp
theorem goodP_mem {l : List Rte} {p : Pfx} : p ∈ goodP l ↔ ∃ r ∈ l, chk r.p = 0 ∧ r.p = p := by
  unfold goodP goodL
  simp [List.mem_map, List.mem_filter, and_assoc]
theorem entL_p (l : List Rte) : (entL l).map (·.p) = sortU ordP (goodP l) := by
  unfold entL
  rw [List.map_map]
  exact List.map_id _
theorem entL_len (l : List Rte) : (entL l).length ≤ l.length := by
  have h1 := congrArg List.length (entL_p l)
  rw [List.length_map] at h1
  have h2 := sortU_len (c := ordP) (goodP l)
  have h3 : (goodP l).length ≤ l.length := by unfold goodP goodL; rw [List.length_map]; exact List.length_filter_le _ _
  omega
theorem entsE_len (l : List Rte) : (entsE l).length ≤ l.length := Nat.le_trans (List.length_filter_le _ _) (entL_len l)
theorem lostE_len (l : List Rte) : (lostE l).length ≤ l.length := by unfold lostE; rw [List.length_map]; exact Nat.le_trans (List.length_filter_le _ _) (entL_len l)
theorem entsE_mem {l : List Rte} {e : Ent} (h : e ∈ entsE l) : liveE e = true ∧ ∃ p, e = entOf l p := by
  obtain ⟨h1, h2⟩ := List.mem_filter.1 h
  obtain ⟨p, _, hp⟩ := List.mem_map.1 h1
  exact ⟨h2, p, hp.symm⟩
theorem each_up {l : List Rte} : (entsE l).Pairwise fun x y => ordP x.p y.p < 0 := by
  have h : (entL l).Pairwise fun x y => ordP x.p y.p < 0 := by
    have := sortU_rising good_ordP ordP_eq (goodP l)
    rw [← entL_p] at this
    exact List.pairwise_map.1 this
  exact h.filter _
theorem each_len {l : List Rte} {e : Ent} (h : e ∈ entsE l) : e.hs.length ≤ l.length * ((l.length + 1) * l.length + 1) := by
  obtain ⟨_, p, rfl⟩ := entsE_mem h
  show (if (ofP (goodL l) p).any (·.x) then ([] : List Hp) else sortU ordH ((ofP (goodL l) p).flatMap (ledH l))).length ≤ _
  split
  · exact Nat.zero_le _
  · refine Nat.le_trans (sortU_len _) (Nat.le_trans (flat_le _ ((l.length + 1) * l.length + 1) _ fun s _ => ledH_len l s) (Nat.mul_le_mul_right _ ?_))
    exact Nat.le_trans (List.length_filter_le _ _) (List.length_filter_le _ _)
end Go.Proofs.YtenolkolkpfjgaaGreat.Ab

namespace Go.Proofs.YtenolkolkpfjgaaGreat.Ab
set_option linter.unusedVariables false
open Go.RowKit Go.Lib
def uE (E : List Ent) : Nat → Int := fun j => ((E.countP fun x => decide (x.p.b.toNat = j) : Nat) : Int)
def mE (E : List Ent) : List (Pfx × Ent) := E.map fun x => (x.p, x)
theorem uE_snoc (E : List Ent) (x : Ent) : bump (uE E) x.p.b.toNat 1 = uE (E ++ [x]) := by
  funext j
  unfold bump uE
  rw [List.countP_append, List.countP_singleton]
  by_cases h : j = x.p.b.toNat
  · rw [if_pos h, if_pos (by simpa using h.symm)]; rfl
  · rw [if_neg h, if_neg (by simpa using fun e => h e.symm)]; rfl
theorem uE_bd (E : List Ent) (j : Nat) : 0 ≤ uE E j ∧ uE E j ≤ E.length := by
  unfold uE
  have : E.countP (fun x => decide (x.p.b.toNat = j)) ≤ E.length := List.countP_le_length
  omega
theorem mE_keys (E : List Ent) : (mE E).map (·.1) = E.map (·.p) := by unfold mE; rw [List.map_map]; rfl
theorem mE_get {E : List Ent} (hn : (E.map (·.p)).Nodup) {x : Ent} (hx : x ∈ E) : aget (mE E) x.p = some x := aget_of_mem (by rw [mE_keys]; exact hn) (List.mem_map.2 ⟨x, hx, rfl⟩)
theorem mE_of {E : List Ent} {p : Pfx} {x : Ent} (h : aget (mE E) p = some x) : x ∈ E ∧ x.p = p := by
  obtain ⟨y, hy, he⟩ := List.mem_map.1 (mem_of_aget h)
  cases he
  exact ⟨hy, rfl⟩
theorem mE_put {E : List Ent} (hn : (E.map (·.p)).Nodup) (k : Nat) (h : k < E.length) : aget (mE (E.take k)) E[k].p = none ∧ Go.Proofs.YtenolkolkpfjgaaGreat.aput (mE (E.take k)) E[k].p E[k] = mE (E.take (k + 1)) := by
  have h1 : aget (mE (E.take k)) E[k].p = none := by
    cases hg : aget (mE (E.take k)) E[k].p with
    | none => rfl
    | some x =>
      obtain ⟨h2, h3⟩ := mE_of hg
      obtain ⟨i, hi, hx⟩ := List.mem_iff_getElem.1 h2
      rw [List.length_take] at hi
      have hpw := List.pairwise_iff_getElem.1 hn i k (by rw [List.length_map]; omega) (by rw [List.length_map]; exact h) (by omega)
      rw [List.getElem_map, List.getElem_map] at hpw
      rw [List.getElem_take] at hx
      exact absurd (by rw [hx]; exact h3) hpw
  refine ⟨h1, ?_⟩
  unfold Go.Proofs.YtenolkolkpfjgaaGreat.aput
  unfold Go.Proofs.YtenolkolkpfjgaaGreat.aget at h1
  cases hm : Go.Proofs.YtenolkolkpfjgaaGreat.mget (mE (E.take k)) E[k].p with
  | some x => rw [hm] at h1; cases h1
  | none =>
    show mE (E.take k) ++ [(E[k].p, E[k])] = _
    rw [List.take_succ_eq_append_getElem h]
    unfold mE
    rw [List.map_append]; rfl
theorem over_memE {E : List Ent} (hn : (E.map (·.p)).Nodup) (hg : ∀ x ∈ E, Go.Proofs.YtenolkolkpfjgaaGreat.good x.p) (x : Int) (q : Pfx) : q ∈ overSE (uE E) (mE E) x 33 ↔ (∃ z, aget (mE E) q = some z) ∧ inB x q = true := by
  unfold overSE
  rw [List.mem_map]
  constructor
  · rintro ⟨b, hb, rfl⟩
    have h1 := (List.mem_filter.1 hb).2
    simp only [Bool.and_eq_true] at h1
    obtain ⟨z, hz⟩ := Option.isSome_iff_exists.1 h1.2
    refine ⟨⟨z, hz⟩, ?_⟩
    obtain ⟨h2, h3⟩ := mE_of hz
    rw [← inB_low x _ (by rw [← h3]; exact hg z h2)]
    exact decide_eq_true rfl
  · rintro ⟨⟨z, hz⟩, hin⟩
    obtain ⟨h2, h3⟩ := mE_of hz
    have hgq : Go.Proofs.YtenolkolkpfjgaaGreat.good q := by rw [← h3]; exact hg z h2
    rw [← inB_low x q hgq, decide_eq_true_eq] at hin
    have hu : 1 ≤ uE E q.b.toNat := by
      unfold uE
      have : 0 < E.countP (fun x => decide (x.p.b.toNat = q.b.toNat)) := List.countP_pos_iff.2 ⟨z, h2, by rw [h3]; simp⟩
      omega
    obtain ⟨a, b⟩ := q
    have hb0 := hgq.1
    have hb1 := hgq.2.1
    dsimp only at hb0 hb1 hin hu
    obtain ⟨B, rfl⟩ : ∃ B : Nat, b = (B : Int) := ⟨b.toNat, by omega⟩
    have hsub : sub x (B : Int) = ⟨a, (B : Int)⟩ := by
      unfold sub
      rw [hin]
    rw [Int.toNat_natCast] at hu
    refine ⟨B, List.mem_filter.2 ⟨List.mem_range.2 (by omega), ?_⟩, hsub⟩
    rw [hsub, hz]
    simp
    omega
theorem over_sortedE (u : Nat → Int) (m : List (Pfx × Ent)) (x : Int) (k : Nat) : (overSE u m x k).Pairwise fun p q => p.b < q.b := by
  unfold overSE
  rw [List.pairwise_map]
  refine List.Pairwise.imp ?_ (List.Pairwise.filter _ List.pairwise_lt_range)
  intro a b h
  show (a : Int) < (b : Int)
  omega
def ent0 : Ent := ⟨⟨0, 0⟩, false, []⟩
theorem look_law {E : List Ent} (hn : (E.map (·.p)).Nodup) (hg : ∀ x ∈ E, Go.Proofs.YtenolkolkpfjgaaGreat.good x.p) (x : Int) :
    ((longRE (uE E) (mE E) x).2.2 = true ∧ (longRE (uE E) (mE E) x).2.1 ∈ E ∧ inB x (longRE (uE E) (mE E) x).2.1.p = true ∧ ∀ y ∈ E, inB x y.p = true → y.p.b ≤ (longRE (uE E) (mE E) x).2.1.p.b) ∨
    ((longRE (uE E) (mE E) x).2.2 = false ∧ (longRE (uE E) (mE E) x).2.1 = ent0 ∧ ∀ y ∈ E, inB x y.p = false) := by
  have inO : ∀ y ∈ E, inB x y.p = true → y.p ∈ overSE (uE E) (mE E) x 33 := fun y hy hi => (over_memE hn hg x y.p).2 ⟨⟨y, mE_get hn hy⟩, hi⟩
  unfold longRE
  cases hL : (overSE (uE E) (mE E) x 33).getLast? with
  | none =>
    have h0 : overSE (uE E) (mE E) x 33 = [] := List.getLast?_eq_none_iff.1 hL
    refine .inr ⟨rfl, rfl, fun y hy => ?_⟩
    cases hi : inB x y.p with
    | false => rfl
    | true => have := inO y hy hi; rw [h0] at this; cases this
  | some p =>
    obtain ⟨⟨v, hv⟩, hin⟩ := (over_memE hn hg x p).1 (List.mem_of_getLast? hL)
    obtain ⟨h2, h3⟩ := mE_of hv
    dsimp only
    rw [hv]
    refine .inl ⟨rfl, h2, by show inB x v.p = true; rw [h3]; exact hin, fun y hy hi => ?_⟩
    show y.p.b ≤ v.p.b
    rw [h3]
    exact long_mostR (over_sortedE _ _ _ _) hL (inO y hy hi)
theorem entsE_nd (l : List Rte) : ((entsE l).map (·.p)).Nodup := by
  have := each_up (l := l)
  unfold List.Nodup
  rw [List.pairwise_map]
  refine this.imp fun {a b} h e => ?_
  rw [e, (ordP_zero _ _).2 rfl] at h
  omega
theorem entsE_good {l : List Rte} {x : Ent} (h : x ∈ entsE l) : chk x.p = 0 ∧ ∃ r ∈ l, r.p = x.p := by
  unfold entsE at h
  obtain ⟨p, hp, rfl⟩ := List.mem_map.1 (List.mem_filter.1 h).1
  rw [sortU_mem] at hp
  obtain ⟨r, hr, hc, hrp⟩ := goodP_mem.1 hp
  exact ⟨by show chk p = 0; rw [← hrp]; exact hc, r, hr, hrp⟩
end Go.Proofs.YtenolkolkpfjgaaGreat.Ab

/-
  Texts of a proof, one behind the other (part 27).
-/
import Derived.Test.YtenolkolkpfjgaaGreatFt8
import Derived.Test.YtenolkolkpfjgaaGreatFt24
import Derived.Test.YtenolkolkpfjgaaGreatFt25
set_option linter.unusedVariables false
set_option linter.unusedSimpArgs false
namespace Go.Proofs.YtenolkolkpfjgaaGreat.Ab
set_option linter.unusedVariables false
set_option maxRecDepth 100000
open Go.RowKit Go.Lib
abbrev trE (l : List Rte) (PS : List Pfx) (k : Nat) : Env := [(0, rtesA l), (1, .fn 19 [.ptr 1000 0]), (4, .mp 90), (42, pfxsA PS), (43, intA (PS.length : Int)), (44, intA (k : Int))]
abbrev trH (Y : List EntR) (G : Grp) : Heap := [(1000, .var [.row 950]), (950, entRB Y), (90, gB (gX G))]
theorem gX_has (G : Grp) (j : Nat) : blkHas j (gB (gX G)) = false := by
  show (List.any _ _) = false
  rw [List.any_eq_false]
  intro p hp
  unfold ents gX at hp
  rw [List.map_map] at hp
  obtain ⟨q, _, rfl⟩ := List.mem_map.1 hp
  show ¬ ((pfxA q.1).has j || (rtesA q.2).has j) = true
  simp [pfxA, AVal.has, hasL, rtesA]
theorem Wk_toldR {nt : Nat} {e : Env} {h : Heap} {l : List Rte} {PS : List Pfx} {G : Grp} {Y : List EntR} {y : EntR} {k : Nat} (hY : Y.length < 200) (he : Sub (trE l PS k) e) (hh : Sub (trH (Y ++ [y]) G) h) (h6 : look h 6 = some (hopX y.v y.x.hs)) (hG : ∀ id b, look (famE Y 100) id = some b → look h id = some b) : AWk nt e h (trE l PS k) (trH (Y ++ [y]) G ++ famE (Y ++ [y]) 100) := by
  refine Wk_famX (.inl (by decide)) hY he hh h6 hG rfl (fun id b hb => ?_) (fun t c ht j h1 h2 => ?_) (fun id b hb j h1 h2 => ?_)
  · have hm := look_memF hb
    simp only [trH, List.mem_cons, Prod.mk.injEq, List.not_mem_nil, or_false] at hm
    rcases hm with ⟨rfl, _⟩ | ⟨rfl, _⟩ | ⟨rfl, _⟩ <;> omega
  · have hm := look_memF ht
    simp only [trE, List.mem_cons, Prod.mk.injEq, List.not_mem_nil, or_false] at hm
    rcases hm with ⟨_, rfl⟩ | ⟨_, rfl⟩ | ⟨_, rfl⟩ | ⟨_, rfl⟩ | ⟨_, rfl⟩ | ⟨_, rfl⟩
    · rfl
    · show ((1000 == j) || false) = false; simp; omega
    · show (90 == j) = false; simp; omega
    · rfl
    · rfl
    · rfl
  · have hm := look_memF hb
    simp only [trH, List.mem_cons, Prod.mk.injEq, List.not_mem_nil, or_false] at hm
    rcases hm with ⟨_, rfl⟩ | ⟨_, rfl⟩ | ⟨_, rfl⟩
    · show ((950 == j) || false) = false; simp; omega
    · rfl
    · exact gX_has _ _
set_option linter.unusedSimpArgs false
attribute [local irreducible] AWp AOps AQ AYield AEff ACall AWk AAny AAt AThen AIn APost NoPanic
set_option maxHeartbeats 16000000 in
theorem toldR_A (l : List Rte) (hok : ∀ s ∈ l, okR s) (hh : ∀ s ∈ l, 0 ≤ s.h ∧ s.h < 4294967296) (hn : l.length ≤ 200) :
    ACall Tryz.prog 18 [rtesA l, .fn 19 [.ptr 1000 0]] [(1000, .var [.row 950]), (950, entRB [])] (fun c h => ∃ Y : List EntR, Y.map (·.x) = (entL l).filter liveE ∧ c = .tup [] ∧ h = [(1000, .var [.row 950]), (950, entRB Y)] ++ famE Y 100) := by
  refine ACall_of tabOk Tryz.func18 rfl Tryz.ntmps18 (congrArg Array.toList Tryz.results18) (by kernel_rfl) rfl ?_
  repeat (first | refine q_Z ?_ | ((first | apply O_y rfl rfl rfl | apply Q_y rfl rfl rfl); (first | exact q_A | exact q_5 | exact q_B)) | refine q_d ?_ | refine q_a ?_ | refine q_b ?_ | refine q_c ?_ | refine A_ct rfl ?_ | refine A_cf rfl ?_ | refine q_W ?_ | (refine O_makeMap 90 rfl rfl rfl rfl rfl ?_))
  refine A_weaken (Wk_nil 39 2 (t := 5) (id := 5) rfl rfl) ?_
  refine A_loop (fun k : Nat => (14, rtesA l) :: (15, intA (l.length : Int)) :: (16, intA (k : Int)) :: tdE l 19) (fun k => tdH 45 4 0 [] (grp (l.take k)) (goodP (l.take k))) (fun k => k ≤ l.length) (fun k => l.length - k) 0 (Nat.zero_le _) (Wk_sel ⟨rfl, rfl, rfl, rfl, rfl, rfl, rfl, trivial⟩ ⟨rfl, rfl, rfl, rfl, trivial⟩) ?_
  intro k hk
  try dsimp only
  by_cases hkl : k < l.length
  · have hgt := grp_take l k hkl
    have hpt := goodP_take l k hkl
    have hGl := grp_len (l.take k)
    have hGn := grp_nd (l.take k)
    have hPl : (goodP (l.take k)).length ≤ k := by unfold goodP goodL; rw [List.length_map]; exact Nat.le_trans (List.length_filter_le _ _) (by rw [List.length_take]; omega)
    rw [List.length_take] at hGl
    obtain ⟨G, hG⟩ : ∃ G, grp (l.take k) = G := ⟨_, rfl⟩
    obtain ⟨ps, hps⟩ : ∃ ps, goodP (l.take k) = ps := ⟨_, rfl⟩
    rw [hG] at hgt hGl hGn ⊢
    rw [hps] at hpt hPl ⊢
    have hw0 := win_at l k hkl
    have hck := check_A l[k].p (hok _ (List.getElem_mem hkl)).2
    by_cases hc : chk l[k].p = 0
    · rw [hc] at hck
      rw [if_pos hc] at hgt hpt
      have hid : Nat.blt (G.length + 100) 1000 = true := by simp [Nat.blt]; omega
      have hkn : ((gE 100 G).map (·.1)).Nodup := by rw [gE_keys]; exact hGn
      repeat (first | refine q_Z ?_ | ((first | apply O_y rfl rfl rfl | apply Q_y rfl rfl rfl); (first | exact q_A | exact R_loadi tabOk rfl rfl rfl rfl hw0 rfl rfl | exact q_B)) | refine q_d ?_ | refine q_a ?_ | refine q_b ?_ | refine q_c ?_ | refine A_ct rfl ?_ | refine A_cf rfl ?_ | refine q_W ?_ | refine O_c rfl rfl rfl rfl rfl hck (fun _ => rfl) ?_)
      refine O_weaken (Wk_look (e1 := (24, .mp 90) :: (26, pfxA l[k].p) :: (29, .row 29) :: (7, .ptr 7 0) :: (14, rtesA l) :: (15, intA (l.length : Int)) :: (16, intA (k : Int)) :: tdE l 19) (h1 := (29, rteB [l[k]]) :: (7, rteB1 l[k]) :: tdH 45 4 0 [] G ps) ⟨rfl, rfl, rfl, rfl, rfl, rfl, rfl, rfl, rfl, rfl, rfl, trivial⟩ (lk_cons rfl (lk_cons rfl (td_over 29 _ (td_none 29 (by omega) (by omega) (by omega)) (td_killup 29 (by omega) (by omega) (by omega) (td_over 7 _ (td_none 7 (by omega) (by omega) (by omega)) (td_over 7 _ (td_none 7 (by omega) (by omega) (by omega)) (td_killup 7 (by omega) (by omega) (by omega) fun _ _ h => h)))))))) ?_
      cases hm : Go.Proofs.YtenolkolkpfjgaaGreat.mget G l[k].p with
      | none =>
        have hg : Go.Proofs.YtenolkolkpfjgaaGreat.aget (gE 100 G) l[k].p = none := by unfold Go.Proofs.YtenolkolkpfjgaaGreat.aget; rw [mget_gE, hm]; rfl
        refine O_mapEntry0 (xa := gvA) (z := .nil) pfxKey pfxA_val pfxA_rel zeroRts (fun _ _ _ => sc_rel rfl) trivial (fun _ _ => trivial) hkn hg tabOk rfl rfl rfl rfl rfl rfl rfl rfl fun br bbs bb bc hbl => ?_
        repeat (first | refine q_Z ?_ | ((first | apply O_y rfl rfl rfl | apply Q_y rfl rfl rfl); (first | exact q_A | exact q_5 | exact q_B)) | refine q_d ?_ | refine q_a ?_ | refine q_b ?_ | refine q_c ?_ | refine A_ct rfl ?_ | refine A_cf rfl ?_ | refine q_W ?_)
        refine O_append (G.length + 100) rfl tabOk rfl rfl rfl rfl rfl rfl rfl hid rfl rfl .nil (Src.row rfl) rfl (by simp) ?_
        repeat (first | refine q_Z ?_ | ((first | apply O_y rfl rfl rfl | apply Q_y rfl rfl rfl); (first | exact q_A | exact q_5 | exact q_B)) | refine q_d ?_ | refine q_a ?_ | refine q_b ?_ | refine q_c ?_ | refine A_ct rfl ?_ | refine A_cf rfl ?_ | refine q_W ?_)
        have hcl : killV (G.length + 100) (.fn 19 [.ptr 1000 0]) = .fn 19 [.ptr 1000 0] := by
          show cond ((1000 == G.length + 100) || false) _ _ = _
          rw [show ((1000 : Nat) == G.length + 100) = false by simp; omega]; rfl
        have hks : gK (G.length + 100) (gE 100 G ++ [(l[k].p, .nil)]) = gE 100 G ++ [(l[k].p, .nil)] := by rw [Nat.add_comm]; exact gK_snoc 100 G l[k].p
        refine O_entryStore0 (xa := gvA) (k := l[k].p) (z := .nil) (z' := .own (G.length + 100)) (l := gE 100 G) hbl rfl rfl rfl rfl (congrArg (fun z => some (ABlk.mapx br (bbs ++ [bb]) bc z)) ((kill_gents _ _).trans (congrArg _ hks))) rfl rfl ?_
        refine O_weaken (Wk_look (e1 := (7, .ptr 7 0) :: (14, rtesA l) :: (15, intA (l.length : Int)) :: (16, intA (k : Int)) :: tdE l 19) (h1 := (7, rteB1 l[k]) :: tdH 45 4 0 [] (grp1 G l[k]) ps) ⟨rfl, rfl, rfl, rfl, rfl, congrArg some hcl, rfl, rfl, trivial⟩ (lk_cons ?_ (td_split ?_ ?_ ?_ ?_ ?_))) ?_
        · rw [look_cons_ne _ _ (by omega), look_cons_ne _ _ (by omega), look_killH, if_neg (by omega)]; rfl
        · rw [look_cons_ne _ _ (by omega), look_cons_ne _ _ (by omega), look_killH, if_neg (by omega)]
          show some (ABlk.var [killV (G.length + 100) (.row 950)]) = _
          rw [show killV (G.length + 100) (.row 950) = .row 950 by
            show cond (950 == G.length + 100) _ _ = _
            rw [show ((950 : Nat) == G.length + 100) = false by simp; omega]; rfl]
        · rw [look_cons_ne _ _ (by omega), look_cons_ne _ _ (by omega), look_killH, if_neg (by omega)]; rfl
        · rw [look_cons_ne _ _ (by omega), look_cons_ne _ _ (by omega), look_killH, if_neg (by omega)]; rfl
        · rw [grp1_new hm, gE_snoc, Nat.add_comm 100]; rfl
        · intro i g hi
          rw [grp1_new hm] at hi
          have hil := (List.getElem?_eq_some_iff.1 hi).1
          rw [List.length_append, List.length_singleton] at hil
          rw [look_cons_ne _ _ (by omega)]
          by_cases he : i = G.length
          · subst he
            rw [List.getElem?_append_right (Nat.le_refl _), Nat.sub_self] at hi
            cases hi
            rw [Nat.add_comm 100]
            exact look_cons_same _ _ _
          · rw [List.getElem?_append_left (by omega)] at hi
            rw [look_cons_ne _ _ (by omega), look_killH, if_neg (by omega), look_cons_ne _ _ (by omega), look_cons_ne _ _ (by omega), look_cons_ne _ _ (by omega), (td_row hi).resolve_right (by omega)]
            rfl
        ·
          repeat (first | refine q_Z ?_ | ((first | apply O_y rfl rfl rfl | apply Q_y rfl rfl rfl); (first | exact q_A | exact q_5 | exact q_B)) | refine q_d ?_ | refine q_a ?_ | refine q_b ?_ | refine q_c ?_ | refine A_ct rfl ?_ | refine A_cf rfl ?_ | refine q_W ?_ | (first | refine O_appR tabOk rfl rfl rfl rfl rfl rfl rfl rfl rfl rfl rfl (by first | exact Src.row rfl | exact Src.dat _ _ | exact Src.nil) rfl (by omega) ?_ | refine O_appN tabOk rfl rfl rfl rfl rfl rfl rfl rfl rfl rfl (by first | exact Src.row rfl | exact Src.dat _ _ | exact Src.nil) rfl (by omega) ?_))
          refine ⟨k + 1, by omega, by omega, Wk_look ⟨rfl, rfl, rfl, rfl, rfl, rfl, rfl, trivial⟩ ?_⟩
          rw [hgt, hpt]
          have hG1 := grp1_len G l[k]
          refine td_split rfl rfl (row_eq (by simp) (by simp [pfxD]) rfl) ?_ ?_
          · rw [look_cons_ne _ _ (by omega), look_killH, if_neg (by omega), look_cons_ne _ _ (by omega), look_killH, if_neg (by omega), look_cons_ne _ _ (by omega)]
            show some (killB 5 (killB 36 (gB (gE 100 (grp1 G l[k]))))) = _
            rw [gB_kill 36 _ (gE_no 36 _ (by omega)), gB_kill 5 _ (gE_no 5 _ (by omega))]
          · intro i g hi
            have := (List.getElem?_eq_some_iff.1 hi).1
            rw [look_cons_ne _ _ (by omega), look_killH, if_neg (by omega), look_cons_ne _ _ (by omega), look_killH, if_neg (by omega), look_cons_ne _ _ (by omega), (td_row hi).resolve_right (by omega)]
            rfl
      | some x =>
        obtain ⟨i, L⟩ := x
        have hi : G[i]? = some (l[k].p, L) := mget_some hm
        have hil := (List.getElem?_eq_some_iff.1 hi).1
        have hid : Nat.blt (i + 100) 1000 = true := by simp [Nat.blt]; omega
        have hmg : Go.Proofs.YtenolkolkpfjgaaGreat.mget (gE 100 G) l[k].p = some (i, .own (i + 100)) := by rw [mget_gE, hm, Nat.add_comm]; rfl
        have hLl : L.length ≤ k := by
          have h1 := grp_get (l.take k) l[k].p
          rw [hG] at h1
          unfold Go.Proofs.YtenolkolkpfjgaaGreat.aget at h1
          rw [hm] at h1
          have h2 : L = ofP (goodL (l.take k)) l[k].p := h1
          rw [h2]
          unfold ofP goodL
          exact Nat.le_trans (List.length_filter_le _ _) (Nat.le_trans (List.length_filter_le _ _) (by rw [List.length_take]; omega))
        have hcl : killV (i + 100) (.fn 19 [.ptr 1000 0]) = .fn 19 [.ptr 1000 0] := by
          show cond ((1000 == i + 100) || false) _ _ = _
          rw [show ((1000 : Nat) == i + 100) = false by simp; omega]; rfl
        refine O_mapEntry1 (xa := gvA) pfxKey pfxA_val trivial (fun _ _ => trivial) hkn hmg tabOk rfl rfl rfl rfl rfl rfl rfl rfl fun br bbs bb bc hbl hbj => ?_
        repeat (first | refine q_Z ?_ | ((first | apply O_y rfl rfl rfl | apply Q_y rfl rfl rfl); (first | exact q_A | exact q_5 | exact q_B)) | refine q_d ?_ | refine q_a ?_ | refine q_b ?_ | refine q_c ?_ | refine A_ct rfl ?_ | refine A_cf rfl ?_ | refine q_W ?_)
        refine O_weaken (Wk_see (t := 30) rfl see_tup2) ?_
        refine O_append (i + 100) rfl tabOk rfl rfl rfl rfl rfl rfl rfl hid rfl rfl (.row (n := L.length) (cs := L.flatMap rteD) ?_) (Src.row rfl) rfl (by simp; omega) ?_
        · rw [look_cons_ne _ _ (by omega), look_cons_ne _ _ (by omega), look_cons_ne _ _ (by omega), Nat.add_comm, (td_row hi).resolve_right (by omega)]
          rfl
        repeat (first | refine q_Z ?_ | ((first | apply O_y rfl rfl rfl | apply Q_y rfl rfl rfl); (first | exact q_A | exact q_5 | exact q_B)) | refine q_d ?_ | refine q_a ?_ | refine q_b ?_ | refine q_c ?_ | refine A_ct rfl ?_ | refine A_cf rfl ?_ | refine q_W ?_)
        have hks : (gK (i + 100) (gE 100 G))[i]? = some (l[k].p, .no) := by
          unfold gK
          rw [List.getElem?_map, gE_at 100 G i _ hi, Nat.add_comm]
          simp
        refine O_entryStore1 (id := 90) (r := br) (clk := bc) (ka := pfxA) (xa := gvA) (k := l[k].p) (z := .no) (z' := .own (i + 100)) (l := gK (i + 100) (gE 100 G)) (by rw [hbl]; unfold gK; rw [List.length_map]) hbj hks rfl rfl rfl rfl (congrArg (fun z => some (ABlk.mapx br bbs bc z)) (kill_gents _ _)) rfl rfl ?_
        refine O_weaken (Wk_look (e1 := (7, .ptr 7 0) :: (14, rtesA l) :: (15, intA (l.length : Int)) :: (16, intA (k : Int)) :: tdE l 19) (h1 := (7, rteB1 l[k]) :: tdH 45 4 0 [] (grp1 G l[k]) ps) ⟨rfl, rfl, rfl, rfl, rfl, congrArg some hcl, rfl, rfl, trivial⟩ (lk_cons ?_ (td_split ?_ ?_ ?_ ?_ ?_))) ?_
        · rw [look_cons_ne _ _ (by omega), look_cons_ne _ _ (by omega), look_killH, if_neg (by omega)]; rfl
        · rw [look_cons_ne _ _ (by omega), look_cons_ne _ _ (by omega), look_killH, if_neg (by omega)]
          show some (ABlk.var [killV (i + 100) (.row 950)]) = _
          rw [show killV (i + 100) (.row 950) = .row 950 by
            show cond (950 == i + 100) _ _ = _
            rw [show ((950 : Nat) == i + 100) = false by simp; omega]; rfl]
        · rw [look_cons_ne _ _ (by omega), look_cons_ne _ _ (by omega), look_killH, if_neg (by omega)]; rfl
        · rw [look_cons_ne _ _ (by omega), look_cons_ne _ _ (by omega), look_killH, if_neg (by omega)]; rfl
        · rw [grp1_old hm, gE_set 100 G i _ _ hi, look_cons_same]
          have := gK_set 100 G i _ hi
          rw [Nat.add_comm] at this
          rw [this]; rfl
        · intro j g hj
          rw [grp1_old hm] at hj
          rw [look_cons_ne _ _ (by omega)]
          have hjl := (List.getElem?_eq_some_iff.1 hj).1
          rw [List.length_set] at hjl
          by_cases he : i = j
          · subst he
            rw [List.getElem?_set_self hil] at hj
            cases hj
            rw [Nat.add_comm 100, look_cons_same]
            exact congrArg some (by unfold rteB; rw [List.length_append, List.flatMap_append])
          · rw [List.getElem?_set_ne he] at hj
            rw [look_cons_ne _ _ (by omega), look_killH, if_neg (by omega), look_cons_ne _ _ (by omega), look_cons_ne _ _ (by omega), look_cons_ne _ _ (by omega), (td_row hj).resolve_right (by omega)]
            rfl
        ·
          repeat (first | refine q_Z ?_ | ((first | apply O_y rfl rfl rfl | apply Q_y rfl rfl rfl); (first | exact q_A | exact q_5 | exact q_B)) | refine q_d ?_ | refine q_a ?_ | refine q_b ?_ | refine q_c ?_ | refine A_ct rfl ?_ | refine A_cf rfl ?_ | refine q_W ?_ | (first | refine O_appR tabOk rfl rfl rfl rfl rfl rfl rfl rfl rfl rfl rfl (by first | exact Src.row rfl | exact Src.dat _ _ | exact Src.nil) rfl (by omega) ?_ | refine O_appN tabOk rfl rfl rfl rfl rfl rfl rfl rfl rfl rfl (by first | exact Src.row rfl | exact Src.dat _ _ | exact Src.nil) rfl (by omega) ?_))
          refine ⟨k + 1, by omega, by omega, Wk_look ⟨rfl, rfl, rfl, rfl, rfl, rfl, rfl, trivial⟩ ?_⟩
          rw [hgt, hpt]
          have hG1 := grp1_len G l[k]
          refine td_split rfl rfl (row_eq (by simp) (by simp [pfxD]) rfl) ?_ ?_
          · rw [look_cons_ne _ _ (by omega), look_killH, if_neg (by omega), look_cons_ne _ _ (by omega), look_killH, if_neg (by omega), look_cons_ne _ _ (by omega)]
            show some (killB 5 (killB 36 (gB (gE 100 (grp1 G l[k]))))) = _
            rw [gB_kill 36 _ (gE_no 36 _ (by omega)), gB_kill 5 _ (gE_no 5 _ (by omega))]
          · intro i g hi
            have := (List.getElem?_eq_some_iff.1 hi).1
            rw [look_cons_ne _ _ (by omega), look_killH, if_neg (by omega), look_cons_ne _ _ (by omega), look_killH, if_neg (by omega), look_cons_ne _ _ (by omega), (td_row hi).resolve_right (by omega)]
            rfl
    · rw [if_neg hc] at hgt hpt
      obtain ⟨cc, hcc⟩ : ∃ cc, chk l[k].p = cc := ⟨_, rfl⟩
      rw [hcc] at hck hc
      repeat (first | refine q_Z ?_ | ((first | apply O_y rfl rfl rfl | apply Q_y rfl rfl rfl); (first | exact q_A | exact R_loadi tabOk rfl rfl rfl rfl hw0 rfl rfl | exact q_B)) | refine q_d ?_ | refine q_a ?_ | refine q_b ?_ | refine q_c ?_ | refine A_ct rfl ?_ | refine A_cf rfl ?_ | refine q_W ?_ | refine O_c rfl rfl rfl rfl rfl hck (fun _ => rfl) ?_)
      refine ⟨k + 1, by omega, by omega, Wk_look ⟨rfl, rfl, rfl, rfl, rfl, rfl, rfl, trivial⟩ ?_⟩
      rw [hgt, hpt, td_kill 7 (by omega) (by omega) (by omega)]
      exact td_over 7 _ (td_none 7 (by omega) (by omega) (by omega)) (td_over 7 _ (td_none 7 (by omega) (by omega) (by omega)) fun _ _ h => h)
  · have : k = l.length := by omega
    subst this
    rw [List.take_length]
    have hGl := grp_len l
    have hGn := grp_nd l
    have hGg := grp_get l
    have hPl : (goodP l).length ≤ l.length := by unfold goodP goodL; rw [List.length_map]; exact List.length_filter_le _ _
    have hPm : ∀ p ∈ goodP l, ∃ R, Go.Proofs.YtenolkolkpfjgaaGreat.aget (grp l) p = some R := fun p hp => by
      have h1 := grp_get l p
      cases hg : Go.Proofs.YtenolkolkpfjgaaGreat.aget (grp l) p with
      | some R => exact ⟨R, rfl⟩
      | none =>
        rw [hg] at h1
        unfold goodP at hp
        obtain ⟨r, hr, hrp⟩ := List.mem_map.1 hp
        have h2 : r ∈ ofP (goodL l) p := List.mem_filter.2 ⟨hr, by simpa using hrp⟩
        rw [← h1] at h2
        cases h2
    obtain ⟨G, hG⟩ : ∃ G, grp l = G := ⟨_, rfl⟩
    rw [hG] at hGl hGn hGg hPm ⊢
    obtain ⟨ps, hps⟩ : ∃ ps, goodP l = ps := ⟨_, rfl⟩
    unfold entL
    rw [hps] at hPl hPm ⊢
    repeat (first | refine q_Z ?_ | ((first | apply O_y rfl rfl rfl | apply Q_y rfl rfl rfl); (first | exact q_A | exact q_5 | exact q_B)) | refine q_d ?_ | refine q_a ?_ | refine q_b ?_ | refine q_c ?_ | refine A_ct rfl ?_ | refine A_cf rfl ?_ | refine q_W ?_)
    refine O_weaken (Wk_look (e1 := (39, .row 5) :: tdE l 19) (h1 := tfH 45 4 0 [] ps [] 100 G) ⟨rfl, rfl, rfl, rfl, rfl, trivial⟩ fun _ _ h => h) ?_
    refine O_weaken (td_fix tE_fr G [] 100 (Nat.le_refl _) (by omega)) ?_
    rw [List.nil_append]
    refine O_weaken (Wk_sel (e1 := (39, .row 5) :: tdE l 19) (h1 := [(1000, .var [.row 950]), (950, .row 45 4 0 []), (5, pfxB ps), (90, gB (gX G))]) ⟨rfl, rfl, rfl, rfl, rfl, trivial⟩ ⟨rfl, rfl, rfl, (by unfold tfH; rw [show gX G ++ gE 0 [] = gX G from List.append_nil _]; rfl), trivial⟩) ?_
    have hso := sortO_A ps (by omega)
    have hco := compactP_A (srt ordP ps) (by rw [srt_len]; omega)
    have hPSm : ∀ p ∈ sortU ordP ps, p ∈ ps := fun p hp => (sortU_mem ps p).1 hp
    have hPSl := sortU_len (c := ordP) ps
    repeat (first | refine q_Z ?_ | ((first | apply O_y rfl rfl rfl | apply Q_y rfl rfl rfl); (first | exact q_A | exact q_5 | exact q_B)) | refine q_d ?_ | refine q_a ?_ | refine q_b ?_ | refine q_c ?_ | refine A_ct rfl ?_ | refine A_cf rfl ?_ | refine q_W ?_)
    refine O_cP [(1000, 5)] (fun p p' i h1 h2 => by rw [(look_one' h1).1, (look_one' h2).1]) (fun p i h1 => by rw [(look_one' h1).1]; exact ⟨Nat.le_refl _, rfl, rfl⟩) hso (fun c hc => by simp at hc; rcases hc with rfl | rfl <;> rfl) ⟨⟨5, _, rfl, rfl, rfl, trivial⟩, trivial⟩ rfl rfl rfl rfl rfl rfl ?_
    repeat (first | refine q_Z ?_ | ((first | apply O_y rfl rfl rfl | apply Q_y rfl rfl rfl); (first | exact q_A | exact q_5 | exact q_B)) | refine q_d ?_ | refine q_a ?_ | refine q_b ?_ | refine q_c ?_ | refine A_ct rfl ?_ | refine A_cf rfl ?_ | refine q_W ?_)
    refine O_cM rfl rfl rfl rfl rfl hco rfl (fun c hc => by simp at hc; subst hc; rfl) rfl rfl ?_
    refine O_weaken (Wk_freeze (id := 5) rfl) ?_
    obtain ⟨PS, hPS⟩ : ∃ PS, sortU ordP ps = PS := ⟨_, rfl⟩
    rw [hPS] at hPSm hPSl ⊢
    refine O_weaken (Wk_sel (e1 := [(0, rtesA l), (1, .fn 19 [.ptr 1000 0]), (4, .mp 90), (42, pfxsA PS)]) (h1 := [(1000, .var [.row 950]), (950, .row 45 4 0 []), (90, gB (gX G))]) ⟨rfl, rfl, rfl, (by rw [← hPS]; rfl), trivial⟩ ⟨rfl, rfl, ((by show some _ = _; simp only [gX_kill, gX_fr, gX_kills])), trivial⟩) ?_
    obtain ⟨Ff, hF⟩ : ∃ Ff : Nat → List Ent, Ff = fun k => ((PS.take k).map (entOf l)).filter liveE := ⟨_, rfl⟩
    have hF0 : Ff 0 = [] := by rw [hF]; rfl
    have hFl : (PS.map (entOf l)).filter liveE = Ff PS.length := by rw [hF]; dsimp only; rw [List.take_length]
    have hFs : ∀ k (h : k < PS.length), Ff (k + 1) = if liveE (entOf l PS[k]) then Ff k ++ [entOf l PS[k]] else Ff k := fun k h => by
      rw [hF]; dsimp only
      rw [List.take_succ_eq_append_getElem h, List.map_append, List.filter_append]
      simp only [List.map_cons, List.map_nil, List.filter_cons, List.filter_nil]
      split
      · rfl
      · rw [List.append_nil]
    have hFn : ∀ k, k ≤ PS.length → (Ff k).length ≤ k := fun k hk => by
      rw [hF]; dsimp only
      refine Nat.le_trans (List.length_filter_le _ _) ?_
      rw [List.length_map, List.length_take]; omega
    rw [hFl]
    clear hF hFl
    repeat (first | refine q_Z ?_ | ((first | apply O_y rfl rfl rfl | apply Q_y rfl rfl rfl); (first | exact q_A | exact q_5 | exact q_B)) | refine q_d ?_ | refine q_a ?_ | refine q_b ?_ | refine q_c ?_ | refine A_ct rfl ?_ | refine A_cf rfl ?_ | refine q_W ?_)
    refine A_loop (fun s : Nat × List EntR => trE l PS s.1) (fun s => trH s.2 G ++ famE s.2 100) (fun s => s.1 ≤ PS.length ∧ s.2.map (·.x) = Ff s.1) (fun s => PS.length - s.1) (0, []) ⟨Nat.zero_le _, by rw [hF0]; rfl⟩ (by dsimp only; exact Wk_sel (e1 := trE l PS 0) (h1 := trH [] G) ⟨rfl, rfl, rfl, rfl, rfl, rfl, trivial⟩ ⟨rfl, rfl, rfl, trivial⟩) ?_
    rintro ⟨k, Y⟩ ⟨hk, hYe⟩
    dsimp only at hk hYe
    try dsimp only
    have hYl : Y.length ≤ k := by have := hFn k hk; rw [← hYe, List.length_map] at this; exact this
    by_cases hkP : k < PS.length
    · have hFk := hFs k hkP
      obtain ⟨R, hR⟩ := hPm _ (hPSm _ (List.getElem_mem hkP))
      have hRe : R = ofP (goodL l) PS[k] := by have := hGg PS[k]; rw [hR] at this; exact this
      have hRm : ∀ r ∈ R, r ∈ l := fun r hr => by rw [hRe] at hr; exact (List.mem_filter.1 (List.mem_filter.1 hr).1).1
      have hRl : R.length ≤ 200 := by rw [hRe]; exact Nat.le_trans (Nat.le_trans (List.length_filter_le _ _) (List.length_filter_le _ _)) hn
      have hgx : Go.Proofs.YtenolkolkpfjgaaGreat.aget (gX G) PS[k] = some (.fix R) := gX_get hR
      have hgn : ((gX G).map (·.1)).Nodup := by unfold gX; rw [List.map_map]; exact hGn
      have hLs : ∀ j, ((R.take j).flatMap (ledH l)).length ≤ 200 * 40201 := fun j => by
        have hsq : (l.length + 1) * l.length + 1 ≤ 40201 := by
          have : (l.length + 1) * l.length ≤ 201 * 200 := Nat.mul_le_mul (by omega) hn
          omega
        refine Nat.le_trans (flat_le _ 40201 _ fun s _ => Nat.le_trans (ledH_len l s) hsq) (Nat.mul_le_mul_right _ ?_)
        rw [List.length_take]; omega
      have hent : entOf l PS[k] = ⟨PS[k], R.any (·.x), if R.any (·.x) then [] else sortU ordH (R.flatMap (ledH l))⟩ := by unfold entOf; rw [← hRe]
      have hw0 : win (PS.flatMap pfxD) (k * 2) 2 = pfxD PS[k] := win_flat0 pfxD_len PS k 2 hkP (by decide)
      clear hRe
      obtain ⟨p, hp⟩ : ∃ p, PS[k] = p := ⟨_, rfl⟩
      rw [hp] at hFk hR hgx hent hw0
      obtain ⟨pa, pb⟩ := p
      repeat (first | refine q_Z ?_ | ((first | apply O_y rfl rfl rfl | apply Q_y rfl rfl rfl); (first | exact q_A | exact R_loadi tabOk rfl rfl rfl rfl hw0 rfl rfl | exact q_B | (exact R_lk1 (xa := gvA) pfxKey pfxA_val zeroRts trivial (fun _ _ => trivial) hgn hgx tabOk rfl rfl rfl (by show some _ = _; simp only [gX_kill, gX_fr, gX_kills]; rfl) rfl rfl))) | refine q_d ?_ | refine q_a ?_ | refine q_b ?_ | refine q_c ?_ | refine A_ct rfl ?_ | refine A_cf rfl ?_ | refine q_W ?_)
      refine A_weaken (Wk_nilC (b := 10) (id := 6) (i := 3) 66 2 rfl rfl rfl rfl) ?_
      refine A_loop (fun j : Nat => [(0, rtesA l), (1, .fn 19 [.ptr 1000 0]), (4, .mp 90), (10, .ptr 10 0), (42, pfxsA PS), (43, intA (PS.length : Int)), (44, intA (k : Int)), (52, rtesA R), (53, intA (R.length : Int)), (54, intA (j : Int))]) (fun j => [(10, .var [.d (.sc (.int .u32 pa)), .d (.sc (.int .i64 pb)), .d (.sc (.bool ((R.take j).any (·.x)))), .row 6]), (6, hopB ((R.take j).flatMap (ledH l))), (1000, .var [.row 950]), (950, entRB Y), (90, gB (gX G))] ++ famE Y 100) (fun j => j ≤ R.length) (fun j => R.length - j) 0 (Nat.zero_le _) (by (try dsimp only); exact Wk_selG (h1 := [(10, .var [.d (.sc (.int .u32 pa)), .d (.sc (.int .i64 pb)), .d (.sc (.bool ((R.take 0).any (·.x)))), .row 6]), (6, hopB ((R.take 0).flatMap (ledH l))), (1000, .var [.row 950]), (950, entRB Y), (90, gB (gX G))]) (G := famE Y 100) ⟨rfl, rfl, rfl, rfl, rfl, rfl, rfl, rfl, rfl, rfl, trivial⟩ ⟨rfl, rfl, rfl, rfl, ((by show some _ = _; simp only [gX_kill, gX_fr, gX_kills])), trivial⟩ (look_famE (by omega) fun j b h1 h2 hx hb => by repeat (first | exact hb | refine fx_cons (by decide) h1 h2 ?_ | refine fx_killH (by decide) h1 h2 hx ?_ | refine fx_killHs (by decide) h1 h2 hx ?_ | refine fx_frH (by decide) h1 h2 hx ?_)) ) ?_
      intro j hj
      try dsimp only
      by_cases hjR : j < R.length
      · have hrm := hRm _ (List.getElem_mem hjR)
        have hw1 := win_at R j hjR
        have hled := (led_A l R[j] hok (fun s hs => (List.mem_cons.1 hs).elim (fun h => by rw [h]; exact hh _ hrm) (hh s)) (by omega)).reid (id := 951) rfl
        have htf := take_flat (ledH l) R j hjR
        have hlj := hLs j
        have hlj2 := hLs (j + 1)
        have hta : (R.take (j + 1)).any (·.x) = ((R.take j).any (·.x) || R[j].x) := by rw [List.take_succ_eq_append_getElem hjR, List.any_append]; simp
        have hfl : ((ledH l R[j]).flatMap hopD).length = (ledH l R[j]).length * 2 := flat_len hopD_len _
        rw [htf, List.length_append] at hlj2
        obtain ⟨r, hr⟩ : ∃ r, R[j] = r := ⟨_, rfl⟩
        rw [hr] at hw1 hled htf hta hfl hlj2
        obtain ⟨b, hb⟩ : ∃ b, (R.take j).any (·.x) = b := ⟨_, rfl⟩
        rw [hb] at hta ⊢
        cases b with
        | true =>
          repeat (first | refine q_Z ?_ | ((first | apply O_y rfl rfl rfl | apply Q_y rfl rfl rfl); (first | exact q_A | exact R_loadi tabOk rfl rfl rfl rfl hw1 rfl rfl | exact q_B)) | refine q_d ?_ | refine q_a ?_ | refine q_b ?_ | refine q_c ?_ | refine A_ct rfl ?_ | refine A_cf rfl ?_ | refine q_W ?_)
          refine N_begin [10, 6] mixed ?_
          (apply q_P 0 rfl (by kernel_rfl) rfl rfl rfl; (first | exact q_A | exact q_5 | exact q_B | fail))
          (apply q_P 2 rfl (by kernel_rfl) rfl rfl rfl; (first | exact q_A | exact q_5 | exact q_B | fail))
          (apply q_P 3 rfl (by kernel_rfl) rfl rfl rfl; (first | exact q_A | exact q_5 | exact q_B | fail))
          refine N_two (j := 1) (k := 4) (by kernel_rfl) ?_ ?_
          · apply T_yield rfl rfl rfl rfl ((by first | exact q_7 | exact q_19))
            refine N_one (j := 4) (by kernel_rfl) ?_
            refine T_cRow rfl rfl rfl rfl rfl rfl hled rfl ?_
            refine N_one (j := 5) (by kernel_rfl) ?_
            refine T_appR tabOk rfl rfl rfl rfl rfl rfl rfl rfl rfl rfl rfl rfl (Src.row rfl) hfl (by omega) rfl ?_
            (apply q_P 6 rfl (by kernel_rfl) rfl rfl rfl; (first | exact q_A | exact q_5 | exact q_B | fail))
            refine N_one (j := 7) (by kernel_rfl) ?_
            refine T_store tabOk rfl rfl rfl rfl rfl rfl rfl rfl rfl rfl rfl rfl rfl ?_
            refine N_done (by kernel_rfl) ?_
            repeat (first | refine q_Z ?_ | ((first | apply O_y rfl rfl rfl | apply Q_y rfl rfl rfl); (first | exact q_A | exact q_5 | exact q_B)) | refine q_d ?_ | refine q_a ?_ | refine q_b ?_ | refine q_c ?_ | refine A_ct rfl ?_ | refine A_cf rfl ?_ | refine q_W ?_)
            exact ⟨j + 1, by omega, by omega, by (try dsimp only); exact Wk_selG (h1 := [(10, .var [.d (.sc (.int .u32 pa)), .d (.sc (.int .i64 pb)), .d (.sc (.bool ((R.take (j + 1)).any (·.x)))), .row 6]), (6, hopB ((R.take (j + 1)).flatMap (ledH l))), (1000, .var [.row 950]), (950, entRB Y), (90, gB (gX G))]) (G := famE Y 100) ⟨rfl, rfl, rfl, rfl, rfl, rfl, rfl, rfl, rfl, rfl, trivial⟩ ⟨by rw [hta]; rfl, row_eq (by rw [htf, List.length_append]) (by rw [htf, List.flatMap_append]) rfl, rfl, rfl, ((by show some _ = _; simp only [gX_kill, gX_fr, gX_kills])), trivial⟩ (look_famE (by omega) fun j b h1 h2 hx hb => by repeat (first | exact hb | refine fx_cons (by decide) h1 h2 ?_ | refine fx_killH (by decide) h1 h2 hx ?_ | refine fx_killHs (by decide) h1 h2 hx ?_ | refine fx_frH (by decide) h1 h2 hx ?_)) ⟩
          · refine T_cRow rfl rfl rfl rfl rfl rfl hled rfl ?_
            refine N_one (j := 1) (by kernel_rfl) ?_
            apply T_yield rfl rfl rfl rfl ((by first | exact q_7 | exact q_19))
            refine N_one (j := 5) (by kernel_rfl) ?_
            refine T_appR tabOk rfl rfl rfl rfl rfl rfl rfl rfl rfl rfl rfl rfl (Src.row rfl) hfl (by omega) rfl ?_
            (apply q_P 6 rfl (by kernel_rfl) rfl rfl rfl; (first | exact q_A | exact q_5 | exact q_B | fail))
            refine N_one (j := 7) (by kernel_rfl) ?_
            refine T_store tabOk rfl rfl rfl rfl rfl rfl rfl rfl rfl rfl rfl rfl rfl ?_
            refine N_done (by kernel_rfl) ?_
            repeat (first | refine q_Z ?_ | ((first | apply O_y rfl rfl rfl | apply Q_y rfl rfl rfl); (first | exact q_A | exact q_5 | exact q_B)) | refine q_d ?_ | refine q_a ?_ | refine q_b ?_ | refine q_c ?_ | refine A_ct rfl ?_ | refine A_cf rfl ?_ | refine q_W ?_)
            exact ⟨j + 1, by omega, by omega, by (try dsimp only); exact Wk_selG (h1 := [(10, .var [.d (.sc (.int .u32 pa)), .d (.sc (.int .i64 pb)), .d (.sc (.bool ((R.take (j + 1)).any (·.x)))), .row 6]), (6, hopB ((R.take (j + 1)).flatMap (ledH l))), (1000, .var [.row 950]), (950, entRB Y), (90, gB (gX G))]) (G := famE Y 100) ⟨rfl, rfl, rfl, rfl, rfl, rfl, rfl, rfl, rfl, rfl, trivial⟩ ⟨by rw [hta]; rfl, row_eq (by rw [htf, List.length_append]) (by rw [htf, List.flatMap_append]) rfl, rfl, rfl, ((by show some _ = _; simp only [gX_kill, gX_fr, gX_kills])), trivial⟩ (look_famE (by omega) fun j b h1 h2 hx hb => by repeat (first | exact hb | refine fx_cons (by decide) h1 h2 ?_ | refine fx_killH (by decide) h1 h2 hx ?_ | refine fx_killHs (by decide) h1 h2 hx ?_ | refine fx_frH (by decide) h1 h2 hx ?_)) ⟩
        | false =>
          repeat (first | refine q_Z ?_ | ((first | apply O_y rfl rfl rfl | apply Q_y rfl rfl rfl); (first | exact q_A | exact R_loadi tabOk rfl rfl rfl rfl hw1 rfl rfl | exact q_B)) | refine q_d ?_ | refine q_a ?_ | refine q_b ?_ | refine q_c ?_ | refine A_ct rfl ?_ | refine A_cf rfl ?_ | refine q_W ?_)
          refine N_begin [10, 6] mixed ?_
          (apply q_P 0 rfl (by kernel_rfl) rfl rfl rfl; (first | exact q_A | exact q_5 | exact q_B | fail))
          (apply q_P 2 rfl (by kernel_rfl) rfl rfl rfl; (first | exact q_A | exact q_5 | exact q_B | fail))
          (apply q_P 3 rfl (by kernel_rfl) rfl rfl rfl; (first | exact q_A | exact q_5 | exact q_B | fail))
          refine N_two (j := 1) (k := 4) (by kernel_rfl) ?_ ?_
          · apply T_yield rfl rfl rfl rfl ((by first | exact q_7 | exact q_19))
            refine N_one (j := 4) (by kernel_rfl) ?_
            refine T_cRow rfl rfl rfl rfl rfl rfl hled rfl ?_
            refine N_one (j := 5) (by kernel_rfl) ?_
            refine T_appR tabOk rfl rfl rfl rfl rfl rfl rfl rfl rfl rfl rfl rfl (Src.row rfl) hfl (by omega) rfl ?_
            (apply q_P 6 rfl (by kernel_rfl) rfl rfl rfl; (first | exact q_A | exact q_5 | exact q_B | fail))
            refine N_one (j := 7) (by kernel_rfl) ?_
            refine T_store tabOk rfl rfl rfl rfl rfl rfl rfl rfl rfl rfl rfl rfl rfl ?_
            refine N_done (by kernel_rfl) ?_
            repeat (first | refine q_Z ?_ | ((first | apply O_y rfl rfl rfl | apply Q_y rfl rfl rfl); (first | exact q_A | exact q_5 | exact q_B)) | refine q_d ?_ | refine q_a ?_ | refine q_b ?_ | refine q_c ?_ | refine A_ct rfl ?_ | refine A_cf rfl ?_ | refine q_W ?_)
            exact ⟨j + 1, by omega, by omega, by (try dsimp only); exact Wk_selG (h1 := [(10, .var [.d (.sc (.int .u32 pa)), .d (.sc (.int .i64 pb)), .d (.sc (.bool ((R.take (j + 1)).any (·.x)))), .row 6]), (6, hopB ((R.take (j + 1)).flatMap (ledH l))), (1000, .var [.row 950]), (950, entRB Y), (90, gB (gX G))]) (G := famE Y 100) ⟨rfl, rfl, rfl, rfl, rfl, rfl, rfl, rfl, rfl, rfl, trivial⟩ ⟨by rw [hta]; rfl, row_eq (by rw [htf, List.length_append]) (by rw [htf, List.flatMap_append]) rfl, rfl, rfl, ((by show some _ = _; simp only [gX_kill, gX_fr, gX_kills])), trivial⟩ (look_famE (by omega) fun j b h1 h2 hx hb => by repeat (first | exact hb | refine fx_cons (by decide) h1 h2 ?_ | refine fx_killH (by decide) h1 h2 hx ?_ | refine fx_killHs (by decide) h1 h2 hx ?_ | refine fx_frH (by decide) h1 h2 hx ?_)) ⟩
          · refine T_cRow rfl rfl rfl rfl rfl rfl hled rfl ?_
            refine N_one (j := 1) (by kernel_rfl) ?_
            apply T_yield rfl rfl rfl rfl ((by first | exact q_7 | exact q_19))
            refine N_one (j := 5) (by kernel_rfl) ?_
            refine T_appR tabOk rfl rfl rfl rfl rfl rfl rfl rfl rfl rfl rfl rfl (Src.row rfl) hfl (by omega) rfl ?_
            (apply q_P 6 rfl (by kernel_rfl) rfl rfl rfl; (first | exact q_A | exact q_5 | exact q_B | fail))
            refine N_one (j := 7) (by kernel_rfl) ?_
            refine T_store tabOk rfl rfl rfl rfl rfl rfl rfl rfl rfl rfl rfl rfl rfl ?_
            refine N_done (by kernel_rfl) ?_
            repeat (first | refine q_Z ?_ | ((first | apply O_y rfl rfl rfl | apply Q_y rfl rfl rfl); (first | exact q_A | exact q_5 | exact q_B)) | refine q_d ?_ | refine q_a ?_ | refine q_b ?_ | refine q_c ?_ | refine A_ct rfl ?_ | refine A_cf rfl ?_ | refine q_W ?_)
            exact ⟨j + 1, by omega, by omega, by (try dsimp only); exact Wk_selG (h1 := [(10, .var [.d (.sc (.int .u32 pa)), .d (.sc (.int .i64 pb)), .d (.sc (.bool ((R.take (j + 1)).any (·.x)))), .row 6]), (6, hopB ((R.take (j + 1)).flatMap (ledH l))), (1000, .var [.row 950]), (950, entRB Y), (90, gB (gX G))]) (G := famE Y 100) ⟨rfl, rfl, rfl, rfl, rfl, rfl, rfl, rfl, rfl, rfl, trivial⟩ ⟨by rw [hta]; rfl, row_eq (by rw [htf, List.length_append]) (by rw [htf, List.flatMap_append]) rfl, rfl, rfl, ((by show some _ = _; simp only [gX_kill, gX_fr, gX_kills])), trivial⟩ (look_famE (by omega) fun j b h1 h2 hx hb => by repeat (first | exact hb | refine fx_cons (by decide) h1 h2 ?_ | refine fx_killH (by decide) h1 h2 hx ?_ | refine fx_killHs (by decide) h1 h2 hx ?_ | refine fx_frH (by decide) h1 h2 hx ?_)) ⟩
      · have : j = R.length := by omega
        subst this
        have hlj := hLs R.length
        rw [List.take_length] at hlj ⊢
        have hso2 := fsorted_A (R.flatMap (ledH l)) (by omega)
        obtain ⟨hs, hhs⟩ : ∃ hs, sortU ordH (R.flatMap (ledH l)) = hs := ⟨_, rfl⟩
        rw [hhs] at hso2 hent
        obtain ⟨b, hb⟩ : ∃ b, R.any (·.x) = b := ⟨_, rfl⟩
        rw [hb] at hent ⊢
        cases b with
        | true =>
          rw [if_pos rfl] at hent
          rw [hent] at hFk
          rw [show liveE ⟨⟨pa, pb⟩, true, []⟩ = true from rfl, if_pos rfl] at hFk
          repeat (first | refine q_Z ?_ | ((first | apply O_y rfl rfl rfl | apply Q_y rfl rfl rfl); (first | exact q_A | exact q_5 | exact q_B)) | refine q_d ?_ | refine q_a ?_ | refine q_b ?_ | refine q_c ?_ | refine A_ct rfl ?_ | refine A_cf rfl ?_ | refine q_W ?_ | (refine O_cM rfl rfl rfl rfl rfl hso2 rfl (fun c hc => by simp at hc; subst hc; rfl) rfl rfl ?_))
          have hst := (entriesFnR_A (⟨⟨pa, pb⟩, true, []⟩ : Ent) none 0 Y (by omega)).mono fun c' h hq => (⟨_, rfl, hq.1, hq.2⟩ : ∃ a, a = (if liveE (⟨⟨pa, pb⟩, true, []⟩ : Ent) then Y ++ [⟨(⟨⟨pa, pb⟩, true, []⟩ : Ent), .slice none ((⟨⟨pa, pb⟩, true, []⟩ : Ent)).hs.length 0⟩] else Y) ∧ c' = .tup [] ∧ h = [(1000, .var [.row 950]), (950, entRB a)])
          refine O_cTV (α := List EntR) (h0 := [(1000, .var [.row 950]), (950, entRB Y)]) (C := fun _ => .tup []) (H1 := fun a => [(1000, .var [.row 950]), (950, entRB a)]) (Φ := fun a => a = (if liveE (⟨⟨pa, pb⟩, true, []⟩ : Ent) then Y ++ [⟨(⟨⟨pa, pb⟩, true, []⟩ : Ent), .slice none ((⟨⟨pa, pb⟩, true, []⟩ : Ent)).hs.length 0⟩] else Y)) [(1000, 1000)] [(950, 950)] 950 950 (fun p p' i h1 h2 => by rw [(look_one' h1).1, (look_one' h2).1]) (fun p i h1 => by rw [(look_one' h1).1]; exact ⟨Nat.le_refl _, rfl, fun _ => rfl⟩) (fun p i h1 => ⟨by rw [(look_one' h1).1]; omega, by rw [(look_one' h1).2]; omega, fun q hq => by have := (look_one' h1).2; have := (look_one' hq).2; omega⟩) (fun p p' i h1 h2 => by rw [(look_one' h1).1, (look_one' h2).1]) (by decide) (by decide) (by omega) rfl ⟨950, rfl⟩ hst rfl ⟨⟨1000, _, rfl, rfl, rfl, fun c hc => by simp at hc; subst hc; rfl⟩, ⟨950, _, rfl, rfl, rfl, trivial⟩, trivial⟩ rfl rfl rfl rfl rfl rfl rfl rfl ?_
          rintro a rfl
          repeat (first | refine q_Z ?_ | ((first | apply O_y rfl rfl rfl | apply Q_y rfl rfl rfl); (first | exact q_A | exact q_5 | exact q_B)) | refine q_d ?_ | refine q_a ?_ | refine q_b ?_ | refine q_c ?_ | refine A_ct rfl ?_ | refine A_cf rfl ?_ | refine q_W ?_)
          refine ⟨(k + 1, Y ++ [⟨⟨⟨pa, pb⟩, true, []⟩, .slice none 0 0⟩]), ⟨by dsimp only; omega, by dsimp only; rw [hFk, List.map_append, hYe]; rfl⟩, by dsimp only; omega, ?_⟩
          dsimp only
          exact (Wk_nilX (id := 6) 66 2 rfl).trans (Wk_toldR (by omega) ⟨rfl, rfl, rfl, rfl, rfl, rfl, trivial⟩ ⟨rfl, rfl, ((by show some _ = _; simp only [gX_kill, gX_fr, gX_kills])), trivial⟩ rfl (look_famE (by omega) fun j b h1 h2 hx hb => by repeat (first | exact hb | refine fx_cons (by decide) h1 h2 ?_ | refine fx_killH (by decide) h1 h2 hx ?_ | refine fx_killHs (by decide) h1 h2 hx ?_ | refine fx_frH (by decide) h1 h2 hx ?_)) )
        | false =>
          rw [if_neg (by simp)] at hent
          rw [hent] at hFk
          repeat (first | refine q_Z ?_ | ((first | apply O_y rfl rfl rfl | apply Q_y rfl rfl rfl); (first | exact q_A | exact q_5 | exact q_B)) | refine q_d ?_ | refine q_a ?_ | refine q_b ?_ | refine q_c ?_ | refine A_ct rfl ?_ | refine A_cf rfl ?_ | refine q_W ?_ | (refine O_cM rfl rfl rfl rfl rfl hso2 rfl (fun c hc => by simp at hc; subst hc; rfl) rfl rfl ?_))
          refine O_weakX (Wk_rawI (id := 6) rfl) fun bc => ?_
          obtain ⟨b0, c0⟩ := bc
          try dsimp only
          by_cases hlv : liveE ⟨⟨pa, pb⟩, false, hs⟩ = true
          · rw [if_pos hlv] at hFk
            have hst := (entriesFnR_A (⟨⟨pa, pb⟩, false, hs⟩ : Ent) b0 c0 Y (by omega)).mono fun c' h hq => (⟨_, rfl, hq.1, hq.2⟩ : ∃ a, a = (if liveE (⟨⟨pa, pb⟩, false, hs⟩ : Ent) then Y ++ [⟨(⟨⟨pa, pb⟩, false, hs⟩ : Ent), .slice b0 ((⟨⟨pa, pb⟩, false, hs⟩ : Ent)).hs.length c0⟩] else Y) ∧ c' = .tup [] ∧ h = [(1000, .var [.row 950]), (950, entRB a)])
            refine O_cTV (α := List EntR) (h0 := [(1000, .var [.row 950]), (950, entRB Y)]) (C := fun _ => .tup []) (H1 := fun a => [(1000, .var [.row 950]), (950, entRB a)]) (Φ := fun a => a = (if liveE (⟨⟨pa, pb⟩, false, hs⟩ : Ent) then Y ++ [⟨(⟨⟨pa, pb⟩, false, hs⟩ : Ent), .slice b0 ((⟨⟨pa, pb⟩, false, hs⟩ : Ent)).hs.length c0⟩] else Y)) [(1000, 1000)] [(950, 950)] 950 950 (fun p p' i h1 h2 => by rw [(look_one' h1).1, (look_one' h2).1]) (fun p i h1 => by rw [(look_one' h1).1]; exact ⟨Nat.le_refl _, rfl, fun _ => rfl⟩) (fun p i h1 => ⟨by rw [(look_one' h1).1]; omega, by rw [(look_one' h1).2]; omega, fun q hq => by have := (look_one' h1).2; have := (look_one' hq).2; omega⟩) (fun p p' i h1 h2 => by rw [(look_one' h1).1, (look_one' h2).1]) (by decide) (by decide) (by omega) rfl ⟨950, rfl⟩ hst rfl ⟨⟨1000, _, rfl, rfl, rfl, fun c hc => by simp at hc; subst hc; rfl⟩, ⟨950, _, rfl, rfl, rfl, trivial⟩, trivial⟩ rfl rfl rfl rfl rfl rfl rfl rfl ?_
            rintro a rfl
            repeat (first | refine q_Z ?_ | ((first | apply O_y rfl rfl rfl | apply Q_y rfl rfl rfl); (first | exact q_A | exact q_5 | exact q_B)) | refine q_d ?_ | refine q_a ?_ | refine q_b ?_ | refine q_c ?_ | refine A_ct rfl ?_ | refine A_cf rfl ?_ | refine q_W ?_)
            rw [if_pos hlv]
            refine ⟨(k + 1, Y ++ [⟨⟨⟨pa, pb⟩, false, hs⟩, .slice b0 hs.length c0⟩]), ⟨by dsimp only; omega, by dsimp only; rw [hFk, List.map_append, hYe]; rfl⟩, by dsimp only; omega, ?_⟩
            dsimp only
            exact Wk_toldR (by omega) ⟨rfl, rfl, rfl, rfl, rfl, rfl, trivial⟩ ⟨rfl, rfl, ((by show some _ = _; simp only [gX_kill, gX_fr, gX_kills])), trivial⟩ rfl (look_famE (by omega) fun j b h1 h2 hx hb => by repeat (first | exact hb | refine fx_cons (by decide) h1 h2 ?_ | refine fx_killH (by decide) h1 h2 hx ?_ | refine fx_killHs (by decide) h1 h2 hx ?_ | refine fx_frH (by decide) h1 h2 hx ?_))
          · rw [if_neg hlv] at hFk
            have hst := (entriesFnR_A (⟨⟨pa, pb⟩, false, hs⟩ : Ent) b0 c0 Y (by omega)).mono fun c' h hq => (⟨_, rfl, hq.1, hq.2⟩ : ∃ a, a = (if liveE (⟨⟨pa, pb⟩, false, hs⟩ : Ent) then Y ++ [⟨(⟨⟨pa, pb⟩, false, hs⟩ : Ent), .slice b0 ((⟨⟨pa, pb⟩, false, hs⟩ : Ent)).hs.length c0⟩] else Y) ∧ c' = .tup [] ∧ h = [(1000, .var [.row 950]), (950, entRB a)])
            refine O_cTV (α := List EntR) (h0 := [(1000, .var [.row 950]), (950, entRB Y)]) (C := fun _ => .tup []) (H1 := fun a => [(1000, .var [.row 950]), (950, entRB a)]) (Φ := fun a => a = (if liveE (⟨⟨pa, pb⟩, false, hs⟩ : Ent) then Y ++ [⟨(⟨⟨pa, pb⟩, false, hs⟩ : Ent), .slice b0 ((⟨⟨pa, pb⟩, false, hs⟩ : Ent)).hs.length c0⟩] else Y)) [(1000, 1000)] [(950, 950)] 950 950 (fun p p' i h1 h2 => by rw [(look_one' h1).1, (look_one' h2).1]) (fun p i h1 => by rw [(look_one' h1).1]; exact ⟨Nat.le_refl _, rfl, fun _ => rfl⟩) (fun p i h1 => ⟨by rw [(look_one' h1).1]; omega, by rw [(look_one' h1).2]; omega, fun q hq => by have := (look_one' h1).2; have := (look_one' hq).2; omega⟩) (fun p p' i h1 h2 => by rw [(look_one' h1).1, (look_one' h2).1]) (by decide) (by decide) (by omega) rfl ⟨950, rfl⟩ hst rfl ⟨⟨1000, _, rfl, rfl, rfl, fun c hc => by simp at hc; subst hc; rfl⟩, ⟨950, _, rfl, rfl, rfl, trivial⟩, trivial⟩ rfl rfl rfl rfl rfl rfl rfl rfl ?_
            rintro a rfl
            repeat (first | refine q_Z ?_ | ((first | apply O_y rfl rfl rfl | apply Q_y rfl rfl rfl); (first | exact q_A | exact q_5 | exact q_B)) | refine q_d ?_ | refine q_a ?_ | refine q_b ?_ | refine q_c ?_ | refine A_ct rfl ?_ | refine A_cf rfl ?_ | refine q_W ?_)
            rw [if_neg hlv]
            refine ⟨(k + 1, Y), ⟨by dsimp only; omega, by dsimp only; rw [hFk, hYe]⟩, by dsimp only; omega, ?_⟩
            dsimp only
            exact Wk_selG (h1 := trH Y G) (G := famE Y 100) ⟨rfl, rfl, rfl, rfl, rfl, rfl, trivial⟩ ⟨rfl, rfl, ((by show some _ = _; simp only [gX_kill, gX_fr, gX_kills])), trivial⟩ (look_famE (by omega) fun j b h1 h2 hx hb => by repeat (first | exact hb | refine fx_cons (by decide) h1 h2 ?_ | refine fx_killH (by decide) h1 h2 hx ?_ | refine fx_killHs (by decide) h1 h2 hx ?_ | refine fx_frH (by decide) h1 h2 hx ?_))
    · have : k = PS.length := by omega
      subst this
      repeat (first | refine q_Z ?_ | ((first | apply O_y rfl rfl rfl | apply Q_y rfl rfl rfl); (first | exact q_A | exact q_5 | exact q_B)) | refine q_d ?_ | refine q_a ?_ | refine q_b ?_ | refine q_c ?_ | refine A_ct rfl ?_ | refine A_cf rfl ?_ | refine q_W ?_)
      exact X_endW (Wk_selG (e1 := []) (h1 := [(1000, .var [.row 950]), (950, entRB Y)]) (G := famE Y 100) trivial ⟨rfl, rfl, trivial⟩ (look_famE (by omega) fun j b h1 h2 hx hb => by repeat (first | exact hb | refine fx_cons (by decide) h1 h2 ?_ | refine fx_killH (by decide) h1 h2 hx ?_ | refine fx_killHs (by decide) h1 h2 hx ?_ | refine fx_frH (by decide) h1 h2 hx ?_)) ) rfl (h2 := (1000, .var [.row 950]) :: (950, entRB Y) :: famE Y 100) ⟨rfl, rfl, sub_of_look (famE_nd Y 100) fun id b hb => fx_cons (by decide) (famE_in hb).1 (by have := (famE_in hb).2.1; omega) (fx_cons (by decide) (famE_in hb).1 (by have := (famE_in hb).2.1; omega) hb)⟩ ⟨Y, hYe, rfl, rfl⟩
end Go.Proofs.YtenolkolkpfjgaaGreat.Ab

namespace Go.Proofs.YtenolkolkpfjgaaGreat.Ab
set_option linter.unusedVariables false
set_option maxRecDepth 100000
open Go.RowKit Go.Lib
set_option linter.unusedSimpArgs false
attribute [local irreducible] AWp AOps AQ AYield AEff ACall AWk AAny AAt AThen AIn APost NoPanic
set_option maxHeartbeats 4000000 in
theorem entries_A (l : List Rte) (hok : ∀ s ∈ l, okR s) (hh : ∀ s ∈ l, 0 ≤ s.h ∧ s.h < 4294967296) (hn : l.length ≤ 200) :
    ACall Tryz.prog 5 [rtesA l] [] (fun c h => c = .row 950 ∧ h = [(950, entB (entsE l))]) := by
  have hst := (told_A 19 45 4 (fun a : List Ent => a.length) (fun a => a.flatMap entD) entStep [] (fun a x ha => entriesFn_A x a ha) (fun a x => by unfold entStep; split <;> simp) rfl l hok hh hn).mono fun c h hq => (⟨entsE l, rfl, hq.1, by rw [hq.2, entStep_fold]; rfl⟩ : ∃ a, a = entsE l ∧ c = .tup [] ∧ h = [(1000, .var [.row 950]), (950, entB a)])
  refine ACall_of tabOk Tryz.func5 rfl Tryz.ntmps5 (congrArg Array.toList Tryz.results5) (by kernel_rfl) rfl ?_
  repeat (first | refine q_Z ?_ | ((first | apply O_y rfl rfl rfl | apply Q_y rfl rfl rfl); (first | exact q_A | exact q_5 | exact q_B | (exact Y_makeFunc rfl rfl))) | refine q_d ?_ | refine q_a ?_ | refine q_b ?_ | refine q_c ?_ | refine A_ct rfl ?_ | refine A_cf rfl ?_ | refine q_W ?_)
  refine O_weaken (Wk_nilB (b := 3) (id := 950) 45 4 rfl rfl rfl) ?_
  refine O_weaken (Wk_sel (e1 := [(3, .ptr 3 0), (4, rtesA l), (5, .fn 19 [.ptr 3 0])]) (h1 := [(3, .var [.row 950]), (950, entB [])]) ⟨rfl, rfl, rfl, trivial⟩ ⟨rfl, rfl, trivial⟩) ?_
  refine O_cTV (C := fun _ => .tup []) (H1 := fun a => [(1000, .var [.row 950]), (950, entB a)]) (Φ := fun a => a = _) [(1000, 3)] [(950, 950)] 950 950 (fun p p' i h1 h2 => by rw [(look_one' h1).1, (look_one' h2).1]) (fun p i h1 => by rw [(look_one' h1).1]; exact ⟨Nat.le_refl _, rfl, fun _ => rfl⟩) (fun p i h1 => ⟨by rw [(look_one' h1).1]; omega, by rw [(look_one' h1).2]; omega, fun q hq => by have := (look_one' h1).2; have := (look_one' hq).2; omega⟩) (fun p p' i h1 h2 => by rw [(look_one' h1).1, (look_one' h2).1]) (by decide) (by decide) (by omega) rfl ⟨950, rfl⟩ hst rfl ⟨⟨3, _, rfl, rfl, rfl, fun c hc => by simp at hc; subst hc; rfl⟩, ⟨950, _, rfl, rfl, rfl, trivial⟩, trivial⟩ rfl rfl rfl rfl rfl rfl rfl rfl ?_
  rintro a rfl
  repeat (first | refine q_Z ?_ | ((first | apply O_y rfl rfl rfl | apply Q_y rfl rfl rfl); (first | exact q_A | exact q_5 | exact q_B)) | refine q_d ?_ | refine q_a ?_ | refine q_b ?_ | refine q_c ?_ | refine A_ct rfl ?_ | refine A_cf rfl ?_ | refine q_W ?_)
  exact X_retW AWk.refl rfl (h2 := [(950, entB (entsE l))]) ⟨rfl, trivial⟩ ⟨rfl, rfl⟩
set_option maxHeartbeats 4000000 in
theorem lost_A (l : List Rte) (hok : ∀ s ∈ l, okR s) (hh : ∀ s ∈ l, 0 ≤ s.h ∧ s.h < 4294967296) (hn : l.length ≤ 200) :
    ACall Tryz.prog 6 [rtesA l] [] (fun c h => c = .row 950 ∧ h = [(950, pfxB (lostE l))]) := by
  have hst := (told_A 20 39 2 (fun a : List Pfx => a.length) (fun a => a.flatMap pfxD) lostStep [] (fun a x ha => lostFn_A x a ha) (fun a x => by unfold lostStep; split <;> simp) rfl l hok hh hn).mono fun c h hq => (⟨lostE l, rfl, hq.1, by rw [hq.2, lostStep_fold]; rfl⟩ : ∃ a, a = lostE l ∧ c = .tup [] ∧ h = [(1000, .var [.row 950]), (950, pfxB a)])
  refine ACall_of tabOk Tryz.func6 rfl Tryz.ntmps6 (congrArg Array.toList Tryz.results6) (by kernel_rfl) rfl ?_
  repeat (first | refine q_Z ?_ | ((first | apply O_y rfl rfl rfl | apply Q_y rfl rfl rfl); (first | exact q_A | exact q_5 | exact q_B | (exact Y_makeFunc rfl rfl))) | refine q_d ?_ | refine q_a ?_ | refine q_b ?_ | refine q_c ?_ | refine A_ct rfl ?_ | refine A_cf rfl ?_ | refine q_W ?_)
  refine O_weaken (Wk_nilB (b := 3) (id := 950) 39 2 rfl rfl rfl) ?_
  refine O_weaken (Wk_sel (e1 := [(3, .ptr 3 0), (4, rtesA l), (5, .fn 20 [.ptr 3 0])]) (h1 := [(3, .var [.row 950]), (950, pfxB [])]) ⟨rfl, rfl, rfl, trivial⟩ ⟨rfl, rfl, trivial⟩) ?_
  refine O_cTV (C := fun _ => .tup []) (H1 := fun a => [(1000, .var [.row 950]), (950, pfxB a)]) (Φ := fun a => a = _) [(1000, 3)] [(950, 950)] 950 950 (fun p p' i h1 h2 => by rw [(look_one' h1).1, (look_one' h2).1]) (fun p i h1 => by rw [(look_one' h1).1]; exact ⟨Nat.le_refl _, rfl, fun _ => rfl⟩) (fun p i h1 => ⟨by rw [(look_one' h1).1]; omega, by rw [(look_one' h1).2]; omega, fun q hq => by have := (look_one' h1).2; have := (look_one' hq).2; omega⟩) (fun p p' i h1 h2 => by rw [(look_one' h1).1, (look_one' h2).1]) (by decide) (by decide) (by omega) rfl ⟨950, rfl⟩ hst rfl ⟨⟨3, _, rfl, rfl, rfl, fun c hc => by simp at hc; subst hc; rfl⟩, ⟨950, _, rfl, rfl, rfl, trivial⟩, trivial⟩ rfl rfl rfl rfl rfl rfl rfl rfl ?_
  rintro a rfl
  repeat (first | refine q_Z ?_ | ((first | apply O_y rfl rfl rfl | apply Q_y rfl rfl rfl); (first | exact q_A | exact q_5 | exact q_B)) | refine q_d ?_ | refine q_a ?_ | refine q_b ?_ | refine q_c ?_ | refine A_ct rfl ?_ | refine A_cf rfl ?_ | refine q_W ?_)
  exact X_retW AWk.refl rfl (h2 := [(950, pfxB (lostE l))]) ⟨rfl, trivial⟩ ⟨rfl, rfl⟩
end Go.Proofs.YtenolkolkpfjgaaGreat.Ab

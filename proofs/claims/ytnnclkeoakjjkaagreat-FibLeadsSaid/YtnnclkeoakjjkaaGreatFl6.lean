/-
  Texts of a proof, one behind the other (part 7).
-/
import Derived.Test.YtnnclkeoakjjkaaGreatFl5
set_option linter.unusedVariables false
set_option linter.unusedSimpArgs false
namespace Go.Proofs.YtnnclkeoakjjkaaGreat.Ab
set_option linter.unusedVariables false
set_option maxRecDepth 100000
open Go.RowKit Go.Lib
theorem nodup_le {α : Type} [DecidableEq α] : ∀ (V L : List α), V.Nodup → (∀ s ∈ V, s ∈ L) → V.length ≤ L.length
  | [], _, _, _ => Nat.zero_le _
  | a :: t, L, hn, h => by
    rw [List.nodup_cons] at hn
    have ha := h a (List.mem_cons_self ..)
    have h1 := nodup_le t (L.erase a) hn.2 fun s hs => (List.mem_erase_of_ne (by rintro rfl; exact hn.1 hs)).2 (h s (List.mem_cons_of_mem _ hs))
    rw [List.length_erase_of_mem ha] at h1
    have := List.length_pos_of_mem ha
    rw [List.length_cons]; omega
def wasL (V : List Rte) : List (Rte × Int) := V.map fun r => (r, 1)
theorem wasL_keys (V : List Rte) : (wasL V).map (·.1) = V := by unfold wasL; rw [List.map_map]; exact List.map_id _
theorem wasL_nd {V : List Rte} (h : V.Nodup) : ((wasL V).map (·.1)).Nodup := by rw [wasL_keys]; exact h
theorem wasL_in {V : List Rte} {r : Rte} (h : V.Nodup) (hr : r ∈ V) : Go.Proofs.YtnnclkeoakjjkaaGreat.aget (wasL V) r = some 1 := aget_of_mem (wasL_nd h) (List.mem_map.2 ⟨r, hr, rfl⟩)
theorem wasL_out {V : List Rte} {r : Rte} (hr : r ∉ V) : Go.Proofs.YtnnclkeoakjjkaaGreat.aget (wasL V) r = none := by
  cases h : Go.Proofs.YtnnclkeoakjjkaaGreat.aget (wasL V) r with
  | none => rfl
  | some v =>
    obtain ⟨q, hq, he⟩ := List.mem_map.1 (mem_of_aget h)
    cases he
    exact absurd hq hr
theorem wasL_snoc (V : List Rte) (r : Rte) : wasL (V ++ [r]) = wasL V ++ [(r, 1)] := by unfold wasL; rw [List.map_append]; rfl
theorem wasL_nd0 {V : List Rte} {r : Rte} (h : V.Nodup) (hr : r ∉ V) : ((wasL V ++ [(r, (0 : Int))]).map (·.1)).Nodup := by
  rw [List.map_append, wasL_keys, List.nodup_append]
  exact ⟨h, by simp, fun a ha b hb => by simp at hb; subst hb; rintro rfl; exact hr ha⟩
theorem wasL_in0 {V : List Rte} {r : Rte} (h : V.Nodup) (hr : r ∉ V) : Go.Proofs.YtnnclkeoakjjkaaGreat.aget (wasL V ++ [(r, (0 : Int))]) r = some 0 := aget_of_mem (wasL_nd0 h hr) (by simp)
theorem Led.empty {l : List Rte} {r s : Rte} (h : Led l r s) (hr : r.i = []) : s.i = [] := by
  cases h with
  | refl => exact hr
  | step _ _ ho => unfold onB at ho; simp at ho; exact ho.2
structure OnPre (l : List Rte) (r0 r : Rte) (V : List Rte) (O : List Hp) : Prop where
  hr : r ∉ V
  nd : V.Nodup
  emp : r.i = []
  empV : ∀ s ∈ V, s.i = []
  sub : ∀ s ∈ V, s = r0 ∨ s ∈ l
  me : r = r0 ∨ r ∈ l
  len : O.length ≤ V.length * 1000
theorem OnPre.room {l : List Rte} {r0 r : Rte} {V : List Rte} {O : List Hp} (B : OnPre l r0 r V O) {k : Nat} {V' : List Rte} {O' : List Hp} (W : Part l r V O k V' O') (hk : k ≤ 1000) (hl : l.length ≤ 1000) :
    O'.length ≤ V'.length * 1000 ∧ V'.length ≤ 1001 ∧ (∀ s ∈ V', s.i = []) ∧ ∀ s ∈ V', s = r0 ∨ s ∈ l := by
  have h1 := W.len
  have h2 := B.len
  have hs : ∀ s ∈ V', s = r0 ∨ s ∈ l := fun s hs => by
    rcases W.sub s hs with h | h | h
    · exact B.sub s h
    · rw [h]; exact B.me
    · exact .inr h
  have h3 := nodup_le V' (r0 :: l) W.nd fun s h => (hs s h).elim (fun h => by rw [h]; simp) (List.mem_cons_of_mem _)
  rw [List.length_cons] at h3
  refine ⟨by omega, by omega, fun s hs => ?_, hs⟩
  rcases W.new s hs with h | h
  · exact B.empV s h
  · exact h.empty B.emp
theorem OnPre.next {l : List Rte} {r0 r q : Rte} {V : List Rte} {O : List Hp} (B : OnPre l r0 r V O) {k : Nat} {V' : List Rte} {O' : List Hp} (W : Part l r V O k V' O') (hk : k ≤ 1000) (hl : l.length ≤ 1000) (hq : q ∉ V') (hi : q.i = []) (hm : q ∈ l) : OnPre l r0 q V' O' :=
  have h := B.room W hk hl
  ⟨hq, W.nd, hi, h.2.2.1, h.2.2.2, .inr hm, h.1⟩
abbrev onCaps : List AVal := [.ptr 1000 0, .ptr 1001 0, .ptr 1002 0, .ptr 1003 0]
def wasB (V : List Rte) : ABlk := .map (ents rteA intA (wasL V))
def onH (l V : List Rte) (O : List Hp) : Heap := [(1000, .var [.mp 1004]), (1001, .var [rtesA l]), (1002, .var [.fn 17 onCaps]), (1003, .var [.row 950]), (1004, wasB V), (950, hopB O)]
theorem kill_ents (id : Nat) (l : List (Rte × Int)) : killB id (.map (ents rteA intA l)) = .map (ents rteA intA l) := by
  show ABlk.map ((l.map fun p => (rteA p.1, intA p.2)).map fun p => (killV id p.1, killV id p.2)) = _
  rw [List.map_map]
  rfl
theorem kill_was (id : Nat) (V : List Rte) : some (killB id (wasB V)) = some (wasB V) := congrArg some (kill_ents id _)
theorem kill_was2 (i j : Nat) (V : List Rte) : some (killB i (killB j (wasB V))) = some (wasB V) := by
  rw [Option.some.inj (kill_was j V)]; exact kill_was i V
theorem kills_was (ids : List Nat) (V : List Rte) : some (killBs ids (wasB V)) = some (wasB V) := by
  show some (ABlk.map (((wasL V).map fun p => (rteA p.1, intA p.2)).map fun p => (killVs ids p.1, killVs ids p.2))) = _
  rw [List.map_map]
  have key : ∀ (r : Rte) (n : Int), (killVs ids (rteA r), killVs ids (intA n)) = (rteA r, intA n) := fun r n => by
    have h1 : hasAny ids (rteA r) = false := List.any_eq_false.2 fun x _ => by rw [show (rteA r).has x = false from rfl]; simp
    have h2 : hasAny ids (intA n) = false := List.any_eq_false.2 fun x _ => by rw [show (intA n).has x = false from rfl]; simp
    unfold killVs
    rw [h1, h2]; rfl
  show some (ABlk.map ((wasL V).map fun p => (killVs ids (rteA p.1), killVs ids (intA p.2)))) = _
  rw [List.map_congr_left fun p _ => key p.1 p.2]
  rfl
theorem fr_was (id : Nat) (d : Dat) (V : List Rte) : some (frB id d (wasB V)) = some (wasB V) := by
  show some (ABlk.map (((wasL V).map fun p => (rteA p.1, intA p.2)).map fun p => (frV id d p.1, frV id d p.2))) = _
  rw [List.map_map]
  rfl
theorem ren_was (ρ : List (Nat × Nat)) (V : List Rte) : renB ρ (wasB V) = wasB V := by
  show ABlk.map (((wasL V).map fun p => (rteA p.1, intA p.2)).map fun p => (renV ρ p.1, renV ρ p.2)) = _
  rw [List.map_map]
  rfl
theorem ok_was (ρ : List (Nat × Nat)) (V : List Rte) : okB ρ (wasB V) := fun p hp => by
  obtain ⟨q, _, rfl⟩ := List.mem_map.1 hp
  exact ⟨rfl, rfl⟩
theorem zeroInt (W : World) : (zeroValue 3).run Tryz.prog W = .ok (.int .i64 0) W := by
  have h : tlook tab 3 = some _ := rfl
  obtain ⟨z, h1, h2, i, h3, h4, _⟩ := (tabOk _ _ h).zero W
  have h5 : (Tryz.prog.info? 3).bind (·.zero) = some (.int .i64 0) := by kernel_rfl
  rw [h3] at h5
  simp only [Option.bind_some] at h5
  rw [h4] at h5
  cases h5
  exact h1
theorem A_cutF {P : Program} {nt : Nat} {Q : Post} {e : Env} {h : Heap} {z : Bool} {c y : Code} (E1 : Env) (H1 : Heap) (h1 : AWp z P nt c (AThen (fun e' h' => AWk nt e' h' E1 H1) RF) e h) (h2 : AWp z P nt y Q E1 H1) : AWp z P nt c (AThen (AWp z P nt y Q) Q) e h :=
  h1.mono fun ex e h hq => by
    cases ex with
    | normal => exact A_weaken hq h2
    | _ => exact False.elim hq
theorem look_same : ∀ (ρ : List (Nat × Nat)), (∀ x ∈ ρ, x.1 = x.2) → ∀ p i, look ρ p = some i → p = i ∧ p ∈ ρ.map (·.1)
  | [], _, p, i, h => by cases h
  | (a, b) :: r, hs, p, i, h => by
    by_cases ha : a = p
    · subst ha
      rw [look_cons_same] at h
      cases h
      exact ⟨hs (a, b) (List.mem_cons_self ..), by simp⟩
    · rw [look_cons_ne _ _ ha] at h
      have := look_same r (fun x hx => hs x (List.mem_cons_of_mem _ hx)) p i h
      exact ⟨this.1, List.mem_cons_of_mem _ this.2⟩
abbrev onRho : List (Nat × Nat) := [(1000, 1000), (1001, 1001), (1002, 1002), (1003, 1003), (1004, 1004)]
abbrev onNu : List (Nat × Nat) := [(950, 950)]
theorem onRho_same (p i : Nat) (h : look onRho p = some i) : p = i ∧ p ∈ onRho.map (·.1) := look_same _ (by simp) p i h
theorem onNu_same (p i : Nat) (h : look onNu p = some i) : p = i ∧ p ∈ onNu.map (·.1) := look_same _ (by simp) p i h
theorem onRho_inj (p p' i : Nat) (h1 : look onRho p = some i) (h2 : look onRho p' = some i) : p = p' := by rw [(onRho_same p i h1).1, (onRho_same p' i h2).1]
theorem onNu_inj (p p' i : Nat) (h1 : look onNu p = some i) (h2 : look onNu p' = some i) : p = p' := by rw [(onNu_same p i h1).1, (onNu_same p' i h2).1]
theorem onRho_dom (l V : List Rte) (O : List Hp) (p i : Nat) (h : look onRho p = some i) : 1000 ≤ p ∧ (look (onH l V O) p).isSome = true ∧ ∀ x : List Rte × List Hp, (look (onH l x.1 x.2) p).isSome = true := by
  have hm := (onRho_same p i h).2
  simp at hm
  rcases hm with rfl | rfl | rfl | rfl | rfl <;> exact ⟨by omega, rfl, fun _ => rfl⟩
theorem onNu_ok (p i : Nat) (h : look onNu p = some i) : p < 1000 ∧ i < 1000 ∧ ∀ q, look onRho q ≠ some i := by
  obtain ⟨h1, h2⟩ := onNu_same p i h
  simp at h2
  subst h1
  refine ⟨by omega, by omega, fun q hq => ?_⟩
  obtain ⟨h3, h4⟩ := onRho_same q p hq
  simp at h4
  omega
theorem frk_was (id : Nat) (d : Dat) (ids : List Nat) (V : List Rte) : some (frB id d (killBs ids (wasB V))) = some (wasB V) := by
  rw [Option.some.inj (kills_was ids V)]; exact fr_was id d V
theorem renk_was (ρ : List (Nat × Nat)) (V : List Rte) : some (renB ρ (wasB V)) = some (wasB V) := congrArg some (ren_was ρ V)
theorem was_snoc (V : List Rte) (r : Rte) : some (ABlk.map (ents rteA intA (wasL V ++ [(r, (1 : Int))]))) = some (wasB (V ++ [r])) := by unfold wasB; rw [wasL_snoc]
set_option linter.unusedSimpArgs false
attribute [local irreducible] AWp AOps AQ AYield AEff ACall AWk AAny AAt AThen AIn APost NoPanic
abbrev onE : Env := [(1, .ptr 1000 0), (2, .ptr 1001 0), (3, .ptr 1002 0), (4, .ptr 1003 0)]
def onPost (l : List Rte) (r : Rte) (V : List Rte) (O : List Hp) : AVal → Heap → Prop := fun c h => ∃ x : List Rte × List Hp, Walk l r V O x.1 x.2 ∧ c = .tup [] ∧ h = onH l x.1 x.2
set_option maxHeartbeats 16000000 in
theorem on_A (l : List Rte) (r0 : Rte) (hok : ∀ r ∈ l, okR r) (hh : ∀ r ∈ r0 :: l, 0 ≤ r.h ∧ r.h < 4294967296) (hn : l.length ≤ 1000) (n : Nat) : ∀ (r : Rte) (V : List Rte) (O : List Hp), OnPre l r0 r V O → leftN l (V ++ [r]) ≤ n →
    ACall Tryz.prog 17 (rteA r :: onCaps) (onH l V O) (onPost l r V O) := by
  induction n using Nat.strongRecOn with
  | _ n ih =>
  intro r V O B hle
  have hrm : r ∈ r0 :: l := B.me.elim (fun h => by rw [h]; simp) (List.mem_cons_of_mem _)
  have hr0 := (hh r hrm).1
  have hr1 := (hh r hrm).2
  have hlong := (ribLongest_A l hok (by omega) r.h hr0 hr1).reid (id := 951) rfl
  have hNl : (longL l r.h).length ≤ 1000 := Nat.le_trans (Nat.le_trans (sortU_len _) (List.length_filter_le _ _)) hn
  have hout := wasL_out B.hr
  have hnd := wasL_nd B.nd
  have hin0 := wasL_in0 B.nd B.hr
  have hnd0 := wasL_nd0 B.nd B.hr
  have hzero := Part.zero (l := l) (O := O) B.hr B.nd
  refine ACall_of tabOk Tryz.func17 rfl Tryz.ntmps17 (congrArg Array.toList Tryz.results17) (by kernel_rfl) rfl ?_
  repeat (first | refine A_seq ?_ | refine A_block ?_ | refine R_list ?_ | ((first | apply O_y rfl rfl rfl | apply Q_y rfl rfl rfl); (first | exact q_1 | exact q_2 | exact q_3 | exact q_4 | exact q_5 | exact q_6 | exact q_7 | exact q_8 | exact q_9 | exact q_10 | exact q_11 | exact q_12 | exact q_13 | exact q_14 | exact q_15 | exact q_16 | exact q_17 | exact q_18 | exact q_19 | exact q_20 | exact q_21 | exact q_22 | exact q_23 | exact q_24 | fail)) | refine O_nil ?_ | refine Q_nil ?_ | refine q_j ?_ | refine q_k ?_ | refine q_d ?_ | refine q_a ?_ | refine q_b ?_ | refine q_c ?_ | refine A_ct rfl ?_ | refine A_cf rfl ?_ | refine A_skip ?_ | refine A_exit ?_ | refine A_ret ?_ | refine q_l ?_ | refine q_m ?_ | refine q_n ?_ | refine q_h ?_ | refine q_o ?_ | refine q_e ?_ | refine q_f ?_ | refine q_g ?_ | fail)
  refine A_weaken (Wk_sel (e1 := (5, .ptr 5 0) :: onE) (h1 := (5, rteB1 r) :: onH l V O) ⟨rfl, rfl, rfl, rfl, rfl, trivial⟩ ⟨rfl, rfl, rfl, rfl, rfl, kill_was 5 V, rfl, trivial⟩) ?_
  refine A_cutF ((5, .ptr 5 0) :: onE) ((5, rteB1 r) :: onH l (V ++ [r]) O) ?_ ?_
  · refine N_begin [1004] mixed ?_
    (apply q_P 0 rfl (by kernel_rfl) rfl rfl rfl; (first | exact q_1 | exact q_2 | exact q_3 | exact q_4 | exact q_5 | exact q_6 | exact q_7 | exact q_8 | exact q_9 | exact q_10 | exact q_11 | exact q_12 | exact q_13 | exact q_14 | exact q_15 | exact q_16 | exact q_17 | exact q_18 | exact q_19 | exact q_20 | exact q_21 | exact q_22 | exact q_23 | exact q_24 | fail))
    (apply q_P 1 rfl (by kernel_rfl) rfl rfl rfl; (first | exact q_1 | exact q_2 | exact q_3 | exact q_4 | exact q_5 | exact q_6 | exact q_7 | exact q_8 | exact q_9 | exact q_10 | exact q_11 | exact q_12 | exact q_13 | exact q_14 | exact q_15 | exact q_16 | exact q_17 | exact q_18 | exact q_19 | exact q_20 | exact q_21 | exact q_22 | exact q_23 | exact q_24 | fail))
    refine N_two (j := 2) (k := 4) (by kernel_rfl) ?_ ?_
    · refine T_yield rfl rfl rfl rfl (R_lk0 (intA 0) (fun _ _ _ => sc_rel rfl) rteKey rteW_val zeroInt trivial (fun _ _ => trivial) hnd hout tabOk rfl rfl rfl rfl rfl rfl) ?_
      (apply q_P 3 rfl (by kernel_rfl) rfl rfl rfl; (first | exact q_1 | exact q_2 | exact q_3 | exact q_4 | exact q_5 | exact q_6 | exact q_7 | exact q_8 | exact q_9 | exact q_10 | exact q_11 | exact q_12 | exact q_13 | exact q_14 | exact q_15 | exact q_16 | exact q_17 | exact q_18 | exact q_19 | exact q_20 | exact q_21 | exact q_22 | exact q_23 | exact q_24 | fail))
      refine N_one (j := 4) (by kernel_rfl) ?_
      refine T_mapEntry0 (xa := intA) (z := (0 : Int)) rteKey rteW_val rteW_rel zeroInt (fun _ _ _ => sc_rel rfl) trivial (fun _ _ => trivial) hnd hout tabOk rfl rfl rfl rfl rfl rfl rfl rfl rfl rfl fun br bbs bb bc hbl => ?_
      (apply q_P 5 rfl (by kernel_rfl) rfl rfl rfl; (first | exact q_1 | exact q_2 | exact q_3 | exact q_4 | exact q_5 | exact q_6 | exact q_7 | exact q_8 | exact q_9 | exact q_10 | exact q_11 | exact q_12 | exact q_13 | exact q_14 | exact q_15 | exact q_16 | exact q_17 | exact q_18 | exact q_19 | exact q_20 | exact q_21 | exact q_22 | exact q_23 | exact q_24 | fail))
      refine N_one (j := 6) (by kernel_rfl) ?_
      refine T_entryStore0 (z' := (1 : Int)) hbl rfl rfl rfl rfl rfl rfl rfl rfl rfl ?_
      refine N_done (by kernel_rfl) ?_
      refine q_j ?_
      exact Wk_sel ⟨rfl, rfl, rfl, rfl, rfl, trivial⟩ ⟨rfl, rfl, rfl, rfl, rfl, was_snoc V r, rfl, trivial⟩
    · refine T_mapEntry0 (xa := intA) (z := (0 : Int)) rteKey rteW_val rteW_rel zeroInt (fun _ _ _ => sc_rel rfl) trivial (fun _ _ => trivial) hnd hout tabOk rfl rfl rfl rfl rfl rfl rfl rfl rfl rfl fun br bbs bb bc hbl => ?_
      (apply q_P 5 rfl (by kernel_rfl) rfl rfl rfl; (first | exact q_1 | exact q_2 | exact q_3 | exact q_4 | exact q_5 | exact q_6 | exact q_7 | exact q_8 | exact q_9 | exact q_10 | exact q_11 | exact q_12 | exact q_13 | exact q_14 | exact q_15 | exact q_16 | exact q_17 | exact q_18 | exact q_19 | exact q_20 | exact q_21 | exact q_22 | exact q_23 | exact q_24 | fail))
      refine N_one (j := 2) (by kernel_rfl) ?_
      refine T_yield rfl rfl rfl rfl (R_lk1x rteKey rteW_val zeroInt trivial (fun _ _ => trivial) hnd0 hin0 tabOk rfl rfl rfl rfl rfl rfl) ?_
      (apply q_P 3 rfl (by kernel_rfl) rfl rfl rfl; (first | exact q_1 | exact q_2 | exact q_3 | exact q_4 | exact q_5 | exact q_6 | exact q_7 | exact q_8 | exact q_9 | exact q_10 | exact q_11 | exact q_12 | exact q_13 | exact q_14 | exact q_15 | exact q_16 | exact q_17 | exact q_18 | exact q_19 | exact q_20 | exact q_21 | exact q_22 | exact q_23 | exact q_24 | fail))
      refine N_one (j := 6) (by kernel_rfl) ?_
      refine T_entryStore0 (z' := (1 : Int)) hbl rfl rfl rfl rfl rfl rfl rfl rfl rfl ?_
      refine N_done (by kernel_rfl) ?_
      refine q_j ?_
      exact Wk_sel ⟨rfl, rfl, rfl, rfl, rfl, trivial⟩ ⟨rfl, rfl, rfl, rfl, rfl, was_snoc V r, rfl, trivial⟩
  ·
    repeat (first | refine A_seq ?_ | refine A_block ?_ | refine R_list ?_ | ((first | apply O_y rfl rfl rfl | apply Q_y rfl rfl rfl); (first | exact q_1 | exact q_2 | exact q_3 | exact q_4 | exact q_5 | exact q_6 | exact q_7 | exact q_8 | exact q_9 | exact q_10 | exact q_11 | exact q_12 | exact q_13 | exact q_14 | exact q_15 | exact q_16 | exact q_17 | exact q_18 | exact q_19 | exact q_20 | exact q_21 | exact q_22 | exact q_23 | exact q_24 | fail)) | refine O_nil ?_ | refine Q_nil ?_ | refine q_j ?_ | refine q_k ?_ | refine q_d ?_ | refine q_a ?_ | refine q_b ?_ | refine q_c ?_ | refine A_ct rfl ?_ | refine A_cf rfl ?_ | refine A_skip ?_ | refine A_exit ?_ | refine A_ret ?_ | refine q_l ?_ | refine q_m ?_ | refine q_n ?_ | refine q_h ?_ | refine q_o ?_ | refine q_e ?_ | refine q_f ?_ | refine q_g ?_ | fail)
    refine O_cRow rfl rfl rfl rfl rfl hlong rfl ?_
    refine O_weaken (Wk_freeze (id := 951) rfl) ?_
    obtain ⟨N, hN⟩ : ∃ N, longL l r.h = N := ⟨_, rfl⟩
    rw [hN] at hNl
    refine O_weaken (Wk_sel (e1 := (5, .ptr 5 0) :: (17, rtesA N) :: onE) (h1 := (5, rteB1 r) :: onH l (V ++ [r]) O) ⟨rfl, by rw [← hN]; rfl, rfl, rfl, rfl, rfl, trivial⟩ ⟨rfl, rfl, rfl, rfl, rfl, frk_was 951 _ _ _, rfl, trivial⟩) ?_
    repeat (first | refine A_seq ?_ | refine A_block ?_ | refine R_list ?_ | ((first | apply O_y rfl rfl rfl | apply Q_y rfl rfl rfl); (first | exact q_1 | exact q_2 | exact q_3 | exact q_4 | exact q_5 | exact q_6 | exact q_7 | exact q_8 | exact q_9 | exact q_10 | exact q_11 | exact q_12 | exact q_13 | exact q_14 | exact q_15 | exact q_16 | exact q_17 | exact q_18 | exact q_19 | exact q_20 | exact q_21 | exact q_22 | exact q_23 | exact q_24 | fail)) | refine O_nil ?_ | refine Q_nil ?_ | refine q_j ?_ | refine q_k ?_ | refine q_d ?_ | refine q_a ?_ | refine q_b ?_ | refine q_c ?_ | refine A_ct rfl ?_ | refine A_cf rfl ?_ | refine A_skip ?_ | refine A_exit ?_ | refine A_ret ?_ | refine q_l ?_ | refine q_m ?_ | refine q_n ?_ | refine q_h ?_ | refine q_o ?_ | refine q_e ?_ | refine q_f ?_ | refine q_g ?_ | fail)
    refine A_loop (fun x : Nat × List Rte × List Hp => (5, .ptr 5 0) :: (17, rtesA N) :: (18, intA (N.length : Int)) :: (19, intA (x.1 : Int)) :: onE) (fun x => (5, rteB1 r) :: onH l x.2.1 x.2.2) (fun x => x.1 ≤ N.length ∧ Part l r V O x.1 x.2.1 x.2.2) (fun x => N.length - x.1) (0, V ++ [r], O) ⟨Nat.zero_le _, hzero⟩ (Wk_sel ⟨rfl, rfl, rfl, rfl, rfl, rfl, rfl, rfl, trivial⟩ ⟨rfl, rfl, rfl, rfl, rfl, rfl, rfl, trivial⟩) ?_
    rintro ⟨k, V', O'⟩ ⟨hk, W⟩
    dsimp only at hk W ⊢
    obtain ⟨b1, b2, b3, b4⟩ := B.room W (by omega) hn
    have hnd' := wasL_nd W.nd
    by_cases hkN : k < N.length
    · have hkL : k < (longL l r.h).length := by rw [hN]; exact hkN
      have hqe : (longL l r.h)[k] = N[k] := by simp only [hN]
      have hqm : N[k] ∈ l := by rw [← hqe]; exact longL_sub (List.getElem_mem hkL)
      have hw0 := win_at N k hkN
      have hskip := W.skip hkL
      have hgo := W.go hkL
      have hon := fun V2 O2 => W.on (V2 := V2) (O2 := O2) hkL
      rw [hqe] at hskip hgo hon
      obtain ⟨q, hq⟩ : ∃ q, N[k] = q := ⟨_, rfl⟩
      rw [hq] at hskip hgo hon hw0 hqm
      cases hx : q.x with
      | true =>
        have hP := hskip (fun h => by unfold onB at h; rw [hx] at h; cases h) (by unfold outB; rw [hx]; rfl)
        rw [show rteD q = [.sc (.int .u32 q.p.a), .sc (.int .i64 q.p.b), .sc (.int .u8 q.f), .sc (.int .i64 q.d), .sc (.int .i64 q.m), .sc (.int .i64 q.t), .sc (.string ⟨⟨q.i⟩⟩), .sc (.int .u32 q.h), .sc (.bool true)] by unfold rteD; rw [hx]] at hw0
        repeat (first | refine A_seq ?_ | refine A_block ?_ | refine R_list ?_ | ((first | apply O_y rfl rfl rfl | apply Q_y rfl rfl rfl); (first | exact q_1 | exact q_2 | exact q_3 | exact q_4 | exact R_loadi tabOk rfl rfl rfl rfl hw0 rfl rfl | exact q_6 | exact q_7 | exact q_8 | exact q_9 | exact q_10 | exact q_11 | exact q_12 | exact q_13 | exact q_14 | exact q_15 | exact q_16 | exact q_17 | exact q_18 | exact q_19 | exact q_20 | exact q_21 | exact q_22 | exact q_23 | exact q_24 | fail)) | refine O_nil ?_ | refine Q_nil ?_ | refine q_j ?_ | refine q_k ?_ | refine q_d ?_ | refine q_a ?_ | refine q_b ?_ | refine q_c ?_ | refine A_ct rfl ?_ | refine A_cf rfl ?_ | refine A_skip ?_ | refine A_exit ?_ | refine A_ret ?_ | refine q_l ?_ | refine q_m ?_ | refine q_n ?_ | refine q_h ?_ | refine q_o ?_ | refine q_e ?_ | refine q_f ?_ | refine q_g ?_ | fail)
        exact ⟨(k + 1, V', O'), ⟨by dsimp only; omega, hP⟩, by dsimp only; omega, Wk_sel ⟨rfl, rfl, rfl, rfl, rfl, rfl, rfl, rfl, trivial⟩ ⟨rfl, rfl, rfl, rfl, rfl, kill_was 7 V', rfl, trivial⟩⟩
      | false =>
        rw [show rteD q = [.sc (.int .u32 q.p.a), .sc (.int .i64 q.p.b), .sc (.int .u8 q.f), .sc (.int .i64 q.d), .sc (.int .i64 q.m), .sc (.int .i64 q.t), .sc (.string ⟨⟨q.i⟩⟩), .sc (.int .u32 q.h), .sc (.bool false)] by unfold rteD; rw [hx]] at hw0
        have hrte : AVal.agg [.d (.sc (.int .u32 q.p.a)), .d (.sc (.int .i64 q.p.b)), .d (.sc (.int .u8 q.f)), .d (.sc (.int .i64 q.d)), .d (.sc (.int .i64 q.m)), .d (.sc (.int .i64 q.t)), .d (.sc (.string ⟨⟨q.i⟩⟩)), .d (.sc (.int .u32 q.h)), .d (.sc (.bool false))] = rteA q := by unfold rteA; rw [hx]
        repeat (first | refine A_seq ?_ | refine A_block ?_ | refine R_list ?_ | ((first | apply O_y rfl rfl rfl | apply Q_y rfl rfl rfl); (first | exact q_1 | exact q_2 | exact q_3 | exact q_4 | exact R_loadi tabOk rfl rfl rfl rfl hw0 rfl rfl | exact q_6 | exact q_7 | exact q_8 | exact q_9 | exact q_10 | exact q_11 | exact q_12 | exact q_13 | exact q_14 | exact q_15 | exact q_16 | exact q_17 | exact q_18 | exact q_19 | exact q_20 | exact q_21 | exact q_22 | exact q_23 | exact q_24 | fail)) | refine O_nil ?_ | refine Q_nil ?_ | refine q_j ?_ | refine q_k ?_ | refine q_d ?_ | refine q_a ?_ | refine q_b ?_ | refine q_c ?_ | refine A_ct rfl ?_ | refine A_cf rfl ?_ | refine A_skip ?_ | refine A_exit ?_ | refine A_ret ?_ | refine q_l ?_ | refine q_m ?_ | refine q_n ?_ | refine q_h ?_ | refine q_o ?_ | refine q_e ?_ | refine q_f ?_ | refine q_g ?_ | fail)
        refine O_weaken (Wk_sel (e1 := (34, boolA false) :: (35, .mp 1004) :: (36, rteA q) :: (5, .ptr 5 0) :: (7, .ptr 7 0) :: (17, rtesA N) :: (18, intA (N.length : Int)) :: (19, intA (k : Int)) :: onE) (h1 := (7, rteB1 q) :: (5, rteB1 r) :: onH l V' O') ⟨rfl, rfl, congrArg some hrte, rfl, rfl, rfl, rfl, rfl, rfl, rfl, rfl, rfl, trivial⟩ ⟨by unfold rteB1 rteD; rw [hx]; rfl, rfl, rfl, rfl, rfl, rfl, kill_was 7 V', rfl, trivial⟩) ?_
        by_cases hV : q ∈ V'
        · have hP := hskip (fun _ => hV) (by unfold outB; rw [b3 q hV]; simp)
          have hin := wasL_in W.nd hV
          repeat (first | refine A_seq ?_ | refine A_block ?_ | refine R_list ?_ | ((first | apply O_y rfl rfl rfl | apply Q_y rfl rfl rfl); (first | exact q_1 | exact q_2 | exact q_3 | exact q_4 | exact q_5 | exact q_6 | exact q_7 | exact q_8 | exact q_9 | exact q_10 | exact q_11 | exact q_12 | exact q_13 | exact q_14 | exact q_15 | exact q_16 | exact q_17 | exact q_18 | exact q_19 | exact q_20 | exact q_21 | exact q_22 | exact q_23 | exact q_24 | (exact R_lk1 rteKey rteW_val zeroInt trivial (fun _ _ => trivial) hnd' hin tabOk rfl rfl rfl rfl rfl rfl))) | refine O_nil ?_ | refine Q_nil ?_ | refine q_j ?_ | refine q_k ?_ | refine q_d ?_ | refine q_a ?_ | refine q_b ?_ | refine q_c ?_ | refine A_ct rfl ?_ | refine A_cf rfl ?_ | refine A_skip ?_ | refine A_exit ?_ | refine A_ret ?_ | refine q_l ?_ | refine q_m ?_ | refine q_n ?_ | refine q_h ?_ | refine q_o ?_ | refine q_e ?_ | refine q_f ?_ | refine q_g ?_ | fail)
          exact ⟨(k + 1, V', O'), ⟨by dsimp only; omega, hP⟩, by dsimp only; omega, Wk_sel ⟨rfl, rfl, rfl, rfl, rfl, rfl, rfl, rfl, trivial⟩ ⟨rfl, rfl, rfl, rfl, rfl, rfl, rfl, trivial⟩⟩
        · have hout' := wasL_out hV
          by_cases hi : q.i = []
          · have hob : onB q = true := by unfold onB; rw [hx, decide_eq_true hi]; rfl
            have B2 := B.next W (by omega) hn hV hi hqm
            have hlt : leftN l (V' ++ [q]) < n := Nat.lt_of_lt_of_le (leftN_lt hqm hV) (Nat.le_trans (leftN_le fun s hs => (List.mem_append.1 hs).elim (W.old s) fun h => by rw [List.mem_singleton.1 h]; exact W.me) hle)
            have hrec := ih _ hlt q V' O' B2 (Nat.le_refl _)
            repeat (first | refine A_seq ?_ | refine A_block ?_ | refine R_list ?_ | ((first | apply O_y rfl rfl rfl | apply Q_y rfl rfl rfl); (first | exact q_1 | exact q_2 | exact q_3 | exact q_4 | exact q_5 | exact q_6 | exact q_7 | exact q_8 | exact q_9 | exact q_10 | exact q_11 | exact q_12 | exact q_13 | exact q_14 | exact q_15 | exact q_16 | exact q_17 | exact q_18 | exact q_19 | exact q_20 | exact q_21 | exact q_22 | exact q_23 | exact q_24 | (first | exact R_lk0 (intA 0) (fun _ _ _ => sc_rel rfl) rteKey rteW_val zeroInt trivial (fun _ _ => trivial) hnd' hout' tabOk rfl rfl rfl rfl rfl rfl | exact R_sT rfl rfl rfl rfl (decide_eq_true hi)))) | refine O_nil ?_ | refine Q_nil ?_ | refine q_j ?_ | refine q_k ?_ | refine q_d ?_ | refine q_a ?_ | refine q_b ?_ | refine q_c ?_ | refine A_ct rfl ?_ | refine A_cf rfl ?_ | refine A_skip ?_ | refine A_exit ?_ | refine A_ret ?_ | refine q_l ?_ | refine q_m ?_ | refine q_n ?_ | refine q_h ?_ | refine q_o ?_ | refine q_e ?_ | refine q_f ?_ | refine q_g ?_ | fail)
            refine O_cTV (α := List Rte × List Hp) (C := fun _ => .tup []) (H1 := fun x => onH l x.1 x.2) (Φ := fun x => Walk l q V' O' x.1 x.2) onRho onNu 950 950 onRho_inj (onRho_dom l V' O') onNu_ok onNu_inj (by decide) (by decide) (by omega) rfl ⟨950, rfl⟩ hrec rfl ⟨⟨1000, _, rfl, rfl, rfl, fun c hc => by simp at hc; subst hc; rfl⟩, ⟨1001, _, rfl, rfl, rfl, fun c hc => by simp at hc; subst hc; rfl⟩, ⟨1002, _, rfl, rfl, rfl, fun c hc => by simp at hc; subst hc; rfl⟩, ⟨1003, _, rfl, rfl, rfl, fun c hc => by simp at hc; subst hc; rfl⟩, ⟨1004, _, rfl, rfl, ren_was _ V', ok_was _ V'⟩, ⟨950, _, rfl, rfl, rfl, trivial⟩, trivial⟩ rfl rfl rfl rfl rfl rfl rfl rfl ?_
            rintro ⟨V2, O2⟩ W2
            dsimp only at W2 ⊢
            have hP := hon V2 O2 hob W2
            refine O_weaken (Wk_sel (e1 := (5, .ptr 5 0) :: (17, rtesA N) :: (18, intA (N.length : Int)) :: (19, intA (k : Int)) :: onE) (h1 := (5, rteB1 r) :: onH l V2 O2) ⟨rfl, rfl, rfl, rfl, rfl, rfl, rfl, rfl, trivial⟩ ⟨rfl, rfl, rfl, rfl, rfl, renk_was _ V2, rfl, trivial⟩) ?_
            repeat (first | refine A_seq ?_ | refine A_block ?_ | refine R_list ?_ | ((first | apply O_y rfl rfl rfl | apply Q_y rfl rfl rfl); (first | exact q_1 | exact q_2 | exact q_3 | exact q_4 | exact q_5 | exact q_6 | exact q_7 | exact q_8 | exact q_9 | exact q_10 | exact q_11 | exact q_12 | exact q_13 | exact q_14 | exact q_15 | exact q_16 | exact q_17 | exact q_18 | exact q_19 | exact q_20 | exact q_21 | exact q_22 | exact q_23 | exact q_24 | fail)) | refine O_nil ?_ | refine Q_nil ?_ | refine q_j ?_ | refine q_k ?_ | refine q_d ?_ | refine q_a ?_ | refine q_b ?_ | refine q_c ?_ | refine A_ct rfl ?_ | refine A_cf rfl ?_ | refine A_skip ?_ | refine A_exit ?_ | refine A_ret ?_ | refine q_l ?_ | refine q_m ?_ | refine q_n ?_ | refine q_h ?_ | refine q_o ?_ | refine q_e ?_ | refine q_f ?_ | refine q_g ?_ | fail)
            exact ⟨(k + 1, V2, O2), ⟨by dsimp only; omega, hP⟩, by dsimp only; omega, Wk_sel ⟨rfl, rfl, rfl, rfl, rfl, rfl, rfl, rfl, trivial⟩ ⟨rfl, rfl, rfl, rfl, rfl, rfl, rfl, trivial⟩⟩
          · have hob : outB q = true := by unfold outB; rw [hx, decide_eq_false hi]; rfl
            have hP := hgo hob
            by_cases hq0 : q.h = 0
            · rw [show hopOf r.h q = ⟨q.i, r.h⟩ by unfold hopOf; rw [if_pos hq0]] at hP
              repeat (first | refine A_seq ?_ | refine A_block ?_ | refine R_list ?_ | ((first | apply O_y rfl rfl rfl | apply Q_y rfl rfl rfl); (first | exact q_1 | exact q_2 | exact q_3 | exact q_4 | exact q_5 | exact q_6 | exact q_7 | exact q_8 | exact q_9 | exact q_10 | exact q_11 | exact q_12 | exact q_13 | exact q_14 | exact q_15 | exact q_16 | exact q_17 | exact q_18 | exact q_19 | exact q_20 | exact q_21 | exact q_22 | exact q_23 | exact q_24 | (first | exact R_lk0 (intA 0) (fun _ _ _ => sc_rel rfl) rteKey rteW_val zeroInt trivial (fun _ _ => trivial) hnd' hout' tabOk rfl rfl rfl rfl rfl rfl | exact R_sF rfl rfl rfl rfl (decide_eq_false hi)))) | refine O_nil ?_ | refine Q_nil ?_ | refine q_j ?_ | refine q_k ?_ | refine q_d ?_ | refine q_a ?_ | refine q_b ?_ | refine q_c ?_ | refine A_ct rfl ?_ | refine A_cf rfl ?_ | refine A_skip ?_ | refine A_exit ?_ | refine A_ret ?_ | refine q_l ?_ | refine q_m ?_ | refine q_n ?_ | refine q_h ?_ | refine q_o ?_ | refine q_e ?_ | refine q_f ?_ | refine q_g ?_ | (first | refine O_appR tabOk rfl rfl rfl rfl rfl rfl rfl rfl rfl rfl rfl (by first | exact Src.row rfl | exact Src.dat _ _ | exact Src.nil) rfl (by omega) ?_ | refine O_appN tabOk rfl rfl rfl rfl rfl rfl rfl rfl rfl rfl (by first | exact Src.row rfl | exact Src.dat _ _ | exact Src.nil) rfl (by omega) ?_))
              exact ⟨(k + 1, V', O' ++ [⟨q.i, r.h⟩]), ⟨by dsimp only; omega, hP⟩, by dsimp only; omega, Wk_sel ⟨rfl, rfl, rfl, rfl, rfl, rfl, rfl, rfl, trivial⟩ ⟨rfl, rfl, rfl, rfl, rfl, kill_was2 950 57 V', row_eq (by simp) (by simp [hopD]) rfl, trivial⟩⟩
            · rw [show hopOf r.h q = ⟨q.i, q.h⟩ by unfold hopOf; rw [if_neg hq0]] at hP
              repeat (first | refine A_seq ?_ | refine A_block ?_ | refine R_list ?_ | ((first | apply O_y rfl rfl rfl | apply Q_y rfl rfl rfl); (first | exact q_1 | exact q_2 | exact q_3 | exact q_4 | exact q_5 | exact q_6 | exact q_7 | exact q_8 | exact q_9 | exact q_10 | exact q_11 | exact q_12 | exact q_13 | exact q_14 | exact q_15 | exact q_16 | exact q_17 | exact q_18 | exact q_19 | exact q_20 | exact q_21 | exact q_22 | exact q_23 | exact q_24 | (first | exact R_lk0 (intA 0) (fun _ _ _ => sc_rel rfl) rteKey rteW_val zeroInt trivial (fun _ _ => trivial) hnd' hout' tabOk rfl rfl rfl rfl rfl rfl | exact R_sF rfl rfl rfl rfl (decide_eq_false hi)))) | refine O_nil ?_ | refine Q_nil ?_ | refine q_j ?_ | refine q_k ?_ | refine q_d ?_ | refine q_a ?_ | refine q_b ?_ | refine q_c ?_ | refine A_ct rfl ?_ | refine A_cf rfl ?_ | refine A_skip ?_ | refine A_exit ?_ | refine A_ret ?_ | refine q_l ?_ | refine q_m ?_ | refine q_n ?_ | refine q_h ?_ | refine q_o ?_ | refine q_e ?_ | refine q_f ?_ | refine q_g ?_ | (first | refine O_appR tabOk rfl rfl rfl rfl rfl rfl rfl rfl rfl rfl rfl (by first | exact Src.row rfl | exact Src.dat _ _ | exact Src.nil) rfl (by omega) ?_ | refine O_appN tabOk rfl rfl rfl rfl rfl rfl rfl rfl rfl rfl (by first | exact Src.row rfl | exact Src.dat _ _ | exact Src.nil) rfl (by omega) ?_))
              exact ⟨(k + 1, V', O' ++ [⟨q.i, q.h⟩]), ⟨by dsimp only; omega, hP⟩, by dsimp only; omega, Wk_sel ⟨rfl, rfl, rfl, rfl, rfl, rfl, rfl, rfl, trivial⟩ ⟨rfl, rfl, rfl, rfl, rfl, kill_was2 950 29 V', row_eq (by simp) (by simp [hopD]) rfl, trivial⟩⟩
    · have hkk : k = (longL l r.h).length := by rw [hN]; omega
      subst hkk
      have hW := W.done (by rw [hN]; exact hNl)
      repeat (first | refine A_seq ?_ | refine A_block ?_ | refine R_list ?_ | ((first | apply O_y rfl rfl rfl | apply Q_y rfl rfl rfl); (first | exact q_1 | exact q_2 | exact q_3 | exact q_4 | exact q_5 | exact q_6 | exact q_7 | exact q_8 | exact q_9 | exact q_10 | exact q_11 | exact q_12 | exact q_13 | exact q_14 | exact q_15 | exact q_16 | exact q_17 | exact q_18 | exact q_19 | exact q_20 | exact q_21 | exact q_22 | exact q_23 | exact q_24 | fail)) | refine O_nil ?_ | refine Q_nil ?_ | refine q_j ?_ | refine q_k ?_ | refine q_d ?_ | refine q_a ?_ | refine q_b ?_ | refine q_c ?_ | refine A_ct rfl ?_ | refine A_cf rfl ?_ | refine A_skip ?_ | refine A_exit ?_ | refine A_ret ?_ | refine q_l ?_ | refine q_m ?_ | refine q_n ?_ | refine q_h ?_ | refine q_o ?_ | refine q_e ?_ | refine q_f ?_ | refine q_g ?_ | fail)
      exact X_endW AWk.refl rfl (h2 := onH l V' O') ⟨rfl, rfl, rfl, rfl, rfl, rfl, trivial⟩ ⟨(V', O'), hW, rfl, rfl⟩
end Go.Proofs.YtnnclkeoakjjkaaGreat.Ab

namespace Go.Proofs.YtnnclkeoakjjkaaGreat.Ab
set_option linter.unusedVariables false
set_option maxRecDepth 100000
open Go.RowKit Go.Lib
set_option linter.unusedSimpArgs false
attribute [local irreducible] AWp AOps AQ AYield AEff ACall AWk AAny AAt AThen AIn APost NoPanic
theorem fsorted_A (l : List Hp) (hl : l.length ≤ 2147483648) : ACall Tryz.prog 19 [.row 1000] [(1000, hopB l)] (fun c h => c = .row 100 ∧ h = [(100, hopB (sortU ordH l))]) := by
  have h2 := sortH_A l hl
  have h3 := compactH_A (srt ordH l) (by rw [srt_len]; exact hl)
  refine ACall_of tabOk Tryz.func19 rfl Tryz.ntmps19 (congrArg Array.toList Tryz.results19) (by kernel_rfl) rfl ?_
  refine A_weaken (Wk_rename (id := 100) (t := 0) rfl rfl) ?_
  repeat (first | refine A_seq ?_ | refine A_block ?_ | refine R_list ?_ | refine R_quiet rfl mixed (by kernel_rfl) ?_ | ((first | apply O_y rfl rfl rfl | apply Q_y rfl rfl rfl); (first | exact q_1 | exact q_2 | exact q_3 | exact q_4 | exact q_5 | exact q_6 | exact q_7 | exact q_8 | exact q_9 | exact q_10 | exact q_11 | exact q_12 | exact q_13 | exact q_14 | exact q_15 | exact q_16 | exact q_17 | exact q_18 | exact q_19 | exact q_20 | exact q_21 | exact q_22 | exact q_23 | exact q_24 | fail)) | refine O_nil ?_ | refine Q_nil ?_ | refine q_j ?_ | refine q_k ?_ | refine q_d ?_ | refine q_a ?_ | refine q_b ?_ | refine q_c ?_ | refine A_ct rfl ?_ | refine A_cf rfl ?_ | refine A_skip ?_ | refine A_exit ?_ | refine A_ret ?_ | refine q_l ?_ | refine q_m ?_ | refine q_n ?_ | refine q_h ?_ | refine q_o ?_ | refine q_e ?_ | refine q_f ?_ | refine q_g ?_ | fail)
  refine O_cP [(1000, 100)] (fun p p' i h1 h2 => by rw [(look_one' h1).1, (look_one' h2).1]) (fun p i h1 => by rw [(look_one' h1).1]; exact ⟨Nat.le_refl _, rfl, rfl⟩) h2 (fun c hc => by simp at hc; rcases hc with rfl | rfl <;> rfl) ⟨⟨100, _, rfl, rfl, rfl, trivial⟩, trivial⟩ rfl rfl rfl rfl rfl rfl ?_
  repeat (first | refine A_seq ?_ | refine A_block ?_ | refine R_list ?_ | refine R_quiet rfl mixed (by kernel_rfl) ?_ | ((first | apply O_y rfl rfl rfl | apply Q_y rfl rfl rfl); (first | exact q_1 | exact q_2 | exact q_3 | exact q_4 | exact q_5 | exact q_6 | exact q_7 | exact q_8 | exact q_9 | exact q_10 | exact q_11 | exact q_12 | exact q_13 | exact q_14 | exact q_15 | exact q_16 | exact q_17 | exact q_18 | exact q_19 | exact q_20 | exact q_21 | exact q_22 | exact q_23 | exact q_24 | fail)) | refine O_nil ?_ | refine Q_nil ?_ | refine q_j ?_ | refine q_k ?_ | refine q_d ?_ | refine q_a ?_ | refine q_b ?_ | refine q_c ?_ | refine A_ct rfl ?_ | refine A_cf rfl ?_ | refine A_skip ?_ | refine A_exit ?_ | refine A_ret ?_ | refine q_l ?_ | refine q_m ?_ | refine q_n ?_ | refine q_h ?_ | refine q_o ?_ | refine q_e ?_ | refine q_f ?_ | refine q_g ?_ | fail)
  refine O_cM rfl rfl rfl rfl rfl h3 rfl (fun c hc => by simp at hc; subst hc; rfl) rfl rfl ?_
  repeat (first | refine A_seq ?_ | refine A_block ?_ | refine R_list ?_ | refine R_quiet rfl mixed (by kernel_rfl) ?_ | ((first | apply O_y rfl rfl rfl | apply Q_y rfl rfl rfl); (first | exact q_1 | exact q_2 | exact q_3 | exact q_4 | exact q_5 | exact q_6 | exact q_7 | exact q_8 | exact q_9 | exact q_10 | exact q_11 | exact q_12 | exact q_13 | exact q_14 | exact q_15 | exact q_16 | exact q_17 | exact q_18 | exact q_19 | exact q_20 | exact q_21 | exact q_22 | exact q_23 | exact q_24 | fail)) | refine O_nil ?_ | refine Q_nil ?_ | refine q_j ?_ | refine q_k ?_ | refine q_d ?_ | refine q_a ?_ | refine q_b ?_ | refine q_c ?_ | refine A_ct rfl ?_ | refine A_cf rfl ?_ | refine A_skip ?_ | refine A_exit ?_ | refine A_ret ?_ | refine q_l ?_ | refine q_m ?_ | refine q_n ?_ | refine q_h ?_ | refine q_o ?_ | refine q_e ?_ | refine q_f ?_ | refine q_g ?_ | fail)
  exact X_retW AWk.refl rfl (h2 := [(100, hopB (sortU ordH l))]) ⟨rfl, trivial⟩ ⟨rfl, rfl⟩
abbrev ledRho : List (Nat × Nat) := [(1000, 6), (1001, 2), (1002, 7), (1003, 5), (1004, 903)]
theorem ledRho_cases (p i : Nat) (h : look ledRho p = some i) : (p = 1000 ∧ i = 6) ∨ (p = 1001 ∧ i = 2) ∨ (p = 1002 ∧ i = 7) ∨ (p = 1003 ∧ i = 5) ∨ (p = 1004 ∧ i = 903) := by
  by_cases h0 : 1000 = p
  · subst h0; rw [look_cons_same] at h; cases h; simp
  rw [look_cons_ne _ _ h0] at h
  by_cases h1 : 1001 = p
  · subst h1; rw [look_cons_same] at h; cases h; simp
  rw [look_cons_ne _ _ h1] at h
  by_cases h2 : 1002 = p
  · subst h2; rw [look_cons_same] at h; cases h; simp
  rw [look_cons_ne _ _ h2] at h
  by_cases h3 : 1003 = p
  · subst h3; rw [look_cons_same] at h; cases h; simp
  rw [look_cons_ne _ _ h3] at h
  by_cases h4 : 1004 = p
  · subst h4; rw [look_cons_same] at h; cases h; simp
  rw [look_cons_ne _ _ h4] at h; cases h
theorem ledRho_inj (p p' i : Nat) (h1 : look ledRho p = some i) (h2 : look ledRho p' = some i) : p = p' := by
  have := ledRho_cases p i h1
  have := ledRho_cases p' i h2
  omega
theorem ledRho_dom (l V : List Rte) (O : List Hp) (p i : Nat) (h : look ledRho p = some i) : 1000 ≤ p ∧ (look (onH l V O) p).isSome = true ∧ ∀ x : List Rte × List Hp, (look (onH l x.1 x.2) p).isSome = true := by
  rcases ledRho_cases p i h with ⟨rfl, _⟩ | ⟨rfl, _⟩ | ⟨rfl, _⟩ | ⟨rfl, _⟩ | ⟨rfl, _⟩ <;> exact ⟨by omega, rfl, fun _ => rfl⟩
theorem ledNu_ok (p i : Nat) (h : look onNu p = some i) : p < 1000 ∧ i < 1000 ∧ ∀ q, look ledRho q ≠ some i := by
  obtain ⟨h1, h2⟩ := onNu_same p i h
  simp at h2
  subst h1
  refine ⟨by omega, by omega, fun q hq => ?_⟩
  have := ledRho_cases q p hq
  omega
set_option maxHeartbeats 8000000 in
theorem led_A (l : List Rte) (r : Rte) (hok : ∀ s ∈ l, okR s) (hh : ∀ s ∈ r :: l, 0 ≤ s.h ∧ s.h < 4294967296) (hn : l.length ≤ 1000) :
    ACall Tryz.prog 6 [rtesA l, rteA r] [] (fun c h => c = .row 950 ∧ h = [(950, hopB (ledH l r))]) := by
  have hon := on_A l r hok hh hn (leftN l ([] ++ [r])) r [] []
  obtain ⟨⟨pa, pb⟩, f, d, m, t, i, a, x⟩ := r
  cases x with
  | true =>
    rw [show ledH l ⟨⟨pa, pb⟩, f, d, m, t, i, a, true⟩ = [] by unfold ledH; rfl]
    refine ACall_of tabOk Tryz.func6 rfl Tryz.ntmps6 (congrArg Array.toList Tryz.results6) (by kernel_rfl) rfl ?_
    repeat (first | refine A_seq ?_ | refine A_block ?_ | refine R_list ?_ | ((first | apply O_y rfl rfl rfl | apply Q_y rfl rfl rfl); (first | exact q_1 | exact q_2 | exact q_3 | exact q_4 | exact q_5 | exact q_6 | exact q_7 | exact q_8 | exact q_9 | exact q_10 | exact q_11 | exact q_12 | exact q_13 | exact q_14 | exact q_15 | exact q_16 | exact q_17 | exact q_18 | exact q_19 | exact q_20 | exact q_21 | exact q_22 | exact q_23 | exact q_24 | fail)) | refine O_nil ?_ | refine Q_nil ?_ | refine q_j ?_ | refine q_k ?_ | refine q_d ?_ | refine q_a ?_ | refine q_b ?_ | refine q_c ?_ | refine A_ct rfl ?_ | refine A_cf rfl ?_ | refine A_skip ?_ | refine A_exit ?_ | refine A_ret ?_ | refine q_l ?_ | refine q_m ?_ | refine q_n ?_ | refine q_h ?_ | refine q_o ?_ | refine q_e ?_ | refine q_f ?_ | refine q_g ?_ | fail)
    exact X_retW (Wk_nil 35 2 (t := 4) (id := 950) rfl rfl) rfl (h2 := [(950, hopB [])]) ⟨rfl, trivial⟩ ⟨rfl, rfl⟩
  | false =>
    by_cases hi : i = []
    · have hpre : OnPre l ⟨⟨pa, pb⟩, f, d, m, t, i, a, false⟩ ⟨⟨pa, pb⟩, f, d, m, t, i, a, false⟩ [] [] := ⟨by simp, .nil, hi, by simp, by simp, .inl rfl, by simp⟩
      have hon := hon hpre (Nat.le_refl _)
      refine ACall_of tabOk Tryz.func6 rfl Tryz.ntmps6 (congrArg Array.toList Tryz.results6) (by kernel_rfl) rfl ?_
      repeat (first | refine A_seq ?_ | refine A_block ?_ | refine R_list ?_ | ((first | apply O_y rfl rfl rfl | apply Q_y rfl rfl rfl); (first | exact q_1 | exact q_2 | exact q_3 | exact q_4 | exact q_5 | exact q_6 | exact q_7 | exact q_8 | exact q_9 | exact q_10 | exact q_11 | exact q_12 | exact q_13 | exact q_14 | exact q_15 | exact q_16 | exact q_17 | exact q_18 | exact q_19 | exact q_20 | exact q_21 | exact q_22 | exact q_23 | exact q_24 | (first | exact R_sF rfl rfl rfl rfl (by simp [hi]) | exact Y_makeFunc rfl rfl))) | refine O_nil ?_ | refine Q_nil ?_ | refine q_j ?_ | refine q_k ?_ | refine q_d ?_ | refine q_a ?_ | refine q_b ?_ | refine q_c ?_ | refine A_ct rfl ?_ | refine A_cf rfl ?_ | refine A_skip ?_ | refine A_exit ?_ | refine A_ret ?_ | refine q_l ?_ | refine q_m ?_ | refine q_n ?_ | refine q_h ?_ | refine q_o ?_ | refine q_e ?_ | refine q_f ?_ | refine q_g ?_ | (refine O_makeMap 903 rfl rfl rfl rfl rfl ?_))
      refine O_weaken (Wk_nilB (b := 5) (id := 950) 35 2 rfl rfl rfl) ?_
      refine O_weaken (Wk_sel (e1 := [(5, .ptr 5 0), (21, .fn 17 [.ptr 6 0, .ptr 2 0, .ptr 7 0, .ptr 5 0]), (22, rteA ⟨⟨pa, pb⟩, f, d, m, t, i, a, false⟩)]) (h1 := [(6, .var [.mp 903]), (2, .var [rtesA l]), (7, .var [.fn 17 [.ptr 6 0, .ptr 2 0, .ptr 7 0, .ptr 5 0]]), (5, .var [.row 950]), (903, wasB []), (950, hopB [])]) ⟨rfl, rfl, rfl, trivial⟩ ⟨rfl, rfl, rfl, rfl, rfl, rfl, trivial⟩) ?_
      refine O_cTV (α := List Rte × List Hp) (C := fun _ => .tup []) (H1 := fun x => onH l x.1 x.2) (Φ := fun x => Walk l ⟨⟨pa, pb⟩, f, d, m, t, i, a, false⟩ [] [] x.1 x.2) ledRho onNu 950 950 ledRho_inj (ledRho_dom l [] []) ledNu_ok onNu_inj (by decide) (by decide) (by omega) rfl ⟨950, rfl⟩ hon rfl ⟨⟨6, _, rfl, rfl, rfl, fun c hc => by simp at hc; subst hc; rfl⟩, ⟨2, _, rfl, rfl, rfl, fun c hc => by simp at hc; subst hc; rfl⟩, ⟨7, _, rfl, rfl, rfl, fun c hc => by simp at hc; subst hc; rfl⟩, ⟨5, _, rfl, rfl, rfl, fun c hc => by simp at hc; subst hc; rfl⟩, ⟨903, _, rfl, rfl, ren_was _ [], ok_was _ []⟩, ⟨950, _, rfl, rfl, rfl, trivial⟩, trivial⟩ rfl rfl rfl rfl rfl rfl rfl rfl ?_
      rintro ⟨V, O⟩ W
      dsimp only at W ⊢
      have hVl := nodup_le V (⟨⟨pa, pb⟩, f, d, m, t, i, a, false⟩ :: l) W.nd fun s hs => by
        rcases W.sub s hs with h | h | h
        · cases h
        · rw [h]; simp
        · exact List.mem_cons_of_mem _ h
      rw [List.length_cons] at hVl
      have hOl : O.length ≤ V.length * 1000 := by have := W.len; simp at this; omega
      have hs := fsorted_A O (by omega)
      rw [ledH_of rfl hi fun x => W.hops x] at hs
      refine O_weaken (Wk_sel (e1 := [(5, .ptr 5 0)]) (h1 := [(5, .var [.row 950]), (950, hopB O)]) ⟨rfl, trivial⟩ ⟨rfl, rfl, trivial⟩) ?_
      repeat (first | refine A_seq ?_ | refine A_block ?_ | refine R_list ?_ | ((first | apply O_y rfl rfl rfl | apply Q_y rfl rfl rfl); (first | exact q_1 | exact q_2 | exact q_3 | exact q_4 | exact q_5 | exact q_6 | exact q_7 | exact q_8 | exact q_9 | exact q_10 | exact q_11 | exact q_12 | exact q_13 | exact q_14 | exact q_15 | exact q_16 | exact q_17 | exact q_18 | exact q_19 | exact q_20 | exact q_21 | exact q_22 | exact q_23 | exact q_24 | fail)) | refine O_nil ?_ | refine Q_nil ?_ | refine q_j ?_ | refine q_k ?_ | refine q_d ?_ | refine q_a ?_ | refine q_b ?_ | refine q_c ?_ | refine A_ct rfl ?_ | refine A_cf rfl ?_ | refine A_skip ?_ | refine A_exit ?_ | refine A_ret ?_ | refine q_l ?_ | refine q_m ?_ | refine q_n ?_ | refine q_h ?_ | refine q_o ?_ | refine q_e ?_ | refine q_f ?_ | refine q_g ?_ | fail)
      refine O_cM rfl rfl rfl rfl rfl hs rfl (fun c hc => by simp at hc; subst hc; rfl) rfl rfl ?_
      repeat (first | refine A_seq ?_ | refine A_block ?_ | refine R_list ?_ | ((first | apply O_y rfl rfl rfl | apply Q_y rfl rfl rfl); (first | exact q_1 | exact q_2 | exact q_3 | exact q_4 | exact q_5 | exact q_6 | exact q_7 | exact q_8 | exact q_9 | exact q_10 | exact q_11 | exact q_12 | exact q_13 | exact q_14 | exact q_15 | exact q_16 | exact q_17 | exact q_18 | exact q_19 | exact q_20 | exact q_21 | exact q_22 | exact q_23 | exact q_24 | fail)) | refine O_nil ?_ | refine Q_nil ?_ | refine q_j ?_ | refine q_k ?_ | refine q_d ?_ | refine q_a ?_ | refine q_b ?_ | refine q_c ?_ | refine A_ct rfl ?_ | refine A_cf rfl ?_ | refine A_skip ?_ | refine A_exit ?_ | refine A_ret ?_ | refine q_l ?_ | refine q_m ?_ | refine q_n ?_ | refine q_h ?_ | refine q_o ?_ | refine q_e ?_ | refine q_f ?_ | refine q_g ?_ | fail)
      exact X_retW AWk.refl rfl (h2 := [(950, hopB (ledH l ⟨⟨pa, pb⟩, f, d, m, t, i, a, false⟩))]) ⟨rfl, trivial⟩ ⟨rfl, rfl⟩
    · rw [show ledH l ⟨⟨pa, pb⟩, f, d, m, t, i, a, false⟩ = [⟨i, a⟩] by unfold ledH; simp [hi]]
      refine ACall_of tabOk Tryz.func6 rfl Tryz.ntmps6 (congrArg Array.toList Tryz.results6) (by kernel_rfl) rfl ?_
      repeat (first | refine A_seq ?_ | refine A_block ?_ | refine R_list ?_ | ((first | apply O_y rfl rfl rfl | apply Q_y rfl rfl rfl); (first | exact q_1 | exact q_2 | exact q_3 | exact q_4 | exact q_5 | exact q_6 | exact q_7 | exact q_8 | exact q_9 | exact q_10 | exact q_11 | exact q_12 | exact q_13 | exact q_14 | exact q_15 | exact q_16 | exact q_17 | exact q_18 | exact q_19 | exact q_20 | exact q_21 | exact q_22 | exact q_23 | exact q_24 | (exact R_sT rfl rfl rfl rfl (by simp [hi])))) | refine O_nil ?_ | refine Q_nil ?_ | refine q_j ?_ | refine q_k ?_ | refine q_d ?_ | refine q_a ?_ | refine q_b ?_ | refine q_c ?_ | refine A_ct rfl ?_ | refine A_cf rfl ?_ | refine A_skip ?_ | refine A_exit ?_ | refine A_ret ?_ | refine q_l ?_ | refine q_m ?_ | refine q_n ?_ | refine q_h ?_ | refine q_o ?_ | refine q_e ?_ | refine q_f ?_ | refine q_g ?_ | fail)
      exact X_retW (AWk.trans (Wk_sel (e1 := [(4, .row 18)]) (h1 := [(18, hopB [⟨i, a⟩])]) ⟨rfl, trivial⟩ ⟨rfl, trivial⟩) (Wk_rename (p := 18) (id := 950) (t := 4) rfl rfl)) rfl (h2 := [(950, hopB [⟨i, a⟩])]) ⟨rfl, trivial⟩ ⟨rfl, rfl⟩
end Go.Proofs.YtnnclkeoakjjkaaGreat.Ab

namespace Go.Proofs.YtnnclkeoakjjkaaGreat.Ab
set_option linter.unusedVariables false
set_option maxRecDepth 100000
open Go.RowKit Go.Lib
set_option linter.unusedSimpArgs false
attribute [local irreducible] AWp AOps AQ AYield AEff ACall AWk AAny AAt AThen AIn APost NoPanic
def oneI (a b : Bool) : Int := if a then -1 else if b then 1 else 0
theorem one_A (a b : Bool) : ACall Tryz.prog 63 [boolA a, boolA b] [] (Just (intA (oneI a b))) := by
  refine ACall_of tabOk Tryz.func63 rfl Tryz.ntmps63 (congrArg Array.toList Tryz.results63) (by kernel_rfl) rfl ?_
  cases a
  · cases b
    ·
      repeat (first | refine A_seq ?_ | refine A_block ?_ | refine R_list ?_ | refine R_quiet rfl mixed (by kernel_rfl) ?_ | ((first | apply O_y rfl rfl rfl | apply Q_y rfl rfl rfl); (first | exact q_1 | exact q_2 | exact q_3 | exact q_4 | exact q_5 | exact q_6 | exact q_7 | exact q_8 | exact q_9 | exact q_10 | exact q_11 | exact q_12 | exact q_13 | exact q_14 | exact q_15 | exact q_16 | exact q_17 | exact q_18 | exact q_19 | exact q_20 | exact q_21 | exact q_22 | exact q_23 | exact q_24 | fail)) | refine O_nil ?_ | refine Q_nil ?_ | refine q_j ?_ | refine q_k ?_ | refine q_d ?_ | refine q_a ?_ | refine q_b ?_ | refine q_c ?_ | refine A_ct rfl ?_ | refine A_cf rfl ?_ | refine A_skip ?_ | refine A_exit ?_ | refine A_ret ?_ | refine q_l ?_ | refine q_m ?_ | refine q_n ?_ | refine q_h ?_ | refine q_o ?_ | refine q_e ?_ | refine q_f ?_ | refine q_g ?_ | fail)
      exact X_ret rfl ⟨rfl, rfl⟩
    ·
      repeat (first | refine A_seq ?_ | refine A_block ?_ | refine R_list ?_ | refine R_quiet rfl mixed (by kernel_rfl) ?_ | ((first | apply O_y rfl rfl rfl | apply Q_y rfl rfl rfl); (first | exact q_1 | exact q_2 | exact q_3 | exact q_4 | exact q_5 | exact q_6 | exact q_7 | exact q_8 | exact q_9 | exact q_10 | exact q_11 | exact q_12 | exact q_13 | exact q_14 | exact q_15 | exact q_16 | exact q_17 | exact q_18 | exact q_19 | exact q_20 | exact q_21 | exact q_22 | exact q_23 | exact q_24 | fail)) | refine O_nil ?_ | refine Q_nil ?_ | refine q_j ?_ | refine q_k ?_ | refine q_d ?_ | refine q_a ?_ | refine q_b ?_ | refine q_c ?_ | refine A_ct rfl ?_ | refine A_cf rfl ?_ | refine A_skip ?_ | refine A_exit ?_ | refine A_ret ?_ | refine q_l ?_ | refine q_m ?_ | refine q_n ?_ | refine q_h ?_ | refine q_o ?_ | refine q_e ?_ | refine q_f ?_ | refine q_g ?_ | fail)
      exact X_ret rfl ⟨rfl, rfl⟩
  ·
    repeat (first | refine A_seq ?_ | refine A_block ?_ | refine R_list ?_ | refine R_quiet rfl mixed (by kernel_rfl) ?_ | ((first | apply O_y rfl rfl rfl | apply Q_y rfl rfl rfl); (first | exact q_1 | exact q_2 | exact q_3 | exact q_4 | exact q_5 | exact q_6 | exact q_7 | exact q_8 | exact q_9 | exact q_10 | exact q_11 | exact q_12 | exact q_13 | exact q_14 | exact q_15 | exact q_16 | exact q_17 | exact q_18 | exact q_19 | exact q_20 | exact q_21 | exact q_22 | exact q_23 | exact q_24 | fail)) | refine O_nil ?_ | refine Q_nil ?_ | refine q_j ?_ | refine q_k ?_ | refine q_d ?_ | refine q_a ?_ | refine q_b ?_ | refine q_c ?_ | refine A_ct rfl ?_ | refine A_cf rfl ?_ | refine A_skip ?_ | refine A_exit ?_ | refine A_ret ?_ | refine q_l ?_ | refine q_m ?_ | refine q_n ?_ | refine q_h ?_ | refine q_o ?_ | refine q_e ?_ | refine q_f ?_ | refine q_g ?_ | fail)
    exact X_ret rfl ⟨rfl, rfl⟩
theorem oneI_c2 (x y : Int) : oneI (decide (x < y)) (decide (x > y)) = c2 x y := by
  unfold oneI c2
  by_cases h1 : x < y
  · simp [h1]
  · by_cases h2 : y < x
    · simp [h1, h2]
    · simp [h1, h2]
theorem oneI_bytes (x y : List UInt8) : oneI (decide (compareBytes x y < 0)) (decide (0 < compareBytes x y)) = compareBytes x y := by
  rcases bytes_c2 x y with h | h | h <;> rw [h] <;> rfl
theorem oneI_cB1 (b : Bool) : oneI b false = cB false b := by cases b <;> rfl
theorem oneI_cB2 (b : Bool) : oneI false (!b) = cB true b := by cases b <;> rfl
theorem one_c2 (x y : Int) : ACall Tryz.prog 63 [boolA (decide (x < y)), boolA (decide (x > y))] [] (Just (intA (c2 x y))) := by
  have := one_A (decide (x < y)) (decide (x > y)); rw [oneI_c2] at this; exact this
theorem one_bytes (x y : List UInt8) : ACall Tryz.prog 63 [boolA (decide (compareBytes x y < 0)), boolA (decide (0 < compareBytes x y))] [] (Just (intA (compareBytes x y))) := by
  have := one_A (decide (compareBytes x y < 0)) (decide (0 < compareBytes x y)); rw [oneI_bytes] at this; exact this
theorem first_A (l : List Int) (hn : l.length ≤ 1000000) : ACall Tryz.prog 61 [intsA l] [] (Just (intA (firstI l))) := by
  refine ACall_of tabOk Tryz.func61 rfl Tryz.ntmps61 (congrArg Array.toList Tryz.results61) (by kernel_rfl) rfl ?_
  repeat (first | refine A_seq ?_ | refine A_block ?_ | refine R_list ?_ | refine R_quiet rfl mixed (by kernel_rfl) ?_ | ((first | apply O_y rfl rfl rfl | apply Q_y rfl rfl rfl); (first | exact q_1 | exact q_2 | exact q_3 | exact q_4 | exact q_5 | exact q_6 | exact q_7 | exact q_8 | exact q_9 | exact q_10 | exact q_11 | exact q_12 | exact q_13 | exact q_14 | exact q_15 | exact q_16 | exact q_17 | exact q_18 | exact q_19 | exact q_20 | exact q_21 | exact q_22 | exact q_23 | exact q_24 | fail)) | refine O_nil ?_ | refine Q_nil ?_ | refine q_j ?_ | refine q_k ?_ | refine q_d ?_ | refine q_a ?_ | refine q_b ?_ | refine q_c ?_ | refine A_ct rfl ?_ | refine A_cf rfl ?_ | refine A_skip ?_ | refine A_exit ?_ | refine A_ret ?_ | refine q_l ?_ | refine q_m ?_ | refine q_n ?_ | refine q_h ?_ | refine q_o ?_ | refine q_e ?_ | refine q_f ?_ | refine q_g ?_ | fail)
  refine A_loop (fun k : Nat => [(0, intsA l), (3, intA (k : Int))]) (fun _ => []) (fun k => k ≤ l.length ∧ firstI l = firstI (l.drop k)) (fun k => l.length - k) 0 ⟨by omega, rfl⟩ (Wk_sel ⟨rfl, rfl, trivial⟩ trivial) ?_
  rintro k ⟨hk, he⟩
  dsimp only
  by_cases hlt : k < l.length
  · by_cases h0 : l[k] = 0
    ·
      repeat (first | refine A_seq ?_ | refine A_block ?_ | refine R_list ?_ | refine R_quiet rfl mixed (by kernel_rfl) ?_ | ((first | apply O_y rfl rfl rfl | apply Q_y rfl rfl rfl); (first | exact q_1 | exact q_2 | exact q_3 | exact q_4 | exact R_loadi tabOk rfl rfl rfl rfl (by first | exact win_flat0 intD_len l k _ hlt (by decide) | exact win_flat intD_len l k _ _ hlt (by decide) | exact win_flat2 intD_len l k _ _ _ hlt (by decide) | rfl) rfl rfl | exact q_6 | exact q_7 | exact q_8 | exact q_9 | exact q_10 | exact q_11 | exact q_12 | exact q_13 | exact q_14 | exact q_15 | exact q_16 | exact q_17 | exact q_18 | exact q_19 | exact q_20 | exact q_21 | exact q_22 | exact q_23 | exact q_24 | fail)) | refine O_nil ?_ | refine Q_nil ?_ | refine q_j ?_ | refine q_k ?_ | refine q_d ?_ | refine q_a ?_ | refine q_b ?_ | refine q_c ?_ | refine A_ct rfl ?_ | refine A_cf rfl ?_ | refine A_skip ?_ | refine A_exit ?_ | refine A_ret ?_ | refine q_l ?_ | refine q_m ?_ | refine q_n ?_ | refine q_h ?_ | refine q_o ?_ | refine q_e ?_ | refine q_f ?_ | refine q_g ?_ | fail)
      exact ⟨k + 1, ⟨by omega, by rw [he, firstI_drop hlt h0]⟩, by omega, Wk_sel ⟨rfl, rfl, trivial⟩ trivial⟩
    ·
      repeat (first | refine A_seq ?_ | refine A_block ?_ | refine R_list ?_ | refine R_quiet rfl mixed (by kernel_rfl) ?_ | ((first | apply O_y rfl rfl rfl | apply Q_y rfl rfl rfl); (first | exact q_1 | exact q_2 | exact q_3 | exact q_4 | exact R_loadi tabOk rfl rfl rfl rfl (by first | exact win_flat0 intD_len l k _ hlt (by decide) | exact win_flat intD_len l k _ _ hlt (by decide) | exact win_flat2 intD_len l k _ _ _ hlt (by decide) | rfl) rfl rfl | exact q_6 | exact q_7 | exact q_8 | exact q_9 | exact q_10 | exact q_11 | exact q_12 | exact q_13 | exact q_14 | exact q_15 | exact q_16 | exact q_17 | exact q_18 | exact q_19 | exact q_20 | exact q_21 | exact q_22 | exact q_23 | exact q_24 | fail)) | refine O_nil ?_ | refine Q_nil ?_ | refine q_j ?_ | refine q_k ?_ | refine q_d ?_ | refine q_a ?_ | refine q_b ?_ | refine q_c ?_ | refine A_ct rfl ?_ | refine A_cf rfl ?_ | refine A_skip ?_ | refine A_exit ?_ | refine A_ret ?_ | refine q_l ?_ | refine q_m ?_ | refine q_n ?_ | refine q_h ?_ | refine q_o ?_ | refine q_e ?_ | refine q_f ?_ | refine q_g ?_ | fail)
      exact X_ret rfl ⟨by rw [he, firstI_at hlt h0]; rfl, rfl⟩
  · have : k = l.length := by omega
    subst this
    repeat (first | refine A_seq ?_ | refine A_block ?_ | refine R_list ?_ | refine R_quiet rfl mixed (by kernel_rfl) ?_ | ((first | apply O_y rfl rfl rfl | apply Q_y rfl rfl rfl); (first | exact q_1 | exact q_2 | exact q_3 | exact q_4 | exact q_5 | exact q_6 | exact q_7 | exact q_8 | exact q_9 | exact q_10 | exact q_11 | exact q_12 | exact q_13 | exact q_14 | exact q_15 | exact q_16 | exact q_17 | exact q_18 | exact q_19 | exact q_20 | exact q_21 | exact q_22 | exact q_23 | exact q_24 | fail)) | refine O_nil ?_ | refine Q_nil ?_ | refine q_j ?_ | refine q_k ?_ | refine q_d ?_ | refine q_a ?_ | refine q_b ?_ | refine q_c ?_ | refine A_ct rfl ?_ | refine A_cf rfl ?_ | refine A_skip ?_ | refine A_exit ?_ | refine A_ret ?_ | refine q_l ?_ | refine q_m ?_ | refine q_n ?_ | refine q_h ?_ | refine q_o ?_ | refine q_e ?_ | refine q_f ?_ | refine q_g ?_ | fail)
    exact X_ret rfl ⟨by rw [he, List.drop_length]; rfl, rfl⟩
set_option maxHeartbeats 8000000 in
theorem refPrefix_A (p q : Pfx) : ACall Tryz.prog 62 [pfxA p, pfxA q] [] (Just (intA (ordP p q))) := by
  have h1 := one_c2 p.a q.a
  have h2 := one_c2 p.b q.b
  have h3 := first_A [c2 p.a q.a, c2 p.b q.b] (by simp)
  rw [ordP_first] at h3
  refine ACall_of tabOk Tryz.func62 rfl Tryz.ntmps62 (congrArg Array.toList Tryz.results62) (by kernel_rfl) rfl ?_
  refine A_seq ?_
  refine R_list ?_
  repeat (first | refine A_seq ?_ | refine A_block ?_ | refine R_list ?_ | refine R_quiet rfl mixed (by kernel_rfl) ?_ | ((first | apply O_y rfl rfl rfl | apply Q_y rfl rfl rfl); (first | exact q_1 | exact q_2 | exact q_3 | exact q_4 | exact q_5 | exact q_6 | exact q_7 | exact q_8 | exact q_9 | exact q_10 | exact q_11 | exact q_12 | exact q_13 | exact q_14 | exact q_15 | exact q_16 | exact q_17 | exact q_18 | exact q_19 | exact q_20 | exact q_21 | exact q_22 | exact q_23 | exact q_24 | fail)) | refine O_nil ?_ | refine Q_nil ?_ | refine q_j ?_ | refine q_k ?_ | refine q_d ?_ | refine q_a ?_ | refine q_b ?_ | refine q_c ?_ | refine A_ct rfl ?_ | refine A_cf rfl ?_ | refine A_skip ?_ | refine A_exit ?_ | refine A_ret ?_ | refine q_l ?_ | refine q_m ?_ | refine q_n ?_ | refine q_h ?_ | refine q_o ?_ | refine q_e ?_ | refine q_f ?_ | refine q_g ?_ | fail)
  refine N_begin [] mixed ?_
  (apply q_P 0 rfl (by kernel_rfl) rfl rfl rfl; (first | exact q_1 | exact q_2 | exact q_8 | exact q_7 | exact q_13 | exact Y_sbin rfl rfl rfl rfl | exact q_20 | exact q_25 | exact q_26))
  (apply q_P 1 rfl (by kernel_rfl) rfl rfl rfl; (first | exact q_1 | exact q_2 | exact q_8 | exact q_7 | exact q_13 | exact Y_sbin rfl rfl rfl rfl | exact q_20 | exact q_25 | exact q_26))
  (apply q_P 2 rfl (by kernel_rfl) rfl rfl rfl; (first | exact q_1 | exact q_2 | exact q_8 | exact q_7 | exact q_13 | exact Y_sbin rfl rfl rfl rfl | exact q_20 | exact q_25 | exact q_26))
  (apply q_P 3 rfl (by kernel_rfl) rfl rfl rfl; (first | exact q_1 | exact q_2 | exact q_8 | exact q_7 | exact q_13 | exact Y_sbin rfl rfl rfl rfl | exact q_20 | exact q_25 | exact q_26))
  (apply q_P 4 rfl (by kernel_rfl) rfl rfl rfl; (first | exact q_1 | exact q_2 | exact q_8 | exact q_7 | exact q_13 | exact Y_sbin rfl rfl rfl rfl | exact q_20 | exact q_25 | exact q_26))
  (apply q_P 5 rfl (by kernel_rfl) rfl rfl rfl; (first | exact q_1 | exact q_2 | exact q_8 | exact q_7 | exact q_13 | exact Y_sbin rfl rfl rfl rfl | exact q_20 | exact q_25 | exact q_26))
  (apply q_P 6 rfl (by kernel_rfl) rfl rfl rfl; (first | exact q_1 | exact q_2 | exact q_8 | exact q_7 | exact q_13 | exact Y_sbin rfl rfl rfl rfl | exact q_20 | exact q_25 | exact q_26))
  (apply q_P 7 rfl (by kernel_rfl) rfl rfl rfl; (first | exact q_1 | exact q_2 | exact q_8 | exact q_7 | exact q_13 | exact Y_sbin rfl rfl rfl rfl | exact q_20 | exact q_25 | exact q_26))
  (apply q_P 8 rfl (by kernel_rfl) rfl rfl rfl; (first | exact q_1 | exact q_2 | exact q_8 | exact q_7 | exact q_13 | exact Y_sbin rfl rfl rfl rfl | exact q_20 | exact q_25 | exact q_26))
  (apply q_P 9 rfl (by kernel_rfl) rfl rfl rfl; (first | exact q_1 | exact q_2 | exact q_8 | exact q_7 | exact q_13 | exact Y_sbin rfl rfl rfl rfl | exact q_20 | exact q_25 | exact q_26))
  (apply q_P 11 rfl (by kernel_rfl) rfl rfl rfl; (first | exact q_1 | exact q_2 | exact q_8 | exact q_7 | exact q_13 | exact Y_sbin rfl rfl rfl rfl | exact q_20 | exact q_25 | exact q_26))
  (apply q_P 12 rfl (by kernel_rfl) rfl rfl rfl; (first | exact q_1 | exact q_2 | exact q_8 | exact q_7 | exact q_13 | exact Y_sbin rfl rfl rfl rfl | exact q_20 | exact q_25 | exact q_26))
  (apply q_P 13 rfl (by kernel_rfl) rfl rfl rfl; (first | exact q_1 | exact q_2 | exact q_8 | exact q_7 | exact q_13 | exact Y_sbin rfl rfl rfl rfl | exact q_20 | exact q_25 | exact q_26))
  (apply q_P 14 rfl (by kernel_rfl) rfl rfl rfl; (first | exact q_1 | exact q_2 | exact q_8 | exact q_7 | exact q_13 | exact Y_sbin rfl rfl rfl rfl | exact q_20 | exact q_25 | exact q_26))
  (apply q_P 15 rfl (by kernel_rfl) rfl rfl rfl; (first | exact q_1 | exact q_2 | exact q_8 | exact q_7 | exact q_13 | exact Y_sbin rfl rfl rfl rfl | exact q_20 | exact q_25 | exact q_26))
  (apply q_P 16 rfl (by kernel_rfl) rfl rfl rfl; (first | exact q_1 | exact q_2 | exact q_8 | exact q_7 | exact q_13 | exact Y_sbin rfl rfl rfl rfl | exact q_20 | exact q_25 | exact q_26))
  (apply q_P 17 rfl (by kernel_rfl) rfl rfl rfl; (first | exact q_1 | exact q_2 | exact q_8 | exact q_7 | exact q_13 | exact Y_sbin rfl rfl rfl rfl | exact q_20 | exact q_25 | exact q_26))
  (apply q_P 18 rfl (by kernel_rfl) rfl rfl rfl; (first | exact q_1 | exact q_2 | exact q_8 | exact q_7 | exact q_13 | exact Y_sbin rfl rfl rfl rfl | exact q_20 | exact q_25 | exact q_26))
  (apply q_P 19 rfl (by kernel_rfl) rfl rfl rfl; (first | exact q_1 | exact q_2 | exact q_8 | exact q_7 | exact q_13 | exact Y_sbin rfl rfl rfl rfl | exact q_20 | exact q_25 | exact q_26))
  (apply q_P 20 rfl (by kernel_rfl) rfl rfl rfl; (first | exact q_1 | exact q_2 | exact q_8 | exact q_7 | exact q_13 | exact Y_sbin rfl rfl rfl rfl | exact q_20 | exact q_25 | exact q_26))
  refine N_one (j := 10) (by kernel_rfl) ?_
  refine T_call rfl rfl rfl rfl rfl rfl h1 (fun _ => rfl) ?_
  refine N_one (j := 21) (by kernel_rfl) ?_
  refine T_call rfl rfl rfl rfl rfl rfl h2 (fun _ => rfl) ?_
  refine N_one (j := 22) (by kernel_rfl) ?_
  refine T_slice tabOk rfl rfl rfl rfl rfl rfl rfl rfl rfl rfl rfl rfl ?_
  refine N_one (j := 23) (by kernel_rfl) ?_
  refine T_cL rfl rfl rfl rfl rfl rfl h3 rfl (fun _ _ _ => val_mk _ _ _ _ _ rfl rfl) ?_
  (apply q_P 24 rfl (by kernel_rfl) rfl rfl rfl; (first | exact q_1 | exact q_2 | exact q_8 | exact q_7 | exact q_13 | exact Y_sbin rfl rfl rfl rfl | exact q_20 | exact q_25 | exact q_26))
  refine N_done (by kernel_rfl) ?_
  repeat (first | refine A_seq ?_ | refine A_block ?_ | refine R_list ?_ | refine R_quiet rfl mixed (by kernel_rfl) ?_ | ((first | apply O_y rfl rfl rfl | apply Q_y rfl rfl rfl); (first | exact q_1 | exact q_2 | exact q_3 | exact q_4 | exact q_5 | exact q_6 | exact q_7 | exact q_8 | exact q_9 | exact q_10 | exact q_11 | exact q_12 | exact q_13 | exact q_14 | exact q_15 | exact q_16 | exact q_17 | exact q_18 | exact q_19 | exact q_20 | exact q_21 | exact q_22 | exact q_23 | exact q_24 | fail)) | refine O_nil ?_ | refine Q_nil ?_ | refine q_j ?_ | refine q_k ?_ | refine q_d ?_ | refine q_a ?_ | refine q_b ?_ | refine q_c ?_ | refine A_ct rfl ?_ | refine A_cf rfl ?_ | refine A_skip ?_ | refine A_exit ?_ | refine A_ret ?_ | refine q_l ?_ | refine q_m ?_ | refine q_n ?_ | refine q_h ?_ | refine q_o ?_ | refine q_e ?_ | refine q_f ?_ | refine q_g ?_ | fail)
  exact X_ret rfl ⟨rfl, rfl⟩
set_option maxHeartbeats 4000000 in
theorem refSame_A (l m : List Rte) (hn : l.length ≤ 1000000) : ACall Tryz.prog 8 [rtesA l, rtesA m] [] (Just (boolA (decide (l = m)))) := by
  refine ACall_of tabOk Tryz.func8 rfl Tryz.ntmps8 (congrArg Array.toList Tryz.results8) (by kernel_rfl) rfl ?_
  by_cases hl : l.length = m.length
  ·
    repeat (first | refine A_seq ?_ | refine A_block ?_ | refine R_list ?_ | refine R_quiet rfl mixed (by kernel_rfl) ?_ | ((first | apply O_y rfl rfl rfl | apply Q_y rfl rfl rfl); (first | exact q_1 | exact q_2 | exact q_3 | exact q_4 | exact q_5 | exact q_6 | exact q_7 | exact q_8 | exact q_9 | exact q_10 | exact q_11 | exact q_12 | exact q_13 | exact q_14 | exact q_15 | exact q_16 | exact q_17 | exact q_18 | exact q_19 | exact q_20 | exact q_21 | exact q_22 | exact q_23 | exact q_24 | fail)) | refine O_nil ?_ | refine Q_nil ?_ | refine q_j ?_ | refine q_k ?_ | refine q_d ?_ | refine q_a ?_ | refine q_b ?_ | refine q_c ?_ | refine A_ct rfl ?_ | refine A_cf rfl ?_ | refine A_skip ?_ | refine A_exit ?_ | refine A_ret ?_ | refine q_l ?_ | refine q_m ?_ | refine q_n ?_ | refine q_h ?_ | refine q_o ?_ | refine q_e ?_ | refine q_f ?_ | refine q_g ?_ | fail)
    refine A_loop (fun k : Nat => [(0, rtesA l), (1, rtesA m), (5, intA (k : Int))]) (fun _ => []) (fun k => k ≤ l.length ∧ l.take k = m.take k) (fun k => l.length - k) 0 ⟨Nat.zero_le _, rfl⟩ (Wk_sel ⟨rfl, rfl, rfl, trivial⟩ trivial) ?_
    rintro k ⟨hk, he⟩
    dsimp only
    by_cases hlt : k < l.length
    · have hlm : k < m.length := by omega
      have heq := rteEq l[k] m[k]
      have hw0 := win_at l k hlt
      have hw1 := win_at m k hlm
      by_cases hx : l[k] = m[k]
      · rw [show (l[k] == m[k]) = true by simpa using hx] at heq
        repeat (first | refine A_seq ?_ | refine A_block ?_ | refine R_list ?_ | refine R_quiet rfl mixed (by kernel_rfl) ?_ | ((first | apply O_y rfl rfl rfl | apply Q_y rfl rfl rfl); (first | exact q_1 | exact q_2 | exact q_3 | exact q_4 | exact R_loadi tabOk rfl rfl rfl rfl hw0 rfl rfl | exact q_6 | exact q_7 | exact q_8 | exact q_9 | exact q_10 | exact q_11 | exact q_12 | exact q_13 | exact q_14 | exact q_15 | exact q_16 | exact q_17 | exact q_18 | exact q_19 | exact q_20 | exact q_21 | exact q_22 | exact q_23 | exact q_24 | (first | exact R_loadi tabOk rfl rfl rfl rfl hw1 rfl rfl | exact Y_eq tabOk noStand rfl rfl rfl rfl rfl rfl rfl rfl rfl (by kernel_rfl) heq rfl))) | refine O_nil ?_ | refine Q_nil ?_ | refine q_j ?_ | refine q_k ?_ | refine q_d ?_ | refine q_a ?_ | refine q_b ?_ | refine q_c ?_ | refine A_ct rfl ?_ | refine A_cf rfl ?_ | refine A_skip ?_ | refine A_exit ?_ | refine A_ret ?_ | refine q_l ?_ | refine q_m ?_ | refine q_n ?_ | refine q_h ?_ | refine q_o ?_ | refine q_e ?_ | refine q_f ?_ | refine q_g ?_ | fail)
        exact ⟨k + 1, ⟨by omega, by rw [List.take_succ_eq_append_getElem hlt, List.take_succ_eq_append_getElem hlm, he, hx]⟩, by omega, Wk_sel ⟨rfl, rfl, rfl, trivial⟩ trivial⟩
      · rw [show (l[k] == m[k]) = false by simpa using hx] at heq
        have hne : ¬ l = m := fun h => hx (by subst h; rfl)
        rw [show decide (l = m) = false by simpa using hne]
        repeat (first | refine A_seq ?_ | refine A_block ?_ | refine R_list ?_ | refine R_quiet rfl mixed (by kernel_rfl) ?_ | ((first | apply O_y rfl rfl rfl | apply Q_y rfl rfl rfl); (first | exact q_1 | exact q_2 | exact q_3 | exact q_4 | exact R_loadi tabOk rfl rfl rfl rfl hw0 rfl rfl | exact q_6 | exact q_7 | exact q_8 | exact q_9 | exact q_10 | exact q_11 | exact q_12 | exact q_13 | exact q_14 | exact q_15 | exact q_16 | exact q_17 | exact q_18 | exact q_19 | exact q_20 | exact q_21 | exact q_22 | exact q_23 | exact q_24 | (first | exact R_loadi tabOk rfl rfl rfl rfl hw1 rfl rfl | exact Y_eq tabOk noStand rfl rfl rfl rfl rfl rfl rfl rfl rfl (by kernel_rfl) heq rfl))) | refine O_nil ?_ | refine Q_nil ?_ | refine q_j ?_ | refine q_k ?_ | refine q_d ?_ | refine q_a ?_ | refine q_b ?_ | refine q_c ?_ | refine A_ct rfl ?_ | refine A_cf rfl ?_ | refine A_skip ?_ | refine A_exit ?_ | refine A_ret ?_ | refine q_l ?_ | refine q_m ?_ | refine q_n ?_ | refine q_h ?_ | refine q_o ?_ | refine q_e ?_ | refine q_f ?_ | refine q_g ?_ | fail)
        exact X_ret rfl ⟨rfl, rfl⟩
    · have hkk : k = l.length := by omega
      subst hkk
      rw [List.take_length, hl, List.take_length] at he
      rw [show decide (l = m) = true by simpa using he]
      repeat (first | refine A_seq ?_ | refine A_block ?_ | refine R_list ?_ | refine R_quiet rfl mixed (by kernel_rfl) ?_ | ((first | apply O_y rfl rfl rfl | apply Q_y rfl rfl rfl); (first | exact q_1 | exact q_2 | exact q_3 | exact q_4 | exact q_5 | exact q_6 | exact q_7 | exact q_8 | exact q_9 | exact q_10 | exact q_11 | exact q_12 | exact q_13 | exact q_14 | exact q_15 | exact q_16 | exact q_17 | exact q_18 | exact q_19 | exact q_20 | exact q_21 | exact q_22 | exact q_23 | exact q_24 | fail)) | refine O_nil ?_ | refine Q_nil ?_ | refine q_j ?_ | refine q_k ?_ | refine q_d ?_ | refine q_a ?_ | refine q_b ?_ | refine q_c ?_ | refine A_ct rfl ?_ | refine A_cf rfl ?_ | refine A_skip ?_ | refine A_exit ?_ | refine A_ret ?_ | refine q_l ?_ | refine q_m ?_ | refine q_n ?_ | refine q_h ?_ | refine q_o ?_ | refine q_e ?_ | refine q_f ?_ | refine q_g ?_ | fail)
      exact X_ret rfl ⟨rfl, rfl⟩
  · rw [show decide (l = m) = false by simpa using fun h => hl (by rw [h])]
    repeat (first | refine A_seq ?_ | refine A_block ?_ | refine R_list ?_ | refine R_quiet rfl mixed (by kernel_rfl) ?_ | ((first | apply O_y rfl rfl rfl | apply Q_y rfl rfl rfl); (first | exact q_1 | exact q_2 | exact q_3 | exact q_4 | exact q_5 | exact q_6 | exact q_7 | exact q_8 | exact q_9 | exact q_10 | exact q_11 | exact q_12 | exact q_13 | exact q_14 | exact q_15 | exact q_16 | exact q_17 | exact q_18 | exact q_19 | exact q_20 | exact q_21 | exact q_22 | exact q_23 | exact q_24 | fail)) | refine O_nil ?_ | refine Q_nil ?_ | refine q_j ?_ | refine q_k ?_ | refine q_d ?_ | refine q_a ?_ | refine q_b ?_ | refine q_c ?_ | refine A_ct rfl ?_ | refine A_cf rfl ?_ | refine A_skip ?_ | refine A_exit ?_ | refine A_ret ?_ | refine q_l ?_ | refine q_m ?_ | refine q_n ?_ | refine q_h ?_ | refine q_o ?_ | refine q_e ?_ | refine q_f ?_ | refine q_g ?_ | fail)
    exact X_ret rfl ⟨rfl, rfl⟩
end Go.Proofs.YtnnclkeoakjjkaaGreat.Ab

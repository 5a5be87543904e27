/-
  Texts of a proof, one behind the other (part 6).
-/
import Derived.Test.YtamnhhjcgloceaaGreatFl4
set_option linter.unusedVariables false
set_option linter.unusedSimpArgs false
namespace Go.Proofs.YtamnhhjcgloceaaGreat.Ab
set_option linter.unusedVariables false
set_option maxRecDepth 100000
open Go.RowKit Go.Lib
theorem nodup_le {α : Type} [DecidableEq α] : ∀ (V L : List α), V.Nodup → (∀ s ∈ V, s ∈ L) → V.length ≤ L.length
  | [], _, _, _ => Nat.zero_le _
  | a :: t, L, hn, h => by
    rw [List.nodup_cons] at hn
    have ha := h a (List.mem_cons_self ..)
    have h1 := nodup_le t (L.erase a) hn.2 fun s hs => (List.mem_erase_of_ne (by rintro rfl; exact hn.1 hs)).2 (h s (List.mem_cons_of_mem _ hs))
    rw [List.length_erase_of_mem ha] at h1
    have := List.length_pos_of_mem ha
    rw [List.length_cons]; omega
def wasL (V : List Rte) : List (Rte × Int) := V.map fun r => (r, 1)
theorem wasL_keys (V : List Rte) : (wasL V).map (·.1) = V := by unfold wasL; rw [List.map_map]; exact List.map_id _
theorem wasL_nd {V : List Rte} (h : V.Nodup) : ((wasL V).map (·.1)).Nodup := by rw [wasL_keys]; exact h
theorem wasL_in {V : List Rte} {r : Rte} (h : V.Nodup) (hr : r ∈ V) : Go.Proofs.YtamnhhjcgloceaaGreat.aget (wasL V) r = some 1 := aget_of_mem (wasL_nd h) (List.mem_map.2 ⟨r, hr, rfl⟩)
theorem wasL_out {V : List Rte} {r : Rte} (hr : r ∉ V) : Go.Proofs.YtamnhhjcgloceaaGreat.aget (wasL V) r = none := by
  cases h : Go.Proofs.YtamnhhjcgloceaaGreat.aget (wasL V) r with
  | none => rfl
  | some v =>
    obtain ⟨q, hq, he⟩ := List.mem_map.1 (mem_of_aget h)
    cases he
    exact absurd hq hr
theorem wasL_snoc (V : List Rte) (r : Rte) : wasL (V ++ [r]) = wasL V ++ [(r, 1)] := by unfold wasL; rw [List.map_append]; rfl
theorem wasL_nd0 {V : List Rte} {r : Rte} (h : V.Nodup) (hr : r ∉ V) : ((wasL V ++ [(r, (0 : Int))]).map (·.1)).Nodup := by
  rw [List.map_append, wasL_keys, List.nodup_append]
  exact ⟨h, by simp, fun a ha b hb => by simp at hb; subst hb; rintro rfl; exact hr ha⟩
theorem wasL_in0 {V : List Rte} {r : Rte} (h : V.Nodup) (hr : r ∉ V) : Go.Proofs.YtamnhhjcgloceaaGreat.aget (wasL V ++ [(r, (0 : Int))]) r = some 0 := aget_of_mem (wasL_nd0 h hr) (by simp)
theorem Led.empty {l : List Rte} {r s : Rte} (h : Led l r s) (hr : r.i = []) : s.i = [] := by
  cases h with
  | refl => exact hr
  | step _ _ ho => unfold onB at ho; simp at ho; exact ho.2
structure OnPre (l : List Rte) (r0 r : Rte) (V : List Rte) (O : List Hp) : Prop where
  hr : r ∉ V
  nd : V.Nodup
  emp : r.i = []
  empV : ∀ s ∈ V, s.i = []
  sub : ∀ s ∈ V, s = r0 ∨ s ∈ l
  me : r = r0 ∨ r ∈ l
  len : O.length ≤ V.length * 1000
theorem OnPre.room {l : List Rte} {r0 r : Rte} {V : List Rte} {O : List Hp} (B : OnPre l r0 r V O) {k : Nat} {V' : List Rte} {O' : List Hp} (W : Part l r V O k V' O') (hk : k ≤ 1000) (hl : l.length ≤ 1000) :
    O'.length ≤ V'.length * 1000 ∧ V'.length ≤ 1001 ∧ (∀ s ∈ V', s.i = []) ∧ ∀ s ∈ V', s = r0 ∨ s ∈ l := by
  have h1 := W.len
  have h2 := B.len
  have hs : ∀ s ∈ V', s = r0 ∨ s ∈ l := fun s hs => by
    rcases W.sub s hs with h | h | h
    · exact B.sub s h
    · rw [h]; exact B.me
    · exact .inr h
  have h3 := nodup_le V' (r0 :: l) W.nd fun s h => (hs s h).elim (fun h => by rw [h]; simp) (List.mem_cons_of_mem _)
  rw [List.length_cons] at h3
  refine ⟨by omega, by omega, fun s hs => ?_, hs⟩
  rcases W.new s hs with h | h
  · exact B.empV s h
  · exact h.empty B.emp
theorem OnPre.next {l : List Rte} {r0 r q : Rte} {V : List Rte} {O : List Hp} (B : OnPre l r0 r V O) {k : Nat} {V' : List Rte} {O' : List Hp} (W : Part l r V O k V' O') (hk : k ≤ 1000) (hl : l.length ≤ 1000) (hq : q ∉ V') (hi : q.i = []) (hm : q ∈ l) : OnPre l r0 q V' O' :=
  have h := B.room W hk hl
  ⟨hq, W.nd, hi, h.2.2.1, h.2.2.2, .inr hm, h.1⟩
abbrev onCaps : List AVal := [.ptr 1000 0, .ptr 1001 0, .ptr 1002 0, .ptr 1003 0]
def wasB (V : List Rte) : ABlk := .map (ents rteA intA (wasL V))
def onH (l V : List Rte) (O : List Hp) : Heap := [(1000, .var [.mp 1004]), (1001, .var [rtesA l]), (1002, .var [.fn 31 onCaps]), (1003, .var [.row 950]), (1004, wasB V), (950, hopB O)]
theorem kill_ents (id : Nat) (l : List (Rte × Int)) : killB id (.map (ents rteA intA l)) = .map (ents rteA intA l) := by
  show ABlk.map ((l.map fun p => (rteA p.1, intA p.2)).map fun p => (killV id p.1, killV id p.2)) = _
  rw [List.map_map]
  rfl
theorem kill_was (id : Nat) (V : List Rte) : some (killB id (wasB V)) = some (wasB V) := congrArg some (kill_ents id _)
theorem kill_was2 (i j : Nat) (V : List Rte) : some (killB i (killB j (wasB V))) = some (wasB V) := by
  rw [Option.some.inj (kill_was j V)]; exact kill_was i V
theorem kills_was (ids : List Nat) (V : List Rte) : some (killBs ids (wasB V)) = some (wasB V) := by
  show some (ABlk.map (((wasL V).map fun p => (rteA p.1, intA p.2)).map fun p => (killVs ids p.1, killVs ids p.2))) = _
  rw [List.map_map]
  have key : ∀ (r : Rte) (n : Int), (killVs ids (rteA r), killVs ids (intA n)) = (rteA r, intA n) := fun r n => by
    have h1 : hasAny ids (rteA r) = false := List.any_eq_false.2 fun x _ => by rw [show (rteA r).has x = false from rfl]; simp
    have h2 : hasAny ids (intA n) = false := List.any_eq_false.2 fun x _ => by rw [show (intA n).has x = false from rfl]; simp
    unfold killVs
    rw [h1, h2]; rfl
  show some (ABlk.map ((wasL V).map fun p => (killVs ids (rteA p.1), killVs ids (intA p.2)))) = _
  rw [List.map_congr_left fun p _ => key p.1 p.2]
  rfl
theorem fr_was (id : Nat) (d : Dat) (V : List Rte) : some (frB id d (wasB V)) = some (wasB V) := by
  show some (ABlk.map (((wasL V).map fun p => (rteA p.1, intA p.2)).map fun p => (frV id d p.1, frV id d p.2))) = _
  rw [List.map_map]
  rfl
theorem ren_was (ρ : List (Nat × Nat)) (V : List Rte) : renB ρ (wasB V) = wasB V := by
  show ABlk.map (((wasL V).map fun p => (rteA p.1, intA p.2)).map fun p => (renV ρ p.1, renV ρ p.2)) = _
  rw [List.map_map]
  rfl
theorem ok_was (ρ : List (Nat × Nat)) (V : List Rte) : okB ρ (wasB V) := fun p hp => by
  obtain ⟨q, _, rfl⟩ := List.mem_map.1 hp
  exact ⟨rfl, rfl⟩
theorem zeroInt (W : World) : (zeroValue 3).run Tryz.prog W = .ok (.int .i64 0) W := by
  have h : tlook tab 3 = some _ := rfl
  obtain ⟨z, h1, h2, i, h3, h4, _⟩ := (tabOk _ _ h).zero W
  have h5 : (Tryz.prog.info? 3).bind (·.zero) = some (.int .i64 0) := by kernel_rfl
  rw [h3] at h5
  simp only [Option.bind_some] at h5
  rw [h4] at h5
  cases h5
  exact h1
theorem A_cutF {P : Program} {nt : Nat} {Q : Post} {e : Env} {h : Heap} {z : Bool} {c y : Code} (E1 : Env) (H1 : Heap) (h1 : AWp z P nt c (AThen (fun e' h' => AWk nt e' h' E1 H1) RF) e h) (h2 : AWp z P nt y Q E1 H1) : AWp z P nt c (AThen (AWp z P nt y Q) Q) e h :=
  h1.mono fun ex e h hq => by
    cases ex with
    | normal => exact A_weaken hq h2
    | _ => exact False.elim hq
theorem look_same : ∀ (ρ : List (Nat × Nat)), (∀ x ∈ ρ, x.1 = x.2) → ∀ p i, look ρ p = some i → p = i ∧ p ∈ ρ.map (·.1)
  | [], _, p, i, h => by cases h
  | (a, b) :: r, hs, p, i, h => by
    by_cases ha : a = p
    · subst ha
      rw [look_cons_same] at h
      cases h
      exact ⟨hs (a, b) (List.mem_cons_self ..), by simp⟩
    · rw [look_cons_ne _ _ ha] at h
      have := look_same r (fun x hx => hs x (List.mem_cons_of_mem _ hx)) p i h
      exact ⟨this.1, List.mem_cons_of_mem _ this.2⟩
abbrev onRho : List (Nat × Nat) := [(1000, 1000), (1001, 1001), (1002, 1002), (1003, 1003), (1004, 1004)]
abbrev onNu : List (Nat × Nat) := [(950, 950)]
theorem onRho_same (p i : Nat) (h : look onRho p = some i) : p = i ∧ p ∈ onRho.map (·.1) := look_same _ (by simp) p i h
theorem onNu_same (p i : Nat) (h : look onNu p = some i) : p = i ∧ p ∈ onNu.map (·.1) := look_same _ (by simp) p i h
theorem onRho_inj (p p' i : Nat) (h1 : look onRho p = some i) (h2 : look onRho p' = some i) : p = p' := by rw [(onRho_same p i h1).1, (onRho_same p' i h2).1]
theorem onNu_inj (p p' i : Nat) (h1 : look onNu p = some i) (h2 : look onNu p' = some i) : p = p' := by rw [(onNu_same p i h1).1, (onNu_same p' i h2).1]
theorem onRho_dom (l V : List Rte) (O : List Hp) (p i : Nat) (h : look onRho p = some i) : 1000 ≤ p ∧ (look (onH l V O) p).isSome = true ∧ ∀ x : List Rte × List Hp, (look (onH l x.1 x.2) p).isSome = true := by
  have hm := (onRho_same p i h).2
  simp at hm
  rcases hm with rfl | rfl | rfl | rfl | rfl <;> exact ⟨by omega, rfl, fun _ => rfl⟩
theorem onNu_ok (p i : Nat) (h : look onNu p = some i) : p < 1000 ∧ i < 1000 ∧ ∀ q, look onRho q ≠ some i := by
  obtain ⟨h1, h2⟩ := onNu_same p i h
  simp at h2
  subst h1
  refine ⟨by omega, by omega, fun q hq => ?_⟩
  obtain ⟨h3, h4⟩ := onRho_same q p hq
  simp at h4
  omega
theorem frk_was (id : Nat) (d : Dat) (ids : List Nat) (V : List Rte) : some (frB id d (killBs ids (wasB V))) = some (wasB V) := by
  rw [Option.some.inj (kills_was ids V)]; exact fr_was id d V
theorem renk_was (ρ : List (Nat × Nat)) (V : List Rte) : some (renB ρ (wasB V)) = some (wasB V) := congrArg some (ren_was ρ V)
theorem was_snoc (V : List Rte) (r : Rte) : some (ABlk.map (ents rteA intA (wasL V ++ [(r, (1 : Int))]))) = some (wasB (V ++ [r])) := by unfold wasB; rw [wasL_snoc]
set_option linter.unusedSimpArgs false
attribute [local irreducible] AWp AOps AQ AYield AEff ACall AWk AAny AAt AThen AIn APost NoPanic
abbrev onE : Env := [(1, .ptr 1000 0), (2, .ptr 1001 0), (3, .ptr 1002 0), (4, .ptr 1003 0)]
def onPost (l : List Rte) (r : Rte) (V : List Rte) (O : List Hp) : AVal → Heap → Prop := fun c h => ∃ x : List Rte × List Hp, Walk l r V O x.1 x.2 ∧ c = .tup [] ∧ h = onH l x.1 x.2
set_option maxHeartbeats 16000000 in
theorem on_A (l : List Rte) (r0 : Rte) (hok : ∀ r ∈ l, okR r) (hh : ∀ r ∈ r0 :: l, 0 ≤ r.h ∧ r.h < 4294967296) (hn : l.length ≤ 1000) (n : Nat) : ∀ (r : Rte) (V : List Rte) (O : List Hp), OnPre l r0 r V O → leftN l (V ++ [r]) ≤ n →
    ACall Tryz.prog 31 (rteA r :: onCaps) (onH l V O) (onPost l r V O) := by
  induction n using Nat.strongRecOn with
  | _ n ih =>
  intro r V O B hle
  have hrm : r ∈ r0 :: l := B.me.elim (fun h => by rw [h]; simp) (List.mem_cons_of_mem _)
  have hr0 := (hh r hrm).1
  have hr1 := (hh r hrm).2
  have hlong := (ribLongest_A l hok (by omega) r.h hr0 hr1).reid (id := 951) rfl
  have hNl : (longL l r.h).length ≤ 1000 := Nat.le_trans (Nat.le_trans (sortU_len _) (List.length_filter_le _ _)) hn
  have hout := wasL_out B.hr
  have hnd := wasL_nd B.nd
  have hin0 := wasL_in0 B.nd B.hr
  have hnd0 := wasL_nd0 B.nd B.hr
  have hzero := Part.zero (l := l) (O := O) B.hr B.nd
  refine ACall_of tabOk Tryz.func31 rfl Tryz.ntmps31 (congrArg Array.toList Tryz.results31) (by kernel_rfl) rfl ?_
  repeat (first | refine A_seq ?_ | refine A_block ?_ | refine R_list ?_ | ((first | apply O_y rfl rfl rfl | apply Q_y rfl rfl rfl); (first | exact q_1 | exact q_2 | exact q_3 | exact q_4 | exact q_5 | exact q_6 | exact q_7 | exact q_8 | exact q_9 | exact q_10 | exact q_11 | exact q_12 | exact q_13 | exact q_14 | exact q_15 | exact q_16 | exact q_17 | exact q_18 | exact q_19 | exact q_20 | exact q_21 | exact q_22 | exact q_23 | exact q_24 | fail)) | refine O_nil ?_ | refine Q_nil ?_ | refine q_j ?_ | refine q_k ?_ | refine q_d ?_ | refine q_a ?_ | refine q_b ?_ | refine q_c ?_ | refine A_ct rfl ?_ | refine A_cf rfl ?_ | refine A_skip ?_ | refine A_exit ?_ | refine A_ret ?_ | refine q_l ?_ | refine q_m ?_ | refine q_n ?_ | refine q_h ?_ | refine q_o ?_ | refine q_e ?_ | refine q_f ?_ | refine q_g ?_ | fail)
  refine A_weaken (Wk_sel (e1 := (5, .ptr 5 0) :: onE) (h1 := (5, rteB1 r) :: onH l V O) ⟨rfl, rfl, rfl, rfl, rfl, trivial⟩ ⟨rfl, rfl, rfl, rfl, rfl, kill_was 5 V, rfl, trivial⟩) ?_
  refine A_cutF ((5, .ptr 5 0) :: onE) ((5, rteB1 r) :: onH l (V ++ [r]) O) ?_ ?_
  · refine N_begin [1004] mixed ?_
    (apply q_P 0 rfl (by kernel_rfl) rfl rfl rfl; (first | exact q_1 | exact q_2 | exact q_3 | exact q_4 | exact q_5 | exact q_6 | exact q_7 | exact q_8 | exact q_9 | exact q_10 | exact q_11 | exact q_12 | exact q_13 | exact q_14 | exact q_15 | exact q_16 | exact q_17 | exact q_18 | exact q_19 | exact q_20 | exact q_21 | exact q_22 | exact q_23 | exact q_24 | fail))
    (apply q_P 1 rfl (by kernel_rfl) rfl rfl rfl; (first | exact q_1 | exact q_2 | exact q_3 | exact q_4 | exact q_5 | exact q_6 | exact q_7 | exact q_8 | exact q_9 | exact q_10 | exact q_11 | exact q_12 | exact q_13 | exact q_14 | exact q_15 | exact q_16 | exact q_17 | exact q_18 | exact q_19 | exact q_20 | exact q_21 | exact q_22 | exact q_23 | exact q_24 | fail))
    refine N_two (j := 2) (k := 4) (by kernel_rfl) ?_ ?_
    · refine T_yield rfl rfl rfl rfl (R_lk0 (intA 0) (fun _ _ _ => sc_rel rfl) rteKey rteW_val zeroInt trivial (fun _ _ => trivial) hnd hout tabOk rfl rfl rfl rfl rfl rfl) ?_
      (apply q_P 3 rfl (by kernel_rfl) rfl rfl rfl; (first | exact q_1 | exact q_2 | exact q_3 | exact q_4 | exact q_5 | exact q_6 | exact q_7 | exact q_8 | exact q_9 | exact q_10 | exact q_11 | exact q_12 | exact q_13 | exact q_14 | exact q_15 | exact q_16 | exact q_17 | exact q_18 | exact q_19 | exact q_20 | exact q_21 | exact q_22 | exact q_23 | exact q_24 | fail))
      refine N_one (j := 4) (by kernel_rfl) ?_
      refine T_mapEntry0 (xa := intA) (z := (0 : Int)) rteKey rteW_val rteW_rel zeroInt (fun _ _ _ => sc_rel rfl) trivial (fun _ _ => trivial) hnd hout tabOk rfl rfl rfl rfl rfl rfl rfl rfl rfl rfl fun br bbs bb bc hbl => ?_
      (apply q_P 5 rfl (by kernel_rfl) rfl rfl rfl; (first | exact q_1 | exact q_2 | exact q_3 | exact q_4 | exact q_5 | exact q_6 | exact q_7 | exact q_8 | exact q_9 | exact q_10 | exact q_11 | exact q_12 | exact q_13 | exact q_14 | exact q_15 | exact q_16 | exact q_17 | exact q_18 | exact q_19 | exact q_20 | exact q_21 | exact q_22 | exact q_23 | exact q_24 | fail))
      refine N_one (j := 6) (by kernel_rfl) ?_
      refine T_entryStore0 (z' := (1 : Int)) hbl rfl rfl rfl rfl rfl rfl rfl rfl rfl ?_
      refine N_done (by kernel_rfl) ?_
      refine q_j ?_
      exact Wk_sel ⟨rfl, rfl, rfl, rfl, rfl, trivial⟩ ⟨rfl, rfl, rfl, rfl, rfl, was_snoc V r, rfl, trivial⟩
    · refine T_mapEntry0 (xa := intA) (z := (0 : Int)) rteKey rteW_val rteW_rel zeroInt (fun _ _ _ => sc_rel rfl) trivial (fun _ _ => trivial) hnd hout tabOk rfl rfl rfl rfl rfl rfl rfl rfl rfl rfl fun br bbs bb bc hbl => ?_
      (apply q_P 5 rfl (by kernel_rfl) rfl rfl rfl; (first | exact q_1 | exact q_2 | exact q_3 | exact q_4 | exact q_5 | exact q_6 | exact q_7 | exact q_8 | exact q_9 | exact q_10 | exact q_11 | exact q_12 | exact q_13 | exact q_14 | exact q_15 | exact q_16 | exact q_17 | exact q_18 | exact q_19 | exact q_20 | exact q_21 | exact q_22 | exact q_23 | exact q_24 | fail))
      refine N_one (j := 2) (by kernel_rfl) ?_
      refine T_yield rfl rfl rfl rfl (R_lk1x rteKey rteW_val zeroInt trivial (fun _ _ => trivial) hnd0 hin0 tabOk rfl rfl rfl rfl rfl rfl) ?_
      (apply q_P 3 rfl (by kernel_rfl) rfl rfl rfl; (first | exact q_1 | exact q_2 | exact q_3 | exact q_4 | exact q_5 | exact q_6 | exact q_7 | exact q_8 | exact q_9 | exact q_10 | exact q_11 | exact q_12 | exact q_13 | exact q_14 | exact q_15 | exact q_16 | exact q_17 | exact q_18 | exact q_19 | exact q_20 | exact q_21 | exact q_22 | exact q_23 | exact q_24 | fail))
      refine N_one (j := 6) (by kernel_rfl) ?_
      refine T_entryStore0 (z' := (1 : Int)) hbl rfl rfl rfl rfl rfl rfl rfl rfl rfl ?_
      refine N_done (by kernel_rfl) ?_
      refine q_j ?_
      exact Wk_sel ⟨rfl, rfl, rfl, rfl, rfl, trivial⟩ ⟨rfl, rfl, rfl, rfl, rfl, was_snoc V r, rfl, trivial⟩
  ·
    repeat (first | refine A_seq ?_ | refine A_block ?_ | refine R_list ?_ | ((first | apply O_y rfl rfl rfl | apply Q_y rfl rfl rfl); (first | exact q_1 | exact q_2 | exact q_3 | exact q_4 | exact q_5 | exact q_6 | exact q_7 | exact q_8 | exact q_9 | exact q_10 | exact q_11 | exact q_12 | exact q_13 | exact q_14 | exact q_15 | exact q_16 | exact q_17 | exact q_18 | exact q_19 | exact q_20 | exact q_21 | exact q_22 | exact q_23 | exact q_24 | fail)) | refine O_nil ?_ | refine Q_nil ?_ | refine q_j ?_ | refine q_k ?_ | refine q_d ?_ | refine q_a ?_ | refine q_b ?_ | refine q_c ?_ | refine A_ct rfl ?_ | refine A_cf rfl ?_ | refine A_skip ?_ | refine A_exit ?_ | refine A_ret ?_ | refine q_l ?_ | refine q_m ?_ | refine q_n ?_ | refine q_h ?_ | refine q_o ?_ | refine q_e ?_ | refine q_f ?_ | refine q_g ?_ | fail)
    refine O_cRow rfl rfl rfl rfl rfl hlong rfl ?_
    refine O_weaken (Wk_freeze (id := 951) rfl) ?_
    obtain ⟨N, hN⟩ : ∃ N, longL l r.h = N := ⟨_, rfl⟩
    rw [hN] at hNl
    refine O_weaken (Wk_sel (e1 := (5, .ptr 5 0) :: (17, rtesA N) :: onE) (h1 := (5, rteB1 r) :: onH l (V ++ [r]) O) ⟨rfl, by rw [← hN]; rfl, rfl, rfl, rfl, rfl, trivial⟩ ⟨rfl, rfl, rfl, rfl, rfl, frk_was 951 _ _ _, rfl, trivial⟩) ?_
    repeat (first | refine A_seq ?_ | refine A_block ?_ | refine R_list ?_ | ((first | apply O_y rfl rfl rfl | apply Q_y rfl rfl rfl); (first | exact q_1 | exact q_2 | exact q_3 | exact q_4 | exact q_5 | exact q_6 | exact q_7 | exact q_8 | exact q_9 | exact q_10 | exact q_11 | exact q_12 | exact q_13 | exact q_14 | exact q_15 | exact q_16 | exact q_17 | exact q_18 | exact q_19 | exact q_20 | exact q_21 | exact q_22 | exact q_23 | exact q_24 | fail)) | refine O_nil ?_ | refine Q_nil ?_ | refine q_j ?_ | refine q_k ?_ | refine q_d ?_ | refine q_a ?_ | refine q_b ?_ | refine q_c ?_ | refine A_ct rfl ?_ | refine A_cf rfl ?_ | refine A_skip ?_ | refine A_exit ?_ | refine A_ret ?_ | refine q_l ?_ | refine q_m ?_ | refine q_n ?_ | refine q_h ?_ | refine q_o ?_ | refine q_e ?_ | refine q_f ?_ | refine q_g ?_ | fail)
    refine A_loop (fun x : Nat × List Rte × List Hp => (5, .ptr 5 0) :: (17, rtesA N) :: (18, intA (N.length : Int)) :: (19, intA (x.1 : Int)) :: onE) (fun x => (5, rteB1 r) :: onH l x.2.1 x.2.2) (fun x => x.1 ≤ N.length ∧ Part l r V O x.1 x.2.1 x.2.2) (fun x => N.length - x.1) (0, V ++ [r], O) ⟨Nat.zero_le _, hzero⟩ (Wk_sel ⟨rfl, rfl, rfl, rfl, rfl, rfl, rfl, rfl, trivial⟩ ⟨rfl, rfl, rfl, rfl, rfl, rfl, rfl, trivial⟩) ?_
    rintro ⟨k, V', O'⟩ ⟨hk, W⟩
    dsimp only at hk W ⊢
    obtain ⟨b1, b2, b3, b4⟩ := B.room W (by omega) hn
    have hnd' := wasL_nd W.nd
    by_cases hkN : k < N.length
    · have hkL : k < (longL l r.h).length := by rw [hN]; exact hkN
      have hqe : (longL l r.h)[k] = N[k] := by simp only [hN]
      have hqm : N[k] ∈ l := by rw [← hqe]; exact longL_sub (List.getElem_mem hkL)
      have hw0 := win_at N k hkN
      have hskip := W.skip hkL
      have hgo := W.go hkL
      have hon := fun V2 O2 => W.on (V2 := V2) (O2 := O2) hkL
      rw [hqe] at hskip hgo hon
      obtain ⟨q, hq⟩ : ∃ q, N[k] = q := ⟨_, rfl⟩
      rw [hq] at hskip hgo hon hw0 hqm
      cases hx : q.x with
      | true =>
        have hP := hskip (fun h => by unfold onB at h; rw [hx] at h; cases h) (by unfold outB; rw [hx]; rfl)
        rw [show rteD q = [.sc (.int .u32 q.p.a), .sc (.int .i64 q.p.b), .sc (.int .u8 q.f), .sc (.int .i64 q.d), .sc (.int .i64 q.m), .sc (.int .i64 q.t), .sc (.string ⟨⟨q.i⟩⟩), .sc (.int .u32 q.h), .sc (.bool true)] by unfold rteD; rw [hx]] at hw0
        repeat (first | refine A_seq ?_ | refine A_block ?_ | refine R_list ?_ | ((first | apply O_y rfl rfl rfl | apply Q_y rfl rfl rfl); (first | exact q_1 | exact q_2 | exact q_3 | exact q_4 | exact R_loadi tabOk rfl rfl rfl rfl hw0 rfl rfl | exact q_6 | exact q_7 | exact q_8 | exact q_9 | exact q_10 | exact q_11 | exact q_12 | exact q_13 | exact q_14 | exact q_15 | exact q_16 | exact q_17 | exact q_18 | exact q_19 | exact q_20 | exact q_21 | exact q_22 | exact q_23 | exact q_24 | fail)) | refine O_nil ?_ | refine Q_nil ?_ | refine q_j ?_ | refine q_k ?_ | refine q_d ?_ | refine q_a ?_ | refine q_b ?_ | refine q_c ?_ | refine A_ct rfl ?_ | refine A_cf rfl ?_ | refine A_skip ?_ | refine A_exit ?_ | refine A_ret ?_ | refine q_l ?_ | refine q_m ?_ | refine q_n ?_ | refine q_h ?_ | refine q_o ?_ | refine q_e ?_ | refine q_f ?_ | refine q_g ?_ | fail)
        exact ⟨(k + 1, V', O'), ⟨by dsimp only; omega, hP⟩, by dsimp only; omega, Wk_sel ⟨rfl, rfl, rfl, rfl, rfl, rfl, rfl, rfl, trivial⟩ ⟨rfl, rfl, rfl, rfl, rfl, kill_was 7 V', rfl, trivial⟩⟩
      | false =>
        rw [show rteD q = [.sc (.int .u32 q.p.a), .sc (.int .i64 q.p.b), .sc (.int .u8 q.f), .sc (.int .i64 q.d), .sc (.int .i64 q.m), .sc (.int .i64 q.t), .sc (.string ⟨⟨q.i⟩⟩), .sc (.int .u32 q.h), .sc (.bool false)] by unfold rteD; rw [hx]] at hw0
        have hrte : AVal.agg [.d (.sc (.int .u32 q.p.a)), .d (.sc (.int .i64 q.p.b)), .d (.sc (.int .u8 q.f)), .d (.sc (.int .i64 q.d)), .d (.sc (.int .i64 q.m)), .d (.sc (.int .i64 q.t)), .d (.sc (.string ⟨⟨q.i⟩⟩)), .d (.sc (.int .u32 q.h)), .d (.sc (.bool false))] = rteA q := by unfold rteA; rw [hx]
        repeat (first | refine A_seq ?_ | refine A_block ?_ | refine R_list ?_ | ((first | apply O_y rfl rfl rfl | apply Q_y rfl rfl rfl); (first | exact q_1 | exact q_2 | exact q_3 | exact q_4 | exact R_loadi tabOk rfl rfl rfl rfl hw0 rfl rfl | exact q_6 | exact q_7 | exact q_8 | exact q_9 | exact q_10 | exact q_11 | exact q_12 | exact q_13 | exact q_14 | exact q_15 | exact q_16 | exact q_17 | exact q_18 | exact q_19 | exact q_20 | exact q_21 | exact q_22 | exact q_23 | exact q_24 | fail)) | refine O_nil ?_ | refine Q_nil ?_ | refine q_j ?_ | refine q_k ?_ | refine q_d ?_ | refine q_a ?_ | refine q_b ?_ | refine q_c ?_ | refine A_ct rfl ?_ | refine A_cf rfl ?_ | refine A_skip ?_ | refine A_exit ?_ | refine A_ret ?_ | refine q_l ?_ | refine q_m ?_ | refine q_n ?_ | refine q_h ?_ | refine q_o ?_ | refine q_e ?_ | refine q_f ?_ | refine q_g ?_ | fail)
        refine O_weaken (Wk_sel (e1 := (34, boolA false) :: (35, .mp 1004) :: (36, rteA q) :: (5, .ptr 5 0) :: (7, .ptr 7 0) :: (17, rtesA N) :: (18, intA (N.length : Int)) :: (19, intA (k : Int)) :: onE) (h1 := (7, rteB1 q) :: (5, rteB1 r) :: onH l V' O') ⟨rfl, rfl, congrArg some hrte, rfl, rfl, rfl, rfl, rfl, rfl, rfl, rfl, rfl, trivial⟩ ⟨by unfold rteB1 rteD; rw [hx]; rfl, rfl, rfl, rfl, rfl, rfl, kill_was 7 V', rfl, trivial⟩) ?_
        by_cases hV : q ∈ V'
        · have hP := hskip (fun _ => hV) (by unfold outB; rw [b3 q hV]; simp)
          have hin := wasL_in W.nd hV
          repeat (first | refine A_seq ?_ | refine A_block ?_ | refine R_list ?_ | ((first | apply O_y rfl rfl rfl | apply Q_y rfl rfl rfl); (first | exact q_1 | exact q_2 | exact q_3 | exact q_4 | exact q_5 | exact q_6 | exact q_7 | exact q_8 | exact q_9 | exact q_10 | exact q_11 | exact q_12 | exact q_13 | exact q_14 | exact q_15 | exact q_16 | exact q_17 | exact q_18 | exact q_19 | exact q_20 | exact q_21 | exact q_22 | exact q_23 | exact q_24 | (exact R_lk1 rteKey rteW_val zeroInt trivial (fun _ _ => trivial) hnd' hin tabOk rfl rfl rfl rfl rfl rfl))) | refine O_nil ?_ | refine Q_nil ?_ | refine q_j ?_ | refine q_k ?_ | refine q_d ?_ | refine q_a ?_ | refine q_b ?_ | refine q_c ?_ | refine A_ct rfl ?_ | refine A_cf rfl ?_ | refine A_skip ?_ | refine A_exit ?_ | refine A_ret ?_ | refine q_l ?_ | refine q_m ?_ | refine q_n ?_ | refine q_h ?_ | refine q_o ?_ | refine q_e ?_ | refine q_f ?_ | refine q_g ?_ | fail)
          exact ⟨(k + 1, V', O'), ⟨by dsimp only; omega, hP⟩, by dsimp only; omega, Wk_sel ⟨rfl, rfl, rfl, rfl, rfl, rfl, rfl, rfl, trivial⟩ ⟨rfl, rfl, rfl, rfl, rfl, rfl, rfl, trivial⟩⟩
        · have hout' := wasL_out hV
          by_cases hi : q.i = []
          · have hob : onB q = true := by unfold onB; rw [hx, decide_eq_true hi]; rfl
            have B2 := B.next W (by omega) hn hV hi hqm
            have hlt : leftN l (V' ++ [q]) < n := Nat.lt_of_lt_of_le (leftN_lt hqm hV) (Nat.le_trans (leftN_le fun s hs => (List.mem_append.1 hs).elim (W.old s) fun h => by rw [List.mem_singleton.1 h]; exact W.me) hle)
            have hrec := ih _ hlt q V' O' B2 (Nat.le_refl _)
            repeat (first | refine A_seq ?_ | refine A_block ?_ | refine R_list ?_ | ((first | apply O_y rfl rfl rfl | apply Q_y rfl rfl rfl); (first | exact q_1 | exact q_2 | exact q_3 | exact q_4 | exact q_5 | exact q_6 | exact q_7 | exact q_8 | exact q_9 | exact q_10 | exact q_11 | exact q_12 | exact q_13 | exact q_14 | exact q_15 | exact q_16 | exact q_17 | exact q_18 | exact q_19 | exact q_20 | exact q_21 | exact q_22 | exact q_23 | exact q_24 | (first | exact R_lk0 (intA 0) (fun _ _ _ => sc_rel rfl) rteKey rteW_val zeroInt trivial (fun _ _ => trivial) hnd' hout' tabOk rfl rfl rfl rfl rfl rfl | exact R_sT rfl rfl rfl rfl (decide_eq_true hi)))) | refine O_nil ?_ | refine Q_nil ?_ | refine q_j ?_ | refine q_k ?_ | refine q_d ?_ | refine q_a ?_ | refine q_b ?_ | refine q_c ?_ | refine A_ct rfl ?_ | refine A_cf rfl ?_ | refine A_skip ?_ | refine A_exit ?_ | refine A_ret ?_ | refine q_l ?_ | refine q_m ?_ | refine q_n ?_ | refine q_h ?_ | refine q_o ?_ | refine q_e ?_ | refine q_f ?_ | refine q_g ?_ | fail)
            refine O_cTV (α := List Rte × List Hp) (C := fun _ => .tup []) (H1 := fun x => onH l x.1 x.2) (Φ := fun x => Walk l q V' O' x.1 x.2) onRho onNu 950 950 onRho_inj (onRho_dom l V' O') onNu_ok onNu_inj (by decide) (by decide) (by omega) rfl ⟨950, rfl⟩ hrec rfl ⟨⟨1000, _, rfl, rfl, rfl, fun c hc => by simp at hc; subst hc; rfl⟩, ⟨1001, _, rfl, rfl, rfl, fun c hc => by simp at hc; subst hc; rfl⟩, ⟨1002, _, rfl, rfl, rfl, fun c hc => by simp at hc; subst hc; rfl⟩, ⟨1003, _, rfl, rfl, rfl, fun c hc => by simp at hc; subst hc; rfl⟩, ⟨1004, _, rfl, rfl, ren_was _ V', ok_was _ V'⟩, ⟨950, _, rfl, rfl, rfl, trivial⟩, trivial⟩ rfl rfl rfl rfl rfl rfl rfl rfl ?_
            rintro ⟨V2, O2⟩ W2
            dsimp only at W2 ⊢
            have hP := hon V2 O2 hob W2
            refine O_weaken (Wk_sel (e1 := (5, .ptr 5 0) :: (17, rtesA N) :: (18, intA (N.length : Int)) :: (19, intA (k : Int)) :: onE) (h1 := (5, rteB1 r) :: onH l V2 O2) ⟨rfl, rfl, rfl, rfl, rfl, rfl, rfl, rfl, trivial⟩ ⟨rfl, rfl, rfl, rfl, rfl, renk_was _ V2, rfl, trivial⟩) ?_
            repeat (first | refine A_seq ?_ | refine A_block ?_ | refine R_list ?_ | ((first | apply O_y rfl rfl rfl | apply Q_y rfl rfl rfl); (first | exact q_1 | exact q_2 | exact q_3 | exact q_4 | exact q_5 | exact q_6 | exact q_7 | exact q_8 | exact q_9 | exact q_10 | exact q_11 | exact q_12 | exact q_13 | exact q_14 | exact q_15 | exact q_16 | exact q_17 | exact q_18 | exact q_19 | exact q_20 | exact q_21 | exact q_22 | exact q_23 | exact q_24 | fail)) | refine O_nil ?_ | refine Q_nil ?_ | refine q_j ?_ | refine q_k ?_ | refine q_d ?_ | refine q_a ?_ | refine q_b ?_ | refine q_c ?_ | refine A_ct rfl ?_ | refine A_cf rfl ?_ | refine A_skip ?_ | refine A_exit ?_ | refine A_ret ?_ | refine q_l ?_ | refine q_m ?_ | refine q_n ?_ | refine q_h ?_ | refine q_o ?_ | refine q_e ?_ | refine q_f ?_ | refine q_g ?_ | fail)
            exact ⟨(k + 1, V2, O2), ⟨by dsimp only; omega, hP⟩, by dsimp only; omega, Wk_sel ⟨rfl, rfl, rfl, rfl, rfl, rfl, rfl, rfl, trivial⟩ ⟨rfl, rfl, rfl, rfl, rfl, rfl, rfl, trivial⟩⟩
          · have hob : outB q = true := by unfold outB; rw [hx, decide_eq_false hi]; rfl
            have hP := hgo hob
            by_cases hq0 : q.h = 0
            · rw [show hopOf r.h q = ⟨q.i, r.h⟩ by unfold hopOf; rw [if_pos hq0]] at hP
              repeat (first | refine A_seq ?_ | refine A_block ?_ | refine R_list ?_ | ((first | apply O_y rfl rfl rfl | apply Q_y rfl rfl rfl); (first | exact q_1 | exact q_2 | exact q_3 | exact q_4 | exact q_5 | exact q_6 | exact q_7 | exact q_8 | exact q_9 | exact q_10 | exact q_11 | exact q_12 | exact q_13 | exact q_14 | exact q_15 | exact q_16 | exact q_17 | exact q_18 | exact q_19 | exact q_20 | exact q_21 | exact q_22 | exact q_23 | exact q_24 | (first | exact R_lk0 (intA 0) (fun _ _ _ => sc_rel rfl) rteKey rteW_val zeroInt trivial (fun _ _ => trivial) hnd' hout' tabOk rfl rfl rfl rfl rfl rfl | exact R_sF rfl rfl rfl rfl (decide_eq_false hi)))) | refine O_nil ?_ | refine Q_nil ?_ | refine q_j ?_ | refine q_k ?_ | refine q_d ?_ | refine q_a ?_ | refine q_b ?_ | refine q_c ?_ | refine A_ct rfl ?_ | refine A_cf rfl ?_ | refine A_skip ?_ | refine A_exit ?_ | refine A_ret ?_ | refine q_l ?_ | refine q_m ?_ | refine q_n ?_ | refine q_h ?_ | refine q_o ?_ | refine q_e ?_ | refine q_f ?_ | refine q_g ?_ | (first | refine O_appR tabOk rfl rfl rfl rfl rfl rfl rfl rfl rfl rfl rfl (by first | exact Src.row rfl | exact Src.dat _ _ | exact Src.nil) rfl (by omega) ?_ | refine O_appN tabOk rfl rfl rfl rfl rfl rfl rfl rfl rfl rfl (by first | exact Src.row rfl | exact Src.dat _ _ | exact Src.nil) rfl (by omega) ?_))
              exact ⟨(k + 1, V', O' ++ [⟨q.i, r.h⟩]), ⟨by dsimp only; omega, hP⟩, by dsimp only; omega, Wk_sel ⟨rfl, rfl, rfl, rfl, rfl, rfl, rfl, rfl, trivial⟩ ⟨rfl, rfl, rfl, rfl, rfl, kill_was2 950 57 V', row_eq (by simp) (by simp [hopD]) rfl, trivial⟩⟩
            · rw [show hopOf r.h q = ⟨q.i, q.h⟩ by unfold hopOf; rw [if_neg hq0]] at hP
              repeat (first | refine A_seq ?_ | refine A_block ?_ | refine R_list ?_ | ((first | apply O_y rfl rfl rfl | apply Q_y rfl rfl rfl); (first | exact q_1 | exact q_2 | exact q_3 | exact q_4 | exact q_5 | exact q_6 | exact q_7 | exact q_8 | exact q_9 | exact q_10 | exact q_11 | exact q_12 | exact q_13 | exact q_14 | exact q_15 | exact q_16 | exact q_17 | exact q_18 | exact q_19 | exact q_20 | exact q_21 | exact q_22 | exact q_23 | exact q_24 | (first | exact R_lk0 (intA 0) (fun _ _ _ => sc_rel rfl) rteKey rteW_val zeroInt trivial (fun _ _ => trivial) hnd' hout' tabOk rfl rfl rfl rfl rfl rfl | exact R_sF rfl rfl rfl rfl (decide_eq_false hi)))) | refine O_nil ?_ | refine Q_nil ?_ | refine q_j ?_ | refine q_k ?_ | refine q_d ?_ | refine q_a ?_ | refine q_b ?_ | refine q_c ?_ | refine A_ct rfl ?_ | refine A_cf rfl ?_ | refine A_skip ?_ | refine A_exit ?_ | refine A_ret ?_ | refine q_l ?_ | refine q_m ?_ | refine q_n ?_ | refine q_h ?_ | refine q_o ?_ | refine q_e ?_ | refine q_f ?_ | refine q_g ?_ | (first | refine O_appR tabOk rfl rfl rfl rfl rfl rfl rfl rfl rfl rfl rfl (by first | exact Src.row rfl | exact Src.dat _ _ | exact Src.nil) rfl (by omega) ?_ | refine O_appN tabOk rfl rfl rfl rfl rfl rfl rfl rfl rfl rfl (by first | exact Src.row rfl | exact Src.dat _ _ | exact Src.nil) rfl (by omega) ?_))
              exact ⟨(k + 1, V', O' ++ [⟨q.i, q.h⟩]), ⟨by dsimp only; omega, hP⟩, by dsimp only; omega, Wk_sel ⟨rfl, rfl, rfl, rfl, rfl, rfl, rfl, rfl, trivial⟩ ⟨rfl, rfl, rfl, rfl, rfl, kill_was2 950 29 V', row_eq (by simp) (by simp [hopD]) rfl, trivial⟩⟩
    · have hkk : k = (longL l r.h).length := by rw [hN]; omega
      subst hkk
      have hW := W.done (by rw [hN]; exact hNl)
      repeat (first | refine A_seq ?_ | refine A_block ?_ | refine R_list ?_ | ((first | apply O_y rfl rfl rfl | apply Q_y rfl rfl rfl); (first | exact q_1 | exact q_2 | exact q_3 | exact q_4 | exact q_5 | exact q_6 | exact q_7 | exact q_8 | exact q_9 | exact q_10 | exact q_11 | exact q_12 | exact q_13 | exact q_14 | exact q_15 | exact q_16 | exact q_17 | exact q_18 | exact q_19 | exact q_20 | exact q_21 | exact q_22 | exact q_23 | exact q_24 | fail)) | refine O_nil ?_ | refine Q_nil ?_ | refine q_j ?_ | refine q_k ?_ | refine q_d ?_ | refine q_a ?_ | refine q_b ?_ | refine q_c ?_ | refine A_ct rfl ?_ | refine A_cf rfl ?_ | refine A_skip ?_ | refine A_exit ?_ | refine A_ret ?_ | refine q_l ?_ | refine q_m ?_ | refine q_n ?_ | refine q_h ?_ | refine q_o ?_ | refine q_e ?_ | refine q_f ?_ | refine q_g ?_ | fail)
      exact X_endW AWk.refl rfl (h2 := onH l V' O') ⟨rfl, rfl, rfl, rfl, rfl, rfl, trivial⟩ ⟨(V', O'), hW, rfl, rfl⟩
end Go.Proofs.YtamnhhjcgloceaaGreat.Ab

namespace Go.Proofs.YtamnhhjcgloceaaGreat.Ab
set_option linter.unusedVariables false
set_option maxRecDepth 100000
open Go.RowKit Go.Lib
set_option linter.unusedSimpArgs false
attribute [local irreducible] AWp AOps AQ AYield AEff ACall AWk AAny AAt AThen AIn APost NoPanic
theorem fsorted_A (l : List Hp) (hl : l.length ≤ 2147483648) : ACall Tryz.prog 33 [.row 1000] [(1000, hopB l)] (fun c h => c = .row 100 ∧ h = [(100, hopB (sortU ordH l))]) := by
  have h2 := sortH_A l hl
  have h3 := compactH_A (srt ordH l) (by rw [srt_len]; exact hl)
  refine ACall_of tabOk Tryz.func33 rfl Tryz.ntmps33 (congrArg Array.toList Tryz.results33) (by kernel_rfl) rfl ?_
  refine A_weaken (Wk_rename (id := 100) (t := 0) rfl rfl) ?_
  repeat (first | refine A_seq ?_ | refine A_block ?_ | refine R_list ?_ | refine R_quiet rfl mixed (by kernel_rfl) ?_ | ((first | apply O_y rfl rfl rfl | apply Q_y rfl rfl rfl); (first | exact q_1 | exact q_2 | exact q_3 | exact q_4 | exact q_5 | exact q_6 | exact q_7 | exact q_8 | exact q_9 | exact q_10 | exact q_11 | exact q_12 | exact q_13 | exact q_14 | exact q_15 | exact q_16 | exact q_17 | exact q_18 | exact q_19 | exact q_20 | exact q_21 | exact q_22 | exact q_23 | exact q_24 | fail)) | refine O_nil ?_ | refine Q_nil ?_ | refine q_j ?_ | refine q_k ?_ | refine q_d ?_ | refine q_a ?_ | refine q_b ?_ | refine q_c ?_ | refine A_ct rfl ?_ | refine A_cf rfl ?_ | refine A_skip ?_ | refine A_exit ?_ | refine A_ret ?_ | refine q_l ?_ | refine q_m ?_ | refine q_n ?_ | refine q_h ?_ | refine q_o ?_ | refine q_e ?_ | refine q_f ?_ | refine q_g ?_ | fail)
  refine O_cP [(1000, 100)] (fun p p' i h1 h2 => by rw [(look_one' h1).1, (look_one' h2).1]) (fun p i h1 => by rw [(look_one' h1).1]; exact ⟨Nat.le_refl _, rfl, rfl⟩) h2 (fun c hc => by simp at hc; rcases hc with rfl | rfl <;> rfl) ⟨⟨100, _, rfl, rfl, rfl, trivial⟩, trivial⟩ rfl rfl rfl rfl rfl rfl ?_
  repeat (first | refine A_seq ?_ | refine A_block ?_ | refine R_list ?_ | refine R_quiet rfl mixed (by kernel_rfl) ?_ | ((first | apply O_y rfl rfl rfl | apply Q_y rfl rfl rfl); (first | exact q_1 | exact q_2 | exact q_3 | exact q_4 | exact q_5 | exact q_6 | exact q_7 | exact q_8 | exact q_9 | exact q_10 | exact q_11 | exact q_12 | exact q_13 | exact q_14 | exact q_15 | exact q_16 | exact q_17 | exact q_18 | exact q_19 | exact q_20 | exact q_21 | exact q_22 | exact q_23 | exact q_24 | fail)) | refine O_nil ?_ | refine Q_nil ?_ | refine q_j ?_ | refine q_k ?_ | refine q_d ?_ | refine q_a ?_ | refine q_b ?_ | refine q_c ?_ | refine A_ct rfl ?_ | refine A_cf rfl ?_ | refine A_skip ?_ | refine A_exit ?_ | refine A_ret ?_ | refine q_l ?_ | refine q_m ?_ | refine q_n ?_ | refine q_h ?_ | refine q_o ?_ | refine q_e ?_ | refine q_f ?_ | refine q_g ?_ | fail)
  refine O_cM rfl rfl rfl rfl rfl h3 rfl (fun c hc => by simp at hc; subst hc; rfl) rfl rfl ?_
  repeat (first | refine A_seq ?_ | refine A_block ?_ | refine R_list ?_ | refine R_quiet rfl mixed (by kernel_rfl) ?_ | ((first | apply O_y rfl rfl rfl | apply Q_y rfl rfl rfl); (first | exact q_1 | exact q_2 | exact q_3 | exact q_4 | exact q_5 | exact q_6 | exact q_7 | exact q_8 | exact q_9 | exact q_10 | exact q_11 | exact q_12 | exact q_13 | exact q_14 | exact q_15 | exact q_16 | exact q_17 | exact q_18 | exact q_19 | exact q_20 | exact q_21 | exact q_22 | exact q_23 | exact q_24 | fail)) | refine O_nil ?_ | refine Q_nil ?_ | refine q_j ?_ | refine q_k ?_ | refine q_d ?_ | refine q_a ?_ | refine q_b ?_ | refine q_c ?_ | refine A_ct rfl ?_ | refine A_cf rfl ?_ | refine A_skip ?_ | refine A_exit ?_ | refine A_ret ?_ | refine q_l ?_ | refine q_m ?_ | refine q_n ?_ | refine q_h ?_ | refine q_o ?_ | refine q_e ?_ | refine q_f ?_ | refine q_g ?_ | fail)
  exact X_retW AWk.refl rfl (h2 := [(100, hopB (sortU ordH l))]) ⟨rfl, trivial⟩ ⟨rfl, rfl⟩
abbrev ledRho : List (Nat × Nat) := [(1000, 6), (1001, 2), (1002, 7), (1003, 5), (1004, 903)]
theorem ledRho_cases (p i : Nat) (h : look ledRho p = some i) : (p = 1000 ∧ i = 6) ∨ (p = 1001 ∧ i = 2) ∨ (p = 1002 ∧ i = 7) ∨ (p = 1003 ∧ i = 5) ∨ (p = 1004 ∧ i = 903) := by
  by_cases h0 : 1000 = p
  · subst h0; rw [look_cons_same] at h; cases h; simp
  rw [look_cons_ne _ _ h0] at h
  by_cases h1 : 1001 = p
  · subst h1; rw [look_cons_same] at h; cases h; simp
  rw [look_cons_ne _ _ h1] at h
  by_cases h2 : 1002 = p
  · subst h2; rw [look_cons_same] at h; cases h; simp
  rw [look_cons_ne _ _ h2] at h
  by_cases h3 : 1003 = p
  · subst h3; rw [look_cons_same] at h; cases h; simp
  rw [look_cons_ne _ _ h3] at h
  by_cases h4 : 1004 = p
  · subst h4; rw [look_cons_same] at h; cases h; simp
  rw [look_cons_ne _ _ h4] at h; cases h
theorem ledRho_inj (p p' i : Nat) (h1 : look ledRho p = some i) (h2 : look ledRho p' = some i) : p = p' := by
  have := ledRho_cases p i h1
  have := ledRho_cases p' i h2
  omega
theorem ledRho_dom (l V : List Rte) (O : List Hp) (p i : Nat) (h : look ledRho p = some i) : 1000 ≤ p ∧ (look (onH l V O) p).isSome = true ∧ ∀ x : List Rte × List Hp, (look (onH l x.1 x.2) p).isSome = true := by
  rcases ledRho_cases p i h with ⟨rfl, _⟩ | ⟨rfl, _⟩ | ⟨rfl, _⟩ | ⟨rfl, _⟩ | ⟨rfl, _⟩ <;> exact ⟨by omega, rfl, fun _ => rfl⟩
theorem ledNu_ok (p i : Nat) (h : look onNu p = some i) : p < 1000 ∧ i < 1000 ∧ ∀ q, look ledRho q ≠ some i := by
  obtain ⟨h1, h2⟩ := onNu_same p i h
  simp at h2
  subst h1
  refine ⟨by omega, by omega, fun q hq => ?_⟩
  have := ledRho_cases q p hq
  omega
set_option maxHeartbeats 8000000 in
theorem led_A (l : List Rte) (r : Rte) (hok : ∀ s ∈ l, okR s) (hh : ∀ s ∈ r :: l, 0 ≤ s.h ∧ s.h < 4294967296) (hn : l.length ≤ 1000) :
    ACall Tryz.prog 18 [rtesA l, rteA r] [] (fun c h => c = .row 950 ∧ h = [(950, hopB (ledH l r))]) := by
  have hon := on_A l r hok hh hn (leftN l ([] ++ [r])) r [] []
  obtain ⟨⟨pa, pb⟩, f, d, m, t, i, a, x⟩ := r
  cases x with
  | true =>
    rw [show ledH l ⟨⟨pa, pb⟩, f, d, m, t, i, a, true⟩ = [] by unfold ledH; rfl]
    refine ACall_of tabOk Tryz.func18 rfl Tryz.ntmps18 (congrArg Array.toList Tryz.results18) (by kernel_rfl) rfl ?_
    repeat (first | refine A_seq ?_ | refine A_block ?_ | refine R_list ?_ | ((first | apply O_y rfl rfl rfl | apply Q_y rfl rfl rfl); (first | exact q_1 | exact q_2 | exact q_3 | exact q_4 | exact q_5 | exact q_6 | exact q_7 | exact q_8 | exact q_9 | exact q_10 | exact q_11 | exact q_12 | exact q_13 | exact q_14 | exact q_15 | exact q_16 | exact q_17 | exact q_18 | exact q_19 | exact q_20 | exact q_21 | exact q_22 | exact q_23 | exact q_24 | fail)) | refine O_nil ?_ | refine Q_nil ?_ | refine q_j ?_ | refine q_k ?_ | refine q_d ?_ | refine q_a ?_ | refine q_b ?_ | refine q_c ?_ | refine A_ct rfl ?_ | refine A_cf rfl ?_ | refine A_skip ?_ | refine A_exit ?_ | refine A_ret ?_ | refine q_l ?_ | refine q_m ?_ | refine q_n ?_ | refine q_h ?_ | refine q_o ?_ | refine q_e ?_ | refine q_f ?_ | refine q_g ?_ | fail)
    exact X_retW (Wk_nil 38 2 (t := 4) (id := 950) rfl rfl) rfl (h2 := [(950, hopB [])]) ⟨rfl, trivial⟩ ⟨rfl, rfl⟩
  | false =>
    by_cases hi : i = []
    · have hpre : OnPre l ⟨⟨pa, pb⟩, f, d, m, t, i, a, false⟩ ⟨⟨pa, pb⟩, f, d, m, t, i, a, false⟩ [] [] := ⟨by simp, .nil, hi, by simp, by simp, .inl rfl, by simp⟩
      have hon := hon hpre (Nat.le_refl _)
      refine ACall_of tabOk Tryz.func18 rfl Tryz.ntmps18 (congrArg Array.toList Tryz.results18) (by kernel_rfl) rfl ?_
      repeat (first | refine A_seq ?_ | refine A_block ?_ | refine R_list ?_ | ((first | apply O_y rfl rfl rfl | apply Q_y rfl rfl rfl); (first | exact q_1 | exact q_2 | exact q_3 | exact q_4 | exact q_5 | exact q_6 | exact q_7 | exact q_8 | exact q_9 | exact q_10 | exact q_11 | exact q_12 | exact q_13 | exact q_14 | exact q_15 | exact q_16 | exact q_17 | exact q_18 | exact q_19 | exact q_20 | exact q_21 | exact q_22 | exact q_23 | exact q_24 | (first | exact R_sF rfl rfl rfl rfl (by simp [hi]) | exact Y_makeFunc rfl rfl))) | refine O_nil ?_ | refine Q_nil ?_ | refine q_j ?_ | refine q_k ?_ | refine q_d ?_ | refine q_a ?_ | refine q_b ?_ | refine q_c ?_ | refine A_ct rfl ?_ | refine A_cf rfl ?_ | refine A_skip ?_ | refine A_exit ?_ | refine A_ret ?_ | refine q_l ?_ | refine q_m ?_ | refine q_n ?_ | refine q_h ?_ | refine q_o ?_ | refine q_e ?_ | refine q_f ?_ | refine q_g ?_ | (refine O_makeMap 903 rfl rfl rfl rfl rfl ?_))
      refine O_weaken (Wk_nilB (b := 5) (id := 950) 38 2 rfl rfl rfl) ?_
      refine O_weaken (Wk_sel (e1 := [(5, .ptr 5 0), (21, .fn 31 [.ptr 6 0, .ptr 2 0, .ptr 7 0, .ptr 5 0]), (22, rteA ⟨⟨pa, pb⟩, f, d, m, t, i, a, false⟩)]) (h1 := [(6, .var [.mp 903]), (2, .var [rtesA l]), (7, .var [.fn 31 [.ptr 6 0, .ptr 2 0, .ptr 7 0, .ptr 5 0]]), (5, .var [.row 950]), (903, wasB []), (950, hopB [])]) ⟨rfl, rfl, rfl, trivial⟩ ⟨rfl, rfl, rfl, rfl, rfl, rfl, trivial⟩) ?_
      refine O_cTV (α := List Rte × List Hp) (C := fun _ => .tup []) (H1 := fun x => onH l x.1 x.2) (Φ := fun x => Walk l ⟨⟨pa, pb⟩, f, d, m, t, i, a, false⟩ [] [] x.1 x.2) ledRho onNu 950 950 ledRho_inj (ledRho_dom l [] []) ledNu_ok onNu_inj (by decide) (by decide) (by omega) rfl ⟨950, rfl⟩ hon rfl ⟨⟨6, _, rfl, rfl, rfl, fun c hc => by simp at hc; subst hc; rfl⟩, ⟨2, _, rfl, rfl, rfl, fun c hc => by simp at hc; subst hc; rfl⟩, ⟨7, _, rfl, rfl, rfl, fun c hc => by simp at hc; subst hc; rfl⟩, ⟨5, _, rfl, rfl, rfl, fun c hc => by simp at hc; subst hc; rfl⟩, ⟨903, _, rfl, rfl, ren_was _ [], ok_was _ []⟩, ⟨950, _, rfl, rfl, rfl, trivial⟩, trivial⟩ rfl rfl rfl rfl rfl rfl rfl rfl ?_
      rintro ⟨V, O⟩ W
      dsimp only at W ⊢
      have hVl := nodup_le V (⟨⟨pa, pb⟩, f, d, m, t, i, a, false⟩ :: l) W.nd fun s hs => by
        rcases W.sub s hs with h | h | h
        · cases h
        · rw [h]; simp
        · exact List.mem_cons_of_mem _ h
      rw [List.length_cons] at hVl
      have hOl : O.length ≤ V.length * 1000 := by have := W.len; simp at this; omega
      have hs := fsorted_A O (by omega)
      rw [ledH_of rfl hi fun x => W.hops x] at hs
      refine O_weaken (Wk_sel (e1 := [(5, .ptr 5 0)]) (h1 := [(5, .var [.row 950]), (950, hopB O)]) ⟨rfl, trivial⟩ ⟨rfl, rfl, trivial⟩) ?_
      repeat (first | refine A_seq ?_ | refine A_block ?_ | refine R_list ?_ | ((first | apply O_y rfl rfl rfl | apply Q_y rfl rfl rfl); (first | exact q_1 | exact q_2 | exact q_3 | exact q_4 | exact q_5 | exact q_6 | exact q_7 | exact q_8 | exact q_9 | exact q_10 | exact q_11 | exact q_12 | exact q_13 | exact q_14 | exact q_15 | exact q_16 | exact q_17 | exact q_18 | exact q_19 | exact q_20 | exact q_21 | exact q_22 | exact q_23 | exact q_24 | fail)) | refine O_nil ?_ | refine Q_nil ?_ | refine q_j ?_ | refine q_k ?_ | refine q_d ?_ | refine q_a ?_ | refine q_b ?_ | refine q_c ?_ | refine A_ct rfl ?_ | refine A_cf rfl ?_ | refine A_skip ?_ | refine A_exit ?_ | refine A_ret ?_ | refine q_l ?_ | refine q_m ?_ | refine q_n ?_ | refine q_h ?_ | refine q_o ?_ | refine q_e ?_ | refine q_f ?_ | refine q_g ?_ | fail)
      refine O_cM rfl rfl rfl rfl rfl hs rfl (fun c hc => by simp at hc; subst hc; rfl) rfl rfl ?_
      repeat (first | refine A_seq ?_ | refine A_block ?_ | refine R_list ?_ | ((first | apply O_y rfl rfl rfl | apply Q_y rfl rfl rfl); (first | exact q_1 | exact q_2 | exact q_3 | exact q_4 | exact q_5 | exact q_6 | exact q_7 | exact q_8 | exact q_9 | exact q_10 | exact q_11 | exact q_12 | exact q_13 | exact q_14 | exact q_15 | exact q_16 | exact q_17 | exact q_18 | exact q_19 | exact q_20 | exact q_21 | exact q_22 | exact q_23 | exact q_24 | fail)) | refine O_nil ?_ | refine Q_nil ?_ | refine q_j ?_ | refine q_k ?_ | refine q_d ?_ | refine q_a ?_ | refine q_b ?_ | refine q_c ?_ | refine A_ct rfl ?_ | refine A_cf rfl ?_ | refine A_skip ?_ | refine A_exit ?_ | refine A_ret ?_ | refine q_l ?_ | refine q_m ?_ | refine q_n ?_ | refine q_h ?_ | refine q_o ?_ | refine q_e ?_ | refine q_f ?_ | refine q_g ?_ | fail)
      exact X_retW AWk.refl rfl (h2 := [(950, hopB (ledH l ⟨⟨pa, pb⟩, f, d, m, t, i, a, false⟩))]) ⟨rfl, trivial⟩ ⟨rfl, rfl⟩
    · rw [show ledH l ⟨⟨pa, pb⟩, f, d, m, t, i, a, false⟩ = [⟨i, a⟩] by unfold ledH; simp [hi]]
      refine ACall_of tabOk Tryz.func18 rfl Tryz.ntmps18 (congrArg Array.toList Tryz.results18) (by kernel_rfl) rfl ?_
      repeat (first | refine A_seq ?_ | refine A_block ?_ | refine R_list ?_ | ((first | apply O_y rfl rfl rfl | apply Q_y rfl rfl rfl); (first | exact q_1 | exact q_2 | exact q_3 | exact q_4 | exact q_5 | exact q_6 | exact q_7 | exact q_8 | exact q_9 | exact q_10 | exact q_11 | exact q_12 | exact q_13 | exact q_14 | exact q_15 | exact q_16 | exact q_17 | exact q_18 | exact q_19 | exact q_20 | exact q_21 | exact q_22 | exact q_23 | exact q_24 | (exact R_sT rfl rfl rfl rfl (by simp [hi])))) | refine O_nil ?_ | refine Q_nil ?_ | refine q_j ?_ | refine q_k ?_ | refine q_d ?_ | refine q_a ?_ | refine q_b ?_ | refine q_c ?_ | refine A_ct rfl ?_ | refine A_cf rfl ?_ | refine A_skip ?_ | refine A_exit ?_ | refine A_ret ?_ | refine q_l ?_ | refine q_m ?_ | refine q_n ?_ | refine q_h ?_ | refine q_o ?_ | refine q_e ?_ | refine q_f ?_ | refine q_g ?_ | fail)
      exact X_retW (AWk.trans (Wk_sel (e1 := [(4, .row 18)]) (h1 := [(18, hopB [⟨i, a⟩])]) ⟨rfl, trivial⟩ ⟨rfl, trivial⟩) (Wk_rename (p := 18) (id := 950) (t := 4) rfl rfl)) rfl (h2 := [(950, hopB [⟨i, a⟩])]) ⟨rfl, trivial⟩ ⟨rfl, rfl⟩
end Go.Proofs.YtamnhhjcgloceaaGreat.Ab

namespace Go.Proofs.YtamnhhjcgloceaaGreat.Ab
set_option linter.unusedVariables false
set_option maxRecDepth 100000
open Go.RowKit Go.Lib
inductive GV where
  | no
  | nil
  | own (j : Nat)
  | fix (l : List Rte)
  deriving DecidableEq
def gvA : GV → AVal
  | .no => .top
  | .nil => .d (.sc (.slice none 0 0))
  | .own j => .row j
  | .fix l => rtesA l
abbrev Grp := List (Pfx × List Rte)
def gE (b : Nat) : Grp → List (Pfx × GV)
  | [] => []
  | g :: t => (g.1, .own b) :: gE (b + 1) t
def gR (b : Nat) : Grp → Heap
  | [] => []
  | g :: t => (b, rteB g.2) :: gR (b + 1) t
def gX (G : Grp) : List (Pfx × GV) := G.map fun g => (g.1, .fix g.2)
def gB (l : List (Pfx × GV)) : ABlk := .map (ents pfxA gvA l)
theorem gE_keys : ∀ (b : Nat) (G : Grp), (gE b G).map (·.1) = G.map (·.1)
  | _, [] => rfl
  | b, g :: t => by rw [gE, List.map_cons, List.map_cons, gE_keys]
theorem gE_at : ∀ (b : Nat) (G : Grp) (i : Nat) (g : Pfx × List Rte), G[i]? = some g → (gE b G)[i]? = some (g.1, .own (b + i))
  | _, [], i, g, h => by simp at h
  | b, g0 :: t, 0, g, h => by cases h; rfl
  | b, g0 :: t, i + 1, g, h => by
    have := gE_at (b + 1) t i g (by simpa using h)
    rw [gE, List.getElem?_cons_succ, this, Nat.add_assoc, Nat.add_comm 1 i]
theorem gE_snoc : ∀ (b : Nat) (G : Grp) (g : Pfx × List Rte), gE b (G ++ [g]) = gE b G ++ [(g.1, .own (b + G.length))]
  | b, [], g => rfl
  | b, g0 :: t, g => by
    rw [List.cons_append, gE, gE_snoc, gE, List.cons_append, List.length_cons, Nat.add_assoc, Nat.add_comm 1 t.length]
theorem gE_set : ∀ (b : Nat) (G : Grp) (i : Nat) (g : Pfx × List Rte) (L : List Rte), G[i]? = some g → gE b (G.set i (g.1, L)) = gE b G
  | b, [], i, g, L, h => by simp at h
  | b, g0 :: t, 0, g, L, h => by cases h; rfl
  | b, g0 :: t, i + 1, g, L, h => by
    have := gE_set (b + 1) t i g L (by simpa using h)
    rw [List.set_cons_succ, gE, gE, this]
theorem gE_own : ∀ (b : Nat) (G : Grp) (p : Pfx) (v : GV), (p, v) ∈ gE b G → ∃ j, b ≤ j ∧ j < b + G.length ∧ v = .own j
  | b, [], p, v, h => by cases h
  | b, g0 :: t, p, v, h => by
    rw [gE] at h
    rcases List.mem_cons.1 h with h | h
    · cases h; exact ⟨b, by omega, by simp, rfl⟩
    · obtain ⟨j, h1, h2, h3⟩ := gE_own (b + 1) t p v h
      exact ⟨j, by omega, by rw [List.length_cons]; omega, h3⟩
theorem gR_at : ∀ (b : Nat) (G : Grp) (i : Nat) (g : Pfx × List Rte), G[i]? = some g → look (gR b G) (b + i) = some (rteB g.2)
  | _, [], i, g, h => by simp at h
  | b, g0 :: t, 0, g, h => by cases h; exact look_cons_same _ _ _
  | b, g0 :: t, i + 1, g, h => by
    rw [gR, look_cons_ne _ _ (by omega)]
    have := gR_at (b + 1) t i g (by simpa using h)
    rw [← this]; congr 1; omega
theorem gR_in : ∀ (b : Nat) (G : Grp) (id : Nat) (x : ABlk), look (gR b G) id = some x → ∃ i g, G[i]? = some g ∧ id = b + i ∧ x = rteB g.2
  | _, [], id, x, h => by cases h
  | b, g0 :: t, id, x, h => by
    by_cases hb : b = id
    · subst hb
      rw [gR, look_cons_same] at h
      cases h
      exact ⟨0, g0, rfl, rfl, rfl⟩
    · rw [gR, look_cons_ne _ _ hb] at h
      obtain ⟨i, g, h1, h2, h3⟩ := gR_in (b + 1) t id x h
      exact ⟨i + 1, g, by simpa using h1, by omega, h3⟩
def gK (id : Nat) (l : List (Pfx × GV)) : List (Pfx × GV) := l.map fun p => (p.1, if p.2 = .own id then .no else p.2)
theorem gvA_kill (id : Nat) (v : GV) : killV id (gvA v) = gvA (if v = .own id then .no else v) := by
  cases v with
  | no => rw [if_neg (by simp)]; rfl
  | nil => rw [if_neg (by simp)]; rfl
  | fix l => rw [if_neg (by simp)]; rfl
  | own j =>
    by_cases h : j = id
    · subst h
      rw [if_pos rfl]
      show cond (j == j) _ _ = _
      simp [gvA]
    · rw [if_neg (by simpa using h)]
      show cond (j == id) _ _ = _
      rw [show (j == id) = false by simpa using h]
      rfl
theorem kill_gents (id : Nat) (l : List (Pfx × GV)) : (ents pfxA gvA l).map (fun p => (killV id p.1, killV id p.2)) = ents pfxA gvA (gK id l) := by
  unfold ents gK
  rw [List.map_map, List.map_map]
  refine List.map_congr_left fun p _ => ?_
  show (killV id (pfxA p.1), killV id (gvA p.2)) = _
  rw [gvA_kill]
  rfl
theorem gK_out (id : Nat) (l : List (Pfx × GV)) (h : ∀ p ∈ l, p.2 ≠ .own id) : gK id l = l := by
  unfold gK
  conv => rhs; rw [← List.map_id l]
  refine List.map_congr_left fun p hp => ?_
  rw [if_neg (h p hp)]; rfl
theorem gK_set : ∀ (b : Nat) (G : Grp) (i : Nat) (g : Pfx × List Rte), G[i]? = some g → (gK (b + i) (gE b G)).set i (g.1, .own (b + i)) = gE b G
  | b, [], i, g, h => by simp at h
  | b, g0 :: t, 0, g, h => by
    cases h
    rw [gE]
    show (_ :: gK (b + 0) (gE (b + 1) t)).set 0 _ = _
    rw [List.set_cons_zero, gK_out]
    · rfl
    · rintro ⟨p, v⟩ hp
      obtain ⟨j, h1, h2, h3⟩ := gE_own _ _ _ _ hp
      dsimp only
      rw [h3]
      simp; omega
  | b, g0 :: t, i + 1, g, h => by
    have := gK_set (b + 1) t i g (by simpa using h)
    rw [gE]
    show (((g0.1, if (GV.own b) = .own (b + (i + 1)) then GV.no else .own b) :: gK (b + (i + 1)) (gE (b + 1) t)).set (i + 1) _) = _
    rw [List.set_cons_succ, if_neg (by simp), show b + (i + 1) = b + 1 + i by omega, this]
theorem gK_snoc (b : Nat) (G : Grp) (p : Pfx) : gK (b + G.length) (gE b G ++ [(p, .nil)]) = gE b G ++ [(p, .nil)] := gK_out _ _ fun q hq => by
  rcases List.mem_append.1 hq with hq | hq
  · obtain ⟨p', v⟩ := q
    obtain ⟨j, h1, h2, h3⟩ := gE_own _ _ _ _ hq
    dsimp only
    rw [h3]
    simp; omega
  · simp at hq; rw [hq]; simp
theorem Wk_look {nt : Nat} {e e1 : Env} {h h1 : Heap} (he : Sub e1 e) (hh : ∀ id b, look h1 id = some b → look h id = some b) : AWk nt e h e1 h1 := fun Pm F w0 pin ι a w R =>
  ⟨only h1 ι, R.heap.only hh, fun t c ht => let ⟨u, hu, hv⟩ := R.env t c (he.look ht); ⟨u, hu, hv.only h1⟩, R.defers.ext (only_ext w F h1 ι), R.size⟩
end Go.Proofs.YtamnhhjcgloceaaGreat.Ab

namespace Go.Proofs.YtamnhhjcgloceaaGreat.Ab
set_option linter.unusedVariables false
open Go.RowKit Go.Lib
def goodL (l : List Rte) : List Rte := l.filter fun r => decide (chk r.p = 0)
def grp1 (G : Grp) (r : Rte) : Grp := Go.Proofs.YtamnhhjcgloceaaGreat.aput G r.p ((Go.Proofs.YtamnhhjcgloceaaGreat.aget G r.p).getD [] ++ [r])
def grp (l : List Rte) : Grp := (goodL l).foldl grp1 []
theorem goodL_take (l : List Rte) (k : Nat) (h : k < l.length) : goodL (l.take (k + 1)) = if chk l[k].p = 0 then goodL (l.take k) ++ [l[k]] else goodL (l.take k) := by
  unfold goodL
  rw [List.take_succ_eq_append_getElem h, List.filter_append]
  by_cases hc : chk l[k].p = 0
  · rw [if_pos hc]; simp [hc]
  · rw [if_neg hc]; simp [hc]
theorem grp_take (l : List Rte) (k : Nat) (h : k < l.length) : grp (l.take (k + 1)) = if chk l[k].p = 0 then grp1 (grp (l.take k)) l[k] else grp (l.take k) := by
  unfold grp
  rw [goodL_take l k h]
  split
  · rw [List.foldl_append]; rfl
  · rfl
theorem grp1_nd {G : Grp} (h : (G.map (·.1)).Nodup) (r : Rte) : ((grp1 G r).map (·.1)).Nodup := aput_nodup h
theorem grp_nd (l : List Rte) : ((grp l).map (·.1)).Nodup := by
  have key : ∀ (m : List Rte) (G : Grp), (G.map (·.1)).Nodup → ((m.foldl grp1 G).map (·.1)).Nodup := by
    intro m
    induction m with
    | nil => exact fun G h => h
    | cons a t ih => exact fun G h => ih _ (grp1_nd h a)
  exact key _ _ (by simp)
theorem grp_get (l : List Rte) (p : Pfx) : (Go.Proofs.YtamnhhjcgloceaaGreat.aget (grp l) p).getD [] = ofP (goodL l) p := by
  have key : ∀ (m : List Rte) (G : Grp), (G.map (·.1)).Nodup → (Go.Proofs.YtamnhhjcgloceaaGreat.aget (m.foldl grp1 G) p).getD [] = (Go.Proofs.YtamnhhjcgloceaaGreat.aget G p).getD [] ++ ofP m p := by
    intro m
    induction m with
    | nil => intro G _; simp [ofP]
    | cons a t ih =>
      intro G h
      rw [List.foldl_cons, ih _ (grp1_nd h a)]
      unfold grp1
      rw [aget_aput h]
      unfold ofP
      by_cases hp : p = a.p
      · subst hp
        rw [if_pos rfl, List.filter_cons, if_pos (by simp)]
        simp
      · rw [if_neg hp, List.filter_cons, if_neg (by simpa using fun h => hp h.symm)]
  have := key (goodL l) [] (by simp)
  unfold grp
  rw [this]
  simp [Go.Proofs.YtamnhhjcgloceaaGreat.aget, Go.Proofs.YtamnhhjcgloceaaGreat.mget]
theorem mget_gE : ∀ (b : Nat) (G : Grp) (p : Pfx), Go.Proofs.YtamnhhjcgloceaaGreat.mget (gE b G) p = (Go.Proofs.YtamnhhjcgloceaaGreat.mget G p).map fun x => (x.1, GV.own (b + x.1))
  | _, [], _ => rfl
  | b, g :: t, p => by
    rw [gE]
    unfold Go.Proofs.YtamnhhjcgloceaaGreat.mget
    obtain ⟨q, L⟩ := g
    dsimp only
    by_cases hp : p = q
    · rw [if_pos hp, if_pos hp]; rfl
    · rw [if_neg hp, if_neg hp, mget_gE (b + 1) t p]
      cases Go.Proofs.YtamnhhjcgloceaaGreat.mget t p with
      | none => rfl
      | some x => simp; omega
theorem grp1_new {G : Grp} {r : Rte} (h : Go.Proofs.YtamnhhjcgloceaaGreat.mget G r.p = none) : grp1 G r = G ++ [(r.p, [r])] := by
  unfold grp1 Go.Proofs.YtamnhhjcgloceaaGreat.aget Go.Proofs.YtamnhhjcgloceaaGreat.aput
  rw [h]; rfl
theorem grp1_old {G : Grp} {r : Rte} {i : Nat} {L : List Rte} (h : Go.Proofs.YtamnhhjcgloceaaGreat.mget G r.p = some (i, L)) : grp1 G r = G.set i (r.p, L ++ [r]) := by
  unfold grp1 Go.Proofs.YtamnhhjcgloceaaGreat.aget Go.Proofs.YtamnhhjcgloceaaGreat.aput
  rw [h]; rfl
theorem grp1_len (G : Grp) (r : Rte) : (grp1 G r).length ≤ G.length + 1 := by
  unfold grp1
  rw [aput_length]
  split <;> omega
theorem grp_len (l : List Rte) : (grp l).length ≤ l.length := by
  have key : ∀ (m : List Rte) (G : Grp), (m.foldl grp1 G).length ≤ G.length + m.length := by
    intro m
    induction m with
    | nil => exact fun G => Nat.le_refl _
    | cons a t ih => intro G; have := ih (grp1 G a); have := grp1_len G a; rw [List.foldl_cons, List.length_cons]; omega
  have := key (goodL l) []
  have h2 : (goodL l).length ≤ l.length := List.length_filter_le _ _
  unfold grp
  simp at this
  omega
end Go.Proofs.YtamnhhjcgloceaaGreat.Ab

namespace Go.Proofs.YtamnhhjcgloceaaGreat
set_option linter.unusedVariables false
open Go.RowKit Go.Lib
theorem cmpP_ord (p q : Pfx) : cmpP p q = ordP p q := by
  obtain ⟨a, b⟩ := p
  obtain ⟨c, d⟩ := q
  unfold cmpP ordP lexc c2
  simp only [Pfx.mk.injEq]
  repeat' split
  all_goals omega
theorem ordP_eq (x y : Pfx) (h : ordP x y = 0) : x = y := (ordP_zero x y).1 h
def pfxL (p : Pfx) : List Value := [.int .u32 p.a, .int .i64 p.b]
namespace Ab
def pfxB (l : List Pfx) : ABlk := .row 27 2 l.length (l.flatMap pfxD)
theorem pfxCmp_A (p q : Pfx) : ACall Tryz.prog 38 [pfxA p, pfxA q] [] (Just (intA (ordP p q))) := by
  rw [← cmpP_ord]; exact cmp_A p q
end Ab
section
open Go.RowKit Go.Sort Go.Lib
set_option maxRecDepth 100000
theorem insNilP (c : Value) (w : World) : Calls Tryz.prog 71 #[.slice none 0 0, .int .i64 0, .int .i64 0, c] w (RetS w (.tuple #[])) := by
  go_enter Tryz.func71, Tryz.ntmps71
  go_wp2_with fail
  refine wp_loop_rounds 1 ?_
  rw [rounds_succ]; go_wp2_with fail
  go_end0
  exact ⟨rfl, rfl⟩
theorem pdqNilP (c : Value) (w : World) (n : Int) : Calls Tryz.prog 57 #[.slice none 0 0, .int .i64 0, .int .i64 0, .int .i64 n, c] w (RetS w (.tuple #[])) := by
  go_enter Tryz.func57, Tryz.ntmps57
  go_wp2_with fail
  refine wp_loop_rounds 1 ?_
  rw [rounds_succ]; go_wp2_with fail
  refine (insNilP c _).mono ?_
  rintro e w' ⟨rfl, rfl⟩
  go_wp2_with fail
  go_end0
  exact ⟨rfl, rfl⟩
theorem sortNilP (c : Value) (w : World) : Calls Tryz.prog 37 #[.slice none 0 0, c] w (RetS w (.tuple #[])) := by
  have hl := fun W => Any.bits_Len (SlLaysF0.n15.bits (P := _) (ρ := _) { Tryz.sortPrefix with }) (0 : Int) W (by omega) (by omega)
  go_enter Tryz.func37, Tryz.ntmps37
  go_wp2_with fail
  refine (hl _).mono ?_
  rintro e w' ⟨rfl, rfl⟩
  go_wp2_with fail
  refine (pdqNilP c _ _).mono ?_
  rintro e w' ⟨rfl, rfl⟩
  go_wp2_with fail
  go_end0
  exact ⟨rfl, rfl⟩
end
namespace Ab
set_option maxRecDepth 100000
open Go.RowKit Go.Lib
set_option linter.unusedSimpArgs false
attribute [local irreducible] AWp AOps AQ AYield AEff ACall AWk AAny AAt AThen AIn APost NoPanic
theorem sortO_A (l : List Pfx) (hn : l.length ≤ 2147483648) : ACall Tryz.prog 37 [.row 1000, .fn 38 []] [(1000, pfxB l)] (fun c h => c = .tup [] ∧ h = [(1000, pfxB (srt ordP l))]) := by
  have := sortG (α := Pfx) Tryz.sortPrefix (f := 37) (el := 27) (k := 2) rfl (by kernel_rfl) (fun W => Tryz.isAgg27 W) (fun W => Tryz.sizeOf27 W) (enc := pfxL) (fun _ => rfl)
    (fun x v hv => by simp [pfxL] at hv; rcases hv with rfl | rfl <;> rfl) (eA := pfxA) (fun _ => rfl) (fun _ => rfl) (eD := pfxD) (fun _ => rfl) good_ordP ordP_eq (g := 38) pfxCmp_A (fun w => (sortNilP _ w).mono fun e w' h => ⟨h.1, h.2.symm⟩) l hn
  unfold pfxB
  rw [srt_len]
  exact this
structure CptP (l m : List Pfx) (k q : Nat) : Prop where
  len : m.length = l.length
  q1 : q ≤ l.length
  kq : k < q
  k0 : 0 < k
  front : m.take k = dedA (l.take q)
  back : ∀ i, q ≤ i + 1 → m[i]? = l[i]?
theorem cptP_next {l m : List Pfx} {k q : Nat} (C : CptP l m k q) (h : q < l.length) (he : l[q - 1]'(by omega) = l[q]) : CptP l m k (q + 1) := by
  have := C.kq
  have := C.k0
  refine ⟨C.len, by omega, by omega, C.k0, ?_, fun i hi => C.back i (by omega)⟩
  rw [ded_take l q (by omega) h, if_pos he, C.front]
theorem cptP_put {l m : List Pfx} {k q : Nat} (C : CptP l m k q) (h : q < l.length) (he : l[q - 1]'(by omega) ≠ l[q]) : CptP l (m.set k l[q]) (k + 1) (q + 1) := by
  have h1 := C.kq
  have h2 := C.k0
  have h3 := C.len
  refine ⟨by rw [List.length_set, h3], by omega, by omega, by omega, ?_, fun i hi => ?_⟩
  · rw [ded_take l q (by omega) h, if_neg he, ← C.front, List.take_succ_eq_append_getElem (by rw [List.length_set]; omega), List.getElem_set_self, List.take_set_of_le (Nat.le_refl _)]
  · rw [List.getElem?_set_ne (by omega)]
    exact C.back i (by omega)
theorem winP_at (l : List Pfx) (k : Nat) (h : k < l.length) : win (l.flatMap pfxD) (k * 2) 2 = pfxD l[k] := win_flat0 pfxD_len l k 2 h (by decide)
theorem winP_part (l : List Pfx) (a b : Nat) (h : a + b < l.length) : win (l.flatMap pfxD) (a * 2 + b * 2) 2 = pfxD l[a + b] := by rw [← Nat.add_mul]; exact winP_at l (a + b) h
set_option maxHeartbeats 8000000 in
theorem compactP_A (l : List Pfx) (hn : l.length ≤ 2147483648) : ACall Tryz.prog 39 [.row 1000] [(1000, pfxB l)] (fun c h => c = .row 100 ∧ h = [(100, pfxB (dedA l))]) := by
  refine ACall_of tabOk Tryz.func39 rfl Tryz.ntmps39 (congrArg Array.toList Tryz.results39) (by kernel_rfl) rfl ?_
  refine A_weaken (Wk_rename (id := 100) (t := 0) rfl rfl) ?_
  by_cases h2 : l.length < 2
  · have hd : dedA l = l := by match l, h2 with | [], _ => rfl | [x], _ => rfl
    rw [hd]
    repeat (first | refine A_seq ?_ | refine A_block ?_ | refine R_list ?_ | refine R_quiet rfl mixed (by kernel_rfl) ?_ | ((first | apply O_y rfl rfl rfl | apply Q_y rfl rfl rfl); (first | exact q_1 | exact q_2 | exact q_3 | exact q_4 | exact q_5 | exact q_6 | exact q_7 | exact q_8 | exact q_9 | exact q_10 | exact q_11 | exact q_12 | exact q_13 | exact q_14 | exact q_15 | exact q_16 | exact q_17 | exact q_18 | exact q_19 | exact q_20 | exact q_21 | exact q_22 | exact q_23 | exact q_24 | fail)) | refine O_nil ?_ | refine Q_nil ?_ | refine q_j ?_ | refine q_k ?_ | refine q_d ?_ | refine q_a ?_ | refine q_b ?_ | refine q_c ?_ | refine A_ct rfl ?_ | refine A_cf rfl ?_ | refine A_skip ?_ | refine A_exit ?_ | refine A_ret ?_ | refine q_l ?_ | refine q_m ?_ | refine q_n ?_ | refine q_h ?_ | refine q_o ?_ | refine q_e ?_ | refine q_f ?_ | refine q_g ?_ | fail)
    exact X_retW AWk.refl rfl (h2 := [(100, pfxB l)]) ⟨rfl, trivial⟩ ⟨rfl, rfl⟩
  ·
    repeat (first | refine A_seq ?_ | refine A_block ?_ | refine R_list ?_ | refine R_quiet rfl mixed (by kernel_rfl) ?_ | ((first | apply O_y rfl rfl rfl | apply Q_y rfl rfl rfl); (first | exact q_1 | exact q_2 | exact q_3 | exact q_4 | exact q_5 | exact q_6 | exact q_7 | exact q_8 | exact q_9 | exact q_10 | exact q_11 | exact q_12 | exact q_13 | exact q_14 | exact q_15 | exact q_16 | exact q_17 | exact q_18 | exact q_19 | exact q_20 | exact q_21 | exact q_22 | exact q_23 | exact q_24 | fail)) | refine O_nil ?_ | refine Q_nil ?_ | refine q_j ?_ | refine q_k ?_ | refine q_d ?_ | refine q_a ?_ | refine q_b ?_ | refine q_c ?_ | refine A_ct rfl ?_ | refine A_cf rfl ?_ | refine A_skip ?_ | refine A_exit ?_ | refine A_ret ?_ | refine q_l ?_ | refine q_m ?_ | refine q_n ?_ | refine q_h ?_ | refine q_o ?_ | refine q_e ?_ | refine q_f ?_ | refine q_g ?_ | fail)
    refine A_loop (fun k : Nat => [(0, .row 100), (3, intA (k : Int))]) (fun _ => [(100, pfxB l)]) (fun k => 1 ≤ k ∧ k ≤ l.length ∧ dedA (l.take k) = l.take k) (fun k => l.length - k) 1 ⟨by omega, by omega, ?_⟩ (Wk_sel ⟨rfl, rfl, trivial⟩ ⟨rfl, trivial⟩) ?_
    · match l with
      | [] => rfl
      | x :: r => rfl
    rintro k ⟨hk1, hk2, hd⟩
    dsimp only
    by_cases hlt : k < l.length
    · have hlt1 : k - 1 < l.length := by omega
      have hk' : ((k : Int) - 1) = ((k - 1 : Nat) : Int) := by omega
      have heq := pfxEq l[k] l[k - 1]
      have hw0 := winP_at l k hlt
      have hw1 := winP_at l (k - 1) hlt1
      by_cases he : l[k] = l[k - 1]
      · rw [show (l[k] == l[k - 1]) = true by simpa using he] at heq
        repeat (first | refine A_seq ?_ | refine A_block ?_ | refine R_list ?_ | refine R_quiet rfl mixed (by kernel_rfl) ?_ | ((first | apply O_y rfl rfl rfl | apply Q_y rfl rfl rfl); (first | exact q_1 | exact q_2 | exact q_3 | exact q_4 | exact q_5 | exact q_6 | exact q_7 | exact q_8 | exact q_9 | exact q_10 | exact q_11 | exact q_12 | exact q_13 | exact q_14 | exact q_15 | exact q_16 | exact q_17 | exact q_18 | exact q_19 | exact q_20 | exact q_21 | exact q_22 | exact q_23 | exact q_24 | (first | exact R_indexr tabOk rfl rfl rfl rfl rfl rfl hk' hlt1 | exact R_loade tabOk rfl rfl rfl rfl rfl rfl hw0 rfl rfl | exact R_loade tabOk rfl rfl rfl rfl rfl rfl hw1 rfl rfl | exact Y_eq tabOk noStand rfl rfl rfl rfl rfl rfl rfl rfl rfl (by kernel_rfl) heq rfl | exact R_rowFrom tabOk rfl rfl rfl rfl rfl rfl rfl (Nat.le_of_lt hlt)))) | refine O_nil ?_ | refine Q_nil ?_ | refine q_j ?_ | refine q_k ?_ | refine q_d ?_ | refine q_a ?_ | refine q_b ?_ | refine q_c ?_ | refine A_ct rfl ?_ | refine A_cf rfl ?_ | refine A_skip ?_ | refine A_exit ?_ | refine A_ret ?_ | refine q_l ?_ | refine q_m ?_ | refine q_n ?_ | refine q_h ?_ | refine q_o ?_ | refine q_e ?_ | refine q_f ?_ | refine q_g ?_ | fail)
        refine A_loop (fun x : Nat × Nat × List Pfx => [(0, .row 100), (3, intA (x.1 : Int)), (4, .srow 100 (k * 2) (l.length - k)), (5, intA (x.2.1 : Int))]) (fun x => [(100, pfxB x.2.2)]) (fun x => 1 ≤ x.2.1 ∧ CptP l x.2.2 x.1 (k + x.2.1)) (fun x => l.length - x.2.1) (k, 1, l) ⟨Nat.le_refl _, rfl, hlt, Nat.lt_succ_self k, hk1, ?_, fun _ _ => rfl⟩ (Wk_sel ⟨rfl, rfl, rfl, rfl, trivial⟩ ⟨rfl, trivial⟩) ?_
        · rw [ded_take l k hk1 hlt, if_pos he.symm, hd]
        rintro ⟨K, j, m⟩ ⟨hj, C⟩
        dsimp only at hj C ⊢
        have c1 := C.len
        have c2 := C.q1
        have c3 := C.kq
        have c4 := C.k0
        by_cases hq : k + j < l.length
        · have hjk : j < l.length - k := by omega
          have hjk1 : j - 1 < l.length - k := by omega
          have hj' : ((j : Int) - 1) = ((j - 1 : Nat) : Int) := by omega
          have e1 : m[k + j]'(by omega) = l[k + j] := by
            have := C.back (k + j) (by omega)
            rw [List.getElem?_eq_getElem (by omega), List.getElem?_eq_getElem hq] at this
            exact Option.some.inj this
          have e2 : m[k + (j - 1)]'(by omega) = l[k + j - 1] := by
            have := C.back (k + (j - 1)) (by omega)
            rw [List.getElem?_eq_getElem (by omega), List.getElem?_eq_getElem (show k + (j - 1) < l.length by omega)] at this
            rw [Option.some.inj this]
            congr 1
            omega
          have hw2 := winP_part m k j (by omega)
          have hw3 := winP_part m k (j - 1) (by omega)
          rw [e1] at hw2
          rw [e2] at hw3
          have heq2 := pfxEq l[k + j] l[k + j - 1]
          by_cases hs : l[k + j - 1] = l[k + j]
          · rw [show (l[k + j] == l[k + j - 1]) = true by simpa using hs.symm] at heq2
            repeat (first | refine A_seq ?_ | refine A_block ?_ | refine R_list ?_ | refine R_quiet rfl mixed (by kernel_rfl) ?_ | ((first | apply O_y rfl rfl rfl | apply Q_y rfl rfl rfl); (first | exact q_1 | exact q_2 | exact q_3 | exact q_4 | exact q_5 | exact q_6 | exact q_7 | exact q_8 | exact q_9 | exact q_10 | exact q_11 | exact q_12 | exact q_13 | exact q_14 | exact q_15 | exact q_16 | exact q_17 | exact q_18 | exact q_19 | exact q_20 | exact q_21 | exact q_22 | exact q_23 | exact q_24 | (first | exact R_lens tabOk rfl rfl rfl rfl | exact R_indexs tabOk rfl rfl rfl rfl rfl rfl rfl hjk | exact R_indexs tabOk rfl rfl rfl rfl rfl rfl rfl hjk1 | exact R_indexs tabOk rfl rfl rfl rfl rfl rfl hj' hjk1 | exact R_loade tabOk rfl rfl rfl rfl rfl rfl hw2 rfl rfl | exact R_loade tabOk rfl rfl rfl rfl rfl rfl hw3 rfl rfl | exact Y_eq tabOk noStand rfl rfl rfl rfl rfl rfl rfl rfl rfl (by kernel_rfl) heq2 rfl))) | refine O_nil ?_ | refine Q_nil ?_ | refine q_j ?_ | refine q_k ?_ | refine q_d ?_ | refine q_a ?_ | refine q_b ?_ | refine q_c ?_ | refine A_ct rfl ?_ | refine A_cf rfl ?_ | refine A_skip ?_ | refine A_exit ?_ | refine A_ret ?_ | refine q_l ?_ | refine q_m ?_ | refine q_n ?_ | refine q_h ?_ | refine q_o ?_ | refine q_e ?_ | refine q_f ?_ | refine q_g ?_ | fail)
            exact ⟨(K, j + 1, m), ⟨by dsimp only; omega, by dsimp only; exact cptP_next C hq hs⟩, by dsimp only; omega, Wk_sel ⟨rfl, rfl, rfl, rfl, trivial⟩ ⟨rfl, trivial⟩⟩
          · rw [show (l[k + j] == l[k + j - 1]) = false by simpa using fun h => hs h.symm] at heq2
            have hKm : K < m.length := by omega
            have hfl : (m.flatMap pfxD).length = m.length * 2 := flat_len pfxD_len m
            repeat (first | refine A_seq ?_ | refine A_block ?_ | refine R_list ?_ | refine R_quiet rfl mixed (by kernel_rfl) ?_ | ((first | apply O_y rfl rfl rfl | apply Q_y rfl rfl rfl); (first | exact q_1 | exact q_2 | exact q_3 | exact q_4 | exact q_5 | exact q_6 | exact q_7 | exact q_8 | exact q_9 | exact q_10 | exact q_11 | exact q_12 | exact q_13 | exact q_14 | exact q_15 | exact q_16 | exact q_17 | exact q_18 | exact q_19 | exact q_20 | exact q_21 | exact q_22 | exact q_23 | exact q_24 | (first | exact R_lens tabOk rfl rfl rfl rfl | exact R_indexs tabOk rfl rfl rfl rfl rfl rfl rfl hjk | exact R_indexs tabOk rfl rfl rfl rfl rfl rfl rfl hjk1 | exact R_indexs tabOk rfl rfl rfl rfl rfl rfl hj' hjk1 | exact R_loade tabOk rfl rfl rfl rfl rfl rfl hw2 rfl rfl | exact R_loade tabOk rfl rfl rfl rfl rfl rfl hw3 rfl rfl | exact Y_eq tabOk noStand rfl rfl rfl rfl rfl rfl rfl rfl rfl (by kernel_rfl) heq2 rfl | exact R_indexr tabOk rfl rfl rfl rfl rfl rfl rfl hKm))) | refine O_nil ?_ | refine Q_nil ?_ | refine q_j ?_ | refine q_k ?_ | refine q_d ?_ | refine q_a ?_ | refine q_b ?_ | refine q_c ?_ | refine A_ct rfl ?_ | refine A_cf rfl ?_ | refine A_skip ?_ | refine A_exit ?_ | refine A_ret ?_ | refine q_l ?_ | refine q_m ?_ | refine q_n ?_ | refine q_h ?_ | refine q_o ?_ | refine q_e ?_ | refine q_f ?_ | refine q_g ?_ | (refine O_storee tabOk rfl rfl rfl rfl rfl rfl rfl rfl rfl rfl (by rw [hfl]; omega) (by omega) ?_))
            exact ⟨(K + 1, j + 1, m.set K l[k + j]), ⟨by dsimp only; omega, by dsimp only; exact cptP_put C hq hs⟩, by dsimp only; omega, Wk_sel ⟨rfl, rfl, rfl, rfl, trivial⟩ ⟨row_eq (by dsimp only; rw [List.length_set]) (flat_set pfxD_len m K l[k + j] hKm) rfl, trivial⟩⟩
        · have hK : K ≤ m.length := by omega
          have hq2 : k + j = l.length := by omega
          have hfl : (m.flatMap pfxD).length = m.length * 2 := flat_len pfxD_len m
          have hjl : ¬ ((j : Int) < ((l.length - k : Nat) : Int)) := by omega
          repeat (first | refine A_seq ?_ | refine A_block ?_ | refine R_list ?_ | refine R_quiet rfl mixed (by kernel_rfl) ?_ | ((first | apply O_y rfl rfl rfl | apply Q_y rfl rfl rfl); (first | exact q_1 | exact q_2 | exact q_3 | exact q_4 | exact q_5 | exact q_6 | exact q_7 | exact q_8 | exact q_9 | exact q_10 | exact q_11 | exact q_12 | exact q_13 | exact q_14 | exact q_15 | exact q_16 | exact q_17 | exact q_18 | exact q_19 | exact q_20 | exact q_21 | exact q_22 | exact q_23 | exact q_24 | (first | exact R_lens tabOk rfl rfl rfl rfl | exact R_rowFrom tabOk rfl rfl rfl rfl rfl rfl rfl hK))) | refine O_nil ?_ | refine Q_nil ?_ | refine q_j ?_ | refine q_k ?_ | refine q_d ?_ | refine q_a ?_ | refine q_b ?_ | refine q_c ?_ | refine A_ct rfl ?_ | refine A_cf rfl ?_ | refine A_skip ?_ | refine A_exit ?_ | refine A_ret ?_ | refine q_l ?_ | refine q_m ?_ | refine q_n ?_ | refine q_h ?_ | refine q_o ?_ | refine q_e ?_ | refine q_f ?_ | refine q_g ?_ | fail)
          refine O_clear tabOk rfl rfl rfl rfl rfl rfl rfl rfl (by rw [Nat.sub_mul]; have := Nat.mul_le_mul_right 2 hK; omega) fun zs hzs => ?_
          repeat (first | refine A_seq ?_ | refine A_block ?_ | refine R_list ?_ | refine R_quiet rfl mixed (by kernel_rfl) ?_ | ((first | apply O_y rfl rfl rfl | apply Q_y rfl rfl rfl); (first | exact q_1 | exact q_2 | exact q_3 | exact q_4 | exact q_5 | exact q_6 | exact q_7 | exact q_8 | exact q_9 | exact q_10 | exact q_11 | exact q_12 | exact q_13 | exact q_14 | exact q_15 | exact q_16 | exact q_17 | exact q_18 | exact q_19 | exact q_20 | exact q_21 | exact q_22 | exact q_23 | exact q_24 | fail)) | refine O_nil ?_ | refine Q_nil ?_ | refine q_j ?_ | refine q_k ?_ | refine q_d ?_ | refine q_a ?_ | refine q_b ?_ | refine q_c ?_ | refine A_ct rfl ?_ | refine A_cf rfl ?_ | refine A_skip ?_ | refine A_exit ?_ | refine A_ret ?_ | refine q_l ?_ | refine q_m ?_ | refine q_n ?_ | refine q_h ?_ | refine q_o ?_ | refine q_e ?_ | refine q_f ?_ | refine q_g ?_ | (refine O_rowTo tabOk rfl rfl rfl rfl rfl rfl rfl rfl rfl rfl rfl hK ?_))
          have hfr : (setW (m.flatMap pfxD) (K * 2) zs).take (K * 2) = (dedA l).flatMap pfxD := by
            unfold setW
            rw [List.take_append_of_le_length (by rw [List.length_append, List.length_take, hfl]; have := Nat.mul_le_mul_right 2 hK; omega), List.take_append_of_le_length (by rw [List.length_take, hfl]; have := Nat.mul_le_mul_right 2 hK; omega), List.take_take, Nat.min_self, flat_take pfxD_len, C.front, hq2, List.take_length]
          have hlK : K = (dedA l).length := by
            have := congrArg List.length C.front
            rw [hq2, List.take_length, List.length_take] at this
            omega
          exact X_retW AWk.refl rfl (h2 := [(100, pfxB (dedA l))]) ⟨row_eq hlK hfr rfl, trivial⟩ ⟨rfl, rfl⟩
      · rw [show (l[k] == l[k - 1]) = false by simpa using he] at heq
        repeat (first | refine A_seq ?_ | refine A_block ?_ | refine R_list ?_ | refine R_quiet rfl mixed (by kernel_rfl) ?_ | ((first | apply O_y rfl rfl rfl | apply Q_y rfl rfl rfl); (first | exact q_1 | exact q_2 | exact q_3 | exact q_4 | exact q_5 | exact q_6 | exact q_7 | exact q_8 | exact q_9 | exact q_10 | exact q_11 | exact q_12 | exact q_13 | exact q_14 | exact q_15 | exact q_16 | exact q_17 | exact q_18 | exact q_19 | exact q_20 | exact q_21 | exact q_22 | exact q_23 | exact q_24 | (first | exact R_indexr tabOk rfl rfl rfl rfl rfl rfl hk' hlt1 | exact R_loade tabOk rfl rfl rfl rfl rfl rfl hw0 rfl rfl | exact R_loade tabOk rfl rfl rfl rfl rfl rfl hw1 rfl rfl | exact Y_eq tabOk noStand rfl rfl rfl rfl rfl rfl rfl rfl rfl (by kernel_rfl) heq rfl))) | refine O_nil ?_ | refine Q_nil ?_ | refine q_j ?_ | refine q_k ?_ | refine q_d ?_ | refine q_a ?_ | refine q_b ?_ | refine q_c ?_ | refine A_ct rfl ?_ | refine A_cf rfl ?_ | refine A_skip ?_ | refine A_exit ?_ | refine A_ret ?_ | refine q_l ?_ | refine q_m ?_ | refine q_n ?_ | refine q_h ?_ | refine q_o ?_ | refine q_e ?_ | refine q_f ?_ | refine q_g ?_ | fail)
        exact ⟨k + 1, ⟨by omega, by omega, by rw [ded_take l k hk1 hlt, if_neg fun h => he h.symm, hd, ← List.take_succ_eq_append_getElem hlt]⟩, by omega, Wk_sel ⟨rfl, rfl, trivial⟩ ⟨rfl, trivial⟩⟩
    · have : k = l.length := by omega
      subst this
      rw [List.take_length] at hd
      rw [hd]
      repeat (first | refine A_seq ?_ | refine A_block ?_ | refine R_list ?_ | refine R_quiet rfl mixed (by kernel_rfl) ?_ | ((first | apply O_y rfl rfl rfl | apply Q_y rfl rfl rfl); (first | exact q_1 | exact q_2 | exact q_3 | exact q_4 | exact q_5 | exact q_6 | exact q_7 | exact q_8 | exact q_9 | exact q_10 | exact q_11 | exact q_12 | exact q_13 | exact q_14 | exact q_15 | exact q_16 | exact q_17 | exact q_18 | exact q_19 | exact q_20 | exact q_21 | exact q_22 | exact q_23 | exact q_24 | fail)) | refine O_nil ?_ | refine Q_nil ?_ | refine q_j ?_ | refine q_k ?_ | refine q_d ?_ | refine q_a ?_ | refine q_b ?_ | refine q_c ?_ | refine A_ct rfl ?_ | refine A_cf rfl ?_ | refine A_skip ?_ | refine A_exit ?_ | refine A_ret ?_ | refine q_l ?_ | refine q_m ?_ | refine q_n ?_ | refine q_h ?_ | refine q_o ?_ | refine q_e ?_ | refine q_f ?_ | refine q_g ?_ | fail)
      exact X_retW AWk.refl rfl (h2 := [(100, pfxB l)]) ⟨rfl, trivial⟩ ⟨rfl, rfl⟩
end Ab
end Go.Proofs.YtamnhhjcgloceaaGreat

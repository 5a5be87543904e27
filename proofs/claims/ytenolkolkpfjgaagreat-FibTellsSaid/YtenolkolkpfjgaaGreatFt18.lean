/-
  Texts of a proof, one behind the other (part 19).
-/
import Derived.Test.YtenolkolkpfjgaaGreatFt6
import Derived.Test.YtenolkolkpfjgaaGreatFt8
import Derived.Test.YtenolkolkpfjgaaGreatFt16
import Derived.Test.YtenolkolkpfjgaaGreatFt17
set_option linter.unusedVariables false
set_option linter.unusedSimpArgs false
namespace Go.Proofs.YtenolkolkpfjgaaGreat.Ab
set_option linter.unusedVariables false
set_option maxRecDepth 100000
open Go.RowKit Go.Lib
theorem nodup_le {α : Type} [DecidableEq α] : ∀ (V L : List α), V.Nodup → (∀ s ∈ V, s ∈ L) → V.length ≤ L.length
  | [], _, _, _ => Nat.zero_le _
  | a :: t, L, hn, h => by
    rw [List.nodup_cons] at hn
    have ha := h a (List.mem_cons_self ..)
    have h1 := nodup_le t (L.erase a) hn.2 fun s hs => (List.mem_erase_of_ne (by rintro rfl; exact hn.1 hs)).2 (h s (List.mem_cons_of_mem _ hs))
    rw [List.length_erase_of_mem ha] at h1
    have := List.length_pos_of_mem ha
    rw [List.length_cons]; omega
def wasL (V : List Rte) : List (Rte × Int) := V.map fun r => (r, 1)
theorem wasL_keys (V : List Rte) : (wasL V).map (·.1) = V := by unfold wasL; rw [List.map_map]; exact List.map_id _
theorem wasL_nd {V : List Rte} (h : V.Nodup) : ((wasL V).map (·.1)).Nodup := by rw [wasL_keys]; exact h
theorem wasL_in {V : List Rte} {r : Rte} (h : V.Nodup) (hr : r ∈ V) : Go.Proofs.YtenolkolkpfjgaaGreat.aget (wasL V) r = some 1 := aget_of_mem (wasL_nd h) (List.mem_map.2 ⟨r, hr, rfl⟩)
theorem wasL_out {V : List Rte} {r : Rte} (hr : r ∉ V) : Go.Proofs.YtenolkolkpfjgaaGreat.aget (wasL V) r = none := by
  cases h : Go.Proofs.YtenolkolkpfjgaaGreat.aget (wasL V) r with
  | none => rfl
  | some v =>
    obtain ⟨q, hq, he⟩ := List.mem_map.1 (mem_of_aget h)
    cases he
    exact absurd hq hr
theorem wasL_snoc (V : List Rte) (r : Rte) : wasL (V ++ [r]) = wasL V ++ [(r, 1)] := by unfold wasL; rw [List.map_append]; rfl
theorem wasL_nd0 {V : List Rte} {r : Rte} (h : V.Nodup) (hr : r ∉ V) : ((wasL V ++ [(r, (0 : Int))]).map (·.1)).Nodup := by
  rw [List.map_append, wasL_keys, List.nodup_append]
  exact ⟨h, by simp, fun a ha b hb => by simp at hb; subst hb; rintro rfl; exact hr ha⟩
theorem wasL_in0 {V : List Rte} {r : Rte} (h : V.Nodup) (hr : r ∉ V) : Go.Proofs.YtenolkolkpfjgaaGreat.aget (wasL V ++ [(r, (0 : Int))]) r = some 0 := aget_of_mem (wasL_nd0 h hr) (by simp)
theorem Led.empty {l : List Rte} {r s : Rte} (h : Led l r s) (hr : r.i = []) : s.i = [] := by
  cases h with
  | refl => exact hr
  | step _ _ ho => unfold onB at ho; simp at ho; exact ho.2
structure OnPre (l : List Rte) (r0 r : Rte) (V : List Rte) (O : List Hp) : Prop where
  hr : r ∉ V
  nd : V.Nodup
  emp : r.i = []
  empV : ∀ s ∈ V, s.i = []
  sub : ∀ s ∈ V, s = r0 ∨ s ∈ l
  me : r = r0 ∨ r ∈ l
  len : O.length ≤ V.length * 1000
theorem OnPre.room {l : List Rte} {r0 r : Rte} {V : List Rte} {O : List Hp} (B : OnPre l r0 r V O) {k : Nat} {V' : List Rte} {O' : List Hp} (W : Part l r V O k V' O') (hk : k ≤ 1000) (hl : l.length ≤ 1000) :
    O'.length ≤ V'.length * 1000 ∧ V'.length ≤ 1001 ∧ (∀ s ∈ V', s.i = []) ∧ ∀ s ∈ V', s = r0 ∨ s ∈ l := by
  have h1 := W.len
  have h2 := B.len
  have hs : ∀ s ∈ V', s = r0 ∨ s ∈ l := fun s hs => by
    rcases W.sub s hs with h | h | h
    · exact B.sub s h
    · rw [h]; exact B.me
    · exact .inr h
  have h3 := nodup_le V' (r0 :: l) W.nd fun s h => (hs s h).elim (fun h => by rw [h]; simp) (List.mem_cons_of_mem _)
  rw [List.length_cons] at h3
  refine ⟨by omega, by omega, fun s hs => ?_, hs⟩
  rcases W.new s hs with h | h
  · exact B.empV s h
  · exact h.empty B.emp
theorem OnPre.next {l : List Rte} {r0 r q : Rte} {V : List Rte} {O : List Hp} (B : OnPre l r0 r V O) {k : Nat} {V' : List Rte} {O' : List Hp} (W : Part l r V O k V' O') (hk : k ≤ 1000) (hl : l.length ≤ 1000) (hq : q ∉ V') (hi : q.i = []) (hm : q ∈ l) : OnPre l r0 q V' O' :=
  have h := B.room W hk hl
  ⟨hq, W.nd, hi, h.2.2.1, h.2.2.2, .inr hm, h.1⟩
abbrev onCaps : List AVal := [.ptr 1000 0, .ptr 1001 0, .ptr 1002 0, .ptr 1003 0]
def wasB (V : List Rte) : ABlk := .map (ents rteA intA (wasL V))
def onH (l V : List Rte) (O : List Hp) : Heap := [(1000, .var [.mp 1004]), (1001, .var [rtesA l]), (1002, .var [.fn 40 onCaps]), (1003, .var [.row 950]), (1004, wasB V), (950, hopB O)]
theorem kill_ents (id : Nat) (l : List (Rte × Int)) : killB id (.map (ents rteA intA l)) = .map (ents rteA intA l) := by
  show ABlk.map ((l.map fun p => (rteA p.1, intA p.2)).map fun p => (killV id p.1, killV id p.2)) = _
  rw [List.map_map]
  rfl
theorem kill_was (id : Nat) (V : List Rte) : some (killB id (wasB V)) = some (wasB V) := congrArg some (kill_ents id _)
theorem kill_was2 (i j : Nat) (V : List Rte) : some (killB i (killB j (wasB V))) = some (wasB V) := by
  rw [Option.some.inj (kill_was j V)]; exact kill_was i V
theorem kills_was (ids : List Nat) (V : List Rte) : some (killBs ids (wasB V)) = some (wasB V) := by
  show some (ABlk.map (((wasL V).map fun p => (rteA p.1, intA p.2)).map fun p => (killVs ids p.1, killVs ids p.2))) = _
  rw [List.map_map]
  have key : ∀ (r : Rte) (n : Int), (killVs ids (rteA r), killVs ids (intA n)) = (rteA r, intA n) := fun r n => by
    have h1 : hasAny ids (rteA r) = false := List.any_eq_false.2 fun x _ => by rw [show (rteA r).has x = false from rfl]; simp
    have h2 : hasAny ids (intA n) = false := List.any_eq_false.2 fun x _ => by rw [show (intA n).has x = false from rfl]; simp
    unfold killVs
    rw [h1, h2]; rfl
  show some (ABlk.map ((wasL V).map fun p => (killVs ids (rteA p.1), killVs ids (intA p.2)))) = _
  rw [List.map_congr_left fun p _ => key p.1 p.2]
  rfl
theorem fr_was (id : Nat) (d : Dat) (V : List Rte) : some (frB id d (wasB V)) = some (wasB V) := by
  show some (ABlk.map (((wasL V).map fun p => (rteA p.1, intA p.2)).map fun p => (frV id d p.1, frV id d p.2))) = _
  rw [List.map_map]
  rfl
theorem ren_was (ρ : List (Nat × Nat)) (V : List Rte) : renB ρ (wasB V) = wasB V := by
  show ABlk.map (((wasL V).map fun p => (rteA p.1, intA p.2)).map fun p => (renV ρ p.1, renV ρ p.2)) = _
  rw [List.map_map]
  rfl
theorem ok_was (ρ : List (Nat × Nat)) (V : List Rte) : okB ρ (wasB V) := fun p hp => by
  obtain ⟨q, _, rfl⟩ := List.mem_map.1 hp
  exact ⟨rfl, rfl⟩
theorem zeroInt (W : World) : (zeroValue 3).run Tryz.prog W = .ok (.int .i64 0) W := by
  have h : tlook tab 3 = some _ := rfl
  obtain ⟨z, h1, h2, i, h3, h4, _⟩ := (tabOk _ _ h).zero W
  have h5 : (Tryz.prog.info? 3).bind (·.zero) = some (.int .i64 0) := by kernel_rfl
  rw [h3] at h5
  simp only [Option.bind_some] at h5
  rw [h4] at h5
  cases h5
  exact h1
theorem A_cutF {P : Program} {nt : Nat} {Q : Post} {e : Env} {h : Heap} {z : Bool} {c y : Code} (E1 : Env) (H1 : Heap) (h1 : AWp z P nt c (AThen (fun e' h' => AWk nt e' h' E1 H1) RF) e h) (h2 : AWp z P nt y Q E1 H1) : AWp z P nt c (AThen (AWp z P nt y Q) Q) e h :=
  h1.mono fun ex e h hq => by
    cases ex with
    | normal => exact A_weaken hq h2
    | _ => exact False.elim hq
theorem look_same : ∀ (ρ : List (Nat × Nat)), (∀ x ∈ ρ, x.1 = x.2) → ∀ p i, look ρ p = some i → p = i ∧ p ∈ ρ.map (·.1)
  | [], _, p, i, h => by cases h
  | (a, b) :: r, hs, p, i, h => by
    by_cases ha : a = p
    · subst ha
      rw [look_cons_same] at h
      cases h
      exact ⟨hs (a, b) (List.mem_cons_self ..), by simp⟩
    · rw [look_cons_ne _ _ ha] at h
      have := look_same r (fun x hx => hs x (List.mem_cons_of_mem _ hx)) p i h
      exact ⟨this.1, List.mem_cons_of_mem _ this.2⟩
abbrev onRho : List (Nat × Nat) := [(1000, 1000), (1001, 1001), (1002, 1002), (1003, 1003), (1004, 1004)]
abbrev onNu : List (Nat × Nat) := [(950, 950)]
theorem onRho_same (p i : Nat) (h : look onRho p = some i) : p = i ∧ p ∈ onRho.map (·.1) := look_same _ (by simp) p i h
theorem onNu_same (p i : Nat) (h : look onNu p = some i) : p = i ∧ p ∈ onNu.map (·.1) := look_same _ (by simp) p i h
theorem onRho_inj (p p' i : Nat) (h1 : look onRho p = some i) (h2 : look onRho p' = some i) : p = p' := by rw [(onRho_same p i h1).1, (onRho_same p' i h2).1]
theorem onNu_inj (p p' i : Nat) (h1 : look onNu p = some i) (h2 : look onNu p' = some i) : p = p' := by rw [(onNu_same p i h1).1, (onNu_same p' i h2).1]
theorem onRho_dom (l V : List Rte) (O : List Hp) (p i : Nat) (h : look onRho p = some i) : 1000 ≤ p ∧ (look (onH l V O) p).isSome = true ∧ ∀ x : List Rte × List Hp, (look (onH l x.1 x.2) p).isSome = true := by
  have hm := (onRho_same p i h).2
  simp at hm
  rcases hm with rfl | rfl | rfl | rfl | rfl <;> exact ⟨by omega, rfl, fun _ => rfl⟩
theorem onNu_ok (p i : Nat) (h : look onNu p = some i) : p < 1000 ∧ i < 1000 ∧ ∀ q, look onRho q ≠ some i := by
  obtain ⟨h1, h2⟩ := onNu_same p i h
  simp at h2
  subst h1
  refine ⟨by omega, by omega, fun q hq => ?_⟩
  obtain ⟨h3, h4⟩ := onRho_same q p hq
  simp at h4
  omega
theorem frk_was (id : Nat) (d : Dat) (ids : List Nat) (V : List Rte) : some (frB id d (killBs ids (wasB V))) = some (wasB V) := by
  rw [Option.some.inj (kills_was ids V)]; exact fr_was id d V
theorem renk_was (ρ : List (Nat × Nat)) (V : List Rte) : some (renB ρ (wasB V)) = some (wasB V) := congrArg some (ren_was ρ V)
theorem was_snoc (V : List Rte) (r : Rte) : some (ABlk.map (ents rteA intA (wasL V ++ [(r, (1 : Int))]))) = some (wasB (V ++ [r])) := by unfold wasB; rw [wasL_snoc]
set_option linter.unusedSimpArgs false
attribute [local irreducible] AWp AOps AQ AYield AEff ACall AWk AAny AAt AThen AIn APost NoPanic
abbrev onE : Env := [(1, .ptr 1000 0), (2, .ptr 1001 0), (3, .ptr 1002 0), (4, .ptr 1003 0)]
def onPost (l : List Rte) (r : Rte) (V : List Rte) (O : List Hp) : AVal → Heap → Prop := fun c h => ∃ x : List Rte × List Hp, Walk l r V O x.1 x.2 ∧ c = .tup [] ∧ h = onH l x.1 x.2
set_option maxHeartbeats 16000000 in
theorem on_A (l : List Rte) (r0 : Rte) (hok : ∀ r ∈ l, okR r) (hh : ∀ r ∈ r0 :: l, 0 ≤ r.h ∧ r.h < 4294967296) (hn : l.length ≤ 1000) (n : Nat) : ∀ (r : Rte) (V : List Rte) (O : List Hp), OnPre l r0 r V O → leftN l (V ++ [r]) ≤ n →
    ACall Tryz.prog 40 (rteA r :: onCaps) (onH l V O) (onPost l r V O) := by
  induction n using Nat.strongRecOn with
  | _ n ih =>
  intro r V O B hle
  have hrm : r ∈ r0 :: l := B.me.elim (fun h => by rw [h]; simp) (List.mem_cons_of_mem _)
  have hr0 := (hh r hrm).1
  have hr1 := (hh r hrm).2
  have hlong := (ribLongest_A l hok (by omega) r.h hr0 hr1).reid (id := 951) rfl
  have hNl : (longL l r.h).length ≤ 1000 := Nat.le_trans (Nat.le_trans (sortU_len _) (List.length_filter_le _ _)) hn
  have hout := wasL_out B.hr
  have hnd := wasL_nd B.nd
  have hin0 := wasL_in0 B.nd B.hr
  have hnd0 := wasL_nd0 B.nd B.hr
  have hzero := Part.zero (l := l) (O := O) B.hr B.nd
  refine ACall_of tabOk Tryz.func40 rfl Tryz.ntmps40 (congrArg Array.toList Tryz.results40) (by kernel_rfl) rfl ?_
  repeat (first | refine q_Z ?_ | ((first | apply O_y rfl rfl rfl | apply Q_y rfl rfl rfl); (first | exact q_A | exact q_5 | exact q_B)) | refine q_d ?_ | refine q_a ?_ | refine q_b ?_ | refine q_c ?_ | refine A_ct rfl ?_ | refine A_cf rfl ?_ | refine q_W ?_)
  refine A_weaken (Wk_sel (e1 := (5, .ptr 5 0) :: onE) (h1 := (5, rteB1 r) :: onH l V O) ⟨rfl, rfl, rfl, rfl, rfl, trivial⟩ ⟨rfl, rfl, rfl, rfl, rfl, kill_was 5 V, rfl, trivial⟩) ?_
  refine A_cutF ((5, .ptr 5 0) :: onE) ((5, rteB1 r) :: onH l (V ++ [r]) O) ?_ ?_
  · refine N_begin [1004] mixed ?_
    (apply q_P 0 rfl (by kernel_rfl) rfl rfl rfl; (first | exact q_A | exact q_5 | exact q_B | fail))
    (apply q_P 1 rfl (by kernel_rfl) rfl rfl rfl; (first | exact q_A | exact q_5 | exact q_B | fail))
    refine N_two (j := 2) (k := 4) (by kernel_rfl) ?_ ?_
    · refine T_yield rfl rfl rfl rfl (R_lk0 (intA 0) (fun _ _ _ => sc_rel rfl) rteKey rteW_val zeroInt trivial (fun _ _ => trivial) hnd hout tabOk rfl rfl rfl rfl rfl rfl) ?_
      (apply q_P 3 rfl (by kernel_rfl) rfl rfl rfl; (first | exact q_A | exact q_5 | exact q_B | fail))
      refine N_one (j := 4) (by kernel_rfl) ?_
      refine T_mapEntry0 (xa := intA) (z := (0 : Int)) rteKey rteW_val rteW_rel zeroInt (fun _ _ _ => sc_rel rfl) trivial (fun _ _ => trivial) hnd hout tabOk rfl rfl rfl rfl rfl rfl rfl rfl rfl rfl fun br bbs bb bc hbl => ?_
      (apply q_P 5 rfl (by kernel_rfl) rfl rfl rfl; (first | exact q_A | exact q_5 | exact q_B | fail))
      refine N_one (j := 6) (by kernel_rfl) ?_
      refine T_entryStore0 (z' := (1 : Int)) hbl rfl rfl rfl rfl rfl rfl rfl rfl rfl ?_
      refine N_done (by kernel_rfl) ?_
      refine q_j ?_
      exact Wk_sel ⟨rfl, rfl, rfl, rfl, rfl, trivial⟩ ⟨rfl, rfl, rfl, rfl, rfl, was_snoc V r, rfl, trivial⟩
    · refine T_mapEntry0 (xa := intA) (z := (0 : Int)) rteKey rteW_val rteW_rel zeroInt (fun _ _ _ => sc_rel rfl) trivial (fun _ _ => trivial) hnd hout tabOk rfl rfl rfl rfl rfl rfl rfl rfl rfl rfl fun br bbs bb bc hbl => ?_
      (apply q_P 5 rfl (by kernel_rfl) rfl rfl rfl; (first | exact q_A | exact q_5 | exact q_B | fail))
      refine N_one (j := 2) (by kernel_rfl) ?_
      refine T_yield rfl rfl rfl rfl (R_lk1x rteKey rteW_val zeroInt trivial (fun _ _ => trivial) hnd0 hin0 tabOk rfl rfl rfl rfl rfl rfl) ?_
      (apply q_P 3 rfl (by kernel_rfl) rfl rfl rfl; (first | exact q_A | exact q_5 | exact q_B | fail))
      refine N_one (j := 6) (by kernel_rfl) ?_
      refine T_entryStore0 (z' := (1 : Int)) hbl rfl rfl rfl rfl rfl rfl rfl rfl rfl ?_
      refine N_done (by kernel_rfl) ?_
      refine q_j ?_
      exact Wk_sel ⟨rfl, rfl, rfl, rfl, rfl, trivial⟩ ⟨rfl, rfl, rfl, rfl, rfl, was_snoc V r, rfl, trivial⟩
  ·
    repeat (first | refine q_Z ?_ | ((first | apply O_y rfl rfl rfl | apply Q_y rfl rfl rfl); (first | exact q_A | exact q_5 | exact q_B)) | refine q_d ?_ | refine q_a ?_ | refine q_b ?_ | refine q_c ?_ | refine A_ct rfl ?_ | refine A_cf rfl ?_ | refine q_W ?_)
    refine O_cRow rfl rfl rfl rfl rfl hlong rfl ?_
    refine O_weaken (Wk_freeze (id := 951) rfl) ?_
    obtain ⟨N, hN⟩ : ∃ N, longL l r.h = N := ⟨_, rfl⟩
    rw [hN] at hNl
    refine O_weaken (Wk_sel (e1 := (5, .ptr 5 0) :: (17, rtesA N) :: onE) (h1 := (5, rteB1 r) :: onH l (V ++ [r]) O) ⟨rfl, by rw [← hN]; rfl, rfl, rfl, rfl, rfl, trivial⟩ ⟨rfl, rfl, rfl, rfl, rfl, frk_was 951 _ _ _, rfl, trivial⟩) ?_
    repeat (first | refine q_Z ?_ | ((first | apply O_y rfl rfl rfl | apply Q_y rfl rfl rfl); (first | exact q_A | exact q_5 | exact q_B)) | refine q_d ?_ | refine q_a ?_ | refine q_b ?_ | refine q_c ?_ | refine A_ct rfl ?_ | refine A_cf rfl ?_ | refine q_W ?_)
    refine A_loop (fun x : Nat × List Rte × List Hp => (5, .ptr 5 0) :: (17, rtesA N) :: (18, intA (N.length : Int)) :: (19, intA (x.1 : Int)) :: onE) (fun x => (5, rteB1 r) :: onH l x.2.1 x.2.2) (fun x => x.1 ≤ N.length ∧ Part l r V O x.1 x.2.1 x.2.2) (fun x => N.length - x.1) (0, V ++ [r], O) ⟨Nat.zero_le _, hzero⟩ (Wk_sel ⟨rfl, rfl, rfl, rfl, rfl, rfl, rfl, rfl, trivial⟩ ⟨rfl, rfl, rfl, rfl, rfl, rfl, rfl, trivial⟩) ?_
    rintro ⟨k, V', O'⟩ ⟨hk, W⟩
    dsimp only at hk W ⊢
    obtain ⟨b1, b2, b3, b4⟩ := B.room W (by omega) hn
    have hnd' := wasL_nd W.nd
    by_cases hkN : k < N.length
    · have hkL : k < (longL l r.h).length := by rw [hN]; exact hkN
      have hqe : (longL l r.h)[k] = N[k] := by simp only [hN]
      have hqm : N[k] ∈ l := by rw [← hqe]; exact longL_sub (List.getElem_mem hkL)
      have hw0 := win_at N k hkN
      have hskip := W.skip hkL
      have hgo := W.go hkL
      have hon := fun V2 O2 => W.on (V2 := V2) (O2 := O2) hkL
      rw [hqe] at hskip hgo hon
      obtain ⟨q, hq⟩ : ∃ q, N[k] = q := ⟨_, rfl⟩
      rw [hq] at hskip hgo hon hw0 hqm
      cases hx : q.x with
      | true =>
        have hP := hskip (fun h => by unfold onB at h; rw [hx] at h; cases h) (by unfold outB; rw [hx]; rfl)
        rw [show rteD q = [.sc (.int .u32 q.p.a), .sc (.int .i64 q.p.b), .sc (.int .u8 q.f), .sc (.int .i64 q.d), .sc (.int .i64 q.m), .sc (.int .i64 q.t), .sc (.string ⟨⟨q.i⟩⟩), .sc (.int .u32 q.h), .sc (.bool true)] by unfold rteD; rw [hx]] at hw0
        repeat (first | refine q_Z ?_ | ((first | apply O_y rfl rfl rfl | apply Q_y rfl rfl rfl); (first | exact q_A | exact R_loadi tabOk rfl rfl rfl rfl hw0 rfl rfl | exact q_B)) | refine q_d ?_ | refine q_a ?_ | refine q_b ?_ | refine q_c ?_ | refine A_ct rfl ?_ | refine A_cf rfl ?_ | refine q_W ?_)
        exact ⟨(k + 1, V', O'), ⟨by dsimp only; omega, hP⟩, by dsimp only; omega, Wk_sel ⟨rfl, rfl, rfl, rfl, rfl, rfl, rfl, rfl, trivial⟩ ⟨rfl, rfl, rfl, rfl, rfl, kill_was 7 V', rfl, trivial⟩⟩
      | false =>
        rw [show rteD q = [.sc (.int .u32 q.p.a), .sc (.int .i64 q.p.b), .sc (.int .u8 q.f), .sc (.int .i64 q.d), .sc (.int .i64 q.m), .sc (.int .i64 q.t), .sc (.string ⟨⟨q.i⟩⟩), .sc (.int .u32 q.h), .sc (.bool false)] by unfold rteD; rw [hx]] at hw0
        have hrte : AVal.agg [.d (.sc (.int .u32 q.p.a)), .d (.sc (.int .i64 q.p.b)), .d (.sc (.int .u8 q.f)), .d (.sc (.int .i64 q.d)), .d (.sc (.int .i64 q.m)), .d (.sc (.int .i64 q.t)), .d (.sc (.string ⟨⟨q.i⟩⟩)), .d (.sc (.int .u32 q.h)), .d (.sc (.bool false))] = rteA q := by unfold rteA; rw [hx]
        repeat (first | refine q_Z ?_ | ((first | apply O_y rfl rfl rfl | apply Q_y rfl rfl rfl); (first | exact q_A | exact R_loadi tabOk rfl rfl rfl rfl hw0 rfl rfl | exact q_B)) | refine q_d ?_ | refine q_a ?_ | refine q_b ?_ | refine q_c ?_ | refine A_ct rfl ?_ | refine A_cf rfl ?_ | refine q_W ?_)
        refine O_weaken (Wk_sel (e1 := (34, boolA false) :: (35, .mp 1004) :: (36, rteA q) :: (5, .ptr 5 0) :: (7, .ptr 7 0) :: (17, rtesA N) :: (18, intA (N.length : Int)) :: (19, intA (k : Int)) :: onE) (h1 := (7, rteB1 q) :: (5, rteB1 r) :: onH l V' O') ⟨rfl, rfl, congrArg some hrte, rfl, rfl, rfl, rfl, rfl, rfl, rfl, rfl, rfl, trivial⟩ ⟨by unfold rteB1 rteD; rw [hx]; rfl, rfl, rfl, rfl, rfl, rfl, kill_was 7 V', rfl, trivial⟩) ?_
        by_cases hV : q ∈ V'
        · have hP := hskip (fun _ => hV) (by unfold outB; rw [b3 q hV]; simp)
          have hin := wasL_in W.nd hV
          repeat (first | refine q_Z ?_ | ((first | apply O_y rfl rfl rfl | apply Q_y rfl rfl rfl); (first | exact q_A | exact q_5 | exact q_B | (exact R_lk1 rteKey rteW_val zeroInt trivial (fun _ _ => trivial) hnd' hin tabOk rfl rfl rfl rfl rfl rfl))) | refine q_d ?_ | refine q_a ?_ | refine q_b ?_ | refine q_c ?_ | refine A_ct rfl ?_ | refine A_cf rfl ?_ | refine q_W ?_)
          exact ⟨(k + 1, V', O'), ⟨by dsimp only; omega, hP⟩, by dsimp only; omega, Wk_sel ⟨rfl, rfl, rfl, rfl, rfl, rfl, rfl, rfl, trivial⟩ ⟨rfl, rfl, rfl, rfl, rfl, rfl, rfl, trivial⟩⟩
        · have hout' := wasL_out hV
          by_cases hi : q.i = []
          · have hob : onB q = true := by unfold onB; rw [hx, decide_eq_true hi]; rfl
            have B2 := B.next W (by omega) hn hV hi hqm
            have hlt : leftN l (V' ++ [q]) < n := Nat.lt_of_lt_of_le (leftN_lt hqm hV) (Nat.le_trans (leftN_le fun s hs => (List.mem_append.1 hs).elim (W.old s) fun h => by rw [List.mem_singleton.1 h]; exact W.me) hle)
            have hrec := ih _ hlt q V' O' B2 (Nat.le_refl _)
            repeat (first | refine q_Z ?_ | ((first | apply O_y rfl rfl rfl | apply Q_y rfl rfl rfl); (first | exact q_A | exact q_5 | exact q_B | (first | exact R_lk0 (intA 0) (fun _ _ _ => sc_rel rfl) rteKey rteW_val zeroInt trivial (fun _ _ => trivial) hnd' hout' tabOk rfl rfl rfl rfl rfl rfl | exact R_sT rfl rfl rfl rfl (decide_eq_true hi)))) | refine q_d ?_ | refine q_a ?_ | refine q_b ?_ | refine q_c ?_ | refine A_ct rfl ?_ | refine A_cf rfl ?_ | refine q_W ?_)
            refine O_cTV (α := List Rte × List Hp) (C := fun _ => .tup []) (H1 := fun x => onH l x.1 x.2) (Φ := fun x => Walk l q V' O' x.1 x.2) onRho onNu 950 950 onRho_inj (onRho_dom l V' O') onNu_ok onNu_inj (by decide) (by decide) (by omega) rfl ⟨950, rfl⟩ hrec rfl ⟨⟨1000, _, rfl, rfl, rfl, fun c hc => by simp at hc; subst hc; rfl⟩, ⟨1001, _, rfl, rfl, rfl, fun c hc => by simp at hc; subst hc; rfl⟩, ⟨1002, _, rfl, rfl, rfl, fun c hc => by simp at hc; subst hc; rfl⟩, ⟨1003, _, rfl, rfl, rfl, fun c hc => by simp at hc; subst hc; rfl⟩, ⟨1004, _, rfl, rfl, ren_was _ V', ok_was _ V'⟩, ⟨950, _, rfl, rfl, rfl, trivial⟩, trivial⟩ rfl rfl rfl rfl rfl rfl rfl rfl ?_
            rintro ⟨V2, O2⟩ W2
            dsimp only at W2 ⊢
            have hP := hon V2 O2 hob W2
            refine O_weaken (Wk_sel (e1 := (5, .ptr 5 0) :: (17, rtesA N) :: (18, intA (N.length : Int)) :: (19, intA (k : Int)) :: onE) (h1 := (5, rteB1 r) :: onH l V2 O2) ⟨rfl, rfl, rfl, rfl, rfl, rfl, rfl, rfl, trivial⟩ ⟨rfl, rfl, rfl, rfl, rfl, renk_was _ V2, rfl, trivial⟩) ?_
            repeat (first | refine q_Z ?_ | ((first | apply O_y rfl rfl rfl | apply Q_y rfl rfl rfl); (first | exact q_A | exact q_5 | exact q_B)) | refine q_d ?_ | refine q_a ?_ | refine q_b ?_ | refine q_c ?_ | refine A_ct rfl ?_ | refine A_cf rfl ?_ | refine q_W ?_)
            exact ⟨(k + 1, V2, O2), ⟨by dsimp only; omega, hP⟩, by dsimp only; omega, Wk_sel ⟨rfl, rfl, rfl, rfl, rfl, rfl, rfl, rfl, trivial⟩ ⟨rfl, rfl, rfl, rfl, rfl, rfl, rfl, trivial⟩⟩
          · have hob : outB q = true := by unfold outB; rw [hx, decide_eq_false hi]; rfl
            have hP := hgo hob
            by_cases hq0 : q.h = 0
            · rw [show hopOf r.h q = ⟨q.i, r.h⟩ by unfold hopOf; rw [if_pos hq0]] at hP
              repeat (first | refine q_Z ?_ | ((first | apply O_y rfl rfl rfl | apply Q_y rfl rfl rfl); (first | exact q_A | exact q_5 | exact q_B | (first | exact R_lk0 (intA 0) (fun _ _ _ => sc_rel rfl) rteKey rteW_val zeroInt trivial (fun _ _ => trivial) hnd' hout' tabOk rfl rfl rfl rfl rfl rfl | exact R_sF rfl rfl rfl rfl (decide_eq_false hi)))) | refine q_d ?_ | refine q_a ?_ | refine q_b ?_ | refine q_c ?_ | refine A_ct rfl ?_ | refine A_cf rfl ?_ | refine q_W ?_ | (first | refine O_appR tabOk rfl rfl rfl rfl rfl rfl rfl rfl rfl rfl rfl (by first | exact Src.row rfl | exact Src.dat _ _ | exact Src.nil) rfl (by omega) ?_ | refine O_appN tabOk rfl rfl rfl rfl rfl rfl rfl rfl rfl rfl (by first | exact Src.row rfl | exact Src.dat _ _ | exact Src.nil) rfl (by omega) ?_))
              exact ⟨(k + 1, V', O' ++ [⟨q.i, r.h⟩]), ⟨by dsimp only; omega, hP⟩, by dsimp only; omega, Wk_sel ⟨rfl, rfl, rfl, rfl, rfl, rfl, rfl, rfl, trivial⟩ ⟨rfl, rfl, rfl, rfl, rfl, kill_was2 950 57 V', row_eq (by simp) (by simp [hopD]) rfl, trivial⟩⟩
            · rw [show hopOf r.h q = ⟨q.i, q.h⟩ by unfold hopOf; rw [if_neg hq0]] at hP
              repeat (first | refine q_Z ?_ | ((first | apply O_y rfl rfl rfl | apply Q_y rfl rfl rfl); (first | exact q_A | exact q_5 | exact q_B | (first | exact R_lk0 (intA 0) (fun _ _ _ => sc_rel rfl) rteKey rteW_val zeroInt trivial (fun _ _ => trivial) hnd' hout' tabOk rfl rfl rfl rfl rfl rfl | exact R_sF rfl rfl rfl rfl (decide_eq_false hi)))) | refine q_d ?_ | refine q_a ?_ | refine q_b ?_ | refine q_c ?_ | refine A_ct rfl ?_ | refine A_cf rfl ?_ | refine q_W ?_ | (first | refine O_appR tabOk rfl rfl rfl rfl rfl rfl rfl rfl rfl rfl rfl (by first | exact Src.row rfl | exact Src.dat _ _ | exact Src.nil) rfl (by omega) ?_ | refine O_appN tabOk rfl rfl rfl rfl rfl rfl rfl rfl rfl rfl (by first | exact Src.row rfl | exact Src.dat _ _ | exact Src.nil) rfl (by omega) ?_))
              exact ⟨(k + 1, V', O' ++ [⟨q.i, q.h⟩]), ⟨by dsimp only; omega, hP⟩, by dsimp only; omega, Wk_sel ⟨rfl, rfl, rfl, rfl, rfl, rfl, rfl, rfl, trivial⟩ ⟨rfl, rfl, rfl, rfl, rfl, kill_was2 950 29 V', row_eq (by simp) (by simp [hopD]) rfl, trivial⟩⟩
    · have hkk : k = (longL l r.h).length := by rw [hN]; omega
      subst hkk
      have hW := W.done (by rw [hN]; exact hNl)
      repeat (first | refine q_Z ?_ | ((first | apply O_y rfl rfl rfl | apply Q_y rfl rfl rfl); (first | exact q_A | exact q_5 | exact q_B)) | refine q_d ?_ | refine q_a ?_ | refine q_b ?_ | refine q_c ?_ | refine A_ct rfl ?_ | refine A_cf rfl ?_ | refine q_W ?_)
      exact X_endW AWk.refl rfl (h2 := onH l V' O') ⟨rfl, rfl, rfl, rfl, rfl, rfl, trivial⟩ ⟨(V', O'), hW, rfl, rfl⟩
end Go.Proofs.YtenolkolkpfjgaaGreat.Ab

/-
  Texts of a proof, one behind the other (part 21).
-/
import Derived.Test.YtblgdfcijkaimaaBg4
import Derived.Test.YtblgdfcijkaimaaBg11
import Derived.Test.YtblgdfcijkaimaaBg13
import Derived.Test.YtblgdfcijkaimaaBg14
import Derived.Test.YtblgdfcijkaimaaBg19
set_option linter.unusedVariables false
set_option linter.unusedSimpArgs false
namespace Go.Proofs.Ytblgdfcijkaimaa
set_option linter.unusedVariables false
def comeB {α : Type} (m : List α) (js : List Nat) : List α := js.filterMap fun j => m[j]?
theorem comeB_snoc {α : Type} (m : List α) (js : List Nat) (j : Nat) (x : α) (h : m[j]? = some x) : comeB m (js ++ [j]) = comeB m js ++ [x] := by
  unfold comeB
  rw [List.filterMap_append]
  congr 1
  simp [h]
theorem comeB_len {α : Type} (m : List α) (js : List Nat) : (comeB m js).length ≤ js.length := List.length_filterMap_le _ _
theorem comeB_all {α : Type} (m : List α) (js : List Nat) (hn : js.Nodup) (hl : ∀ j ∈ js, j < m.length) (ha : ∀ j, j < m.length → j ∈ js) : (comeB m js).Perm m := by
  have hp : js.Perm (List.range m.length) := by
    refine (List.perm_ext_iff_of_nodup hn List.nodup_range).2 fun j => ?_
    rw [List.mem_range]
    exact ⟨hl j, ha j⟩
  have h1 := hp.filterMap fun j => m[j]?
  have h2 : (List.range m.length).filterMap (fun j => m[j]?) = m := by
    clear h1 hp ha hl hn
    have : ∀ (m : List α) (k : Nat) (M : List α), (∀ j, M[k + j]? = m[j]?) → (List.range' k m.length).filterMap (fun j => M[j]?) = m := by
      intro m
      induction m with
      | nil => intro k M _; rfl
      | cons p m ih =>
        intro k M hM
        rw [List.length_cons, List.range'_succ, List.filterMap_cons]
        have h0 := hM 0
        simp at h0
        rw [h0]
        simp only
        rw [ih (k + 1) M fun j => by have := hM (j + 1); rw [show k + 1 + j = k + (j + 1) by omega, this]; simp]
    rw [List.range_eq_range']
    exact this m 0 m fun j => by simp
  rw [h2] at h1
  exact h1
def cmpR (x y : AdvR) : Int := cmpP x.a.p y.a.p
theorem good_cmpR : Good cmpR := good_pfx.of _
theorem apartR_perm {L M : List AdvR} (h : L.Perm M) (hM : M.Pairwise fun x y => x.a.p ≠ y.a.p) : L.Pairwise fun x y => x.a.p ≠ y.a.p := h.symm.pairwise hM fun {a b} hne => fun e => hne e.symm
theorem srtR_rising {L : List AdvR} (h : L.Pairwise fun x y => x.a.p ≠ y.a.p) : Rising cmpR (srt cmpR L) := by
  have h1 := srt_pair good_cmpR L
  have h2 : (srt cmpR L).Pairwise fun x y => x.a.p ≠ y.a.p := (List.mergeSort_perm _ _).symm.pairwise h fun {a b} hne => fun e => hne e.symm
  exact h1.and h2 |>.imp fun {x y} ⟨a, b⟩ => by
    rcases Int.lt_or_eq_of_le a with h | h
    · exact h
    · exact absurd (pfx_zero h) b
theorem srtR_perm {L M : List AdvR} (h : L.Perm M) (hM : M.Pairwise fun x y => x.a.p ≠ y.a.p) : srt cmpR L = srt cmpR M :=
  rising_ext good_cmpR (srtR_rising (apartR_perm h hM)) (srtR_rising hM) fun x => by rw [srt_mem, srt_mem]; exact h.mem_iff
theorem apartR_idx {L : List AdvR} (h : L.Pairwise fun x y => x.a.p ≠ y.a.p) (i j : Nat) (hi : i < L.length) (hj : j < L.length) (hc : cmpR L[i] L[j] = 0) : i = j := by
  have hp := List.pairwise_iff_getElem.1 h
  have he := pfx_zero hc
  rcases Nat.lt_trichotomy i j with h1 | h1 | h1
  · exact absurd he (hp i j hi hj h1)
  · exact h1
  · exact absurd he.symm (hp j i hj hi h1)
structure EntR (es : List (Pfx × AdvR)) : Prop where
  nd : (es.map (·.1)).Nodup
  key : ∀ e ∈ es, e.2.a.p = e.1
theorem EntR.apart {es : List (Pfx × AdvR)} (h : EntR es) : (es.map (·.2)).Pairwise fun x y => x.a.p ≠ y.a.p := by
  rw [List.pairwise_map]
  have h4 : es.Pairwise fun a b => a.1 ≠ b.1 := List.pairwise_map.1 h.nd
  exact h4.imp_of_mem fun {a b} ha hb hne => by rw [h.key a ha, h.key b hb]; exact hne
section
open Go.RowKit Go.Sort Go.Lib
set_option maxRecDepth 100000
theorem insNilB (c : Value) (w : World) : Calls Try.prog 51 #[.slice none 0 0, .int .i64 0, .int .i64 0, c] w (RetS w (.tuple #[])) := by
  go_enter Try.func51, Try.ntmps51
  go_wp2_with fail
  refine wp_loop_rounds 1 ?_
  rw [rounds_succ]; go_wp2_with fail
  go_end0
  exact ⟨rfl, rfl⟩
theorem pdqNilB (c : Value) (w : World) (n : Int) : Calls Try.prog 48 #[.slice none 0 0, .int .i64 0, .int .i64 0, .int .i64 n, c] w (RetS w (.tuple #[])) := by
  go_enter Try.func48, Try.ntmps48
  go_wp2_with fail
  refine wp_loop_rounds 1 ?_
  rw [rounds_succ]; go_wp2_with fail
  refine (insNilB c _).mono ?_
  rintro e w' ⟨rfl, rfl⟩
  go_wp2_with fail
  go_end0
  exact ⟨rfl, rfl⟩
theorem sortNilB (c : Value) (w : World) : Calls Try.prog 37 #[.slice none 0 0, c] w (RetS w (.tuple #[])) := by
  have hl := fun W => Any.bits_Len (SlLaysF0.n15.bits (P := _) (ρ := _) { Try.sortAdvert with }) (0 : Int) W (by omega) (by omega)
  go_enter Try.func37, Try.ntmps37
  go_wp2_with fail
  refine (hl _).mono ?_
  rintro e w' ⟨rfl, rfl⟩
  go_wp2_with fail
  refine (pdqNilB c _ _).mono ?_
  rintro e w' ⟨rfl, rfl⟩
  go_wp2_with fail
  go_end0
  exact ⟨rfl, rfl⟩
end
namespace Ab
set_option maxRecDepth 100000
open Go.RowKit Go.Lib
def seenB (bs js : List Nat) : Array Nat := (js.map fun j => bs.getD j 0).toArray
theorem seenB_push (bs js : List Nat) (j b : Nat) (hb : bs[j]? = some b) : (seenB bs js).push b = seenB bs (js ++ [j]) := by
  unfold seenB
  simp [hb]
theorem seenB_has (bs js : List Nat) (hp : bs.Pairwise fun a b => a < b) (hl : ∀ j ∈ js, j < bs.length) (j b : Nat) (hb : bs[j]? = some b) : (seenB bs js).contains b = true ↔ j ∈ js := by
  unfold seenB
  rw [Array.contains_iff_mem]
  simp only [List.mem_toArray, List.mem_map]
  have hjl := (List.getElem?_eq_some_iff.1 hb)
  constructor
  · rintro ⟨i, hi, hib⟩
    have hil := hl i hi
    rw [show bs.getD i 0 = bs[i] by simp [List.getElem?_eq_getElem hil]] at hib
    have hpw := List.pairwise_iff_getElem.1 hp
    rcases Nat.lt_trichotomy i j with h1 | h1 | h1
    · have := hpw i j hil hjl.1 h1; rw [hjl.2] at this; omega
    · rw [← h1]; exact hi
    · have := hpw j i hjl.1 hil h1; rw [hjl.2] at this; omega
  · intro hj
    exact ⟨j, hj, by simp [hb]⟩
theorem nodupB_len {js : List Nat} {n : Nat} (hn : js.Nodup) (hl : ∀ j ∈ js, j < n) : js.length ≤ n := by
  have := hn.length_le_of_subset (l₂ := List.range n) fun j hj => List.mem_range.2 (hl j hj)
  simpa using this
theorem look_oneB {a b p i : Nat} (h : look [(a, b)] p = some i) : p = a ∧ i = b := by
  by_cases hp : a = p
  · subst hp; rw [look_cons_same] at h; cases h; exact ⟨rfl, rfl⟩
  · rw [look_cons_ne _ _ hp] at h; cases h
set_option linter.unusedSimpArgs false
attribute [local irreducible] AWp AOps AQ AYield AEff ACall AWk AAny AAt AThen AIn APost NoPanic
def advRT (x : AdvR) : AVal := .agg [.d (uD x.a.p.a), .d (iD x.a.p.b), .top, .top, .top, .top, .top, .top, .top, .top, .top, .top, .top]
theorem sorted1_A (x y : AdvR) : ACall Try.prog 38 [advRT x, advRT y] [] (Just (intA (cmpR x y))) := by
  have hc := cmp_A x.a.p y.a.p
  obtain ⟨c, hcc⟩ : ∃ c, cmpR x y = c := ⟨_, rfl⟩
  have e : cmpP x.a.p y.a.p = c := hcc
  rw [e] at hc
  rw [hcc]
  refine ACall_of tabOk Try.func38 rfl Try.ntmps38 (congrArg Array.toList Try.results38) (by kernel_rfl) rfl ?_
  repeat (first | refine q_Z ?_ | refine R_quiet rfl mixed (by kernel_rfl) ?_ | ((first | apply O_y rfl rfl rfl | apply Q_y rfl rfl rfl); (first | exact q_A | exact q_5 | exact q_B)) | refine q_d ?_ | refine q_a ?_ | refine q_b ?_ | refine q_c ?_ | refine A_ct rfl ?_ | refine A_cf rfl ?_ | refine q_W ?_ | refine O_c rfl rfl rfl rfl rfl hc (fun _ => rfl) ?_)
  exact X_ret rfl ⟨rfl, rfl⟩
abbrev rB (l : List AdvR) : ABlk := .row 34 13 l.length (l.flatMap advRD)
theorem sortR_A (l : List AdvR) (hn : l.length ≤ 2147483648) (hd : ∀ (i j : Nat) (hi : i < l.length) (hj : j < l.length), cmpR l[i] l[j] = 0 → i = j) :
    ACall Try.prog 37 [.row 1000, .fn 38 []] [(1000, rB l)] (fun c h => c = .tup [] ∧ h = [(1000, rB (srt cmpR l))]) := by
  have := sortA (β := AdvR) Try.sortAdvert (f := 37) (el := 34) (k := 13) rfl (by kernel_rfl) (fun W => Try.isAgg34 W) (fun W => Try.sizeOf34 W) (encD := advRD) advRD_len good_cmpR (eT := advRT) (g := 38) sorted1_A
    (fun x vs hl hr W => by
      refine .agg _ _ (by simpa [advRT] using hl) fun i c u h1 h2 => ?_
      have h2 : vs[i]? = some u := by simpa using h2
      match i, h1 with
      | 0, h1 =>
        cases h1
        obtain ⟨w, Fr, h3⟩ := hr 0 (uD x.a.p.a) u rfl h2
        cases h3 with
        | sc _ h => exact .d _ _ (.sc _ h)
      | 1, h1 =>
        cases h1
        obtain ⟨w, Fr, h3⟩ := hr 1 (iD x.a.p.b) u rfl h2
        cases h3 with
        | sc _ h => exact .d _ _ (.sc _ h)
      | 2, h1 => cases h1; exact .top _
      | 3, h1 => cases h1; exact .top _
      | 4, h1 => cases h1; exact .top _
      | 5, h1 => cases h1; exact .top _
      | 6, h1 => cases h1; exact .top _
      | 7, h1 => cases h1; exact .top _
      | 8, h1 => cases h1; exact .top _
      | 9, h1 => cases h1; exact .top _
      | 10, h1 => cases h1; exact .top _
      | 11, h1 => cases h1; exact .top _
      | 12, h1 => cases h1; exact .top _
      | i + 13, h1 => cases h1)
    [.int .u32 0, .int .i64 0, .int .u32 0, .int .i64 0, .int .i64 0, .slice none 0 0, .slice none 0 0, .int .u32 0, .int .u32 0, .bool false, .int .u32 0, .slice none 0 0, .int .i64 0] rfl (by decide) (fun W => by
      refine .agg _ _ rfl fun i c u h1 h2 => ?_
      match i, h1, h2 with
      | 0, h1, h2 => cases h1; cases h2; exact sc_rel rfl
      | 1, h1, h2 => cases h1; cases h2; exact sc_rel rfl
      | 2, h1, h2 => cases h1; exact .top _
      | 3, h1, h2 => cases h1; exact .top _
      | 4, h1, h2 => cases h1; exact .top _
      | 5, h1, h2 => cases h1; exact .top _
      | 6, h1, h2 => cases h1; exact .top _
      | 7, h1, h2 => cases h1; exact .top _
      | 8, h1, h2 => cases h1; exact .top _
      | 9, h1, h2 => cases h1; exact .top _
      | 10, h1, h2 => cases h1; exact .top _
      | 11, h1, h2 => cases h1; exact .top _
      | 12, h1, h2 => cases h1; exact .top _
      | i + 13, h1, h2 => cases h1) (fun w => (sortNilB _ w).mono fun e w' h => ⟨h.1, h.2.symm⟩) l hn hd
  unfold rB
  rw [srt_len]
  exact this
def byB (l : List (Pfx × AdvR)) : ABlk := .map (ents pfxA advRA l)
theorem kill_by (id : Nat) (l : List (Pfx × AdvR)) : killB id (byB l) = byB l := by
  show ABlk.map ((l.map fun p => (pfxA p.1, advRA p.2)).map fun p => (killV id p.1, killV id p.2)) = _
  rw [List.map_map]; rfl
theorem kill_byx (id r clk : Nat) (bs : List Nat) (l : List (Pfx × AdvR)) : killB id (.mapx r bs clk (ents pfxA advRA l)) = .mapx r bs clk (ents pfxA advRA l) := by
  show ABlk.mapx r bs clk ((l.map fun p => (pfxA p.1, advRA p.2)).map fun p => (killV id p.1, killV id p.2)) = _
  rw [List.map_map]; rfl
theorem kbx3 (i j k r clk : Nat) (bs : List Nat) (l : List (Pfx × AdvR)) : some (killB i (killB j (killB k (.mapx r bs clk (ents pfxA advRA l))))) = some (.mapx r bs clk (ents pfxA advRA l)) := by rw [kill_byx, kill_byx, kill_byx]
set_option maxHeartbeats 8000000 in
theorem sorted_A (es : List (Pfx × AdvR)) (hE : EntR es) (hn : es.length ≤ 1000000) : ACall Try.prog 20 [.mp 1000] [(1000, byB es)] (fun c h => c = .row 3 ∧ h = [(3, rB (srt cmpR (es.map (·.2)))), (1000, byB es)]) := by
  refine ACall_of tabOk Try.func20 rfl Try.ntmps20 (congrArg Array.toList Try.results20) (by kernel_rfl) rfl ?_
  refine A_open (mid := 1000) rfl fun r bs clk hbl hbp hbc => ?_
  repeat ((fail_if_success (refine stopL ?_)); first | refine q_Z ?_ | refine R_quiet rfl mixed (by kernel_rfl) ?_ | ((first | apply O_y rfl rfl rfl | apply Q_y rfl rfl rfl); (first | exact R_addN rfl rfl rfl | exact R_subN rfl rfl rfl | (first | exact q_A | exact q_5 | exact q_B))) | refine q_d ?_ | refine q_a ?_ | refine q_b ?_ | refine q_c ?_ | refine A_ct rfl ?_ | refine A_cf rfl ?_ | refine q_W ?_ | (refine O_range tabOk rfl rfl rfl rfl rfl rfl rfl rfl ?_))
  refine A_weaken (Wk_sel (e1 := [(3, .d (.sc (.slice none 0 0))), (7, .ptr 7 0)]) (h1 := [(7, .it (.mapIter (some r) clk #[] clk)), (1000, .mapx r bs clk (ents pfxA advRA es))]) ⟨rfl, rfl, trivial⟩ ⟨rfl, congrArg some (kill_byx _ _ _ _ _), trivial⟩) ?_
  refine A_weaken (Wk_nil 34 13 (t := 3) (id := 3) rfl rfl) ?_
  try refine A_block ?_
  refine A_loop (fun _ : List Nat => [(3, .row 3), (7, .ptr 7 0)]) (fun js => [(3, rB ((comeB es js).map (·.2))), (7, .it (.mapIter (some r) clk (seenB bs js) clk)), (1000, .mapx r bs clk (ents pfxA advRA es))]) (fun js => js.Nodup ∧ ∀ j ∈ js, j < es.length) (fun js => es.length - js.length) [] ⟨.nil, by simp⟩ (Wk_sel ⟨rfl, rfl, trivial⟩ ⟨rfl, rfl, congrArg some (kill_byx _ _ _ _ _), trivial⟩) ?_
  rintro js ⟨hnd, hjl⟩
  try dsimp only
  have hbm : bs.length = es.length := by rw [hbl]; simp [ents]
  have hbjl : ∀ j ∈ js, j < bs.length := fun j hj => by rw [hbm]; exact hjl j hj
  refine A_seq ?_
  refine R_list ?_
  refine O_next (mid := 1000) rfl rfl rfl rfl rfl rfl rfl (Nat.le_refl _) (Nat.le_refl _) (fun hall => ?_) (fun j p b hp hb hs => ?_)
  · have hper := comeB_all es js hnd hjl fun j hj => (seenB_has bs js hbp hbjl j bs[j] (List.getElem?_eq_getElem (by omega))).1 (hall _ (List.getElem_mem (by omega)))
    have hper2 : ((comeB es js).map (·.2)).Perm (es.map (·.2)) := hper.map _
    have hap := apartR_perm hper2 hE.apart
    have hsrt : srt cmpR ((comeB es js).map (·.2)) = srt cmpR (es.map (·.2)) := srtR_perm hper2 hE.apart
    have hlen : ((comeB es js).map (·.2)).length ≤ 1000000 := by rw [hper2.length_eq, List.length_map]; omega
    generalize (comeB es js).map (·.2) = L at hap hsrt hlen ⊢
    have hso := sortR_A L (by omega) (apartR_idx hap)
    rw [hsrt] at hso
    repeat ((fail_if_success (refine stopL ?_)); first | refine q_Z ?_ | refine R_quiet rfl mixed (by kernel_rfl) ?_ | ((first | apply O_y rfl rfl rfl | apply Q_y rfl rfl rfl); (first | exact R_addN rfl rfl rfl | exact R_subN rfl rfl rfl | (first | exact q_A | exact q_5 | exact q_B))) | refine q_d ?_ | refine q_a ?_ | refine q_b ?_ | refine q_c ?_ | refine A_ct rfl ?_ | refine A_cf rfl ?_ | refine q_W ?_)
    refine O_cP [(1000, 3)] (fun p p' i h1 h2 => by rw [(look_oneB h1).1, (look_oneB h2).1]) (fun p i h1 => by rw [(look_oneB h1).1]; exact ⟨Nat.le_refl _, rfl, rfl⟩) hso (fun c hc => by simp at hc; rcases hc with rfl | rfl <;> rfl) ⟨⟨3, _, rfl, rfl, rfl, trivial⟩, trivial⟩ rfl rfl rfl rfl rfl rfl ?_
    repeat ((fail_if_success (refine stopL ?_)); first | refine q_Z ?_ | refine R_quiet rfl mixed (by kernel_rfl) ?_ | ((first | apply O_y rfl rfl rfl | apply Q_y rfl rfl rfl); (first | exact R_addN rfl rfl rfl | exact R_subN rfl rfl rfl | (first | exact q_A | exact q_5 | exact q_B))) | refine q_d ?_ | refine q_a ?_ | refine q_b ?_ | refine q_c ?_ | refine A_ct rfl ?_ | refine A_cf rfl ?_ | refine q_W ?_)
    exact X_retW ((Wk_close (mid := 1000) rfl).trans (Wk_sel (e1 := [(2, .row 3)]) (h1 := [(3, rB (srt cmpR (es.map (·.2)))), (1000, byB es)]) ⟨rfl, trivial⟩ ⟨rfl, rfl, trivial⟩)) rfl (h2 := [(3, rB (srt cmpR (es.map (·.2)))), (1000, byB es)]) ⟨rfl, rfl, trivial⟩ ⟨rfl, rfl⟩
  · obtain ⟨q, hq, rfl⟩ : ∃ q, es[j]? = some q ∧ p = (pfxA q.1, advRA q.2) := by
      rw [ents, List.getElem?_map] at hp
      cases h1 : es[j]? with
      | none => simp [h1] at hp
      | some q => simp [h1] at hp; exact ⟨q, rfl, hp.symm⟩
    have hjm : j < es.length := (List.getElem?_eq_some_iff.1 hq).1
    have hnot : j ∉ js := fun h => by rw [(seenB_has bs js hbp hbjl j b hb).2 h] at hs; cases hs
    have hnd2 : (js ++ [j]).Nodup := List.nodup_append.2 ⟨hnd, by simp, by rintro a ha b hb rfl; simp at hb; subst hb; exact hnot ha⟩
    have hjl2 : ∀ i ∈ js ++ [j], i < es.length := fun i hi => by
      rcases List.mem_append.1 hi with h | h
      · exact hjl i h
      · simp at h; omega
    have hlen2 := nodupB_len hnd2 hjl2
    rw [List.length_append] at hlen2
    simp at hlen2
    rw [seenB_push bs js j b hb]
    have hcs := comeB_snoc es js j q hq
    have hcl : ((comeB es js).map (·.2)).length ≤ 1000000 := by
      rw [List.length_map]
      have := comeB_len es js
      omega
    repeat ((fail_if_success (refine stopL ?_)); first | refine q_Z ?_ | refine R_quiet rfl mixed (by kernel_rfl) ?_ | ((first | apply O_y rfl rfl rfl | apply Q_y rfl rfl rfl); (first | exact R_addN rfl rfl rfl | exact R_subN rfl rfl rfl | (first | exact q_A | exact q_5 | exact q_B | (exact R_entry (mid := 1000) (p := (pfxA q.1, advRA q.2)) rfl rfl (by rw [← seenB_push bs js j b hb]; rfl) rfl hp hb rfl rfl)))) | refine q_d ?_ | refine q_a ?_ | refine q_b ?_ | refine q_c ?_ | refine A_ct rfl ?_ | refine A_cf rfl ?_ | refine q_W ?_ | (first | refine O_appR tabOk rfl rfl rfl rfl rfl rfl rfl rfl rfl rfl rfl (by first | exact Src.row rfl | exact Src.dat _ _ | exact Src.nil) rfl (by omega) ?_ | refine O_appN tabOk rfl rfl rfl rfl rfl rfl rfl rfl rfl rfl (by first | exact Src.row rfl | exact Src.dat _ _ | exact Src.nil) rfl (by omega) ?_))
    exact ⟨js ++ [j], ⟨hnd2, hjl2⟩, by rw [List.length_append]; simp; omega, Wk_sel ⟨rfl, rfl, trivial⟩ ⟨row_eq (by rw [hcs]; simp) (by rw [hcs, List.map_append, List.flatMap_append]; simp; rfl) rfl, rfl, kbx3 _ _ _ _ _ _ _, trivial⟩⟩
end Ab
end Go.Proofs.Ytblgdfcijkaimaa

/-
  RibLooked holds.
-/
import Derived.Test.YtjfmiehpncginaaRb4
set_option linter.unusedVariables false
set_option linter.unusedSimpArgs false
namespace Go.Proofs.Ytjfmiehpncginaa.Ab
set_option linter.unusedVariables false
set_option maxRecDepth 100000
open Go.RowKit Go.Lib
/-! ### Plain -/
theorem long_mem {l : List Rte} {a : Int} {r : Rte} : r ∈ longL l a ↔ r ∈ l ∧ inB a r.p = true ∧ ∀ s ∈ l, inB a s.p = true → s.p.b ≤ r.p.b := by
  unfold longL
  rw [sortU_mem, List.mem_filter, topB_iff]
theorem long_same {l : List Rte} {a : Int} {r s : Rte} (hr : r ∈ longL l a) (hs : s ∈ longL l a) : r.p = s.p := by
  obtain ⟨h1, h2, h3⟩ := long_mem.1 hr
  obtain ⟨h4, h5, h6⟩ := long_mem.1 hs
  have := h3 s h4 h5
  have := h6 r h1 h2
  exact inB_one h2 h5 (by omega)
theorem long_ex {l : List Rte} {a : Int} {r : Rte} (hr : r ∈ l) (hi : inB a r.p = true) : ∃ t, t ∈ longL l a := by
  have G : Good fun x y : Rte => c2 y.p.b x.p.b := (good_c2.of fun r : Rte => r.p.b).neg
  obtain ⟨t, ht, hl⟩ := Go.Proofs.Ytjfmiehpncginaa.least G (l.filter fun r => inB a r.p) (fun e => by
    have : r ∈ l.filter fun r => inB a r.p := List.mem_filter.2 ⟨hr, hi⟩
    rw [e] at this; cases this)
  have ht2 := List.mem_filter.1 ht
  refine ⟨t, long_mem.2 ⟨ht2.1, ht2.2, fun s hs hsi => ?_⟩⟩
  have h := hl s (List.mem_filter.2 ⟨hs, hsi⟩)
  rcases Int.lt_or_le t.p.b s.p.b with h1 | h1
  · have := c2_gt.2 h1; (try dsimp only at h); omega
  · exact h1
theorem long_of {l : List Rte} {a : Int} {r t : Rte} (ht : t ∈ longL l a) (hr : r ∈ l) (hi : inB a r.p = true) (hb : t.p.b ≤ r.p.b) : r ∈ longL l a := by
  obtain ⟨h1, h2, h3⟩ := long_mem.1 ht
  exact long_mem.2 ⟨hr, hi, fun s hs hsi => Int.le_trans (h3 s hs hsi) hb⟩
theorem long_take {l : List Rte} {a : Int} : (longL l a = [] ↔ longL (takeR l) a = []) ∧ ∀ t ∈ longL l a, ∀ u ∈ longL (takeR l) a, t.p = u.p := by
  have down : ∀ t ∈ longL l a, ∃ b ∈ takeR l, b.p = t.p := fun t ht => by
    obtain ⟨b, hb, hp, _⟩ := winner l t (long_mem.1 ht).1
    exact ⟨b, hb, hp⟩
  refine ⟨⟨fun h => ?_, fun h => ?_⟩, fun t ht u hu => ?_⟩
  · refine List.eq_nil_iff_forall_not_mem.2 fun u hu => ?_
    obtain ⟨h1, h2, _⟩ := long_mem.1 hu
    obtain ⟨t, ht⟩ := long_ex (takeR_mem.1 h1).1 h2
    rw [h] at ht; cases ht
  · refine List.eq_nil_iff_forall_not_mem.2 fun t ht => ?_
    obtain ⟨b, hb, hp⟩ := down t ht
    obtain ⟨u, hu⟩ := long_ex hb (by rw [hp]; exact (long_mem.1 ht).2.1)
    rw [h] at hu; cases hu
  · obtain ⟨h1, h2, h3⟩ := long_mem.1 ht
    obtain ⟨h4, h5, h6⟩ := long_mem.1 hu
    obtain ⟨b, hb, hp⟩ := down t ht
    have e1 := h3 u (takeR_mem.1 h4).1 h5
    have e2 := h6 b hb (by rw [hp]; exact h2)
    rw [hp] at e2
    exact inB_one h2 h5 (by omega)
theorem longL_len (l : List Rte) (a : Int) : (longL l a).length ≤ l.length := Nat.le_trans (sortU_len _) (List.length_filter_le _ _)
def anyE (X : List Rte) (r : Rte) : Bool := X.any fun y => decide (y = r)
theorem anyE_take (X : List Rte) (r : Rte) (k : Nat) (h : k < X.length) : anyE (X.take (k + 1)) r = (anyE (X.take k) r || decide (X[k] = r)) := by
  unfold anyE
  rw [List.take_succ_eq_append_getElem h, List.any_append]
  simp
theorem anyE_mem {X : List Rte} {r : Rte} (h : r ∈ X) : anyE X r = true := List.any_eq_true.2 ⟨r, h, by simp⟩
set_option linter.unusedSimpArgs false
attribute [local irreducible] AWp AOps AQ AYield AEff ACall AWk AAny AAt AThen AIn APost NoPanic
abbrev lkE (l X Y : List Rte) (a : Int) : Env := [(0, rtesA l), (1, .d (.sc (.int .u32 a))), (5, rtesA X), (6, rtesA Y)]
set_option maxHeartbeats 16000000 in
theorem looked_A (l rest : List Rte) (a : Int) (a0 : 0 ≤ a) (a1 : a < 4294967296) (hok : ∀ r ∈ l, okR r) (hn : l.length ≤ 150) (hr : rest ≠ [] → l.length = 150) :
    ACall Try.prog 5 [.d (.sl (l.flatMap rteD ++ rest.flatMap rteD) (l.length + rest.length)), .d (.sc (.int .u32 a))] [] (Just (boolA true)) := by
  have hx := ribLongest_A l hok (by omega) a a0 a1
  have ht := take_A l hok (by omega)
  have htl := takeR_len l
  have hok2 : ∀ r ∈ takeR l, okR r := fun r hr => hok r (takeR_mem.1 hr).1
  have hy := ribLongest_A (takeR l) hok2 (by omega) a a0 a1
  have hX := longL_len l a
  have hY := longL_len (takeR l) a
  obtain ⟨hnil, hsame⟩ := long_take (l := l) (a := a)
  have hxs := fun r s => long_same (l := l) (a := a) (r := r) (s := s)
  have hxe := fun r => long_ex (l := l) (a := a) (r := r)
  have hxo := fun r t => long_of (l := l) (a := a) (r := r) (t := t)
  have hxi := fun r => (long_mem (l := l) (a := a) (r := r)).1
  obtain ⟨X, hXX⟩ : ∃ X, longL l a = X := ⟨_, rfl⟩
  obtain ⟨Y, hYY⟩ : ∃ Y, longL (takeR l) a = Y := ⟨_, rfl⟩
  rw [hXX] at hx hX hnil hsame hxs hxe hxo hxi
  rw [hYY] at hy hY hnil hsame
  clear hXX hYY
  have hmin : (if (150 : Int) < ((l.length + rest.length : Nat) : Int) then (150 : Int) else ((l.length + rest.length : Nat) : Int)) = (l.length : Int) := by
    cases rest with
    | nil => simp; omega
    | cons b r => have := hr (by simp); simp; omega
  refine ACall_of tabOk Try.func5 rfl Try.ntmps5 (congrArg Array.toList Try.results5) (by kernel_rfl) rfl ?_
  repeat (first | refine A_seq ?_ | refine A_block ?_ | refine R_list ?_ | ((first | apply O_y rfl rfl rfl | apply Q_y rfl rfl rfl); (first | exact Y_move rfl rfl | exact Y_assign rfl rfl | exact R_index tabOk rfl rfl rfl rfl rfl rfl (by omega) | exact R_fieldi tabOk rfl rfl rfl | exact R_loadi tabOk rfl rfl rfl rfl rfl rfl rfl | exact R_len tabOk rfl rfl rfl | exact R_load tabOk rfl rfl rfl rfl rfl rfl rfl rfl rfl | exact R_field tabOk rfl rfl rfl rfl | exact Y_addn rfl rfl rfl | exact Y_subn rfl rfl rfl | exact R_cmpT rfl rfl rfl rfl | exact R_cmpF rfl rfl rfl rfl | exact Y_ibin rfl rfl rfl rfl | exact Y_extract rfl rfl rfl | exact R_lenr tabOk rfl rfl rfl rfl | exact R_lenn tabOk rfl rfl rfl | exact R_indexr tabOk rfl rfl rfl rfl rfl rfl rfl (by omega) | exact R_fielde tabOk rfl rfl rfl rfl | exact R_loade tabOk rfl rfl rfl rfl rfl rfl rfl rfl rfl | exact Y_not rfl rfl | exact Y_pick_t rfl rfl (by first | rfl | assumption) rfl | exact Y_pick_f rfl rfl (by first | rfl | assumption) rfl | exact Y_pick_b rfl rfl rfl rfl | exact R_build tabOk rfl rfl rfl rfl rfl rfl | (first | exact R_min rfl rfl rfl hmin | exact R_sliceD tabOk rfl rfl rfl rfl rfl rfl (by omega)))) | refine O_nil ?_ | refine Q_nil ?_ | refine X_then_normal ?_ | refine X_in_normal ?_ | refine O_box rfl rfl rfl rfl rfl rfl rfl ?_ | refine O_alloc tabOk rfl rfl rfl rfl rfl rfl ?_ | refine O_store tabOk rfl rfl rfl rfl rfl rfl rfl rfl rfl rfl rfl ?_ | refine O_slice tabOk rfl rfl rfl rfl rfl rfl rfl rfl rfl rfl rfl ?_ | refine A_ct rfl ?_ | refine A_cf rfl ?_ | refine A_skip ?_ | refine A_exit ?_ | refine A_ret ?_ | refine X_then_exit ?_ | refine X_then_ret ?_ | refine X_in_same ?_ | refine X_in_other rfl ?_ | refine X_in_ret ?_ | refine O_s rfl rfl rfl ?_ | refine Q_s rfl rfl rfl ?_ | refine O_sn rfl rfl ?_ | refine O_c rfl rfl rfl rfl rfl ribAwake_A (fun _ => rfl) ?_)
  refine O_weaken (Wk_see (t := 18) rfl see_pfx) ?_
  refine O_weaken (Wk_see (t := 0) rfl see_pfx) ?_
  refine O_weaken (Wk_sel (e1 := [(0, rtesA l), (1, .d (.sc (.int .u32 a))), (18, rtesA l), (19, .d (.sc (.int .u32 a)))]) (h1 := []) ⟨rfl, rfl, rfl, rfl, trivial⟩ trivial) ?_
  refine O_cRow rfl rfl rfl rfl rfl hx rfl ?_
  refine O_weaken (Wk_freeze (id := 5) rfl) ?_
  repeat (first | refine A_seq ?_ | refine A_block ?_ | refine R_list ?_ | ((first | apply O_y rfl rfl rfl | apply Q_y rfl rfl rfl); (first | exact Y_move rfl rfl | exact Y_assign rfl rfl | exact R_index tabOk rfl rfl rfl rfl rfl rfl (by omega) | exact R_fieldi tabOk rfl rfl rfl | exact R_loadi tabOk rfl rfl rfl rfl rfl rfl rfl | exact R_len tabOk rfl rfl rfl | exact R_load tabOk rfl rfl rfl rfl rfl rfl rfl rfl rfl | exact R_field tabOk rfl rfl rfl rfl | exact Y_addn rfl rfl rfl | exact Y_subn rfl rfl rfl | exact R_cmpT rfl rfl rfl rfl | exact R_cmpF rfl rfl rfl rfl | exact Y_ibin rfl rfl rfl rfl | exact Y_extract rfl rfl rfl | exact R_lenr tabOk rfl rfl rfl rfl | exact R_lenn tabOk rfl rfl rfl | exact R_indexr tabOk rfl rfl rfl rfl rfl rfl rfl (by omega) | exact R_fielde tabOk rfl rfl rfl rfl | exact R_loade tabOk rfl rfl rfl rfl rfl rfl rfl rfl rfl | exact Y_not rfl rfl | exact Y_pick_t rfl rfl (by first | rfl | assumption) rfl | exact Y_pick_f rfl rfl (by first | rfl | assumption) rfl | exact Y_pick_b rfl rfl rfl rfl | exact R_build tabOk rfl rfl rfl rfl rfl rfl | fail)) | refine O_nil ?_ | refine Q_nil ?_ | refine X_then_normal ?_ | refine X_in_normal ?_ | refine O_box rfl rfl rfl rfl rfl rfl rfl ?_ | refine O_alloc tabOk rfl rfl rfl rfl rfl rfl ?_ | refine O_store tabOk rfl rfl rfl rfl rfl rfl rfl rfl rfl rfl rfl ?_ | refine O_slice tabOk rfl rfl rfl rfl rfl rfl rfl rfl rfl rfl rfl ?_ | refine A_ct rfl ?_ | refine A_cf rfl ?_ | refine A_skip ?_ | refine A_exit ?_ | refine A_ret ?_ | refine X_then_exit ?_ | refine X_then_ret ?_ | refine X_in_same ?_ | refine X_in_other rfl ?_ | refine X_in_ret ?_ | refine O_s rfl rfl rfl ?_ | refine Q_s rfl rfl rfl ?_ | refine O_sn rfl rfl ?_ | fail)
  refine O_cRow rfl rfl rfl rfl rfl ht rfl ?_
  refine O_weaken (Wk_freeze (id := 5) rfl) ?_
  repeat (first | refine A_seq ?_ | refine A_block ?_ | refine R_list ?_ | ((first | apply O_y rfl rfl rfl | apply Q_y rfl rfl rfl); (first | exact Y_move rfl rfl | exact Y_assign rfl rfl | exact R_index tabOk rfl rfl rfl rfl rfl rfl (by omega) | exact R_fieldi tabOk rfl rfl rfl | exact R_loadi tabOk rfl rfl rfl rfl rfl rfl rfl | exact R_len tabOk rfl rfl rfl | exact R_load tabOk rfl rfl rfl rfl rfl rfl rfl rfl rfl | exact R_field tabOk rfl rfl rfl rfl | exact Y_addn rfl rfl rfl | exact Y_subn rfl rfl rfl | exact R_cmpT rfl rfl rfl rfl | exact R_cmpF rfl rfl rfl rfl | exact Y_ibin rfl rfl rfl rfl | exact Y_extract rfl rfl rfl | exact R_lenr tabOk rfl rfl rfl rfl | exact R_lenn tabOk rfl rfl rfl | exact R_indexr tabOk rfl rfl rfl rfl rfl rfl rfl (by omega) | exact R_fielde tabOk rfl rfl rfl rfl | exact R_loade tabOk rfl rfl rfl rfl rfl rfl rfl rfl rfl | exact Y_not rfl rfl | exact Y_pick_t rfl rfl (by first | rfl | assumption) rfl | exact Y_pick_f rfl rfl (by first | rfl | assumption) rfl | exact Y_pick_b rfl rfl rfl rfl | exact R_build tabOk rfl rfl rfl rfl rfl rfl | fail)) | refine O_nil ?_ | refine Q_nil ?_ | refine X_then_normal ?_ | refine X_in_normal ?_ | refine O_box rfl rfl rfl rfl rfl rfl rfl ?_ | refine O_alloc tabOk rfl rfl rfl rfl rfl rfl ?_ | refine O_store tabOk rfl rfl rfl rfl rfl rfl rfl rfl rfl rfl rfl ?_ | refine O_slice tabOk rfl rfl rfl rfl rfl rfl rfl rfl rfl rfl rfl ?_ | refine A_ct rfl ?_ | refine A_cf rfl ?_ | refine A_skip ?_ | refine A_exit ?_ | refine A_ret ?_ | refine X_then_exit ?_ | refine X_then_ret ?_ | refine X_in_same ?_ | refine X_in_other rfl ?_ | refine X_in_ret ?_ | refine O_s rfl rfl rfl ?_ | refine Q_s rfl rfl rfl ?_ | refine O_sn rfl rfl ?_ | fail)
  refine O_cRow rfl rfl rfl rfl rfl hy rfl ?_
  refine O_weaken (Wk_freeze (id := 5) rfl) ?_
  repeat (first | (apply O_y rfl rfl rfl; (first | exact Y_move rfl rfl | exact Y_assign rfl rfl | exact R_index tabOk rfl rfl rfl rfl rfl rfl (by omega) | exact R_fieldi tabOk rfl rfl rfl | exact R_loadi tabOk rfl rfl rfl rfl rfl rfl rfl | exact R_len tabOk rfl rfl rfl | exact R_load tabOk rfl rfl rfl rfl rfl rfl rfl rfl rfl | exact R_field tabOk rfl rfl rfl rfl | exact Y_addn rfl rfl rfl | exact Y_subn rfl rfl rfl | exact R_cmpT rfl rfl rfl rfl | exact R_cmpF rfl rfl rfl rfl | exact Y_ibin rfl rfl rfl rfl | exact Y_extract rfl rfl rfl | exact R_lenr tabOk rfl rfl rfl rfl | exact R_lenn tabOk rfl rfl rfl | exact R_indexr tabOk rfl rfl rfl rfl rfl rfl rfl (by omega) | exact R_fielde tabOk rfl rfl rfl rfl | exact R_loade tabOk rfl rfl rfl rfl rfl rfl rfl rfl rfl | exact Y_not rfl rfl | exact Y_pick_t rfl rfl (by first | rfl | assumption) rfl | exact Y_pick_f rfl rfl (by first | rfl | assumption) rfl | exact Y_pick_b rfl rfl rfl rfl | exact R_build tabOk rfl rfl rfl rfl rfl rfl | fail)) | refine O_alloc tabOk rfl rfl rfl rfl rfl rfl ?_ | refine O_store tabOk rfl rfl rfl rfl rfl rfl rfl rfl rfl rfl rfl ?_ | refine O_s rfl rfl rfl ?_ | refine O_sn rfl rfl ?_ | fail)
  refine O_nil ?_
  refine X_then_normal ?_
  refine A_weaken (Wk_sel (e1 := lkE l X Y a) (h1 := []) ⟨rfl, rfl, rfl, rfl, trivial⟩ trivial) ?_
  refine A_cut (lkE l X Y a) [] ?_ ?_
  · by_cases h0 : X.length = 0
    · have h1 : Y.length = 0 := by rw [hnil.1 (List.eq_nil_of_length_eq_zero h0)]; rfl
      repeat (first | refine A_seq ?_ | refine A_block ?_ | refine R_list ?_ | refine R_quiet rfl mixed (by kernel_rfl) ?_ | ((first | apply O_y rfl rfl rfl | apply Q_y rfl rfl rfl); (first | exact Y_move rfl rfl | exact Y_assign rfl rfl | exact R_index tabOk rfl rfl rfl rfl rfl rfl (by omega) | exact R_fieldi tabOk rfl rfl rfl | exact R_loadi tabOk rfl rfl rfl rfl rfl rfl rfl | exact R_len tabOk rfl rfl rfl | exact R_load tabOk rfl rfl rfl rfl rfl rfl rfl rfl rfl | exact R_field tabOk rfl rfl rfl rfl | exact Y_addn rfl rfl rfl | exact Y_subn rfl rfl rfl | exact R_cmpT rfl rfl rfl rfl | exact R_cmpF rfl rfl rfl rfl | exact Y_ibin rfl rfl rfl rfl | exact Y_extract rfl rfl rfl | exact R_lenr tabOk rfl rfl rfl rfl | exact R_lenn tabOk rfl rfl rfl | exact R_indexr tabOk rfl rfl rfl rfl rfl rfl rfl (by omega) | exact R_fielde tabOk rfl rfl rfl rfl | exact R_loade tabOk rfl rfl rfl rfl rfl rfl rfl rfl rfl | exact Y_not rfl rfl | exact Y_pick_t rfl rfl (by first | rfl | assumption) rfl | exact Y_pick_f rfl rfl (by first | rfl | assumption) rfl | exact Y_pick_b rfl rfl rfl rfl | exact R_build tabOk rfl rfl rfl rfl rfl rfl | (exact Y_bbin tabOk rfl rfl rfl rfl rfl))) | refine O_nil ?_ | refine Q_nil ?_ | refine X_then_normal ?_ | refine X_in_normal ?_ | refine O_box rfl rfl rfl rfl rfl rfl rfl ?_ | refine O_alloc tabOk rfl rfl rfl rfl rfl rfl ?_ | refine O_store tabOk rfl rfl rfl rfl rfl rfl rfl rfl rfl rfl rfl ?_ | refine O_slice tabOk rfl rfl rfl rfl rfl rfl rfl rfl rfl rfl rfl ?_ | refine A_ct rfl ?_ | refine A_cf rfl ?_ | refine A_skip ?_ | refine A_exit ?_ | refine A_ret ?_ | refine X_then_exit ?_ | refine X_then_ret ?_ | refine X_in_same ?_ | refine X_in_other rfl ?_ | refine X_in_ret ?_ | refine O_s rfl rfl rfl ?_ | refine Q_s rfl rfl rfl ?_ | refine O_sn rfl rfl ?_ | fail)
      exact Wk_sel ⟨rfl, rfl, rfl, rfl, trivial⟩ trivial
    · have h1 : ¬ Y.length = 0 := fun h => h0 (by rw [hnil.2 (List.eq_nil_of_length_eq_zero h)]; rfl)
      have hx0 : 0 < X.length := by omega
      have hy0 : 0 < Y.length := by omega
      have hpe := pfxEq X[0].p Y[0].p
      rw [show (X[0].p == Y[0].p) = true by simpa using hsame _ (List.getElem_mem hx0) _ (List.getElem_mem hy0)] at hpe
      repeat (first | refine A_seq ?_ | refine A_block ?_ | refine R_list ?_ | refine R_quiet rfl mixed (by kernel_rfl) ?_ | ((first | apply O_y rfl rfl rfl | apply Q_y rfl rfl rfl); (first | exact Y_move rfl rfl | exact Y_assign rfl rfl | exact R_index tabOk rfl rfl rfl rfl rfl rfl (by omega) | exact R_fieldi tabOk rfl rfl rfl | exact R_loadi tabOk rfl rfl rfl rfl (by first | exact win_flat0 rteD_len X 0 _ hx0 (by decide) | exact win_flat rteD_len X 0 _ _ hx0 (by decide) | exact win_flat2 rteD_len X 0 _ _ _ hx0 (by decide) | rfl) rfl rfl | exact R_len tabOk rfl rfl rfl | exact R_load tabOk rfl rfl rfl rfl rfl rfl rfl rfl rfl | exact R_field tabOk rfl rfl rfl rfl | exact Y_addn rfl rfl rfl | exact Y_subn rfl rfl rfl | exact R_cmpT rfl rfl rfl rfl | exact R_cmpF rfl rfl rfl rfl | exact Y_ibin rfl rfl rfl rfl | exact Y_extract rfl rfl rfl | exact R_lenr tabOk rfl rfl rfl rfl | exact R_lenn tabOk rfl rfl rfl | exact R_indexr tabOk rfl rfl rfl rfl rfl rfl rfl (by omega) | exact R_fielde tabOk rfl rfl rfl rfl | exact R_loade tabOk rfl rfl rfl rfl rfl rfl rfl rfl rfl | exact Y_not rfl rfl | exact Y_pick_t rfl rfl (by first | rfl | assumption) rfl | exact Y_pick_f rfl rfl (by first | rfl | assumption) rfl | exact Y_pick_b rfl rfl rfl rfl | exact R_build tabOk rfl rfl rfl rfl rfl rfl | (first | exact Y_bbin tabOk rfl rfl rfl rfl rfl | exact R_index (j := 0) tabOk rfl rfl rfl rfl rfl rfl hx0 | exact R_index (j := 0) tabOk rfl rfl rfl rfl rfl rfl hy0 | exact R_loadi tabOk rfl rfl rfl rfl (by first | exact win_flat0 rteD_len Y 0 _ hy0 (by decide) | exact win_flat rteD_len Y 0 _ _ hy0 (by decide) | exact win_flat2 rteD_len Y 0 _ _ _ hy0 (by decide) | rfl) rfl rfl | exact Y_eq tabOk noStand rfl rfl rfl rfl rfl rfl rfl rfl rfl (by kernel_rfl) hpe rfl))) | refine O_nil ?_ | refine Q_nil ?_ | refine X_then_normal ?_ | refine X_in_normal ?_ | refine O_box rfl rfl rfl rfl rfl rfl rfl ?_ | refine O_alloc tabOk rfl rfl rfl rfl rfl rfl ?_ | refine O_store tabOk rfl rfl rfl rfl rfl rfl rfl rfl rfl rfl rfl ?_ | refine O_slice tabOk rfl rfl rfl rfl rfl rfl rfl rfl rfl rfl rfl ?_ | refine A_ct rfl ?_ | refine A_cf rfl ?_ | refine A_skip ?_ | refine A_exit ?_ | refine A_ret ?_ | refine X_then_exit ?_ | refine X_then_ret ?_ | refine X_in_same ?_ | refine X_in_other rfl ?_ | refine X_in_ret ?_ | refine O_s rfl rfl rfl ?_ | refine Q_s rfl rfl rfl ?_ | refine O_sn rfl rfl ?_ | fail)
      exact Wk_sel ⟨rfl, rfl, rfl, rfl, trivial⟩ trivial
  ·
    repeat (first | refine A_seq ?_ | refine A_block ?_ | refine R_list ?_ | refine R_quiet rfl mixed (by kernel_rfl) ?_ | ((first | apply O_y rfl rfl rfl | apply Q_y rfl rfl rfl); (first | exact Y_move rfl rfl | exact Y_assign rfl rfl | exact R_index tabOk rfl rfl rfl rfl rfl rfl (by omega) | exact R_fieldi tabOk rfl rfl rfl | exact R_loadi tabOk rfl rfl rfl rfl rfl rfl rfl | exact R_len tabOk rfl rfl rfl | exact R_load tabOk rfl rfl rfl rfl rfl rfl rfl rfl rfl | exact R_field tabOk rfl rfl rfl rfl | exact Y_addn rfl rfl rfl | exact Y_subn rfl rfl rfl | exact R_cmpT rfl rfl rfl rfl | exact R_cmpF rfl rfl rfl rfl | exact Y_ibin rfl rfl rfl rfl | exact Y_extract rfl rfl rfl | exact R_lenr tabOk rfl rfl rfl rfl | exact R_lenn tabOk rfl rfl rfl | exact R_indexr tabOk rfl rfl rfl rfl rfl rfl rfl (by omega) | exact R_fielde tabOk rfl rfl rfl rfl | exact R_loade tabOk rfl rfl rfl rfl rfl rfl rfl rfl rfl | exact Y_not rfl rfl | exact Y_pick_t rfl rfl (by first | rfl | assumption) rfl | exact Y_pick_f rfl rfl (by first | rfl | assumption) rfl | exact Y_pick_b rfl rfl rfl rfl | exact R_build tabOk rfl rfl rfl rfl rfl rfl | fail)) | refine O_nil ?_ | refine Q_nil ?_ | refine X_then_normal ?_ | refine X_in_normal ?_ | refine O_box rfl rfl rfl rfl rfl rfl rfl ?_ | refine O_alloc tabOk rfl rfl rfl rfl rfl rfl ?_ | refine O_store tabOk rfl rfl rfl rfl rfl rfl rfl rfl rfl rfl rfl ?_ | refine O_slice tabOk rfl rfl rfl rfl rfl rfl rfl rfl rfl rfl rfl ?_ | refine A_ct rfl ?_ | refine A_cf rfl ?_ | refine A_skip ?_ | refine A_exit ?_ | refine A_ret ?_ | refine X_then_exit ?_ | refine X_then_ret ?_ | refine X_in_same ?_ | refine X_in_other rfl ?_ | refine X_in_ret ?_ | refine O_s rfl rfl rfl ?_ | refine Q_s rfl rfl rfl ?_ | refine O_sn rfl rfl ?_ | fail)
    refine A_loop (fun i : Nat => [(0, rtesA l), (1, .d (.sc (.int .u32 a))), (5, rtesA X), (7, intA (i : Int))]) (fun _ => []) (fun i => i ≤ l.length) (fun i => l.length - i) 0 (by omega) (Wk_sel ⟨rfl, rfl, rfl, rfl, trivial⟩ trivial) ?_
    intro i hi
    dsimp only
    by_cases hil : i < l.length
    · have hm := List.getElem_mem hil
      have hokp := (hok _ hm).2
      have hck := refCheck_A l[i].p hokp
      have hin := refIn_A a l[i].p hokp a0 a1
      rcases chk_cases l[i].p with hc | hc | hc
      · rw [hc] at hck
        cases hx : inB a l[i].p with
        | false =>
          rw [hx] at hin
          repeat (first | refine A_seq ?_ | refine A_block ?_ | refine R_list ?_ | refine R_quiet rfl mixed (by kernel_rfl) ?_ | ((first | apply O_y rfl rfl rfl | apply Q_y rfl rfl rfl); (first | exact Y_move rfl rfl | exact Y_assign rfl rfl | exact R_index tabOk rfl rfl rfl rfl rfl rfl (by omega) | exact R_fieldi tabOk rfl rfl rfl | exact R_loadi tabOk rfl rfl rfl rfl (by first | exact win_flat0 rteD_len l i _ hil (by decide) | exact win_flat rteD_len l i _ _ hil (by decide) | exact win_flat2 rteD_len l i _ _ _ hil (by decide) | rfl) rfl rfl | exact R_len tabOk rfl rfl rfl | exact R_load tabOk rfl rfl rfl rfl rfl rfl rfl rfl rfl | exact R_field tabOk rfl rfl rfl rfl | exact Y_addn rfl rfl rfl | exact Y_subn rfl rfl rfl | exact R_cmpT rfl rfl rfl rfl | exact R_cmpF rfl rfl rfl rfl | exact Y_ibin rfl rfl rfl rfl | exact Y_extract rfl rfl rfl | exact R_lenr tabOk rfl rfl rfl rfl | exact R_lenn tabOk rfl rfl rfl | exact R_indexr tabOk rfl rfl rfl rfl rfl rfl rfl (by omega) | exact R_fielde tabOk rfl rfl rfl rfl | exact R_loade tabOk rfl rfl rfl rfl rfl rfl rfl rfl rfl | exact Y_not rfl rfl | exact Y_pick_t rfl rfl (by first | rfl | assumption) rfl | exact Y_pick_f rfl rfl (by first | rfl | assumption) rfl | exact Y_pick_b rfl rfl rfl rfl | exact R_build tabOk rfl rfl rfl rfl rfl rfl | fail)) | refine O_nil ?_ | refine Q_nil ?_ | refine X_then_normal ?_ | refine X_in_normal ?_ | refine O_box rfl rfl rfl rfl rfl rfl rfl ?_ | refine O_alloc tabOk rfl rfl rfl rfl rfl rfl ?_ | refine O_store tabOk rfl rfl rfl rfl rfl rfl rfl rfl rfl rfl rfl ?_ | refine O_slice tabOk rfl rfl rfl rfl rfl rfl rfl rfl rfl rfl rfl ?_ | refine A_ct rfl ?_ | refine A_cf rfl ?_ | refine A_skip ?_ | refine A_exit ?_ | refine A_ret ?_ | refine X_then_exit ?_ | refine X_then_ret ?_ | refine X_in_same ?_ | refine X_in_other rfl ?_ | refine X_in_ret ?_ | refine O_s rfl rfl rfl ?_ | refine Q_s rfl rfl rfl ?_ | refine O_sn rfl rfl ?_ | (first | refine O_c rfl rfl rfl rfl rfl hck (fun _ => rfl) ?_ | refine O_c rfl rfl rfl rfl rfl hin (fun _ => rfl) ?_))
          exact ⟨i + 1, by omega, by omega, Wk_sel ⟨rfl, rfl, rfl, rfl, trivial⟩ trivial⟩
        | true =>
          rw [hx] at hin
          obtain ⟨t, htx⟩ := hxe _ hm hx
          have hx0 : 0 < X.length := List.length_pos_of_mem htx
          have hm0 := List.getElem_mem hx0
          have hle := (hxi _ hm0).2.2 _ hm hx
          have hend : (anyE X l[i] || decide (l[i].p.b < X[0].p.b)) = true := by
            by_cases hb : l[i].p.b < X[0].p.b
            · rw [decide_eq_true hb, Bool.or_true]
            · rw [anyE_mem (hxo _ _ hm0 hm hx (by omega)), Bool.true_or]
          repeat (first | refine A_seq ?_ | refine A_block ?_ | refine R_list ?_ | refine R_quiet rfl mixed (by kernel_rfl) ?_ | ((first | apply O_y rfl rfl rfl | apply Q_y rfl rfl rfl); (first | exact Y_move rfl rfl | exact Y_assign rfl rfl | exact R_index tabOk rfl rfl rfl rfl rfl rfl (by omega) | exact R_fieldi tabOk rfl rfl rfl | exact R_loadi tabOk rfl rfl rfl rfl (by first | exact win_flat0 rteD_len l i _ hil (by decide) | exact win_flat rteD_len l i _ _ hil (by decide) | exact win_flat2 rteD_len l i _ _ _ hil (by decide) | rfl) rfl rfl | exact R_len tabOk rfl rfl rfl | exact R_load tabOk rfl rfl rfl rfl rfl rfl rfl rfl rfl | exact R_field tabOk rfl rfl rfl rfl | exact Y_addn rfl rfl rfl | exact Y_subn rfl rfl rfl | exact R_cmpT rfl rfl rfl rfl | exact R_cmpF rfl rfl rfl rfl | exact Y_ibin rfl rfl rfl rfl | exact Y_extract rfl rfl rfl | exact R_lenr tabOk rfl rfl rfl rfl | exact R_lenn tabOk rfl rfl rfl | exact R_indexr tabOk rfl rfl rfl rfl rfl rfl rfl (by omega) | exact R_fielde tabOk rfl rfl rfl rfl | exact R_loade tabOk rfl rfl rfl rfl rfl rfl rfl rfl rfl | exact Y_not rfl rfl | exact Y_pick_t rfl rfl (by first | rfl | assumption) rfl | exact Y_pick_f rfl rfl (by first | rfl | assumption) rfl | exact Y_pick_b rfl rfl rfl rfl | exact R_build tabOk rfl rfl rfl rfl rfl rfl | (first | exact R_index (j := 0) tabOk rfl rfl rfl rfl rfl rfl hx0 | exact R_loadi tabOk rfl rfl rfl rfl (by first | exact win_flat0 rteD_len X 0 _ hx0 (by decide) | exact win_flat rteD_len X 0 _ _ hx0 (by decide) | exact win_flat2 rteD_len X 0 _ _ _ hx0 (by decide) | rfl) rfl rfl))) | refine O_nil ?_ | refine Q_nil ?_ | refine X_then_normal ?_ | refine X_in_normal ?_ | refine O_box rfl rfl rfl rfl rfl rfl rfl ?_ | refine O_alloc tabOk rfl rfl rfl rfl rfl rfl ?_ | refine O_store tabOk rfl rfl rfl rfl rfl rfl rfl rfl rfl rfl rfl ?_ | refine O_slice tabOk rfl rfl rfl rfl rfl rfl rfl rfl rfl rfl rfl ?_ | refine A_ct rfl ?_ | refine A_cf rfl ?_ | refine A_skip ?_ | refine A_exit ?_ | refine A_ret ?_ | refine X_then_exit ?_ | refine X_then_ret ?_ | refine X_in_same ?_ | refine X_in_other rfl ?_ | refine X_in_ret ?_ | refine O_s rfl rfl rfl ?_ | refine Q_s rfl rfl rfl ?_ | refine O_sn rfl rfl ?_ | (first | refine O_c rfl rfl rfl rfl rfl hck (fun _ => rfl) ?_ | refine O_c rfl rfl rfl rfl rfl hin (fun _ => rfl) ?_))
          refine A_loop (fun x : Nat × Bool => [(0, rtesA l), (1, .d (.sc (.int .u32 a))), (5, rtesA X), (7, intA (i : Int)), (8, boolA x.2), (9, intA (x.1 : Int))]) (fun _ => []) (fun x => x.1 ≤ X.length ∧ x.2 = (anyE (X.take x.1) l[i] || decide (l[i].p.b < X[0].p.b))) (fun x => X.length - x.1) (0, decide (l[i].p.b < X[0].p.b)) ⟨by omega, rfl⟩ (Wk_sel ⟨rfl, rfl, rfl, rfl, rfl, rfl, trivial⟩ trivial) ?_
          rintro ⟨k, b⟩ ⟨hk, hb⟩
          dsimp only at hk hb ⊢
          by_cases hkx : k < X.length
          · have hw0 := win_at X k hkx
            have hw1 := win_at l i hil
            cases b with
            | true =>
              repeat (first | refine A_seq ?_ | refine A_block ?_ | refine R_list ?_ | refine R_quiet rfl mixed (by kernel_rfl) ?_ | ((first | apply O_y rfl rfl rfl | apply Q_y rfl rfl rfl); (first | exact Y_move rfl rfl | exact Y_assign rfl rfl | exact R_index tabOk rfl rfl rfl rfl rfl rfl (by omega) | exact R_fieldi tabOk rfl rfl rfl | exact R_loadi tabOk rfl rfl rfl rfl rfl rfl rfl | exact R_len tabOk rfl rfl rfl | exact R_load tabOk rfl rfl rfl rfl rfl rfl rfl rfl rfl | exact R_field tabOk rfl rfl rfl rfl | exact Y_addn rfl rfl rfl | exact Y_subn rfl rfl rfl | exact R_cmpT rfl rfl rfl rfl | exact R_cmpF rfl rfl rfl rfl | exact Y_ibin rfl rfl rfl rfl | exact Y_extract rfl rfl rfl | exact R_lenr tabOk rfl rfl rfl rfl | exact R_lenn tabOk rfl rfl rfl | exact R_indexr tabOk rfl rfl rfl rfl rfl rfl rfl (by omega) | exact R_fielde tabOk rfl rfl rfl rfl | exact R_loade tabOk rfl rfl rfl rfl rfl rfl rfl rfl rfl | exact Y_not rfl rfl | exact Y_pick_t rfl rfl (by first | rfl | assumption) rfl | exact Y_pick_f rfl rfl (by first | rfl | assumption) rfl | exact Y_pick_b rfl rfl rfl rfl | exact R_build tabOk rfl rfl rfl rfl rfl rfl | fail)) | refine O_nil ?_ | refine Q_nil ?_ | refine X_then_normal ?_ | refine X_in_normal ?_ | refine O_box rfl rfl rfl rfl rfl rfl rfl ?_ | refine O_alloc tabOk rfl rfl rfl rfl rfl rfl ?_ | refine O_store tabOk rfl rfl rfl rfl rfl rfl rfl rfl rfl rfl rfl ?_ | refine O_slice tabOk rfl rfl rfl rfl rfl rfl rfl rfl rfl rfl rfl ?_ | refine A_ct rfl ?_ | refine A_cf rfl ?_ | refine A_skip ?_ | refine A_exit ?_ | refine A_ret ?_ | refine X_then_exit ?_ | refine X_then_ret ?_ | refine X_in_same ?_ | refine X_in_other rfl ?_ | refine X_in_ret ?_ | refine O_s rfl rfl rfl ?_ | refine Q_s rfl rfl rfl ?_ | refine O_sn rfl rfl ?_ | fail)
              exact ⟨(k + 1, true), ⟨by dsimp only; omega, by dsimp only; rw [anyE_take _ _ _ hkx, Bool.or_assoc, Bool.or_comm (decide _), ← Bool.or_assoc, ← hb, Bool.true_or]⟩, by dsimp only; omega, Wk_sel ⟨rfl, rfl, rfl, rfl, rfl, rfl, trivial⟩ trivial⟩
            | false =>
              have heq := rteEq X[k] l[i]
              have hnx : (anyE (X.take (k + 1)) l[i] || decide (l[i].p.b < X[0].p.b)) = decide (X[k] = l[i]) := by
                rw [anyE_take _ _ _ hkx, Bool.or_assoc, Bool.or_comm (decide _), ← Bool.or_assoc, ← hb, Bool.false_or]
              by_cases he : X[k] = l[i]
              · rw [show (X[k] == l[i]) = true by simpa using he] at heq
                repeat (first | refine A_seq ?_ | refine A_block ?_ | refine R_list ?_ | refine R_quiet rfl mixed (by kernel_rfl) ?_ | ((first | apply O_y rfl rfl rfl | apply Q_y rfl rfl rfl); (first | exact Y_move rfl rfl | exact Y_assign rfl rfl | exact R_index tabOk rfl rfl rfl rfl rfl rfl (by omega) | exact R_fieldi tabOk rfl rfl rfl | exact R_loadi tabOk rfl rfl rfl rfl hw0 rfl rfl | exact R_len tabOk rfl rfl rfl | exact R_load tabOk rfl rfl rfl rfl rfl rfl rfl rfl rfl | exact R_field tabOk rfl rfl rfl rfl | exact Y_addn rfl rfl rfl | exact Y_subn rfl rfl rfl | exact R_cmpT rfl rfl rfl rfl | exact R_cmpF rfl rfl rfl rfl | exact Y_ibin rfl rfl rfl rfl | exact Y_extract rfl rfl rfl | exact R_lenr tabOk rfl rfl rfl rfl | exact R_lenn tabOk rfl rfl rfl | exact R_indexr tabOk rfl rfl rfl rfl rfl rfl rfl (by omega) | exact R_fielde tabOk rfl rfl rfl rfl | exact R_loade tabOk rfl rfl rfl rfl rfl rfl rfl rfl rfl | exact Y_not rfl rfl | exact Y_pick_t rfl rfl (by first | rfl | assumption) rfl | exact Y_pick_f rfl rfl (by first | rfl | assumption) rfl | exact Y_pick_b rfl rfl rfl rfl | exact R_build tabOk rfl rfl rfl rfl rfl rfl | (first | exact R_loadi tabOk rfl rfl rfl rfl hw1 rfl rfl | exact Y_eq tabOk noStand rfl rfl rfl rfl rfl rfl rfl rfl rfl (by kernel_rfl) heq rfl))) | refine O_nil ?_ | refine Q_nil ?_ | refine X_then_normal ?_ | refine X_in_normal ?_ | refine O_box rfl rfl rfl rfl rfl rfl rfl ?_ | refine O_alloc tabOk rfl rfl rfl rfl rfl rfl ?_ | refine O_store tabOk rfl rfl rfl rfl rfl rfl rfl rfl rfl rfl rfl ?_ | refine O_slice tabOk rfl rfl rfl rfl rfl rfl rfl rfl rfl rfl rfl ?_ | refine A_ct rfl ?_ | refine A_cf rfl ?_ | refine A_skip ?_ | refine A_exit ?_ | refine A_ret ?_ | refine X_then_exit ?_ | refine X_then_ret ?_ | refine X_in_same ?_ | refine X_in_other rfl ?_ | refine X_in_ret ?_ | refine O_s rfl rfl rfl ?_ | refine Q_s rfl rfl rfl ?_ | refine O_sn rfl rfl ?_ | fail)
                exact ⟨(k + 1, true), ⟨by dsimp only; omega, by dsimp only; rw [hnx, decide_eq_true he]⟩, by dsimp only; omega, Wk_sel ⟨rfl, rfl, rfl, rfl, rfl, rfl, trivial⟩ trivial⟩
              · rw [show (X[k] == l[i]) = false by simpa using he] at heq
                repeat (first | refine A_seq ?_ | refine A_block ?_ | refine R_list ?_ | refine R_quiet rfl mixed (by kernel_rfl) ?_ | ((first | apply O_y rfl rfl rfl | apply Q_y rfl rfl rfl); (first | exact Y_move rfl rfl | exact Y_assign rfl rfl | exact R_index tabOk rfl rfl rfl rfl rfl rfl (by omega) | exact R_fieldi tabOk rfl rfl rfl | exact R_loadi tabOk rfl rfl rfl rfl hw0 rfl rfl | exact R_len tabOk rfl rfl rfl | exact R_load tabOk rfl rfl rfl rfl rfl rfl rfl rfl rfl | exact R_field tabOk rfl rfl rfl rfl | exact Y_addn rfl rfl rfl | exact Y_subn rfl rfl rfl | exact R_cmpT rfl rfl rfl rfl | exact R_cmpF rfl rfl rfl rfl | exact Y_ibin rfl rfl rfl rfl | exact Y_extract rfl rfl rfl | exact R_lenr tabOk rfl rfl rfl rfl | exact R_lenn tabOk rfl rfl rfl | exact R_indexr tabOk rfl rfl rfl rfl rfl rfl rfl (by omega) | exact R_fielde tabOk rfl rfl rfl rfl | exact R_loade tabOk rfl rfl rfl rfl rfl rfl rfl rfl rfl | exact Y_not rfl rfl | exact Y_pick_t rfl rfl (by first | rfl | assumption) rfl | exact Y_pick_f rfl rfl (by first | rfl | assumption) rfl | exact Y_pick_b rfl rfl rfl rfl | exact R_build tabOk rfl rfl rfl rfl rfl rfl | (first | exact R_loadi tabOk rfl rfl rfl rfl hw1 rfl rfl | exact Y_eq tabOk noStand rfl rfl rfl rfl rfl rfl rfl rfl rfl (by kernel_rfl) heq rfl))) | refine O_nil ?_ | refine Q_nil ?_ | refine X_then_normal ?_ | refine X_in_normal ?_ | refine O_box rfl rfl rfl rfl rfl rfl rfl ?_ | refine O_alloc tabOk rfl rfl rfl rfl rfl rfl ?_ | refine O_store tabOk rfl rfl rfl rfl rfl rfl rfl rfl rfl rfl rfl ?_ | refine O_slice tabOk rfl rfl rfl rfl rfl rfl rfl rfl rfl rfl rfl ?_ | refine A_ct rfl ?_ | refine A_cf rfl ?_ | refine A_skip ?_ | refine A_exit ?_ | refine A_ret ?_ | refine X_then_exit ?_ | refine X_then_ret ?_ | refine X_in_same ?_ | refine X_in_other rfl ?_ | refine X_in_ret ?_ | refine O_s rfl rfl rfl ?_ | refine Q_s rfl rfl rfl ?_ | refine O_sn rfl rfl ?_ | fail)
                exact ⟨(k + 1, false), ⟨by dsimp only; omega, by dsimp only; rw [hnx, decide_eq_false he]⟩, by dsimp only; omega, Wk_sel ⟨rfl, rfl, rfl, rfl, rfl, rfl, trivial⟩ trivial⟩
          · have : k = X.length := by omega
            subst this
            rw [List.take_length, hend] at hb
            subst hb
            repeat (first | refine A_seq ?_ | refine A_block ?_ | refine R_list ?_ | refine R_quiet rfl mixed (by kernel_rfl) ?_ | ((first | apply O_y rfl rfl rfl | apply Q_y rfl rfl rfl); (first | exact Y_move rfl rfl | exact Y_assign rfl rfl | exact R_index tabOk rfl rfl rfl rfl rfl rfl (by omega) | exact R_fieldi tabOk rfl rfl rfl | exact R_loadi tabOk rfl rfl rfl rfl rfl rfl rfl | exact R_len tabOk rfl rfl rfl | exact R_load tabOk rfl rfl rfl rfl rfl rfl rfl rfl rfl | exact R_field tabOk rfl rfl rfl rfl | exact Y_addn rfl rfl rfl | exact Y_subn rfl rfl rfl | exact R_cmpT rfl rfl rfl rfl | exact R_cmpF rfl rfl rfl rfl | exact Y_ibin rfl rfl rfl rfl | exact Y_extract rfl rfl rfl | exact R_lenr tabOk rfl rfl rfl rfl | exact R_lenn tabOk rfl rfl rfl | exact R_indexr tabOk rfl rfl rfl rfl rfl rfl rfl (by omega) | exact R_fielde tabOk rfl rfl rfl rfl | exact R_loade tabOk rfl rfl rfl rfl rfl rfl rfl rfl rfl | exact Y_not rfl rfl | exact Y_pick_t rfl rfl (by first | rfl | assumption) rfl | exact Y_pick_f rfl rfl (by first | rfl | assumption) rfl | exact Y_pick_b rfl rfl rfl rfl | exact R_build tabOk rfl rfl rfl rfl rfl rfl | fail)) | refine O_nil ?_ | refine Q_nil ?_ | refine X_then_normal ?_ | refine X_in_normal ?_ | refine O_box rfl rfl rfl rfl rfl rfl rfl ?_ | refine O_alloc tabOk rfl rfl rfl rfl rfl rfl ?_ | refine O_store tabOk rfl rfl rfl rfl rfl rfl rfl rfl rfl rfl rfl ?_ | refine O_slice tabOk rfl rfl rfl rfl rfl rfl rfl rfl rfl rfl rfl ?_ | refine A_ct rfl ?_ | refine A_cf rfl ?_ | refine A_skip ?_ | refine A_exit ?_ | refine A_ret ?_ | refine X_then_exit ?_ | refine X_then_ret ?_ | refine X_in_same ?_ | refine X_in_other rfl ?_ | refine X_in_ret ?_ | refine O_s rfl rfl rfl ?_ | refine Q_s rfl rfl rfl ?_ | refine O_sn rfl rfl ?_ | fail)
            exact ⟨i + 1, by omega, by omega, Wk_sel ⟨rfl, rfl, rfl, rfl, trivial⟩ trivial⟩
      · rw [hc] at hck
        repeat (first | refine A_seq ?_ | refine A_block ?_ | refine R_list ?_ | refine R_quiet rfl mixed (by kernel_rfl) ?_ | ((first | apply O_y rfl rfl rfl | apply Q_y rfl rfl rfl); (first | exact Y_move rfl rfl | exact Y_assign rfl rfl | exact R_index tabOk rfl rfl rfl rfl rfl rfl (by omega) | exact R_fieldi tabOk rfl rfl rfl | exact R_loadi tabOk rfl rfl rfl rfl (by first | exact win_flat0 rteD_len l i _ hil (by decide) | exact win_flat rteD_len l i _ _ hil (by decide) | exact win_flat2 rteD_len l i _ _ _ hil (by decide) | rfl) rfl rfl | exact R_len tabOk rfl rfl rfl | exact R_load tabOk rfl rfl rfl rfl rfl rfl rfl rfl rfl | exact R_field tabOk rfl rfl rfl rfl | exact Y_addn rfl rfl rfl | exact Y_subn rfl rfl rfl | exact R_cmpT rfl rfl rfl rfl | exact R_cmpF rfl rfl rfl rfl | exact Y_ibin rfl rfl rfl rfl | exact Y_extract rfl rfl rfl | exact R_lenr tabOk rfl rfl rfl rfl | exact R_lenn tabOk rfl rfl rfl | exact R_indexr tabOk rfl rfl rfl rfl rfl rfl rfl (by omega) | exact R_fielde tabOk rfl rfl rfl rfl | exact R_loade tabOk rfl rfl rfl rfl rfl rfl rfl rfl rfl | exact Y_not rfl rfl | exact Y_pick_t rfl rfl (by first | rfl | assumption) rfl | exact Y_pick_f rfl rfl (by first | rfl | assumption) rfl | exact Y_pick_b rfl rfl rfl rfl | exact R_build tabOk rfl rfl rfl rfl rfl rfl | fail)) | refine O_nil ?_ | refine Q_nil ?_ | refine X_then_normal ?_ | refine X_in_normal ?_ | refine O_box rfl rfl rfl rfl rfl rfl rfl ?_ | refine O_alloc tabOk rfl rfl rfl rfl rfl rfl ?_ | refine O_store tabOk rfl rfl rfl rfl rfl rfl rfl rfl rfl rfl rfl ?_ | refine O_slice tabOk rfl rfl rfl rfl rfl rfl rfl rfl rfl rfl rfl ?_ | refine A_ct rfl ?_ | refine A_cf rfl ?_ | refine A_skip ?_ | refine A_exit ?_ | refine A_ret ?_ | refine X_then_exit ?_ | refine X_then_ret ?_ | refine X_in_same ?_ | refine X_in_other rfl ?_ | refine X_in_ret ?_ | refine O_s rfl rfl rfl ?_ | refine Q_s rfl rfl rfl ?_ | refine O_sn rfl rfl ?_ | (first | refine O_c rfl rfl rfl rfl rfl hck (fun _ => rfl) ?_ | refine O_c rfl rfl rfl rfl rfl hin (fun _ => rfl) ?_))
        exact ⟨i + 1, by omega, by omega, Wk_sel ⟨rfl, rfl, rfl, rfl, trivial⟩ trivial⟩
      · rw [hc] at hck
        repeat (first | refine A_seq ?_ | refine A_block ?_ | refine R_list ?_ | refine R_quiet rfl mixed (by kernel_rfl) ?_ | ((first | apply O_y rfl rfl rfl | apply Q_y rfl rfl rfl); (first | exact Y_move rfl rfl | exact Y_assign rfl rfl | exact R_index tabOk rfl rfl rfl rfl rfl rfl (by omega) | exact R_fieldi tabOk rfl rfl rfl | exact R_loadi tabOk rfl rfl rfl rfl (by first | exact win_flat0 rteD_len l i _ hil (by decide) | exact win_flat rteD_len l i _ _ hil (by decide) | exact win_flat2 rteD_len l i _ _ _ hil (by decide) | rfl) rfl rfl | exact R_len tabOk rfl rfl rfl | exact R_load tabOk rfl rfl rfl rfl rfl rfl rfl rfl rfl | exact R_field tabOk rfl rfl rfl rfl | exact Y_addn rfl rfl rfl | exact Y_subn rfl rfl rfl | exact R_cmpT rfl rfl rfl rfl | exact R_cmpF rfl rfl rfl rfl | exact Y_ibin rfl rfl rfl rfl | exact Y_extract rfl rfl rfl | exact R_lenr tabOk rfl rfl rfl rfl | exact R_lenn tabOk rfl rfl rfl | exact R_indexr tabOk rfl rfl rfl rfl rfl rfl rfl (by omega) | exact R_fielde tabOk rfl rfl rfl rfl | exact R_loade tabOk rfl rfl rfl rfl rfl rfl rfl rfl rfl | exact Y_not rfl rfl | exact Y_pick_t rfl rfl (by first | rfl | assumption) rfl | exact Y_pick_f rfl rfl (by first | rfl | assumption) rfl | exact Y_pick_b rfl rfl rfl rfl | exact R_build tabOk rfl rfl rfl rfl rfl rfl | fail)) | refine O_nil ?_ | refine Q_nil ?_ | refine X_then_normal ?_ | refine X_in_normal ?_ | refine O_box rfl rfl rfl rfl rfl rfl rfl ?_ | refine O_alloc tabOk rfl rfl rfl rfl rfl rfl ?_ | refine O_store tabOk rfl rfl rfl rfl rfl rfl rfl rfl rfl rfl rfl ?_ | refine O_slice tabOk rfl rfl rfl rfl rfl rfl rfl rfl rfl rfl rfl ?_ | refine A_ct rfl ?_ | refine A_cf rfl ?_ | refine A_skip ?_ | refine A_exit ?_ | refine A_ret ?_ | refine X_then_exit ?_ | refine X_then_ret ?_ | refine X_in_same ?_ | refine X_in_other rfl ?_ | refine X_in_ret ?_ | refine O_s rfl rfl rfl ?_ | refine Q_s rfl rfl rfl ?_ | refine O_sn rfl rfl ?_ | (first | refine O_c rfl rfl rfl rfl rfl hck (fun _ => rfl) ?_ | refine O_c rfl rfl rfl rfl rfl hin (fun _ => rfl) ?_))
        exact ⟨i + 1, by omega, by omega, Wk_sel ⟨rfl, rfl, rfl, rfl, trivial⟩ trivial⟩
    ·
      repeat (first | refine A_seq ?_ | refine A_block ?_ | refine R_list ?_ | refine R_quiet rfl mixed (by kernel_rfl) ?_ | ((first | apply O_y rfl rfl rfl | apply Q_y rfl rfl rfl); (first | exact Y_move rfl rfl | exact Y_assign rfl rfl | exact R_index tabOk rfl rfl rfl rfl rfl rfl (by omega) | exact R_fieldi tabOk rfl rfl rfl | exact R_loadi tabOk rfl rfl rfl rfl rfl rfl rfl | exact R_len tabOk rfl rfl rfl | exact R_load tabOk rfl rfl rfl rfl rfl rfl rfl rfl rfl | exact R_field tabOk rfl rfl rfl rfl | exact Y_addn rfl rfl rfl | exact Y_subn rfl rfl rfl | exact R_cmpT rfl rfl rfl rfl | exact R_cmpF rfl rfl rfl rfl | exact Y_ibin rfl rfl rfl rfl | exact Y_extract rfl rfl rfl | exact R_lenr tabOk rfl rfl rfl rfl | exact R_lenn tabOk rfl rfl rfl | exact R_indexr tabOk rfl rfl rfl rfl rfl rfl rfl (by omega) | exact R_fielde tabOk rfl rfl rfl rfl | exact R_loade tabOk rfl rfl rfl rfl rfl rfl rfl rfl rfl | exact Y_not rfl rfl | exact Y_pick_t rfl rfl (by first | rfl | assumption) rfl | exact Y_pick_f rfl rfl (by first | rfl | assumption) rfl | exact Y_pick_b rfl rfl rfl rfl | exact R_build tabOk rfl rfl rfl rfl rfl rfl | fail)) | refine O_nil ?_ | refine Q_nil ?_ | refine X_then_normal ?_ | refine X_in_normal ?_ | refine O_box rfl rfl rfl rfl rfl rfl rfl ?_ | refine O_alloc tabOk rfl rfl rfl rfl rfl rfl ?_ | refine O_store tabOk rfl rfl rfl rfl rfl rfl rfl rfl rfl rfl rfl ?_ | refine O_slice tabOk rfl rfl rfl rfl rfl rfl rfl rfl rfl rfl rfl ?_ | refine A_ct rfl ?_ | refine A_cf rfl ?_ | refine A_skip ?_ | refine A_exit ?_ | refine A_ret ?_ | refine X_then_exit ?_ | refine X_then_ret ?_ | refine X_in_same ?_ | refine X_in_other rfl ?_ | refine X_in_ret ?_ | refine O_s rfl rfl rfl ?_ | refine Q_s rfl rfl rfl ?_ | refine O_sn rfl rfl ?_ | fail)
      refine A_loop (fun k : Nat => [(1, .d (.sc (.int .u32 a))), (5, rtesA X), (10, intA (k : Int))]) (fun _ => []) (fun k => k ≤ X.length) (fun k => X.length - k) 0 (by omega) (Wk_sel ⟨rfl, rfl, rfl, trivial⟩ trivial) ?_
      intro k hk
      try dsimp only
      by_cases hkx : k < X.length
      · have hm := List.getElem_mem hkx
        have hx0 : 0 < X.length := by omega
        obtain ⟨hml, hmi, _⟩ := hxi _ hm
        have hin := refIn_A a X[k].p (hok _ hml).2 a0 a1
        rw [hmi] at hin
        have hpe := pfxEq X[k].p X[0].p
        rw [show (X[k].p == X[0].p) = true by simpa using hxs _ _ hm (List.getElem_mem hx0)] at hpe
        repeat (first | refine A_seq ?_ | refine A_block ?_ | refine R_list ?_ | refine R_quiet rfl mixed (by kernel_rfl) ?_ | ((first | apply O_y rfl rfl rfl | apply Q_y rfl rfl rfl); (first | exact Y_move rfl rfl | exact Y_assign rfl rfl | exact R_index tabOk rfl rfl rfl rfl rfl rfl (by omega) | exact R_fieldi tabOk rfl rfl rfl | exact R_loadi tabOk rfl rfl rfl rfl (by first | exact win_flat0 rteD_len X k _ hkx (by decide) | exact win_flat rteD_len X k _ _ hkx (by decide) | exact win_flat2 rteD_len X k _ _ _ hkx (by decide) | rfl) rfl rfl | exact R_len tabOk rfl rfl rfl | exact R_load tabOk rfl rfl rfl rfl rfl rfl rfl rfl rfl | exact R_field tabOk rfl rfl rfl rfl | exact Y_addn rfl rfl rfl | exact Y_subn rfl rfl rfl | exact R_cmpT rfl rfl rfl rfl | exact R_cmpF rfl rfl rfl rfl | exact Y_ibin rfl rfl rfl rfl | exact Y_extract rfl rfl rfl | exact R_lenr tabOk rfl rfl rfl rfl | exact R_lenn tabOk rfl rfl rfl | exact R_indexr tabOk rfl rfl rfl rfl rfl rfl rfl (by omega) | exact R_fielde tabOk rfl rfl rfl rfl | exact R_loade tabOk rfl rfl rfl rfl rfl rfl rfl rfl rfl | exact Y_not rfl rfl | exact Y_pick_t rfl rfl (by first | rfl | assumption) rfl | exact Y_pick_f rfl rfl (by first | rfl | assumption) rfl | exact Y_pick_b rfl rfl rfl rfl | exact R_build tabOk rfl rfl rfl rfl rfl rfl | (first | exact R_index (j := 0) tabOk rfl rfl rfl rfl rfl rfl hx0 | exact R_loadi tabOk rfl rfl rfl rfl (by first | exact win_flat0 rteD_len X 0 _ hx0 (by decide) | exact win_flat rteD_len X 0 _ _ hx0 (by decide) | exact win_flat2 rteD_len X 0 _ _ _ hx0 (by decide) | rfl) rfl rfl | exact Y_eq tabOk noStand rfl rfl rfl rfl rfl rfl rfl rfl rfl (by kernel_rfl) hpe rfl))) | refine O_nil ?_ | refine Q_nil ?_ | refine X_then_normal ?_ | refine X_in_normal ?_ | refine O_box rfl rfl rfl rfl rfl rfl rfl ?_ | refine O_alloc tabOk rfl rfl rfl rfl rfl rfl ?_ | refine O_store tabOk rfl rfl rfl rfl rfl rfl rfl rfl rfl rfl rfl ?_ | refine O_slice tabOk rfl rfl rfl rfl rfl rfl rfl rfl rfl rfl rfl ?_ | refine A_ct rfl ?_ | refine A_cf rfl ?_ | refine A_skip ?_ | refine A_exit ?_ | refine A_ret ?_ | refine X_then_exit ?_ | refine X_then_ret ?_ | refine X_in_same ?_ | refine X_in_other rfl ?_ | refine X_in_ret ?_ | refine O_s rfl rfl rfl ?_ | refine Q_s rfl rfl rfl ?_ | refine O_sn rfl rfl ?_ | (first | refine Q_c rfl rfl rfl rfl rfl hin rfl (fun _ _ _ => val_mk _ _ _ _ _ rfl rfl) ?_ | refine O_c rfl rfl rfl rfl rfl hin (fun _ => rfl) ?_))
        exact ⟨k + 1, by omega, by omega, Wk_sel ⟨rfl, rfl, rfl, trivial⟩ trivial⟩
      ·
        repeat (first | refine A_seq ?_ | refine A_block ?_ | refine R_list ?_ | refine R_quiet rfl mixed (by kernel_rfl) ?_ | ((first | apply O_y rfl rfl rfl | apply Q_y rfl rfl rfl); (first | exact Y_move rfl rfl | exact Y_assign rfl rfl | exact R_index tabOk rfl rfl rfl rfl rfl rfl (by omega) | exact R_fieldi tabOk rfl rfl rfl | exact R_loadi tabOk rfl rfl rfl rfl rfl rfl rfl | exact R_len tabOk rfl rfl rfl | exact R_load tabOk rfl rfl rfl rfl rfl rfl rfl rfl rfl | exact R_field tabOk rfl rfl rfl rfl | exact Y_addn rfl rfl rfl | exact Y_subn rfl rfl rfl | exact R_cmpT rfl rfl rfl rfl | exact R_cmpF rfl rfl rfl rfl | exact Y_ibin rfl rfl rfl rfl | exact Y_extract rfl rfl rfl | exact R_lenr tabOk rfl rfl rfl rfl | exact R_lenn tabOk rfl rfl rfl | exact R_indexr tabOk rfl rfl rfl rfl rfl rfl rfl (by omega) | exact R_fielde tabOk rfl rfl rfl rfl | exact R_loade tabOk rfl rfl rfl rfl rfl rfl rfl rfl rfl | exact Y_not rfl rfl | exact Y_pick_t rfl rfl (by first | rfl | assumption) rfl | exact Y_pick_f rfl rfl (by first | rfl | assumption) rfl | exact Y_pick_b rfl rfl rfl rfl | exact R_build tabOk rfl rfl rfl rfl rfl rfl | fail)) | refine O_nil ?_ | refine Q_nil ?_ | refine X_then_normal ?_ | refine X_in_normal ?_ | refine O_box rfl rfl rfl rfl rfl rfl rfl ?_ | refine O_alloc tabOk rfl rfl rfl rfl rfl rfl ?_ | refine O_store tabOk rfl rfl rfl rfl rfl rfl rfl rfl rfl rfl rfl ?_ | refine O_slice tabOk rfl rfl rfl rfl rfl rfl rfl rfl rfl rfl rfl ?_ | refine A_ct rfl ?_ | refine A_cf rfl ?_ | refine A_skip ?_ | refine A_exit ?_ | refine A_ret ?_ | refine X_then_exit ?_ | refine X_then_ret ?_ | refine X_in_same ?_ | refine X_in_other rfl ?_ | refine X_in_ret ?_ | refine O_s rfl rfl rfl ?_ | refine Q_s rfl rfl rfl ?_ | refine O_sn rfl rfl ?_ | fail)
        exact X_ret rfl ⟨rfl, rfl⟩
end Go.Proofs.Ytjfmiehpncginaa.Ab

namespace Go.Proofs.Ytjfmiehpncginaa
open Go.ChangeShapes Go.WideShapes Go.ChangeAt Go.RowKit
set_option linter.unusedVariables false
set_option maxRecDepth 100000

theorem ribLooked_walked : Walked 5 [22, 24] := by
  intro H enc W args ds ps hval hA _
  obtain ⟨v, vs', d, ds', p, q, hargs, rfl, rfl, h0, r0⟩ := trodAll_cons hA
  obtain ⟨y, vs2, d2, ds2, p2, q2, hargs2, rfl, rfl, h1, r1⟩ := trodAll_cons r0
  obtain ⟨rfl, rfl, rfl⟩ := trodAll_nil r1
  subst hargs2
  obtain rfl : args = #[v, y] := by cases args; simp_all
  obtain ⟨l, hok, hl⟩ := sl_read (Fr := Ab.FreeB (fun _ => False) (fun _ => none)) 9 Try.underlying22 rl_cells_rte rteV (fun _ => rfl) rteV_one Ab.rteD (fun _ => rfl) Ab.okR (trod_rte (W := W)) (hval 0 22 v rfl rfl) h0 Ab.FreeB.all
  obtain ⟨fl, hf⟩ := h1
  obtain ⟨x, ex, _, wx⟩ := DataW.trod_int Try.underlying24 hf
  obtain ⟨bx, hbx⟩ := hval 1 24 y rfl rfl
  obtain ⟨n, rfl⟩ := okWide_int Try.underlying24 hbx
  simp [Value.cells] at ex
  subst ex
  have b := int_bounds wx
  simp [IntKind.min, IntKind.max, IntKind.signed, IntKind.bits] at b
  have HC := Ab.looked_A (l.take 150) (l.drop 150) n b.1 (by omega) (fun r hr => hok r (List.mem_of_mem_take hr)) (by rw [List.length_take]; omega) (fun h => by
    have : ¬ l.length ≤ 150 := fun h2 => h (List.drop_eq_nil_of_le h2)
    rw [List.length_take]; omega)
  rw [← List.flatMap_append, List.take_append_drop, ← List.length_append, List.take_append_drop] at HC
  refine (HC.2 _ _ W _ _ _ W (Ab.HRel.none (fun _ => False) W (fun _ h => h.elim)) ⟨rfl, fun i c u h1 h2 => ?_⟩).mono ?_
  · match i, h1, h2 with
    | 0, h1, h2 => cases h1; cases h2; exact .d _ _ hl
    | 1, h1, h2 => cases h1; cases h2; exact .d _ _ (.sc _ rfl)
  · rintro x w' ⟨u, c, h', ι', rfl, ⟨rfl, rfl⟩, hH, hv⟩
    obtain ⟨rfl, _⟩ := Ab.sc_of hv
    have G := hH.grewC
    exact ⟨rfl, G.os, G.tape, G.output, G.size, fun k hk => G.mem k hk⟩

theorem ribLooked_lifted (os : Os) (started : os.Started) (H : Type) (enc : TypeId × Value → H) :
    ReturnsInHanded {} Try.checked os 5 .any (Rows.ribLookedSpec.pre6 enc Try.prog Try.f5 Rows.ribLookedRow.domain false) (Rows.ribLookedSpec.post enc Try.prog Try.f5 false true false false) := by
  refine law_lift (tb := 4) Try.func5 (by kernel_rfl) (by kernel_rfl) Try.underlying4 rfl (by kernel_rfl) ?_ ?_ ?_ os started H enc
    (ChangeSpec.witness6 (enc := enc) (C := Try.checked) false ⟨#[], #[.slice none 0 0, .int .u32 0], []⟩ 8 (by kernel_rfl) (by kernel_rfl) (by kernel_rfl) (by kernel_rfl))
  · intro H ds hl
    rw [show Try.f5.params = #[22, 24] from Try.params5] at hl
    match ds, hl with
    | [d, e], _ => exact ⟨rfl, rfl, rfl⟩
  · rw [show Try.f5.params = #[22, 24] from Try.params5]
    intro t ht
    simp at ht
    rcases ht with rfl | rfl <;> exact ⟨by kernel_rfl, of_decide_eq_true (by kernel_rfl)⟩
  · rw [show Try.f5.params = #[22, 24] from Try.params5]
    exact ribLooked_walked

theorem ribLooked_over : Rows.ribLookedRow.holds Try.pinned (OpenSpec.ofChange Rows.ribLookedSpec) :=
  OpenClaim.holds_of_wide 5 Try.f5 rfl rfl rfl rfl rfl rfl rfl ⟨rfl, rfl, rfl, rfl, rfl⟩ rfl rfl rfl rfl rfl (by kernel_rfl) Try.func5 (by kernel_rfl)
    (of_decide_eq_true (by kernel_rfl)) (by unfold Func.isWrapper; first | (rw [if_pos (by decide +kernel)]; kernel_rfl) | (rw [if_neg (by decide +kernel)]; exact ⟨rfl, rfl⟩))
    (fun os started H enc _ => ribLooked_lifted os started H enc)

theorem ribLooked_holds : Rows.RibLookedSaid := ribLooked_over
#print axioms ribLooked_holds
end Go.Proofs.Ytjfmiehpncginaa

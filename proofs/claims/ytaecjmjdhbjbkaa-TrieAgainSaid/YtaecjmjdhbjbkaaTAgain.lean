/-
  TrieAgain, walked.
-/
import Derived.Test.YtaecjmjdhbjbkaaTAgainLaw
import Derived.Test.YtaecjmjdhbjbkaaTAtDrop
import Derived.Test.YtaecjmjdhbjbkaaTSeqs
namespace Go.Proofs.Ytaecjmjdhbjbkaa.Ab
set_option linter.unusedVariables false
set_option maxRecDepth 100000
open Go.RowKit
set_option linter.unusedSimpArgs false
attribute [local irreducible] AWp AOps AQ AYield AEff ACall AWk AAny AAt AThen AIn APost NoPanic

theorem np_rf : NoPanic RF := by unfold NoPanic RF; exact fun _ _ _ h => h
abbrev ag_pfxB (p : Pfx) : ABlk := .var [.d (.sc (.int .u32 p.a)), .d (.sc (.int .i64 p.b))]
abbrev ag_bolB (b : Bool) : ABlk := .var [boolA b]
abbrev gE (l2 : List Pfx) (by_ x : Int) (t : Nat) (c : AVal) : Env := [(0, pfxsA l2), (1, intA by_), (3, .d (.sc (.int .u32 x))), (6, .ptr 6 0), (8, .ptr 8 0), (9, .ptr 3 0), (10, .ptr 10 0), (t, c)]
abbrev gH (q : Pfx) (s t : TS) : Heap := [(6, ag_pfxB q), (8, ag_bolB false), (10, .var [.ptr 4 0]), (3, tblB 902 s.1), (902, mapB s.2), (4, tblB 903 t.1), (903, mapB t.2)]
abbrev gE1 (l2 : List Pfx) (by_ x : Int) (t : Nat) (c : AVal) : Env := [(0, pfxsA l2), (1, intA by_), (3, .d (.sc (.int .u32 x))), (6, .ptr 1006 0), (8, .ptr 1008 0), (9, .ptr 1003 0), (10, .ptr 1010 0), (t, c)]
abbrev gH1 (q : Pfx) (s t : TS) : Heap := [(1006, ag_pfxB q), (1008, ag_bolB false), (1010, .var [.ptr 1004 0]), (1003, tblB 1902 s.1), (1902, mapB s.2), (1004, tblB 1903 t.1), (1903, mapB t.2)]
theorem ag_sh_tbl (j : Nat) (u : Nat → Int) : shB (tblB j u) = tblB (j + 1000) u := by
  show ABlk.var (.mp (j + 1000) :: shL (usedA u)) = ABlk.var (.mp (j + 1000) :: usedA u)
  congr 2
theorem ag_sh_map (m : List (Pfx × Int)) : shB (mapB m) = mapB m := by
  show ABlk.map ((m.map fun p => (pfxA p.1, intA p.2)).map fun p => (shV p.1, shV p.2)) = _
  rw [List.map_map]
  rfl
theorem sh_gH (q : Pfx) (s t : TS) : shH (gH q s t) = gH1 q s t := by
  simp only [gH, gH1, shH, ag_sh_tbl, ag_sh_map]
  rfl
theorem ag_rowsOf_get (m : List (Pfx × Int)) (L : List Pfx) (hL : ∀ p ∈ L, ∃ z, aget m p = some z) (i : Nat) (x : List AVal) (hx : (goneXs (rowsOf m L))[i]? = some x) : ∃ (h : i < L.length) (z : Int), aget m L[i] = some z ∧ x = [pfxA L[i], intA z] := by
  rw [goneXs, List.getElem?_map, rowsOf, List.getElem?_map] at hx
  cases h : L[i]? with
  | none => simp [h] at hx
  | some p =>
    obtain ⟨hl, he⟩ := List.getElem?_eq_some_iff.1 h
    obtain ⟨z, hz⟩ := hL p (List.mem_of_getElem? h)
    simp [h, hz] at hx
    exact ⟨hl, z, by rw [he]; exact hz, by rw [he]; exact hx.symm⟩
theorem ag_goneXs_ok (rows : List Row) : ∀ x ∈ goneXs rows, x.length = 2 ∧ ∀ c ∈ x, datA c := fun x hx => by
  obtain ⟨r, _, rfl⟩ := List.mem_map.1 hx
  refine ⟨rfl, fun c hc => ?_⟩
  simp at hc
  rcases hc with rfl | rfl <;> exact fun _ => rfl
theorem ag_caps_ok (rows : List Row) : ∀ c ∈ [AVal.iptr [rowsD rows] 0], datA c := fun c hc => by simp at hc; subst hc; exact fun _ => rfl
theorem ag_goneXs_len (rows : List Row) : (goneXs rows).length = rows.length := by simp [goneXs]
theorem tmod_nat (k n : Nat) : ((k : Int) * 7 + 3).tmod (n : Int) = (((k * 7 + 3) % n : Nat) : Int) := by
  rw [show (k : Int) * 7 + 3 = ((k * 7 + 3 : Nat) : Int) by omega]
  exact (Int.ofNat_tmod _ _).symm
set_option maxHeartbeats 8000000 in
theorem again_A (l2 rest : List Pfx) (by_ : Int) (q : Pfx) (x : Int) (x0 : 0 ≤ x) (x1 : x < 4294967296) (hq : q.ok) (hl : ∀ p ∈ l2, p.ok) (hn : l2.length ≤ 100) (hr : rest ≠ [] → l2.length = 100) :
    ACall Try.prog 6 [.d (.sl (l2.flatMap pfxD ++ rest.flatMap pfxD) (l2.length + rest.length)), intA by_, pfxA q, .d (.sc (.int .u32 x))] [] (Just (boolA true)) := by
  refine ACall_of tabOk Try.func6 rfl Try.ntmps6 (congrArg Array.toList Try.results6) (by kernel_rfl) rfl ?_
  have hmin : (if (100 : Int) < ((l2.length + rest.length : Nat) : Int) then (100 : Int) else ((l2.length + rest.length : Nat) : Int)) = (l2.length : Int) := by
    cases rest with
    | nil => simp; omega
    | cons a r => have := hr (by simp); simp; omega
  repeat (first
    | refine A_seq ?_
    | refine A_block ?_
    | refine R_list ?_
    | refine R_quiet rfl mixed (by kernel_rfl) ?_
    | ((first | apply O_y rfl rfl rfl | apply Q_y rfl rfl rfl); (first | exact Y_move rfl rfl | exact Y_assign rfl rfl | exact R_index tabOk rfl rfl rfl rfl rfl rfl (by omega) | exact R_fieldi tabOk rfl rfl rfl | exact R_loadi tabOk rfl rfl rfl rfl rfl rfl rfl | exact R_len tabOk rfl rfl rfl | exact R_load tabOk rfl rfl rfl rfl rfl rfl rfl rfl rfl | exact R_field tabOk rfl rfl rfl rfl | exact Y_add rfl rfl rfl (by first | exact wrap_succ (by omega) | exact wrap_pred (by omega) (by omega) | exact wrap_i64 ⟨by omega, by omega⟩ | rfl) | exact Y_sub rfl rfl rfl (by first | exact wrap_succ (by omega) | exact wrap_pred (by omega) (by omega) | exact wrap_i64 ⟨by omega, by omega⟩ | rfl) | exact R_cmpT rfl rfl rfl rfl (by first | (simp only [decide_eq_true_eq, beq_iff_eq, bne_iff_ne, ne_eq]; done) | (simp only [decide_eq_true_eq, beq_iff_eq, bne_iff_ne, ne_eq]; omega)) | exact R_cmpF rfl rfl rfl rfl (by first | (simp only [decide_eq_false_iff_not, beq_eq_false_iff_ne, bne_eq_false_iff_eq, ne_eq]; done) | (simp only [decide_eq_false_iff_not, beq_eq_false_iff_ne, bne_eq_false_iff_eq, ne_eq]; omega)) | exact Y_ibin rfl rfl rfl rfl | exact Y_extract rfl rfl rfl | exact R_lenr tabOk rfl rfl rfl rfl | exact R_lenn tabOk rfl rfl rfl | exact R_indexr tabOk rfl rfl rfl rfl rfl rfl rfl (by omega) | exact R_fielde tabOk rfl rfl rfl rfl | exact R_loade tabOk rfl rfl rfl rfl rfl rfl rfl rfl rfl | exact Y_not rfl rfl | exact Y_pick_t rfl rfl (by first | rfl | assumption) rfl | exact Y_pick_f rfl rfl (by first | rfl | assumption) rfl | exact Y_pick_b rfl rfl rfl rfl | exact R_build tabOk rfl rfl rfl rfl rfl rfl | (first | exact R_min rfl rfl rfl hmin | exact R_sliceD tabOk rfl rfl rfl rfl rfl rfl (by omega))))
    | refine O_nil ?_
    | refine Q_nil ?_
    | refine X_then_normal ?_
    | refine X_in_normal ?_
    | refine O_box rfl rfl rfl rfl rfl rfl rfl ?_
    | refine O_alloc tabOk rfl rfl rfl rfl rfl rfl ?_
    | refine O_store tabOk rfl rfl rfl rfl rfl rfl rfl rfl rfl rfl rfl ?_
    | refine O_slice tabOk rfl rfl rfl rfl rfl rfl rfl rfl rfl rfl rfl ?_
    | refine A_condt rfl (by first | rfl | assumption | (first | (simp only [decide_eq_true_eq]; done) | (simp only [decide_eq_true_eq]; omega))) ?_
    | refine A_condf rfl (by first | rfl | assumption | (first | (simp only [decide_eq_false_iff_not]; done) | (simp only [decide_eq_false_iff_not]; omega))) ?_
    | refine A_skip ?_
    | refine A_exit ?_
    | refine A_ret ?_
    | refine X_then_exit ?_
    | refine X_then_ret ?_
    | refine X_in_same ?_
    | refine X_in_other rfl ?_
    | refine X_in_ret ?_
    | refine O_s rfl rfl rfl ?_
    | refine Q_s rfl rfl rfl ?_
    | refine O_sn rfl rfl ?_
    | refine O_c rfl rfl rfl rfl rfl awake_A (fun _ => rfl) ?_)
  refine O_weaken (Wk_see (t := 0) rfl see_pfx) ?_
  refine O_weaken (Wk_sel (e1 := [(0, pfxsA l2), (1, intA by_), (3, .d (.sc (.int .u32 x))), (6, .ptr 6 0), (8, .ptr 8 0)]) (h1 := [(6, ag_pfxB q), (8, ag_bolB false)]) ⟨rfl, rfl, rfl, rfl, rfl, trivial⟩ ⟨rfl, rfl, trivial⟩) ?_
  refine O_cNew new_A rfl rfl rfl rfl rfl ?_
  refine O_cNew2 (tbl_ren new_A) rfl rfl rfl rfl rfl ?_
  repeat (first
    | (apply O_y rfl rfl rfl; (first | exact Y_move rfl rfl | exact Y_assign rfl rfl | exact R_index tabOk rfl rfl rfl rfl rfl rfl (by omega) | exact R_fieldi tabOk rfl rfl rfl | exact R_loadi tabOk rfl rfl rfl rfl rfl rfl rfl | exact R_len tabOk rfl rfl rfl | exact R_load tabOk rfl rfl rfl rfl rfl rfl rfl rfl rfl | exact R_field tabOk rfl rfl rfl rfl | exact Y_add rfl rfl rfl (by first | exact wrap_succ (by omega) | exact wrap_pred (by omega) (by omega) | exact wrap_i64 ⟨by omega, by omega⟩ | rfl) | exact Y_sub rfl rfl rfl (by first | exact wrap_succ (by omega) | exact wrap_pred (by omega) (by omega) | exact wrap_i64 ⟨by omega, by omega⟩ | rfl) | exact R_cmpT rfl rfl rfl rfl (by first | (simp only [decide_eq_true_eq, beq_iff_eq, bne_iff_ne, ne_eq]; done) | (simp only [decide_eq_true_eq, beq_iff_eq, bne_iff_ne, ne_eq]; omega)) | exact R_cmpF rfl rfl rfl rfl (by first | (simp only [decide_eq_false_iff_not, beq_eq_false_iff_ne, bne_eq_false_iff_eq, ne_eq]; done) | (simp only [decide_eq_false_iff_not, beq_eq_false_iff_ne, bne_eq_false_iff_eq, ne_eq]; omega)) | exact Y_ibin rfl rfl rfl rfl | exact Y_extract rfl rfl rfl | exact R_lenr tabOk rfl rfl rfl rfl | exact R_lenn tabOk rfl rfl rfl | exact R_indexr tabOk rfl rfl rfl rfl rfl rfl rfl (by omega) | exact R_fielde tabOk rfl rfl rfl rfl | exact R_loade tabOk rfl rfl rfl rfl rfl rfl rfl rfl rfl | exact Y_not rfl rfl | exact Y_pick_t rfl rfl (by first | rfl | assumption) rfl | exact Y_pick_f rfl rfl (by first | rfl | assumption) rfl | exact Y_pick_b rfl rfl rfl rfl | exact R_build tabOk rfl rfl rfl rfl rfl rfl | fail))
    | refine O_alloc tabOk rfl rfl rfl rfl rfl rfl ?_
    | refine O_store tabOk rfl rfl rfl rfl rfl rfl rfl rfl rfl rfl rfl ?_
    | refine O_s rfl rfl rfl ?_
    | refine O_sn rfl rfl ?_)
  refine O_nil ?_
  refine X_then_normal ?_
  refine A_weaken (Wk_sel (e1 := gE l2 by_ x 6 (.ptr 6 0)) (h1 := gH q (fun _ => 0, []) (fun _ => 0, [])) ⟨rfl, rfl, rfl, rfl, rfl, rfl, rfl, rfl, trivial⟩ ⟨rfl, rfl, rfl, rfl, rfl, rfl, rfl, trivial⟩) ?_
  -- what is put into both
  have main : ∀ (s tt : TS) (i j : Nat), TOk s i → TOk tt j → i ≤ 200 → j ≤ 201 → (∀ p, aget s.2 p = aget tt.2 p) → True := fun _ _ _ _ _ _ _ _ _ => trivial
  refine A_seq ?_
  refine A_seq ?_
  repeat (first
    | refine A_seq ?_
    | refine A_block ?_
    | refine R_list ?_
    | refine R_quiet rfl mixed (by kernel_rfl) ?_
    | ((first | apply O_y rfl rfl rfl | apply Q_y rfl rfl rfl); (first | exact Y_move rfl rfl | exact Y_assign rfl rfl | exact R_index tabOk rfl rfl rfl rfl rfl rfl (by omega) | exact R_fieldi tabOk rfl rfl rfl | exact R_loadi tabOk rfl rfl rfl rfl rfl rfl rfl | exact R_len tabOk rfl rfl rfl | exact R_load tabOk rfl rfl rfl rfl rfl rfl rfl rfl rfl | exact R_field tabOk rfl rfl rfl rfl | exact Y_add rfl rfl rfl (by first | exact wrap_succ (by omega) | exact wrap_pred (by omega) (by omega) | exact wrap_i64 ⟨by omega, by omega⟩ | rfl) | exact Y_sub rfl rfl rfl (by first | exact wrap_succ (by omega) | exact wrap_pred (by omega) (by omega) | exact wrap_i64 ⟨by omega, by omega⟩ | rfl) | exact R_cmpT rfl rfl rfl rfl (by first | (simp only [decide_eq_true_eq, beq_iff_eq, bne_iff_ne, ne_eq]; done) | (simp only [decide_eq_true_eq, beq_iff_eq, bne_iff_ne, ne_eq]; omega)) | exact R_cmpF rfl rfl rfl rfl (by first | (simp only [decide_eq_false_iff_not, beq_eq_false_iff_ne, bne_eq_false_iff_eq, ne_eq]; done) | (simp only [decide_eq_false_iff_not, beq_eq_false_iff_ne, bne_eq_false_iff_eq, ne_eq]; omega)) | exact Y_ibin rfl rfl rfl rfl | exact Y_extract rfl rfl rfl | exact R_lenr tabOk rfl rfl rfl rfl | exact R_lenn tabOk rfl rfl rfl | exact R_indexr tabOk rfl rfl rfl rfl rfl rfl rfl (by omega) | exact R_fielde tabOk rfl rfl rfl rfl | exact R_loade tabOk rfl rfl rfl rfl rfl rfl rfl rfl rfl | exact Y_not rfl rfl | exact Y_pick_t rfl rfl (by first | rfl | assumption) rfl | exact Y_pick_f rfl rfl (by first | rfl | assumption) rfl | exact Y_pick_b rfl rfl rfl rfl | exact R_build tabOk rfl rfl rfl rfl rfl rfl | fail))
    | refine O_nil ?_
    | refine Q_nil ?_
    | refine X_then_normal ?_
    | refine X_in_normal ?_
    | refine O_box rfl rfl rfl rfl rfl rfl rfl ?_
    | refine O_alloc tabOk rfl rfl rfl rfl rfl rfl ?_
    | refine O_store tabOk rfl rfl rfl rfl rfl rfl rfl rfl rfl rfl rfl ?_
    | refine O_slice tabOk rfl rfl rfl rfl rfl rfl rfl rfl rfl rfl rfl ?_
    | refine A_condt rfl (by first | rfl | assumption | (first | (simp only [decide_eq_true_eq]; done) | (simp only [decide_eq_true_eq]; omega))) ?_
    | refine A_condf rfl (by first | rfl | assumption | (first | (simp only [decide_eq_false_iff_not]; done) | (simp only [decide_eq_false_iff_not]; omega))) ?_
    | refine A_skip ?_
    | refine A_exit ?_
    | refine A_ret ?_
    | refine X_then_exit ?_
    | refine X_then_ret ?_
    | refine X_in_same ?_
    | refine X_in_other rfl ?_
    | refine X_in_ret ?_
    | refine O_s rfl rfl rfl ?_
    | refine Q_s rfl rfl rfl ?_
    | refine O_sn rfl rfl ?_
    | fail)
  refine A_loop (fun z : Nat × TS × TS => gE l2 by_ x 11 (intA (z.1 : Int))) (fun z => gH q z.2.1 z.2.2) (fun z => z.1 ≤ l2.length ∧ TOk z.2.1 z.1 ∧ TOk z.2.2 z.1 ∧ Rep z.2.1 (fun p => p ∈ l2.take z.1) ∧ ∃ K, Rep z.2.2 K ∧ ∀ p, K p → p ∈ l2) (fun z => l2.length - z.1) (0, (fun _ => 0, []), (fun _ => 0, [])) ⟨Nat.zero_le _, .zero, .zero, Rep.zero.of (by simp), _, .zero, fun _ h => h.elim⟩ (Wk_sel ⟨rfl, rfl, rfl, rfl, rfl, rfl, rfl, rfl, trivial⟩ ⟨rfl, rfl, rfl, rfl, rfl, rfl, rfl, trivial⟩) ?_
  rintro ⟨k, s, t⟩ ⟨hk, Ts, Tt, Rs, K, Rt, hK⟩
  dsimp only at hk Ts Tt Rs Rt ⊢
  by_cases hlt : k < l2.length
  · have hPok : (l2[k]).ok := hl _ (List.getElem_mem hlt)
    obtain ⟨hP1, hP2, hP3, hP4⟩ := id hPok
    have hput := putS_A s k Ts (by omega) l2[k] (vOf l2[k]) hPok
    repeat (first
      | refine A_seq ?_
      | refine A_block ?_
      | refine R_list ?_
      | ((first | apply O_y rfl rfl rfl | apply Q_y rfl rfl rfl); (first | exact Y_move rfl rfl | exact Y_assign rfl rfl | exact R_index tabOk rfl rfl rfl rfl rfl rfl (by omega) | exact R_fieldi tabOk rfl rfl rfl | exact R_loadi tabOk rfl rfl rfl rfl rfl rfl rfl | exact R_len tabOk rfl rfl rfl | exact R_load tabOk rfl rfl rfl rfl rfl rfl rfl rfl rfl | exact R_field tabOk rfl rfl rfl rfl | exact Y_add rfl rfl rfl (by first | exact wrap_succ (by omega) | exact wrap_pred (by omega) (by omega) | exact wrap_i64 ⟨by omega, by omega⟩ | rfl) | exact Y_sub rfl rfl rfl (by first | exact wrap_succ (by omega) | exact wrap_pred (by omega) (by omega) | exact wrap_i64 ⟨by omega, by omega⟩ | rfl) | exact R_cmpT rfl rfl rfl rfl (by first | (simp only [decide_eq_true_eq, beq_iff_eq, bne_iff_ne, ne_eq]; done) | (simp only [decide_eq_true_eq, beq_iff_eq, bne_iff_ne, ne_eq]; omega)) | exact R_cmpF rfl rfl rfl rfl (by first | (simp only [decide_eq_false_iff_not, beq_eq_false_iff_ne, bne_eq_false_iff_eq, ne_eq]; done) | (simp only [decide_eq_false_iff_not, beq_eq_false_iff_ne, bne_eq_false_iff_eq, ne_eq]; omega)) | exact Y_ibin rfl rfl rfl rfl | exact Y_extract rfl rfl rfl | exact R_lenr tabOk rfl rfl rfl rfl | exact R_lenn tabOk rfl rfl rfl | exact R_indexr tabOk rfl rfl rfl rfl rfl rfl rfl (by omega) | exact R_fielde tabOk rfl rfl rfl rfl | exact R_loade tabOk rfl rfl rfl rfl rfl rfl rfl rfl rfl | exact Y_not rfl rfl | exact Y_pick_t rfl rfl (by first | rfl | assumption) rfl | exact Y_pick_f rfl rfl (by first | rfl | assumption) rfl | exact Y_pick_b rfl rfl rfl rfl | exact R_build tabOk rfl rfl rfl rfl rfl rfl | fail))
      | refine O_nil ?_
      | refine Q_nil ?_
      | refine X_then_normal ?_
      | refine X_in_normal ?_
      | refine O_box rfl rfl rfl rfl rfl rfl rfl ?_
      | refine O_alloc tabOk rfl rfl rfl rfl rfl rfl ?_
      | refine O_store tabOk rfl rfl rfl rfl rfl rfl rfl rfl rfl rfl rfl ?_
      | refine O_slice tabOk rfl rfl rfl rfl rfl rfl rfl rfl rfl rfl rfl ?_
      | refine A_condt rfl (by first | rfl | assumption | (first | (simp only [decide_eq_true_eq]; done) | (simp only [decide_eq_true_eq]; omega))) ?_
      | refine A_condf rfl (by first | rfl | assumption | (first | (simp only [decide_eq_false_iff_not]; done) | (simp only [decide_eq_false_iff_not]; omega))) ?_
      | refine A_skip ?_
      | refine A_exit ?_
      | refine A_ret ?_
      | refine X_then_exit ?_
      | refine X_then_ret ?_
      | refine X_in_same ?_
      | refine X_in_other rfl ?_
      | refine X_in_ret ?_
      | refine O_s rfl rfl rfl ?_
      | refine Q_s rfl rfl rfl ?_
      | refine O_sn rfl rfl ?_
      | fail)
    refine N_begin [3, 902] mixed ?_
    repeat (first
      | ((first
        | apply N_takeN (i := 0) rfl rfl (by kernel_rfl) (by decide +kernel) (by decide +kernel) (by repeat (first | exact np_post | apply np_then | apply np_in)) rfl rfl rfl
        | apply N_takeN (i := 1) rfl rfl (by kernel_rfl) (by decide +kernel) (by decide +kernel) (by repeat (first | exact np_post | apply np_then | apply np_in)) rfl rfl rfl
        | apply N_takeN (i := 2) rfl rfl (by kernel_rfl) (by decide +kernel) (by decide +kernel) (by repeat (first | exact np_post | apply np_then | apply np_in)) rfl rfl rfl
        | apply N_takeN (i := 3) rfl rfl (by kernel_rfl) (by decide +kernel) (by decide +kernel) (by repeat (first | exact np_post | apply np_then | apply np_in)) rfl rfl rfl
        | apply N_takeN (i := 4) rfl rfl (by kernel_rfl) (by decide +kernel) (by decide +kernel) (by repeat (first | exact np_post | apply np_then | apply np_in)) rfl rfl rfl
        | apply N_takeN (i := 5) rfl rfl (by kernel_rfl) (by decide +kernel) (by decide +kernel) (by repeat (first | exact np_post | apply np_then | apply np_in)) rfl rfl rfl
        | apply N_takeN (i := 6) rfl rfl (by kernel_rfl) (by decide +kernel) (by decide +kernel) (by repeat (first | exact np_post | apply np_then | apply np_in)) rfl rfl rfl
        | apply N_takeN (i := 7) rfl rfl (by kernel_rfl) (by decide +kernel) (by decide +kernel) (by repeat (first | exact np_post | apply np_then | apply np_in)) rfl rfl rfl
        | apply N_takeN (i := 8) rfl rfl (by kernel_rfl) (by decide +kernel) (by decide +kernel) (by repeat (first | exact np_post | apply np_then | apply np_in)) rfl rfl rfl
        | apply N_takeN (i := 9) rfl rfl (by kernel_rfl) (by decide +kernel) (by decide +kernel) (by repeat (first | exact np_post | apply np_then | apply np_in)) rfl rfl rfl
        | apply N_takeN (i := 10) rfl rfl (by kernel_rfl) (by decide +kernel) (by decide +kernel) (by repeat (first | exact np_post | apply np_then | apply np_in)) rfl rfl rfl
        | apply N_takeN (i := 11) rfl rfl (by kernel_rfl) (by decide +kernel) (by decide +kernel) (by repeat (first | exact np_post | apply np_then | apply np_in)) rfl rfl rfl
        | apply N_takeN (i := 12) rfl rfl (by kernel_rfl) (by decide +kernel) (by decide +kernel) (by repeat (first | exact np_post | apply np_then | apply np_in)) rfl rfl rfl
        | apply N_takeN (i := 13) rfl rfl (by kernel_rfl) (by decide +kernel) (by decide +kernel) (by repeat (first | exact np_post | apply np_then | apply np_in)) rfl rfl rfl
        | apply N_takeN (i := 14) rfl rfl (by kernel_rfl) (by decide +kernel) (by decide +kernel) (by repeat (first | exact np_post | apply np_then | apply np_in)) rfl rfl rfl
        | apply N_takeN (i := 15) rfl rfl (by kernel_rfl) (by decide +kernel) (by decide +kernel) (by repeat (first | exact np_post | apply np_then | apply np_in)) rfl rfl rfl
        | apply N_takeN (i := 16) rfl rfl (by kernel_rfl) (by decide +kernel) (by decide +kernel) (by repeat (first | exact np_post | apply np_then | apply np_in)) rfl rfl rfl
        | apply N_takeN (i := 17) rfl rfl (by kernel_rfl) (by decide +kernel) (by decide +kernel) (by repeat (first | exact np_post | apply np_then | apply np_in)) rfl rfl rfl
        | apply N_takeN (i := 18) rfl rfl (by kernel_rfl) (by decide +kernel) (by decide +kernel) (by repeat (first | exact np_post | apply np_then | apply np_in)) rfl rfl rfl
        | apply N_takeN (i := 19) rfl rfl (by kernel_rfl) (by decide +kernel) (by decide +kernel) (by repeat (first | exact np_post | apply np_then | apply np_in)) rfl rfl rfl
        | apply N_takeN (i := 20) rfl rfl (by kernel_rfl) (by decide +kernel) (by decide +kernel) (by repeat (first | exact np_post | apply np_then | apply np_in)) rfl rfl rfl
        | apply N_takeN (i := 21) rfl rfl (by kernel_rfl) (by decide +kernel) (by decide +kernel) (by repeat (first | exact np_post | apply np_then | apply np_in)) rfl rfl rfl
        | apply N_takeN (i := 22) rfl rfl (by kernel_rfl) (by decide +kernel) (by decide +kernel) (by repeat (first | exact np_post | apply np_then | apply np_in)) rfl rfl rfl
        | apply N_takeN (i := 23) rfl rfl (by kernel_rfl) (by decide +kernel) (by decide +kernel) (by repeat (first | exact np_post | apply np_then | apply np_in)) rfl rfl rfl
        | apply N_takeN (i := 24) rfl rfl (by kernel_rfl) (by decide +kernel) (by decide +kernel) (by repeat (first | exact np_post | apply np_then | apply np_in)) rfl rfl rfl
        ); (first | exact Y_move rfl rfl | exact R_index tabOk rfl rfl rfl rfl rfl rfl (by omega) | exact R_fieldi tabOk rfl rfl rfl | exact R_loadi tabOk rfl rfl rfl rfl (by first | exact win_flat0 pfxD_len l2 k _ hlt (by decide) | exact win_flat pfxD_len l2 k _ _ hlt (by decide) | exact win_flat2 pfxD_len l2 k _ _ _ hlt (by decide) | rfl) rfl rfl | exact R_load tabOk rfl rfl rfl rfl rfl rfl rfl rfl rfl | exact Y_add rfl rfl rfl (by first | exact wrap_succ (by omega) | exact wrap_pred (by omega) (by omega) | exact wrap_i64 ⟨by omega, by omega⟩ | rfl) | exact Y_ibin rfl rfl rfl rfl | (exact Y_conv tabOk rfl rfl rfl rfl rfl (wrap_i64 ⟨by omega, by omega⟩))))
      | (apply N_takeL (i := 0) rfl rfl (by kernel_rfl) (by decide +kernel) (by decide +kernel) (by repeat (first | exact np_post | apply np_then | apply np_in)) rfl rfl rfl; (first | exact R_loadi tabOk rfl rfl rfl rfl (by first | exact win_flat0 pfxD_len l2 k _ hlt (by decide) | exact win_flat pfxD_len l2 k _ _ hlt (by decide) | exact win_flat2 pfxD_len l2 k _ _ _ hlt (by decide) | rfl) rfl rfl | exact R_len tabOk rfl rfl rfl | exact R_load tabOk rfl rfl rfl rfl rfl rfl rfl rfl rfl | exact R_lenr tabOk rfl rfl rfl rfl | exact R_lenn tabOk rfl rfl rfl | exact R_loade tabOk rfl rfl rfl rfl rfl rfl rfl rfl rfl | (exact Y_conv tabOk rfl rfl rfl rfl rfl (wrap_i64 ⟨by omega, by omega⟩))))
      | (apply N_takeL (i := 1) rfl rfl (by kernel_rfl) (by decide +kernel) (by decide +kernel) (by repeat (first | exact np_post | apply np_then | apply np_in)) rfl rfl rfl; (first | exact R_loadi tabOk rfl rfl rfl rfl (by first | exact win_flat0 pfxD_len l2 k _ hlt (by decide) | exact win_flat pfxD_len l2 k _ _ hlt (by decide) | exact win_flat2 pfxD_len l2 k _ _ _ hlt (by decide) | rfl) rfl rfl | exact R_len tabOk rfl rfl rfl | exact R_load tabOk rfl rfl rfl rfl rfl rfl rfl rfl rfl | exact R_lenr tabOk rfl rfl rfl rfl | exact R_lenn tabOk rfl rfl rfl | exact R_loade tabOk rfl rfl rfl rfl rfl rfl rfl rfl rfl | (exact Y_conv tabOk rfl rfl rfl rfl rfl (wrap_i64 ⟨by omega, by omega⟩))))
      | (apply N_takeL (i := 2) rfl rfl (by kernel_rfl) (by decide +kernel) (by decide +kernel) (by repeat (first | exact np_post | apply np_then | apply np_in)) rfl rfl rfl; (first | exact R_loadi tabOk rfl rfl rfl rfl (by first | exact win_flat0 pfxD_len l2 k _ hlt (by decide) | exact win_flat pfxD_len l2 k _ _ hlt (by decide) | exact win_flat2 pfxD_len l2 k _ _ _ hlt (by decide) | rfl) rfl rfl | exact R_len tabOk rfl rfl rfl | exact R_load tabOk rfl rfl rfl rfl rfl rfl rfl rfl rfl | exact R_lenr tabOk rfl rfl rfl rfl | exact R_lenn tabOk rfl rfl rfl | exact R_loade tabOk rfl rfl rfl rfl rfl rfl rfl rfl rfl | (exact Y_conv tabOk rfl rfl rfl rfl rfl (wrap_i64 ⟨by omega, by omega⟩))))
      | (apply N_takeL (i := 3) rfl rfl (by kernel_rfl) (by decide +kernel) (by decide +kernel) (by repeat (first | exact np_post | apply np_then | apply np_in)) rfl rfl rfl; (first | exact R_loadi tabOk rfl rfl rfl rfl (by first | exact win_flat0 pfxD_len l2 k _ hlt (by decide) | exact win_flat pfxD_len l2 k _ _ hlt (by decide) | exact win_flat2 pfxD_len l2 k _ _ _ hlt (by decide) | rfl) rfl rfl | exact R_len tabOk rfl rfl rfl | exact R_load tabOk rfl rfl rfl rfl rfl rfl rfl rfl rfl | exact R_lenr tabOk rfl rfl rfl rfl | exact R_lenn tabOk rfl rfl rfl | exact R_loade tabOk rfl rfl rfl rfl rfl rfl rfl rfl rfl | (exact Y_conv tabOk rfl rfl rfl rfl rfl (wrap_i64 ⟨by omega, by omega⟩))))
      | (apply N_takeL (i := 4) rfl rfl (by kernel_rfl) (by decide +kernel) (by decide +kernel) (by repeat (first | exact np_post | apply np_then | apply np_in)) rfl rfl rfl; (first | exact R_loadi tabOk rfl rfl rfl rfl (by first | exact win_flat0 pfxD_len l2 k _ hlt (by decide) | exact win_flat pfxD_len l2 k _ _ hlt (by decide) | exact win_flat2 pfxD_len l2 k _ _ _ hlt (by decide) | rfl) rfl rfl | exact R_len tabOk rfl rfl rfl | exact R_load tabOk rfl rfl rfl rfl rfl rfl rfl rfl rfl | exact R_lenr tabOk rfl rfl rfl rfl | exact R_lenn tabOk rfl rfl rfl | exact R_loade tabOk rfl rfl rfl rfl rfl rfl rfl rfl rfl | (exact Y_conv tabOk rfl rfl rfl rfl rfl (wrap_i64 ⟨by omega, by omega⟩))))
      | (apply N_takeL (i := 5) rfl rfl (by kernel_rfl) (by decide +kernel) (by decide +kernel) (by repeat (first | exact np_post | apply np_then | apply np_in)) rfl rfl rfl; (first | exact R_loadi tabOk rfl rfl rfl rfl (by first | exact win_flat0 pfxD_len l2 k _ hlt (by decide) | exact win_flat pfxD_len l2 k _ _ hlt (by decide) | exact win_flat2 pfxD_len l2 k _ _ _ hlt (by decide) | rfl) rfl rfl | exact R_len tabOk rfl rfl rfl | exact R_load tabOk rfl rfl rfl rfl rfl rfl rfl rfl rfl | exact R_lenr tabOk rfl rfl rfl rfl | exact R_lenn tabOk rfl rfl rfl | exact R_loade tabOk rfl rfl rfl rfl rfl rfl rfl rfl rfl | (exact Y_conv tabOk rfl rfl rfl rfl rfl (wrap_i64 ⟨by omega, by omega⟩))))
      | (apply N_takeL (i := 6) rfl rfl (by kernel_rfl) (by decide +kernel) (by decide +kernel) (by repeat (first | exact np_post | apply np_then | apply np_in)) rfl rfl rfl; (first | exact R_loadi tabOk rfl rfl rfl rfl (by first | exact win_flat0 pfxD_len l2 k _ hlt (by decide) | exact win_flat pfxD_len l2 k _ _ hlt (by decide) | exact win_flat2 pfxD_len l2 k _ _ _ hlt (by decide) | rfl) rfl rfl | exact R_len tabOk rfl rfl rfl | exact R_load tabOk rfl rfl rfl rfl rfl rfl rfl rfl rfl | exact R_lenr tabOk rfl rfl rfl rfl | exact R_lenn tabOk rfl rfl rfl | exact R_loade tabOk rfl rfl rfl rfl rfl rfl rfl rfl rfl | (exact Y_conv tabOk rfl rfl rfl rfl rfl (wrap_i64 ⟨by omega, by omega⟩))))
      | (apply N_takeL (i := 7) rfl rfl (by kernel_rfl) (by decide +kernel) (by decide +kernel) (by repeat (first | exact np_post | apply np_then | apply np_in)) rfl rfl rfl; (first | exact R_loadi tabOk rfl rfl rfl rfl (by first | exact win_flat0 pfxD_len l2 k _ hlt (by decide) | exact win_flat pfxD_len l2 k _ _ hlt (by decide) | exact win_flat2 pfxD_len l2 k _ _ _ hlt (by decide) | rfl) rfl rfl | exact R_len tabOk rfl rfl rfl | exact R_load tabOk rfl rfl rfl rfl rfl rfl rfl rfl rfl | exact R_lenr tabOk rfl rfl rfl rfl | exact R_lenn tabOk rfl rfl rfl | exact R_loade tabOk rfl rfl rfl rfl rfl rfl rfl rfl rfl | (exact Y_conv tabOk rfl rfl rfl rfl rfl (wrap_i64 ⟨by omega, by omega⟩))))
      | (apply N_takeL (i := 8) rfl rfl (by kernel_rfl) (by decide +kernel) (by decide +kernel) (by repeat (first | exact np_post | apply np_then | apply np_in)) rfl rfl rfl; (first | exact R_loadi tabOk rfl rfl rfl rfl (by first | exact win_flat0 pfxD_len l2 k _ hlt (by decide) | exact win_flat pfxD_len l2 k _ _ hlt (by decide) | exact win_flat2 pfxD_len l2 k _ _ _ hlt (by decide) | rfl) rfl rfl | exact R_len tabOk rfl rfl rfl | exact R_load tabOk rfl rfl rfl rfl rfl rfl rfl rfl rfl | exact R_lenr tabOk rfl rfl rfl rfl | exact R_lenn tabOk rfl rfl rfl | exact R_loade tabOk rfl rfl rfl rfl rfl rfl rfl rfl rfl | (exact Y_conv tabOk rfl rfl rfl rfl rfl (wrap_i64 ⟨by omega, by omega⟩))))
      | (apply N_takeL (i := 9) rfl rfl (by kernel_rfl) (by decide +kernel) (by decide +kernel) (by repeat (first | exact np_post | apply np_then | apply np_in)) rfl rfl rfl; (first | exact R_loadi tabOk rfl rfl rfl rfl (by first | exact win_flat0 pfxD_len l2 k _ hlt (by decide) | exact win_flat pfxD_len l2 k _ _ hlt (by decide) | exact win_flat2 pfxD_len l2 k _ _ _ hlt (by decide) | rfl) rfl rfl | exact R_len tabOk rfl rfl rfl | exact R_load tabOk rfl rfl rfl rfl rfl rfl rfl rfl rfl | exact R_lenr tabOk rfl rfl rfl rfl | exact R_lenn tabOk rfl rfl rfl | exact R_loade tabOk rfl rfl rfl rfl rfl rfl rfl rfl rfl | (exact Y_conv tabOk rfl rfl rfl rfl rfl (wrap_i64 ⟨by omega, by omega⟩))))
      | (apply N_takeL (i := 10) rfl rfl (by kernel_rfl) (by decide +kernel) (by decide +kernel) (by repeat (first | exact np_post | apply np_then | apply np_in)) rfl rfl rfl; (first | exact R_loadi tabOk rfl rfl rfl rfl (by first | exact win_flat0 pfxD_len l2 k _ hlt (by decide) | exact win_flat pfxD_len l2 k _ _ hlt (by decide) | exact win_flat2 pfxD_len l2 k _ _ _ hlt (by decide) | rfl) rfl rfl | exact R_len tabOk rfl rfl rfl | exact R_load tabOk rfl rfl rfl rfl rfl rfl rfl rfl rfl | exact R_lenr tabOk rfl rfl rfl rfl | exact R_lenn tabOk rfl rfl rfl | exact R_loade tabOk rfl rfl rfl rfl rfl rfl rfl rfl rfl | (exact Y_conv tabOk rfl rfl rfl rfl rfl (wrap_i64 ⟨by omega, by omega⟩))))
      | (apply N_takeL (i := 11) rfl rfl (by kernel_rfl) (by decide +kernel) (by decide +kernel) (by repeat (first | exact np_post | apply np_then | apply np_in)) rfl rfl rfl; (first | exact R_loadi tabOk rfl rfl rfl rfl (by first | exact win_flat0 pfxD_len l2 k _ hlt (by decide) | exact win_flat pfxD_len l2 k _ _ hlt (by decide) | exact win_flat2 pfxD_len l2 k _ _ _ hlt (by decide) | rfl) rfl rfl | exact R_len tabOk rfl rfl rfl | exact R_load tabOk rfl rfl rfl rfl rfl rfl rfl rfl rfl | exact R_lenr tabOk rfl rfl rfl rfl | exact R_lenn tabOk rfl rfl rfl | exact R_loade tabOk rfl rfl rfl rfl rfl rfl rfl rfl rfl | (exact Y_conv tabOk rfl rfl rfl rfl rfl (wrap_i64 ⟨by omega, by omega⟩))))
      | (apply N_takeL (i := 12) rfl rfl (by kernel_rfl) (by decide +kernel) (by decide +kernel) (by repeat (first | exact np_post | apply np_then | apply np_in)) rfl rfl rfl; (first | exact R_loadi tabOk rfl rfl rfl rfl (by first | exact win_flat0 pfxD_len l2 k _ hlt (by decide) | exact win_flat pfxD_len l2 k _ _ hlt (by decide) | exact win_flat2 pfxD_len l2 k _ _ _ hlt (by decide) | rfl) rfl rfl | exact R_len tabOk rfl rfl rfl | exact R_load tabOk rfl rfl rfl rfl rfl rfl rfl rfl rfl | exact R_lenr tabOk rfl rfl rfl rfl | exact R_lenn tabOk rfl rfl rfl | exact R_loade tabOk rfl rfl rfl rfl rfl rfl rfl rfl rfl | (exact Y_conv tabOk rfl rfl rfl rfl rfl (wrap_i64 ⟨by omega, by omega⟩))))
      | (apply N_takeL (i := 13) rfl rfl (by kernel_rfl) (by decide +kernel) (by decide +kernel) (by repeat (first | exact np_post | apply np_then | apply np_in)) rfl rfl rfl; (first | exact R_loadi tabOk rfl rfl rfl rfl (by first | exact win_flat0 pfxD_len l2 k _ hlt (by decide) | exact win_flat pfxD_len l2 k _ _ hlt (by decide) | exact win_flat2 pfxD_len l2 k _ _ _ hlt (by decide) | rfl) rfl rfl | exact R_len tabOk rfl rfl rfl | exact R_load tabOk rfl rfl rfl rfl rfl rfl rfl rfl rfl | exact R_lenr tabOk rfl rfl rfl rfl | exact R_lenn tabOk rfl rfl rfl | exact R_loade tabOk rfl rfl rfl rfl rfl rfl rfl rfl rfl | (exact Y_conv tabOk rfl rfl rfl rfl rfl (wrap_i64 ⟨by omega, by omega⟩))))
      | (apply N_takeL (i := 14) rfl rfl (by kernel_rfl) (by decide +kernel) (by decide +kernel) (by repeat (first | exact np_post | apply np_then | apply np_in)) rfl rfl rfl; (first | exact R_loadi tabOk rfl rfl rfl rfl (by first | exact win_flat0 pfxD_len l2 k _ hlt (by decide) | exact win_flat pfxD_len l2 k _ _ hlt (by decide) | exact win_flat2 pfxD_len l2 k _ _ _ hlt (by decide) | rfl) rfl rfl | exact R_len tabOk rfl rfl rfl | exact R_load tabOk rfl rfl rfl rfl rfl rfl rfl rfl rfl | exact R_lenr tabOk rfl rfl rfl rfl | exact R_lenn tabOk rfl rfl rfl | exact R_loade tabOk rfl rfl rfl rfl rfl rfl rfl rfl rfl | (exact Y_conv tabOk rfl rfl rfl rfl rfl (wrap_i64 ⟨by omega, by omega⟩))))
      | (apply N_takeL (i := 15) rfl rfl (by kernel_rfl) (by decide +kernel) (by decide +kernel) (by repeat (first | exact np_post | apply np_then | apply np_in)) rfl rfl rfl; (first | exact R_loadi tabOk rfl rfl rfl rfl (by first | exact win_flat0 pfxD_len l2 k _ hlt (by decide) | exact win_flat pfxD_len l2 k _ _ hlt (by decide) | exact win_flat2 pfxD_len l2 k _ _ _ hlt (by decide) | rfl) rfl rfl | exact R_len tabOk rfl rfl rfl | exact R_load tabOk rfl rfl rfl rfl rfl rfl rfl rfl rfl | exact R_lenr tabOk rfl rfl rfl rfl | exact R_lenn tabOk rfl rfl rfl | exact R_loade tabOk rfl rfl rfl rfl rfl rfl rfl rfl rfl | (exact Y_conv tabOk rfl rfl rfl rfl rfl (wrap_i64 ⟨by omega, by omega⟩))))
      | (apply N_takeL (i := 16) rfl rfl (by kernel_rfl) (by decide +kernel) (by decide +kernel) (by repeat (first | exact np_post | apply np_then | apply np_in)) rfl rfl rfl; (first | exact R_loadi tabOk rfl rfl rfl rfl (by first | exact win_flat0 pfxD_len l2 k _ hlt (by decide) | exact win_flat pfxD_len l2 k _ _ hlt (by decide) | exact win_flat2 pfxD_len l2 k _ _ _ hlt (by decide) | rfl) rfl rfl | exact R_len tabOk rfl rfl rfl | exact R_load tabOk rfl rfl rfl rfl rfl rfl rfl rfl rfl | exact R_lenr tabOk rfl rfl rfl rfl | exact R_lenn tabOk rfl rfl rfl | exact R_loade tabOk rfl rfl rfl rfl rfl rfl rfl rfl rfl | (exact Y_conv tabOk rfl rfl rfl rfl rfl (wrap_i64 ⟨by omega, by omega⟩))))
      | (apply N_takeL (i := 17) rfl rfl (by kernel_rfl) (by decide +kernel) (by decide +kernel) (by repeat (first | exact np_post | apply np_then | apply np_in)) rfl rfl rfl; (first | exact R_loadi tabOk rfl rfl rfl rfl (by first | exact win_flat0 pfxD_len l2 k _ hlt (by decide) | exact win_flat pfxD_len l2 k _ _ hlt (by decide) | exact win_flat2 pfxD_len l2 k _ _ _ hlt (by decide) | rfl) rfl rfl | exact R_len tabOk rfl rfl rfl | exact R_load tabOk rfl rfl rfl rfl rfl rfl rfl rfl rfl | exact R_lenr tabOk rfl rfl rfl rfl | exact R_lenn tabOk rfl rfl rfl | exact R_loade tabOk rfl rfl rfl rfl rfl rfl rfl rfl rfl | (exact Y_conv tabOk rfl rfl rfl rfl rfl (wrap_i64 ⟨by omega, by omega⟩))))
      | (apply N_takeL (i := 18) rfl rfl (by kernel_rfl) (by decide +kernel) (by decide +kernel) (by repeat (first | exact np_post | apply np_then | apply np_in)) rfl rfl rfl; (first | exact R_loadi tabOk rfl rfl rfl rfl (by first | exact win_flat0 pfxD_len l2 k _ hlt (by decide) | exact win_flat pfxD_len l2 k _ _ hlt (by decide) | exact win_flat2 pfxD_len l2 k _ _ _ hlt (by decide) | rfl) rfl rfl | exact R_len tabOk rfl rfl rfl | exact R_load tabOk rfl rfl rfl rfl rfl rfl rfl rfl rfl | exact R_lenr tabOk rfl rfl rfl rfl | exact R_lenn tabOk rfl rfl rfl | exact R_loade tabOk rfl rfl rfl rfl rfl rfl rfl rfl rfl | (exact Y_conv tabOk rfl rfl rfl rfl rfl (wrap_i64 ⟨by omega, by omega⟩))))
      | (apply N_takeL (i := 19) rfl rfl (by kernel_rfl) (by decide +kernel) (by decide +kernel) (by repeat (first | exact np_post | apply np_then | apply np_in)) rfl rfl rfl; (first | exact R_loadi tabOk rfl rfl rfl rfl (by first | exact win_flat0 pfxD_len l2 k _ hlt (by decide) | exact win_flat pfxD_len l2 k _ _ hlt (by decide) | exact win_flat2 pfxD_len l2 k _ _ _ hlt (by decide) | rfl) rfl rfl | exact R_len tabOk rfl rfl rfl | exact R_load tabOk rfl rfl rfl rfl rfl rfl rfl rfl rfl | exact R_lenr tabOk rfl rfl rfl rfl | exact R_lenn tabOk rfl rfl rfl | exact R_loade tabOk rfl rfl rfl rfl rfl rfl rfl rfl rfl | (exact Y_conv tabOk rfl rfl rfl rfl rfl (wrap_i64 ⟨by omega, by omega⟩))))
      | (apply N_takeL (i := 20) rfl rfl (by kernel_rfl) (by decide +kernel) (by decide +kernel) (by repeat (first | exact np_post | apply np_then | apply np_in)) rfl rfl rfl; (first | exact R_loadi tabOk rfl rfl rfl rfl (by first | exact win_flat0 pfxD_len l2 k _ hlt (by decide) | exact win_flat pfxD_len l2 k _ _ hlt (by decide) | exact win_flat2 pfxD_len l2 k _ _ _ hlt (by decide) | rfl) rfl rfl | exact R_len tabOk rfl rfl rfl | exact R_load tabOk rfl rfl rfl rfl rfl rfl rfl rfl rfl | exact R_lenr tabOk rfl rfl rfl rfl | exact R_lenn tabOk rfl rfl rfl | exact R_loade tabOk rfl rfl rfl rfl rfl rfl rfl rfl rfl | (exact Y_conv tabOk rfl rfl rfl rfl rfl (wrap_i64 ⟨by omega, by omega⟩))))
      | (apply N_takeL (i := 21) rfl rfl (by kernel_rfl) (by decide +kernel) (by decide +kernel) (by repeat (first | exact np_post | apply np_then | apply np_in)) rfl rfl rfl; (first | exact R_loadi tabOk rfl rfl rfl rfl (by first | exact win_flat0 pfxD_len l2 k _ hlt (by decide) | exact win_flat pfxD_len l2 k _ _ hlt (by decide) | exact win_flat2 pfxD_len l2 k _ _ _ hlt (by decide) | rfl) rfl rfl | exact R_len tabOk rfl rfl rfl | exact R_load tabOk rfl rfl rfl rfl rfl rfl rfl rfl rfl | exact R_lenr tabOk rfl rfl rfl rfl | exact R_lenn tabOk rfl rfl rfl | exact R_loade tabOk rfl rfl rfl rfl rfl rfl rfl rfl rfl | (exact Y_conv tabOk rfl rfl rfl rfl rfl (wrap_i64 ⟨by omega, by omega⟩))))
      | (apply N_takeL (i := 22) rfl rfl (by kernel_rfl) (by decide +kernel) (by decide +kernel) (by repeat (first | exact np_post | apply np_then | apply np_in)) rfl rfl rfl; (first | exact R_loadi tabOk rfl rfl rfl rfl (by first | exact win_flat0 pfxD_len l2 k _ hlt (by decide) | exact win_flat pfxD_len l2 k _ _ hlt (by decide) | exact win_flat2 pfxD_len l2 k _ _ _ hlt (by decide) | rfl) rfl rfl | exact R_len tabOk rfl rfl rfl | exact R_load tabOk rfl rfl rfl rfl rfl rfl rfl rfl rfl | exact R_lenr tabOk rfl rfl rfl rfl | exact R_lenn tabOk rfl rfl rfl | exact R_loade tabOk rfl rfl rfl rfl rfl rfl rfl rfl rfl | (exact Y_conv tabOk rfl rfl rfl rfl rfl (wrap_i64 ⟨by omega, by omega⟩))))
      | (apply N_takeL (i := 23) rfl rfl (by kernel_rfl) (by decide +kernel) (by decide +kernel) (by repeat (first | exact np_post | apply np_then | apply np_in)) rfl rfl rfl; (first | exact R_loadi tabOk rfl rfl rfl rfl (by first | exact win_flat0 pfxD_len l2 k _ hlt (by decide) | exact win_flat pfxD_len l2 k _ _ hlt (by decide) | exact win_flat2 pfxD_len l2 k _ _ _ hlt (by decide) | rfl) rfl rfl | exact R_len tabOk rfl rfl rfl | exact R_load tabOk rfl rfl rfl rfl rfl rfl rfl rfl rfl | exact R_lenr tabOk rfl rfl rfl rfl | exact R_lenn tabOk rfl rfl rfl | exact R_loade tabOk rfl rfl rfl rfl rfl rfl rfl rfl rfl | (exact Y_conv tabOk rfl rfl rfl rfl rfl (wrap_i64 ⟨by omega, by omega⟩))))
      | (apply N_takeL (i := 24) rfl rfl (by kernel_rfl) (by decide +kernel) (by decide +kernel) (by repeat (first | exact np_post | apply np_then | apply np_in)) rfl rfl rfl; (first | exact R_loadi tabOk rfl rfl rfl rfl (by first | exact win_flat0 pfxD_len l2 k _ hlt (by decide) | exact win_flat pfxD_len l2 k _ _ hlt (by decide) | exact win_flat2 pfxD_len l2 k _ _ _ hlt (by decide) | rfl) rfl rfl | exact R_len tabOk rfl rfl rfl | exact R_load tabOk rfl rfl rfl rfl rfl rfl rfl rfl rfl | exact R_lenr tabOk rfl rfl rfl rfl | exact R_lenn tabOk rfl rfl rfl | exact R_loade tabOk rfl rfl rfl rfl rfl rfl rfl rfl rfl | (exact Y_conv tabOk rfl rfl rfl rfl rfl (wrap_i64 ⟨by omega, by omega⟩))))
      | refine N_one (j := 0) (by decide +kernel) ?_
      | refine N_one (j := 1) (by decide +kernel) ?_
      | refine N_one (j := 2) (by decide +kernel) ?_
      | refine N_one (j := 3) (by decide +kernel) ?_
      | refine N_one (j := 4) (by decide +kernel) ?_
      | refine N_one (j := 5) (by decide +kernel) ?_
      | refine N_one (j := 6) (by decide +kernel) ?_
      | refine N_one (j := 7) (by decide +kernel) ?_
      | refine N_one (j := 8) (by decide +kernel) ?_
      | refine N_one (j := 9) (by decide +kernel) ?_
      | refine N_one (j := 10) (by decide +kernel) ?_
      | refine N_one (j := 11) (by decide +kernel) ?_
      | refine N_one (j := 12) (by decide +kernel) ?_
      | refine N_one (j := 13) (by decide +kernel) ?_
      | refine N_one (j := 14) (by decide +kernel) ?_
      | refine N_one (j := 15) (by decide +kernel) ?_
      | refine N_one (j := 16) (by decide +kernel) ?_
      | refine N_one (j := 17) (by decide +kernel) ?_
      | refine N_one (j := 18) (by decide +kernel) ?_
      | refine N_one (j := 19) (by decide +kernel) ?_
      | refine N_one (j := 20) (by decide +kernel) ?_
      | refine N_one (j := 21) (by decide +kernel) ?_
      | refine N_one (j := 22) (by decide +kernel) ?_
      | refine N_one (j := 23) (by decide +kernel) ?_
      | refine N_one (j := 24) (by decide +kernel) ?_
      | refine T_alloc tabOk rfl rfl rfl rfl rfl rfl rfl ?_
      | refine T_store tabOk rfl rfl rfl rfl rfl rfl rfl rfl rfl rfl rfl rfl rfl ?_
      | refine T_box rfl rfl rfl rfl rfl rfl rfl rfl ?_
      | (apply T_yield rfl rfl rfl rfl; (first | exact Y_move rfl rfl | exact R_index tabOk rfl rfl rfl rfl rfl rfl (by omega) | exact R_fieldi tabOk rfl rfl rfl | exact R_loadi tabOk rfl rfl rfl rfl (by first | exact win_flat0 pfxD_len l2 k _ hlt (by decide) | exact win_flat pfxD_len l2 k _ _ hlt (by decide) | exact win_flat2 pfxD_len l2 k _ _ _ hlt (by decide) | rfl) rfl rfl | exact R_load tabOk rfl rfl rfl rfl rfl rfl rfl rfl rfl | exact Y_add rfl rfl rfl (by first | exact wrap_succ (by omega) | exact wrap_pred (by omega) (by omega) | exact wrap_i64 ⟨by omega, by omega⟩ | rfl) | exact Y_ibin rfl rfl rfl rfl | (exact Y_conv tabOk rfl rfl rfl rfl rfl (wrap_i64 ⟨by omega, by omega⟩))))
      | refine N_done (by decide +kernel) ?_
      | fail)
    refine T_cTbl 3 902 (by omega) hput rfl rfl rfl rfl rfl rfl rfl rfl rfl rfl rfl rfl ?_
    refine N_done (by kernel_rfl) ?_
    refine X_then_normal ?_
    refine A_seq ?_
    refine R_list ?_
    repeat (first
      | (apply O_y rfl rfl rfl; (first | exact Y_move rfl rfl | exact Y_assign rfl rfl | exact R_index tabOk rfl rfl rfl rfl rfl rfl (by omega) | exact R_fieldi tabOk rfl rfl rfl | exact R_loadi tabOk rfl rfl rfl rfl rfl rfl rfl | exact R_len tabOk rfl rfl rfl | exact R_load tabOk rfl rfl rfl rfl rfl rfl rfl rfl rfl | exact R_field tabOk rfl rfl rfl rfl | exact Y_add rfl rfl rfl (by first | exact wrap_succ (by omega) | exact wrap_pred (by omega) (by omega) | exact wrap_i64 ⟨by omega, by omega⟩ | rfl) | exact Y_sub rfl rfl rfl (by first | exact wrap_succ (by omega) | exact wrap_pred (by omega) (by omega) | exact wrap_i64 ⟨by omega, by omega⟩ | rfl) | exact R_cmpT rfl rfl rfl rfl (by first | (simp only [decide_eq_true_eq, beq_iff_eq, bne_iff_ne, ne_eq]; done) | (simp only [decide_eq_true_eq, beq_iff_eq, bne_iff_ne, ne_eq]; omega)) | exact R_cmpF rfl rfl rfl rfl (by first | (simp only [decide_eq_false_iff_not, beq_eq_false_iff_ne, bne_eq_false_iff_eq, ne_eq]; done) | (simp only [decide_eq_false_iff_not, beq_eq_false_iff_ne, bne_eq_false_iff_eq, ne_eq]; omega)) | exact Y_ibin rfl rfl rfl rfl | exact Y_extract rfl rfl rfl | exact R_lenr tabOk rfl rfl rfl rfl | exact R_lenn tabOk rfl rfl rfl | exact R_indexr tabOk rfl rfl rfl rfl rfl rfl rfl (by omega) | exact R_fielde tabOk rfl rfl rfl rfl | exact R_loade tabOk rfl rfl rfl rfl rfl rfl rfl rfl rfl | exact Y_not rfl rfl | exact Y_pick_t rfl rfl (by first | rfl | assumption) rfl | exact Y_pick_f rfl rfl (by first | rfl | assumption) rfl | exact Y_pick_b rfl rfl rfl rfl | exact R_build tabOk rfl rfl rfl rfl rfl rfl | fail))
      | refine O_alloc tabOk rfl rfl rfl rfl rfl rfl ?_
      | refine O_store tabOk rfl rfl rfl rfl rfl rfl rfl rfl rfl rfl rfl ?_
      | refine O_s rfl rfl rfl ?_
      | refine O_sn rfl rfl ?_)
    refine O_nil ?_
    refine X_then_normal ?_
    obtain ⟨i, hidef⟩ : ∃ i, (if by_.tmod 2 = 0 then (k * 7 + 3) % l2.length else l2.length - 1 - k) = i := ⟨_, rfl⟩
    have hi : i < l2.length := by
      rw [← hidef]
      split
      · exact Nat.mod_lt _ (by omega)
      · omega
    have T1 := Ts.put l2[k] (vOf l2[k]) hPok
    have R1 := Rs.put Ts l2[k]
    generalize putS s l2[k] (vOf l2[k]) = s1 at *
    refine A_cut [(0, pfxsA l2), (1, intA by_), (3, .d (.sc (.int .u32 x))), (6, .ptr 6 0), (8, .ptr 8 0), (9, .ptr 3 0), (10, .ptr 10 0), (11, intA (k : Int)), (12, intA (i : Int))] (gH q s1 t) ?_ ?_
    · by_cases hb : by_.tmod 2 = 0
      · rw [if_pos hb] at hidef
        subst hidef
        have hrem : (IntKind.i64.wrap (IntKind.i64.wrap ((k : Int) * 7) + 3)).tmod (l2.length : Int) = (((k * 7 + 3) % l2.length : Nat) : Int) := by
          rw [wrap_i64 (n := (k : Int) * 7) ⟨by omega, by omega⟩, wrap_i64 ⟨by omega, by omega⟩]
          exact tmod_nat _ _
        repeat (first
          | refine A_seq ?_
          | refine A_block ?_
          | refine R_list ?_
          | refine R_quiet rfl mixed (by kernel_rfl) ?_
          | ((first | apply O_y rfl rfl rfl | apply Q_y rfl rfl rfl); (first | exact Y_move rfl rfl | exact Y_assign rfl rfl | exact R_index tabOk rfl rfl rfl rfl rfl rfl (by omega) | exact R_fieldi tabOk rfl rfl rfl | exact R_loadi tabOk rfl rfl rfl rfl rfl rfl rfl | exact R_len tabOk rfl rfl rfl | exact R_load tabOk rfl rfl rfl rfl rfl rfl rfl rfl rfl | exact R_field tabOk rfl rfl rfl rfl | exact Y_add rfl rfl rfl (by first | exact wrap_succ (by omega) | exact wrap_pred (by omega) (by omega) | exact wrap_i64 ⟨by omega, by omega⟩ | rfl) | exact Y_sub rfl rfl rfl (by first | exact wrap_succ (by omega) | exact wrap_pred (by omega) (by omega) | exact wrap_i64 ⟨by omega, by omega⟩ | rfl) | exact R_cmpT rfl rfl rfl rfl (by first | (simp only [decide_eq_true_eq, beq_iff_eq, bne_iff_ne, ne_eq]; done) | (simp only [decide_eq_true_eq, beq_iff_eq, bne_iff_ne, ne_eq]; omega)) | exact R_cmpF rfl rfl rfl rfl (by first | (simp only [decide_eq_false_iff_not, beq_eq_false_iff_ne, bne_eq_false_iff_eq, ne_eq]; done) | (simp only [decide_eq_false_iff_not, beq_eq_false_iff_ne, bne_eq_false_iff_eq, ne_eq]; omega)) | exact Y_ibin rfl rfl rfl rfl | exact Y_extract rfl rfl rfl | exact R_lenr tabOk rfl rfl rfl rfl | exact R_lenn tabOk rfl rfl rfl | exact R_indexr tabOk rfl rfl rfl rfl rfl rfl rfl (by omega) | exact R_fielde tabOk rfl rfl rfl rfl | exact R_loade tabOk rfl rfl rfl rfl rfl rfl rfl rfl rfl | exact Y_not rfl rfl | exact Y_pick_t rfl rfl (by first | rfl | assumption) rfl | exact Y_pick_f rfl rfl (by first | rfl | assumption) rfl | exact Y_pick_b rfl rfl rfl rfl | exact R_build tabOk rfl rfl rfl rfl rfl rfl | (first | exact Y_rem rfl rfl rfl (by decide) rfl | exact Y_rem rfl rfl rfl (by omega) hrem)))
          | refine O_nil ?_
          | refine Q_nil ?_
          | refine X_then_normal ?_
          | refine X_in_normal ?_
          | refine O_box rfl rfl rfl rfl rfl rfl rfl ?_
          | refine O_alloc tabOk rfl rfl rfl rfl rfl rfl ?_
          | refine O_store tabOk rfl rfl rfl rfl rfl rfl rfl rfl rfl rfl rfl ?_
          | refine O_slice tabOk rfl rfl rfl rfl rfl rfl rfl rfl rfl rfl rfl ?_
          | refine A_condt rfl (by first | rfl | assumption | (first | (simp only [decide_eq_true_eq]; done) | (simp only [decide_eq_true_eq]; omega))) ?_
          | refine A_condf rfl (by first | rfl | assumption | (first | (simp only [decide_eq_false_iff_not]; done) | (simp only [decide_eq_false_iff_not]; omega))) ?_
          | refine A_skip ?_
          | refine A_exit ?_
          | refine A_ret ?_
          | refine X_then_exit ?_
          | refine X_then_ret ?_
          | refine X_in_same ?_
          | refine X_in_other rfl ?_
          | refine X_in_ret ?_
          | refine O_s rfl rfl rfl ?_
          | refine Q_s rfl rfl rfl ?_
          | refine O_sn rfl rfl ?_
          | fail)
        exact Wk_sel ⟨rfl, rfl, rfl, rfl, rfl, rfl, rfl, rfl, rfl, trivial⟩ ⟨rfl, rfl, rfl, rfl, rfl, rfl, rfl, trivial⟩
      · rw [if_neg hb] at hidef
        repeat (first
          | refine A_seq ?_
          | refine A_block ?_
          | refine R_list ?_
          | refine R_quiet rfl mixed (by kernel_rfl) ?_
          | ((first | apply O_y rfl rfl rfl | apply Q_y rfl rfl rfl); (first | exact Y_move rfl rfl | exact Y_assign rfl rfl | exact R_index tabOk rfl rfl rfl rfl rfl rfl (by omega) | exact R_fieldi tabOk rfl rfl rfl | exact R_loadi tabOk rfl rfl rfl rfl rfl rfl rfl | exact R_len tabOk rfl rfl rfl | exact R_load tabOk rfl rfl rfl rfl rfl rfl rfl rfl rfl | exact R_field tabOk rfl rfl rfl rfl | exact Y_add rfl rfl rfl (by first | exact wrap_succ (by omega) | exact wrap_pred (by omega) (by omega) | exact wrap_i64 ⟨by omega, by omega⟩ | rfl) | exact Y_sub rfl rfl rfl (by first | exact wrap_succ (by omega) | exact wrap_pred (by omega) (by omega) | exact wrap_i64 ⟨by omega, by omega⟩ | rfl) | exact R_cmpT rfl rfl rfl rfl (by first | (simp only [decide_eq_true_eq, beq_iff_eq, bne_iff_ne, ne_eq]; done) | (simp only [decide_eq_true_eq, beq_iff_eq, bne_iff_ne, ne_eq]; omega)) | exact R_cmpF rfl rfl rfl rfl (by first | (simp only [decide_eq_false_iff_not, beq_eq_false_iff_ne, bne_eq_false_iff_eq, ne_eq]; done) | (simp only [decide_eq_false_iff_not, beq_eq_false_iff_ne, bne_eq_false_iff_eq, ne_eq]; omega)) | exact Y_ibin rfl rfl rfl rfl | exact Y_extract rfl rfl rfl | exact R_lenr tabOk rfl rfl rfl rfl | exact R_lenn tabOk rfl rfl rfl | exact R_indexr tabOk rfl rfl rfl rfl rfl rfl rfl (by omega) | exact R_fielde tabOk rfl rfl rfl rfl | exact R_loade tabOk rfl rfl rfl rfl rfl rfl rfl rfl rfl | exact Y_not rfl rfl | exact Y_pick_t rfl rfl (by first | rfl | assumption) rfl | exact Y_pick_f rfl rfl (by first | rfl | assumption) rfl | exact Y_pick_b rfl rfl rfl rfl | exact R_build tabOk rfl rfl rfl rfl rfl rfl | (first | exact Y_rem rfl rfl rfl (by decide) rfl)))
          | refine O_nil ?_
          | refine Q_nil ?_
          | refine X_then_normal ?_
          | refine X_in_normal ?_
          | refine O_box rfl rfl rfl rfl rfl rfl rfl ?_
          | refine O_alloc tabOk rfl rfl rfl rfl rfl rfl ?_
          | refine O_store tabOk rfl rfl rfl rfl rfl rfl rfl rfl rfl rfl rfl ?_
          | refine O_slice tabOk rfl rfl rfl rfl rfl rfl rfl rfl rfl rfl rfl ?_
          | refine A_condt rfl (by first | rfl | assumption | (first | (simp only [decide_eq_true_eq]; done) | (simp only [decide_eq_true_eq]; omega))) ?_
          | refine A_condf rfl (by first | rfl | assumption | (first | (simp only [decide_eq_false_iff_not]; done) | (simp only [decide_eq_false_iff_not]; omega))) ?_
          | refine A_skip ?_
          | refine A_exit ?_
          | refine A_ret ?_
          | refine X_then_exit ?_
          | refine X_then_ret ?_
          | refine X_in_same ?_
          | refine X_in_other rfl ?_
          | refine X_in_ret ?_
          | refine O_s rfl rfl rfl ?_
          | refine Q_s rfl rfl rfl ?_
          | refine O_sn rfl rfl ?_
          | fail)
        exact Wk_sel ⟨rfl, rfl, rfl, rfl, rfl, rfl, rfl, rfl, by rw [show ((i : Nat) : Int) = ((l2.length - 1 : Nat) : Int) - (k : Int) by omega]; rfl, trivial⟩ ⟨rfl, rfl, rfl, rfl, rfl, rfl, rfl, trivial⟩
    · have hQok : (l2[i]).ok := hl _ (List.getElem_mem hi)
      obtain ⟨hQ1, hQ2, hQ3, hQ4⟩ := id hQok
      have hput2 := putS_A t k Tt (by omega) l2[i] (vOf l2[i]) hQok
      refine N_begin [4, 903] mixed ?_
      repeat (first
        | ((first
          | apply N_takeN (i := 0) rfl rfl (by kernel_rfl) (by decide +kernel) (by decide +kernel) (by repeat (first | exact np_post | apply np_then | apply np_in)) rfl rfl rfl
          | apply N_takeN (i := 1) rfl rfl (by kernel_rfl) (by decide +kernel) (by decide +kernel) (by repeat (first | exact np_post | apply np_then | apply np_in)) rfl rfl rfl
          | apply N_takeN (i := 2) rfl rfl (by kernel_rfl) (by decide +kernel) (by decide +kernel) (by repeat (first | exact np_post | apply np_then | apply np_in)) rfl rfl rfl
          | apply N_takeN (i := 3) rfl rfl (by kernel_rfl) (by decide +kernel) (by decide +kernel) (by repeat (first | exact np_post | apply np_then | apply np_in)) rfl rfl rfl
          | apply N_takeN (i := 4) rfl rfl (by kernel_rfl) (by decide +kernel) (by decide +kernel) (by repeat (first | exact np_post | apply np_then | apply np_in)) rfl rfl rfl
          | apply N_takeN (i := 5) rfl rfl (by kernel_rfl) (by decide +kernel) (by decide +kernel) (by repeat (first | exact np_post | apply np_then | apply np_in)) rfl rfl rfl
          | apply N_takeN (i := 6) rfl rfl (by kernel_rfl) (by decide +kernel) (by decide +kernel) (by repeat (first | exact np_post | apply np_then | apply np_in)) rfl rfl rfl
          | apply N_takeN (i := 7) rfl rfl (by kernel_rfl) (by decide +kernel) (by decide +kernel) (by repeat (first | exact np_post | apply np_then | apply np_in)) rfl rfl rfl
          | apply N_takeN (i := 8) rfl rfl (by kernel_rfl) (by decide +kernel) (by decide +kernel) (by repeat (first | exact np_post | apply np_then | apply np_in)) rfl rfl rfl
          | apply N_takeN (i := 9) rfl rfl (by kernel_rfl) (by decide +kernel) (by decide +kernel) (by repeat (first | exact np_post | apply np_then | apply np_in)) rfl rfl rfl
          | apply N_takeN (i := 10) rfl rfl (by kernel_rfl) (by decide +kernel) (by decide +kernel) (by repeat (first | exact np_post | apply np_then | apply np_in)) rfl rfl rfl
          | apply N_takeN (i := 11) rfl rfl (by kernel_rfl) (by decide +kernel) (by decide +kernel) (by repeat (first | exact np_post | apply np_then | apply np_in)) rfl rfl rfl
          | apply N_takeN (i := 12) rfl rfl (by kernel_rfl) (by decide +kernel) (by decide +kernel) (by repeat (first | exact np_post | apply np_then | apply np_in)) rfl rfl rfl
          | apply N_takeN (i := 13) rfl rfl (by kernel_rfl) (by decide +kernel) (by decide +kernel) (by repeat (first | exact np_post | apply np_then | apply np_in)) rfl rfl rfl
          | apply N_takeN (i := 14) rfl rfl (by kernel_rfl) (by decide +kernel) (by decide +kernel) (by repeat (first | exact np_post | apply np_then | apply np_in)) rfl rfl rfl
          | apply N_takeN (i := 15) rfl rfl (by kernel_rfl) (by decide +kernel) (by decide +kernel) (by repeat (first | exact np_post | apply np_then | apply np_in)) rfl rfl rfl
          | apply N_takeN (i := 16) rfl rfl (by kernel_rfl) (by decide +kernel) (by decide +kernel) (by repeat (first | exact np_post | apply np_then | apply np_in)) rfl rfl rfl
          | apply N_takeN (i := 17) rfl rfl (by kernel_rfl) (by decide +kernel) (by decide +kernel) (by repeat (first | exact np_post | apply np_then | apply np_in)) rfl rfl rfl
          | apply N_takeN (i := 18) rfl rfl (by kernel_rfl) (by decide +kernel) (by decide +kernel) (by repeat (first | exact np_post | apply np_then | apply np_in)) rfl rfl rfl
          | apply N_takeN (i := 19) rfl rfl (by kernel_rfl) (by decide +kernel) (by decide +kernel) (by repeat (first | exact np_post | apply np_then | apply np_in)) rfl rfl rfl
          | apply N_takeN (i := 20) rfl rfl (by kernel_rfl) (by decide +kernel) (by decide +kernel) (by repeat (first | exact np_post | apply np_then | apply np_in)) rfl rfl rfl
          | apply N_takeN (i := 21) rfl rfl (by kernel_rfl) (by decide +kernel) (by decide +kernel) (by repeat (first | exact np_post | apply np_then | apply np_in)) rfl rfl rfl
          | apply N_takeN (i := 22) rfl rfl (by kernel_rfl) (by decide +kernel) (by decide +kernel) (by repeat (first | exact np_post | apply np_then | apply np_in)) rfl rfl rfl
          | apply N_takeN (i := 23) rfl rfl (by kernel_rfl) (by decide +kernel) (by decide +kernel) (by repeat (first | exact np_post | apply np_then | apply np_in)) rfl rfl rfl
          | apply N_takeN (i := 24) rfl rfl (by kernel_rfl) (by decide +kernel) (by decide +kernel) (by repeat (first | exact np_post | apply np_then | apply np_in)) rfl rfl rfl
          ); (first | exact Y_move rfl rfl | exact R_index tabOk rfl rfl rfl rfl rfl rfl (by omega) | exact R_fieldi tabOk rfl rfl rfl | exact R_loadi tabOk rfl rfl rfl rfl (by first | exact win_flat0 pfxD_len l2 i _ hi (by decide) | exact win_flat pfxD_len l2 i _ _ hi (by decide) | exact win_flat2 pfxD_len l2 i _ _ _ hi (by decide) | rfl) rfl rfl | exact R_load tabOk rfl rfl rfl rfl rfl rfl rfl rfl rfl | exact Y_add rfl rfl rfl (by first | exact wrap_succ (by omega) | exact wrap_pred (by omega) (by omega) | exact wrap_i64 ⟨by omega, by omega⟩ | rfl) | exact Y_ibin rfl rfl rfl rfl | (exact Y_conv tabOk rfl rfl rfl rfl rfl (wrap_i64 ⟨by omega, by omega⟩))))
        | (apply N_takeL (i := 0) rfl rfl (by kernel_rfl) (by decide +kernel) (by decide +kernel) (by repeat (first | exact np_post | apply np_then | apply np_in)) rfl rfl rfl; (first | exact R_loadi tabOk rfl rfl rfl rfl (by first | exact win_flat0 pfxD_len l2 i _ hi (by decide) | exact win_flat pfxD_len l2 i _ _ hi (by decide) | exact win_flat2 pfxD_len l2 i _ _ _ hi (by decide) | rfl) rfl rfl | exact R_len tabOk rfl rfl rfl | exact R_load tabOk rfl rfl rfl rfl rfl rfl rfl rfl rfl | exact R_lenr tabOk rfl rfl rfl rfl | exact R_lenn tabOk rfl rfl rfl | exact R_loade tabOk rfl rfl rfl rfl rfl rfl rfl rfl rfl | (exact Y_conv tabOk rfl rfl rfl rfl rfl (wrap_i64 ⟨by omega, by omega⟩))))
        | (apply N_takeL (i := 1) rfl rfl (by kernel_rfl) (by decide +kernel) (by decide +kernel) (by repeat (first | exact np_post | apply np_then | apply np_in)) rfl rfl rfl; (first | exact R_loadi tabOk rfl rfl rfl rfl (by first | exact win_flat0 pfxD_len l2 i _ hi (by decide) | exact win_flat pfxD_len l2 i _ _ hi (by decide) | exact win_flat2 pfxD_len l2 i _ _ _ hi (by decide) | rfl) rfl rfl | exact R_len tabOk rfl rfl rfl | exact R_load tabOk rfl rfl rfl rfl rfl rfl rfl rfl rfl | exact R_lenr tabOk rfl rfl rfl rfl | exact R_lenn tabOk rfl rfl rfl | exact R_loade tabOk rfl rfl rfl rfl rfl rfl rfl rfl rfl | (exact Y_conv tabOk rfl rfl rfl rfl rfl (wrap_i64 ⟨by omega, by omega⟩))))
        | (apply N_takeL (i := 2) rfl rfl (by kernel_rfl) (by decide +kernel) (by decide +kernel) (by repeat (first | exact np_post | apply np_then | apply np_in)) rfl rfl rfl; (first | exact R_loadi tabOk rfl rfl rfl rfl (by first | exact win_flat0 pfxD_len l2 i _ hi (by decide) | exact win_flat pfxD_len l2 i _ _ hi (by decide) | exact win_flat2 pfxD_len l2 i _ _ _ hi (by decide) | rfl) rfl rfl | exact R_len tabOk rfl rfl rfl | exact R_load tabOk rfl rfl rfl rfl rfl rfl rfl rfl rfl | exact R_lenr tabOk rfl rfl rfl rfl | exact R_lenn tabOk rfl rfl rfl | exact R_loade tabOk rfl rfl rfl rfl rfl rfl rfl rfl rfl | (exact Y_conv tabOk rfl rfl rfl rfl rfl (wrap_i64 ⟨by omega, by omega⟩))))
        | (apply N_takeL (i := 3) rfl rfl (by kernel_rfl) (by decide +kernel) (by decide +kernel) (by repeat (first | exact np_post | apply np_then | apply np_in)) rfl rfl rfl; (first | exact R_loadi tabOk rfl rfl rfl rfl (by first | exact win_flat0 pfxD_len l2 i _ hi (by decide) | exact win_flat pfxD_len l2 i _ _ hi (by decide) | exact win_flat2 pfxD_len l2 i _ _ _ hi (by decide) | rfl) rfl rfl | exact R_len tabOk rfl rfl rfl | exact R_load tabOk rfl rfl rfl rfl rfl rfl rfl rfl rfl | exact R_lenr tabOk rfl rfl rfl rfl | exact R_lenn tabOk rfl rfl rfl | exact R_loade tabOk rfl rfl rfl rfl rfl rfl rfl rfl rfl | (exact Y_conv tabOk rfl rfl rfl rfl rfl (wrap_i64 ⟨by omega, by omega⟩))))
        | (apply N_takeL (i := 4) rfl rfl (by kernel_rfl) (by decide +kernel) (by decide +kernel) (by repeat (first | exact np_post | apply np_then | apply np_in)) rfl rfl rfl; (first | exact R_loadi tabOk rfl rfl rfl rfl (by first | exact win_flat0 pfxD_len l2 i _ hi (by decide) | exact win_flat pfxD_len l2 i _ _ hi (by decide) | exact win_flat2 pfxD_len l2 i _ _ _ hi (by decide) | rfl) rfl rfl | exact R_len tabOk rfl rfl rfl | exact R_load tabOk rfl rfl rfl rfl rfl rfl rfl rfl rfl | exact R_lenr tabOk rfl rfl rfl rfl | exact R_lenn tabOk rfl rfl rfl | exact R_loade tabOk rfl rfl rfl rfl rfl rfl rfl rfl rfl | (exact Y_conv tabOk rfl rfl rfl rfl rfl (wrap_i64 ⟨by omega, by omega⟩))))
        | (apply N_takeL (i := 5) rfl rfl (by kernel_rfl) (by decide +kernel) (by decide +kernel) (by repeat (first | exact np_post | apply np_then | apply np_in)) rfl rfl rfl; (first | exact R_loadi tabOk rfl rfl rfl rfl (by first | exact win_flat0 pfxD_len l2 i _ hi (by decide) | exact win_flat pfxD_len l2 i _ _ hi (by decide) | exact win_flat2 pfxD_len l2 i _ _ _ hi (by decide) | rfl) rfl rfl | exact R_len tabOk rfl rfl rfl | exact R_load tabOk rfl rfl rfl rfl rfl rfl rfl rfl rfl | exact R_lenr tabOk rfl rfl rfl rfl | exact R_lenn tabOk rfl rfl rfl | exact R_loade tabOk rfl rfl rfl rfl rfl rfl rfl rfl rfl | (exact Y_conv tabOk rfl rfl rfl rfl rfl (wrap_i64 ⟨by omega, by omega⟩))))
        | (apply N_takeL (i := 6) rfl rfl (by kernel_rfl) (by decide +kernel) (by decide +kernel) (by repeat (first | exact np_post | apply np_then | apply np_in)) rfl rfl rfl; (first | exact R_loadi tabOk rfl rfl rfl rfl (by first | exact win_flat0 pfxD_len l2 i _ hi (by decide) | exact win_flat pfxD_len l2 i _ _ hi (by decide) | exact win_flat2 pfxD_len l2 i _ _ _ hi (by decide) | rfl) rfl rfl | exact R_len tabOk rfl rfl rfl | exact R_load tabOk rfl rfl rfl rfl rfl rfl rfl rfl rfl | exact R_lenr tabOk rfl rfl rfl rfl | exact R_lenn tabOk rfl rfl rfl | exact R_loade tabOk rfl rfl rfl rfl rfl rfl rfl rfl rfl | (exact Y_conv tabOk rfl rfl rfl rfl rfl (wrap_i64 ⟨by omega, by omega⟩))))
        | (apply N_takeL (i := 7) rfl rfl (by kernel_rfl) (by decide +kernel) (by decide +kernel) (by repeat (first | exact np_post | apply np_then | apply np_in)) rfl rfl rfl; (first | exact R_loadi tabOk rfl rfl rfl rfl (by first | exact win_flat0 pfxD_len l2 i _ hi (by decide) | exact win_flat pfxD_len l2 i _ _ hi (by decide) | exact win_flat2 pfxD_len l2 i _ _ _ hi (by decide) | rfl) rfl rfl | exact R_len tabOk rfl rfl rfl | exact R_load tabOk rfl rfl rfl rfl rfl rfl rfl rfl rfl | exact R_lenr tabOk rfl rfl rfl rfl | exact R_lenn tabOk rfl rfl rfl | exact R_loade tabOk rfl rfl rfl rfl rfl rfl rfl rfl rfl | (exact Y_conv tabOk rfl rfl rfl rfl rfl (wrap_i64 ⟨by omega, by omega⟩))))
        | (apply N_takeL (i := 8) rfl rfl (by kernel_rfl) (by decide +kernel) (by decide +kernel) (by repeat (first | exact np_post | apply np_then | apply np_in)) rfl rfl rfl; (first | exact R_loadi tabOk rfl rfl rfl rfl (by first | exact win_flat0 pfxD_len l2 i _ hi (by decide) | exact win_flat pfxD_len l2 i _ _ hi (by decide) | exact win_flat2 pfxD_len l2 i _ _ _ hi (by decide) | rfl) rfl rfl | exact R_len tabOk rfl rfl rfl | exact R_load tabOk rfl rfl rfl rfl rfl rfl rfl rfl rfl | exact R_lenr tabOk rfl rfl rfl rfl | exact R_lenn tabOk rfl rfl rfl | exact R_loade tabOk rfl rfl rfl rfl rfl rfl rfl rfl rfl | (exact Y_conv tabOk rfl rfl rfl rfl rfl (wrap_i64 ⟨by omega, by omega⟩))))
        | (apply N_takeL (i := 9) rfl rfl (by kernel_rfl) (by decide +kernel) (by decide +kernel) (by repeat (first | exact np_post | apply np_then | apply np_in)) rfl rfl rfl; (first | exact R_loadi tabOk rfl rfl rfl rfl (by first | exact win_flat0 pfxD_len l2 i _ hi (by decide) | exact win_flat pfxD_len l2 i _ _ hi (by decide) | exact win_flat2 pfxD_len l2 i _ _ _ hi (by decide) | rfl) rfl rfl | exact R_len tabOk rfl rfl rfl | exact R_load tabOk rfl rfl rfl rfl rfl rfl rfl rfl rfl | exact R_lenr tabOk rfl rfl rfl rfl | exact R_lenn tabOk rfl rfl rfl | exact R_loade tabOk rfl rfl rfl rfl rfl rfl rfl rfl rfl | (exact Y_conv tabOk rfl rfl rfl rfl rfl (wrap_i64 ⟨by omega, by omega⟩))))
        | (apply N_takeL (i := 10) rfl rfl (by kernel_rfl) (by decide +kernel) (by decide +kernel) (by repeat (first | exact np_post | apply np_then | apply np_in)) rfl rfl rfl; (first | exact R_loadi tabOk rfl rfl rfl rfl (by first | exact win_flat0 pfxD_len l2 i _ hi (by decide) | exact win_flat pfxD_len l2 i _ _ hi (by decide) | exact win_flat2 pfxD_len l2 i _ _ _ hi (by decide) | rfl) rfl rfl | exact R_len tabOk rfl rfl rfl | exact R_load tabOk rfl rfl rfl rfl rfl rfl rfl rfl rfl | exact R_lenr tabOk rfl rfl rfl rfl | exact R_lenn tabOk rfl rfl rfl | exact R_loade tabOk rfl rfl rfl rfl rfl rfl rfl rfl rfl | (exact Y_conv tabOk rfl rfl rfl rfl rfl (wrap_i64 ⟨by omega, by omega⟩))))
        | (apply N_takeL (i := 11) rfl rfl (by kernel_rfl) (by decide +kernel) (by decide +kernel) (by repeat (first | exact np_post | apply np_then | apply np_in)) rfl rfl rfl; (first | exact R_loadi tabOk rfl rfl rfl rfl (by first | exact win_flat0 pfxD_len l2 i _ hi (by decide) | exact win_flat pfxD_len l2 i _ _ hi (by decide) | exact win_flat2 pfxD_len l2 i _ _ _ hi (by decide) | rfl) rfl rfl | exact R_len tabOk rfl rfl rfl | exact R_load tabOk rfl rfl rfl rfl rfl rfl rfl rfl rfl | exact R_lenr tabOk rfl rfl rfl rfl | exact R_lenn tabOk rfl rfl rfl | exact R_loade tabOk rfl rfl rfl rfl rfl rfl rfl rfl rfl | (exact Y_conv tabOk rfl rfl rfl rfl rfl (wrap_i64 ⟨by omega, by omega⟩))))
        | (apply N_takeL (i := 12) rfl rfl (by kernel_rfl) (by decide +kernel) (by decide +kernel) (by repeat (first | exact np_post | apply np_then | apply np_in)) rfl rfl rfl; (first | exact R_loadi tabOk rfl rfl rfl rfl (by first | exact win_flat0 pfxD_len l2 i _ hi (by decide) | exact win_flat pfxD_len l2 i _ _ hi (by decide) | exact win_flat2 pfxD_len l2 i _ _ _ hi (by decide) | rfl) rfl rfl | exact R_len tabOk rfl rfl rfl | exact R_load tabOk rfl rfl rfl rfl rfl rfl rfl rfl rfl | exact R_lenr tabOk rfl rfl rfl rfl | exact R_lenn tabOk rfl rfl rfl | exact R_loade tabOk rfl rfl rfl rfl rfl rfl rfl rfl rfl | (exact Y_conv tabOk rfl rfl rfl rfl rfl (wrap_i64 ⟨by omega, by omega⟩))))
        | (apply N_takeL (i := 13) rfl rfl (by kernel_rfl) (by decide +kernel) (by decide +kernel) (by repeat (first | exact np_post | apply np_then | apply np_in)) rfl rfl rfl; (first | exact R_loadi tabOk rfl rfl rfl rfl (by first | exact win_flat0 pfxD_len l2 i _ hi (by decide) | exact win_flat pfxD_len l2 i _ _ hi (by decide) | exact win_flat2 pfxD_len l2 i _ _ _ hi (by decide) | rfl) rfl rfl | exact R_len tabOk rfl rfl rfl | exact R_load tabOk rfl rfl rfl rfl rfl rfl rfl rfl rfl | exact R_lenr tabOk rfl rfl rfl rfl | exact R_lenn tabOk rfl rfl rfl | exact R_loade tabOk rfl rfl rfl rfl rfl rfl rfl rfl rfl | (exact Y_conv tabOk rfl rfl rfl rfl rfl (wrap_i64 ⟨by omega, by omega⟩))))
        | (apply N_takeL (i := 14) rfl rfl (by kernel_rfl) (by decide +kernel) (by decide +kernel) (by repeat (first | exact np_post | apply np_then | apply np_in)) rfl rfl rfl; (first | exact R_loadi tabOk rfl rfl rfl rfl (by first | exact win_flat0 pfxD_len l2 i _ hi (by decide) | exact win_flat pfxD_len l2 i _ _ hi (by decide) | exact win_flat2 pfxD_len l2 i _ _ _ hi (by decide) | rfl) rfl rfl | exact R_len tabOk rfl rfl rfl | exact R_load tabOk rfl rfl rfl rfl rfl rfl rfl rfl rfl | exact R_lenr tabOk rfl rfl rfl rfl | exact R_lenn tabOk rfl rfl rfl | exact R_loade tabOk rfl rfl rfl rfl rfl rfl rfl rfl rfl | (exact Y_conv tabOk rfl rfl rfl rfl rfl (wrap_i64 ⟨by omega, by omega⟩))))
        | (apply N_takeL (i := 15) rfl rfl (by kernel_rfl) (by decide +kernel) (by decide +kernel) (by repeat (first | exact np_post | apply np_then | apply np_in)) rfl rfl rfl; (first | exact R_loadi tabOk rfl rfl rfl rfl (by first | exact win_flat0 pfxD_len l2 i _ hi (by decide) | exact win_flat pfxD_len l2 i _ _ hi (by decide) | exact win_flat2 pfxD_len l2 i _ _ _ hi (by decide) | rfl) rfl rfl | exact R_len tabOk rfl rfl rfl | exact R_load tabOk rfl rfl rfl rfl rfl rfl rfl rfl rfl | exact R_lenr tabOk rfl rfl rfl rfl | exact R_lenn tabOk rfl rfl rfl | exact R_loade tabOk rfl rfl rfl rfl rfl rfl rfl rfl rfl | (exact Y_conv tabOk rfl rfl rfl rfl rfl (wrap_i64 ⟨by omega, by omega⟩))))
        | (apply N_takeL (i := 16) rfl rfl (by kernel_rfl) (by decide +kernel) (by decide +kernel) (by repeat (first | exact np_post | apply np_then | apply np_in)) rfl rfl rfl; (first | exact R_loadi tabOk rfl rfl rfl rfl (by first | exact win_flat0 pfxD_len l2 i _ hi (by decide) | exact win_flat pfxD_len l2 i _ _ hi (by decide) | exact win_flat2 pfxD_len l2 i _ _ _ hi (by decide) | rfl) rfl rfl | exact R_len tabOk rfl rfl rfl | exact R_load tabOk rfl rfl rfl rfl rfl rfl rfl rfl rfl | exact R_lenr tabOk rfl rfl rfl rfl | exact R_lenn tabOk rfl rfl rfl | exact R_loade tabOk rfl rfl rfl rfl rfl rfl rfl rfl rfl | (exact Y_conv tabOk rfl rfl rfl rfl rfl (wrap_i64 ⟨by omega, by omega⟩))))
        | (apply N_takeL (i := 17) rfl rfl (by kernel_rfl) (by decide +kernel) (by decide +kernel) (by repeat (first | exact np_post | apply np_then | apply np_in)) rfl rfl rfl; (first | exact R_loadi tabOk rfl rfl rfl rfl (by first | exact win_flat0 pfxD_len l2 i _ hi (by decide) | exact win_flat pfxD_len l2 i _ _ hi (by decide) | exact win_flat2 pfxD_len l2 i _ _ _ hi (by decide) | rfl) rfl rfl | exact R_len tabOk rfl rfl rfl | exact R_load tabOk rfl rfl rfl rfl rfl rfl rfl rfl rfl | exact R_lenr tabOk rfl rfl rfl rfl | exact R_lenn tabOk rfl rfl rfl | exact R_loade tabOk rfl rfl rfl rfl rfl rfl rfl rfl rfl | (exact Y_conv tabOk rfl rfl rfl rfl rfl (wrap_i64 ⟨by omega, by omega⟩))))
        | (apply N_takeL (i := 18) rfl rfl (by kernel_rfl) (by decide +kernel) (by decide +kernel) (by repeat (first | exact np_post | apply np_then | apply np_in)) rfl rfl rfl; (first | exact R_loadi tabOk rfl rfl rfl rfl (by first | exact win_flat0 pfxD_len l2 i _ hi (by decide) | exact win_flat pfxD_len l2 i _ _ hi (by decide) | exact win_flat2 pfxD_len l2 i _ _ _ hi (by decide) | rfl) rfl rfl | exact R_len tabOk rfl rfl rfl | exact R_load tabOk rfl rfl rfl rfl rfl rfl rfl rfl rfl | exact R_lenr tabOk rfl rfl rfl rfl | exact R_lenn tabOk rfl rfl rfl | exact R_loade tabOk rfl rfl rfl rfl rfl rfl rfl rfl rfl | (exact Y_conv tabOk rfl rfl rfl rfl rfl (wrap_i64 ⟨by omega, by omega⟩))))
        | (apply N_takeL (i := 19) rfl rfl (by kernel_rfl) (by decide +kernel) (by decide +kernel) (by repeat (first | exact np_post | apply np_then | apply np_in)) rfl rfl rfl; (first | exact R_loadi tabOk rfl rfl rfl rfl (by first | exact win_flat0 pfxD_len l2 i _ hi (by decide) | exact win_flat pfxD_len l2 i _ _ hi (by decide) | exact win_flat2 pfxD_len l2 i _ _ _ hi (by decide) | rfl) rfl rfl | exact R_len tabOk rfl rfl rfl | exact R_load tabOk rfl rfl rfl rfl rfl rfl rfl rfl rfl | exact R_lenr tabOk rfl rfl rfl rfl | exact R_lenn tabOk rfl rfl rfl | exact R_loade tabOk rfl rfl rfl rfl rfl rfl rfl rfl rfl | (exact Y_conv tabOk rfl rfl rfl rfl rfl (wrap_i64 ⟨by omega, by omega⟩))))
        | (apply N_takeL (i := 20) rfl rfl (by kernel_rfl) (by decide +kernel) (by decide +kernel) (by repeat (first | exact np_post | apply np_then | apply np_in)) rfl rfl rfl; (first | exact R_loadi tabOk rfl rfl rfl rfl (by first | exact win_flat0 pfxD_len l2 i _ hi (by decide) | exact win_flat pfxD_len l2 i _ _ hi (by decide) | exact win_flat2 pfxD_len l2 i _ _ _ hi (by decide) | rfl) rfl rfl | exact R_len tabOk rfl rfl rfl | exact R_load tabOk rfl rfl rfl rfl rfl rfl rfl rfl rfl | exact R_lenr tabOk rfl rfl rfl rfl | exact R_lenn tabOk rfl rfl rfl | exact R_loade tabOk rfl rfl rfl rfl rfl rfl rfl rfl rfl | (exact Y_conv tabOk rfl rfl rfl rfl rfl (wrap_i64 ⟨by omega, by omega⟩))))
        | (apply N_takeL (i := 21) rfl rfl (by kernel_rfl) (by decide +kernel) (by decide +kernel) (by repeat (first | exact np_post | apply np_then | apply np_in)) rfl rfl rfl; (first | exact R_loadi tabOk rfl rfl rfl rfl (by first | exact win_flat0 pfxD_len l2 i _ hi (by decide) | exact win_flat pfxD_len l2 i _ _ hi (by decide) | exact win_flat2 pfxD_len l2 i _ _ _ hi (by decide) | rfl) rfl rfl | exact R_len tabOk rfl rfl rfl | exact R_load tabOk rfl rfl rfl rfl rfl rfl rfl rfl rfl | exact R_lenr tabOk rfl rfl rfl rfl | exact R_lenn tabOk rfl rfl rfl | exact R_loade tabOk rfl rfl rfl rfl rfl rfl rfl rfl rfl | (exact Y_conv tabOk rfl rfl rfl rfl rfl (wrap_i64 ⟨by omega, by omega⟩))))
        | (apply N_takeL (i := 22) rfl rfl (by kernel_rfl) (by decide +kernel) (by decide +kernel) (by repeat (first | exact np_post | apply np_then | apply np_in)) rfl rfl rfl; (first | exact R_loadi tabOk rfl rfl rfl rfl (by first | exact win_flat0 pfxD_len l2 i _ hi (by decide) | exact win_flat pfxD_len l2 i _ _ hi (by decide) | exact win_flat2 pfxD_len l2 i _ _ _ hi (by decide) | rfl) rfl rfl | exact R_len tabOk rfl rfl rfl | exact R_load tabOk rfl rfl rfl rfl rfl rfl rfl rfl rfl | exact R_lenr tabOk rfl rfl rfl rfl | exact R_lenn tabOk rfl rfl rfl | exact R_loade tabOk rfl rfl rfl rfl rfl rfl rfl rfl rfl | (exact Y_conv tabOk rfl rfl rfl rfl rfl (wrap_i64 ⟨by omega, by omega⟩))))
        | (apply N_takeL (i := 23) rfl rfl (by kernel_rfl) (by decide +kernel) (by decide +kernel) (by repeat (first | exact np_post | apply np_then | apply np_in)) rfl rfl rfl; (first | exact R_loadi tabOk rfl rfl rfl rfl (by first | exact win_flat0 pfxD_len l2 i _ hi (by decide) | exact win_flat pfxD_len l2 i _ _ hi (by decide) | exact win_flat2 pfxD_len l2 i _ _ _ hi (by decide) | rfl) rfl rfl | exact R_len tabOk rfl rfl rfl | exact R_load tabOk rfl rfl rfl rfl rfl rfl rfl rfl rfl | exact R_lenr tabOk rfl rfl rfl rfl | exact R_lenn tabOk rfl rfl rfl | exact R_loade tabOk rfl rfl rfl rfl rfl rfl rfl rfl rfl | (exact Y_conv tabOk rfl rfl rfl rfl rfl (wrap_i64 ⟨by omega, by omega⟩))))
        | (apply N_takeL (i := 24) rfl rfl (by kernel_rfl) (by decide +kernel) (by decide +kernel) (by repeat (first | exact np_post | apply np_then | apply np_in)) rfl rfl rfl; (first | exact R_loadi tabOk rfl rfl rfl rfl (by first | exact win_flat0 pfxD_len l2 i _ hi (by decide) | exact win_flat pfxD_len l2 i _ _ hi (by decide) | exact win_flat2 pfxD_len l2 i _ _ _ hi (by decide) | rfl) rfl rfl | exact R_len tabOk rfl rfl rfl | exact R_load tabOk rfl rfl rfl rfl rfl rfl rfl rfl rfl | exact R_lenr tabOk rfl rfl rfl rfl | exact R_lenn tabOk rfl rfl rfl | exact R_loade tabOk rfl rfl rfl rfl rfl rfl rfl rfl rfl | (exact Y_conv tabOk rfl rfl rfl rfl rfl (wrap_i64 ⟨by omega, by omega⟩))))
        | refine N_one (j := 0) (by decide +kernel) ?_
        | refine N_one (j := 1) (by decide +kernel) ?_
        | refine N_one (j := 2) (by decide +kernel) ?_
        | refine N_one (j := 3) (by decide +kernel) ?_
        | refine N_one (j := 4) (by decide +kernel) ?_
        | refine N_one (j := 5) (by decide +kernel) ?_
        | refine N_one (j := 6) (by decide +kernel) ?_
        | refine N_one (j := 7) (by decide +kernel) ?_
        | refine N_one (j := 8) (by decide +kernel) ?_
        | refine N_one (j := 9) (by decide +kernel) ?_
        | refine N_one (j := 10) (by decide +kernel) ?_
        | refine N_one (j := 11) (by decide +kernel) ?_
        | refine N_one (j := 12) (by decide +kernel) ?_
        | refine N_one (j := 13) (by decide +kernel) ?_
        | refine N_one (j := 14) (by decide +kernel) ?_
        | refine N_one (j := 15) (by decide +kernel) ?_
        | refine N_one (j := 16) (by decide +kernel) ?_
        | refine N_one (j := 17) (by decide +kernel) ?_
        | refine N_one (j := 18) (by decide +kernel) ?_
        | refine N_one (j := 19) (by decide +kernel) ?_
        | refine N_one (j := 20) (by decide +kernel) ?_
        | refine N_one (j := 21) (by decide +kernel) ?_
        | refine N_one (j := 22) (by decide +kernel) ?_
        | refine N_one (j := 23) (by decide +kernel) ?_
        | refine N_one (j := 24) (by decide +kernel) ?_
        | refine T_alloc tabOk rfl rfl rfl rfl rfl rfl rfl ?_
        | refine T_store tabOk rfl rfl rfl rfl rfl rfl rfl rfl rfl rfl rfl rfl rfl ?_
        | refine T_box rfl rfl rfl rfl rfl rfl rfl rfl ?_
        | (apply T_yield rfl rfl rfl rfl; (first | exact Y_move rfl rfl | exact R_index tabOk rfl rfl rfl rfl rfl rfl (by omega) | exact R_fieldi tabOk rfl rfl rfl | exact R_loadi tabOk rfl rfl rfl rfl (by first | exact win_flat0 pfxD_len l2 i _ hi (by decide) | exact win_flat pfxD_len l2 i _ _ hi (by decide) | exact win_flat2 pfxD_len l2 i _ _ _ hi (by decide) | rfl) rfl rfl | exact R_load tabOk rfl rfl rfl rfl rfl rfl rfl rfl rfl | exact Y_add rfl rfl rfl (by first | exact wrap_succ (by omega) | exact wrap_pred (by omega) (by omega) | exact wrap_i64 ⟨by omega, by omega⟩ | rfl) | exact Y_ibin rfl rfl rfl rfl | (exact Y_conv tabOk rfl rfl rfl rfl rfl (wrap_i64 ⟨by omega, by omega⟩))))
        | refine N_done (by decide +kernel) ?_
        | fail)
      refine T_cTbl 4 903 (by omega) hput2 rfl rfl rfl rfl rfl rfl rfl rfl rfl rfl rfl rfl ?_
      refine N_done (by kernel_rfl) ?_
      have T2 := Tt.put l2[i] (vOf l2[i]) hQok
      have R2 := Rt.put Tt l2[i]
      generalize putS t l2[i] (vOf l2[i]) = t1 at *
      repeat (first
        | refine A_seq ?_
        | refine A_block ?_
        | refine R_list ?_
        | refine R_quiet rfl mixed (by kernel_rfl) ?_
        | ((first | apply O_y rfl rfl rfl | apply Q_y rfl rfl rfl); (first | exact Y_move rfl rfl | exact Y_assign rfl rfl | exact R_index tabOk rfl rfl rfl rfl rfl rfl (by omega) | exact R_fieldi tabOk rfl rfl rfl | exact R_loadi tabOk rfl rfl rfl rfl rfl rfl rfl | exact R_len tabOk rfl rfl rfl | exact R_load tabOk rfl rfl rfl rfl rfl rfl rfl rfl rfl | exact R_field tabOk rfl rfl rfl rfl | exact Y_add rfl rfl rfl (by first | exact wrap_succ (by omega) | exact wrap_pred (by omega) (by omega) | exact wrap_i64 ⟨by omega, by omega⟩ | rfl) | exact Y_sub rfl rfl rfl (by first | exact wrap_succ (by omega) | exact wrap_pred (by omega) (by omega) | exact wrap_i64 ⟨by omega, by omega⟩ | rfl) | exact R_cmpT rfl rfl rfl rfl (by first | (simp only [decide_eq_true_eq, beq_iff_eq, bne_iff_ne, ne_eq]; done) | (simp only [decide_eq_true_eq, beq_iff_eq, bne_iff_ne, ne_eq]; omega)) | exact R_cmpF rfl rfl rfl rfl (by first | (simp only [decide_eq_false_iff_not, beq_eq_false_iff_ne, bne_eq_false_iff_eq, ne_eq]; done) | (simp only [decide_eq_false_iff_not, beq_eq_false_iff_ne, bne_eq_false_iff_eq, ne_eq]; omega)) | exact Y_ibin rfl rfl rfl rfl | exact Y_extract rfl rfl rfl | exact R_lenr tabOk rfl rfl rfl rfl | exact R_lenn tabOk rfl rfl rfl | exact R_indexr tabOk rfl rfl rfl rfl rfl rfl rfl (by omega) | exact R_fielde tabOk rfl rfl rfl rfl | exact R_loade tabOk rfl rfl rfl rfl rfl rfl rfl rfl rfl | exact Y_not rfl rfl | exact Y_pick_t rfl rfl (by first | rfl | assumption) rfl | exact Y_pick_f rfl rfl (by first | rfl | assumption) rfl | exact Y_pick_b rfl rfl rfl rfl | exact R_build tabOk rfl rfl rfl rfl rfl rfl | fail))
        | refine O_nil ?_
        | refine Q_nil ?_
        | refine X_then_normal ?_
        | refine X_in_normal ?_
        | refine O_box rfl rfl rfl rfl rfl rfl rfl ?_
        | refine O_alloc tabOk rfl rfl rfl rfl rfl rfl ?_
        | refine O_store tabOk rfl rfl rfl rfl rfl rfl rfl rfl rfl rfl rfl ?_
        | refine O_slice tabOk rfl rfl rfl rfl rfl rfl rfl rfl rfl rfl rfl ?_
        | refine A_condt rfl (by first | rfl | assumption | (first | (simp only [decide_eq_true_eq]; done) | (simp only [decide_eq_true_eq]; omega))) ?_
        | refine A_condf rfl (by first | rfl | assumption | (first | (simp only [decide_eq_false_iff_not]; done) | (simp only [decide_eq_false_iff_not]; omega))) ?_
        | refine A_skip ?_
        | refine A_exit ?_
        | refine A_ret ?_
        | refine X_then_exit ?_
        | refine X_then_ret ?_
        | refine X_in_same ?_
        | refine X_in_other rfl ?_
        | refine X_in_ret ?_
        | refine O_s rfl rfl rfl ?_
        | refine Q_s rfl rfl rfl ?_
        | refine O_sn rfl rfl ?_
        | fail)
      refine ⟨(k + 1, s1, t1), ⟨by dsimp only; omega, T1, T2, R1.of fun p => ?_, _, R2, fun p hp => ?_⟩, by dsimp only; omega, Wk_sel ⟨rfl, rfl, rfl, rfl, rfl, rfl, rfl, rfl, trivial⟩ ⟨rfl, rfl, rfl, rfl, rfl, rfl, rfl, trivial⟩⟩
      · dsimp only
        rw [List.take_add_one, List.getElem?_eq_getElem hlt, List.mem_append]
        simp
      · rcases hp with hp | hp
        · exact hK p hp
        · rw [hp]; exact List.getElem_mem hi
  · have hkk : k = l2.length := by omega
    subst hkk
    have Rs := Rs.of (K' := fun p => p ∈ l2) fun p => by rw [List.take_length]
    clear hlt hk main
    repeat (first
      | refine A_seq ?_
      | refine A_block ?_
      | refine R_list ?_
      | ((first | apply O_y rfl rfl rfl | apply Q_y rfl rfl rfl); (first | exact Y_move rfl rfl | exact Y_assign rfl rfl | exact R_index tabOk rfl rfl rfl rfl rfl rfl (by omega) | exact R_fieldi tabOk rfl rfl rfl | exact R_loadi tabOk rfl rfl rfl rfl rfl rfl rfl | exact R_len tabOk rfl rfl rfl | exact R_load tabOk rfl rfl rfl rfl rfl rfl rfl rfl rfl | exact R_field tabOk rfl rfl rfl rfl | exact Y_add rfl rfl rfl (by first | exact wrap_succ (by omega) | exact wrap_pred (by omega) (by omega) | exact wrap_i64 ⟨by omega, by omega⟩ | rfl) | exact Y_sub rfl rfl rfl (by first | exact wrap_succ (by omega) | exact wrap_pred (by omega) (by omega) | exact wrap_i64 ⟨by omega, by omega⟩ | rfl) | exact R_cmpT rfl rfl rfl rfl (by first | (simp only [decide_eq_true_eq, beq_iff_eq, bne_iff_ne, ne_eq]; done) | (simp only [decide_eq_true_eq, beq_iff_eq, bne_iff_ne, ne_eq]; omega)) | exact R_cmpF rfl rfl rfl rfl (by first | (simp only [decide_eq_false_iff_not, beq_eq_false_iff_ne, bne_eq_false_iff_eq, ne_eq]; done) | (simp only [decide_eq_false_iff_not, beq_eq_false_iff_ne, bne_eq_false_iff_eq, ne_eq]; omega)) | exact Y_ibin rfl rfl rfl rfl | exact Y_extract rfl rfl rfl | exact R_lenr tabOk rfl rfl rfl rfl | exact R_lenn tabOk rfl rfl rfl | exact R_indexr tabOk rfl rfl rfl rfl rfl rfl rfl (by omega) | exact R_fielde tabOk rfl rfl rfl rfl | exact R_loade tabOk rfl rfl rfl rfl rfl rfl rfl rfl rfl | exact Y_not rfl rfl | exact Y_pick_t rfl rfl (by first | rfl | assumption) rfl | exact Y_pick_f rfl rfl (by first | rfl | assumption) rfl | exact Y_pick_b rfl rfl rfl rfl | exact R_build tabOk rfl rfl rfl rfl rfl rfl | fail))
      | refine O_nil ?_
      | refine Q_nil ?_
      | refine X_then_normal ?_
      | refine X_in_normal ?_
      | refine O_box rfl rfl rfl rfl rfl rfl rfl ?_
      | refine O_alloc tabOk rfl rfl rfl rfl rfl rfl ?_
      | refine O_store tabOk rfl rfl rfl rfl rfl rfl rfl rfl rfl rfl rfl ?_
      | refine O_slice tabOk rfl rfl rfl rfl rfl rfl rfl rfl rfl rfl rfl ?_
      | refine A_condt rfl (by first | rfl | assumption | (first | (simp only [decide_eq_true_eq]; done) | (simp only [decide_eq_true_eq]; omega))) ?_
      | refine A_condf rfl (by first | rfl | assumption | (first | (simp only [decide_eq_false_iff_not]; done) | (simp only [decide_eq_false_iff_not]; omega))) ?_
      | refine A_skip ?_
      | refine A_exit ?_
      | refine A_ret ?_
      | refine X_then_exit ?_
      | refine X_then_ret ?_
      | refine X_in_same ?_
      | refine X_in_other rfl ?_
      | refine X_in_ret ?_
      | refine O_s rfl rfl rfl ?_
      | refine Q_s rfl rfl rfl ?_
      | refine O_sn rfl rfl ?_
      | fail)
    refine A_loop (fun z : Nat × TS => gE l2 by_ x 13 (intA (z.1 : Int))) (fun z => gH q s z.2) (fun z => z.1 ≤ l2.length ∧ TOk z.2 (l2.length + z.1) ∧ ∃ K, Rep z.2 K ∧ (∀ p, K p → p ∈ l2) ∧ ∀ i p, i < z.1 → l2[i]? = some p → K p) (fun z => l2.length - z.1) (0, t) ⟨Nat.zero_le _, Tt, K, Rt, hK, fun i p hi => absurd hi (by omega)⟩ (Wk_sel ⟨rfl, rfl, rfl, rfl, rfl, rfl, rfl, rfl, trivial⟩ ⟨rfl, rfl, rfl, rfl, rfl, rfl, rfl, trivial⟩) ?_
    clear Tt Rt hK K t
    rintro ⟨k, t⟩ ⟨hk, Tt, K, Rt, hK, hKa⟩
    try dsimp only at hk Tt hKa Rt ⊢
    by_cases hlt : k < l2.length
    · have hPok : (l2[k]).ok := hl _ (List.getElem_mem hlt)
      obtain ⟨hP1, hP2, hP3, hP4⟩ := id hPok
      have hput := putS_A t (l2.length + k) Tt (by omega) l2[k] (vOf l2[k]) hPok
      repeat (first
        | refine A_seq ?_
        | refine A_block ?_
        | refine R_list ?_
        | ((first | apply O_y rfl rfl rfl | apply Q_y rfl rfl rfl); (first | exact Y_move rfl rfl | exact Y_assign rfl rfl | exact R_index tabOk rfl rfl rfl rfl rfl rfl (by omega) | exact R_fieldi tabOk rfl rfl rfl | exact R_loadi tabOk rfl rfl rfl rfl rfl rfl rfl | exact R_len tabOk rfl rfl rfl | exact R_load tabOk rfl rfl rfl rfl rfl rfl rfl rfl rfl | exact R_field tabOk rfl rfl rfl rfl | exact Y_add rfl rfl rfl (by first | exact wrap_succ (by omega) | exact wrap_pred (by omega) (by omega) | exact wrap_i64 ⟨by omega, by omega⟩ | rfl) | exact Y_sub rfl rfl rfl (by first | exact wrap_succ (by omega) | exact wrap_pred (by omega) (by omega) | exact wrap_i64 ⟨by omega, by omega⟩ | rfl) | exact R_cmpT rfl rfl rfl rfl (by first | (simp only [decide_eq_true_eq, beq_iff_eq, bne_iff_ne, ne_eq]; done) | (simp only [decide_eq_true_eq, beq_iff_eq, bne_iff_ne, ne_eq]; omega)) | exact R_cmpF rfl rfl rfl rfl (by first | (simp only [decide_eq_false_iff_not, beq_eq_false_iff_ne, bne_eq_false_iff_eq, ne_eq]; done) | (simp only [decide_eq_false_iff_not, beq_eq_false_iff_ne, bne_eq_false_iff_eq, ne_eq]; omega)) | exact Y_ibin rfl rfl rfl rfl | exact Y_extract rfl rfl rfl | exact R_lenr tabOk rfl rfl rfl rfl | exact R_lenn tabOk rfl rfl rfl | exact R_indexr tabOk rfl rfl rfl rfl rfl rfl rfl (by omega) | exact R_fielde tabOk rfl rfl rfl rfl | exact R_loade tabOk rfl rfl rfl rfl rfl rfl rfl rfl rfl | exact Y_not rfl rfl | exact Y_pick_t rfl rfl (by first | rfl | assumption) rfl | exact Y_pick_f rfl rfl (by first | rfl | assumption) rfl | exact Y_pick_b rfl rfl rfl rfl | exact R_build tabOk rfl rfl rfl rfl rfl rfl | fail))
        | refine O_nil ?_
        | refine Q_nil ?_
        | refine X_then_normal ?_
        | refine X_in_normal ?_
        | refine O_box rfl rfl rfl rfl rfl rfl rfl ?_
        | refine O_alloc tabOk rfl rfl rfl rfl rfl rfl ?_
        | refine O_store tabOk rfl rfl rfl rfl rfl rfl rfl rfl rfl rfl rfl ?_
        | refine O_slice tabOk rfl rfl rfl rfl rfl rfl rfl rfl rfl rfl rfl ?_
        | refine A_condt rfl (by first | rfl | assumption | (first | (simp only [decide_eq_true_eq]; done) | (simp only [decide_eq_true_eq]; omega))) ?_
        | refine A_condf rfl (by first | rfl | assumption | (first | (simp only [decide_eq_false_iff_not]; done) | (simp only [decide_eq_false_iff_not]; omega))) ?_
        | refine A_skip ?_
        | refine A_exit ?_
        | refine A_ret ?_
        | refine X_then_exit ?_
        | refine X_then_ret ?_
        | refine X_in_same ?_
        | refine X_in_other rfl ?_
        | refine X_in_ret ?_
        | refine O_s rfl rfl rfl ?_
        | refine Q_s rfl rfl rfl ?_
        | refine O_sn rfl rfl ?_
        | fail)
      refine N_begin [4, 903] mixed ?_
      repeat (first
        | ((first
          | apply N_takeN (i := 0) rfl rfl (by kernel_rfl) (by decide +kernel) (by decide +kernel) (by repeat (first | exact np_post | apply np_then | apply np_in)) rfl rfl rfl
          | apply N_takeN (i := 1) rfl rfl (by kernel_rfl) (by decide +kernel) (by decide +kernel) (by repeat (first | exact np_post | apply np_then | apply np_in)) rfl rfl rfl
          | apply N_takeN (i := 2) rfl rfl (by kernel_rfl) (by decide +kernel) (by decide +kernel) (by repeat (first | exact np_post | apply np_then | apply np_in)) rfl rfl rfl
          | apply N_takeN (i := 3) rfl rfl (by kernel_rfl) (by decide +kernel) (by decide +kernel) (by repeat (first | exact np_post | apply np_then | apply np_in)) rfl rfl rfl
          | apply N_takeN (i := 4) rfl rfl (by kernel_rfl) (by decide +kernel) (by decide +kernel) (by repeat (first | exact np_post | apply np_then | apply np_in)) rfl rfl rfl
          | apply N_takeN (i := 5) rfl rfl (by kernel_rfl) (by decide +kernel) (by decide +kernel) (by repeat (first | exact np_post | apply np_then | apply np_in)) rfl rfl rfl
          | apply N_takeN (i := 6) rfl rfl (by kernel_rfl) (by decide +kernel) (by decide +kernel) (by repeat (first | exact np_post | apply np_then | apply np_in)) rfl rfl rfl
          | apply N_takeN (i := 7) rfl rfl (by kernel_rfl) (by decide +kernel) (by decide +kernel) (by repeat (first | exact np_post | apply np_then | apply np_in)) rfl rfl rfl
          | apply N_takeN (i := 8) rfl rfl (by kernel_rfl) (by decide +kernel) (by decide +kernel) (by repeat (first | exact np_post | apply np_then | apply np_in)) rfl rfl rfl
          | apply N_takeN (i := 9) rfl rfl (by kernel_rfl) (by decide +kernel) (by decide +kernel) (by repeat (first | exact np_post | apply np_then | apply np_in)) rfl rfl rfl
          | apply N_takeN (i := 10) rfl rfl (by kernel_rfl) (by decide +kernel) (by decide +kernel) (by repeat (first | exact np_post | apply np_then | apply np_in)) rfl rfl rfl
          | apply N_takeN (i := 11) rfl rfl (by kernel_rfl) (by decide +kernel) (by decide +kernel) (by repeat (first | exact np_post | apply np_then | apply np_in)) rfl rfl rfl
          | apply N_takeN (i := 12) rfl rfl (by kernel_rfl) (by decide +kernel) (by decide +kernel) (by repeat (first | exact np_post | apply np_then | apply np_in)) rfl rfl rfl
          | apply N_takeN (i := 13) rfl rfl (by kernel_rfl) (by decide +kernel) (by decide +kernel) (by repeat (first | exact np_post | apply np_then | apply np_in)) rfl rfl rfl
          | apply N_takeN (i := 14) rfl rfl (by kernel_rfl) (by decide +kernel) (by decide +kernel) (by repeat (first | exact np_post | apply np_then | apply np_in)) rfl rfl rfl
          | apply N_takeN (i := 15) rfl rfl (by kernel_rfl) (by decide +kernel) (by decide +kernel) (by repeat (first | exact np_post | apply np_then | apply np_in)) rfl rfl rfl
          | apply N_takeN (i := 16) rfl rfl (by kernel_rfl) (by decide +kernel) (by decide +kernel) (by repeat (first | exact np_post | apply np_then | apply np_in)) rfl rfl rfl
          | apply N_takeN (i := 17) rfl rfl (by kernel_rfl) (by decide +kernel) (by decide +kernel) (by repeat (first | exact np_post | apply np_then | apply np_in)) rfl rfl rfl
          | apply N_takeN (i := 18) rfl rfl (by kernel_rfl) (by decide +kernel) (by decide +kernel) (by repeat (first | exact np_post | apply np_then | apply np_in)) rfl rfl rfl
          | apply N_takeN (i := 19) rfl rfl (by kernel_rfl) (by decide +kernel) (by decide +kernel) (by repeat (first | exact np_post | apply np_then | apply np_in)) rfl rfl rfl
          | apply N_takeN (i := 20) rfl rfl (by kernel_rfl) (by decide +kernel) (by decide +kernel) (by repeat (first | exact np_post | apply np_then | apply np_in)) rfl rfl rfl
          | apply N_takeN (i := 21) rfl rfl (by kernel_rfl) (by decide +kernel) (by decide +kernel) (by repeat (first | exact np_post | apply np_then | apply np_in)) rfl rfl rfl
          | apply N_takeN (i := 22) rfl rfl (by kernel_rfl) (by decide +kernel) (by decide +kernel) (by repeat (first | exact np_post | apply np_then | apply np_in)) rfl rfl rfl
          | apply N_takeN (i := 23) rfl rfl (by kernel_rfl) (by decide +kernel) (by decide +kernel) (by repeat (first | exact np_post | apply np_then | apply np_in)) rfl rfl rfl
          | apply N_takeN (i := 24) rfl rfl (by kernel_rfl) (by decide +kernel) (by decide +kernel) (by repeat (first | exact np_post | apply np_then | apply np_in)) rfl rfl rfl
          ); (first | exact Y_move rfl rfl | exact R_index tabOk rfl rfl rfl rfl rfl rfl (by omega) | exact R_fieldi tabOk rfl rfl rfl | exact R_loadi tabOk rfl rfl rfl rfl (by first | exact win_flat0 pfxD_len l2 k _ hlt (by decide) | exact win_flat pfxD_len l2 k _ _ hlt (by decide) | exact win_flat2 pfxD_len l2 k _ _ _ hlt (by decide) | rfl) rfl rfl | exact R_load tabOk rfl rfl rfl rfl rfl rfl rfl rfl rfl | exact Y_add rfl rfl rfl (by first | exact wrap_succ (by omega) | exact wrap_pred (by omega) (by omega) | exact wrap_i64 ⟨by omega, by omega⟩ | rfl) | exact Y_ibin rfl rfl rfl rfl | (exact Y_conv tabOk rfl rfl rfl rfl rfl (wrap_i64 ⟨by omega, by omega⟩))))
        | (apply N_takeL (i := 0) rfl rfl (by kernel_rfl) (by decide +kernel) (by decide +kernel) (by repeat (first | exact np_post | apply np_then | apply np_in)) rfl rfl rfl; (first | exact R_loadi tabOk rfl rfl rfl rfl (by first | exact win_flat0 pfxD_len l2 k _ hlt (by decide) | exact win_flat pfxD_len l2 k _ _ hlt (by decide) | exact win_flat2 pfxD_len l2 k _ _ _ hlt (by decide) | rfl) rfl rfl | exact R_len tabOk rfl rfl rfl | exact R_load tabOk rfl rfl rfl rfl rfl rfl rfl rfl rfl | exact R_lenr tabOk rfl rfl rfl rfl | exact R_lenn tabOk rfl rfl rfl | exact R_loade tabOk rfl rfl rfl rfl rfl rfl rfl rfl rfl | (exact Y_conv tabOk rfl rfl rfl rfl rfl (wrap_i64 ⟨by omega, by omega⟩))))
        | (apply N_takeL (i := 1) rfl rfl (by kernel_rfl) (by decide +kernel) (by decide +kernel) (by repeat (first | exact np_post | apply np_then | apply np_in)) rfl rfl rfl; (first | exact R_loadi tabOk rfl rfl rfl rfl (by first | exact win_flat0 pfxD_len l2 k _ hlt (by decide) | exact win_flat pfxD_len l2 k _ _ hlt (by decide) | exact win_flat2 pfxD_len l2 k _ _ _ hlt (by decide) | rfl) rfl rfl | exact R_len tabOk rfl rfl rfl | exact R_load tabOk rfl rfl rfl rfl rfl rfl rfl rfl rfl | exact R_lenr tabOk rfl rfl rfl rfl | exact R_lenn tabOk rfl rfl rfl | exact R_loade tabOk rfl rfl rfl rfl rfl rfl rfl rfl rfl | (exact Y_conv tabOk rfl rfl rfl rfl rfl (wrap_i64 ⟨by omega, by omega⟩))))
        | (apply N_takeL (i := 2) rfl rfl (by kernel_rfl) (by decide +kernel) (by decide +kernel) (by repeat (first | exact np_post | apply np_then | apply np_in)) rfl rfl rfl; (first | exact R_loadi tabOk rfl rfl rfl rfl (by first | exact win_flat0 pfxD_len l2 k _ hlt (by decide) | exact win_flat pfxD_len l2 k _ _ hlt (by decide) | exact win_flat2 pfxD_len l2 k _ _ _ hlt (by decide) | rfl) rfl rfl | exact R_len tabOk rfl rfl rfl | exact R_load tabOk rfl rfl rfl rfl rfl rfl rfl rfl rfl | exact R_lenr tabOk rfl rfl rfl rfl | exact R_lenn tabOk rfl rfl rfl | exact R_loade tabOk rfl rfl rfl rfl rfl rfl rfl rfl rfl | (exact Y_conv tabOk rfl rfl rfl rfl rfl (wrap_i64 ⟨by omega, by omega⟩))))
        | (apply N_takeL (i := 3) rfl rfl (by kernel_rfl) (by decide +kernel) (by decide +kernel) (by repeat (first | exact np_post | apply np_then | apply np_in)) rfl rfl rfl; (first | exact R_loadi tabOk rfl rfl rfl rfl (by first | exact win_flat0 pfxD_len l2 k _ hlt (by decide) | exact win_flat pfxD_len l2 k _ _ hlt (by decide) | exact win_flat2 pfxD_len l2 k _ _ _ hlt (by decide) | rfl) rfl rfl | exact R_len tabOk rfl rfl rfl | exact R_load tabOk rfl rfl rfl rfl rfl rfl rfl rfl rfl | exact R_lenr tabOk rfl rfl rfl rfl | exact R_lenn tabOk rfl rfl rfl | exact R_loade tabOk rfl rfl rfl rfl rfl rfl rfl rfl rfl | (exact Y_conv tabOk rfl rfl rfl rfl rfl (wrap_i64 ⟨by omega, by omega⟩))))
        | (apply N_takeL (i := 4) rfl rfl (by kernel_rfl) (by decide +kernel) (by decide +kernel) (by repeat (first | exact np_post | apply np_then | apply np_in)) rfl rfl rfl; (first | exact R_loadi tabOk rfl rfl rfl rfl (by first | exact win_flat0 pfxD_len l2 k _ hlt (by decide) | exact win_flat pfxD_len l2 k _ _ hlt (by decide) | exact win_flat2 pfxD_len l2 k _ _ _ hlt (by decide) | rfl) rfl rfl | exact R_len tabOk rfl rfl rfl | exact R_load tabOk rfl rfl rfl rfl rfl rfl rfl rfl rfl | exact R_lenr tabOk rfl rfl rfl rfl | exact R_lenn tabOk rfl rfl rfl | exact R_loade tabOk rfl rfl rfl rfl rfl rfl rfl rfl rfl | (exact Y_conv tabOk rfl rfl rfl rfl rfl (wrap_i64 ⟨by omega, by omega⟩))))
        | (apply N_takeL (i := 5) rfl rfl (by kernel_rfl) (by decide +kernel) (by decide +kernel) (by repeat (first | exact np_post | apply np_then | apply np_in)) rfl rfl rfl; (first | exact R_loadi tabOk rfl rfl rfl rfl (by first | exact win_flat0 pfxD_len l2 k _ hlt (by decide) | exact win_flat pfxD_len l2 k _ _ hlt (by decide) | exact win_flat2 pfxD_len l2 k _ _ _ hlt (by decide) | rfl) rfl rfl | exact R_len tabOk rfl rfl rfl | exact R_load tabOk rfl rfl rfl rfl rfl rfl rfl rfl rfl | exact R_lenr tabOk rfl rfl rfl rfl | exact R_lenn tabOk rfl rfl rfl | exact R_loade tabOk rfl rfl rfl rfl rfl rfl rfl rfl rfl | (exact Y_conv tabOk rfl rfl rfl rfl rfl (wrap_i64 ⟨by omega, by omega⟩))))
        | (apply N_takeL (i := 6) rfl rfl (by kernel_rfl) (by decide +kernel) (by decide +kernel) (by repeat (first | exact np_post | apply np_then | apply np_in)) rfl rfl rfl; (first | exact R_loadi tabOk rfl rfl rfl rfl (by first | exact win_flat0 pfxD_len l2 k _ hlt (by decide) | exact win_flat pfxD_len l2 k _ _ hlt (by decide) | exact win_flat2 pfxD_len l2 k _ _ _ hlt (by decide) | rfl) rfl rfl | exact R_len tabOk rfl rfl rfl | exact R_load tabOk rfl rfl rfl rfl rfl rfl rfl rfl rfl | exact R_lenr tabOk rfl rfl rfl rfl | exact R_lenn tabOk rfl rfl rfl | exact R_loade tabOk rfl rfl rfl rfl rfl rfl rfl rfl rfl | (exact Y_conv tabOk rfl rfl rfl rfl rfl (wrap_i64 ⟨by omega, by omega⟩))))
        | (apply N_takeL (i := 7) rfl rfl (by kernel_rfl) (by decide +kernel) (by decide +kernel) (by repeat (first | exact np_post | apply np_then | apply np_in)) rfl rfl rfl; (first | exact R_loadi tabOk rfl rfl rfl rfl (by first | exact win_flat0 pfxD_len l2 k _ hlt (by decide) | exact win_flat pfxD_len l2 k _ _ hlt (by decide) | exact win_flat2 pfxD_len l2 k _ _ _ hlt (by decide) | rfl) rfl rfl | exact R_len tabOk rfl rfl rfl | exact R_load tabOk rfl rfl rfl rfl rfl rfl rfl rfl rfl | exact R_lenr tabOk rfl rfl rfl rfl | exact R_lenn tabOk rfl rfl rfl | exact R_loade tabOk rfl rfl rfl rfl rfl rfl rfl rfl rfl | (exact Y_conv tabOk rfl rfl rfl rfl rfl (wrap_i64 ⟨by omega, by omega⟩))))
        | (apply N_takeL (i := 8) rfl rfl (by kernel_rfl) (by decide +kernel) (by decide +kernel) (by repeat (first | exact np_post | apply np_then | apply np_in)) rfl rfl rfl; (first | exact R_loadi tabOk rfl rfl rfl rfl (by first | exact win_flat0 pfxD_len l2 k _ hlt (by decide) | exact win_flat pfxD_len l2 k _ _ hlt (by decide) | exact win_flat2 pfxD_len l2 k _ _ _ hlt (by decide) | rfl) rfl rfl | exact R_len tabOk rfl rfl rfl | exact R_load tabOk rfl rfl rfl rfl rfl rfl rfl rfl rfl | exact R_lenr tabOk rfl rfl rfl rfl | exact R_lenn tabOk rfl rfl rfl | exact R_loade tabOk rfl rfl rfl rfl rfl rfl rfl rfl rfl | (exact Y_conv tabOk rfl rfl rfl rfl rfl (wrap_i64 ⟨by omega, by omega⟩))))
        | (apply N_takeL (i := 9) rfl rfl (by kernel_rfl) (by decide +kernel) (by decide +kernel) (by repeat (first | exact np_post | apply np_then | apply np_in)) rfl rfl rfl; (first | exact R_loadi tabOk rfl rfl rfl rfl (by first | exact win_flat0 pfxD_len l2 k _ hlt (by decide) | exact win_flat pfxD_len l2 k _ _ hlt (by decide) | exact win_flat2 pfxD_len l2 k _ _ _ hlt (by decide) | rfl) rfl rfl | exact R_len tabOk rfl rfl rfl | exact R_load tabOk rfl rfl rfl rfl rfl rfl rfl rfl rfl | exact R_lenr tabOk rfl rfl rfl rfl | exact R_lenn tabOk rfl rfl rfl | exact R_loade tabOk rfl rfl rfl rfl rfl rfl rfl rfl rfl | (exact Y_conv tabOk rfl rfl rfl rfl rfl (wrap_i64 ⟨by omega, by omega⟩))))
        | (apply N_takeL (i := 10) rfl rfl (by kernel_rfl) (by decide +kernel) (by decide +kernel) (by repeat (first | exact np_post | apply np_then | apply np_in)) rfl rfl rfl; (first | exact R_loadi tabOk rfl rfl rfl rfl (by first | exact win_flat0 pfxD_len l2 k _ hlt (by decide) | exact win_flat pfxD_len l2 k _ _ hlt (by decide) | exact win_flat2 pfxD_len l2 k _ _ _ hlt (by decide) | rfl) rfl rfl | exact R_len tabOk rfl rfl rfl | exact R_load tabOk rfl rfl rfl rfl rfl rfl rfl rfl rfl | exact R_lenr tabOk rfl rfl rfl rfl | exact R_lenn tabOk rfl rfl rfl | exact R_loade tabOk rfl rfl rfl rfl rfl rfl rfl rfl rfl | (exact Y_conv tabOk rfl rfl rfl rfl rfl (wrap_i64 ⟨by omega, by omega⟩))))
        | (apply N_takeL (i := 11) rfl rfl (by kernel_rfl) (by decide +kernel) (by decide +kernel) (by repeat (first | exact np_post | apply np_then | apply np_in)) rfl rfl rfl; (first | exact R_loadi tabOk rfl rfl rfl rfl (by first | exact win_flat0 pfxD_len l2 k _ hlt (by decide) | exact win_flat pfxD_len l2 k _ _ hlt (by decide) | exact win_flat2 pfxD_len l2 k _ _ _ hlt (by decide) | rfl) rfl rfl | exact R_len tabOk rfl rfl rfl | exact R_load tabOk rfl rfl rfl rfl rfl rfl rfl rfl rfl | exact R_lenr tabOk rfl rfl rfl rfl | exact R_lenn tabOk rfl rfl rfl | exact R_loade tabOk rfl rfl rfl rfl rfl rfl rfl rfl rfl | (exact Y_conv tabOk rfl rfl rfl rfl rfl (wrap_i64 ⟨by omega, by omega⟩))))
        | (apply N_takeL (i := 12) rfl rfl (by kernel_rfl) (by decide +kernel) (by decide +kernel) (by repeat (first | exact np_post | apply np_then | apply np_in)) rfl rfl rfl; (first | exact R_loadi tabOk rfl rfl rfl rfl (by first | exact win_flat0 pfxD_len l2 k _ hlt (by decide) | exact win_flat pfxD_len l2 k _ _ hlt (by decide) | exact win_flat2 pfxD_len l2 k _ _ _ hlt (by decide) | rfl) rfl rfl | exact R_len tabOk rfl rfl rfl | exact R_load tabOk rfl rfl rfl rfl rfl rfl rfl rfl rfl | exact R_lenr tabOk rfl rfl rfl rfl | exact R_lenn tabOk rfl rfl rfl | exact R_loade tabOk rfl rfl rfl rfl rfl rfl rfl rfl rfl | (exact Y_conv tabOk rfl rfl rfl rfl rfl (wrap_i64 ⟨by omega, by omega⟩))))
        | (apply N_takeL (i := 13) rfl rfl (by kernel_rfl) (by decide +kernel) (by decide +kernel) (by repeat (first | exact np_post | apply np_then | apply np_in)) rfl rfl rfl; (first | exact R_loadi tabOk rfl rfl rfl rfl (by first | exact win_flat0 pfxD_len l2 k _ hlt (by decide) | exact win_flat pfxD_len l2 k _ _ hlt (by decide) | exact win_flat2 pfxD_len l2 k _ _ _ hlt (by decide) | rfl) rfl rfl | exact R_len tabOk rfl rfl rfl | exact R_load tabOk rfl rfl rfl rfl rfl rfl rfl rfl rfl | exact R_lenr tabOk rfl rfl rfl rfl | exact R_lenn tabOk rfl rfl rfl | exact R_loade tabOk rfl rfl rfl rfl rfl rfl rfl rfl rfl | (exact Y_conv tabOk rfl rfl rfl rfl rfl (wrap_i64 ⟨by omega, by omega⟩))))
        | (apply N_takeL (i := 14) rfl rfl (by kernel_rfl) (by decide +kernel) (by decide +kernel) (by repeat (first | exact np_post | apply np_then | apply np_in)) rfl rfl rfl; (first | exact R_loadi tabOk rfl rfl rfl rfl (by first | exact win_flat0 pfxD_len l2 k _ hlt (by decide) | exact win_flat pfxD_len l2 k _ _ hlt (by decide) | exact win_flat2 pfxD_len l2 k _ _ _ hlt (by decide) | rfl) rfl rfl | exact R_len tabOk rfl rfl rfl | exact R_load tabOk rfl rfl rfl rfl rfl rfl rfl rfl rfl | exact R_lenr tabOk rfl rfl rfl rfl | exact R_lenn tabOk rfl rfl rfl | exact R_loade tabOk rfl rfl rfl rfl rfl rfl rfl rfl rfl | (exact Y_conv tabOk rfl rfl rfl rfl rfl (wrap_i64 ⟨by omega, by omega⟩))))
        | (apply N_takeL (i := 15) rfl rfl (by kernel_rfl) (by decide +kernel) (by decide +kernel) (by repeat (first | exact np_post | apply np_then | apply np_in)) rfl rfl rfl; (first | exact R_loadi tabOk rfl rfl rfl rfl (by first | exact win_flat0 pfxD_len l2 k _ hlt (by decide) | exact win_flat pfxD_len l2 k _ _ hlt (by decide) | exact win_flat2 pfxD_len l2 k _ _ _ hlt (by decide) | rfl) rfl rfl | exact R_len tabOk rfl rfl rfl | exact R_load tabOk rfl rfl rfl rfl rfl rfl rfl rfl rfl | exact R_lenr tabOk rfl rfl rfl rfl | exact R_lenn tabOk rfl rfl rfl | exact R_loade tabOk rfl rfl rfl rfl rfl rfl rfl rfl rfl | (exact Y_conv tabOk rfl rfl rfl rfl rfl (wrap_i64 ⟨by omega, by omega⟩))))
        | (apply N_takeL (i := 16) rfl rfl (by kernel_rfl) (by decide +kernel) (by decide +kernel) (by repeat (first | exact np_post | apply np_then | apply np_in)) rfl rfl rfl; (first | exact R_loadi tabOk rfl rfl rfl rfl (by first | exact win_flat0 pfxD_len l2 k _ hlt (by decide) | exact win_flat pfxD_len l2 k _ _ hlt (by decide) | exact win_flat2 pfxD_len l2 k _ _ _ hlt (by decide) | rfl) rfl rfl | exact R_len tabOk rfl rfl rfl | exact R_load tabOk rfl rfl rfl rfl rfl rfl rfl rfl rfl | exact R_lenr tabOk rfl rfl rfl rfl | exact R_lenn tabOk rfl rfl rfl | exact R_loade tabOk rfl rfl rfl rfl rfl rfl rfl rfl rfl | (exact Y_conv tabOk rfl rfl rfl rfl rfl (wrap_i64 ⟨by omega, by omega⟩))))
        | (apply N_takeL (i := 17) rfl rfl (by kernel_rfl) (by decide +kernel) (by decide +kernel) (by repeat (first | exact np_post | apply np_then | apply np_in)) rfl rfl rfl; (first | exact R_loadi tabOk rfl rfl rfl rfl (by first | exact win_flat0 pfxD_len l2 k _ hlt (by decide) | exact win_flat pfxD_len l2 k _ _ hlt (by decide) | exact win_flat2 pfxD_len l2 k _ _ _ hlt (by decide) | rfl) rfl rfl | exact R_len tabOk rfl rfl rfl | exact R_load tabOk rfl rfl rfl rfl rfl rfl rfl rfl rfl | exact R_lenr tabOk rfl rfl rfl rfl | exact R_lenn tabOk rfl rfl rfl | exact R_loade tabOk rfl rfl rfl rfl rfl rfl rfl rfl rfl | (exact Y_conv tabOk rfl rfl rfl rfl rfl (wrap_i64 ⟨by omega, by omega⟩))))
        | (apply N_takeL (i := 18) rfl rfl (by kernel_rfl) (by decide +kernel) (by decide +kernel) (by repeat (first | exact np_post | apply np_then | apply np_in)) rfl rfl rfl; (first | exact R_loadi tabOk rfl rfl rfl rfl (by first | exact win_flat0 pfxD_len l2 k _ hlt (by decide) | exact win_flat pfxD_len l2 k _ _ hlt (by decide) | exact win_flat2 pfxD_len l2 k _ _ _ hlt (by decide) | rfl) rfl rfl | exact R_len tabOk rfl rfl rfl | exact R_load tabOk rfl rfl rfl rfl rfl rfl rfl rfl rfl | exact R_lenr tabOk rfl rfl rfl rfl | exact R_lenn tabOk rfl rfl rfl | exact R_loade tabOk rfl rfl rfl rfl rfl rfl rfl rfl rfl | (exact Y_conv tabOk rfl rfl rfl rfl rfl (wrap_i64 ⟨by omega, by omega⟩))))
        | (apply N_takeL (i := 19) rfl rfl (by kernel_rfl) (by decide +kernel) (by decide +kernel) (by repeat (first | exact np_post | apply np_then | apply np_in)) rfl rfl rfl; (first | exact R_loadi tabOk rfl rfl rfl rfl (by first | exact win_flat0 pfxD_len l2 k _ hlt (by decide) | exact win_flat pfxD_len l2 k _ _ hlt (by decide) | exact win_flat2 pfxD_len l2 k _ _ _ hlt (by decide) | rfl) rfl rfl | exact R_len tabOk rfl rfl rfl | exact R_load tabOk rfl rfl rfl rfl rfl rfl rfl rfl rfl | exact R_lenr tabOk rfl rfl rfl rfl | exact R_lenn tabOk rfl rfl rfl | exact R_loade tabOk rfl rfl rfl rfl rfl rfl rfl rfl rfl | (exact Y_conv tabOk rfl rfl rfl rfl rfl (wrap_i64 ⟨by omega, by omega⟩))))
        | (apply N_takeL (i := 20) rfl rfl (by kernel_rfl) (by decide +kernel) (by decide +kernel) (by repeat (first | exact np_post | apply np_then | apply np_in)) rfl rfl rfl; (first | exact R_loadi tabOk rfl rfl rfl rfl (by first | exact win_flat0 pfxD_len l2 k _ hlt (by decide) | exact win_flat pfxD_len l2 k _ _ hlt (by decide) | exact win_flat2 pfxD_len l2 k _ _ _ hlt (by decide) | rfl) rfl rfl | exact R_len tabOk rfl rfl rfl | exact R_load tabOk rfl rfl rfl rfl rfl rfl rfl rfl rfl | exact R_lenr tabOk rfl rfl rfl rfl | exact R_lenn tabOk rfl rfl rfl | exact R_loade tabOk rfl rfl rfl rfl rfl rfl rfl rfl rfl | (exact Y_conv tabOk rfl rfl rfl rfl rfl (wrap_i64 ⟨by omega, by omega⟩))))
        | (apply N_takeL (i := 21) rfl rfl (by kernel_rfl) (by decide +kernel) (by decide +kernel) (by repeat (first | exact np_post | apply np_then | apply np_in)) rfl rfl rfl; (first | exact R_loadi tabOk rfl rfl rfl rfl (by first | exact win_flat0 pfxD_len l2 k _ hlt (by decide) | exact win_flat pfxD_len l2 k _ _ hlt (by decide) | exact win_flat2 pfxD_len l2 k _ _ _ hlt (by decide) | rfl) rfl rfl | exact R_len tabOk rfl rfl rfl | exact R_load tabOk rfl rfl rfl rfl rfl rfl rfl rfl rfl | exact R_lenr tabOk rfl rfl rfl rfl | exact R_lenn tabOk rfl rfl rfl | exact R_loade tabOk rfl rfl rfl rfl rfl rfl rfl rfl rfl | (exact Y_conv tabOk rfl rfl rfl rfl rfl (wrap_i64 ⟨by omega, by omega⟩))))
        | (apply N_takeL (i := 22) rfl rfl (by kernel_rfl) (by decide +kernel) (by decide +kernel) (by repeat (first | exact np_post | apply np_then | apply np_in)) rfl rfl rfl; (first | exact R_loadi tabOk rfl rfl rfl rfl (by first | exact win_flat0 pfxD_len l2 k _ hlt (by decide) | exact win_flat pfxD_len l2 k _ _ hlt (by decide) | exact win_flat2 pfxD_len l2 k _ _ _ hlt (by decide) | rfl) rfl rfl | exact R_len tabOk rfl rfl rfl | exact R_load tabOk rfl rfl rfl rfl rfl rfl rfl rfl rfl | exact R_lenr tabOk rfl rfl rfl rfl | exact R_lenn tabOk rfl rfl rfl | exact R_loade tabOk rfl rfl rfl rfl rfl rfl rfl rfl rfl | (exact Y_conv tabOk rfl rfl rfl rfl rfl (wrap_i64 ⟨by omega, by omega⟩))))
        | (apply N_takeL (i := 23) rfl rfl (by kernel_rfl) (by decide +kernel) (by decide +kernel) (by repeat (first | exact np_post | apply np_then | apply np_in)) rfl rfl rfl; (first | exact R_loadi tabOk rfl rfl rfl rfl (by first | exact win_flat0 pfxD_len l2 k _ hlt (by decide) | exact win_flat pfxD_len l2 k _ _ hlt (by decide) | exact win_flat2 pfxD_len l2 k _ _ _ hlt (by decide) | rfl) rfl rfl | exact R_len tabOk rfl rfl rfl | exact R_load tabOk rfl rfl rfl rfl rfl rfl rfl rfl rfl | exact R_lenr tabOk rfl rfl rfl rfl | exact R_lenn tabOk rfl rfl rfl | exact R_loade tabOk rfl rfl rfl rfl rfl rfl rfl rfl rfl | (exact Y_conv tabOk rfl rfl rfl rfl rfl (wrap_i64 ⟨by omega, by omega⟩))))
        | (apply N_takeL (i := 24) rfl rfl (by kernel_rfl) (by decide +kernel) (by decide +kernel) (by repeat (first | exact np_post | apply np_then | apply np_in)) rfl rfl rfl; (first | exact R_loadi tabOk rfl rfl rfl rfl (by first | exact win_flat0 pfxD_len l2 k _ hlt (by decide) | exact win_flat pfxD_len l2 k _ _ hlt (by decide) | exact win_flat2 pfxD_len l2 k _ _ _ hlt (by decide) | rfl) rfl rfl | exact R_len tabOk rfl rfl rfl | exact R_load tabOk rfl rfl rfl rfl rfl rfl rfl rfl rfl | exact R_lenr tabOk rfl rfl rfl rfl | exact R_lenn tabOk rfl rfl rfl | exact R_loade tabOk rfl rfl rfl rfl rfl rfl rfl rfl rfl | (exact Y_conv tabOk rfl rfl rfl rfl rfl (wrap_i64 ⟨by omega, by omega⟩))))
        | refine N_one (j := 0) (by decide +kernel) ?_
        | refine N_one (j := 1) (by decide +kernel) ?_
        | refine N_one (j := 2) (by decide +kernel) ?_
        | refine N_one (j := 3) (by decide +kernel) ?_
        | refine N_one (j := 4) (by decide +kernel) ?_
        | refine N_one (j := 5) (by decide +kernel) ?_
        | refine N_one (j := 6) (by decide +kernel) ?_
        | refine N_one (j := 7) (by decide +kernel) ?_
        | refine N_one (j := 8) (by decide +kernel) ?_
        | refine N_one (j := 9) (by decide +kernel) ?_
        | refine N_one (j := 10) (by decide +kernel) ?_
        | refine N_one (j := 11) (by decide +kernel) ?_
        | refine N_one (j := 12) (by decide +kernel) ?_
        | refine N_one (j := 13) (by decide +kernel) ?_
        | refine N_one (j := 14) (by decide +kernel) ?_
        | refine N_one (j := 15) (by decide +kernel) ?_
        | refine N_one (j := 16) (by decide +kernel) ?_
        | refine N_one (j := 17) (by decide +kernel) ?_
        | refine N_one (j := 18) (by decide +kernel) ?_
        | refine N_one (j := 19) (by decide +kernel) ?_
        | refine N_one (j := 20) (by decide +kernel) ?_
        | refine N_one (j := 21) (by decide +kernel) ?_
        | refine N_one (j := 22) (by decide +kernel) ?_
        | refine N_one (j := 23) (by decide +kernel) ?_
        | refine N_one (j := 24) (by decide +kernel) ?_
        | refine T_alloc tabOk rfl rfl rfl rfl rfl rfl rfl ?_
        | refine T_store tabOk rfl rfl rfl rfl rfl rfl rfl rfl rfl rfl rfl rfl rfl ?_
        | refine T_box rfl rfl rfl rfl rfl rfl rfl rfl ?_
        | (apply T_yield rfl rfl rfl rfl; (first | exact Y_move rfl rfl | exact R_index tabOk rfl rfl rfl rfl rfl rfl (by omega) | exact R_fieldi tabOk rfl rfl rfl | exact R_loadi tabOk rfl rfl rfl rfl (by first | exact win_flat0 pfxD_len l2 k _ hlt (by decide) | exact win_flat pfxD_len l2 k _ _ hlt (by decide) | exact win_flat2 pfxD_len l2 k _ _ _ hlt (by decide) | rfl) rfl rfl | exact R_load tabOk rfl rfl rfl rfl rfl rfl rfl rfl rfl | exact Y_add rfl rfl rfl (by first | exact wrap_succ (by omega) | exact wrap_pred (by omega) (by omega) | exact wrap_i64 ⟨by omega, by omega⟩ | rfl) | exact Y_ibin rfl rfl rfl rfl | (exact Y_conv tabOk rfl rfl rfl rfl rfl (wrap_i64 ⟨by omega, by omega⟩))))
        | refine N_done (by decide +kernel) ?_
        | fail)
      refine T_cTbl 4 903 (by omega) hput rfl rfl rfl rfl rfl rfl rfl rfl rfl rfl rfl rfl ?_
      refine N_done (by kernel_rfl) ?_
      have T2 := Tt.put l2[k] (vOf l2[k]) hPok
      have R2 := Rt.put Tt l2[k]
      generalize putS t l2[k] (vOf l2[k]) = t1 at *
      repeat (first
        | refine A_seq ?_
        | refine A_block ?_
        | refine R_list ?_
        | refine R_quiet rfl mixed (by kernel_rfl) ?_
        | ((first | apply O_y rfl rfl rfl | apply Q_y rfl rfl rfl); (first | exact Y_move rfl rfl | exact Y_assign rfl rfl | exact R_index tabOk rfl rfl rfl rfl rfl rfl (by omega) | exact R_fieldi tabOk rfl rfl rfl | exact R_loadi tabOk rfl rfl rfl rfl rfl rfl rfl | exact R_len tabOk rfl rfl rfl | exact R_load tabOk rfl rfl rfl rfl rfl rfl rfl rfl rfl | exact R_field tabOk rfl rfl rfl rfl | exact Y_add rfl rfl rfl (by first | exact wrap_succ (by omega) | exact wrap_pred (by omega) (by omega) | exact wrap_i64 ⟨by omega, by omega⟩ | rfl) | exact Y_sub rfl rfl rfl (by first | exact wrap_succ (by omega) | exact wrap_pred (by omega) (by omega) | exact wrap_i64 ⟨by omega, by omega⟩ | rfl) | exact R_cmpT rfl rfl rfl rfl (by first | (simp only [decide_eq_true_eq, beq_iff_eq, bne_iff_ne, ne_eq]; done) | (simp only [decide_eq_true_eq, beq_iff_eq, bne_iff_ne, ne_eq]; omega)) | exact R_cmpF rfl rfl rfl rfl (by first | (simp only [decide_eq_false_iff_not, beq_eq_false_iff_ne, bne_eq_false_iff_eq, ne_eq]; done) | (simp only [decide_eq_false_iff_not, beq_eq_false_iff_ne, bne_eq_false_iff_eq, ne_eq]; omega)) | exact Y_ibin rfl rfl rfl rfl | exact Y_extract rfl rfl rfl | exact R_lenr tabOk rfl rfl rfl rfl | exact R_lenn tabOk rfl rfl rfl | exact R_indexr tabOk rfl rfl rfl rfl rfl rfl rfl (by omega) | exact R_fielde tabOk rfl rfl rfl rfl | exact R_loade tabOk rfl rfl rfl rfl rfl rfl rfl rfl rfl | exact Y_not rfl rfl | exact Y_pick_t rfl rfl (by first | rfl | assumption) rfl | exact Y_pick_f rfl rfl (by first | rfl | assumption) rfl | exact Y_pick_b rfl rfl rfl rfl | exact R_build tabOk rfl rfl rfl rfl rfl rfl | fail))
        | refine O_nil ?_
        | refine Q_nil ?_
        | refine X_then_normal ?_
        | refine X_in_normal ?_
        | refine O_box rfl rfl rfl rfl rfl rfl rfl ?_
        | refine O_alloc tabOk rfl rfl rfl rfl rfl rfl ?_
        | refine O_store tabOk rfl rfl rfl rfl rfl rfl rfl rfl rfl rfl rfl ?_
        | refine O_slice tabOk rfl rfl rfl rfl rfl rfl rfl rfl rfl rfl rfl ?_
        | refine A_condt rfl (by first | rfl | assumption | (first | (simp only [decide_eq_true_eq]; done) | (simp only [decide_eq_true_eq]; omega))) ?_
        | refine A_condf rfl (by first | rfl | assumption | (first | (simp only [decide_eq_false_iff_not]; done) | (simp only [decide_eq_false_iff_not]; omega))) ?_
        | refine A_skip ?_
        | refine A_exit ?_
        | refine A_ret ?_
        | refine X_then_exit ?_
        | refine X_then_ret ?_
        | refine X_in_same ?_
        | refine X_in_other rfl ?_
        | refine X_in_ret ?_
        | refine O_s rfl rfl rfl ?_
        | refine Q_s rfl rfl rfl ?_
        | refine O_sn rfl rfl ?_
        | fail)
      refine ⟨(k + 1, t1), ⟨by dsimp only; omega, T2, _, R2, fun p hp => ?_, fun i p hi hp => ?_⟩, by dsimp only; omega, Wk_sel ⟨rfl, rfl, rfl, rfl, rfl, rfl, rfl, rfl, trivial⟩ ⟨rfl, rfl, rfl, rfl, rfl, rfl, rfl, trivial⟩⟩
      · rcases hp with hp | hp
        · exact hK p hp
        · rw [hp]; exact List.getElem_mem hlt
      · by_cases hik : i = k
        · subst hik
          rw [List.getElem?_eq_getElem hlt] at hp
          cases hp
          exact .inr rfl
        · exact .inl (hKa i p (by dsimp only at hi; omega) hp)
    · have hkk : k = l2.length := by omega
      subst hkk
      replace Rt := Rt.of (K' := fun p => p ∈ l2) fun p => ⟨hK p, fun hp => by
        obtain ⟨i, hi⟩ := List.getElem?_of_mem hp
        exact hKa i p (List.getElem?_eq_some_iff.1 hi).1 hi⟩
      clear hlt hk hK hKa K
      have hsame := Rs.same Rt
      clear Rs Rt
      generalize hjt : l2.length + l2.length = jt at Tt
      have hjt2 : jt ≤ 200 := by omega
      have hat := tblAt_A t.1 t.2 q Tt.nd
      obtain ⟨t', ht'⟩ : ∃ t', (if aget t.2 q = none ∧ good q then dropS (putS t q 5) q else t) = t' := ⟨_, rfl⟩
      have hT' : TOk t' jt ∧ ∀ p, aget t'.2 p = aget t.2 p := by
        rw [← ht']
        split
        · rename_i h
          have := put_drop Tt q 5 h.2 h.1
          exact ⟨this.1, this.2.1⟩
        · exact ⟨Tt, fun _ => rfl⟩
      obtain ⟨T', S'⟩ := hT'
      repeat (first
        | refine A_seq ?_
        | refine A_block ?_
        | refine R_list ?_
        | ((first | apply O_y rfl rfl rfl | apply Q_y rfl rfl rfl); (first | exact Y_move rfl rfl | exact Y_assign rfl rfl | exact R_index tabOk rfl rfl rfl rfl rfl rfl (by omega) | exact R_fieldi tabOk rfl rfl rfl | exact R_loadi tabOk rfl rfl rfl rfl rfl rfl rfl | exact R_len tabOk rfl rfl rfl | exact R_load tabOk rfl rfl rfl rfl rfl rfl rfl rfl rfl | exact R_field tabOk rfl rfl rfl rfl | exact Y_add rfl rfl rfl (by first | exact wrap_succ (by omega) | exact wrap_pred (by omega) (by omega) | exact wrap_i64 ⟨by omega, by omega⟩ | rfl) | exact Y_sub rfl rfl rfl (by first | exact wrap_succ (by omega) | exact wrap_pred (by omega) (by omega) | exact wrap_i64 ⟨by omega, by omega⟩ | rfl) | exact R_cmpT rfl rfl rfl rfl (by first | (simp only [decide_eq_true_eq, beq_iff_eq, bne_iff_ne, ne_eq]; done) | (simp only [decide_eq_true_eq, beq_iff_eq, bne_iff_ne, ne_eq]; omega)) | exact R_cmpF rfl rfl rfl rfl (by first | (simp only [decide_eq_false_iff_not, beq_eq_false_iff_ne, bne_eq_false_iff_eq, ne_eq]; done) | (simp only [decide_eq_false_iff_not, beq_eq_false_iff_ne, bne_eq_false_iff_eq, ne_eq]; omega)) | exact Y_ibin rfl rfl rfl rfl | exact Y_extract rfl rfl rfl | exact R_lenr tabOk rfl rfl rfl rfl | exact R_lenn tabOk rfl rfl rfl | exact R_indexr tabOk rfl rfl rfl rfl rfl rfl rfl (by omega) | exact R_fielde tabOk rfl rfl rfl rfl | exact R_loade tabOk rfl rfl rfl rfl rfl rfl rfl rfl rfl | exact Y_not rfl rfl | exact Y_pick_t rfl rfl (by first | rfl | assumption) rfl | exact Y_pick_f rfl rfl (by first | rfl | assumption) rfl | exact Y_pick_b rfl rfl rfl rfl | exact R_build tabOk rfl rfl rfl rfl rfl rfl | fail))
        | refine O_nil ?_
        | refine Q_nil ?_
        | refine X_then_normal ?_
        | refine X_in_normal ?_
        | refine O_box rfl rfl rfl rfl rfl rfl rfl ?_
        | refine O_alloc tabOk rfl rfl rfl rfl rfl rfl ?_
        | refine O_store tabOk rfl rfl rfl rfl rfl rfl rfl rfl rfl rfl rfl ?_
        | refine O_slice tabOk rfl rfl rfl rfl rfl rfl rfl rfl rfl rfl rfl ?_
        | refine A_condt rfl (by first | rfl | assumption | (first | (simp only [decide_eq_true_eq]; done) | (simp only [decide_eq_true_eq]; omega))) ?_
        | refine A_condf rfl (by first | rfl | assumption | (first | (simp only [decide_eq_false_iff_not]; done) | (simp only [decide_eq_false_iff_not]; omega))) ?_
        | refine A_skip ?_
        | refine A_exit ?_
        | refine A_ret ?_
        | refine X_then_exit ?_
        | refine X_then_ret ?_
        | refine X_in_same ?_
        | refine X_in_other rfl ?_
        | refine X_in_ret ?_
        | refine O_s rfl rfl rfl ?_
        | refine Q_s rfl rfl rfl ?_
        | refine O_sn rfl rfl ?_
        | fail)
      refine O_cTbl 4 903 (by omega) hat rfl rfl rfl rfl rfl rfl rfl rfl rfl ?_
      repeat (first
        | (apply O_y rfl rfl rfl; (first | exact Y_move rfl rfl | exact Y_assign rfl rfl | exact R_index tabOk rfl rfl rfl rfl rfl rfl (by omega) | exact R_fieldi tabOk rfl rfl rfl | exact R_loadi tabOk rfl rfl rfl rfl rfl rfl rfl | exact R_len tabOk rfl rfl rfl | exact R_load tabOk rfl rfl rfl rfl rfl rfl rfl rfl rfl | exact R_field tabOk rfl rfl rfl rfl | exact Y_add rfl rfl rfl (by first | exact wrap_succ (by omega) | exact wrap_pred (by omega) (by omega) | exact wrap_i64 ⟨by omega, by omega⟩ | rfl) | exact Y_sub rfl rfl rfl (by first | exact wrap_succ (by omega) | exact wrap_pred (by omega) (by omega) | exact wrap_i64 ⟨by omega, by omega⟩ | rfl) | exact R_cmpT rfl rfl rfl rfl (by first | (simp only [decide_eq_true_eq, beq_iff_eq, bne_iff_ne, ne_eq]; done) | (simp only [decide_eq_true_eq, beq_iff_eq, bne_iff_ne, ne_eq]; omega)) | exact R_cmpF rfl rfl rfl rfl (by first | (simp only [decide_eq_false_iff_not, beq_eq_false_iff_ne, bne_eq_false_iff_eq, ne_eq]; done) | (simp only [decide_eq_false_iff_not, beq_eq_false_iff_ne, bne_eq_false_iff_eq, ne_eq]; omega)) | exact Y_ibin rfl rfl rfl rfl | exact Y_extract rfl rfl rfl | exact R_lenr tabOk rfl rfl rfl rfl | exact R_lenn tabOk rfl rfl rfl | exact R_indexr tabOk rfl rfl rfl rfl rfl rfl rfl (by omega) | exact R_fielde tabOk rfl rfl rfl rfl | exact R_loade tabOk rfl rfl rfl rfl rfl rfl rfl rfl rfl | exact Y_not rfl rfl | exact Y_pick_t rfl rfl (by first | rfl | assumption) rfl | exact Y_pick_f rfl rfl (by first | rfl | assumption) rfl | exact Y_pick_b rfl rfl rfl rfl | exact R_build tabOk rfl rfl rfl rfl rfl rfl | fail))
        | refine O_alloc tabOk rfl rfl rfl rfl rfl rfl ?_
        | refine O_store tabOk rfl rfl rfl rfl rfl rfl rfl rfl rfl rfl rfl ?_
        | refine O_s rfl rfl rfl ?_
        | refine O_sn rfl rfl ?_)
      refine O_nil ?_
      refine X_then_normal ?_
      refine A_cut (gE l2 by_ x 6 (.ptr 6 0)) (gH q s t') ?_ ?_
      · cases hg : aget t.2 q with
        | some z =>
          rw [hg] at ht'
          rw [if_neg (by simp)] at ht'
          subst ht'
          repeat (first
            | refine A_seq ?_
            | refine A_block ?_
            | refine R_list ?_
            | refine R_quiet rfl mixed (by kernel_rfl) ?_
            | ((first | apply O_y rfl rfl rfl | apply Q_y rfl rfl rfl); (first | exact Y_move rfl rfl | exact Y_assign rfl rfl | exact R_index tabOk rfl rfl rfl rfl rfl rfl (by omega) | exact R_fieldi tabOk rfl rfl rfl | exact R_loadi tabOk rfl rfl rfl rfl rfl rfl rfl | exact R_len tabOk rfl rfl rfl | exact R_load tabOk rfl rfl rfl rfl rfl rfl rfl rfl rfl | exact R_field tabOk rfl rfl rfl rfl | exact Y_add rfl rfl rfl (by first | exact wrap_succ (by omega) | exact wrap_pred (by omega) (by omega) | exact wrap_i64 ⟨by omega, by omega⟩ | rfl) | exact Y_sub rfl rfl rfl (by first | exact wrap_succ (by omega) | exact wrap_pred (by omega) (by omega) | exact wrap_i64 ⟨by omega, by omega⟩ | rfl) | exact R_cmpT rfl rfl rfl rfl (by first | (simp only [decide_eq_true_eq, beq_iff_eq, bne_iff_ne, ne_eq]; done) | (simp only [decide_eq_true_eq, beq_iff_eq, bne_iff_ne, ne_eq]; omega)) | exact R_cmpF rfl rfl rfl rfl (by first | (simp only [decide_eq_false_iff_not, beq_eq_false_iff_ne, bne_eq_false_iff_eq, ne_eq]; done) | (simp only [decide_eq_false_iff_not, beq_eq_false_iff_ne, bne_eq_false_iff_eq, ne_eq]; omega)) | exact Y_ibin rfl rfl rfl rfl | exact Y_extract rfl rfl rfl | exact R_lenr tabOk rfl rfl rfl rfl | exact R_lenn tabOk rfl rfl rfl | exact R_indexr tabOk rfl rfl rfl rfl rfl rfl rfl (by omega) | exact R_fielde tabOk rfl rfl rfl rfl | exact R_loade tabOk rfl rfl rfl rfl rfl rfl rfl rfl rfl | exact Y_not rfl rfl | exact Y_pick_t rfl rfl (by first | rfl | assumption) rfl | exact Y_pick_f rfl rfl (by first | rfl | assumption) rfl | exact Y_pick_b rfl rfl rfl rfl | exact R_build tabOk rfl rfl rfl rfl rfl rfl | fail))
            | refine O_nil ?_
            | refine Q_nil ?_
            | refine X_then_normal ?_
            | refine X_in_normal ?_
            | refine O_box rfl rfl rfl rfl rfl rfl rfl ?_
            | refine O_alloc tabOk rfl rfl rfl rfl rfl rfl ?_
            | refine O_store tabOk rfl rfl rfl rfl rfl rfl rfl rfl rfl rfl rfl ?_
            | refine O_slice tabOk rfl rfl rfl rfl rfl rfl rfl rfl rfl rfl rfl ?_
            | refine A_condt rfl (by first | rfl | assumption | (first | (simp only [decide_eq_true_eq]; done) | (simp only [decide_eq_true_eq]; omega))) ?_
            | refine A_condf rfl (by first | rfl | assumption | (first | (simp only [decide_eq_false_iff_not]; done) | (simp only [decide_eq_false_iff_not]; omega))) ?_
            | refine A_skip ?_
            | refine A_exit ?_
            | refine A_ret ?_
            | refine X_then_exit ?_
            | refine X_then_ret ?_
            | refine X_in_same ?_
            | refine X_in_other rfl ?_
            | refine X_in_ret ?_
            | refine O_s rfl rfl rfl ?_
            | refine Q_s rfl rfl rfl ?_
            | refine O_sn rfl rfl ?_
            | fail)
          exact Wk_sel ⟨rfl, rfl, rfl, rfl, rfl, rfl, rfl, rfl, trivial⟩ ⟨rfl, rfl, rfl, rfl, rfl, rfl, rfl, trivial⟩
        | none =>
          have hckA := refCheck_A q hq
          by_cases hc : chk q = 0
          · have hgq := (chk_eq q).1 hc
            rw [if_pos ⟨hg, hgq⟩] at ht'
            have hpd := put_drop Tt q 5 hgq hg
            have hput := putS_A t jt Tt (by omega) q 5 hq
            have T1 := Tt.put q 5 hq
            have hdrop := drop_A (putS t q 5).1 (putS t q 5).2 q hq T1.nd fun j => ⟨(T1.ub j).1, by have := (T1.ub j).2; omega⟩
            rw [hpd.2.2] at hdrop
            rw [show dropS ((putS t q 5).1, (putS t q 5).2) q = t' from ht'] at hdrop
            rw [hc] at hckA
            repeat (first
              | refine A_seq ?_
              | refine A_block ?_
              | refine R_list ?_
              | refine R_quiet rfl mixed (by kernel_rfl) ?_
              | ((first | apply O_y rfl rfl rfl | apply Q_y rfl rfl rfl); (first | exact Y_move rfl rfl | exact Y_assign rfl rfl | exact R_index tabOk rfl rfl rfl rfl rfl rfl (by omega) | exact R_fieldi tabOk rfl rfl rfl | exact R_loadi tabOk rfl rfl rfl rfl rfl rfl rfl | exact R_len tabOk rfl rfl rfl | exact R_load tabOk rfl rfl rfl rfl rfl rfl rfl rfl rfl | exact R_field tabOk rfl rfl rfl rfl | exact Y_add rfl rfl rfl (by first | exact wrap_succ (by omega) | exact wrap_pred (by omega) (by omega) | exact wrap_i64 ⟨by omega, by omega⟩ | rfl) | exact Y_sub rfl rfl rfl (by first | exact wrap_succ (by omega) | exact wrap_pred (by omega) (by omega) | exact wrap_i64 ⟨by omega, by omega⟩ | rfl) | exact R_cmpT rfl rfl rfl rfl (by first | (simp only [decide_eq_true_eq, beq_iff_eq, bne_iff_ne, ne_eq]; done) | (simp only [decide_eq_true_eq, beq_iff_eq, bne_iff_ne, ne_eq]; omega)) | exact R_cmpF rfl rfl rfl rfl (by first | (simp only [decide_eq_false_iff_not, beq_eq_false_iff_ne, bne_eq_false_iff_eq, ne_eq]; done) | (simp only [decide_eq_false_iff_not, beq_eq_false_iff_ne, bne_eq_false_iff_eq, ne_eq]; omega)) | exact Y_ibin rfl rfl rfl rfl | exact Y_extract rfl rfl rfl | exact R_lenr tabOk rfl rfl rfl rfl | exact R_lenn tabOk rfl rfl rfl | exact R_indexr tabOk rfl rfl rfl rfl rfl rfl rfl (by omega) | exact R_fielde tabOk rfl rfl rfl rfl | exact R_loade tabOk rfl rfl rfl rfl rfl rfl rfl rfl rfl | exact Y_not rfl rfl | exact Y_pick_t rfl rfl (by first | rfl | assumption) rfl | exact Y_pick_f rfl rfl (by first | rfl | assumption) rfl | exact Y_pick_b rfl rfl rfl rfl | exact R_build tabOk rfl rfl rfl rfl rfl rfl | fail))
              | refine O_nil ?_
              | refine Q_nil ?_
              | refine X_then_normal ?_
              | refine X_in_normal ?_
              | refine O_box rfl rfl rfl rfl rfl rfl rfl ?_
              | refine O_alloc tabOk rfl rfl rfl rfl rfl rfl ?_
              | refine O_store tabOk rfl rfl rfl rfl rfl rfl rfl rfl rfl rfl rfl ?_
              | refine O_slice tabOk rfl rfl rfl rfl rfl rfl rfl rfl rfl rfl rfl ?_
              | refine A_condt rfl (by first | rfl | assumption | (first | (simp only [decide_eq_true_eq]; done) | (simp only [decide_eq_true_eq]; omega))) ?_
              | refine A_condf rfl (by first | rfl | assumption | (first | (simp only [decide_eq_false_iff_not]; done) | (simp only [decide_eq_false_iff_not]; omega))) ?_
              | refine A_skip ?_
              | refine A_exit ?_
              | refine A_ret ?_
              | refine X_then_exit ?_
              | refine X_then_ret ?_
              | refine X_in_same ?_
              | refine X_in_other rfl ?_
              | refine X_in_ret ?_
              | refine O_s rfl rfl rfl ?_
              | refine Q_s rfl rfl rfl ?_
              | refine O_sn rfl rfl ?_
              | (first | refine O_c rfl rfl rfl rfl rfl hckA (fun _ => rfl) ?_ | refine O_cTbl 4 903 (by omega) hput rfl rfl rfl rfl rfl rfl rfl rfl rfl ?_ | refine O_cTbl 4 903 (by omega) hdrop rfl rfl rfl rfl rfl rfl rfl rfl rfl ?_))
            exact Wk_sel ⟨rfl, rfl, rfl, rfl, rfl, rfl, rfl, rfl, trivial⟩ ⟨rfl, rfl, rfl, rfl, rfl, rfl, rfl, trivial⟩
          · rw [if_neg fun h => hc ((chk_eq q).2 h.2)] at ht'
            subst ht'
            repeat (first
              | refine A_seq ?_
              | refine A_block ?_
              | refine R_list ?_
              | refine R_quiet rfl mixed (by kernel_rfl) ?_
              | ((first | apply O_y rfl rfl rfl | apply Q_y rfl rfl rfl); (first | exact Y_move rfl rfl | exact Y_assign rfl rfl | exact R_index tabOk rfl rfl rfl rfl rfl rfl (by omega) | exact R_fieldi tabOk rfl rfl rfl | exact R_loadi tabOk rfl rfl rfl rfl rfl rfl rfl | exact R_len tabOk rfl rfl rfl | exact R_load tabOk rfl rfl rfl rfl rfl rfl rfl rfl rfl | exact R_field tabOk rfl rfl rfl rfl | exact Y_add rfl rfl rfl (by first | exact wrap_succ (by omega) | exact wrap_pred (by omega) (by omega) | exact wrap_i64 ⟨by omega, by omega⟩ | rfl) | exact Y_sub rfl rfl rfl (by first | exact wrap_succ (by omega) | exact wrap_pred (by omega) (by omega) | exact wrap_i64 ⟨by omega, by omega⟩ | rfl) | exact R_cmpT rfl rfl rfl rfl (by first | (simp only [decide_eq_true_eq, beq_iff_eq, bne_iff_ne, ne_eq]; done) | (simp only [decide_eq_true_eq, beq_iff_eq, bne_iff_ne, ne_eq]; omega)) | exact R_cmpF rfl rfl rfl rfl (by first | (simp only [decide_eq_false_iff_not, beq_eq_false_iff_ne, bne_eq_false_iff_eq, ne_eq]; done) | (simp only [decide_eq_false_iff_not, beq_eq_false_iff_ne, bne_eq_false_iff_eq, ne_eq]; omega)) | exact Y_ibin rfl rfl rfl rfl | exact Y_extract rfl rfl rfl | exact R_lenr tabOk rfl rfl rfl rfl | exact R_lenn tabOk rfl rfl rfl | exact R_indexr tabOk rfl rfl rfl rfl rfl rfl rfl (by omega) | exact R_fielde tabOk rfl rfl rfl rfl | exact R_loade tabOk rfl rfl rfl rfl rfl rfl rfl rfl rfl | exact Y_not rfl rfl | exact Y_pick_t rfl rfl (by first | rfl | assumption) rfl | exact Y_pick_f rfl rfl (by first | rfl | assumption) rfl | exact Y_pick_b rfl rfl rfl rfl | exact R_build tabOk rfl rfl rfl rfl rfl rfl | fail))
              | refine O_nil ?_
              | refine Q_nil ?_
              | refine X_then_normal ?_
              | refine X_in_normal ?_
              | refine O_box rfl rfl rfl rfl rfl rfl rfl ?_
              | refine O_alloc tabOk rfl rfl rfl rfl rfl rfl ?_
              | refine O_store tabOk rfl rfl rfl rfl rfl rfl rfl rfl rfl rfl rfl ?_
              | refine O_slice tabOk rfl rfl rfl rfl rfl rfl rfl rfl rfl rfl rfl ?_
              | refine A_condt rfl (by first | rfl | assumption | (first | (simp only [decide_eq_true_eq]; done) | (simp only [decide_eq_true_eq]; omega))) ?_
              | refine A_condf rfl (by first | rfl | assumption | (first | (simp only [decide_eq_false_iff_not]; done) | (simp only [decide_eq_false_iff_not]; omega))) ?_
              | refine A_skip ?_
              | refine A_exit ?_
              | refine A_ret ?_
              | refine X_then_exit ?_
              | refine X_then_ret ?_
              | refine X_in_same ?_
              | refine X_in_other rfl ?_
              | refine X_in_ret ?_
              | refine O_s rfl rfl rfl ?_
              | refine Q_s rfl rfl rfl ?_
              | refine O_sn rfl rfl ?_
              | refine O_c rfl rfl rfl rfl rfl hckA (fun _ => rfl) ?_)
            exact Wk_sel ⟨rfl, rfl, rfl, rfl, rfl, rfl, rfl, rfl, trivial⟩ ⟨rfl, rfl, rfl, rfl, rfl, rfl, rfl, trivial⟩
      · have hs2 : ∀ p, aget s.2 p = aget t'.2 p := fun p => by rw [S', hsame]
        have hll := len_same Ts T' hs2
        have hlongs := longest_A s.1 s.2 x x0 x1 Ts.nd
        have hlongt := longest_A t'.1 t'.2 x x0 x1 T'.nd
        rw [← long_same Ts T' hs2 x] at hlongt
        obtain ⟨p, v, is, hR⟩ : ∃ p v is, longR s.1 s.2 x = (p, v, is) := ⟨_, _, _, rfl⟩
        rw [hR] at hlongs hlongt
        dsimp only at hlongs hlongt
        have hlens := len_A s.1 s.2
        have hlent := len_A t'.1 t'.2
        have hat' := fun p => tblAt_A t'.1 t'.2 p T'.nd
        have hall := all_A s.1 s.2 Ts.nd (by have := Ts.len; omega)
        have hrl := (keysP_perm s.2).length_eq
        clear ht' S' hsame hat Tt hR
        refine A_cut (gE l2 by_ x 6 (.ptr 6 0)) (gH q s t') ?_ ?_
        · refine A_seq ?_
          refine N_begin [3, 902, 4, 903] mixed ?_
          repeat (first
            | ((first
              | apply N_takeN (i := 0) rfl rfl (by kernel_rfl) (by decide +kernel) (by decide +kernel) (by repeat (first | exact np_rf | apply np_then)) rfl rfl rfl
              | apply N_takeN (i := 1) rfl rfl (by kernel_rfl) (by decide +kernel) (by decide +kernel) (by repeat (first | exact np_rf | apply np_then)) rfl rfl rfl
              | apply N_takeN (i := 2) rfl rfl (by kernel_rfl) (by decide +kernel) (by decide +kernel) (by repeat (first | exact np_rf | apply np_then)) rfl rfl rfl
              | apply N_takeN (i := 3) rfl rfl (by kernel_rfl) (by decide +kernel) (by decide +kernel) (by repeat (first | exact np_rf | apply np_then)) rfl rfl rfl
              | apply N_takeN (i := 4) rfl rfl (by kernel_rfl) (by decide +kernel) (by decide +kernel) (by repeat (first | exact np_rf | apply np_then)) rfl rfl rfl
              | apply N_takeN (i := 5) rfl rfl (by kernel_rfl) (by decide +kernel) (by decide +kernel) (by repeat (first | exact np_rf | apply np_then)) rfl rfl rfl
              | apply N_takeN (i := 6) rfl rfl (by kernel_rfl) (by decide +kernel) (by decide +kernel) (by repeat (first | exact np_rf | apply np_then)) rfl rfl rfl
              | apply N_takeN (i := 7) rfl rfl (by kernel_rfl) (by decide +kernel) (by decide +kernel) (by repeat (first | exact np_rf | apply np_then)) rfl rfl rfl
              | apply N_takeN (i := 8) rfl rfl (by kernel_rfl) (by decide +kernel) (by decide +kernel) (by repeat (first | exact np_rf | apply np_then)) rfl rfl rfl
              | apply N_takeN (i := 9) rfl rfl (by kernel_rfl) (by decide +kernel) (by decide +kernel) (by repeat (first | exact np_rf | apply np_then)) rfl rfl rfl
              | apply N_takeN (i := 10) rfl rfl (by kernel_rfl) (by decide +kernel) (by decide +kernel) (by repeat (first | exact np_rf | apply np_then)) rfl rfl rfl
              | apply N_takeN (i := 11) rfl rfl (by kernel_rfl) (by decide +kernel) (by decide +kernel) (by repeat (first | exact np_rf | apply np_then)) rfl rfl rfl
              | apply N_takeN (i := 12) rfl rfl (by kernel_rfl) (by decide +kernel) (by decide +kernel) (by repeat (first | exact np_rf | apply np_then)) rfl rfl rfl
              | apply N_takeN (i := 13) rfl rfl (by kernel_rfl) (by decide +kernel) (by decide +kernel) (by repeat (first | exact np_rf | apply np_then)) rfl rfl rfl
              | apply N_takeN (i := 14) rfl rfl (by kernel_rfl) (by decide +kernel) (by decide +kernel) (by repeat (first | exact np_rf | apply np_then)) rfl rfl rfl
              | apply N_takeN (i := 15) rfl rfl (by kernel_rfl) (by decide +kernel) (by decide +kernel) (by repeat (first | exact np_rf | apply np_then)) rfl rfl rfl
              | apply N_takeN (i := 16) rfl rfl (by kernel_rfl) (by decide +kernel) (by decide +kernel) (by repeat (first | exact np_rf | apply np_then)) rfl rfl rfl
              | apply N_takeN (i := 17) rfl rfl (by kernel_rfl) (by decide +kernel) (by decide +kernel) (by repeat (first | exact np_rf | apply np_then)) rfl rfl rfl
              | apply N_takeN (i := 18) rfl rfl (by kernel_rfl) (by decide +kernel) (by decide +kernel) (by repeat (first | exact np_rf | apply np_then)) rfl rfl rfl
              | apply N_takeN (i := 19) rfl rfl (by kernel_rfl) (by decide +kernel) (by decide +kernel) (by repeat (first | exact np_rf | apply np_then)) rfl rfl rfl
              | apply N_takeN (i := 20) rfl rfl (by kernel_rfl) (by decide +kernel) (by decide +kernel) (by repeat (first | exact np_rf | apply np_then)) rfl rfl rfl
              | apply N_takeN (i := 21) rfl rfl (by kernel_rfl) (by decide +kernel) (by decide +kernel) (by repeat (first | exact np_rf | apply np_then)) rfl rfl rfl
              | apply N_takeN (i := 22) rfl rfl (by kernel_rfl) (by decide +kernel) (by decide +kernel) (by repeat (first | exact np_rf | apply np_then)) rfl rfl rfl
              | apply N_takeN (i := 23) rfl rfl (by kernel_rfl) (by decide +kernel) (by decide +kernel) (by repeat (first | exact np_rf | apply np_then)) rfl rfl rfl
              | apply N_takeN (i := 24) rfl rfl (by kernel_rfl) (by decide +kernel) (by decide +kernel) (by repeat (first | exact np_rf | apply np_then)) rfl rfl rfl
              ); (first | exact Y_move rfl rfl | exact Y_assign rfl rfl | exact R_index tabOk rfl rfl rfl rfl rfl rfl (by omega) | exact R_fieldi tabOk rfl rfl rfl | exact R_loadi tabOk rfl rfl rfl rfl rfl rfl rfl | exact R_len tabOk rfl rfl rfl | exact R_load tabOk rfl rfl rfl rfl rfl rfl rfl rfl rfl | exact R_field tabOk rfl rfl rfl rfl | exact Y_add rfl rfl rfl (by first | exact wrap_succ (by omega) | exact wrap_pred (by omega) (by omega) | exact wrap_i64 ⟨by omega, by omega⟩ | rfl) | exact Y_sub rfl rfl rfl (by first | exact wrap_succ (by omega) | exact wrap_pred (by omega) (by omega) | exact wrap_i64 ⟨by omega, by omega⟩ | rfl) | exact R_cmpT rfl rfl rfl rfl (by first | (simp only [decide_eq_true_eq, beq_iff_eq, bne_iff_ne, ne_eq]; done) | (simp only [decide_eq_true_eq, beq_iff_eq, bne_iff_ne, ne_eq]; omega)) | exact R_cmpF rfl rfl rfl rfl (by first | (simp only [decide_eq_false_iff_not, beq_eq_false_iff_ne, bne_eq_false_iff_eq, ne_eq]; done) | (simp only [decide_eq_false_iff_not, beq_eq_false_iff_ne, bne_eq_false_iff_eq, ne_eq]; omega)) | exact Y_ibin rfl rfl rfl rfl | exact Y_extract rfl rfl rfl | exact R_lenr tabOk rfl rfl rfl rfl | exact R_lenn tabOk rfl rfl rfl | exact R_indexr tabOk rfl rfl rfl rfl rfl rfl rfl (by omega) | exact R_fielde tabOk rfl rfl rfl rfl | exact R_loade tabOk rfl rfl rfl rfl rfl rfl rfl rfl rfl | exact Y_not rfl rfl | exact Y_pick_t rfl rfl (by first | rfl | assumption) rfl | exact Y_pick_f rfl rfl (by first | rfl | assumption) rfl | exact Y_pick_b rfl rfl rfl rfl | exact R_build tabOk rfl rfl rfl rfl rfl rfl | fail))
            | (apply N_takeL (i := 0) rfl rfl (by kernel_rfl) (by decide +kernel) (by decide +kernel) (by repeat (first | exact np_rf | apply np_then)) rfl rfl rfl; (first | exact R_loadi tabOk rfl rfl rfl rfl rfl rfl rfl | exact R_len tabOk rfl rfl rfl | exact R_load tabOk rfl rfl rfl rfl rfl rfl rfl rfl rfl | exact R_lenr tabOk rfl rfl rfl rfl | exact R_lenn tabOk rfl rfl rfl | exact R_loade tabOk rfl rfl rfl rfl rfl rfl rfl rfl rfl | fail))
            | (apply N_takeL (i := 1) rfl rfl (by kernel_rfl) (by decide +kernel) (by decide +kernel) (by repeat (first | exact np_rf | apply np_then)) rfl rfl rfl; (first | exact R_loadi tabOk rfl rfl rfl rfl rfl rfl rfl | exact R_len tabOk rfl rfl rfl | exact R_load tabOk rfl rfl rfl rfl rfl rfl rfl rfl rfl | exact R_lenr tabOk rfl rfl rfl rfl | exact R_lenn tabOk rfl rfl rfl | exact R_loade tabOk rfl rfl rfl rfl rfl rfl rfl rfl rfl | fail))
            | (apply N_takeL (i := 2) rfl rfl (by kernel_rfl) (by decide +kernel) (by decide +kernel) (by repeat (first | exact np_rf | apply np_then)) rfl rfl rfl; (first | exact R_loadi tabOk rfl rfl rfl rfl rfl rfl rfl | exact R_len tabOk rfl rfl rfl | exact R_load tabOk rfl rfl rfl rfl rfl rfl rfl rfl rfl | exact R_lenr tabOk rfl rfl rfl rfl | exact R_lenn tabOk rfl rfl rfl | exact R_loade tabOk rfl rfl rfl rfl rfl rfl rfl rfl rfl | fail))
            | (apply N_takeL (i := 3) rfl rfl (by kernel_rfl) (by decide +kernel) (by decide +kernel) (by repeat (first | exact np_rf | apply np_then)) rfl rfl rfl; (first | exact R_loadi tabOk rfl rfl rfl rfl rfl rfl rfl | exact R_len tabOk rfl rfl rfl | exact R_load tabOk rfl rfl rfl rfl rfl rfl rfl rfl rfl | exact R_lenr tabOk rfl rfl rfl rfl | exact R_lenn tabOk rfl rfl rfl | exact R_loade tabOk rfl rfl rfl rfl rfl rfl rfl rfl rfl | fail))
            | (apply N_takeL (i := 4) rfl rfl (by kernel_rfl) (by decide +kernel) (by decide +kernel) (by repeat (first | exact np_rf | apply np_then)) rfl rfl rfl; (first | exact R_loadi tabOk rfl rfl rfl rfl rfl rfl rfl | exact R_len tabOk rfl rfl rfl | exact R_load tabOk rfl rfl rfl rfl rfl rfl rfl rfl rfl | exact R_lenr tabOk rfl rfl rfl rfl | exact R_lenn tabOk rfl rfl rfl | exact R_loade tabOk rfl rfl rfl rfl rfl rfl rfl rfl rfl | fail))
            | (apply N_takeL (i := 5) rfl rfl (by kernel_rfl) (by decide +kernel) (by decide +kernel) (by repeat (first | exact np_rf | apply np_then)) rfl rfl rfl; (first | exact R_loadi tabOk rfl rfl rfl rfl rfl rfl rfl | exact R_len tabOk rfl rfl rfl | exact R_load tabOk rfl rfl rfl rfl rfl rfl rfl rfl rfl | exact R_lenr tabOk rfl rfl rfl rfl | exact R_lenn tabOk rfl rfl rfl | exact R_loade tabOk rfl rfl rfl rfl rfl rfl rfl rfl rfl | fail))
            | (apply N_takeL (i := 6) rfl rfl (by kernel_rfl) (by decide +kernel) (by decide +kernel) (by repeat (first | exact np_rf | apply np_then)) rfl rfl rfl; (first | exact R_loadi tabOk rfl rfl rfl rfl rfl rfl rfl | exact R_len tabOk rfl rfl rfl | exact R_load tabOk rfl rfl rfl rfl rfl rfl rfl rfl rfl | exact R_lenr tabOk rfl rfl rfl rfl | exact R_lenn tabOk rfl rfl rfl | exact R_loade tabOk rfl rfl rfl rfl rfl rfl rfl rfl rfl | fail))
            | (apply N_takeL (i := 7) rfl rfl (by kernel_rfl) (by decide +kernel) (by decide +kernel) (by repeat (first | exact np_rf | apply np_then)) rfl rfl rfl; (first | exact R_loadi tabOk rfl rfl rfl rfl rfl rfl rfl | exact R_len tabOk rfl rfl rfl | exact R_load tabOk rfl rfl rfl rfl rfl rfl rfl rfl rfl | exact R_lenr tabOk rfl rfl rfl rfl | exact R_lenn tabOk rfl rfl rfl | exact R_loade tabOk rfl rfl rfl rfl rfl rfl rfl rfl rfl | fail))
            | (apply N_takeL (i := 8) rfl rfl (by kernel_rfl) (by decide +kernel) (by decide +kernel) (by repeat (first | exact np_rf | apply np_then)) rfl rfl rfl; (first | exact R_loadi tabOk rfl rfl rfl rfl rfl rfl rfl | exact R_len tabOk rfl rfl rfl | exact R_load tabOk rfl rfl rfl rfl rfl rfl rfl rfl rfl | exact R_lenr tabOk rfl rfl rfl rfl | exact R_lenn tabOk rfl rfl rfl | exact R_loade tabOk rfl rfl rfl rfl rfl rfl rfl rfl rfl | fail))
            | (apply N_takeL (i := 9) rfl rfl (by kernel_rfl) (by decide +kernel) (by decide +kernel) (by repeat (first | exact np_rf | apply np_then)) rfl rfl rfl; (first | exact R_loadi tabOk rfl rfl rfl rfl rfl rfl rfl | exact R_len tabOk rfl rfl rfl | exact R_load tabOk rfl rfl rfl rfl rfl rfl rfl rfl rfl | exact R_lenr tabOk rfl rfl rfl rfl | exact R_lenn tabOk rfl rfl rfl | exact R_loade tabOk rfl rfl rfl rfl rfl rfl rfl rfl rfl | fail))
            | (apply N_takeL (i := 10) rfl rfl (by kernel_rfl) (by decide +kernel) (by decide +kernel) (by repeat (first | exact np_rf | apply np_then)) rfl rfl rfl; (first | exact R_loadi tabOk rfl rfl rfl rfl rfl rfl rfl | exact R_len tabOk rfl rfl rfl | exact R_load tabOk rfl rfl rfl rfl rfl rfl rfl rfl rfl | exact R_lenr tabOk rfl rfl rfl rfl | exact R_lenn tabOk rfl rfl rfl | exact R_loade tabOk rfl rfl rfl rfl rfl rfl rfl rfl rfl | fail))
            | (apply N_takeL (i := 11) rfl rfl (by kernel_rfl) (by decide +kernel) (by decide +kernel) (by repeat (first | exact np_rf | apply np_then)) rfl rfl rfl; (first | exact R_loadi tabOk rfl rfl rfl rfl rfl rfl rfl | exact R_len tabOk rfl rfl rfl | exact R_load tabOk rfl rfl rfl rfl rfl rfl rfl rfl rfl | exact R_lenr tabOk rfl rfl rfl rfl | exact R_lenn tabOk rfl rfl rfl | exact R_loade tabOk rfl rfl rfl rfl rfl rfl rfl rfl rfl | fail))
            | (apply N_takeL (i := 12) rfl rfl (by kernel_rfl) (by decide +kernel) (by decide +kernel) (by repeat (first | exact np_rf | apply np_then)) rfl rfl rfl; (first | exact R_loadi tabOk rfl rfl rfl rfl rfl rfl rfl | exact R_len tabOk rfl rfl rfl | exact R_load tabOk rfl rfl rfl rfl rfl rfl rfl rfl rfl | exact R_lenr tabOk rfl rfl rfl rfl | exact R_lenn tabOk rfl rfl rfl | exact R_loade tabOk rfl rfl rfl rfl rfl rfl rfl rfl rfl | fail))
            | (apply N_takeL (i := 13) rfl rfl (by kernel_rfl) (by decide +kernel) (by decide +kernel) (by repeat (first | exact np_rf | apply np_then)) rfl rfl rfl; (first | exact R_loadi tabOk rfl rfl rfl rfl rfl rfl rfl | exact R_len tabOk rfl rfl rfl | exact R_load tabOk rfl rfl rfl rfl rfl rfl rfl rfl rfl | exact R_lenr tabOk rfl rfl rfl rfl | exact R_lenn tabOk rfl rfl rfl | exact R_loade tabOk rfl rfl rfl rfl rfl rfl rfl rfl rfl | fail))
            | (apply N_takeL (i := 14) rfl rfl (by kernel_rfl) (by decide +kernel) (by decide +kernel) (by repeat (first | exact np_rf | apply np_then)) rfl rfl rfl; (first | exact R_loadi tabOk rfl rfl rfl rfl rfl rfl rfl | exact R_len tabOk rfl rfl rfl | exact R_load tabOk rfl rfl rfl rfl rfl rfl rfl rfl rfl | exact R_lenr tabOk rfl rfl rfl rfl | exact R_lenn tabOk rfl rfl rfl | exact R_loade tabOk rfl rfl rfl rfl rfl rfl rfl rfl rfl | fail))
            | (apply N_takeL (i := 15) rfl rfl (by kernel_rfl) (by decide +kernel) (by decide +kernel) (by repeat (first | exact np_rf | apply np_then)) rfl rfl rfl; (first | exact R_loadi tabOk rfl rfl rfl rfl rfl rfl rfl | exact R_len tabOk rfl rfl rfl | exact R_load tabOk rfl rfl rfl rfl rfl rfl rfl rfl rfl | exact R_lenr tabOk rfl rfl rfl rfl | exact R_lenn tabOk rfl rfl rfl | exact R_loade tabOk rfl rfl rfl rfl rfl rfl rfl rfl rfl | fail))
            | (apply N_takeL (i := 16) rfl rfl (by kernel_rfl) (by decide +kernel) (by decide +kernel) (by repeat (first | exact np_rf | apply np_then)) rfl rfl rfl; (first | exact R_loadi tabOk rfl rfl rfl rfl rfl rfl rfl | exact R_len tabOk rfl rfl rfl | exact R_load tabOk rfl rfl rfl rfl rfl rfl rfl rfl rfl | exact R_lenr tabOk rfl rfl rfl rfl | exact R_lenn tabOk rfl rfl rfl | exact R_loade tabOk rfl rfl rfl rfl rfl rfl rfl rfl rfl | fail))
            | (apply N_takeL (i := 17) rfl rfl (by kernel_rfl) (by decide +kernel) (by decide +kernel) (by repeat (first | exact np_rf | apply np_then)) rfl rfl rfl; (first | exact R_loadi tabOk rfl rfl rfl rfl rfl rfl rfl | exact R_len tabOk rfl rfl rfl | exact R_load tabOk rfl rfl rfl rfl rfl rfl rfl rfl rfl | exact R_lenr tabOk rfl rfl rfl rfl | exact R_lenn tabOk rfl rfl rfl | exact R_loade tabOk rfl rfl rfl rfl rfl rfl rfl rfl rfl | fail))
            | (apply N_takeL (i := 18) rfl rfl (by kernel_rfl) (by decide +kernel) (by decide +kernel) (by repeat (first | exact np_rf | apply np_then)) rfl rfl rfl; (first | exact R_loadi tabOk rfl rfl rfl rfl rfl rfl rfl | exact R_len tabOk rfl rfl rfl | exact R_load tabOk rfl rfl rfl rfl rfl rfl rfl rfl rfl | exact R_lenr tabOk rfl rfl rfl rfl | exact R_lenn tabOk rfl rfl rfl | exact R_loade tabOk rfl rfl rfl rfl rfl rfl rfl rfl rfl | fail))
            | (apply N_takeL (i := 19) rfl rfl (by kernel_rfl) (by decide +kernel) (by decide +kernel) (by repeat (first | exact np_rf | apply np_then)) rfl rfl rfl; (first | exact R_loadi tabOk rfl rfl rfl rfl rfl rfl rfl | exact R_len tabOk rfl rfl rfl | exact R_load tabOk rfl rfl rfl rfl rfl rfl rfl rfl rfl | exact R_lenr tabOk rfl rfl rfl rfl | exact R_lenn tabOk rfl rfl rfl | exact R_loade tabOk rfl rfl rfl rfl rfl rfl rfl rfl rfl | fail))
            | (apply N_takeL (i := 20) rfl rfl (by kernel_rfl) (by decide +kernel) (by decide +kernel) (by repeat (first | exact np_rf | apply np_then)) rfl rfl rfl; (first | exact R_loadi tabOk rfl rfl rfl rfl rfl rfl rfl | exact R_len tabOk rfl rfl rfl | exact R_load tabOk rfl rfl rfl rfl rfl rfl rfl rfl rfl | exact R_lenr tabOk rfl rfl rfl rfl | exact R_lenn tabOk rfl rfl rfl | exact R_loade tabOk rfl rfl rfl rfl rfl rfl rfl rfl rfl | fail))
            | (apply N_takeL (i := 21) rfl rfl (by kernel_rfl) (by decide +kernel) (by decide +kernel) (by repeat (first | exact np_rf | apply np_then)) rfl rfl rfl; (first | exact R_loadi tabOk rfl rfl rfl rfl rfl rfl rfl | exact R_len tabOk rfl rfl rfl | exact R_load tabOk rfl rfl rfl rfl rfl rfl rfl rfl rfl | exact R_lenr tabOk rfl rfl rfl rfl | exact R_lenn tabOk rfl rfl rfl | exact R_loade tabOk rfl rfl rfl rfl rfl rfl rfl rfl rfl | fail))
            | (apply N_takeL (i := 22) rfl rfl (by kernel_rfl) (by decide +kernel) (by decide +kernel) (by repeat (first | exact np_rf | apply np_then)) rfl rfl rfl; (first | exact R_loadi tabOk rfl rfl rfl rfl rfl rfl rfl | exact R_len tabOk rfl rfl rfl | exact R_load tabOk rfl rfl rfl rfl rfl rfl rfl rfl rfl | exact R_lenr tabOk rfl rfl rfl rfl | exact R_lenn tabOk rfl rfl rfl | exact R_loade tabOk rfl rfl rfl rfl rfl rfl rfl rfl rfl | fail))
            | (apply N_takeL (i := 23) rfl rfl (by kernel_rfl) (by decide +kernel) (by decide +kernel) (by repeat (first | exact np_rf | apply np_then)) rfl rfl rfl; (first | exact R_loadi tabOk rfl rfl rfl rfl rfl rfl rfl | exact R_len tabOk rfl rfl rfl | exact R_load tabOk rfl rfl rfl rfl rfl rfl rfl rfl rfl | exact R_lenr tabOk rfl rfl rfl rfl | exact R_lenn tabOk rfl rfl rfl | exact R_loade tabOk rfl rfl rfl rfl rfl rfl rfl rfl rfl | fail))
            | (apply N_takeL (i := 24) rfl rfl (by kernel_rfl) (by decide +kernel) (by decide +kernel) (by repeat (first | exact np_rf | apply np_then)) rfl rfl rfl; (first | exact R_loadi tabOk rfl rfl rfl rfl rfl rfl rfl | exact R_len tabOk rfl rfl rfl | exact R_load tabOk rfl rfl rfl rfl rfl rfl rfl rfl rfl | exact R_lenr tabOk rfl rfl rfl rfl | exact R_lenn tabOk rfl rfl rfl | exact R_loade tabOk rfl rfl rfl rfl rfl rfl rfl rfl rfl | fail))
            | refine N_one (j := 0) (by decide +kernel) ?_
            | refine N_one (j := 1) (by decide +kernel) ?_
            | refine N_one (j := 2) (by decide +kernel) ?_
            | refine N_one (j := 3) (by decide +kernel) ?_
            | refine N_one (j := 4) (by decide +kernel) ?_
            | refine N_one (j := 5) (by decide +kernel) ?_
            | refine N_one (j := 6) (by decide +kernel) ?_
            | refine N_one (j := 7) (by decide +kernel) ?_
            | refine N_one (j := 8) (by decide +kernel) ?_
            | refine N_one (j := 9) (by decide +kernel) ?_
            | refine N_one (j := 10) (by decide +kernel) ?_
            | refine N_one (j := 11) (by decide +kernel) ?_
            | refine N_one (j := 12) (by decide +kernel) ?_
            | refine N_one (j := 13) (by decide +kernel) ?_
            | refine N_one (j := 14) (by decide +kernel) ?_
            | refine N_one (j := 15) (by decide +kernel) ?_
            | refine N_one (j := 16) (by decide +kernel) ?_
            | refine N_one (j := 17) (by decide +kernel) ?_
            | refine N_one (j := 18) (by decide +kernel) ?_
            | refine N_one (j := 19) (by decide +kernel) ?_
            | refine N_one (j := 20) (by decide +kernel) ?_
            | refine N_one (j := 21) (by decide +kernel) ?_
            | refine N_one (j := 22) (by decide +kernel) ?_
            | refine N_one (j := 23) (by decide +kernel) ?_
            | refine N_one (j := 24) (by decide +kernel) ?_
            | refine T_alloc tabOk rfl rfl rfl rfl rfl rfl rfl ?_
            | refine T_store tabOk rfl rfl rfl rfl rfl rfl rfl rfl rfl rfl rfl rfl rfl ?_
            | refine T_box rfl rfl rfl rfl rfl rfl rfl rfl ?_
            | (apply T_yield rfl rfl rfl rfl; (first | exact Y_move rfl rfl | exact Y_assign rfl rfl | exact R_index tabOk rfl rfl rfl rfl rfl rfl (by omega) | exact R_fieldi tabOk rfl rfl rfl | exact R_loadi tabOk rfl rfl rfl rfl rfl rfl rfl | exact R_len tabOk rfl rfl rfl | exact R_load tabOk rfl rfl rfl rfl rfl rfl rfl rfl rfl | exact R_field tabOk rfl rfl rfl rfl | exact Y_add rfl rfl rfl (by first | exact wrap_succ (by omega) | exact wrap_pred (by omega) (by omega) | exact wrap_i64 ⟨by omega, by omega⟩ | rfl) | exact Y_sub rfl rfl rfl (by first | exact wrap_succ (by omega) | exact wrap_pred (by omega) (by omega) | exact wrap_i64 ⟨by omega, by omega⟩ | rfl) | exact R_cmpT rfl rfl rfl rfl (by first | (simp only [decide_eq_true_eq, beq_iff_eq, bne_iff_ne, ne_eq]; done) | (simp only [decide_eq_true_eq, beq_iff_eq, bne_iff_ne, ne_eq]; omega)) | exact R_cmpF rfl rfl rfl rfl (by first | (simp only [decide_eq_false_iff_not, beq_eq_false_iff_ne, bne_eq_false_iff_eq, ne_eq]; done) | (simp only [decide_eq_false_iff_not, beq_eq_false_iff_ne, bne_eq_false_iff_eq, ne_eq]; omega)) | exact Y_ibin rfl rfl rfl rfl | exact Y_extract rfl rfl rfl | exact R_lenr tabOk rfl rfl rfl rfl | exact R_lenn tabOk rfl rfl rfl | exact R_indexr tabOk rfl rfl rfl rfl rfl rfl rfl (by omega) | exact R_fielde tabOk rfl rfl rfl rfl | exact R_loade tabOk rfl rfl rfl rfl rfl rfl rfl rfl rfl | exact Y_not rfl rfl | exact Y_pick_t rfl rfl (by first | rfl | assumption) rfl | exact Y_pick_f rfl rfl (by first | rfl | assumption) rfl | exact Y_pick_b rfl rfl rfl rfl | exact R_build tabOk rfl rfl rfl rfl rfl rfl | fail))
            | refine N_done (by decide +kernel) ?_
            | (first | refine T_cTbl 3 902 (by omega) hlens rfl rfl rfl rfl rfl rfl rfl rfl rfl rfl rfl rfl ?_ | refine T_cTbl 4 903 (by omega) hlent rfl rfl rfl rfl rfl rfl rfl rfl rfl rfl rfl rfl ?_))
          repeat (first
            | refine A_seq ?_
            | refine A_block ?_
            | refine R_list ?_
            | refine R_quiet rfl mixed (by kernel_rfl) ?_
            | ((first | apply O_y rfl rfl rfl | apply Q_y rfl rfl rfl); (first | exact Y_move rfl rfl | exact Y_assign rfl rfl | exact R_index tabOk rfl rfl rfl rfl rfl rfl (by omega) | exact R_fieldi tabOk rfl rfl rfl | exact R_loadi tabOk rfl rfl rfl rfl rfl rfl rfl | exact R_len tabOk rfl rfl rfl | exact R_load tabOk rfl rfl rfl rfl rfl rfl rfl rfl rfl | exact R_field tabOk rfl rfl rfl rfl | exact Y_add rfl rfl rfl (by first | exact wrap_succ (by omega) | exact wrap_pred (by omega) (by omega) | exact wrap_i64 ⟨by omega, by omega⟩ | rfl) | exact Y_sub rfl rfl rfl (by first | exact wrap_succ (by omega) | exact wrap_pred (by omega) (by omega) | exact wrap_i64 ⟨by omega, by omega⟩ | rfl) | exact R_cmpT rfl rfl rfl rfl (by first | (simp only [decide_eq_true_eq, beq_iff_eq, bne_iff_ne, ne_eq]; done) | (simp only [decide_eq_true_eq, beq_iff_eq, bne_iff_ne, ne_eq]; omega)) | exact R_cmpF rfl rfl rfl rfl (by first | (simp only [decide_eq_false_iff_not, beq_eq_false_iff_ne, bne_eq_false_iff_eq, ne_eq]; done) | (simp only [decide_eq_false_iff_not, beq_eq_false_iff_ne, bne_eq_false_iff_eq, ne_eq]; omega)) | exact Y_ibin rfl rfl rfl rfl | exact Y_extract rfl rfl rfl | exact R_lenr tabOk rfl rfl rfl rfl | exact R_lenn tabOk rfl rfl rfl | exact R_indexr tabOk rfl rfl rfl rfl rfl rfl rfl (by omega) | exact R_fielde tabOk rfl rfl rfl rfl | exact R_loade tabOk rfl rfl rfl rfl rfl rfl rfl rfl rfl | exact Y_not rfl rfl | exact Y_pick_t rfl rfl (by first | rfl | assumption) rfl | exact Y_pick_f rfl rfl (by first | rfl | assumption) rfl | exact Y_pick_b rfl rfl rfl rfl | exact R_build tabOk rfl rfl rfl rfl rfl rfl | fail))
            | refine O_nil ?_
            | refine Q_nil ?_
            | refine X_then_normal ?_
            | refine X_in_normal ?_
            | refine O_box rfl rfl rfl rfl rfl rfl rfl ?_
            | refine O_alloc tabOk rfl rfl rfl rfl rfl rfl ?_
            | refine O_store tabOk rfl rfl rfl rfl rfl rfl rfl rfl rfl rfl rfl ?_
            | refine O_slice tabOk rfl rfl rfl rfl rfl rfl rfl rfl rfl rfl rfl ?_
            | refine A_condt rfl (by first | rfl | assumption | (first | (simp only [decide_eq_true_eq]; done) | (simp only [decide_eq_true_eq]; omega))) ?_
            | refine A_condf rfl (by first | rfl | assumption | (first | (simp only [decide_eq_false_iff_not]; done) | (simp only [decide_eq_false_iff_not]; omega))) ?_
            | refine A_skip ?_
            | refine A_exit ?_
            | refine A_ret ?_
            | refine X_then_exit ?_
            | refine X_then_ret ?_
            | refine X_in_same ?_
            | refine X_in_other rfl ?_
            | refine X_in_ret ?_
            | refine O_s rfl rfl rfl ?_
            | refine Q_s rfl rfl rfl ?_
            | refine O_sn rfl rfl ?_
            | fail)
          exact Wk_sel ⟨rfl, rfl, rfl, rfl, rfl, rfl, rfl, rfl, trivial⟩ ⟨rfl, rfl, rfl, rfl, rfl, rfl, rfl, trivial⟩
        · obtain ⟨KP, hKP⟩ : ∃ KP, keysP s.2 = KP := ⟨_, rfl⟩
          have hkeys : ∀ p ∈ KP, ∃ z, aget s.2 p = some z := fun p hp => key_iff.1 ((keysP_perm s.2).mem_iff.1 (by rw [hKP]; exact hp))
          have hkl : KP.length ≤ 200 := by
            rw [← hKP, hrl]
            have := Ts.len
            simp
            omega
          have hall : ACall Try.prog 19 [.ptr 1000 0] [(1000, tblB 1001 s.1), (1001, mapB s.2)] (fun c h => c = goneA (rowsOf s.2 KP) ∧ h = [(1000, tblB 1001 s.1), (1001, mapB s.2)]) := by
            rw [← hKP]; exact hall
          refine A_cut (gE l2 by_ x 146 (goneA (rowsOf s.2 KP))) (gH q s t') ?_ ?_
          ·
            repeat (first
              | refine A_seq ?_
              | refine A_block ?_
              | refine R_list ?_
              | refine R_quiet rfl mixed (by kernel_rfl) ?_
              | ((first | apply O_y rfl rfl rfl | apply Q_y rfl rfl rfl); (first | exact Y_move rfl rfl | exact Y_assign rfl rfl | exact R_index tabOk rfl rfl rfl rfl rfl rfl (by omega) | exact R_fieldi tabOk rfl rfl rfl | exact R_loadi tabOk rfl rfl rfl rfl rfl rfl rfl | exact R_len tabOk rfl rfl rfl | exact R_load tabOk rfl rfl rfl rfl rfl rfl rfl rfl rfl | exact R_field tabOk rfl rfl rfl rfl | exact Y_add rfl rfl rfl (by first | exact wrap_succ (by omega) | exact wrap_pred (by omega) (by omega) | exact wrap_i64 ⟨by omega, by omega⟩ | rfl) | exact Y_sub rfl rfl rfl (by first | exact wrap_succ (by omega) | exact wrap_pred (by omega) (by omega) | exact wrap_i64 ⟨by omega, by omega⟩ | rfl) | exact R_cmpT rfl rfl rfl rfl (by first | (simp only [decide_eq_true_eq, beq_iff_eq, bne_iff_ne, ne_eq]; done) | (simp only [decide_eq_true_eq, beq_iff_eq, bne_iff_ne, ne_eq]; omega)) | exact R_cmpF rfl rfl rfl rfl (by first | (simp only [decide_eq_false_iff_not, beq_eq_false_iff_ne, bne_eq_false_iff_eq, ne_eq]; done) | (simp only [decide_eq_false_iff_not, beq_eq_false_iff_ne, bne_eq_false_iff_eq, ne_eq]; omega)) | exact Y_ibin rfl rfl rfl rfl | exact Y_extract rfl rfl rfl | exact R_lenr tabOk rfl rfl rfl rfl | exact R_lenn tabOk rfl rfl rfl | exact R_indexr tabOk rfl rfl rfl rfl rfl rfl rfl (by omega) | exact R_fielde tabOk rfl rfl rfl rfl | exact R_loade tabOk rfl rfl rfl rfl rfl rfl rfl rfl rfl | exact Y_not rfl rfl | exact Y_pick_t rfl rfl (by first | rfl | assumption) rfl | exact Y_pick_f rfl rfl (by first | rfl | assumption) rfl | exact Y_pick_b rfl rfl rfl rfl | exact R_build tabOk rfl rfl rfl rfl rfl rfl | fail))
              | refine O_nil ?_
              | refine Q_nil ?_
              | refine X_then_normal ?_
              | refine X_in_normal ?_
              | refine O_box rfl rfl rfl rfl rfl rfl rfl ?_
              | refine O_alloc tabOk rfl rfl rfl rfl rfl rfl ?_
              | refine O_store tabOk rfl rfl rfl rfl rfl rfl rfl rfl rfl rfl rfl ?_
              | refine O_slice tabOk rfl rfl rfl rfl rfl rfl rfl rfl rfl rfl rfl ?_
              | refine A_condt rfl (by first | rfl | assumption | (first | (simp only [decide_eq_true_eq]; done) | (simp only [decide_eq_true_eq]; omega))) ?_
              | refine A_condf rfl (by first | rfl | assumption | (first | (simp only [decide_eq_false_iff_not]; done) | (simp only [decide_eq_false_iff_not]; omega))) ?_
              | refine A_skip ?_
              | refine A_exit ?_
              | refine A_ret ?_
              | refine X_then_exit ?_
              | refine X_then_ret ?_
              | refine X_in_same ?_
              | refine X_in_other rfl ?_
              | refine X_in_ret ?_
              | refine O_s rfl rfl rfl ?_
              | refine Q_s rfl rfl rfl ?_
              | refine O_sn rfl rfl ?_
              | (refine O_cTbl 3 902 (by omega) hall rfl rfl rfl rfl rfl rfl rfl rfl rfl ?_))
            refine A_weaken (Wk_sel (e1 := gE l2 by_ x 146 (goneA (rowsOf s.2 KP))) (h1 := gH q s t') ⟨rfl, rfl, rfl, rfl, rfl, rfl, rfl, rfl, trivial⟩ ⟨rfl, rfl, rfl, rfl, rfl, rfl, rfl, trivial⟩) ?_
            refine A_range (xs := goneXs (rowsOf s.2 KP)) (E := gE l2 by_ x 146 (goneA (rowsOf s.2 KP))) (E' := gE1 l2 by_ x 146 (goneA (rowsOf s.2 KP))) (H := fun _ => gH q s t') (H' := fun _ => gH1 q s t') rfl (gone_seq _ (by rw [rowsOf_len]; omega)) (ag_caps_ok _) rfl (ag_goneXs_ok _) rfl (fun k => sh_gH _ _ _) (fun k row hrow => ?_) ?_
            · obtain ⟨hk, z, hz, rfl⟩ := ag_rowsOf_get s.2 KP hkeys k row hrow
              have hatk := hat' KP[k]
              rw [← hs2, hz] at hatk
              generalize KP[k] = P at *
              have hatk : ACall Try.prog 20 [.ptr 1000 0, pfxA P] [(1000, tblB 1001 t'.1), (1001, mapB t'.2)] (fun c h => c = .tup [intA z, boolA true] ∧ h = [(1000, tblB 1001 t'.1), (1001, mapB t'.2)]) := hatk
              refine A_weaken (Wk_sel (e1 := [(147, pfxA P), (148, intA z), (8, .ptr 1008 0), (10, .ptr 1010 0)]) (h1 := gH1 q s t') ⟨rfl, rfl, rfl, rfl, trivial⟩ ⟨rfl, rfl, rfl, rfl, rfl, rfl, rfl, trivial⟩) ?_
              repeat (first
                | refine A_seq ?_
                | refine A_block ?_
                | refine R_list ?_
                | refine R_quiet rfl mixed (by kernel_rfl) ?_
                | ((first | apply O_y rfl rfl rfl | apply Q_y rfl rfl rfl); (first | exact Y_move rfl rfl | exact Y_assign rfl rfl | exact R_index tabOk rfl rfl rfl rfl rfl rfl (by omega) | exact R_fieldi tabOk rfl rfl rfl | exact R_loadi tabOk rfl rfl rfl rfl rfl rfl rfl | exact R_len tabOk rfl rfl rfl | exact R_load tabOk rfl rfl rfl rfl rfl rfl rfl rfl rfl | exact R_field tabOk rfl rfl rfl rfl | exact Y_add rfl rfl rfl (by first | exact wrap_succ (by omega) | exact wrap_pred (by omega) (by omega) | exact wrap_i64 ⟨by omega, by omega⟩ | rfl) | exact Y_sub rfl rfl rfl (by first | exact wrap_succ (by omega) | exact wrap_pred (by omega) (by omega) | exact wrap_i64 ⟨by omega, by omega⟩ | rfl) | exact R_cmpT rfl rfl rfl rfl (by first | (simp only [decide_eq_true_eq, beq_iff_eq, bne_iff_ne, ne_eq]; done) | (simp only [decide_eq_true_eq, beq_iff_eq, bne_iff_ne, ne_eq]; omega)) | exact R_cmpF rfl rfl rfl rfl (by first | (simp only [decide_eq_false_iff_not, beq_eq_false_iff_ne, bne_eq_false_iff_eq, ne_eq]; done) | (simp only [decide_eq_false_iff_not, beq_eq_false_iff_ne, bne_eq_false_iff_eq, ne_eq]; omega)) | exact Y_ibin rfl rfl rfl rfl | exact Y_extract rfl rfl rfl | exact R_lenr tabOk rfl rfl rfl rfl | exact R_lenn tabOk rfl rfl rfl | exact R_indexr tabOk rfl rfl rfl rfl rfl rfl rfl (by omega) | exact R_fielde tabOk rfl rfl rfl rfl | exact R_loade tabOk rfl rfl rfl rfl rfl rfl rfl rfl rfl | exact Y_not rfl rfl | exact Y_pick_t rfl rfl (by first | rfl | assumption) rfl | exact Y_pick_f rfl rfl (by first | rfl | assumption) rfl | exact Y_pick_b rfl rfl rfl rfl | exact R_build tabOk rfl rfl rfl rfl rfl rfl | fail))
                | refine O_nil ?_
                | refine Q_nil ?_
                | refine X_then_normal ?_
                | refine X_in_normal ?_
                | refine O_box rfl rfl rfl rfl rfl rfl rfl ?_
                | refine O_alloc tabOk rfl rfl rfl rfl rfl rfl ?_
                | refine O_store tabOk rfl rfl rfl rfl rfl rfl rfl rfl rfl rfl rfl ?_
                | refine O_slice tabOk rfl rfl rfl rfl rfl rfl rfl rfl rfl rfl rfl ?_
                | refine A_condt rfl (by first | rfl | assumption | (first | (simp only [decide_eq_true_eq]; done) | (simp only [decide_eq_true_eq]; omega))) ?_
                | refine A_condf rfl (by first | rfl | assumption | (first | (simp only [decide_eq_false_iff_not]; done) | (simp only [decide_eq_false_iff_not]; omega))) ?_
                | refine A_skip ?_
                | refine A_exit ?_
                | refine A_ret ?_
                | refine X_then_exit ?_
                | refine X_then_ret ?_
                | refine X_in_same ?_
                | refine X_in_other rfl ?_
                | refine X_in_ret ?_
                | refine O_s rfl rfl rfl ?_
                | refine Q_s rfl rfl rfl ?_
                | refine O_sn rfl rfl ?_
                | fail)
              refine O_weaken (Wk_sel (e1 := [(150, .ptr 1004 0), (151, pfxA P), (17, intA z), (8, .ptr 1008 0)]) (h1 := gH1 q s t') ⟨rfl, rfl, rfl, rfl, trivial⟩ ⟨rfl, rfl, rfl, rfl, kill_map 16 s.2, rfl, kill_map 16 t'.2, trivial⟩) ?_
              refine O_cTbl 1004 1903 (by omega) hatk rfl rfl rfl rfl rfl rfl rfl rfl rfl ?_
              repeat (first
                | refine A_seq ?_
                | refine A_block ?_
                | refine R_list ?_
                | refine R_quiet rfl mixed (by kernel_rfl) ?_
                | ((first | apply O_y rfl rfl rfl | apply Q_y rfl rfl rfl); (first | exact Y_move rfl rfl | exact Y_assign rfl rfl | exact R_index tabOk rfl rfl rfl rfl rfl rfl (by omega) | exact R_fieldi tabOk rfl rfl rfl | exact R_loadi tabOk rfl rfl rfl rfl rfl rfl rfl | exact R_len tabOk rfl rfl rfl | exact R_load tabOk rfl rfl rfl rfl rfl rfl rfl rfl rfl | exact R_field tabOk rfl rfl rfl rfl | exact Y_add rfl rfl rfl (by first | exact wrap_succ (by omega) | exact wrap_pred (by omega) (by omega) | exact wrap_i64 ⟨by omega, by omega⟩ | rfl) | exact Y_sub rfl rfl rfl (by first | exact wrap_succ (by omega) | exact wrap_pred (by omega) (by omega) | exact wrap_i64 ⟨by omega, by omega⟩ | rfl) | exact R_cmpT rfl rfl rfl rfl (by first | (simp only [decide_eq_true_eq, beq_iff_eq, bne_iff_ne, ne_eq]; done) | (simp only [decide_eq_true_eq, beq_iff_eq, bne_iff_ne, ne_eq]; omega)) | exact R_cmpF rfl rfl rfl rfl (by first | (simp only [decide_eq_false_iff_not, beq_eq_false_iff_ne, bne_eq_false_iff_eq, ne_eq]; done) | (simp only [decide_eq_false_iff_not, beq_eq_false_iff_ne, bne_eq_false_iff_eq, ne_eq]; omega)) | exact Y_ibin rfl rfl rfl rfl | exact Y_extract rfl rfl rfl | exact R_lenr tabOk rfl rfl rfl rfl | exact R_lenn tabOk rfl rfl rfl | exact R_indexr tabOk rfl rfl rfl rfl rfl rfl rfl (by omega) | exact R_fielde tabOk rfl rfl rfl rfl | exact R_loade tabOk rfl rfl rfl rfl rfl rfl rfl rfl rfl | exact Y_not rfl rfl | exact Y_pick_t rfl rfl (by first | rfl | assumption) rfl | exact Y_pick_f rfl rfl (by first | rfl | assumption) rfl | exact Y_pick_b rfl rfl rfl rfl | exact R_build tabOk rfl rfl rfl rfl rfl rfl | fail))
                | refine O_nil ?_
                | refine Q_nil ?_
                | refine X_then_normal ?_
                | refine X_in_normal ?_
                | refine O_box rfl rfl rfl rfl rfl rfl rfl ?_
                | refine O_alloc tabOk rfl rfl rfl rfl rfl rfl ?_
                | refine O_store tabOk rfl rfl rfl rfl rfl rfl rfl rfl rfl rfl rfl ?_
                | refine O_slice tabOk rfl rfl rfl rfl rfl rfl rfl rfl rfl rfl rfl ?_
                | refine A_condt rfl (by first | rfl | assumption | (first | (simp only [decide_eq_true_eq]; done) | (simp only [decide_eq_true_eq]; omega))) ?_
                | refine A_condf rfl (by first | rfl | assumption | (first | (simp only [decide_eq_false_iff_not]; done) | (simp only [decide_eq_false_iff_not]; omega))) ?_
                | refine A_skip ?_
                | refine A_exit ?_
                | refine A_ret ?_
                | refine X_then_exit ?_
                | refine X_then_ret ?_
                | refine X_in_same ?_
                | refine X_in_other rfl ?_
                | refine X_in_ret ?_
                | refine O_s rfl rfl rfl ?_
                | refine Q_s rfl rfl rfl ?_
                | refine O_sn rfl rfl ?_
                | fail)
              exact Wk_sel trivial ⟨rfl, rfl, rfl, rfl, rfl, rfl, rfl, trivial⟩
            · refine X_in_normal ?_
              refine X_then_normal ?_
              exact AWk.refl
          · have hpf := pfxEq p p
            rw [show (p == p) = true by simp] at hpf
            repeat (first
              | refine A_seq ?_
              | refine A_block ?_
              | refine R_list ?_
              | refine R_quiet rfl mixed (by kernel_rfl) ?_
              | ((first | apply O_y rfl rfl rfl | apply Q_y rfl rfl rfl); (first | exact Y_move rfl rfl | exact Y_assign rfl rfl | exact R_index tabOk rfl rfl rfl rfl rfl rfl (by omega) | exact R_fieldi tabOk rfl rfl rfl | exact R_loadi tabOk rfl rfl rfl rfl rfl rfl rfl | exact R_len tabOk rfl rfl rfl | exact R_load tabOk rfl rfl rfl rfl rfl rfl rfl rfl rfl | exact R_field tabOk rfl rfl rfl rfl | exact Y_add rfl rfl rfl (by first | exact wrap_succ (by omega) | exact wrap_pred (by omega) (by omega) | exact wrap_i64 ⟨by omega, by omega⟩ | rfl) | exact Y_sub rfl rfl rfl (by first | exact wrap_succ (by omega) | exact wrap_pred (by omega) (by omega) | exact wrap_i64 ⟨by omega, by omega⟩ | rfl) | exact R_cmpT rfl rfl rfl rfl (by first | (simp only [decide_eq_true_eq, beq_iff_eq, bne_iff_ne, ne_eq]; done) | (simp only [decide_eq_true_eq, beq_iff_eq, bne_iff_ne, ne_eq]; omega)) | exact R_cmpF rfl rfl rfl rfl (by first | (simp only [decide_eq_false_iff_not, beq_eq_false_iff_ne, bne_eq_false_iff_eq, ne_eq]; done) | (simp only [decide_eq_false_iff_not, beq_eq_false_iff_ne, bne_eq_false_iff_eq, ne_eq]; omega)) | exact Y_ibin rfl rfl rfl rfl | exact Y_extract rfl rfl rfl | exact R_lenr tabOk rfl rfl rfl rfl | exact R_lenn tabOk rfl rfl rfl | exact R_indexr tabOk rfl rfl rfl rfl rfl rfl rfl (by omega) | exact R_fielde tabOk rfl rfl rfl rfl | exact R_loade tabOk rfl rfl rfl rfl rfl rfl rfl rfl rfl | exact Y_not rfl rfl | exact Y_pick_t rfl rfl (by first | rfl | assumption) rfl | exact Y_pick_f rfl rfl (by first | rfl | assumption) rfl | exact Y_pick_b rfl rfl rfl rfl | exact R_build tabOk rfl rfl rfl rfl rfl rfl | fail))
              | refine O_nil ?_
              | refine Q_nil ?_
              | refine X_then_normal ?_
              | refine X_in_normal ?_
              | refine O_box rfl rfl rfl rfl rfl rfl rfl ?_
              | refine O_alloc tabOk rfl rfl rfl rfl rfl rfl ?_
              | refine O_store tabOk rfl rfl rfl rfl rfl rfl rfl rfl rfl rfl rfl ?_
              | refine O_slice tabOk rfl rfl rfl rfl rfl rfl rfl rfl rfl rfl rfl ?_
              | refine A_condt rfl (by first | rfl | assumption | (first | (simp only [decide_eq_true_eq]; done) | (simp only [decide_eq_true_eq]; omega))) ?_
              | refine A_condf rfl (by first | rfl | assumption | (first | (simp only [decide_eq_false_iff_not]; done) | (simp only [decide_eq_false_iff_not]; omega))) ?_
              | refine A_skip ?_
              | refine A_exit ?_
              | refine A_ret ?_
              | refine X_then_exit ?_
              | refine X_then_ret ?_
              | refine X_in_same ?_
              | refine X_in_other rfl ?_
              | refine X_in_ret ?_
              | refine O_s rfl rfl rfl ?_
              | refine Q_s rfl rfl rfl ?_
              | refine O_sn rfl rfl ?_
              | (refine O_cTbl 3 902 (by omega) hlongs rfl rfl rfl rfl rfl rfl rfl rfl rfl ?_))
            refine O_weaken (Wk_sel (e1 := [(170, .ptr 4 0), (171, .d (.sc (.int .u32 x))), (8, .ptr 8 0), (20, .ptr 20 0), (21, intA v), (22, boolA is)]) (h1 := (20, ag_pfxB p) :: gH q s t') ⟨rfl, rfl, rfl, rfl, rfl, rfl, trivial⟩ ⟨rfl, rfl, rfl, rfl, rfl, kill_map 20 s.2, rfl, kill_map 20 t'.2, trivial⟩) ?_
            refine O_cTbl 4 903 (by omega) hlongt rfl rfl rfl rfl rfl rfl rfl rfl rfl ?_
            repeat (first
              | refine A_seq ?_
              | refine A_block ?_
              | refine R_list ?_
              | refine R_quiet rfl mixed (by kernel_rfl) ?_
              | ((first | apply O_y rfl rfl rfl | apply Q_y rfl rfl rfl); (first | exact Y_move rfl rfl | exact Y_assign rfl rfl | exact R_index tabOk rfl rfl rfl rfl rfl rfl (by omega) | exact R_fieldi tabOk rfl rfl rfl | exact R_loadi tabOk rfl rfl rfl rfl rfl rfl rfl | exact R_len tabOk rfl rfl rfl | exact R_load tabOk rfl rfl rfl rfl rfl rfl rfl rfl rfl | exact R_field tabOk rfl rfl rfl rfl | exact Y_add rfl rfl rfl (by first | exact wrap_succ (by omega) | exact wrap_pred (by omega) (by omega) | exact wrap_i64 ⟨by omega, by omega⟩ | rfl) | exact Y_sub rfl rfl rfl (by first | exact wrap_succ (by omega) | exact wrap_pred (by omega) (by omega) | exact wrap_i64 ⟨by omega, by omega⟩ | rfl) | exact R_cmpT rfl rfl rfl rfl (by first | (simp only [decide_eq_true_eq, beq_iff_eq, bne_iff_ne, ne_eq]; done) | (simp only [decide_eq_true_eq, beq_iff_eq, bne_iff_ne, ne_eq]; omega)) | exact R_cmpF rfl rfl rfl rfl (by first | (simp only [decide_eq_false_iff_not, beq_eq_false_iff_ne, bne_eq_false_iff_eq, ne_eq]; done) | (simp only [decide_eq_false_iff_not, beq_eq_false_iff_ne, bne_eq_false_iff_eq, ne_eq]; omega)) | exact Y_ibin rfl rfl rfl rfl | exact Y_extract rfl rfl rfl | exact R_lenr tabOk rfl rfl rfl rfl | exact R_lenn tabOk rfl rfl rfl | exact R_indexr tabOk rfl rfl rfl rfl rfl rfl rfl (by omega) | exact R_fielde tabOk rfl rfl rfl rfl | exact R_loade tabOk rfl rfl rfl rfl rfl rfl rfl rfl rfl | exact Y_not rfl rfl | exact Y_pick_t rfl rfl (by first | rfl | assumption) rfl | exact Y_pick_f rfl rfl (by first | rfl | assumption) rfl | exact Y_pick_b rfl rfl rfl rfl | exact R_build tabOk rfl rfl rfl rfl rfl rfl | (first | exact Y_eq tabOk noStand rfl rfl rfl rfl rfl rfl rfl rfl rfl (by kernel_rfl) hpf rfl | exact Y_beq tabOk rfl rfl rfl rfl (beq_self_eq_true is))))
              | refine O_nil ?_
              | refine Q_nil ?_
              | refine X_then_normal ?_
              | refine X_in_normal ?_
              | refine O_box rfl rfl rfl rfl rfl rfl rfl ?_
              | refine O_alloc tabOk rfl rfl rfl rfl rfl rfl ?_
              | refine O_store tabOk rfl rfl rfl rfl rfl rfl rfl rfl rfl rfl rfl ?_
              | refine O_slice tabOk rfl rfl rfl rfl rfl rfl rfl rfl rfl rfl rfl ?_
              | refine A_condt rfl (by first | rfl | assumption | (first | (simp only [decide_eq_true_eq]; done) | (simp only [decide_eq_true_eq]; omega))) ?_
              | refine A_condf rfl (by first | rfl | assumption | (first | (simp only [decide_eq_false_iff_not]; done) | (simp only [decide_eq_false_iff_not]; omega))) ?_
              | refine A_skip ?_
              | refine A_exit ?_
              | refine A_ret ?_
              | refine X_then_exit ?_
              | refine X_then_ret ?_
              | refine X_in_same ?_
              | refine X_in_other rfl ?_
              | refine X_in_ret ?_
              | refine O_s rfl rfl rfl ?_
              | refine Q_s rfl rfl rfl ?_
              | refine O_sn rfl rfl ?_
              | fail)
            exact X_ret rfl ⟨rfl, rfl⟩
end Go.Proofs.Ytaecjmjdhbjbkaa.Ab

/-
  Tables of numbers by prefixes: the prefixes in which an address is; the longest.
-/
import Derived.Test.YtaecjmjdhbjbkaaTblA
import Derived.Test.YtaecjmjdhbjbkaaAddrW
namespace Go.Proofs.Ytaecjmjdhbjbkaa.Ab
set_option linter.unusedVariables false
set_option maxRecDepth 100000
open Go.RowKit
set_option linter.unusedSimpArgs false
attribute [local irreducible] AWp AOps AQ AYield AEff ACall AWk AAny AAt AThen AIn APost NoPanic

theorem subnet_A (x : Int) (k : Nat) (hk : k ≤ 32) (x0 : 0 ≤ x) (x1 : x < 4294967296) : ACall Try.prog 70 [.d (.sc (.int .u32 x)), intA (k : Int)] [] (Just (.tup [pfxA (sub x k), intA 0])) :=
  ACall_val (by kernel_rfl) rfl rfl rfl fun w => addrSubnet_any x (k : Int) w (by omega) (by omega) x0 x1
/-- The prefixes of fewer than k bits of the table that are of x's. -/
def overS (u : Nat → Int) (l : List (Pfx × Int)) (x : Int) (k : Nat) : List Pfx := ((List.range k).filter fun b => !(u b == 0) && (aget l (sub x (b : Nat))).isSome).map fun b => sub x (b : Nat)
theorem overS_in (u : Nat → Int) (l : List (Pfx × Int)) (x : Int) (k : Nat) (h1 : u k ≠ 0) {z : Int} (h2 : aget l (sub x (k : Nat)) = some z) : overS u l x (k + 1) = overS u l x k ++ [sub x (k : Nat)] := by
  unfold overS
  rw [List.range_succ, List.filter_append, List.map_append]
  simp [h1, h2]
theorem overS_no (u : Nat → Int) (l : List (Pfx × Int)) (x : Int) (k : Nat) (h1 : u k = 0 ∨ aget l (sub x (k : Nat)) = none) : overS u l x (k + 1) = overS u l x k := by
  unfold overS
  rw [List.range_succ, List.filter_append, List.map_append]
  rcases h1 with h1 | h1 <;> simp [h1]
theorem overS_len (u : Nat → Int) (l : List (Pfx × Int)) (x : Int) (k : Nat) : (overS u l x k).length ≤ k := by
  unfold overS
  rw [List.length_map]
  exact Nat.le_trans (List.length_filter_le _ _) (by simp)
theorem kill3 (i j k : Nat) (l : List (Pfx × Int)) : some (killB i (killB j (killB k (mapB l)))) = some (mapB l) := by
  have h : ∀ i, killB i (mapB l) = mapB l := fun i => Option.some.inj (kill_map i l)
  rw [h, h, h]
theorem freeze_map (id : Nat) (x : Dat) (l : List (Pfx × Int)) : some (frB id x (mapB l)) = some (mapB l) := by
  show some (ABlk.map ((l.map fun p => (pfxA p.1, intA p.2)).map fun p => (frV id x p.1, frV id x p.2))) = _
  rw [List.map_map]
  rfl
set_option maxHeartbeats 4000000 in
theorem over_A (u : Nat → Int) (l : List (Pfx × Int)) (x : Int) (x0 : 0 ≤ x) (x1 : x < 4294967296) (hn : (l.map (·.1)).Nodup) :
    ACall Try.prog 51 [.ptr 1000 0, .d (.sc (.int .u32 x))] [(1000, tblB 1001 u), (1001, mapB l)] (fun c h => c = pfxsA (overS u l x 33) ∧ h = [(1000, tblB 1001 u), (1001, mapB l)]) := by
  refine ACall_of tabOk Try.func51 rfl Try.ntmps51 (congrArg Array.toList Try.results51) (by kernel_rfl) rfl ?_
  repeat (first
    | refine A_seq ?_
    | refine A_block ?_
    | refine R_list ?_
    | refine R_quiet rfl mixed (by kernel_rfl) ?_
    | ((first | apply O_y rfl rfl rfl | apply Q_y rfl rfl rfl); (first | exact Y_move rfl rfl | exact Y_assign rfl rfl | exact R_index tabOk rfl rfl rfl rfl rfl rfl (by omega) | exact R_fieldi tabOk rfl rfl rfl | exact R_loadi tabOk rfl rfl rfl rfl rfl rfl rfl | exact R_len tabOk rfl rfl rfl | exact R_load tabOk rfl rfl rfl rfl rfl rfl rfl rfl rfl | exact R_field tabOk rfl rfl rfl rfl | exact Y_add rfl rfl rfl (by first | exact wrap_succ (by omega) | exact wrap_pred (by omega) (by omega) | exact wrap_i64 ⟨by omega, by omega⟩ | rfl) | exact Y_sub rfl rfl rfl (by first | exact wrap_succ (by omega) | exact wrap_pred (by omega) (by omega) | exact wrap_i64 ⟨by omega, by omega⟩ | rfl) | exact R_cmpT rfl rfl rfl rfl (by first | (simp only [decide_eq_true_eq, beq_iff_eq, bne_iff_ne, ne_eq]; done) | (simp only [decide_eq_true_eq, beq_iff_eq, bne_iff_ne, ne_eq]; omega)) | exact R_cmpF rfl rfl rfl rfl (by first | (simp only [decide_eq_false_iff_not, beq_eq_false_iff_ne, bne_eq_false_iff_eq, ne_eq]; done) | (simp only [decide_eq_false_iff_not, beq_eq_false_iff_ne, bne_eq_false_iff_eq, ne_eq]; omega)) | exact Y_ibin rfl rfl rfl rfl | exact Y_extract rfl rfl rfl | exact R_lenr tabOk rfl rfl rfl rfl | exact R_lenn tabOk rfl rfl rfl | exact R_indexr tabOk rfl rfl rfl rfl rfl rfl rfl (by omega) | exact R_fielde tabOk rfl rfl rfl rfl | exact R_loade tabOk rfl rfl rfl rfl rfl rfl rfl rfl rfl | exact Y_not rfl rfl | exact Y_pick_t rfl rfl (by first | rfl | assumption) rfl | exact Y_pick_f rfl rfl (by first | rfl | assumption) rfl | exact Y_pick_b rfl rfl rfl rfl | exact R_build tabOk rfl rfl rfl rfl rfl rfl | (first | exact R_pnil tabOk rfl rfl rfl rfl rfl | exact Y_nilCheck rfl rfl rfl)))
    | refine O_nil ?_
    | refine Q_nil ?_
    | refine X_then_normal ?_
    | refine X_in_normal ?_
    | refine O_box rfl rfl rfl rfl rfl rfl rfl ?_
    | refine O_alloc tabOk rfl rfl rfl rfl rfl rfl ?_
    | refine O_store tabOk rfl rfl rfl rfl rfl rfl rfl rfl rfl rfl rfl ?_
    | refine O_slice tabOk rfl rfl rfl rfl rfl rfl rfl rfl rfl rfl rfl ?_
    | refine A_condt rfl (by first | rfl | assumption | (first | (simp only [decide_eq_true_eq]; done) | (simp only [decide_eq_true_eq]; omega))) ?_
    | refine A_condf rfl (by first | rfl | assumption | (first | (simp only [decide_eq_false_iff_not]; done) | (simp only [decide_eq_false_iff_not]; omega))) ?_
    | refine A_skip ?_
    | refine A_exit ?_
    | refine A_ret ?_
    | refine X_then_exit ?_
    | refine X_then_ret ?_
    | refine X_in_same ?_
    | refine X_in_other rfl ?_
    | refine X_in_ret ?_
    | refine O_s rfl rfl rfl ?_
    | refine Q_s rfl rfl rfl ?_
    | refine O_sn rfl rfl ?_
    | fail)
  refine A_weaken (Wk_nil 26 2 (t := 5) (id := 5) rfl rfl) ?_
  refine A_loop (fun k : Nat => [(0, .ptr 1000 0), (1, .d (.sc (.int .u32 x))), (5, .row 5), (17, .agg (usedA u)), (18, intA (k : Int))]) (fun k => [(5, .row 26 2 (overS u l x k).length ((overS u l x k).flatMap pfxD)), (1000, tblB 1001 u), (1001, mapB l)]) (fun k => k ≤ 33) (fun k => 33 - k) 0 (by omega) (Wk_sel ⟨rfl, rfl, rfl, rfl, rfl, trivial⟩ ⟨rfl, rfl, kill_map 5 l, trivial⟩) ?_
  intro k hk
  dsimp only
  have hlen := overS_len u l x k
  by_cases hlt : k < 33
  · have hk32 : k ≤ 32 := by omega
    have huk : (usedA u)[k]? = some (intA (u k)) := by simp [usedA, List.getElem?_map, List.getElem?_range hlt]
    by_cases h0 : u k = 0
    ·
      repeat (first
        | refine A_seq ?_
        | refine A_block ?_
        | refine R_list ?_
        | refine R_quiet rfl mixed (by kernel_rfl) ?_
        | ((first | apply O_y rfl rfl rfl | apply Q_y rfl rfl rfl); (first | exact Y_move rfl rfl | exact Y_assign rfl rfl | exact R_index tabOk rfl rfl rfl rfl rfl rfl (by omega) | exact R_fieldi tabOk rfl rfl rfl | exact R_loadi tabOk rfl rfl rfl rfl rfl rfl rfl | exact R_len tabOk rfl rfl rfl | exact R_load tabOk rfl rfl rfl rfl rfl rfl rfl rfl rfl | exact R_field tabOk rfl rfl rfl rfl | exact Y_add rfl rfl rfl (by first | exact wrap_succ (by omega) | exact wrap_pred (by omega) (by omega) | exact wrap_i64 ⟨by omega, by omega⟩ | rfl) | exact Y_sub rfl rfl rfl (by first | exact wrap_succ (by omega) | exact wrap_pred (by omega) (by omega) | exact wrap_i64 ⟨by omega, by omega⟩ | rfl) | exact R_cmpT rfl rfl rfl rfl (by first | (simp only [decide_eq_true_eq, beq_iff_eq, bne_iff_ne, ne_eq]; done) | (simp only [decide_eq_true_eq, beq_iff_eq, bne_iff_ne, ne_eq]; omega)) | exact R_cmpF rfl rfl rfl rfl (by first | (simp only [decide_eq_false_iff_not, beq_eq_false_iff_ne, bne_eq_false_iff_eq, ne_eq]; done) | (simp only [decide_eq_false_iff_not, beq_eq_false_iff_ne, bne_eq_false_iff_eq, ne_eq]; omega)) | exact Y_ibin rfl rfl rfl rfl | exact Y_extract rfl rfl rfl | exact R_lenr tabOk rfl rfl rfl rfl | exact R_lenn tabOk rfl rfl rfl | exact R_indexr tabOk rfl rfl rfl rfl rfl rfl rfl (by omega) | exact R_fielde tabOk rfl rfl rfl rfl | exact R_loade tabOk rfl rfl rfl rfl rfl rfl rfl rfl rfl | exact Y_not rfl rfl | exact Y_pick_t rfl rfl (by first | rfl | assumption) rfl | exact Y_pick_f rfl rfl (by first | rfl | assumption) rfl | exact Y_pick_b rfl rfl rfl rfl | exact R_build tabOk rfl rfl rfl rfl rfl rfl | (first | exact R_ixa tabOk rfl rfl rfl rfl rfl rfl rfl hlt huk)))
        | refine O_nil ?_
        | refine Q_nil ?_
        | refine X_then_normal ?_
        | refine X_in_normal ?_
        | refine O_box rfl rfl rfl rfl rfl rfl rfl ?_
        | refine O_alloc tabOk rfl rfl rfl rfl rfl rfl ?_
        | refine O_store tabOk rfl rfl rfl rfl rfl rfl rfl rfl rfl rfl rfl ?_
        | refine O_slice tabOk rfl rfl rfl rfl rfl rfl rfl rfl rfl rfl rfl ?_
        | refine A_condt rfl (by first | rfl | assumption | (first | (simp only [decide_eq_true_eq]; done) | (simp only [decide_eq_true_eq]; omega))) ?_
        | refine A_condf rfl (by first | rfl | assumption | (first | (simp only [decide_eq_false_iff_not]; done) | (simp only [decide_eq_false_iff_not]; omega))) ?_
        | refine A_skip ?_
        | refine A_exit ?_
        | refine A_ret ?_
        | refine X_then_exit ?_
        | refine X_then_ret ?_
        | refine X_in_same ?_
        | refine X_in_other rfl ?_
        | refine X_in_ret ?_
        | refine O_s rfl rfl rfl ?_
        | refine Q_s rfl rfl rfl ?_
        | refine O_sn rfl rfl ?_
        | fail)
      exact ⟨k + 1, by omega, by omega, Wk_sel ⟨rfl, rfl, rfl, rfl, rfl, trivial⟩ ⟨by rw [overS_no u l x k (.inl h0)]; rfl, rfl, rfl, trivial⟩⟩
    · cases hag : aget l (sub x (k : Nat)) with
      | none =>
        repeat (first
          | refine A_seq ?_
          | refine A_block ?_
          | refine R_list ?_
          | refine R_quiet rfl mixed (by kernel_rfl) ?_
          | ((first | apply O_y rfl rfl rfl | apply Q_y rfl rfl rfl); (first | exact Y_move rfl rfl | exact Y_assign rfl rfl | exact R_index tabOk rfl rfl rfl rfl rfl rfl (by omega) | exact R_fieldi tabOk rfl rfl rfl | exact R_loadi tabOk rfl rfl rfl rfl rfl rfl rfl | exact R_len tabOk rfl rfl rfl | exact R_load tabOk rfl rfl rfl rfl rfl rfl rfl rfl rfl | exact R_field tabOk rfl rfl rfl rfl | exact Y_add rfl rfl rfl (by first | exact wrap_succ (by omega) | exact wrap_pred (by omega) (by omega) | exact wrap_i64 ⟨by omega, by omega⟩ | rfl) | exact Y_sub rfl rfl rfl (by first | exact wrap_succ (by omega) | exact wrap_pred (by omega) (by omega) | exact wrap_i64 ⟨by omega, by omega⟩ | rfl) | exact R_cmpT rfl rfl rfl rfl (by first | (simp only [decide_eq_true_eq, beq_iff_eq, bne_iff_ne, ne_eq]; done) | (simp only [decide_eq_true_eq, beq_iff_eq, bne_iff_ne, ne_eq]; omega)) | exact R_cmpF rfl rfl rfl rfl (by first | (simp only [decide_eq_false_iff_not, beq_eq_false_iff_ne, bne_eq_false_iff_eq, ne_eq]; done) | (simp only [decide_eq_false_iff_not, beq_eq_false_iff_ne, bne_eq_false_iff_eq, ne_eq]; omega)) | exact Y_ibin rfl rfl rfl rfl | exact Y_extract rfl rfl rfl | exact R_lenr tabOk rfl rfl rfl rfl | exact R_lenn tabOk rfl rfl rfl | exact R_indexr tabOk rfl rfl rfl rfl rfl rfl rfl (by omega) | exact R_fielde tabOk rfl rfl rfl rfl | exact R_loade tabOk rfl rfl rfl rfl rfl rfl rfl rfl rfl | exact Y_not rfl rfl | exact Y_pick_t rfl rfl (by first | rfl | assumption) rfl | exact Y_pick_f rfl rfl (by first | rfl | assumption) rfl | exact Y_pick_b rfl rfl rfl rfl | exact R_build tabOk rfl rfl rfl rfl rfl rfl | (first | exact R_ixa tabOk rfl rfl rfl rfl rfl rfl rfl hlt huk | exact Y_nilCheck rfl rfl rfl | exact R_lkOut pfxKey pfxA_val zeroInt rfl trivial (fun _ _ => trivial) hn hag tabOk rfl rfl rfl (kill_map 8 l) rfl rfl)))
          | refine O_nil ?_
          | refine Q_nil ?_
          | refine X_then_normal ?_
          | refine X_in_normal ?_
          | refine O_box rfl rfl rfl rfl rfl rfl rfl ?_
          | refine O_alloc tabOk rfl rfl rfl rfl rfl rfl ?_
          | refine O_store tabOk rfl rfl rfl rfl rfl rfl rfl rfl rfl rfl rfl ?_
          | refine O_slice tabOk rfl rfl rfl rfl rfl rfl rfl rfl rfl rfl rfl ?_
          | refine A_condt rfl (by first | rfl | assumption | (first | (simp only [decide_eq_true_eq]; done) | (simp only [decide_eq_true_eq]; omega))) ?_
          | refine A_condf rfl (by first | rfl | assumption | (first | (simp only [decide_eq_false_iff_not]; done) | (simp only [decide_eq_false_iff_not]; omega))) ?_
          | refine A_skip ?_
          | refine A_exit ?_
          | refine A_ret ?_
          | refine X_then_exit ?_
          | refine X_then_ret ?_
          | refine X_in_same ?_
          | refine X_in_other rfl ?_
          | refine X_in_ret ?_
          | refine O_s rfl rfl rfl ?_
          | refine Q_s rfl rfl rfl ?_
          | refine O_sn rfl rfl ?_
          | refine O_c rfl rfl rfl rfl rfl (subnet_A x k hk32 x0 x1) (fun _ => rfl) ?_)
        exact ⟨k + 1, by omega, by omega, Wk_sel ⟨rfl, rfl, rfl, rfl, rfl, trivial⟩ ⟨by rw [overS_no u l x k (.inr hag)]; rfl, rfl, kill_map 8 l, trivial⟩⟩
      | some z =>
        repeat (first
          | refine A_seq ?_
          | refine A_block ?_
          | refine R_list ?_
          | refine R_quiet rfl mixed (by kernel_rfl) ?_
          | ((first | apply O_y rfl rfl rfl | apply Q_y rfl rfl rfl); (first | exact Y_move rfl rfl | exact Y_assign rfl rfl | exact R_index tabOk rfl rfl rfl rfl rfl rfl (by omega) | exact R_fieldi tabOk rfl rfl rfl | exact R_loadi tabOk rfl rfl rfl rfl rfl rfl rfl | exact R_len tabOk rfl rfl rfl | exact R_load tabOk rfl rfl rfl rfl rfl rfl rfl rfl rfl | exact R_field tabOk rfl rfl rfl rfl | exact Y_add rfl rfl rfl (by first | exact wrap_succ (by omega) | exact wrap_pred (by omega) (by omega) | exact wrap_i64 ⟨by omega, by omega⟩ | rfl) | exact Y_sub rfl rfl rfl (by first | exact wrap_succ (by omega) | exact wrap_pred (by omega) (by omega) | exact wrap_i64 ⟨by omega, by omega⟩ | rfl) | exact R_cmpT rfl rfl rfl rfl (by first | (simp only [decide_eq_true_eq, beq_iff_eq, bne_iff_ne, ne_eq]; done) | (simp only [decide_eq_true_eq, beq_iff_eq, bne_iff_ne, ne_eq]; omega)) | exact R_cmpF rfl rfl rfl rfl (by first | (simp only [decide_eq_false_iff_not, beq_eq_false_iff_ne, bne_eq_false_iff_eq, ne_eq]; done) | (simp only [decide_eq_false_iff_not, beq_eq_false_iff_ne, bne_eq_false_iff_eq, ne_eq]; omega)) | exact Y_ibin rfl rfl rfl rfl | exact Y_extract rfl rfl rfl | exact R_lenr tabOk rfl rfl rfl rfl | exact R_lenn tabOk rfl rfl rfl | exact R_indexr tabOk rfl rfl rfl rfl rfl rfl rfl (by omega) | exact R_fielde tabOk rfl rfl rfl rfl | exact R_loade tabOk rfl rfl rfl rfl rfl rfl rfl rfl rfl | exact Y_not rfl rfl | exact Y_pick_t rfl rfl (by first | rfl | assumption) rfl | exact Y_pick_f rfl rfl (by first | rfl | assumption) rfl | exact Y_pick_b rfl rfl rfl rfl | exact R_build tabOk rfl rfl rfl rfl rfl rfl | (first | exact R_ixa tabOk rfl rfl rfl rfl rfl rfl rfl hlt huk | exact Y_nilCheck rfl rfl rfl | exact R_lkIn pfxKey pfxA_val zeroInt trivial (fun _ _ => trivial) hn hag tabOk rfl rfl rfl (kill_map 8 l) rfl rfl)))
          | refine O_nil ?_
          | refine Q_nil ?_
          | refine X_then_normal ?_
          | refine X_in_normal ?_
          | refine O_box rfl rfl rfl rfl rfl rfl rfl ?_
          | refine O_alloc tabOk rfl rfl rfl rfl rfl rfl ?_
          | refine O_store tabOk rfl rfl rfl rfl rfl rfl rfl rfl rfl rfl rfl ?_
          | refine O_slice tabOk rfl rfl rfl rfl rfl rfl rfl rfl rfl rfl rfl ?_
          | refine A_condt rfl (by first | rfl | assumption | (first | (simp only [decide_eq_true_eq]; done) | (simp only [decide_eq_true_eq]; omega))) ?_
          | refine A_condf rfl (by first | rfl | assumption | (first | (simp only [decide_eq_false_iff_not]; done) | (simp only [decide_eq_false_iff_not]; omega))) ?_
          | refine A_skip ?_
          | refine A_exit ?_
          | refine A_ret ?_
          | refine X_then_exit ?_
          | refine X_then_ret ?_
          | refine X_in_same ?_
          | refine X_in_other rfl ?_
          | refine X_in_ret ?_
          | refine O_s rfl rfl rfl ?_
          | refine Q_s rfl rfl rfl ?_
          | refine O_sn rfl rfl ?_
          | (first | refine O_c rfl rfl rfl rfl rfl (subnet_A x k hk32 x0 x1) (fun _ => rfl) ?_ | (first | refine O_appR tabOk rfl rfl rfl rfl rfl rfl rfl rfl rfl rfl rfl (by first | exact Src.row rfl | exact Src.dat _ _ | exact Src.nil) rfl (by omega) ?_ | refine O_appN tabOk rfl rfl rfl rfl rfl rfl rfl rfl rfl rfl (by first | exact Src.row rfl | exact Src.dat _ _ | exact Src.nil) rfl (by omega) ?_)))
        exact ⟨k + 1, by omega, by omega, Wk_sel ⟨rfl, rfl, rfl, rfl, rfl, trivial⟩ ⟨row_eq (by rw [overS_in u l x k h0 hag]; simp) (by rw [overS_in u l x k h0 hag, List.flatMap_append]; simp [pfxD]) rfl, rfl, kill3 _ _ _ l, trivial⟩⟩
  · have hk33 : k = 33 := by omega
    subst hk33
    repeat (first
      | refine A_seq ?_
      | refine A_block ?_
      | refine R_list ?_
      | refine R_quiet rfl mixed (by kernel_rfl) ?_
      | ((first | apply O_y rfl rfl rfl | apply Q_y rfl rfl rfl); (first | exact Y_move rfl rfl | exact Y_assign rfl rfl | exact R_index tabOk rfl rfl rfl rfl rfl rfl (by omega) | exact R_fieldi tabOk rfl rfl rfl | exact R_loadi tabOk rfl rfl rfl rfl rfl rfl rfl | exact R_len tabOk rfl rfl rfl | exact R_load tabOk rfl rfl rfl rfl rfl rfl rfl rfl rfl | exact R_field tabOk rfl rfl rfl rfl | exact Y_add rfl rfl rfl (by first | exact wrap_succ (by omega) | exact wrap_pred (by omega) (by omega) | exact wrap_i64 ⟨by omega, by omega⟩ | rfl) | exact Y_sub rfl rfl rfl (by first | exact wrap_succ (by omega) | exact wrap_pred (by omega) (by omega) | exact wrap_i64 ⟨by omega, by omega⟩ | rfl) | exact R_cmpT rfl rfl rfl rfl (by first | (simp only [decide_eq_true_eq, beq_iff_eq, bne_iff_ne, ne_eq]; done) | (simp only [decide_eq_true_eq, beq_iff_eq, bne_iff_ne, ne_eq]; omega)) | exact R_cmpF rfl rfl rfl rfl (by first | (simp only [decide_eq_false_iff_not, beq_eq_false_iff_ne, bne_eq_false_iff_eq, ne_eq]; done) | (simp only [decide_eq_false_iff_not, beq_eq_false_iff_ne, bne_eq_false_iff_eq, ne_eq]; omega)) | exact Y_ibin rfl rfl rfl rfl | exact Y_extract rfl rfl rfl | exact R_lenr tabOk rfl rfl rfl rfl | exact R_lenn tabOk rfl rfl rfl | exact R_indexr tabOk rfl rfl rfl rfl rfl rfl rfl (by omega) | exact R_fielde tabOk rfl rfl rfl rfl | exact R_loade tabOk rfl rfl rfl rfl rfl rfl rfl rfl rfl | exact Y_not rfl rfl | exact Y_pick_t rfl rfl (by first | rfl | assumption) rfl | exact Y_pick_f rfl rfl (by first | rfl | assumption) rfl | exact Y_pick_b rfl rfl rfl rfl | exact R_build tabOk rfl rfl rfl rfl rfl rfl | fail))
      | refine O_nil ?_
      | refine Q_nil ?_
      | refine X_then_normal ?_
      | refine X_in_normal ?_
      | refine O_box rfl rfl rfl rfl rfl rfl rfl ?_
      | refine O_alloc tabOk rfl rfl rfl rfl rfl rfl ?_
      | refine O_store tabOk rfl rfl rfl rfl rfl rfl rfl rfl rfl rfl rfl ?_
      | refine O_slice tabOk rfl rfl rfl rfl rfl rfl rfl rfl rfl rfl rfl ?_
      | refine A_condt rfl (by first | rfl | assumption | (first | (simp only [decide_eq_true_eq]; done) | (simp only [decide_eq_true_eq]; omega))) ?_
      | refine A_condf rfl (by first | rfl | assumption | (first | (simp only [decide_eq_false_iff_not]; done) | (simp only [decide_eq_false_iff_not]; omega))) ?_
      | refine A_skip ?_
      | refine A_exit ?_
      | refine A_ret ?_
      | refine X_then_exit ?_
      | refine X_then_ret ?_
      | refine X_in_same ?_
      | refine X_in_other rfl ?_
      | refine X_in_ret ?_
      | refine O_s rfl rfl rfl ?_
      | refine Q_s rfl rfl rfl ?_
      | refine O_sn rfl rfl ?_
      | fail)
    refine X_retW (Wk_freeze (id := 5) rfl) rfl (h2 := [(1000, tblB 1001 u), (1001, mapB l)]) ⟨rfl, freeze_map _ _ l, trivial⟩ ⟨rfl, rfl⟩
end Go.Proofs.Ytaecjmjdhbjbkaa.Ab

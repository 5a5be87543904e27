/-
  Tables of numbers by prefixes: calls that are handed a table; the longest prefix.
-/
import Derived.Test.YtaecjmjdhbjbkaaTblOver
namespace Go.Proofs.Ytaecjmjdhbjbkaa.Ab
set_option linter.unusedVariables false
set_option maxRecDepth 100000
open Go.RowKit
set_option linter.unusedSimpArgs false
attribute [local irreducible] AWp AOps AQ AYield AEff ACall AWk AAny AAt AThen AIn APost NoPanic

theorem ren_map (ρ : List (Nat × Nat)) (l : List (Pfx × Int)) : renB ρ (mapB l) = mapB l := by
  show ABlk.map ((l.map fun p => (pfxA p.1, intA p.2)).map fun p => (renV ρ p.1, renV ρ p.2)) = _
  rw [List.map_map]
  rfl
theorem ok_map (ρ : List (Nat × Nat)) (l : List (Pfx × Int)) : okB ρ (mapB l) := by
  intro p hp
  obtain ⟨q, _, rfl⟩ := List.mem_map.1 hp
  exact ⟨rfl, rfl⟩
theorem ok_tbl (i j : Nat) (u : Nat → Int) : okB [(1000, i), (1001, j)] (tblB 1001 u) := by
  intro c hc
  rcases List.mem_cons.1 hc with rfl | hc
  · rfl
  · obtain ⟨b, _, rfl⟩ := List.mem_map.1 hc
    rfl
theorem ren_tbl (i j : Nat) (u : Nat → Int) : renB [(1000, i), (1001, j)] (tblB 1001 u) = tblB j u := by
  show ABlk.var (renV _ (.mp 1001) :: (usedA u).map (renV _)) = _
  unfold tblB usedA
  rw [List.map_map]
  rfl
section
variable {P : Program} {nt : Nat} {Q : Post} {e : Env} {h : Heap} {o : Oper} {ops : Array Oper} {rest : List Oper}
theorem look_pass {p k i j : Nat} (h : look [(1000, i), (1001, j)] p = some k) : (p = 1000 ∧ k = i) ∨ (p = 1001 ∧ k = j) := by
  by_cases h1 : 1000 = p
  · subst h1; rw [look_cons_same] at h; cases h; exact .inl ⟨rfl, rfl⟩
  · rw [look_cons_ne _ _ h1] at h
    by_cases h2 : 1001 = p
    · subst h2; rw [look_cons_same] at h; cases h; exact .inr ⟨rfl, rfl⟩
    · rw [look_cons_ne _ _ h2] at h; cases h
/-- A call that gets a table of ours. -/
theorem O_cTbl {f : FuncId} {args : Array Operand} {ats : Array TypeId} {cs0 cs : List AVal} {c : AVal} {d : Nat} (i j : Nat) (hij : i ≠ j) {u u' : Nat → Int} {l l' : List (Pfx × Int)}
    (H : ACall P f cs [(1000, tblB 1001 u), (1001, mapB l)] (fun c' h' => c' = c ∧ h' = [(1000, tblB 1001 u'), (1001, mapB l')])) (hw : awant ops e o = some true) (hdst : o.dst = some d) (hd : Nat.blt d nt = true) (ho : o.op = .call { callee := .value (.func f), args := args, argTypes := ats }) (hx : aevs e args.toList = some cs0)
    (hok : cs.all (okV [(1000, i), (1001, j)]) = true) (hcs : cs.map (renV [(1000, i), (1001, j)]) = cs0) (hi : look h i = some (tblB j u)) (hj : look h j = some (mapB l))
    (HK : AOps P nt ops Q rest ((d, renV [(1000, i), (1001, j)] c) :: e) ((i, tblB j u') :: (j, mapB l') :: h)) : AOps P nt ops Q (o :: rest) e h := by
  refine O_cP [(1000, i), (1001, j)] (fun p p' k h1 h2 => ?_) (fun p k h1 => ?_) H (fun c hc => List.all_eq_true.1 hok c hc) ⟨⟨i, _, rfl, hi, ren_tbl i j u, ok_tbl i j u⟩, ⟨j, _, rfl, hj, ren_map _ l, ok_map _ l⟩, trivial⟩ hw hdst hd ho hx hcs ?_
  · rcases look_pass h1 with ⟨h3, h4⟩ | ⟨h3, h4⟩ <;> rcases look_pass h2 with ⟨h5, h6⟩ | ⟨h5, h6⟩ <;> omega
  · rcases look_pass h1 with ⟨h3, h4⟩ | ⟨h3, h4⟩ <;> subst h3 <;> exact ⟨by omega, rfl, rfl⟩
  · have e1 : renH [(1000, i), (1001, j)] [(1000, tblB 1001 u'), (1001, mapB l')] ++ h = (i, tblB j u') :: (j, mapB l') :: h := by
      show (i, renB _ (tblB 1001 u')) :: (j, renB _ (mapB l')) :: ([] ++ h) = _
      rw [ren_tbl, ren_map]
      rfl
    rw [e1]
    exact HK
end
theorem overS_mem (u : Nat → Int) (l : List (Pfx × Int)) (x : Int) (k : Nat) (q : Pfx) (h : q ∈ overS u l x k) : ∃ z, aget l q = some z := by
  unfold overS at h
  obtain ⟨b, hb, rfl⟩ := List.mem_map.1 h
  have := (List.mem_filter.1 hb).2
  simp only [Bool.and_eq_true] at this
  exact Option.isSome_iff_exists.1 this.2
/-- What Longest tells. -/
def longR (u : Nat → Int) (l : List (Pfx × Int)) (x : Int) : Pfx × Int × Bool := match (overS u l x 33).getLast? with
  | some p => (p, (aget l p).getD 0, true)
  | none => (⟨0, 0⟩, 0, false)
set_option maxHeartbeats 4000000 in
theorem longest_A (u : Nat → Int) (l : List (Pfx × Int)) (x : Int) (x0 : 0 ≤ x) (x1 : x < 4294967296) (hn : (l.map (·.1)).Nodup) :
    ACall Try.prog 18 [.ptr 1000 0, .d (.sc (.int .u32 x))] [(1000, tblB 1001 u), (1001, mapB l)] (fun c h => c = .tup [pfxA (longR u l x).1, intA (longR u l x).2.1, boolA (longR u l x).2.2] ∧ h = [(1000, tblB 1001 u), (1001, mapB l)]) := by
  refine ACall_of tabOk Try.func18 rfl Try.ntmps18 (congrArg Array.toList Try.results18) (by kernel_rfl) rfl ?_
  refine A_seq ?_
  refine R_list ?_
  refine O_alloc tabOk rfl rfl rfl rfl rfl rfl ?_
  refine O_weaken (Wk_sel (e1 := [(0, .ptr 1000 0), (1, .d (.sc (.int .u32 x))), (4, .ptr 4 0)]) (h1 := [(4, .var [.d (.sc (.int .u32 0)), .d (.sc (.int .i64 0))]), (1000, tblB 1001 u), (1001, mapB l)]) ⟨rfl, rfl, rfl, trivial⟩ ⟨rfl, rfl, kill_map 4 l, trivial⟩) ?_
  obtain ⟨L, hL⟩ : ∃ L, overS u l x 33 = L := ⟨_, rfl⟩
  have hov := over_A u l x x0 x1 hn
  rw [hL] at hov
  have hLn : L.length ≤ 33 := by rw [← hL]; exact overS_len u l x 33
  unfold longR
  rw [hL]
  by_cases h0 : L.length = 0
  · have : L = [] := List.length_eq_zero_iff.1 h0
    subst this
    repeat (first
      | refine A_seq ?_
      | refine A_block ?_
      | refine R_list ?_
      | refine R_quiet rfl mixed (by kernel_rfl) ?_
      | ((first | apply O_y rfl rfl rfl | apply Q_y rfl rfl rfl); (first | exact Y_move rfl rfl | exact Y_assign rfl rfl | exact R_index tabOk rfl rfl rfl rfl rfl rfl (by omega) | exact R_fieldi tabOk rfl rfl rfl | exact R_loadi tabOk rfl rfl rfl rfl rfl rfl rfl | exact R_len tabOk rfl rfl rfl | exact R_load tabOk rfl rfl rfl rfl rfl rfl rfl rfl rfl | exact R_field tabOk rfl rfl rfl rfl | exact Y_add rfl rfl rfl (by first | exact wrap_succ (by omega) | exact wrap_pred (by omega) (by omega) | exact wrap_i64 ⟨by omega, by omega⟩ | rfl) | exact Y_sub rfl rfl rfl (by first | exact wrap_succ (by omega) | exact wrap_pred (by omega) (by omega) | exact wrap_i64 ⟨by omega, by omega⟩ | rfl) | exact R_cmpT rfl rfl rfl rfl (by first | (simp only [decide_eq_true_eq, beq_iff_eq, bne_iff_ne, ne_eq]; done) | (simp only [decide_eq_true_eq, beq_iff_eq, bne_iff_ne, ne_eq]; omega)) | exact R_cmpF rfl rfl rfl rfl (by first | (simp only [decide_eq_false_iff_not, beq_eq_false_iff_ne, bne_eq_false_iff_eq, ne_eq]; done) | (simp only [decide_eq_false_iff_not, beq_eq_false_iff_ne, bne_eq_false_iff_eq, ne_eq]; omega)) | exact Y_ibin rfl rfl rfl rfl | exact Y_extract rfl rfl rfl | exact R_lenr tabOk rfl rfl rfl rfl | exact R_lenn tabOk rfl rfl rfl | exact R_indexr tabOk rfl rfl rfl rfl rfl rfl rfl (by omega) | exact R_fielde tabOk rfl rfl rfl rfl | exact R_loade tabOk rfl rfl rfl rfl rfl rfl rfl rfl rfl | exact Y_not rfl rfl | exact Y_pick_t rfl rfl (by first | rfl | assumption) rfl | exact Y_pick_f rfl rfl (by first | rfl | assumption) rfl | exact Y_pick_b rfl rfl rfl rfl | exact R_build tabOk rfl rfl rfl rfl rfl rfl | fail))
      | refine O_nil ?_
      | refine Q_nil ?_
      | refine X_then_normal ?_
      | refine X_in_normal ?_
      | refine O_box rfl rfl rfl rfl rfl rfl rfl ?_
      | refine O_alloc tabOk rfl rfl rfl rfl rfl rfl ?_
      | refine O_store tabOk rfl rfl rfl rfl rfl rfl rfl rfl rfl rfl rfl ?_
      | refine O_slice tabOk rfl rfl rfl rfl rfl rfl rfl rfl rfl rfl rfl ?_
      | refine A_condt rfl (by first | rfl | assumption | (first | (simp only [decide_eq_true_eq]; done) | (simp only [decide_eq_true_eq]; omega))) ?_
      | refine A_condf rfl (by first | rfl | assumption | (first | (simp only [decide_eq_false_iff_not]; done) | (simp only [decide_eq_false_iff_not]; omega))) ?_
      | refine A_skip ?_
      | refine A_exit ?_
      | refine A_ret ?_
      | refine X_then_exit ?_
      | refine X_then_ret ?_
      | refine X_in_same ?_
      | refine X_in_other rfl ?_
      | refine X_in_ret ?_
      | refine O_s rfl rfl rfl ?_
      | refine Q_s rfl rfl rfl ?_
      | refine O_sn rfl rfl ?_
      | (refine O_cTbl 1000 1001 (by omega) hov rfl rfl rfl rfl rfl rfl rfl rfl rfl ?_))
    exact X_retW AWk.refl rfl (h2 := [(1000, tblB 1001 u), (1001, mapB l)]) ⟨rfl, rfl, trivial⟩ ⟨rfl, rfl⟩
  · have hlt : L.length - 1 < L.length := by omega
    repeat (first
      | refine A_seq ?_
      | refine A_block ?_
      | refine R_list ?_
      | refine R_quiet rfl mixed (by kernel_rfl) ?_
      | ((first | apply O_y rfl rfl rfl | apply Q_y rfl rfl rfl); (first | exact Y_move rfl rfl | exact Y_assign rfl rfl | exact R_index tabOk rfl rfl rfl rfl rfl rfl (by omega) | exact R_fieldi tabOk rfl rfl rfl | exact R_loadi tabOk rfl rfl rfl rfl (by first | exact win_flat0 pfxD_len L (L.length - 1) _ hlt (by decide) | exact win_flat pfxD_len L (L.length - 1) _ _ hlt (by decide) | exact win_flat2 pfxD_len L (L.length - 1) _ _ _ hlt (by decide) | rfl) rfl rfl | exact R_len tabOk rfl rfl rfl | exact R_load tabOk rfl rfl rfl rfl rfl rfl rfl rfl rfl | exact R_field tabOk rfl rfl rfl rfl | exact Y_add rfl rfl rfl (by first | exact wrap_succ (by omega) | exact wrap_pred (by omega) (by omega) | exact wrap_i64 ⟨by omega, by omega⟩ | rfl) | exact Y_sub rfl rfl rfl (by first | exact wrap_succ (by omega) | exact wrap_pred (by omega) (by omega) | exact wrap_i64 ⟨by omega, by omega⟩ | rfl) | exact R_cmpT rfl rfl rfl rfl (by first | (simp only [decide_eq_true_eq, beq_iff_eq, bne_iff_ne, ne_eq]; done) | (simp only [decide_eq_true_eq, beq_iff_eq, bne_iff_ne, ne_eq]; omega)) | exact R_cmpF rfl rfl rfl rfl (by first | (simp only [decide_eq_false_iff_not, beq_eq_false_iff_ne, bne_eq_false_iff_eq, ne_eq]; done) | (simp only [decide_eq_false_iff_not, beq_eq_false_iff_ne, bne_eq_false_iff_eq, ne_eq]; omega)) | exact Y_ibin rfl rfl rfl rfl | exact Y_extract rfl rfl rfl | exact R_lenr tabOk rfl rfl rfl rfl | exact R_lenn tabOk rfl rfl rfl | exact R_indexr tabOk rfl rfl rfl rfl rfl rfl rfl (by omega) | exact R_fielde tabOk rfl rfl rfl rfl | exact R_loade tabOk rfl rfl rfl rfl rfl rfl rfl rfl rfl | exact Y_not rfl rfl | exact Y_pick_t rfl rfl (by first | rfl | assumption) rfl | exact Y_pick_f rfl rfl (by first | rfl | assumption) rfl | exact Y_pick_b rfl rfl rfl rfl | exact R_build tabOk rfl rfl rfl rfl rfl rfl | (exact R_index (j := L.length - 1) tabOk rfl rfl rfl rfl rfl (by omega) hlt)))
      | refine O_nil ?_
      | refine Q_nil ?_
      | refine X_then_normal ?_
      | refine X_in_normal ?_
      | refine O_box rfl rfl rfl rfl rfl rfl rfl ?_
      | refine O_alloc tabOk rfl rfl rfl rfl rfl rfl ?_
      | refine O_store tabOk rfl rfl rfl rfl rfl rfl rfl rfl rfl rfl rfl ?_
      | refine O_slice tabOk rfl rfl rfl rfl rfl rfl rfl rfl rfl rfl rfl ?_
      | refine A_condt rfl (by first | rfl | assumption | (first | (simp only [decide_eq_true_eq]; done) | (simp only [decide_eq_true_eq]; omega))) ?_
      | refine A_condf rfl (by first | rfl | assumption | (first | (simp only [decide_eq_false_iff_not]; done) | (simp only [decide_eq_false_iff_not]; omega))) ?_
      | refine A_skip ?_
      | refine A_exit ?_
      | refine A_ret ?_
      | refine X_then_exit ?_
      | refine X_then_ret ?_
      | refine X_in_same ?_
      | refine X_in_other rfl ?_
      | refine X_in_ret ?_
      | refine O_s rfl rfl rfl ?_
      | refine Q_s rfl rfl rfl ?_
      | refine O_sn rfl rfl ?_
      | (refine O_cTbl 1000 1001 (by omega) hov rfl rfl rfl rfl rfl rfl rfl rfl rfl ?_))
    obtain ⟨q, hq⟩ : ∃ q, L[L.length - 1] = q := ⟨_, rfl⟩
    have hlast : L.getLast? = some q := by rw [List.getLast?_eq_getElem?, List.getElem?_eq_getElem hlt, hq]
    obtain ⟨z, hz⟩ : ∃ z, aget l q = some z := by
      refine overS_mem u l x 33 q ?_
      rw [hL]
      exact List.mem_of_getElem? (by rw [← hq]; exact List.getElem?_eq_getElem hlt)
    rw [hq]
    refine A_weaken (Wk_sel (e1 := [(0, .ptr 1000 0), (4, .ptr 4 0)]) (h1 := [(4, .var [.d (.sc (.int .u32 q.a)), .d (.sc (.int .i64 q.b))]), (1000, tblB 1001 u), (1001, mapB l)]) ⟨rfl, rfl, trivial⟩ ⟨rfl, rfl, rfl, trivial⟩) ?_
    refine N_begin [4] mixed ?_
    repeat (first
      | ((first
        | apply N_takeN (i := 0) rfl rfl (by kernel_rfl) (by decide +kernel) (by decide +kernel) (by repeat (first | exact np_post | apply np_then | apply np_in)) rfl rfl rfl
        | apply N_takeN (i := 1) rfl rfl (by kernel_rfl) (by decide +kernel) (by decide +kernel) (by repeat (first | exact np_post | apply np_then | apply np_in)) rfl rfl rfl
        | apply N_takeN (i := 2) rfl rfl (by kernel_rfl) (by decide +kernel) (by decide +kernel) (by repeat (first | exact np_post | apply np_then | apply np_in)) rfl rfl rfl
        | apply N_takeN (i := 3) rfl rfl (by kernel_rfl) (by decide +kernel) (by decide +kernel) (by repeat (first | exact np_post | apply np_then | apply np_in)) rfl rfl rfl
        | apply N_takeN (i := 4) rfl rfl (by kernel_rfl) (by decide +kernel) (by decide +kernel) (by repeat (first | exact np_post | apply np_then | apply np_in)) rfl rfl rfl
        | apply N_takeN (i := 5) rfl rfl (by kernel_rfl) (by decide +kernel) (by decide +kernel) (by repeat (first | exact np_post | apply np_then | apply np_in)) rfl rfl rfl
        | apply N_takeN (i := 6) rfl rfl (by kernel_rfl) (by decide +kernel) (by decide +kernel) (by repeat (first | exact np_post | apply np_then | apply np_in)) rfl rfl rfl
        | apply N_takeN (i := 7) rfl rfl (by kernel_rfl) (by decide +kernel) (by decide +kernel) (by repeat (first | exact np_post | apply np_then | apply np_in)) rfl rfl rfl
        | apply N_takeN (i := 8) rfl rfl (by kernel_rfl) (by decide +kernel) (by decide +kernel) (by repeat (first | exact np_post | apply np_then | apply np_in)) rfl rfl rfl
        | apply N_takeN (i := 9) rfl rfl (by kernel_rfl) (by decide +kernel) (by decide +kernel) (by repeat (first | exact np_post | apply np_then | apply np_in)) rfl rfl rfl
        | apply N_takeN (i := 10) rfl rfl (by kernel_rfl) (by decide +kernel) (by decide +kernel) (by repeat (first | exact np_post | apply np_then | apply np_in)) rfl rfl rfl
        | apply N_takeN (i := 11) rfl rfl (by kernel_rfl) (by decide +kernel) (by decide +kernel) (by repeat (first | exact np_post | apply np_then | apply np_in)) rfl rfl rfl
        | apply N_takeN (i := 12) rfl rfl (by kernel_rfl) (by decide +kernel) (by decide +kernel) (by repeat (first | exact np_post | apply np_then | apply np_in)) rfl rfl rfl
        ); (first | exact Y_move rfl rfl | exact Y_assign rfl rfl | exact R_index tabOk rfl rfl rfl rfl rfl rfl (by omega) | exact R_fieldi tabOk rfl rfl rfl | exact R_loadi tabOk rfl rfl rfl rfl rfl rfl rfl | exact R_len tabOk rfl rfl rfl | exact R_load tabOk rfl rfl rfl rfl rfl rfl rfl rfl rfl | exact R_field tabOk rfl rfl rfl rfl | exact Y_add rfl rfl rfl (by first | exact wrap_succ (by omega) | exact wrap_pred (by omega) (by omega) | exact wrap_i64 ⟨by omega, by omega⟩ | rfl) | exact Y_sub rfl rfl rfl (by first | exact wrap_succ (by omega) | exact wrap_pred (by omega) (by omega) | exact wrap_i64 ⟨by omega, by omega⟩ | rfl) | exact R_cmpT rfl rfl rfl rfl (by first | (simp only [decide_eq_true_eq, beq_iff_eq, bne_iff_ne, ne_eq]; done) | (simp only [decide_eq_true_eq, beq_iff_eq, bne_iff_ne, ne_eq]; omega)) | exact R_cmpF rfl rfl rfl rfl (by first | (simp only [decide_eq_false_iff_not, beq_eq_false_iff_ne, bne_eq_false_iff_eq, ne_eq]; done) | (simp only [decide_eq_false_iff_not, beq_eq_false_iff_ne, bne_eq_false_iff_eq, ne_eq]; omega)) | exact Y_ibin rfl rfl rfl rfl | exact Y_extract rfl rfl rfl | exact R_lenr tabOk rfl rfl rfl rfl | exact R_lenn tabOk rfl rfl rfl | exact R_indexr tabOk rfl rfl rfl rfl rfl rfl rfl (by omega) | exact R_fielde tabOk rfl rfl rfl rfl | exact R_loade tabOk rfl rfl rfl rfl rfl rfl rfl rfl rfl | exact Y_not rfl rfl | exact Y_pick_t rfl rfl (by first | rfl | assumption) rfl | exact Y_pick_f rfl rfl (by first | rfl | assumption) rfl | exact Y_pick_b rfl rfl rfl rfl | exact R_build tabOk rfl rfl rfl rfl rfl rfl | (first | exact Y_nilCheck rfl rfl rfl | exact R_lk1 pfxKey pfxA_val zeroInt trivial (fun _ _ => trivial) hn hz tabOk rfl rfl rfl rfl rfl rfl)))
      | (apply N_takeL (i := 0) rfl rfl (by kernel_rfl) (by decide +kernel) (by decide +kernel) (by repeat (first | exact np_post | apply np_then | apply np_in)) rfl rfl rfl; (first | exact R_loadi tabOk rfl rfl rfl rfl rfl rfl rfl | exact R_len tabOk rfl rfl rfl | exact R_load tabOk rfl rfl rfl rfl rfl rfl rfl rfl rfl | exact R_lenr tabOk rfl rfl rfl rfl | exact R_lenn tabOk rfl rfl rfl | exact R_loade tabOk rfl rfl rfl rfl rfl rfl rfl rfl rfl | (first | exact Y_nilCheck rfl rfl rfl | exact R_lk1 pfxKey pfxA_val zeroInt trivial (fun _ _ => trivial) hn hz tabOk rfl rfl rfl rfl rfl rfl)))
      | (apply N_takeL (i := 1) rfl rfl (by kernel_rfl) (by decide +kernel) (by decide +kernel) (by repeat (first | exact np_post | apply np_then | apply np_in)) rfl rfl rfl; (first | exact R_loadi tabOk rfl rfl rfl rfl rfl rfl rfl | exact R_len tabOk rfl rfl rfl | exact R_load tabOk rfl rfl rfl rfl rfl rfl rfl rfl rfl | exact R_lenr tabOk rfl rfl rfl rfl | exact R_lenn tabOk rfl rfl rfl | exact R_loade tabOk rfl rfl rfl rfl rfl rfl rfl rfl rfl | (first | exact Y_nilCheck rfl rfl rfl | exact R_lk1 pfxKey pfxA_val zeroInt trivial (fun _ _ => trivial) hn hz tabOk rfl rfl rfl rfl rfl rfl)))
      | (apply N_takeL (i := 2) rfl rfl (by kernel_rfl) (by decide +kernel) (by decide +kernel) (by repeat (first | exact np_post | apply np_then | apply np_in)) rfl rfl rfl; (first | exact R_loadi tabOk rfl rfl rfl rfl rfl rfl rfl | exact R_len tabOk rfl rfl rfl | exact R_load tabOk rfl rfl rfl rfl rfl rfl rfl rfl rfl | exact R_lenr tabOk rfl rfl rfl rfl | exact R_lenn tabOk rfl rfl rfl | exact R_loade tabOk rfl rfl rfl rfl rfl rfl rfl rfl rfl | (first | exact Y_nilCheck rfl rfl rfl | exact R_lk1 pfxKey pfxA_val zeroInt trivial (fun _ _ => trivial) hn hz tabOk rfl rfl rfl rfl rfl rfl)))
      | (apply N_takeL (i := 3) rfl rfl (by kernel_rfl) (by decide +kernel) (by decide +kernel) (by repeat (first | exact np_post | apply np_then | apply np_in)) rfl rfl rfl; (first | exact R_loadi tabOk rfl rfl rfl rfl rfl rfl rfl | exact R_len tabOk rfl rfl rfl | exact R_load tabOk rfl rfl rfl rfl rfl rfl rfl rfl rfl | exact R_lenr tabOk rfl rfl rfl rfl | exact R_lenn tabOk rfl rfl rfl | exact R_loade tabOk rfl rfl rfl rfl rfl rfl rfl rfl rfl | (first | exact Y_nilCheck rfl rfl rfl | exact R_lk1 pfxKey pfxA_val zeroInt trivial (fun _ _ => trivial) hn hz tabOk rfl rfl rfl rfl rfl rfl)))
      | (apply N_takeL (i := 4) rfl rfl (by kernel_rfl) (by decide +kernel) (by decide +kernel) (by repeat (first | exact np_post | apply np_then | apply np_in)) rfl rfl rfl; (first | exact R_loadi tabOk rfl rfl rfl rfl rfl rfl rfl | exact R_len tabOk rfl rfl rfl | exact R_load tabOk rfl rfl rfl rfl rfl rfl rfl rfl rfl | exact R_lenr tabOk rfl rfl rfl rfl | exact R_lenn tabOk rfl rfl rfl | exact R_loade tabOk rfl rfl rfl rfl rfl rfl rfl rfl rfl | (first | exact Y_nilCheck rfl rfl rfl | exact R_lk1 pfxKey pfxA_val zeroInt trivial (fun _ _ => trivial) hn hz tabOk rfl rfl rfl rfl rfl rfl)))
      | (apply N_takeL (i := 5) rfl rfl (by kernel_rfl) (by decide +kernel) (by decide +kernel) (by repeat (first | exact np_post | apply np_then | apply np_in)) rfl rfl rfl; (first | exact R_loadi tabOk rfl rfl rfl rfl rfl rfl rfl | exact R_len tabOk rfl rfl rfl | exact R_load tabOk rfl rfl rfl rfl rfl rfl rfl rfl rfl | exact R_lenr tabOk rfl rfl rfl rfl | exact R_lenn tabOk rfl rfl rfl | exact R_loade tabOk rfl rfl rfl rfl rfl rfl rfl rfl rfl | (first | exact Y_nilCheck rfl rfl rfl | exact R_lk1 pfxKey pfxA_val zeroInt trivial (fun _ _ => trivial) hn hz tabOk rfl rfl rfl rfl rfl rfl)))
      | (apply N_takeL (i := 6) rfl rfl (by kernel_rfl) (by decide +kernel) (by decide +kernel) (by repeat (first | exact np_post | apply np_then | apply np_in)) rfl rfl rfl; (first | exact R_loadi tabOk rfl rfl rfl rfl rfl rfl rfl | exact R_len tabOk rfl rfl rfl | exact R_load tabOk rfl rfl rfl rfl rfl rfl rfl rfl rfl | exact R_lenr tabOk rfl rfl rfl rfl | exact R_lenn tabOk rfl rfl rfl | exact R_loade tabOk rfl rfl rfl rfl rfl rfl rfl rfl rfl | (first | exact Y_nilCheck rfl rfl rfl | exact R_lk1 pfxKey pfxA_val zeroInt trivial (fun _ _ => trivial) hn hz tabOk rfl rfl rfl rfl rfl rfl)))
      | (apply N_takeL (i := 7) rfl rfl (by kernel_rfl) (by decide +kernel) (by decide +kernel) (by repeat (first | exact np_post | apply np_then | apply np_in)) rfl rfl rfl; (first | exact R_loadi tabOk rfl rfl rfl rfl rfl rfl rfl | exact R_len tabOk rfl rfl rfl | exact R_load tabOk rfl rfl rfl rfl rfl rfl rfl rfl rfl | exact R_lenr tabOk rfl rfl rfl rfl | exact R_lenn tabOk rfl rfl rfl | exact R_loade tabOk rfl rfl rfl rfl rfl rfl rfl rfl rfl | (first | exact Y_nilCheck rfl rfl rfl | exact R_lk1 pfxKey pfxA_val zeroInt trivial (fun _ _ => trivial) hn hz tabOk rfl rfl rfl rfl rfl rfl)))
      | (apply N_takeL (i := 8) rfl rfl (by kernel_rfl) (by decide +kernel) (by decide +kernel) (by repeat (first | exact np_post | apply np_then | apply np_in)) rfl rfl rfl; (first | exact R_loadi tabOk rfl rfl rfl rfl rfl rfl rfl | exact R_len tabOk rfl rfl rfl | exact R_load tabOk rfl rfl rfl rfl rfl rfl rfl rfl rfl | exact R_lenr tabOk rfl rfl rfl rfl | exact R_lenn tabOk rfl rfl rfl | exact R_loade tabOk rfl rfl rfl rfl rfl rfl rfl rfl rfl | (first | exact Y_nilCheck rfl rfl rfl | exact R_lk1 pfxKey pfxA_val zeroInt trivial (fun _ _ => trivial) hn hz tabOk rfl rfl rfl rfl rfl rfl)))
      | (apply N_takeL (i := 9) rfl rfl (by kernel_rfl) (by decide +kernel) (by decide +kernel) (by repeat (first | exact np_post | apply np_then | apply np_in)) rfl rfl rfl; (first | exact R_loadi tabOk rfl rfl rfl rfl rfl rfl rfl | exact R_len tabOk rfl rfl rfl | exact R_load tabOk rfl rfl rfl rfl rfl rfl rfl rfl rfl | exact R_lenr tabOk rfl rfl rfl rfl | exact R_lenn tabOk rfl rfl rfl | exact R_loade tabOk rfl rfl rfl rfl rfl rfl rfl rfl rfl | (first | exact Y_nilCheck rfl rfl rfl | exact R_lk1 pfxKey pfxA_val zeroInt trivial (fun _ _ => trivial) hn hz tabOk rfl rfl rfl rfl rfl rfl)))
      | (apply N_takeL (i := 10) rfl rfl (by kernel_rfl) (by decide +kernel) (by decide +kernel) (by repeat (first | exact np_post | apply np_then | apply np_in)) rfl rfl rfl; (first | exact R_loadi tabOk rfl rfl rfl rfl rfl rfl rfl | exact R_len tabOk rfl rfl rfl | exact R_load tabOk rfl rfl rfl rfl rfl rfl rfl rfl rfl | exact R_lenr tabOk rfl rfl rfl rfl | exact R_lenn tabOk rfl rfl rfl | exact R_loade tabOk rfl rfl rfl rfl rfl rfl rfl rfl rfl | (first | exact Y_nilCheck rfl rfl rfl | exact R_lk1 pfxKey pfxA_val zeroInt trivial (fun _ _ => trivial) hn hz tabOk rfl rfl rfl rfl rfl rfl)))
      | (apply N_takeL (i := 11) rfl rfl (by kernel_rfl) (by decide +kernel) (by decide +kernel) (by repeat (first | exact np_post | apply np_then | apply np_in)) rfl rfl rfl; (first | exact R_loadi tabOk rfl rfl rfl rfl rfl rfl rfl | exact R_len tabOk rfl rfl rfl | exact R_load tabOk rfl rfl rfl rfl rfl rfl rfl rfl rfl | exact R_lenr tabOk rfl rfl rfl rfl | exact R_lenn tabOk rfl rfl rfl | exact R_loade tabOk rfl rfl rfl rfl rfl rfl rfl rfl rfl | (first | exact Y_nilCheck rfl rfl rfl | exact R_lk1 pfxKey pfxA_val zeroInt trivial (fun _ _ => trivial) hn hz tabOk rfl rfl rfl rfl rfl rfl)))
      | (apply N_takeL (i := 12) rfl rfl (by kernel_rfl) (by decide +kernel) (by decide +kernel) (by repeat (first | exact np_post | apply np_then | apply np_in)) rfl rfl rfl; (first | exact R_loadi tabOk rfl rfl rfl rfl rfl rfl rfl | exact R_len tabOk rfl rfl rfl | exact R_load tabOk rfl rfl rfl rfl rfl rfl rfl rfl rfl | exact R_lenr tabOk rfl rfl rfl rfl | exact R_lenn tabOk rfl rfl rfl | exact R_loade tabOk rfl rfl rfl rfl rfl rfl rfl rfl rfl | (first | exact Y_nilCheck rfl rfl rfl | exact R_lk1 pfxKey pfxA_val zeroInt trivial (fun _ _ => trivial) hn hz tabOk rfl rfl rfl rfl rfl rfl)))
      | refine N_one (j := 0) (by decide +kernel) ?_
      | refine N_one (j := 1) (by decide +kernel) ?_
      | refine N_one (j := 2) (by decide +kernel) ?_
      | refine N_one (j := 3) (by decide +kernel) ?_
      | refine N_one (j := 4) (by decide +kernel) ?_
      | refine N_one (j := 5) (by decide +kernel) ?_
      | refine N_one (j := 6) (by decide +kernel) ?_
      | refine N_one (j := 7) (by decide +kernel) ?_
      | refine N_one (j := 8) (by decide +kernel) ?_
      | refine N_one (j := 9) (by decide +kernel) ?_
      | refine N_one (j := 10) (by decide +kernel) ?_
      | refine N_one (j := 11) (by decide +kernel) ?_
      | refine N_one (j := 12) (by decide +kernel) ?_
      | refine T_alloc tabOk rfl rfl rfl rfl rfl rfl rfl ?_
      | refine T_store tabOk rfl rfl rfl rfl rfl rfl rfl rfl rfl rfl rfl rfl rfl ?_
      | refine T_box rfl rfl rfl rfl rfl rfl rfl rfl ?_
      | (apply T_yield rfl rfl rfl rfl; (first | exact Y_move rfl rfl | exact Y_assign rfl rfl | exact R_index tabOk rfl rfl rfl rfl rfl rfl (by omega) | exact R_fieldi tabOk rfl rfl rfl | exact R_loadi tabOk rfl rfl rfl rfl rfl rfl rfl | exact R_len tabOk rfl rfl rfl | exact R_load tabOk rfl rfl rfl rfl rfl rfl rfl rfl rfl | exact R_field tabOk rfl rfl rfl rfl | exact Y_add rfl rfl rfl (by first | exact wrap_succ (by omega) | exact wrap_pred (by omega) (by omega) | exact wrap_i64 ⟨by omega, by omega⟩ | rfl) | exact Y_sub rfl rfl rfl (by first | exact wrap_succ (by omega) | exact wrap_pred (by omega) (by omega) | exact wrap_i64 ⟨by omega, by omega⟩ | rfl) | exact R_cmpT rfl rfl rfl rfl (by first | (simp only [decide_eq_true_eq, beq_iff_eq, bne_iff_ne, ne_eq]; done) | (simp only [decide_eq_true_eq, beq_iff_eq, bne_iff_ne, ne_eq]; omega)) | exact R_cmpF rfl rfl rfl rfl (by first | (simp only [decide_eq_false_iff_not, beq_eq_false_iff_ne, bne_eq_false_iff_eq, ne_eq]; done) | (simp only [decide_eq_false_iff_not, beq_eq_false_iff_ne, bne_eq_false_iff_eq, ne_eq]; omega)) | exact Y_ibin rfl rfl rfl rfl | exact Y_extract rfl rfl rfl | exact R_lenr tabOk rfl rfl rfl rfl | exact R_lenn tabOk rfl rfl rfl | exact R_indexr tabOk rfl rfl rfl rfl rfl rfl rfl (by omega) | exact R_fielde tabOk rfl rfl rfl rfl | exact R_loade tabOk rfl rfl rfl rfl rfl rfl rfl rfl rfl | exact Y_not rfl rfl | exact Y_pick_t rfl rfl (by first | rfl | assumption) rfl | exact Y_pick_f rfl rfl (by first | rfl | assumption) rfl | exact Y_pick_b rfl rfl rfl rfl | exact R_build tabOk rfl rfl rfl rfl rfl rfl | (first | exact Y_nilCheck rfl rfl rfl | exact R_lk1 pfxKey pfxA_val zeroInt trivial (fun _ _ => trivial) hn hz tabOk rfl rfl rfl rfl rfl rfl)))
      | refine N_done (by decide +kernel) ?_
      | fail)
    refine N_two (j := 0) (k := 5) (by decide +kernel) ?_ ?_
    ·
      repeat (first
        | ((first
          | apply N_takeN (i := 0) rfl rfl (by kernel_rfl) (by decide +kernel) (by decide +kernel) (by repeat (first | exact np_post | apply np_then | apply np_in)) rfl rfl rfl
          | apply N_takeN (i := 1) rfl rfl (by kernel_rfl) (by decide +kernel) (by decide +kernel) (by repeat (first | exact np_post | apply np_then | apply np_in)) rfl rfl rfl
          | apply N_takeN (i := 2) rfl rfl (by kernel_rfl) (by decide +kernel) (by decide +kernel) (by repeat (first | exact np_post | apply np_then | apply np_in)) rfl rfl rfl
          | apply N_takeN (i := 3) rfl rfl (by kernel_rfl) (by decide +kernel) (by decide +kernel) (by repeat (first | exact np_post | apply np_then | apply np_in)) rfl rfl rfl
          | apply N_takeN (i := 4) rfl rfl (by kernel_rfl) (by decide +kernel) (by decide +kernel) (by repeat (first | exact np_post | apply np_then | apply np_in)) rfl rfl rfl
          | apply N_takeN (i := 5) rfl rfl (by kernel_rfl) (by decide +kernel) (by decide +kernel) (by repeat (first | exact np_post | apply np_then | apply np_in)) rfl rfl rfl
          | apply N_takeN (i := 6) rfl rfl (by kernel_rfl) (by decide +kernel) (by decide +kernel) (by repeat (first | exact np_post | apply np_then | apply np_in)) rfl rfl rfl
          | apply N_takeN (i := 7) rfl rfl (by kernel_rfl) (by decide +kernel) (by decide +kernel) (by repeat (first | exact np_post | apply np_then | apply np_in)) rfl rfl rfl
          | apply N_takeN (i := 8) rfl rfl (by kernel_rfl) (by decide +kernel) (by decide +kernel) (by repeat (first | exact np_post | apply np_then | apply np_in)) rfl rfl rfl
          | apply N_takeN (i := 9) rfl rfl (by kernel_rfl) (by decide +kernel) (by decide +kernel) (by repeat (first | exact np_post | apply np_then | apply np_in)) rfl rfl rfl
          | apply N_takeN (i := 10) rfl rfl (by kernel_rfl) (by decide +kernel) (by decide +kernel) (by repeat (first | exact np_post | apply np_then | apply np_in)) rfl rfl rfl
          | apply N_takeN (i := 11) rfl rfl (by kernel_rfl) (by decide +kernel) (by decide +kernel) (by repeat (first | exact np_post | apply np_then | apply np_in)) rfl rfl rfl
          | apply N_takeN (i := 12) rfl rfl (by kernel_rfl) (by decide +kernel) (by decide +kernel) (by repeat (first | exact np_post | apply np_then | apply np_in)) rfl rfl rfl
          ); (first | exact Y_move rfl rfl | exact Y_assign rfl rfl | exact R_index tabOk rfl rfl rfl rfl rfl rfl (by omega) | exact R_fieldi tabOk rfl rfl rfl | exact R_loadi tabOk rfl rfl rfl rfl rfl rfl rfl | exact R_len tabOk rfl rfl rfl | exact R_load tabOk rfl rfl rfl rfl rfl rfl rfl rfl rfl | exact R_field tabOk rfl rfl rfl rfl | exact Y_add rfl rfl rfl (by first | exact wrap_succ (by omega) | exact wrap_pred (by omega) (by omega) | exact wrap_i64 ⟨by omega, by omega⟩ | rfl) | exact Y_sub rfl rfl rfl (by first | exact wrap_succ (by omega) | exact wrap_pred (by omega) (by omega) | exact wrap_i64 ⟨by omega, by omega⟩ | rfl) | exact R_cmpT rfl rfl rfl rfl (by first | (simp only [decide_eq_true_eq, beq_iff_eq, bne_iff_ne, ne_eq]; done) | (simp only [decide_eq_true_eq, beq_iff_eq, bne_iff_ne, ne_eq]; omega)) | exact R_cmpF rfl rfl rfl rfl (by first | (simp only [decide_eq_false_iff_not, beq_eq_false_iff_ne, bne_eq_false_iff_eq, ne_eq]; done) | (simp only [decide_eq_false_iff_not, beq_eq_false_iff_ne, bne_eq_false_iff_eq, ne_eq]; omega)) | exact Y_ibin rfl rfl rfl rfl | exact Y_extract rfl rfl rfl | exact R_lenr tabOk rfl rfl rfl rfl | exact R_lenn tabOk rfl rfl rfl | exact R_indexr tabOk rfl rfl rfl rfl rfl rfl rfl (by omega) | exact R_fielde tabOk rfl rfl rfl rfl | exact R_loade tabOk rfl rfl rfl rfl rfl rfl rfl rfl rfl | exact Y_not rfl rfl | exact Y_pick_t rfl rfl (by first | rfl | assumption) rfl | exact Y_pick_f rfl rfl (by first | rfl | assumption) rfl | exact Y_pick_b rfl rfl rfl rfl | exact R_build tabOk rfl rfl rfl rfl rfl rfl | (first | exact Y_nilCheck rfl rfl rfl | exact R_lk1 pfxKey pfxA_val zeroInt trivial (fun _ _ => trivial) hn hz tabOk rfl rfl rfl rfl rfl rfl)))
        | (apply N_takeL (i := 0) rfl rfl (by kernel_rfl) (by decide +kernel) (by decide +kernel) (by repeat (first | exact np_post | apply np_then | apply np_in)) rfl rfl rfl; (first | exact R_loadi tabOk rfl rfl rfl rfl rfl rfl rfl | exact R_len tabOk rfl rfl rfl | exact R_load tabOk rfl rfl rfl rfl rfl rfl rfl rfl rfl | exact R_lenr tabOk rfl rfl rfl rfl | exact R_lenn tabOk rfl rfl rfl | exact R_loade tabOk rfl rfl rfl rfl rfl rfl rfl rfl rfl | (first | exact Y_nilCheck rfl rfl rfl | exact R_lk1 pfxKey pfxA_val zeroInt trivial (fun _ _ => trivial) hn hz tabOk rfl rfl rfl rfl rfl rfl)))
        | (apply N_takeL (i := 1) rfl rfl (by kernel_rfl) (by decide +kernel) (by decide +kernel) (by repeat (first | exact np_post | apply np_then | apply np_in)) rfl rfl rfl; (first | exact R_loadi tabOk rfl rfl rfl rfl rfl rfl rfl | exact R_len tabOk rfl rfl rfl | exact R_load tabOk rfl rfl rfl rfl rfl rfl rfl rfl rfl | exact R_lenr tabOk rfl rfl rfl rfl | exact R_lenn tabOk rfl rfl rfl | exact R_loade tabOk rfl rfl rfl rfl rfl rfl rfl rfl rfl | (first | exact Y_nilCheck rfl rfl rfl | exact R_lk1 pfxKey pfxA_val zeroInt trivial (fun _ _ => trivial) hn hz tabOk rfl rfl rfl rfl rfl rfl)))
        | (apply N_takeL (i := 2) rfl rfl (by kernel_rfl) (by decide +kernel) (by decide +kernel) (by repeat (first | exact np_post | apply np_then | apply np_in)) rfl rfl rfl; (first | exact R_loadi tabOk rfl rfl rfl rfl rfl rfl rfl | exact R_len tabOk rfl rfl rfl | exact R_load tabOk rfl rfl rfl rfl rfl rfl rfl rfl rfl | exact R_lenr tabOk rfl rfl rfl rfl | exact R_lenn tabOk rfl rfl rfl | exact R_loade tabOk rfl rfl rfl rfl rfl rfl rfl rfl rfl | (first | exact Y_nilCheck rfl rfl rfl | exact R_lk1 pfxKey pfxA_val zeroInt trivial (fun _ _ => trivial) hn hz tabOk rfl rfl rfl rfl rfl rfl)))
        | (apply N_takeL (i := 3) rfl rfl (by kernel_rfl) (by decide +kernel) (by decide +kernel) (by repeat (first | exact np_post | apply np_then | apply np_in)) rfl rfl rfl; (first | exact R_loadi tabOk rfl rfl rfl rfl rfl rfl rfl | exact R_len tabOk rfl rfl rfl | exact R_load tabOk rfl rfl rfl rfl rfl rfl rfl rfl rfl | exact R_lenr tabOk rfl rfl rfl rfl | exact R_lenn tabOk rfl rfl rfl | exact R_loade tabOk rfl rfl rfl rfl rfl rfl rfl rfl rfl | (first | exact Y_nilCheck rfl rfl rfl | exact R_lk1 pfxKey pfxA_val zeroInt trivial (fun _ _ => trivial) hn hz tabOk rfl rfl rfl rfl rfl rfl)))
        | (apply N_takeL (i := 4) rfl rfl (by kernel_rfl) (by decide +kernel) (by decide +kernel) (by repeat (first | exact np_post | apply np_then | apply np_in)) rfl rfl rfl; (first | exact R_loadi tabOk rfl rfl rfl rfl rfl rfl rfl | exact R_len tabOk rfl rfl rfl | exact R_load tabOk rfl rfl rfl rfl rfl rfl rfl rfl rfl | exact R_lenr tabOk rfl rfl rfl rfl | exact R_lenn tabOk rfl rfl rfl | exact R_loade tabOk rfl rfl rfl rfl rfl rfl rfl rfl rfl | (first | exact Y_nilCheck rfl rfl rfl | exact R_lk1 pfxKey pfxA_val zeroInt trivial (fun _ _ => trivial) hn hz tabOk rfl rfl rfl rfl rfl rfl)))
        | (apply N_takeL (i := 5) rfl rfl (by kernel_rfl) (by decide +kernel) (by decide +kernel) (by repeat (first | exact np_post | apply np_then | apply np_in)) rfl rfl rfl; (first | exact R_loadi tabOk rfl rfl rfl rfl rfl rfl rfl | exact R_len tabOk rfl rfl rfl | exact R_load tabOk rfl rfl rfl rfl rfl rfl rfl rfl rfl | exact R_lenr tabOk rfl rfl rfl rfl | exact R_lenn tabOk rfl rfl rfl | exact R_loade tabOk rfl rfl rfl rfl rfl rfl rfl rfl rfl | (first | exact Y_nilCheck rfl rfl rfl | exact R_lk1 pfxKey pfxA_val zeroInt trivial (fun _ _ => trivial) hn hz tabOk rfl rfl rfl rfl rfl rfl)))
        | (apply N_takeL (i := 6) rfl rfl (by kernel_rfl) (by decide +kernel) (by decide +kernel) (by repeat (first | exact np_post | apply np_then | apply np_in)) rfl rfl rfl; (first | exact R_loadi tabOk rfl rfl rfl rfl rfl rfl rfl | exact R_len tabOk rfl rfl rfl | exact R_load tabOk rfl rfl rfl rfl rfl rfl rfl rfl rfl | exact R_lenr tabOk rfl rfl rfl rfl | exact R_lenn tabOk rfl rfl rfl | exact R_loade tabOk rfl rfl rfl rfl rfl rfl rfl rfl rfl | (first | exact Y_nilCheck rfl rfl rfl | exact R_lk1 pfxKey pfxA_val zeroInt trivial (fun _ _ => trivial) hn hz tabOk rfl rfl rfl rfl rfl rfl)))
        | (apply N_takeL (i := 7) rfl rfl (by kernel_rfl) (by decide +kernel) (by decide +kernel) (by repeat (first | exact np_post | apply np_then | apply np_in)) rfl rfl rfl; (first | exact R_loadi tabOk rfl rfl rfl rfl rfl rfl rfl | exact R_len tabOk rfl rfl rfl | exact R_load tabOk rfl rfl rfl rfl rfl rfl rfl rfl rfl | exact R_lenr tabOk rfl rfl rfl rfl | exact R_lenn tabOk rfl rfl rfl | exact R_loade tabOk rfl rfl rfl rfl rfl rfl rfl rfl rfl | (first | exact Y_nilCheck rfl rfl rfl | exact R_lk1 pfxKey pfxA_val zeroInt trivial (fun _ _ => trivial) hn hz tabOk rfl rfl rfl rfl rfl rfl)))
        | (apply N_takeL (i := 8) rfl rfl (by kernel_rfl) (by decide +kernel) (by decide +kernel) (by repeat (first | exact np_post | apply np_then | apply np_in)) rfl rfl rfl; (first | exact R_loadi tabOk rfl rfl rfl rfl rfl rfl rfl | exact R_len tabOk rfl rfl rfl | exact R_load tabOk rfl rfl rfl rfl rfl rfl rfl rfl rfl | exact R_lenr tabOk rfl rfl rfl rfl | exact R_lenn tabOk rfl rfl rfl | exact R_loade tabOk rfl rfl rfl rfl rfl rfl rfl rfl rfl | (first | exact Y_nilCheck rfl rfl rfl | exact R_lk1 pfxKey pfxA_val zeroInt trivial (fun _ _ => trivial) hn hz tabOk rfl rfl rfl rfl rfl rfl)))
        | (apply N_takeL (i := 9) rfl rfl (by kernel_rfl) (by decide +kernel) (by decide +kernel) (by repeat (first | exact np_post | apply np_then | apply np_in)) rfl rfl rfl; (first | exact R_loadi tabOk rfl rfl rfl rfl rfl rfl rfl | exact R_len tabOk rfl rfl rfl | exact R_load tabOk rfl rfl rfl rfl rfl rfl rfl rfl rfl | exact R_lenr tabOk rfl rfl rfl rfl | exact R_lenn tabOk rfl rfl rfl | exact R_loade tabOk rfl rfl rfl rfl rfl rfl rfl rfl rfl | (first | exact Y_nilCheck rfl rfl rfl | exact R_lk1 pfxKey pfxA_val zeroInt trivial (fun _ _ => trivial) hn hz tabOk rfl rfl rfl rfl rfl rfl)))
        | (apply N_takeL (i := 10) rfl rfl (by kernel_rfl) (by decide +kernel) (by decide +kernel) (by repeat (first | exact np_post | apply np_then | apply np_in)) rfl rfl rfl; (first | exact R_loadi tabOk rfl rfl rfl rfl rfl rfl rfl | exact R_len tabOk rfl rfl rfl | exact R_load tabOk rfl rfl rfl rfl rfl rfl rfl rfl rfl | exact R_lenr tabOk rfl rfl rfl rfl | exact R_lenn tabOk rfl rfl rfl | exact R_loade tabOk rfl rfl rfl rfl rfl rfl rfl rfl rfl | (first | exact Y_nilCheck rfl rfl rfl | exact R_lk1 pfxKey pfxA_val zeroInt trivial (fun _ _ => trivial) hn hz tabOk rfl rfl rfl rfl rfl rfl)))
        | (apply N_takeL (i := 11) rfl rfl (by kernel_rfl) (by decide +kernel) (by decide +kernel) (by repeat (first | exact np_post | apply np_then | apply np_in)) rfl rfl rfl; (first | exact R_loadi tabOk rfl rfl rfl rfl rfl rfl rfl | exact R_len tabOk rfl rfl rfl | exact R_load tabOk rfl rfl rfl rfl rfl rfl rfl rfl rfl | exact R_lenr tabOk rfl rfl rfl rfl | exact R_lenn tabOk rfl rfl rfl | exact R_loade tabOk rfl rfl rfl rfl rfl rfl rfl rfl rfl | (first | exact Y_nilCheck rfl rfl rfl | exact R_lk1 pfxKey pfxA_val zeroInt trivial (fun _ _ => trivial) hn hz tabOk rfl rfl rfl rfl rfl rfl)))
        | (apply N_takeL (i := 12) rfl rfl (by kernel_rfl) (by decide +kernel) (by decide +kernel) (by repeat (first | exact np_post | apply np_then | apply np_in)) rfl rfl rfl; (first | exact R_loadi tabOk rfl rfl rfl rfl rfl rfl rfl | exact R_len tabOk rfl rfl rfl | exact R_load tabOk rfl rfl rfl rfl rfl rfl rfl rfl rfl | exact R_lenr tabOk rfl rfl rfl rfl | exact R_lenn tabOk rfl rfl rfl | exact R_loade tabOk rfl rfl rfl rfl rfl rfl rfl rfl rfl | (first | exact Y_nilCheck rfl rfl rfl | exact R_lk1 pfxKey pfxA_val zeroInt trivial (fun _ _ => trivial) hn hz tabOk rfl rfl rfl rfl rfl rfl)))
        | refine N_one (j := 0) (by decide +kernel) ?_
        | refine N_one (j := 1) (by decide +kernel) ?_
        | refine N_one (j := 2) (by decide +kernel) ?_
        | refine N_one (j := 3) (by decide +kernel) ?_
        | refine N_one (j := 4) (by decide +kernel) ?_
        | refine N_one (j := 5) (by decide +kernel) ?_
        | refine N_one (j := 6) (by decide +kernel) ?_
        | refine N_one (j := 7) (by decide +kernel) ?_
        | refine N_one (j := 8) (by decide +kernel) ?_
        | refine N_one (j := 9) (by decide +kernel) ?_
        | refine N_one (j := 10) (by decide +kernel) ?_
        | refine N_one (j := 11) (by decide +kernel) ?_
        | refine N_one (j := 12) (by decide +kernel) ?_
        | refine T_alloc tabOk rfl rfl rfl rfl rfl rfl rfl ?_
        | refine T_store tabOk rfl rfl rfl rfl rfl rfl rfl rfl rfl rfl rfl rfl rfl ?_
        | refine T_box rfl rfl rfl rfl rfl rfl rfl rfl ?_
        | (apply T_yield rfl rfl rfl rfl; (first | exact Y_move rfl rfl | exact Y_assign rfl rfl | exact R_index tabOk rfl rfl rfl rfl rfl rfl (by omega) | exact R_fieldi tabOk rfl rfl rfl | exact R_loadi tabOk rfl rfl rfl rfl rfl rfl rfl | exact R_len tabOk rfl rfl rfl | exact R_load tabOk rfl rfl rfl rfl rfl rfl rfl rfl rfl | exact R_field tabOk rfl rfl rfl rfl | exact Y_add rfl rfl rfl (by first | exact wrap_succ (by omega) | exact wrap_pred (by omega) (by omega) | exact wrap_i64 ⟨by omega, by omega⟩ | rfl) | exact Y_sub rfl rfl rfl (by first | exact wrap_succ (by omega) | exact wrap_pred (by omega) (by omega) | exact wrap_i64 ⟨by omega, by omega⟩ | rfl) | exact R_cmpT rfl rfl rfl rfl (by first | (simp only [decide_eq_true_eq, beq_iff_eq, bne_iff_ne, ne_eq]; done) | (simp only [decide_eq_true_eq, beq_iff_eq, bne_iff_ne, ne_eq]; omega)) | exact R_cmpF rfl rfl rfl rfl (by first | (simp only [decide_eq_false_iff_not, beq_eq_false_iff_ne, bne_eq_false_iff_eq, ne_eq]; done) | (simp only [decide_eq_false_iff_not, beq_eq_false_iff_ne, bne_eq_false_iff_eq, ne_eq]; omega)) | exact Y_ibin rfl rfl rfl rfl | exact Y_extract rfl rfl rfl | exact R_lenr tabOk rfl rfl rfl rfl | exact R_lenn tabOk rfl rfl rfl | exact R_indexr tabOk rfl rfl rfl rfl rfl rfl rfl (by omega) | exact R_fielde tabOk rfl rfl rfl rfl | exact R_loade tabOk rfl rfl rfl rfl rfl rfl rfl rfl rfl | exact Y_not rfl rfl | exact Y_pick_t rfl rfl (by first | rfl | assumption) rfl | exact Y_pick_f rfl rfl (by first | rfl | assumption) rfl | exact Y_pick_b rfl rfl rfl rfl | exact R_build tabOk rfl rfl rfl rfl rfl rfl | (first | exact Y_nilCheck rfl rfl rfl | exact R_lk1 pfxKey pfxA_val zeroInt trivial (fun _ _ => trivial) hn hz tabOk rfl rfl rfl rfl rfl rfl)))
        | refine N_done (by decide +kernel) ?_
        | fail)
      repeat (first
        | refine A_seq ?_
        | refine A_block ?_
        | refine R_list ?_
        | refine R_quiet rfl mixed (by kernel_rfl) ?_
        | ((first | apply O_y rfl rfl rfl | apply Q_y rfl rfl rfl); (first | exact Y_move rfl rfl | exact Y_assign rfl rfl | exact R_index tabOk rfl rfl rfl rfl rfl rfl (by omega) | exact R_fieldi tabOk rfl rfl rfl | exact R_loadi tabOk rfl rfl rfl rfl rfl rfl rfl | exact R_len tabOk rfl rfl rfl | exact R_load tabOk rfl rfl rfl rfl rfl rfl rfl rfl rfl | exact R_field tabOk rfl rfl rfl rfl | exact Y_add rfl rfl rfl (by first | exact wrap_succ (by omega) | exact wrap_pred (by omega) (by omega) | exact wrap_i64 ⟨by omega, by omega⟩ | rfl) | exact Y_sub rfl rfl rfl (by first | exact wrap_succ (by omega) | exact wrap_pred (by omega) (by omega) | exact wrap_i64 ⟨by omega, by omega⟩ | rfl) | exact R_cmpT rfl rfl rfl rfl (by first | (simp only [decide_eq_true_eq, beq_iff_eq, bne_iff_ne, ne_eq]; done) | (simp only [decide_eq_true_eq, beq_iff_eq, bne_iff_ne, ne_eq]; omega)) | exact R_cmpF rfl rfl rfl rfl (by first | (simp only [decide_eq_false_iff_not, beq_eq_false_iff_ne, bne_eq_false_iff_eq, ne_eq]; done) | (simp only [decide_eq_false_iff_not, beq_eq_false_iff_ne, bne_eq_false_iff_eq, ne_eq]; omega)) | exact Y_ibin rfl rfl rfl rfl | exact Y_extract rfl rfl rfl | exact R_lenr tabOk rfl rfl rfl rfl | exact R_lenn tabOk rfl rfl rfl | exact R_indexr tabOk rfl rfl rfl rfl rfl rfl rfl (by omega) | exact R_fielde tabOk rfl rfl rfl rfl | exact R_loade tabOk rfl rfl rfl rfl rfl rfl rfl rfl rfl | exact Y_not rfl rfl | exact Y_pick_t rfl rfl (by first | rfl | assumption) rfl | exact Y_pick_f rfl rfl (by first | rfl | assumption) rfl | exact Y_pick_b rfl rfl rfl rfl | exact R_build tabOk rfl rfl rfl rfl rfl rfl | fail))
        | refine O_nil ?_
        | refine Q_nil ?_
        | refine X_then_normal ?_
        | refine X_in_normal ?_
        | refine O_box rfl rfl rfl rfl rfl rfl rfl ?_
        | refine O_alloc tabOk rfl rfl rfl rfl rfl rfl ?_
        | refine O_store tabOk rfl rfl rfl rfl rfl rfl rfl rfl rfl rfl rfl ?_
        | refine O_slice tabOk rfl rfl rfl rfl rfl rfl rfl rfl rfl rfl rfl ?_
        | refine A_condt rfl (by first | rfl | assumption | (first | (simp only [decide_eq_true_eq]; done) | (simp only [decide_eq_true_eq]; omega))) ?_
        | refine A_condf rfl (by first | rfl | assumption | (first | (simp only [decide_eq_false_iff_not]; done) | (simp only [decide_eq_false_iff_not]; omega))) ?_
        | refine A_skip ?_
        | refine A_exit ?_
        | refine A_ret ?_
        | refine X_then_exit ?_
        | refine X_then_ret ?_
        | refine X_in_same ?_
        | refine X_in_other rfl ?_
        | refine X_in_ret ?_
        | refine O_s rfl rfl rfl ?_
        | refine Q_s rfl rfl rfl ?_
        | refine O_sn rfl rfl ?_
        | fail)
      refine X_retW AWk.refl rfl (h2 := [(1000, tblB 1001 u), (1001, mapB l)]) ⟨rfl, rfl, trivial⟩ ⟨?_, rfl⟩
      rw [hlast]
      simp only [hz, Option.getD_some]
      rfl
    ·
      repeat (first
        | ((first
          | apply N_takeN (i := 0) rfl rfl (by kernel_rfl) (by decide +kernel) (by decide +kernel) (by repeat (first | exact np_post | apply np_then | apply np_in)) rfl rfl rfl
          | apply N_takeN (i := 1) rfl rfl (by kernel_rfl) (by decide +kernel) (by decide +kernel) (by repeat (first | exact np_post | apply np_then | apply np_in)) rfl rfl rfl
          | apply N_takeN (i := 2) rfl rfl (by kernel_rfl) (by decide +kernel) (by decide +kernel) (by repeat (first | exact np_post | apply np_then | apply np_in)) rfl rfl rfl
          | apply N_takeN (i := 3) rfl rfl (by kernel_rfl) (by decide +kernel) (by decide +kernel) (by repeat (first | exact np_post | apply np_then | apply np_in)) rfl rfl rfl
          | apply N_takeN (i := 4) rfl rfl (by kernel_rfl) (by decide +kernel) (by decide +kernel) (by repeat (first | exact np_post | apply np_then | apply np_in)) rfl rfl rfl
          | apply N_takeN (i := 5) rfl rfl (by kernel_rfl) (by decide +kernel) (by decide +kernel) (by repeat (first | exact np_post | apply np_then | apply np_in)) rfl rfl rfl
          | apply N_takeN (i := 6) rfl rfl (by kernel_rfl) (by decide +kernel) (by decide +kernel) (by repeat (first | exact np_post | apply np_then | apply np_in)) rfl rfl rfl
          | apply N_takeN (i := 7) rfl rfl (by kernel_rfl) (by decide +kernel) (by decide +kernel) (by repeat (first | exact np_post | apply np_then | apply np_in)) rfl rfl rfl
          | apply N_takeN (i := 8) rfl rfl (by kernel_rfl) (by decide +kernel) (by decide +kernel) (by repeat (first | exact np_post | apply np_then | apply np_in)) rfl rfl rfl
          | apply N_takeN (i := 9) rfl rfl (by kernel_rfl) (by decide +kernel) (by decide +kernel) (by repeat (first | exact np_post | apply np_then | apply np_in)) rfl rfl rfl
          | apply N_takeN (i := 10) rfl rfl (by kernel_rfl) (by decide +kernel) (by decide +kernel) (by repeat (first | exact np_post | apply np_then | apply np_in)) rfl rfl rfl
          | apply N_takeN (i := 11) rfl rfl (by kernel_rfl) (by decide +kernel) (by decide +kernel) (by repeat (first | exact np_post | apply np_then | apply np_in)) rfl rfl rfl
          | apply N_takeN (i := 12) rfl rfl (by kernel_rfl) (by decide +kernel) (by decide +kernel) (by repeat (first | exact np_post | apply np_then | apply np_in)) rfl rfl rfl
          ); (first | exact Y_move rfl rfl | exact Y_assign rfl rfl | exact R_index tabOk rfl rfl rfl rfl rfl rfl (by omega) | exact R_fieldi tabOk rfl rfl rfl | exact R_loadi tabOk rfl rfl rfl rfl rfl rfl rfl | exact R_len tabOk rfl rfl rfl | exact R_load tabOk rfl rfl rfl rfl rfl rfl rfl rfl rfl | exact R_field tabOk rfl rfl rfl rfl | exact Y_add rfl rfl rfl (by first | exact wrap_succ (by omega) | exact wrap_pred (by omega) (by omega) | exact wrap_i64 ⟨by omega, by omega⟩ | rfl) | exact Y_sub rfl rfl rfl (by first | exact wrap_succ (by omega) | exact wrap_pred (by omega) (by omega) | exact wrap_i64 ⟨by omega, by omega⟩ | rfl) | exact R_cmpT rfl rfl rfl rfl (by first | (simp only [decide_eq_true_eq, beq_iff_eq, bne_iff_ne, ne_eq]; done) | (simp only [decide_eq_true_eq, beq_iff_eq, bne_iff_ne, ne_eq]; omega)) | exact R_cmpF rfl rfl rfl rfl (by first | (simp only [decide_eq_false_iff_not, beq_eq_false_iff_ne, bne_eq_false_iff_eq, ne_eq]; done) | (simp only [decide_eq_false_iff_not, beq_eq_false_iff_ne, bne_eq_false_iff_eq, ne_eq]; omega)) | exact Y_ibin rfl rfl rfl rfl | exact Y_extract rfl rfl rfl | exact R_lenr tabOk rfl rfl rfl rfl | exact R_lenn tabOk rfl rfl rfl | exact R_indexr tabOk rfl rfl rfl rfl rfl rfl rfl (by omega) | exact R_fielde tabOk rfl rfl rfl rfl | exact R_loade tabOk rfl rfl rfl rfl rfl rfl rfl rfl rfl | exact Y_not rfl rfl | exact Y_pick_t rfl rfl (by first | rfl | assumption) rfl | exact Y_pick_f rfl rfl (by first | rfl | assumption) rfl | exact Y_pick_b rfl rfl rfl rfl | exact R_build tabOk rfl rfl rfl rfl rfl rfl | (first | exact Y_nilCheck rfl rfl rfl | exact R_lk1 pfxKey pfxA_val zeroInt trivial (fun _ _ => trivial) hn hz tabOk rfl rfl rfl rfl rfl rfl)))
        | (apply N_takeL (i := 0) rfl rfl (by kernel_rfl) (by decide +kernel) (by decide +kernel) (by repeat (first | exact np_post | apply np_then | apply np_in)) rfl rfl rfl; (first | exact R_loadi tabOk rfl rfl rfl rfl rfl rfl rfl | exact R_len tabOk rfl rfl rfl | exact R_load tabOk rfl rfl rfl rfl rfl rfl rfl rfl rfl | exact R_lenr tabOk rfl rfl rfl rfl | exact R_lenn tabOk rfl rfl rfl | exact R_loade tabOk rfl rfl rfl rfl rfl rfl rfl rfl rfl | (first | exact Y_nilCheck rfl rfl rfl | exact R_lk1 pfxKey pfxA_val zeroInt trivial (fun _ _ => trivial) hn hz tabOk rfl rfl rfl rfl rfl rfl)))
        | (apply N_takeL (i := 1) rfl rfl (by kernel_rfl) (by decide +kernel) (by decide +kernel) (by repeat (first | exact np_post | apply np_then | apply np_in)) rfl rfl rfl; (first | exact R_loadi tabOk rfl rfl rfl rfl rfl rfl rfl | exact R_len tabOk rfl rfl rfl | exact R_load tabOk rfl rfl rfl rfl rfl rfl rfl rfl rfl | exact R_lenr tabOk rfl rfl rfl rfl | exact R_lenn tabOk rfl rfl rfl | exact R_loade tabOk rfl rfl rfl rfl rfl rfl rfl rfl rfl | (first | exact Y_nilCheck rfl rfl rfl | exact R_lk1 pfxKey pfxA_val zeroInt trivial (fun _ _ => trivial) hn hz tabOk rfl rfl rfl rfl rfl rfl)))
        | (apply N_takeL (i := 2) rfl rfl (by kernel_rfl) (by decide +kernel) (by decide +kernel) (by repeat (first | exact np_post | apply np_then | apply np_in)) rfl rfl rfl; (first | exact R_loadi tabOk rfl rfl rfl rfl rfl rfl rfl | exact R_len tabOk rfl rfl rfl | exact R_load tabOk rfl rfl rfl rfl rfl rfl rfl rfl rfl | exact R_lenr tabOk rfl rfl rfl rfl | exact R_lenn tabOk rfl rfl rfl | exact R_loade tabOk rfl rfl rfl rfl rfl rfl rfl rfl rfl | (first | exact Y_nilCheck rfl rfl rfl | exact R_lk1 pfxKey pfxA_val zeroInt trivial (fun _ _ => trivial) hn hz tabOk rfl rfl rfl rfl rfl rfl)))
        | (apply N_takeL (i := 3) rfl rfl (by kernel_rfl) (by decide +kernel) (by decide +kernel) (by repeat (first | exact np_post | apply np_then | apply np_in)) rfl rfl rfl; (first | exact R_loadi tabOk rfl rfl rfl rfl rfl rfl rfl | exact R_len tabOk rfl rfl rfl | exact R_load tabOk rfl rfl rfl rfl rfl rfl rfl rfl rfl | exact R_lenr tabOk rfl rfl rfl rfl | exact R_lenn tabOk rfl rfl rfl | exact R_loade tabOk rfl rfl rfl rfl rfl rfl rfl rfl rfl | (first | exact Y_nilCheck rfl rfl rfl | exact R_lk1 pfxKey pfxA_val zeroInt trivial (fun _ _ => trivial) hn hz tabOk rfl rfl rfl rfl rfl rfl)))
        | (apply N_takeL (i := 4) rfl rfl (by kernel_rfl) (by decide +kernel) (by decide +kernel) (by repeat (first | exact np_post | apply np_then | apply np_in)) rfl rfl rfl; (first | exact R_loadi tabOk rfl rfl rfl rfl rfl rfl rfl | exact R_len tabOk rfl rfl rfl | exact R_load tabOk rfl rfl rfl rfl rfl rfl rfl rfl rfl | exact R_lenr tabOk rfl rfl rfl rfl | exact R_lenn tabOk rfl rfl rfl | exact R_loade tabOk rfl rfl rfl rfl rfl rfl rfl rfl rfl | (first | exact Y_nilCheck rfl rfl rfl | exact R_lk1 pfxKey pfxA_val zeroInt trivial (fun _ _ => trivial) hn hz tabOk rfl rfl rfl rfl rfl rfl)))
        | (apply N_takeL (i := 5) rfl rfl (by kernel_rfl) (by decide +kernel) (by decide +kernel) (by repeat (first | exact np_post | apply np_then | apply np_in)) rfl rfl rfl; (first | exact R_loadi tabOk rfl rfl rfl rfl rfl rfl rfl | exact R_len tabOk rfl rfl rfl | exact R_load tabOk rfl rfl rfl rfl rfl rfl rfl rfl rfl | exact R_lenr tabOk rfl rfl rfl rfl | exact R_lenn tabOk rfl rfl rfl | exact R_loade tabOk rfl rfl rfl rfl rfl rfl rfl rfl rfl | (first | exact Y_nilCheck rfl rfl rfl | exact R_lk1 pfxKey pfxA_val zeroInt trivial (fun _ _ => trivial) hn hz tabOk rfl rfl rfl rfl rfl rfl)))
        | (apply N_takeL (i := 6) rfl rfl (by kernel_rfl) (by decide +kernel) (by decide +kernel) (by repeat (first | exact np_post | apply np_then | apply np_in)) rfl rfl rfl; (first | exact R_loadi tabOk rfl rfl rfl rfl rfl rfl rfl | exact R_len tabOk rfl rfl rfl | exact R_load tabOk rfl rfl rfl rfl rfl rfl rfl rfl rfl | exact R_lenr tabOk rfl rfl rfl rfl | exact R_lenn tabOk rfl rfl rfl | exact R_loade tabOk rfl rfl rfl rfl rfl rfl rfl rfl rfl | (first | exact Y_nilCheck rfl rfl rfl | exact R_lk1 pfxKey pfxA_val zeroInt trivial (fun _ _ => trivial) hn hz tabOk rfl rfl rfl rfl rfl rfl)))
        | (apply N_takeL (i := 7) rfl rfl (by kernel_rfl) (by decide +kernel) (by decide +kernel) (by repeat (first | exact np_post | apply np_then | apply np_in)) rfl rfl rfl; (first | exact R_loadi tabOk rfl rfl rfl rfl rfl rfl rfl | exact R_len tabOk rfl rfl rfl | exact R_load tabOk rfl rfl rfl rfl rfl rfl rfl rfl rfl | exact R_lenr tabOk rfl rfl rfl rfl | exact R_lenn tabOk rfl rfl rfl | exact R_loade tabOk rfl rfl rfl rfl rfl rfl rfl rfl rfl | (first | exact Y_nilCheck rfl rfl rfl | exact R_lk1 pfxKey pfxA_val zeroInt trivial (fun _ _ => trivial) hn hz tabOk rfl rfl rfl rfl rfl rfl)))
        | (apply N_takeL (i := 8) rfl rfl (by kernel_rfl) (by decide +kernel) (by decide +kernel) (by repeat (first | exact np_post | apply np_then | apply np_in)) rfl rfl rfl; (first | exact R_loadi tabOk rfl rfl rfl rfl rfl rfl rfl | exact R_len tabOk rfl rfl rfl | exact R_load tabOk rfl rfl rfl rfl rfl rfl rfl rfl rfl | exact R_lenr tabOk rfl rfl rfl rfl | exact R_lenn tabOk rfl rfl rfl | exact R_loade tabOk rfl rfl rfl rfl rfl rfl rfl rfl rfl | (first | exact Y_nilCheck rfl rfl rfl | exact R_lk1 pfxKey pfxA_val zeroInt trivial (fun _ _ => trivial) hn hz tabOk rfl rfl rfl rfl rfl rfl)))
        | (apply N_takeL (i := 9) rfl rfl (by kernel_rfl) (by decide +kernel) (by decide +kernel) (by repeat (first | exact np_post | apply np_then | apply np_in)) rfl rfl rfl; (first | exact R_loadi tabOk rfl rfl rfl rfl rfl rfl rfl | exact R_len tabOk rfl rfl rfl | exact R_load tabOk rfl rfl rfl rfl rfl rfl rfl rfl rfl | exact R_lenr tabOk rfl rfl rfl rfl | exact R_lenn tabOk rfl rfl rfl | exact R_loade tabOk rfl rfl rfl rfl rfl rfl rfl rfl rfl | (first | exact Y_nilCheck rfl rfl rfl | exact R_lk1 pfxKey pfxA_val zeroInt trivial (fun _ _ => trivial) hn hz tabOk rfl rfl rfl rfl rfl rfl)))
        | (apply N_takeL (i := 10) rfl rfl (by kernel_rfl) (by decide +kernel) (by decide +kernel) (by repeat (first | exact np_post | apply np_then | apply np_in)) rfl rfl rfl; (first | exact R_loadi tabOk rfl rfl rfl rfl rfl rfl rfl | exact R_len tabOk rfl rfl rfl | exact R_load tabOk rfl rfl rfl rfl rfl rfl rfl rfl rfl | exact R_lenr tabOk rfl rfl rfl rfl | exact R_lenn tabOk rfl rfl rfl | exact R_loade tabOk rfl rfl rfl rfl rfl rfl rfl rfl rfl | (first | exact Y_nilCheck rfl rfl rfl | exact R_lk1 pfxKey pfxA_val zeroInt trivial (fun _ _ => trivial) hn hz tabOk rfl rfl rfl rfl rfl rfl)))
        | (apply N_takeL (i := 11) rfl rfl (by kernel_rfl) (by decide +kernel) (by decide +kernel) (by repeat (first | exact np_post | apply np_then | apply np_in)) rfl rfl rfl; (first | exact R_loadi tabOk rfl rfl rfl rfl rfl rfl rfl | exact R_len tabOk rfl rfl rfl | exact R_load tabOk rfl rfl rfl rfl rfl rfl rfl rfl rfl | exact R_lenr tabOk rfl rfl rfl rfl | exact R_lenn tabOk rfl rfl rfl | exact R_loade tabOk rfl rfl rfl rfl rfl rfl rfl rfl rfl | (first | exact Y_nilCheck rfl rfl rfl | exact R_lk1 pfxKey pfxA_val zeroInt trivial (fun _ _ => trivial) hn hz tabOk rfl rfl rfl rfl rfl rfl)))
        | (apply N_takeL (i := 12) rfl rfl (by kernel_rfl) (by decide +kernel) (by decide +kernel) (by repeat (first | exact np_post | apply np_then | apply np_in)) rfl rfl rfl; (first | exact R_loadi tabOk rfl rfl rfl rfl rfl rfl rfl | exact R_len tabOk rfl rfl rfl | exact R_load tabOk rfl rfl rfl rfl rfl rfl rfl rfl rfl | exact R_lenr tabOk rfl rfl rfl rfl | exact R_lenn tabOk rfl rfl rfl | exact R_loade tabOk rfl rfl rfl rfl rfl rfl rfl rfl rfl | (first | exact Y_nilCheck rfl rfl rfl | exact R_lk1 pfxKey pfxA_val zeroInt trivial (fun _ _ => trivial) hn hz tabOk rfl rfl rfl rfl rfl rfl)))
        | refine N_one (j := 0) (by decide +kernel) ?_
        | refine N_one (j := 1) (by decide +kernel) ?_
        | refine N_one (j := 2) (by decide +kernel) ?_
        | refine N_one (j := 3) (by decide +kernel) ?_
        | refine N_one (j := 4) (by decide +kernel) ?_
        | refine N_one (j := 5) (by decide +kernel) ?_
        | refine N_one (j := 6) (by decide +kernel) ?_
        | refine N_one (j := 7) (by decide +kernel) ?_
        | refine N_one (j := 8) (by decide +kernel) ?_
        | refine N_one (j := 9) (by decide +kernel) ?_
        | refine N_one (j := 10) (by decide +kernel) ?_
        | refine N_one (j := 11) (by decide +kernel) ?_
        | refine N_one (j := 12) (by decide +kernel) ?_
        | refine T_alloc tabOk rfl rfl rfl rfl rfl rfl rfl ?_
        | refine T_store tabOk rfl rfl rfl rfl rfl rfl rfl rfl rfl rfl rfl rfl rfl ?_
        | refine T_box rfl rfl rfl rfl rfl rfl rfl rfl ?_
        | (apply T_yield rfl rfl rfl rfl; (first | exact Y_move rfl rfl | exact Y_assign rfl rfl | exact R_index tabOk rfl rfl rfl rfl rfl rfl (by omega) | exact R_fieldi tabOk rfl rfl rfl | exact R_loadi tabOk rfl rfl rfl rfl rfl rfl rfl | exact R_len tabOk rfl rfl rfl | exact R_load tabOk rfl rfl rfl rfl rfl rfl rfl rfl rfl | exact R_field tabOk rfl rfl rfl rfl | exact Y_add rfl rfl rfl (by first | exact wrap_succ (by omega) | exact wrap_pred (by omega) (by omega) | exact wrap_i64 ⟨by omega, by omega⟩ | rfl) | exact Y_sub rfl rfl rfl (by first | exact wrap_succ (by omega) | exact wrap_pred (by omega) (by omega) | exact wrap_i64 ⟨by omega, by omega⟩ | rfl) | exact R_cmpT rfl rfl rfl rfl (by first | (simp only [decide_eq_true_eq, beq_iff_eq, bne_iff_ne, ne_eq]; done) | (simp only [decide_eq_true_eq, beq_iff_eq, bne_iff_ne, ne_eq]; omega)) | exact R_cmpF rfl rfl rfl rfl (by first | (simp only [decide_eq_false_iff_not, beq_eq_false_iff_ne, bne_eq_false_iff_eq, ne_eq]; done) | (simp only [decide_eq_false_iff_not, beq_eq_false_iff_ne, bne_eq_false_iff_eq, ne_eq]; omega)) | exact Y_ibin rfl rfl rfl rfl | exact Y_extract rfl rfl rfl | exact R_lenr tabOk rfl rfl rfl rfl | exact R_lenn tabOk rfl rfl rfl | exact R_indexr tabOk rfl rfl rfl rfl rfl rfl rfl (by omega) | exact R_fielde tabOk rfl rfl rfl rfl | exact R_loade tabOk rfl rfl rfl rfl rfl rfl rfl rfl rfl | exact Y_not rfl rfl | exact Y_pick_t rfl rfl (by first | rfl | assumption) rfl | exact Y_pick_f rfl rfl (by first | rfl | assumption) rfl | exact Y_pick_b rfl rfl rfl rfl | exact R_build tabOk rfl rfl rfl rfl rfl rfl | (first | exact Y_nilCheck rfl rfl rfl | exact R_lk1 pfxKey pfxA_val zeroInt trivial (fun _ _ => trivial) hn hz tabOk rfl rfl rfl rfl rfl rfl)))
        | refine N_done (by decide +kernel) ?_
        | fail)
      repeat (first
        | refine A_seq ?_
        | refine A_block ?_
        | refine R_list ?_
        | refine R_quiet rfl mixed (by kernel_rfl) ?_
        | ((first | apply O_y rfl rfl rfl | apply Q_y rfl rfl rfl); (first | exact Y_move rfl rfl | exact Y_assign rfl rfl | exact R_index tabOk rfl rfl rfl rfl rfl rfl (by omega) | exact R_fieldi tabOk rfl rfl rfl | exact R_loadi tabOk rfl rfl rfl rfl rfl rfl rfl | exact R_len tabOk rfl rfl rfl | exact R_load tabOk rfl rfl rfl rfl rfl rfl rfl rfl rfl | exact R_field tabOk rfl rfl rfl rfl | exact Y_add rfl rfl rfl (by first | exact wrap_succ (by omega) | exact wrap_pred (by omega) (by omega) | exact wrap_i64 ⟨by omega, by omega⟩ | rfl) | exact Y_sub rfl rfl rfl (by first | exact wrap_succ (by omega) | exact wrap_pred (by omega) (by omega) | exact wrap_i64 ⟨by omega, by omega⟩ | rfl) | exact R_cmpT rfl rfl rfl rfl (by first | (simp only [decide_eq_true_eq, beq_iff_eq, bne_iff_ne, ne_eq]; done) | (simp only [decide_eq_true_eq, beq_iff_eq, bne_iff_ne, ne_eq]; omega)) | exact R_cmpF rfl rfl rfl rfl (by first | (simp only [decide_eq_false_iff_not, beq_eq_false_iff_ne, bne_eq_false_iff_eq, ne_eq]; done) | (simp only [decide_eq_false_iff_not, beq_eq_false_iff_ne, bne_eq_false_iff_eq, ne_eq]; omega)) | exact Y_ibin rfl rfl rfl rfl | exact Y_extract rfl rfl rfl | exact R_lenr tabOk rfl rfl rfl rfl | exact R_lenn tabOk rfl rfl rfl | exact R_indexr tabOk rfl rfl rfl rfl rfl rfl rfl (by omega) | exact R_fielde tabOk rfl rfl rfl rfl | exact R_loade tabOk rfl rfl rfl rfl rfl rfl rfl rfl rfl | exact Y_not rfl rfl | exact Y_pick_t rfl rfl (by first | rfl | assumption) rfl | exact Y_pick_f rfl rfl (by first | rfl | assumption) rfl | exact Y_pick_b rfl rfl rfl rfl | exact R_build tabOk rfl rfl rfl rfl rfl rfl | fail))
        | refine O_nil ?_
        | refine Q_nil ?_
        | refine X_then_normal ?_
        | refine X_in_normal ?_
        | refine O_box rfl rfl rfl rfl rfl rfl rfl ?_
        | refine O_alloc tabOk rfl rfl rfl rfl rfl rfl ?_
        | refine O_store tabOk rfl rfl rfl rfl rfl rfl rfl rfl rfl rfl rfl ?_
        | refine O_slice tabOk rfl rfl rfl rfl rfl rfl rfl rfl rfl rfl rfl ?_
        | refine A_condt rfl (by first | rfl | assumption | (first | (simp only [decide_eq_true_eq]; done) | (simp only [decide_eq_true_eq]; omega))) ?_
        | refine A_condf rfl (by first | rfl | assumption | (first | (simp only [decide_eq_false_iff_not]; done) | (simp only [decide_eq_false_iff_not]; omega))) ?_
        | refine A_skip ?_
        | refine A_exit ?_
        | refine A_ret ?_
        | refine X_then_exit ?_
        | refine X_then_ret ?_
        | refine X_in_same ?_
        | refine X_in_other rfl ?_
        | refine X_in_ret ?_
        | refine O_s rfl rfl rfl ?_
        | refine Q_s rfl rfl rfl ?_
        | refine O_sn rfl rfl ?_
        | fail)
      refine X_retW AWk.refl rfl (h2 := [(1000, tblB 1001 u), (1001, mapB l)]) ⟨rfl, rfl, trivial⟩ ⟨?_, rfl⟩
      rw [hlast]
      simp only [hz, Option.getD_some]
      rfl
end Go.Proofs.Ytaecjmjdhbjbkaa.Ab

/-
  The law's small table: it answers.
-/
import Derived.Test.YtaecjmjdhbjbkaaTblLong
namespace Go.Proofs.Ytaecjmjdhbjbkaa.Ab
set_option linter.unusedVariables false
set_option maxRecDepth 100000
open Go.RowKit
set_option linter.unusedSimpArgs false
attribute [local irreducible] AWp AOps AQ AYield AEff ACall AWk AAny AAt AThen AIn APost NoPanic

section
variable {P : Program} {nt : Nat} {Q : Post} {e : Env} {h : Heap} {o : Oper} {ops : Array Oper} {rest : List Oper}
/-- A call that hands back a new table. -/
theorem O_cNew {f : FuncId} {args : Array Operand} {ats : Array TypeId} {cs : List AVal} {d : Nat} {u : Nat → Int} {l : List (Pfx × Int)} (H : ACall P f cs [] (fun c' h' => c' = .ptr 3 0 ∧ h' = [(3, tblB 902 u), (902, mapB l)])) (hw : awant ops e o = some true) (hdst : o.dst = some d) (hd : Nat.blt d nt = true)
    (ho : o.op = .call { callee := .value (.func f), args := args, argTypes := ats }) (hx : aevs e args.toList = some cs) (HK : AOps P nt ops Q rest ((d, .ptr 3 0) :: killEs [3, 902] e) ((3, tblB 902 u) :: (902, mapB l) :: killHs [3, 902] h)) : AOps P nt ops Q (o :: rest) e h :=
  O_eff (T := []) hw (E_callQ ho hdst hx H hd fun c' h' ⟨h1, h2⟩ => by
    subst h1 h2
    refine ⟨rfl, fun id b j hb hh => ?_, fun j hj => ?_⟩
    · by_cases h3 : 3 = id
      · subst h3
        rw [look_cons_same] at hb
        cases hb
        have hs : hasL j (usedA u) = false := shutL_has j (usedA u) rfl
        have : (902 == j) = true := by
          have h9 : ((AVal.mp 902).has j || hasL j (usedA u)) = true := hh
          rw [hs, Bool.or_false] at h9
          exact h9
        have : 902 = j := by simpa using this
        subst this
        rfl
      · rw [look_cons_ne _ _ h3] at hb
        by_cases h4 : 902 = id
        · subst h4
          rw [look_cons_same] at hb
          cases hb
          have h9 : (ents pfxA intA l).any (fun p => p.1.has j || p.2.has j) = true := hh
          obtain ⟨p, hp, h10⟩ := List.any_eq_true.1 h9
          obtain ⟨q, _, rfl⟩ := List.mem_map.1 hp
          rw [shut_has j (pfxA q.1) rfl, shut_has j (intA q.2) rfl] at h10
          cases h10
        · rw [look_cons_ne _ _ h4] at hb; cases hb
    · have h9 : (3 == j) = true := hj
      have : 3 = j := by simpa using h9
      subst this
      rfl) fun e' h' ⟨c, h2, ⟨h3, h4⟩, h5, h6⟩ => by subst h3 h4 h5 h6; exact HK
end
def p8 : Pfx := ⟨167772160, 8⟩
def p16 : Pfx := ⟨167837696, 16⟩
def u1 : Nat → Int := bump (fun _ => 0) 8 1
def u2 : Nat → Int := bump u1 16 1
theorem put1_A : ACall Try.prog 24 [.ptr 1000 0, pfxA p8, intA 1] [(1000, tblB 1001 fun _ => 0), (1001, mapB [])] (fun c h => c = intA 0 ∧ h = [(1000, tblB 1001 u1), (1001, mapB [(p8, 1)])]) :=
  (put_A (fun _ => 0) [] p8 1 (by unfold Pfx.ok p8; decide) (by simp) (fun _ => ⟨by omega, by omega⟩)).mono fun c h ⟨h1, h2⟩ => ⟨by rw [h1]; rfl, by rw [h2]; rfl⟩
theorem put2_A : ACall Try.prog 24 [.ptr 1000 0, pfxA p16, intA 2] [(1000, tblB 1001 u1), (1001, mapB [(p8, 1)])] (fun c h => c = intA 0 ∧ h = [(1000, tblB 1001 u2), (1001, mapB [(p8, 1), (p16, 2)])]) :=
  (put_A u1 [(p8, 1)] p16 2 (by unfold Pfx.ok p16; decide) (by simp) (fun j => by unfold u1 bump; dsimp only; split <;> exact ⟨by omega, by omega⟩)).mono fun c h ⟨h1, h2⟩ => ⟨by rw [h1]; rfl, by rw [h2]; rfl⟩
theorem nod2 : ([(p8, (1 : Int)), (p16, 2)].map (·.1)).Nodup := by decide
theorem long1_A : ACall Try.prog 18 [.ptr 1000 0, .d (.sc (.int .u32 167838211))] [(1000, tblB 1001 u2), (1001, mapB [(p8, 1), (p16, 2)])] (fun c h => c = .tup [pfxA p16, intA 2, boolA true] ∧ h = [(1000, tblB 1001 u2), (1001, mapB [(p8, 1), (p16, 2)])]) := by
  have h := longest_A u2 [(p8, 1), (p16, 2)] 167838211 (by omega) (by omega) nod2
  rw [show longR u2 [(p8, 1), (p16, 2)] 167838211 = (p16, 2, true) by decide +kernel] at h
  exact h
theorem long2_A : ACall Try.prog 18 [.ptr 1000 0, .d (.sc (.int .u32 167903747))] [(1000, tblB 1001 u2), (1001, mapB [(p8, 1), (p16, 2)])] (fun c h => c = .tup [pfxA p8, intA 1, boolA true] ∧ h = [(1000, tblB 1001 u2), (1001, mapB [(p8, 1), (p16, 2)])]) := by
  have h := longest_A u2 [(p8, 1), (p16, 2)] 167903747 (by omega) (by omega) nod2
  rw [show longR u2 [(p8, 1), (p16, 2)] 167903747 = (p8, 1, true) by decide +kernel] at h
  exact h
set_option maxHeartbeats 4000000 in
theorem awake_A : ACall Try.prog 12 [] [] (Just (boolA true)) := by
  refine ACall_of tabOk Try.func12 rfl Try.ntmps12 (congrArg Array.toList Try.results12) (by kernel_rfl) rfl ?_
  repeat (first
    | refine A_seq ?_
    | refine A_block ?_
    | refine R_list ?_
    | refine R_quiet rfl mixed (by kernel_rfl) ?_
    | ((first | apply O_y rfl rfl rfl | apply Q_y rfl rfl rfl); (first | exact Y_move rfl rfl | exact Y_assign rfl rfl | exact R_index tabOk rfl rfl rfl rfl rfl rfl (by omega) | exact R_fieldi tabOk rfl rfl rfl | exact R_loadi tabOk rfl rfl rfl rfl rfl rfl rfl | exact R_len tabOk rfl rfl rfl | exact R_load tabOk rfl rfl rfl rfl rfl rfl rfl rfl rfl | exact R_field tabOk rfl rfl rfl rfl | exact Y_add rfl rfl rfl (by first | exact wrap_succ (by omega) | exact wrap_pred (by omega) (by omega) | exact wrap_i64 ⟨by omega, by omega⟩ | rfl) | exact Y_sub rfl rfl rfl (by first | exact wrap_succ (by omega) | exact wrap_pred (by omega) (by omega) | exact wrap_i64 ⟨by omega, by omega⟩ | rfl) | exact R_cmpT rfl rfl rfl rfl (by first | (simp only [decide_eq_true_eq, beq_iff_eq, bne_iff_ne, ne_eq]; done) | (simp only [decide_eq_true_eq, beq_iff_eq, bne_iff_ne, ne_eq]; omega)) | exact R_cmpF rfl rfl rfl rfl (by first | (simp only [decide_eq_false_iff_not, beq_eq_false_iff_ne, bne_eq_false_iff_eq, ne_eq]; done) | (simp only [decide_eq_false_iff_not, beq_eq_false_iff_ne, bne_eq_false_iff_eq, ne_eq]; omega)) | exact Y_ibin rfl rfl rfl rfl | exact Y_extract rfl rfl rfl | exact R_lenr tabOk rfl rfl rfl rfl | exact R_lenn tabOk rfl rfl rfl | exact R_indexr tabOk rfl rfl rfl rfl rfl rfl rfl (by omega) | exact R_fielde tabOk rfl rfl rfl rfl | exact R_loade tabOk rfl rfl rfl rfl rfl rfl rfl rfl rfl | exact Y_not rfl rfl | exact Y_pick_t rfl rfl (by first | rfl | assumption) rfl | exact Y_pick_f rfl rfl (by first | rfl | assumption) rfl | exact Y_pick_b rfl rfl rfl rfl | exact R_build tabOk rfl rfl rfl rfl rfl rfl | (first | exact R_pnil tabOk rfl rfl rfl rfl rfl)))
    | refine O_nil ?_
    | refine Q_nil ?_
    | refine X_then_normal ?_
    | refine X_in_normal ?_
    | refine O_box rfl rfl rfl rfl rfl rfl rfl ?_
    | refine O_alloc tabOk rfl rfl rfl rfl rfl rfl ?_
    | refine O_store tabOk rfl rfl rfl rfl rfl rfl rfl rfl rfl rfl rfl ?_
    | refine O_slice tabOk rfl rfl rfl rfl rfl rfl rfl rfl rfl rfl rfl ?_
    | refine A_condt rfl (by first | rfl | assumption | (first | (simp only [decide_eq_true_eq]; done) | (simp only [decide_eq_true_eq]; omega))) ?_
    | refine A_condf rfl (by first | rfl | assumption | (first | (simp only [decide_eq_false_iff_not]; done) | (simp only [decide_eq_false_iff_not]; omega))) ?_
    | refine A_skip ?_
    | refine A_exit ?_
    | refine A_ret ?_
    | refine X_then_exit ?_
    | refine X_then_ret ?_
    | refine X_in_same ?_
    | refine X_in_other rfl ?_
    | refine X_in_ret ?_
    | refine O_s rfl rfl rfl ?_
    | refine Q_s rfl rfl rfl ?_
    | refine O_sn rfl rfl ?_
    | (first | refine O_cNew new_A rfl rfl rfl rfl rfl ?_ | refine O_cTbl 3 902 (by omega) put1_A rfl rfl rfl rfl rfl rfl rfl rfl rfl ?_ | refine O_cTbl 3 902 (by omega) put2_A rfl rfl rfl rfl rfl rfl rfl rfl rfl ?_ | refine O_cTbl 3 902 (by omega) long1_A rfl rfl rfl rfl rfl rfl rfl rfl rfl ?_ | refine O_cTbl 3 902 (by omega) long2_A rfl rfl rfl rfl rfl rfl rfl rfl rfl ?_ | refine O_cTbl 3 902 (by omega) (len_A u2 [(p8, 1), (p16, 2)]) rfl rfl rfl rfl rfl rfl rfl rfl rfl ?_))
  exact X_ret rfl ⟨rfl, rfl⟩
end Go.Proofs.Ytaecjmjdhbjbkaa.Ab

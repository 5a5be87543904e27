/-
  Texts of a proof, one behind the other (part 34).
-/
import Derived.Test.YtenolkolkpfjgaaGreatFt8
import Derived.Test.YtenolkolkpfjgaaGreatFt16
import Derived.Test.YtenolkolkpfjgaaGreatFt32
set_option linter.unusedVariables false
set_option linter.unusedSimpArgs false
namespace Go.Proofs.YtenolkolkpfjgaaGreat.Ab
set_option linter.unusedVariables false
set_option maxRecDepth 100000
open Go.RowKit Go.Lib
theorem sortU_nil {α : Type} [DecidableEq α] {c : α → α → Int} : sortU c ([] : List α) = [] := List.eq_nil_of_length_eq_zero (Nat.le_zero.1 (sortU_len (c := c) []))
set_option linter.unusedSimpArgs false
attribute [local irreducible] AWp AOps AQ AYield AEff ACall AWk AAny AAt AThen AIn APost NoPanic
set_option maxHeartbeats 8000000 in
theorem refSort_A (l : List Rte) (hn : l.length ≤ 1000000) : ACall Tryz.prog 28 [rtesA l] [] (fun c h => c = .row 3 ∧ h = [(3, rteB (sortU ordR l))]) := by
  refine ACall_of tabOk Tryz.func28 rfl Tryz.ntmps28 (congrArg Array.toList Tryz.results28) (by kernel_rfl) rfl ?_
  repeat (first | refine q_Z ?_ | refine R_quiet rfl mixed (by kernel_rfl) ?_ | ((first | apply O_y rfl rfl rfl | apply Q_y rfl rfl rfl); (first | exact q_A | exact q_5 | exact q_B)) | refine q_d ?_ | refine q_a ?_ | refine q_b ?_ | refine q_c ?_ | refine A_ct rfl ?_ | refine A_cf rfl ?_ | refine q_W ?_)
  refine A_weaken (Wk_nil 41 9 (t := 3) (id := 3) rfl rfl) ?_
  refine A_loop (fun i : Nat => [(0, rtesA l), (3, .row 3), (4, intA (i : Int))]) (fun i => [(3, rteB (sortU ordR (l.take i)))]) (fun i => i ≤ l.length) (fun i => l.length - i) 0 (Nat.zero_le _) (Wk_sel ⟨rfl, rfl, rfl, trivial⟩ ⟨by rw [List.take_zero, sortU_nil]; rfl, trivial⟩) ?_
  intro i hi
  try dsimp only
  by_cases hil : i < l.length
  · obtain ⟨out, ho⟩ : ∃ out, sortU ordR (l.take i) = out := ⟨_, rfl⟩
    have hlo : out.length ≤ i := by rw [← ho]; exact Nat.le_trans (sortU_len _) (by rw [List.length_take]; omega)
    have hsn : sortU ordR (l.take (i + 1)) = sortU ordR (l.take i ++ [l[i]]) := by rw [List.take_succ_eq_append_getElem hil]
    rw [ho]
    have hw0 := win_at l i hil
    repeat (first | refine q_Z ?_ | refine R_quiet rfl mixed (by kernel_rfl) ?_ | ((first | apply O_y rfl rfl rfl | apply Q_y rfl rfl rfl); (first | exact q_A | exact q_5 | exact q_B)) | refine q_d ?_ | refine q_a ?_ | refine q_b ?_ | refine q_c ?_ | refine A_ct rfl ?_ | refine A_cf rfl ?_ | refine q_W ?_)
    refine A_loop (fun k : Nat => [(0, rtesA l), (3, .row 3), (4, intA (i : Int)), (5, intA (k : Int))]) (fun _ => [(3, rteB out)]) (fun k => k ≤ out.length ∧ ∀ (j : Nat) (hj : j < out.length), k ≤ j → ordR l[i] out[j] < 0) (fun k => k) out.length ⟨Nat.le_refl _, fun j h1 h2 => by omega⟩ (Wk_sel ⟨rfl, rfl, rfl, rfl, trivial⟩ ⟨rfl, trivial⟩) ?_
    rintro k ⟨hk, hb⟩
    try dsimp only
    have hmn : Nat.min (out.length + 1 - k) (out.length + 1 - (k + 1)) = out.length - k := by show min _ _ = _; omega
    by_cases hk0 : 0 < k
    · have hk1 : k - 1 < out.length := by omega
      have hk' : ((k : Int) - 1) = ((k - 1 : Nat) : Int) := by omega
      have hc := refCmpR_A l[i] out[k - 1]
      obtain ⟨c, hcc⟩ : ∃ c, ordR l[i] out[k - 1] = c := ⟨_, rfl⟩
      rw [hcc] at hc
      have hw1 := win_at out (k - 1) hk1
      by_cases hneg : c < 0
      ·
        repeat (first | refine q_Z ?_ | refine R_quiet rfl mixed (by kernel_rfl) ?_ | ((first | apply O_y rfl rfl rfl | apply Q_y rfl rfl rfl); (first | exact q_A | exact R_loadi tabOk rfl rfl rfl rfl hw0 rfl rfl | exact q_B | (first | exact R_indexr tabOk rfl rfl rfl rfl rfl rfl rfl hk1 | exact R_indexr tabOk rfl rfl rfl rfl rfl rfl hk' hk1 | exact R_loade tabOk rfl rfl rfl rfl rfl rfl hw1 rfl rfl))) | refine q_d ?_ | refine q_a ?_ | refine q_b ?_ | refine q_c ?_ | refine A_ct rfl ?_ | refine A_cf rfl ?_ | refine q_W ?_ | (first | refine Q_c rfl rfl rfl rfl rfl hc rfl (fun _ _ _ => val_mk _ _ _ _ _ rfl rfl) ?_ | refine O_c rfl rfl rfl rfl rfl hc (fun _ => rfl) ?_))
        exact ⟨k - 1, ⟨by omega, fun j h1 h2 => by
          by_cases hj : j = k - 1
          · subst hj; rw [hcc]; exact hneg
          · exact hb j h1 (by omega)⟩, by omega, Wk_sel ⟨rfl, rfl, rfl, rfl, trivial⟩ ⟨rfl, trivial⟩⟩
      · by_cases hz : c = 0
        · have hold : sortU ordR (l.take (i + 1)) = out := by
            rw [hsn]
            refine insU_old good_ordR ordR_eq' ho ?_
            rw [ordR_eq' _ _ (hcc.trans hz)]
            exact List.getElem_mem hk1
          repeat (first | refine q_Z ?_ | refine R_quiet rfl mixed (by kernel_rfl) ?_ | ((first | apply O_y rfl rfl rfl | apply Q_y rfl rfl rfl); (first | exact q_A | exact R_loadi tabOk rfl rfl rfl rfl hw0 rfl rfl | exact q_B | (first | exact R_indexr tabOk rfl rfl rfl rfl rfl rfl rfl hk1 | exact R_indexr tabOk rfl rfl rfl rfl rfl rfl hk' hk1 | exact R_loade tabOk rfl rfl rfl rfl rfl rfl hw1 rfl rfl))) | refine q_d ?_ | refine q_a ?_ | refine q_b ?_ | refine q_c ?_ | refine A_ct rfl ?_ | refine A_cf rfl ?_ | refine q_W ?_ | (first | refine Q_c rfl rfl rfl rfl rfl hc rfl (fun _ _ _ => val_mk _ _ _ _ _ rfl rfl) ?_ | refine O_c rfl rfl rfl rfl rfl hc (fun _ => rfl) ?_))
          exact ⟨i + 1, by omega, by omega, Wk_sel ⟨rfl, rfl, rfl, trivial⟩ ⟨by rw [hold]; rfl, trivial⟩⟩
        · have hnew : sortU ordR (l.take (i + 1)) = out.take k ++ l[i] :: out.drop k := by
            rw [hsn]
            refine insU_new good_ordR ordR_eq' ho hk hb fun j h1 h2 => ?_
            have : j = k - 1 := by omega
            subst this
            rw [hcc]; omega
          repeat (first | refine q_Z ?_ | refine R_quiet rfl mixed (by kernel_rfl) ?_ | ((first | apply O_y rfl rfl rfl | apply Q_y rfl rfl rfl); (first | exact q_A | exact R_loadi tabOk rfl rfl rfl rfl hw0 rfl rfl | exact q_B | (first | exact R_indexr tabOk rfl rfl rfl rfl rfl rfl rfl hk1 | exact R_indexr tabOk rfl rfl rfl rfl rfl rfl hk' hk1 | exact R_loade tabOk rfl rfl rfl rfl rfl rfl hw1 rfl rfl))) | refine q_d ?_ | refine q_a ?_ | refine q_b ?_ | refine q_c ?_ | refine A_ct rfl ?_ | refine A_cf rfl ?_ | refine q_W ?_ | (first | refine Q_c rfl rfl rfl rfl rfl hc rfl (fun _ _ _ => val_mk _ _ _ _ _ rfl rfl) ?_ | refine O_c rfl rfl rfl rfl rfl hc (fun _ => rfl) ?_))
          repeat (first | refine q_Z ?_ | refine R_quiet rfl mixed (by kernel_rfl) ?_ | ((first | apply O_y rfl rfl rfl | apply Q_y rfl rfl rfl); (first | exact q_A | exact R_loadi tabOk rfl rfl rfl rfl hw0 rfl rfl | exact q_B)) | refine q_d ?_ | refine q_a ?_ | refine q_b ?_ | refine q_c ?_ | refine A_ct rfl ?_ | refine A_cf rfl ?_ | refine q_W ?_ | (first | refine O_appR tabOk rfl rfl rfl rfl rfl rfl rfl rfl rfl rfl rfl (by first | exact Src.row rfl | exact Src.dat _ _ | exact Src.nil) rfl (by omega) ?_ | refine O_appN tabOk rfl rfl rfl rfl rfl rfl rfl rfl rfl rfl (by first | exact Src.row rfl | exact Src.dat _ _ | exact Src.nil) rfl (by omega) ?_))
          refine N_begin [3] mixed ?_
          (apply q_P 0 rfl (by kernel_rfl) rfl rfl rfl; (first | exact q_A | exact q_5 | exact q_B | fail))
          (apply q_P 1 rfl (by kernel_rfl) rfl rfl rfl; (first | exact q_A | exact q_5 | exact q_B | fail))
          (apply q_P 2 rfl (by kernel_rfl) rfl rfl rfl; (first | exact q_A | exact q_5 | exact q_B | fail))
          (apply q_P 3 rfl (by kernel_rfl) rfl rfl rfl; (first | exact q_A | exact q_5 | exact q_B | (exact R_rowFrom tabOk rfl rfl rfl rfl rfl rfl rfl (show k + 1 ≤ out.length + 1 by omega))))
          (apply q_P 4 rfl (by kernel_rfl) rfl rfl rfl; (first | exact q_A | exact q_5 | exact q_B | fail))
          (apply q_P 5 rfl (by kernel_rfl) rfl rfl rfl; (first | exact q_A | exact q_5 | exact q_B | fail))
          (apply q_P 6 rfl (by kernel_rfl) rfl rfl rfl; (first | exact q_A | exact q_5 | exact q_B | (exact R_rowFrom tabOk rfl rfl rfl rfl rfl rfl rfl (show k ≤ out.length + 1 by omega))))
          refine N_one (j := 7) (by kernel_rfl) ?_
          refine T_copyS tabOk rfl rfl rfl rfl rfl rfl rfl rfl rfl rfl rfl hmn (by omega) (by omega) ?_
          refine N_done (by kernel_rfl) ?_
          have hfi := flat_ins rteD_len out l[i] [.sc (.int .u32 0), .sc (.int .i64 0), .sc (.int .u8 0), .sc (.int .i64 0), .sc (.int .i64 0), .sc (.int .i64 0), .sc (.string ⟨#[]⟩), .sc (.int .u32 0), .sc (.bool false)] rfl k hk
          repeat (first | refine q_Z ?_ | refine R_quiet rfl mixed (by kernel_rfl) ?_ | ((first | apply O_y rfl rfl rfl | apply Q_y rfl rfl rfl); (first | exact q_A | exact R_loadi tabOk rfl rfl rfl rfl hw0 rfl rfl | exact q_B)) | refine q_d ?_ | refine q_a ?_ | refine q_b ?_ | refine q_c ?_ | refine A_ct rfl ?_ | refine A_cf rfl ?_ | refine q_W ?_ | (refine O_storee tabOk rfl rfl rfl rfl rfl rfl rfl rfl rfl rfl (by rw [hfi.1]; omega) (by omega) ?_))
          exact ⟨i + 1, by omega, by omega, Wk_sel ⟨rfl, rfl, rfl, trivial⟩ ⟨row_eq (by rw [hnew, List.length_append, List.length_cons, List.length_take, List.length_drop]; omega) (by rw [hnew]; exact hfi.2) rfl, trivial⟩⟩
    · have hk00 : k = 0 := by omega
      have hnew : sortU ordR (l.take (i + 1)) = out.take k ++ l[i] :: out.drop k := by
        rw [hsn]
        exact insU_new good_ordR ordR_eq' ho hk hb fun j h1 h2 => by omega
      repeat (first | refine q_Z ?_ | refine R_quiet rfl mixed (by kernel_rfl) ?_ | ((first | apply O_y rfl rfl rfl | apply Q_y rfl rfl rfl); (first | exact q_A | exact q_5 | exact q_B)) | refine q_d ?_ | refine q_a ?_ | refine q_b ?_ | refine q_c ?_ | refine A_ct rfl ?_ | refine A_cf rfl ?_ | refine q_W ?_)
      repeat (first | refine q_Z ?_ | refine R_quiet rfl mixed (by kernel_rfl) ?_ | ((first | apply O_y rfl rfl rfl | apply Q_y rfl rfl rfl); (first | exact q_A | exact R_loadi tabOk rfl rfl rfl rfl hw0 rfl rfl | exact q_B)) | refine q_d ?_ | refine q_a ?_ | refine q_b ?_ | refine q_c ?_ | refine A_ct rfl ?_ | refine A_cf rfl ?_ | refine q_W ?_ | (first | refine O_appR tabOk rfl rfl rfl rfl rfl rfl rfl rfl rfl rfl rfl (by first | exact Src.row rfl | exact Src.dat _ _ | exact Src.nil) rfl (by omega) ?_ | refine O_appN tabOk rfl rfl rfl rfl rfl rfl rfl rfl rfl rfl (by first | exact Src.row rfl | exact Src.dat _ _ | exact Src.nil) rfl (by omega) ?_))
      refine N_begin [3] mixed ?_
      (apply q_P 0 rfl (by kernel_rfl) rfl rfl rfl; (first | exact q_A | exact q_5 | exact q_B | fail))
      (apply q_P 1 rfl (by kernel_rfl) rfl rfl rfl; (first | exact q_A | exact q_5 | exact q_B | fail))
      (apply q_P 2 rfl (by kernel_rfl) rfl rfl rfl; (first | exact q_A | exact q_5 | exact q_B | fail))
      (apply q_P 3 rfl (by kernel_rfl) rfl rfl rfl; (first | exact q_A | exact q_5 | exact q_B | (exact R_rowFrom tabOk rfl rfl rfl rfl rfl rfl rfl (show k + 1 ≤ out.length + 1 by omega))))
      (apply q_P 4 rfl (by kernel_rfl) rfl rfl rfl; (first | exact q_A | exact q_5 | exact q_B | fail))
      (apply q_P 5 rfl (by kernel_rfl) rfl rfl rfl; (first | exact q_A | exact q_5 | exact q_B | fail))
      (apply q_P 6 rfl (by kernel_rfl) rfl rfl rfl; (first | exact q_A | exact q_5 | exact q_B | (exact R_rowFrom tabOk rfl rfl rfl rfl rfl rfl rfl (show k ≤ out.length + 1 by omega))))
      refine N_one (j := 7) (by kernel_rfl) ?_
      refine T_copyS tabOk rfl rfl rfl rfl rfl rfl rfl rfl rfl rfl rfl hmn (by omega) (by omega) ?_
      refine N_done (by kernel_rfl) ?_
      have hfi := flat_ins rteD_len out l[i] [.sc (.int .u32 0), .sc (.int .i64 0), .sc (.int .u8 0), .sc (.int .i64 0), .sc (.int .i64 0), .sc (.int .i64 0), .sc (.string ⟨#[]⟩), .sc (.int .u32 0), .sc (.bool false)] rfl k hk
      repeat (first | refine q_Z ?_ | refine R_quiet rfl mixed (by kernel_rfl) ?_ | ((first | apply O_y rfl rfl rfl | apply Q_y rfl rfl rfl); (first | exact q_A | exact R_loadi tabOk rfl rfl rfl rfl hw0 rfl rfl | exact q_B)) | refine q_d ?_ | refine q_a ?_ | refine q_b ?_ | refine q_c ?_ | refine A_ct rfl ?_ | refine A_cf rfl ?_ | refine q_W ?_ | (refine O_storee tabOk rfl rfl rfl rfl rfl rfl rfl rfl rfl rfl (by rw [hfi.1]; omega) (by omega) ?_))
      exact ⟨i + 1, by omega, by omega, Wk_sel ⟨rfl, rfl, rfl, trivial⟩ ⟨row_eq (by rw [hnew, List.length_append, List.length_cons, List.length_take, List.length_drop]; omega) (by rw [hnew]; exact hfi.2) rfl, trivial⟩⟩
  · have : i = l.length := by omega
    subst this
    rw [List.take_length]
    repeat (first | refine q_Z ?_ | refine R_quiet rfl mixed (by kernel_rfl) ?_ | ((first | apply O_y rfl rfl rfl | apply Q_y rfl rfl rfl); (first | exact q_A | exact q_5 | exact q_B)) | refine q_d ?_ | refine q_a ?_ | refine q_b ?_ | refine q_c ?_ | refine A_ct rfl ?_ | refine A_cf rfl ?_ | refine q_W ?_)
    exact X_retW AWk.refl rfl (h2 := [(3, rteB (sortU ordR l))]) ⟨rfl, trivial⟩ ⟨rfl, rfl⟩
end Go.Proofs.YtenolkolkpfjgaaGreat.Ab

namespace Go.Proofs.YtenolkolkpfjgaaGreat.Ab
set_option linter.unusedVariables false
set_option maxRecDepth 100000
open Go.RowKit Go.Lib
section
variable {P : Program} {nt : Nat} {Q : Post} {e : Env} {h : Heap} {ops : Array Oper} {o : Oper} {rest : List Oper} {T : List Nat} {fuel i : Nat} {listed : Array Bool}
end
set_option linter.unusedSimpArgs false
attribute [local irreducible] AWp AOps AQ AYield AEff ACall AWk AAny AAt AThen AIn APost NoPanic
def minR : Rte → List Rte → Rte
  | c, [] => c
  | c, s :: t => minR (if s.m < c.m then s else c) t
def discI : List Rte → Int
  | [] => -1
  | r :: t => if r.x then 0 else (if discI t < 0 then -1 else discI t + 1)
end Go.Proofs.YtenolkolkpfjgaaGreat.Ab

namespace Go.Proofs.YtenolkolkpfjgaaGreat.Ab
set_option linter.unusedVariables false
set_option maxRecDepth 100000
open Go.RowKit Go.Lib
section
variable {P : Program} {nt : Nat} {Q : Post} {e : Env} {h : Heap} {ops : Array Oper} {o : Oper} {rest : List Oper} {T : List Nat}
end
set_option linter.unusedSimpArgs false
attribute [local irreducible] AWp AOps AQ AYield AEff ACall AWk AAny AAt AThen AIn APost NoPanic
def ownB (r : Rte) : Bool := !decide (r.f = 7) && !decide (r.f = 8)
def usN (l : List Rte) (x : Int) : Int × Bool := match longL (l.filter ownB) x with
  | [] => (0, false)
  | r :: t => if (r :: t).any (·.x) then (0, false) else ((minR r t).m, true)
end Go.Proofs.YtenolkolkpfjgaaGreat.Ab

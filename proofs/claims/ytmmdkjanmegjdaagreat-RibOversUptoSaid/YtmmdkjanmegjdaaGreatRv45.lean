/-
 Texts of a proof, one behind the other (part 46).
-/
import Derived.Test.YtmmdkjanmegjdaaGreatRv4
import Derived.Test.YtmmdkjanmegjdaaGreatRv44
set_option linter.unusedSimpArgs false
set_option linter.unusedVariables false
namespace Go.Proofs.YtmmdkjanmegjdaaGreat.Ab
set_option maxRecDepth 100000
open Go.RowKit Go.Lib
theorem zji {α : Type} [DecidableEq α] {c : α → α → Int} : sortU c ([] : List α) = [] := List.eq_nil_of_length_eq_zero (Nat.le_zero.1 (zbi (c := c) []))
attribute [local irreducible] AWp AOps AQ AYield AEff ACall AWk AAny AAt AThen AIn APost NoPanic
set_option maxHeartbeats 8000000 in
theorem zjp (l : List Rte) (hn : l.length ≤ 1000000) : ACall Tryz.prog 13 [rtesA l] [] (fun c h => c = .row 3 ∧ h = [(3, rteB (sortU ordR l))]) := by
 refine zf za Tryz.func13 rfl Tryz.ntmps13 (congrArg Array.toList Tryz.results13) (by kernel_rfl) rfl ?_
 repeat (first | refine q_Y ?_ | ((first | apply q_K rfl | apply q_X rfl); (exact q_H)) | refine q_U ?_)
 refine zt (zbn 58 9 (t := 3) (id := 3) rfl rfl) ?_
 refine zw (fun i : Nat => [(0, rtesA l), (3, .row 3), (4, intA (i : Int))]) (fun i => [(3, rteB (sortU ordR (l.take i)))]) (fun i => i ≤ l.length) (fun i => l.length - i) 0 (Nat.zero_le _) (zm ⟨rfl, rfl, rfl, trivial⟩ ⟨by rw [List.take_zero, zji]; rfl, trivial⟩) ?_
 intro i hi
 try dsimp only
 by_cases hil : i < l.length
 ·obtain ⟨out, ho⟩ : ∃ out, sortU ordR (l.take i) = out := ⟨_, rfl⟩
  have hlo : out.length ≤ i := by rw [← ho]; exact Nat.le_trans (zbi _) (by rw [List.length_take]; omega)
  have hsn : sortU ordR (l.take (i + 1)) = sortU ordR (l.take i ++ [l[i]]) := by rw [List.take_succ_eq_append_getElem hil]
  rw [ho]
  have hw0 := zb0 l i hil
  repeat (first | refine q_Y ?_ | ((first | apply q_K rfl | apply q_X rfl); (exact q_H)) | refine q_U ?_)
  refine zw (fun k : Nat => [(0, rtesA l), (3, .row 3), (4, intA (i : Int)), (5, intA (k : Int))]) (fun _ => [(3, rteB out)]) (fun k => k ≤ out.length ∧ ∀ (j : Nat) (hj : j < out.length), k ≤ j → ordR l[i] out[j] < 0) (fun k => k) out.length ⟨Nat.le_refl _, fun j h1 h2 => by omega⟩ (q_S) ?_
  rintro k ⟨hk, hb⟩
  try dsimp only
  have hmn : Nat.min (out.length + 1 - k) (out.length + 1 - (k + 1)) = out.length - k := by show min _ _ = _; omega
  by_cases hk0 : 0 < k
  ·have hk1 : k - 1 < out.length := by omega
   have hk' : ((k : Int) - 1) = ((k - 1 : Nat) : Int) := by omega
   have hc := zjs l[i] out[k - 1]
   obtain ⟨c, hcc⟩ : ∃ c, ordR l[i] out[k - 1] = c := ⟨_, rfl⟩
   rw [hcc] at hc
   have hw1 := zb0 out (k - 1) hk1
   by_cases hneg : c < 0
   ·
    repeat (first | refine q_Y ?_ | ((first | apply q_K rfl | apply q_X rfl); (first | exact q_A | exact q_R (w := hw0) | exact q_B | (first | exact zi za rfl rfl rfl rfl rfl rfl rfl hk1 | exact zi za rfl rfl rfl rfl rfl rfl hk' hk1 | exact zg za rfl rfl rfl rfl rfl rfl hw1 rfl rfl))) | refine q_U ?_ | (first | refine q_Q hc ?_ | refine q_O hc ?_))
    exact ⟨k - 1, ⟨by omega, fun j h1 h2 => by
     by_cases hj : j = k - 1
     ·subst hj; rw [hcc]; exact hneg
     ·exact hb j h1 (by omega)⟩, by omega, q_S⟩
   ·by_cases hz : c = 0
    ·have hold : sortU ordR (l.take (i + 1)) = out := by
      rw [hsn]
      refine zln zbd ordR_eq' ho ?_
      rw [ordR_eq' _ _ (hcc.trans hz)]
      exact List.getElem_mem hk1
     repeat (first | refine q_Y ?_ | ((first | apply q_K rfl | apply q_X rfl); (first | exact q_A | exact q_R (w := hw0) | exact q_B | (first | exact zi za rfl rfl rfl rfl rfl rfl rfl hk1 | exact zi za rfl rfl rfl rfl rfl rfl hk' hk1 | exact zg za rfl rfl rfl rfl rfl rfl hw1 rfl rfl))) | refine q_U ?_ | (first | refine q_Q hc ?_ | refine q_O hc ?_))
     exact ⟨i + 1, by omega, by omega, zm ⟨rfl, rfl, rfl, trivial⟩ ⟨by rw [hold]; rfl, trivial⟩⟩
    ·have hnew : sortU ordR (l.take (i + 1)) = out.take k ++ l[i] :: out.drop k := by
      rw [hsn]
      refine zg5 zbd ordR_eq' ho hk hb fun j h1 h2 => ?_
      have : j = k - 1 := by omega
      subst this
      rw [hcc]; omega
     repeat (first | refine q_Y ?_ | ((first | apply q_K rfl | apply q_X rfl); (first | exact q_A | exact q_R (w := hw0) | exact q_B | (first | exact zi za rfl rfl rfl rfl rfl rfl rfl hk1 | exact zi za rfl rfl rfl rfl rfl rfl hk' hk1 | exact zg za rfl rfl rfl rfl rfl rfl hw1 rfl rfl))) | refine q_U ?_ | (first | refine q_Q hc ?_ | refine q_O hc ?_))
     repeat (first | refine q_Y ?_ | ((first | apply q_K rfl | apply q_X rfl); (first | exact q_A | exact q_R (w := hw0) | exact q_B)) | refine q_U ?_ | (first | refine zaE za rfl rfl rfl rfl rfl rfl rfl rfl rfl rfl rfl (by first | exact Src.row rfl | exact Src.dat _ _ | exact Src.nil) rfl (by omega) ?_ | refine zaF za rfl rfl rfl rfl rfl rfl rfl rfl rfl rfl (by first | exact Src.row rfl | exact Src.dat _ _ | exact Src.nil) rfl (by omega) ?_))
     refine zA [3] mixed ?_
     (apply q_P 0 rfl (by kernel_rfl) rfl rfl rfl; (first | exact q_H | fail))
     (apply q_P 1 rfl (by kernel_rfl) rfl rfl rfl; (first | exact q_H | fail))
     (apply q_P 2 rfl (by kernel_rfl) rfl rfl rfl; (first | exact q_H | fail))
     (apply q_P 3 rfl (by kernel_rfl) rfl rfl rfl; (first | exact q_H | (exact za3 za rfl rfl rfl rfl rfl rfl rfl (show k + 1 ≤ out.length + 1 by omega))))
     (apply q_P 4 rfl (by kernel_rfl) rfl rfl rfl; (first | exact q_H | fail))
     (apply q_P 5 rfl (by kernel_rfl) rfl rfl rfl; (first | exact q_H | fail))
     (apply q_P 6 rfl (by kernel_rfl) rfl rfl rfl; (first | exact q_H | (exact za3 za rfl rfl rfl rfl rfl rfl rfl (show k ≤ out.length + 1 by omega))))
     refine zd (j := 7) (by kernel_rfl) ?_
     refine ziY za rfl rfl rfl rfl rfl rfl rfl rfl rfl rfl rfl hmn (by omega) (by omega) ?_
     refine zz (by kernel_rfl) ?_
     have hfi := zhc zr out l[i] [.sc (.int .u32 0), .sc (.int .i64 0), .sc (.int .u8 0), .sc (.int .i64 0), .sc (.int .i64 0), .sc (.int .i64 0), .sc (.string ⟨#[]⟩), .sc (.int .u32 0), .sc (.bool false)] rfl k hk
     repeat (first | refine q_Y ?_ | ((first | apply q_K rfl | apply q_X rfl); (first | exact q_A | exact q_R (w := hw0) | exact q_B)) | refine q_U ?_ | (refine zcL za rfl rfl rfl rfl rfl rfl rfl rfl rfl rfl (by rw [hfi.1]; omega) (by omega) ?_))
     exact ⟨i + 1, by omega, by omega, zm ⟨rfl, rfl, rfl, trivial⟩ ⟨zah (by rw [hnew, List.length_append, List.length_cons, List.length_take, List.length_drop]; omega) (by rw [hnew]; exact hfi.2) rfl, trivial⟩⟩
  ·have hk00 : k = 0 := by omega
   have hnew : sortU ordR (l.take (i + 1)) = out.take k ++ l[i] :: out.drop k := by
    rw [hsn]
    exact zg5 zbd ordR_eq' ho hk hb fun j h1 h2 => by omega
   repeat (first | refine q_Y ?_ | ((first | apply q_K rfl | apply q_X rfl); (exact q_H)) | refine q_U ?_)
   repeat (first | refine q_Y ?_ | ((first | apply q_K rfl | apply q_X rfl); (first | exact q_A | exact q_R (w := hw0) | exact q_B)) | refine q_U ?_ | (first | refine zaE za rfl rfl rfl rfl rfl rfl rfl rfl rfl rfl rfl (by first | exact Src.row rfl | exact Src.dat _ _ | exact Src.nil) rfl (by omega) ?_ | refine zaF za rfl rfl rfl rfl rfl rfl rfl rfl rfl rfl (by first | exact Src.row rfl | exact Src.dat _ _ | exact Src.nil) rfl (by omega) ?_))
   refine zA [3] mixed ?_
   (apply q_P 0 rfl (by kernel_rfl) rfl rfl rfl; (first | exact q_H | fail))
   (apply q_P 1 rfl (by kernel_rfl) rfl rfl rfl; (first | exact q_H | fail))
   (apply q_P 2 rfl (by kernel_rfl) rfl rfl rfl; (first | exact q_H | fail))
   (apply q_P 3 rfl (by kernel_rfl) rfl rfl rfl; (first | exact q_H | (exact za3 za rfl rfl rfl rfl rfl rfl rfl (show k + 1 ≤ out.length + 1 by omega))))
   (apply q_P 4 rfl (by kernel_rfl) rfl rfl rfl; (first | exact q_H | fail))
   (apply q_P 5 rfl (by kernel_rfl) rfl rfl rfl; (first | exact q_H | fail))
   (apply q_P 6 rfl (by kernel_rfl) rfl rfl rfl; (first | exact q_H | (exact za3 za rfl rfl rfl rfl rfl rfl rfl (show k ≤ out.length + 1 by omega))))
   refine zd (j := 7) (by kernel_rfl) ?_
   refine ziY za rfl rfl rfl rfl rfl rfl rfl rfl rfl rfl rfl hmn (by omega) (by omega) ?_
   refine zz (by kernel_rfl) ?_
   have hfi := zhc zr out l[i] [.sc (.int .u32 0), .sc (.int .i64 0), .sc (.int .u8 0), .sc (.int .i64 0), .sc (.int .i64 0), .sc (.int .i64 0), .sc (.string ⟨#[]⟩), .sc (.int .u32 0), .sc (.bool false)] rfl k hk
   repeat (first | refine q_Y ?_ | ((first | apply q_K rfl | apply q_X rfl); (first | exact q_A | exact q_R (w := hw0) | exact q_B)) | refine q_U ?_ | (refine zcL za rfl rfl rfl rfl rfl rfl rfl rfl rfl rfl (by rw [hfi.1]; omega) (by omega) ?_))
   exact ⟨i + 1, by omega, by omega, zm ⟨rfl, rfl, rfl, trivial⟩ ⟨zah (by rw [hnew, List.length_append, List.length_cons, List.length_take, List.length_drop]; omega) (by rw [hnew]; exact hfi.2) rfl, trivial⟩⟩
 ·have : i = l.length := by omega
  subst this
  rw [List.take_length]
  repeat (first | refine q_Y ?_ | ((first | apply q_K rfl | apply q_X rfl); (exact q_H)) | refine q_U ?_)
  exact zo AWk.refl rfl (h2 := [(3, rteB (sortU ordR l))]) ⟨rfl, trivial⟩ ⟨rfl, rfl⟩
end Go.Proofs.YtmmdkjanmegjdaaGreat.Ab

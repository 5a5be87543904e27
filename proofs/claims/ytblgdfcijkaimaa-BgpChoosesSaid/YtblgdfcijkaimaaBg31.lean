/-
  Texts of a proof, one behind the other (part 32).
-/
import Derived.Test.YtblgdfcijkaimaaBg1
import Derived.Test.YtblgdfcijkaimaaBg7
import Derived.Test.YtblgdfcijkaimaaBg8
import Derived.Test.YtblgdfcijkaimaaBg11
import Derived.Test.YtblgdfcijkaimaaBg12
set_option linter.unusedVariables false
set_option linter.unusedSimpArgs false
namespace Go.Proofs.Ytblgdfcijkaimaa.Ab
set_option linter.unusedVariables false
set_option maxRecDepth 100000
open Go.RowKit Go.Lib
abbrev aB (l : List Adv) : ABlk := .row 34 13 l.length (l.flatMap advD)
section
variable {P : Program} {nt : Nat} {Q : Post} {e : Env} {h : Heap} {ops : Array Oper} {o : Oper} {rest : List Oper} {T : List Nat} {tab : TTab}
def xorI (a b : Int) : Int := IntKind.i64.wrap ((BitVec.ofInt 64 a ^^^ BitVec.ofInt 64 b).toNat)
theorem xorI_ok (a b : Int) : okI (xorI a b) := by
  unfold okI xorI
  generalize ((BitVec.ofInt 64 a ^^^ BitVec.ofInt 64 b).toNat : Int) = n
  rw [show IntKind.i64.wrap n = (n + 9223372036854775808) % 18446744073709551616 - 9223372036854775808 by simp [IntKind.wrap, IntKind.bits, IntKind.signed]; omega]
  omega
theorem R_xor {t u : TypeId} {x y : Operand} {a b r : Int} (ho : o.op = .binOp .xor t x y u) (hx : aev e x = some (.d (.sc (.int .i64 a)))) (hy : aev e y = some (.d (.sc (.int .i64 b)))) (hr : xorI a b = r) : AYield P T e h o (.d (.sc (.int .i64 r))) := yield_of _ fun w F ι ac E => by
  refine ⟨.int .i64 r, sc_rel rfl, fun w' => ?_⟩
  have h1 := (sc_of (aev_rel E hx)).1
  have h2 := (sc_of (aev_rel E hy)).1
  subst hr
  simp only [execOp, ho, h1, h2]
  rfl
end
theorem setW_app1 (A B : List Dat) (o : Nat) (ds : List Dat) (h : o + ds.length ≤ A.length) : setW (A ++ B) o ds = setW A o ds ++ B := by
  unfold setW
  rw [List.take_append_of_le_length (by omega), List.drop_append_of_le_length h]
  simp
theorem setW_app2 (A B : List Dat) (o : Nat) (ds : List Dat) : setW (A ++ B) (A.length + o) ds = A ++ setW B o ds := by
  unfold setW
  rw [List.take_length_add_append, show A.length + o + ds.length = A.length + (o + ds.length) by omega, List.drop_length_add_append]
  simp
theorem setW_advs (M : List Adv) (i off : Nat) (hi : i < M.length) (x : Adv) (ds : List Dat) (ho : off + ds.length ≤ 13) (hx : setW (advD M[i]) off ds = advD x) : setW (M.flatMap advD) (i * 13 + off) ds = (M.set i x).flatMap advD := by
  induction M generalizing i with
  | nil => simp at hi
  | cons a r ih =>
    rw [List.flatMap_cons]
    cases i with
    | zero =>
      rw [Nat.zero_mul, Nat.zero_add, setW_app1 _ _ _ _ (by rw [advD_len]; exact ho)]
      rw [show (a :: r).set 0 x = x :: r from rfl, List.flatMap_cons]
      congr 1
    | succ i =>
      have e : (i + 1) * 13 + off = (advD a).length + (i * 13 + off) := by rw [advD_len]; omega
      rw [e, setW_app2, ih i (by simpa using hi) (by simpa using hx)]
      rfl
set_option linter.unusedSimpArgs false
attribute [local irreducible] AWp AOps AQ AYield AEff ACall AWk AAny AAt AThen AIn APost NoPanic
set_option maxHeartbeats 4000000 in
theorem copyD_A (l : List Adv) (hl : ∀ x ∈ l, x.ok) (hn : l.length ≤ 1000) : ACall Try.prog 4 [advsA l] [] (fun c h => c = .row 3 ∧ h = [(3, aB l)]) := by
  refine ACall_of tabOk Try.func4 rfl Try.ntmps4 (congrArg Array.toList Try.results4) (by kernel_rfl) rfl ?_
  repeat (first | refine q_Z ?_ | refine R_quiet rfl mixed (by kernel_rfl) ?_ | ((first | apply O_y rfl rfl rfl | apply Q_y rfl rfl rfl); (first | exact q_A | exact q_5 | exact q_B)) | refine q_d ?_ | refine q_a ?_ | refine q_b ?_ | refine q_c ?_ | refine A_ct rfl ?_ | refine A_cf rfl ?_ | refine q_W ?_)
  refine A_weaken (Wk_nil 34 13 (t := 3) (id := 3) rfl rfl) ?_
  refine A_loop (fun k : Nat => [(0, advsA l), (3, .row 3), (4, intA (k : Int))]) (fun k => [(3, aB (l.take k))]) (fun k => k ≤ l.length) (fun k => l.length - k) 0 (Nat.zero_le _) (Wk_sel ⟨rfl, rfl, rfl, trivial⟩ ⟨rfl, trivial⟩) ?_
  intro k hkl
  try dsimp only
  have htl : (l.take k).length = k := by rw [List.length_take]; omega
  by_cases hk : k < l.length
  · have htx := twinAdv_A l[k] (hl _ (List.getElem_mem hk))
    repeat (first | refine q_Z ?_ | refine R_quiet rfl mixed (by kernel_rfl) ?_ | ((first | apply O_y rfl rfl rfl | apply Q_y rfl rfl rfl); (first | exact q_A | exact R_loadi tabOk rfl rfl rfl rfl (by first | exact win_flat0 advD_len l k _ hk (by decide) | exact win_flat advD_len l k _ _ hk (by decide) | exact win_flat2 advD_len l k _ _ _ hk (by decide) | rfl) rfl rfl | exact q_B)) | refine q_d ?_ | refine q_a ?_ | refine q_b ?_ | refine q_c ?_ | refine A_ct rfl ?_ | refine A_cf rfl ?_ | refine q_W ?_ | (first | refine O_c rfl rfl rfl rfl rfl htx (fun _ => rfl) ?_ | refine O_appR tabOk rfl rfl rfl rfl rfl rfl rfl rfl rfl rfl rfl (Src.row rfl) rfl (by omega) ?_))
    exact ⟨k + 1, by omega, by omega, Wk_sel ⟨rfl, rfl, rfl, trivial⟩ ⟨row_eq (by simp; omega) (by rw [List.take_succ_eq_append_getElem hk, List.flatMap_append]; rfl) rfl, trivial⟩⟩
  · obtain rfl : k = l.length := by omega
    rw [List.take_length]
    repeat (first | refine q_Z ?_ | refine R_quiet rfl mixed (by kernel_rfl) ?_ | ((first | apply O_y rfl rfl rfl | apply Q_y rfl rfl rfl); (first | exact q_A | exact q_5 | exact q_B)) | refine q_d ?_ | refine q_a ?_ | refine q_b ?_ | refine q_c ?_ | refine A_ct rfl ?_ | refine A_cf rfl ?_ | refine q_W ?_)
    exact X_retW AWk.refl rfl (h2 := [(3, aB l)]) ⟨rfl, trivial⟩ ⟨rfl, rfl⟩
set_option maxHeartbeats 4000000 in
theorem copyR_A (l : List Adv) (hl : ∀ x ∈ l, x.ok) (hn : l.length ≤ 1000) : ACall Try.prog 4 [.row 1000] [(1000, aB l)] (fun c h => c = .row 3 ∧ h = [(3, aB l), (1000, aB l)]) := by
  refine ACall_of tabOk Try.func4 rfl Try.ntmps4 (congrArg Array.toList Try.results4) (by kernel_rfl) rfl ?_
  repeat (first | refine q_Z ?_ | refine R_quiet rfl mixed (by kernel_rfl) ?_ | ((first | apply O_y rfl rfl rfl | apply Q_y rfl rfl rfl); (first | exact q_A | exact q_5 | exact q_B)) | refine q_d ?_ | refine q_a ?_ | refine q_b ?_ | refine q_c ?_ | refine A_ct rfl ?_ | refine A_cf rfl ?_ | refine q_W ?_)
  refine A_weaken (Wk_nil 34 13 (t := 3) (id := 3) rfl rfl) ?_
  refine A_loop (fun k : Nat => [(0, .row 1000), (3, .row 3), (4, intA (k : Int))]) (fun k => [(3, aB (l.take k)), (1000, aB l)]) (fun k => k ≤ l.length) (fun k => l.length - k) 0 (Nat.zero_le _) (Wk_sel ⟨rfl, rfl, rfl, trivial⟩ ⟨rfl, rfl, trivial⟩) ?_
  intro k hkl
  try dsimp only
  have htl : (l.take k).length = k := by rw [List.length_take]; omega
  by_cases hk : k < l.length
  · have htx := twinAdv_A l[k] (hl _ (List.getElem_mem hk))
    have hw := win_flat0 advD_len l k 13 hk (by decide)
    repeat (first | refine q_Z ?_ | refine R_quiet rfl mixed (by kernel_rfl) ?_ | ((first | apply O_y rfl rfl rfl | apply Q_y rfl rfl rfl); (first | exact q_A | exact q_5 | exact q_B | (exact R_loade tabOk rfl rfl rfl rfl rfl rfl hw rfl rfl))) | refine q_d ?_ | refine q_a ?_ | refine q_b ?_ | refine q_c ?_ | refine A_ct rfl ?_ | refine A_cf rfl ?_ | refine q_W ?_ | (first | refine O_c rfl rfl rfl rfl rfl htx (fun _ => rfl) ?_ | refine O_appR tabOk rfl rfl rfl rfl rfl rfl rfl rfl rfl rfl rfl (Src.row rfl) rfl (by omega) ?_))
    exact ⟨k + 1, by omega, by omega, Wk_sel ⟨rfl, rfl, rfl, trivial⟩ ⟨row_eq (by simp; omega) (by rw [List.take_succ_eq_append_getElem hk, List.flatMap_append]; rfl) rfl, rfl, trivial⟩⟩
  · obtain rfl : k = l.length := by omega
    rw [List.take_length]
    repeat (first | refine q_Z ?_ | refine R_quiet rfl mixed (by kernel_rfl) ?_ | ((first | apply O_y rfl rfl rfl | apply Q_y rfl rfl rfl); (first | exact q_A | exact q_5 | exact q_B)) | refine q_d ?_ | refine q_a ?_ | refine q_b ?_ | refine q_c ?_ | refine A_ct rfl ?_ | refine A_cf rfl ?_ | refine q_W ?_)
    exact X_retW AWk.refl rfl (h2 := [(3, aB l), (1000, aB l)]) ⟨rfl, rfl, trivial⟩ ⟨rfl, rfl⟩
end Go.Proofs.Ytblgdfcijkaimaa.Ab

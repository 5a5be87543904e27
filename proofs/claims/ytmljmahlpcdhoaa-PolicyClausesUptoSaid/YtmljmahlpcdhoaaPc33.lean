/-
  Texts of a proof, one behind the other (part 34).
-/
import Derived.Test.YtmljmahlpcdhoaaPc1
import Derived.Test.YtmljmahlpcdhoaaPc2
import Derived.Test.YtmljmahlpcdhoaaPc13
import Derived.Test.YtmljmahlpcdhoaaPc14
set_option linter.unusedVariables false
set_option linter.unusedSimpArgs false
namespace Go.Proofs.Ytmljmahlpcdhoaa.Ab
set_option linter.unusedVariables false
set_option maxRecDepth 100000
open Go.RowKit Go.Lib
theorem eqV_self {s : Sh} {v : Value} (h : leafOk s v = true) : eqV v v = some true := by
  cases v <;> cases s <;> first | cases h; done | simp [eqV]
theorem eqCells_self {ks : List Sh} {xs : List Value} (h : leafsOk ks xs = true) : eqCells xs xs = some true := by
  induction ks generalizing xs with
  | nil =>
    cases xs with
    | nil => rfl
    | cons _ _ => cases h
  | cons k ks ih =>
    cases xs with
    | nil => cases h
    | cons x xs =>
      simp only [leafsOk, Bool.and_eq_true] at h
      simp [eqCells, eqV_self h.1, ih h.2]
theorem bb_self (b : Bool) : bbin .neq b b = some false := by cases b <;> rfl
section
variable {P : Program} {T : List Nat} {e : Env} {h : Heap} {o : Oper} {tab : TTab}
theorem R_neSelf {t u : TypeId} {x y : Operand} {cs : List AVal} {xs : List Value} {ks : List Sh} (TO : TabOk P tab) (hst : ∀ t, (tlook tab t).isSome = true → P.stoodInHeld t = false) (ho : o.op = .binOp .neq t x y u) (hx : aev e x = some (.agg cs)) (hy : aev e y = some (.agg cs))
    (h1 : scL cs = some xs) (hk : leafs tab 8 t = some ks) (hag : tagg tab t = some true) (hkx : leafsOk ks xs = true) (hg : P.eqGuardType P.depth t = false) : AYield P T e h o (.d (.sc (.bool false))) :=
  Y_eq TO hst ho hx hy h1 h1 hk hag hkx hkx hg (eqCells_self hkx) rfl
theorem R_neInt {t u : TypeId} {x y : Operand} {k : IntKind} {a : Int} (ho : o.op = .binOp .neq t x y u) (hx : aev e x = some (.d (.sc (.int k a)))) (hy : aev e y = some (.d (.sc (.int k a)))) : AYield P T e h o (.d (.sc (.bool false))) :=
  Y_ibin (r := .bool false) ho hx hy (by simp [ibin])
theorem R_neStr {t u : TypeId} {x y : Operand} {a : List UInt8} (ho : o.op = .binOp .neq t x y u) (hx : aev e x = some (strA a)) (hy : aev e y = some (strA a)) : AYield P T e h o (.d (.sc (.bool false))) :=
  Y_sbin ho hx hy (by simp [sbin])
theorem R_neBool {t u : TypeId} {x y : Operand} {a : Bool} (TO : TabOk P tab) (ho : o.op = .binOp .neq t x y u) (ht : tbool tab t = true) (hx : aev e x = some (.d (.sc (.bool a)))) (hy : aev e y = some (.d (.sc (.bool a)))) : AYield P T e h o (.d (.sc (.bool false))) :=
  Y_bbin TO ho ht hx hy (bb_self a)
end
set_option linter.unusedSimpArgs false
attribute [local irreducible] AWp AOps AQ AYield AEff ACall AWk AAny AAt AThen AIn APost NoPanic
theorem numbersSelf_A (l : List Int) (hn : l.length ≤ 140737488355328) : ACall Try.prog 48 [.d (.sl (l.flatMap u1D) l.length), .d (.sl (l.flatMap u1D) l.length)] [] (Just (boolA true)) := by
  refine ACall_of tabOk Try.func48 rfl Try.ntmps48 (congrArg Array.toList Try.results48) (by kernel_rfl) rfl ?_
  repeat (first | refine A_seq ?_ | refine A_block ?_ | refine R_list ?_ | refine R_quiet rfl mixed (by kernel_rfl) ?_ | ((first | apply O_y rfl rfl rfl | apply Q_y rfl rfl rfl); (first | exact q_A | exact q_5 | exact q_B | (first | exact R_neInt rfl rfl rfl | exact R_neStr rfl rfl rfl | exact R_neBool tabOk rfl rfl rfl rfl | exact R_neSelf tabOk noStand rfl rfl rfl rfl rfl rfl rfl (by kernel_rfl)))) | refine O_nil ?_ | refine Q_nil ?_ | refine q_j ?_ | refine q_k ?_ | refine q_d ?_ | refine q_a ?_ | refine q_b ?_ | refine q_c ?_ | refine A_ct rfl ?_ | refine A_cf rfl ?_ | refine A_skip ?_ | refine A_exit ?_ | refine A_ret ?_ | refine q_l ?_ | refine q_m ?_ | refine q_n ?_ | refine q_h ?_ | refine q_o ?_ | refine q_e ?_ | refine q_f ?_ | refine q_g ?_ | fail)
  refine A_loop (fun k : Nat => [(0, .d (.sl (l.flatMap u1D) l.length)), (1, .d (.sl (l.flatMap u1D) l.length)), (5, intA (k : Int))]) (fun _ => []) (fun k => k ≤ l.length) (fun k => l.length - k) 0 (Nat.zero_le _) (Wk_sel ⟨rfl, rfl, rfl, trivial⟩ trivial) ?_
  intro k hkl
  try dsimp only
  by_cases hk : k < l.length
  ·
    repeat (first | refine A_seq ?_ | refine A_block ?_ | refine R_list ?_ | refine R_quiet rfl mixed (by kernel_rfl) ?_ | ((first | apply O_y rfl rfl rfl | apply Q_y rfl rfl rfl); (first | exact q_A | exact R_loadi tabOk rfl rfl rfl rfl (by first | exact win_flat0 u1D_len l k _ hk (by decide) | exact win_flat u1D_len l k _ _ hk (by decide) | exact win_flat2 u1D_len l k _ _ _ hk (by decide) | rfl) rfl rfl | exact q_B | (first | exact R_neInt rfl rfl rfl | exact R_neStr rfl rfl rfl | exact R_neBool tabOk rfl rfl rfl rfl | exact R_neSelf tabOk noStand rfl rfl rfl rfl rfl rfl rfl (by kernel_rfl)))) | refine O_nil ?_ | refine Q_nil ?_ | refine q_j ?_ | refine q_k ?_ | refine q_d ?_ | refine q_a ?_ | refine q_b ?_ | refine q_c ?_ | refine A_ct rfl ?_ | refine A_cf rfl ?_ | refine A_skip ?_ | refine A_exit ?_ | refine A_ret ?_ | refine q_l ?_ | refine q_m ?_ | refine q_n ?_ | refine q_h ?_ | refine q_o ?_ | refine q_e ?_ | refine q_f ?_ | refine q_g ?_ | fail)
    exact ⟨k + 1, by omega, by omega, Wk_sel ⟨rfl, rfl, rfl, trivial⟩ trivial⟩
  ·
    repeat (first | refine A_seq ?_ | refine A_block ?_ | refine R_list ?_ | refine R_quiet rfl mixed (by kernel_rfl) ?_ | ((first | apply O_y rfl rfl rfl | apply Q_y rfl rfl rfl); (first | exact q_A | exact q_5 | exact q_B | fail)) | refine O_nil ?_ | refine Q_nil ?_ | refine q_j ?_ | refine q_k ?_ | refine q_d ?_ | refine q_a ?_ | refine q_b ?_ | refine q_c ?_ | refine A_ct rfl ?_ | refine A_cf rfl ?_ | refine A_skip ?_ | refine A_exit ?_ | refine A_ret ?_ | refine q_l ?_ | refine q_m ?_ | refine q_n ?_ | refine q_h ?_ | refine q_o ?_ | refine q_e ?_ | refine q_f ?_ | refine q_g ?_ | fail)
    exact X_ret rfl ⟨rfl, rfl⟩
theorem redistsSelf_A (l : List Rds) (hn : l.length ≤ 140737488355328) : ACall Try.prog 62 [.d (.sl (l.flatMap rdsD) l.length), .d (.sl (l.flatMap rdsD) l.length)] [] (Just (boolA true)) := by
  refine ACall_of tabOk Try.func62 rfl Try.ntmps62 (congrArg Array.toList Try.results62) (by kernel_rfl) rfl ?_
  repeat (first | refine A_seq ?_ | refine A_block ?_ | refine R_list ?_ | refine R_quiet rfl mixed (by kernel_rfl) ?_ | ((first | apply O_y rfl rfl rfl | apply Q_y rfl rfl rfl); (first | exact q_A | exact q_5 | exact q_B | (first | exact R_neInt rfl rfl rfl | exact R_neStr rfl rfl rfl | exact R_neBool tabOk rfl rfl rfl rfl | exact R_neSelf tabOk noStand rfl rfl rfl rfl rfl rfl rfl (by kernel_rfl)))) | refine O_nil ?_ | refine Q_nil ?_ | refine q_j ?_ | refine q_k ?_ | refine q_d ?_ | refine q_a ?_ | refine q_b ?_ | refine q_c ?_ | refine A_ct rfl ?_ | refine A_cf rfl ?_ | refine A_skip ?_ | refine A_exit ?_ | refine A_ret ?_ | refine q_l ?_ | refine q_m ?_ | refine q_n ?_ | refine q_h ?_ | refine q_o ?_ | refine q_e ?_ | refine q_f ?_ | refine q_g ?_ | fail)
  refine A_loop (fun k : Nat => [(0, .d (.sl (l.flatMap rdsD) l.length)), (1, .d (.sl (l.flatMap rdsD) l.length)), (5, intA (k : Int))]) (fun _ => []) (fun k => k ≤ l.length) (fun k => l.length - k) 0 (Nat.zero_le _) (Wk_sel ⟨rfl, rfl, rfl, trivial⟩ trivial) ?_
  intro k hkl
  try dsimp only
  by_cases hk : k < l.length
  ·
    repeat (first | refine A_seq ?_ | refine A_block ?_ | refine R_list ?_ | refine R_quiet rfl mixed (by kernel_rfl) ?_ | ((first | apply O_y rfl rfl rfl | apply Q_y rfl rfl rfl); (first | exact q_A | exact R_loadi tabOk rfl rfl rfl rfl (by first | exact win_flat0 rdsD_len l k _ hk (by decide) | exact win_flat rdsD_len l k _ _ hk (by decide) | exact win_flat2 rdsD_len l k _ _ _ hk (by decide) | rfl) rfl rfl | exact q_B | (first | exact R_neInt rfl rfl rfl | exact R_neStr rfl rfl rfl | exact R_neBool tabOk rfl rfl rfl rfl | exact R_neSelf tabOk noStand rfl rfl rfl rfl rfl rfl rfl (by kernel_rfl)))) | refine O_nil ?_ | refine Q_nil ?_ | refine q_j ?_ | refine q_k ?_ | refine q_d ?_ | refine q_a ?_ | refine q_b ?_ | refine q_c ?_ | refine A_ct rfl ?_ | refine A_cf rfl ?_ | refine A_skip ?_ | refine A_exit ?_ | refine A_ret ?_ | refine q_l ?_ | refine q_m ?_ | refine q_n ?_ | refine q_h ?_ | refine q_o ?_ | refine q_e ?_ | refine q_f ?_ | refine q_g ?_ | fail)
    exact ⟨k + 1, by omega, by omega, Wk_sel ⟨rfl, rfl, rfl, trivial⟩ trivial⟩
  ·
    repeat (first | refine A_seq ?_ | refine A_block ?_ | refine R_list ?_ | refine R_quiet rfl mixed (by kernel_rfl) ?_ | ((first | apply O_y rfl rfl rfl | apply Q_y rfl rfl rfl); (first | exact q_A | exact q_5 | exact q_B | fail)) | refine O_nil ?_ | refine Q_nil ?_ | refine q_j ?_ | refine q_k ?_ | refine q_d ?_ | refine q_a ?_ | refine q_b ?_ | refine q_c ?_ | refine A_ct rfl ?_ | refine A_cf rfl ?_ | refine A_skip ?_ | refine A_exit ?_ | refine A_ret ?_ | refine q_l ?_ | refine q_m ?_ | refine q_n ?_ | refine q_h ?_ | refine q_o ?_ | refine q_e ?_ | refine q_f ?_ | refine q_g ?_ | fail)
    exact X_ret rfl ⟨rfl, rfl⟩
theorem rulesSelf_A (l : List Rul) (hn : l.length ≤ 140737488355328) : ACall Try.prog 47 [.d (.sl (l.flatMap rulD) l.length), .d (.sl (l.flatMap rulD) l.length)] [] (Just (boolA true)) := by
  refine ACall_of tabOk Try.func47 rfl Try.ntmps47 (congrArg Array.toList Try.results47) (by kernel_rfl) rfl ?_
  repeat (first | refine A_seq ?_ | refine A_block ?_ | refine R_list ?_ | refine R_quiet rfl mixed (by kernel_rfl) ?_ | ((first | apply O_y rfl rfl rfl | apply Q_y rfl rfl rfl); (first | exact q_A | exact q_5 | exact q_B | (first | exact R_neInt rfl rfl rfl | exact R_neStr rfl rfl rfl | exact R_neBool tabOk rfl rfl rfl rfl | exact R_neSelf tabOk noStand rfl rfl rfl rfl rfl rfl rfl (by kernel_rfl)))) | refine O_nil ?_ | refine Q_nil ?_ | refine q_j ?_ | refine q_k ?_ | refine q_d ?_ | refine q_a ?_ | refine q_b ?_ | refine q_c ?_ | refine A_ct rfl ?_ | refine A_cf rfl ?_ | refine A_skip ?_ | refine A_exit ?_ | refine A_ret ?_ | refine q_l ?_ | refine q_m ?_ | refine q_n ?_ | refine q_h ?_ | refine q_o ?_ | refine q_e ?_ | refine q_f ?_ | refine q_g ?_ | fail)
  refine A_loop (fun k : Nat => [(0, .d (.sl (l.flatMap rulD) l.length)), (1, .d (.sl (l.flatMap rulD) l.length)), (5, intA (k : Int))]) (fun _ => []) (fun k => k ≤ l.length) (fun k => l.length - k) 0 (Nat.zero_le _) (Wk_sel ⟨rfl, rfl, rfl, trivial⟩ trivial) ?_
  intro k hkl
  try dsimp only
  by_cases hk : k < l.length
  ·
    repeat (first | refine A_seq ?_ | refine A_block ?_ | refine R_list ?_ | refine R_quiet rfl mixed (by kernel_rfl) ?_ | ((first | apply O_y rfl rfl rfl | apply Q_y rfl rfl rfl); (first | exact q_A | exact R_loadi tabOk rfl rfl rfl rfl (by first | exact win_flat0 rulD_len l k _ hk (by decide) | exact win_flat rulD_len l k _ _ hk (by decide) | exact win_flat2 rulD_len l k _ _ _ hk (by decide) | rfl) rfl rfl | exact q_B | (first | exact R_neInt rfl rfl rfl | exact R_neStr rfl rfl rfl | exact R_neBool tabOk rfl rfl rfl rfl | exact R_neSelf tabOk noStand rfl rfl rfl rfl rfl rfl rfl (by kernel_rfl)))) | refine O_nil ?_ | refine Q_nil ?_ | refine q_j ?_ | refine q_k ?_ | refine q_d ?_ | refine q_a ?_ | refine q_b ?_ | refine q_c ?_ | refine A_ct rfl ?_ | refine A_cf rfl ?_ | refine A_skip ?_ | refine A_exit ?_ | refine A_ret ?_ | refine q_l ?_ | refine q_m ?_ | refine q_n ?_ | refine q_h ?_ | refine q_o ?_ | refine q_e ?_ | refine q_f ?_ | refine q_g ?_ | fail)
    exact ⟨k + 1, by omega, by omega, Wk_sel ⟨rfl, rfl, rfl, trivial⟩ trivial⟩
  ·
    repeat (first | refine A_seq ?_ | refine A_block ?_ | refine R_list ?_ | refine R_quiet rfl mixed (by kernel_rfl) ?_ | ((first | apply O_y rfl rfl rfl | apply Q_y rfl rfl rfl); (first | exact q_A | exact q_5 | exact q_B | fail)) | refine O_nil ?_ | refine Q_nil ?_ | refine q_j ?_ | refine q_k ?_ | refine q_d ?_ | refine q_a ?_ | refine q_b ?_ | refine q_c ?_ | refine A_ct rfl ?_ | refine A_cf rfl ?_ | refine A_skip ?_ | refine A_exit ?_ | refine A_ret ?_ | refine q_l ?_ | refine q_m ?_ | refine q_n ?_ | refine q_h ?_ | refine q_o ?_ | refine q_e ?_ | refine q_f ?_ | refine q_g ?_ | fail)
    exact X_ret rfl ⟨rfl, rfl⟩
theorem pfxsSelf_A (l : List Pfx) (hn : l.length ≤ 140737488355328) : ACall Try.prog 63 [.d (.sl (l.flatMap pfxD) l.length), .d (.sl (l.flatMap pfxD) l.length)] [] (Just (boolA true)) := by
  refine ACall_of tabOk Try.func63 rfl Try.ntmps63 (congrArg Array.toList Try.results63) (by kernel_rfl) rfl ?_
  repeat (first | refine A_seq ?_ | refine A_block ?_ | refine R_list ?_ | refine R_quiet rfl mixed (by kernel_rfl) ?_ | ((first | apply O_y rfl rfl rfl | apply Q_y rfl rfl rfl); (first | exact q_A | exact q_5 | exact q_B | (first | exact R_neInt rfl rfl rfl | exact R_neStr rfl rfl rfl | exact R_neBool tabOk rfl rfl rfl rfl | exact R_neSelf tabOk noStand rfl rfl rfl rfl rfl rfl rfl (by kernel_rfl)))) | refine O_nil ?_ | refine Q_nil ?_ | refine q_j ?_ | refine q_k ?_ | refine q_d ?_ | refine q_a ?_ | refine q_b ?_ | refine q_c ?_ | refine A_ct rfl ?_ | refine A_cf rfl ?_ | refine A_skip ?_ | refine A_exit ?_ | refine A_ret ?_ | refine q_l ?_ | refine q_m ?_ | refine q_n ?_ | refine q_h ?_ | refine q_o ?_ | refine q_e ?_ | refine q_f ?_ | refine q_g ?_ | fail)
  refine A_loop (fun k : Nat => [(0, .d (.sl (l.flatMap pfxD) l.length)), (1, .d (.sl (l.flatMap pfxD) l.length)), (5, intA (k : Int))]) (fun _ => []) (fun k => k ≤ l.length) (fun k => l.length - k) 0 (Nat.zero_le _) (Wk_sel ⟨rfl, rfl, rfl, trivial⟩ trivial) ?_
  intro k hkl
  try dsimp only
  by_cases hk : k < l.length
  ·
    repeat (first | refine A_seq ?_ | refine A_block ?_ | refine R_list ?_ | refine R_quiet rfl mixed (by kernel_rfl) ?_ | ((first | apply O_y rfl rfl rfl | apply Q_y rfl rfl rfl); (first | exact q_A | exact R_loadi tabOk rfl rfl rfl rfl (by first | exact win_flat0 pfxD_len l k _ hk (by decide) | exact win_flat pfxD_len l k _ _ hk (by decide) | exact win_flat2 pfxD_len l k _ _ _ hk (by decide) | rfl) rfl rfl | exact q_B | (first | exact R_neInt rfl rfl rfl | exact R_neStr rfl rfl rfl | exact R_neBool tabOk rfl rfl rfl rfl | exact R_neSelf tabOk noStand rfl rfl rfl rfl rfl rfl rfl (by kernel_rfl)))) | refine O_nil ?_ | refine Q_nil ?_ | refine q_j ?_ | refine q_k ?_ | refine q_d ?_ | refine q_a ?_ | refine q_b ?_ | refine q_c ?_ | refine A_ct rfl ?_ | refine A_cf rfl ?_ | refine A_skip ?_ | refine A_exit ?_ | refine A_ret ?_ | refine q_l ?_ | refine q_m ?_ | refine q_n ?_ | refine q_h ?_ | refine q_o ?_ | refine q_e ?_ | refine q_f ?_ | refine q_g ?_ | fail)
    exact ⟨k + 1, by omega, by omega, Wk_sel ⟨rfl, rfl, rfl, trivial⟩ trivial⟩
  ·
    repeat (first | refine A_seq ?_ | refine A_block ?_ | refine R_list ?_ | refine R_quiet rfl mixed (by kernel_rfl) ?_ | ((first | apply O_y rfl rfl rfl | apply Q_y rfl rfl rfl); (first | exact q_A | exact q_5 | exact q_B | fail)) | refine O_nil ?_ | refine Q_nil ?_ | refine q_j ?_ | refine q_k ?_ | refine q_d ?_ | refine q_a ?_ | refine q_b ?_ | refine q_c ?_ | refine A_ct rfl ?_ | refine A_cf rfl ?_ | refine A_skip ?_ | refine A_exit ?_ | refine A_ret ?_ | refine q_l ?_ | refine q_m ?_ | refine q_n ?_ | refine q_h ?_ | refine q_o ?_ | refine q_e ?_ | refine q_f ?_ | refine q_g ?_ | fail)
    exact X_ret rfl ⟨rfl, rfl⟩
end Go.Proofs.Ytmljmahlpcdhoaa.Ab

/-
  Texts of a proof, one behind the other (part 35).
-/
import Derived.Test.YtenolkolkpfjgaaGreatFt8
import Derived.Test.YtenolkolkpfjgaaGreatFt18
import Derived.Test.YtenolkolkpfjgaaGreatFt23
import Derived.Test.YtenolkolkpfjgaaGreatFt32
import Derived.Test.YtenolkolkpfjgaaGreatFt33
set_option linter.unusedVariables false
set_option linter.unusedSimpArgs false
namespace Go.Proofs.YtenolkolkpfjgaaGreat.Ab
set_option linter.unusedVariables false
set_option maxRecDepth 100000
open Go.RowKit Go.Lib
section
variable {P : Program} {e : Env} {h : Heap} {o : Oper} {T : List Nat}
theorem R_max {x y : Operand} {ats : Array TypeId} {k : IntKind} {a b r : Int} (ho : o.op = .call { callee := .builtin .max, args := #[x, y], argTypes := ats }) (hx : aev e x = some (.d (.sc (.int k a)))) (hy : aev e y = some (.d (.sc (.int k b)))) (hr : (if a < b then b else a) = r) :
    AYield P T e h o (.d (.sc (.int k r))) := yield_of _ fun w F ι ac E => by
  refine ⟨.int k r, sc_rel rfl, fun w' => ?_⟩
  have h1 := (sc_of (aev_rel E hx)).1
  have h2 := (sc_of (aev_rel E hy)).1
  subst hr
  simp [execOp, ho, resolve, invoke, builtin, h1, h2, Builtin.max_, Builtin.max2]
end
def wonB (X : List Rte) (r : Rte) : Bool := X.all fun s => !(decide (s.p = r.p) && decide (rank s r < 0))
def mostI (X : List Rte) (x : Int) : Int := X.foldl (fun m r => if inB x r.p then (if m < r.p.b then r.p.b else m) else m) (-1)
theorem mostI_take (X : List Rte) (x : Int) (k : Nat) (h : k < X.length) : mostI (X.take (k + 1)) x = if inB x X[k].p then (if mostI (X.take k) x < X[k].p.b then X[k].p.b else mostI (X.take k) x) else mostI (X.take k) x := by
  unfold mostI
  rw [List.take_succ_eq_append_getElem h, List.foldl_append]
  rfl
theorem mostI_spec (X : List Rte) (x : Int) : -1 ≤ mostI X x ∧ (∀ r ∈ X, inB x r.p = true → r.p.b ≤ mostI X x) ∧ (mostI X x = -1 ∨ ∃ r ∈ X, inB x r.p = true ∧ r.p.b = mostI X x) := by
  have key : ∀ (X : List Rte) (m : Int), m ≤ X.foldl (fun m r => if inB x r.p then (if m < r.p.b then r.p.b else m) else m) m ∧ (∀ r ∈ X, inB x r.p = true → r.p.b ≤ X.foldl (fun m r => if inB x r.p then (if m < r.p.b then r.p.b else m) else m) m) ∧ (X.foldl (fun m r => if inB x r.p then (if m < r.p.b then r.p.b else m) else m) m = m ∨ ∃ r ∈ X, inB x r.p = true ∧ r.p.b = X.foldl (fun m r => if inB x r.p then (if m < r.p.b then r.p.b else m) else m) m) := by
    intro X
    induction X with
    | nil => exact fun m => ⟨Int.le_refl _, by simp, .inl rfl⟩
    | cons a t ih =>
      intro m
      rw [List.foldl_cons]
      obtain ⟨h1, h2, h3⟩ := ih (if inB x a.p then (if m < a.p.b then a.p.b else m) else m)
      generalize List.foldl (fun m r => if inB x r.p then (if m < r.p.b then r.p.b else m) else m) (if inB x a.p then (if m < a.p.b then a.p.b else m) else m) t = z at *
      refine ⟨?_, fun r hr hi => ?_, ?_⟩
      · split at h1
        · split at h1 <;> omega
        · exact h1
      · rcases List.mem_cons.1 hr with rfl | hr
        · rw [if_pos hi] at h1
          split at h1 <;> omega
        · exact h2 r hr hi
      · rcases h3 with h3 | ⟨r, h4, h5, h6⟩
        · by_cases hi : inB x a.p = true
          · rw [if_pos hi] at h3
            by_cases hl : m < a.p.b
            · rw [if_pos hl] at h3
              exact .inr ⟨a, List.mem_cons_self .., hi, h3.symm⟩
            · rw [if_neg hl] at h3; exact .inl h3
          · rw [if_neg hi] at h3; exact .inl h3
        · exact .inr ⟨r, List.mem_cons_of_mem _ h4, h5, h6⟩
  exact key X (-1)
def mostB (l : List Rte) (x : Int) (r : Rte) : Bool := inB x r.p && decide (r.p.b = mostI l x)
theorem most_top (l : List Rte) (x : Int) : l.filter (mostB l x) = l.filter (topB l x) := by
  obtain ⟨h0, h1, h2⟩ := mostI_spec l x
  refine List.filter_congr fun r hr => ?_
  rw [Bool.eq_iff_iff, topB_iff]
  unfold mostB
  rw [Bool.and_eq_true, decide_eq_true_eq]
  refine ⟨fun ⟨h3, h4⟩ => ⟨h3, fun s hs hi => by rw [h4]; exact h1 s hs hi⟩, fun ⟨h3, h4⟩ => ⟨h3, ?_⟩⟩
  have h5 := h1 r hr h3
  have h6 := (inB_good h3).1
  rcases h2 with h2 | ⟨s, hs, hi, hb⟩
  · omega
  · have := h4 s hs hi; omega
theorem chk_inB {x : Int} {p : Pfx} (h : chk p ≠ 0) : inB x p = false := by
  cases hi : inB x p with
  | false => rfl
  | true => exact absurd ((chk_eq p).2 (inB_good hi)) h
def costI (c : Int) (X : List Rte) : Int := X.foldl (fun c s => if s.m < c then s.m else c) c
set_option linter.unusedSimpArgs false
attribute [local irreducible] AWp AOps AQ AYield AEff ACall AWk AAny AAt AThen AIn APost NoPanic
set_option maxHeartbeats 8000000 in
theorem refLongest_A (l : List Rte) (hok : ∀ r ∈ l, okR r) (hn : l.length ≤ 1000000) (x : Int) (x0 : 0 ≤ x) (x1 : x < 4294967296) : ACall Tryz.prog 43 [rtesA l, .d (.sc (.int .u32 x))] [] (fun c h => c = .row 3 ∧ h = [(3, rteB (longL l x))]) := by
  refine ACall_of tabOk Tryz.func43 rfl Tryz.ntmps43 (congrArg Array.toList Tryz.results43) (by kernel_rfl) rfl ?_
  repeat (first | refine q_Z ?_ | refine R_quiet rfl mixed (by kernel_rfl) ?_ | ((first | apply O_y rfl rfl rfl | apply Q_y rfl rfl rfl); (first | exact q_A | exact q_5 | exact q_B)) | refine q_d ?_ | refine q_a ?_ | refine q_b ?_ | refine q_c ?_ | refine A_ct rfl ?_ | refine A_cf rfl ?_ | refine q_W ?_)
  refine A_loop (fun i : Nat => [(0, rtesA l), (1, .d (.sc (.int .u32 x))), (5, intA (mostI (l.take i) x)), (6, intA (i : Int))]) (fun _ => []) (fun i => i ≤ l.length) (fun i => l.length - i) 0 (Nat.zero_le _) (Wk_sel ⟨rfl, rfl, rfl, rfl, trivial⟩ trivial) ?_
  intro i hi
  try dsimp only
  by_cases hil : i < l.length
  · have hokp := (hok _ (List.getElem_mem hil)).2
    have hck := refCheck_A l[i].p hokp
    have hin := refIn_A x l[i].p hokp x0 x1
    have hm := mostI_take l x i hil
    obtain ⟨mo, hmo⟩ : ∃ mo, mostI (l.take i) x = mo := ⟨_, rfl⟩
    rw [hmo] at hm ⊢
    by_cases hc : chk l[i].p = 0
    · rw [hc] at hck
      cases hx : inB x l[i].p with
      | false =>
        rw [hx] at hin
        rw [hx, if_neg (by simp)] at hm
        repeat (first | refine q_Z ?_ | refine R_quiet rfl mixed (by kernel_rfl) ?_ | ((first | apply O_y rfl rfl rfl | apply Q_y rfl rfl rfl); (first | exact q_A | exact R_loadi tabOk rfl rfl rfl rfl (by first | exact win_flat0 rteD_len l i _ hil (by decide) | exact win_flat rteD_len l i _ _ hil (by decide) | exact win_flat2 rteD_len l i _ _ _ hil (by decide) | rfl) rfl rfl | exact q_B)) | refine q_d ?_ | refine q_a ?_ | refine q_b ?_ | refine q_c ?_ | refine A_ct rfl ?_ | refine A_cf rfl ?_ | refine q_W ?_ | (first | refine O_c rfl rfl rfl rfl rfl hck (fun _ => rfl) ?_ | refine O_c rfl rfl rfl rfl rfl hin (fun _ => rfl) ?_))
        exact ⟨i + 1, by omega, by omega, Wk_sel ⟨rfl, rfl, by rw [hm]; rfl, rfl, trivial⟩ trivial⟩
      | true =>
        rw [hx] at hin
        rw [hx, if_pos rfl] at hm
        repeat (first | refine q_Z ?_ | refine R_quiet rfl mixed (by kernel_rfl) ?_ | ((first | apply O_y rfl rfl rfl | apply Q_y rfl rfl rfl); (first | exact q_A | exact R_loadi tabOk rfl rfl rfl rfl (by first | exact win_flat0 rteD_len l i _ hil (by decide) | exact win_flat rteD_len l i _ _ hil (by decide) | exact win_flat2 rteD_len l i _ _ _ hil (by decide) | rfl) rfl rfl | exact q_B | (exact R_max rfl rfl rfl rfl))) | refine q_d ?_ | refine q_a ?_ | refine q_b ?_ | refine q_c ?_ | refine A_ct rfl ?_ | refine A_cf rfl ?_ | refine q_W ?_ | (first | refine O_c rfl rfl rfl rfl rfl hck (fun _ => rfl) ?_ | refine O_c rfl rfl rfl rfl rfl hin (fun _ => rfl) ?_))
        exact ⟨i + 1, by omega, by omega, Wk_sel ⟨rfl, rfl, by rw [hm]; rfl, rfl, trivial⟩ trivial⟩
    · rw [chk_inB hc, if_neg (by simp)] at hm
      obtain ⟨cc, hcc⟩ : ∃ cc, chk l[i].p = cc := ⟨_, rfl⟩
      rw [hcc] at hck hc
      repeat (first | refine q_Z ?_ | refine R_quiet rfl mixed (by kernel_rfl) ?_ | ((first | apply O_y rfl rfl rfl | apply Q_y rfl rfl rfl); (first | exact q_A | exact R_loadi tabOk rfl rfl rfl rfl (by first | exact win_flat0 rteD_len l i _ hil (by decide) | exact win_flat rteD_len l i _ _ hil (by decide) | exact win_flat2 rteD_len l i _ _ _ hil (by decide) | rfl) rfl rfl | exact q_B)) | refine q_d ?_ | refine q_a ?_ | refine q_b ?_ | refine q_c ?_ | refine A_ct rfl ?_ | refine A_cf rfl ?_ | refine q_W ?_ | (first | refine O_c rfl rfl rfl rfl rfl hck (fun _ => rfl) ?_ | refine O_c rfl rfl rfl rfl rfl hin (fun _ => rfl) ?_))
      exact ⟨i + 1, by omega, by omega, Wk_sel ⟨rfl, rfl, by rw [hm]; rfl, rfl, trivial⟩ trivial⟩
  · have : i = l.length := by omega
    subst this
    rw [List.take_length]
    repeat (first | refine q_Z ?_ | refine R_quiet rfl mixed (by kernel_rfl) ?_ | ((first | apply O_y rfl rfl rfl | apply Q_y rfl rfl rfl); (first | exact q_A | exact q_5 | exact q_B)) | refine q_d ?_ | refine q_a ?_ | refine q_b ?_ | refine q_c ?_ | refine A_ct rfl ?_ | refine A_cf rfl ?_ | refine q_W ?_)
    refine A_weaken (Wk_nil 41 9 (t := 7) (id := 7) rfl rfl) ?_
    refine A_loop (fun i : Nat => [(0, rtesA l), (1, .d (.sc (.int .u32 x))), (5, intA (mostI l x)), (7, .row 7), (8, intA (i : Int))]) (fun i => [(7, rteB ((l.take i).filter (mostB l x)))]) (fun i => i ≤ l.length) (fun i => l.length - i) 0 (Nat.zero_le _) (Wk_sel ⟨rfl, rfl, rfl, rfl, rfl, trivial⟩ ⟨rfl, trivial⟩) ?_
    intro i hi
    try dsimp only
    have hfl : ((l.take i).filter (mostB l x)).length ≤ l.length := Nat.le_trans (List.length_filter_le _ _) (by rw [List.length_take]; omega)
    by_cases hil : i < l.length
    · have hst := filter_takeR (mostB l x) l i hil
      obtain ⟨out, ho⟩ : ∃ out, (l.take i).filter (mostB l x) = out := ⟨_, rfl⟩
      rw [ho] at hst hfl ⊢
      have hokp := (hok _ (List.getElem_mem hil)).2
      have hck := refCheck_A l[i].p hokp
      have hin := refIn_A x l[i].p hokp x0 x1
      by_cases hc : chk l[i].p = 0
      · rw [hc] at hck
        cases hx : inB x l[i].p with
        | false =>
          rw [hx] at hin
          rw [show mostB l x l[i] = false by unfold mostB; rw [hx]; rfl] at hst
          repeat (first | refine q_Z ?_ | refine R_quiet rfl mixed (by kernel_rfl) ?_ | ((first | apply O_y rfl rfl rfl | apply Q_y rfl rfl rfl); (first | exact q_A | exact R_loadi tabOk rfl rfl rfl rfl (by first | exact win_flat0 rteD_len l i _ hil (by decide) | exact win_flat rteD_len l i _ _ hil (by decide) | exact win_flat2 rteD_len l i _ _ _ hil (by decide) | rfl) rfl rfl | exact q_B)) | refine q_d ?_ | refine q_a ?_ | refine q_b ?_ | refine q_c ?_ | refine A_ct rfl ?_ | refine A_cf rfl ?_ | refine q_W ?_ | (first | refine O_c rfl rfl rfl rfl rfl hck (fun _ => rfl) ?_ | refine O_c rfl rfl rfl rfl rfl hin (fun _ => rfl) ?_))
          exact ⟨i + 1, by omega, by omega, Wk_sel ⟨rfl, rfl, rfl, rfl, rfl, trivial⟩ ⟨row_eq (by rw [hst]; simp) (by rw [hst]; simp) rfl, trivial⟩⟩
        | true =>
          rw [hx] at hin
          by_cases hm : l[i].p.b = mostI l x
          · rw [show mostB l x l[i] = true by unfold mostB; rw [hx, decide_eq_true hm]; rfl, if_pos rfl] at hst
            repeat (first | refine q_Z ?_ | refine R_quiet rfl mixed (by kernel_rfl) ?_ | ((first | apply O_y rfl rfl rfl | apply Q_y rfl rfl rfl); (first | exact q_A | exact R_loadi tabOk rfl rfl rfl rfl (by first | exact win_flat0 rteD_len l i _ hil (by decide) | exact win_flat rteD_len l i _ _ hil (by decide) | exact win_flat2 rteD_len l i _ _ _ hil (by decide) | rfl) rfl rfl | exact q_B)) | refine q_d ?_ | refine q_a ?_ | refine q_b ?_ | refine q_c ?_ | refine A_ct rfl ?_ | refine A_cf rfl ?_ | refine q_W ?_ | (first | refine O_c rfl rfl rfl rfl rfl hck (fun _ => rfl) ?_ | refine O_c rfl rfl rfl rfl rfl hin (fun _ => rfl) ?_ | (first | refine O_appR tabOk rfl rfl rfl rfl rfl rfl rfl rfl rfl rfl rfl (by first | exact Src.row rfl | exact Src.dat _ _ | exact Src.nil) rfl (by omega) ?_ | refine O_appN tabOk rfl rfl rfl rfl rfl rfl rfl rfl rfl rfl (by first | exact Src.row rfl | exact Src.dat _ _ | exact Src.nil) rfl (by omega) ?_)))
            exact ⟨i + 1, by omega, by omega, Wk_sel ⟨rfl, rfl, rfl, rfl, rfl, trivial⟩ ⟨row_eq (by rw [hst]; simp) (by rw [hst]; simp [rteD]) rfl, trivial⟩⟩
          · rw [show mostB l x l[i] = false by unfold mostB; rw [decide_eq_false hm, Bool.and_false]] at hst
            repeat (first | refine q_Z ?_ | refine R_quiet rfl mixed (by kernel_rfl) ?_ | ((first | apply O_y rfl rfl rfl | apply Q_y rfl rfl rfl); (first | exact q_A | exact R_loadi tabOk rfl rfl rfl rfl (by first | exact win_flat0 rteD_len l i _ hil (by decide) | exact win_flat rteD_len l i _ _ hil (by decide) | exact win_flat2 rteD_len l i _ _ _ hil (by decide) | rfl) rfl rfl | exact q_B)) | refine q_d ?_ | refine q_a ?_ | refine q_b ?_ | refine q_c ?_ | refine A_ct rfl ?_ | refine A_cf rfl ?_ | refine q_W ?_ | (first | refine O_c rfl rfl rfl rfl rfl hck (fun _ => rfl) ?_ | refine O_c rfl rfl rfl rfl rfl hin (fun _ => rfl) ?_))
            exact ⟨i + 1, by omega, by omega, Wk_sel ⟨rfl, rfl, rfl, rfl, rfl, trivial⟩ ⟨row_eq (by rw [hst]; simp) (by rw [hst]; simp) rfl, trivial⟩⟩
      · rw [show mostB l x l[i] = false by unfold mostB; rw [chk_inB hc]; rfl] at hst
        obtain ⟨cc, hcc⟩ : ∃ cc, chk l[i].p = cc := ⟨_, rfl⟩
        rw [hcc] at hck hc
        repeat (first | refine q_Z ?_ | refine R_quiet rfl mixed (by kernel_rfl) ?_ | ((first | apply O_y rfl rfl rfl | apply Q_y rfl rfl rfl); (first | exact q_A | exact R_loadi tabOk rfl rfl rfl rfl (by first | exact win_flat0 rteD_len l i _ hil (by decide) | exact win_flat rteD_len l i _ _ hil (by decide) | exact win_flat2 rteD_len l i _ _ _ hil (by decide) | rfl) rfl rfl | exact q_B)) | refine q_d ?_ | refine q_a ?_ | refine q_b ?_ | refine q_c ?_ | refine A_ct rfl ?_ | refine A_cf rfl ?_ | refine q_W ?_ | (first | refine O_c rfl rfl rfl rfl rfl hck (fun _ => rfl) ?_ | refine O_c rfl rfl rfl rfl rfl hin (fun _ => rfl) ?_))
        exact ⟨i + 1, by omega, by omega, Wk_sel ⟨rfl, rfl, rfl, rfl, rfl, trivial⟩ ⟨row_eq (by rw [hst]; simp) (by rw [hst]; simp) rfl, trivial⟩⟩
    · have : i = l.length := by omega
      subst this
      rw [List.take_length, most_top]
      have hs := refSort_A (l.filter (topB l x)) (Nat.le_trans (List.length_filter_le _ _) hn)
      repeat (first | refine q_Z ?_ | refine R_quiet rfl mixed (by kernel_rfl) ?_ | ((first | apply O_y rfl rfl rfl | apply Q_y rfl rfl rfl); (first | exact q_A | exact q_5 | exact q_B)) | refine q_d ?_ | refine q_a ?_ | refine q_b ?_ | refine q_c ?_ | refine A_ct rfl ?_ | refine A_cf rfl ?_ | refine q_W ?_)
      refine O_weaken (Wk_freeze (id := 7) rfl) ?_
      refine O_cRow rfl rfl rfl rfl rfl hs rfl ?_
      repeat (first | refine q_Z ?_ | refine R_quiet rfl mixed (by kernel_rfl) ?_ | ((first | apply O_y rfl rfl rfl | apply Q_y rfl rfl rfl); (first | exact q_A | exact q_5 | exact q_B)) | refine q_d ?_ | refine q_a ?_ | refine q_b ?_ | refine q_c ?_ | refine A_ct rfl ?_ | refine A_cf rfl ?_ | refine q_W ?_)
      exact X_retW AWk.refl rfl (h2 := [(3, rteB (longL l x))]) ⟨rfl, trivial⟩ ⟨rfl, rfl⟩
end Go.Proofs.YtenolkolkpfjgaaGreat.Ab

namespace Go.Proofs.YtenolkolkpfjgaaGreat.Ab
set_option linter.unusedVariables false
open Go.RowKit Go.Lib
structure Bfs (l : List Rte) (r : Rte) (i j : Nat) (S : List Rte) (O : List Hp) : Prop where
  me : r ∈ S
  nd : S.Nodup
  led : ∀ s ∈ S, Led l r s
  all : ∀ s ∈ S.take i, ∀ q ∈ longL l s.h, onB q = true → q ∈ S
  out : ∀ s ∈ S.take i, ∀ q ∈ longL l s.h, outB q = true → hopOf s.h q ∈ O
  mine : ∀ s, S[i]? = some s → ∀ q ∈ (longL l s.h).take j, onB q = true → q ∈ S
  omine : ∀ s, S[i]? = some s → ∀ q ∈ (longL l s.h).take j, outB q = true → hopOf s.h q ∈ O
  hop : ∀ x ∈ O, IsHop l r x
  ris : Rising ordH O
section
variable {l : List Rte} {r s0 : Rte} {i j : Nat} {S N : List Rte} {O : List Hp}
theorem Bfs.zero : Bfs l r 0 0 [r] [] :=
  ⟨by simp, by simp, fun s hs => by simp at hs; subst hs; exact .refl, by simp, by simp, by simp, by simp, by simp, List.Pairwise.nil⟩
theorem Bfs.len (B : Bfs l r i j S O) : S.length ≤ l.length + 1 :=
  nodup_le S (r :: l) B.nd fun s hs => (B.led s hs).mem.elim (fun h => by rw [h]; simp) (List.mem_cons_of_mem _)
theorem rising_nodup {O : List Hp} (h : Rising ordH O) : O.Nodup := by
  unfold Rising at h
  refine List.Pairwise.imp (fun {a b} hab => ?_) h
  rintro rfl
  rw [(ordH_zero a a).2 rfl] at hab
  exact absurd hab (by omega)
theorem Bfs.olen (B : Bfs l r i j S O) (hx : r.x = false) (hi : r.i = []) : O.length ≤ (l.length + 1) * l.length + 1 :=
  Nat.le_trans (nodup_le O (ledH l r) (rising_nodup B.ris) fun x h => (ledH_mem hx hi).2 (B.hop x h)) (ledH_len l r)
theorem take_snoc_mem {s q : Rte} (h : s ∈ (S ++ [q]).take i) (hi : i < S.length) : s ∈ S.take i := by
  rw [List.take_append_of_le_length (by omega)] at h; exact h
theorem get_snoc {s q : Rte} (h : (S ++ [q])[i]? = some s) (hi : i < S.length) : S[i]? = some s := by
  rw [List.getElem?_append_left hi] at h; exact h
theorem Bfs.skip (B : Bfs l r i j S O) (h0 : S[i]? = some s0) (hN : longL l s0.h = N) (hj : j < N.length) (h1 : onB N[j] = true → N[j] ∈ S) (h2 : outB N[j] = false) : Bfs l r i (j + 1) S O := by
  subst hN
  obtain ⟨hi, rfl⟩ := List.getElem?_eq_some_iff.1 h0
  refine ⟨B.me, B.nd, B.led, B.all, B.out, fun s hs q hq ho => ?_, fun s hs q hq ho => ?_, B.hop, B.ris⟩
  all_goals
    rw [List.getElem?_eq_getElem hi] at hs
    cases hs
    rw [List.take_succ_eq_append_getElem hj, List.mem_append, List.mem_singleton] at hq
    rcases hq with hq | rfl
  · exact B.mine _ (List.getElem?_eq_getElem hi) q hq ho
  · exact h1 ho
  · exact B.omine _ (List.getElem?_eq_getElem hi) q hq ho
  · rw [h2] at ho; cases ho
theorem Bfs.on (B : Bfs l r i j S O) (h0 : S[i]? = some s0) (hN : longL l s0.h = N) (hj : j < N.length) (h1 : onB N[j] = true) (h2 : N[j] ∉ S) : Bfs l r i (j + 1) (S ++ [N[j]]) O := by
  subst hN
  obtain ⟨hi, rfl⟩ := List.getElem?_eq_some_iff.1 h0
  refine ⟨List.mem_append_left _ B.me, ?_, fun s hs => ?_, fun s hs q hq ho => ?_, fun s hs => B.out s (take_snoc_mem hs hi), fun s hs q hq ho => ?_, fun s hs q hq ho => ?_, B.hop, B.ris⟩
  · rw [List.nodup_append]
    exact ⟨B.nd, by simp, fun a ha b hb => by simp at hb; subst hb; rintro rfl; exact h2 ha⟩
  · rcases List.mem_append.1 hs with hs | hs
    · exact B.led s hs
    · simp at hs; rw [hs]; exact (B.led _ (List.getElem_mem hi)).step (List.getElem_mem hj) h1
  · exact List.mem_append_left _ (B.all s (take_snoc_mem hs hi) q hq ho)
  all_goals
    have hs := get_snoc hs hi
    rw [List.getElem?_eq_getElem hi] at hs
    cases hs
    rw [List.take_succ_eq_append_getElem hj, List.mem_append, List.mem_singleton] at hq
    rcases hq with hq | rfl
  · exact List.mem_append_left _ (B.mine _ (List.getElem?_eq_getElem hi) q hq ho)
  · simp
  · exact B.omine _ (List.getElem?_eq_getElem hi) q hq ho
  · unfold onB at h1; unfold outB at ho; simp_all
theorem Bfs.go (B : Bfs l r i j S O) (h0 : S[i]? = some s0) (hN : longL l s0.h = N) (hj : j < N.length) (h2 : outB N[j] = true) : Bfs l r i (j + 1) S (sortU ordH (O ++ [hopOf s0.h N[j]])) := by
  subst hN
  obtain ⟨hi, rfl⟩ := List.getElem?_eq_some_iff.1 h0
  have hm : ∀ x, x ∈ sortU ordH (O ++ [hopOf S[i].h (longL l S[i].h)[j]]) ↔ x ∈ O ∨ x = hopOf S[i].h (longL l S[i].h)[j] := fun x => by rw [sortU_mem, List.mem_append, List.mem_singleton]
  refine ⟨B.me, B.nd, B.led, B.all, fun s hs q hq ho => (hm _).2 (.inl (B.out s hs q hq ho)), fun s hs q hq ho => ?_, fun s hs q hq ho => ?_, fun x hx => ?_, sortU_rising good_ordH ordH_eq _⟩
  · rw [List.getElem?_eq_getElem hi] at hs
    cases hs
    rw [List.take_succ_eq_append_getElem hj, List.mem_append, List.mem_singleton] at hq
    rcases hq with hq | rfl
    · exact B.mine _ (List.getElem?_eq_getElem hi) q hq ho
    · unfold onB at ho; unfold outB at h2; simp_all
  · rw [List.getElem?_eq_getElem hi] at hs
    cases hs
    rw [List.take_succ_eq_append_getElem hj, List.mem_append, List.mem_singleton] at hq
    rcases hq with hq | rfl
    · exact (hm _).2 (.inl (B.omine _ (List.getElem?_eq_getElem hi) q hq ho))
    · exact (hm _).2 (.inr rfl)
  · rcases (hm x).1 hx with h | h
    · exact B.hop x h
    · exact ⟨S[i], _, B.led _ (List.getElem_mem hi), List.getElem_mem hj, h2, h⟩
theorem Bfs.next (B : Bfs l r i N.length S O) (h0 : S[i]? = some s0) (hN : longL l s0.h = N) : Bfs l r (i + 1) 0 S O := by
  subst hN
  obtain ⟨hi, rfl⟩ := List.getElem?_eq_some_iff.1 h0
  have h1 := B.mine _ (List.getElem?_eq_getElem hi)
  have h2 := B.omine _ (List.getElem?_eq_getElem hi)
  rw [List.take_length] at h1 h2
  refine ⟨B.me, B.nd, B.led, fun s hs => ?_, fun s hs => ?_, by simp, by simp, B.hop, B.ris⟩
  · rw [List.take_succ_eq_append_getElem hi, List.mem_append, List.mem_singleton] at hs
    rcases hs with hs | rfl
    · exact B.all s hs
    · exact h1
  · rw [List.take_succ_eq_append_getElem hi, List.mem_append, List.mem_singleton] at hs
    rcases hs with hs | rfl
    · exact B.out s hs
    · exact h2
theorem Bfs.done (B : Bfs l r S.length j S O) (hx : r.x = false) (hi : r.i = []) : O = ledH l r := by
  have hin : ∀ s, Led l r s → s ∈ S := fun s h => by
    induction h with
    | refl => exact B.me
    | step _ hq ho ih => exact B.all _ (by rw [List.take_length]; exact ih) _ hq ho
  refine rising_ext good_ordH B.ris (ledH_rising hx hi) fun x => ?_
  rw [ledH_mem hx hi]
  refine ⟨B.hop x, fun ⟨s, q, h1, h2, h3, h4⟩ => ?_⟩
  rw [h4]
  exact B.out s (by rw [List.take_length]; exact hin s h1) q h2 h3
theorem rising_sortU {O : List Hp} (h : Rising ordH O) : sortU ordH O = O :=
  rising_ext good_ordH (sortU_rising good_ordH ordH_eq _) h fun x => sortU_mem _ _
end
end Go.Proofs.YtenolkolkpfjgaaGreat.Ab

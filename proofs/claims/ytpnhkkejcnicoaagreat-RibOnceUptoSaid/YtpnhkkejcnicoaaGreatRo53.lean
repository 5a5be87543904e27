/-
  Texts of a proof, one behind the other (part 54).
-/
import Derived.Deep.CondSized
import Derived.Test.YtpnhkkejcnicoaaGreatRo4
import Derived.Test.YtpnhkkejcnicoaaGreatRo6
import Derived.Test.YtpnhkkejcnicoaaGreatRo44
import Derived.Test.YtpnhkkejcnicoaaGreatRo45
import Derived.Test.YtpnhkkejcnicoaaGreatRo47
import Derived.Test.YtpnhkkejcnicoaaGreatRo52
set_option linter.unusedVariables false
set_option linter.unusedSimpArgs false
namespace Go.Proofs.YtpnhkkejcnicoaaGreat
set_option linter.unusedVariables false
set_option maxRecDepth 100000
open Go.RowKit Go.Lib
namespace Ab
set_option linter.unusedSimpArgs false
attribute [local irreducible] AWp AOps AQ AYield AEff ACall AWk AAny AAt AThen AIn APost NoPanic
theorem stopRO {P : Program} {nt : Nat} {Q : Post} {e : Env} {h : Heap} {z : Bool} {id : Nat} {l : Array Oper} {x y : Code} (H : AWp z P nt (.seq (.region id l true) (.seq x y)) Q e h) : AWp z P nt (.seq (.region id l true) (.seq x y)) Q e h := H
theorem A_cutOn {P : Program} {nt : Nat} {Q : Post} {e : Env} {h : Heap} {z : Bool} {x y : Code} (E1 : Env) (H1 : Heap) (h1 : AWp z P nt x (AThen (fun e' h' => AWk nt e' h' E1 H1) RF) e h) (h2 : AWp z P nt y Q E1 H1) : AWp z P nt (.seq x y) Q e h := A_cut E1 H1 h1 h2
theorem any_takeO {α : Type} (p : α → Bool) (l : List α) (k : Nat) (h : k < l.length) : (l.take (k + 1)).any p = ((l.take k).any p || p l[k]) := by rw [List.take_succ_eq_append_getElem h, List.any_append]; simp
theorem see_take {α : Type} {enc : α → List Dat} (l : List α) (n : Nat) (hn : n ≤ l.length) (w : World) (F : Nat → Prop) (ι : Nat → Option Value) (u : Value) (h : VRel w F ι (.d (.sl (l.flatMap enc) n)) u) : VRel w F ι (.d (.sl ((l.take n).flatMap enc) (l.take n).length)) u := by
  have e1 : l.flatMap enc = (l.take n).flatMap enc ++ (l.drop n).flatMap enc := by rw [← List.flatMap_append, List.take_append_drop]
  have e2 : (l.take n).length = n := by rw [List.length_take]; omega
  rw [e2]
  rw [e1] at h
  exact see_pfx w F ι u h
theorem Wk_seeO {nt : Nat} {e : Env} {h : Heap} {t : Nat} {c c' : AVal} (ht : look e t = some c) (hc : ∀ w F ι u, VRel w F ι c u → VRel w F ι c' u) : AWkS nt e h ((t, c') :: e) h := fun Pm F w0 pin ι a w R =>
  ⟨ι, fun _ _ h => h, R.heap, fun s c2 hs => by
    by_cases hts : t = s
    · subst hts
      rw [look_cons_same] at hs; cases hs
      obtain ⟨u, hu, hv⟩ := R.env t c ht
      exact ⟨u, hu, hc _ _ _ _ hv⟩
    · rw [look_cons_ne _ _ hts] at hs; exact R.env s c2 hs, R.defers, R.size⟩
abbrev onE (d : Dvc) (l : List Rds) (rs : List Rte) (ospf : Bool) (A : List Tkn) : Env := [(1, rdssA l), (2, rtesA rs), (3, boolA ospf), (4, .iptr (dvcD d) 0), (9, tknsA A)]
def subB (x : Tkn) : Prop := x.2.path.length ≤ 1000000000 ∧ x.2.com.length ≤ 1000000000
set_option maxHeartbeats 64000000 in
theorem once_A (d : Dvc) (l lr : List Rds) (rs rr : List Rte) (ospf : Bool) (hl12 : l.length ≤ 12) (hlr : lr ≠ [] → l.length = 12) (hln : l.length + lr.length ≤ 1048576) (hr60 : rs.length ≤ 60) (hrr : rr ≠ [] → rs.length = 60) (hrn : rs.length + rr.length ≤ 1048576) (hp : d.pols.length ≤ 1048576)
    (hok : OkO d l rs) (hsb : ∀ x ∈ (overR d l rs ospf).1, subB x) : ACall Tryz.prog 3 [dvcA d, .d (.sl (l.flatMap rdsD ++ lr.flatMap rdsD) (l.length + lr.length)), .d (.sl (rs.flatMap rteD ++ rr.flatMap rteD) (rs.length + rr.length)), boolA ospf] [] (Just (boolA true)) := by
  have haw := ribAwake_A
  have hmin1 : (if (12 : Int) < ((l.length + lr.length : Nat) : Int) then (12 : Int) else ((l.length + lr.length : Nat) : Int)) = (l.length : Int) := by
    cases lr with
    | nil => simp; omega
    | cons b r => have := hlr (by simp); simp; omega
  have hmin2 : (if (60 : Int) < ((rs.length + rr.length : Nat) : Int) then (60 : Int) else ((rs.length + rr.length : Nat) : Int)) = (rs.length : Int) := by
    cases rr with
    | nil => simp; omega
    | cons b r => have := hrr (by simp); simp; omega
  have hov0 := rovr_A d l rs ospf hok
  refine ACall_of tabOk Tryz.func3 rfl Tryz.ntmps3 (congrArg Array.toList Tryz.results3) (by kernel_rfl) rfl ?_
  refine A_seq ?_
  refine R_list ?_
  refine q_d ?_
  refine O_weaken (Wk_freezeV (id := 4) (ds := dvcD d) rfl rfl) ?_
  apply O_y rfl rfl rfl
  exact q_2
  refine O_nil ?_
  refine q_j ?_
  refine A_seq ?_
  refine R_quiet rfl mixed (by kernel_rfl) ?_
  repeat ((first | apply O_y rfl rfl rfl | apply Q_y rfl rfl rfl); (first | exact R_min rfl rfl rfl hmin1 | exact R_min rfl rfl rfl hmin2 | exact R_sliceD tabOk rfl rfl rfl rfl rfl rfl (by omega) | (first | exact q_A | exact q_5 | exact q_B)))
  first | refine O_nil ?_ | refine Q_nil ?_
  refine q_j ?_
  refine A_weaken (Wk_see (t := 1) rfl see_pfx) ?_
  refine A_weaken (Wk_see (t := 2) rfl see_pfx) ?_
  refine A_weaken (Wk_sel (e1 := [(1, rdssA l), (2, rtesA rs), (3, boolA ospf), (4, .iptr (dvcD d) 0)]) (h1 := []) ⟨rfl, rfl, rfl, rfl, trivial⟩ trivial) ?_
  by_cases hp50 : 50 < d.pols.length
  ·
    repeat ((fail_if_success (refine stopL ?_)); first | refine q_Z ?_ | refine R_quiet rfl mixed (by kernel_rfl) ?_ | ((first | apply O_y rfl rfl rfl | apply Q_y rfl rfl rfl); (first | exact R_addN rfl rfl rfl | exact R_subN rfl rfl rfl | (first | exact q_A | exact q_5 | exact q_B))) | refine q_d ?_ | refine q_a ?_ | refine q_b ?_ | refine q_c ?_ | refine A_ct rfl ?_ | refine A_cf rfl ?_ | refine q_W ?_ | refine O_c rfl rfl rfl rfl rfl haw (fun _ => rfl) ?_)
    exact X_retW AWk.refl rfl (h2 := []) trivial ⟨rfl, rfl⟩
  cases her : errR d l with
  | true =>
    have hov : overR d l rs ospf = ([], 120) := by unfold overR; rw [if_pos her]
    rw [hov] at hov0
    repeat ((fail_if_success (refine stopL ?_)); first | refine q_Z ?_ | refine R_quiet rfl mixed (by kernel_rfl) ?_ | ((first | apply O_y rfl rfl rfl | apply Q_y rfl rfl rfl); (first | exact R_addN rfl rfl rfl | exact R_subN rfl rfl rfl | (first | exact q_A | exact q_5 | exact q_B))) | refine q_d ?_ | refine q_a ?_ | refine q_b ?_ | refine q_c ?_ | refine A_ct rfl ?_ | refine A_cf rfl ?_ | refine q_W ?_ | first | refine O_c rfl rfl rfl rfl rfl haw (fun _ => rfl) ?_ | refine O_c rfl rfl rfl rfl rfl hov0 (fun _ => rfl) ?_)
    exact X_retW AWk.refl rfl (h2 := []) trivial ⟨rfl, rfl⟩
  | false =>
  have hov : overR d l rs ospf = (takenL (outR d ospf (sortU ordR rs) l 0 []), 0) := by unfold overR; rw [if_neg (by rw [her]; simp)]
  have hovn : ∀ n, n ≤ l.length → overR d (l.take n) rs ospf = ((takenL (outR d ospf (sortU ordR rs) l 0 [])).filter fun x => decide (x.1 < n), 0) := fun n hn => by
    unfold overR
    rw [if_neg (by rw [errR_take her]; simp), over_filter d ospf _ l n hn]
  have heach := over_each d ospf rs l
  have hrise : Rising cmpT (takenL (outR d ospf (sortU ordR rs) l 0 [])) := by
    obtain ⟨a, a1, a2, _⟩ := outR_ext d ospf (sortU ordR rs) l 0 [] ents_nil
    rw [List.nil_append] at a1 a2
    rw [a1]
    exact takenL_rising a2
  have hAl : (takenL (outR d ospf (sortU ordR rs) l 0 [])).length ≤ 1000000 := by
    obtain ⟨a, a1, a2, a3⟩ := outR_ext d ospf (sortU ordR rs) l 0 [] ents_nil
    rw [List.nil_append] at a1 a2
    rw [a1, takenL_len]
    have h1 := ents_len a2 (rs := sortU ordR rs) fun e he => by obtain ⟨_, _, r, h3, h4, _⟩ := a3 e he; exact ⟨r, h3, h4⟩
    have h2 := sortU_len (c := ordR) rs
    omega
  rw [hov] at hov0 hsb
  obtain ⟨A, hA⟩ : ∃ A, takenL (outR d ospf (sortU ordR rs) l 0 []) = A := ⟨_, rfl⟩
  rw [hA] at hov0 hsb hovn heach hrise hAl
  clear hov hA
  have hpw := List.pairwise_iff_getElem.1 hrise
  dsimp only at hov0 hsb
  repeat ((fail_if_success (refine stopL ?_)); first | refine q_Z ?_ | refine R_quiet rfl mixed (by kernel_rfl) ?_ | ((first | apply O_y rfl rfl rfl | apply Q_y rfl rfl rfl); (first | exact R_addN rfl rfl rfl | exact R_subN rfl rfl rfl | (first | exact q_A | exact q_5 | exact q_B))) | refine q_d ?_ | refine q_a ?_ | refine q_b ?_ | refine q_c ?_ | refine A_ct rfl ?_ | refine A_cf rfl ?_ | refine q_W ?_ | first | refine O_c rfl rfl rfl rfl rfl haw (fun _ => rfl) ?_ | refine O_c rfl rfl rfl rfl rfl hov0 (fun _ => rfl) ?_)
  try refine A_block ?_
  refine A_loop (fun i : Nat => [(1, rdssA l), (2, rtesA rs), (3, boolA ospf), (4, .iptr (dvcD d) 0), (9, tknsA A), (11, natA i)]) (fun _ => []) (fun i => i ≤ A.length) (fun i => A.length - i) 0 (Nat.zero_le _) (Wk_sel ⟨rfl, rfl, rfl, rfl, rfl, rfl, trivial⟩ trivial) ?_
  intro i hi
  try dsimp only
  by_cases hil : i < A.length
  · obtain ⟨hx1, r0, hr0, hr1, hr2⟩ := heach A[i] (List.getElem_mem hil)
    have hwp : win (A.flatMap tknD) (i * 9 + 1 + 0) 2 = [uD A[i].2.p.a, iD A[i].2.p.b] := by
      have := win_flat tknD_len A i 1 2 hil (by decide)
      exact this
    have hwi : win (A.flatMap tknD) (i * 9 + 0) 1 = [iD (A[i].1 : Int)] := win_flat tknD_len A i 0 1 hil (by decide)
    have hwl : win (l.flatMap rdsD) (A[i].1 * 4 + 0) 1 = [cD (l[A[i].1]).from_] := win_flat rdsD_len l A[i].1 0 1 hx1 (by decide)
    have hord : ∀ j, j + 1 = i → ∃ hj : j < A.length, cmpP A[j].2.p A[i].2.p < 0 ∧ win (A.flatMap tknD) (j * 9 + 1 + 0) 2 = [uD A[j].2.p.a, iD A[j].2.p.b] := fun j hj => by
      have hjl : j < A.length := by omega
      exact ⟨hjl, hpw j i hjl hil (by omega), win_flat tknD_len A j 1 2 hjl (by decide)⟩
    have hany : (rs.any fun r => (r.p == A[i].2.p) && comesB r.f (l[A[i].1]).from_) = true := List.any_eq_true.2 ⟨r0, hr0, by rw [hr1, hr2]; simp⟩
    obtain ⟨P, hP⟩ : ∃ P, A[i].2.p = P := ⟨_, rfl⟩
    obtain ⟨fr, hfr⟩ : ∃ f, (l[A[i].1]).from_ = f := ⟨_, rfl⟩
    obtain ⟨ix, hix⟩ : ∃ x, A[i].1 = x := ⟨_, rfl⟩
    rw [hfr] at hwl hany
    rw [hP] at hwp hord hany
    rw [hix] at hwi hwl hx1
    clear hr1 hr2
    by_cases hi0 : i = 0
    · clear hord
      repeat ((fail_if_success (refine stopL ?_)); first | refine q_Z ?_ | refine R_quiet rfl mixed (by kernel_rfl) ?_ | ((first | apply O_y rfl rfl rfl | apply Q_y rfl rfl rfl); (first | exact R_addN rfl rfl rfl | exact R_subN rfl rfl rfl | (first | exact q_A | exact R_loadi tabOk rfl rfl rfl rfl (by first | exact hwp | exact hwi | rfl) rfl rfl | exact q_B | (first | exact R_index (j := i) tabOk rfl rfl rfl rfl rfl rfl hil)))) | refine q_d ?_ | refine q_a ?_ | refine q_b ?_ | refine q_c ?_ | refine A_ct rfl ?_ | refine A_cf rfl ?_ | refine q_W ?_)
      refine A_weaken (Wk_sel (e1 := [(1, rdssA l), (2, rtesA rs), (3, boolA ospf), (4, .iptr (dvcD d) 0), (9, tknsA A), (11, natA i), (12, .ptr 12 0), (13, boolA false), (14, natA 0)]) (h1 := [(12, .var [.d (uD P.a), .d (iD P.b)])]) ⟨rfl, rfl, rfl, rfl, rfl, rfl, rfl, rfl, rfl, trivial⟩ ⟨rfl, trivial⟩) ?_
      try refine A_block ?_
      refine A_loop (fun x : Nat × Bool => [(1, rdssA l), (2, rtesA rs), (3, boolA ospf), (4, .iptr (dvcD d) 0), (9, tknsA A), (11, natA i), (12, .ptr 12 0), (13, boolA x.2), (14, natA x.1)]) (fun _ => [(12, .var [.d (uD P.a), .d (iD P.b)])]) (fun x => x.1 ≤ rs.length ∧ x.2 = (rs.take x.1).any fun r => (r.p == P) && comesB r.f fr) (fun x => rs.length - x.1) (0, false) ⟨Nat.zero_le _, rfl⟩ (Wk_sel ⟨rfl, rfl, rfl, rfl, rfl, rfl, rfl, rfl, rfl, trivial⟩ ⟨rfl, trivial⟩) ?_
      rintro ⟨k, b⟩ ⟨hk, hb⟩
      try dsimp only at hk hb ⊢
      by_cases hkl : k < rs.length
      · have hwr := win_flat0 rteD_len rs k 9 hkl (by decide)
        have hwq : win (rs.flatMap rteD) (k * 9 + 0) 2 = [uD (rs[k]).p.a, iD (rs[k]).p.b] := win_flat rteD_len rs k 0 2 hkl (by decide)
        have hcom := rcomes_A rs[k] fr (hok.ok _ (List.getElem_mem hkl)).1
        have hnx := any_takeO (fun r : Rte => (r.p == P) && comesB r.f fr) rs k hkl
        rw [← hb] at hnx
        try dsimp only at hnx
        obtain ⟨r, hr⟩ : ∃ r, rs[k] = r := ⟨_, rfl⟩
        rw [hr] at hwr hwq hcom hnx
        obtain ⟨cb, hcb⟩ : ∃ c, comesB r.f fr = c := ⟨_, rfl⟩
        rw [hcb] at hcom hnx
        cases b with
        | true =>
          repeat ((fail_if_success (refine stopL ?_)); first | refine q_Z ?_ | refine R_quiet rfl mixed (by kernel_rfl) ?_ | ((first | apply O_y rfl rfl rfl | apply Q_y rfl rfl rfl); (first | exact R_addN rfl rfl rfl | exact R_subN rfl rfl rfl | (first | exact q_A | exact q_5 | exact q_B))) | refine q_d ?_ | refine q_a ?_ | refine q_b ?_ | refine q_c ?_ | refine A_ct rfl ?_ | refine A_cf rfl ?_ | refine q_W ?_)
          exact ⟨(k + 1, true), ⟨hkl, by (try dsimp only); rw [hnx]; rfl⟩, by (try dsimp only); omega, Wk_sel ⟨rfl, rfl, rfl, rfl, rfl, rfl, rfl, rfl, rfl, trivial⟩ ⟨rfl, trivial⟩⟩
        | false =>
          cases heq : r.p == P with
          | false =>
            rw [heq] at hnx
            repeat ((fail_if_success (refine stopL ?_)); first | refine q_Z ?_ | refine R_quiet rfl mixed (by kernel_rfl) ?_ | ((first | apply O_y rfl rfl rfl | apply Q_y rfl rfl rfl); (first | exact R_addN rfl rfl rfl | exact R_subN rfl rfl rfl | (first | exact q_A | exact R_loadi tabOk rfl rfl rfl rfl (by first | exact hwq | exact hwr | exact hwi | exact hwl | rfl) rfl rfl | exact q_B | (first | exact R_index (j := k) tabOk rfl rfl rfl rfl rfl rfl hkl | exact Y_eq tabOk noStand rfl rfl rfl rfl rfl rfl rfl rfl rfl (by kernel_rfl) ((pfxEq r.p P).trans (congrArg some heq)) rfl)))) | refine q_d ?_ | refine q_a ?_ | refine q_b ?_ | refine q_c ?_ | refine A_ct rfl ?_ | refine A_cf rfl ?_ | refine q_W ?_)
            exact ⟨(k + 1, false), ⟨hkl, by (try dsimp only); rw [hnx]; rfl⟩, by (try dsimp only); omega, Wk_sel ⟨rfl, rfl, rfl, rfl, rfl, rfl, rfl, rfl, rfl, trivial⟩ ⟨rfl, trivial⟩⟩
          | true =>
            rw [heq] at hnx
            repeat ((fail_if_success (refine stopL ?_)); first | refine q_Z ?_ | refine R_quiet rfl mixed (by kernel_rfl) ?_ | ((first | apply O_y rfl rfl rfl | apply Q_y rfl rfl rfl); (first | exact R_addN rfl rfl rfl | exact R_subN rfl rfl rfl | (first | exact q_A | exact R_loadi tabOk rfl rfl rfl rfl (by first | exact hwq | exact hwr | exact hwi | exact hwl | rfl) rfl rfl | exact q_B | (first | exact R_index (j := k) tabOk rfl rfl rfl rfl rfl rfl hkl | exact R_index (j := i) tabOk rfl rfl rfl rfl rfl rfl hil | exact R_index (j := ix) tabOk rfl rfl rfl rfl rfl rfl hx1 | exact Y_eq tabOk noStand rfl rfl rfl rfl rfl rfl rfl rfl rfl (by kernel_rfl) ((pfxEq r.p P).trans (congrArg some heq)) rfl)))) | refine q_d ?_ | refine q_a ?_ | refine q_b ?_ | refine q_c ?_ | refine A_ct rfl ?_ | refine A_cf rfl ?_ | refine q_W ?_ | refine Q_c rfl rfl rfl rfl rfl hcom rfl (fun _ _ _ => val_mk _ _ _ _ _ rfl rfl) ?_)
            exact ⟨(k + 1, cb), ⟨hkl, by (try dsimp only); rw [hnx]; simp⟩, by (try dsimp only); omega, Wk_sel ⟨rfl, rfl, rfl, rfl, rfl, rfl, rfl, rfl, rfl, trivial⟩ ⟨rfl, trivial⟩⟩
      · obtain rfl : k = rs.length := by omega
        rw [List.take_length, hany] at hb
        subst hb
        repeat ((fail_if_success (refine stopL ?_)); first | refine q_Z ?_ | refine R_quiet rfl mixed (by kernel_rfl) ?_ | ((first | apply O_y rfl rfl rfl | apply Q_y rfl rfl rfl); (first | exact R_addN rfl rfl rfl | exact R_subN rfl rfl rfl | (first | exact q_A | exact q_5 | exact q_B))) | refine q_d ?_ | refine q_a ?_ | refine q_b ?_ | refine q_c ?_ | refine A_ct rfl ?_ | refine A_cf rfl ?_ | refine q_W ?_)
        exact ⟨i + 1, hil, by omega, Wk_sel ⟨rfl, rfl, rfl, rfl, rfl, rfl, trivial⟩ trivial⟩
    · obtain ⟨j, rfl⟩ : ∃ j, i = j + 1 := ⟨i - 1, by omega⟩
      clear hi0
      obtain ⟨hj, hlt, hwj⟩ := hord j rfl
      have hcc := refCmp_A A[j].2.p P
      obtain ⟨cv, hcv⟩ : ∃ c, cmpP A[j].2.p P = c := ⟨_, rfl⟩
      rw [hcv] at hcc hlt
      obtain ⟨i, hi0⟩ : ∃ i, i = j + 1 := ⟨_, rfl⟩
      repeat ((fail_if_success (refine stopL ?_)); first | refine q_Z ?_ | refine R_quiet rfl mixed (by kernel_rfl) ?_ | ((first | apply O_y rfl rfl rfl | apply Q_y rfl rfl rfl); (first | exact R_addN rfl rfl rfl | exact R_subN rfl rfl rfl | (first | exact q_A | exact R_loadi tabOk rfl rfl rfl rfl (by first | exact hwp | exact hwi | exact hwj | rfl) rfl rfl | exact q_B | (first | exact R_index (j := j) tabOk rfl rfl rfl rfl rfl rfl hj | exact R_index (j := j + 1) tabOk rfl rfl rfl rfl rfl rfl hil)))) | refine q_d ?_ | refine q_a ?_ | refine q_b ?_ | refine q_c ?_ | refine A_ct rfl ?_ | refine A_cf rfl ?_ | refine q_W ?_ | refine Q_c rfl rfl rfl rfl rfl hcc rfl (fun _ _ _ => val_mk _ _ _ _ _ rfl rfl) ?_)
      rw [← hi0] at hil hwp hwi ⊢
      refine A_weaken (Wk_sel (e1 := [(1, rdssA l), (2, rtesA rs), (3, boolA ospf), (4, .iptr (dvcD d) 0), (9, tknsA A), (11, natA i), (12, .ptr 12 0), (13, boolA false), (14, natA 0)]) (h1 := [(12, .var [.d (uD P.a), .d (iD P.b)])]) ⟨rfl, rfl, rfl, rfl, rfl, rfl, rfl, rfl, rfl, trivial⟩ ⟨rfl, trivial⟩) ?_
      try refine A_block ?_
      refine A_loop (fun x : Nat × Bool => [(1, rdssA l), (2, rtesA rs), (3, boolA ospf), (4, .iptr (dvcD d) 0), (9, tknsA A), (11, natA i), (12, .ptr 12 0), (13, boolA x.2), (14, natA x.1)]) (fun _ => [(12, .var [.d (uD P.a), .d (iD P.b)])]) (fun x => x.1 ≤ rs.length ∧ x.2 = (rs.take x.1).any fun r => (r.p == P) && comesB r.f fr) (fun x => rs.length - x.1) (0, false) ⟨Nat.zero_le _, rfl⟩ (Wk_sel ⟨rfl, rfl, rfl, rfl, rfl, rfl, rfl, rfl, rfl, trivial⟩ ⟨rfl, trivial⟩) ?_
      rintro ⟨k, b⟩ ⟨hk, hb⟩
      try dsimp only at hk hb ⊢
      by_cases hkl : k < rs.length
      · have hwr := win_flat0 rteD_len rs k 9 hkl (by decide)
        have hwq : win (rs.flatMap rteD) (k * 9 + 0) 2 = [uD (rs[k]).p.a, iD (rs[k]).p.b] := win_flat rteD_len rs k 0 2 hkl (by decide)
        have hcom := rcomes_A rs[k] fr (hok.ok _ (List.getElem_mem hkl)).1
        have hnx := any_takeO (fun r : Rte => (r.p == P) && comesB r.f fr) rs k hkl
        rw [← hb] at hnx
        try dsimp only at hnx
        obtain ⟨r, hr⟩ : ∃ r, rs[k] = r := ⟨_, rfl⟩
        rw [hr] at hwr hwq hcom hnx
        obtain ⟨cb, hcb⟩ : ∃ c, comesB r.f fr = c := ⟨_, rfl⟩
        rw [hcb] at hcom hnx
        cases b with
        | true =>
          repeat ((fail_if_success (refine stopL ?_)); first | refine q_Z ?_ | refine R_quiet rfl mixed (by kernel_rfl) ?_ | ((first | apply O_y rfl rfl rfl | apply Q_y rfl rfl rfl); (first | exact R_addN rfl rfl rfl | exact R_subN rfl rfl rfl | (first | exact q_A | exact q_5 | exact q_B))) | refine q_d ?_ | refine q_a ?_ | refine q_b ?_ | refine q_c ?_ | refine A_ct rfl ?_ | refine A_cf rfl ?_ | refine q_W ?_)
          exact ⟨(k + 1, true), ⟨hkl, by (try dsimp only); rw [hnx]; rfl⟩, by (try dsimp only); omega, Wk_sel ⟨rfl, rfl, rfl, rfl, rfl, rfl, rfl, rfl, rfl, trivial⟩ ⟨rfl, trivial⟩⟩
        | false =>
          cases heq : r.p == P with
          | false =>
            rw [heq] at hnx
            repeat ((fail_if_success (refine stopL ?_)); first | refine q_Z ?_ | refine R_quiet rfl mixed (by kernel_rfl) ?_ | ((first | apply O_y rfl rfl rfl | apply Q_y rfl rfl rfl); (first | exact R_addN rfl rfl rfl | exact R_subN rfl rfl rfl | (first | exact q_A | exact R_loadi tabOk rfl rfl rfl rfl (by first | exact hwq | exact hwr | exact hwi | exact hwl | rfl) rfl rfl | exact q_B | (first | exact R_index (j := k) tabOk rfl rfl rfl rfl rfl rfl hkl | exact Y_eq tabOk noStand rfl rfl rfl rfl rfl rfl rfl rfl rfl (by kernel_rfl) ((pfxEq r.p P).trans (congrArg some heq)) rfl)))) | refine q_d ?_ | refine q_a ?_ | refine q_b ?_ | refine q_c ?_ | refine A_ct rfl ?_ | refine A_cf rfl ?_ | refine q_W ?_)
            exact ⟨(k + 1, false), ⟨hkl, by (try dsimp only); rw [hnx]; rfl⟩, by (try dsimp only); omega, Wk_sel ⟨rfl, rfl, rfl, rfl, rfl, rfl, rfl, rfl, rfl, trivial⟩ ⟨rfl, trivial⟩⟩
          | true =>
            rw [heq] at hnx
            repeat ((fail_if_success (refine stopL ?_)); first | refine q_Z ?_ | refine R_quiet rfl mixed (by kernel_rfl) ?_ | ((first | apply O_y rfl rfl rfl | apply Q_y rfl rfl rfl); (first | exact R_addN rfl rfl rfl | exact R_subN rfl rfl rfl | (first | exact q_A | exact R_loadi tabOk rfl rfl rfl rfl (by first | exact hwq | exact hwr | exact hwi | exact hwl | rfl) rfl rfl | exact q_B | (first | exact R_index (j := k) tabOk rfl rfl rfl rfl rfl rfl hkl | exact R_index (j := i) tabOk rfl rfl rfl rfl rfl rfl hil | exact R_index (j := ix) tabOk rfl rfl rfl rfl rfl rfl hx1 | exact Y_eq tabOk noStand rfl rfl rfl rfl rfl rfl rfl rfl rfl (by kernel_rfl) ((pfxEq r.p P).trans (congrArg some heq)) rfl)))) | refine q_d ?_ | refine q_a ?_ | refine q_b ?_ | refine q_c ?_ | refine A_ct rfl ?_ | refine A_cf rfl ?_ | refine q_W ?_ | refine Q_c rfl rfl rfl rfl rfl hcom rfl (fun _ _ _ => val_mk _ _ _ _ _ rfl rfl) ?_)
            exact ⟨(k + 1, cb), ⟨hkl, by (try dsimp only); rw [hnx]; simp⟩, by (try dsimp only); omega, Wk_sel ⟨rfl, rfl, rfl, rfl, rfl, rfl, rfl, rfl, rfl, trivial⟩ ⟨rfl, trivial⟩⟩
      · obtain rfl : k = rs.length := by omega
        rw [List.take_length, hany] at hb
        subst hb
        repeat ((fail_if_success (refine stopL ?_)); first | refine q_Z ?_ | refine R_quiet rfl mixed (by kernel_rfl) ?_ | ((first | apply O_y rfl rfl rfl | apply Q_y rfl rfl rfl); (first | exact R_addN rfl rfl rfl | exact R_subN rfl rfl rfl | (first | exact q_A | exact q_5 | exact q_B))) | refine q_d ?_ | refine q_a ?_ | refine q_b ?_ | refine q_c ?_ | refine A_ct rfl ?_ | refine A_cf rfl ?_ | refine q_W ?_)
        exact ⟨i + 1, hil, by omega, Wk_sel ⟨rfl, rfl, rfl, rfl, rfl, rfl, trivial⟩ trivial⟩
  obtain rfl : i = A.length := by omega
  repeat ((fail_if_success (refine stopL ?_)); first | refine q_Z ?_ | refine R_quiet rfl mixed (by kernel_rfl) ?_ | ((first | apply O_y rfl rfl rfl | apply Q_y rfl rfl rfl); (first | exact R_addN rfl rfl rfl | exact R_subN rfl rfl rfl | (first | exact q_A | exact q_5 | exact q_B))) | refine q_d ?_ | refine q_a ?_ | refine q_b ?_ | refine q_c ?_ | refine A_ct rfl ?_ | refine A_cf rfl ?_ | refine q_W ?_)
  try refine A_block ?_
  refine A_loop (fun n : Nat => [(1, rdssA l), (2, rtesA rs), (3, boolA ospf), (4, .iptr (dvcD d) 0), (9, tknsA A), (15, natA n)]) (fun _ => []) (fun n => n ≤ l.length + 1) (fun n => l.length + 1 - n) 0 (Nat.zero_le _) (Wk_sel ⟨rfl, rfl, rfl, rfl, rfl, rfl, trivial⟩ trivial) ?_
  intro n hn
  try dsimp only
  by_cases hnl : n ≤ l.length
  · have hovB := rovr_A d (l.take n) rs ospf ⟨by rw [List.length_take]; omega, hok.rn, hok.ok, hok.ap⟩
    rw [hovn n hnl] at hovB
    dsimp only at hovB
    have hBat := fun i (h : i < A.length) (hp : decide (A[i].1 < n) = true) => filt_at (fun x : Tkn => decide (x.1 < n)) A i h hp
    have hstep := fun i (h : i < A.length) => filt_step (fun x : Tkn => decide (x.1 < n)) A i h
    have hBl : (A.filter fun x => decide (x.1 < n)).length ≤ 1000000 := Nat.le_trans (List.length_filter_le _ _) hAl
    obtain ⟨B, hB⟩ : ∃ B, (A.filter fun x => decide (x.1 < n)) = B := ⟨_, rfl⟩
    rw [hB] at hovB hBat hBl
    repeat ((fail_if_success (refine stopL ?_)); (fail_if_success (refine stopRO ?_)); first | refine q_Z ?_ | refine R_quiet rfl mixed (by kernel_rfl) ?_ | ((first | apply O_y rfl rfl rfl | apply Q_y rfl rfl rfl); (first | exact R_addN rfl rfl rfl | exact R_subN rfl rfl rfl | (first | exact q_A | exact q_5 | exact q_B))) | refine q_d ?_ | refine q_a ?_ | refine q_b ?_ | refine q_c ?_ | refine A_ct rfl ?_ | refine A_cf rfl ?_ | refine q_W ?_)
    refine A_cutOn ([(1, rdssA l), (2, rtesA rs), (3, boolA ospf), (4, .iptr (dvcD d) 0), (9, tknsA A), (15, natA n), (16, tknsA B), (17, .d (iD 0))]) [] ?_ ?_
    · refine N_begin [] mixed ?_
      apply q_P 0 rfl (by kernel_rfl) rfl rfl rfl
      exact q_5
      apply q_P 1 rfl (by kernel_rfl) rfl rfl rfl
      exact q_1
      apply q_P 2 rfl (by kernel_rfl) rfl rfl rfl
      exact q_1
      apply q_P 3 rfl (by kernel_rfl) rfl rfl rfl
      exact R_sliceD (m := n) tabOk rfl rfl rfl rfl rfl rfl hnl
      refine N_weakenS (Wk_seeO (t := 140) (c' := rdssA (l.take n)) rfl (see_take l n hnl)) ?_
      apply q_P 4 rfl (by kernel_rfl) rfl rfl rfl
      exact q_1
      apply q_P 5 rfl (by kernel_rfl) rfl rfl rfl
      exact q_1
      refine N_one (j := 6) (by kernel_rfl) ?_
      refine T_call rfl rfl rfl rfl rfl rfl hovB (fun _ => rfl) ?_
      apply q_P 7 rfl (by kernel_rfl) rfl rfl rfl
      exact q_1
      apply q_P 8 rfl (by kernel_rfl) rfl rfl rfl
      exact q_14
      apply q_P 9 rfl (by kernel_rfl) rfl rfl rfl
      exact q_14
      apply q_P 10 rfl (by kernel_rfl) rfl rfl rfl
      exact q_2
      apply q_P 11 rfl (by kernel_rfl) rfl rfl rfl
      exact q_2
      refine N_done (by kernel_rfl) ?_
      refine q_j ?_
      exact Wk_sel ⟨rfl, rfl, rfl, rfl, rfl, rfl, rfl, rfl, trivial⟩ trivial
    repeat ((fail_if_success (refine stopL ?_)); first | refine q_Z ?_ | refine R_quiet rfl mixed (by kernel_rfl) ?_ | ((first | apply O_y rfl rfl rfl | apply Q_y rfl rfl rfl); (first | exact R_addN rfl rfl rfl | exact R_subN rfl rfl rfl | (first | exact q_A | exact q_5 | exact q_B))) | refine q_d ?_ | refine q_a ?_ | refine q_b ?_ | refine q_c ?_ | refine A_ct rfl ?_ | refine A_cf rfl ?_ | refine q_W ?_)
    try refine A_block ?_
    refine A_loop (fun x : Nat × Nat => [(1, rdssA l), (2, rtesA rs), (3, boolA ospf), (4, .iptr (dvcD d) 0), (9, tknsA A), (15, natA n), (16, tknsA B), (18, natA x.2), (19, natA x.1)]) (fun _ => []) (fun x => x.1 ≤ A.length ∧ x.2 = ((A.take x.1).filter fun x => decide (x.1 < n)).length) (fun x => A.length - x.1) (0, 0) ⟨Nat.zero_le _, rfl⟩ (Wk_sel ⟨rfl, rfl, rfl, rfl, rfl, rfl, rfl, rfl, rfl, trivial⟩ trivial) ?_
    rintro ⟨i, k⟩ ⟨hi, hk⟩
    try dsimp only at hi hk ⊢
    by_cases hil : i < A.length
    · have hs := hstep i hil
      rw [← hk] at hs
      have hwi : win (A.flatMap tknD) (i * 9 + 0) 1 = [iD (A[i].1 : Int)] := win_flat tknD_len A i 0 1 hil (by decide)
      have hws : win (A.flatMap tknD) (i * 9 + 1) 8 = sbjD A[i].2 := win_flat tknD_len A i 1 8 hil (by decide)
      by_cases hlt : A[i].1 < n
      · have hat := hBat i hil (decide_eq_true hlt)
        rw [← hk] at hat
        obtain ⟨hkB, hkA⟩ := List.getElem?_eq_some_iff.1 hat
        have hwbi : win (B.flatMap tknD) (k * 9 + 0) 1 = [iD (A[i].1 : Int)] := by rw [← hkA]; exact win_flat tknD_len B k 0 1 hkB (by decide)
        have hwbs : win (B.flatMap tknD) (k * 9 + 1) 8 = sbjD A[i].2 := by rw [← hkA]; exact win_flat tknD_len B k 1 8 hkB (by decide)
        have hsz := hsb A[i] (List.getElem_mem hil)
        have hsame := rsame_A A[i].2 A[i].2 hsz.1 hsz.2 hsz.1 hsz.2
        rw [(sameS_iff _ _).2 rfl] at hsame
        rw [if_pos (decide_eq_true hlt)] at hs
        obtain ⟨y, hy⟩ : ∃ y, A[i] = y := ⟨_, rfl⟩
        rw [hy] at hwi hws hwbi hwbs hsame hlt
        repeat ((fail_if_success (refine stopL ?_)); first | refine q_Z ?_ | refine R_quiet rfl mixed (by kernel_rfl) ?_ | ((first | apply O_y rfl rfl rfl | apply Q_y rfl rfl rfl); (first | exact R_addN rfl rfl rfl | exact R_subN rfl rfl rfl | (first | exact q_A | exact R_loadi tabOk rfl rfl rfl rfl (by first | exact hwi | exact hws | exact hwbi | exact hwbs | rfl) rfl rfl | exact q_B | (first | exact R_neN rfl rfl rfl | exact R_index (j := i) tabOk rfl rfl rfl rfl rfl rfl hil | exact R_index (j := k) tabOk rfl rfl rfl rfl rfl rfl hkB)))) | refine q_d ?_ | refine q_a ?_ | refine q_b ?_ | refine q_c ?_ | refine A_ct rfl ?_ | refine A_cf rfl ?_ | refine q_W ?_ | refine Q_c rfl rfl rfl rfl rfl hsame rfl (fun _ _ _ => val_mk _ _ _ _ _ rfl rfl) ?_)
        exact ⟨(i + 1, k + 1), ⟨hil, hs.symm⟩, by (try dsimp only); omega, Wk_sel ⟨rfl, rfl, rfl, rfl, rfl, rfl, rfl, rfl, rfl, trivial⟩ trivial⟩
      · rw [if_neg (by simpa using hlt), Nat.add_zero] at hs
        obtain ⟨y, hy⟩ : ∃ y, A[i] = y := ⟨_, rfl⟩
        rw [hy] at hwi hlt
        repeat ((fail_if_success (refine stopL ?_)); first | refine q_Z ?_ | refine R_quiet rfl mixed (by kernel_rfl) ?_ | ((first | apply O_y rfl rfl rfl | apply Q_y rfl rfl rfl); (first | exact R_addN rfl rfl rfl | exact R_subN rfl rfl rfl | (first | exact q_A | exact R_loadi tabOk rfl rfl rfl rfl (by first | exact hwi | rfl) rfl rfl | exact q_B | (exact R_index (j := i) tabOk rfl rfl rfl rfl rfl rfl hil)))) | refine q_d ?_ | refine q_a ?_ | refine q_b ?_ | refine q_c ?_ | refine A_ct rfl ?_ | refine A_cf rfl ?_ | refine q_W ?_)
        exact ⟨(i + 1, k), ⟨hil, hs.symm⟩, by (try dsimp only); omega, Wk_sel ⟨rfl, rfl, rfl, rfl, rfl, rfl, rfl, rfl, rfl, trivial⟩ trivial⟩
    · obtain rfl : i = A.length := by omega
      rw [List.take_length, hB] at hk
      subst hk
      repeat ((fail_if_success (refine stopL ?_)); first | refine q_Z ?_ | refine R_quiet rfl mixed (by kernel_rfl) ?_ | ((first | apply O_y rfl rfl rfl | apply Q_y rfl rfl rfl); (first | exact R_addN rfl rfl rfl | exact R_subN rfl rfl rfl | (first | exact q_A | exact q_5 | exact q_B))) | refine q_d ?_ | refine q_a ?_ | refine q_b ?_ | refine q_c ?_ | refine A_ct rfl ?_ | refine A_cf rfl ?_ | refine q_W ?_)
      exact ⟨n + 1, by omega, by omega, Wk_sel ⟨rfl, rfl, rfl, rfl, rfl, rfl, trivial⟩ trivial⟩
  · obtain rfl : n = l.length + 1 := by omega
    repeat ((fail_if_success (refine stopL ?_)); first | refine q_Z ?_ | refine R_quiet rfl mixed (by kernel_rfl) ?_ | ((first | apply O_y rfl rfl rfl | apply Q_y rfl rfl rfl); (first | exact R_addN rfl rfl rfl | exact R_subN rfl rfl rfl | (first | exact q_A | exact q_5 | exact q_B))) | refine q_d ?_ | refine q_a ?_ | refine q_b ?_ | refine q_c ?_ | refine A_ct rfl ?_ | refine A_cf rfl ?_ | refine q_W ?_)
    exact X_retW AWk.refl rfl (h2 := []) trivial ⟨rfl, rfl⟩
end Ab
end Go.Proofs.YtpnhkkejcnicoaaGreat

namespace Go.Proofs.YtpnhkkejcnicoaaGreat
open Go.ChangeShapes Go.WideShapes Go.ChangeAt Go.RowKit
set_option linter.unusedVariables false
set_option maxRecDepth 100000
def WalkedU (k : FuncId) (params : List TypeId) : Prop :=
  ∀ (H : Type) (enc : TypeId × Value → H) (W : World) (args : Array Value) (ds : List (DataW H)) (ps : List MemPlace), (∀ (j : Nat) t v, params[j]? = some t → args[j]? = some v → ∃ base, Value.okWide Tryz.prog W .any base t v) →
    DataW.TrodAll enc Tryz.prog W 0 (fun _ => true) true params args.toList ds ps → (DataW.weightsEach Tryz.prog params ds).all (· ≤ reachBytes) = true → Rows.uptoBulkAll ds ≤ 1048576 → Calls Tryz.prog k args W (Ret W (.bool true))
theorem law_liftU {k : FuncId} {f : Func} {s : ChangeSpec} {tb : TypeId} (hf : Tryz.prog.funcs[k]? = some f) (hno : Tryz.prog.inits.idxOf? k = none) (hrt : f.resultTypes = #[tb]) (hub : Tryz.prog.underlying tb = some .bool)
    (hv : s.vars = []) (hvt : (Rows.OpenSpec.upto s).bare.plain.varTypes Tryz.prog = [])
    (hfn : ∀ (H : Type) (ds : List (DataW H)), ds.length = f.params.size → (s.fn H ds).results = [.lit (.bool true)] ∧ (s.fn H ds).args = ds ∧ (s.fn H ds).vars = [])
    (hr : ∀ t ∈ f.params.toList, Tryz.prog.readableRec t = true ∧ t < Tryz.prog.types.size) (walk : WalkedU k f.params.toList)
    (os : Os) (started : os.Started) (H : Type) (enc : TypeId × Value → H) (F : Stop.Interp)
    (wit : ∃ (w : World) (tape : Tape) (i : Input), w.os = os ∧ (w.forCall tape i).Shaped Tryz.prog ∧ i.vars = [] ∧ Input.okWide Tryz.prog (w.forCall tape i) .any w.heap.size k i ∧
      (Rows.OpenSpec.upto s).pre6 enc Tryz.prog f [] false (w.forCall tape i).memory i.args ∧ ({} : Assume).holds Tryz.prog (lone (Frame.enter Tryz.prog k i.args .normal) [] (w.forCall tape i))) :
    ReturnsInHanded {} Tryz.checked os k .any ((Rows.OpenSpec.upto s).pre6 enc Tryz.prog f [] false) (((Rows.OpenSpec.upto s).at F).post enc Tryz.prog f false true false false) := by
  refine returnsInHanded_of_cond_sized (C := Tryz.checked) (s := Rows.OpenSpec.upto s) (k := Rows.uptoSmall) rfl own_ started hno hf wit ?_
  intro W base args ds gs before hval0 hW _ hk hsz _
  have hW' : DataW.Whole enc Tryz.prog f.params.toList s.vars false W args.toList ds gs before := hW
  obtain ⟨p, q, hA0, hV, _, _, _⟩ := hW'
  have hW' : DataW.Whole enc Tryz.prog f.params.toList s.vars false W args.toList ds gs before := hW
  have hA : DataW.TrodAll enc Tryz.prog W 0 (fun _ => true) true f.params.toList args.toList ds p := hA0
  have hg : gs = [] := by
    rw [hv] at hV
    exact (trodVars_none hV).1
  subst hg
  have hlen : ds.length = f.params.size := by
    have : ∀ (ts : List TypeId) (vs : List Value) (ds : List (DataW H)) (ps : List MemPlace), DataW.TrodAll enc Tryz.prog W 0 (fun _ => true) true ts vs ds ps → ds.length = ts.length := by
      intro ts
      induction ts with
      | nil => intro vs ds ps h; obtain ⟨_, rfl, _⟩ := trodAll_nil h; rfl
      | cons t ts ih =>
        intro vs ds ps h
        obtain ⟨_, _, _, _, _, _, _, rfl, _, _, h2⟩ := trodAll_cons h
        simp [ih _ _ _ h2]
    simpa using this _ _ _ _ hA
  have hF := hfn H ds hlen
  have hsz' : (DataW.weightsEach Tryz.prog f.params.toList ds).all (· ≤ reachBytes) = true := by
    have e : (Rows.OpenSpec.upto s).bare.plain.varTypes (Tryz.checked).prog = [] := hvt
    rw [e, List.append_nil, List.append_nil] at hsz
    exact hsz
  have hbk : Rows.uptoBulkAll ds ≤ 1048576 := by
    rw [List.append_nil] at hk
    exact of_decide_eq_true hk
  refine (walk H enc W args ds p (fun j t v h1 h2 => ⟨base, hval0 j t v (by simpa using h1) h2⟩) hA hsz' hbk).mono ?_
  rintro e W' ⟨rfl, hb⟩
  refine ⟨_, rfl, ?_⟩
  show s.post enc Tryz.prog f false true false false W args (.bool true) W'
  refine law_post hrt hub hv ?_ ?_ ?_ laid_ hr hW' hb
  · rw [List.append_nil]; exact hF.1
  · rw [List.append_nil]; exact hF.2.1
  · rw [List.append_nil]; exact hF.2.2
end Go.Proofs.YtpnhkkejcnicoaaGreat

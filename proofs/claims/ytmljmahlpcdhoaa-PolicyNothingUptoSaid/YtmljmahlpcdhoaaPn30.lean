/-
  Texts of a proof, one behind the other (part 31).
-/
import Derived.Test.YtmljmahlpcdhoaaPn4
import Derived.Test.YtmljmahlpcdhoaaPn28
import Derived.Test.YtmljmahlpcdhoaaPn29
set_option linter.unusedVariables false
set_option linter.unusedSimpArgs false
namespace Go.Proofs.Ytmljmahlpcdhoaa
set_option linter.unusedVariables false
set_option maxRecDepth 100000
open Go.RowKit Go.Lib
namespace Ab
theorem A_cutI {P : Program} {nt : Nat} {Q : Post} {e : Env} {h : Heap} {z : Bool} {n : Nat} {c y : Code} (E1 : Env) (H1 : Heap) (h1 : AWp z P nt c (AThen (fun e' h' => AWk nt e' h' E1 H1) RF) e h) (h2 : AWp z P nt y Q E1 H1) : AWp z P nt c (AIn n (AThen (AWp z P nt y Q) Q)) e h :=
  h1.mono fun ex e h hq => by
    cases ex with
    | normal => exact A_weaken hq h2
    | _ => exact False.elim hq
set_option linter.unusedSimpArgs false
attribute [local irreducible] AWp AOps AQ AYield AEff ACall AWk AAny AAt AThen AIn APost NoPanic
theorem stopR {P : Program} {nt : Nat} {Q : Post} {e : Env} {h : Heap} {z : Bool} {id : Nat} {l : Array Oper} {x y : Code} (H : AWp z P nt (.seq (.region id l true) (.seq x y)) Q e h) : AWp z P nt (.seq (.region id l true) (.seq x y)) Q e h := H
def usB (us : List Bool) : ABlk := .row 4 1 us.length (us.map bD)
theorem us_win {us : List Bool} {k : Nat} (hk : k < us.length) : win (us.map bD) (k * 1) 1 = [bD us[k]] := by
  rw [Nat.mul_one, win, ← List.map_drop, ← List.map_take, List.drop_eq_getElem_cons hk]
  rfl
theorem us_set {us : List Bool} {k : Nat} (hk : k < us.length) : ABlk.row 4 1 us.length (setW (us.map bD) (k * 1) [bD true]) = usB (us.set k true) := by
  unfold usB
  rw [List.length_set, Nat.mul_one]
  congr 1
  unfold setW
  rw [← List.map_take, ← List.map_drop]
  conv => rhs; rw [List.set_eq_take_append_cons_drop, if_pos hk]
  simp
theorem use_set {us : List Bool} {k n : Nat} (hk : k < us.length) : useU (us.set k true) n = (decide (n = k) || useU us n) := by
  unfold useU
  rw [List.getD_eq_getElem?_getD, List.getD_eq_getElem?_getD, List.getElem?_set]
  by_cases h : k = n
  · subst h; simp [hk]
  · have : ¬ n = k := fun h2 => h h2.symm
    simp [h, this]
theorem use_get {us : List Bool} {k : Nat} (hk : k < us.length) : useU us k = us[k] := by unfold useU; rw [List.getD_eq_getElem?_getD, List.getElem?_eq_getElem hk]; rfl
def dvF (d : Dvc) (p : Pol) : List AVal := [.d (sD d.nm), .d (cD d.kd), .d (.sl (d.vrfs.flatMap s1D) d.vrfs.length), .d (.sl (d.ifs.flatMap ifxD) d.ifs.length), .d (.sl (d.fils.flatMap filD) d.fils.length), .d (.sl (d.rws.flatMap rwrD) d.rws.length), .d (.sl (d.sts.flatMap staD) d.sts.length), .d (.sl (d.pls.flatMap plstD) d.pls.length), .d (.sl (d.cls.flatMap clstD) d.cls.length), .full (polD p) 1, .d (.sl (d.osp.flatMap ospD) d.osp.length), .d (.sl (d.bgp.flatMap bgiD) d.bgp.length)]
theorem fulls_dv (d : Dvc) (p : Pol) : AVal.agg (fulls (dvF d p)) = dvcA (d1P d p) := by kernel_rfl
theorem see_dv (d : Dvc) (p : Pol) (w : World) (F : Nat → Prop) (ι : Nat → Option Value) (u : Value) (h : VRel w F ι (.agg (dvF d p)) u) : VRel w F ι (dvcA (d1P d p)) u := by rw [← fulls_dv]; exact see_fulls w F ι u h
theorem Wk_seeS {nt : Nat} {e : Env} {h : Heap} {t : Nat} {c c' : AVal} (ht : look e t = some c) (hc : ∀ w F ι u, VRel w F ι c u → VRel w F ι c' u) : AWkS nt e h ((t, c') :: e) h := fun Pm F w0 pin ι a w R =>
  ⟨ι, fun _ _ h => h, R.heap, fun s c2 hs => by
    by_cases hts : t = s
    · subst hts
      rw [look_cons_same] at hs; cases hs
      obtain ⟨u, hu, hv⟩ := R.env t c ht
      exact ⟨u, hu, hc _ _ _ _ hv⟩
    · rw [look_cons_ne _ _ hts] at hs; exact R.env s c2 hs, R.defers, R.size⟩
def clB (l : List Cls) : ABlk := .row 46 15 l.length (l.flatMap clsD)
theorem usB_rep (n : Nat) : usB (List.replicate n false) = .row 4 1 n (List.replicate n (bD false)) := by unfold usB; rw [List.length_replicate, List.map_replicate]
theorem sets_cases {b b2 : Bool} {c : Cls} (h : (b || setsC c) = b2) : (b = true ∧ b2 = true) ∨ (b = false ∧ b2 = true ∧ c.sMet ≠ -1) ∨ (b = false ∧ b2 = true ∧ c.sMet = -1 ∧ c.sPref ≠ -1) ∨ (b = false ∧ b2 = true ∧ c.sMet = -1 ∧ c.sPref = -1 ∧ c.sTag ≠ -1) ∨
    (b = false ∧ b2 = true ∧ c.sMet = -1 ∧ c.sPref = -1 ∧ c.sTag = -1 ∧ c.sHop ≠ 0) ∨ (b = false ∧ b2 = true ∧ c.sMet = -1 ∧ c.sPref = -1 ∧ c.sTag = -1 ∧ c.sHop = 0 ∧ 0 < c.sCom.length) ∨
    (b = false ∧ b2 = true ∧ c.sMet = -1 ∧ c.sPref = -1 ∧ c.sTag = -1 ∧ c.sHop = 0 ∧ c.sCom.length = 0 ∧ 0 < c.pre.length) ∨ (b = false ∧ b2 = false ∧ c.sMet = -1 ∧ c.sPref = -1 ∧ c.sTag = -1 ∧ c.sHop = 0 ∧ c.sCom.length = 0 ∧ c.pre.length = 0) := by
  cases b
  · by_cases h1 : c.sMet = -1
    · by_cases h2 : c.sPref = -1
      · by_cases h3 : c.sTag = -1
        · by_cases h4 : c.sHop = 0
          · by_cases h5 : c.sCom.length = 0
            · by_cases h6 : c.pre.length = 0
              · have : setsC c = false := by unfold setsC; rw [h1, h2, h3, h4, h5, h6]; rfl
                rw [this] at h; subst h; simp [h1, h2, h3, h4, h5, h6]
              · have : setsC c = true := by unfold setsC; rw [decide_eq_true (show 0 < c.pre.length by omega)]; simp
                rw [this] at h; subst h; exact .inr (.inr (.inr (.inr (.inr (.inr (.inl ⟨rfl, rfl, h1, h2, h3, h4, h5, by omega⟩))))))
            · have : setsC c = true := by unfold setsC; rw [decide_eq_true (show 0 < c.sCom.length by omega)]; simp
              rw [this] at h; subst h; exact .inr (.inr (.inr (.inr (.inr (.inl ⟨rfl, rfl, h1, h2, h3, h4, by omega⟩)))))
          · have : setsC c = true := by unfold setsC; rw [decide_eq_true h4]; simp
            rw [this] at h; subst h; simp [h1, h2, h3, h4]
        · have : setsC c = true := by unfold setsC; rw [decide_eq_true h3]; simp
          rw [this] at h; subst h; simp [h1, h2, h3]
      · have : setsC c = true := by unfold setsC; rw [decide_eq_true h2]; simp
        rw [this] at h; subst h; simp [h1, h2]
    · have : setsC c = true := by unfold setsC; rw [decide_eq_true h1]; simp
      rw [this] at h; subst h; simp [h1]
  · exact .inl ⟨rfl, by rw [← h]; rfl⟩
set_option maxHeartbeats 64000000 in
theorem nothing1_A (d : Dvc) (which : Int) (l rest : List Sbj) (hl12 : l.length ≤ 12) (hr : rest ≠ [] → l.length = 12) (hln : l.length + rest.length ≤ 1048576) (hok : OkN d l) : ACall Try.prog 3 [dvcA d, intA which, .d (.sl (l.flatMap sbjD ++ rest.flatMap sbjD) (l.length + rest.length))] [] (Just (boolA true)) := by
  have haw := awake16_A
  have hn := hok.n
  have hmin : (if (12 : Int) < ((l.length + rest.length : Nat) : Int) then (12 : Int) else ((l.length + rest.length : Nat) : Int)) = (l.length : Int) := by
    cases rest with
    | nil => simp; omega
    | cons b r => have := hr (by simp); simp; omega
  refine ACall_of tabOk Try.func3 rfl Try.ntmps3 (congrArg Array.toList Try.results3) (by kernel_rfl) rfl ?_
  refine A_seq ?_
  refine R_list ?_
  refine q_d ?_
  (apply O_y rfl rfl rfl; (exact q_2))
  refine O_nil ?_
  refine q_j ?_
  by_cases hp0 : d.pols.length = 0
  ·
    repeat (first | refine A_seq ?_ | refine A_block ?_ | refine R_list ?_ | refine R_quiet rfl mixed (by kernel_rfl) ?_ | ((first | apply O_y rfl rfl rfl | apply Q_y rfl rfl rfl); (first | exact q_1 | exact q_2 | exact q_3 | exact q_4 | exact q_5 | exact q_6 | exact q_7 | exact q_8 | exact q_9 | exact q_10 | exact q_11 | exact q_12 | exact q_13 | exact q_14 | exact q_15 | exact q_16 | exact q_17 | exact q_18 | exact q_19 | exact q_20 | exact q_21 | exact q_22 | exact q_23 | exact q_24 | (first | exact R_min rfl rfl rfl hmin | exact R_sliceD tabOk rfl rfl rfl rfl rfl rfl (by omega)))) | refine O_nil ?_ | refine Q_nil ?_ | refine q_j ?_ | refine q_k ?_ | refine q_d ?_ | refine q_a ?_ | refine q_b ?_ | refine q_c ?_ | refine A_ct rfl ?_ | refine A_cf rfl ?_ | refine A_skip ?_ | refine A_exit ?_ | refine A_ret ?_ | refine q_l ?_ | refine q_m ?_ | refine q_n ?_ | refine q_h ?_ | refine q_o ?_ | refine q_e ?_ | refine q_f ?_ | refine q_g ?_ | refine O_c rfl rfl rfl rfl rfl haw (fun _ => rfl) ?_)
    exact X_retW AWk.refl rfl (h2 := []) trivial ⟨rfl, rfl⟩
  have hpz : 0 < d.pols.length := by omega
  obtain ⟨a, ha, ha2⟩ := wrapU which
  have hk : a % d.pols.length < d.pols.length := Nat.mod_lt _ hpz
  have hlu : IntKind.u64.wrap ((d.pols.length : Nat) : Int) = ((d.pols.length : Nat) : Int) := wrapUN (by omega)
  have hki : IntKind.i64.wrap ((a % d.pols.length : Nat) : Int) = ((a % d.pols.length : Nat) : Int) := wrap_i64 ⟨by omega, by omega⟩
  obtain ⟨k, hke⟩ : ∃ k, k = a % d.pols.length := ⟨_, rfl⟩
  have hw := win_flat0 polD_len d.pols (a % d.pols.length) 3 hk (by decide)
  repeat (first | refine A_seq ?_ | refine A_block ?_ | refine R_list ?_ | refine R_quiet rfl mixed (by kernel_rfl) ?_ | ((first | apply O_y rfl rfl rfl | apply Q_y rfl rfl rfl); (first | exact q_1 | exact q_2 | exact q_3 | exact q_4 | exact q_5 | exact q_6 | exact q_7 | exact q_8 | exact q_9 | exact q_10 | exact q_11 | exact q_12 | exact q_13 | exact q_14 | exact q_15 | exact q_16 | exact q_17 | exact q_18 | exact q_19 | exact q_20 | exact q_21 | exact q_22 | exact q_23 | exact q_24 | (first | exact R_min rfl rfl rfl hmin | exact R_sliceD tabOk rfl rfl rfl rfl rfl rfl (by omega)))) | refine O_nil ?_ | refine Q_nil ?_ | refine q_j ?_ | refine q_k ?_ | refine q_d ?_ | refine q_a ?_ | refine q_b ?_ | refine q_c ?_ | refine A_ct rfl ?_ | refine A_cf rfl ?_ | refine A_skip ?_ | refine A_exit ?_ | refine A_ret ?_ | refine q_l ?_ | refine q_m ?_ | refine q_n ?_ | refine q_h ?_ | refine q_o ?_ | refine q_e ?_ | refine q_f ?_ | refine q_g ?_ | refine O_c rfl rfl rfl rfl rfl haw (fun _ => rfl) ?_)
  refine N_begin [7] mixed ?_
  apply q_P 0 rfl (by kernel_rfl) rfl rfl rfl
  exact q_8
  apply q_P 1 rfl (by kernel_rfl) rfl rfl rfl
  exact q_7
  apply q_P 2 rfl (by kernel_rfl) rfl rfl rfl
  exact q_1
  apply q_P 3 rfl (by kernel_rfl) rfl rfl rfl
  exact R_conv tabOk rfl rfl rfl rfl rfl ha
  apply q_P 4 rfl (by kernel_rfl) rfl rfl rfl
  exact q_8
  apply q_P 5 rfl (by kernel_rfl) rfl rfl rfl
  exact q_7
  apply q_P 6 rfl (by kernel_rfl) rfl rfl rfl
  exact q_6
  apply q_P 7 rfl (by kernel_rfl) rfl rfl rfl
  exact R_conv tabOk rfl rfl rfl rfl rfl hlu
  apply q_P 8 rfl (by kernel_rfl) rfl rfl rfl
  exact R_remU rfl rfl rfl hpz (by omega)
  apply q_P 9 rfl (by kernel_rfl) rfl rfl rfl
  exact R_conv tabOk rfl rfl rfl rfl rfl hki
  apply q_P 10 rfl (by kernel_rfl) rfl rfl rfl
  exact R_index (j := a % d.pols.length) tabOk rfl rfl rfl rfl rfl rfl hk
  apply q_P 11 rfl (by kernel_rfl) rfl rfl rfl
  exact R_loadi tabOk rfl rfl rfl rfl hw rfl rfl
  refine N_one (j := 12) (by kernel_rfl) ?_
  refine T_alloc tabOk rfl rfl rfl rfl rfl rfl rfl ?_
  refine N_one (j := 13) (by kernel_rfl) ?_
  refine T_store tabOk rfl rfl rfl rfl rfl rfl rfl rfl rfl rfl rfl rfl rfl ?_
  refine N_done (by kernel_rfl) ?_
  refine q_j ?_
  obtain ⟨p, hpe⟩ : ∃ p, d.pols[a % d.pols.length] = p := ⟨_, rfl⟩
  rw [hpe]
  have hpm : p ∈ d.pols := by rw [← hpe]; exact List.getElem_mem hk
  clear hw hki hlu ha ha2 hpe
  refine A_weaken (Wk_see (t := 2) rfl see_pfx) ?_
  refine A_weaken (Wk_sel (e1 := [(2, .d (.sl (l.flatMap sbjD) l.length)), (3, .ptr 3 0), (7, .ptr 7 0)]) (h1 := [(3, .var ((dvcD d).map .d)), (7, .var ((polD p).map .d))]) ⟨rfl, rfl, rfl, trivial⟩ ⟨rfl, by kernel_rfl, trivial⟩) ?_
  refine A_weaken (Wk_freezeV (id := 7) (ds := polD p) rfl rfl) ?_
  have hpc := hok.pc p hpm
  have hcp := hok.cp p hpm
  by_cases hRA : ¬ RiseA p.cs
  · have hris := rising_A p (by omega) false (iff_of_false (by decide) hRA)
    repeat ((fail_if_success (refine stopL ?_)); first
      | refine A_seq ?_
      | refine A_block ?_
      | refine R_list ?_
      | refine R_quiet rfl mixed (by kernel_rfl) ?_
      | ((first | apply O_y rfl rfl rfl | apply Q_y rfl rfl rfl); (first | exact R_addN rfl rfl rfl | exact R_subN rfl rfl rfl | (first | exact q_1 | exact q_2 | exact q_3 | exact q_4 | exact q_5 | exact q_6 | exact q_7 | exact q_8 | exact q_9 | exact q_10 | exact q_11 | exact q_12 | exact q_13 | exact q_14 | exact q_15 | exact q_16 | exact q_17 | exact q_18 | exact q_19 | exact q_20 | exact q_21 | exact q_22 | exact q_23 | exact q_24 | fail)))
      | refine O_nil ?_
      | refine Q_nil ?_
      | refine q_j ?_
      | refine q_k ?_
      | refine q_d ?_
      | refine q_a ?_
      | refine q_b ?_
      | refine q_c ?_
      | refine A_ct rfl ?_
      | refine A_cf rfl ?_
      | refine A_skip ?_
      | refine A_exit ?_
      | refine A_ret ?_
      | refine q_l ?_
      | refine q_m ?_
      | refine q_n ?_
      | refine q_h ?_
      | refine q_o ?_
      | refine q_e ?_
      | refine q_f ?_
      | refine q_g ?_
      | refine O_c rfl rfl rfl rfl rfl hris (fun _ => rfl) ?_)
    exact X_retW AWk.refl rfl (h2 := []) trivial ⟨rfl, rfl⟩
  have hRA := Classical.not_not.1 hRA
  have hris := rising_A p (by omega) true ⟨fun _ => hRA, fun _ => rfl⟩
  have hR := hRA.rise
  repeat ((fail_if_success (refine stopL ?_)); first
    | refine A_seq ?_
    | refine A_block ?_
    | refine R_list ?_
    | refine R_quiet rfl mixed (by kernel_rfl) ?_
    | ((first | apply O_y rfl rfl rfl | apply Q_y rfl rfl rfl); (first | exact R_addN rfl rfl rfl | exact R_subN rfl rfl rfl | (first | exact q_1 | exact q_2 | exact q_3 | exact q_4 | exact q_5 | exact q_6 | exact q_7 | exact q_8 | exact q_9 | exact q_10 | exact q_11 | exact q_12 | exact q_13 | exact q_14 | exact q_15 | exact q_16 | exact q_17 | exact q_18 | exact q_19 | exact q_20 | exact q_21 | exact q_22 | exact q_23 | exact q_24 | fail)))
    | refine O_nil ?_
    | refine Q_nil ?_
    | refine q_j ?_
    | refine q_k ?_
    | refine q_d ?_
    | refine q_a ?_
    | refine q_b ?_
    | refine q_c ?_
    | refine A_ct rfl ?_
    | refine A_cf rfl ?_
    | refine A_skip ?_
    | refine A_exit ?_
    | refine A_ret ?_
    | refine q_l ?_
    | refine q_m ?_
    | refine q_n ?_
    | refine q_h ?_
    | refine q_o ?_
    | refine q_e ?_
    | refine q_f ?_
    | refine q_g ?_
    | first | refine O_c rfl rfl rfl rfl rfl hris (fun _ => rfl) ?_ | (refine O_makeSlice1 tabOk rfl rfl rfl rfl rfl rfl rfl rfl rfl (by omega) ?_))
  refine A_block ?_
  refine A_loop (fun x : Nat × Bool => [(2, .d (.sl (l.flatMap sbjD) l.length)), (3, .ptr 3 0), (7, .iptr (polD p) 0), (8, .row 58), (9, boolA x.2), (10, natA x.1)]) (fun _ => [(3, .var ((dvcD d).map .d)), (58, usB (List.replicate p.cs.length false))]) (fun x => x.1 ≤ p.cs.length ∧ x.2 = (p.cs.take x.1).any setsC) (fun x => p.cs.length - x.1) (0, false) ⟨Nat.zero_le _, rfl⟩ (Wk_sel ⟨rfl, rfl, rfl, rfl, rfl, rfl, trivial⟩ ⟨rfl, by rw [usB_rep]; rfl, trivial⟩) ?_
  rintro ⟨k, b⟩ ⟨hk, hb⟩
  try dsimp only at hk hb ⊢
  by_cases hkl : k < p.cs.length
  · have hw := win_flat0 clsD_len p.cs k 15 hkl (by decide)
    have hnx : (p.cs.take (k + 1)).any setsC = (b || setsC p.cs[k]) := by rw [List.take_succ_eq_append_getElem hkl, List.any_append, ← hb]; simp
    obtain ⟨c, hc⟩ : ∃ c, p.cs[k] = c := ⟨_, rfl⟩
    rw [hc] at hw hnx
    clear hc
    obtain ⟨b2, hb2⟩ : ∃ b2, (b || setsC c) = b2 := ⟨_, rfl⟩
    rw [hb2] at hnx
    rcases sets_cases hb2 with ⟨rfl, rfl⟩ | ⟨rfl, rfl, h1⟩ | ⟨rfl, rfl, h1, h2⟩ | ⟨rfl, rfl, h1, h2, h3⟩ | ⟨rfl, rfl, h1, h2, h3, h4⟩ | ⟨rfl, rfl, h1, h2, h3, h4, h5⟩ | ⟨rfl, rfl, h1, h2, h3, h4, h5, h6⟩ | ⟨rfl, rfl, h1, h2, h3, h4, h5, h6⟩
    all_goals
      repeat ((fail_if_success (refine stopL ?_)); first
        | refine A_seq ?_
        | refine A_block ?_
        | refine R_list ?_
        | refine R_quiet rfl mixed (by kernel_rfl) ?_
        | ((first | apply O_y rfl rfl rfl | apply Q_y rfl rfl rfl); (first | exact R_addN rfl rfl rfl | exact R_subN rfl rfl rfl | (first | exact q_1 | exact q_2 | exact q_3 | exact q_4 | exact R_loadi tabOk rfl rfl rfl rfl (by first | exact hw | rfl) rfl rfl | exact q_6 | exact q_7 | exact q_8 | exact q_9 | exact q_10 | exact q_11 | exact q_12 | exact q_13 | exact q_14 | exact q_15 | exact q_16 | exact q_17 | exact q_18 | exact q_19 | exact q_20 | exact q_21 | exact q_22 | exact q_23 | exact q_24 | (exact R_index (j := k) tabOk rfl rfl rfl rfl rfl rfl hkl))))
        | refine O_nil ?_
        | refine Q_nil ?_
        | refine q_j ?_
        | refine q_k ?_
        | refine q_d ?_
        | refine q_a ?_
        | refine q_b ?_
        | refine q_c ?_
        | refine A_ct rfl ?_
        | refine A_cf rfl ?_
        | refine A_skip ?_
        | refine A_exit ?_
        | refine A_ret ?_
        | refine q_l ?_
        | refine q_m ?_
        | refine q_n ?_
        | refine q_h ?_
        | refine q_o ?_
        | refine q_e ?_
        | refine q_f ?_
        | refine q_g ?_
        | fail)
      exact ⟨(k + 1, _), ⟨hkl, hnx.symm⟩, by (try dsimp only); omega, Wk_sel ⟨rfl, rfl, rfl, rfl, rfl, rfl, trivial⟩ ⟨rfl, rfl, trivial⟩⟩
  obtain rfl : k = p.cs.length := by omega
  rw [List.take_length] at hb
  repeat ((fail_if_success (refine stopL ?_)); first
    | refine A_seq ?_
    | refine A_block ?_
    | refine R_list ?_
    | refine R_quiet rfl mixed (by kernel_rfl) ?_
    | ((first | apply O_y rfl rfl rfl | apply Q_y rfl rfl rfl); (first | exact R_addN rfl rfl rfl | exact R_subN rfl rfl rfl | (first | exact q_1 | exact q_2 | exact q_3 | exact q_4 | exact q_5 | exact q_6 | exact q_7 | exact q_8 | exact q_9 | exact q_10 | exact q_11 | exact q_12 | exact q_13 | exact q_14 | exact q_15 | exact q_16 | exact q_17 | exact q_18 | exact q_19 | exact q_20 | exact q_21 | exact q_22 | exact q_23 | exact q_24 | fail)))
    | refine O_nil ?_
    | refine Q_nil ?_
    | refine q_j ?_
    | refine q_k ?_
    | refine q_d ?_
    | refine q_a ?_
    | refine q_b ?_
    | refine A_ct rfl ?_
    | refine A_cf rfl ?_
    | refine A_skip ?_
    | refine A_exit ?_
    | refine A_ret ?_
    | refine q_l ?_
    | refine q_m ?_
    | refine q_n ?_
    | refine q_h ?_
    | refine q_o ?_
    | refine q_e ?_
    | refine q_f ?_
    | refine q_g ?_
    | (refine O_sliceF (xs := (polD p).map .d) (ds := polD p) tabOk rfl rfl rfl rfl rfl rfl rfl rfl rfl (by kernel_rfl) (by kernel_rfl) ?_))
  try refine A_block ?_
  refine A_loop (fun x : Nat × List Bool => [(2, .d (.sl (l.flatMap sbjD) l.length)), (3, .ptr 3 0), (7, .iptr (polD p) 0), (8, .row 58), (9, boolA b), (12, natA x.1)]) (fun x => [(3, .var (dvF d p)), (58, usB x.2)])
    (fun x => x.1 ≤ l.length ∧ x.2.length = p.cs.length ∧ ∀ i (h : i < l.length), i < x.1 → ¬ 600 < largeN (d1P d p) l[i] ∧ (p.nm ≠ [] → ∀ m ∈ (runP d p l[i]).2.2, useU x.2 m.1 = true)) (fun x => l.length - x.1)
    (0, List.replicate p.cs.length false) ⟨Nat.zero_le _, by simp, fun i h hi => absurd hi (Nat.not_lt_zero _)⟩ (Wk_sel ⟨rfl, rfl, rfl, rfl, rfl, rfl, trivial⟩ ⟨by kernel_rfl, rfl, trivial⟩) ?_
  rintro ⟨i, us⟩ ⟨hi, hus, hU⟩
  try dsimp only at hi hus hU ⊢
  by_cases hil : i < l.length
  · have hw := win_flat0 sbjD_len l i 8 hil (by decide)
    have hsm : l[i] ∈ l := List.getElem_mem hil
    obtain ⟨s, hse⟩ : ∃ s, l[i] = s := ⟨_, rfl⟩
    rw [hse] at hw hsm
    have hlg := large_A (d1P d p) s (large_bnd hok hpm hsm)
    by_cases hlr : 600 < largeN (d1P d p) s
    · rw [decide_eq_true hlr] at hlg
      repeat ((fail_if_success (refine stopL ?_)); first
        | refine A_seq ?_
        | refine A_block ?_
        | refine R_list ?_
        | refine R_quiet rfl mixed (by kernel_rfl) ?_
        | ((first | apply O_y rfl rfl rfl | apply Q_y rfl rfl rfl); (first | exact R_addN rfl rfl rfl | exact R_subN rfl rfl rfl | (first | exact q_1 | exact q_2 | exact q_3 | exact q_4 | exact R_loadi tabOk rfl rfl rfl rfl (by first | exact hw | rfl) rfl rfl | exact q_6 | exact q_7 | exact q_8 | exact q_9 | exact q_10 | exact q_11 | exact q_12 | exact q_13 | exact q_14 | exact q_15 | exact q_16 | exact q_17 | exact q_18 | exact q_19 | exact q_20 | exact q_21 | exact q_22 | exact q_23 | exact q_24 | (exact R_index (j := i) tabOk rfl rfl rfl rfl rfl rfl hil))))
        | refine O_nil ?_
        | refine Q_nil ?_
        | refine q_j ?_
        | refine q_k ?_
        | refine q_d ?_
        | refine q_a ?_
        | refine q_b ?_
        | refine A_ct rfl ?_
        | refine A_cf rfl ?_
        | refine A_skip ?_
        | refine A_exit ?_
        | refine A_ret ?_
        | refine q_l ?_
        | refine q_m ?_
        | refine q_n ?_
        | refine q_h ?_
        | refine q_o ?_
        | refine q_e ?_
        | refine q_f ?_
        | refine q_g ?_
        | (refine Q_see (t := 113) (c' := dvcA (d1P d p)) rfl (see_dv d p) ?_; refine Q_c rfl rfl rfl rfl rfl hlg rfl (fun _ _ _ => val_mk _ _ _ _ _ rfl rfl) ?_))
      exact X_retW AWk.refl rfl (h2 := []) trivial ⟨rfl, rfl⟩
    rw [decide_eq_false hlr] at hlg
    obtain ⟨okr, ms, hrv, hml, hmi, hmn⟩ := run_marks d p hR s
    have hru := run_A (d1P d p) p.nm s (ok_large hok hpm hsm hlr us).1
    rw [hrv] at hru
    try dsimp only at hru
    repeat ((fail_if_success (refine stopL ?_)); (fail_if_success (refine stopR ?_)); first
      | refine A_seq ?_
      | refine A_block ?_
      | refine R_list ?_
      | refine R_quiet rfl mixed (by kernel_rfl) ?_
      | ((first | apply O_y rfl rfl rfl | apply Q_y rfl rfl rfl); (first | exact R_addN rfl rfl rfl | exact R_subN rfl rfl rfl | (first | exact q_1 | exact q_2 | exact q_3 | exact q_4 | exact R_loadi tabOk rfl rfl rfl rfl (by first | exact hw | rfl) rfl rfl | exact q_6 | exact q_7 | exact q_8 | exact q_9 | exact q_10 | exact q_11 | exact q_12 | exact q_13 | exact q_14 | exact q_15 | exact q_16 | exact q_17 | exact q_18 | exact q_19 | exact q_20 | exact q_21 | exact q_22 | exact q_23 | exact q_24 | (exact R_index (j := i) tabOk rfl rfl rfl rfl rfl rfl hil))))
      | refine O_nil ?_
      | refine Q_nil ?_
      | refine q_j ?_
      | refine q_k ?_
      | refine q_d ?_
      | refine q_a ?_
      | refine q_b ?_
      | refine A_ct rfl ?_
      | refine A_cf rfl ?_
      | refine A_skip ?_
      | refine A_exit ?_
      | refine A_ret ?_
      | refine q_l ?_
      | refine q_m ?_
      | refine q_n ?_
      | refine q_h ?_
      | refine q_o ?_
      | refine q_e ?_
      | refine q_f ?_
      | refine q_g ?_
      | (refine Q_see (t := 113) (c' := dvcA (d1P d p)) rfl (see_dv d p) ?_; refine Q_c rfl rfl rfl rfl rfl hlg rfl (fun _ _ _ => val_mk _ _ _ _ _ rfl rfl) ?_))
    refine A_cut [(2, .d (.sl (l.flatMap sbjD) l.length)), (3, .ptr 3 0), (7, .iptr (polD p) 0), (8, .row 58), (9, boolA b), (12, natA i), (13, marksA ms), (15, .d (iD 0))] [(3, .var (dvF d p)), (58, usB us)] ?_ ?_
    · refine N_begin [] mixed ?_
      apply N_take (i := 0) rfl (by kernel_rfl) (by kernel_rfl) (by kernel_rfl) (by repeat (first | exact np_post | exact np_rf | apply np_then | apply np_in | apply np_xq)) rfl rfl rfl
      exact q_7
      refine N_weakenS (Wk_seeS (t := 120) (c' := dvcA (d1P d p)) rfl (see_dv d p)) ?_
      apply N_take (i := 1) rfl (by kernel_rfl) (by kernel_rfl) (by kernel_rfl) (by repeat (first | exact np_post | exact np_rf | apply np_then | apply np_in | apply np_xq)) rfl rfl rfl
      exact q_4
      apply N_take (i := 2) rfl (by kernel_rfl) (by kernel_rfl) (by kernel_rfl) (by repeat (first | exact np_post | exact np_rf | apply np_then | apply np_in | apply np_xq)) rfl rfl rfl
      exact q_5
      apply N_take (i := 3) rfl (by kernel_rfl) (by kernel_rfl) (by kernel_rfl) (by repeat (first | exact np_post | exact np_rf | apply np_then | apply np_in | apply np_xq)) rfl rfl rfl
      exact q_1
      apply N_take (i := 4) rfl (by kernel_rfl) (by kernel_rfl) (by kernel_rfl) (by repeat (first | exact np_post | exact np_rf | apply np_then | apply np_in | apply np_xq)) rfl rfl rfl
      exact q_1
      apply N_take (i := 5) rfl (by kernel_rfl) (by kernel_rfl) (by kernel_rfl) (by repeat (first | exact np_post | exact np_rf | apply np_then | apply np_in | apply np_xq)) rfl rfl rfl
      exact R_index (j := i) tabOk rfl rfl rfl rfl rfl rfl hil
      apply N_take (i := 6) rfl (by kernel_rfl) (by kernel_rfl) (by kernel_rfl) (by repeat (first | exact np_post | exact np_rf | apply np_then | apply np_in | apply np_xq)) rfl rfl rfl
      exact R_loadi tabOk rfl rfl rfl rfl hw rfl rfl
      refine N_one (j := 7) (by kernel_rfl) ?_
      refine T_call rfl rfl rfl rfl rfl rfl hru (fun _ => rfl) ?_
      apply N_take (i := 8) rfl (by kernel_rfl) (by kernel_rfl) (by kernel_rfl) (by repeat (first | exact np_post | exact np_rf | apply np_then | apply np_in | apply np_xq)) rfl rfl rfl
      exact q_1
      apply N_take (i := 9) rfl (by kernel_rfl) (by kernel_rfl) (by kernel_rfl) (by repeat (first | exact np_post | exact np_rf | apply np_then | apply np_in | apply np_xq)) rfl rfl rfl
      exact q_14
      apply N_take (i := 10) rfl (by kernel_rfl) (by kernel_rfl) (by kernel_rfl) (by repeat (first | exact np_post | exact np_rf | apply np_then | apply np_in | apply np_xq)) rfl rfl rfl
      exact q_14
      apply N_take (i := 11) rfl (by kernel_rfl) (by kernel_rfl) (by kernel_rfl) (by repeat (first | exact np_post | exact np_rf | apply np_then | apply np_in | apply np_xq)) rfl rfl rfl
      exact q_14
      apply N_take (i := 12) rfl (by kernel_rfl) (by kernel_rfl) (by kernel_rfl) (by repeat (first | exact np_post | exact np_rf | apply np_then | apply np_in | apply np_xq)) rfl rfl rfl
      exact q_2
      apply N_take (i := 13) rfl (by kernel_rfl) (by kernel_rfl) (by kernel_rfl) (by repeat (first | exact np_post | exact np_rf | apply np_then | apply np_in | apply np_xq)) rfl rfl rfl
      exact q_2
      apply N_take (i := 14) rfl (by kernel_rfl) (by kernel_rfl) (by kernel_rfl) (by repeat (first | exact np_post | exact np_rf | apply np_then | apply np_in | apply np_xq)) rfl rfl rfl
      exact q_2
      refine N_done (by kernel_rfl) ?_
      refine q_j ?_
      exact Wk_sel ⟨rfl, rfl, rfl, rfl, rfl, rfl, rfl, rfl, trivial⟩ ⟨rfl, rfl, trivial⟩
    refine A_cut [(2, .d (.sl (l.flatMap sbjD) l.length)), (3, .ptr 3 0), (7, .iptr (polD p) 0), (8, .row 58), (9, boolA b), (12, natA i), (13, marksA ms)] [(3, .var (dvF d p)), (58, usB us)] ?_ ?_
    · by_cases hn0 : p.nm = []
      ·
        repeat ((fail_if_success (refine stopL ?_)); first
          | refine A_seq ?_
          | refine A_block ?_
          | refine R_list ?_
          | refine R_quiet rfl mixed (by kernel_rfl) ?_
          | ((first | apply O_y rfl rfl rfl | apply Q_y rfl rfl rfl); (first | exact R_addN rfl rfl rfl | exact R_subN rfl rfl rfl | (first | exact q_1 | exact q_2 | exact q_3 | exact q_4 | exact q_5 | exact q_6 | exact q_7 | exact q_8 | exact q_9 | exact q_10 | exact q_11 | exact q_12 | exact q_13 | exact q_14 | exact q_15 | exact q_16 | exact q_17 | exact q_18 | exact q_19 | exact q_20 | exact q_21 | exact q_22 | exact q_23 | exact q_24 | (first | exact R_sF rfl rfl rfl rfl (by simp [hn0])))))
          | refine O_nil ?_
          | refine Q_nil ?_
          | refine q_j ?_
          | refine q_k ?_
          | refine q_d ?_
          | refine q_a ?_
          | refine q_b ?_
          | refine A_ct rfl ?_
          | refine A_cf rfl ?_
          | refine A_skip ?_
          | refine A_exit ?_
          | refine A_ret ?_
          | refine q_l ?_
          | refine q_m ?_
          | refine q_n ?_
          | refine q_h ?_
          | refine q_o ?_
          | refine q_e ?_
          | refine q_f ?_
          | refine q_g ?_
          | fail)
        exact Wk_sel ⟨rfl, rfl, rfl, rfl, rfl, rfl, rfl, trivial⟩ ⟨rfl, rfl, trivial⟩
      ·
        repeat ((fail_if_success (refine stopL ?_)); first
          | refine A_seq ?_
          | refine A_block ?_
          | refine R_list ?_
          | refine R_quiet rfl mixed (by kernel_rfl) ?_
          | ((first | apply O_y rfl rfl rfl | apply Q_y rfl rfl rfl); (first | exact R_addN rfl rfl rfl | exact R_subN rfl rfl rfl | (first | exact q_1 | exact q_2 | exact q_3 | exact q_4 | exact q_5 | exact q_6 | exact q_7 | exact q_8 | exact q_9 | exact q_10 | exact q_11 | exact q_12 | exact q_13 | exact q_14 | exact q_15 | exact q_16 | exact q_17 | exact q_18 | exact q_19 | exact q_20 | exact q_21 | exact q_22 | exact q_23 | exact q_24 | (first | exact R_sT rfl rfl rfl rfl (by simp [hn0])))))
          | refine O_nil ?_
          | refine Q_nil ?_
          | refine q_j ?_
          | refine q_k ?_
          | refine q_d ?_
          | refine q_a ?_
          | refine q_b ?_
          | refine A_ct rfl ?_
          | refine A_cf rfl ?_
          | refine A_skip ?_
          | refine A_exit ?_
          | refine A_ret ?_
          | refine q_l ?_
          | refine q_m ?_
          | refine q_n ?_
          | refine q_h ?_
          | refine q_o ?_
          | refine q_e ?_
          | refine q_f ?_
          | refine q_g ?_
          | fail)
        exact Wk_sel ⟨rfl, rfl, rfl, rfl, rfl, rfl, rfl, trivial⟩ ⟨rfl, rfl, trivial⟩
    repeat ((fail_if_success (refine stopL ?_)); first
      | refine A_seq ?_
      | refine A_block ?_
      | refine R_list ?_
      | refine R_quiet rfl mixed (by kernel_rfl) ?_
      | ((first | apply O_y rfl rfl rfl | apply Q_y rfl rfl rfl); (first | exact R_addN rfl rfl rfl | exact R_subN rfl rfl rfl | (first | exact q_1 | exact q_2 | exact q_3 | exact q_4 | exact q_5 | exact q_6 | exact q_7 | exact q_8 | exact q_9 | exact q_10 | exact q_11 | exact q_12 | exact q_13 | exact q_14 | exact q_15 | exact q_16 | exact q_17 | exact q_18 | exact q_19 | exact q_20 | exact q_21 | exact q_22 | exact q_23 | exact q_24 | fail)))
      | refine O_nil ?_
      | refine Q_nil ?_
      | refine q_j ?_
      | refine q_k ?_
      | refine q_d ?_
      | refine q_a ?_
      | refine q_b ?_
      | refine A_ct rfl ?_
      | refine A_cf rfl ?_
      | refine A_skip ?_
      | refine A_exit ?_
      | refine A_ret ?_
      | refine q_l ?_
      | refine q_m ?_
      | refine q_n ?_
      | refine q_h ?_
      | refine q_o ?_
      | refine q_e ?_
      | refine q_f ?_
      | refine q_g ?_
      | fail)
    try refine A_block ?_
    refine A_loop (fun x : Nat × List Bool => [(2, .d (.sl (l.flatMap sbjD) l.length)), (3, .ptr 3 0), (7, .iptr (polD p) 0), (8, .row 58), (9, boolA b), (12, natA i), (13, marksA ms), (16, natA x.1)]) (fun x => [(3, .var (dvF d p)), (58, usB x.2)])
      (fun x => x.1 ≤ ms.length ∧ x.2.length = p.cs.length ∧ (∀ n, useU us n = true → useU x.2 n = true) ∧ ∀ k (h : k < ms.length), k < x.1 → useU x.2 ms[k].1 = true) (fun x => ms.length - x.1)
      (0, us) ⟨Nat.zero_le _, hus, fun _ h => h, fun k h hk => absurd hk (Nat.not_lt_zero _)⟩ (Wk_sel ⟨rfl, rfl, rfl, rfl, rfl, rfl, rfl, rfl, trivial⟩ ⟨rfl, rfl, trivial⟩) ?_
    rintro ⟨k, vs⟩ ⟨hk, hvs, hmo, hV⟩
    try dsimp only at hk hvs hmo hV ⊢
    by_cases hkl : k < ms.length
    · have hwm := win_flat markD_len ms k 0 1 hkl (by decide)
      have hmk := hmi ms[k] (List.getElem_mem hkl)
      have hVn : ∀ j (h : j < ms.length), j < k + 1 → useU (vs.set ms[k].1 true) ms[j].1 = true := fun j h hj => by
        rw [use_set (by omega)]
        rcases Nat.lt_or_ge j k with h2 | h2
        · rw [hV j h h2]; simp
        · obtain rfl : j = k := by omega
          simp
      have hmn2 : ∀ n, useU us n = true → useU (vs.set ms[k].1 true) n = true := fun n hn => by rw [use_set (by omega), hmo n hn]; simp
      obtain ⟨m, hm⟩ : ∃ m, ms[k].1 = m := ⟨_, rfl⟩
      have hwm : win (ms.flatMap markD) (k * 9 + 0) 1 = [iD (m : Int)] := by rw [hwm, ← hm]; rfl
      rw [hm] at hmk hVn hmn2
      have hmv : m < vs.length := by omega
      repeat ((fail_if_success (refine stopL ?_)); first
        | refine A_seq ?_
        | refine A_block ?_
        | refine R_list ?_
        | refine R_quiet rfl mixed (by kernel_rfl) ?_
        | ((first | apply O_y rfl rfl rfl | apply Q_y rfl rfl rfl); (first | exact R_addN rfl rfl rfl | exact R_subN rfl rfl rfl | (first | exact q_1 | exact q_2 | exact q_3 | exact q_4 | exact R_loadi tabOk rfl rfl rfl rfl (by first | exact hwm | rfl) rfl rfl | exact q_6 | exact q_7 | exact q_8 | exact q_9 | exact q_10 | exact q_11 | exact q_12 | exact q_13 | exact q_14 | exact q_15 | exact q_16 | exact q_17 | exact q_18 | exact q_19 | exact q_20 | exact q_21 | exact q_22 | exact q_23 | exact q_24 | (exact R_index (j := k) tabOk rfl rfl rfl rfl rfl rfl hkl))))
        | refine O_nil ?_
        | refine Q_nil ?_
        | refine q_j ?_
        | refine q_k ?_
        | refine q_d ?_
        | refine q_a ?_
        | refine q_b ?_
        | refine A_ct rfl ?_
        | refine A_cf rfl ?_
        | refine A_skip ?_
        | refine A_exit ?_
        | refine A_ret ?_
        | refine q_l ?_
        | refine q_m ?_
        | refine q_n ?_
        | refine q_h ?_
        | refine q_o ?_
        | refine q_e ?_
        | refine q_f ?_
        | refine q_g ?_
        | (refine O_storee tabOk rfl rfl rfl rfl rfl rfl rfl rfl rfl rfl (by rw [List.length_map]; omega) (by omega) ?_))
      exact ⟨(k + 1, vs.set m true), ⟨hkl, by (try dsimp only); rw [List.length_set]; exact hvs, hmn2, hVn⟩, by (try dsimp only); omega, Wk_sel ⟨rfl, rfl, rfl, rfl, rfl, rfl, rfl, rfl, trivial⟩ ⟨rfl, congrArg some (us_set hmv), trivial⟩⟩
    obtain rfl : k = ms.length := by omega
    repeat ((fail_if_success (refine stopL ?_)); first
      | refine A_seq ?_
      | refine A_block ?_
      | refine R_list ?_
      | refine R_quiet rfl mixed (by kernel_rfl) ?_
      | ((first | apply O_y rfl rfl rfl | apply Q_y rfl rfl rfl); (first | exact R_addN rfl rfl rfl | exact R_subN rfl rfl rfl | (first | exact q_1 | exact q_2 | exact q_3 | exact q_4 | exact q_5 | exact q_6 | exact q_7 | exact q_8 | exact q_9 | exact q_10 | exact q_11 | exact q_12 | exact q_13 | exact q_14 | exact q_15 | exact q_16 | exact q_17 | exact q_18 | exact q_19 | exact q_20 | exact q_21 | exact q_22 | exact q_23 | exact q_24 | fail)))
      | refine O_nil ?_
      | refine Q_nil ?_
      | refine q_j ?_
      | refine q_k ?_
      | refine q_d ?_
      | refine q_a ?_
      | refine q_b ?_
      | refine A_ct rfl ?_
      | refine A_cf rfl ?_
      | refine A_skip ?_
      | refine A_exit ?_
      | refine A_ret ?_
      | refine q_l ?_
      | refine q_m ?_
      | refine q_n ?_
      | refine q_h ?_
      | refine q_o ?_
      | refine q_e ?_
      | refine q_f ?_
      | refine q_g ?_
      | fail)
    refine ⟨(i + 1, vs), ⟨hil, hvs, fun j h hj => ?_⟩, by (try dsimp only); omega, Wk_sel ⟨rfl, rfl, rfl, rfl, rfl, rfl, trivial⟩ ⟨rfl, rfl, trivial⟩⟩
    rcases Nat.lt_or_ge j i with h2 | h2
    · obtain ⟨g1, g2⟩ := hU j h h2
      exact ⟨g1, fun h0 m hm => hmo _ (g2 h0 m hm)⟩
    · obtain rfl : j = i := by omega
      rw [hse]
      refine ⟨hlr, fun h0 m hm => ?_⟩
      rw [← hmn h0] at hm
      obtain ⟨q, hq, rfl⟩ := List.getElem_of_mem hm
      exact hV q hq hq
  obtain rfl : i = l.length := by omega
  have hU2 : ∀ s ∈ l, ¬ 600 < largeN (d1P d p) s ∧ (p.nm ≠ [] → ∀ m ∈ (runP d p s).2.2, useU us m.1 = true) := fun s hs => by
    obtain ⟨i, hi, rfl⟩ := List.getElem_of_mem hs
    exact hU i hi hi
  clear hU hi
  repeat ((fail_if_success (refine stopL ?_)); first
    | refine A_seq ?_
    | refine A_block ?_
    | refine R_list ?_
    | refine R_quiet rfl mixed (by kernel_rfl) ?_
    | ((first | apply O_y rfl rfl rfl | apply Q_y rfl rfl rfl); (first | exact R_addN rfl rfl rfl | exact R_subN rfl rfl rfl | (first | exact q_1 | exact q_2 | exact q_3 | exact q_4 | exact q_5 | exact q_6 | exact q_7 | exact q_8 | exact q_9 | exact q_10 | exact q_11 | exact q_12 | exact q_13 | exact q_14 | exact q_15 | exact q_16 | exact q_17 | exact q_18 | exact q_19 | exact q_20 | exact q_21 | exact q_22 | exact q_23 | exact q_24 | fail)))
    | refine O_nil ?_
    | refine Q_nil ?_
    | refine q_j ?_
    | refine q_k ?_
    | refine q_d ?_
    | refine q_a ?_
    | refine q_b ?_
    | refine A_ct rfl ?_
    | refine A_cf rfl ?_
    | refine A_skip ?_
    | refine A_exit ?_
    | refine A_ret ?_
    | refine q_l ?_
    | refine q_m ?_
    | refine q_n ?_
    | refine q_h ?_
    | refine q_o ?_
    | refine q_e ?_
    | refine q_f ?_
    | refine q_g ?_
    | fail)
  try refine A_block ?_
  refine A_weaken (Wk_nilC (b := 17) (id := 950) (i := 1) 46 15 rfl rfl rfl rfl) ?_
  refine A_loop (fun k : Nat => [(2, .d (.sl (l.flatMap sbjD) l.length)), (3, .ptr 3 0), (7, .iptr (polD p) 0), (8, .row 58), (9, boolA b), (17, .ptr 17 0), (18, natA k)]) (fun k => [(3, .var (dvF d p)), (58, usB us), (17, .var [.d (sD [108, 101, 115, 115]), .row 950, .d (bD p.dft)]), (950, clB (keepU (useU us) 0 (p.cs.take k)))])
    (fun k => k ≤ p.cs.length) (fun k => p.cs.length - k) 0 (Nat.zero_le _) (Wk_sel ⟨rfl, rfl, rfl, rfl, rfl, rfl, rfl, trivial⟩ ⟨rfl, rfl, by kernel_rfl, rfl, trivial⟩) ?_
  intro k hk
  try dsimp only
  by_cases hkl : k < p.cs.length
  · have hw := win_flat0 clsD_len p.cs k 15 hkl (by decide)
    have hkv : k < us.length := by omega
    have hwu := us_win hkv
    have hkp : (keepU (useU us) 0 (p.cs.take k)).length ≤ 1048576 := by
      have := (keep_sub (useU us) (p.cs.take k) 0).length_le
      rw [List.length_take] at this
      omega
    have hsn : keepU (useU us) 0 (p.cs.take (k + 1)) = keepU (useU us) 0 (p.cs.take k) ++ (if us[k] = true then [p.cs[k]] else []) := by
      rw [List.take_succ_eq_append_getElem hkl, keep_snoc, List.length_take, Nat.min_eq_left (by omega), Nat.zero_add, use_get hkv]
    obtain ⟨c, hc⟩ : ∃ c, p.cs[k] = c := ⟨_, rfl⟩
    rw [hc] at hw hsn
    obtain ⟨ub, hub⟩ : ∃ ub, us[k] = ub := ⟨_, rfl⟩
    rw [hub] at hwu hsn
    obtain ⟨K, hK⟩ : ∃ K, keepU (useU us) 0 (p.cs.take k) = K := ⟨_, rfl⟩
    rw [hK] at hkp hsn ⊢
    have hend : ∀ K2, keepU (useU us) 0 (p.cs.take (k + 1)) = K2 → look [(950, clB K2)] 950 = some (clB (keepU (useU us) 0 (p.cs.take (k + 1)))) := fun K2 h => by rw [h]; rfl
    cases ub with
    | false =>
      rw [if_neg (by decide), List.append_nil] at hsn
      repeat ((fail_if_success (refine stopL ?_)); first
        | refine A_seq ?_
        | refine A_block ?_
        | refine R_list ?_
        | refine R_quiet rfl mixed (by kernel_rfl) ?_
        | ((first | apply O_y rfl rfl rfl | apply Q_y rfl rfl rfl); (first | exact R_addN rfl rfl rfl | exact R_subN rfl rfl rfl | (first | exact q_1 | exact q_2 | exact q_3 | exact q_4 | exact q_5 | exact q_6 | exact q_7 | exact q_8 | exact q_9 | exact q_10 | exact q_11 | exact q_12 | exact q_13 | exact q_14 | exact q_15 | exact q_16 | exact q_17 | exact q_18 | exact q_19 | exact q_20 | exact q_21 | exact q_22 | exact q_23 | exact q_24 | (exact R_loade tabOk rfl rfl rfl rfl rfl rfl hwu rfl rfl))))
        | refine O_nil ?_
        | refine Q_nil ?_
        | refine q_j ?_
        | refine q_k ?_
        | refine q_d ?_
        | refine q_a ?_
        | refine q_b ?_
        | refine A_ct rfl ?_
        | refine A_cf rfl ?_
        | refine A_skip ?_
        | refine A_exit ?_
        | refine A_ret ?_
        | refine q_l ?_
        | refine q_m ?_
        | refine q_n ?_
        | refine q_h ?_
        | refine q_o ?_
        | refine q_e ?_
        | refine q_f ?_
        | refine q_g ?_
        | fail)
      exact ⟨k + 1, hkl, by omega, Wk_sel ⟨rfl, rfl, rfl, rfl, rfl, rfl, rfl, trivial⟩ ⟨rfl, rfl, rfl, by rw [hsn]; rfl, trivial⟩⟩
    | true =>
      rw [if_pos rfl] at hsn
      repeat ((fail_if_success (refine stopL ?_)); first
        | refine A_seq ?_
        | refine A_block ?_
        | refine R_list ?_
        | refine R_quiet rfl mixed (by kernel_rfl) ?_
        | ((first | apply O_y rfl rfl rfl | apply Q_y rfl rfl rfl); (first | exact R_addN rfl rfl rfl | exact R_subN rfl rfl rfl | (first | exact q_1 | exact q_2 | exact q_3 | exact q_4 | exact q_5 | exact q_6 | exact q_7 | exact q_8 | exact q_9 | exact q_10 | exact q_11 | exact q_12 | exact q_13 | exact q_14 | exact q_15 | exact q_16 | exact q_17 | exact q_18 | exact q_19 | exact q_20 | exact q_21 | exact q_22 | exact q_23 | exact q_24 | (exact R_loade tabOk rfl rfl rfl rfl rfl rfl hwu rfl rfl))))
        | refine O_nil ?_
        | refine Q_nil ?_
        | refine q_j ?_
        | refine q_k ?_
        | refine q_d ?_
        | refine q_a ?_
        | refine q_b ?_
        | refine A_ct rfl ?_
        | refine A_cf rfl ?_
        | refine A_skip ?_
        | refine A_exit ?_
        | refine A_ret ?_
        | refine q_l ?_
        | refine q_m ?_
        | refine q_n ?_
        | refine q_h ?_
        | refine q_o ?_
        | refine q_e ?_
        | refine q_f ?_
        | refine q_g ?_
        | fail)
      refine A_cutI [(2, .d (.sl (l.flatMap sbjD) l.length)), (3, .ptr 3 0), (7, .iptr (polD p) 0), (8, .row 58), (9, boolA b), (17, .ptr 17 0), (18, natA k)] [(3, .var (dvF d p)), (58, usB us), (17, .var [.d (sD [108, 101, 115, 115]), .row 950, .d (bD p.dft)]), (950, clB (K ++ [c]))] ?_ ?_
      · refine N_begin [17, 950] mixed ?_
        apply N_take (i := 0) rfl (by kernel_rfl) (by kernel_rfl) (by kernel_rfl) (by repeat (first | exact np_post | exact np_rf | apply np_then | apply np_in | apply np_xq)) rfl rfl rfl
        exact q_8
        apply N_take (i := 2) rfl (by kernel_rfl) (by kernel_rfl) (by kernel_rfl) (by repeat (first | exact np_post | exact np_rf | apply np_then | apply np_in | apply np_xq)) rfl rfl rfl
        exact q_4
        apply N_take (i := 3) rfl (by kernel_rfl) (by kernel_rfl) (by kernel_rfl) (by repeat (first | exact np_post | exact np_rf | apply np_then | apply np_in | apply np_xq)) rfl rfl rfl
        exact q_5
        apply N_take (i := 4) rfl (by kernel_rfl) (by kernel_rfl) (by kernel_rfl) (by repeat (first | exact np_post | exact np_rf | apply np_then | apply np_in | apply np_xq)) rfl rfl rfl
        exact q_1
        apply N_take (i := 5) rfl (by kernel_rfl) (by kernel_rfl) (by kernel_rfl) (by repeat (first | exact np_post | exact np_rf | apply np_then | apply np_in | apply np_xq)) rfl rfl rfl
        exact R_index (j := k) tabOk rfl rfl rfl rfl rfl rfl hkl
        apply N_take (i := 6) rfl (by kernel_rfl) (by kernel_rfl) (by kernel_rfl) (by repeat (first | exact np_post | exact np_rf | apply np_then | apply np_in | apply np_xq)) rfl rfl rfl
        exact R_loadi tabOk rfl rfl rfl rfl hw rfl rfl
        refine N_two (j := 1) (k := 7) (by kernel_rfl) ?_ ?_
        · apply T_yield rfl rfl rfl rfl
          exact q_7
          refine N_one (j := 7) (by kernel_rfl) ?_
          refine T_slice (xs := (clsD c).map .d) (ds := clsD c) tabOk rfl rfl rfl rfl rfl rfl rfl rfl rfl rfl (by kernel_rfl) (by kernel_rfl) ?_
          refine N_one (j := 8) (by kernel_rfl) ?_
          refine T_appR tabOk rfl rfl rfl rfl rfl rfl rfl rfl rfl rfl rfl rfl (Src.row rfl) rfl (by omega) rfl ?_
          apply N_take (i := 9) rfl (by kernel_rfl) (by kernel_rfl) (by kernel_rfl) (by repeat (first | exact np_post | exact np_rf | apply np_then | apply np_in | apply np_xq)) rfl rfl rfl
          exact q_8
          refine N_one (j := 10) (by kernel_rfl) ?_
          refine T_store tabOk rfl rfl rfl rfl rfl rfl rfl rfl rfl rfl rfl rfl rfl ?_
          refine N_done (by kernel_rfl) ?_
          refine q_j ?_
          exact Wk_sel ⟨rfl, rfl, rfl, rfl, rfl, rfl, rfl, trivial⟩ ⟨rfl, rfl, rfl, row_eq (by simp) (by rw [List.flatMap_append]; rfl) rfl, trivial⟩
        · refine T_slice (xs := (clsD c).map .d) (ds := clsD c) tabOk rfl rfl rfl rfl rfl rfl rfl rfl rfl rfl (by kernel_rfl) (by kernel_rfl) ?_
          refine N_one (j := 1) (by kernel_rfl) ?_
          apply T_yield rfl rfl rfl rfl
          exact q_7
          refine N_one (j := 8) (by kernel_rfl) ?_
          refine T_appR tabOk rfl rfl rfl rfl rfl rfl rfl rfl rfl rfl rfl rfl (Src.row rfl) rfl (by omega) rfl ?_
          apply N_take (i := 9) rfl (by kernel_rfl) (by kernel_rfl) (by kernel_rfl) (by repeat (first | exact np_post | exact np_rf | apply np_then | apply np_in | apply np_xq)) rfl rfl rfl
          exact q_8
          refine N_one (j := 10) (by kernel_rfl) ?_
          refine T_store tabOk rfl rfl rfl rfl rfl rfl rfl rfl rfl rfl rfl rfl rfl ?_
          refine N_done (by kernel_rfl) ?_
          refine q_j ?_
          exact Wk_sel ⟨rfl, rfl, rfl, rfl, rfl, rfl, rfl, trivial⟩ ⟨rfl, rfl, rfl, row_eq (by simp) (by rw [List.flatMap_append]; rfl) rfl, trivial⟩
      repeat ((fail_if_success (refine stopL ?_)); first
        | refine A_seq ?_
        | refine A_block ?_
        | refine R_list ?_
        | refine R_quiet rfl mixed (by kernel_rfl) ?_
        | ((first | apply O_y rfl rfl rfl | apply Q_y rfl rfl rfl); (first | exact R_addN rfl rfl rfl | exact R_subN rfl rfl rfl | (first | exact q_1 | exact q_2 | exact q_3 | exact q_4 | exact q_5 | exact q_6 | exact q_7 | exact q_8 | exact q_9 | exact q_10 | exact q_11 | exact q_12 | exact q_13 | exact q_14 | exact q_15 | exact q_16 | exact q_17 | exact q_18 | exact q_19 | exact q_20 | exact q_21 | exact q_22 | exact q_23 | exact q_24 | fail)))
        | refine O_nil ?_
        | refine Q_nil ?_
        | refine q_j ?_
        | refine q_k ?_
        | refine q_d ?_
        | refine q_a ?_
        | refine q_b ?_
        | refine A_ct rfl ?_
        | refine A_cf rfl ?_
        | refine A_skip ?_
        | refine A_exit ?_
        | refine A_ret ?_
        | refine q_l ?_
        | refine q_m ?_
        | refine q_n ?_
        | refine q_h ?_
        | refine q_o ?_
        | refine q_e ?_
        | refine q_f ?_
        | refine q_g ?_
        | fail)
      exact ⟨k + 1, hkl, by omega, Wk_sel ⟨rfl, rfl, rfl, rfl, rfl, rfl, rfl, trivial⟩ ⟨rfl, rfl, rfl, by rw [hsn]; rfl, trivial⟩⟩
  obtain rfl : k = p.cs.length := by omega
  rw [List.take_length]
  refine A_weaken (Wk_freeze (id := 950) rfl) ?_
  refine A_weaken (Wk_sel (e1 := [(2, .d (.sl (l.flatMap sbjD) l.length)), (3, .ptr 3 0), (7, .iptr (polD p) 0), (9, boolA b), (17, .ptr 17 0), (18, natA p.cs.length)]) (h1 := [(3, .var (dvF d p)), (17, .var ((polD (lessP p us)).map .d))]) ⟨rfl, rfl, rfl, rfl, rfl, rfl, trivial⟩ ⟨rfl, rfl, trivial⟩) ?_
  refine A_weaken (Wk_freezeV (id := 17) (ds := polD (lessP p us)) rfl rfl) ?_
  repeat ((fail_if_success (refine stopL ?_)); first
    | refine A_seq ?_
    | refine A_block ?_
    | refine R_list ?_
    | refine R_quiet rfl mixed (by kernel_rfl) ?_
    | ((first | apply O_y rfl rfl rfl | apply Q_y rfl rfl rfl); (first | exact R_addN rfl rfl rfl | exact R_subN rfl rfl rfl | (first | exact q_1 | exact q_2 | exact q_3 | exact q_4 | exact q_5 | exact q_6 | exact q_7 | exact q_8 | exact q_9 | exact q_10 | exact q_11 | exact q_12 | exact q_13 | exact q_14 | exact q_15 | exact q_16 | exact q_17 | exact q_18 | exact q_19 | exact q_20 | exact q_21 | exact q_22 | exact q_23 | exact q_24 | fail)))
    | refine O_nil ?_
    | refine Q_nil ?_
    | refine q_j ?_
    | refine q_k ?_
    | refine q_d ?_
    | refine q_a ?_
    | refine q_b ?_
    | refine A_ct rfl ?_
    | refine A_cf rfl ?_
    | refine A_skip ?_
    | refine A_exit ?_
    | refine A_ret ?_
    | refine q_l ?_
    | refine q_m ?_
    | refine q_n ?_
    | refine q_h ?_
    | refine q_o ?_
    | refine q_e ?_
    | refine q_f ?_
    | refine q_g ?_
    | fail)
  refine O_slice (xs := (polD (lessP p us)).map .d) (ds := polD (lessP p us)) tabOk rfl rfl rfl rfl rfl rfl rfl rfl rfl (by kernel_rfl) (by kernel_rfl) ?_
  refine O_appF tabOk rfl rfl rfl rfl rfl rfl rfl rfl rfl rfl (Src.row rfl) rfl (by decide) rfl (by decide) ?_
  (apply O_y rfl rfl rfl; (exact q_8))
  refine O_store tabOk rfl rfl rfl rfl rfl rfl rfl (by kernel_rfl) rfl (by kernel_rfl) (by kernel_rfl) ?_
  refine O_nil ?_
  refine q_j ?_
  refine A_weaken (Wk_freeze (id := 195) rfl) ?_
  refine A_weaken (Wk_sel (e1 := [(2, .d (.sl (l.flatMap sbjD) l.length)), (3, .ptr 3 0), (7, .iptr (polD p) 0), (9, boolA b)]) (h1 := [(3, .var ((dvcD (d2P d p us)).map .d))]) ⟨rfl, rfl, rfl, rfl, trivial⟩ ⟨by kernel_rfl, trivial⟩) ?_
  refine A_weaken (Wk_freezeV (id := 3) (ds := dvcD (d2P d p us)) rfl rfl) ?_
  repeat ((fail_if_success (refine stopL ?_)); first
    | refine A_seq ?_
    | refine A_block ?_
    | refine R_list ?_
    | refine R_quiet rfl mixed (by kernel_rfl) ?_
    | ((first | apply O_y rfl rfl rfl | apply Q_y rfl rfl rfl); (first | exact R_addN rfl rfl rfl | exact R_subN rfl rfl rfl | (first | exact q_1 | exact q_2 | exact q_3 | exact q_4 | exact q_5 | exact q_6 | exact q_7 | exact q_8 | exact q_9 | exact q_10 | exact q_11 | exact q_12 | exact q_13 | exact q_14 | exact q_15 | exact q_16 | exact q_17 | exact q_18 | exact q_19 | exact q_20 | exact q_21 | exact q_22 | exact q_23 | exact q_24 | fail)))
    | refine O_nil ?_
    | refine Q_nil ?_
    | refine q_j ?_
    | refine q_k ?_
    | refine q_d ?_
    | refine q_a ?_
    | refine q_b ?_
    | refine A_ct rfl ?_
    | refine A_cf rfl ?_
    | refine A_skip ?_
    | refine A_exit ?_
    | refine A_ret ?_
    | refine q_l ?_
    | refine q_m ?_
    | refine q_n ?_
    | refine q_h ?_
    | refine q_o ?_
    | refine q_e ?_
    | refine q_f ?_
    | refine q_g ?_
    | fail)
  try refine A_block ?_
  refine A_loop (fun i : Nat => [(2, .d (.sl (l.flatMap sbjD) l.length)), (3, .iptr (dvcD (d2P d p us)) 0), (7, .iptr (polD p) 0), (9, boolA b), (19, natA i)]) (fun _ => []) (fun i => i ≤ l.length) (fun i => l.length - i) 0 (Nat.zero_le _) (Wk_sel ⟨rfl, rfl, rfl, rfl, rfl, trivial⟩ trivial) ?_
  intro i hi
  try dsimp only
  by_cases hil : i < l.length
  · by_cases hn0 : p.nm = []
    · have hf0 : (!decide (p.nm = [])) = false := by simp [hn0]
      repeat ((fail_if_success (refine stopL ?_)); first
        | refine A_seq ?_
        | refine A_block ?_
        | refine R_list ?_
        | refine R_quiet rfl mixed (by kernel_rfl) ?_
        | ((first | apply O_y rfl rfl rfl | apply Q_y rfl rfl rfl); (first | exact R_addN rfl rfl rfl | exact R_subN rfl rfl rfl | (first | exact q_1 | exact q_2 | exact q_3 | exact q_4 | exact q_5 | exact q_6 | exact q_7 | exact q_8 | exact q_9 | exact q_10 | exact q_11 | exact q_12 | exact q_13 | exact q_14 | exact q_15 | exact q_16 | exact q_17 | exact q_18 | exact q_19 | exact q_20 | exact q_21 | exact q_22 | exact q_23 | exact q_24 | (exact R_sF rfl rfl rfl rfl hf0))))
        | refine O_nil ?_
        | refine Q_nil ?_
        | refine q_j ?_
        | refine q_k ?_
        | refine q_d ?_
        | refine q_a ?_
        | refine q_b ?_
        | refine A_ct rfl ?_
        | refine A_cf rfl ?_
        | refine A_skip ?_
        | refine A_exit ?_
        | refine A_ret ?_
        | refine q_l ?_
        | refine q_m ?_
        | refine q_n ?_
        | refine q_h ?_
        | refine q_o ?_
        | refine q_e ?_
        | refine q_f ?_
        | refine q_g ?_
        | fail)
      exact X_retW AWk.refl rfl (h2 := []) trivial ⟨rfl, rfl⟩
    by_cases hn1 : p.nm = [108, 101, 115, 115]
    · have hf0 : (!decide (p.nm = [])) = true := by simp [hn0]
      have hf1 : (!decide (p.nm = [108, 101, 115, 115])) = false := by simp [hn1]
      repeat ((fail_if_success (refine stopL ?_)); first
        | refine A_seq ?_
        | refine A_block ?_
        | refine R_list ?_
        | refine R_quiet rfl mixed (by kernel_rfl) ?_
        | ((first | apply O_y rfl rfl rfl | apply Q_y rfl rfl rfl); (first | exact R_addN rfl rfl rfl | exact R_subN rfl rfl rfl | (first | exact q_1 | exact q_2 | exact q_3 | exact q_4 | exact q_5 | exact q_6 | exact q_7 | exact q_8 | exact q_9 | exact q_10 | exact q_11 | exact q_12 | exact q_13 | exact q_14 | exact q_15 | exact q_16 | exact q_17 | exact q_18 | exact q_19 | exact q_20 | exact q_21 | exact q_22 | exact q_23 | exact q_24 | (first | exact R_sT rfl rfl rfl rfl hf0 | exact R_sF rfl rfl rfl rfl hf1))))
        | refine O_nil ?_
        | refine Q_nil ?_
        | refine q_j ?_
        | refine q_k ?_
        | refine q_d ?_
        | refine q_a ?_
        | refine q_b ?_
        | refine A_ct rfl ?_
        | refine A_cf rfl ?_
        | refine A_skip ?_
        | refine A_exit ?_
        | refine A_ret ?_
        | refine q_l ?_
        | refine q_m ?_
        | refine q_n ?_
        | refine q_h ?_
        | refine q_o ?_
        | refine q_e ?_
        | refine q_f ?_
        | refine q_g ?_
        | fail)
      exact X_retW AWk.refl rfl (h2 := []) trivial ⟨rfl, rfl⟩
    have hw := win_flat0 sbjD_len l i 8 hil (by decide)
    have hsm : l[i] ∈ l := List.getElem_mem hil
    obtain ⟨s, hse⟩ : ∃ s, l[i] = s := ⟨_, rfl⟩
    rw [hse] at hw hsm
    obtain ⟨g1, g2⟩ := hU2 s hsm
    have hoa := (ok_large hok hpm hsm g1 us).2
    obtain ⟨A, ok, a1, a2, a3, a4, a5⟩ := nothing_law hR us hoa hn0 hn1 (g2 hn0)
    have c1 := apply_A (d2P d p us) p.nm s hoa
    have c2 := apply_A (d2P d p us) [108, 101, 115, 115] s hoa
    rw [a1] at c1
    rw [a2] at c2
    try dsimp only at c1 c2
    have hsa := same16_A A (by omega) (by omega)
    clear a1 a2
    have hf0 : (!decide (p.nm = [])) = true := by simp [hn0]
    have hf1 : (!decide (p.nm = [108, 101, 115, 115])) = true := by simp [hn1]
    repeat ((fail_if_success (refine stopL ?_)); (fail_if_success (refine stopR ?_)); first
      | refine A_seq ?_
      | refine A_block ?_
      | refine R_list ?_
      | refine R_quiet rfl mixed (by kernel_rfl) ?_
      | ((first | apply O_y rfl rfl rfl | apply Q_y rfl rfl rfl); (first | exact R_addN rfl rfl rfl | exact R_subN rfl rfl rfl | (first | exact q_1 | exact q_2 | exact q_3 | exact q_4 | exact q_5 | exact q_6 | exact q_7 | exact q_8 | exact q_9 | exact q_10 | exact q_11 | exact q_12 | exact q_13 | exact q_14 | exact q_15 | exact q_16 | exact q_17 | exact q_18 | exact q_19 | exact q_20 | exact q_21 | exact q_22 | exact q_23 | exact q_24 | (first | exact R_sT rfl rfl rfl rfl hf0 | exact R_sT rfl rfl rfl rfl hf1))))
      | refine O_nil ?_
      | refine Q_nil ?_
      | refine q_j ?_
      | refine q_k ?_
      | refine q_d ?_
      | refine q_a ?_
      | refine q_b ?_
      | refine A_ct rfl ?_
      | refine A_cf rfl ?_
      | refine A_skip ?_
      | refine A_exit ?_
      | refine A_ret ?_
      | refine q_l ?_
      | refine q_m ?_
      | refine q_n ?_
      | refine q_h ?_
      | refine q_o ?_
      | refine q_e ?_
      | refine q_f ?_
      | refine q_g ?_
      | fail)
    refine A_cut [(2, .d (.sl (l.flatMap sbjD) l.length)), (3, .iptr (dvcD (d2P d p us)) 0), (7, .iptr (polD p) 0), (9, boolA b), (19, natA i), (20, .ptr 20 0), (21, boolA ok), (22, .d (iD 0))] [(20, .var ((sbjD A).map .d))] ?_ ?_
    · refine N_begin [20] mixed ?_
      apply N_take (i := 0) rfl (by kernel_rfl) (by kernel_rfl) (by kernel_rfl) (by repeat (first | exact np_post | exact np_rf | apply np_then | apply np_in | apply np_xq)) rfl rfl rfl
      exact q_5
      apply N_take (i := 1) rfl (by kernel_rfl) (by kernel_rfl) (by kernel_rfl) (by repeat (first | exact np_post | exact np_rf | apply np_then | apply np_in | apply np_xq)) rfl rfl rfl
      exact q_4
      apply N_take (i := 2) rfl (by kernel_rfl) (by kernel_rfl) (by kernel_rfl) (by repeat (first | exact np_post | exact np_rf | apply np_then | apply np_in | apply np_xq)) rfl rfl rfl
      exact q_5
      apply N_take (i := 3) rfl (by kernel_rfl) (by kernel_rfl) (by kernel_rfl) (by repeat (first | exact np_post | exact np_rf | apply np_then | apply np_in | apply np_xq)) rfl rfl rfl
      exact q_1
      apply N_take (i := 4) rfl (by kernel_rfl) (by kernel_rfl) (by kernel_rfl) (by repeat (first | exact np_post | exact np_rf | apply np_then | apply np_in | apply np_xq)) rfl rfl rfl
      exact q_1
      apply N_take (i := 5) rfl (by kernel_rfl) (by kernel_rfl) (by kernel_rfl) (by repeat (first | exact np_post | exact np_rf | apply np_then | apply np_in | apply np_xq)) rfl rfl rfl
      exact R_index (j := i) tabOk rfl rfl rfl rfl rfl rfl hil
      apply N_take (i := 6) rfl (by kernel_rfl) (by kernel_rfl) (by kernel_rfl) (by repeat (first | exact np_post | exact np_rf | apply np_then | apply np_in | apply np_xq)) rfl rfl rfl
      exact R_loadi tabOk rfl rfl rfl rfl hw rfl rfl
      refine N_two (j := 7) (k := 12) (by kernel_rfl) ?_ ?_
      · refine T_call rfl rfl rfl rfl rfl rfl c1 (fun _ => rfl) ?_
        apply N_take (i := 8) rfl (by kernel_rfl) (by kernel_rfl) (by kernel_rfl) (by repeat (first | exact np_post | exact np_rf | apply np_then | apply np_in | apply np_xq)) rfl rfl rfl
        exact q_1
        apply N_take (i := 9) rfl (by kernel_rfl) (by kernel_rfl) (by kernel_rfl) (by repeat (first | exact np_post | exact np_rf | apply np_then | apply np_in | apply np_xq)) rfl rfl rfl
        exact q_14
        apply N_take (i := 10) rfl (by kernel_rfl) (by kernel_rfl) (by kernel_rfl) (by repeat (first | exact np_post | exact np_rf | apply np_then | apply np_in | apply np_xq)) rfl rfl rfl
        exact q_14
        apply N_take (i := 11) rfl (by kernel_rfl) (by kernel_rfl) (by kernel_rfl) (by repeat (first | exact np_post | exact np_rf | apply np_then | apply np_in | apply np_xq)) rfl rfl rfl
        exact q_14
        refine N_one (j := 12) (by kernel_rfl) ?_
        refine T_alloc tabOk rfl rfl rfl rfl rfl rfl rfl ?_
        refine N_one (j := 13) (by kernel_rfl) ?_
        refine T_store tabOk rfl rfl rfl rfl rfl rfl rfl rfl rfl rfl rfl rfl rfl ?_
        apply N_take (i := 14) rfl (by kernel_rfl) (by kernel_rfl) (by kernel_rfl) (by repeat (first | exact np_post | exact np_rf | apply np_then | apply np_in | apply np_xq)) rfl rfl rfl
        exact q_2
        apply N_take (i := 15) rfl (by kernel_rfl) (by kernel_rfl) (by kernel_rfl) (by repeat (first | exact np_post | exact np_rf | apply np_then | apply np_in | apply np_xq)) rfl rfl rfl
        exact q_2
        refine N_done (by kernel_rfl) ?_
        refine q_j ?_
        exact Wk_sel ⟨rfl, rfl, rfl, rfl, rfl, rfl, rfl, rfl, trivial⟩ ⟨rfl, trivial⟩
      · refine T_alloc tabOk rfl rfl rfl rfl rfl rfl rfl ?_
        refine N_one (j := 7) (by kernel_rfl) ?_
        refine T_call rfl rfl rfl rfl rfl rfl c1 (fun _ => rfl) ?_
        apply N_take (i := 8) rfl (by kernel_rfl) (by kernel_rfl) (by kernel_rfl) (by repeat (first | exact np_post | exact np_rf | apply np_then | apply np_in | apply np_xq)) rfl rfl rfl
        exact q_1
        apply N_take (i := 9) rfl (by kernel_rfl) (by kernel_rfl) (by kernel_rfl) (by repeat (first | exact np_post | exact np_rf | apply np_then | apply np_in | apply np_xq)) rfl rfl rfl
        exact q_14
        apply N_take (i := 10) rfl (by kernel_rfl) (by kernel_rfl) (by kernel_rfl) (by repeat (first | exact np_post | exact np_rf | apply np_then | apply np_in | apply np_xq)) rfl rfl rfl
        exact q_14
        apply N_take (i := 11) rfl (by kernel_rfl) (by kernel_rfl) (by kernel_rfl) (by repeat (first | exact np_post | exact np_rf | apply np_then | apply np_in | apply np_xq)) rfl rfl rfl
        exact q_14
        refine N_one (j := 13) (by kernel_rfl) ?_
        refine T_store tabOk rfl rfl rfl rfl rfl rfl rfl rfl rfl rfl rfl rfl rfl ?_
        apply N_take (i := 14) rfl (by kernel_rfl) (by kernel_rfl) (by kernel_rfl) (by repeat (first | exact np_post | exact np_rf | apply np_then | apply np_in | apply np_xq)) rfl rfl rfl
        exact q_2
        apply N_take (i := 15) rfl (by kernel_rfl) (by kernel_rfl) (by kernel_rfl) (by repeat (first | exact np_post | exact np_rf | apply np_then | apply np_in | apply np_xq)) rfl rfl rfl
        exact q_2
        refine N_done (by kernel_rfl) ?_
        refine q_j ?_
        exact Wk_sel ⟨rfl, rfl, rfl, rfl, rfl, rfl, rfl, rfl, trivial⟩ ⟨rfl, trivial⟩
    refine A_cut [(2, .d (.sl (l.flatMap sbjD) l.length)), (3, .iptr (dvcD (d2P d p us)) 0), (7, .iptr (polD p) 0), (9, boolA b), (19, natA i), (20, .ptr 20 0), (21, boolA ok), (22, .d (iD 0)), (23, .ptr 23 0), (24, boolA ok), (25, .d (iD 0))] [(20, .var ((sbjD A).map .d)), (23, .var ((sbjD A).map .d))] ?_ ?_
    · refine N_begin [23] mixed ?_
      apply N_take (i := 0) rfl (by kernel_rfl) (by kernel_rfl) (by kernel_rfl) (by repeat (first | exact np_post | exact np_rf | apply np_then | apply np_in | apply np_xq)) rfl rfl rfl
      exact q_5
      apply N_take (i := 1) rfl (by kernel_rfl) (by kernel_rfl) (by kernel_rfl) (by repeat (first | exact np_post | exact np_rf | apply np_then | apply np_in | apply np_xq)) rfl rfl rfl
      exact q_1
      apply N_take (i := 2) rfl (by kernel_rfl) (by kernel_rfl) (by kernel_rfl) (by repeat (first | exact np_post | exact np_rf | apply np_then | apply np_in | apply np_xq)) rfl rfl rfl
      exact q_1
      apply N_take (i := 3) rfl (by kernel_rfl) (by kernel_rfl) (by kernel_rfl) (by repeat (first | exact np_post | exact np_rf | apply np_then | apply np_in | apply np_xq)) rfl rfl rfl
      exact R_index (j := i) tabOk rfl rfl rfl rfl rfl rfl hil
      apply N_take (i := 4) rfl (by kernel_rfl) (by kernel_rfl) (by kernel_rfl) (by repeat (first | exact np_post | exact np_rf | apply np_then | apply np_in | apply np_xq)) rfl rfl rfl
      exact R_loadi tabOk rfl rfl rfl rfl hw rfl rfl
      refine N_two (j := 5) (k := 10) (by kernel_rfl) ?_ ?_
      · refine T_call rfl rfl rfl rfl rfl rfl c2 (fun _ => rfl) ?_
        apply N_take (i := 6) rfl (by kernel_rfl) (by kernel_rfl) (by kernel_rfl) (by repeat (first | exact np_post | exact np_rf | apply np_then | apply np_in | apply np_xq)) rfl rfl rfl
        exact q_1
        apply N_take (i := 7) rfl (by kernel_rfl) (by kernel_rfl) (by kernel_rfl) (by repeat (first | exact np_post | exact np_rf | apply np_then | apply np_in | apply np_xq)) rfl rfl rfl
        exact q_14
        apply N_take (i := 8) rfl (by kernel_rfl) (by kernel_rfl) (by kernel_rfl) (by repeat (first | exact np_post | exact np_rf | apply np_then | apply np_in | apply np_xq)) rfl rfl rfl
        exact q_14
        apply N_take (i := 9) rfl (by kernel_rfl) (by kernel_rfl) (by kernel_rfl) (by repeat (first | exact np_post | exact np_rf | apply np_then | apply np_in | apply np_xq)) rfl rfl rfl
        exact q_14
        refine N_one (j := 10) (by kernel_rfl) ?_
        refine T_alloc tabOk rfl rfl rfl rfl rfl rfl rfl ?_
        refine N_one (j := 11) (by kernel_rfl) ?_
        refine T_store tabOk rfl rfl rfl rfl rfl rfl rfl rfl rfl rfl rfl rfl rfl ?_
        apply N_take (i := 12) rfl (by kernel_rfl) (by kernel_rfl) (by kernel_rfl) (by repeat (first | exact np_post | exact np_rf | apply np_then | apply np_in | apply np_xq)) rfl rfl rfl
        exact q_2
        apply N_take (i := 13) rfl (by kernel_rfl) (by kernel_rfl) (by kernel_rfl) (by repeat (first | exact np_post | exact np_rf | apply np_then | apply np_in | apply np_xq)) rfl rfl rfl
        exact q_2
        refine N_done (by kernel_rfl) ?_
        refine q_j ?_
        exact Wk_sel ⟨rfl, rfl, rfl, rfl, rfl, rfl, rfl, rfl, rfl, rfl, rfl, trivial⟩ ⟨rfl, rfl, trivial⟩
      · refine T_alloc tabOk rfl rfl rfl rfl rfl rfl rfl ?_
        refine N_one (j := 5) (by kernel_rfl) ?_
        refine T_call rfl rfl rfl rfl rfl rfl c2 (fun _ => rfl) ?_
        apply N_take (i := 6) rfl (by kernel_rfl) (by kernel_rfl) (by kernel_rfl) (by repeat (first | exact np_post | exact np_rf | apply np_then | apply np_in | apply np_xq)) rfl rfl rfl
        exact q_1
        apply N_take (i := 7) rfl (by kernel_rfl) (by kernel_rfl) (by kernel_rfl) (by repeat (first | exact np_post | exact np_rf | apply np_then | apply np_in | apply np_xq)) rfl rfl rfl
        exact q_14
        apply N_take (i := 8) rfl (by kernel_rfl) (by kernel_rfl) (by kernel_rfl) (by repeat (first | exact np_post | exact np_rf | apply np_then | apply np_in | apply np_xq)) rfl rfl rfl
        exact q_14
        apply N_take (i := 9) rfl (by kernel_rfl) (by kernel_rfl) (by kernel_rfl) (by repeat (first | exact np_post | exact np_rf | apply np_then | apply np_in | apply np_xq)) rfl rfl rfl
        exact q_14
        refine N_one (j := 11) (by kernel_rfl) ?_
        refine T_store tabOk rfl rfl rfl rfl rfl rfl rfl rfl rfl rfl rfl rfl rfl ?_
        apply N_take (i := 12) rfl (by kernel_rfl) (by kernel_rfl) (by kernel_rfl) (by repeat (first | exact np_post | exact np_rf | apply np_then | apply np_in | apply np_xq)) rfl rfl rfl
        exact q_2
        apply N_take (i := 13) rfl (by kernel_rfl) (by kernel_rfl) (by kernel_rfl) (by repeat (first | exact np_post | exact np_rf | apply np_then | apply np_in | apply np_xq)) rfl rfl rfl
        exact q_2
        refine N_done (by kernel_rfl) ?_
        refine q_j ?_
        exact Wk_sel ⟨rfl, rfl, rfl, rfl, rfl, rfl, rfl, rfl, rfl, rfl, rfl, trivial⟩ ⟨rfl, rfl, trivial⟩
    clear c1 c2
    rcases a5 with rfl | ⟨rfl, ap, as_⟩
    ·
      repeat ((fail_if_success (refine stopL ?_)); first
        | refine A_seq ?_
        | refine A_block ?_
        | refine R_list ?_
        | refine R_quiet rfl mixed (by kernel_rfl) ?_
        | ((first | apply O_y rfl rfl rfl | apply Q_y rfl rfl rfl); (first | exact R_addN rfl rfl rfl | exact R_subN rfl rfl rfl | (first | exact q_1 | exact q_2 | exact q_3 | exact q_4 | exact R_loadi tabOk rfl rfl rfl rfl (by first | exact hw | rfl) rfl rfl | exact q_6 | exact q_7 | exact q_8 | exact q_9 | exact q_10 | exact q_11 | exact q_12 | exact q_13 | exact q_14 | exact q_15 | exact q_16 | exact q_17 | exact q_18 | exact q_19 | exact q_20 | exact q_21 | exact q_22 | exact q_23 | exact q_24 | first | exact R_neN rfl rfl rfl | exact R_neB tabOk rfl rfl rfl rfl)))
        | refine O_nil ?_
        | refine Q_nil ?_
        | refine q_j ?_
        | refine q_k ?_
        | refine q_d ?_
        | refine q_a ?_
        | refine q_b ?_
        | refine A_ct rfl ?_
        | refine A_cf rfl ?_
        | refine A_skip ?_
        | refine A_exit ?_
        | refine A_ret ?_
        | refine q_l ?_
        | refine q_m ?_
        | refine q_n ?_
        | refine q_h ?_
        | refine q_o ?_
        | refine q_e ?_
        | refine q_f ?_
        | refine q_g ?_
        | refine Q_c rfl rfl rfl rfl rfl hsa rfl (fun _ _ _ => val_mk _ _ _ _ _ rfl rfl) ?_)
      exact ⟨i + 1, hil, by omega, Wk_sel ⟨rfl, rfl, rfl, rfl, rfl, trivial⟩ trivial⟩
    have hw0 := win_flat sbjD_len l i 0 2 hil (by decide)
    rw [hse] at hw0
    obtain ⟨Ap, Am, At, Apr, Apa, Aco, Ah⟩ := A
    try dsimp only at ap
    subst ap
    cases hbb : b with
    | true =>
      repeat ((fail_if_success (refine stopL ?_)); first
        | refine A_seq ?_
        | refine A_block ?_
        | refine R_list ?_
        | refine R_quiet rfl mixed (by kernel_rfl) ?_
        | ((first | apply O_y rfl rfl rfl | apply Q_y rfl rfl rfl); (first | exact R_addN rfl rfl rfl | exact R_subN rfl rfl rfl | (first | exact q_1 | exact q_2 | exact q_3 | exact q_4 | exact R_loadi tabOk rfl rfl rfl rfl (by first | exact hw | exact hw0 | rfl) rfl rfl | exact q_6 | exact q_7 | exact q_8 | exact q_9 | exact q_10 | exact q_11 | exact q_12 | exact q_13 | exact q_14 | exact q_15 | exact q_16 | exact q_17 | exact q_18 | exact q_19 | exact q_20 | exact q_21 | exact q_22 | exact q_23 | exact q_24 | first | exact R_neN rfl rfl rfl | exact R_neB tabOk rfl rfl rfl rfl | exact R_neMe tabOk noStand rfl rfl rfl rfl rfl rfl rfl (by kernel_rfl) | exact R_index (j := i) tabOk rfl rfl rfl rfl rfl rfl hil)))
        | refine O_nil ?_
        | refine Q_nil ?_
        | refine q_j ?_
        | refine q_k ?_
        | refine q_d ?_
        | refine q_a ?_
        | refine q_b ?_
        | refine A_ct rfl ?_
        | refine A_cf rfl ?_
        | refine A_skip ?_
        | refine A_exit ?_
        | refine A_ret ?_
        | refine q_l ?_
        | refine q_m ?_
        | refine q_n ?_
        | refine q_h ?_
        | refine q_o ?_
        | refine q_e ?_
        | refine q_f ?_
        | refine q_g ?_
        | refine Q_c rfl rfl rfl rfl rfl hsa rfl (fun _ _ _ => val_mk _ _ _ _ _ rfl rfl) ?_)
      exact ⟨i + 1, hil, by omega, Wk_sel ⟨rfl, rfl, rfl, rfl, rfl, trivial⟩ trivial⟩
    | false =>
      have as_ := as_ (by rw [← hb, hbb])
      rw [as_] at hsa ⊢
      repeat ((fail_if_success (refine stopL ?_)); first
        | refine A_seq ?_
        | refine A_block ?_
        | refine R_list ?_
        | refine R_quiet rfl mixed (by kernel_rfl) ?_
        | ((first | apply O_y rfl rfl rfl | apply Q_y rfl rfl rfl); (first | exact R_addN rfl rfl rfl | exact R_subN rfl rfl rfl | (first | exact q_1 | exact q_2 | exact q_3 | exact q_4 | exact R_loadi tabOk rfl rfl rfl rfl (by first | exact hw | exact hw0 | rfl) rfl rfl | exact q_6 | exact q_7 | exact q_8 | exact q_9 | exact q_10 | exact q_11 | exact q_12 | exact q_13 | exact q_14 | exact q_15 | exact q_16 | exact q_17 | exact q_18 | exact q_19 | exact q_20 | exact q_21 | exact q_22 | exact q_23 | exact q_24 | first | exact R_neN rfl rfl rfl | exact R_neB tabOk rfl rfl rfl rfl | exact R_neMe tabOk noStand rfl rfl rfl rfl rfl rfl rfl (by kernel_rfl) | exact R_index (j := i) tabOk rfl rfl rfl rfl rfl rfl hil)))
        | refine O_nil ?_
        | refine Q_nil ?_
        | refine q_j ?_
        | refine q_k ?_
        | refine q_d ?_
        | refine q_a ?_
        | refine q_b ?_
        | refine A_ct rfl ?_
        | refine A_cf rfl ?_
        | refine A_skip ?_
        | refine A_exit ?_
        | refine A_ret ?_
        | refine q_l ?_
        | refine q_m ?_
        | refine q_n ?_
        | refine q_h ?_
        | refine q_o ?_
        | refine q_e ?_
        | refine q_f ?_
        | refine q_g ?_
        | refine Q_c rfl rfl rfl rfl rfl hsa rfl (fun _ _ _ => val_mk _ _ _ _ _ rfl rfl) ?_)
      exact ⟨i + 1, hil, by omega, Wk_sel ⟨rfl, rfl, rfl, rfl, rfl, trivial⟩ trivial⟩
  · obtain rfl : i = l.length := by omega
    repeat ((fail_if_success (refine stopL ?_)); first
      | refine A_seq ?_
      | refine A_block ?_
      | refine R_list ?_
      | refine R_quiet rfl mixed (by kernel_rfl) ?_
      | ((first | apply O_y rfl rfl rfl | apply Q_y rfl rfl rfl); (first | exact R_addN rfl rfl rfl | exact R_subN rfl rfl rfl | (first | exact q_1 | exact q_2 | exact q_3 | exact q_4 | exact q_5 | exact q_6 | exact q_7 | exact q_8 | exact q_9 | exact q_10 | exact q_11 | exact q_12 | exact q_13 | exact q_14 | exact q_15 | exact q_16 | exact q_17 | exact q_18 | exact q_19 | exact q_20 | exact q_21 | exact q_22 | exact q_23 | exact q_24 | fail)))
      | refine O_nil ?_
      | refine Q_nil ?_
      | refine q_j ?_
      | refine q_k ?_
      | refine q_d ?_
      | refine q_a ?_
      | refine q_b ?_
      | refine A_ct rfl ?_
      | refine A_cf rfl ?_
      | refine A_skip ?_
      | refine A_exit ?_
      | refine A_ret ?_
      | refine q_l ?_
      | refine q_m ?_
      | refine q_n ?_
      | refine q_h ?_
      | refine q_o ?_
      | refine q_e ?_
      | refine q_f ?_
      | refine q_g ?_
      | fail)
    exact X_retW AWk.refl rfl (h2 := []) trivial ⟨rfl, rfl⟩
end Ab
end Go.Proofs.Ytmljmahlpcdhoaa

/-
  Texts of a proof, one behind the other (part 12).
-/
import Derived.Test.YtamnhhjcgloceaaGreatFl10
set_option linter.unusedVariables false
set_option linter.unusedSimpArgs false
namespace Go.Proofs.YtamnhhjcgloceaaGreat.Ab
set_option linter.unusedVariables false
set_option maxRecDepth 100000
open Go.RowKit Go.Lib
section
variable {P : Program} {T : List Nat} {e : Env} {h : Heap} {o : Oper}
theorem Y_remn {t u : TypeId} {x y : Operand} {a b : Int} (ho : o.op = .binOp .rem t x y u) (hx : aev e x = some (.d (.sc (.int .i64 a)))) (hy : aev e y = some (.d (.sc (.int .i64 b)))) (hb : b ≠ 0) : AYield P T e h o (.d (.sc (.int .i64 (a.tmod b)))) := yield_of _ fun w F ι ac E =>
  ⟨.int .i64 (a.tmod b), sc_rel rfl, fun w' => by
    simp only [execOp, ho, (sc_of (aev_rel E hx)).1, (sc_of (aev_rel E hy)).1]
    simp [eqGuard, binOp, Op.intDiv, hb]⟩
end
set_option linter.unusedSimpArgs false
attribute [local irreducible] AWp AOps AQ AYield AEff ACall AWk AAny AAt AThen AIn APost NoPanic
def newF (E : List Ent) : Heap := [(10, .var [entsA E, .ptr 3 0]), (3, tblB 902 (uE E)), (902, emapB (mE E))]
section
variable {P : Program} {nt : Nat} {Q : Post} {e : Env} {h : Heap} {o : Oper} {ops : Array Oper} {rest : List Oper} {T : List Nat}
theorem O_cNewF {f : FuncId} {args : Array Operand} {ats : Array TypeId} {cs : List AVal} {d : Nat} {E : List Ent} (H : ACall P f cs [] (fun c' h' => c' = .ptr 10 0 ∧ h' = newF E)) (hw : awant ops e o = some true) (hdst : o.dst = some d) (hd : Nat.blt d nt = true)
    (ho : o.op = .call { callee := .value (.func f), args := args, argTypes := ats }) (hx : aevs e args.toList = some cs) (HK : AOps P nt ops Q rest ((d, .ptr 10 0) :: killEs [10, 3, 902] e) (newF E ++ killHs [10, 3, 902] h)) : AOps P nt ops Q (o :: rest) e h :=
  O_eff (T := []) hw (E_callQ ho hdst hx H hd fun c' h' ⟨h1, h2⟩ => by
    subst h1 h2
    refine ⟨rfl, fun id b j hb hh => ?_, fun j hj => ?_⟩
    · unfold newF at hb
      by_cases h5 : 10 = id
      · subst h5
        rw [look_cons_same] at hb
        cases hb
        have h9 : ((entsA E).has j || ((3 == j) || false)) = true := hh
        rw [shut_has j (entsA E) rfl, Bool.false_or, Bool.or_false] at h9
        have : 3 = j := by simpa using h9
        subst this
        rfl
      rw [look_cons_ne _ _ h5] at hb
      by_cases h3 : 3 = id
      · subst h3
        rw [look_cons_same] at hb
        cases hb
        have hs : hasL j (usedA (uE E)) = false := shutL_has j (usedA (uE E)) rfl
        have : (902 == j) = true := by
          have h9 : ((AVal.mp 902).has j || hasL j (usedA (uE E))) = true := hh
          rw [hs, Bool.or_false] at h9
          exact h9
        have : 902 = j := by simpa using this
        subst this
        rfl
      · rw [look_cons_ne _ _ h3] at hb
        by_cases h4 : 902 = id
        · subst h4
          rw [look_cons_same] at hb
          cases hb
          have h9 : (ents pfxA entA (mE E)).any (fun p => p.1.has j || p.2.has j) = true := hh
          obtain ⟨p, hp, h10⟩ := List.any_eq_true.1 h9
          obtain ⟨q, _, rfl⟩ := List.mem_map.1 hp
          rw [shut_has j (pfxA q.1) rfl, shut_has j (entA q.2) rfl] at h10
          cases h10
        · rw [look_cons_ne _ _ h4] at hb; cases hb
    · have h9 : (10 == j) = true := hj
      have : 10 = j := by simpa using h9
      subst this
      rfl) fun e' h' ⟨c, h2, ⟨h3, h4⟩, h5, h6⟩ => by subst h3 h4 h5 h6; exact HK
end
abbrev rhoF : List (Nat × Nat) := [(1000, 10), (1001, 3), (1002, 902)]
theorem rhoF_cases {p i : Nat} (h : look rhoF p = some i) : (p = 1000 ∧ i = 10) ∨ (p = 1001 ∧ i = 3) ∨ (p = 1002 ∧ i = 902) := by
  by_cases h1 : 1000 = p
  · subst h1; rw [look_cons_same] at h; cases h; exact .inl ⟨rfl, rfl⟩
  rw [look_cons_ne _ _ h1] at h
  by_cases h2 : 1001 = p
  · subst h2; rw [look_cons_same] at h; cases h; exact .inr (.inl ⟨rfl, rfl⟩)
  rw [look_cons_ne _ _ h2] at h
  by_cases h3 : 1002 = p
  · subst h3; rw [look_cons_same] at h; cases h; exact .inr (.inr ⟨rfl, rfl⟩)
  rw [look_cons_ne _ _ h3] at h; cases h
theorem ren_tblF (u : Nat → Int) : renB rhoF (tblB 1002 u) = tblB 902 u := by
  show ABlk.var (renV _ (.mp 1002) :: (usedA u).map (renV _)) = _
  unfold tblB usedA
  rw [List.map_map]
  rfl
theorem ok_tblF (u : Nat → Int) : okB rhoF (tblB 1002 u) := by
  intro c hc
  rcases List.mem_cons.1 hc with rfl | hc
  · rfl
  · obtain ⟨b, _, rfl⟩ := List.mem_map.1 hc
    rfl
theorem lentF {h : Heap} {E : List Ent} (h1 : look h 10 = some (.var [entsA E, .ptr 3 0])) (h2 : look h 3 = some (tblB 902 (uE E))) (h3 : look h 902 = some (emapB (mE E))) : Lent rhoF h (tabF E) :=
  ⟨⟨10, _, rfl, h1, rfl, fun c hc => by simp at hc; rcases hc with rfl | rfl <;> rfl⟩, ⟨3, _, rfl, h2, ren_tblF _, ok_tblF _⟩, ⟨902, _, rfl, h3, ren_mapE _ _, ok_mapE _ _⟩, trivial⟩
abbrev lkdE (l : List Rte) (a : Int) (b : Bool) : Env := [(0, rtesA l), (1, .d (.sc (.int .u32 a))), (7, .ptr 7 0), (8, boolA b), (9, .ptr 9 0)]
abbrev lkdH (z : Ent) : Heap := [(7, entB1 z), (9, entB1 z)]
theorem rem_law {d n : Nat} (hd : d < n) (hn : n ≤ 1000000) : (IntKind.i64.wrap ((d : Int) * 3)).tmod (n : Int) = (((d * 3) % n : Nat) : Int) := by
  rw [wrap_in (by simp [IntKind.min, IntKind.signed, IntKind.bits]; omega) (by simp [IntKind.max, IntKind.signed, IntKind.bits]; omega), Int.tmod_eq_emod_of_nonneg (by omega)]
  rfl
set_option maxHeartbeats 16000000 in
theorem flooked_A (hawake : ACall Tryz.prog 5 [] [] (Just (boolA true))) (l rest : List Rte) (a : Int) (a0 : 0 ≤ a) (a1 : a < 4294967296) (hok : ∀ s ∈ l, okR s) (hh : ∀ s ∈ l, 0 ≤ s.h ∧ s.h < 4294967296) (hn : l.length ≤ 80) (hr : rest ≠ [] → l.length = 80) :
    ACall Tryz.prog 3 [.d (.sl (l.flatMap rteD ++ rest.flatMap rteD) (l.length + rest.length)), .d (.sc (.int .u32 a))] [] (Just (boolA true)) := by
  have hmin : (if (80 : Int) < ((l.length + rest.length : Nat) : Int) then (80 : Int) else ((l.length + rest.length : Nat) : Int)) = (l.length : Int) := by
    cases rest with
    | nil => simp; omega
    | cons b r => have := hr (by simp); simp; omega
  have hnew := fibNew_A l hok hh (by omega)
  have hent := entries_A l hok hh (by omega)
  refine ACall_of tabOk Tryz.func3 rfl Tryz.ntmps3 (congrArg Array.toList Tryz.results3) (by kernel_rfl) rfl ?_
  repeat (first | refine A_seq ?_ | refine A_block ?_ | refine R_list ?_ | ((first | apply O_y rfl rfl rfl | apply Q_y rfl rfl rfl); (first | exact q_1 | exact q_2 | exact q_3 | exact q_4 | exact q_5 | exact q_6 | exact q_7 | exact q_8 | exact q_9 | exact q_10 | exact q_11 | exact q_12 | exact q_13 | exact q_14 | exact q_15 | exact q_16 | exact q_17 | exact q_18 | exact q_19 | exact q_20 | exact q_21 | exact q_22 | exact q_23 | exact q_24 | (first | exact R_min rfl rfl rfl hmin | exact R_sliceD tabOk rfl rfl rfl rfl rfl rfl (by omega)))) | refine O_nil ?_ | refine Q_nil ?_ | refine q_j ?_ | refine q_k ?_ | refine q_d ?_ | refine q_a ?_ | refine q_b ?_ | refine q_c ?_ | refine A_ct rfl ?_ | refine A_cf rfl ?_ | refine A_skip ?_ | refine A_exit ?_ | refine A_ret ?_ | refine q_l ?_ | refine q_m ?_ | refine q_n ?_ | refine q_h ?_ | refine q_o ?_ | refine q_e ?_ | refine q_f ?_ | refine q_g ?_ | refine O_c rfl rfl rfl rfl rfl hawake (fun _ => rfl) ?_)
  refine A_weaken (Wk_see (t := 0) rfl see_pfx) ?_
  refine A_weaken (Wk_nil 29 9 (t := 5) (id := 5) rfl rfl) ?_
  refine A_loop (fun x : Nat × List Rte => [(0, rtesA l), (1, .d (.sc (.int .u32 a))), (5, .row 5), (6, intA ((x.1 : Int) - 1))]) (fun x => [(5, rteB x.2)]) (fun x => x.1 ≤ l.length ∧ x.2.length = 2 * (l.length - x.1) ∧ (∀ r ∈ x.2, r ∈ l) ∧ ∀ j (hj : j < l.length), x.1 ≤ j → l[j] ∈ x.2) (fun x => x.1) (l.length, []) ⟨Nat.le_refl _, by simp, by simp, fun j hj h => by omega⟩ (Wk_sel ⟨rfl, rfl, rfl, rfl, trivial⟩ ⟨rfl, trivial⟩) ?_
  rintro ⟨c, B⟩ ⟨hc, hBl, hBm, hBa⟩
  dsimp only at hc hBl hBm hBa ⊢
  cases c with
  | succ d =>
    have hd : d < l.length := by omega
    have hrem := rem_law hd (by omega)
    have hrl : (d * 3) % l.length < l.length := Nat.mod_lt _ (by omega)
    have hne : (l.length : Int) ≠ 0 := by omega
    rw [show (((d + 1 : Nat) : Int) - 1) = (d : Int) by omega]
    have hw1 := win_at l d hd
    have hw2 := win_at l ((d * 3) % l.length) hrl
    repeat (first | refine A_seq ?_ | refine A_block ?_ | refine R_list ?_ | ((first | apply O_y rfl rfl rfl | apply Q_y rfl rfl rfl); (first | exact q_1 | exact q_2 | exact q_3 | exact q_4 | exact q_5 | exact q_6 | exact q_7 | exact q_8 | exact q_9 | exact q_10 | exact q_11 | exact q_12 | exact q_13 | exact q_14 | exact q_15 | exact q_16 | exact q_17 | exact q_18 | exact q_19 | exact q_20 | exact q_21 | exact q_22 | exact q_23 | exact q_24 | fail)) | refine O_nil ?_ | refine Q_nil ?_ | refine q_j ?_ | refine q_k ?_ | refine q_d ?_ | refine q_a ?_ | refine q_b ?_ | refine q_c ?_ | refine A_ct rfl ?_ | refine A_cf rfl ?_ | refine A_skip ?_ | refine A_exit ?_ | refine A_ret ?_ | refine q_l ?_ | refine q_m ?_ | refine q_n ?_ | refine q_h ?_ | refine q_o ?_ | refine q_e ?_ | refine q_f ?_ | refine q_g ?_ | fail)
    refine N_begin [5] mixed ?_
    repeat (first | ((first | apply q_M 0 rfl rfl (by kernel_rfl) (by decide +kernel) (by decide +kernel) rfl rfl rfl | apply q_M 1 rfl rfl (by kernel_rfl) (by decide +kernel) (by decide +kernel) rfl rfl rfl | apply q_M 2 rfl rfl (by kernel_rfl) (by decide +kernel) (by decide +kernel) rfl rfl rfl | apply q_M 3 rfl rfl (by kernel_rfl) (by decide +kernel) (by decide +kernel) rfl rfl rfl | apply q_M 4 rfl rfl (by kernel_rfl) (by decide +kernel) (by decide +kernel) rfl rfl rfl | apply q_M 5 rfl rfl (by kernel_rfl) (by decide +kernel) (by decide +kernel) rfl rfl rfl | apply q_M 6 rfl rfl (by kernel_rfl) (by decide +kernel) (by decide +kernel) rfl rfl rfl | apply q_M 7 rfl rfl (by kernel_rfl) (by decide +kernel) (by decide +kernel) rfl rfl rfl | apply q_M 8 rfl rfl (by kernel_rfl) (by decide +kernel) (by decide +kernel) rfl rfl rfl | apply q_M 9 rfl rfl (by kernel_rfl) (by decide +kernel) (by decide +kernel) rfl rfl rfl | apply q_M 10 rfl rfl (by kernel_rfl) (by decide +kernel) (by decide +kernel) rfl rfl rfl | apply q_M 11 rfl rfl (by kernel_rfl) (by decide +kernel) (by decide +kernel) rfl rfl rfl | apply q_M 12 rfl rfl (by kernel_rfl) (by decide +kernel) (by decide +kernel) rfl rfl rfl | apply q_M 13 rfl rfl (by kernel_rfl) (by decide +kernel) (by decide +kernel) rfl rfl rfl | apply q_M 14 rfl rfl (by kernel_rfl) (by decide +kernel) (by decide +kernel) rfl rfl rfl | apply q_M 15 rfl rfl (by kernel_rfl) (by decide +kernel) (by decide +kernel) rfl rfl rfl ); (first | exact q_1 | exact q_2 | exact q_3 | exact q_4 | exact R_loadi tabOk rfl rfl rfl rfl (by first | exact hw1 | exact hw2) rfl rfl | exact q_6 | exact q_7 | exact q_8 | exact q_9 | exact q_10 | exact q_11 | exact q_12 | exact q_13 | exact q_14 | exact q_15 | exact q_16 | exact q_17 | exact q_18 | exact q_19 | exact q_20 | exact q_21 | exact q_22 | exact q_23 | exact q_24 | (first | exact R_index (j := d) tabOk rfl rfl rfl rfl rfl rfl hd | exact Y_remn rfl rfl rfl hne | exact R_index (j := (d * 3) % l.length) tabOk rfl rfl rfl rfl rfl hrem hrl))) | (apply q_L 4 rfl rfl (by kernel_rfl) (by decide +kernel) (by decide +kernel) rfl rfl rfl; (first | exact R_loadi tabOk rfl rfl rfl rfl (by first | exact hw1 | exact hw2) rfl rfl | exact q_7 | exact q_19 | fail)) | (apply q_L 5 rfl rfl (by kernel_rfl) (by decide +kernel) (by decide +kernel) rfl rfl rfl; (first | exact R_loadi tabOk rfl rfl rfl rfl (by first | exact hw1 | exact hw2) rfl rfl | exact q_7 | exact q_19 | fail)) | (apply q_L 6 rfl rfl (by kernel_rfl) (by decide +kernel) (by decide +kernel) rfl rfl rfl; (first | exact R_loadi tabOk rfl rfl rfl rfl (by first | exact hw1 | exact hw2) rfl rfl | exact q_7 | exact q_19 | fail)) | (apply q_L 7 rfl rfl (by kernel_rfl) (by decide +kernel) (by decide +kernel) rfl rfl rfl; (first | exact R_loadi tabOk rfl rfl rfl rfl (by first | exact hw1 | exact hw2) rfl rfl | exact q_7 | exact q_19 | fail)) | (apply q_L 8 rfl rfl (by kernel_rfl) (by decide +kernel) (by decide +kernel) rfl rfl rfl; (first | exact R_loadi tabOk rfl rfl rfl rfl (by first | exact hw1 | exact hw2) rfl rfl | exact q_7 | exact q_19 | fail)) | (apply q_L 9 rfl rfl (by kernel_rfl) (by decide +kernel) (by decide +kernel) rfl rfl rfl; (first | exact R_loadi tabOk rfl rfl rfl rfl (by first | exact hw1 | exact hw2) rfl rfl | exact q_7 | exact q_19 | fail)) | (apply q_L 10 rfl rfl (by kernel_rfl) (by decide +kernel) (by decide +kernel) rfl rfl rfl; (first | exact R_loadi tabOk rfl rfl rfl rfl (by first | exact hw1 | exact hw2) rfl rfl | exact q_7 | exact q_19 | fail)) | (apply q_L 11 rfl rfl (by kernel_rfl) (by decide +kernel) (by decide +kernel) rfl rfl rfl; (first | exact R_loadi tabOk rfl rfl rfl rfl (by first | exact hw1 | exact hw2) rfl rfl | exact q_7 | exact q_19 | fail)) | (apply q_L 12 rfl rfl (by kernel_rfl) (by decide +kernel) (by decide +kernel) rfl rfl rfl; (first | exact R_loadi tabOk rfl rfl rfl rfl (by first | exact hw1 | exact hw2) rfl rfl | exact q_7 | exact q_19 | fail)) | refine N_one (j := 0) (by decide +kernel) ?_ | refine N_one (j := 1) (by decide +kernel) ?_ | refine N_one (j := 2) (by decide +kernel) ?_ | refine N_one (j := 3) (by decide +kernel) ?_ | refine N_one (j := 4) (by decide +kernel) ?_ | refine N_one (j := 5) (by decide +kernel) ?_ | refine N_one (j := 6) (by decide +kernel) ?_ | refine N_one (j := 7) (by decide +kernel) ?_ | refine N_one (j := 8) (by decide +kernel) ?_ | refine N_one (j := 9) (by decide +kernel) ?_ | refine N_one (j := 10) (by decide +kernel) ?_ | refine N_one (j := 11) (by decide +kernel) ?_ | refine N_one (j := 12) (by decide +kernel) ?_ | refine N_one (j := 13) (by decide +kernel) ?_ | refine N_one (j := 14) (by decide +kernel) ?_ | refine N_one (j := 15) (by decide +kernel) ?_ | refine T_alloc tabOk rfl rfl rfl rfl rfl rfl rfl ?_ | refine T_store tabOk rfl rfl rfl rfl rfl rfl rfl rfl rfl rfl rfl rfl rfl ?_ | (apply T_yield rfl rfl rfl rfl; (first | exact q_2 | exact q_1 | first | exact R_loadi tabOk rfl rfl rfl rfl (by first | exact hw1 | exact hw2) rfl rfl | exact q_7 | exact q_19 | fail)) | refine N_done (by decide +kernel) ?_ | first | refine T_slice tabOk rfl rfl rfl rfl rfl rfl rfl rfl rfl rfl rfl rfl ?_ | refine T_appR tabOk rfl rfl rfl rfl rfl rfl rfl rfl rfl rfl rfl rfl (Src.row rfl) rfl (by omega) rfl ?_ | (apply T_yield rfl rfl rfl rfl; (first | exact q_1 | exact q_2 | exact q_3 | exact q_4 | exact R_loadi tabOk rfl rfl rfl rfl (by first | exact hw1 | exact hw2) rfl rfl | exact q_6 | exact q_7 | exact q_8 | exact q_9 | exact q_10 | exact q_11 | exact q_12 | exact q_13 | exact q_14 | exact q_15 | exact q_16 | exact q_17 | exact q_18 | exact q_19 | exact q_20 | exact q_21 | exact q_22 | exact q_23 | exact q_24 | fail)))
    repeat (first | refine A_seq ?_ | refine A_block ?_ | refine R_list ?_ | ((first | apply O_y rfl rfl rfl | apply Q_y rfl rfl rfl); (first | exact q_1 | exact q_2 | exact q_3 | exact q_4 | exact q_5 | exact q_6 | exact q_7 | exact q_8 | exact q_9 | exact q_10 | exact q_11 | exact q_12 | exact q_13 | exact q_14 | exact q_15 | exact q_16 | exact q_17 | exact q_18 | exact q_19 | exact q_20 | exact q_21 | exact q_22 | exact q_23 | exact q_24 | fail)) | refine O_nil ?_ | refine Q_nil ?_ | refine q_j ?_ | refine q_k ?_ | refine q_d ?_ | refine q_a ?_ | refine q_b ?_ | refine q_c ?_ | refine A_ct rfl ?_ | refine A_cf rfl ?_ | refine A_skip ?_ | refine A_exit ?_ | refine A_ret ?_ | refine q_l ?_ | refine q_m ?_ | refine q_n ?_ | refine q_h ?_ | refine q_o ?_ | refine q_e ?_ | refine q_f ?_ | refine q_g ?_ | fail)
    refine ⟨(d, B ++ [l[d], l[(d * 3) % l.length]]), ⟨by dsimp only; omega, by dsimp only; rw [List.length_append]; simp; omega, fun r hr => ?_, fun j hj h => ?_⟩, by dsimp only; omega, Wk_sel ⟨rfl, rfl, rfl, rfl, trivial⟩ ⟨row_eq (by simp) (by simp [rteD]) rfl, trivial⟩⟩
    · rcases List.mem_append.1 hr with h | h
      · exact hBm r h
      · simp at h; rcases h with rfl | rfl <;> exact List.getElem_mem _
    · dsimp only at h ⊢
      by_cases hjd : j = d
      · subst hjd; simp
      · exact List.mem_append_left _ (hBa j hj (by omega))
  | zero =>
    have hBB : ∀ r, r ∈ B ↔ r ∈ l := fun r => ⟨hBm r, fun hr => by
      obtain ⟨j, hj, rfl⟩ := List.mem_iff_getElem.1 hr
      exact hBa j hj (Nat.zero_le _)⟩
    have hnewB := fibNew_A B (fun s hs => hok s (hBm s hs)) (fun s hs => hh s (hBm s hs)) (by omega)
    rw [entsE_ext hBB] at hnewB
    have hEl := entsE_len l
    have hhl := fun e => each_len (l := l) (e := e)
    have hsq : l.length * ((l.length + 1) * l.length + 1) ≤ 80 * (81 * 80 + 1) := Nat.mul_le_mul hn (Nat.add_le_add_right (Nat.mul_le_mul (by omega) hn) 1)
    have hEg := fun x => entsE_good (l := l) (x := x)
    have hnd := entsE_nd l
    obtain ⟨E, hE⟩ : ∃ E, entsE l = E := ⟨_, rfl⟩
    simp only [hE] at hent hnew hnewB hEl hEg hnd hhl
    have hgood : ∀ x ∈ E, Go.Proofs.YtamnhhjcgloceaaGreat.good x.p := fun x hx => (chk_eq x.p).1 (hEg x hx).1
    have hpok : ∀ x ∈ E, x.p.ok := fun x hx => by
      obtain ⟨_, r, hr, hp⟩ := hEg x hx
      rw [← hp]; exact (hok r hr).2
    have hlook := fibLook_A E a a0 a1 hnd (fun y hy => by have := hhl y hy; omega) hgood
    have hlaw := look_law hnd hgood a
    obtain ⟨⟨q, z, b⟩, hz⟩ : ∃ r, longRE (uE E) (mE E) a = r := ⟨_, rfl⟩
    rw [hz] at hlook hlaw
    dsimp only at hlook hlaw
    have hzl : z.hs.length ≤ 1000000 := by
      rcases hlaw with ⟨_, h, _⟩ | ⟨_, h, _⟩
      · have := hhl z h; omega
      · rw [h]; exact Nat.zero_le _
    obtain ⟨⟨pa, pb⟩, zx, hs⟩ := z
    dsimp only at hzl
    repeat (first | refine A_seq ?_ | refine A_block ?_ | refine R_list ?_ | ((first | apply O_y rfl rfl rfl | apply Q_y rfl rfl rfl); (first | exact q_1 | exact q_2 | exact q_3 | exact q_4 | exact q_5 | exact q_6 | exact q_7 | exact q_8 | exact q_9 | exact q_10 | exact q_11 | exact q_12 | exact q_13 | exact q_14 | exact q_15 | exact q_16 | exact q_17 | exact q_18 | exact q_19 | exact q_20 | exact q_21 | exact q_22 | exact q_23 | exact q_24 | fail)) | refine O_nil ?_ | refine Q_nil ?_ | refine q_j ?_ | refine q_k ?_ | refine q_d ?_ | refine q_a ?_ | refine q_b ?_ | refine q_c ?_ | refine A_ct rfl ?_ | refine A_cf rfl ?_ | refine A_skip ?_ | refine A_exit ?_ | refine A_ret ?_ | refine q_l ?_ | refine q_m ?_ | refine q_n ?_ | refine q_h ?_ | refine q_o ?_ | refine q_e ?_ | refine q_f ?_ | refine q_g ?_ | fail)
    refine O_weaken (Wk_freeze (id := 5) rfl) ?_
    refine O_weaken (Wk_sel (e1 := [(0, rtesA l), (1, .d (.sc (.int .u32 a))), (5, rtesA B), (45, rtesA l)]) (h1 := []) ⟨rfl, rfl, rfl, rfl, trivial⟩ trivial) ?_
    refine O_cNewF hnew rfl rfl rfl rfl rfl ?_
    repeat (first | refine A_seq ?_ | refine A_block ?_ | refine R_list ?_ | ((first | apply O_y rfl rfl rfl | apply Q_y rfl rfl rfl); (first | exact q_1 | exact q_2 | exact q_3 | exact q_4 | exact q_5 | exact q_6 | exact q_7 | exact q_8 | exact q_9 | exact q_10 | exact q_11 | exact q_12 | exact q_13 | exact q_14 | exact q_15 | exact q_16 | exact q_17 | exact q_18 | exact q_19 | exact q_20 | exact q_21 | exact q_22 | exact q_23 | exact q_24 | fail)) | refine O_nil ?_ | refine Q_nil ?_ | refine q_j ?_ | refine q_k ?_ | refine q_d ?_ | refine q_a ?_ | refine q_b ?_ | refine q_c ?_ | refine A_ct rfl ?_ | refine A_cf rfl ?_ | refine A_skip ?_ | refine A_exit ?_ | refine A_ret ?_ | refine q_l ?_ | refine q_m ?_ | refine q_n ?_ | refine q_h ?_ | refine q_o ?_ | refine q_e ?_ | refine q_f ?_ | refine q_g ?_ | refine O_cP rhoF (fun p p' i h1 h2 => by rcases rhoF_cases h1 with ⟨h3, h4⟩ | ⟨h3, h4⟩ | ⟨h3, h4⟩ <;> rcases rhoF_cases h2 with ⟨h5, h6⟩ | ⟨h5, h6⟩ | ⟨h5, h6⟩ <;> omega) (fun p i h1 => by rcases rhoF_cases h1 with ⟨h3, h4⟩ | ⟨h3, h4⟩ | ⟨h3, h4⟩ <;> subst h3 <;> exact ⟨by omega, rfl, rfl⟩) hlook (fun c hc => by simp at hc; rcases hc with rfl | rfl <;> rfl) (lentF rfl rfl rfl) rfl rfl rfl rfl rfl rfl ?_)
    refine O_weaken (Wk_sel (e1 := [(0, rtesA l), (1, .d (.sc (.int .u32 a))), (7, .ptr 7 0), (8, boolA b), (52, rtesA B)]) (h1 := [(7, entB1 ⟨⟨pa, pb⟩, zx, hs⟩)]) ⟨rfl, rfl, rfl, rfl, rfl, trivial⟩ ⟨rfl, trivial⟩) ?_
    refine O_cNewF hnewB rfl rfl rfl rfl rfl ?_
    repeat (first | (apply O_y rfl rfl rfl; (first | exact q_1 | exact q_2 | exact q_3 | exact q_4 | exact q_5 | exact q_6 | exact q_7 | exact q_8 | exact q_9 | exact q_10 | exact q_11 | exact q_12 | exact q_13 | exact q_14 | exact q_15 | exact q_16 | exact q_17 | exact q_18 | exact q_19 | exact q_20 | exact q_21 | exact q_22 | exact q_23 | exact q_24 | fail)) | refine q_a ?_ | refine q_b ?_ | refine q_e ?_ | refine q_g ?_ | refine O_cP rhoF (fun p p' i h1 h2 => by rcases rhoF_cases h1 with ⟨h3, h4⟩ | ⟨h3, h4⟩ | ⟨h3, h4⟩ <;> rcases rhoF_cases h2 with ⟨h5, h6⟩ | ⟨h5, h6⟩ | ⟨h5, h6⟩ <;> omega) (fun p i h1 => by rcases rhoF_cases h1 with ⟨h3, h4⟩ | ⟨h3, h4⟩ | ⟨h3, h4⟩ <;> subst h3 <;> exact ⟨by omega, rfl, rfl⟩) hlook (fun c hc => by simp at hc; rcases hc with rfl | rfl <;> rfl) (lentF rfl rfl rfl) rfl rfl rfl rfl rfl rfl ?_)
    refine O_nil ?_
    refine q_j ?_
    refine A_seq ?_
    refine A_seq ?_
    refine A_cutF ((83, boolA false) :: lkdE l a b) (lkdH ⟨⟨pa, pb⟩, zx, hs⟩) ?_ ?_
    · have hpe := pfxEq ⟨pa, pb⟩ ⟨pa, pb⟩
      rw [show ((⟨pa, pb⟩ : Pfx) == ⟨pa, pb⟩) = true by simp] at hpe
      cases b with
      | true =>
        cases zx with
        | true =>
          repeat (first | refine A_seq ?_ | refine A_block ?_ | refine R_list ?_ | refine R_quiet rfl mixed (by kernel_rfl) ?_ | ((first | apply O_y rfl rfl rfl | apply Q_y rfl rfl rfl); (first | exact q_1 | exact q_2 | exact q_3 | exact q_4 | exact q_5 | exact q_6 | exact q_7 | exact q_8 | exact q_9 | exact q_10 | exact q_11 | exact q_12 | exact q_13 | exact q_14 | exact q_15 | exact q_16 | exact q_17 | exact q_18 | exact q_19 | exact q_20 | exact q_21 | exact q_22 | exact q_23 | exact q_24 | (first | exact Y_bbin tabOk rfl rfl rfl rfl rfl | exact Y_eq tabOk noStand rfl rfl rfl rfl rfl rfl rfl rfl rfl (by kernel_rfl) hpe rfl))) | refine O_nil ?_ | refine Q_nil ?_ | refine q_j ?_ | refine q_k ?_ | refine q_d ?_ | refine q_a ?_ | refine q_b ?_ | refine q_c ?_ | refine A_ct rfl ?_ | refine A_cf rfl ?_ | refine A_skip ?_ | refine A_exit ?_ | refine A_ret ?_ | refine q_l ?_ | refine q_m ?_ | refine q_n ?_ | refine q_h ?_ | refine q_o ?_ | refine q_e ?_ | refine q_f ?_ | refine q_g ?_ | fail)
          exact Wk_sel ⟨rfl, rfl, rfl, rfl, rfl, rfl, trivial⟩ ⟨rfl, rfl, trivial⟩
        | false =>
          repeat (first | refine A_seq ?_ | refine A_block ?_ | refine R_list ?_ | refine R_quiet rfl mixed (by kernel_rfl) ?_ | ((first | apply O_y rfl rfl rfl | apply Q_y rfl rfl rfl); (first | exact q_1 | exact q_2 | exact q_3 | exact q_4 | exact q_5 | exact q_6 | exact q_7 | exact q_8 | exact q_9 | exact q_10 | exact q_11 | exact q_12 | exact q_13 | exact q_14 | exact q_15 | exact q_16 | exact q_17 | exact q_18 | exact q_19 | exact q_20 | exact q_21 | exact q_22 | exact q_23 | exact q_24 | (first | exact Y_bbin tabOk rfl rfl rfl rfl rfl | exact Y_eq tabOk noStand rfl rfl rfl rfl rfl rfl rfl rfl rfl (by kernel_rfl) hpe rfl))) | refine O_nil ?_ | refine Q_nil ?_ | refine q_j ?_ | refine q_k ?_ | refine q_d ?_ | refine q_a ?_ | refine q_b ?_ | refine q_c ?_ | refine A_ct rfl ?_ | refine A_cf rfl ?_ | refine A_skip ?_ | refine A_exit ?_ | refine A_ret ?_ | refine q_l ?_ | refine q_m ?_ | refine q_n ?_ | refine q_h ?_ | refine q_o ?_ | refine q_e ?_ | refine q_f ?_ | refine q_g ?_ | fail)
          exact Wk_sel ⟨rfl, rfl, rfl, rfl, rfl, rfl, trivial⟩ ⟨rfl, rfl, trivial⟩
      | false =>
        cases zx with
        | true =>
          repeat (first | refine A_seq ?_ | refine A_block ?_ | refine R_list ?_ | refine R_quiet rfl mixed (by kernel_rfl) ?_ | ((first | apply O_y rfl rfl rfl | apply Q_y rfl rfl rfl); (first | exact q_1 | exact q_2 | exact q_3 | exact q_4 | exact q_5 | exact q_6 | exact q_7 | exact q_8 | exact q_9 | exact q_10 | exact q_11 | exact q_12 | exact q_13 | exact q_14 | exact q_15 | exact q_16 | exact q_17 | exact q_18 | exact q_19 | exact q_20 | exact q_21 | exact q_22 | exact q_23 | exact q_24 | (first | exact Y_bbin tabOk rfl rfl rfl rfl rfl | exact Y_eq tabOk noStand rfl rfl rfl rfl rfl rfl rfl rfl rfl (by kernel_rfl) hpe rfl))) | refine O_nil ?_ | refine Q_nil ?_ | refine q_j ?_ | refine q_k ?_ | refine q_d ?_ | refine q_a ?_ | refine q_b ?_ | refine q_c ?_ | refine A_ct rfl ?_ | refine A_cf rfl ?_ | refine A_skip ?_ | refine A_exit ?_ | refine A_ret ?_ | refine q_l ?_ | refine q_m ?_ | refine q_n ?_ | refine q_h ?_ | refine q_o ?_ | refine q_e ?_ | refine q_f ?_ | refine q_g ?_ | fail)
          exact Wk_sel ⟨rfl, rfl, rfl, rfl, rfl, rfl, trivial⟩ ⟨rfl, rfl, trivial⟩
        | false =>
          repeat (first | refine A_seq ?_ | refine A_block ?_ | refine R_list ?_ | refine R_quiet rfl mixed (by kernel_rfl) ?_ | ((first | apply O_y rfl rfl rfl | apply Q_y rfl rfl rfl); (first | exact q_1 | exact q_2 | exact q_3 | exact q_4 | exact q_5 | exact q_6 | exact q_7 | exact q_8 | exact q_9 | exact q_10 | exact q_11 | exact q_12 | exact q_13 | exact q_14 | exact q_15 | exact q_16 | exact q_17 | exact q_18 | exact q_19 | exact q_20 | exact q_21 | exact q_22 | exact q_23 | exact q_24 | (first | exact Y_bbin tabOk rfl rfl rfl rfl rfl | exact Y_eq tabOk noStand rfl rfl rfl rfl rfl rfl rfl rfl rfl (by kernel_rfl) hpe rfl))) | refine O_nil ?_ | refine Q_nil ?_ | refine q_j ?_ | refine q_k ?_ | refine q_d ?_ | refine q_a ?_ | refine q_b ?_ | refine q_c ?_ | refine A_ct rfl ?_ | refine A_cf rfl ?_ | refine A_skip ?_ | refine A_exit ?_ | refine A_ret ?_ | refine q_l ?_ | refine q_m ?_ | refine q_n ?_ | refine q_h ?_ | refine q_o ?_ | refine q_e ?_ | refine q_f ?_ | refine q_g ?_ | fail)
          exact Wk_sel ⟨rfl, rfl, rfl, rfl, rfl, rfl, trivial⟩ ⟨rfl, rfl, trivial⟩
    ·
      repeat (first | refine A_seq ?_ | refine A_block ?_ | refine R_list ?_ | ((first | apply O_y rfl rfl rfl | apply Q_y rfl rfl rfl); (first | exact q_1 | exact q_2 | exact q_3 | exact q_4 | exact q_5 | exact q_6 | exact q_7 | exact q_8 | exact q_9 | exact q_10 | exact q_11 | exact q_12 | exact q_13 | exact q_14 | exact q_15 | exact q_16 | exact q_17 | exact q_18 | exact q_19 | exact q_20 | exact q_21 | exact q_22 | exact q_23 | exact q_24 | fail)) | refine O_nil ?_ | refine Q_nil ?_ | refine q_j ?_ | refine q_k ?_ | refine q_d ?_ | refine q_a ?_ | refine q_b ?_ | refine q_c ?_ | refine A_ct rfl ?_ | refine A_cf rfl ?_ | refine A_skip ?_ | refine A_exit ?_ | refine A_ret ?_ | refine q_l ?_ | refine q_m ?_ | refine q_n ?_ | refine q_h ?_ | refine q_o ?_ | refine q_e ?_ | refine q_f ?_ | refine q_g ?_ | fail)
      refine A_loop (fun i : Nat => (11, intA (i : Int)) :: lkdE l a b) (fun _ => lkdH ⟨⟨pa, pb⟩, zx, hs⟩) (fun i => i ≤ hs.length) (fun i => hs.length - i) 0 (Nat.zero_le _) (Wk_sel ⟨rfl, rfl, rfl, rfl, rfl, rfl, trivial⟩ ⟨rfl, rfl, trivial⟩) ?_
      intro i hi
      try dsimp only
      by_cases hih : i < hs.length
      · have hw3 := winH_at hs i hih
        have heq := hopEq hs[i] hs[i]
        rw [show (hs[i] == hs[i]) = true by simp] at heq
        repeat (first | refine A_seq ?_ | refine A_block ?_ | refine R_list ?_ | refine R_quiet rfl mixed (by kernel_rfl) ?_ | ((first | apply O_y rfl rfl rfl | apply Q_y rfl rfl rfl); (first | exact q_1 | exact q_2 | exact q_3 | exact q_4 | exact R_loadi tabOk rfl rfl rfl rfl hw3 rfl rfl | exact q_6 | exact q_7 | exact q_8 | exact q_9 | exact q_10 | exact q_11 | exact q_12 | exact q_13 | exact q_14 | exact q_15 | exact q_16 | exact q_17 | exact q_18 | exact q_19 | exact q_20 | exact q_21 | exact q_22 | exact q_23 | exact q_24 | (first | exact R_index (j := i) tabOk rfl rfl rfl rfl rfl rfl hih | exact Y_eq tabOk noStand rfl rfl rfl rfl rfl rfl rfl rfl rfl (by kernel_rfl) heq rfl))) | refine O_nil ?_ | refine Q_nil ?_ | refine q_j ?_ | refine q_k ?_ | refine q_d ?_ | refine q_a ?_ | refine q_b ?_ | refine q_c ?_ | refine A_ct rfl ?_ | refine A_cf rfl ?_ | refine A_skip ?_ | refine A_exit ?_ | refine A_ret ?_ | refine q_l ?_ | refine q_m ?_ | refine q_n ?_ | refine q_h ?_ | refine q_o ?_ | refine q_e ?_ | refine q_f ?_ | refine q_g ?_ | fail)
        exact ⟨i + 1, by omega, by omega, Wk_sel ⟨rfl, rfl, rfl, rfl, rfl, rfl, trivial⟩ ⟨rfl, rfl, trivial⟩⟩
      ·
        repeat (first | refine A_seq ?_ | refine A_block ?_ | refine R_list ?_ | ((first | apply O_y rfl rfl rfl | apply Q_y rfl rfl rfl); (first | exact q_1 | exact q_2 | exact q_3 | exact q_4 | exact q_5 | exact q_6 | exact q_7 | exact q_8 | exact q_9 | exact q_10 | exact q_11 | exact q_12 | exact q_13 | exact q_14 | exact q_15 | exact q_16 | exact q_17 | exact q_18 | exact q_19 | exact q_20 | exact q_21 | exact q_22 | exact q_23 | exact q_24 | fail)) | refine O_nil ?_ | refine Q_nil ?_ | refine q_j ?_ | refine q_k ?_ | refine q_d ?_ | refine q_a ?_ | refine q_b ?_ | refine q_c ?_ | refine A_ct rfl ?_ | refine A_cf rfl ?_ | refine A_skip ?_ | refine A_exit ?_ | refine A_ret ?_ | refine q_l ?_ | refine q_m ?_ | refine q_n ?_ | refine q_h ?_ | refine q_o ?_ | refine q_e ?_ | refine q_f ?_ | refine q_g ?_ | fail)
        refine O_weaken (Wk_sel (e1 := [(1, .d (.sc (.int .u32 a))), (7, .ptr 7 0), (8, boolA b), (102, rtesA l)]) (h1 := [(7, entB1 ⟨⟨pa, pb⟩, zx, hs⟩)]) ⟨rfl, rfl, rfl, rfl, trivial⟩ ⟨rfl, trivial⟩) ?_
        refine O_cRow rfl rfl rfl rfl rfl hent rfl ?_
        refine O_weaken (Wk_freeze (id := 950) rfl) ?_
        repeat (first | refine A_seq ?_ | refine A_block ?_ | refine R_list ?_ | ((first | apply O_y rfl rfl rfl | apply Q_y rfl rfl rfl); (first | exact q_1 | exact q_2 | exact q_3 | exact q_4 | exact q_5 | exact q_6 | exact q_7 | exact q_8 | exact q_9 | exact q_10 | exact q_11 | exact q_12 | exact q_13 | exact q_14 | exact q_15 | exact q_16 | exact q_17 | exact q_18 | exact q_19 | exact q_20 | exact q_21 | exact q_22 | exact q_23 | exact q_24 | fail)) | refine O_nil ?_ | refine Q_nil ?_ | refine q_j ?_ | refine q_k ?_ | refine q_d ?_ | refine q_a ?_ | refine q_b ?_ | refine q_c ?_ | refine A_ct rfl ?_ | refine A_cf rfl ?_ | refine A_skip ?_ | refine A_exit ?_ | refine A_ret ?_ | refine q_l ?_ | refine q_m ?_ | refine q_n ?_ | refine q_h ?_ | refine q_o ?_ | refine q_e ?_ | refine q_f ?_ | refine q_g ?_ | fail)
        refine A_loop (fun x : Nat × Bool => [(1, .d (.sc (.int .u32 a))), (7, .ptr 7 0), (8, boolA b), (12, entsA E), (13, boolA x.2), (14, intA (x.1 : Int))]) (fun _ => [(7, entB1 ⟨⟨pa, pb⟩, zx, hs⟩)]) (fun x => x.1 ≤ E.length ∧ x.2 = (E.take x.1).any fun y => inB a y.p && decide (y.p = ⟨pa, pb⟩)) (fun x => E.length - x.1) (0, false) ⟨Nat.zero_le _, rfl⟩ (Wk_sel ⟨rfl, rfl, rfl, rfl, rfl, rfl, trivial⟩ ⟨rfl, trivial⟩) ?_
        rintro ⟨i, s⟩ ⟨hi, hs2⟩
        dsimp only at hi hs2 ⊢
        by_cases hiE : i < E.length
        · have hm := List.getElem_mem hiE
          have hat := any_take (fun y : Ent => inB a y.p && decide (y.p = ⟨pa, pb⟩)) E i hiE
          rw [← hs2] at hat
          have hin := refIn_A a E[i].p (hpok _ hm) a0 a1
          cases hib : inB a E[i].p with
          | false =>
            rw [hib] at hin
            rw [hib, Bool.false_and, Bool.or_false] at hat
            repeat (first | refine A_seq ?_ | refine A_block ?_ | refine R_list ?_ | refine R_quiet rfl mixed (by kernel_rfl) ?_ | ((first | apply O_y rfl rfl rfl | apply Q_y rfl rfl rfl); (first | exact q_1 | exact q_2 | exact q_3 | exact q_4 | exact R_loadi tabOk rfl rfl rfl rfl (by first | exact win_flat0 entD_len E i _ hiE (by decide) | exact win_flat entD_len E i _ _ hiE (by decide) | exact win_flat2 entD_len E i _ _ _ hiE (by decide) | rfl) rfl rfl | exact q_6 | exact q_7 | exact q_8 | exact q_9 | exact q_10 | exact q_11 | exact q_12 | exact q_13 | exact q_14 | exact q_15 | exact q_16 | exact q_17 | exact q_18 | exact q_19 | exact q_20 | exact q_21 | exact q_22 | exact q_23 | exact q_24 | fail)) | refine O_nil ?_ | refine Q_nil ?_ | refine q_j ?_ | refine q_k ?_ | refine q_d ?_ | refine q_a ?_ | refine q_b ?_ | refine q_c ?_ | refine A_ct rfl ?_ | refine A_cf rfl ?_ | refine A_skip ?_ | refine A_exit ?_ | refine A_ret ?_ | refine q_l ?_ | refine q_m ?_ | refine q_n ?_ | refine q_h ?_ | refine q_o ?_ | refine q_e ?_ | refine q_f ?_ | refine q_g ?_ | (first | refine Q_c rfl rfl rfl rfl rfl hin rfl (fun _ _ _ => val_mk _ _ _ _ _ rfl rfl) ?_ | refine O_c rfl rfl rfl rfl rfl hin (fun _ => rfl) ?_))
            exact ⟨(i + 1, s), ⟨by dsimp only; omega, hat.symm⟩, by dsimp only; omega, Wk_sel ⟨rfl, rfl, rfl, rfl, rfl, rfl, trivial⟩ ⟨rfl, trivial⟩⟩
          | true =>
            rw [hib] at hin
            rw [hib, Bool.true_and] at hat
            rcases hlaw with ⟨rfl, hl1, hl2, hl3⟩ | ⟨_, _, hl3⟩
            · have hle := hl3 _ hm hib
              dsimp only at hle
              cases s with
              | true =>
                repeat (first | refine A_seq ?_ | refine A_block ?_ | refine R_list ?_ | refine R_quiet rfl mixed (by kernel_rfl) ?_ | ((first | apply O_y rfl rfl rfl | apply Q_y rfl rfl rfl); (first | exact q_1 | exact q_2 | exact q_3 | exact q_4 | exact R_loadi tabOk rfl rfl rfl rfl (by first | exact win_flat0 entD_len E i _ hiE (by decide) | exact win_flat entD_len E i _ _ hiE (by decide) | exact win_flat2 entD_len E i _ _ _ hiE (by decide) | rfl) rfl rfl | exact q_6 | exact q_7 | exact q_8 | exact q_9 | exact q_10 | exact q_11 | exact q_12 | exact q_13 | exact q_14 | exact q_15 | exact q_16 | exact q_17 | exact q_18 | exact q_19 | exact q_20 | exact q_21 | exact q_22 | exact q_23 | exact q_24 | fail)) | refine O_nil ?_ | refine Q_nil ?_ | refine q_j ?_ | refine q_k ?_ | refine q_d ?_ | refine q_a ?_ | refine q_b ?_ | refine q_c ?_ | refine A_ct rfl ?_ | refine A_cf rfl ?_ | refine A_skip ?_ | refine A_exit ?_ | refine A_ret ?_ | refine q_l ?_ | refine q_m ?_ | refine q_n ?_ | refine q_h ?_ | refine q_o ?_ | refine q_e ?_ | refine q_f ?_ | refine q_g ?_ | (first | refine Q_c rfl rfl rfl rfl rfl hin rfl (fun _ _ _ => val_mk _ _ _ _ _ rfl rfl) ?_ | refine O_c rfl rfl rfl rfl rfl hin (fun _ => rfl) ?_))
                exact ⟨(i + 1, true), ⟨by dsimp only; omega, hat.symm⟩, by dsimp only; omega, Wk_sel ⟨rfl, rfl, rfl, rfl, rfl, rfl, trivial⟩ ⟨rfl, trivial⟩⟩
              | false =>
                rw [Bool.false_or] at hat
                have hpe := pfxEq E[i].p ⟨pa, pb⟩
                by_cases he : E[i].p = ⟨pa, pb⟩
                · rw [show (E[i].p == ⟨pa, pb⟩) = true by simpa using he] at hpe
                  rw [decide_eq_true he] at hat
                  repeat (first | refine A_seq ?_ | refine A_block ?_ | refine R_list ?_ | refine R_quiet rfl mixed (by kernel_rfl) ?_ | ((first | apply O_y rfl rfl rfl | apply Q_y rfl rfl rfl); (first | exact q_1 | exact q_2 | exact q_3 | exact q_4 | exact R_loadi tabOk rfl rfl rfl rfl (by first | exact win_flat0 entD_len E i _ hiE (by decide) | exact win_flat entD_len E i _ _ hiE (by decide) | exact win_flat2 entD_len E i _ _ _ hiE (by decide) | rfl) rfl rfl | exact q_6 | exact q_7 | exact q_8 | exact q_9 | exact q_10 | exact q_11 | exact q_12 | exact q_13 | exact q_14 | exact q_15 | exact q_16 | exact q_17 | exact q_18 | exact q_19 | exact q_20 | exact q_21 | exact q_22 | exact q_23 | exact q_24 | exact Y_eq tabOk noStand rfl rfl rfl rfl rfl rfl rfl rfl rfl (by kernel_rfl) hpe rfl)) | refine O_nil ?_ | refine Q_nil ?_ | refine q_j ?_ | refine q_k ?_ | refine q_d ?_ | refine q_a ?_ | refine q_b ?_ | refine q_c ?_ | refine A_ct rfl ?_ | refine A_cf rfl ?_ | refine A_skip ?_ | refine A_exit ?_ | refine A_ret ?_ | refine q_l ?_ | refine q_m ?_ | refine q_n ?_ | refine q_h ?_ | refine q_o ?_ | refine q_e ?_ | refine q_f ?_ | refine q_g ?_ | (first | refine Q_c rfl rfl rfl rfl rfl hin rfl (fun _ _ _ => val_mk _ _ _ _ _ rfl rfl) ?_ | refine O_c rfl rfl rfl rfl rfl hin (fun _ => rfl) ?_))
                  exact ⟨(i + 1, true), ⟨by dsimp only; omega, hat.symm⟩, by dsimp only; omega, Wk_sel ⟨rfl, rfl, rfl, rfl, rfl, rfl, trivial⟩ ⟨rfl, trivial⟩⟩
                · rw [show (E[i].p == ⟨pa, pb⟩) = false by simpa using he] at hpe
                  rw [decide_eq_false he] at hat
                  repeat (first | refine A_seq ?_ | refine A_block ?_ | refine R_list ?_ | refine R_quiet rfl mixed (by kernel_rfl) ?_ | ((first | apply O_y rfl rfl rfl | apply Q_y rfl rfl rfl); (first | exact q_1 | exact q_2 | exact q_3 | exact q_4 | exact R_loadi tabOk rfl rfl rfl rfl (by first | exact win_flat0 entD_len E i _ hiE (by decide) | exact win_flat entD_len E i _ _ hiE (by decide) | exact win_flat2 entD_len E i _ _ _ hiE (by decide) | rfl) rfl rfl | exact q_6 | exact q_7 | exact q_8 | exact q_9 | exact q_10 | exact q_11 | exact q_12 | exact q_13 | exact q_14 | exact q_15 | exact q_16 | exact q_17 | exact q_18 | exact q_19 | exact q_20 | exact q_21 | exact q_22 | exact q_23 | exact q_24 | exact Y_eq tabOk noStand rfl rfl rfl rfl rfl rfl rfl rfl rfl (by kernel_rfl) hpe rfl)) | refine O_nil ?_ | refine Q_nil ?_ | refine q_j ?_ | refine q_k ?_ | refine q_d ?_ | refine q_a ?_ | refine q_b ?_ | refine q_c ?_ | refine A_ct rfl ?_ | refine A_cf rfl ?_ | refine A_skip ?_ | refine A_exit ?_ | refine A_ret ?_ | refine q_l ?_ | refine q_m ?_ | refine q_n ?_ | refine q_h ?_ | refine q_o ?_ | refine q_e ?_ | refine q_f ?_ | refine q_g ?_ | (first | refine Q_c rfl rfl rfl rfl rfl hin rfl (fun _ _ _ => val_mk _ _ _ _ _ rfl rfl) ?_ | refine O_c rfl rfl rfl rfl rfl hin (fun _ => rfl) ?_))
                  exact ⟨(i + 1, false), ⟨by dsimp only; omega, hat.symm⟩, by dsimp only; omega, Wk_sel ⟨rfl, rfl, rfl, rfl, rfl, rfl, trivial⟩ ⟨rfl, trivial⟩⟩
            · rw [hl3 _ hm] at hib; cases hib
        · have : i = E.length := by omega
          subst this
          rw [List.take_length] at hs2
          have hsb : s = b := by
            rw [hs2]
            rcases hlaw with ⟨rfl, hl1, hl2, hl3⟩ | ⟨rfl, _, hl3⟩
            · exact List.any_eq_true.2 ⟨_, hl1, by dsimp only at hl2 ⊢; rw [hl2]; simp⟩
            · exact List.any_eq_false.2 fun y hy => by rw [hl3 y hy]; simp
          subst hsb
          clear hlaw hs2 hlook
          cases s with
          | true =>
            repeat (first | refine A_seq ?_ | refine A_block ?_ | refine R_list ?_ | refine R_quiet rfl mixed (by kernel_rfl) ?_ | ((first | apply O_y rfl rfl rfl | apply Q_y rfl rfl rfl); (first | exact q_1 | exact q_2 | exact q_3 | exact q_4 | exact q_5 | exact q_6 | exact q_7 | exact q_8 | exact q_9 | exact q_10 | exact q_11 | exact q_12 | exact q_13 | exact q_14 | exact q_15 | exact q_16 | exact q_17 | exact q_18 | exact q_19 | exact q_20 | exact q_21 | exact q_22 | exact q_23 | exact q_24 | (exact Y_bbin tabOk rfl rfl rfl rfl rfl))) | refine O_nil ?_ | refine Q_nil ?_ | refine q_j ?_ | refine q_k ?_ | refine q_d ?_ | refine q_a ?_ | refine q_b ?_ | refine q_c ?_ | refine A_ct rfl ?_ | refine A_cf rfl ?_ | refine A_skip ?_ | refine A_exit ?_ | refine A_ret ?_ | refine q_l ?_ | refine q_m ?_ | refine q_n ?_ | refine q_h ?_ | refine q_o ?_ | refine q_e ?_ | refine q_f ?_ | refine q_g ?_ | fail)
            exact X_ret rfl ⟨rfl, rfl⟩
          | false =>
            repeat (first | refine A_seq ?_ | refine A_block ?_ | refine R_list ?_ | refine R_quiet rfl mixed (by kernel_rfl) ?_ | ((first | apply O_y rfl rfl rfl | apply Q_y rfl rfl rfl); (first | exact q_1 | exact q_2 | exact q_3 | exact q_4 | exact q_5 | exact q_6 | exact q_7 | exact q_8 | exact q_9 | exact q_10 | exact q_11 | exact q_12 | exact q_13 | exact q_14 | exact q_15 | exact q_16 | exact q_17 | exact q_18 | exact q_19 | exact q_20 | exact q_21 | exact q_22 | exact q_23 | exact q_24 | (exact Y_bbin tabOk rfl rfl rfl rfl rfl))) | refine O_nil ?_ | refine Q_nil ?_ | refine q_j ?_ | refine q_k ?_ | refine q_d ?_ | refine q_a ?_ | refine q_b ?_ | refine q_c ?_ | refine A_ct rfl ?_ | refine A_cf rfl ?_ | refine A_skip ?_ | refine A_exit ?_ | refine A_ret ?_ | refine q_l ?_ | refine q_m ?_ | refine q_n ?_ | refine q_h ?_ | refine q_o ?_ | refine q_e ?_ | refine q_f ?_ | refine q_g ?_ | fail)
            exact X_ret rfl ⟨rfl, rfl⟩
end Go.Proofs.YtamnhhjcgloceaaGreat.Ab

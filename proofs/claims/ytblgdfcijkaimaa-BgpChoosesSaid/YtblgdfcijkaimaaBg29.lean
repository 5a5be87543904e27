/-
  Texts of a proof, one behind the other (part 30).
-/
import Derived.Test.YtblgdfcijkaimaaBg1
import Derived.Test.YtblgdfcijkaimaaBg11
import Derived.Test.YtblgdfcijkaimaaBg26
import Derived.Test.YtblgdfcijkaimaaBg27
import Derived.Test.YtblgdfcijkaimaaBg28
set_option linter.unusedVariables false
set_option linter.unusedSimpArgs false
namespace Go.Proofs.Ytblgdfcijkaimaa
set_option linter.unusedVariables false
def findI (p : Pfx) : List Adv → Nat → Int
  | [], _ => -1
  | x :: l, i => if x.p = p then (i : Int) else findI p l (i + 1)
theorem findI_neg (p : Pfx) : ∀ (l : List Adv) (i : Nat), (findI p l i < 0 ↔ ∀ y ∈ l, y.p ≠ p) ∧ -1 ≤ findI p l i ∧ findI p l i < (i + l.length : Nat)
  | [], i => ⟨by simp [findI], by simp [findI], by simp [findI]; omega⟩
  | x :: l, i => by
    obtain ⟨h1, h2, h3⟩ := findI_neg p l (i + 1)
    unfold findI
    by_cases h : x.p = p
    · rw [if_pos h]
      refine ⟨?_, by omega, by rw [List.length_cons]; omega⟩
      constructor
      · intro h4; omega
      · intro h4; exact absurd h (h4 x (by simp))
    · rw [if_neg h]
      refine ⟨h1.trans ?_, h2, by rw [List.length_cons]; omega⟩
      constructor
      · intro h4 y hy
        rcases List.mem_cons.1 hy with rfl | h5
        · exact h
        · exact h4 y h5
      · intro h4 y hy; exact h4 y (List.mem_cons_of_mem _ hy)
theorem findI_drop (p : Pfx) (l : List Adv) (k : Nat) (hk : k < l.length) : findI p (l.drop k) k = if l[k].p = p then (k : Int) else findI p (l.drop (k + 1)) (k + 1) := by
  rw [List.drop_eq_getElem_cons hk, findI]
def badB (r : List Rte) (x : Adv) (c : Int) (y : Adv) : Bool := (useP y r).2 && decide (y.p = x.p) && betR y x (useP y r).1 c
theorem Mn_iff {r : List Rte} {l : List Adv} {x : Adv} {c : Int} : Mn (useL r l) (x, c) ↔ (l.all fun y => !badB r x c y) = true := by
  rw [List.all_eq_true]
  constructor
  · intro h y hy
    cases hb : badB r x c y with
    | false => rfl
    | true =>
      unfold badB at hb
      simp only [Bool.and_eq_true, decide_eq_true_eq] at hb
      obtain ⟨⟨h1, h2⟩, h3⟩ := hb
      have := h (y, (useP y r).1) (useL_mem.2 ⟨hy, by rw [← h1]⟩) h2
      rw [← ordT_lt, ← bord_lt] at h3
      omega
  · intro h y hy hp
    obtain ⟨h1, h2⟩ := useL_mem.1 hy
    have h3 := h y.1 h1
    have h4 : badB r x c y.1 = false := by simpa using h3
    unfold badB at h4
    rw [h2, decide_eq_true hp] at h4
    simp only [Bool.true_and] at h4
    have h5 : ¬ bord (y.1, y.2) (x, c) < 0 := by rw [bord_lt, ordT_lt, h4]; simp
    have : ¬ bord y (x, c) < 0 := h5
    omega
theorem useL_split (r : List Rte) (l : List Adv) (k : Nat) (hk : k < l.length) {c : Int} (h : useP l[k] r = (c, true)) : useL r l = useL r (l.take k) ++ [(l[k], c)] ++ useL r (l.drop (k + 1)) := by
  have e : l = l.take k ++ [l[k]] ++ l.drop (k + 1) := by rw [← List.take_succ_eq_append_getElem hk, List.take_append_drop]
  have e2 : useL r (l.take k ++ [l[k]] ++ l.drop (k + 1)) = useL r (l.take k) ++ [(l[k], c)] ++ useL r (l.drop (k + 1)) := by
    unfold useL
    rw [List.filterMap_append, List.filterMap_append]
    congr 2
    simp only [List.filterMap_cons, List.filterMap_nil, h, if_true]
  rw [← e2, ← e]
namespace Ab
set_option maxRecDepth 100000
open Go.RowKit Go.Lib
section
variable {P : Program} {nt : Nat} {Q : Post} {e : Env} {h : Heap} {ops : Array Oper} {o : Oper} {rest : List Oper} {T : List Nat} {tab : TTab}
theorem R_dFrom {t el k m : Nat} {x y : Operand} {cs : List Dat} {n : Nat} {q : IntKind} {i : Int} (hcs : cs.length = n * k) (hm : m ≤ n) (TO : TabOk P tab) (ho : o.op = .slice t x (some y) none none) (hel : telem tab t = some el) (hsz : tsize tab el = some k) (hx : aev e x = some (.d (.sl cs n))) (hy : aev e y = some (.d (.sc (.int q i)))) (hi : i = (m : Int)) :
    AYield P T e h o (.d (.sl (cs.drop (m * k)) (n - m))) := by
  obtain ⟨te, h1, h2⟩ := telem_spec hel
  obtain ⟨te', h3, rfl⟩ := tsize_spec hsz
  subst hi
  refine yield_of _ fun w F ι a E => ?_
  have hv := aev_rel E hx
  have hk := (sc_of (aev_rel E hy)).1
  generalize hau : a.eval x = u at hv
  cases hv with
  | d _ _ hd =>
    cases hd with
    | nil =>
      obtain rfl : m = 0 := by omega
      refine ⟨.slice none 0 0, ?_, fun w' => by simp only [execOp, ho, hau]; simp [hk]; rw [show (0 : Int) = ((0 : Nat) : Int) from rfl, run_cutFrom w' (TO t te h1) h2 (TO el te' h3) none 0 0 q 0 (Nat.le_refl _)]; rfl⟩
      rw [List.drop_nil]; exact .d _ _ .nil
    | emp aa =>
      obtain rfl : m = 0 := by omega
      refine ⟨.slice (some aa) 0 0, ?_, fun w' => by simp only [execOp, ho, hau]; simp [hk]; rw [show (0 : Int) = ((0 : Nat) : Int) from rfl, run_cutFrom w' (TO t te h1) h2 (TO el te' h3) (some aa) 0 0 q 0 (Nat.le_refl _)]; rfl⟩
      rw [List.drop_nil]; exact .d _ _ (.emp aa)
    | sl _ _ b off cap vs hn hl hf hc hr =>
      have hdl : (cs.drop (m * te'.size)).length = (n - m) * te'.size := by rw [List.length_drop, hcs, Nat.sub_mul]
      by_cases hcm : cap = m
      · have hnm : n - m = 0 := by omega
        have hnil : cs.drop (m * te'.size) = [] := List.length_eq_zero_iff.1 (by rw [hdl, hnm]; simp)
        refine ⟨.slice (some ⟨b, off, none⟩) (n - m) (cap - m), ?_, fun w' => by simp only [execOp, ho, hau]; simp [hk]; rw [run_cutFrom w' (TO t te h1) h2 (TO el te' h3) _ n cap q m hm, if_pos hcm]; rfl⟩
        rw [hnil]
        exact .d _ _ (.sl [] (n - m) b off (cap - m) [] (by omega) rfl (fun h => absurd rfl h) (fun i u h => by simp at h) fun i c u h => by simp at h)
      · refine ⟨.slice (some ⟨b, off + m * te'.size, none⟩) (n - m) (cap - m), ?_, fun w' => by
          simp only [execOp, ho, hau]; simp [hk]; rw [run_cutFrom w' (TO t te h1) h2 (TO el te' h3) _ n cap q m hm, if_neg hcm]
          simp only [Option.map_some, add_lit0]
          rfl⟩
        refine .d _ _ (.sl _ (n - m) b (off + m * te'.size) (cap - m) (vs.drop (m * te'.size)) (by omega) (by rw [List.length_drop, List.length_drop, hl]) (fun h => hf (by rintro rfl; simp at h)) (fun i u h => ?_) fun i c u h4 h5 => ?_)
        · rw [List.getElem?_drop] at h
          rw [Nat.add_assoc]
          exact hc _ u h
        · rw [List.getElem?_drop] at h4 h5
          exact hr _ c u h4 h5
end
set_option linter.unusedSimpArgs false
attribute [local irreducible] AWp AOps AQ AYield AEff ACall AWk AAny AAt AThen AIn APost NoPanic
theorem bgSame_A (p q : Pfx) : ACall Try.prog 22 [pfxA p, pfxA q] [] (Just (boolA (decide (p = q)))) := by
  obtain ⟨a, b⟩ := p
  obtain ⟨a', b'⟩ := q
  by_cases h1 : a = a'
  · by_cases h2 : b = b'
    · rw [decide_eq_true (by rw [h1, h2])]
      refine ACall_of tabOk Try.func22 rfl Try.ntmps22 (congrArg Array.toList Try.results22) (by kernel_rfl) rfl ?_
      repeat (first | refine q_Z ?_ | refine R_quiet rfl mixed (by kernel_rfl) ?_ | ((first | apply O_y rfl rfl rfl | apply Q_y rfl rfl rfl); (first | exact q_A | exact q_5 | exact q_B | (first | exact q_25 | exact q_26 | exact q_20))) | refine q_d ?_ | refine q_a ?_ | refine q_b ?_ | refine q_c ?_ | refine A_ct rfl ?_ | refine A_cf rfl ?_ | refine q_W ?_)
      exact X_ret rfl ⟨rfl, rfl⟩
    · rw [decide_eq_false (fun h => h2 (by injection h))]
      refine ACall_of tabOk Try.func22 rfl Try.ntmps22 (congrArg Array.toList Try.results22) (by kernel_rfl) rfl ?_
      repeat (first | refine q_Z ?_ | refine R_quiet rfl mixed (by kernel_rfl) ?_ | ((first | apply O_y rfl rfl rfl | apply Q_y rfl rfl rfl); (first | exact q_A | exact q_5 | exact q_B | (first | exact q_25 | exact q_26 | exact q_20))) | refine q_d ?_ | refine q_a ?_ | refine q_b ?_ | refine q_c ?_ | refine A_ct rfl ?_ | refine A_cf rfl ?_ | refine q_W ?_)
      exact X_ret rfl ⟨rfl, rfl⟩
  · rw [decide_eq_false (fun h => h1 (by injection h))]
    refine ACall_of tabOk Try.func22 rfl Try.ntmps22 (congrArg Array.toList Try.results22) (by kernel_rfl) rfl ?_
    repeat (first | refine q_Z ?_ | refine R_quiet rfl mixed (by kernel_rfl) ?_ | ((first | apply O_y rfl rfl rfl | apply Q_y rfl rfl rfl); (first | exact q_A | exact q_5 | exact q_B | (first | exact q_25 | exact q_26 | exact q_20))) | refine q_d ?_ | refine q_a ?_ | refine q_b ?_ | refine q_c ?_ | refine A_ct rfl ?_ | refine A_cf rfl ?_ | refine q_W ?_)
    exact X_ret rfl ⟨rfl, rfl⟩
theorem bgFind_A (l : List Adv) (p : Pfx) (hn : l.length ≤ 1000000) : ACall Try.prog 21 [advsA l, pfxA p] [] (Just (intA (findI p l 0))) := by
  refine ACall_of tabOk Try.func21 rfl Try.ntmps21 (congrArg Array.toList Try.results21) (by kernel_rfl) rfl ?_
  repeat (first | refine q_Z ?_ | refine R_quiet rfl mixed (by kernel_rfl) ?_ | ((first | apply O_y rfl rfl rfl | apply Q_y rfl rfl rfl); (first | exact q_A | exact q_5 | exact q_B)) | refine q_d ?_ | refine q_a ?_ | refine q_b ?_ | refine q_c ?_ | refine A_ct rfl ?_ | refine A_cf rfl ?_ | refine q_W ?_)
  refine A_loop (fun k : Nat => [(0, advsA l), (3, .ptr 3 0), (5, intA (k : Int))]) (fun _ => [(3, .var ((pfxD p).map .d))]) (fun k => k ≤ l.length ∧ findI p l 0 = findI p (l.drop k) k) (fun k => l.length - k) 0 ⟨Nat.zero_le _, rfl⟩ (Wk_sel ⟨rfl, rfl, rfl, trivial⟩ ⟨rfl, trivial⟩) ?_
  rintro k ⟨hkl, hf⟩
  try dsimp only
  by_cases hk : k < l.length
  · rw [findI_drop p l k hk] at hf
    have hs := bgSame_A l[k].p p
    by_cases h : l[k].p = p
    · rw [if_pos h] at hf
      rw [hf]
      rw [decide_eq_true h] at hs
      repeat (first | refine q_Z ?_ | refine R_quiet rfl mixed (by kernel_rfl) ?_ | ((first | apply O_y rfl rfl rfl | apply Q_y rfl rfl rfl); (first | exact q_A | exact R_loadi tabOk rfl rfl rfl rfl (by first | exact win_flat0 advD_len l k _ hk (by decide) | exact win_flat advD_len l k _ _ hk (by decide) | exact win_flat2 advD_len l k _ _ _ hk (by decide) | rfl) rfl rfl | exact q_B | (first | exact q_25 | exact q_26 | exact q_20))) | refine q_d ?_ | refine q_a ?_ | refine q_b ?_ | refine q_c ?_ | refine A_ct rfl ?_ | refine A_cf rfl ?_ | refine q_W ?_ | (first | refine Q_c rfl rfl rfl rfl rfl hs rfl (fun _ _ _ => val_mk _ _ _ _ _ rfl rfl) ?_ | refine O_c rfl rfl rfl rfl rfl hs (fun _ => rfl) ?_))
      exact X_ret rfl ⟨rfl, rfl⟩
    · rw [if_neg h] at hf
      rw [decide_eq_false h] at hs
      repeat (first | refine q_Z ?_ | refine R_quiet rfl mixed (by kernel_rfl) ?_ | ((first | apply O_y rfl rfl rfl | apply Q_y rfl rfl rfl); (first | exact q_A | exact R_loadi tabOk rfl rfl rfl rfl (by first | exact win_flat0 advD_len l k _ hk (by decide) | exact win_flat advD_len l k _ _ hk (by decide) | exact win_flat2 advD_len l k _ _ _ hk (by decide) | rfl) rfl rfl | exact q_B | (first | exact q_25 | exact q_26 | exact q_20))) | refine q_d ?_ | refine q_a ?_ | refine q_b ?_ | refine q_c ?_ | refine A_ct rfl ?_ | refine A_cf rfl ?_ | refine q_W ?_ | (first | refine Q_c rfl rfl rfl rfl rfl hs rfl (fun _ _ _ => val_mk _ _ _ _ _ rfl rfl) ?_ | refine O_c rfl rfl rfl rfl rfl hs (fun _ => rfl) ?_))
      exact ⟨k + 1, ⟨by omega, hf⟩, by omega, Wk_sel ⟨rfl, rfl, rfl, trivial⟩ ⟨rfl, trivial⟩⟩
  · obtain rfl : k = l.length := by omega
    rw [List.drop_length, findI] at hf
    rw [hf]
    repeat (first | refine q_Z ?_ | refine R_quiet rfl mixed (by kernel_rfl) ?_ | ((first | apply O_y rfl rfl rfl | apply Q_y rfl rfl rfl); (first | exact q_A | exact q_5 | exact q_B | (first | exact q_25 | exact q_26 | exact q_20))) | refine q_d ?_ | refine q_a ?_ | refine q_b ?_ | refine q_c ?_ | refine A_ct rfl ?_ | refine A_cf rfl ?_ | refine q_W ?_)
    exact X_ret rfl ⟨rfl, rfl⟩
theorem advs_take (l : List Adv) (k : Nat) (hk : k ≤ l.length) : ∃ ys, l.flatMap advD = (l.take k).flatMap advD ++ ys := ⟨(l.drop k).flatMap advD, by rw [← List.flatMap_append, List.take_append_drop]⟩
theorem advs_drop (l : List Adv) (k : Nat) (hk : k ≤ l.length) : (l.flatMap advD).drop (k * 13) = (l.drop k).flatMap advD := by
  have h1 : ((l.take k).flatMap advD).length = k * 13 := by rw [flat_len advD_len, List.length_take, Nat.min_eq_left hk]
  have h2 : l.flatMap advD = (l.take k).flatMap advD ++ (l.drop k).flatMap advD := by rw [← List.flatMap_append, List.take_append_drop]
  rw [h2, ← h1, List.drop_left]
theorem advs_see (l : List Adv) (k : Nat) (hk : k ≤ l.length) (w : World) (F : Nat → Prop) (ι : Nat → Option Value) (u : Value) (h : VRel w F ι (.d (.sl (l.flatMap advD) k)) u) : VRel w F ι (.d (.sl ((l.take k).flatMap advD) k)) u := by
  obtain ⟨ys, hy⟩ := advs_take l k hk
  rw [hy] at h
  exact see_pfx w F ι u h
theorem advs_tlen (l : List Adv) (k : Nat) (hk : k ≤ l.length) : ((l.take k).flatMap advD).length = k * 13 := by rw [flat_len advD_len, List.length_take, Nat.min_eq_left hk]
theorem advs_dlen (l : List Adv) (k : Nat) (hk : k ≤ l.length) : ((l.flatMap advD).drop (k * 13)).length = (l.length - k) * 13 := by rw [advs_drop l k hk, flat_len advD_len, List.length_drop]
theorem advs_ins (l : List Adv) (a : Adv) (k : Nat) (hk : k ≤ l.length) : k + 1 + (l.length - k) = (l.take k ++ [a] ++ l.drop k).length ∧ (l.take k).flatMap advD ++ advD a ++ (l.flatMap advD).drop (k * 13) = (l.take k ++ [a] ++ l.drop k).flatMap advD := by
  refine ⟨by simp; omega, ?_⟩
  rw [advs_drop l k hk, List.flatMap_append, List.flatMap_append]
  simp
set_option maxHeartbeats 16000000 in
theorem bgPut_A (l : List Adv) (a : Adv) (hn : l.length ≤ 1000) : ACall Try.prog 23 [advsA l, advA a] [] (fun c h => ∃ k, (k ≤ l.length ∧ (∀ (i : Nat) (hi : i < l.length), i < k → cmpP l[i].p a.p < 0) ∧ ∀ hk2 : k < l.length, ¬ cmpP l[k].p a.p < 0) ∧ c = advsA (l.take k ++ [a] ++ l.drop k) ∧ h = []) := by
  refine ACall_of tabOk Try.func23 rfl Try.ntmps23 (congrArg Array.toList Try.results23) (by kernel_rfl) rfl ?_
  repeat (first | refine q_Z ?_ | refine R_quiet rfl mixed (by kernel_rfl) ?_ | ((first | apply O_y rfl rfl rfl | apply Q_y rfl rfl rfl); (first | exact q_A | exact q_5 | exact q_B)) | refine q_d ?_ | refine q_a ?_ | refine q_b ?_ | refine q_c ?_ | refine A_ct rfl ?_ | refine A_cf rfl ?_ | refine q_W ?_)
  refine A_loop (fun k : Nat => [(0, advsA l), (3, .ptr 3 0), (5, intA (k : Int))]) (fun _ => [(3, .var ((advD a).map .d))]) (fun k => k ≤ l.length ∧ ∀ (i : Nat) (hi : i < l.length), i < k → cmpP l[i].p a.p < 0) (fun k => l.length - k) 0 ⟨Nat.zero_le _, fun i _ h => by omega⟩ (Wk_sel ⟨rfl, rfl, rfl, trivial⟩ ⟨rfl, trivial⟩) ?_
  rintro k ⟨hkl, hf⟩
  try dsimp only
  obtain ⟨hn1, hc1⟩ := advs_ins l a k hkl
  by_cases hk : k < l.length
  · have hc := refCmp_A l[k].p a.p
    obtain ⟨z, hz⟩ : ∃ z, cmpP l[k].p a.p = z := ⟨_, rfl⟩
    rw [hz] at hc
    by_cases h0 : z < 0
    ·
      repeat (first | refine q_Z ?_ | refine R_quiet rfl mixed (by kernel_rfl) ?_ | ((first | apply O_y rfl rfl rfl | apply Q_y rfl rfl rfl); (first | exact q_A | exact R_loadi tabOk rfl rfl rfl rfl (by first | exact win_flat0 advD_len l k _ hk (by decide) | exact win_flat advD_len l k _ _ hk (by decide) | exact win_flat2 advD_len l k _ _ _ hk (by decide) | rfl) rfl rfl | exact q_B | (first | exact q_25 | exact q_26 | exact q_20))) | refine q_d ?_ | refine q_a ?_ | refine q_b ?_ | refine q_c ?_ | refine A_ct rfl ?_ | refine A_cf rfl ?_ | refine q_W ?_ | (first | refine Q_c rfl rfl rfl rfl rfl hc rfl (fun _ _ _ => val_mk _ _ _ _ _ rfl rfl) ?_ | refine O_c rfl rfl rfl rfl rfl hc (fun _ => rfl) ?_))
      exact ⟨k + 1, ⟨by omega, fun i hi hik => by
        by_cases e : i = k
        · subst e; rw [hz]; exact h0
        · exact hf i hi (by omega)⟩, by omega, Wk_sel ⟨rfl, rfl, rfl, trivial⟩ ⟨rfl, trivial⟩⟩
    ·
      repeat (first | refine q_Z ?_ | refine R_quiet rfl mixed (by kernel_rfl) ?_ | ((first | apply O_y rfl rfl rfl | apply Q_y rfl rfl rfl); (first | exact q_A | exact R_loadi tabOk rfl rfl rfl rfl (by first | exact win_flat0 advD_len l k _ hk (by decide) | exact win_flat advD_len l k _ _ hk (by decide) | exact win_flat2 advD_len l k _ _ _ hk (by decide) | rfl) rfl rfl | exact q_B | (first | exact q_25 | exact q_26 | exact q_20))) | refine q_d ?_ | refine q_a ?_ | refine q_b ?_ | refine q_c ?_ | refine A_ct rfl ?_ | refine A_cf rfl ?_ | refine q_W ?_ | (first | refine Q_c rfl rfl rfl rfl rfl hc rfl (fun _ _ _ => val_mk _ _ _ _ _ rfl rfl) ?_ | refine O_c rfl rfl rfl rfl rfl hc (fun _ => rfl) ?_))
      refine O_y rfl rfl rfl (R_sliceD tabOk rfl rfl rfl rfl rfl rfl hkl) ?_
      refine O_weaken (Wk_see (t := 27) rfl (advs_see l _ hkl)) ?_
      refine O_appN tabOk rfl rfl rfl rfl rfl rfl rfl rfl rfl rfl (Src.dat _ _) (advs_tlen l _ hkl) (by omega) ?_
      repeat (first | refine q_Z ?_ | refine R_quiet rfl mixed (by kernel_rfl) ?_ | ((first | apply O_y rfl rfl rfl | apply Q_y rfl rfl rfl); (first | exact q_A | exact q_5 | exact q_B | (first | exact q_25 | exact q_26 | exact q_20))) | refine q_d ?_ | refine q_a ?_ | refine q_b ?_ | refine q_c ?_ | refine A_ct rfl ?_ | refine A_cf rfl ?_ | refine q_W ?_ | (first | refine O_appR tabOk rfl rfl rfl rfl rfl rfl rfl rfl rfl rfl rfl (by first | exact Src.row rfl | exact Src.dat _ _ | exact Src.nil) rfl (by omega) ?_ | refine O_appN tabOk rfl rfl rfl rfl rfl rfl rfl rfl rfl rfl (by first | exact Src.row rfl | exact Src.dat _ _ | exact Src.nil) rfl (by omega) ?_))
      refine O_y rfl rfl rfl (R_dFrom (flat_len advD_len l) hkl tabOk rfl rfl rfl rfl rfl rfl) ?_
      refine O_appR tabOk rfl rfl rfl rfl rfl rfl rfl rfl rfl rfl rfl (Src.dat _ _) (advs_dlen l _ hkl) (by omega) ?_
      repeat (first | refine q_Z ?_ | refine R_quiet rfl mixed (by kernel_rfl) ?_ | ((first | apply O_y rfl rfl rfl | apply Q_y rfl rfl rfl); (first | exact q_A | exact q_5 | exact q_B | (first | exact q_25 | exact q_26 | exact q_20))) | refine q_d ?_ | refine q_a ?_ | refine q_b ?_ | refine q_c ?_ | refine A_ct rfl ?_ | refine A_cf rfl ?_ | refine q_W ?_)
      exact X_retW ((Wk_sel (e1 := [(4, .row 28)]) (h1 := [(28, .row 34 13 (l.take k ++ [a] ++ l.drop k).length ((l.take k ++ [a] ++ l.drop k).flatMap advD))]) ⟨rfl, trivial⟩ ⟨row_eq hn1 hc1 rfl, trivial⟩).trans (Wk_freeze (id := 28) rfl)) rfl (h2 := []) trivial ⟨k, ⟨hkl, hf, fun _ => by rw [hz]; exact h0⟩, rfl, rfl⟩
  · obtain rfl : k = l.length := by omega
    repeat (first | refine q_Z ?_ | refine R_quiet rfl mixed (by kernel_rfl) ?_ | ((first | apply O_y rfl rfl rfl | apply Q_y rfl rfl rfl); (first | exact q_A | exact q_5 | exact q_B | (first | exact q_25 | exact q_26 | exact q_20))) | refine q_d ?_ | refine q_a ?_ | refine q_b ?_ | refine q_c ?_ | refine A_ct rfl ?_ | refine A_cf rfl ?_ | refine q_W ?_)
    refine O_y rfl rfl rfl (R_sliceD tabOk rfl rfl rfl rfl rfl rfl hkl) ?_
    refine O_weaken (Wk_see (t := 27) rfl (advs_see l _ hkl)) ?_
    refine O_appN tabOk rfl rfl rfl rfl rfl rfl rfl rfl rfl rfl (Src.dat _ _) (advs_tlen l _ hkl) (by omega) ?_
    repeat (first | refine q_Z ?_ | refine R_quiet rfl mixed (by kernel_rfl) ?_ | ((first | apply O_y rfl rfl rfl | apply Q_y rfl rfl rfl); (first | exact q_A | exact q_5 | exact q_B | (first | exact q_25 | exact q_26 | exact q_20))) | refine q_d ?_ | refine q_a ?_ | refine q_b ?_ | refine q_c ?_ | refine A_ct rfl ?_ | refine A_cf rfl ?_ | refine q_W ?_ | (first | refine O_appR tabOk rfl rfl rfl rfl rfl rfl rfl rfl rfl rfl rfl (by first | exact Src.row rfl | exact Src.dat _ _ | exact Src.nil) rfl (by omega) ?_ | refine O_appN tabOk rfl rfl rfl rfl rfl rfl rfl rfl rfl rfl (by first | exact Src.row rfl | exact Src.dat _ _ | exact Src.nil) rfl (by omega) ?_))
    refine O_y rfl rfl rfl (R_dFrom (flat_len advD_len l) hkl tabOk rfl rfl rfl rfl rfl rfl) ?_
    refine O_appR tabOk rfl rfl rfl rfl rfl rfl rfl rfl rfl rfl rfl (Src.dat _ _) (advs_dlen l _ hkl) (by omega) ?_
    repeat (first | refine q_Z ?_ | refine R_quiet rfl mixed (by kernel_rfl) ?_ | ((first | apply O_y rfl rfl rfl | apply Q_y rfl rfl rfl); (first | exact q_A | exact q_5 | exact q_B | (first | exact q_25 | exact q_26 | exact q_20))) | refine q_d ?_ | refine q_a ?_ | refine q_b ?_ | refine q_c ?_ | refine A_ct rfl ?_ | refine A_cf rfl ?_ | refine q_W ?_)
    exact X_retW ((Wk_sel (e1 := [(4, .row 28)]) (h1 := [(28, .row 34 13 (l.take l.length ++ [a] ++ l.drop l.length).length ((l.take l.length ++ [a] ++ l.drop l.length).flatMap advD))]) ⟨rfl, trivial⟩ ⟨row_eq hn1 hc1 rfl, trivial⟩).trans (Wk_freeze (id := 28) rfl)) rfl (h2 := []) trivial ⟨l.length, ⟨hkl, hf, fun h => absurd h (by omega)⟩, rfl, rfl⟩
end Ab
end Go.Proofs.Ytblgdfcijkaimaa

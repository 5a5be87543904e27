/-
  Texts of a proof, one behind the other (part 4).
-/
import Derived.Shelf.SlGeneric
import Derived.Shelf.Small.Strs
import Derived.Test.YtnnclkeoakjjkaaProg
import Derived.Test.YtnnclkeoakjjkaaFs2
set_option linter.unusedVariables false
set_option linter.unusedSimpArgs false
namespace Go.Proofs.Ytnnclkeoakjjkaa.Ab
set_option linter.unusedVariables false
set_option maxRecDepth 100000
open Go.RowKit Go.Lib
abbrev TR := (Nat → Int) × List (Pfx × List Rte)
def putT (s : TR) (p : Pfx) (v : List Rte) : TR := if chk p = 0 then (if (aget s.2 p).isSome then s.1 else bump s.1 p.b.toNat 1, Go.Proofs.Ytnnclkeoakjjkaa.aput s.2 p v) else s
def ofP (l : List Rte) (p : Pfx) : List Rte := l.filter fun r => decide (r.p = p)
structure ROk (s : TR) (l : List Rte) : Prop where
  nd : (s.2.map (·.1)).Nodup
  good : ∀ p ∈ s.2, good p.1
  used : ∀ p ∈ s.2, 1 ≤ s.1 p.1.b.toNat
  ub : ∀ j, 0 ≤ s.1 j ∧ s.1 j ≤ l.length
  val : ∀ p v, aget s.2 p = some v → v = ofP l p ∧ v ≠ []
  has : ∀ r ∈ l, Go.Proofs.Ytnnclkeoakjjkaa.good r.p → ∃ v, aget s.2 r.p = some v
theorem ROk.zero : ROk (fun _ => 0, []) [] := ⟨.nil, by simp, by simp, fun _ => ⟨Int.le_refl _, Int.le_refl _⟩, fun p v h => absurd (mem_of_aget h) (by simp), by simp⟩
theorem ROk.old {s : TR} {l : List Rte} (R : ROk s l) (p : Pfx) (hg : Go.Proofs.Ytnnclkeoakjjkaa.good p) : (aget s.2 p).getD [] = ofP l p := by
  cases h : aget s.2 p with
  | some v => exact (R.val p v h).1
  | none =>
    refine (List.filter_eq_nil_iff.2 fun r hr => ?_).symm
    intro hp
    have hp : r.p = p := by simpa using hp
    obtain ⟨v, hv⟩ := R.has r hr (by rw [hp]; exact hg)
    rw [hp, h] at hv; cases hv
theorem ofP_snoc (l : List Rte) (r : Rte) (p : Pfx) : ofP (l ++ [r]) p = ofP l p ++ (if r.p = p then [r] else []) := by
  unfold ofP
  rw [List.filter_append]
  congr 1
  by_cases h : r.p = p <;> simp [h]
theorem ROk.put {s : TR} {l : List Rte} (R : ROk s l) (r : Rte) : ROk (putT s r.p ((aget s.2 r.p).getD [] ++ [r])) (l ++ [r]) := by
  unfold putT
  by_cases hc : chk r.p = 0
  · rw [if_pos hc]
    have hg := (chk_eq r.p).1 hc
    rw [R.old r.p hg]
    have hmono : ∀ j, s.1 j ≤ (if (aget s.2 r.p).isSome then s.1 else bump s.1 r.p.b.toNat 1) j := fun j => by
      split
      · exact Int.le_refl _
      · unfold bump; split <;> omega
    refine ⟨aput_nodup R.nd, fun q hq => ?_, fun q hq => ?_, fun j => ?_, fun p v hv => ?_, fun q hq hgq => ?_⟩
    · rcases (mem_aput R.nd).1 hq with h | h
      · rw [h]; exact hg
      · exact R.good q h.2
    · rcases (mem_aput R.nd).1 hq with h | h
      · rw [h]
        dsimp only
        split
        · rename_i hs
          obtain ⟨z, hz⟩ := Option.isSome_iff_exists.1 hs
          exact R.used _ (mem_of_aget hz)
        · have := (R.ub r.p.b.toNat).1
          unfold bump
          rw [if_pos rfl]
          omega
      · exact Int.le_trans (R.used q h.2) (hmono _)
    · have := R.ub j
      dsimp only
      rw [List.length_append]
      simp only [List.length_cons, List.length_nil]
      split
      · exact ⟨this.1, by omega⟩
      · unfold bump; split <;> exact ⟨by omega, by omega⟩
    · dsimp only at hv
      rw [aget_aput R.nd] at hv
      rw [ofP_snoc]
      split at hv
      · rename_i e
        subst e
        cases hv
        rw [if_pos rfl]
        exact ⟨rfl, by simp⟩
      · rename_i e
        rw [if_neg (Ne.symm e), List.append_nil]
        exact R.val p v hv
    · dsimp only
      rw [aget_aput R.nd]
      split
      · exact ⟨_, rfl⟩
      · rename_i e
        rcases List.mem_append.1 hq with h | h
        · exact R.has q h hgq
        · simp at h; subst h; exact absurd rfl e
  · rw [if_neg hc]
    have hng : ¬ Go.Proofs.Ytnnclkeoakjjkaa.good r.p := fun h => hc ((chk_eq r.p).2 h)
    refine ⟨R.nd, R.good, R.used, fun j => ⟨(R.ub j).1, by have := (R.ub j).2; rw [List.length_append]; simp; omega⟩, fun p v hv => ?_, fun q hq hgq => ?_⟩
    · have hgp := R.good _ (mem_of_aget hv)
      rw [ofP_snoc, if_neg fun h => hng (by rw [h]; exact hgp), List.append_nil]
      exact R.val p v hv
    · rcases List.mem_append.1 hq with h | h
      · exact R.has q h hgq
      · simp at h; subst h; exact absurd hgq hng
theorem over_memR {s : TR} {l : List Rte} (T : ROk s l) (x : Int) (q : Pfx) : q ∈ overS s.1 s.2 x 33 ↔ (∃ z, aget s.2 q = some z) ∧ inB x q = true := by
  unfold overS
  rw [List.mem_map]
  constructor
  · rintro ⟨b, hb, rfl⟩
    have h1 := (List.mem_filter.1 hb).2
    simp only [Bool.and_eq_true] at h1
    obtain ⟨z, hz⟩ := Option.isSome_iff_exists.1 h1.2
    refine ⟨⟨z, hz⟩, ?_⟩
    rw [← inB_low x _ (T.good _ (mem_of_aget hz))]
    exact decide_eq_true rfl
  · rintro ⟨⟨z, hz⟩, hin⟩
    have hm := mem_of_aget hz
    have hg := T.good _ hm
    rw [← inB_low x q hg, decide_eq_true_eq] at hin
    have hu := T.used _ hm
    obtain ⟨a, b⟩ := q
    have hb0 := hg.1
    have hb1 := hg.2.1
    dsimp only at hb0 hb1 hin hu
    obtain ⟨B, rfl⟩ : ∃ B : Nat, b = (B : Int) := ⟨b.toNat, by omega⟩
    have hsub : sub x (B : Int) = ⟨a, (B : Int)⟩ := by
      unfold sub
      rw [hin]
    rw [Int.toNat_natCast] at hu
    refine ⟨B, List.mem_filter.2 ⟨List.mem_range.2 (by omega), ?_⟩, hsub⟩
    rw [hsub, hz]
    simp
    omega
theorem over_sortedR (u : Nat → Int) (m : List (Pfx × List Rte)) (x : Int) (k : Nat) : (overS u m x k).Pairwise fun p q => p.b < q.b := by
  unfold overS
  rw [List.pairwise_map]
  refine List.Pairwise.imp ?_ (List.Pairwise.filter _ List.pairwise_lt_range)
  intro a b h
  show (a : Int) < (b : Int)
  omega
theorem long_mostR {L : List Pfx} (hs : L.Pairwise fun p q : Pfx => p.b < q.b) {p q : Pfx} (h : L.getLast? = some p) (hq : q ∈ L) : q.b ≤ p.b := by
  rw [List.getLast?_eq_getElem?] at h
  obtain ⟨i, hi⟩ := List.getElem?_of_mem hq
  obtain ⟨h1, h2⟩ := List.getElem?_eq_some_iff.1 h
  obtain ⟨h3, h4⟩ := List.getElem?_eq_some_iff.1 hi
  rcases Nat.lt_or_ge i (L.length - 1) with h5 | h5
  · have := List.pairwise_iff_getElem.1 hs i (L.length - 1) h3 h1 h5
    rw [h2, h4] at this
    omega
  · have : i = L.length - 1 := by omega
    subst this
    rw [h2] at h4
    rw [h4]
    exact Int.le_refl _
def topB (l : List Rte) (x : Int) (r : Rte) : Bool := inB x r.p && l.all fun s => !(inB x s.p) || decide (s.p.b ≤ r.p.b)
theorem topB_iff {l : List Rte} {x : Int} {r : Rte} : topB l x r = true ↔ inB x r.p = true ∧ ∀ s ∈ l, inB x s.p = true → s.p.b ≤ r.p.b := by
  unfold topB
  rw [Bool.and_eq_true, List.all_eq_true]
  refine and_congr_right fun _ => forall_congr' fun s => forall_congr' fun _ => ?_
  cases inB x s.p <;> simp
def longL (l : List Rte) (x : Int) : List Rte := sortU ordR (l.filter (topB l x))
theorem inB_one {x : Int} {p q : Pfx} (hp : inB x p = true) (hq : inB x q = true) (h : p.b = q.b) : p = q := by
  have e1 := inB_low x p (inB_good hp)
  have e2 := inB_low x q (inB_good hq)
  rw [hp, decide_eq_true_eq] at e1
  rw [hq, decide_eq_true_eq] at e2
  obtain ⟨a, b⟩ := p
  obtain ⟨c, d⟩ := q
  dsimp only at *
  subst h
  rw [← e1, ← e2]
theorem long_is {s : TR} {l : List Rte} (R : ROk s l) (x : Int) : (longR s.1 s.2 x).2.1 = l.filter (topB l x) := by
  have inO : ∀ r ∈ l, inB x r.p = true → r.p ∈ overS s.1 s.2 x 33 := fun r hr hi => (over_memR R x r.p).2 ⟨R.has r hr (inB_good hi), hi⟩
  unfold longR
  cases hL : (overS s.1 s.2 x 33).getLast? with
  | none =>
    have h0 : overS s.1 s.2 x 33 = [] := List.getLast?_eq_none_iff.1 hL
    dsimp only
    refine (List.filter_eq_nil_iff.2 fun r hr ht => ?_).symm
    have := inO r hr (topB_iff.1 ht).1
    rw [h0] at this
    cases this
  | some p =>
    dsimp only
    have hp := (over_memR R x p).1 (List.mem_of_getLast? hL)
    obtain ⟨⟨v, hv⟩, hin⟩ := hp
    obtain ⟨hv1, hv2⟩ := R.val p v hv
    rw [hv]
    show v = _
    rw [hv1]
    obtain ⟨t, ht⟩ := List.exists_mem_of_ne_nil v hv2
    rw [hv1] at ht
    have ht2 := List.mem_filter.1 ht
    have htp : t.p = p := by simpa using ht2.2
    refine List.filter_congr fun r hr => ?_
    rw [Bool.eq_iff_iff, decide_eq_true_eq, topB_iff]
    constructor
    · intro e
      subst e
      exact ⟨hin, fun s hs hi => long_mostR (over_sortedR _ _ _ _) hL (inO s hs hi)⟩
    · rintro ⟨h1, h2⟩
      have h3 := long_mostR (over_sortedR _ _ _ _) hL (inO r hr h1)
      have h4 := h2 t ht2.1 (by rw [htp]; exact hin)
      rw [htp] at h4
      exact inB_one h1 hin (by omega)
set_option linter.unusedSimpArgs false
attribute [local irreducible] AWp AOps AQ AYield AEff ACall AWk AAny AAt AThen AIn APost NoPanic
section
variable {P : Program} {nt : Nat} {Q : Post} {e : Env} {h : Heap} {o : Oper} {ops : Array Oper} {rest : List Oper} {T : List Nat}
theorem O_cNew {f : FuncId} {args : Array Operand} {ats : Array TypeId} {cs : List AVal} {d : Nat} {u : Nat → Int} {l : List (Pfx × List Rte)} (H : ACall P f cs [] (fun c' h' => c' = .ptr 3 0 ∧ h' = [(3, tblB 902 u), (902, rmapB l)])) (hw : awant ops e o = some true) (hdst : o.dst = some d) (hd : Nat.blt d nt = true)
    (ho : o.op = .call { callee := .value (.func f), args := args, argTypes := ats }) (hx : aevs e args.toList = some cs) (HK : AOps P nt ops Q rest ((d, .ptr 3 0) :: killEs [3, 902] e) ((3, tblB 902 u) :: (902, rmapB l) :: killHs [3, 902] h)) : AOps P nt ops Q (o :: rest) e h :=
  O_eff (T := []) hw (E_callQ ho hdst hx H hd fun c' h' ⟨h1, h2⟩ => by
    subst h1 h2
    refine ⟨rfl, fun id b j hb hh => ?_, fun j hj => ?_⟩
    · by_cases h3 : 3 = id
      · subst h3
        rw [look_cons_same] at hb
        cases hb
        have hs : hasL j (usedA u) = false := shutL_has j (usedA u) rfl
        have : (902 == j) = true := by
          have h9 : ((AVal.mp 902).has j || hasL j (usedA u)) = true := hh
          rw [hs, Bool.or_false] at h9
          exact h9
        have : 902 = j := by simpa using this
        subst this
        rfl
      · rw [look_cons_ne _ _ h3] at hb
        by_cases h4 : 902 = id
        · subst h4
          rw [look_cons_same] at hb
          cases hb
          have h9 : (ents pfxA rtesA l).any (fun p => p.1.has j || p.2.has j) = true := hh
          obtain ⟨p, hp, h10⟩ := List.any_eq_true.1 h9
          obtain ⟨q, _, rfl⟩ := List.mem_map.1 hp
          rw [shut_has j (pfxA q.1) rfl, shut_has j (rtesA q.2) rfl] at h10
          cases h10
        · rw [look_cons_ne _ _ h4] at hb; cases hb
    · have h9 : (3 == j) = true := hj
      have : 3 = j := by simpa using h9
      subst this
      rfl) fun e' h' ⟨c, h2, ⟨h3, h4⟩, h5, h6⟩ => by subst h3 h4 h5 h6; exact HK
theorem T_cTbl {f : FuncId} {args : Array Operand} {ats : Array TypeId} {cs0 cs : List AVal} {c : AVal} {d fuel n : Nat} {listed : Array Bool} (i j : Nat) (hij : i ≠ j) {u u' : Nat → Int} {l l' : List (Pfx × List Rte)}
    (H : ACall P f cs [(1000, tblB 1001 u), (1001, rmapB l)] (fun c' h' => c' = c ∧ h' = [(1000, tblB 1001 u'), (1001, rmapB l')])) (hn : ops[n]? = some o) (hw : awant ops e o = some true) (hdst : o.dst = some d) (hd : Nat.blt d nt = true) (ho : o.op = .call { callee := .value (.func f), args := args, argTypes := ats }) (hx : aevs e args.toList = some cs0)
    (hok : cs.all (okV [(1000, i), (1001, j)]) = true) (hcs : cs.map (renV [(1000, i), (1001, j)]) = cs0) (hi : look h i = some (tblB j u)) (hj : look h j = some (rmapB l)) (hT1 : T.contains i = true) (hT2 : T.contains j = true)
    (HK : AAny P nt ops Q T fuel (listed.setIfInBounds n true) ((d, renV [(1000, i), (1001, j)] c) :: e) ((i, tblB j u') :: (j, rmapB l') :: h)) : AAt P nt ops Q T fuel listed n e h := by
  refine T_eff hn hw (E_callP (h0 := [(1000, tblB 1001 u), (1001, rmapB l)]) [(1000, i), (1001, j)] ho hdst hx hcs (fun c hc => List.all_eq_true.1 hok c hc) ⟨⟨i, _, rfl, hi, ren_tbl i j u, ok_tbl i j u⟩, ⟨j, _, rfl, hj, ren_map _ l, ok_map _ l⟩, trivial⟩ (fun p k h1 => ?_) (fun p p' k h1 h2 => ?_) H hd (fun p k h1 => ?_) (fun c' h' ⟨_, hh⟩ p k h1 => ?_)) fun e' h' ⟨c', h2, ⟨h3, h4⟩, h5, h6⟩ => ?_
  · rcases look_pass h1 with ⟨h3, h4⟩ | ⟨h3, h4⟩ <;> subst h3 <;> exact ⟨by omega, rfl⟩
  · rcases look_pass h1 with ⟨h3, h4⟩ | ⟨h3, h4⟩ <;> rcases look_pass h2 with ⟨h5, h6⟩ | ⟨h5, h6⟩ <;> omega
  · rcases look_pass h1 with ⟨h3, h4⟩ | ⟨h3, h4⟩ <;> subst h4 <;> assumption
  · subst hh
    rcases look_pass h1 with ⟨h3, h4⟩ | ⟨h3, h4⟩ <;> subst h3 <;> rfl
  · subst h3 h4 h5 h6
    have e1 : renH [(1000, i), (1001, j)] [(1000, tblB 1001 u'), (1001, rmapB l')] ++ h = (i, tblB j u') :: (j, rmapB l') :: h := by
      show (i, renB _ (tblB 1001 u')) :: (j, renB _ (rmapB l')) :: ([] ++ h) = _
      rw [ren_tbl, ren_map]
      rfl
    rw [e1]
    exact HK
end
theorem putT_A (s : TR) (l : List Rte) (R : ROk s l) (hl : l.length ≤ 1000000) (p : Pfx) (v : List Rte) (hp : p.ok) :
    ACall Try.prog 24 [.ptr 1000 0, pfxA p, rtesA v] [(1000, tblB 1001 s.1), (1001, rmapB s.2)] (fun c h => c = intA (chk p) ∧ h = [(1000, tblB 1001 (putT s p v).1), (1001, rmapB (putT s p v).2)]) :=
  (put_A s.1 s.2 p v hp R.nd fun j => ⟨(R.ub j).1, by have := (R.ub j).2; omega⟩).mono fun c h ⟨h1, h2⟩ => ⟨h1, by
    rw [h2]
    unfold putT
    split <;> rfl⟩
theorem clip_A (l : List Rte) : ACall Try.prog 25 [rtesA l] [] (Just (.full (l.flatMap rteD) l.length)) := by
  refine ACall_of tabOk Try.func25 rfl Try.ntmps25 (congrArg Array.toList Try.results25) (by kernel_rfl) rfl ?_
  repeat (first | refine A_seq ?_ | refine A_block ?_ | refine R_list ?_ | refine R_quiet rfl mixed (by kernel_rfl) ?_ | ((first | apply O_y rfl rfl rfl | apply Q_y rfl rfl rfl); (first | exact q_1 | exact q_2 | exact q_3 | exact q_4 | exact q_5 | exact q_6 | exact q_7 | exact q_8 | exact q_9 | exact q_10 | exact q_11 | exact q_12 | exact q_13 | exact q_14 | exact q_15 | exact q_16 | exact q_17 | exact q_18 | exact q_19 | exact q_20 | exact q_21 | exact q_22 | exact q_23 | exact q_24 | (exact R_clip tabOk rfl rfl rfl rfl rfl rfl rfl rfl))) | refine O_nil ?_ | refine Q_nil ?_ | refine q_j ?_ | refine q_k ?_ | refine q_d ?_ | refine q_a ?_ | refine q_b ?_ | refine q_c ?_ | refine A_ct rfl ?_ | refine A_cf rfl ?_ | refine A_skip ?_ | refine A_exit ?_ | refine A_ret ?_ | refine q_l ?_ | refine q_m ?_ | refine q_n ?_ | refine q_h ?_ | refine q_o ?_ | refine q_e ?_ | refine q_f ?_ | refine q_g ?_ | fail)
  exact X_ret rfl ⟨rfl, rfl⟩
theorem rtesA_snoc (v : List Rte) (r : Rte) : rtesA (v ++ [r]) = .d (.sl (v.flatMap rteD ++ rteD r) (v.length + 1)) := by
  unfold rtesA
  rw [List.flatMap_append, List.length_append]
  simp
set_option maxHeartbeats 8000000 in
theorem ribLongest_A (l : List Rte) (hok : ∀ r ∈ l, okR r) (hn : l.length ≤ 1000000) (x : Int) (x0 : 0 ≤ x) (x1 : x < 4294967296) : ACall Try.prog 14 [rtesA l, .d (.sc (.int .u32 x))] [] (fun c h => c = .row 5 ∧ h = [(5, rteB (longL l x))]) := by
  refine ACall_of tabOk Try.func14 rfl Try.ntmps14 (congrArg Array.toList Try.results14) (by kernel_rfl) rfl ?_
  repeat (first | refine A_seq ?_ | refine A_block ?_ | refine R_list ?_ | ((first | apply O_y rfl rfl rfl | apply Q_y rfl rfl rfl); (first | exact q_1 | exact q_2 | exact q_3 | exact q_4 | exact q_5 | exact q_6 | exact q_7 | exact q_8 | exact q_9 | exact q_10 | exact q_11 | exact q_12 | exact q_13 | exact q_14 | exact q_15 | exact q_16 | exact q_17 | exact q_18 | exact q_19 | exact q_20 | exact q_21 | exact q_22 | exact q_23 | exact q_24 | fail)) | refine O_nil ?_ | refine Q_nil ?_ | refine q_j ?_ | refine q_k ?_ | refine q_d ?_ | refine q_a ?_ | refine q_b ?_ | refine q_c ?_ | refine A_ct rfl ?_ | refine A_cf rfl ?_ | refine A_skip ?_ | refine A_exit ?_ | refine A_ret ?_ | refine q_l ?_ | refine q_m ?_ | refine q_n ?_ | refine q_h ?_ | refine q_o ?_ | refine q_e ?_ | refine q_f ?_ | refine q_g ?_ | (refine O_cNew new_A rfl rfl rfl rfl rfl ?_))
  refine A_loop (fun y : Nat × TR => [(0, rtesA l), (1, .d (.sc (.int .u32 x))), (5, .ptr 3 0), (14, rtesA l), (15, intA (l.length : Int)), (16, intA (y.1 : Int))]) (fun y => [(3, tblB 902 y.2.1), (902, rmapB y.2.2)]) (fun y => y.1 ≤ l.length ∧ ROk y.2 (l.take y.1)) (fun y => l.length - y.1) (0, (fun _ => 0, [])) ⟨Nat.zero_le _, ROk.zero⟩ (Wk_sel ⟨rfl, rfl, rfl, rfl, rfl, rfl, trivial⟩ ⟨rfl, rfl, trivial⟩) ?_
  rintro ⟨k, s⟩ ⟨hk, R⟩
  dsimp only at hk R ⊢
  by_cases hlt : k < l.length
  · have hkr := hok _ (List.getElem_mem hlt)
    have hat := tblAt_A s.1 s.2 l[k].p R.nd
    have hlk : (l.take k).length ≤ 1000000 := by rw [List.length_take]; omega
    have hol : ((aget s.2 l[k].p).getD []).length ≤ 1000000 := by
      cases h : aget s.2 l[k].p with
      | none => simp
      | some v =>
        rw [(R.val _ _ h).1]
        exact Nat.le_trans (List.length_filter_le _ _) hlk
    have hcl := clip_A ((aget s.2 l[k].p).getD [])
    have hput := putT_A s (l.take k) R hlk l[k].p ((aget s.2 l[k].p).getD [] ++ [l[k]]) hkr.2
    have hR2 := R.put l[k]
    rw [← take_snoc l k hlt] at hR2
    repeat (first | refine A_seq ?_ | refine A_block ?_ | refine R_list ?_ | ((first | apply O_y rfl rfl rfl | apply Q_y rfl rfl rfl); (first | exact q_1 | exact q_2 | exact q_3 | exact q_4 | exact R_loadi tabOk rfl rfl rfl rfl (by first | exact win_flat0 rteD_len l k _ hlt (by decide) | exact win_flat rteD_len l k _ _ hlt (by decide) | exact win_flat2 rteD_len l k _ _ _ hlt (by decide) | rfl) rfl rfl | exact q_6 | exact q_7 | exact q_8 | exact q_9 | exact q_10 | exact q_11 | exact q_12 | exact q_13 | exact q_14 | exact q_15 | exact q_16 | exact q_17 | exact q_18 | exact q_19 | exact q_20 | exact q_21 | exact q_22 | exact q_23 | exact q_24 | fail)) | refine O_nil ?_ | refine Q_nil ?_ | refine q_j ?_ | refine q_k ?_ | refine q_d ?_ | refine q_a ?_ | refine q_b ?_ | refine q_c ?_ | refine A_ct rfl ?_ | refine A_cf rfl ?_ | refine A_skip ?_ | refine A_exit ?_ | refine A_ret ?_ | refine q_l ?_ | refine q_m ?_ | refine q_n ?_ | refine q_h ?_ | refine q_o ?_ | refine q_e ?_ | refine q_f ?_ | refine q_g ?_ | fail)
    refine O_cTbl 3 902 (by omega) hat rfl rfl rfl rfl rfl rfl rfl rfl (kill_map 7 s.2) ?_
    cases hag : aget s.2 l[k].p with
    | none =>
      rw [hag] at hcl hput hR2 hol
      simp only [Option.getD_none] at hcl hput hR2 hol
      rw [rtesA_snoc] at hput
      repeat (first | refine A_seq ?_ | refine A_block ?_ | refine R_list ?_ | ((first | apply O_y rfl rfl rfl | apply Q_y rfl rfl rfl); (first | exact q_1 | exact q_2 | exact q_3 | exact q_4 | exact q_5 | exact q_6 | exact q_7 | exact q_8 | exact q_9 | exact q_10 | exact q_11 | exact q_12 | exact q_13 | exact q_14 | exact q_15 | exact q_16 | exact q_17 | exact q_18 | exact q_19 | exact q_20 | exact q_21 | exact q_22 | exact q_23 | exact q_24 | fail)) | refine O_nil ?_ | refine Q_nil ?_ | refine q_j ?_ | refine q_k ?_ | refine q_d ?_ | refine q_a ?_ | refine q_b ?_ | refine q_c ?_ | refine A_ct rfl ?_ | refine A_cf rfl ?_ | refine A_skip ?_ | refine A_exit ?_ | refine A_ret ?_ | refine q_l ?_ | refine q_m ?_ | refine q_n ?_ | refine q_h ?_ | refine q_o ?_ | refine q_e ?_ | refine q_f ?_ | refine q_g ?_ | fail)
      refine A_weaken (Wk_see (t := 8) rfl see_nil) ?_
      refine A_weaken (Wk_sel (e1 := [(0, rtesA l), (1, .d (.sc (.int .u32 x))), (5, .ptr 3 0), (7, .ptr 7 0), (8, rtesA ([] : List Rte)), (14, rtesA l), (15, intA (l.length : Int)), (16, intA (k : Int))]) (h1 := [(7, rteB1 l[k]), (3, tblB 902 s.1), (902, rmapB s.2)]) ⟨rfl, rfl, rfl, rfl, rfl, rfl, rfl, rfl, trivial⟩ ⟨rfl, rfl, rfl, trivial⟩) ?_
      refine N_begin [3, 902] mixed ?_
      repeat (first | ((first | apply q_M 0 rfl rfl (by kernel_rfl) (by decide +kernel) (by decide +kernel) rfl rfl rfl | apply q_M 1 rfl rfl (by kernel_rfl) (by decide +kernel) (by decide +kernel) rfl rfl rfl | apply q_M 2 rfl rfl (by kernel_rfl) (by decide +kernel) (by decide +kernel) rfl rfl rfl | apply q_M 3 rfl rfl (by kernel_rfl) (by decide +kernel) (by decide +kernel) rfl rfl rfl | apply q_M 4 rfl rfl (by kernel_rfl) (by decide +kernel) (by decide +kernel) rfl rfl rfl | apply q_M 5 rfl rfl (by kernel_rfl) (by decide +kernel) (by decide +kernel) rfl rfl rfl | apply q_M 6 rfl rfl (by kernel_rfl) (by decide +kernel) (by decide +kernel) rfl rfl rfl | apply q_M 7 rfl rfl (by kernel_rfl) (by decide +kernel) (by decide +kernel) rfl rfl rfl | apply q_M 8 rfl rfl (by kernel_rfl) (by decide +kernel) (by decide +kernel) rfl rfl rfl | apply q_M 9 rfl rfl (by kernel_rfl) (by decide +kernel) (by decide +kernel) rfl rfl rfl | apply q_M 10 rfl rfl (by kernel_rfl) (by decide +kernel) (by decide +kernel) rfl rfl rfl | apply q_M 11 rfl rfl (by kernel_rfl) (by decide +kernel) (by decide +kernel) rfl rfl rfl | apply q_M 12 rfl rfl (by kernel_rfl) (by decide +kernel) (by decide +kernel) rfl rfl rfl ); (first | exact q_1 | exact q_2 | exact q_3 | exact q_4 | exact q_5 | exact q_6 | exact q_7 | exact q_8 | exact q_9 | exact q_10 | exact q_11 | exact q_12 | exact q_13 | exact q_14 | exact q_15 | exact q_16 | exact q_17 | exact q_18 | exact q_19 | exact q_20 | exact q_21 | exact q_22 | exact q_23 | exact q_24 | fail)) | (apply q_L 0 rfl rfl (by kernel_rfl) (by decide +kernel) (by decide +kernel) rfl rfl rfl; (first | exact q_5 | exact q_6 | exact q_7 | exact q_15 | exact q_16 | exact q_19 | fail)) | (apply q_L 1 rfl rfl (by kernel_rfl) (by decide +kernel) (by decide +kernel) rfl rfl rfl; (first | exact q_5 | exact q_6 | exact q_7 | exact q_15 | exact q_16 | exact q_19 | fail)) | (apply q_L 2 rfl rfl (by kernel_rfl) (by decide +kernel) (by decide +kernel) rfl rfl rfl; (first | exact q_5 | exact q_6 | exact q_7 | exact q_15 | exact q_16 | exact q_19 | fail)) | (apply q_L 3 rfl rfl (by kernel_rfl) (by decide +kernel) (by decide +kernel) rfl rfl rfl; (first | exact q_5 | exact q_6 | exact q_7 | exact q_15 | exact q_16 | exact q_19 | fail)) | (apply q_L 4 rfl rfl (by kernel_rfl) (by decide +kernel) (by decide +kernel) rfl rfl rfl; (first | exact q_5 | exact q_6 | exact q_7 | exact q_15 | exact q_16 | exact q_19 | fail)) | (apply q_L 5 rfl rfl (by kernel_rfl) (by decide +kernel) (by decide +kernel) rfl rfl rfl; (first | exact q_5 | exact q_6 | exact q_7 | exact q_15 | exact q_16 | exact q_19 | fail)) | (apply q_L 6 rfl rfl (by kernel_rfl) (by decide +kernel) (by decide +kernel) rfl rfl rfl; (first | exact q_5 | exact q_6 | exact q_7 | exact q_15 | exact q_16 | exact q_19 | fail)) | (apply q_L 7 rfl rfl (by kernel_rfl) (by decide +kernel) (by decide +kernel) rfl rfl rfl; (first | exact q_5 | exact q_6 | exact q_7 | exact q_15 | exact q_16 | exact q_19 | fail)) | (apply q_L 8 rfl rfl (by kernel_rfl) (by decide +kernel) (by decide +kernel) rfl rfl rfl; (first | exact q_5 | exact q_6 | exact q_7 | exact q_15 | exact q_16 | exact q_19 | fail)) | (apply q_L 9 rfl rfl (by kernel_rfl) (by decide +kernel) (by decide +kernel) rfl rfl rfl; (first | exact q_5 | exact q_6 | exact q_7 | exact q_15 | exact q_16 | exact q_19 | fail)) | (apply q_L 10 rfl rfl (by kernel_rfl) (by decide +kernel) (by decide +kernel) rfl rfl rfl; (first | exact q_5 | exact q_6 | exact q_7 | exact q_15 | exact q_16 | exact q_19 | fail)) | (apply q_L 11 rfl rfl (by kernel_rfl) (by decide +kernel) (by decide +kernel) rfl rfl rfl; (first | exact q_5 | exact q_6 | exact q_7 | exact q_15 | exact q_16 | exact q_19 | fail)) | (apply q_L 12 rfl rfl (by kernel_rfl) (by decide +kernel) (by decide +kernel) rfl rfl rfl; (first | exact q_5 | exact q_6 | exact q_7 | exact q_15 | exact q_16 | exact q_19 | fail)) | refine N_one (j := 0) (by decide +kernel) ?_ | refine N_one (j := 1) (by decide +kernel) ?_ | refine N_one (j := 2) (by decide +kernel) ?_ | refine N_one (j := 3) (by decide +kernel) ?_ | refine N_one (j := 4) (by decide +kernel) ?_ | refine N_one (j := 5) (by decide +kernel) ?_ | refine N_one (j := 6) (by decide +kernel) ?_ | refine N_one (j := 7) (by decide +kernel) ?_ | refine N_one (j := 8) (by decide +kernel) ?_ | refine N_one (j := 9) (by decide +kernel) ?_ | refine N_one (j := 10) (by decide +kernel) ?_ | refine N_one (j := 11) (by decide +kernel) ?_ | refine N_one (j := 12) (by decide +kernel) ?_ | refine T_alloc tabOk rfl rfl rfl rfl rfl rfl rfl ?_ | refine T_store tabOk rfl rfl rfl rfl rfl rfl rfl rfl rfl rfl rfl rfl rfl ?_ | refine T_box rfl rfl rfl rfl rfl rfl rfl rfl ?_ | (apply T_yield rfl rfl rfl rfl; (first | exact q_1 | exact q_2 | exact q_3 | exact q_4 | exact q_5 | exact q_6 | exact q_7 | exact q_8 | exact q_9 | exact q_10 | exact q_11 | exact q_12 | exact q_13 | exact q_14 | exact q_15 | exact q_16 | exact q_17 | exact q_18 | exact q_19 | exact q_20 | exact q_21 | exact q_22 | exact q_23 | exact q_24 | fail)) | refine N_done (by decide +kernel) ?_ | fail)
      refine N_two (j := 4) (k := 6) (by decide +kernel) ?_ ?_
      · refine T_call rfl rfl rfl rfl rfl rfl hcl (fun _ => rfl) ?_
        repeat (first | ((first | apply q_M 0 rfl rfl (by kernel_rfl) (by decide +kernel) (by decide +kernel) rfl rfl rfl | apply q_M 1 rfl rfl (by kernel_rfl) (by decide +kernel) (by decide +kernel) rfl rfl rfl | apply q_M 2 rfl rfl (by kernel_rfl) (by decide +kernel) (by decide +kernel) rfl rfl rfl | apply q_M 3 rfl rfl (by kernel_rfl) (by decide +kernel) (by decide +kernel) rfl rfl rfl | apply q_M 4 rfl rfl (by kernel_rfl) (by decide +kernel) (by decide +kernel) rfl rfl rfl | apply q_M 5 rfl rfl (by kernel_rfl) (by decide +kernel) (by decide +kernel) rfl rfl rfl | apply q_M 6 rfl rfl (by kernel_rfl) (by decide +kernel) (by decide +kernel) rfl rfl rfl | apply q_M 7 rfl rfl (by kernel_rfl) (by decide +kernel) (by decide +kernel) rfl rfl rfl | apply q_M 8 rfl rfl (by kernel_rfl) (by decide +kernel) (by decide +kernel) rfl rfl rfl | apply q_M 9 rfl rfl (by kernel_rfl) (by decide +kernel) (by decide +kernel) rfl rfl rfl | apply q_M 10 rfl rfl (by kernel_rfl) (by decide +kernel) (by decide +kernel) rfl rfl rfl | apply q_M 11 rfl rfl (by kernel_rfl) (by decide +kernel) (by decide +kernel) rfl rfl rfl | apply q_M 12 rfl rfl (by kernel_rfl) (by decide +kernel) (by decide +kernel) rfl rfl rfl ); (first | exact q_1 | exact q_2 | exact q_3 | exact q_4 | exact q_5 | exact q_6 | exact q_7 | exact q_8 | exact q_9 | exact q_10 | exact q_11 | exact q_12 | exact q_13 | exact q_14 | exact q_15 | exact q_16 | exact q_17 | exact q_18 | exact q_19 | exact q_20 | exact q_21 | exact q_22 | exact q_23 | exact q_24 | fail)) | (apply q_L 0 rfl rfl (by kernel_rfl) (by decide +kernel) (by decide +kernel) rfl rfl rfl; (first | exact q_5 | exact q_6 | exact q_7 | exact q_15 | exact q_16 | exact q_19 | fail)) | (apply q_L 1 rfl rfl (by kernel_rfl) (by decide +kernel) (by decide +kernel) rfl rfl rfl; (first | exact q_5 | exact q_6 | exact q_7 | exact q_15 | exact q_16 | exact q_19 | fail)) | (apply q_L 2 rfl rfl (by kernel_rfl) (by decide +kernel) (by decide +kernel) rfl rfl rfl; (first | exact q_5 | exact q_6 | exact q_7 | exact q_15 | exact q_16 | exact q_19 | fail)) | (apply q_L 3 rfl rfl (by kernel_rfl) (by decide +kernel) (by decide +kernel) rfl rfl rfl; (first | exact q_5 | exact q_6 | exact q_7 | exact q_15 | exact q_16 | exact q_19 | fail)) | (apply q_L 4 rfl rfl (by kernel_rfl) (by decide +kernel) (by decide +kernel) rfl rfl rfl; (first | exact q_5 | exact q_6 | exact q_7 | exact q_15 | exact q_16 | exact q_19 | fail)) | (apply q_L 5 rfl rfl (by kernel_rfl) (by decide +kernel) (by decide +kernel) rfl rfl rfl; (first | exact q_5 | exact q_6 | exact q_7 | exact q_15 | exact q_16 | exact q_19 | fail)) | (apply q_L 6 rfl rfl (by kernel_rfl) (by decide +kernel) (by decide +kernel) rfl rfl rfl; (first | exact q_5 | exact q_6 | exact q_7 | exact q_15 | exact q_16 | exact q_19 | fail)) | (apply q_L 7 rfl rfl (by kernel_rfl) (by decide +kernel) (by decide +kernel) rfl rfl rfl; (first | exact q_5 | exact q_6 | exact q_7 | exact q_15 | exact q_16 | exact q_19 | fail)) | (apply q_L 8 rfl rfl (by kernel_rfl) (by decide +kernel) (by decide +kernel) rfl rfl rfl; (first | exact q_5 | exact q_6 | exact q_7 | exact q_15 | exact q_16 | exact q_19 | fail)) | (apply q_L 9 rfl rfl (by kernel_rfl) (by decide +kernel) (by decide +kernel) rfl rfl rfl; (first | exact q_5 | exact q_6 | exact q_7 | exact q_15 | exact q_16 | exact q_19 | fail)) | (apply q_L 10 rfl rfl (by kernel_rfl) (by decide +kernel) (by decide +kernel) rfl rfl rfl; (first | exact q_5 | exact q_6 | exact q_7 | exact q_15 | exact q_16 | exact q_19 | fail)) | (apply q_L 11 rfl rfl (by kernel_rfl) (by decide +kernel) (by decide +kernel) rfl rfl rfl; (first | exact q_5 | exact q_6 | exact q_7 | exact q_15 | exact q_16 | exact q_19 | fail)) | (apply q_L 12 rfl rfl (by kernel_rfl) (by decide +kernel) (by decide +kernel) rfl rfl rfl; (first | exact q_5 | exact q_6 | exact q_7 | exact q_15 | exact q_16 | exact q_19 | fail)) | refine N_one (j := 0) (by decide +kernel) ?_ | refine N_one (j := 1) (by decide +kernel) ?_ | refine N_one (j := 2) (by decide +kernel) ?_ | refine N_one (j := 3) (by decide +kernel) ?_ | refine N_one (j := 4) (by decide +kernel) ?_ | refine N_one (j := 5) (by decide +kernel) ?_ | refine N_one (j := 6) (by decide +kernel) ?_ | refine N_one (j := 7) (by decide +kernel) ?_ | refine N_one (j := 8) (by decide +kernel) ?_ | refine N_one (j := 9) (by decide +kernel) ?_ | refine N_one (j := 10) (by decide +kernel) ?_ | refine N_one (j := 11) (by decide +kernel) ?_ | refine N_one (j := 12) (by decide +kernel) ?_ | refine T_alloc tabOk rfl rfl rfl rfl rfl rfl rfl ?_ | refine T_store tabOk rfl rfl rfl rfl rfl rfl rfl rfl rfl rfl rfl rfl rfl ?_ | refine T_box rfl rfl rfl rfl rfl rfl rfl rfl ?_ | (apply T_yield rfl rfl rfl rfl; (first | exact q_1 | exact q_2 | exact q_3 | exact q_4 | exact q_5 | exact q_6 | exact q_7 | exact q_8 | exact q_9 | exact q_10 | exact q_11 | exact q_12 | exact q_13 | exact q_14 | exact q_15 | exact q_16 | exact q_17 | exact q_18 | exact q_19 | exact q_20 | exact q_21 | exact q_22 | exact q_23 | exact q_24 | fail)) | refine N_done (by decide +kernel) ?_ | (first | refine T_slice tabOk rfl rfl rfl rfl rfl rfl rfl rfl rfl rfl rfl rfl ?_ | refine T_appD tabOk rfl rfl rfl rfl rfl rfl rfl rfl rfl rfl (Src.row rfl) (flat_len rteD_len ([] : List Rte)) (by decide) rfl (by omega) ?_ | refine T_cTbl 3 902 (by omega) hput rfl rfl rfl rfl rfl rfl rfl rfl rfl (kill_map 33 s.2) rfl rfl ?_))
        repeat (first | refine A_seq ?_ | refine A_block ?_ | refine R_list ?_ | ((first | apply O_y rfl rfl rfl | apply Q_y rfl rfl rfl); (first | exact q_1 | exact q_2 | exact q_3 | exact q_4 | exact q_5 | exact q_6 | exact q_7 | exact q_8 | exact q_9 | exact q_10 | exact q_11 | exact q_12 | exact q_13 | exact q_14 | exact q_15 | exact q_16 | exact q_17 | exact q_18 | exact q_19 | exact q_20 | exact q_21 | exact q_22 | exact q_23 | exact q_24 | fail)) | refine O_nil ?_ | refine Q_nil ?_ | refine q_j ?_ | refine q_k ?_ | refine q_d ?_ | refine q_a ?_ | refine q_b ?_ | refine q_c ?_ | refine A_ct rfl ?_ | refine A_cf rfl ?_ | refine A_skip ?_ | refine A_exit ?_ | refine A_ret ?_ | refine q_l ?_ | refine q_m ?_ | refine q_n ?_ | refine q_h ?_ | refine q_o ?_ | refine q_e ?_ | refine q_f ?_ | refine q_g ?_ | fail)
        exact ⟨(k + 1, putT s l[k].p (([] : List Rte) ++ [l[k]])), ⟨by dsimp only; omega, hR2⟩, by dsimp only; omega, Wk_sel ⟨rfl, rfl, rfl, rfl, rfl, rfl, trivial⟩ ⟨rfl, rfl, trivial⟩⟩
      · refine T_slice tabOk rfl rfl rfl rfl rfl rfl rfl rfl rfl rfl rfl rfl ?_
        repeat (first | ((first | apply q_M 0 rfl rfl (by kernel_rfl) (by decide +kernel) (by decide +kernel) rfl rfl rfl | apply q_M 1 rfl rfl (by kernel_rfl) (by decide +kernel) (by decide +kernel) rfl rfl rfl | apply q_M 2 rfl rfl (by kernel_rfl) (by decide +kernel) (by decide +kernel) rfl rfl rfl | apply q_M 3 rfl rfl (by kernel_rfl) (by decide +kernel) (by decide +kernel) rfl rfl rfl | apply q_M 4 rfl rfl (by kernel_rfl) (by decide +kernel) (by decide +kernel) rfl rfl rfl | apply q_M 5 rfl rfl (by kernel_rfl) (by decide +kernel) (by decide +kernel) rfl rfl rfl | apply q_M 6 rfl rfl (by kernel_rfl) (by decide +kernel) (by decide +kernel) rfl rfl rfl | apply q_M 7 rfl rfl (by kernel_rfl) (by decide +kernel) (by decide +kernel) rfl rfl rfl | apply q_M 8 rfl rfl (by kernel_rfl) (by decide +kernel) (by decide +kernel) rfl rfl rfl | apply q_M 9 rfl rfl (by kernel_rfl) (by decide +kernel) (by decide +kernel) rfl rfl rfl | apply q_M 10 rfl rfl (by kernel_rfl) (by decide +kernel) (by decide +kernel) rfl rfl rfl | apply q_M 11 rfl rfl (by kernel_rfl) (by decide +kernel) (by decide +kernel) rfl rfl rfl | apply q_M 12 rfl rfl (by kernel_rfl) (by decide +kernel) (by decide +kernel) rfl rfl rfl ); (first | exact q_1 | exact q_2 | exact q_3 | exact q_4 | exact q_5 | exact q_6 | exact q_7 | exact q_8 | exact q_9 | exact q_10 | exact q_11 | exact q_12 | exact q_13 | exact q_14 | exact q_15 | exact q_16 | exact q_17 | exact q_18 | exact q_19 | exact q_20 | exact q_21 | exact q_22 | exact q_23 | exact q_24 | fail)) | (apply q_L 0 rfl rfl (by kernel_rfl) (by decide +kernel) (by decide +kernel) rfl rfl rfl; (first | exact q_5 | exact q_6 | exact q_7 | exact q_15 | exact q_16 | exact q_19 | fail)) | (apply q_L 1 rfl rfl (by kernel_rfl) (by decide +kernel) (by decide +kernel) rfl rfl rfl; (first | exact q_5 | exact q_6 | exact q_7 | exact q_15 | exact q_16 | exact q_19 | fail)) | (apply q_L 2 rfl rfl (by kernel_rfl) (by decide +kernel) (by decide +kernel) rfl rfl rfl; (first | exact q_5 | exact q_6 | exact q_7 | exact q_15 | exact q_16 | exact q_19 | fail)) | (apply q_L 3 rfl rfl (by kernel_rfl) (by decide +kernel) (by decide +kernel) rfl rfl rfl; (first | exact q_5 | exact q_6 | exact q_7 | exact q_15 | exact q_16 | exact q_19 | fail)) | (apply q_L 4 rfl rfl (by kernel_rfl) (by decide +kernel) (by decide +kernel) rfl rfl rfl; (first | exact q_5 | exact q_6 | exact q_7 | exact q_15 | exact q_16 | exact q_19 | fail)) | (apply q_L 5 rfl rfl (by kernel_rfl) (by decide +kernel) (by decide +kernel) rfl rfl rfl; (first | exact q_5 | exact q_6 | exact q_7 | exact q_15 | exact q_16 | exact q_19 | fail)) | (apply q_L 6 rfl rfl (by kernel_rfl) (by decide +kernel) (by decide +kernel) rfl rfl rfl; (first | exact q_5 | exact q_6 | exact q_7 | exact q_15 | exact q_16 | exact q_19 | fail)) | (apply q_L 7 rfl rfl (by kernel_rfl) (by decide +kernel) (by decide +kernel) rfl rfl rfl; (first | exact q_5 | exact q_6 | exact q_7 | exact q_15 | exact q_16 | exact q_19 | fail)) | (apply q_L 8 rfl rfl (by kernel_rfl) (by decide +kernel) (by decide +kernel) rfl rfl rfl; (first | exact q_5 | exact q_6 | exact q_7 | exact q_15 | exact q_16 | exact q_19 | fail)) | (apply q_L 9 rfl rfl (by kernel_rfl) (by decide +kernel) (by decide +kernel) rfl rfl rfl; (first | exact q_5 | exact q_6 | exact q_7 | exact q_15 | exact q_16 | exact q_19 | fail)) | (apply q_L 10 rfl rfl (by kernel_rfl) (by decide +kernel) (by decide +kernel) rfl rfl rfl; (first | exact q_5 | exact q_6 | exact q_7 | exact q_15 | exact q_16 | exact q_19 | fail)) | (apply q_L 11 rfl rfl (by kernel_rfl) (by decide +kernel) (by decide +kernel) rfl rfl rfl; (first | exact q_5 | exact q_6 | exact q_7 | exact q_15 | exact q_16 | exact q_19 | fail)) | (apply q_L 12 rfl rfl (by kernel_rfl) (by decide +kernel) (by decide +kernel) rfl rfl rfl; (first | exact q_5 | exact q_6 | exact q_7 | exact q_15 | exact q_16 | exact q_19 | fail)) | refine N_one (j := 0) (by decide +kernel) ?_ | refine N_one (j := 1) (by decide +kernel) ?_ | refine N_one (j := 2) (by decide +kernel) ?_ | refine N_one (j := 3) (by decide +kernel) ?_ | refine N_one (j := 4) (by decide +kernel) ?_ | refine N_one (j := 5) (by decide +kernel) ?_ | refine N_one (j := 6) (by decide +kernel) ?_ | refine N_one (j := 7) (by decide +kernel) ?_ | refine N_one (j := 8) (by decide +kernel) ?_ | refine N_one (j := 9) (by decide +kernel) ?_ | refine N_one (j := 10) (by decide +kernel) ?_ | refine N_one (j := 11) (by decide +kernel) ?_ | refine N_one (j := 12) (by decide +kernel) ?_ | refine T_alloc tabOk rfl rfl rfl rfl rfl rfl rfl ?_ | refine T_store tabOk rfl rfl rfl rfl rfl rfl rfl rfl rfl rfl rfl rfl rfl ?_ | refine T_box rfl rfl rfl rfl rfl rfl rfl rfl ?_ | (apply T_yield rfl rfl rfl rfl; (first | exact q_1 | exact q_2 | exact q_3 | exact q_4 | exact q_5 | exact q_6 | exact q_7 | exact q_8 | exact q_9 | exact q_10 | exact q_11 | exact q_12 | exact q_13 | exact q_14 | exact q_15 | exact q_16 | exact q_17 | exact q_18 | exact q_19 | exact q_20 | exact q_21 | exact q_22 | exact q_23 | exact q_24 | fail)) | refine N_done (by decide +kernel) ?_ | (first | refine T_call rfl rfl rfl rfl rfl rfl hcl (fun _ => rfl) ?_ | refine T_appD tabOk rfl rfl rfl rfl rfl rfl rfl rfl rfl rfl (Src.row rfl) (flat_len rteD_len ([] : List Rte)) (by decide) rfl (by omega) ?_ | refine T_cTbl 3 902 (by omega) hput rfl rfl rfl rfl rfl rfl rfl rfl rfl (kill_map 33 s.2) rfl rfl ?_))
        repeat (first | refine A_seq ?_ | refine A_block ?_ | refine R_list ?_ | ((first | apply O_y rfl rfl rfl | apply Q_y rfl rfl rfl); (first | exact q_1 | exact q_2 | exact q_3 | exact q_4 | exact q_5 | exact q_6 | exact q_7 | exact q_8 | exact q_9 | exact q_10 | exact q_11 | exact q_12 | exact q_13 | exact q_14 | exact q_15 | exact q_16 | exact q_17 | exact q_18 | exact q_19 | exact q_20 | exact q_21 | exact q_22 | exact q_23 | exact q_24 | fail)) | refine O_nil ?_ | refine Q_nil ?_ | refine q_j ?_ | refine q_k ?_ | refine q_d ?_ | refine q_a ?_ | refine q_b ?_ | refine q_c ?_ | refine A_ct rfl ?_ | refine A_cf rfl ?_ | refine A_skip ?_ | refine A_exit ?_ | refine A_ret ?_ | refine q_l ?_ | refine q_m ?_ | refine q_n ?_ | refine q_h ?_ | refine q_o ?_ | refine q_e ?_ | refine q_f ?_ | refine q_g ?_ | fail)
        exact ⟨(k + 1, putT s l[k].p (([] : List Rte) ++ [l[k]])), ⟨by dsimp only; omega, hR2⟩, by dsimp only; omega, Wk_sel ⟨rfl, rfl, rfl, rfl, rfl, rfl, trivial⟩ ⟨rfl, rfl, trivial⟩⟩
    | some v =>
      rw [hag] at hcl hput hR2 hol
      simp only [Option.getD_some] at hcl hput hR2 hol
      rw [rtesA_snoc] at hput
      repeat (first | refine A_seq ?_ | refine A_block ?_ | refine R_list ?_ | ((first | apply O_y rfl rfl rfl | apply Q_y rfl rfl rfl); (first | exact q_1 | exact q_2 | exact q_3 | exact q_4 | exact q_5 | exact q_6 | exact q_7 | exact q_8 | exact q_9 | exact q_10 | exact q_11 | exact q_12 | exact q_13 | exact q_14 | exact q_15 | exact q_16 | exact q_17 | exact q_18 | exact q_19 | exact q_20 | exact q_21 | exact q_22 | exact q_23 | exact q_24 | fail)) | refine O_nil ?_ | refine Q_nil ?_ | refine q_j ?_ | refine q_k ?_ | refine q_d ?_ | refine q_a ?_ | refine q_b ?_ | refine q_c ?_ | refine A_ct rfl ?_ | refine A_cf rfl ?_ | refine A_skip ?_ | refine A_exit ?_ | refine A_ret ?_ | refine q_l ?_ | refine q_m ?_ | refine q_n ?_ | refine q_h ?_ | refine q_o ?_ | refine q_e ?_ | refine q_f ?_ | refine q_g ?_ | fail)
      refine A_weaken (Wk_sel (e1 := [(0, rtesA l), (1, .d (.sc (.int .u32 x))), (5, .ptr 3 0), (7, .ptr 7 0), (8, rtesA v), (14, rtesA l), (15, intA (l.length : Int)), (16, intA (k : Int))]) (h1 := [(7, rteB1 l[k]), (3, tblB 902 s.1), (902, rmapB s.2)]) ⟨rfl, rfl, rfl, rfl, rfl, rfl, rfl, rfl, trivial⟩ ⟨rfl, rfl, rfl, trivial⟩) ?_
      refine N_begin [3, 902] mixed ?_
      repeat (first | ((first | apply q_M 0 rfl rfl (by kernel_rfl) (by decide +kernel) (by decide +kernel) rfl rfl rfl | apply q_M 1 rfl rfl (by kernel_rfl) (by decide +kernel) (by decide +kernel) rfl rfl rfl | apply q_M 2 rfl rfl (by kernel_rfl) (by decide +kernel) (by decide +kernel) rfl rfl rfl | apply q_M 3 rfl rfl (by kernel_rfl) (by decide +kernel) (by decide +kernel) rfl rfl rfl | apply q_M 4 rfl rfl (by kernel_rfl) (by decide +kernel) (by decide +kernel) rfl rfl rfl | apply q_M 5 rfl rfl (by kernel_rfl) (by decide +kernel) (by decide +kernel) rfl rfl rfl | apply q_M 6 rfl rfl (by kernel_rfl) (by decide +kernel) (by decide +kernel) rfl rfl rfl | apply q_M 7 rfl rfl (by kernel_rfl) (by decide +kernel) (by decide +kernel) rfl rfl rfl | apply q_M 8 rfl rfl (by kernel_rfl) (by decide +kernel) (by decide +kernel) rfl rfl rfl | apply q_M 9 rfl rfl (by kernel_rfl) (by decide +kernel) (by decide +kernel) rfl rfl rfl | apply q_M 10 rfl rfl (by kernel_rfl) (by decide +kernel) (by decide +kernel) rfl rfl rfl | apply q_M 11 rfl rfl (by kernel_rfl) (by decide +kernel) (by decide +kernel) rfl rfl rfl | apply q_M 12 rfl rfl (by kernel_rfl) (by decide +kernel) (by decide +kernel) rfl rfl rfl ); (first | exact q_1 | exact q_2 | exact q_3 | exact q_4 | exact q_5 | exact q_6 | exact q_7 | exact q_8 | exact q_9 | exact q_10 | exact q_11 | exact q_12 | exact q_13 | exact q_14 | exact q_15 | exact q_16 | exact q_17 | exact q_18 | exact q_19 | exact q_20 | exact q_21 | exact q_22 | exact q_23 | exact q_24 | fail)) | (apply q_L 0 rfl rfl (by kernel_rfl) (by decide +kernel) (by decide +kernel) rfl rfl rfl; (first | exact q_5 | exact q_6 | exact q_7 | exact q_15 | exact q_16 | exact q_19 | fail)) | (apply q_L 1 rfl rfl (by kernel_rfl) (by decide +kernel) (by decide +kernel) rfl rfl rfl; (first | exact q_5 | exact q_6 | exact q_7 | exact q_15 | exact q_16 | exact q_19 | fail)) | (apply q_L 2 rfl rfl (by kernel_rfl) (by decide +kernel) (by decide +kernel) rfl rfl rfl; (first | exact q_5 | exact q_6 | exact q_7 | exact q_15 | exact q_16 | exact q_19 | fail)) | (apply q_L 3 rfl rfl (by kernel_rfl) (by decide +kernel) (by decide +kernel) rfl rfl rfl; (first | exact q_5 | exact q_6 | exact q_7 | exact q_15 | exact q_16 | exact q_19 | fail)) | (apply q_L 4 rfl rfl (by kernel_rfl) (by decide +kernel) (by decide +kernel) rfl rfl rfl; (first | exact q_5 | exact q_6 | exact q_7 | exact q_15 | exact q_16 | exact q_19 | fail)) | (apply q_L 5 rfl rfl (by kernel_rfl) (by decide +kernel) (by decide +kernel) rfl rfl rfl; (first | exact q_5 | exact q_6 | exact q_7 | exact q_15 | exact q_16 | exact q_19 | fail)) | (apply q_L 6 rfl rfl (by kernel_rfl) (by decide +kernel) (by decide +kernel) rfl rfl rfl; (first | exact q_5 | exact q_6 | exact q_7 | exact q_15 | exact q_16 | exact q_19 | fail)) | (apply q_L 7 rfl rfl (by kernel_rfl) (by decide +kernel) (by decide +kernel) rfl rfl rfl; (first | exact q_5 | exact q_6 | exact q_7 | exact q_15 | exact q_16 | exact q_19 | fail)) | (apply q_L 8 rfl rfl (by kernel_rfl) (by decide +kernel) (by decide +kernel) rfl rfl rfl; (first | exact q_5 | exact q_6 | exact q_7 | exact q_15 | exact q_16 | exact q_19 | fail)) | (apply q_L 9 rfl rfl (by kernel_rfl) (by decide +kernel) (by decide +kernel) rfl rfl rfl; (first | exact q_5 | exact q_6 | exact q_7 | exact q_15 | exact q_16 | exact q_19 | fail)) | (apply q_L 10 rfl rfl (by kernel_rfl) (by decide +kernel) (by decide +kernel) rfl rfl rfl; (first | exact q_5 | exact q_6 | exact q_7 | exact q_15 | exact q_16 | exact q_19 | fail)) | (apply q_L 11 rfl rfl (by kernel_rfl) (by decide +kernel) (by decide +kernel) rfl rfl rfl; (first | exact q_5 | exact q_6 | exact q_7 | exact q_15 | exact q_16 | exact q_19 | fail)) | (apply q_L 12 rfl rfl (by kernel_rfl) (by decide +kernel) (by decide +kernel) rfl rfl rfl; (first | exact q_5 | exact q_6 | exact q_7 | exact q_15 | exact q_16 | exact q_19 | fail)) | refine N_one (j := 0) (by decide +kernel) ?_ | refine N_one (j := 1) (by decide +kernel) ?_ | refine N_one (j := 2) (by decide +kernel) ?_ | refine N_one (j := 3) (by decide +kernel) ?_ | refine N_one (j := 4) (by decide +kernel) ?_ | refine N_one (j := 5) (by decide +kernel) ?_ | refine N_one (j := 6) (by decide +kernel) ?_ | refine N_one (j := 7) (by decide +kernel) ?_ | refine N_one (j := 8) (by decide +kernel) ?_ | refine N_one (j := 9) (by decide +kernel) ?_ | refine N_one (j := 10) (by decide +kernel) ?_ | refine N_one (j := 11) (by decide +kernel) ?_ | refine N_one (j := 12) (by decide +kernel) ?_ | refine T_alloc tabOk rfl rfl rfl rfl rfl rfl rfl ?_ | refine T_store tabOk rfl rfl rfl rfl rfl rfl rfl rfl rfl rfl rfl rfl rfl ?_ | refine T_box rfl rfl rfl rfl rfl rfl rfl rfl ?_ | (apply T_yield rfl rfl rfl rfl; (first | exact q_1 | exact q_2 | exact q_3 | exact q_4 | exact q_5 | exact q_6 | exact q_7 | exact q_8 | exact q_9 | exact q_10 | exact q_11 | exact q_12 | exact q_13 | exact q_14 | exact q_15 | exact q_16 | exact q_17 | exact q_18 | exact q_19 | exact q_20 | exact q_21 | exact q_22 | exact q_23 | exact q_24 | fail)) | refine N_done (by decide +kernel) ?_ | fail)
      refine N_two (j := 4) (k := 6) (by decide +kernel) ?_ ?_
      · refine T_call rfl rfl rfl rfl rfl rfl hcl (fun _ => rfl) ?_
        repeat (first | ((first | apply q_M 0 rfl rfl (by kernel_rfl) (by decide +kernel) (by decide +kernel) rfl rfl rfl | apply q_M 1 rfl rfl (by kernel_rfl) (by decide +kernel) (by decide +kernel) rfl rfl rfl | apply q_M 2 rfl rfl (by kernel_rfl) (by decide +kernel) (by decide +kernel) rfl rfl rfl | apply q_M 3 rfl rfl (by kernel_rfl) (by decide +kernel) (by decide +kernel) rfl rfl rfl | apply q_M 4 rfl rfl (by kernel_rfl) (by decide +kernel) (by decide +kernel) rfl rfl rfl | apply q_M 5 rfl rfl (by kernel_rfl) (by decide +kernel) (by decide +kernel) rfl rfl rfl | apply q_M 6 rfl rfl (by kernel_rfl) (by decide +kernel) (by decide +kernel) rfl rfl rfl | apply q_M 7 rfl rfl (by kernel_rfl) (by decide +kernel) (by decide +kernel) rfl rfl rfl | apply q_M 8 rfl rfl (by kernel_rfl) (by decide +kernel) (by decide +kernel) rfl rfl rfl | apply q_M 9 rfl rfl (by kernel_rfl) (by decide +kernel) (by decide +kernel) rfl rfl rfl | apply q_M 10 rfl rfl (by kernel_rfl) (by decide +kernel) (by decide +kernel) rfl rfl rfl | apply q_M 11 rfl rfl (by kernel_rfl) (by decide +kernel) (by decide +kernel) rfl rfl rfl | apply q_M 12 rfl rfl (by kernel_rfl) (by decide +kernel) (by decide +kernel) rfl rfl rfl ); (first | exact q_1 | exact q_2 | exact q_3 | exact q_4 | exact q_5 | exact q_6 | exact q_7 | exact q_8 | exact q_9 | exact q_10 | exact q_11 | exact q_12 | exact q_13 | exact q_14 | exact q_15 | exact q_16 | exact q_17 | exact q_18 | exact q_19 | exact q_20 | exact q_21 | exact q_22 | exact q_23 | exact q_24 | fail)) | (apply q_L 0 rfl rfl (by kernel_rfl) (by decide +kernel) (by decide +kernel) rfl rfl rfl; (first | exact q_5 | exact q_6 | exact q_7 | exact q_15 | exact q_16 | exact q_19 | fail)) | (apply q_L 1 rfl rfl (by kernel_rfl) (by decide +kernel) (by decide +kernel) rfl rfl rfl; (first | exact q_5 | exact q_6 | exact q_7 | exact q_15 | exact q_16 | exact q_19 | fail)) | (apply q_L 2 rfl rfl (by kernel_rfl) (by decide +kernel) (by decide +kernel) rfl rfl rfl; (first | exact q_5 | exact q_6 | exact q_7 | exact q_15 | exact q_16 | exact q_19 | fail)) | (apply q_L 3 rfl rfl (by kernel_rfl) (by decide +kernel) (by decide +kernel) rfl rfl rfl; (first | exact q_5 | exact q_6 | exact q_7 | exact q_15 | exact q_16 | exact q_19 | fail)) | (apply q_L 4 rfl rfl (by kernel_rfl) (by decide +kernel) (by decide +kernel) rfl rfl rfl; (first | exact q_5 | exact q_6 | exact q_7 | exact q_15 | exact q_16 | exact q_19 | fail)) | (apply q_L 5 rfl rfl (by kernel_rfl) (by decide +kernel) (by decide +kernel) rfl rfl rfl; (first | exact q_5 | exact q_6 | exact q_7 | exact q_15 | exact q_16 | exact q_19 | fail)) | (apply q_L 6 rfl rfl (by kernel_rfl) (by decide +kernel) (by decide +kernel) rfl rfl rfl; (first | exact q_5 | exact q_6 | exact q_7 | exact q_15 | exact q_16 | exact q_19 | fail)) | (apply q_L 7 rfl rfl (by kernel_rfl) (by decide +kernel) (by decide +kernel) rfl rfl rfl; (first | exact q_5 | exact q_6 | exact q_7 | exact q_15 | exact q_16 | exact q_19 | fail)) | (apply q_L 8 rfl rfl (by kernel_rfl) (by decide +kernel) (by decide +kernel) rfl rfl rfl; (first | exact q_5 | exact q_6 | exact q_7 | exact q_15 | exact q_16 | exact q_19 | fail)) | (apply q_L 9 rfl rfl (by kernel_rfl) (by decide +kernel) (by decide +kernel) rfl rfl rfl; (first | exact q_5 | exact q_6 | exact q_7 | exact q_15 | exact q_16 | exact q_19 | fail)) | (apply q_L 10 rfl rfl (by kernel_rfl) (by decide +kernel) (by decide +kernel) rfl rfl rfl; (first | exact q_5 | exact q_6 | exact q_7 | exact q_15 | exact q_16 | exact q_19 | fail)) | (apply q_L 11 rfl rfl (by kernel_rfl) (by decide +kernel) (by decide +kernel) rfl rfl rfl; (first | exact q_5 | exact q_6 | exact q_7 | exact q_15 | exact q_16 | exact q_19 | fail)) | (apply q_L 12 rfl rfl (by kernel_rfl) (by decide +kernel) (by decide +kernel) rfl rfl rfl; (first | exact q_5 | exact q_6 | exact q_7 | exact q_15 | exact q_16 | exact q_19 | fail)) | refine N_one (j := 0) (by decide +kernel) ?_ | refine N_one (j := 1) (by decide +kernel) ?_ | refine N_one (j := 2) (by decide +kernel) ?_ | refine N_one (j := 3) (by decide +kernel) ?_ | refine N_one (j := 4) (by decide +kernel) ?_ | refine N_one (j := 5) (by decide +kernel) ?_ | refine N_one (j := 6) (by decide +kernel) ?_ | refine N_one (j := 7) (by decide +kernel) ?_ | refine N_one (j := 8) (by decide +kernel) ?_ | refine N_one (j := 9) (by decide +kernel) ?_ | refine N_one (j := 10) (by decide +kernel) ?_ | refine N_one (j := 11) (by decide +kernel) ?_ | refine N_one (j := 12) (by decide +kernel) ?_ | refine T_alloc tabOk rfl rfl rfl rfl rfl rfl rfl ?_ | refine T_store tabOk rfl rfl rfl rfl rfl rfl rfl rfl rfl rfl rfl rfl rfl ?_ | refine T_box rfl rfl rfl rfl rfl rfl rfl rfl ?_ | (apply T_yield rfl rfl rfl rfl; (first | exact q_1 | exact q_2 | exact q_3 | exact q_4 | exact q_5 | exact q_6 | exact q_7 | exact q_8 | exact q_9 | exact q_10 | exact q_11 | exact q_12 | exact q_13 | exact q_14 | exact q_15 | exact q_16 | exact q_17 | exact q_18 | exact q_19 | exact q_20 | exact q_21 | exact q_22 | exact q_23 | exact q_24 | fail)) | refine N_done (by decide +kernel) ?_ | (first | refine T_slice tabOk rfl rfl rfl rfl rfl rfl rfl rfl rfl rfl rfl rfl ?_ | refine T_appD tabOk rfl rfl rfl rfl rfl rfl rfl rfl rfl rfl (Src.row rfl) (flat_len rteD_len v) (by decide) rfl (by omega) ?_ | refine T_cTbl 3 902 (by omega) hput rfl rfl rfl rfl rfl rfl rfl rfl rfl (kill_map 33 s.2) rfl rfl ?_))
        repeat (first | refine A_seq ?_ | refine A_block ?_ | refine R_list ?_ | ((first | apply O_y rfl rfl rfl | apply Q_y rfl rfl rfl); (first | exact q_1 | exact q_2 | exact q_3 | exact q_4 | exact q_5 | exact q_6 | exact q_7 | exact q_8 | exact q_9 | exact q_10 | exact q_11 | exact q_12 | exact q_13 | exact q_14 | exact q_15 | exact q_16 | exact q_17 | exact q_18 | exact q_19 | exact q_20 | exact q_21 | exact q_22 | exact q_23 | exact q_24 | fail)) | refine O_nil ?_ | refine Q_nil ?_ | refine q_j ?_ | refine q_k ?_ | refine q_d ?_ | refine q_a ?_ | refine q_b ?_ | refine q_c ?_ | refine A_ct rfl ?_ | refine A_cf rfl ?_ | refine A_skip ?_ | refine A_exit ?_ | refine A_ret ?_ | refine q_l ?_ | refine q_m ?_ | refine q_n ?_ | refine q_h ?_ | refine q_o ?_ | refine q_e ?_ | refine q_f ?_ | refine q_g ?_ | fail)
        exact ⟨(k + 1, putT s l[k].p (v ++ [l[k]])), ⟨by dsimp only; omega, hR2⟩, by dsimp only; omega, Wk_sel ⟨rfl, rfl, rfl, rfl, rfl, rfl, trivial⟩ ⟨rfl, rfl, trivial⟩⟩
      · refine T_slice tabOk rfl rfl rfl rfl rfl rfl rfl rfl rfl rfl rfl rfl ?_
        repeat (first | ((first | apply q_M 0 rfl rfl (by kernel_rfl) (by decide +kernel) (by decide +kernel) rfl rfl rfl | apply q_M 1 rfl rfl (by kernel_rfl) (by decide +kernel) (by decide +kernel) rfl rfl rfl | apply q_M 2 rfl rfl (by kernel_rfl) (by decide +kernel) (by decide +kernel) rfl rfl rfl | apply q_M 3 rfl rfl (by kernel_rfl) (by decide +kernel) (by decide +kernel) rfl rfl rfl | apply q_M 4 rfl rfl (by kernel_rfl) (by decide +kernel) (by decide +kernel) rfl rfl rfl | apply q_M 5 rfl rfl (by kernel_rfl) (by decide +kernel) (by decide +kernel) rfl rfl rfl | apply q_M 6 rfl rfl (by kernel_rfl) (by decide +kernel) (by decide +kernel) rfl rfl rfl | apply q_M 7 rfl rfl (by kernel_rfl) (by decide +kernel) (by decide +kernel) rfl rfl rfl | apply q_M 8 rfl rfl (by kernel_rfl) (by decide +kernel) (by decide +kernel) rfl rfl rfl | apply q_M 9 rfl rfl (by kernel_rfl) (by decide +kernel) (by decide +kernel) rfl rfl rfl | apply q_M 10 rfl rfl (by kernel_rfl) (by decide +kernel) (by decide +kernel) rfl rfl rfl | apply q_M 11 rfl rfl (by kernel_rfl) (by decide +kernel) (by decide +kernel) rfl rfl rfl | apply q_M 12 rfl rfl (by kernel_rfl) (by decide +kernel) (by decide +kernel) rfl rfl rfl ); (first | exact q_1 | exact q_2 | exact q_3 | exact q_4 | exact q_5 | exact q_6 | exact q_7 | exact q_8 | exact q_9 | exact q_10 | exact q_11 | exact q_12 | exact q_13 | exact q_14 | exact q_15 | exact q_16 | exact q_17 | exact q_18 | exact q_19 | exact q_20 | exact q_21 | exact q_22 | exact q_23 | exact q_24 | fail)) | (apply q_L 0 rfl rfl (by kernel_rfl) (by decide +kernel) (by decide +kernel) rfl rfl rfl; (first | exact q_5 | exact q_6 | exact q_7 | exact q_15 | exact q_16 | exact q_19 | fail)) | (apply q_L 1 rfl rfl (by kernel_rfl) (by decide +kernel) (by decide +kernel) rfl rfl rfl; (first | exact q_5 | exact q_6 | exact q_7 | exact q_15 | exact q_16 | exact q_19 | fail)) | (apply q_L 2 rfl rfl (by kernel_rfl) (by decide +kernel) (by decide +kernel) rfl rfl rfl; (first | exact q_5 | exact q_6 | exact q_7 | exact q_15 | exact q_16 | exact q_19 | fail)) | (apply q_L 3 rfl rfl (by kernel_rfl) (by decide +kernel) (by decide +kernel) rfl rfl rfl; (first | exact q_5 | exact q_6 | exact q_7 | exact q_15 | exact q_16 | exact q_19 | fail)) | (apply q_L 4 rfl rfl (by kernel_rfl) (by decide +kernel) (by decide +kernel) rfl rfl rfl; (first | exact q_5 | exact q_6 | exact q_7 | exact q_15 | exact q_16 | exact q_19 | fail)) | (apply q_L 5 rfl rfl (by kernel_rfl) (by decide +kernel) (by decide +kernel) rfl rfl rfl; (first | exact q_5 | exact q_6 | exact q_7 | exact q_15 | exact q_16 | exact q_19 | fail)) | (apply q_L 6 rfl rfl (by kernel_rfl) (by decide +kernel) (by decide +kernel) rfl rfl rfl; (first | exact q_5 | exact q_6 | exact q_7 | exact q_15 | exact q_16 | exact q_19 | fail)) | (apply q_L 7 rfl rfl (by kernel_rfl) (by decide +kernel) (by decide +kernel) rfl rfl rfl; (first | exact q_5 | exact q_6 | exact q_7 | exact q_15 | exact q_16 | exact q_19 | fail)) | (apply q_L 8 rfl rfl (by kernel_rfl) (by decide +kernel) (by decide +kernel) rfl rfl rfl; (first | exact q_5 | exact q_6 | exact q_7 | exact q_15 | exact q_16 | exact q_19 | fail)) | (apply q_L 9 rfl rfl (by kernel_rfl) (by decide +kernel) (by decide +kernel) rfl rfl rfl; (first | exact q_5 | exact q_6 | exact q_7 | exact q_15 | exact q_16 | exact q_19 | fail)) | (apply q_L 10 rfl rfl (by kernel_rfl) (by decide +kernel) (by decide +kernel) rfl rfl rfl; (first | exact q_5 | exact q_6 | exact q_7 | exact q_15 | exact q_16 | exact q_19 | fail)) | (apply q_L 11 rfl rfl (by kernel_rfl) (by decide +kernel) (by decide +kernel) rfl rfl rfl; (first | exact q_5 | exact q_6 | exact q_7 | exact q_15 | exact q_16 | exact q_19 | fail)) | (apply q_L 12 rfl rfl (by kernel_rfl) (by decide +kernel) (by decide +kernel) rfl rfl rfl; (first | exact q_5 | exact q_6 | exact q_7 | exact q_15 | exact q_16 | exact q_19 | fail)) | refine N_one (j := 0) (by decide +kernel) ?_ | refine N_one (j := 1) (by decide +kernel) ?_ | refine N_one (j := 2) (by decide +kernel) ?_ | refine N_one (j := 3) (by decide +kernel) ?_ | refine N_one (j := 4) (by decide +kernel) ?_ | refine N_one (j := 5) (by decide +kernel) ?_ | refine N_one (j := 6) (by decide +kernel) ?_ | refine N_one (j := 7) (by decide +kernel) ?_ | refine N_one (j := 8) (by decide +kernel) ?_ | refine N_one (j := 9) (by decide +kernel) ?_ | refine N_one (j := 10) (by decide +kernel) ?_ | refine N_one (j := 11) (by decide +kernel) ?_ | refine N_one (j := 12) (by decide +kernel) ?_ | refine T_alloc tabOk rfl rfl rfl rfl rfl rfl rfl ?_ | refine T_store tabOk rfl rfl rfl rfl rfl rfl rfl rfl rfl rfl rfl rfl rfl ?_ | refine T_box rfl rfl rfl rfl rfl rfl rfl rfl ?_ | (apply T_yield rfl rfl rfl rfl; (first | exact q_1 | exact q_2 | exact q_3 | exact q_4 | exact q_5 | exact q_6 | exact q_7 | exact q_8 | exact q_9 | exact q_10 | exact q_11 | exact q_12 | exact q_13 | exact q_14 | exact q_15 | exact q_16 | exact q_17 | exact q_18 | exact q_19 | exact q_20 | exact q_21 | exact q_22 | exact q_23 | exact q_24 | fail)) | refine N_done (by decide +kernel) ?_ | (first | refine T_call rfl rfl rfl rfl rfl rfl hcl (fun _ => rfl) ?_ | refine T_appD tabOk rfl rfl rfl rfl rfl rfl rfl rfl rfl rfl (Src.row rfl) (flat_len rteD_len v) (by decide) rfl (by omega) ?_ | refine T_cTbl 3 902 (by omega) hput rfl rfl rfl rfl rfl rfl rfl rfl rfl (kill_map 33 s.2) rfl rfl ?_))
        repeat (first | refine A_seq ?_ | refine A_block ?_ | refine R_list ?_ | ((first | apply O_y rfl rfl rfl | apply Q_y rfl rfl rfl); (first | exact q_1 | exact q_2 | exact q_3 | exact q_4 | exact q_5 | exact q_6 | exact q_7 | exact q_8 | exact q_9 | exact q_10 | exact q_11 | exact q_12 | exact q_13 | exact q_14 | exact q_15 | exact q_16 | exact q_17 | exact q_18 | exact q_19 | exact q_20 | exact q_21 | exact q_22 | exact q_23 | exact q_24 | fail)) | refine O_nil ?_ | refine Q_nil ?_ | refine q_j ?_ | refine q_k ?_ | refine q_d ?_ | refine q_a ?_ | refine q_b ?_ | refine q_c ?_ | refine A_ct rfl ?_ | refine A_cf rfl ?_ | refine A_skip ?_ | refine A_exit ?_ | refine A_ret ?_ | refine q_l ?_ | refine q_m ?_ | refine q_n ?_ | refine q_h ?_ | refine q_o ?_ | refine q_e ?_ | refine q_f ?_ | refine q_g ?_ | fail)
        exact ⟨(k + 1, putT s l[k].p (v ++ [l[k]])), ⟨by dsimp only; omega, hR2⟩, by dsimp only; omega, Wk_sel ⟨rfl, rfl, rfl, rfl, rfl, rfl, trivial⟩ ⟨rfl, rfl, trivial⟩⟩
  · have hkk : k = l.length := by omega
    subst hkk
    rw [List.take_length] at R
    have hlong := longest_A s.1 s.2 x x0 x1 R.nd
    rw [long_is R x] at hlong
    have hso := sort_R (l.filter (topB l x)) (Nat.le_trans (List.length_filter_le _ _) (by omega))
    repeat (first | refine A_seq ?_ | refine A_block ?_ | refine R_list ?_ | ((first | apply O_y rfl rfl rfl | apply Q_y rfl rfl rfl); (first | exact q_1 | exact q_2 | exact q_3 | exact q_4 | exact q_5 | exact q_6 | exact q_7 | exact q_8 | exact q_9 | exact q_10 | exact q_11 | exact q_12 | exact q_13 | exact q_14 | exact q_15 | exact q_16 | exact q_17 | exact q_18 | exact q_19 | exact q_20 | exact q_21 | exact q_22 | exact q_23 | exact q_24 | fail)) | refine O_nil ?_ | refine Q_nil ?_ | refine q_j ?_ | refine q_k ?_ | refine q_d ?_ | refine q_a ?_ | refine q_b ?_ | refine q_c ?_ | refine A_ct rfl ?_ | refine A_cf rfl ?_ | refine A_skip ?_ | refine A_exit ?_ | refine A_ret ?_ | refine q_l ?_ | refine q_m ?_ | refine q_n ?_ | refine q_h ?_ | refine q_o ?_ | refine q_e ?_ | refine q_f ?_ | refine q_g ?_ | (first | refine O_cTbl 3 902 (by omega) hlong rfl rfl rfl rfl rfl rfl rfl rfl rfl ?_ | refine O_cRow rfl rfl rfl rfl rfl hso rfl ?_))
    exact X_retW AWk.refl rfl (h2 := [(5, rteB (longL l x))]) ⟨rfl, trivial⟩ ⟨rfl, rfl⟩
end Go.Proofs.Ytnnclkeoakjjkaa.Ab

namespace Go.Proofs.Ytnnclkeoakjjkaa
set_option linter.unusedVariables false
open Go.Lib
structure Hp where
  i : List UInt8
  h : Int
  deriving DecidableEq
instance : Inhabited Hp := ⟨⟨[], 0⟩⟩
def ordH : Hp → Hp → Int := lexc (fun x y => compareBytes x.i y.i) (fun x y => c2 x.h y.h)
theorem good_ordH : Good ordH := (good_bytes.of _).lex (good_c2.of _)
theorem ordH_zero (x y : Hp) : ordH x y = 0 ↔ x = y := by
  obtain ⟨a, b⟩ := x
  obtain ⟨c, d⟩ := y
  simp [ordH, lexc_zero, bytes_zero, c2_zero]
theorem ordH_eq (x y : Hp) (h : ordH x y = 0) : x = y := (ordH_zero x y).1 h
namespace Ab
def hopOf (a : Int) (q : Rte) : Hp := ⟨q.i, if q.h = 0 then a else q.h⟩
def onB (q : Rte) : Bool := !q.x && decide (q.i = [])
def outB (q : Rte) : Bool := !q.x && !decide (q.i = [])
inductive Led (l : List Rte) (r : Rte) : Rte → Prop
  | refl : Led l r r
  | step {s q : Rte} (h : Led l r s) (hq : q ∈ longL l s.h) (ho : onB q = true) : Led l r q
theorem Led.trans {l : List Rte} {r s t : Rte} (h : Led l r s) (k : Led l s t) : Led l r t := by
  induction k with
  | refl => exact h
  | step _ hq ho ih => exact ih.step hq ho
theorem longL_sub {l : List Rte} {a : Int} {q : Rte} (h : q ∈ longL l a) : q ∈ l := by
  unfold longL at h
  rw [sortU_mem] at h
  exact (List.mem_filter.1 h).1
theorem Led.mem {l : List Rte} {r s : Rte} (h : Led l r s) : s = r ∨ s ∈ l := by
  cases h with
  | refl => exact .inl rfl
  | step _ hq _ => exact .inr (longL_sub hq)
def IsHop (l : List Rte) (r : Rte) (x : Hp) : Prop := ∃ s q, Led l r s ∧ q ∈ longL l s.h ∧ outB q = true ∧ x = hopOf s.h q
structure Walk (l : List Rte) (r : Rte) (V : List Rte) (O : List Hp) (V' : List Rte) (O' : List Hp) : Prop where
  me : r ∈ V'
  old : ∀ s ∈ V, s ∈ V'
  new : ∀ s ∈ V', s ∈ V ∨ Led l r s
  all : ∀ s ∈ V', s ∈ V ∨ ∀ q ∈ longL l s.h, onB q = true → q ∈ V'
  keep : ∀ x ∈ O, x ∈ O'
  hop : ∀ x ∈ O', x ∈ O ∨ IsHop l r x
  out : ∀ s ∈ V', s ∈ V ∨ ∀ q ∈ longL l s.h, outB q = true → hopOf s.h q ∈ O'
  nd : V'.Nodup
  sub : ∀ s ∈ V', s ∈ V ∨ s = r ∨ s ∈ l
  len : O'.length + V.length * 1000 ≤ O.length + V'.length * 1000
structure Part (l : List Rte) (r : Rte) (V : List Rte) (O : List Hp) (k : Nat) (V' : List Rte) (O' : List Hp) : Prop where
  me : r ∈ V'
  old : ∀ s ∈ V, s ∈ V'
  new : ∀ s ∈ V', s ∈ V ∨ Led l r s
  all : ∀ s ∈ V', s ∈ V ∨ s = r ∨ ∀ q ∈ longL l s.h, onB q = true → q ∈ V'
  mine : ∀ q ∈ (longL l r.h).take k, onB q = true → q ∈ V'
  keep : ∀ x ∈ O, x ∈ O'
  hop : ∀ x ∈ O', x ∈ O ∨ IsHop l r x
  out : ∀ s ∈ V', s ∈ V ∨ s = r ∨ ∀ q ∈ longL l s.h, outB q = true → hopOf s.h q ∈ O'
  omine : ∀ q ∈ (longL l r.h).take k, outB q = true → hopOf r.h q ∈ O'
  nd : V'.Nodup
  sub : ∀ s ∈ V', s ∈ V ∨ s = r ∨ s ∈ l
  len : O'.length + V.length * 1000 + 1000 ≤ O.length + V'.length * 1000 + k
section
variable {l : List Rte} {r : Rte} {V V' : List Rte} {O O' : List Hp} {k : Nat}
theorem Part.zero (hr : r ∉ V) (hn : V.Nodup) : Part l r V O 0 (V ++ [r]) O := by
  refine ⟨by simp, fun s h => List.mem_append_left _ h, fun s h => ?_, fun s h => ?_, by simp, fun x h => h, fun x h => .inl h, fun s h => ?_, by simp, ?_, fun s h => ?_, by rw [List.length_append, List.length_singleton]; omega⟩
  · rcases List.mem_append.1 h with h | h
    · exact .inl h
    · simp at h; subst h; exact .inr .refl
  · rcases List.mem_append.1 h with h | h
    · exact .inl h
    · simp at h; exact .inr (.inl h)
  · rcases List.mem_append.1 h with h | h
    · exact .inl h
    · simp at h; exact .inr (.inl h)
  · rw [List.nodup_append]
    exact ⟨hn, by simp, fun a ha b hb => by simp at hb; subst hb; rintro rfl; exact hr ha⟩
  · rcases List.mem_append.1 h with h | h
    · exact .inl h
    · simp at h; exact .inr (.inl h)
theorem Part.done (W : Part l r V O (longL l r.h).length V' O') (hl : (longL l r.h).length ≤ 1000) : Walk l r V O V' O' := by
  have h1 := W.mine
  have h2 := W.omine
  rw [List.take_length] at h1 h2
  refine ⟨W.me, W.old, W.new, fun s hs => ?_, W.keep, W.hop, fun s hs => ?_, W.nd, W.sub, by have := W.len; omega⟩
  · rcases W.all s hs with h | h | h
    · exact .inl h
    · subst h; exact .inr h1
    · exact .inr h
  · rcases W.out s hs with h | h | h
    · exact .inl h
    · subst h; exact .inr h2
    · exact .inr h
theorem Part.skip (W : Part l r V O k V' O') (hk : k < (longL l r.h).length) (h1 : onB (longL l r.h)[k] = true → (longL l r.h)[k] ∈ V') (h2 : outB (longL l r.h)[k] = false) : Part l r V O (k + 1) V' O' := by
  refine ⟨W.me, W.old, W.new, W.all, fun q hq ho => ?_, W.keep, W.hop, W.out, fun q hq ho => ?_, W.nd, W.sub, by have := W.len; omega⟩
  · rw [List.take_succ_eq_append_getElem hk, List.mem_append, List.mem_singleton] at hq
    rcases hq with hq | rfl
    · exact W.mine q hq ho
    · exact h1 ho
  · rw [List.take_succ_eq_append_getElem hk, List.mem_append, List.mem_singleton] at hq
    rcases hq with hq | rfl
    · exact W.omine q hq ho
    · rw [h2] at ho; cases ho
theorem Part.go (W : Part l r V O k V' O') (hk : k < (longL l r.h).length) (h2 : outB (longL l r.h)[k] = true) : Part l r V O (k + 1) V' (O' ++ [hopOf r.h (longL l r.h)[k]]) := by
  refine ⟨W.me, W.old, W.new, W.all, fun q hq ho => ?_, fun x hx => List.mem_append_left _ (W.keep x hx), fun x hx => ?_, fun s hs => ?_, fun q hq ho => ?_, W.nd, W.sub, by have := W.len; rw [List.length_append, List.length_singleton]; omega⟩
  · rw [List.take_succ_eq_append_getElem hk, List.mem_append, List.mem_singleton] at hq
    rcases hq with hq | rfl
    · exact W.mine q hq ho
    · unfold onB at ho; unfold outB at h2; simp_all
  · rcases List.mem_append.1 hx with hx | hx
    · exact W.hop x hx
    · simp at hx; exact .inr ⟨r, _, .refl, List.getElem_mem hk, h2, hx⟩
  · rcases W.out s hs with h | h | h
    · exact .inl h
    · exact .inr (.inl h)
    · exact .inr (.inr fun q hq ho => List.mem_append_left _ (h q hq ho))
  · rw [List.take_succ_eq_append_getElem hk, List.mem_append, List.mem_singleton] at hq
    rcases hq with hq | rfl
    · exact List.mem_append_left _ (W.omine q hq ho)
    · simp
theorem Part.on {V2 : List Rte} {O2 : List Hp} (W : Part l r V O k V' O') (hk : k < (longL l r.h).length) (h1 : onB (longL l r.h)[k] = true) (W2 : Walk l (longL l r.h)[k] V' O' V2 O2) : Part l r V O (k + 1) V2 O2 := by
  have hled : ∀ s, Led l (longL l r.h)[k] s → Led l r s := fun s h => (Led.refl.step (List.getElem_mem hk) h1).trans h
  refine ⟨W2.old _ W.me, fun s hs => W2.old _ (W.old s hs), fun s hs => ?_, fun s hs => ?_, fun q hq ho => ?_, fun x hx => W2.keep x (W.keep x hx), fun x hx => ?_, fun s hs => ?_, fun q hq ho => ?_, W2.nd, fun s hs => ?_, by have := W.len; have := W2.len; omega⟩
  · rcases W2.new s hs with h | h
    · exact W.new s h
    · exact .inr (hled s h)
  · rcases W2.all s hs with h | h
    · rcases W.all s h with h3 | h3 | h3
      · exact .inl h3
      · exact .inr (.inl h3)
      · exact .inr (.inr fun q hq ho => W2.old _ (h3 q hq ho))
    · exact .inr (.inr h)
  · rw [List.take_succ_eq_append_getElem hk, List.mem_append, List.mem_singleton] at hq
    rcases hq with hq | rfl
    · exact W2.old _ (W.mine q hq ho)
    · exact W2.me
  · rcases W2.hop x hx with h | ⟨s, q, h3, h4, h5, h6⟩
    · exact W.hop x h
    · exact .inr ⟨s, q, hled s h3, h4, h5, h6⟩
  · rcases W2.out s hs with h | h
    · rcases W.out s h with h3 | h3 | h3
      · exact .inl h3
      · exact .inr (.inl h3)
      · exact .inr (.inr fun q hq ho => W2.keep _ (h3 q hq ho))
    · exact .inr (.inr h)
  · rw [List.take_succ_eq_append_getElem hk, List.mem_append, List.mem_singleton] at hq
    rcases hq with hq | rfl
    · exact W2.keep _ (W.omine q hq ho)
    · unfold onB at h1; unfold outB at ho; simp_all
  · rcases W2.sub s hs with h | h | h
    · exact W.sub s h
    · subst h; exact .inr (.inr (longL_sub (List.getElem_mem hk)))
    · exact .inr (.inr h)
end
theorem Walk.hops {l : List Rte} {r : Rte} {V : List Rte} {O : List Hp} (W : Walk l r [] [] V O) (x : Hp) : x ∈ O ↔ IsHop l r x := by
  have hin : ∀ s, Led l r s → s ∈ V := fun s h => by
    induction h with
    | refl => exact W.me
    | step _ hq ho ih => exact ((W.all _ ih).resolve_left (by simp)) _ hq ho
  refine ⟨fun h => (W.hop x h).resolve_left (by simp), fun ⟨s, q, h1, h2, h3, h4⟩ => ?_⟩
  rw [h4]
  exact ((W.out s (hin s h1)).resolve_left (by simp)) q h2 h3
def leftN (l V : List Rte) : Nat := (l.filter fun s => !decide (s ∈ V)).length
theorem leftN_le {l V V' : List Rte} (h : ∀ s ∈ V, s ∈ V') : leftN l V' ≤ leftN l V := by
  unfold leftN
  induction l with
  | nil => exact Nat.le_refl _
  | cons a t ih =>
    by_cases h1 : a ∈ V
    · simp only [List.filter_cons, h1, h a h1, decide_true, Bool.not_true, Bool.false_eq_true, if_false]; exact ih
    · by_cases h2 : a ∈ V'
      · simp only [List.filter_cons, h1, h2, decide_true, decide_false, Bool.not_true, Bool.not_false, Bool.false_eq_true, if_false, if_true, List.length_cons]; omega
      · simp only [List.filter_cons, h1, h2, decide_false, Bool.not_false, if_true, List.length_cons]; omega
theorem leftN_lt {l V : List Rte} {q : Rte} (hq : q ∈ l) (h : q ∉ V) : leftN l (V ++ [q]) < leftN l V := by
  unfold leftN
  induction l with
  | nil => cases hq
  | cons a t ih =>
    have hle : (t.filter fun s => !decide (s ∈ V ++ [q])).length ≤ (t.filter fun s => !decide (s ∈ V)).length := leftN_le fun s hs => List.mem_append_left _ hs
    rcases List.mem_cons.1 hq with rfl | hq
    · simp only [List.filter_cons, h, decide_false, Bool.not_false, if_true, List.length_cons]
      simp only [List.mem_append, List.mem_singleton, or_true, decide_true, Bool.not_true, Bool.false_eq_true, if_false]
      simp only [List.mem_append, List.mem_singleton] at hle
      omega
    · have ih := ih hq
      by_cases h1 : a ∈ V
      · have h2 : a ∈ V ++ [q] := List.mem_append_left _ h1
        simp only [List.filter_cons, h1, h2, decide_true, Bool.not_true, Bool.false_eq_true, if_false]; exact ih
      · by_cases h2 : a ∈ V ++ [q]
        · simp only [List.filter_cons, h1, h2, decide_true, decide_false, Bool.not_true, Bool.not_false, Bool.false_eq_true, if_false, if_true, List.length_cons]; omega
        · simp only [List.filter_cons, h1, h2, decide_false, Bool.not_false, if_true, List.length_cons]; omega
noncomputable def ledSet (l : List Rte) (r : Rte) : List Hp := open Classical in ((r :: l).flatMap fun s => (longL l s.h).filterMap fun q => if Led l r s ∧ outB q = true then some (hopOf s.h q) else none)
theorem ledSet_mem {l : List Rte} {r : Rte} {x : Hp} : x ∈ ledSet l r ↔ IsHop l r x := by
  unfold ledSet
  rw [List.mem_flatMap]
  constructor
  · rintro ⟨s, _, hx⟩
    obtain ⟨q, hq, hx⟩ := List.mem_filterMap.1 hx
    split at hx
    · rename_i h; cases hx; exact ⟨s, q, h.1, hq, h.2, rfl⟩
    · cases hx
  · rintro ⟨s, q, h1, h2, h3, rfl⟩
    refine ⟨s, ?_, List.mem_filterMap.2 ⟨q, h2, if_pos ⟨h1, h3⟩⟩⟩
    rcases h1.mem with h | h
    · rw [h]; simp
    · exact List.mem_cons_of_mem _ h
noncomputable def ledH (l : List Rte) (r : Rte) : List Hp := if r.x then [] else if r.i ≠ [] then [⟨r.i, r.h⟩] else sortU ordH (ledSet l r)
theorem ledH_of {l : List Rte} {r : Rte} {O : List Hp} (hx : r.x = false) (hi : r.i = []) (h : ∀ x, x ∈ O ↔ IsHop l r x) : sortU ordH O = ledH l r := by
  unfold ledH
  rw [hx, if_neg (by simp), if_neg (by simpa using hi)]
  exact sortU_ext good_ordH ordH_eq fun x => by rw [h, ledSet_mem]
end Ab
end Go.Proofs.Ytnnclkeoakjjkaa

namespace Go.Proofs
open Go.Shelf
def Try.lays106_ren : Go.Shelf.Ren := ⟨fun | 106 => 31 | 213 => 46 | 265 => 70 | n => n, fun | 9 => 9 | 3 => 3 | n => n, fun | n => n⟩
theorem Try.lays106 : Go.Proofs.Lays.n106 Try.prog Try.lays106_ren := {
  mixed := by kernel_rfl
  f106 := Try.func31.trans (congrArg some (by kernel_rfl))
  f213 := Try.func46.trans (congrArg some (by kernel_rfl))
  f265 := Try.func70.trans (congrArg some (by kernel_rfl))
  t3 := Try.underlying3
  a3 := Try.isAgg3
  z3 := Try.sizeOf3
  v3 := Try.zeroValue3
  t9 := Try.underlying9
  a9 := Try.isAgg9
  z9 := Try.sizeOf9
  v9 := Try.zeroValue9 }
end Go.Proofs

namespace Go.Proofs.Ytnnclkeoakjjkaa.Ab
set_option linter.unusedVariables false
set_option maxRecDepth 100000
open Go.RowKit Go.Lib
set_option linter.unusedSimpArgs false
attribute [local irreducible] AWp AOps AQ AYield AEff ACall AWk AAny AAt AThen AIn APost NoPanic
def hopD (x : Hp) : List Dat := [.sc (.string ⟨⟨x.i⟩⟩), .sc (.int .u32 x.h)]
theorem hopD_len (x : Hp) : (hopD x).length = 2 := rfl
def hopA (x : Hp) : AVal := .agg [.d (.sc (.string ⟨⟨x.i⟩⟩)), .d (.sc (.int .u32 x.h))]
def hopV (x : Hp) : List Value := [.string ⟨⟨x.i⟩⟩, .int .u32 x.h]
def hopsA (l : List Hp) : AVal := .d (.sl (l.flatMap hopD) l.length)
def hopB (l : List Hp) : ABlk := .row 34 2 l.length (l.flatMap hopD)
theorem hopEq (x y : Hp) : eqCells (hopV x) (hopV y) = some (x == y) := by
  obtain ⟨a, b⟩ := x
  obtain ⟨c, d⟩ := y
  simp only [hopV, eqCells, eqV, if_true, mk_toList, Bool.and_true, Option.some.injEq]
  rw [Bool.eq_iff_iff]
  simp only [Bool.and_eq_true, beq_iff_eq, Hp.mk.injEq]
theorem strCmp_A (x y : List UInt8) : ACall Try.prog 31 [strA x, strA y] [] (Just (intA (compareBytes x y))) :=
  ACall_val (by kernel_rfl) rfl rfl rfl fun w => (Any.strings_Compare Try.lays106 ⟨⟨x⟩⟩ ⟨⟨y⟩⟩ w).mono fun _ _ ⟨he, hw⟩ => ⟨he, by rw [hw]; exact Below.refl _ _⟩
theorem ordH_first (x y : Hp) : firstI [compareBytes x.i y.i, c2 x.h y.h] = ordH x y := by
  have key : ∀ a : Int, (if a = 0 then 0 else a) = a := fun a => by split <;> omega
  simp only [firstI, ordH, lexc, key]
set_option maxHeartbeats 4000000 in
theorem hopCmp_A (x y : Hp) : ACall Try.prog 29 [hopA x, hopA y] [] (Just (intA (ordH x y))) := by
  have h1 := strCmp_A x.i y.i
  have h2 := compare_addr x.h y.h
  have h3 := or_int [compareBytes x.i y.i, c2 x.h y.h] (by simp)
  rw [ordH_first] at h3
  refine ACall_of tabOk Try.func29 rfl Try.ntmps29 (congrArg Array.toList Try.results29) (by kernel_rfl) rfl ?_
  repeat (first | refine A_seq ?_ | refine A_block ?_ | refine R_list ?_ | ((first | apply O_y rfl rfl rfl | apply Q_y rfl rfl rfl); (first | exact q_1 | exact q_2 | exact q_3 | exact q_4 | exact q_5 | exact q_6 | exact q_7 | exact q_8 | exact q_9 | exact q_10 | exact q_11 | exact q_12 | exact q_13 | exact q_14 | exact q_15 | exact q_16 | exact q_17 | exact q_18 | exact q_19 | exact q_20 | exact q_21 | exact q_22 | exact q_23 | exact q_24 | fail)) | refine O_nil ?_ | refine Q_nil ?_ | refine q_j ?_ | refine q_k ?_ | refine q_d ?_ | refine q_a ?_ | refine q_b ?_ | refine q_c ?_ | refine A_ct rfl ?_ | refine A_cf rfl ?_ | refine A_skip ?_ | refine A_exit ?_ | refine A_ret ?_ | refine q_l ?_ | refine q_m ?_ | refine q_n ?_ | refine q_h ?_ | refine q_o ?_ | refine q_e ?_ | refine q_f ?_ | refine q_g ?_ | fail)
  refine N_begin [] mixed ?_
  (apply q_P 0 rfl (by kernel_rfl) rfl rfl rfl; (first | exact q_1 | exact q_2 | exact q_3 | exact q_4 | exact q_5 | exact q_6 | exact q_7 | exact q_8 | exact q_9 | exact q_10 | exact q_11 | exact q_12 | exact q_13 | exact q_14 | exact q_15 | exact q_16 | exact q_17 | exact q_18 | exact q_19 | exact q_20 | exact q_21 | exact q_22 | exact q_23 | exact q_24 | fail))
  (apply q_P 1 rfl (by kernel_rfl) rfl rfl rfl; (first | exact q_1 | exact q_2 | exact q_3 | exact q_4 | exact q_5 | exact q_6 | exact q_7 | exact q_8 | exact q_9 | exact q_10 | exact q_11 | exact q_12 | exact q_13 | exact q_14 | exact q_15 | exact q_16 | exact q_17 | exact q_18 | exact q_19 | exact q_20 | exact q_21 | exact q_22 | exact q_23 | exact q_24 | fail))
  (apply q_P 2 rfl (by kernel_rfl) rfl rfl rfl; (first | exact q_1 | exact q_2 | exact q_3 | exact q_4 | exact q_5 | exact q_6 | exact q_7 | exact q_8 | exact q_9 | exact q_10 | exact q_11 | exact q_12 | exact q_13 | exact q_14 | exact q_15 | exact q_16 | exact q_17 | exact q_18 | exact q_19 | exact q_20 | exact q_21 | exact q_22 | exact q_23 | exact q_24 | fail))
  (apply q_P 3 rfl (by kernel_rfl) rfl rfl rfl; (first | exact q_1 | exact q_2 | exact q_3 | exact q_4 | exact q_5 | exact q_6 | exact q_7 | exact q_8 | exact q_9 | exact q_10 | exact q_11 | exact q_12 | exact q_13 | exact q_14 | exact q_15 | exact q_16 | exact q_17 | exact q_18 | exact q_19 | exact q_20 | exact q_21 | exact q_22 | exact q_23 | exact q_24 | fail))
  (apply q_P 5 rfl (by kernel_rfl) rfl rfl rfl; (first | exact q_1 | exact q_2 | exact q_3 | exact q_4 | exact q_5 | exact q_6 | exact q_7 | exact q_8 | exact q_9 | exact q_10 | exact q_11 | exact q_12 | exact q_13 | exact q_14 | exact q_15 | exact q_16 | exact q_17 | exact q_18 | exact q_19 | exact q_20 | exact q_21 | exact q_22 | exact q_23 | exact q_24 | fail))
  (apply q_P 6 rfl (by kernel_rfl) rfl rfl rfl; (first | exact q_1 | exact q_2 | exact q_3 | exact q_4 | exact q_5 | exact q_6 | exact q_7 | exact q_8 | exact q_9 | exact q_10 | exact q_11 | exact q_12 | exact q_13 | exact q_14 | exact q_15 | exact q_16 | exact q_17 | exact q_18 | exact q_19 | exact q_20 | exact q_21 | exact q_22 | exact q_23 | exact q_24 | fail))
  (apply q_P 7 rfl (by kernel_rfl) rfl rfl rfl; (first | exact q_1 | exact q_2 | exact q_3 | exact q_4 | exact q_5 | exact q_6 | exact q_7 | exact q_8 | exact q_9 | exact q_10 | exact q_11 | exact q_12 | exact q_13 | exact q_14 | exact q_15 | exact q_16 | exact q_17 | exact q_18 | exact q_19 | exact q_20 | exact q_21 | exact q_22 | exact q_23 | exact q_24 | fail))
  (apply q_P 8 rfl (by kernel_rfl) rfl rfl rfl; (first | exact q_1 | exact q_2 | exact q_3 | exact q_4 | exact q_5 | exact q_6 | exact q_7 | exact q_8 | exact q_9 | exact q_10 | exact q_11 | exact q_12 | exact q_13 | exact q_14 | exact q_15 | exact q_16 | exact q_17 | exact q_18 | exact q_19 | exact q_20 | exact q_21 | exact q_22 | exact q_23 | exact q_24 | fail))
  refine N_one (j := 4) (by kernel_rfl) ?_
  refine T_call rfl rfl rfl rfl rfl rfl h1 (fun _ => rfl) ?_
  refine N_one (j := 9) (by kernel_rfl) ?_
  refine T_call rfl rfl rfl rfl rfl rfl h2 (fun _ => rfl) ?_
  refine N_one (j := 10) (by kernel_rfl) ?_
  refine T_slice tabOk rfl rfl rfl rfl rfl rfl rfl rfl rfl rfl rfl rfl ?_
  refine N_one (j := 11) (by kernel_rfl) ?_
  refine T_cL rfl rfl rfl rfl rfl rfl h3 rfl (fun _ _ _ => val_mk _ _ _ _ _ rfl rfl) ?_
  (apply q_P 12 rfl (by kernel_rfl) rfl rfl rfl; (first | exact q_1 | exact q_2 | exact q_3 | exact q_4 | exact q_5 | exact q_6 | exact q_7 | exact q_8 | exact q_9 | exact q_10 | exact q_11 | exact q_12 | exact q_13 | exact q_14 | exact q_15 | exact q_16 | exact q_17 | exact q_18 | exact q_19 | exact q_20 | exact q_21 | exact q_22 | exact q_23 | exact q_24 | fail))
  refine N_done (by kernel_rfl) ?_
  repeat (first | refine A_seq ?_ | refine A_block ?_ | refine R_list ?_ | ((first | apply O_y rfl rfl rfl | apply Q_y rfl rfl rfl); (first | exact q_1 | exact q_2 | exact q_3 | exact q_4 | exact q_5 | exact q_6 | exact q_7 | exact q_8 | exact q_9 | exact q_10 | exact q_11 | exact q_12 | exact q_13 | exact q_14 | exact q_15 | exact q_16 | exact q_17 | exact q_18 | exact q_19 | exact q_20 | exact q_21 | exact q_22 | exact q_23 | exact q_24 | fail)) | refine O_nil ?_ | refine Q_nil ?_ | refine q_j ?_ | refine q_k ?_ | refine q_d ?_ | refine q_a ?_ | refine q_b ?_ | refine q_c ?_ | refine A_ct rfl ?_ | refine A_cf rfl ?_ | refine A_skip ?_ | refine A_exit ?_ | refine A_ret ?_ | refine q_l ?_ | refine q_m ?_ | refine q_n ?_ | refine q_h ?_ | refine q_o ?_ | refine q_e ?_ | refine q_f ?_ | refine q_g ?_ | fail)
  exact X_ret rfl ⟨rfl, rfl⟩
end Go.Proofs.Ytnnclkeoakjjkaa.Ab

namespace Go.Proofs.Ytnnclkeoakjjkaa
set_option linter.unusedVariables false
open Go.RowKit Go.Lib
section
open Go.RowKit Go.Sort Go.Lib
set_option maxRecDepth 100000
theorem insNilH (c : Value) (w : World) : Calls Try.prog 60 #[.slice none 0 0, .int .i64 0, .int .i64 0, c] w (RetS w (.tuple #[])) := by
  go_enter Try.func60, Try.ntmps60
  go_wp2_with fail
  refine wp_loop_rounds 1 ?_
  rw [rounds_succ]; go_wp2_with fail
  go_end0
  exact ⟨rfl, rfl⟩
theorem pdqNilH (c : Value) (w : World) (n : Int) : Calls Try.prog 44 #[.slice none 0 0, .int .i64 0, .int .i64 0, .int .i64 n, c] w (RetS w (.tuple #[])) := by
  go_enter Try.func44, Try.ntmps44
  go_wp2_with fail
  refine wp_loop_rounds 1 ?_
  rw [rounds_succ]; go_wp2_with fail
  refine (insNilH c _).mono ?_
  rintro e w' ⟨rfl, rfl⟩
  go_wp2_with fail
  go_end0
  exact ⟨rfl, rfl⟩
theorem sortNilH (c : Value) (w : World) : Calls Try.prog 28 #[.slice none 0 0, c] w (RetS w (.tuple #[])) := by
  have hl := fun W => Any.bits_Len (SlLaysF0.n15.bits (P := _) (ρ := _) { Try.sortHop with }) (0 : Int) W (by omega) (by omega)
  go_enter Try.func28, Try.ntmps28
  go_wp2_with fail
  refine (hl _).mono ?_
  rintro e w' ⟨rfl, rfl⟩
  go_wp2_with fail
  refine (pdqNilH c _ _).mono ?_
  rintro e w' ⟨rfl, rfl⟩
  go_wp2_with fail
  go_end0
  exact ⟨rfl, rfl⟩
end
namespace Ab
set_option maxRecDepth 100000
open Go.RowKit Go.Lib
set_option linter.unusedSimpArgs false
attribute [local irreducible] AWp AOps AQ AYield AEff ACall AWk AAny AAt AThen AIn APost NoPanic
theorem sortH_A (l : List Hp) (hn : l.length ≤ 2147483648) : ACall Try.prog 28 [.row 1000, .fn 29 []] [(1000, hopB l)] (fun c h => c = .tup [] ∧ h = [(1000, hopB (srt ordH l))]) := by
  have := sortG (α := Hp) Try.sortHop (f := 28) (el := 34) (k := 2) rfl (by kernel_rfl) (fun W => Try.isAgg34 W) (fun W => Try.sizeOf34 W) (enc := hopV) (fun _ => rfl)
    (fun x v hv => by simp [hopV] at hv; rcases hv with rfl | rfl <;> rfl) (eA := hopA) (fun _ => rfl) (fun _ => rfl) (eD := hopD) (fun _ => rfl) good_ordH ordH_eq (g := 29) hopCmp_A (fun w => (sortNilH _ w).mono fun e w' h => ⟨h.1, h.2.symm⟩) l hn
  unfold hopB
  rw [srt_len]
  exact this
structure CptH (l m : List Hp) (k q : Nat) : Prop where
  len : m.length = l.length
  q1 : q ≤ l.length
  kq : k < q
  k0 : 0 < k
  front : m.take k = dedA (l.take q)
  back : ∀ i, q ≤ i + 1 → m[i]? = l[i]?
theorem cptH_next {l m : List Hp} {k q : Nat} (C : CptH l m k q) (h : q < l.length) (he : l[q - 1]'(by omega) = l[q]) : CptH l m k (q + 1) := by
  have := C.kq
  have := C.k0
  refine ⟨C.len, by omega, by omega, C.k0, ?_, fun i hi => C.back i (by omega)⟩
  rw [ded_take l q (by omega) h, if_pos he, C.front]
theorem cptH_put {l m : List Hp} {k q : Nat} (C : CptH l m k q) (h : q < l.length) (he : l[q - 1]'(by omega) ≠ l[q]) : CptH l (m.set k l[q]) (k + 1) (q + 1) := by
  have h1 := C.kq
  have h2 := C.k0
  have h3 := C.len
  refine ⟨by rw [List.length_set, h3], by omega, by omega, by omega, ?_, fun i hi => ?_⟩
  · rw [ded_take l q (by omega) h, if_neg he, ← C.front, List.take_succ_eq_append_getElem (by rw [List.length_set]; omega), List.getElem_set_self, List.take_set_of_le (Nat.le_refl _)]
  · rw [List.getElem?_set_ne (by omega)]
    exact C.back i (by omega)
theorem winH_at (l : List Hp) (k : Nat) (h : k < l.length) : win (l.flatMap hopD) (k * 2) 2 = hopD l[k] := win_flat0 hopD_len l k 2 h (by decide)
theorem winH_part (l : List Hp) (a b : Nat) (h : a + b < l.length) : win (l.flatMap hopD) (a * 2 + b * 2) 2 = hopD l[a + b] := by rw [← Nat.add_mul]; exact winH_at l (a + b) h
set_option maxHeartbeats 8000000 in
theorem compactH_A (l : List Hp) (hn : l.length ≤ 2147483648) : ACall Try.prog 33 [.row 1000] [(1000, hopB l)] (fun c h => c = .row 100 ∧ h = [(100, hopB (dedA l))]) := by
  refine ACall_of tabOk Try.func33 rfl Try.ntmps33 (congrArg Array.toList Try.results33) (by kernel_rfl) rfl ?_
  refine A_weaken (Wk_rename (id := 100) (t := 0) rfl rfl) ?_
  by_cases h2 : l.length < 2
  · have hd : dedA l = l := by match l, h2 with | [], _ => rfl | [x], _ => rfl
    rw [hd]
    repeat (first | refine A_seq ?_ | refine A_block ?_ | refine R_list ?_ | refine R_quiet rfl mixed (by kernel_rfl) ?_ | ((first | apply O_y rfl rfl rfl | apply Q_y rfl rfl rfl); (first | exact q_1 | exact q_2 | exact q_3 | exact q_4 | exact q_5 | exact q_6 | exact q_7 | exact q_8 | exact q_9 | exact q_10 | exact q_11 | exact q_12 | exact q_13 | exact q_14 | exact q_15 | exact q_16 | exact q_17 | exact q_18 | exact q_19 | exact q_20 | exact q_21 | exact q_22 | exact q_23 | exact q_24 | fail)) | refine O_nil ?_ | refine Q_nil ?_ | refine q_j ?_ | refine q_k ?_ | refine q_d ?_ | refine q_a ?_ | refine q_b ?_ | refine q_c ?_ | refine A_ct rfl ?_ | refine A_cf rfl ?_ | refine A_skip ?_ | refine A_exit ?_ | refine A_ret ?_ | refine q_l ?_ | refine q_m ?_ | refine q_n ?_ | refine q_h ?_ | refine q_o ?_ | refine q_e ?_ | refine q_f ?_ | refine q_g ?_ | fail)
    exact X_retW AWk.refl rfl (h2 := [(100, hopB l)]) ⟨rfl, trivial⟩ ⟨rfl, rfl⟩
  ·
    repeat (first | refine A_seq ?_ | refine A_block ?_ | refine R_list ?_ | refine R_quiet rfl mixed (by kernel_rfl) ?_ | ((first | apply O_y rfl rfl rfl | apply Q_y rfl rfl rfl); (first | exact q_1 | exact q_2 | exact q_3 | exact q_4 | exact q_5 | exact q_6 | exact q_7 | exact q_8 | exact q_9 | exact q_10 | exact q_11 | exact q_12 | exact q_13 | exact q_14 | exact q_15 | exact q_16 | exact q_17 | exact q_18 | exact q_19 | exact q_20 | exact q_21 | exact q_22 | exact q_23 | exact q_24 | fail)) | refine O_nil ?_ | refine Q_nil ?_ | refine q_j ?_ | refine q_k ?_ | refine q_d ?_ | refine q_a ?_ | refine q_b ?_ | refine q_c ?_ | refine A_ct rfl ?_ | refine A_cf rfl ?_ | refine A_skip ?_ | refine A_exit ?_ | refine A_ret ?_ | refine q_l ?_ | refine q_m ?_ | refine q_n ?_ | refine q_h ?_ | refine q_o ?_ | refine q_e ?_ | refine q_f ?_ | refine q_g ?_ | fail)
    refine A_loop (fun k : Nat => [(0, .row 100), (3, intA (k : Int))]) (fun _ => [(100, hopB l)]) (fun k => 1 ≤ k ∧ k ≤ l.length ∧ dedA (l.take k) = l.take k) (fun k => l.length - k) 1 ⟨by omega, by omega, ?_⟩ (Wk_sel ⟨rfl, rfl, trivial⟩ ⟨rfl, trivial⟩) ?_
    · match l with
      | [] => rfl
      | x :: r => rfl
    rintro k ⟨hk1, hk2, hd⟩
    dsimp only
    by_cases hlt : k < l.length
    · have hlt1 : k - 1 < l.length := by omega
      have hk' : ((k : Int) - 1) = ((k - 1 : Nat) : Int) := by omega
      have heq := hopEq l[k] l[k - 1]
      have hw0 := winH_at l k hlt
      have hw1 := winH_at l (k - 1) hlt1
      by_cases he : l[k] = l[k - 1]
      · rw [show (l[k] == l[k - 1]) = true by simpa using he] at heq
        repeat (first | refine A_seq ?_ | refine A_block ?_ | refine R_list ?_ | refine R_quiet rfl mixed (by kernel_rfl) ?_ | ((first | apply O_y rfl rfl rfl | apply Q_y rfl rfl rfl); (first | exact q_1 | exact q_2 | exact q_3 | exact q_4 | exact q_5 | exact q_6 | exact q_7 | exact q_8 | exact q_9 | exact q_10 | exact q_11 | exact q_12 | exact q_13 | exact q_14 | exact q_15 | exact q_16 | exact q_17 | exact q_18 | exact q_19 | exact q_20 | exact q_21 | exact q_22 | exact q_23 | exact q_24 | (first | exact R_indexr tabOk rfl rfl rfl rfl rfl rfl hk' hlt1 | exact R_loade tabOk rfl rfl rfl rfl rfl rfl hw0 rfl rfl | exact R_loade tabOk rfl rfl rfl rfl rfl rfl hw1 rfl rfl | exact Y_eq tabOk noStand rfl rfl rfl rfl rfl rfl rfl rfl rfl (by kernel_rfl) heq rfl | exact R_rowFrom tabOk rfl rfl rfl rfl rfl rfl rfl (Nat.le_of_lt hlt)))) | refine O_nil ?_ | refine Q_nil ?_ | refine q_j ?_ | refine q_k ?_ | refine q_d ?_ | refine q_a ?_ | refine q_b ?_ | refine q_c ?_ | refine A_ct rfl ?_ | refine A_cf rfl ?_ | refine A_skip ?_ | refine A_exit ?_ | refine A_ret ?_ | refine q_l ?_ | refine q_m ?_ | refine q_n ?_ | refine q_h ?_ | refine q_o ?_ | refine q_e ?_ | refine q_f ?_ | refine q_g ?_ | fail)
        refine A_loop (fun x : Nat × Nat × List Hp => [(0, .row 100), (3, intA (x.1 : Int)), (4, .srow 100 (k * 2) (l.length - k)), (5, intA (x.2.1 : Int))]) (fun x => [(100, hopB x.2.2)]) (fun x => 1 ≤ x.2.1 ∧ CptH l x.2.2 x.1 (k + x.2.1)) (fun x => l.length - x.2.1) (k, 1, l) ⟨Nat.le_refl _, rfl, hlt, Nat.lt_succ_self k, hk1, ?_, fun _ _ => rfl⟩ (Wk_sel ⟨rfl, rfl, rfl, rfl, trivial⟩ ⟨rfl, trivial⟩) ?_
        · rw [ded_take l k hk1 hlt, if_pos he.symm, hd]
        rintro ⟨K, j, m⟩ ⟨hj, C⟩
        dsimp only at hj C ⊢
        have c1 := C.len
        have c2 := C.q1
        have c3 := C.kq
        have c4 := C.k0
        by_cases hq : k + j < l.length
        · have hjk : j < l.length - k := by omega
          have hjk1 : j - 1 < l.length - k := by omega
          have hj' : ((j : Int) - 1) = ((j - 1 : Nat) : Int) := by omega
          have e1 : m[k + j]'(by omega) = l[k + j] := by
            have := C.back (k + j) (by omega)
            rw [List.getElem?_eq_getElem (by omega), List.getElem?_eq_getElem hq] at this
            exact Option.some.inj this
          have e2 : m[k + (j - 1)]'(by omega) = l[k + j - 1] := by
            have := C.back (k + (j - 1)) (by omega)
            rw [List.getElem?_eq_getElem (by omega), List.getElem?_eq_getElem (show k + (j - 1) < l.length by omega)] at this
            rw [Option.some.inj this]
            congr 1
            omega
          have hw2 := winH_part m k j (by omega)
          have hw3 := winH_part m k (j - 1) (by omega)
          rw [e1] at hw2
          rw [e2] at hw3
          have heq2 := hopEq l[k + j] l[k + j - 1]
          by_cases hs : l[k + j - 1] = l[k + j]
          · rw [show (l[k + j] == l[k + j - 1]) = true by simpa using hs.symm] at heq2
            repeat (first | refine A_seq ?_ | refine A_block ?_ | refine R_list ?_ | refine R_quiet rfl mixed (by kernel_rfl) ?_ | ((first | apply O_y rfl rfl rfl | apply Q_y rfl rfl rfl); (first | exact q_1 | exact q_2 | exact q_3 | exact q_4 | exact q_5 | exact q_6 | exact q_7 | exact q_8 | exact q_9 | exact q_10 | exact q_11 | exact q_12 | exact q_13 | exact q_14 | exact q_15 | exact q_16 | exact q_17 | exact q_18 | exact q_19 | exact q_20 | exact q_21 | exact q_22 | exact q_23 | exact q_24 | (first | exact R_lens tabOk rfl rfl rfl rfl | exact R_indexs tabOk rfl rfl rfl rfl rfl rfl rfl hjk | exact R_indexs tabOk rfl rfl rfl rfl rfl rfl rfl hjk1 | exact R_indexs tabOk rfl rfl rfl rfl rfl rfl hj' hjk1 | exact R_loade tabOk rfl rfl rfl rfl rfl rfl hw2 rfl rfl | exact R_loade tabOk rfl rfl rfl rfl rfl rfl hw3 rfl rfl | exact Y_eq tabOk noStand rfl rfl rfl rfl rfl rfl rfl rfl rfl (by kernel_rfl) heq2 rfl))) | refine O_nil ?_ | refine Q_nil ?_ | refine q_j ?_ | refine q_k ?_ | refine q_d ?_ | refine q_a ?_ | refine q_b ?_ | refine q_c ?_ | refine A_ct rfl ?_ | refine A_cf rfl ?_ | refine A_skip ?_ | refine A_exit ?_ | refine A_ret ?_ | refine q_l ?_ | refine q_m ?_ | refine q_n ?_ | refine q_h ?_ | refine q_o ?_ | refine q_e ?_ | refine q_f ?_ | refine q_g ?_ | fail)
            exact ⟨(K, j + 1, m), ⟨by dsimp only; omega, by dsimp only; exact cptH_next C hq hs⟩, by dsimp only; omega, Wk_sel ⟨rfl, rfl, rfl, rfl, trivial⟩ ⟨rfl, trivial⟩⟩
          · rw [show (l[k + j] == l[k + j - 1]) = false by simpa using fun h => hs h.symm] at heq2
            have hKm : K < m.length := by omega
            have hfl : (m.flatMap hopD).length = m.length * 2 := flat_len hopD_len m
            repeat (first | refine A_seq ?_ | refine A_block ?_ | refine R_list ?_ | refine R_quiet rfl mixed (by kernel_rfl) ?_ | ((first | apply O_y rfl rfl rfl | apply Q_y rfl rfl rfl); (first | exact q_1 | exact q_2 | exact q_3 | exact q_4 | exact q_5 | exact q_6 | exact q_7 | exact q_8 | exact q_9 | exact q_10 | exact q_11 | exact q_12 | exact q_13 | exact q_14 | exact q_15 | exact q_16 | exact q_17 | exact q_18 | exact q_19 | exact q_20 | exact q_21 | exact q_22 | exact q_23 | exact q_24 | (first | exact R_lens tabOk rfl rfl rfl rfl | exact R_indexs tabOk rfl rfl rfl rfl rfl rfl rfl hjk | exact R_indexs tabOk rfl rfl rfl rfl rfl rfl rfl hjk1 | exact R_indexs tabOk rfl rfl rfl rfl rfl rfl hj' hjk1 | exact R_loade tabOk rfl rfl rfl rfl rfl rfl hw2 rfl rfl | exact R_loade tabOk rfl rfl rfl rfl rfl rfl hw3 rfl rfl | exact Y_eq tabOk noStand rfl rfl rfl rfl rfl rfl rfl rfl rfl (by kernel_rfl) heq2 rfl | exact R_indexr tabOk rfl rfl rfl rfl rfl rfl rfl hKm))) | refine O_nil ?_ | refine Q_nil ?_ | refine q_j ?_ | refine q_k ?_ | refine q_d ?_ | refine q_a ?_ | refine q_b ?_ | refine q_c ?_ | refine A_ct rfl ?_ | refine A_cf rfl ?_ | refine A_skip ?_ | refine A_exit ?_ | refine A_ret ?_ | refine q_l ?_ | refine q_m ?_ | refine q_n ?_ | refine q_h ?_ | refine q_o ?_ | refine q_e ?_ | refine q_f ?_ | refine q_g ?_ | (refine O_storee tabOk rfl rfl rfl rfl rfl rfl rfl rfl rfl rfl (by rw [hfl]; omega) (by omega) ?_))
            exact ⟨(K + 1, j + 1, m.set K l[k + j]), ⟨by dsimp only; omega, by dsimp only; exact cptH_put C hq hs⟩, by dsimp only; omega, Wk_sel ⟨rfl, rfl, rfl, rfl, trivial⟩ ⟨row_eq (by dsimp only; rw [List.length_set]) (flat_set hopD_len m K l[k + j] hKm) rfl, trivial⟩⟩
        · have hK : K ≤ m.length := by omega
          have hq2 : k + j = l.length := by omega
          have hfl : (m.flatMap hopD).length = m.length * 2 := flat_len hopD_len m
          have hjl : ¬ ((j : Int) < ((l.length - k : Nat) : Int)) := by omega
          repeat (first | refine A_seq ?_ | refine A_block ?_ | refine R_list ?_ | refine R_quiet rfl mixed (by kernel_rfl) ?_ | ((first | apply O_y rfl rfl rfl | apply Q_y rfl rfl rfl); (first | exact q_1 | exact q_2 | exact q_3 | exact q_4 | exact q_5 | exact q_6 | exact q_7 | exact q_8 | exact q_9 | exact q_10 | exact q_11 | exact q_12 | exact q_13 | exact q_14 | exact q_15 | exact q_16 | exact q_17 | exact q_18 | exact q_19 | exact q_20 | exact q_21 | exact q_22 | exact q_23 | exact q_24 | (first | exact R_lens tabOk rfl rfl rfl rfl | exact R_rowFrom tabOk rfl rfl rfl rfl rfl rfl rfl hK))) | refine O_nil ?_ | refine Q_nil ?_ | refine q_j ?_ | refine q_k ?_ | refine q_d ?_ | refine q_a ?_ | refine q_b ?_ | refine q_c ?_ | refine A_ct rfl ?_ | refine A_cf rfl ?_ | refine A_skip ?_ | refine A_exit ?_ | refine A_ret ?_ | refine q_l ?_ | refine q_m ?_ | refine q_n ?_ | refine q_h ?_ | refine q_o ?_ | refine q_e ?_ | refine q_f ?_ | refine q_g ?_ | fail)
          refine O_clear tabOk rfl rfl rfl rfl rfl rfl rfl rfl (by rw [Nat.sub_mul]; have := Nat.mul_le_mul_right 2 hK; omega) fun zs hzs => ?_
          repeat (first | refine A_seq ?_ | refine A_block ?_ | refine R_list ?_ | refine R_quiet rfl mixed (by kernel_rfl) ?_ | ((first | apply O_y rfl rfl rfl | apply Q_y rfl rfl rfl); (first | exact q_1 | exact q_2 | exact q_3 | exact q_4 | exact q_5 | exact q_6 | exact q_7 | exact q_8 | exact q_9 | exact q_10 | exact q_11 | exact q_12 | exact q_13 | exact q_14 | exact q_15 | exact q_16 | exact q_17 | exact q_18 | exact q_19 | exact q_20 | exact q_21 | exact q_22 | exact q_23 | exact q_24 | fail)) | refine O_nil ?_ | refine Q_nil ?_ | refine q_j ?_ | refine q_k ?_ | refine q_d ?_ | refine q_a ?_ | refine q_b ?_ | refine q_c ?_ | refine A_ct rfl ?_ | refine A_cf rfl ?_ | refine A_skip ?_ | refine A_exit ?_ | refine A_ret ?_ | refine q_l ?_ | refine q_m ?_ | refine q_n ?_ | refine q_h ?_ | refine q_o ?_ | refine q_e ?_ | refine q_f ?_ | refine q_g ?_ | (refine O_rowTo tabOk rfl rfl rfl rfl rfl rfl rfl rfl rfl rfl rfl hK ?_))
          have hfr : (setW (m.flatMap hopD) (K * 2) zs).take (K * 2) = (dedA l).flatMap hopD := by
            unfold setW
            rw [List.take_append_of_le_length (by rw [List.length_append, List.length_take, hfl]; have := Nat.mul_le_mul_right 2 hK; omega), List.take_append_of_le_length (by rw [List.length_take, hfl]; have := Nat.mul_le_mul_right 2 hK; omega), List.take_take, Nat.min_self, flat_take hopD_len, C.front, hq2, List.take_length]
          have hlK : K = (dedA l).length := by
            have := congrArg List.length C.front
            rw [hq2, List.take_length, List.length_take] at this
            omega
          exact X_retW AWk.refl rfl (h2 := [(100, hopB (dedA l))]) ⟨row_eq hlK hfr rfl, trivial⟩ ⟨rfl, rfl⟩
      · rw [show (l[k] == l[k - 1]) = false by simpa using he] at heq
        repeat (first | refine A_seq ?_ | refine A_block ?_ | refine R_list ?_ | refine R_quiet rfl mixed (by kernel_rfl) ?_ | ((first | apply O_y rfl rfl rfl | apply Q_y rfl rfl rfl); (first | exact q_1 | exact q_2 | exact q_3 | exact q_4 | exact q_5 | exact q_6 | exact q_7 | exact q_8 | exact q_9 | exact q_10 | exact q_11 | exact q_12 | exact q_13 | exact q_14 | exact q_15 | exact q_16 | exact q_17 | exact q_18 | exact q_19 | exact q_20 | exact q_21 | exact q_22 | exact q_23 | exact q_24 | (first | exact R_indexr tabOk rfl rfl rfl rfl rfl rfl hk' hlt1 | exact R_loade tabOk rfl rfl rfl rfl rfl rfl hw0 rfl rfl | exact R_loade tabOk rfl rfl rfl rfl rfl rfl hw1 rfl rfl | exact Y_eq tabOk noStand rfl rfl rfl rfl rfl rfl rfl rfl rfl (by kernel_rfl) heq rfl))) | refine O_nil ?_ | refine Q_nil ?_ | refine q_j ?_ | refine q_k ?_ | refine q_d ?_ | refine q_a ?_ | refine q_b ?_ | refine q_c ?_ | refine A_ct rfl ?_ | refine A_cf rfl ?_ | refine A_skip ?_ | refine A_exit ?_ | refine A_ret ?_ | refine q_l ?_ | refine q_m ?_ | refine q_n ?_ | refine q_h ?_ | refine q_o ?_ | refine q_e ?_ | refine q_f ?_ | refine q_g ?_ | fail)
        exact ⟨k + 1, ⟨by omega, by omega, by rw [ded_take l k hk1 hlt, if_neg fun h => he h.symm, hd, ← List.take_succ_eq_append_getElem hlt]⟩, by omega, Wk_sel ⟨rfl, rfl, trivial⟩ ⟨rfl, trivial⟩⟩
    · have : k = l.length := by omega
      subst this
      rw [List.take_length] at hd
      rw [hd]
      repeat (first | refine A_seq ?_ | refine A_block ?_ | refine R_list ?_ | refine R_quiet rfl mixed (by kernel_rfl) ?_ | ((first | apply O_y rfl rfl rfl | apply Q_y rfl rfl rfl); (first | exact q_1 | exact q_2 | exact q_3 | exact q_4 | exact q_5 | exact q_6 | exact q_7 | exact q_8 | exact q_9 | exact q_10 | exact q_11 | exact q_12 | exact q_13 | exact q_14 | exact q_15 | exact q_16 | exact q_17 | exact q_18 | exact q_19 | exact q_20 | exact q_21 | exact q_22 | exact q_23 | exact q_24 | fail)) | refine O_nil ?_ | refine Q_nil ?_ | refine q_j ?_ | refine q_k ?_ | refine q_d ?_ | refine q_a ?_ | refine q_b ?_ | refine q_c ?_ | refine A_ct rfl ?_ | refine A_cf rfl ?_ | refine A_skip ?_ | refine A_exit ?_ | refine A_ret ?_ | refine q_l ?_ | refine q_m ?_ | refine q_n ?_ | refine q_h ?_ | refine q_o ?_ | refine q_e ?_ | refine q_f ?_ | refine q_g ?_ | fail)
      exact X_retW AWk.refl rfl (h2 := [(100, hopB l)]) ⟨rfl, trivial⟩ ⟨rfl, rfl⟩
end Ab
end Go.Proofs.Ytnnclkeoakjjkaa

namespace Go.Proofs.Ytnnclkeoakjjkaa.Ab
set_option linter.unusedVariables false
set_option linter.unusedSimpArgs false
set_option maxRecDepth 100000
open Go.RowKit

def rteW (r : Rte) : Value := .agg #[.int .u32 r.p.a, .int .i64 r.p.b, .int .u8 r.f, .int .i64 r.d, .int .i64 r.m, .int .i64 r.t, .string ⟨⟨r.i⟩⟩, .int .u32 r.h, .bool r.x]
theorem rteW_val (r : Rte) : valA (rteA r) = some (rteW r) := rfl
theorem rteW_rel (r : Rte) (w : World) (F : Nat → Prop) (ι : Nat → Option Value) : VRel w F ι (rteA r) (rteW r) := val_mk _ _ _ _ _ rfl rfl
theorem kchk_int (b : Bool) (n : Nat) (t : TypeId) (q : IntKind) (x : Int) (w : World) (ht : Try.prog.underlying t = some (.int q)) : (Instr.checkKey b (n + 1) t (.int q x)).run Try.prog w = .ok () w := by
  unfold Instr.checkKey
  simp [run_underlying ht]
theorem kchk_str (b : Bool) (n : Nat) (t : TypeId) (x : ByteArray) (w : World) (ht : Try.prog.underlying t = some .string) : (Instr.checkKey b (n + 1) t (.string x)).run Try.prog w = .ok () w := by
  unfold Instr.checkKey
  simp [run_underlying ht]
theorem kchk_bool (b : Bool) (n : Nat) (t : TypeId) (x : Bool) (w : World) (ht : Try.prog.underlying t = some .bool) : (Instr.checkKey b (n + 1) t (.bool x)).run Try.prog w = .ok () w := by
  unfold Instr.checkKey
  simp [run_underlying ht]
theorem part_one {t : TypeId} {te : TE} (h : tlook tab t = some te) (ha : te.agg = false) (C : Array Value) (o : Nat) (v : Value) (hv : C[o]? = some v) (w : World) : (part t C o).run Try.prog w = .ok v w := by
  unfold part
  simp [(tabOk _ _ h).run_agg, ha, hv]
theorem kchk_pfx (b : Bool) (k : Pfx) (w : World) (n : Nat) : (Instr.checkKey b (n + 2) 26 (.agg #[.int .u32 k.a, .int .i64 k.b])).run Try.prog w = .ok () w := by
  unfold Instr.checkKey
  simp [run_underlying Try.underlying26, part_one (t := 24) rfl rfl #[.int .u32 k.a, .int .i64 k.b] 0 _ rfl, part_one (t := 3) rfl rfl #[.int .u32 k.a, .int .i64 k.b] 1 _ rfl, kchk_int b n _ _ _ _ Try.underlying24, kchk_int b n _ _ _ _ Try.underlying3]
theorem part_pfx (r : Rte) (C : Array Value) (hC : rteW r = .agg C) (w : World) : (part 26 C 0).run Try.prog w = .ok (.agg #[.int .u32 r.p.a, .int .i64 r.p.b]) w := by
  cases hC
  have h : tlook tab 26 = some _ := rfl
  unfold part
  simp [(tabOk _ _ h).run_agg, (tabOk _ _ h).size]
theorem kchk_rte (b : Bool) (r : Rte) (w : World) (n : Nat) : (Instr.checkKey b (n + 3) 28 (rteW r)).run Try.prog w = .ok () w := by
  obtain ⟨C, hC⟩ : ∃ C, rteW r = .agg C := ⟨_, rfl⟩
  have h0 := part_pfx r C hC
  have h1 : ∀ w, (part 5 C 2).run Try.prog w = .ok (.int .u8 r.f) w := fun w => by cases hC; exact part_one (t := 5) rfl rfl _ 2 _ rfl w
  have h2 : ∀ w, (part 3 C 3).run Try.prog w = .ok (.int .i64 r.d) w := fun w => by cases hC; exact part_one (t := 3) rfl rfl _ 3 _ rfl w
  have h3 : ∀ w, (part 3 C 4).run Try.prog w = .ok (.int .i64 r.m) w := fun w => by cases hC; exact part_one (t := 3) rfl rfl _ 4 _ rfl w
  have h4 : ∀ w, (part 3 C 5).run Try.prog w = .ok (.int .i64 r.t) w := fun w => by cases hC; exact part_one (t := 3) rfl rfl _ 5 _ rfl w
  have h5 : ∀ w, (part 9 C 6).run Try.prog w = .ok (.string ⟨⟨r.i⟩⟩) w := fun w => by cases hC; exact part_one (t := 9) rfl rfl _ 6 _ rfl w
  have h6 : ∀ w, (part 24 C 7).run Try.prog w = .ok (.int .u32 r.h) w := fun w => by cases hC; exact part_one (t := 24) rfl rfl _ 7 _ rfl w
  have h7 : ∀ w, (part 4 C 8).run Try.prog w = .ok (.bool r.x) w := fun w => by cases hC; exact part_one (t := 4) rfl rfl _ 8 _ rfl w
  rw [hC]
  unfold Instr.checkKey
  simp [run_underlying Try.underlying28, h0, h1, h2, h3, h4, h5, h6, h7, kchk_pfx b r.p _ n, kchk_int b (n + 1) _ _ _ _ Try.underlying24, kchk_int b (n + 1) _ _ _ _ Try.underlying3, kchk_int b (n + 1) _ _ _ _ Try.underlying5, kchk_str b (n + 1) _ _ _ Try.underlying9, kchk_bool b (n + 1) _ _ _ Try.underlying4]
theorem rteKey : KeyLaw Try.prog 28 rteW (fun _ => True) := by
  refine KeyLaw.of_agg Try.underlying28 (fun k => ⟨_, rfl⟩) ?_ ?_ ?_
  · intro b k w _
    exact kchk_rte b k w 9997
  · intro a b w _ _
    have h := run_eqLeafs tabOk noStand 8 28 _ (rteV a) (rteV b) _ 9999 _ w rfl rfl rfl rfl (rteEq a b) (by omega)
    have e : (a == b) = decide (a = b) := by rw [Bool.eq_iff_iff]; simp
    rw [e] at h
    exact h
  · intro a _
    simp [Instr.sameBits, rteW]
    first | exact beq_self_eq_true _ | (show (_ : Bool) = true; exact beq_iff_eq.2 rfl) | (show Array.isEqv _ _ _ = true; simp) | (show ((_ : Array UInt8) == _) = true; simp) | rfl
end Go.Proofs.Ytnnclkeoakjjkaa.Ab

namespace Go.Proofs.Ytnnclkeoakjjkaa.Ab
set_option linter.unusedVariables false
set_option linter.unusedSimpArgs false
set_option linter.unusedSectionVars false
open Go.RowKit Go.ChangeMaps
section
variable {P : Program} {nt : Nat} {Q : Post} {e : Env} {h : Heap} {ops : Array Oper} {o : Oper} {rest : List Oper} {T : List Nat} {tab : TTab} {fuel i : Nat} {listed : Array Bool}
theorem HRel.closed {Pm F : Nat → Prop} {w0 w : World} {pin ι : Nat → Option Value} {mid r clk : Nat} {bs : List Nat} {es : List (AVal × AVal)} (H : HRel Pm F w0 pin ι h w) (hb : look h mid = some (.mapx r bs clk es)) : HRel Pm F w0 pin ι ((mid, .map es) :: h) w := by
  obtain ⟨v, hv, E, rfl, hC, hl, hr, h1, h2, h3⟩ := H.blk mid _ hb
  have hW : Wrote w (.map (some r)) w := ⟨rfl, rfl, rfl, Nat.le_refl _, fun _ _ _ => rfl⟩
  refine H.wrote hW hv ⟨r, E, clk, rfl, hC, hl, hr, fun i j m m' hij hi hj => ?_, fun i m hi => ?_⟩
  · rw [← h1, List.pairwise_map, List.pairwise_iff_getElem] at h2
    have hi' := (Array.getElem?_eq_some_iff.1 hi)
    have hj' := (Array.getElem?_eq_some_iff.1 hj)
    have := h2 i j (by simpa using hi'.1) (by simpa using hj'.1) hij
    rw [Array.getElem_toList, Array.getElem_toList, hi'.2, hj'.2] at this
    exact this
  · refine h3 m.born ?_
    rw [← h1]
    exact List.mem_map.2 ⟨m, Array.mem_toList_iff.2 (Array.mem_of_getElem? hi), rfl⟩
variable {κ ν : Type} [DecidableEq κ] {ek : κ → Value} {ok : κ → Prop} {ka : κ → AVal} {xa : ν → AVal}
theorem R_lk0 {t K E id : Nat} {x y : Operand} {k : κ} {l : List (κ × ν)} {zv : Value} (c0 : AVal) (hc0 : ∀ w F ι, VRel w F ι c0 zv) (law : KeyLaw P K ek ok) (hka : ∀ k, valA (ka k) = some (ek k)) (hz : ∀ W, (zeroValue E).run P W = .ok zv W) (hk : ok k) (hl : ∀ p ∈ l, ok p.1) (hn : (l.map (·.1)).Nodup) (hg : aget l k = none)
    (TO : TabOk P tab) (ho : o.op = .lookup t x y false) (ht : tmap tab t = some (K, E)) (hx : aev e x = some (.mp id)) (hb : look h id = some (.map (ents ka xa l))) (hT : T.contains id = false) (hy : aev e y = some (ka k)) : AYield P T e h o c0 := fun Pm F w0 pin ι a w H Er => by
  obtain ⟨te, ht, hs⟩ := tmap_spec ht
  obtain ⟨v, hv, hB⟩ := H.blk id _ hb
  obtain ⟨B, m, rfl, hm, hbes⟩ := map_is hka hn hB
  obtain ⟨d, hd, _, hh⟩ := (TO t te ht).und
  rw [hs] at hh
  cases hh
  have hxv := aev_rel Er hx
  have hkv := valA_rel (aev_rel Er hy) (hka k)
  have h1 := (hbes.aget k).2 hg
  have hxe := mp_eq hxv hv
  refine ⟨zv, hc0 _ _ _, fun w' hw' => ?_⟩
  have hm' := mapIs_same hm (ct_same H hw' hv rfl hT)
  have := hm'.lookup law hd hz hk (fun p hp => by
    have : p.1 ∈ m.map (·.1) := List.mem_map.2 ⟨p, hp, rfl⟩
    rw [hbes.keys] at this
    obtain ⟨q, hq, he⟩ := List.mem_map.1 this
    rw [← he]; exact hl q hq)
  rw [h1] at this
  simp only [execOp, ho, hxe, hkv]
  simp only [Sem.run_bind, this]
  rfl
theorem R_lk1x {t K E id r clk : Nat} {bs : List Nat} {x y : Operand} {k : κ} {l : List (κ × ν)} {z : ν} {zv : Value} (law : KeyLaw P K ek ok) (hka : ∀ k, valA (ka k) = some (ek k)) (hz : ∀ W, (zeroValue E).run P W = .ok zv W) (hk : ok k) (hl : ∀ p ∈ l, ok p.1) (hn : (l.map (·.1)).Nodup) (hg : aget l k = some z)
    (TO : TabOk P tab) (ho : o.op = .lookup t x y false) (ht : tmap tab t = some (K, E)) (hx : aev e x = some (.mp id)) (hb : look h id = some (.mapx r bs clk (ents ka xa l))) (hT : T.contains id = false) (hy : aev e y = some (ka k)) : AYield P T e h o (xa z) := fun Pm F w0 pin ι a w H Er =>
  R_lk1 (h := (id, .map (ents ka xa l)) :: h) law hka hz hk hl hn hg TO ho ht hx (look_cons_same _ _ _) hT hy Pm F w0 pin ι a w (H.closed hb) Er
theorem E_mapEntry0 {t K E : Nat} {x y : Operand} {d : Option Tmp} {id : Nat} {k : κ} {l : List (κ × ν)} {z : ν} {zv : Value} (law : KeyLaw P K ek ok) (hka : ∀ k, valA (ka k) = some (ek k)) (hkv : ∀ k w F ι, VRel w F ι (ka k) (ek k)) (hz : ∀ W, (zeroValue E).run P W = .ok zv W) (hzr : ∀ w F ι, VRel w F ι (xa z) zv) (hk : ok k) (hl : ∀ p ∈ l, ok p.1) (hn : (l.map (·.1)).Nodup) (hg : aget l k = none)
    (TO : TabOk P tab) (ho : o.op = .mapEntry t x y) (hdst : o.dst = d) (ht : tmap tab t = some (K, E)) (hx : aev e x = some (.mp id)) (hb : look h id = some (.map (ents ka xa l))) (hy : aev e y = some (ka k)) (hd : dstOk nt d = true) (hT : T.contains id = true) :
    AEff P nt T e h o (fun e' h' => ∃ r bs b clk, bs.length = l.length ∧ e' = aput d (.tup [xa z, .d (.sc (.int .i64 ((b : Nat) : Int)))]) e ∧ h' = (id, .mapx r (bs ++ [b]) clk (ents ka xa (l ++ [(k, z)]))) :: h) := fun Pm F w0 pin ι a w R Kt Qx hK => by
  obtain ⟨te, ht, hs⟩ := tmap_spec ht
  obtain ⟨v, hv, hB⟩ := R.heap.blk id _ hb
  obtain ⟨B, m, rfl, hm, hbes⟩ := map_is hka hn hB
  obtain ⟨dd, hdd, _, hh⟩ := (TO t te ht).und
  rw [hs] at hh
  cases hh
  have hxe := mp_eq (aev_rel R.env hx) hv
  have hye := valA_rel (aev_rel R.env hy) (hka k)
  have hlm : ∀ p ∈ m, ok p.1 := fun p hp => by
    have : p.1 ∈ m.map (·.1) := List.mem_map.2 ⟨p, hp, rfl⟩
    rw [hbes.keys] at this
    obtain ⟨r, hr, he⟩ := List.mem_map.1 this
    rw [← he]; exact hl r hr
  have hgm : Go.Proofs.Ytnnclkeoakjjkaa.aget m k = none := (hbes.aget k).2 hg
  have hmm : mget m k = none := by
    unfold Go.Proofs.Ytnnclkeoakjjkaa.aget at hgm
    cases hc : mget m k with
    | none => rfl
    | some q => rw [hc] at hgm; cases hgm
  obtain ⟨es, clock, h1, hf, hc⟩ := hm.find law hk hlm
  have hm2 := hm
  obtain ⟨es', clock', h1', h2, h3, h4, h5⟩ := hm2
  rw [h1] at h1'
  injection h1' with h1'
  injection h1' with e1 e2
  subst e1 e2
  rw [hmm] at hf
  obtain ⟨w', hw'⟩ : ∃ w', setBlock w B (.map (es.push { key := ek k, val := zv, born := clock }) (clock + 1)) = w' := ⟨_, rfl⟩
  have hg' : w.grownBy w' (some B) := by rw [← hw']; exact setBlock_grown h1 _
  have hcell : w'.heap[B]? = some (.map (es.push { key := ek k, val := zv, born := clock }) (clock + 1)) := by rw [← hw']; exact heap_setBlock_same h1 _
  have hrun2 : (execOp a.eval o).run P w = .ok (.value (.tuple #[zv, goInt clock])) w' := by
    simp only [execOp, ho, hxe, hye, Sem.run_bind]
    simp only [Instr.mapEntry, Sem.run_bind, run_underlying hdd, Result.andThen_ok, MapKept.run_getObj_map h1, hc, hf, Option.map_none, hz, MapKept.run_setObj_map _ h1]
    rw [← hw']
    rfl
  have hW : Wrote w (.map (some B)) w' := ⟨hg'.os, hg'.tape, hg'.output, hg'.size, fun r hr hne => hg'.block r hr fun he => hne (by rw [blockOf]; exact he.symm)⟩
  have hmi : MapIs ek (fun u : Value => u) w' B (m ++ [(k, zv)]) := by
    refine ⟨_, _, hcell, ?_, ?_, ?_, ?_⟩
    · simp [h2]
    · intro e he
      simp at he
      rcases he with he | rfl
      · have := h3 e (by simpa using he); omega
      · simp
    · simp only [Array.toList_push, List.map_append, List.map_cons, List.map_nil]
      rw [List.pairwise_append]
      refine ⟨h4, by simp, ?_⟩
      intro a ha b hb
      simp at hb
      subst hb
      obtain ⟨e, he, rfl⟩ := List.mem_map.1 ha
      exact h3 e he
    · rw [List.map_append, List.nodup_append]
      refine ⟨h5, by simp, fun a ha b hb => ?_⟩
      simp at hb
      subst hb
      rintro rfl
      obtain ⟨p, hp, he⟩ := List.mem_map.1 ha
      have := aget_of_mem h5 (k := p.1) (v := p.2) hp
      rw [he, hgm] at this
      cases this
  have hBR := is_map (xa := xa) hkv hmi ((hbes.wrote hW hv).snoc (hzr _ _ _))
  obtain ⟨r, EE, clk, he, hC, hEl, hr, _, _⟩ := hBR
  cases he
  rw [hcell] at hC
  cases hC
  have hbl : (es.toList.map (·.born)).length = l.length := by
    have := congrArg List.length hbes.keys
    have h6 := congrArg List.length h2
    simp at this h6 ⊢
    omega
  unfold Oper.wp
  rw [hrun2, Oper.upon_value, hdst]
  refine hK ι _ _ _ w' ⟨B, es.toList.map (·.born), clock, clock + 1, hbl, rfl, rfl⟩ ⟨R.heap.wrote hW hv ⟨_, rfl, hcell, hEl, hr, by simp, ?_, ?_⟩, (R.env.mono fun _ _ _ _ hv' => hv'.wrote hW hv).aput hd R.size (.tup _ _ rfl fun i c u g1 g2 => ?_), by rw [put_defers]; exact R.defers.ext (hW.ext hv), by rw [put_size]; exact R.size⟩ ?_ (put_defers _ _ _)
  · rw [List.pairwise_append]
    refine ⟨h4, by simp, fun a ha b hb => ?_⟩
    simp at hb
    subst hb
    obtain ⟨e, he, rfl⟩ := List.mem_map.1 ha
    exact h3 e he
  · intro b hb
    rcases List.mem_append.1 hb with hb | hb
    · obtain ⟨e, he, rfl⟩ := List.mem_map.1 hb
      have := h3 e he; omega
    · simp at hb; omega
  · match i, g1, g2 with
    | 0, g1, g2 => cases g1; cases g2; exact hzr _ _ _
    | 1, g1, g2 => cases g1; cases g2; exact sc_rel rfl
  · exact ⟨⟨hW.os, hW.tape, hW.output, hW.size, fun r hr hne => hW.mem r hr fun hb => hne id (List.contains_iff_mem.1 hT) _ hv hb⟩, fun j _ u r hj hr _ => ⟨u, hj, hr⟩⟩
theorem E_entryStore0 {t : TypeId} {x y z0 : Operand} {id r clk b : Nat} {bs : List Nat} {q : IntKind} {k : κ} {l : List (κ × ν)} {z z' : ν} (hbl : bs.length = l.length)
    (ho : o.op = .entryStore t x y z0) (hdst : o.dst = none) (hx : aev e x = some (.mp id)) (hb : look h id = some (.mapx r (bs ++ [b]) clk (ents ka xa (l ++ [(k, z)])))) (hy : aev e y = some (.d (.sc (.int q ((b : Nat) : Int))))) (hz : aev e z0 = some (xa z')) (hT : T.contains id = true) :
    AEff P nt T e h o (fun e' h' => e' = e ∧ h' = (id, .map (ents ka xa (l ++ [(k, z')]))) :: h) := fun Pm F w0 pin ι a w R Kt Qx hK => by
  obtain ⟨v, hv, E, rfl, hC, hl, hr, h1, h2, h3⟩ := R.heap.blk id _ hb
  have hxe := mp_eq (aev_rel R.env hx) hv
  have hye := (sc_of (aev_rel R.env hy)).1
  have hlen : E.size = l.length + 1 := by rw [hl]; simp [ents]
  obtain ⟨j, hj⟩ : ∃ j, l.length = j := ⟨_, rfl⟩
  have hjE : j < E.size := by omega
  have hborn : ∀ (i : Nat) (hi : i < E.size), E[i].born = (bs ++ [b])[i]'(by rw [List.length_append]; simp; omega) := fun i hi => by
    have : (E.toList.map (·.born))[i]? = (bs ++ [b])[i]? := by rw [h1]
    rw [List.getElem?_map, Array.getElem?_toList, Array.getElem?_eq_getElem hi, List.getElem?_eq_getElem (by rw [List.length_append]; simp; omega)] at this
    simpa using this
  have hlast : E[j].born = b := by
    rw [hborn j hjE]
    have h6 : (bs ++ [b])[j]? = some b := by rw [← hj, ← hbl]; simp
    rw [List.getElem?_eq_getElem (by rw [List.length_append]; simp; omega)] at h6
    exact Option.some.inj h6
  have hfi : E.findIdx? (fun e => (e.born : Int) == (b : Int)) = some j := by
    rw [Array.findIdx?_eq_some_iff_getElem]
    refine ⟨hjE, by rw [hlast]; simp, fun i hi => ?_⟩
    have hpw := List.pairwise_iff_getElem.1 h2 i j (by rw [List.length_append]; simp; omega) (by rw [List.length_append]; simp; omega) hi
    rw [← hborn i (by omega), ← hborn j hjE, hlast] at hpw
    simp; omega
  obtain ⟨w', hw'⟩ : ∃ w', setBlock w r (.map (E.modify j fun q => { q with val := a.eval z0 }) clk) = w' := ⟨_, rfl⟩
  have hg' : w.grownBy w' (some r) := by rw [← hw']; exact setBlock_grown hC _
  have hcell : w'.heap[r]? = some (.map (E.modify j fun q => { q with val := a.eval z0 }) clk) := by rw [← hw']; exact heap_setBlock_same hC _
  have hrun2 : (execOp a.eval o).run P w = .ok .skip w' := by
    simp only [execOp, ho, hxe, hye, Sem.run_bind]
    simp only [Instr.entryStore, Sem.run_bind, MapKept.run_getObj_map hC, Result.andThen_ok, asInt, asIntOf, Sem.run_pure, hfi, MapKept.run_setObj_map _ hC]
    rw [← hw']
    rfl
  have hW : Wrote w (.map (some r)) w' := ⟨hg'.os, hg'.tape, hg'.output, hg'.size, fun r' hr hne => hg'.block r' hr fun he => hne (by rw [blockOf]; exact he.symm)⟩
  have hat : ∀ (i : Nat) (m : MapEntry), (E.modify j fun q => { q with val := a.eval z0 })[i]? = some m → ∃ m0, E[i]? = some m0 ∧ m.born = m0.born ∧ m.key = m0.key ∧ m.val = if i = j then a.eval z0 else m0.val := fun i m hm => by
    rw [Array.getElem?_modify] at hm
    split at hm
    · rename_i hij
      subst hij
      cases h7 : E[j]? with
      | none => rw [h7] at hm; cases hm
      | some m0 => rw [h7] at hm; cases hm; exact ⟨m0, rfl, rfl, rfl, by simp⟩
    · rename_i hij
      exact ⟨m, hm, rfl, rfl, by rw [if_neg (fun h => hij h.symm)]⟩
  have hBR : BRel w' F ι (.map (ents ka xa (l ++ [(k, z')]))) (.map (some r)) := by
    refine ⟨r, _, clk, rfl, hcell, by rw [Array.size_modify, hlen]; simp [ents], fun i p m g1 g2 => ?_, fun i i' m m' hii g1 g2 => ?_, fun i m g1 => ?_⟩
    · obtain ⟨m0, g3, g4, g5, g6⟩ := hat i m g2
      rw [g5, g6]
      unfold ents at g1
      rw [List.getElem?_map, List.getElem?_append] at g1
      by_cases hij : i = j
      · subst hij
        rw [if_neg (by omega), hj] at g1
        simp at g1
        subst g1
        have := hr i (ka k, xa z) m0 (by unfold ents; rw [List.getElem?_map, List.getElem?_append, if_neg (by omega), hj]; simp) g3
        rw [if_pos rfl]
        exact ⟨this.1.wrote hW hv, (aev_rel R.env hz).wrote hW hv⟩
      · have hil : i < l.length := by
          have := (Array.getElem?_eq_some_iff.1 g3).1
          omega
        rw [if_pos hil] at g1
        have := hr i p m0 (by unfold ents; rw [List.getElem?_map, List.getElem?_append, if_pos hil]; exact g1) g3
        rw [if_neg hij]
        exact ⟨this.1.wrote hW hv, this.2.wrote hW hv⟩
    · obtain ⟨m0, g3, g4, _⟩ := hat i m g1
      obtain ⟨m0', g5, g6, _⟩ := hat i' m' g2
      rw [g4, g6]
      obtain ⟨k1, k2⟩ := Array.getElem?_eq_some_iff.1 g3
      obtain ⟨k3, k4⟩ := Array.getElem?_eq_some_iff.1 g5
      rw [← k2, ← k4, hborn i k1, hborn i' k3]
      exact List.pairwise_iff_getElem.1 h2 i i' (by rw [List.length_append]; simp; omega) (by rw [List.length_append]; simp; omega) hii
    · obtain ⟨m0, g3, g4, _⟩ := hat i m g1
      rw [g4]
      refine h3 _ ?_
      rw [← h1]
      exact List.mem_map.2 ⟨m0, Array.mem_toList_iff.2 (Array.mem_of_getElem? g3), rfl⟩
  unfold Oper.wp
  rw [hrun2, Oper.upon_skip, hdst]
  refine hK ι _ _ _ w' ⟨rfl, rfl⟩ ⟨R.heap.wrote hW hv hBR, (R.env.mono fun _ _ _ _ hv' => hv'.wrote hW hv), R.defers.ext (hW.ext hv), R.size⟩ ?_ rfl
  exact ⟨⟨hW.os, hW.tape, hW.output, hW.size, fun r hr hne => hW.mem r hr fun hb => hne id (List.contains_iff_mem.1 hT) _ hv hb⟩, fun j _ u r hj hr _ => ⟨u, hj, hr⟩⟩
theorem T_mapEntry0 {t K E id d : Nat} {x y : Operand} {k : κ} {l : List (κ × ν)} {z : ν} {zv : Value} (law : KeyLaw P K ek ok) (hka : ∀ k, valA (ka k) = some (ek k)) (hkv : ∀ k w F ι, VRel w F ι (ka k) (ek k)) (hz : ∀ W, (zeroValue E).run P W = .ok zv W) (hzr : ∀ w F ι, VRel w F ι (xa z) zv) (hk : ok k) (hl : ∀ p ∈ l, ok p.1) (hn : (l.map (·.1)).Nodup) (hg : aget l k = none)
    (TO : TabOk P tab) (hi : ops[i]? = some o) (hw : awant ops e o = some true) (ho : o.op = .mapEntry t x y) (hdst : o.dst = some d) (hd : Nat.blt d nt = true) (ht : tmap tab t = some (K, E)) (hx : aev e x = some (.mp id)) (hb : look h id = some (.map (ents ka xa l))) (hy : aev e y = some (ka k)) (hT : T.contains id = true)
    (HK : ∀ r bs b clk, bs.length = l.length → AAny P nt ops Q T fuel (listed.setIfInBounds i true) ((d, .tup [xa z, .d (.sc (.int .i64 ((b : Nat) : Int)))]) :: e) ((id, .mapx r (bs ++ [b]) clk (ents ka xa (l ++ [(k, z)]))) :: h)) : AAt P nt ops Q T fuel listed i e h :=
  T_eff hi hw (E_mapEntry0 (d := some d) law hka hkv hz hzr hk hl hn hg TO ho hdst ht hx hb hy hd hT) fun e' h' ⟨r, bs, b, clk, h1, h2, h3⟩ => by subst h2 h3; exact HK r bs b clk h1
theorem T_entryStore0 {t : TypeId} {x y z0 : Operand} {id r clk b : Nat} {bs : List Nat} {q : IntKind} {k : κ} {l : List (κ × ν)} {z z' : ν} (hbl : bs.length = l.length)
    (hi : ops[i]? = some o) (hw : awant ops e o = some true) (ho : o.op = .entryStore t x y z0) (hdst : o.dst = none) (hx : aev e x = some (.mp id)) (hb : look h id = some (.mapx r (bs ++ [b]) clk (ents ka xa (l ++ [(k, z)])))) (hy : aev e y = some (.d (.sc (.int q ((b : Nat) : Int))))) (hz : aev e z0 = some (xa z')) (hT : T.contains id = true)
    (HK : AAny P nt ops Q T fuel (listed.setIfInBounds i true) e ((id, .map (ents ka xa (l ++ [(k, z')]))) :: h)) : AAt P nt ops Q T fuel listed i e h :=
  T_eff hi hw (E_entryStore0 hbl ho hdst hx hb hy hz hT) fun e' h' ⟨h1, h2⟩ => by subst h1 h2; exact HK
end
end Go.Proofs.Ytnnclkeoakjjkaa.Ab

namespace Go.Proofs.Ytnnclkeoakjjkaa.Ab
set_option linter.unusedVariables false
open Go.RowKit

open Classical in
noncomputable def invN (ν : List (Nat × Nat)) (i : Nat) : Option Nat := if h : ∃ p, look ν p = some i then some (Classical.choose h) else none
theorem invN_some {ν : List (Nat × Nat)} {i p : Nat} (h : invN ν i = some p) : look ν p = some i := by
  unfold invN at h
  split at h
  · rename_i h2
    cases h
    exact Classical.choose_spec h2
  · cases h
theorem invN_none {ν : List (Nat × Nat)} {i : Nat} (h : invN ν i = none) (p : Nat) : look ν p ≠ some i := fun hp => by
  unfold invN at h
  rw [dif_pos ⟨p, hp⟩] at h
  cases h
theorem invN_of {ν : List (Nat × Nat)} (hinj : ∀ p p' i, look ν p = some i → look ν p' = some i → p = p') {i p : Nat} (h : look ν p = some i) : invN ν i = some p := by
  cases h2 : invN ν i with
  | none => exact absurd h (invN_none h2 p)
  | some q => rw [hinj p q i h (invN_some h2)]
theorem look_mem2 {ν : List (Nat × Nat)} {p i : Nat} (h : look ν p = some i) : i ∈ ν.map (·.2) := by
  induction ν with
  | nil => cases h
  | cons q r ih =>
    obtain ⟨a, b⟩ := q
    by_cases ha : a = p
    · subst ha; rw [look_cons_same] at h; cases h; simp
    · rw [look_cons_ne _ _ ha] at h; have := ih h; simp at this ⊢; exact .inr this
theorem mem2_look {ν : List (Nat × Nat)} (hn : (ν.map (·.1)).Nodup) {i : Nat} (h : i ∈ ν.map (·.2)) : ∃ p, look ν p = some i := by
  induction ν with
  | nil => simp at h
  | cons q r ih =>
    obtain ⟨a, b⟩ := q
    rw [List.map_cons, List.nodup_cons] at hn
    rcases List.mem_cons.1 h with h1 | h1
    · exact ⟨a, by rw [h1]; exact look_cons_same _ _ _⟩
    · obtain ⟨p, hp⟩ := ih hn.2 h1
      refine ⟨p, ?_⟩
      rw [look_cons_ne _ _ ?_]
      · exact hp
      · rintro rfl
        refine hn.1 ?_
        have : ∀ (r : List (Nat × Nat)), look r a = some i → a ∈ r.map (·.1) := by
          intro r
          induction r with
          | nil => intro h; cases h
          | cons q r ih =>
            intro h
            by_cases hq : q.1 = a
            · rw [← hq]; simp
            · have e : look (q :: r) a = look r a := look_cons_ne _ _ hq
              rw [e] at h
              exact List.mem_cons_of_mem _ (ih h)
        exact this r hp
end Go.Proofs.Ytnnclkeoakjjkaa.Ab

namespace Go.Proofs.Ytnnclkeoakjjkaa.Ab
set_option linter.unusedVariables false
open Go.RowKit
section
variable {P : Program} {nt : Nat} {T : List Nat} {Q0 : Post} {ops : Array Oper} {rest : List Oper} {e : Env} {h : Heap} {o : Oper} {tab : TTab}
theorem E_callTV {f : FuncId} {args : Array Operand} {ats : Array TypeId} {cs0 cs1 caps cs : List AVal} {x : Operand} {h0 : Heap} {d : Option Tmp} {Q : AVal → Heap → Prop} (ρ ν : List (Nat × Nat)) (p0 i0 : Nat) (ho : o.op = .call { callee := .value x, args := args, argTypes := ats }) (hdst : o.dst = d) (hf : aev e x = some (.fn f caps)) (hx : aevs e args.toList = some cs1) (hcc : cs1 ++ caps = cs0)
    (hcs : cs.map (renV (ρ ++ [(p0, i0)])) = cs0) (hok : ∀ c ∈ cs, okV (ρ ++ [(p0, i0)]) c = true) (hl : Lent (ρ ++ [(p0, i0)]) h h0) (hdom : ∀ p i, look ρ p = some i → 1000 ≤ p ∧ (look h0 p).isSome = true) (hinj : ∀ p p' i, look ρ p = some i → look ρ p' = some i → p = p')
    (hρn : (ρ.map (·.1)).Nodup) (hp0 : p0 < 1000) (hp1 : (look h0 p0).isSome = true) (hi0 : ∃ q, look ν q = some i0)
    (H : ACall P f cs h0 Q) (hd : dstOk nt d = true)
    (hν : ∀ p i, look ν p = some i → p < 1000 ∧ i < 1000 ∧ ∀ q, look ρ q ≠ some i) (hνinj : ∀ p p' i, look ν p = some i → look ν p' = some i → p = p') (hνn : (ν.map (·.1)).Nodup)
    (hq : ∀ c h', Q c h' → ∀ p i, look ρ p = some i → (look h' p).isSome = true) :
    AEff P nt (ρ.map (·.2) ++ [i0]) e h o (fun e' h2 => ∃ c h', Q c h' ∧ e' = aput d (renV (ν ++ ρ) c) (killEs (ν.map (·.2)) e) ∧ h2 = renH (ν ++ ρ) h' ++ killHs (ν.map (·.2)) h) := fun Pm F w0 pin ι a w R K Qx hK => by
  have hfv := aev_rel R.env hf
  generalize hau : a.eval x = u at hfv
  cases hfv with
  | fn _ _ C hlC hhC =>
  unfold Oper.wp
  rw [run_callV H.1 ho hau, Oper.upon_enter, hdst]
  have HR := R.heap
  obtain ⟨q0, hq0⟩ := hi0
  have hs0 : ∀ p i, look (ρ ++ [(p0, i0)]) p = some i → look ρ p = some i ∨ (p = p0 ∧ i = i0) := fun p i hp => by
    rw [look_append] at hp
    cases h1 : look ρ p with
    | some j => rw [h1] at hp; cases hp; exact .inl rfl
    | none =>
      rw [h1] at hp
      have hp : look [(p0, i0)] p = some i := hp
      by_cases h2 : p0 = p
      · subst h2; rw [look_cons_same] at hp; cases hp; exact .inr ⟨rfl, rfl⟩
      · rw [look_cons_ne _ _ h2] at hp; cases hp
  have hs1 : ∀ p i, look ρ p = some i → look (ρ ++ [(p0, i0)]) p = some i := fun p i hp => by rw [look_append, hp]
  have hs2 : look (ρ ++ [(p0, i0)]) p0 = some i0 := by
    rw [look_append]
    cases h1 : look ρ p0 with
    | some j => have := (hdom p0 j h1).1; omega
    | none => exact look_cons_same _ _ _
  have hinj0 : ∀ p p' i, look (ρ ++ [(p0, i0)]) p = some i → look (ρ ++ [(p0, i0)]) p' = some i → p = p' := fun p p' i h1 h2 => by
    rcases hs0 p i h1 with h3 | ⟨h3, h5⟩ <;> rcases hs0 p' i h2 with h4 | ⟨h4, h6⟩
    · exact hinj p p' i h3 h4
    · subst h6; exact absurd h3 ((hν q0 i hq0).2.2 p)
    · subst h5; exact absurd h4 ((hν q0 i hq0).2.2 p')
    · rw [h3, h4]
  let ι0 : Nat → Option Value := fun p => match look (ρ ++ [(p0, i0)]) p with | some i => ι i | none => none
  have h0some : ∀ p v, ι0 p = some v → ∃ i, look (ρ ++ [(p0, i0)]) p = some i ∧ ι i = some v := fun p v hv => by
    simp only [ι0] at hv
    cases hp : look (ρ ++ [(p0, i0)]) p with
    | none => rw [hp] at hv; cases hv
    | some i => rw [hp] at hv; exact ⟨i, rfl, hv⟩
  have h0of0 : ∀ p i, look (ρ ++ [(p0, i0)]) p = some i → ι0 p = ι i := fun p i hp => by simp only [ι0, hp]
  have h0of : ∀ p i, look ρ p = some i → ι0 p = ι i := fun p i hp => h0of0 p i (hs1 p i hp)
  have hdom0 : ∀ p i, look (ρ ++ [(p0, i0)]) p = some i → (look h0 p).isSome = true := fun p i hp => by
    rcases hs0 p i hp with h1 | ⟨h1, _⟩
    · exact (hdom p i h1).2
    · rw [h1]; exact hp1
  let F' : Nat → Prop := fun r => F r ∨ ∃ id v, ι id = some v ∧ blockOf v = some r ∧ ∀ p, look (ρ ++ [(p0, i0)]) p ≠ some id
  let Pm' : Nat → Prop := fun r => w.heap.size ≤ r ∨ ∃ p v, ι0 p = some v ∧ blockOf v = some r
  have hFdown : ExtF w F ι w F' ι0 := ⟨fun _ _ _ => rfl, fun r _ hf => ⟨fun hc => hc.elim hf.1 fun ⟨id, v, h1, h2, _⟩ => hf.2 id v h1 h2, fun p v hv hb => by
    obtain ⟨i, _, h2⟩ := h0some p v hv
    exact hf.2 i v h2 hb⟩⟩
  have HC : HRel Pm' F' w ι0 ι0 h0 w := by
    refine ⟨fun p b hb => ?_, fun p v hv => ?_, fun p q v v' r hpq hv hv' hr => ?_, fun p v r hv hr => .inr ⟨p, v, hv, hr⟩, rfl, rfl, rfl, Nat.le_refl _, fun _ _ _ => rfl, fun r hr => .inl hr, fun p v _ hv => hv, fun p v r hv hr hF' => ?_, fun r hr => ?_⟩
    · obtain ⟨i, h1, h2, h3⟩ := hl.get hb
      obtain ⟨v, hv, hB⟩ := HR.blk i _ h2
      exact ⟨v, by rw [h0of0 p i h1]; exact hv, hB.down h3 hFdown h0some⟩
    · obtain ⟨i, h1, h2⟩ := h0some p v hv
      exact Option.isSome_iff_exists.1 (hdom0 p i h1)
    · obtain ⟨i, h1, h2⟩ := h0some p v hv
      obtain ⟨j, h3, h4⟩ := h0some q v' hv'
      exact HR.inj i j v v' r (by rintro rfl; exact hpq (hinj0 p q i h1 h3)) h2 h4 hr
    · obtain ⟨i, h1, h2⟩ := h0some p v hv
      rcases hF' with h3 | ⟨id, v', h3, h4, h5⟩
      · exact HR.nf i v r h2 hr h3
      · have : i ≠ id := by rintro rfl; exact h5 p h1
        exact HR.inj i id v v' r this h2 h3 hr h4
    · rcases hr with h1 | ⟨id, v, h1, h2, _⟩
      · exact Nat.lt_of_lt_of_le (HR.forb r h1) HR.size
      · exact HR.lt h1 h2
  have HA0 : ArgsRel w F ι cs0 (args.map a.eval ++ C) := by
    have hA := args_of R.env hx
    subst hcc
    refine ⟨by simp [hlC]; exact by simpa using hA.1, fun i c u h1 h2 => ?_⟩
    have hAl : (args.map a.eval).size = cs1.length := hA.1
    by_cases hi : i < cs1.length
    · rw [List.getElem?_append_left hi] at h1
      rw [Array.getElem?_append_left (by omega)] at h2
      exact hA.2 i c u h1 h2
    · rw [List.getElem?_append_right (by omega)] at h1
      rw [Array.getElem?_append_right (by omega), hAl] at h2
      exact hhC _ c u h1 h2
  have HA : ArgsRel w F' ι0 cs (args.map a.eval ++ C) := by
    refine ⟨by rw [HA0.1, ← hcs, List.length_map], fun i c u h1 h2 => (HA0.2 i (renV (ρ ++ [(p0, i0)]) c) u (by rw [← hcs, List.getElem?_map, h1]; rfl) h2).down (hok c (List.mem_of_getElem? h1)) hFdown h0some⟩
  refine (H.2 Pm' F' w ι0 ι0 _ w HC HA).mono ?_
  rintro x w' ⟨u, c, h', ι', rfl, hQ, hH, hv⟩
  have hsz := hH.size
  have hkeep : ∀ r, r < w.heap.size → (∀ p i v, look (ρ ++ [(p0, i0)]) p = some i → ι i = some v → blockOf v ≠ some r) → w'.heap[r]? = w.heap[r]? := fun r hr hn => hH.keep r hr fun hp => by
    rcases hp with h1 | ⟨p, v, h1, h2⟩
    · omega
    · obtain ⟨i, h3, h4⟩ := h0some p v h1
      exact hn p i v h3 h4 h2
  have hpin : ∀ p i, look ρ p = some i → ∀ v, ι i = some v → ι' p = some v := fun p i hp v hv => by
    obtain ⟨b, hb⟩ := Option.isSome_iff_exists.1 (hq c h' hQ p i hp)
    obtain ⟨v', hv', _⟩ := hH.blk p b hb
    have := hH.pinned p v' (hdom p i hp).1 hv'
    rw [h0of p i hp, hv] at this
    cases this
    exact hv'
  have hσ : ∀ p i, look (ν ++ ρ) p = some i → look ν p = some i ∨ look ρ p = some i := fun p i hp => by
    rw [look_append] at hp
    cases h1 : look ν p with
    | some j => rw [h1] at hp; cases hp; exact .inl rfl
    | none => rw [h1] at hp; exact .inr hp
  have hσν : ∀ p i, look ν p = some i → look (ν ++ ρ) p = some i := fun p i hp => by rw [look_append, hp]
  have hσinj : ∀ p p' i, look (ν ++ ρ) p = some i → look (ν ++ ρ) p' = some i → p = p' := fun p p' i h1 h2 => by
    rcases hσ p i h1 with h3 | h3 <;> rcases hσ p' i h2 with h4 | h4
    · exact hνinj p p' i h3 h4
    · exact absurd h4 ((hν p i h3).2.2 p')
    · exact absurd h3 ((hν p' i h4).2.2 p)
    · exact hinj p p' i h3 h4
  let ι2 : Nat → Option Value := fun id => match invN ν id with | some p => ι' p | none => ι id
  have i2 : ∀ id v, ι2 id = some v → (∃ p, look ν p = some id ∧ ι' p = some v) ∨ (∀ p, look ν p ≠ some id) ∧ ι id = some v := fun id v hv => by
    simp only [ι2] at hv
    cases hi : invN ν id with
    | some p => rw [hi] at hv; exact .inl ⟨p, invN_some hi, hv⟩
    | none => rw [hi] at hv; exact .inr ⟨invN_none hi, hv⟩
  have i2ν : ∀ p id, look ν p = some id → ι2 id = ι' p := fun p id hp => by simp only [ι2, invN_of hνinj hp]
  have i2o : ∀ id, (∀ p, look ν p ≠ some id) → ι2 id = ι id := fun id hn => by
    simp only [ι2]
    cases hi : invN ν id with
    | some p => exact absurd (invN_some hi) (hn p)
    | none => rfl
  have newlt : ∀ p id v r, look ν p = some id → ι' p = some v → blockOf v = some r → w.heap.size ≤ r ∨ ∃ v2, ι i0 = some v2 ∧ blockOf v2 = some r := fun p id v r hp hv hr => by
    rcases hH.pm p v r hv hr with h1 | ⟨q, v2, h1, h2⟩
    · exact .inl h1
    · obtain ⟨i, h30, h4⟩ := h0some q v2 h1
      rcases hs0 q i h30 with h3 | ⟨_, h3⟩
      rotate_left
      · subst h3; exact .inr ⟨v2, h4, h2⟩
      have h5 := hpin q i h3 v2 h4
      have h6 := (hν p id hp).1
      have h7 := (hdom q i h3).1
      exact absurd h2 (hH.inj p q v v2 r (by omega) hv h5 hr)
  have hFup : ExtF w' F' ι' w' F ι2 := ⟨fun _ _ _ => rfl, fun r _ hf => ⟨fun hc => hf.1 (.inl hc), fun id v hid hb => by
    rcases i2 id v hid with ⟨p, _, h2⟩ | ⟨h1, h2⟩
    · exact hf.2 p v h2 hb
    · by_cases hex : ∃ p, look ρ p = some id
      · obtain ⟨p, hp⟩ := hex
        exact hf.2 p v (hpin p id hp v h2) hb
      · exact hf.1 (.inr ⟨id, v, h2, hb, fun p hp => (hs0 p id hp).elim (fun h3 => hex ⟨p, h3⟩) fun h3 => h1 q0 (by rw [h3.2]; exact hq0)⟩)⟩⟩
  have hup : ∀ p i, look (ν ++ ρ) p = some i → ∀ v, ι2 i = some v → ι' p = some v := fun p i hp v hv => by
    rcases hσ p i hp with h1 | h1
    · rw [i2ν p i h1] at hv; exact hv
    · rcases i2 i v hv with ⟨q, h2, _⟩ | ⟨_, h2⟩
      · exact absurd h1 ((hν q i h2).2.2 p)
      · exact hpin p i h1 v h2
  have hext : Ext w F ι w' ι2 := ⟨fun r hr hf => hkeep r hr fun p i v hp hi hb => hf.2 i v hi hb, fun r hr hf => ⟨hf.1, fun id v hid hb => by
    rcases i2 id v hid with ⟨p, h1, h2⟩ | ⟨_, h2⟩
    · rcases newlt p id v r h1 h2 hb with h3 | ⟨v2, h3, h4⟩
      · omega
      · exact hf.2 i0 v2 h3 h4
    · exact hf.2 id v h2 hb⟩⟩
  have hold : ∀ id, (ν.map (·.2)).contains id = false → ∀ p, look ν p ≠ some id := fun id hc p hp => by
    have := List.contains_iff_mem.2 (look_mem2 hp)
    rw [hc] at this; cases this
  have vk : ∀ c0 u0, VRel w F ι c0 u0 → VRel w' F ι2 (killVs (ν.map (·.2)) c0) u0 := fun c0 u0 hv => by
    unfold killVs
    cases hh : hasAny (ν.map (·.2)) c0 with
    | true => exact .top _
    | false =>
      refine hv.ext hext fun id v hi hv2 => ?_
      rcases i2 id v hv2 with ⟨p, h1, h2⟩ | ⟨_, h2⟩
      · have := List.any_eq_false.1 hh id (look_mem2 h1)
        rw [hi] at this; exact absurd rfl this
      · exact h2
  have hheap : HRel Pm F w0 pin ι2 (renH (ν ++ ρ) h' ++ killHs (ν.map (·.2)) h) w' := by
    refine ⟨fun id b hb => ?_, fun id v hv => ?_, fun i j v v' r hij hi hj hr => ?_, fun i v r hi hr => ?_, hH.os.trans HR.os, hH.tape.trans HR.tape, hH.output.trans HR.output, Nat.le_trans HR.size hsz, fun r hr hn => ?_, HR.fresh, fun id v h1 hv => ?_, fun i v r hi hr => ?_, HR.forb⟩
    · rw [look_append] at hb
      cases hl2 : look (renH (ν ++ ρ) h') id with
      | some b' =>
        rw [hl2] at hb
        cases hb
        obtain ⟨p, b0, h1, h2, h3⟩ := (look_renH hσinj h' id).1 b hl2
        subst h3
        obtain ⟨v', hv', hB⟩ := hH.blk p b0 h2
        refine ⟨v', ?_, hB.up hFup hup⟩
        rcases hσ p id h1 with h3 | h3
        · rw [i2ν p id h3]; exact hv'
        · have h4 := hH.pinned p v' (hdom p id h3).1 hv'
          rw [h0of p id h3] at h4
          rw [i2o id fun q hq2 => (hν q id hq2).2.2 p h3]
          exact h4
      | none =>
        rw [hl2] at hb
        rw [look_killHs] at hb
        cases hc : (ν.map (·.2)).contains id with
        | true => rw [hc] at hb; simp at hb
        | false =>
          rw [hc] at hb
          simp only [Bool.false_eq_true, if_false] at hb
          cases hl3 : look h id with
          | none => simp [hl3] at hb
          | some b0 =>
            simp [hl3] at hb
            subst hb
            have hno : ∀ p, look (ρ ++ [(p0, i0)]) p ≠ some id := fun p hpp => by
              rcases hs0 p id hpp with hp | ⟨_, h3⟩
              rotate_left
              · subst h3; exact absurd hq0 (hold id hc q0)
              have h1 := (look_renH hσinj h' id).2 hl2 p (by
                rw [look_append]
                cases h2 : look ν p with
                | some j => have h3 := (hν p j h2).1; have h4 := (hdom p id hp).1; omega
                | none => exact hp)
              have h2 := hq c h' hQ p id hp
              rw [h1] at h2; cases h2
            obtain ⟨v, hv, hB⟩ := HR.blk id b0 hl3
            have hsame : ∀ r, blockOf v = some r → w'.heap[r]? = w.heap[r]? := fun r hr => hkeep r (HR.lt hv hr) fun p i v2 hp hi hb3 =>
              HR.inj i id v2 v r (by rintro rfl; exact hno p hp) hi hv hb3 hr
            refine ⟨v, by rw [i2o id (hold id hc)]; exact hv, ?_⟩
            cases b0 with
            | var cs =>
              obtain ⟨r, C, tt, rfl, h2, h3, h4⟩ := hB
              refine ⟨r, C, tt, rfl, (hsame r rfl).trans h2, by simpa using h3, fun i c u h5 h6 => ?_⟩
              rw [List.getElem?_map] at h5
              cases h7 : cs[i]? with
              | none => simp [h7] at h5
              | some c0 => simp [h7] at h5; subst h5; exact vk _ _ (h4 i c0 u h7 h6)
            | row el k n cs =>
              obtain ⟨xs, hown, h3, h4⟩ := hB
              refine ⟨xs, ⟨hown.1, ?_⟩, h3, fun i c u h5 h6 => (h4 i c u h5 h6).ext hext.mem hext.free⟩
              rcases hown.2 with h8 | ⟨g, cap, cur, rfl, hb, hg, rest⟩
              · exact .inl h8
              · exact .inr ⟨g, cap, cur, rfl, hb, (hsame g rfl).trans hg, rest⟩
            | map es =>
              obtain ⟨r, E, clk, rfl, h2, h3, h4, h5⟩ := hB
              refine ⟨r, E, clk, rfl, (hsame r rfl).trans h2, by simpa using h3, fun i p m h6 h7 => ?_, h5⟩
              rw [List.getElem?_map] at h6
              cases h8 : es[i]? with
              | none => simp [h8] at h6
              | some p0 => simp [h8] at h6; subst h6; exact ⟨vk _ _ (h4 i p0 m h8 h7).1, vk _ _ (h4 i p0 m h8 h7).2⟩
            | mapx r0 bs0 clk0 es =>
              obtain ⟨E, rfl, h2, h3, h4, h5⟩ := hB
              refine ⟨E, rfl, (hsame _ rfl).trans h2, by simpa using h3, fun i p m h6 h7 => ?_, h5⟩
              rw [List.getElem?_map] at h6
              cases h8 : es[i]? with
              | none => simp [h8] at h6
              | some p0 => simp [h8] at h6; subst h6; exact ⟨vk _ _ (h4 i p0 m h8 h7).1, vk _ _ (h4 i p0 m h8 h7).2⟩
            | it o => obtain ⟨r, rfl, h2⟩ := hB; exact ⟨r, rfl, (hsame r rfl).trans h2⟩
    · rw [look_append]
      cases hl2 : look (renH (ν ++ ρ) h') id with
      | some b' => exact ⟨b', rfl⟩
      | none =>
        rcases i2 id v hv with ⟨p, h1, h2⟩ | ⟨h1, h2⟩
        · obtain ⟨b, hb⟩ := hH.dom p v h2
          have := (look_renH hσinj h' id).2 hl2 p (hσν p id h1)
          rw [hb] at this; cases this
        · obtain ⟨b, hb⟩ := HR.dom id v h2
          refine ⟨killBs (ν.map (·.2)) b, ?_⟩
          show look (killHs _ h) id = _
          rw [look_killHs, hb]
          cases hc : (ν.map (·.2)).contains id with
          | true =>
            obtain ⟨p, hp⟩ := mem2_look hνn (List.contains_iff_mem.1 hc)
            exact absurd hp (h1 p)
          | false => rfl
    · rcases i2 i v hi with ⟨p, h1, h2⟩ | ⟨h1, h2⟩ <;> rcases i2 j v' hj with ⟨q, h3, h4⟩ | ⟨h3, h4⟩
      · exact hH.inj p q v v' r (by rintro rfl; rw [h1] at h3; cases h3; exact hij rfl) h2 h4 hr
      · intro hr'
        have := HR.lt h4 hr'
        rcases newlt p i v r h1 h2 hr with h5 | ⟨v2, h5, h6⟩
        · omega
        · exact HR.inj i0 j v2 v' r (by rintro rfl; exact h3 q0 hq0) h5 h4 h6 hr'
      · intro hr'
        have := HR.lt h2 hr
        rcases newlt q j v' r h3 h4 hr' with h5 | ⟨v2, h5, h6⟩
        · omega
        · exact HR.inj i0 i v2 v r (by rintro rfl; exact h1 q0 hq0) h5 h2 h6 hr
      · exact HR.inj i j v v' r hij h2 h4 hr
    · rcases i2 i v hi with ⟨p, h1, h2⟩ | ⟨_, h2⟩
      · rcases newlt p i v r h1 h2 hr with h5 | ⟨v2, h5, h6⟩
        · exact HR.fresh r (Nat.le_trans HR.size h5)
        · exact HR.pm i0 v2 r h5 h6
      · exact HR.pm i v r h2 hr
    · rw [hkeep r (Nat.lt_of_lt_of_le hr HR.size) fun p i v hp hi hb => hn (HR.pm i v r hi hb)]
      exact HR.keep r hr hn
    · rcases i2 id v hv with ⟨p, h2, h3⟩ | ⟨_, h3⟩
      · have := (hν p id h2).2.1; omega
      · exact HR.pinned id v h1 h3
    · intro hF
      rcases i2 i v hi with ⟨p, h2, h3⟩ | ⟨_, h3⟩
      · rcases newlt p i v r h2 h3 hr with h5 | ⟨v2, h5, h6⟩
        · have := HR.forb r hF
          have := HR.size
          omega
        · exact HR.nf i0 v2 r h5 h6 hF
      · exact HR.nf i v r h3 hr hF
  refine hK ι2 _ _ _ w' ⟨c, h', hQ, rfl, rfl⟩ ⟨hheap, EnvRel.aput (fun t c0 ht => ?_) hd R.size (hv.up hFup hup), by rw [put_defers]; exact R.defers.ext hext, by rw [put_size]; exact R.size⟩ ⟨⟨hH.os, hH.tape, hH.output, hsz, fun r hr hne => hkeep r hr fun p i v hp hi hb => hne i ((hs0 p i hp).elim (fun h1 => List.mem_append_left _ (look_mem2 h1)) fun h1 => by rw [h1.2]; simp) v hi hb⟩, fun id hid v r h1 h2 h3 => ?_⟩ (put_defers _ _ _)
  · rw [look_killEs] at ht
    cases hl1 : look e t with
    | none => simp [hl1] at ht
    | some c1 =>
      simp [hl1] at ht
      subst ht
      obtain ⟨u0, hu0, hv0⟩ := R.env t c1 hl1
      exact ⟨u0, hu0, vk _ _ hv0⟩
  · rcases i2 id v h1 with ⟨p, h4, h5⟩ | ⟨_, h5⟩
    · rcases newlt p id v r h4 h5 h2 with h6 | ⟨v2, h6, h7⟩
      · omega
      · rcases List.mem_append.1 hid with h8 | h8
        · have : ∃ q, look ρ q = some id := by
            exact mem2_look hρn h8
          obtain ⟨q, hq⟩ := this
          exact absurd hq ((hν p id h4).2.2 q)
        · have : id = i0 := by simpa using h8
          subst this
          exact ⟨v2, h6, h7⟩
    · exact ⟨v, h5, h2⟩
theorem O_cTV {α : Type} {f : FuncId} {args : Array Operand} {ats : Array TypeId} {cs0 cs1 caps cs : List AVal} {x : Operand} {h0 : Heap} {C : α → AVal} {H1 : α → Heap} {Φ : α → Prop} {d : Nat} (ρ ν : List (Nat × Nat)) (p0 i0 : Nat) (hinj : ∀ p p' i, look ρ p = some i → look ρ p' = some i → p = p') (hdom : ∀ p i, look ρ p = some i → 1000 ≤ p ∧ (look h0 p).isSome = true ∧ ∀ x, (look (H1 x) p).isSome = true)
    (hν : ∀ p i, look ν p = some i → p < 1000 ∧ i < 1000 ∧ ∀ q, look ρ q ≠ some i) (hνinj : ∀ p p' i, look ν p = some i → look ν p' = some i → p = p') (hνn : (ν.map (·.1)).Nodup) (hρn : (ρ.map (·.1)).Nodup) (hp0 : p0 < 1000) (hp1 : (look h0 p0).isSome = true) (hi0 : ∃ q, look ν q = some i0)
    (H : ACall P f cs h0 (fun c' h' => ∃ x, Φ x ∧ c' = C x ∧ h' = H1 x)) (hok : cs.all (okV (ρ ++ [(p0, i0)])) = true) (hl : Lent (ρ ++ [(p0, i0)]) h h0) (hw : awant ops e o = some true) (hdst : o.dst = some d) (hd : Nat.blt d nt = true) (ho : o.op = .call { callee := .value x, args := args, argTypes := ats }) (hf : aev e x = some (.fn f caps)) (hx : aevs e args.toList = some cs1) (hcc : cs1 ++ caps = cs0)
    (hcs : cs.map (renV (ρ ++ [(p0, i0)])) = cs0) (HK : ∀ x, Φ x → AOps P nt ops Q0 rest ((d, renV (ν ++ ρ) (C x)) :: killEs (ν.map (·.2)) e) (renH (ν ++ ρ) (H1 x) ++ killHs (ν.map (·.2)) h)) : AOps P nt ops Q0 (o :: rest) e h :=
  O_eff (T := ρ.map (·.2) ++ [i0]) hw (E_callTV ρ ν p0 i0 ho hdst hf hx hcc hcs (fun c hc => List.all_eq_true.1 hok c hc) hl (fun p i hp => ⟨(hdom p i hp).1, (hdom p i hp).2.1⟩) hinj hρn hp0 hp1 hi0 H hd hν hνinj hνn (fun c' h' ⟨x, _, _, h4⟩ p i hp => by subst h4; exact (hdom p i hp).2.2 x)) fun e' h' ⟨c', h2, ⟨x, h9, h3, h4⟩, h5, h6⟩ => by subst h3 h4 h5 h6; exact HK x h9
end
end Go.Proofs.Ytnnclkeoakjjkaa.Ab

namespace Go.Proofs.Ytnnclkeoakjjkaa.Ab
set_option linter.unusedVariables false
open Go.RowKit
section
variable {P : Program} {nt : Nat} {Q : Post} {e : Env} {h : Heap} {ops : Array Oper} {o : Oper} {rest : List Oper} {T : List Nat} {tab : TTab} {fuel i : Nat} {listed : Array Bool}
theorem E_callMv {f : FuncId} {args : Array Operand} {ats : Array TypeId} {cs0 cs : List AVal} {d : Option Tmp} {id j el k el0 k0 n0 : Nat} {ds0 : List Dat} {c0 : AVal} {v00 : Value} (ho : o.op = .call { callee := .value (.func f), args := args, argTypes := ats }) (hdst : o.dst = d) (hx : aevs e args.toList = some cs0)
    (hcs : cs.map (renV [(1000, id)]) = cs0) (hok : ∀ c ∈ cs, okV [(1000, id)] c = true) (hb : look h id = some (.row el0 k0 n0 ds0))
    (H : ACall P f cs [(1000, .row el0 k0 n0 ds0)] (fun c h' => c = c0 ∧ ∃ n ds, h' = [(j, .row el k n ds)])) (hc0 : valA c0 = some v00) (hrel : ∀ w F ι, VRel w F ι c0 v00) (hid : Nat.blt id 1000 = true) (hd : dstOk nt d = true) (hT : T.contains id = true) :
    AEff P nt T e h o (fun e' h2 => ∃ n ds, e' = aput d c0 (killE id e) ∧ h2 = (id, .row el k n ds) :: killH id h) := fun Pm F w0 pin ι a w R K Qx hK => by
  have hid' : id < 1000 := by simp [Nat.blt] at hid; omega
  unfold Oper.wp
  rw [run_callA H.1 ho, Oper.upon_enter, hdst]
  have HR := R.heap
  obtain ⟨v0, hv0, hB0⟩ := HR.blk id _ hb
  let ι0 : Nat → Option Value := fun p => if p = 1000 then ι id else none
  have h0some : ∀ p v, ι0 p = some v → ∃ i, look [(1000, id)] p = some i ∧ ι i = some v := fun p v hv => by
    simp only [ι0] at hv
    split at hv
    · rename_i hp; subst hp; exact ⟨id, rfl, hv⟩
    · cases hv
  have hlk : ∀ p i, look [(1000, id)] p = some i → p = 1000 ∧ i = id := fun p i hp => by
    by_cases h1 : 1000 = p
    · subst h1; rw [look_cons_same] at hp; cases hp; exact ⟨rfl, rfl⟩
    · rw [look_cons_ne _ _ h1] at hp; cases hp
  let F' : Nat → Prop := fun r => F r ∨ ∃ i v, ι i = some v ∧ blockOf v = some r ∧ i ≠ id
  let Pm' : Nat → Prop := fun r => w.heap.size ≤ r ∨ blockOf v0 = some r
  have hFdown : ExtF w F ι w F' ι0 := ⟨fun _ _ _ => rfl, fun r _ hf => ⟨fun hc => hc.elim hf.1 fun ⟨i, v, h1, h2, _⟩ => hf.2 i v h1 h2, fun p v hv hb => by
    obtain ⟨i, _, h2⟩ := h0some p v hv
    exact hf.2 i v h2 hb⟩⟩
  have HC : HRel Pm' F' w ι0 ι0 [(1000, .row el0 k0 n0 ds0)] w := by
    refine ⟨fun p b hb2 => ?_, fun p v hv => ?_, fun p q v v' r hpq hv hv' hr => ?_, fun p v r hv hr => .inr ?_, rfl, rfl, rfl, Nat.le_refl _, fun _ _ _ => rfl, fun r hr => .inl hr, fun p v _ hv => hv, fun p v r hv hr hF' => ?_, fun r hr => ?_⟩
    · by_cases h1 : 1000 = p
      · subst h1
        rw [look_cons_same] at hb2
        cases hb2
        refine ⟨v0, by simp only [ι0, if_true]; exact hv0, ?_⟩
        obtain ⟨xs, hown, hxl, hxr⟩ := hB0
        exact ⟨xs, hown, hxl, fun i c u h3 h4 => (hxr i c u h3 h4).ext (fun _ _ _ => rfl) fun r hr hf => hFdown.free r hr hf⟩
      · rw [look_cons_ne _ _ h1] at hb2; cases hb2
    · simp only [ι0] at hv
      split at hv
      · rename_i hp; subst hp; exact ⟨_, look_cons_same _ _ _⟩
      · cases hv
    · simp only [ι0] at hv hv'
      split at hv <;> split at hv'
      · omega
      · cases hv'
      · cases hv
      · cases hv
    · simp only [ι0] at hv
      split at hv
      · rw [hv0] at hv; cases hv; exact hr
      · cases hv
    · obtain ⟨i, h1, h2⟩ := h0some p v hv
      obtain ⟨_, rfl⟩ := hlk p i h1
      rcases hF' with h3 | ⟨q, v', h3, h4, h5⟩
      · exact HR.nf _ v r h2 hr h3
      · exact HR.inj _ q v v' r (fun h => h5 h.symm) h2 h3 hr h4
    · rcases hr with h1 | ⟨q, v, h1, h2, _⟩
      · exact Nat.lt_of_lt_of_le (HR.forb r h1) HR.size
      · exact HR.lt h1 h2
  have HA : ArgsRel w F' ι0 cs (args.map a.eval) := by
    have := args_of R.env hx
    refine ⟨by rw [this.1, ← hcs, List.length_map], fun i c u h1 h2 => (this.2 i (renV [(1000, id)] c) u (by rw [← hcs, List.getElem?_map, h1]; rfl) h2).down (hok c (List.mem_of_getElem? h1)) hFdown h0some⟩
  refine (H.2 Pm' F' w ι0 ι0 _ w HC HA).mono ?_
  rintro x w' ⟨u0, c, h', ι', rfl, ⟨rfl, n, ds, rfl⟩, hH, hv⟩
  have hu0 := valA_rel hv hc0
  subst hu0
  obtain ⟨u, hv', xs, hown, hxl, hxr⟩ := hH.blk j _ (look_cons_same _ _ _)
  have hpm : ∀ r, blockOf u = some r → w.heap.size ≤ r ∨ ∃ v, ι id = some v ∧ blockOf v = some r := fun r hr => by
    rcases hH.pm j u r hv' hr with h1 | h1
    · exact .inl h1
    · exact .inr ⟨v0, hv0, h1⟩
  have hkeep : ∀ r, r < w.heap.size → blockOf v0 ≠ some r → w'.heap[r]? = w.heap[r]? := fun r hr hn => hH.keep r hr fun hp => by
    rcases hp with h1 | h1
    · omega
    · exact hn h1
  have TT : Touch w ι id u w' := ⟨hH.os, hH.tape, hH.output, hH.size, fun r hr hn => hkeep r hr (hn v0 hv0), hpm⟩
  refine hK _ _ _ _ _ ⟨n, ds, rfl, rfl⟩ ⟨R.heap.touch TT (.inl hid') ⟨xs, hown, hxl, fun i c u2 h1 h2 => (hxr i c u2 h1 h2).ext (fun _ _ _ => rfl) fun r hr hf => ⟨fun h3 => hf.1 (.inl h3), fun q v h3 h4 => ?_⟩⟩, (R.env.killed TT.ext).aput hd R.size (hrel _ _ _), by rw [put_defers]; exact R.defers.ext TT.ext, by rw [put_size]; exact R.size⟩ ?_ (put_defers _ _ _)
  · unfold upd at h3
    split at h3
    · cases h3; exact hf.2 j u hv' h4
    · rename_i hne; exact hf.1 (.inr ⟨q, v, h3, h4, hne⟩)
  · refine ⟨⟨hH.os, hH.tape, hH.output, hH.size, fun r hr hne => hkeep r hr (hne id (List.contains_iff_mem.1 hT) v0 hv0)⟩, fun q _ u2 r hq hr1 hlt => ?_⟩
    unfold upd at hq
    split at hq
    · rename_i hqi
      subst hqi
      cases hq
      rcases hpm r hr1 with h1 | ⟨v, h1, h2⟩
      · omega
      · exact ⟨v, h1, h2⟩
    · exact ⟨u2, hq, hr1⟩
theorem O_cMv {f : FuncId} {args : Array Operand} {ats : Array TypeId} {cs0 cs : List AVal} {d id j el k el0 k0 n0 : Nat} {ds0 : List Dat} {c0 : AVal} {v00 : Value} (hw : awant ops e o = some true) (hdst : o.dst = some d) (hd : Nat.blt d nt = true) (ho : o.op = .call { callee := .value (.func f), args := args, argTypes := ats }) (hx : aevs e args.toList = some cs0)
    (H : ACall P f cs [(1000, .row el0 k0 n0 ds0)] (fun c h' => c = c0 ∧ ∃ n ds, h' = [(j, .row el k n ds)])) (hc0 : valA c0 = some v00) (hrel : ∀ w F ι, VRel w F ι c0 v00) (hcs : cs.map (renV [(1000, id)]) = cs0) (hok : ∀ c ∈ cs, okV [(1000, id)] c = true) (hb : look h id = some (.row el0 k0 n0 ds0)) (hid : Nat.blt id 1000 = true)
    (HK : ∀ n ds, AOps P nt ops Q rest ((d, c0) :: killE id e) ((id, .row el k n ds) :: killH id h)) : AOps P nt ops Q (o :: rest) e h :=
  O_eff (T := [id]) hw (E_callMv (d := some d) ho hdst hx hcs hok hb H hc0 hrel hid hd (by simp)) fun e' h' ⟨n, ds, h1, h2⟩ => by subst h1 h2; exact HK n ds
theorem T_cMv {f : FuncId} {args : Array Operand} {ats : Array TypeId} {cs0 cs : List AVal} {d id j el k el0 k0 n0 : Nat} {ds0 : List Dat} {c0 : AVal} {v00 : Value} (hi : ops[i]? = some o) (hw : awant ops e o = some true) (hdst : o.dst = some d) (hd : Nat.blt d nt = true) (ho : o.op = .call { callee := .value (.func f), args := args, argTypes := ats }) (hx : aevs e args.toList = some cs0)
    (H : ACall P f cs [(1000, .row el0 k0 n0 ds0)] (fun c h' => c = c0 ∧ ∃ n ds, h' = [(j, .row el k n ds)])) (hc0 : valA c0 = some v00) (hrel : ∀ w F ι, VRel w F ι c0 v00) (hcs : cs.map (renV [(1000, id)]) = cs0) (hok : ∀ c ∈ cs, okV [(1000, id)] c = true) (hb : look h id = some (.row el0 k0 n0 ds0)) (hid : Nat.blt id 1000 = true) (hT : T.contains id = true)
    (HK : ∀ n ds, AAny P nt ops Q T fuel (listed.setIfInBounds i true) ((d, c0) :: killE id e) ((id, .row el k n ds) :: killH id h)) : AAt P nt ops Q T fuel listed i e h :=
  T_eff hi hw (E_callMv (d := some d) ho hdst hx hcs hok hb H hc0 hrel hid hd hT) fun e' h' ⟨n, ds, h1, h2⟩ => by subst h1 h2; exact HK n ds
theorem ACall.reid {f : FuncId} {args : List AVal} {p id el k n : Nat} {ds : List Dat} (hid : Nat.blt id 1000 = true) (H : ACall P f args h (fun c h' => c = .row p ∧ h' = [(p, .row el k n ds)])) : ACall P f args h (fun c h' => c = .row id ∧ h' = [(id, .row el k n ds)]) :=
  ⟨H.1, fun Pm F w0 pin ι0 us w a b => (H.2 Pm F w0 pin ι0 us w a b).mono fun x w' ⟨u, c, h', ι, h1, ⟨h2, h3⟩, H, hv⟩ => by
    subst h2 h3
    have hid' : id < 1000 := by simp [Nat.blt] at hid; omega
    obtain ⟨v, hvv, xs, hown, hxl, hxr⟩ := H.blk p _ (look_cons_same _ _ _)
    have hι : ∀ i u, (fun i => if i = id then ι p else none) i = some u → i = id ∧ ι p = some u := fun i u hu => by
      dsimp only at hu
      split at hu
      · rename_i h; exact ⟨h, hu⟩
      · cases hu
    have hex : Ext w' F ι w' (fun i => if i = id then ι p else none) := ⟨fun _ _ _ => rfl, fun r _ hf => ⟨hf.1, fun i u hu => hf.2 p u (hι i u hu).2⟩⟩
    refine ⟨u, .row id, _, fun i => if i = id then ι p else none, h1, ⟨rfl, rfl⟩, ⟨fun i b hb => ?_, fun i u hu => ?_, fun i j u u' r hij hi hj => ?_, fun i u r hu => H.pm p u r (hι i u hu).2, H.os, H.tape, H.output, H.size, H.keep, H.fresh, fun i u h1 hu => ?_, fun i u r hu => H.nf p u r (hι i u hu).2, H.forb⟩, ?_⟩
    · by_cases h1 : id = i
      · subst h1
        rw [look_cons_same] at hb
        cases hb
        exact ⟨v, by simp only [if_true]; exact hvv, xs, hown, hxl, fun i c u h3 h4 => (hxr i c u h3 h4).ext (fun _ _ _ => rfl) fun r hr hf => hex.free r hr hf⟩
      · rw [look_cons_ne _ _ h1] at hb; cases hb
    · obtain ⟨rfl, _⟩ := hι i u hu
      exact ⟨_, look_cons_same _ _ _⟩
    · exact absurd ((hι i u hi).1.trans (hι j u' hj).1.symm) hij
    · obtain ⟨rfl, _⟩ := hι i u hu
      omega
    · cases hv with
      | row _ _ g1 g2 => exact .row id u g1 fun v2 hv2 => g2 v2 (hι id v2 hv2).2⟩
end
end Go.Proofs.Ytnnclkeoakjjkaa.Ab

namespace Go.Proofs.Ytnnclkeoakjjkaa.Ab
set_option linter.unusedVariables false
set_option maxRecDepth 100000
open Go.RowKit Go.Lib
theorem nodup_le {α : Type} [DecidableEq α] : ∀ (V L : List α), V.Nodup → (∀ s ∈ V, s ∈ L) → V.length ≤ L.length
  | [], _, _, _ => Nat.zero_le _
  | a :: t, L, hn, h => by
    rw [List.nodup_cons] at hn
    have ha := h a (List.mem_cons_self ..)
    have h1 := nodup_le t (L.erase a) hn.2 fun s hs => (List.mem_erase_of_ne (by rintro rfl; exact hn.1 hs)).2 (h s (List.mem_cons_of_mem _ hs))
    rw [List.length_erase_of_mem ha] at h1
    have := List.length_pos_of_mem ha
    rw [List.length_cons]; omega
def wasL (V : List Rte) : List (Rte × Int) := V.map fun r => (r, 1)
theorem wasL_keys (V : List Rte) : (wasL V).map (·.1) = V := by unfold wasL; rw [List.map_map]; exact List.map_id _
theorem wasL_nd {V : List Rte} (h : V.Nodup) : ((wasL V).map (·.1)).Nodup := by rw [wasL_keys]; exact h
theorem wasL_in {V : List Rte} {r : Rte} (h : V.Nodup) (hr : r ∈ V) : Go.Proofs.Ytnnclkeoakjjkaa.aget (wasL V) r = some 1 := aget_of_mem (wasL_nd h) (List.mem_map.2 ⟨r, hr, rfl⟩)
theorem wasL_out {V : List Rte} {r : Rte} (hr : r ∉ V) : Go.Proofs.Ytnnclkeoakjjkaa.aget (wasL V) r = none := by
  cases h : Go.Proofs.Ytnnclkeoakjjkaa.aget (wasL V) r with
  | none => rfl
  | some v =>
    obtain ⟨q, hq, he⟩ := List.mem_map.1 (mem_of_aget h)
    cases he
    exact absurd hq hr
theorem wasL_snoc (V : List Rte) (r : Rte) : wasL (V ++ [r]) = wasL V ++ [(r, 1)] := by unfold wasL; rw [List.map_append]; rfl
theorem wasL_nd0 {V : List Rte} {r : Rte} (h : V.Nodup) (hr : r ∉ V) : ((wasL V ++ [(r, (0 : Int))]).map (·.1)).Nodup := by
  rw [List.map_append, wasL_keys, List.nodup_append]
  exact ⟨h, by simp, fun a ha b hb => by simp at hb; subst hb; rintro rfl; exact hr ha⟩
theorem wasL_in0 {V : List Rte} {r : Rte} (h : V.Nodup) (hr : r ∉ V) : Go.Proofs.Ytnnclkeoakjjkaa.aget (wasL V ++ [(r, (0 : Int))]) r = some 0 := aget_of_mem (wasL_nd0 h hr) (by simp)
theorem Led.empty {l : List Rte} {r s : Rte} (h : Led l r s) (hr : r.i = []) : s.i = [] := by
  cases h with
  | refl => exact hr
  | step _ _ ho => unfold onB at ho; simp at ho; exact ho.2
structure OnPre (l : List Rte) (r0 r : Rte) (V : List Rte) (O : List Hp) : Prop where
  hr : r ∉ V
  nd : V.Nodup
  emp : r.i = []
  empV : ∀ s ∈ V, s.i = []
  sub : ∀ s ∈ V, s = r0 ∨ s ∈ l
  me : r = r0 ∨ r ∈ l
  len : O.length ≤ V.length * 1000
theorem OnPre.room {l : List Rte} {r0 r : Rte} {V : List Rte} {O : List Hp} (B : OnPre l r0 r V O) {k : Nat} {V' : List Rte} {O' : List Hp} (W : Part l r V O k V' O') (hk : k ≤ 1000) (hl : l.length ≤ 1000) :
    O'.length ≤ V'.length * 1000 ∧ V'.length ≤ 1001 ∧ (∀ s ∈ V', s.i = []) ∧ ∀ s ∈ V', s = r0 ∨ s ∈ l := by
  have h1 := W.len
  have h2 := B.len
  have hs : ∀ s ∈ V', s = r0 ∨ s ∈ l := fun s hs => by
    rcases W.sub s hs with h | h | h
    · exact B.sub s h
    · rw [h]; exact B.me
    · exact .inr h
  have h3 := nodup_le V' (r0 :: l) W.nd fun s h => (hs s h).elim (fun h => by rw [h]; simp) (List.mem_cons_of_mem _)
  rw [List.length_cons] at h3
  refine ⟨by omega, by omega, fun s hs => ?_, hs⟩
  rcases W.new s hs with h | h
  · exact B.empV s h
  · exact h.empty B.emp
theorem OnPre.next {l : List Rte} {r0 r q : Rte} {V : List Rte} {O : List Hp} (B : OnPre l r0 r V O) {k : Nat} {V' : List Rte} {O' : List Hp} (W : Part l r V O k V' O') (hk : k ≤ 1000) (hl : l.length ≤ 1000) (hq : q ∉ V') (hi : q.i = []) (hm : q ∈ l) : OnPre l r0 q V' O' :=
  have h := B.room W hk hl
  ⟨hq, W.nd, hi, h.2.2.1, h.2.2.2, .inr hm, h.1⟩
abbrev onCaps : List AVal := [.ptr 1000 0, .ptr 1001 0, .ptr 1002 0, .ptr 1003 0]
def wasB (V : List Rte) : ABlk := .map (ents rteA intA (wasL V))
def onH (l V : List Rte) (O : List Hp) : Heap := [(1000, .var [.mp 1004]), (1001, .var [rtesA l]), (1002, .var [.fn 13 onCaps]), (1003, .var [.row 950]), (1004, wasB V), (950, hopB O)]
theorem kill_ents (id : Nat) (l : List (Rte × Int)) : killB id (.map (ents rteA intA l)) = .map (ents rteA intA l) := by
  show ABlk.map ((l.map fun p => (rteA p.1, intA p.2)).map fun p => (killV id p.1, killV id p.2)) = _
  rw [List.map_map]
  rfl
theorem kill_was (id : Nat) (V : List Rte) : some (killB id (wasB V)) = some (wasB V) := congrArg some (kill_ents id _)
theorem kill_was2 (i j : Nat) (V : List Rte) : some (killB i (killB j (wasB V))) = some (wasB V) := by
  rw [Option.some.inj (kill_was j V)]; exact kill_was i V
theorem kill_was3 (i j k : Nat) (V : List Rte) : some (killB i (killB j (killB k (wasB V)))) = some (wasB V) := by
  rw [Option.some.inj (kill_was k V)]; exact kill_was2 i j V
theorem kills_was (ids : List Nat) (V : List Rte) : some (killBs ids (wasB V)) = some (wasB V) := by
  show some (ABlk.map (((wasL V).map fun p => (rteA p.1, intA p.2)).map fun p => (killVs ids p.1, killVs ids p.2))) = _
  rw [List.map_map]
  have key : ∀ (r : Rte) (n : Int), (killVs ids (rteA r), killVs ids (intA n)) = (rteA r, intA n) := fun r n => by
    have h1 : hasAny ids (rteA r) = false := List.any_eq_false.2 fun x _ => by rw [show (rteA r).has x = false from rfl]; simp
    have h2 : hasAny ids (intA n) = false := List.any_eq_false.2 fun x _ => by rw [show (intA n).has x = false from rfl]; simp
    unfold killVs
    rw [h1, h2]; rfl
  show some (ABlk.map ((wasL V).map fun p => (killVs ids (rteA p.1), killVs ids (intA p.2)))) = _
  rw [List.map_congr_left fun p _ => key p.1 p.2]
  rfl
theorem fr_was (id : Nat) (d : Dat) (V : List Rte) : some (frB id d (wasB V)) = some (wasB V) := by
  show some (ABlk.map (((wasL V).map fun p => (rteA p.1, intA p.2)).map fun p => (frV id d p.1, frV id d p.2))) = _
  rw [List.map_map]
  rfl
theorem ren_was (ρ : List (Nat × Nat)) (V : List Rte) : renB ρ (wasB V) = wasB V := by
  show ABlk.map (((wasL V).map fun p => (rteA p.1, intA p.2)).map fun p => (renV ρ p.1, renV ρ p.2)) = _
  rw [List.map_map]
  rfl
theorem ok_was (ρ : List (Nat × Nat)) (V : List Rte) : okB ρ (wasB V) := fun p hp => by
  obtain ⟨q, _, rfl⟩ := List.mem_map.1 hp
  exact ⟨rfl, rfl⟩
theorem zeroInt (W : World) : (zeroValue 3).run Try.prog W = .ok (.int .i64 0) W := by
  have h : tlook tab 3 = some _ := rfl
  obtain ⟨z, h1, h2, i, h3, h4, _⟩ := (tabOk _ _ h).zero W
  have h5 : (Try.prog.info? 3).bind (·.zero) = some (.int .i64 0) := by kernel_rfl
  rw [h3] at h5
  simp only [Option.bind_some] at h5
  rw [h4] at h5
  cases h5
  exact h1
theorem A_cutF {P : Program} {nt : Nat} {Q : Post} {e : Env} {h : Heap} {z : Bool} {c y : Code} (E1 : Env) (H1 : Heap) (h1 : AWp z P nt c (AThen (fun e' h' => AWk nt e' h' E1 H1) RF) e h) (h2 : AWp z P nt y Q E1 H1) : AWp z P nt c (AThen (AWp z P nt y Q) Q) e h :=
  h1.mono fun ex e h hq => by
    cases ex with
    | normal => exact A_weaken hq h2
    | _ => exact False.elim hq
theorem np_rfF : NoPanic RF := by unfold NoPanic RF; exact fun _ _ _ h => h
theorem look_same : ∀ (ρ : List (Nat × Nat)), (∀ x ∈ ρ, x.1 = x.2) → ∀ p i, look ρ p = some i → p = i ∧ p ∈ ρ.map (·.1)
  | [], _, p, i, h => by cases h
  | (a, b) :: r, hs, p, i, h => by
    by_cases ha : a = p
    · subst ha
      rw [look_cons_same] at h
      cases h
      exact ⟨hs (a, b) (List.mem_cons_self ..), by simp⟩
    · rw [look_cons_ne _ _ ha] at h
      have := look_same r (fun x hx => hs x (List.mem_cons_of_mem _ hx)) p i h
      exact ⟨this.1, List.mem_cons_of_mem _ this.2⟩
abbrev onRho : List (Nat × Nat) := [(1000, 1000), (1001, 1001), (1002, 1002), (1003, 1003), (1004, 1004)]
abbrev onNu : List (Nat × Nat) := [(950, 950)]
theorem onRho_same (p i : Nat) (h : look onRho p = some i) : p = i ∧ p ∈ onRho.map (·.1) := look_same _ (by simp) p i h
theorem onNu_same (p i : Nat) (h : look onNu p = some i) : p = i ∧ p ∈ onNu.map (·.1) := look_same _ (by simp) p i h
theorem onRho_inj (p p' i : Nat) (h1 : look onRho p = some i) (h2 : look onRho p' = some i) : p = p' := by rw [(onRho_same p i h1).1, (onRho_same p' i h2).1]
theorem onNu_inj (p p' i : Nat) (h1 : look onNu p = some i) (h2 : look onNu p' = some i) : p = p' := by rw [(onNu_same p i h1).1, (onNu_same p' i h2).1]
theorem onRho_dom (l V : List Rte) (O : List Hp) (p i : Nat) (h : look onRho p = some i) : 1000 ≤ p ∧ (look (onH l V O) p).isSome = true ∧ ∀ x : List Rte × List Hp, (look (onH l x.1 x.2) p).isSome = true := by
  have hm := (onRho_same p i h).2
  simp at hm
  rcases hm with rfl | rfl | rfl | rfl | rfl <;> exact ⟨by omega, rfl, fun _ => rfl⟩
theorem onNu_ok (p i : Nat) (h : look onNu p = some i) : p < 1000 ∧ i < 1000 ∧ ∀ q, look onRho q ≠ some i := by
  obtain ⟨h1, h2⟩ := onNu_same p i h
  simp at h2
  subst h1
  refine ⟨by omega, by omega, fun q hq => ?_⟩
  obtain ⟨h3, h4⟩ := onRho_same q p hq
  simp at h4
  omega
theorem frk_was (id : Nat) (d : Dat) (ids : List Nat) (V : List Rte) : some (frB id d (killBs ids (wasB V))) = some (wasB V) := by
  rw [Option.some.inj (kills_was ids V)]; exact fr_was id d V
theorem renk_was (ρ : List (Nat × Nat)) (V : List Rte) : some (renB ρ (wasB V)) = some (wasB V) := congrArg some (ren_was ρ V)
theorem was_snoc (V : List Rte) (r : Rte) : some (ABlk.map (ents rteA intA (wasL V ++ [(r, (1 : Int))]))) = some (wasB (V ++ [r])) := by unfold wasB; rw [wasL_snoc]
set_option linter.unusedSimpArgs false
attribute [local irreducible] AWp AOps AQ AYield AEff ACall AWk AAny AAt AThen AIn APost NoPanic
abbrev onE : Env := [(1, .ptr 1000 0), (2, .ptr 1001 0), (3, .ptr 1002 0), (4, .ptr 1003 0)]
def onPost (l : List Rte) (r : Rte) (V : List Rte) (O : List Hp) : AVal → Heap → Prop := fun c h => ∃ x : List Rte × List Hp, Walk l r V O x.1 x.2 ∧ c = .tup [] ∧ h = onH l x.1 x.2
set_option maxHeartbeats 16000000 in
theorem on_A (l : List Rte) (r0 : Rte) (hok : ∀ r ∈ l, okR r) (hh : ∀ r ∈ r0 :: l, 0 ≤ r.h ∧ r.h < 4294967296) (hn : l.length ≤ 1000) (n : Nat) : ∀ (r : Rte) (V : List Rte) (O : List Hp), OnPre l r0 r V O → leftN l (V ++ [r]) ≤ n →
    ACall Try.prog 13 (rteA r :: onCaps) (onH l V O) (onPost l r V O) := by
  induction n using Nat.strongRecOn with
  | _ n ih =>
  intro r V O B hle
  have hrm : r ∈ r0 :: l := B.me.elim (fun h => by rw [h]; simp) (List.mem_cons_of_mem _)
  have hr0 := (hh r hrm).1
  have hr1 := (hh r hrm).2
  have hlong := (ribLongest_A l hok (by omega) r.h hr0 hr1).reid (id := 951) rfl
  have hNl : (longL l r.h).length ≤ 1000 := Nat.le_trans (Nat.le_trans (sortU_len _) (List.length_filter_le _ _)) hn
  have hout := wasL_out B.hr
  have hnd := wasL_nd B.nd
  have hin0 := wasL_in0 B.nd B.hr
  have hnd0 := wasL_nd0 B.nd B.hr
  have hzero := Part.zero (l := l) (O := O) B.hr B.nd
  refine ACall_of tabOk Try.func13 rfl Try.ntmps13 (congrArg Array.toList Try.results13) (by kernel_rfl) rfl ?_
  repeat (first | refine A_seq ?_ | refine A_block ?_ | refine R_list ?_ | ((first | apply O_y rfl rfl rfl | apply Q_y rfl rfl rfl); (first | exact q_1 | exact q_2 | exact q_3 | exact q_4 | exact q_5 | exact q_6 | exact q_7 | exact q_8 | exact q_9 | exact q_10 | exact q_11 | exact q_12 | exact q_13 | exact q_14 | exact q_15 | exact q_16 | exact q_17 | exact q_18 | exact q_19 | exact q_20 | exact q_21 | exact q_22 | exact q_23 | exact q_24 | fail)) | refine O_nil ?_ | refine Q_nil ?_ | refine q_j ?_ | refine q_k ?_ | refine q_d ?_ | refine q_a ?_ | refine q_b ?_ | refine q_c ?_ | refine A_ct rfl ?_ | refine A_cf rfl ?_ | refine A_skip ?_ | refine A_exit ?_ | refine A_ret ?_ | refine q_l ?_ | refine q_m ?_ | refine q_n ?_ | refine q_h ?_ | refine q_o ?_ | refine q_e ?_ | refine q_f ?_ | refine q_g ?_ | fail)
  refine A_weaken (Wk_sel (e1 := (5, .ptr 5 0) :: onE) (h1 := (5, rteB1 r) :: onH l V O) ⟨rfl, rfl, rfl, rfl, rfl, trivial⟩ ⟨rfl, rfl, rfl, rfl, rfl, kill_was 5 V, rfl, trivial⟩) ?_
  refine A_cutF ((5, .ptr 5 0) :: onE) ((5, rteB1 r) :: onH l (V ++ [r]) O) ?_ ?_
  · refine N_begin [1004] mixed ?_
    (apply q_P 0 rfl (by kernel_rfl) rfl rfl rfl; (first | exact q_1 | exact q_2 | exact q_3 | exact q_4 | exact q_5 | exact q_6 | exact q_7 | exact q_8 | exact q_9 | exact q_10 | exact q_11 | exact q_12 | exact q_13 | exact q_14 | exact q_15 | exact q_16 | exact q_17 | exact q_18 | exact q_19 | exact q_20 | exact q_21 | exact q_22 | exact q_23 | exact q_24 | fail))
    (apply q_P 1 rfl (by kernel_rfl) rfl rfl rfl; (first | exact q_1 | exact q_2 | exact q_3 | exact q_4 | exact q_5 | exact q_6 | exact q_7 | exact q_8 | exact q_9 | exact q_10 | exact q_11 | exact q_12 | exact q_13 | exact q_14 | exact q_15 | exact q_16 | exact q_17 | exact q_18 | exact q_19 | exact q_20 | exact q_21 | exact q_22 | exact q_23 | exact q_24 | fail))
    refine N_two (j := 2) (k := 4) (by kernel_rfl) ?_ ?_
    · refine T_yield rfl rfl rfl rfl (R_lk0 (intA 0) (fun _ _ _ => sc_rel rfl) rteKey rteW_val zeroInt trivial (fun _ _ => trivial) hnd hout tabOk rfl rfl rfl rfl rfl rfl) ?_
      (apply q_P 3 rfl (by kernel_rfl) rfl rfl rfl; (first | exact q_1 | exact q_2 | exact q_3 | exact q_4 | exact q_5 | exact q_6 | exact q_7 | exact q_8 | exact q_9 | exact q_10 | exact q_11 | exact q_12 | exact q_13 | exact q_14 | exact q_15 | exact q_16 | exact q_17 | exact q_18 | exact q_19 | exact q_20 | exact q_21 | exact q_22 | exact q_23 | exact q_24 | fail))
      refine N_one (j := 4) (by kernel_rfl) ?_
      refine T_mapEntry0 (xa := intA) (z := (0 : Int)) rteKey rteW_val rteW_rel zeroInt (fun _ _ _ => sc_rel rfl) trivial (fun _ _ => trivial) hnd hout tabOk rfl rfl rfl rfl rfl rfl rfl rfl rfl rfl fun br bbs bb bc hbl => ?_
      (apply q_P 5 rfl (by kernel_rfl) rfl rfl rfl; (first | exact q_1 | exact q_2 | exact q_3 | exact q_4 | exact q_5 | exact q_6 | exact q_7 | exact q_8 | exact q_9 | exact q_10 | exact q_11 | exact q_12 | exact q_13 | exact q_14 | exact q_15 | exact q_16 | exact q_17 | exact q_18 | exact q_19 | exact q_20 | exact q_21 | exact q_22 | exact q_23 | exact q_24 | fail))
      refine N_one (j := 6) (by kernel_rfl) ?_
      refine T_entryStore0 (z' := (1 : Int)) hbl rfl rfl rfl rfl rfl rfl rfl rfl rfl ?_
      refine N_done (by kernel_rfl) ?_
      refine q_j ?_
      exact Wk_sel ⟨rfl, rfl, rfl, rfl, rfl, trivial⟩ ⟨rfl, rfl, rfl, rfl, rfl, was_snoc V r, rfl, trivial⟩
    · refine T_mapEntry0 (xa := intA) (z := (0 : Int)) rteKey rteW_val rteW_rel zeroInt (fun _ _ _ => sc_rel rfl) trivial (fun _ _ => trivial) hnd hout tabOk rfl rfl rfl rfl rfl rfl rfl rfl rfl rfl fun br bbs bb bc hbl => ?_
      (apply q_P 5 rfl (by kernel_rfl) rfl rfl rfl; (first | exact q_1 | exact q_2 | exact q_3 | exact q_4 | exact q_5 | exact q_6 | exact q_7 | exact q_8 | exact q_9 | exact q_10 | exact q_11 | exact q_12 | exact q_13 | exact q_14 | exact q_15 | exact q_16 | exact q_17 | exact q_18 | exact q_19 | exact q_20 | exact q_21 | exact q_22 | exact q_23 | exact q_24 | fail))
      refine N_one (j := 2) (by kernel_rfl) ?_
      refine T_yield rfl rfl rfl rfl (R_lk1x rteKey rteW_val zeroInt trivial (fun _ _ => trivial) hnd0 hin0 tabOk rfl rfl rfl rfl rfl rfl) ?_
      (apply q_P 3 rfl (by kernel_rfl) rfl rfl rfl; (first | exact q_1 | exact q_2 | exact q_3 | exact q_4 | exact q_5 | exact q_6 | exact q_7 | exact q_8 | exact q_9 | exact q_10 | exact q_11 | exact q_12 | exact q_13 | exact q_14 | exact q_15 | exact q_16 | exact q_17 | exact q_18 | exact q_19 | exact q_20 | exact q_21 | exact q_22 | exact q_23 | exact q_24 | fail))
      refine N_one (j := 6) (by kernel_rfl) ?_
      refine T_entryStore0 (z' := (1 : Int)) hbl rfl rfl rfl rfl rfl rfl rfl rfl rfl ?_
      refine N_done (by kernel_rfl) ?_
      refine q_j ?_
      exact Wk_sel ⟨rfl, rfl, rfl, rfl, rfl, trivial⟩ ⟨rfl, rfl, rfl, rfl, rfl, was_snoc V r, rfl, trivial⟩
  ·
    repeat (first | refine A_seq ?_ | refine A_block ?_ | refine R_list ?_ | ((first | apply O_y rfl rfl rfl | apply Q_y rfl rfl rfl); (first | exact q_1 | exact q_2 | exact q_3 | exact q_4 | exact q_5 | exact q_6 | exact q_7 | exact q_8 | exact q_9 | exact q_10 | exact q_11 | exact q_12 | exact q_13 | exact q_14 | exact q_15 | exact q_16 | exact q_17 | exact q_18 | exact q_19 | exact q_20 | exact q_21 | exact q_22 | exact q_23 | exact q_24 | fail)) | refine O_nil ?_ | refine Q_nil ?_ | refine q_j ?_ | refine q_k ?_ | refine q_d ?_ | refine q_a ?_ | refine q_b ?_ | refine q_c ?_ | refine A_ct rfl ?_ | refine A_cf rfl ?_ | refine A_skip ?_ | refine A_exit ?_ | refine A_ret ?_ | refine q_l ?_ | refine q_m ?_ | refine q_n ?_ | refine q_h ?_ | refine q_o ?_ | refine q_e ?_ | refine q_f ?_ | refine q_g ?_ | fail)
    refine O_cRow rfl rfl rfl rfl rfl hlong rfl ?_
    refine O_weaken (Wk_freeze (id := 951) rfl) ?_
    obtain ⟨N, hN⟩ : ∃ N, longL l r.h = N := ⟨_, rfl⟩
    rw [hN] at hNl
    refine O_weaken (Wk_sel (e1 := (5, .ptr 5 0) :: (17, rtesA N) :: onE) (h1 := (5, rteB1 r) :: onH l (V ++ [r]) O) ⟨rfl, by rw [← hN]; rfl, rfl, rfl, rfl, rfl, trivial⟩ ⟨rfl, rfl, rfl, rfl, rfl, frk_was 951 _ _ _, rfl, trivial⟩) ?_
    repeat (first | refine A_seq ?_ | refine A_block ?_ | refine R_list ?_ | ((first | apply O_y rfl rfl rfl | apply Q_y rfl rfl rfl); (first | exact q_1 | exact q_2 | exact q_3 | exact q_4 | exact q_5 | exact q_6 | exact q_7 | exact q_8 | exact q_9 | exact q_10 | exact q_11 | exact q_12 | exact q_13 | exact q_14 | exact q_15 | exact q_16 | exact q_17 | exact q_18 | exact q_19 | exact q_20 | exact q_21 | exact q_22 | exact q_23 | exact q_24 | fail)) | refine O_nil ?_ | refine Q_nil ?_ | refine q_j ?_ | refine q_k ?_ | refine q_d ?_ | refine q_a ?_ | refine q_b ?_ | refine q_c ?_ | refine A_ct rfl ?_ | refine A_cf rfl ?_ | refine A_skip ?_ | refine A_exit ?_ | refine A_ret ?_ | refine q_l ?_ | refine q_m ?_ | refine q_n ?_ | refine q_h ?_ | refine q_o ?_ | refine q_e ?_ | refine q_f ?_ | refine q_g ?_ | fail)
    refine A_loop (fun x : Nat × List Rte × List Hp => (5, .ptr 5 0) :: (17, rtesA N) :: (18, intA (N.length : Int)) :: (19, intA (x.1 : Int)) :: onE) (fun x => (5, rteB1 r) :: onH l x.2.1 x.2.2) (fun x => x.1 ≤ N.length ∧ Part l r V O x.1 x.2.1 x.2.2) (fun x => N.length - x.1) (0, V ++ [r], O) ⟨Nat.zero_le _, hzero⟩ (Wk_sel ⟨rfl, rfl, rfl, rfl, rfl, rfl, rfl, rfl, trivial⟩ ⟨rfl, rfl, rfl, rfl, rfl, rfl, rfl, trivial⟩) ?_
    rintro ⟨k, V', O'⟩ ⟨hk, W⟩
    dsimp only at hk W ⊢
    obtain ⟨b1, b2, b3, b4⟩ := B.room W (by omega) hn
    have hnd' := wasL_nd W.nd
    by_cases hkN : k < N.length
    · have hkL : k < (longL l r.h).length := by rw [hN]; exact hkN
      have hqe : (longL l r.h)[k] = N[k] := by simp only [hN]
      have hqm : N[k] ∈ l := by rw [← hqe]; exact longL_sub (List.getElem_mem hkL)
      have hw0 := win_at N k hkN
      have hskip := W.skip hkL
      have hgo := W.go hkL
      have hon := fun V2 O2 => W.on (V2 := V2) (O2 := O2) hkL
      rw [hqe] at hskip hgo hon
      obtain ⟨q, hq⟩ : ∃ q, N[k] = q := ⟨_, rfl⟩
      rw [hq] at hskip hgo hon hw0 hqm
      cases hx : q.x with
      | true =>
        have hP := hskip (fun h => by unfold onB at h; rw [hx] at h; cases h) (by unfold outB; rw [hx]; rfl)
        rw [show rteD q = [.sc (.int .u32 q.p.a), .sc (.int .i64 q.p.b), .sc (.int .u8 q.f), .sc (.int .i64 q.d), .sc (.int .i64 q.m), .sc (.int .i64 q.t), .sc (.string ⟨⟨q.i⟩⟩), .sc (.int .u32 q.h), .sc (.bool true)] by unfold rteD; rw [hx]] at hw0
        repeat (first | refine A_seq ?_ | refine A_block ?_ | refine R_list ?_ | ((first | apply O_y rfl rfl rfl | apply Q_y rfl rfl rfl); (first | exact q_1 | exact q_2 | exact q_3 | exact q_4 | exact R_loadi tabOk rfl rfl rfl rfl hw0 rfl rfl | exact q_6 | exact q_7 | exact q_8 | exact q_9 | exact q_10 | exact q_11 | exact q_12 | exact q_13 | exact q_14 | exact q_15 | exact q_16 | exact q_17 | exact q_18 | exact q_19 | exact q_20 | exact q_21 | exact q_22 | exact q_23 | exact q_24 | fail)) | refine O_nil ?_ | refine Q_nil ?_ | refine q_j ?_ | refine q_k ?_ | refine q_d ?_ | refine q_a ?_ | refine q_b ?_ | refine q_c ?_ | refine A_ct rfl ?_ | refine A_cf rfl ?_ | refine A_skip ?_ | refine A_exit ?_ | refine A_ret ?_ | refine q_l ?_ | refine q_m ?_ | refine q_n ?_ | refine q_h ?_ | refine q_o ?_ | refine q_e ?_ | refine q_f ?_ | refine q_g ?_ | fail)
        exact ⟨(k + 1, V', O'), ⟨by dsimp only; omega, hP⟩, by dsimp only; omega, Wk_sel ⟨rfl, rfl, rfl, rfl, rfl, rfl, rfl, rfl, trivial⟩ ⟨rfl, rfl, rfl, rfl, rfl, kill_was 7 V', rfl, trivial⟩⟩
      | false =>
        rw [show rteD q = [.sc (.int .u32 q.p.a), .sc (.int .i64 q.p.b), .sc (.int .u8 q.f), .sc (.int .i64 q.d), .sc (.int .i64 q.m), .sc (.int .i64 q.t), .sc (.string ⟨⟨q.i⟩⟩), .sc (.int .u32 q.h), .sc (.bool false)] by unfold rteD; rw [hx]] at hw0
        have hrte : AVal.agg [.d (.sc (.int .u32 q.p.a)), .d (.sc (.int .i64 q.p.b)), .d (.sc (.int .u8 q.f)), .d (.sc (.int .i64 q.d)), .d (.sc (.int .i64 q.m)), .d (.sc (.int .i64 q.t)), .d (.sc (.string ⟨⟨q.i⟩⟩)), .d (.sc (.int .u32 q.h)), .d (.sc (.bool false))] = rteA q := by unfold rteA; rw [hx]
        repeat (first | refine A_seq ?_ | refine A_block ?_ | refine R_list ?_ | ((first | apply O_y rfl rfl rfl | apply Q_y rfl rfl rfl); (first | exact q_1 | exact q_2 | exact q_3 | exact q_4 | exact R_loadi tabOk rfl rfl rfl rfl hw0 rfl rfl | exact q_6 | exact q_7 | exact q_8 | exact q_9 | exact q_10 | exact q_11 | exact q_12 | exact q_13 | exact q_14 | exact q_15 | exact q_16 | exact q_17 | exact q_18 | exact q_19 | exact q_20 | exact q_21 | exact q_22 | exact q_23 | exact q_24 | fail)) | refine O_nil ?_ | refine Q_nil ?_ | refine q_j ?_ | refine q_k ?_ | refine q_d ?_ | refine q_a ?_ | refine q_b ?_ | refine q_c ?_ | refine A_ct rfl ?_ | refine A_cf rfl ?_ | refine A_skip ?_ | refine A_exit ?_ | refine A_ret ?_ | refine q_l ?_ | refine q_m ?_ | refine q_n ?_ | refine q_h ?_ | refine q_o ?_ | refine q_e ?_ | refine q_f ?_ | refine q_g ?_ | fail)
        refine O_weaken (Wk_sel (e1 := (34, boolA false) :: (35, .mp 1004) :: (36, rteA q) :: (5, .ptr 5 0) :: (7, .ptr 7 0) :: (17, rtesA N) :: (18, intA (N.length : Int)) :: (19, intA (k : Int)) :: onE) (h1 := (7, rteB1 q) :: (5, rteB1 r) :: onH l V' O') ⟨rfl, rfl, congrArg some hrte, rfl, rfl, rfl, rfl, rfl, rfl, rfl, rfl, rfl, trivial⟩ ⟨by unfold rteB1 rteD; rw [hx]; rfl, rfl, rfl, rfl, rfl, rfl, kill_was 7 V', rfl, trivial⟩) ?_
        by_cases hV : q ∈ V'
        · have hP := hskip (fun _ => hV) (by unfold outB; rw [b3 q hV]; simp)
          have hin := wasL_in W.nd hV
          repeat (first | refine A_seq ?_ | refine A_block ?_ | refine R_list ?_ | ((first | apply O_y rfl rfl rfl | apply Q_y rfl rfl rfl); (first | exact q_1 | exact q_2 | exact q_3 | exact q_4 | exact q_5 | exact q_6 | exact q_7 | exact q_8 | exact q_9 | exact q_10 | exact q_11 | exact q_12 | exact q_13 | exact q_14 | exact q_15 | exact q_16 | exact q_17 | exact q_18 | exact q_19 | exact q_20 | exact q_21 | exact q_22 | exact q_23 | exact q_24 | (exact R_lk1 rteKey rteW_val zeroInt trivial (fun _ _ => trivial) hnd' hin tabOk rfl rfl rfl rfl rfl rfl))) | refine O_nil ?_ | refine Q_nil ?_ | refine q_j ?_ | refine q_k ?_ | refine q_d ?_ | refine q_a ?_ | refine q_b ?_ | refine q_c ?_ | refine A_ct rfl ?_ | refine A_cf rfl ?_ | refine A_skip ?_ | refine A_exit ?_ | refine A_ret ?_ | refine q_l ?_ | refine q_m ?_ | refine q_n ?_ | refine q_h ?_ | refine q_o ?_ | refine q_e ?_ | refine q_f ?_ | refine q_g ?_ | fail)
          exact ⟨(k + 1, V', O'), ⟨by dsimp only; omega, hP⟩, by dsimp only; omega, Wk_sel ⟨rfl, rfl, rfl, rfl, rfl, rfl, rfl, rfl, trivial⟩ ⟨rfl, rfl, rfl, rfl, rfl, rfl, rfl, trivial⟩⟩
        · have hout' := wasL_out hV
          by_cases hi : q.i = []
          · have hob : onB q = true := by unfold onB; rw [hx, decide_eq_true hi]; rfl
            have B2 := B.next W (by omega) hn hV hi hqm
            have hlt : leftN l (V' ++ [q]) < n := Nat.lt_of_lt_of_le (leftN_lt hqm hV) (Nat.le_trans (leftN_le fun s hs => (List.mem_append.1 hs).elim (W.old s) fun h => by rw [List.mem_singleton.1 h]; exact W.me) hle)
            have hrec := ih _ hlt q V' O' B2 (Nat.le_refl _)
            repeat (first | refine A_seq ?_ | refine A_block ?_ | refine R_list ?_ | ((first | apply O_y rfl rfl rfl | apply Q_y rfl rfl rfl); (first | exact q_1 | exact q_2 | exact q_3 | exact q_4 | exact q_5 | exact q_6 | exact q_7 | exact q_8 | exact q_9 | exact q_10 | exact q_11 | exact q_12 | exact q_13 | exact q_14 | exact q_15 | exact q_16 | exact q_17 | exact q_18 | exact q_19 | exact q_20 | exact q_21 | exact q_22 | exact q_23 | exact q_24 | (first | exact R_lk0 (intA 0) (fun _ _ _ => sc_rel rfl) rteKey rteW_val zeroInt trivial (fun _ _ => trivial) hnd' hout' tabOk rfl rfl rfl rfl rfl rfl | exact R_sT rfl rfl rfl rfl (decide_eq_true hi)))) | refine O_nil ?_ | refine Q_nil ?_ | refine q_j ?_ | refine q_k ?_ | refine q_d ?_ | refine q_a ?_ | refine q_b ?_ | refine q_c ?_ | refine A_ct rfl ?_ | refine A_cf rfl ?_ | refine A_skip ?_ | refine A_exit ?_ | refine A_ret ?_ | refine q_l ?_ | refine q_m ?_ | refine q_n ?_ | refine q_h ?_ | refine q_o ?_ | refine q_e ?_ | refine q_f ?_ | refine q_g ?_ | fail)
            refine O_cTV (α := List Rte × List Hp) (C := fun _ => .tup []) (H1 := fun x => onH l x.1 x.2) (Φ := fun x => Walk l q V' O' x.1 x.2) onRho onNu 950 950 onRho_inj (onRho_dom l V' O') onNu_ok onNu_inj (by decide) (by decide) (by omega) rfl ⟨950, rfl⟩ hrec rfl ⟨⟨1000, _, rfl, rfl, rfl, fun c hc => by simp at hc; subst hc; rfl⟩, ⟨1001, _, rfl, rfl, rfl, fun c hc => by simp at hc; subst hc; rfl⟩, ⟨1002, _, rfl, rfl, rfl, fun c hc => by simp at hc; subst hc; rfl⟩, ⟨1003, _, rfl, rfl, rfl, fun c hc => by simp at hc; subst hc; rfl⟩, ⟨1004, _, rfl, rfl, ren_was _ V', ok_was _ V'⟩, ⟨950, _, rfl, rfl, rfl, trivial⟩, trivial⟩ rfl rfl rfl rfl rfl rfl rfl rfl ?_
            rintro ⟨V2, O2⟩ W2
            dsimp only at W2 ⊢
            have hP := hon V2 O2 hob W2
            refine O_weaken (Wk_sel (e1 := (5, .ptr 5 0) :: (17, rtesA N) :: (18, intA (N.length : Int)) :: (19, intA (k : Int)) :: onE) (h1 := (5, rteB1 r) :: onH l V2 O2) ⟨rfl, rfl, rfl, rfl, rfl, rfl, rfl, rfl, trivial⟩ ⟨rfl, rfl, rfl, rfl, rfl, renk_was _ V2, rfl, trivial⟩) ?_
            repeat (first | refine A_seq ?_ | refine A_block ?_ | refine R_list ?_ | ((first | apply O_y rfl rfl rfl | apply Q_y rfl rfl rfl); (first | exact q_1 | exact q_2 | exact q_3 | exact q_4 | exact q_5 | exact q_6 | exact q_7 | exact q_8 | exact q_9 | exact q_10 | exact q_11 | exact q_12 | exact q_13 | exact q_14 | exact q_15 | exact q_16 | exact q_17 | exact q_18 | exact q_19 | exact q_20 | exact q_21 | exact q_22 | exact q_23 | exact q_24 | fail)) | refine O_nil ?_ | refine Q_nil ?_ | refine q_j ?_ | refine q_k ?_ | refine q_d ?_ | refine q_a ?_ | refine q_b ?_ | refine q_c ?_ | refine A_ct rfl ?_ | refine A_cf rfl ?_ | refine A_skip ?_ | refine A_exit ?_ | refine A_ret ?_ | refine q_l ?_ | refine q_m ?_ | refine q_n ?_ | refine q_h ?_ | refine q_o ?_ | refine q_e ?_ | refine q_f ?_ | refine q_g ?_ | fail)
            exact ⟨(k + 1, V2, O2), ⟨by dsimp only; omega, hP⟩, by dsimp only; omega, Wk_sel ⟨rfl, rfl, rfl, rfl, rfl, rfl, rfl, rfl, trivial⟩ ⟨rfl, rfl, rfl, rfl, rfl, rfl, rfl, trivial⟩⟩
          · have hob : outB q = true := by unfold outB; rw [hx, decide_eq_false hi]; rfl
            have hP := hgo hob
            by_cases hq0 : q.h = 0
            · rw [show hopOf r.h q = ⟨q.i, r.h⟩ by unfold hopOf; rw [if_pos hq0]] at hP
              repeat (first | refine A_seq ?_ | refine A_block ?_ | refine R_list ?_ | ((first | apply O_y rfl rfl rfl | apply Q_y rfl rfl rfl); (first | exact q_1 | exact q_2 | exact q_3 | exact q_4 | exact q_5 | exact q_6 | exact q_7 | exact q_8 | exact q_9 | exact q_10 | exact q_11 | exact q_12 | exact q_13 | exact q_14 | exact q_15 | exact q_16 | exact q_17 | exact q_18 | exact q_19 | exact q_20 | exact q_21 | exact q_22 | exact q_23 | exact q_24 | (first | exact R_lk0 (intA 0) (fun _ _ _ => sc_rel rfl) rteKey rteW_val zeroInt trivial (fun _ _ => trivial) hnd' hout' tabOk rfl rfl rfl rfl rfl rfl | exact R_sF rfl rfl rfl rfl (decide_eq_false hi)))) | refine O_nil ?_ | refine Q_nil ?_ | refine q_j ?_ | refine q_k ?_ | refine q_d ?_ | refine q_a ?_ | refine q_b ?_ | refine q_c ?_ | refine A_ct rfl ?_ | refine A_cf rfl ?_ | refine A_skip ?_ | refine A_exit ?_ | refine A_ret ?_ | refine q_l ?_ | refine q_m ?_ | refine q_n ?_ | refine q_h ?_ | refine q_o ?_ | refine q_e ?_ | refine q_f ?_ | refine q_g ?_ | (first | refine O_appR tabOk rfl rfl rfl rfl rfl rfl rfl rfl rfl rfl rfl (by first | exact Src.row rfl | exact Src.dat _ _ | exact Src.nil) rfl (by omega) ?_ | refine O_appN tabOk rfl rfl rfl rfl rfl rfl rfl rfl rfl rfl (by first | exact Src.row rfl | exact Src.dat _ _ | exact Src.nil) rfl (by omega) ?_))
              exact ⟨(k + 1, V', O' ++ [⟨q.i, r.h⟩]), ⟨by dsimp only; omega, hP⟩, by dsimp only; omega, Wk_sel ⟨rfl, rfl, rfl, rfl, rfl, rfl, rfl, rfl, trivial⟩ ⟨rfl, rfl, rfl, rfl, rfl, kill_was2 950 57 V', row_eq (by simp) (by simp [hopD]) rfl, trivial⟩⟩
            · rw [show hopOf r.h q = ⟨q.i, q.h⟩ by unfold hopOf; rw [if_neg hq0]] at hP
              repeat (first | refine A_seq ?_ | refine A_block ?_ | refine R_list ?_ | ((first | apply O_y rfl rfl rfl | apply Q_y rfl rfl rfl); (first | exact q_1 | exact q_2 | exact q_3 | exact q_4 | exact q_5 | exact q_6 | exact q_7 | exact q_8 | exact q_9 | exact q_10 | exact q_11 | exact q_12 | exact q_13 | exact q_14 | exact q_15 | exact q_16 | exact q_17 | exact q_18 | exact q_19 | exact q_20 | exact q_21 | exact q_22 | exact q_23 | exact q_24 | (first | exact R_lk0 (intA 0) (fun _ _ _ => sc_rel rfl) rteKey rteW_val zeroInt trivial (fun _ _ => trivial) hnd' hout' tabOk rfl rfl rfl rfl rfl rfl | exact R_sF rfl rfl rfl rfl (decide_eq_false hi)))) | refine O_nil ?_ | refine Q_nil ?_ | refine q_j ?_ | refine q_k ?_ | refine q_d ?_ | refine q_a ?_ | refine q_b ?_ | refine q_c ?_ | refine A_ct rfl ?_ | refine A_cf rfl ?_ | refine A_skip ?_ | refine A_exit ?_ | refine A_ret ?_ | refine q_l ?_ | refine q_m ?_ | refine q_n ?_ | refine q_h ?_ | refine q_o ?_ | refine q_e ?_ | refine q_f ?_ | refine q_g ?_ | (first | refine O_appR tabOk rfl rfl rfl rfl rfl rfl rfl rfl rfl rfl rfl (by first | exact Src.row rfl | exact Src.dat _ _ | exact Src.nil) rfl (by omega) ?_ | refine O_appN tabOk rfl rfl rfl rfl rfl rfl rfl rfl rfl rfl (by first | exact Src.row rfl | exact Src.dat _ _ | exact Src.nil) rfl (by omega) ?_))
              exact ⟨(k + 1, V', O' ++ [⟨q.i, q.h⟩]), ⟨by dsimp only; omega, hP⟩, by dsimp only; omega, Wk_sel ⟨rfl, rfl, rfl, rfl, rfl, rfl, rfl, rfl, trivial⟩ ⟨rfl, rfl, rfl, rfl, rfl, kill_was2 950 29 V', row_eq (by simp) (by simp [hopD]) rfl, trivial⟩⟩
    · have hkk : k = (longL l r.h).length := by rw [hN]; omega
      subst hkk
      have hW := W.done (by rw [hN]; exact hNl)
      repeat (first | refine A_seq ?_ | refine A_block ?_ | refine R_list ?_ | ((first | apply O_y rfl rfl rfl | apply Q_y rfl rfl rfl); (first | exact q_1 | exact q_2 | exact q_3 | exact q_4 | exact q_5 | exact q_6 | exact q_7 | exact q_8 | exact q_9 | exact q_10 | exact q_11 | exact q_12 | exact q_13 | exact q_14 | exact q_15 | exact q_16 | exact q_17 | exact q_18 | exact q_19 | exact q_20 | exact q_21 | exact q_22 | exact q_23 | exact q_24 | fail)) | refine O_nil ?_ | refine Q_nil ?_ | refine q_j ?_ | refine q_k ?_ | refine q_d ?_ | refine q_a ?_ | refine q_b ?_ | refine q_c ?_ | refine A_ct rfl ?_ | refine A_cf rfl ?_ | refine A_skip ?_ | refine A_exit ?_ | refine A_ret ?_ | refine q_l ?_ | refine q_m ?_ | refine q_n ?_ | refine q_h ?_ | refine q_o ?_ | refine q_e ?_ | refine q_f ?_ | refine q_g ?_ | fail)
      exact X_endW AWk.refl rfl (h2 := onH l V' O') ⟨rfl, rfl, rfl, rfl, rfl, rfl, trivial⟩ ⟨(V', O'), hW, rfl, rfl⟩
end Go.Proofs.Ytnnclkeoakjjkaa.Ab

namespace Go.Proofs.Ytnnclkeoakjjkaa.Ab
set_option linter.unusedVariables false
set_option maxRecDepth 100000
open Go.RowKit Go.Lib
set_option linter.unusedSimpArgs false
attribute [local irreducible] AWp AOps AQ AYield AEff ACall AWk AAny AAt AThen AIn APost NoPanic
theorem fsorted_A (l : List Hp) (hl : l.length ≤ 2147483648) : ACall Try.prog 15 [.row 1000] [(1000, hopB l)] (fun c h => c = .row 100 ∧ h = [(100, hopB (sortU ordH l))]) := by
  have h2 := sortH_A l hl
  have h3 := compactH_A (srt ordH l) (by rw [srt_len]; exact hl)
  refine ACall_of tabOk Try.func15 rfl Try.ntmps15 (congrArg Array.toList Try.results15) (by kernel_rfl) rfl ?_
  refine A_weaken (Wk_rename (id := 100) (t := 0) rfl rfl) ?_
  repeat (first | refine A_seq ?_ | refine A_block ?_ | refine R_list ?_ | refine R_quiet rfl mixed (by kernel_rfl) ?_ | ((first | apply O_y rfl rfl rfl | apply Q_y rfl rfl rfl); (first | exact q_1 | exact q_2 | exact q_3 | exact q_4 | exact q_5 | exact q_6 | exact q_7 | exact q_8 | exact q_9 | exact q_10 | exact q_11 | exact q_12 | exact q_13 | exact q_14 | exact q_15 | exact q_16 | exact q_17 | exact q_18 | exact q_19 | exact q_20 | exact q_21 | exact q_22 | exact q_23 | exact q_24 | fail)) | refine O_nil ?_ | refine Q_nil ?_ | refine q_j ?_ | refine q_k ?_ | refine q_d ?_ | refine q_a ?_ | refine q_b ?_ | refine q_c ?_ | refine A_ct rfl ?_ | refine A_cf rfl ?_ | refine A_skip ?_ | refine A_exit ?_ | refine A_ret ?_ | refine q_l ?_ | refine q_m ?_ | refine q_n ?_ | refine q_h ?_ | refine q_o ?_ | refine q_e ?_ | refine q_f ?_ | refine q_g ?_ | fail)
  refine O_cP [(1000, 100)] (fun p p' i h1 h2 => by rw [(look_one' h1).1, (look_one' h2).1]) (fun p i h1 => by rw [(look_one' h1).1]; exact ⟨Nat.le_refl _, rfl, rfl⟩) h2 (fun c hc => by simp at hc; rcases hc with rfl | rfl <;> rfl) ⟨⟨100, _, rfl, rfl, rfl, trivial⟩, trivial⟩ rfl rfl rfl rfl rfl rfl ?_
  repeat (first | refine A_seq ?_ | refine A_block ?_ | refine R_list ?_ | refine R_quiet rfl mixed (by kernel_rfl) ?_ | ((first | apply O_y rfl rfl rfl | apply Q_y rfl rfl rfl); (first | exact q_1 | exact q_2 | exact q_3 | exact q_4 | exact q_5 | exact q_6 | exact q_7 | exact q_8 | exact q_9 | exact q_10 | exact q_11 | exact q_12 | exact q_13 | exact q_14 | exact q_15 | exact q_16 | exact q_17 | exact q_18 | exact q_19 | exact q_20 | exact q_21 | exact q_22 | exact q_23 | exact q_24 | fail)) | refine O_nil ?_ | refine Q_nil ?_ | refine q_j ?_ | refine q_k ?_ | refine q_d ?_ | refine q_a ?_ | refine q_b ?_ | refine q_c ?_ | refine A_ct rfl ?_ | refine A_cf rfl ?_ | refine A_skip ?_ | refine A_exit ?_ | refine A_ret ?_ | refine q_l ?_ | refine q_m ?_ | refine q_n ?_ | refine q_h ?_ | refine q_o ?_ | refine q_e ?_ | refine q_f ?_ | refine q_g ?_ | fail)
  refine O_cM rfl rfl rfl rfl rfl h3 rfl (fun c hc => by simp at hc; subst hc; rfl) rfl rfl ?_
  repeat (first | refine A_seq ?_ | refine A_block ?_ | refine R_list ?_ | refine R_quiet rfl mixed (by kernel_rfl) ?_ | ((first | apply O_y rfl rfl rfl | apply Q_y rfl rfl rfl); (first | exact q_1 | exact q_2 | exact q_3 | exact q_4 | exact q_5 | exact q_6 | exact q_7 | exact q_8 | exact q_9 | exact q_10 | exact q_11 | exact q_12 | exact q_13 | exact q_14 | exact q_15 | exact q_16 | exact q_17 | exact q_18 | exact q_19 | exact q_20 | exact q_21 | exact q_22 | exact q_23 | exact q_24 | fail)) | refine O_nil ?_ | refine Q_nil ?_ | refine q_j ?_ | refine q_k ?_ | refine q_d ?_ | refine q_a ?_ | refine q_b ?_ | refine q_c ?_ | refine A_ct rfl ?_ | refine A_cf rfl ?_ | refine A_skip ?_ | refine A_exit ?_ | refine A_ret ?_ | refine q_l ?_ | refine q_m ?_ | refine q_n ?_ | refine q_h ?_ | refine q_o ?_ | refine q_e ?_ | refine q_f ?_ | refine q_g ?_ | fail)
  exact X_retW AWk.refl rfl (h2 := [(100, hopB (sortU ordH l))]) ⟨rfl, trivial⟩ ⟨rfl, rfl⟩
abbrev ledRho : List (Nat × Nat) := [(1000, 6), (1001, 2), (1002, 7), (1003, 5), (1004, 903)]
theorem ledRho_cases (p i : Nat) (h : look ledRho p = some i) : (p = 1000 ∧ i = 6) ∨ (p = 1001 ∧ i = 2) ∨ (p = 1002 ∧ i = 7) ∨ (p = 1003 ∧ i = 5) ∨ (p = 1004 ∧ i = 903) := by
  by_cases h0 : 1000 = p
  · subst h0; rw [look_cons_same] at h; cases h; simp
  rw [look_cons_ne _ _ h0] at h
  by_cases h1 : 1001 = p
  · subst h1; rw [look_cons_same] at h; cases h; simp
  rw [look_cons_ne _ _ h1] at h
  by_cases h2 : 1002 = p
  · subst h2; rw [look_cons_same] at h; cases h; simp
  rw [look_cons_ne _ _ h2] at h
  by_cases h3 : 1003 = p
  · subst h3; rw [look_cons_same] at h; cases h; simp
  rw [look_cons_ne _ _ h3] at h
  by_cases h4 : 1004 = p
  · subst h4; rw [look_cons_same] at h; cases h; simp
  rw [look_cons_ne _ _ h4] at h; cases h
theorem ledRho_inj (p p' i : Nat) (h1 : look ledRho p = some i) (h2 : look ledRho p' = some i) : p = p' := by
  have := ledRho_cases p i h1
  have := ledRho_cases p' i h2
  omega
theorem ledRho_dom (l V : List Rte) (O : List Hp) (p i : Nat) (h : look ledRho p = some i) : 1000 ≤ p ∧ (look (onH l V O) p).isSome = true ∧ ∀ x : List Rte × List Hp, (look (onH l x.1 x.2) p).isSome = true := by
  rcases ledRho_cases p i h with ⟨rfl, _⟩ | ⟨rfl, _⟩ | ⟨rfl, _⟩ | ⟨rfl, _⟩ | ⟨rfl, _⟩ <;> exact ⟨by omega, rfl, fun _ => rfl⟩
theorem ledNu_ok (p i : Nat) (h : look onNu p = some i) : p < 1000 ∧ i < 1000 ∧ ∀ q, look ledRho q ≠ some i := by
  obtain ⟨h1, h2⟩ := onNu_same p i h
  simp at h2
  subst h1
  refine ⟨by omega, by omega, fun q hq => ?_⟩
  have := ledRho_cases q p hq
  omega
set_option maxHeartbeats 8000000 in
theorem led_A (l : List Rte) (r : Rte) (hok : ∀ s ∈ l, okR s) (hh : ∀ s ∈ r :: l, 0 ≤ s.h ∧ s.h < 4294967296) (hn : l.length ≤ 1000) :
    ACall Try.prog 6 [rtesA l, rteA r] [] (fun c h => c = .row 950 ∧ h = [(950, hopB (ledH l r))]) := by
  have hon := on_A l r hok hh hn (leftN l ([] ++ [r])) r [] []
  obtain ⟨⟨pa, pb⟩, f, d, m, t, i, a, x⟩ := r
  cases x with
  | true =>
    rw [show ledH l ⟨⟨pa, pb⟩, f, d, m, t, i, a, true⟩ = [] by unfold ledH; rfl]
    refine ACall_of tabOk Try.func6 rfl Try.ntmps6 (congrArg Array.toList Try.results6) (by kernel_rfl) rfl ?_
    repeat (first | refine A_seq ?_ | refine A_block ?_ | refine R_list ?_ | ((first | apply O_y rfl rfl rfl | apply Q_y rfl rfl rfl); (first | exact q_1 | exact q_2 | exact q_3 | exact q_4 | exact q_5 | exact q_6 | exact q_7 | exact q_8 | exact q_9 | exact q_10 | exact q_11 | exact q_12 | exact q_13 | exact q_14 | exact q_15 | exact q_16 | exact q_17 | exact q_18 | exact q_19 | exact q_20 | exact q_21 | exact q_22 | exact q_23 | exact q_24 | fail)) | refine O_nil ?_ | refine Q_nil ?_ | refine q_j ?_ | refine q_k ?_ | refine q_d ?_ | refine q_a ?_ | refine q_b ?_ | refine q_c ?_ | refine A_ct rfl ?_ | refine A_cf rfl ?_ | refine A_skip ?_ | refine A_exit ?_ | refine A_ret ?_ | refine q_l ?_ | refine q_m ?_ | refine q_n ?_ | refine q_h ?_ | refine q_o ?_ | refine q_e ?_ | refine q_f ?_ | refine q_g ?_ | fail)
    exact X_retW (Wk_nil 34 2 (t := 4) (id := 950) rfl rfl) rfl (h2 := [(950, hopB [])]) ⟨rfl, trivial⟩ ⟨rfl, rfl⟩
  | false =>
    by_cases hi : i = []
    · have hpre : OnPre l ⟨⟨pa, pb⟩, f, d, m, t, i, a, false⟩ ⟨⟨pa, pb⟩, f, d, m, t, i, a, false⟩ [] [] := ⟨by simp, .nil, hi, by simp, by simp, .inl rfl, by simp⟩
      have hon := hon hpre (Nat.le_refl _)
      refine ACall_of tabOk Try.func6 rfl Try.ntmps6 (congrArg Array.toList Try.results6) (by kernel_rfl) rfl ?_
      repeat (first | refine A_seq ?_ | refine A_block ?_ | refine R_list ?_ | ((first | apply O_y rfl rfl rfl | apply Q_y rfl rfl rfl); (first | exact q_1 | exact q_2 | exact q_3 | exact q_4 | exact q_5 | exact q_6 | exact q_7 | exact q_8 | exact q_9 | exact q_10 | exact q_11 | exact q_12 | exact q_13 | exact q_14 | exact q_15 | exact q_16 | exact q_17 | exact q_18 | exact q_19 | exact q_20 | exact q_21 | exact q_22 | exact q_23 | exact q_24 | (first | exact R_sF rfl rfl rfl rfl (by simp [hi]) | exact Y_makeFunc rfl rfl))) | refine O_nil ?_ | refine Q_nil ?_ | refine q_j ?_ | refine q_k ?_ | refine q_d ?_ | refine q_a ?_ | refine q_b ?_ | refine q_c ?_ | refine A_ct rfl ?_ | refine A_cf rfl ?_ | refine A_skip ?_ | refine A_exit ?_ | refine A_ret ?_ | refine q_l ?_ | refine q_m ?_ | refine q_n ?_ | refine q_h ?_ | refine q_o ?_ | refine q_e ?_ | refine q_f ?_ | refine q_g ?_ | (refine O_makeMap 903 rfl rfl rfl rfl rfl ?_))
      refine O_weaken (Wk_nilB (b := 5) (id := 950) 34 2 rfl rfl rfl) ?_
      refine O_weaken (Wk_sel (e1 := [(5, .ptr 5 0), (21, .fn 13 [.ptr 6 0, .ptr 2 0, .ptr 7 0, .ptr 5 0]), (22, rteA ⟨⟨pa, pb⟩, f, d, m, t, i, a, false⟩)]) (h1 := [(6, .var [.mp 903]), (2, .var [rtesA l]), (7, .var [.fn 13 [.ptr 6 0, .ptr 2 0, .ptr 7 0, .ptr 5 0]]), (5, .var [.row 950]), (903, wasB []), (950, hopB [])]) ⟨rfl, rfl, rfl, trivial⟩ ⟨rfl, rfl, rfl, rfl, rfl, rfl, trivial⟩) ?_
      refine O_cTV (α := List Rte × List Hp) (C := fun _ => .tup []) (H1 := fun x => onH l x.1 x.2) (Φ := fun x => Walk l ⟨⟨pa, pb⟩, f, d, m, t, i, a, false⟩ [] [] x.1 x.2) ledRho onNu 950 950 ledRho_inj (ledRho_dom l [] []) ledNu_ok onNu_inj (by decide) (by decide) (by omega) rfl ⟨950, rfl⟩ hon rfl ⟨⟨6, _, rfl, rfl, rfl, fun c hc => by simp at hc; subst hc; rfl⟩, ⟨2, _, rfl, rfl, rfl, fun c hc => by simp at hc; subst hc; rfl⟩, ⟨7, _, rfl, rfl, rfl, fun c hc => by simp at hc; subst hc; rfl⟩, ⟨5, _, rfl, rfl, rfl, fun c hc => by simp at hc; subst hc; rfl⟩, ⟨903, _, rfl, rfl, ren_was _ [], ok_was _ []⟩, ⟨950, _, rfl, rfl, rfl, trivial⟩, trivial⟩ rfl rfl rfl rfl rfl rfl rfl rfl ?_
      rintro ⟨V, O⟩ W
      dsimp only at W ⊢
      have hVl := nodup_le V (⟨⟨pa, pb⟩, f, d, m, t, i, a, false⟩ :: l) W.nd fun s hs => by
        rcases W.sub s hs with h | h | h
        · cases h
        · rw [h]; simp
        · exact List.mem_cons_of_mem _ h
      rw [List.length_cons] at hVl
      have hOl : O.length ≤ V.length * 1000 := by have := W.len; simp at this; omega
      have hs := fsorted_A O (by omega)
      rw [ledH_of rfl hi fun x => W.hops x] at hs
      refine O_weaken (Wk_sel (e1 := [(5, .ptr 5 0)]) (h1 := [(5, .var [.row 950]), (950, hopB O)]) ⟨rfl, trivial⟩ ⟨rfl, rfl, trivial⟩) ?_
      repeat (first | refine A_seq ?_ | refine A_block ?_ | refine R_list ?_ | ((first | apply O_y rfl rfl rfl | apply Q_y rfl rfl rfl); (first | exact q_1 | exact q_2 | exact q_3 | exact q_4 | exact q_5 | exact q_6 | exact q_7 | exact q_8 | exact q_9 | exact q_10 | exact q_11 | exact q_12 | exact q_13 | exact q_14 | exact q_15 | exact q_16 | exact q_17 | exact q_18 | exact q_19 | exact q_20 | exact q_21 | exact q_22 | exact q_23 | exact q_24 | fail)) | refine O_nil ?_ | refine Q_nil ?_ | refine q_j ?_ | refine q_k ?_ | refine q_d ?_ | refine q_a ?_ | refine q_b ?_ | refine q_c ?_ | refine A_ct rfl ?_ | refine A_cf rfl ?_ | refine A_skip ?_ | refine A_exit ?_ | refine A_ret ?_ | refine q_l ?_ | refine q_m ?_ | refine q_n ?_ | refine q_h ?_ | refine q_o ?_ | refine q_e ?_ | refine q_f ?_ | refine q_g ?_ | fail)
      refine O_cM rfl rfl rfl rfl rfl hs rfl (fun c hc => by simp at hc; subst hc; rfl) rfl rfl ?_
      repeat (first | refine A_seq ?_ | refine A_block ?_ | refine R_list ?_ | ((first | apply O_y rfl rfl rfl | apply Q_y rfl rfl rfl); (first | exact q_1 | exact q_2 | exact q_3 | exact q_4 | exact q_5 | exact q_6 | exact q_7 | exact q_8 | exact q_9 | exact q_10 | exact q_11 | exact q_12 | exact q_13 | exact q_14 | exact q_15 | exact q_16 | exact q_17 | exact q_18 | exact q_19 | exact q_20 | exact q_21 | exact q_22 | exact q_23 | exact q_24 | fail)) | refine O_nil ?_ | refine Q_nil ?_ | refine q_j ?_ | refine q_k ?_ | refine q_d ?_ | refine q_a ?_ | refine q_b ?_ | refine q_c ?_ | refine A_ct rfl ?_ | refine A_cf rfl ?_ | refine A_skip ?_ | refine A_exit ?_ | refine A_ret ?_ | refine q_l ?_ | refine q_m ?_ | refine q_n ?_ | refine q_h ?_ | refine q_o ?_ | refine q_e ?_ | refine q_f ?_ | refine q_g ?_ | fail)
      exact X_retW AWk.refl rfl (h2 := [(950, hopB (ledH l ⟨⟨pa, pb⟩, f, d, m, t, i, a, false⟩))]) ⟨rfl, trivial⟩ ⟨rfl, rfl⟩
    · rw [show ledH l ⟨⟨pa, pb⟩, f, d, m, t, i, a, false⟩ = [⟨i, a⟩] by unfold ledH; simp [hi]]
      refine ACall_of tabOk Try.func6 rfl Try.ntmps6 (congrArg Array.toList Try.results6) (by kernel_rfl) rfl ?_
      repeat (first | refine A_seq ?_ | refine A_block ?_ | refine R_list ?_ | ((first | apply O_y rfl rfl rfl | apply Q_y rfl rfl rfl); (first | exact q_1 | exact q_2 | exact q_3 | exact q_4 | exact q_5 | exact q_6 | exact q_7 | exact q_8 | exact q_9 | exact q_10 | exact q_11 | exact q_12 | exact q_13 | exact q_14 | exact q_15 | exact q_16 | exact q_17 | exact q_18 | exact q_19 | exact q_20 | exact q_21 | exact q_22 | exact q_23 | exact q_24 | (exact R_sT rfl rfl rfl rfl (by simp [hi])))) | refine O_nil ?_ | refine Q_nil ?_ | refine q_j ?_ | refine q_k ?_ | refine q_d ?_ | refine q_a ?_ | refine q_b ?_ | refine q_c ?_ | refine A_ct rfl ?_ | refine A_cf rfl ?_ | refine A_skip ?_ | refine A_exit ?_ | refine A_ret ?_ | refine q_l ?_ | refine q_m ?_ | refine q_n ?_ | refine q_h ?_ | refine q_o ?_ | refine q_e ?_ | refine q_f ?_ | refine q_g ?_ | fail)
      exact X_retW (AWk.trans (Wk_sel (e1 := [(4, .row 18)]) (h1 := [(18, hopB [⟨i, a⟩])]) ⟨rfl, trivial⟩ ⟨rfl, trivial⟩) (Wk_rename (p := 18) (id := 950) (t := 4) rfl rfl)) rfl (h2 := [(950, hopB [⟨i, a⟩])]) ⟨rfl, trivial⟩ ⟨rfl, rfl⟩
end Go.Proofs.Ytnnclkeoakjjkaa.Ab

namespace Go.Proofs.Ytnnclkeoakjjkaa.Ab
set_option linter.unusedVariables false
set_option maxRecDepth 100000
open Go.RowKit Go.Lib
set_option linter.unusedSimpArgs false
attribute [local irreducible] AWp AOps AQ AYield AEff ACall AWk AAny AAt AThen AIn APost NoPanic
def oneI (a b : Bool) : Int := if a then -1 else if b then 1 else 0
theorem one_A (a b : Bool) : ACall Try.prog 50 [boolA a, boolA b] [] (Just (intA (oneI a b))) := by
  refine ACall_of tabOk Try.func50 rfl Try.ntmps50 (congrArg Array.toList Try.results50) (by kernel_rfl) rfl ?_
  cases a
  · cases b
    ·
      repeat (first | refine A_seq ?_ | refine A_block ?_ | refine R_list ?_ | refine R_quiet rfl mixed (by kernel_rfl) ?_ | ((first | apply O_y rfl rfl rfl | apply Q_y rfl rfl rfl); (first | exact q_1 | exact q_2 | exact q_3 | exact q_4 | exact q_5 | exact q_6 | exact q_7 | exact q_8 | exact q_9 | exact q_10 | exact q_11 | exact q_12 | exact q_13 | exact q_14 | exact q_15 | exact q_16 | exact q_17 | exact q_18 | exact q_19 | exact q_20 | exact q_21 | exact q_22 | exact q_23 | exact q_24 | fail)) | refine O_nil ?_ | refine Q_nil ?_ | refine q_j ?_ | refine q_k ?_ | refine q_d ?_ | refine q_a ?_ | refine q_b ?_ | refine q_c ?_ | refine A_ct rfl ?_ | refine A_cf rfl ?_ | refine A_skip ?_ | refine A_exit ?_ | refine A_ret ?_ | refine q_l ?_ | refine q_m ?_ | refine q_n ?_ | refine q_h ?_ | refine q_o ?_ | refine q_e ?_ | refine q_f ?_ | refine q_g ?_ | fail)
      exact X_ret rfl ⟨rfl, rfl⟩
    ·
      repeat (first | refine A_seq ?_ | refine A_block ?_ | refine R_list ?_ | refine R_quiet rfl mixed (by kernel_rfl) ?_ | ((first | apply O_y rfl rfl rfl | apply Q_y rfl rfl rfl); (first | exact q_1 | exact q_2 | exact q_3 | exact q_4 | exact q_5 | exact q_6 | exact q_7 | exact q_8 | exact q_9 | exact q_10 | exact q_11 | exact q_12 | exact q_13 | exact q_14 | exact q_15 | exact q_16 | exact q_17 | exact q_18 | exact q_19 | exact q_20 | exact q_21 | exact q_22 | exact q_23 | exact q_24 | fail)) | refine O_nil ?_ | refine Q_nil ?_ | refine q_j ?_ | refine q_k ?_ | refine q_d ?_ | refine q_a ?_ | refine q_b ?_ | refine q_c ?_ | refine A_ct rfl ?_ | refine A_cf rfl ?_ | refine A_skip ?_ | refine A_exit ?_ | refine A_ret ?_ | refine q_l ?_ | refine q_m ?_ | refine q_n ?_ | refine q_h ?_ | refine q_o ?_ | refine q_e ?_ | refine q_f ?_ | refine q_g ?_ | fail)
      exact X_ret rfl ⟨rfl, rfl⟩
  ·
    repeat (first | refine A_seq ?_ | refine A_block ?_ | refine R_list ?_ | refine R_quiet rfl mixed (by kernel_rfl) ?_ | ((first | apply O_y rfl rfl rfl | apply Q_y rfl rfl rfl); (first | exact q_1 | exact q_2 | exact q_3 | exact q_4 | exact q_5 | exact q_6 | exact q_7 | exact q_8 | exact q_9 | exact q_10 | exact q_11 | exact q_12 | exact q_13 | exact q_14 | exact q_15 | exact q_16 | exact q_17 | exact q_18 | exact q_19 | exact q_20 | exact q_21 | exact q_22 | exact q_23 | exact q_24 | fail)) | refine O_nil ?_ | refine Q_nil ?_ | refine q_j ?_ | refine q_k ?_ | refine q_d ?_ | refine q_a ?_ | refine q_b ?_ | refine q_c ?_ | refine A_ct rfl ?_ | refine A_cf rfl ?_ | refine A_skip ?_ | refine A_exit ?_ | refine A_ret ?_ | refine q_l ?_ | refine q_m ?_ | refine q_n ?_ | refine q_h ?_ | refine q_o ?_ | refine q_e ?_ | refine q_f ?_ | refine q_g ?_ | fail)
    exact X_ret rfl ⟨rfl, rfl⟩
theorem oneI_c2 (x y : Int) : oneI (decide (x < y)) (decide (x > y)) = c2 x y := by
  unfold oneI c2
  by_cases h1 : x < y
  · simp [h1]
  · by_cases h2 : y < x
    · simp [h1, h2]
    · simp [h1, h2]
theorem oneI_bytes (x y : List UInt8) : oneI (decide (compareBytes x y < 0)) (decide (0 < compareBytes x y)) = compareBytes x y := by
  rcases bytes_c2 x y with h | h | h <;> rw [h] <;> rfl
theorem oneI_cB1 (b : Bool) : oneI b false = cB false b := by cases b <;> rfl
theorem oneI_cB2 (b : Bool) : oneI false (!b) = cB true b := by cases b <;> rfl
theorem one_c2 (x y : Int) : ACall Try.prog 50 [boolA (decide (x < y)), boolA (decide (x > y))] [] (Just (intA (c2 x y))) := by
  have := one_A (decide (x < y)) (decide (x > y)); rw [oneI_c2] at this; exact this
theorem one_bytes (x y : List UInt8) : ACall Try.prog 50 [boolA (decide (compareBytes x y < 0)), boolA (decide (0 < compareBytes x y))] [] (Just (intA (compareBytes x y))) := by
  have := one_A (decide (compareBytes x y < 0)) (decide (0 < compareBytes x y)); rw [oneI_bytes] at this; exact this
theorem first_A (l : List Int) (hn : l.length ≤ 1000000) : ACall Try.prog 48 [intsA l] [] (Just (intA (firstI l))) := by
  refine ACall_of tabOk Try.func48 rfl Try.ntmps48 (congrArg Array.toList Try.results48) (by kernel_rfl) rfl ?_
  repeat (first | refine A_seq ?_ | refine A_block ?_ | refine R_list ?_ | refine R_quiet rfl mixed (by kernel_rfl) ?_ | ((first | apply O_y rfl rfl rfl | apply Q_y rfl rfl rfl); (first | exact q_1 | exact q_2 | exact q_3 | exact q_4 | exact q_5 | exact q_6 | exact q_7 | exact q_8 | exact q_9 | exact q_10 | exact q_11 | exact q_12 | exact q_13 | exact q_14 | exact q_15 | exact q_16 | exact q_17 | exact q_18 | exact q_19 | exact q_20 | exact q_21 | exact q_22 | exact q_23 | exact q_24 | fail)) | refine O_nil ?_ | refine Q_nil ?_ | refine q_j ?_ | refine q_k ?_ | refine q_d ?_ | refine q_a ?_ | refine q_b ?_ | refine q_c ?_ | refine A_ct rfl ?_ | refine A_cf rfl ?_ | refine A_skip ?_ | refine A_exit ?_ | refine A_ret ?_ | refine q_l ?_ | refine q_m ?_ | refine q_n ?_ | refine q_h ?_ | refine q_o ?_ | refine q_e ?_ | refine q_f ?_ | refine q_g ?_ | fail)
  refine A_loop (fun k : Nat => [(0, intsA l), (3, intA (k : Int))]) (fun _ => []) (fun k => k ≤ l.length ∧ firstI l = firstI (l.drop k)) (fun k => l.length - k) 0 ⟨by omega, rfl⟩ (Wk_sel ⟨rfl, rfl, trivial⟩ trivial) ?_
  rintro k ⟨hk, he⟩
  dsimp only
  by_cases hlt : k < l.length
  · by_cases h0 : l[k] = 0
    ·
      repeat (first | refine A_seq ?_ | refine A_block ?_ | refine R_list ?_ | refine R_quiet rfl mixed (by kernel_rfl) ?_ | ((first | apply O_y rfl rfl rfl | apply Q_y rfl rfl rfl); (first | exact q_1 | exact q_2 | exact q_3 | exact q_4 | exact R_loadi tabOk rfl rfl rfl rfl (by first | exact win_flat0 intD_len l k _ hlt (by decide) | exact win_flat intD_len l k _ _ hlt (by decide) | exact win_flat2 intD_len l k _ _ _ hlt (by decide) | rfl) rfl rfl | exact q_6 | exact q_7 | exact q_8 | exact q_9 | exact q_10 | exact q_11 | exact q_12 | exact q_13 | exact q_14 | exact q_15 | exact q_16 | exact q_17 | exact q_18 | exact q_19 | exact q_20 | exact q_21 | exact q_22 | exact q_23 | exact q_24 | fail)) | refine O_nil ?_ | refine Q_nil ?_ | refine q_j ?_ | refine q_k ?_ | refine q_d ?_ | refine q_a ?_ | refine q_b ?_ | refine q_c ?_ | refine A_ct rfl ?_ | refine A_cf rfl ?_ | refine A_skip ?_ | refine A_exit ?_ | refine A_ret ?_ | refine q_l ?_ | refine q_m ?_ | refine q_n ?_ | refine q_h ?_ | refine q_o ?_ | refine q_e ?_ | refine q_f ?_ | refine q_g ?_ | fail)
      exact ⟨k + 1, ⟨by omega, by rw [he, firstI_drop hlt h0]⟩, by omega, Wk_sel ⟨rfl, rfl, trivial⟩ trivial⟩
    ·
      repeat (first | refine A_seq ?_ | refine A_block ?_ | refine R_list ?_ | refine R_quiet rfl mixed (by kernel_rfl) ?_ | ((first | apply O_y rfl rfl rfl | apply Q_y rfl rfl rfl); (first | exact q_1 | exact q_2 | exact q_3 | exact q_4 | exact R_loadi tabOk rfl rfl rfl rfl (by first | exact win_flat0 intD_len l k _ hlt (by decide) | exact win_flat intD_len l k _ _ hlt (by decide) | exact win_flat2 intD_len l k _ _ _ hlt (by decide) | rfl) rfl rfl | exact q_6 | exact q_7 | exact q_8 | exact q_9 | exact q_10 | exact q_11 | exact q_12 | exact q_13 | exact q_14 | exact q_15 | exact q_16 | exact q_17 | exact q_18 | exact q_19 | exact q_20 | exact q_21 | exact q_22 | exact q_23 | exact q_24 | fail)) | refine O_nil ?_ | refine Q_nil ?_ | refine q_j ?_ | refine q_k ?_ | refine q_d ?_ | refine q_a ?_ | refine q_b ?_ | refine q_c ?_ | refine A_ct rfl ?_ | refine A_cf rfl ?_ | refine A_skip ?_ | refine A_exit ?_ | refine A_ret ?_ | refine q_l ?_ | refine q_m ?_ | refine q_n ?_ | refine q_h ?_ | refine q_o ?_ | refine q_e ?_ | refine q_f ?_ | refine q_g ?_ | fail)
      exact X_ret rfl ⟨by rw [he, firstI_at hlt h0]; rfl, rfl⟩
  · have : k = l.length := by omega
    subst this
    repeat (first | refine A_seq ?_ | refine A_block ?_ | refine R_list ?_ | refine R_quiet rfl mixed (by kernel_rfl) ?_ | ((first | apply O_y rfl rfl rfl | apply Q_y rfl rfl rfl); (first | exact q_1 | exact q_2 | exact q_3 | exact q_4 | exact q_5 | exact q_6 | exact q_7 | exact q_8 | exact q_9 | exact q_10 | exact q_11 | exact q_12 | exact q_13 | exact q_14 | exact q_15 | exact q_16 | exact q_17 | exact q_18 | exact q_19 | exact q_20 | exact q_21 | exact q_22 | exact q_23 | exact q_24 | fail)) | refine O_nil ?_ | refine Q_nil ?_ | refine q_j ?_ | refine q_k ?_ | refine q_d ?_ | refine q_a ?_ | refine q_b ?_ | refine q_c ?_ | refine A_ct rfl ?_ | refine A_cf rfl ?_ | refine A_skip ?_ | refine A_exit ?_ | refine A_ret ?_ | refine q_l ?_ | refine q_m ?_ | refine q_n ?_ | refine q_h ?_ | refine q_o ?_ | refine q_e ?_ | refine q_f ?_ | refine q_g ?_ | fail)
    exact X_ret rfl ⟨by rw [he, List.drop_length]; rfl, rfl⟩
set_option maxHeartbeats 8000000 in
theorem refPrefix_A (p q : Pfx) : ACall Try.prog 49 [pfxA p, pfxA q] [] (Just (intA (ordP p q))) := by
  have h1 := one_c2 p.a q.a
  have h2 := one_c2 p.b q.b
  have h3 := first_A [c2 p.a q.a, c2 p.b q.b] (by simp)
  rw [ordP_first] at h3
  refine ACall_of tabOk Try.func49 rfl Try.ntmps49 (congrArg Array.toList Try.results49) (by kernel_rfl) rfl ?_
  refine A_seq ?_
  refine R_list ?_
  repeat (first | refine A_seq ?_ | refine A_block ?_ | refine R_list ?_ | refine R_quiet rfl mixed (by kernel_rfl) ?_ | ((first | apply O_y rfl rfl rfl | apply Q_y rfl rfl rfl); (first | exact q_1 | exact q_2 | exact q_3 | exact q_4 | exact q_5 | exact q_6 | exact q_7 | exact q_8 | exact q_9 | exact q_10 | exact q_11 | exact q_12 | exact q_13 | exact q_14 | exact q_15 | exact q_16 | exact q_17 | exact q_18 | exact q_19 | exact q_20 | exact q_21 | exact q_22 | exact q_23 | exact q_24 | fail)) | refine O_nil ?_ | refine Q_nil ?_ | refine q_j ?_ | refine q_k ?_ | refine q_d ?_ | refine q_a ?_ | refine q_b ?_ | refine q_c ?_ | refine A_ct rfl ?_ | refine A_cf rfl ?_ | refine A_skip ?_ | refine A_exit ?_ | refine A_ret ?_ | refine q_l ?_ | refine q_m ?_ | refine q_n ?_ | refine q_h ?_ | refine q_o ?_ | refine q_e ?_ | refine q_f ?_ | refine q_g ?_ | fail)
  refine N_begin [] mixed ?_
  (apply q_P 0 rfl (by kernel_rfl) rfl rfl rfl; (first | exact q_1 | exact q_2 | exact q_8 | exact q_7 | exact q_13 | exact Y_sbin rfl rfl rfl rfl | exact q_20 | exact q_25 | exact q_26))
  (apply q_P 1 rfl (by kernel_rfl) rfl rfl rfl; (first | exact q_1 | exact q_2 | exact q_8 | exact q_7 | exact q_13 | exact Y_sbin rfl rfl rfl rfl | exact q_20 | exact q_25 | exact q_26))
  (apply q_P 2 rfl (by kernel_rfl) rfl rfl rfl; (first | exact q_1 | exact q_2 | exact q_8 | exact q_7 | exact q_13 | exact Y_sbin rfl rfl rfl rfl | exact q_20 | exact q_25 | exact q_26))
  (apply q_P 3 rfl (by kernel_rfl) rfl rfl rfl; (first | exact q_1 | exact q_2 | exact q_8 | exact q_7 | exact q_13 | exact Y_sbin rfl rfl rfl rfl | exact q_20 | exact q_25 | exact q_26))
  (apply q_P 4 rfl (by kernel_rfl) rfl rfl rfl; (first | exact q_1 | exact q_2 | exact q_8 | exact q_7 | exact q_13 | exact Y_sbin rfl rfl rfl rfl | exact q_20 | exact q_25 | exact q_26))
  (apply q_P 5 rfl (by kernel_rfl) rfl rfl rfl; (first | exact q_1 | exact q_2 | exact q_8 | exact q_7 | exact q_13 | exact Y_sbin rfl rfl rfl rfl | exact q_20 | exact q_25 | exact q_26))
  (apply q_P 6 rfl (by kernel_rfl) rfl rfl rfl; (first | exact q_1 | exact q_2 | exact q_8 | exact q_7 | exact q_13 | exact Y_sbin rfl rfl rfl rfl | exact q_20 | exact q_25 | exact q_26))
  (apply q_P 7 rfl (by kernel_rfl) rfl rfl rfl; (first | exact q_1 | exact q_2 | exact q_8 | exact q_7 | exact q_13 | exact Y_sbin rfl rfl rfl rfl | exact q_20 | exact q_25 | exact q_26))
  (apply q_P 8 rfl (by kernel_rfl) rfl rfl rfl; (first | exact q_1 | exact q_2 | exact q_8 | exact q_7 | exact q_13 | exact Y_sbin rfl rfl rfl rfl | exact q_20 | exact q_25 | exact q_26))
  (apply q_P 9 rfl (by kernel_rfl) rfl rfl rfl; (first | exact q_1 | exact q_2 | exact q_8 | exact q_7 | exact q_13 | exact Y_sbin rfl rfl rfl rfl | exact q_20 | exact q_25 | exact q_26))
  (apply q_P 11 rfl (by kernel_rfl) rfl rfl rfl; (first | exact q_1 | exact q_2 | exact q_8 | exact q_7 | exact q_13 | exact Y_sbin rfl rfl rfl rfl | exact q_20 | exact q_25 | exact q_26))
  (apply q_P 12 rfl (by kernel_rfl) rfl rfl rfl; (first | exact q_1 | exact q_2 | exact q_8 | exact q_7 | exact q_13 | exact Y_sbin rfl rfl rfl rfl | exact q_20 | exact q_25 | exact q_26))
  (apply q_P 13 rfl (by kernel_rfl) rfl rfl rfl; (first | exact q_1 | exact q_2 | exact q_8 | exact q_7 | exact q_13 | exact Y_sbin rfl rfl rfl rfl | exact q_20 | exact q_25 | exact q_26))
  (apply q_P 14 rfl (by kernel_rfl) rfl rfl rfl; (first | exact q_1 | exact q_2 | exact q_8 | exact q_7 | exact q_13 | exact Y_sbin rfl rfl rfl rfl | exact q_20 | exact q_25 | exact q_26))
  (apply q_P 15 rfl (by kernel_rfl) rfl rfl rfl; (first | exact q_1 | exact q_2 | exact q_8 | exact q_7 | exact q_13 | exact Y_sbin rfl rfl rfl rfl | exact q_20 | exact q_25 | exact q_26))
  (apply q_P 16 rfl (by kernel_rfl) rfl rfl rfl; (first | exact q_1 | exact q_2 | exact q_8 | exact q_7 | exact q_13 | exact Y_sbin rfl rfl rfl rfl | exact q_20 | exact q_25 | exact q_26))
  (apply q_P 17 rfl (by kernel_rfl) rfl rfl rfl; (first | exact q_1 | exact q_2 | exact q_8 | exact q_7 | exact q_13 | exact Y_sbin rfl rfl rfl rfl | exact q_20 | exact q_25 | exact q_26))
  (apply q_P 18 rfl (by kernel_rfl) rfl rfl rfl; (first | exact q_1 | exact q_2 | exact q_8 | exact q_7 | exact q_13 | exact Y_sbin rfl rfl rfl rfl | exact q_20 | exact q_25 | exact q_26))
  (apply q_P 19 rfl (by kernel_rfl) rfl rfl rfl; (first | exact q_1 | exact q_2 | exact q_8 | exact q_7 | exact q_13 | exact Y_sbin rfl rfl rfl rfl | exact q_20 | exact q_25 | exact q_26))
  (apply q_P 20 rfl (by kernel_rfl) rfl rfl rfl; (first | exact q_1 | exact q_2 | exact q_8 | exact q_7 | exact q_13 | exact Y_sbin rfl rfl rfl rfl | exact q_20 | exact q_25 | exact q_26))
  refine N_one (j := 10) (by kernel_rfl) ?_
  refine T_call rfl rfl rfl rfl rfl rfl h1 (fun _ => rfl) ?_
  refine N_one (j := 21) (by kernel_rfl) ?_
  refine T_call rfl rfl rfl rfl rfl rfl h2 (fun _ => rfl) ?_
  refine N_one (j := 22) (by kernel_rfl) ?_
  refine T_slice tabOk rfl rfl rfl rfl rfl rfl rfl rfl rfl rfl rfl rfl ?_
  refine N_one (j := 23) (by kernel_rfl) ?_
  refine T_cL rfl rfl rfl rfl rfl rfl h3 rfl (fun _ _ _ => val_mk _ _ _ _ _ rfl rfl) ?_
  (apply q_P 24 rfl (by kernel_rfl) rfl rfl rfl; (first | exact q_1 | exact q_2 | exact q_8 | exact q_7 | exact q_13 | exact Y_sbin rfl rfl rfl rfl | exact q_20 | exact q_25 | exact q_26))
  refine N_done (by kernel_rfl) ?_
  repeat (first | refine A_seq ?_ | refine A_block ?_ | refine R_list ?_ | refine R_quiet rfl mixed (by kernel_rfl) ?_ | ((first | apply O_y rfl rfl rfl | apply Q_y rfl rfl rfl); (first | exact q_1 | exact q_2 | exact q_3 | exact q_4 | exact q_5 | exact q_6 | exact q_7 | exact q_8 | exact q_9 | exact q_10 | exact q_11 | exact q_12 | exact q_13 | exact q_14 | exact q_15 | exact q_16 | exact q_17 | exact q_18 | exact q_19 | exact q_20 | exact q_21 | exact q_22 | exact q_23 | exact q_24 | fail)) | refine O_nil ?_ | refine Q_nil ?_ | refine q_j ?_ | refine q_k ?_ | refine q_d ?_ | refine q_a ?_ | refine q_b ?_ | refine q_c ?_ | refine A_ct rfl ?_ | refine A_cf rfl ?_ | refine A_skip ?_ | refine A_exit ?_ | refine A_ret ?_ | refine q_l ?_ | refine q_m ?_ | refine q_n ?_ | refine q_h ?_ | refine q_o ?_ | refine q_e ?_ | refine q_f ?_ | refine q_g ?_ | fail)
  exact X_ret rfl ⟨rfl, rfl⟩
end Go.Proofs.Ytnnclkeoakjjkaa.Ab

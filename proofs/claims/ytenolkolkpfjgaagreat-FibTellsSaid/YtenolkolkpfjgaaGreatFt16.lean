/-
  Texts of a proof, one behind the other (part 17).
-/
import Derived.Shelf.SlGeneric
import Derived.Shelf.Small.Strs
import Derived.Test.YtenolkolkpfjgaaGreatProg
import Derived.Test.YtenolkolkpfjgaaGreatFt8
import Derived.Test.YtenolkolkpfjgaaGreatFt9
import Derived.Test.YtenolkolkpfjgaaGreatFt15
set_option linter.unusedVariables false
set_option linter.unusedSimpArgs false
namespace Go.Proofs.YtenolkolkpfjgaaGreat.Ab
set_option linter.unusedVariables false
set_option maxRecDepth 100000
open Go.RowKit Go.Lib
abbrev TR := (Nat → Int) × List (Pfx × List Rte)
def putT (s : TR) (p : Pfx) (v : List Rte) : TR := if chk p = 0 then (if (aget s.2 p).isSome then s.1 else bump s.1 p.b.toNat 1, Go.Proofs.YtenolkolkpfjgaaGreat.aput s.2 p v) else s
def ofP (l : List Rte) (p : Pfx) : List Rte := l.filter fun r => decide (r.p = p)
structure ROk (s : TR) (l : List Rte) : Prop where
  nd : (s.2.map (·.1)).Nodup
  good : ∀ p ∈ s.2, good p.1
  used : ∀ p ∈ s.2, 1 ≤ s.1 p.1.b.toNat
  ub : ∀ j, 0 ≤ s.1 j ∧ s.1 j ≤ l.length
  val : ∀ p v, aget s.2 p = some v → v = ofP l p ∧ v ≠ []
  has : ∀ r ∈ l, Go.Proofs.YtenolkolkpfjgaaGreat.good r.p → ∃ v, aget s.2 r.p = some v
theorem ROk.zero : ROk (fun _ => 0, []) [] := ⟨.nil, by simp, by simp, fun _ => ⟨Int.le_refl _, Int.le_refl _⟩, fun p v h => absurd (mem_of_aget h) (by simp), by simp⟩
theorem ROk.old {s : TR} {l : List Rte} (R : ROk s l) (p : Pfx) (hg : Go.Proofs.YtenolkolkpfjgaaGreat.good p) : (aget s.2 p).getD [] = ofP l p := by
  cases h : aget s.2 p with
  | some v => exact (R.val p v h).1
  | none =>
    refine (List.filter_eq_nil_iff.2 fun r hr => ?_).symm
    intro hp
    have hp : r.p = p := by simpa using hp
    obtain ⟨v, hv⟩ := R.has r hr (by rw [hp]; exact hg)
    rw [hp, h] at hv; cases hv
theorem ofP_snoc (l : List Rte) (r : Rte) (p : Pfx) : ofP (l ++ [r]) p = ofP l p ++ (if r.p = p then [r] else []) := by
  unfold ofP
  rw [List.filter_append]
  congr 1
  by_cases h : r.p = p <;> simp [h]
theorem ROk.put {s : TR} {l : List Rte} (R : ROk s l) (r : Rte) : ROk (putT s r.p ((aget s.2 r.p).getD [] ++ [r])) (l ++ [r]) := by
  unfold putT
  by_cases hc : chk r.p = 0
  · rw [if_pos hc]
    have hg := (chk_eq r.p).1 hc
    rw [R.old r.p hg]
    have hmono : ∀ j, s.1 j ≤ (if (aget s.2 r.p).isSome then s.1 else bump s.1 r.p.b.toNat 1) j := fun j => by
      split
      · exact Int.le_refl _
      · unfold bump; split <;> omega
    refine ⟨aput_nodup R.nd, fun q hq => ?_, fun q hq => ?_, fun j => ?_, fun p v hv => ?_, fun q hq hgq => ?_⟩
    · rcases (mem_aput R.nd).1 hq with h | h
      · rw [h]; exact hg
      · exact R.good q h.2
    · rcases (mem_aput R.nd).1 hq with h | h
      · rw [h]
        dsimp only
        split
        · rename_i hs
          obtain ⟨z, hz⟩ := Option.isSome_iff_exists.1 hs
          exact R.used _ (mem_of_aget hz)
        · have := (R.ub r.p.b.toNat).1
          unfold bump
          rw [if_pos rfl]
          omega
      · exact Int.le_trans (R.used q h.2) (hmono _)
    · have := R.ub j
      dsimp only
      rw [List.length_append]
      simp only [List.length_cons, List.length_nil]
      split
      · exact ⟨this.1, by omega⟩
      · unfold bump; split <;> exact ⟨by omega, by omega⟩
    · dsimp only at hv
      rw [aget_aput R.nd] at hv
      rw [ofP_snoc]
      split at hv
      · rename_i e
        subst e
        cases hv
        rw [if_pos rfl]
        exact ⟨rfl, by simp⟩
      · rename_i e
        rw [if_neg (Ne.symm e), List.append_nil]
        exact R.val p v hv
    · dsimp only
      rw [aget_aput R.nd]
      split
      · exact ⟨_, rfl⟩
      · rename_i e
        rcases List.mem_append.1 hq with h | h
        · exact R.has q h hgq
        · simp at h; subst h; exact absurd rfl e
  · rw [if_neg hc]
    have hng : ¬ Go.Proofs.YtenolkolkpfjgaaGreat.good r.p := fun h => hc ((chk_eq r.p).2 h)
    refine ⟨R.nd, R.good, R.used, fun j => ⟨(R.ub j).1, by have := (R.ub j).2; rw [List.length_append]; simp; omega⟩, fun p v hv => ?_, fun q hq hgq => ?_⟩
    · have hgp := R.good _ (mem_of_aget hv)
      rw [ofP_snoc, if_neg fun h => hng (by rw [h]; exact hgp), List.append_nil]
      exact R.val p v hv
    · rcases List.mem_append.1 hq with h | h
      · exact R.has q h hgq
      · simp at h; subst h; exact absurd hgq hng
theorem over_memR {s : TR} {l : List Rte} (T : ROk s l) (x : Int) (q : Pfx) : q ∈ overS s.1 s.2 x 33 ↔ (∃ z, aget s.2 q = some z) ∧ inB x q = true := by
  unfold overS
  rw [List.mem_map]
  constructor
  · rintro ⟨b, hb, rfl⟩
    have h1 := (List.mem_filter.1 hb).2
    simp only [Bool.and_eq_true] at h1
    obtain ⟨z, hz⟩ := Option.isSome_iff_exists.1 h1.2
    refine ⟨⟨z, hz⟩, ?_⟩
    rw [← inB_low x _ (T.good _ (mem_of_aget hz))]
    exact decide_eq_true rfl
  · rintro ⟨⟨z, hz⟩, hin⟩
    have hm := mem_of_aget hz
    have hg := T.good _ hm
    rw [← inB_low x q hg, decide_eq_true_eq] at hin
    have hu := T.used _ hm
    obtain ⟨a, b⟩ := q
    have hb0 := hg.1
    have hb1 := hg.2.1
    dsimp only at hb0 hb1 hin hu
    obtain ⟨B, rfl⟩ : ∃ B : Nat, b = (B : Int) := ⟨b.toNat, by omega⟩
    have hsub : sub x (B : Int) = ⟨a, (B : Int)⟩ := by
      unfold sub
      rw [hin]
    rw [Int.toNat_natCast] at hu
    refine ⟨B, List.mem_filter.2 ⟨List.mem_range.2 (by omega), ?_⟩, hsub⟩
    rw [hsub, hz]
    simp
    omega
theorem over_sortedR (u : Nat → Int) (m : List (Pfx × List Rte)) (x : Int) (k : Nat) : (overS u m x k).Pairwise fun p q => p.b < q.b := by
  unfold overS
  rw [List.pairwise_map]
  refine List.Pairwise.imp ?_ (List.Pairwise.filter _ List.pairwise_lt_range)
  intro a b h
  show (a : Int) < (b : Int)
  omega
theorem long_mostR {L : List Pfx} (hs : L.Pairwise fun p q : Pfx => p.b < q.b) {p q : Pfx} (h : L.getLast? = some p) (hq : q ∈ L) : q.b ≤ p.b := by
  rw [List.getLast?_eq_getElem?] at h
  obtain ⟨i, hi⟩ := List.getElem?_of_mem hq
  obtain ⟨h1, h2⟩ := List.getElem?_eq_some_iff.1 h
  obtain ⟨h3, h4⟩ := List.getElem?_eq_some_iff.1 hi
  rcases Nat.lt_or_ge i (L.length - 1) with h5 | h5
  · have := List.pairwise_iff_getElem.1 hs i (L.length - 1) h3 h1 h5
    rw [h2, h4] at this
    omega
  · have : i = L.length - 1 := by omega
    subst this
    rw [h2] at h4
    rw [h4]
    exact Int.le_refl _
def topB (l : List Rte) (x : Int) (r : Rte) : Bool := inB x r.p && l.all fun s => !(inB x s.p) || decide (s.p.b ≤ r.p.b)
theorem topB_iff {l : List Rte} {x : Int} {r : Rte} : topB l x r = true ↔ inB x r.p = true ∧ ∀ s ∈ l, inB x s.p = true → s.p.b ≤ r.p.b := by
  unfold topB
  rw [Bool.and_eq_true, List.all_eq_true]
  refine and_congr_right fun _ => forall_congr' fun s => forall_congr' fun _ => ?_
  cases inB x s.p <;> simp
def longL (l : List Rte) (x : Int) : List Rte := sortU ordR (l.filter (topB l x))
theorem inB_one {x : Int} {p q : Pfx} (hp : inB x p = true) (hq : inB x q = true) (h : p.b = q.b) : p = q := by
  have e1 := inB_low x p (inB_good hp)
  have e2 := inB_low x q (inB_good hq)
  rw [hp, decide_eq_true_eq] at e1
  rw [hq, decide_eq_true_eq] at e2
  obtain ⟨a, b⟩ := p
  obtain ⟨c, d⟩ := q
  dsimp only at *
  subst h
  rw [← e1, ← e2]
theorem long_is {s : TR} {l : List Rte} (R : ROk s l) (x : Int) : (longR s.1 s.2 x).2.1 = l.filter (topB l x) := by
  have inO : ∀ r ∈ l, inB x r.p = true → r.p ∈ overS s.1 s.2 x 33 := fun r hr hi => (over_memR R x r.p).2 ⟨R.has r hr (inB_good hi), hi⟩
  unfold longR
  cases hL : (overS s.1 s.2 x 33).getLast? with
  | none =>
    have h0 : overS s.1 s.2 x 33 = [] := List.getLast?_eq_none_iff.1 hL
    dsimp only
    refine (List.filter_eq_nil_iff.2 fun r hr ht => ?_).symm
    have := inO r hr (topB_iff.1 ht).1
    rw [h0] at this
    cases this
  | some p =>
    dsimp only
    have hp := (over_memR R x p).1 (List.mem_of_getLast? hL)
    obtain ⟨⟨v, hv⟩, hin⟩ := hp
    obtain ⟨hv1, hv2⟩ := R.val p v hv
    rw [hv]
    show v = _
    rw [hv1]
    obtain ⟨t, ht⟩ := List.exists_mem_of_ne_nil v hv2
    rw [hv1] at ht
    have ht2 := List.mem_filter.1 ht
    have htp : t.p = p := by simpa using ht2.2
    refine List.filter_congr fun r hr => ?_
    rw [Bool.eq_iff_iff, decide_eq_true_eq, topB_iff]
    constructor
    · intro e
      subst e
      exact ⟨hin, fun s hs hi => long_mostR (over_sortedR _ _ _ _) hL (inO s hs hi)⟩
    · rintro ⟨h1, h2⟩
      have h3 := long_mostR (over_sortedR _ _ _ _) hL (inO r hr h1)
      have h4 := h2 t ht2.1 (by rw [htp]; exact hin)
      rw [htp] at h4
      exact inB_one h1 hin (by omega)
set_option linter.unusedSimpArgs false
attribute [local irreducible] AWp AOps AQ AYield AEff ACall AWk AAny AAt AThen AIn APost NoPanic
section
variable {P : Program} {nt : Nat} {Q : Post} {e : Env} {h : Heap} {o : Oper} {ops : Array Oper} {rest : List Oper} {T : List Nat}
theorem O_cNew {f : FuncId} {args : Array Operand} {ats : Array TypeId} {cs : List AVal} {d : Nat} {u : Nat → Int} {l : List (Pfx × List Rte)} (H : ACall P f cs [] (fun c' h' => c' = .ptr 3 0 ∧ h' = [(3, tblB 902 u), (902, rmapB l)])) (hw : awant ops e o = some true) (hdst : o.dst = some d) (hd : Nat.blt d nt = true)
    (ho : o.op = .call { callee := .value (.func f), args := args, argTypes := ats }) (hx : aevs e args.toList = some cs) (HK : AOps P nt ops Q rest ((d, .ptr 3 0) :: killEs [3, 902] e) ((3, tblB 902 u) :: (902, rmapB l) :: killHs [3, 902] h)) : AOps P nt ops Q (o :: rest) e h :=
  O_eff (T := []) hw (E_callQ ho hdst hx H hd fun c' h' ⟨h1, h2⟩ => by
    subst h1 h2
    refine ⟨rfl, fun id b j hb hh => ?_, fun j hj => ?_⟩
    · by_cases h3 : 3 = id
      · subst h3
        rw [look_cons_same] at hb
        cases hb
        have hs : hasL j (usedA u) = false := shutL_has j (usedA u) rfl
        have : (902 == j) = true := by
          have h9 : ((AVal.mp 902).has j || hasL j (usedA u)) = true := hh
          rw [hs, Bool.or_false] at h9
          exact h9
        have : 902 = j := by simpa using this
        subst this
        rfl
      · rw [look_cons_ne _ _ h3] at hb
        by_cases h4 : 902 = id
        · subst h4
          rw [look_cons_same] at hb
          cases hb
          have h9 : (ents pfxA rtesA l).any (fun p => p.1.has j || p.2.has j) = true := hh
          obtain ⟨p, hp, h10⟩ := List.any_eq_true.1 h9
          obtain ⟨q, _, rfl⟩ := List.mem_map.1 hp
          rw [shut_has j (pfxA q.1) rfl, shut_has j (rtesA q.2) rfl] at h10
          cases h10
        · rw [look_cons_ne _ _ h4] at hb; cases hb
    · have h9 : (3 == j) = true := hj
      have : 3 = j := by simpa using h9
      subst this
      rfl) fun e' h' ⟨c, h2, ⟨h3, h4⟩, h5, h6⟩ => by subst h3 h4 h5 h6; exact HK
theorem T_cTbl {f : FuncId} {args : Array Operand} {ats : Array TypeId} {cs0 cs : List AVal} {c : AVal} {d fuel n : Nat} {listed : Array Bool} (i j : Nat) (hij : i ≠ j) {u u' : Nat → Int} {l l' : List (Pfx × List Rte)}
    (H : ACall P f cs [(1000, tblB 1001 u), (1001, rmapB l)] (fun c' h' => c' = c ∧ h' = [(1000, tblB 1001 u'), (1001, rmapB l')])) (hn : ops[n]? = some o) (hw : awant ops e o = some true) (hdst : o.dst = some d) (hd : Nat.blt d nt = true) (ho : o.op = .call { callee := .value (.func f), args := args, argTypes := ats }) (hx : aevs e args.toList = some cs0)
    (hok : cs.all (okV [(1000, i), (1001, j)]) = true) (hcs : cs.map (renV [(1000, i), (1001, j)]) = cs0) (hi : look h i = some (tblB j u)) (hj : look h j = some (rmapB l)) (hT1 : T.contains i = true) (hT2 : T.contains j = true)
    (HK : AAny P nt ops Q T fuel (listed.setIfInBounds n true) ((d, renV [(1000, i), (1001, j)] c) :: e) ((i, tblB j u') :: (j, rmapB l') :: h)) : AAt P nt ops Q T fuel listed n e h := by
  refine T_eff hn hw (E_callP (h0 := [(1000, tblB 1001 u), (1001, rmapB l)]) [(1000, i), (1001, j)] ho hdst hx hcs (fun c hc => List.all_eq_true.1 hok c hc) ⟨⟨i, _, rfl, hi, ren_tbl i j u, ok_tbl i j u⟩, ⟨j, _, rfl, hj, ren_map _ l, ok_map _ l⟩, trivial⟩ (fun p k h1 => ?_) (fun p p' k h1 h2 => ?_) H hd (fun p k h1 => ?_) (fun c' h' ⟨_, hh⟩ p k h1 => ?_)) fun e' h' ⟨c', h2, ⟨h3, h4⟩, h5, h6⟩ => ?_
  · rcases look_pass h1 with ⟨h3, h4⟩ | ⟨h3, h4⟩ <;> subst h3 <;> exact ⟨by omega, rfl⟩
  · rcases look_pass h1 with ⟨h3, h4⟩ | ⟨h3, h4⟩ <;> rcases look_pass h2 with ⟨h5, h6⟩ | ⟨h5, h6⟩ <;> omega
  · rcases look_pass h1 with ⟨h3, h4⟩ | ⟨h3, h4⟩ <;> subst h4 <;> assumption
  · subst hh
    rcases look_pass h1 with ⟨h3, h4⟩ | ⟨h3, h4⟩ <;> subst h3 <;> rfl
  · subst h3 h4 h5 h6
    have e1 : renH [(1000, i), (1001, j)] [(1000, tblB 1001 u'), (1001, rmapB l')] ++ h = (i, tblB j u') :: (j, rmapB l') :: h := by
      show (i, renB _ (tblB 1001 u')) :: (j, renB _ (rmapB l')) :: ([] ++ h) = _
      rw [ren_tbl, ren_map]
      rfl
    rw [e1]
    exact HK
end
theorem putT_A (s : TR) (l : List Rte) (R : ROk s l) (hl : l.length ≤ 1000000) (p : Pfx) (v : List Rte) (hp : p.ok) :
    ACall Tryz.prog 58 [.ptr 1000 0, pfxA p, rtesA v] [(1000, tblB 1001 s.1), (1001, rmapB s.2)] (fun c h => c = intA (chk p) ∧ h = [(1000, tblB 1001 (putT s p v).1), (1001, rmapB (putT s p v).2)]) :=
  (put_A s.1 s.2 p v hp R.nd fun j => ⟨(R.ub j).1, by have := (R.ub j).2; omega⟩).mono fun c h ⟨h1, h2⟩ => ⟨h1, by
    rw [h2]
    unfold putT
    split <;> rfl⟩
theorem clip_A (l : List Rte) : ACall Tryz.prog 59 [rtesA l] [] (Just (.full (l.flatMap rteD) l.length)) := by
  refine ACall_of tabOk Tryz.func59 rfl Tryz.ntmps59 (congrArg Array.toList Tryz.results59) (by kernel_rfl) rfl ?_
  repeat (first | refine q_Z ?_ | refine R_quiet rfl mixed (by kernel_rfl) ?_ | ((first | apply O_y rfl rfl rfl | apply Q_y rfl rfl rfl); (first | exact q_A | exact q_5 | exact q_B | (exact R_clip tabOk rfl rfl rfl rfl rfl rfl rfl rfl))) | refine q_d ?_ | refine q_a ?_ | refine q_b ?_ | refine q_c ?_ | refine A_ct rfl ?_ | refine A_cf rfl ?_ | refine q_W ?_)
  exact X_ret rfl ⟨rfl, rfl⟩
theorem rtesA_snoc (v : List Rte) (r : Rte) : rtesA (v ++ [r]) = .d (.sl (v.flatMap rteD ++ rteD r) (v.length + 1)) := by
  unfold rtesA
  rw [List.flatMap_append, List.length_append]
  simp
set_option maxHeartbeats 8000000 in
theorem ribLongest_A (l : List Rte) (hok : ∀ r ∈ l, okR r) (hn : l.length ≤ 1000000) (x : Int) (x0 : 0 ≤ x) (x1 : x < 4294967296) : ACall Tryz.prog 41 [rtesA l, .d (.sc (.int .u32 x))] [] (fun c h => c = .row 5 ∧ h = [(5, rteB (longL l x))]) := by
  refine ACall_of tabOk Tryz.func41 rfl Tryz.ntmps41 (congrArg Array.toList Tryz.results41) (by kernel_rfl) rfl ?_
  repeat (first | refine q_Z ?_ | ((first | apply O_y rfl rfl rfl | apply Q_y rfl rfl rfl); (first | exact q_A | exact q_5 | exact q_B)) | refine q_d ?_ | refine q_a ?_ | refine q_b ?_ | refine q_c ?_ | refine A_ct rfl ?_ | refine A_cf rfl ?_ | refine q_W ?_ | (refine O_cNew new_A rfl rfl rfl rfl rfl ?_))
  refine A_loop (fun y : Nat × TR => [(0, rtesA l), (1, .d (.sc (.int .u32 x))), (5, .ptr 3 0), (14, rtesA l), (15, intA (l.length : Int)), (16, intA (y.1 : Int))]) (fun y => [(3, tblB 902 y.2.1), (902, rmapB y.2.2)]) (fun y => y.1 ≤ l.length ∧ ROk y.2 (l.take y.1)) (fun y => l.length - y.1) (0, (fun _ => 0, [])) ⟨Nat.zero_le _, ROk.zero⟩ (Wk_sel ⟨rfl, rfl, rfl, rfl, rfl, rfl, trivial⟩ ⟨rfl, rfl, trivial⟩) ?_
  rintro ⟨k, s⟩ ⟨hk, R⟩
  dsimp only at hk R ⊢
  by_cases hlt : k < l.length
  · have hkr := hok _ (List.getElem_mem hlt)
    have hat := tblAt_A s.1 s.2 l[k].p R.nd
    have hlk : (l.take k).length ≤ 1000000 := by rw [List.length_take]; omega
    have hol : ((aget s.2 l[k].p).getD []).length ≤ 1000000 := by
      cases h : aget s.2 l[k].p with
      | none => simp
      | some v =>
        rw [(R.val _ _ h).1]
        exact Nat.le_trans (List.length_filter_le _ _) hlk
    have hcl := clip_A ((aget s.2 l[k].p).getD [])
    have hput := putT_A s (l.take k) R hlk l[k].p ((aget s.2 l[k].p).getD [] ++ [l[k]]) hkr.2
    have hR2 := R.put l[k]
    rw [← take_snoc l k hlt] at hR2
    repeat (first | refine q_Z ?_ | ((first | apply O_y rfl rfl rfl | apply Q_y rfl rfl rfl); (first | exact q_A | exact R_loadi tabOk rfl rfl rfl rfl (by first | exact win_flat0 rteD_len l k _ hlt (by decide) | exact win_flat rteD_len l k _ _ hlt (by decide) | exact win_flat2 rteD_len l k _ _ _ hlt (by decide) | rfl) rfl rfl | exact q_B)) | refine q_d ?_ | refine q_a ?_ | refine q_b ?_ | refine q_c ?_ | refine A_ct rfl ?_ | refine A_cf rfl ?_ | refine q_W ?_)
    refine O_cTbl 3 902 (by omega) hat rfl rfl rfl rfl rfl rfl rfl rfl (kill_map 7 s.2) ?_
    cases hag : aget s.2 l[k].p with
    | none =>
      rw [hag] at hcl hput hR2 hol
      simp only [Option.getD_none] at hcl hput hR2 hol
      rw [rtesA_snoc] at hput
      repeat (first | refine q_Z ?_ | ((first | apply O_y rfl rfl rfl | apply Q_y rfl rfl rfl); (first | exact q_A | exact q_5 | exact q_B)) | refine q_d ?_ | refine q_a ?_ | refine q_b ?_ | refine q_c ?_ | refine A_ct rfl ?_ | refine A_cf rfl ?_ | refine q_W ?_)
      refine A_weaken (Wk_see (t := 8) rfl see_nil) ?_
      refine A_weaken (Wk_sel (e1 := [(0, rtesA l), (1, .d (.sc (.int .u32 x))), (5, .ptr 3 0), (7, .ptr 7 0), (8, rtesA ([] : List Rte)), (14, rtesA l), (15, intA (l.length : Int)), (16, intA (k : Int))]) (h1 := [(7, rteB1 l[k]), (3, tblB 902 s.1), (902, rmapB s.2)]) ⟨rfl, rfl, rfl, rfl, rfl, rfl, rfl, rfl, trivial⟩ ⟨rfl, rfl, rfl, trivial⟩) ?_
      refine N_begin [3, 902] mixed ?_
      repeat (first | ((first | apply q_M 0 rfl rfl (by kernel_rfl) (by decide +kernel) (by decide +kernel) rfl rfl rfl | apply q_M 1 rfl rfl (by kernel_rfl) (by decide +kernel) (by decide +kernel) rfl rfl rfl | apply q_M 2 rfl rfl (by kernel_rfl) (by decide +kernel) (by decide +kernel) rfl rfl rfl | apply q_M 3 rfl rfl (by kernel_rfl) (by decide +kernel) (by decide +kernel) rfl rfl rfl | apply q_M 4 rfl rfl (by kernel_rfl) (by decide +kernel) (by decide +kernel) rfl rfl rfl | apply q_M 5 rfl rfl (by kernel_rfl) (by decide +kernel) (by decide +kernel) rfl rfl rfl | apply q_M 6 rfl rfl (by kernel_rfl) (by decide +kernel) (by decide +kernel) rfl rfl rfl | apply q_M 7 rfl rfl (by kernel_rfl) (by decide +kernel) (by decide +kernel) rfl rfl rfl | apply q_M 8 rfl rfl (by kernel_rfl) (by decide +kernel) (by decide +kernel) rfl rfl rfl | apply q_M 9 rfl rfl (by kernel_rfl) (by decide +kernel) (by decide +kernel) rfl rfl rfl | apply q_M 10 rfl rfl (by kernel_rfl) (by decide +kernel) (by decide +kernel) rfl rfl rfl ); (first | exact q_A | exact q_5 | exact q_B)) | (apply q_L 0 rfl rfl (by kernel_rfl) (by decide +kernel) (by decide +kernel) rfl rfl rfl; (first | exact q_5 | exact q_7 | exact q_19)) | (apply q_L 1 rfl rfl (by kernel_rfl) (by decide +kernel) (by decide +kernel) rfl rfl rfl; (first | exact q_5 | exact q_7 | exact q_19)) | (apply q_L 2 rfl rfl (by kernel_rfl) (by decide +kernel) (by decide +kernel) rfl rfl rfl; (first | exact q_5 | exact q_7 | exact q_19)) | (apply q_L 3 rfl rfl (by kernel_rfl) (by decide +kernel) (by decide +kernel) rfl rfl rfl; (first | exact q_5 | exact q_7 | exact q_19)) | (apply q_L 4 rfl rfl (by kernel_rfl) (by decide +kernel) (by decide +kernel) rfl rfl rfl; (first | exact q_5 | exact q_7 | exact q_19)) | (apply q_L 5 rfl rfl (by kernel_rfl) (by decide +kernel) (by decide +kernel) rfl rfl rfl; (first | exact q_5 | exact q_7 | exact q_19)) | (apply q_L 6 rfl rfl (by kernel_rfl) (by decide +kernel) (by decide +kernel) rfl rfl rfl; (first | exact q_5 | exact q_7 | exact q_19)) | refine N_one (j := 0) (by decide +kernel) ?_ | refine N_one (j := 1) (by decide +kernel) ?_ | refine N_one (j := 2) (by decide +kernel) ?_ | refine N_one (j := 3) (by decide +kernel) ?_ | refine N_one (j := 4) (by decide +kernel) ?_ | refine N_one (j := 5) (by decide +kernel) ?_ | refine N_one (j := 6) (by decide +kernel) ?_ | refine N_one (j := 7) (by decide +kernel) ?_ | refine N_one (j := 8) (by decide +kernel) ?_ | refine N_one (j := 9) (by decide +kernel) ?_ | refine N_one (j := 10) (by decide +kernel) ?_ | refine T_alloc tabOk rfl rfl rfl rfl rfl rfl rfl ?_ | refine T_store tabOk rfl rfl rfl rfl rfl rfl rfl rfl rfl rfl rfl rfl rfl ?_ | (apply T_yield rfl rfl rfl rfl; (first | exact q_2 | exact q_1 | first | exact q_5 | exact q_7 | exact q_19)) | refine N_done (by decide +kernel) ?_)
      refine N_two (j := 4) (k := 6) (by decide +kernel) ?_ ?_
      · refine T_call rfl rfl rfl rfl rfl rfl hcl (fun _ => rfl) ?_
        repeat (first | ((first | apply q_M 0 rfl rfl (by kernel_rfl) (by decide +kernel) (by decide +kernel) rfl rfl rfl | apply q_M 1 rfl rfl (by kernel_rfl) (by decide +kernel) (by decide +kernel) rfl rfl rfl | apply q_M 2 rfl rfl (by kernel_rfl) (by decide +kernel) (by decide +kernel) rfl rfl rfl | apply q_M 3 rfl rfl (by kernel_rfl) (by decide +kernel) (by decide +kernel) rfl rfl rfl | apply q_M 4 rfl rfl (by kernel_rfl) (by decide +kernel) (by decide +kernel) rfl rfl rfl | apply q_M 5 rfl rfl (by kernel_rfl) (by decide +kernel) (by decide +kernel) rfl rfl rfl | apply q_M 6 rfl rfl (by kernel_rfl) (by decide +kernel) (by decide +kernel) rfl rfl rfl | apply q_M 7 rfl rfl (by kernel_rfl) (by decide +kernel) (by decide +kernel) rfl rfl rfl | apply q_M 8 rfl rfl (by kernel_rfl) (by decide +kernel) (by decide +kernel) rfl rfl rfl | apply q_M 9 rfl rfl (by kernel_rfl) (by decide +kernel) (by decide +kernel) rfl rfl rfl | apply q_M 10 rfl rfl (by kernel_rfl) (by decide +kernel) (by decide +kernel) rfl rfl rfl ); (first | exact q_A | exact q_5 | exact q_B)) | (apply q_L 0 rfl rfl (by kernel_rfl) (by decide +kernel) (by decide +kernel) rfl rfl rfl; (first | exact q_5 | exact q_7 | exact q_19)) | (apply q_L 1 rfl rfl (by kernel_rfl) (by decide +kernel) (by decide +kernel) rfl rfl rfl; (first | exact q_5 | exact q_7 | exact q_19)) | (apply q_L 2 rfl rfl (by kernel_rfl) (by decide +kernel) (by decide +kernel) rfl rfl rfl; (first | exact q_5 | exact q_7 | exact q_19)) | (apply q_L 3 rfl rfl (by kernel_rfl) (by decide +kernel) (by decide +kernel) rfl rfl rfl; (first | exact q_5 | exact q_7 | exact q_19)) | (apply q_L 4 rfl rfl (by kernel_rfl) (by decide +kernel) (by decide +kernel) rfl rfl rfl; (first | exact q_5 | exact q_7 | exact q_19)) | (apply q_L 5 rfl rfl (by kernel_rfl) (by decide +kernel) (by decide +kernel) rfl rfl rfl; (first | exact q_5 | exact q_7 | exact q_19)) | (apply q_L 6 rfl rfl (by kernel_rfl) (by decide +kernel) (by decide +kernel) rfl rfl rfl; (first | exact q_5 | exact q_7 | exact q_19)) | refine N_one (j := 0) (by decide +kernel) ?_ | refine N_one (j := 1) (by decide +kernel) ?_ | refine N_one (j := 2) (by decide +kernel) ?_ | refine N_one (j := 3) (by decide +kernel) ?_ | refine N_one (j := 4) (by decide +kernel) ?_ | refine N_one (j := 5) (by decide +kernel) ?_ | refine N_one (j := 6) (by decide +kernel) ?_ | refine N_one (j := 7) (by decide +kernel) ?_ | refine N_one (j := 8) (by decide +kernel) ?_ | refine N_one (j := 9) (by decide +kernel) ?_ | refine N_one (j := 10) (by decide +kernel) ?_ | refine T_alloc tabOk rfl rfl rfl rfl rfl rfl rfl ?_ | refine T_store tabOk rfl rfl rfl rfl rfl rfl rfl rfl rfl rfl rfl rfl rfl ?_ | (apply T_yield rfl rfl rfl rfl; (first | exact q_2 | exact q_1 | first | exact q_5 | exact q_7 | exact q_19)) | refine N_done (by decide +kernel) ?_ | first | refine T_slice tabOk rfl rfl rfl rfl rfl rfl rfl rfl rfl rfl rfl rfl ?_ | refine T_appD tabOk rfl rfl rfl rfl rfl rfl rfl rfl rfl rfl (Src.row rfl) (flat_len rteD_len ([] : List Rte)) (by decide) rfl (by omega) ?_ | refine T_cTbl 3 902 (by omega) hput rfl rfl rfl rfl rfl rfl rfl rfl rfl (kill_map 33 s.2) rfl rfl ?_)
        repeat (first | refine q_Z ?_ | ((first | apply O_y rfl rfl rfl | apply Q_y rfl rfl rfl); (first | exact q_A | exact q_5 | exact q_B)) | refine q_d ?_ | refine q_a ?_ | refine q_b ?_ | refine q_c ?_ | refine A_ct rfl ?_ | refine A_cf rfl ?_ | refine q_W ?_)
        exact ⟨(k + 1, putT s l[k].p (([] : List Rte) ++ [l[k]])), ⟨by dsimp only; omega, hR2⟩, by dsimp only; omega, Wk_sel ⟨rfl, rfl, rfl, rfl, rfl, rfl, trivial⟩ ⟨rfl, rfl, trivial⟩⟩
      · refine T_slice tabOk rfl rfl rfl rfl rfl rfl rfl rfl rfl rfl rfl rfl ?_
        repeat (first | ((first | apply q_M 0 rfl rfl (by kernel_rfl) (by decide +kernel) (by decide +kernel) rfl rfl rfl | apply q_M 1 rfl rfl (by kernel_rfl) (by decide +kernel) (by decide +kernel) rfl rfl rfl | apply q_M 2 rfl rfl (by kernel_rfl) (by decide +kernel) (by decide +kernel) rfl rfl rfl | apply q_M 3 rfl rfl (by kernel_rfl) (by decide +kernel) (by decide +kernel) rfl rfl rfl | apply q_M 4 rfl rfl (by kernel_rfl) (by decide +kernel) (by decide +kernel) rfl rfl rfl | apply q_M 5 rfl rfl (by kernel_rfl) (by decide +kernel) (by decide +kernel) rfl rfl rfl | apply q_M 6 rfl rfl (by kernel_rfl) (by decide +kernel) (by decide +kernel) rfl rfl rfl | apply q_M 7 rfl rfl (by kernel_rfl) (by decide +kernel) (by decide +kernel) rfl rfl rfl | apply q_M 8 rfl rfl (by kernel_rfl) (by decide +kernel) (by decide +kernel) rfl rfl rfl | apply q_M 9 rfl rfl (by kernel_rfl) (by decide +kernel) (by decide +kernel) rfl rfl rfl | apply q_M 10 rfl rfl (by kernel_rfl) (by decide +kernel) (by decide +kernel) rfl rfl rfl ); (first | exact q_A | exact q_5 | exact q_B)) | (apply q_L 0 rfl rfl (by kernel_rfl) (by decide +kernel) (by decide +kernel) rfl rfl rfl; (first | exact q_5 | exact q_7 | exact q_19)) | (apply q_L 1 rfl rfl (by kernel_rfl) (by decide +kernel) (by decide +kernel) rfl rfl rfl; (first | exact q_5 | exact q_7 | exact q_19)) | (apply q_L 2 rfl rfl (by kernel_rfl) (by decide +kernel) (by decide +kernel) rfl rfl rfl; (first | exact q_5 | exact q_7 | exact q_19)) | (apply q_L 3 rfl rfl (by kernel_rfl) (by decide +kernel) (by decide +kernel) rfl rfl rfl; (first | exact q_5 | exact q_7 | exact q_19)) | (apply q_L 4 rfl rfl (by kernel_rfl) (by decide +kernel) (by decide +kernel) rfl rfl rfl; (first | exact q_5 | exact q_7 | exact q_19)) | (apply q_L 5 rfl rfl (by kernel_rfl) (by decide +kernel) (by decide +kernel) rfl rfl rfl; (first | exact q_5 | exact q_7 | exact q_19)) | (apply q_L 6 rfl rfl (by kernel_rfl) (by decide +kernel) (by decide +kernel) rfl rfl rfl; (first | exact q_5 | exact q_7 | exact q_19)) | refine N_one (j := 0) (by decide +kernel) ?_ | refine N_one (j := 1) (by decide +kernel) ?_ | refine N_one (j := 2) (by decide +kernel) ?_ | refine N_one (j := 3) (by decide +kernel) ?_ | refine N_one (j := 4) (by decide +kernel) ?_ | refine N_one (j := 5) (by decide +kernel) ?_ | refine N_one (j := 6) (by decide +kernel) ?_ | refine N_one (j := 7) (by decide +kernel) ?_ | refine N_one (j := 8) (by decide +kernel) ?_ | refine N_one (j := 9) (by decide +kernel) ?_ | refine N_one (j := 10) (by decide +kernel) ?_ | refine T_alloc tabOk rfl rfl rfl rfl rfl rfl rfl ?_ | refine T_store tabOk rfl rfl rfl rfl rfl rfl rfl rfl rfl rfl rfl rfl rfl ?_ | (apply T_yield rfl rfl rfl rfl; (first | exact q_2 | exact q_1 | first | exact q_5 | exact q_7 | exact q_19)) | refine N_done (by decide +kernel) ?_ | first | refine T_call rfl rfl rfl rfl rfl rfl hcl (fun _ => rfl) ?_ | refine T_appD tabOk rfl rfl rfl rfl rfl rfl rfl rfl rfl rfl (Src.row rfl) (flat_len rteD_len ([] : List Rte)) (by decide) rfl (by omega) ?_ | refine T_cTbl 3 902 (by omega) hput rfl rfl rfl rfl rfl rfl rfl rfl rfl (kill_map 33 s.2) rfl rfl ?_)
        repeat (first | refine q_Z ?_ | ((first | apply O_y rfl rfl rfl | apply Q_y rfl rfl rfl); (first | exact q_A | exact q_5 | exact q_B)) | refine q_d ?_ | refine q_a ?_ | refine q_b ?_ | refine q_c ?_ | refine A_ct rfl ?_ | refine A_cf rfl ?_ | refine q_W ?_)
        exact ⟨(k + 1, putT s l[k].p (([] : List Rte) ++ [l[k]])), ⟨by dsimp only; omega, hR2⟩, by dsimp only; omega, Wk_sel ⟨rfl, rfl, rfl, rfl, rfl, rfl, trivial⟩ ⟨rfl, rfl, trivial⟩⟩
    | some v =>
      rw [hag] at hcl hput hR2 hol
      simp only [Option.getD_some] at hcl hput hR2 hol
      rw [rtesA_snoc] at hput
      repeat (first | refine q_Z ?_ | ((first | apply O_y rfl rfl rfl | apply Q_y rfl rfl rfl); (first | exact q_A | exact q_5 | exact q_B)) | refine q_d ?_ | refine q_a ?_ | refine q_b ?_ | refine q_c ?_ | refine A_ct rfl ?_ | refine A_cf rfl ?_ | refine q_W ?_)
      refine A_weaken (Wk_sel (e1 := [(0, rtesA l), (1, .d (.sc (.int .u32 x))), (5, .ptr 3 0), (7, .ptr 7 0), (8, rtesA v), (14, rtesA l), (15, intA (l.length : Int)), (16, intA (k : Int))]) (h1 := [(7, rteB1 l[k]), (3, tblB 902 s.1), (902, rmapB s.2)]) ⟨rfl, rfl, rfl, rfl, rfl, rfl, rfl, rfl, trivial⟩ ⟨rfl, rfl, rfl, trivial⟩) ?_
      refine N_begin [3, 902] mixed ?_
      repeat (first | ((first | apply q_M 0 rfl rfl (by kernel_rfl) (by decide +kernel) (by decide +kernel) rfl rfl rfl | apply q_M 1 rfl rfl (by kernel_rfl) (by decide +kernel) (by decide +kernel) rfl rfl rfl | apply q_M 2 rfl rfl (by kernel_rfl) (by decide +kernel) (by decide +kernel) rfl rfl rfl | apply q_M 3 rfl rfl (by kernel_rfl) (by decide +kernel) (by decide +kernel) rfl rfl rfl | apply q_M 4 rfl rfl (by kernel_rfl) (by decide +kernel) (by decide +kernel) rfl rfl rfl | apply q_M 5 rfl rfl (by kernel_rfl) (by decide +kernel) (by decide +kernel) rfl rfl rfl | apply q_M 6 rfl rfl (by kernel_rfl) (by decide +kernel) (by decide +kernel) rfl rfl rfl | apply q_M 7 rfl rfl (by kernel_rfl) (by decide +kernel) (by decide +kernel) rfl rfl rfl | apply q_M 8 rfl rfl (by kernel_rfl) (by decide +kernel) (by decide +kernel) rfl rfl rfl | apply q_M 9 rfl rfl (by kernel_rfl) (by decide +kernel) (by decide +kernel) rfl rfl rfl | apply q_M 10 rfl rfl (by kernel_rfl) (by decide +kernel) (by decide +kernel) rfl rfl rfl ); (first | exact q_A | exact q_5 | exact q_B)) | (apply q_L 0 rfl rfl (by kernel_rfl) (by decide +kernel) (by decide +kernel) rfl rfl rfl; (first | exact q_5 | exact q_7 | exact q_19)) | (apply q_L 1 rfl rfl (by kernel_rfl) (by decide +kernel) (by decide +kernel) rfl rfl rfl; (first | exact q_5 | exact q_7 | exact q_19)) | (apply q_L 2 rfl rfl (by kernel_rfl) (by decide +kernel) (by decide +kernel) rfl rfl rfl; (first | exact q_5 | exact q_7 | exact q_19)) | (apply q_L 3 rfl rfl (by kernel_rfl) (by decide +kernel) (by decide +kernel) rfl rfl rfl; (first | exact q_5 | exact q_7 | exact q_19)) | (apply q_L 4 rfl rfl (by kernel_rfl) (by decide +kernel) (by decide +kernel) rfl rfl rfl; (first | exact q_5 | exact q_7 | exact q_19)) | (apply q_L 5 rfl rfl (by kernel_rfl) (by decide +kernel) (by decide +kernel) rfl rfl rfl; (first | exact q_5 | exact q_7 | exact q_19)) | (apply q_L 6 rfl rfl (by kernel_rfl) (by decide +kernel) (by decide +kernel) rfl rfl rfl; (first | exact q_5 | exact q_7 | exact q_19)) | refine N_one (j := 0) (by decide +kernel) ?_ | refine N_one (j := 1) (by decide +kernel) ?_ | refine N_one (j := 2) (by decide +kernel) ?_ | refine N_one (j := 3) (by decide +kernel) ?_ | refine N_one (j := 4) (by decide +kernel) ?_ | refine N_one (j := 5) (by decide +kernel) ?_ | refine N_one (j := 6) (by decide +kernel) ?_ | refine N_one (j := 7) (by decide +kernel) ?_ | refine N_one (j := 8) (by decide +kernel) ?_ | refine N_one (j := 9) (by decide +kernel) ?_ | refine N_one (j := 10) (by decide +kernel) ?_ | refine T_alloc tabOk rfl rfl rfl rfl rfl rfl rfl ?_ | refine T_store tabOk rfl rfl rfl rfl rfl rfl rfl rfl rfl rfl rfl rfl rfl ?_ | (apply T_yield rfl rfl rfl rfl; (first | exact q_2 | exact q_1 | first | exact q_5 | exact q_7 | exact q_19)) | refine N_done (by decide +kernel) ?_)
      refine N_two (j := 4) (k := 6) (by decide +kernel) ?_ ?_
      · refine T_call rfl rfl rfl rfl rfl rfl hcl (fun _ => rfl) ?_
        repeat (first | ((first | apply q_M 0 rfl rfl (by kernel_rfl) (by decide +kernel) (by decide +kernel) rfl rfl rfl | apply q_M 1 rfl rfl (by kernel_rfl) (by decide +kernel) (by decide +kernel) rfl rfl rfl | apply q_M 2 rfl rfl (by kernel_rfl) (by decide +kernel) (by decide +kernel) rfl rfl rfl | apply q_M 3 rfl rfl (by kernel_rfl) (by decide +kernel) (by decide +kernel) rfl rfl rfl | apply q_M 4 rfl rfl (by kernel_rfl) (by decide +kernel) (by decide +kernel) rfl rfl rfl | apply q_M 5 rfl rfl (by kernel_rfl) (by decide +kernel) (by decide +kernel) rfl rfl rfl | apply q_M 6 rfl rfl (by kernel_rfl) (by decide +kernel) (by decide +kernel) rfl rfl rfl | apply q_M 7 rfl rfl (by kernel_rfl) (by decide +kernel) (by decide +kernel) rfl rfl rfl | apply q_M 8 rfl rfl (by kernel_rfl) (by decide +kernel) (by decide +kernel) rfl rfl rfl | apply q_M 9 rfl rfl (by kernel_rfl) (by decide +kernel) (by decide +kernel) rfl rfl rfl | apply q_M 10 rfl rfl (by kernel_rfl) (by decide +kernel) (by decide +kernel) rfl rfl rfl ); (first | exact q_A | exact q_5 | exact q_B)) | (apply q_L 0 rfl rfl (by kernel_rfl) (by decide +kernel) (by decide +kernel) rfl rfl rfl; (first | exact q_5 | exact q_7 | exact q_19)) | (apply q_L 1 rfl rfl (by kernel_rfl) (by decide +kernel) (by decide +kernel) rfl rfl rfl; (first | exact q_5 | exact q_7 | exact q_19)) | (apply q_L 2 rfl rfl (by kernel_rfl) (by decide +kernel) (by decide +kernel) rfl rfl rfl; (first | exact q_5 | exact q_7 | exact q_19)) | (apply q_L 3 rfl rfl (by kernel_rfl) (by decide +kernel) (by decide +kernel) rfl rfl rfl; (first | exact q_5 | exact q_7 | exact q_19)) | (apply q_L 4 rfl rfl (by kernel_rfl) (by decide +kernel) (by decide +kernel) rfl rfl rfl; (first | exact q_5 | exact q_7 | exact q_19)) | (apply q_L 5 rfl rfl (by kernel_rfl) (by decide +kernel) (by decide +kernel) rfl rfl rfl; (first | exact q_5 | exact q_7 | exact q_19)) | (apply q_L 6 rfl rfl (by kernel_rfl) (by decide +kernel) (by decide +kernel) rfl rfl rfl; (first | exact q_5 | exact q_7 | exact q_19)) | refine N_one (j := 0) (by decide +kernel) ?_ | refine N_one (j := 1) (by decide +kernel) ?_ | refine N_one (j := 2) (by decide +kernel) ?_ | refine N_one (j := 3) (by decide +kernel) ?_ | refine N_one (j := 4) (by decide +kernel) ?_ | refine N_one (j := 5) (by decide +kernel) ?_ | refine N_one (j := 6) (by decide +kernel) ?_ | refine N_one (j := 7) (by decide +kernel) ?_ | refine N_one (j := 8) (by decide +kernel) ?_ | refine N_one (j := 9) (by decide +kernel) ?_ | refine N_one (j := 10) (by decide +kernel) ?_ | refine T_alloc tabOk rfl rfl rfl rfl rfl rfl rfl ?_ | refine T_store tabOk rfl rfl rfl rfl rfl rfl rfl rfl rfl rfl rfl rfl rfl ?_ | (apply T_yield rfl rfl rfl rfl; (first | exact q_2 | exact q_1 | first | exact q_5 | exact q_7 | exact q_19)) | refine N_done (by decide +kernel) ?_ | first | refine T_slice tabOk rfl rfl rfl rfl rfl rfl rfl rfl rfl rfl rfl rfl ?_ | refine T_appD tabOk rfl rfl rfl rfl rfl rfl rfl rfl rfl rfl (Src.row rfl) (flat_len rteD_len v) (by decide) rfl (by omega) ?_ | refine T_cTbl 3 902 (by omega) hput rfl rfl rfl rfl rfl rfl rfl rfl rfl (kill_map 33 s.2) rfl rfl ?_)
        repeat (first | refine q_Z ?_ | ((first | apply O_y rfl rfl rfl | apply Q_y rfl rfl rfl); (first | exact q_A | exact q_5 | exact q_B)) | refine q_d ?_ | refine q_a ?_ | refine q_b ?_ | refine q_c ?_ | refine A_ct rfl ?_ | refine A_cf rfl ?_ | refine q_W ?_)
        exact ⟨(k + 1, putT s l[k].p (v ++ [l[k]])), ⟨by dsimp only; omega, hR2⟩, by dsimp only; omega, Wk_sel ⟨rfl, rfl, rfl, rfl, rfl, rfl, trivial⟩ ⟨rfl, rfl, trivial⟩⟩
      · refine T_slice tabOk rfl rfl rfl rfl rfl rfl rfl rfl rfl rfl rfl rfl ?_
        repeat (first | ((first | apply q_M 0 rfl rfl (by kernel_rfl) (by decide +kernel) (by decide +kernel) rfl rfl rfl | apply q_M 1 rfl rfl (by kernel_rfl) (by decide +kernel) (by decide +kernel) rfl rfl rfl | apply q_M 2 rfl rfl (by kernel_rfl) (by decide +kernel) (by decide +kernel) rfl rfl rfl | apply q_M 3 rfl rfl (by kernel_rfl) (by decide +kernel) (by decide +kernel) rfl rfl rfl | apply q_M 4 rfl rfl (by kernel_rfl) (by decide +kernel) (by decide +kernel) rfl rfl rfl | apply q_M 5 rfl rfl (by kernel_rfl) (by decide +kernel) (by decide +kernel) rfl rfl rfl | apply q_M 6 rfl rfl (by kernel_rfl) (by decide +kernel) (by decide +kernel) rfl rfl rfl | apply q_M 7 rfl rfl (by kernel_rfl) (by decide +kernel) (by decide +kernel) rfl rfl rfl | apply q_M 8 rfl rfl (by kernel_rfl) (by decide +kernel) (by decide +kernel) rfl rfl rfl | apply q_M 9 rfl rfl (by kernel_rfl) (by decide +kernel) (by decide +kernel) rfl rfl rfl | apply q_M 10 rfl rfl (by kernel_rfl) (by decide +kernel) (by decide +kernel) rfl rfl rfl ); (first | exact q_A | exact q_5 | exact q_B)) | (apply q_L 0 rfl rfl (by kernel_rfl) (by decide +kernel) (by decide +kernel) rfl rfl rfl; (first | exact q_5 | exact q_7 | exact q_19)) | (apply q_L 1 rfl rfl (by kernel_rfl) (by decide +kernel) (by decide +kernel) rfl rfl rfl; (first | exact q_5 | exact q_7 | exact q_19)) | (apply q_L 2 rfl rfl (by kernel_rfl) (by decide +kernel) (by decide +kernel) rfl rfl rfl; (first | exact q_5 | exact q_7 | exact q_19)) | (apply q_L 3 rfl rfl (by kernel_rfl) (by decide +kernel) (by decide +kernel) rfl rfl rfl; (first | exact q_5 | exact q_7 | exact q_19)) | (apply q_L 4 rfl rfl (by kernel_rfl) (by decide +kernel) (by decide +kernel) rfl rfl rfl; (first | exact q_5 | exact q_7 | exact q_19)) | (apply q_L 5 rfl rfl (by kernel_rfl) (by decide +kernel) (by decide +kernel) rfl rfl rfl; (first | exact q_5 | exact q_7 | exact q_19)) | (apply q_L 6 rfl rfl (by kernel_rfl) (by decide +kernel) (by decide +kernel) rfl rfl rfl; (first | exact q_5 | exact q_7 | exact q_19)) | refine N_one (j := 0) (by decide +kernel) ?_ | refine N_one (j := 1) (by decide +kernel) ?_ | refine N_one (j := 2) (by decide +kernel) ?_ | refine N_one (j := 3) (by decide +kernel) ?_ | refine N_one (j := 4) (by decide +kernel) ?_ | refine N_one (j := 5) (by decide +kernel) ?_ | refine N_one (j := 6) (by decide +kernel) ?_ | refine N_one (j := 7) (by decide +kernel) ?_ | refine N_one (j := 8) (by decide +kernel) ?_ | refine N_one (j := 9) (by decide +kernel) ?_ | refine N_one (j := 10) (by decide +kernel) ?_ | refine T_alloc tabOk rfl rfl rfl rfl rfl rfl rfl ?_ | refine T_store tabOk rfl rfl rfl rfl rfl rfl rfl rfl rfl rfl rfl rfl rfl ?_ | (apply T_yield rfl rfl rfl rfl; (first | exact q_2 | exact q_1 | first | exact q_5 | exact q_7 | exact q_19)) | refine N_done (by decide +kernel) ?_ | first | refine T_call rfl rfl rfl rfl rfl rfl hcl (fun _ => rfl) ?_ | refine T_appD tabOk rfl rfl rfl rfl rfl rfl rfl rfl rfl rfl (Src.row rfl) (flat_len rteD_len v) (by decide) rfl (by omega) ?_ | refine T_cTbl 3 902 (by omega) hput rfl rfl rfl rfl rfl rfl rfl rfl rfl (kill_map 33 s.2) rfl rfl ?_)
        repeat (first | refine q_Z ?_ | ((first | apply O_y rfl rfl rfl | apply Q_y rfl rfl rfl); (first | exact q_A | exact q_5 | exact q_B)) | refine q_d ?_ | refine q_a ?_ | refine q_b ?_ | refine q_c ?_ | refine A_ct rfl ?_ | refine A_cf rfl ?_ | refine q_W ?_)
        exact ⟨(k + 1, putT s l[k].p (v ++ [l[k]])), ⟨by dsimp only; omega, hR2⟩, by dsimp only; omega, Wk_sel ⟨rfl, rfl, rfl, rfl, rfl, rfl, trivial⟩ ⟨rfl, rfl, trivial⟩⟩
  · have hkk : k = l.length := by omega
    subst hkk
    rw [List.take_length] at R
    have hlong := longest_A s.1 s.2 x x0 x1 R.nd
    rw [long_is R x] at hlong
    have hso := sort_R (l.filter (topB l x)) (Nat.le_trans (List.length_filter_le _ _) (by omega))
    repeat (first | refine q_Z ?_ | ((first | apply O_y rfl rfl rfl | apply Q_y rfl rfl rfl); (first | exact q_A | exact q_5 | exact q_B)) | refine q_d ?_ | refine q_a ?_ | refine q_b ?_ | refine q_c ?_ | refine A_ct rfl ?_ | refine A_cf rfl ?_ | refine q_W ?_ | (first | refine O_cTbl 3 902 (by omega) hlong rfl rfl rfl rfl rfl rfl rfl rfl rfl ?_ | refine O_cRow rfl rfl rfl rfl rfl hso rfl ?_))
    exact X_retW AWk.refl rfl (h2 := [(5, rteB (longL l x))]) ⟨rfl, trivial⟩ ⟨rfl, rfl⟩
end Go.Proofs.YtenolkolkpfjgaaGreat.Ab

namespace Go.Proofs.YtenolkolkpfjgaaGreat
set_option linter.unusedVariables false
open Go.Lib
structure Hp where
  i : List UInt8
  h : Int
  deriving DecidableEq
instance : Inhabited Hp := ⟨⟨[], 0⟩⟩
def ordH : Hp → Hp → Int := lexc (fun x y => compareBytes x.i y.i) (fun x y => c2 x.h y.h)
theorem good_ordH : Good ordH := (good_bytes.of _).lex (good_c2.of _)
theorem ordH_zero (x y : Hp) : ordH x y = 0 ↔ x = y := by
  obtain ⟨a, b⟩ := x
  obtain ⟨c, d⟩ := y
  simp [ordH, lexc_zero, bytes_zero, c2_zero]
theorem ordH_eq (x y : Hp) (h : ordH x y = 0) : x = y := (ordH_zero x y).1 h
namespace Ab
def hopOf (a : Int) (q : Rte) : Hp := ⟨q.i, if q.h = 0 then a else q.h⟩
def onB (q : Rte) : Bool := !q.x && decide (q.i = [])
def outB (q : Rte) : Bool := !q.x && !decide (q.i = [])
inductive Led (l : List Rte) (r : Rte) : Rte → Prop
  | refl : Led l r r
  | step {s q : Rte} (h : Led l r s) (hq : q ∈ longL l s.h) (ho : onB q = true) : Led l r q
theorem Led.trans {l : List Rte} {r s t : Rte} (h : Led l r s) (k : Led l s t) : Led l r t := by
  induction k with
  | refl => exact h
  | step _ hq ho ih => exact ih.step hq ho
theorem longL_sub {l : List Rte} {a : Int} {q : Rte} (h : q ∈ longL l a) : q ∈ l := by
  unfold longL at h
  rw [sortU_mem] at h
  exact (List.mem_filter.1 h).1
theorem Led.mem {l : List Rte} {r s : Rte} (h : Led l r s) : s = r ∨ s ∈ l := by
  cases h with
  | refl => exact .inl rfl
  | step _ hq _ => exact .inr (longL_sub hq)
def IsHop (l : List Rte) (r : Rte) (x : Hp) : Prop := ∃ s q, Led l r s ∧ q ∈ longL l s.h ∧ outB q = true ∧ x = hopOf s.h q
structure Walk (l : List Rte) (r : Rte) (V : List Rte) (O : List Hp) (V' : List Rte) (O' : List Hp) : Prop where
  me : r ∈ V'
  old : ∀ s ∈ V, s ∈ V'
  new : ∀ s ∈ V', s ∈ V ∨ Led l r s
  all : ∀ s ∈ V', s ∈ V ∨ ∀ q ∈ longL l s.h, onB q = true → q ∈ V'
  keep : ∀ x ∈ O, x ∈ O'
  hop : ∀ x ∈ O', x ∈ O ∨ IsHop l r x
  out : ∀ s ∈ V', s ∈ V ∨ ∀ q ∈ longL l s.h, outB q = true → hopOf s.h q ∈ O'
  nd : V'.Nodup
  sub : ∀ s ∈ V', s ∈ V ∨ s = r ∨ s ∈ l
  len : O'.length + V.length * 1000 ≤ O.length + V'.length * 1000
structure Part (l : List Rte) (r : Rte) (V : List Rte) (O : List Hp) (k : Nat) (V' : List Rte) (O' : List Hp) : Prop where
  me : r ∈ V'
  old : ∀ s ∈ V, s ∈ V'
  new : ∀ s ∈ V', s ∈ V ∨ Led l r s
  all : ∀ s ∈ V', s ∈ V ∨ s = r ∨ ∀ q ∈ longL l s.h, onB q = true → q ∈ V'
  mine : ∀ q ∈ (longL l r.h).take k, onB q = true → q ∈ V'
  keep : ∀ x ∈ O, x ∈ O'
  hop : ∀ x ∈ O', x ∈ O ∨ IsHop l r x
  out : ∀ s ∈ V', s ∈ V ∨ s = r ∨ ∀ q ∈ longL l s.h, outB q = true → hopOf s.h q ∈ O'
  omine : ∀ q ∈ (longL l r.h).take k, outB q = true → hopOf r.h q ∈ O'
  nd : V'.Nodup
  sub : ∀ s ∈ V', s ∈ V ∨ s = r ∨ s ∈ l
  len : O'.length + V.length * 1000 + 1000 ≤ O.length + V'.length * 1000 + k
section
variable {l : List Rte} {r : Rte} {V V' : List Rte} {O O' : List Hp} {k : Nat}
theorem Part.zero (hr : r ∉ V) (hn : V.Nodup) : Part l r V O 0 (V ++ [r]) O := by
  refine ⟨by simp, fun s h => List.mem_append_left _ h, fun s h => ?_, fun s h => ?_, by simp, fun x h => h, fun x h => .inl h, fun s h => ?_, by simp, ?_, fun s h => ?_, by rw [List.length_append, List.length_singleton]; omega⟩
  · rcases List.mem_append.1 h with h | h
    · exact .inl h
    · simp at h; subst h; exact .inr .refl
  · rcases List.mem_append.1 h with h | h
    · exact .inl h
    · simp at h; exact .inr (.inl h)
  · rcases List.mem_append.1 h with h | h
    · exact .inl h
    · simp at h; exact .inr (.inl h)
  · rw [List.nodup_append]
    exact ⟨hn, by simp, fun a ha b hb => by simp at hb; subst hb; rintro rfl; exact hr ha⟩
  · rcases List.mem_append.1 h with h | h
    · exact .inl h
    · simp at h; exact .inr (.inl h)
theorem Part.done (W : Part l r V O (longL l r.h).length V' O') (hl : (longL l r.h).length ≤ 1000) : Walk l r V O V' O' := by
  have h1 := W.mine
  have h2 := W.omine
  rw [List.take_length] at h1 h2
  refine ⟨W.me, W.old, W.new, fun s hs => ?_, W.keep, W.hop, fun s hs => ?_, W.nd, W.sub, by have := W.len; omega⟩
  · rcases W.all s hs with h | h | h
    · exact .inl h
    · subst h; exact .inr h1
    · exact .inr h
  · rcases W.out s hs with h | h | h
    · exact .inl h
    · subst h; exact .inr h2
    · exact .inr h
theorem Part.skip (W : Part l r V O k V' O') (hk : k < (longL l r.h).length) (h1 : onB (longL l r.h)[k] = true → (longL l r.h)[k] ∈ V') (h2 : outB (longL l r.h)[k] = false) : Part l r V O (k + 1) V' O' := by
  refine ⟨W.me, W.old, W.new, W.all, fun q hq ho => ?_, W.keep, W.hop, W.out, fun q hq ho => ?_, W.nd, W.sub, by have := W.len; omega⟩
  · rw [List.take_succ_eq_append_getElem hk, List.mem_append, List.mem_singleton] at hq
    rcases hq with hq | rfl
    · exact W.mine q hq ho
    · exact h1 ho
  · rw [List.take_succ_eq_append_getElem hk, List.mem_append, List.mem_singleton] at hq
    rcases hq with hq | rfl
    · exact W.omine q hq ho
    · rw [h2] at ho; cases ho
theorem Part.go (W : Part l r V O k V' O') (hk : k < (longL l r.h).length) (h2 : outB (longL l r.h)[k] = true) : Part l r V O (k + 1) V' (O' ++ [hopOf r.h (longL l r.h)[k]]) := by
  refine ⟨W.me, W.old, W.new, W.all, fun q hq ho => ?_, fun x hx => List.mem_append_left _ (W.keep x hx), fun x hx => ?_, fun s hs => ?_, fun q hq ho => ?_, W.nd, W.sub, by have := W.len; rw [List.length_append, List.length_singleton]; omega⟩
  · rw [List.take_succ_eq_append_getElem hk, List.mem_append, List.mem_singleton] at hq
    rcases hq with hq | rfl
    · exact W.mine q hq ho
    · unfold onB at ho; unfold outB at h2; simp_all
  · rcases List.mem_append.1 hx with hx | hx
    · exact W.hop x hx
    · simp at hx; exact .inr ⟨r, _, .refl, List.getElem_mem hk, h2, hx⟩
  · rcases W.out s hs with h | h | h
    · exact .inl h
    · exact .inr (.inl h)
    · exact .inr (.inr fun q hq ho => List.mem_append_left _ (h q hq ho))
  · rw [List.take_succ_eq_append_getElem hk, List.mem_append, List.mem_singleton] at hq
    rcases hq with hq | rfl
    · exact List.mem_append_left _ (W.omine q hq ho)
    · simp
theorem Part.on {V2 : List Rte} {O2 : List Hp} (W : Part l r V O k V' O') (hk : k < (longL l r.h).length) (h1 : onB (longL l r.h)[k] = true) (W2 : Walk l (longL l r.h)[k] V' O' V2 O2) : Part l r V O (k + 1) V2 O2 := by
  have hled : ∀ s, Led l (longL l r.h)[k] s → Led l r s := fun s h => (Led.refl.step (List.getElem_mem hk) h1).trans h
  refine ⟨W2.old _ W.me, fun s hs => W2.old _ (W.old s hs), fun s hs => ?_, fun s hs => ?_, fun q hq ho => ?_, fun x hx => W2.keep x (W.keep x hx), fun x hx => ?_, fun s hs => ?_, fun q hq ho => ?_, W2.nd, fun s hs => ?_, by have := W.len; have := W2.len; omega⟩
  · rcases W2.new s hs with h | h
    · exact W.new s h
    · exact .inr (hled s h)
  · rcases W2.all s hs with h | h
    · rcases W.all s h with h3 | h3 | h3
      · exact .inl h3
      · exact .inr (.inl h3)
      · exact .inr (.inr fun q hq ho => W2.old _ (h3 q hq ho))
    · exact .inr (.inr h)
  · rw [List.take_succ_eq_append_getElem hk, List.mem_append, List.mem_singleton] at hq
    rcases hq with hq | rfl
    · exact W2.old _ (W.mine q hq ho)
    · exact W2.me
  · rcases W2.hop x hx with h | ⟨s, q, h3, h4, h5, h6⟩
    · exact W.hop x h
    · exact .inr ⟨s, q, hled s h3, h4, h5, h6⟩
  · rcases W2.out s hs with h | h
    · rcases W.out s h with h3 | h3 | h3
      · exact .inl h3
      · exact .inr (.inl h3)
      · exact .inr (.inr fun q hq ho => W2.keep _ (h3 q hq ho))
    · exact .inr (.inr h)
  · rw [List.take_succ_eq_append_getElem hk, List.mem_append, List.mem_singleton] at hq
    rcases hq with hq | rfl
    · exact W2.keep _ (W.omine q hq ho)
    · unfold onB at h1; unfold outB at ho; simp_all
  · rcases W2.sub s hs with h | h | h
    · exact W.sub s h
    · subst h; exact .inr (.inr (longL_sub (List.getElem_mem hk)))
    · exact .inr (.inr h)
end
theorem Walk.hops {l : List Rte} {r : Rte} {V : List Rte} {O : List Hp} (W : Walk l r [] [] V O) (x : Hp) : x ∈ O ↔ IsHop l r x := by
  have hin : ∀ s, Led l r s → s ∈ V := fun s h => by
    induction h with
    | refl => exact W.me
    | step _ hq ho ih => exact ((W.all _ ih).resolve_left (by simp)) _ hq ho
  refine ⟨fun h => (W.hop x h).resolve_left (by simp), fun ⟨s, q, h1, h2, h3, h4⟩ => ?_⟩
  rw [h4]
  exact ((W.out s (hin s h1)).resolve_left (by simp)) q h2 h3
def leftN (l V : List Rte) : Nat := (l.filter fun s => !decide (s ∈ V)).length
theorem leftN_le {l V V' : List Rte} (h : ∀ s ∈ V, s ∈ V') : leftN l V' ≤ leftN l V := by
  unfold leftN
  induction l with
  | nil => exact Nat.le_refl _
  | cons a t ih =>
    by_cases h1 : a ∈ V
    · simp only [List.filter_cons, h1, h a h1, decide_true, Bool.not_true, Bool.false_eq_true, if_false]; exact ih
    · by_cases h2 : a ∈ V'
      · simp only [List.filter_cons, h1, h2, decide_true, decide_false, Bool.not_true, Bool.not_false, Bool.false_eq_true, if_false, if_true, List.length_cons]; omega
      · simp only [List.filter_cons, h1, h2, decide_false, Bool.not_false, if_true, List.length_cons]; omega
theorem leftN_lt {l V : List Rte} {q : Rte} (hq : q ∈ l) (h : q ∉ V) : leftN l (V ++ [q]) < leftN l V := by
  unfold leftN
  induction l with
  | nil => cases hq
  | cons a t ih =>
    have hle : (t.filter fun s => !decide (s ∈ V ++ [q])).length ≤ (t.filter fun s => !decide (s ∈ V)).length := leftN_le fun s hs => List.mem_append_left _ hs
    rcases List.mem_cons.1 hq with rfl | hq
    · simp only [List.filter_cons, h, decide_false, Bool.not_false, if_true, List.length_cons]
      simp only [List.mem_append, List.mem_singleton, or_true, decide_true, Bool.not_true, Bool.false_eq_true, if_false]
      simp only [List.mem_append, List.mem_singleton] at hle
      omega
    · have ih := ih hq
      by_cases h1 : a ∈ V
      · have h2 : a ∈ V ++ [q] := List.mem_append_left _ h1
        simp only [List.filter_cons, h1, h2, decide_true, Bool.not_true, Bool.false_eq_true, if_false]; exact ih
      · by_cases h2 : a ∈ V ++ [q]
        · simp only [List.filter_cons, h1, h2, decide_true, decide_false, Bool.not_true, Bool.not_false, Bool.false_eq_true, if_false, if_true, List.length_cons]; omega
        · simp only [List.filter_cons, h1, h2, decide_false, Bool.not_false, if_true, List.length_cons]; omega
noncomputable def ledSet (l : List Rte) (r : Rte) : List Hp := open Classical in ((r :: l).flatMap fun s => (longL l s.h).filterMap fun q => if Led l r s ∧ outB q = true then some (hopOf s.h q) else none)
theorem ledSet_mem {l : List Rte} {r : Rte} {x : Hp} : x ∈ ledSet l r ↔ IsHop l r x := by
  unfold ledSet
  rw [List.mem_flatMap]
  constructor
  · rintro ⟨s, _, hx⟩
    obtain ⟨q, hq, hx⟩ := List.mem_filterMap.1 hx
    split at hx
    · rename_i h; cases hx; exact ⟨s, q, h.1, hq, h.2, rfl⟩
    · cases hx
  · rintro ⟨s, q, h1, h2, h3, rfl⟩
    refine ⟨s, ?_, List.mem_filterMap.2 ⟨q, h2, if_pos ⟨h1, h3⟩⟩⟩
    rcases h1.mem with h | h
    · rw [h]; simp
    · exact List.mem_cons_of_mem _ h
noncomputable def ledH (l : List Rte) (r : Rte) : List Hp := if r.x then [] else if r.i ≠ [] then [⟨r.i, r.h⟩] else sortU ordH (ledSet l r)
theorem ledH_of {l : List Rte} {r : Rte} {O : List Hp} (hx : r.x = false) (hi : r.i = []) (h : ∀ x, x ∈ O ↔ IsHop l r x) : sortU ordH O = ledH l r := by
  unfold ledH
  rw [hx, if_neg (by simp), if_neg (by simpa using hi)]
  exact sortU_ext good_ordH ordH_eq fun x => by rw [h, ledSet_mem]
end Ab
end Go.Proofs.YtenolkolkpfjgaaGreat

namespace Go.Proofs
open Go.Shelf
def Tryz.lays106_ren : Go.Shelf.Ren := ⟨fun | 106 => 53 | 213 => 78 | 265 => 97 | n => n, fun | 9 => 9 | 3 => 3 | n => n, fun | n => n⟩
theorem Tryz.lays106 : Go.Proofs.Lays.n106 Tryz.prog Tryz.lays106_ren := {
  mixed := by kernel_rfl
  f106 := Tryz.func53.trans (congrArg some (by kernel_rfl))
  f213 := Tryz.func78.trans (congrArg some (by kernel_rfl))
  f265 := Tryz.func97.trans (congrArg some (by kernel_rfl))
  t3 := Tryz.underlying3
  a3 := Tryz.isAgg3
  z3 := Tryz.sizeOf3
  v3 := Tryz.zeroValue3
  t9 := Tryz.underlying9
  a9 := Tryz.isAgg9
  z9 := Tryz.sizeOf9
  v9 := Tryz.zeroValue9 }
end Go.Proofs

namespace Go.Proofs.YtenolkolkpfjgaaGreat.Ab
set_option linter.unusedVariables false
set_option maxRecDepth 100000
open Go.RowKit Go.Lib
set_option linter.unusedSimpArgs false
attribute [local irreducible] AWp AOps AQ AYield AEff ACall AWk AAny AAt AThen AIn APost NoPanic
def hopD (x : Hp) : List Dat := [.sc (.string ⟨⟨x.i⟩⟩), .sc (.int .u32 x.h)]
theorem hopD_len (x : Hp) : (hopD x).length = 2 := rfl
def hopA (x : Hp) : AVal := .agg [.d (.sc (.string ⟨⟨x.i⟩⟩)), .d (.sc (.int .u32 x.h))]
def hopV (x : Hp) : List Value := [.string ⟨⟨x.i⟩⟩, .int .u32 x.h]
def hopsA (l : List Hp) : AVal := .d (.sl (l.flatMap hopD) l.length)
def hopB (l : List Hp) : ABlk := .row 66 2 l.length (l.flatMap hopD)
theorem hopEq (x y : Hp) : eqCells (hopV x) (hopV y) = some (x == y) := by
  obtain ⟨a, b⟩ := x
  obtain ⟨c, d⟩ := y
  simp only [hopV, eqCells, eqV, if_true, mk_toList, Bool.and_true, Option.some.injEq]
  rw [Bool.eq_iff_iff]
  simp only [Bool.and_eq_true, beq_iff_eq, Hp.mk.injEq]
theorem strCmp_A (x y : List UInt8) : ACall Tryz.prog 53 [strA x, strA y] [] (Just (intA (compareBytes x y))) :=
  ACall_val (by kernel_rfl) rfl rfl rfl fun w => (Any.strings_Compare Tryz.lays106 ⟨⟨x⟩⟩ ⟨⟨y⟩⟩ w).mono fun _ _ ⟨he, hw⟩ => ⟨he, by rw [hw]; exact Below.refl _ _⟩
theorem ordH_first (x y : Hp) : firstI [compareBytes x.i y.i, c2 x.h y.h] = ordH x y := by
  have key : ∀ a : Int, (if a = 0 then 0 else a) = a := fun a => by split <;> omega
  simp only [firstI, ordH, lexc, key]
set_option maxHeartbeats 4000000 in
theorem hopCmp_A (x y : Hp) : ACall Tryz.prog 52 [hopA x, hopA y] [] (Just (intA (ordH x y))) := by
  have h1 := strCmp_A x.i y.i
  have h2 := compare_addr x.h y.h
  have h3 := or_int [compareBytes x.i y.i, c2 x.h y.h] (by simp)
  rw [ordH_first] at h3
  refine ACall_of tabOk Tryz.func52 rfl Tryz.ntmps52 (congrArg Array.toList Tryz.results52) (by kernel_rfl) rfl ?_
  repeat (first | refine q_Z ?_ | ((first | apply O_y rfl rfl rfl | apply Q_y rfl rfl rfl); (first | exact q_A | exact q_5 | exact q_B)) | refine q_d ?_ | refine q_a ?_ | refine q_b ?_ | refine q_c ?_ | refine A_ct rfl ?_ | refine A_cf rfl ?_ | refine q_W ?_)
  refine N_begin [] mixed ?_
  (apply q_P 0 rfl (by kernel_rfl) rfl rfl rfl; (first | exact q_A | exact q_5 | exact q_B | fail))
  (apply q_P 1 rfl (by kernel_rfl) rfl rfl rfl; (first | exact q_A | exact q_5 | exact q_B | fail))
  (apply q_P 2 rfl (by kernel_rfl) rfl rfl rfl; (first | exact q_A | exact q_5 | exact q_B | fail))
  (apply q_P 3 rfl (by kernel_rfl) rfl rfl rfl; (first | exact q_A | exact q_5 | exact q_B | fail))
  (apply q_P 5 rfl (by kernel_rfl) rfl rfl rfl; (first | exact q_A | exact q_5 | exact q_B | fail))
  (apply q_P 6 rfl (by kernel_rfl) rfl rfl rfl; (first | exact q_A | exact q_5 | exact q_B | fail))
  (apply q_P 7 rfl (by kernel_rfl) rfl rfl rfl; (first | exact q_A | exact q_5 | exact q_B | fail))
  (apply q_P 8 rfl (by kernel_rfl) rfl rfl rfl; (first | exact q_A | exact q_5 | exact q_B | fail))
  refine N_one (j := 4) (by kernel_rfl) ?_
  refine T_call rfl rfl rfl rfl rfl rfl h1 (fun _ => rfl) ?_
  refine N_one (j := 9) (by kernel_rfl) ?_
  refine T_call rfl rfl rfl rfl rfl rfl h2 (fun _ => rfl) ?_
  refine N_one (j := 10) (by kernel_rfl) ?_
  refine T_slice tabOk rfl rfl rfl rfl rfl rfl rfl rfl rfl rfl rfl rfl ?_
  refine N_one (j := 11) (by kernel_rfl) ?_
  refine T_cL rfl rfl rfl rfl rfl rfl h3 rfl (fun _ _ _ => val_mk _ _ _ _ _ rfl rfl) ?_
  (apply q_P 12 rfl (by kernel_rfl) rfl rfl rfl; (first | exact q_A | exact q_5 | exact q_B | fail))
  refine N_done (by kernel_rfl) ?_
  repeat (first | refine q_Z ?_ | ((first | apply O_y rfl rfl rfl | apply Q_y rfl rfl rfl); (first | exact q_A | exact q_5 | exact q_B)) | refine q_d ?_ | refine q_a ?_ | refine q_b ?_ | refine q_c ?_ | refine A_ct rfl ?_ | refine A_cf rfl ?_ | refine q_W ?_)
  exact X_ret rfl ⟨rfl, rfl⟩
end Go.Proofs.YtenolkolkpfjgaaGreat.Ab

/-
  Over abstract states: '==' on structs of plain cells; what holds no memory; contracts of calls that hand back such a value.
-/
import Derived.Test.YtaecjmjdhbjbkaaAbsRules
import Derived.Laws.StructEq
namespace Go.Proofs.Ytaecjmjdhbjbkaa.Ab
set_option linter.unusedVariables false
open Go.RowKit

def eqV : Value → Value → Option Bool
  | .int k a, .int k' b => if k = k' then some (a == b) else none
  | .bool a, .bool b => some (a == b)
  | .string a, .string b => some (a.toList == b.toList)
  | _, _ => none
def eqCells : List Value → List Value → Option Bool
  | [], [] => some true
  | a :: x, b :: y => match eqV a b, eqCells x y with
    | some p, some q => some (p && q)
    | _, _ => none
  | _, _ => none
/-- The plain cells of a type, in their order. -/
def leafsF (g : TypeId → Option (List Sh)) : List (Nat × TypeId) → List Sh → Option (List Sh)
  | [], acc => some acc
  | f :: r, acc => match g f.2 with
    | some m => cond (Nat.beq acc.length f.1) (leafsF g r (acc ++ m)) none
    | none => none
def leafs (tab : TTab) : Nat → TypeId → Option (List Sh)
  | 0, _ => none
  | n + 1, t => match tlook tab t with
    | none => none
    | some te => match (match te.sh with
      | .it k => some [Sh.it k]
      | .bo => some [Sh.bo]
      | .str => some [Sh.str]
      | .st fs => leafsF (leafs tab n) fs []
      | _ => none) with
      | some ks => cond (Nat.beq te.size ks.length) (some ks) none
      | none => none
def leafOk : Sh → Value → Bool
  | .it _, .int _ _ => true
  | .bo, .bool _ => true
  | .str, .string _ => true
  | _, _ => false
def leafsOk : List Sh → List Value → Bool
  | [], [] => true
  | s :: r, v :: l => leafOk s v && leafsOk r l
  | _, _ => false
theorem leafsOk_len {ks : List Sh} {xs : List Value} (h : leafsOk ks xs = true) : xs.length = ks.length := by
  induction ks generalizing xs with
  | nil => cases xs with
    | nil => rfl
    | cons _ _ => cases h
  | cons k r ih => cases xs with
    | nil => cases h
    | cons x l => simp only [leafsOk, Bool.and_eq_true] at h; simp [ih h.2]
theorem leafsOk_one {s : Sh} {xs : List Value} (h : leafsOk [s] xs = true) : ∃ v, xs = [v] ∧ leafOk s v = true := by
  cases xs with
  | nil => cases h
  | cons v r =>
    simp only [leafsOk, Bool.and_eq_true] at h
    cases r with
    | nil => exact ⟨v, rfl, h.1⟩
    | cons _ _ => exact absurd h.2 (by simp [leafsOk])
theorem leaf_int {k : IntKind} {v : Value} (h : leafOk (.it k) v = true) : ∃ q n, v = .int q n := by cases v <;> first | exact ⟨_, _, rfl⟩ | cases h
theorem leaf_bool {v : Value} (h : leafOk .bo v = true) : ∃ b, v = .bool b := by cases v <;> first | exact ⟨_, rfl⟩ | cases h
theorem leaf_str {v : Value} (h : leafOk .str v = true) : ∃ b, v = .string b := by cases v <;> first | exact ⟨_, rfl⟩ | cases h
theorem leafsOk_append {a b : List Sh} {xs : List Value} (h : leafsOk (a ++ b) xs = true) : leafsOk a (xs.take a.length) = true ∧ leafsOk b (xs.drop a.length) = true := by
  induction a generalizing xs with
  | nil => exact ⟨rfl, h⟩
  | cons k r ih => cases xs with
    | nil => cases h
    | cons x l =>
      simp only [List.cons_append, leafsOk, Bool.and_eq_true] at h
      obtain ⟨h1, h2⟩ := ih h.2
      exact ⟨by simp [leafsOk, h.1, h1], by simpa using h2⟩
theorem eqCells_append {a b x y : List Value} (hl : a.length = b.length) : eqCells (a ++ x) (b ++ y) = match eqCells a b, eqCells x y with
    | some p, some q => some (p && q)
    | _, _ => none := by
  induction a generalizing b with
  | nil => cases b with
    | nil => simp [eqCells]; cases eqCells x y <;> rfl
    | cons _ _ => simp at hl
  | cons u r ih => cases b with
    | nil => simp at hl
    | cons v s =>
      have := ih (b := s) (by simpa using hl)
      simp only [List.cons_append, eqCells, this]
      cases eqV u v <;> cases eqCells r s <;> cases eqCells x y <;> simp [Bool.and_assoc]

section
variable {P : Program} {tab : TTab} {T : List Nat} {e : Env} {h : Heap} {o : Oper}
theorem eqCells_some {ks : List Sh} {xs ys : List Value} {r : Bool} (h : eqCells xs ys = some r) : xs.length = ys.length := by
  induction xs generalizing ys r with
  | nil => cases ys with
    | nil => rfl
    | cons _ _ => cases h
  | cons a x ih => cases ys with
    | nil => cases h
    | cons b y =>
      simp only [eqCells] at h
      split at h
      · rename_i hq; simp [ih hq]
      · cases h
/-- The value whose cells are these. -/
def ofCells (ag : Bool) (xs : List Value) : Value := match ag, xs with
  | true, xs => .agg xs.toArray
  | false, v :: _ => v
  | false, [] => undef
theorem leafs_spec (TO : TabOk P tab) {n : Nat} {t : TypeId} {ks : List Sh} (hk : leafs tab (n + 1) t = some ks) : ∃ te, tlook tab t = some te ∧ te.size = ks.length ∧
    ((te.agg = true ∧ ∃ fs F, te.sh = .st fs ∧ leafsF (leafs tab n) fs [] = some ks ∧ P.underlying t = some (.struct F) ∧ F.toList.map (fun f => (f.offset, f.type)) = fs ∧ F.toList.all (fun f => f.name != "_") = true) ∨
     (te.agg = false ∧ ((∃ k, ks = [.it k] ∧ P.underlying t = some (.int k)) ∨ (ks = [.bo] ∧ P.underlying t = some .bool) ∨ (ks = [.str] ∧ P.underlying t = some .string)))) := by
  rw [leafs] at hk
  cases hl : tlook tab t with
  | none => rw [hl] at hk; cases hk
  | some te =>
    rw [hl] at hk
    simp only at hk
    obtain ⟨d, hd, ha, hs⟩ := (TO t te hl).und
    refine ⟨te, rfl, ?_⟩
    split at hk
    · rename_i ks' hm
      cases hb : Nat.beq te.size ks'.length with
      | false => rw [hb] at hk; cases hk
      | true =>
        rw [hb] at hk
        cases hk
        refine ⟨Nat.eq_of_beq_eq_true hb, ?_⟩
        split at hm
        · rename_i k hsh; rw [hsh] at hs; cases hs; cases hm; exact .inr ⟨ha.symm, .inl ⟨k, rfl, hd⟩⟩
        · rename_i hsh; rw [hsh] at hs; cases hs; cases hm; exact .inr ⟨ha.symm, .inr (.inl ⟨rfl, hd⟩)⟩
        · rename_i hsh; rw [hsh] at hs; cases hs; cases hm; exact .inr ⟨ha.symm, .inr (.inr ⟨rfl, hd⟩)⟩
        · rename_i fs hsh; rw [hsh] at hs; obtain ⟨F, rfl, h1, h2⟩ := hs; exact .inl ⟨ha.symm, fs, F, hsh, hm, hd, h1, h2⟩
        · cases hm
    · cases hk
theorem run_part {t : TypeId} {te : TE} (w : World) (Fa : TFacts P t te) (C : Array Value) (off : Nat) (hl : off + te.size ≤ C.size) (h1 : te.agg = false → te.size = 1) : (part t C off).run P w = .ok (ofCells te.agg (win C.toList off te.size)) w := by
  unfold part
  rw [Sem.run_bind, Fa.run_agg, Result.andThen_ok]
  cases ha : te.agg with
  | true =>
    simp only [if_true, Sem.run_bind, Fa.size, Result.andThen_ok]
    have e1 : C.extract off (off + te.size) = (win C.toList off te.size).toArray := by
      apply Array.ext'
      simp [win, Array.toList_extract]
    rw [e1]; rfl
  | false =>
    have h2 := h1 ha
    have hlt : off < C.size := by omega
    simp only [Bool.false_eq_true, if_false]
    rw [Array.getElem?_eq_getElem hlt]
    have : win C.toList off te.size = [C[off]] := by
      unfold win
      rw [h2, List.drop_eq_getElem_cons (by simpa using hlt)]
      simp
    rw [this]; rfl
theorem run_eqLeafs (TO : TabOk P tab) (hst : ∀ t, (tlook tab t).isSome = true → P.stoodInHeld t = false) : ∀ (n : Nat) (t : TypeId) (ks : List Sh) (xs ys : List Value) (r : Bool) (d : Nat) (te : TE) (w : World), leafs tab n t = some ks → tlook tab t = some te → leafsOk ks xs = true → leafsOk ks ys = true → eqCells xs ys = some r → n ≤ d →
    (Op.equalIn (d + 1) t (ofCells te.agg xs) (ofCells te.agg ys)).run P w = .ok r w := by
  intro n
  induction n with
  | zero => intro t ks xs ys r d te w hk; cases hk
  | succ n ih =>
    intro t ks xs ys r d te w hk ht hx hy hr hd
    obtain ⟨te0, h0, hsz, hcase⟩ := leafs_spec TO hk
    rw [ht] at h0; cases h0
    rcases hcase with ⟨ha, fs, F, hsh, hF, hu, hfs, hnm⟩ | ⟨ha, hcase⟩
    · have hfo : P.fieldsOf t = F := by simp [Program.fieldsOf, hu]
      rw [ha]
      show (Op.equalIn (d + 1) t (.agg xs.toArray) (.agg ys.toArray)).run P w = _
      rw [run_equalIn_struct w d t xs.toArray ys.toArray (by rw [hfo]; exact hu) (hst t (by rw [ht]; rfl)), hfo]
      have hlx := leafsOk_len hx
      have hly := leafsOk_len hy
      have key : ∀ (FL : List Field) (acc : List Sh) (r : Bool), leafsF (leafs tab n) (FL.map fun f => (f.offset, f.type)) acc = some ks → FL.all (fun f => f.name != "_") = true → eqCells (xs.drop acc.length) (ys.drop acc.length) = some r → leafsOk (ks.drop acc.length) (xs.drop acc.length) = true → leafsOk (ks.drop acc.length) (ys.drop acc.length) = true →
          acc.length ≤ ks.length → (Op.eqFields d xs.toArray ys.toArray FL).run P w = .ok r w := by
        intro FL
        induction FL with
        | nil =>
          intro acc r h1 _ h2 _ _ _
          cases h1
          rw [List.drop_eq_nil_of_le (by omega), List.drop_eq_nil_of_le (by omega)] at h2
          cases h2
          rfl
        | cons f FL ihF =>
          intro acc r h1 h2 h3 h4 h5 h6
          simp only [List.all_cons, Bool.and_eq_true] at h2
          rw [List.map_cons, leafsF] at h1
          cases hm : leafs tab n f.type with
          | none => rw [hm] at h1; cases h1
          | some m =>
            rw [hm] at h1
            simp only at h1
            cases hb : Nat.beq acc.length f.offset with
            | false => rw [hb] at h1; cases h1
            | true =>
              rw [hb, cond_true] at h1
              have hoff := Nat.eq_of_beq_eq_true hb
              have hpre : ∀ (fl : List (Nat × TypeId)) (acc ks : List Sh), leafsF (leafs tab n) fl acc = some ks → ∃ s, ks = acc ++ s := by
                intro fl
                induction fl with
                | nil => intro acc ks h; cases h; exact ⟨[], by simp⟩
                | cons g fl ihg =>
                  intro acc ks h
                  rw [leafsF] at h
                  cases hg : leafs tab n g.2 with
                  | none => rw [hg] at h; cases h
                  | some m' =>
                    rw [hg] at h
                    simp only at h
                    cases hb' : Nat.beq acc.length g.1 with
                    | false => rw [hb'] at h; cases h
                    | true =>
                      rw [hb', cond_true] at h
                      obtain ⟨s, hs⟩ := ihg _ _ h
                      exact ⟨m' ++ s, by rw [hs, List.append_assoc]⟩
              obtain ⟨s, hs⟩ := hpre _ _ _ h1
              have hle : acc.length + m.length ≤ ks.length := by rw [hs]; simp
              cases n with
              | zero => cases hm
              | succ n' =>
              obtain ⟨te', h7, h8, _⟩ := leafs_spec TO hm
              have h9 : te'.agg = false → te'.size = 1 := by
                obtain ⟨te2, g1, g2, g3⟩ := leafs_spec TO hm
                rw [h7] at g1; cases g1
                intro hag
                rcases g3 with ⟨g4, _⟩ | ⟨_, ⟨k, g5, _⟩ | ⟨g5, _⟩ | ⟨g5, _⟩⟩
                · rw [hag] at g4; cases g4
                all_goals rw [g2, g5]; rfl
              have hks : ks.drop acc.length = m ++ s := by rw [hs, List.append_assoc]; simp
              rw [hks] at h4 h5
              obtain ⟨h4a, h4b⟩ := leafsOk_append h4
              obtain ⟨h5a, h5b⟩ := leafsOk_append h5
              have ex : xs.drop acc.length = win xs f.offset te'.size ++ xs.drop (acc ++ m).length := by
                unfold win; rw [← hoff, h8, List.length_append, ← List.drop_drop, List.take_append_drop]
              have ey : ys.drop acc.length = win ys f.offset te'.size ++ ys.drop (acc ++ m).length := by
                unfold win; rw [← hoff, h8, List.length_append, ← List.drop_drop, List.take_append_drop]
              have hwx : (win xs f.offset te'.size).length = m.length := by unfold win; simp; omega
              have hwy : (win ys f.offset te'.size).length = m.length := by unfold win; simp; omega
              rw [ex, ey, eqCells_append (by omega)] at h3
              cases hp : eqCells (win xs f.offset te'.size) (win ys f.offset te'.size) with
              | none => rw [hp] at h3; cases h3
              | some p =>
                cases hq : eqCells (xs.drop (acc ++ m).length) (ys.drop (acc ++ m).length) with
                | none => rw [hp, hq] at h3; cases h3
                | some q =>
                  rw [hp, hq] at h3
                  cases h3
                  have wx : win xs f.offset te'.size = (xs.drop acc.length).take m.length := by unfold win; rw [← hoff, h8]
                  have wy : win ys f.offset te'.size = (ys.drop acc.length).take m.length := by unfold win; rw [← hoff, h8]
                  have hrun := ih f.type m (win xs f.offset te'.size) (win ys f.offset te'.size) p (d - 1) te' w hm h7 (by rw [wx]; exact h4a) (by rw [wy]; exact h5a) hp (by omega)
                  rw [show d - 1 + 1 = d by omega] at hrun
                  have hpa := run_part (P := P) w (TO _ _ h7) xs.toArray f.offset (by simp; omega) h9
                  have hpb := run_part (P := P) w (TO _ _ h7) ys.toArray f.offset (by simp; omega) h9
                  have hnext := ihF (acc ++ m) q h1 h2.2 hq (by
                    have : ks.drop (acc ++ m).length = s := by rw [hs]; simp
                    rw [this]
                    have e2 : xs.drop (acc ++ m).length = (xs.drop acc.length).drop m.length := by rw [List.drop_drop, List.length_append]
                    rw [e2]; exact h4b) (by
                    have : ks.drop (acc ++ m).length = s := by rw [hs]; simp
                    rw [this]
                    have e2 : ys.drop (acc ++ m).length = (ys.drop acc.length).drop m.length := by rw [List.drop_drop, List.length_append]
                    rw [e2]; exact h5b) (by simpa using hle)
                  have hne : f.name ≠ "_" := by simpa using h2.1
                  simp only [Op.eqFields, ne_eq, hne, not_false_eq_true, if_true, Sem.run_bind, hpa, hpb, Result.andThen_ok, hrun]
                  cases p with
                  | false => simp
                  | true => simpa using hnext
      refine key F.toList [] r (by rw [hfs]; exact hF) hnm (by simpa using hr) (by simpa using hx) (by simpa using hy) (Nat.zero_le _)
    · rw [ha]
      rcases hcase with ⟨k, rfl, hu⟩ | ⟨rfl, hu⟩ | ⟨rfl, hu⟩
      · obtain ⟨x, rfl, hx1⟩ := leafsOk_one hx
        obtain ⟨y, rfl, hy1⟩ := leafsOk_one hy
        obtain ⟨k1, a, rfl⟩ := leaf_int hx1
        obtain ⟨k2, b, rfl⟩ := leaf_int hy1
        have hr' : (match eqV (.int k1 a) (.int k2 b) with | some p => some (p && true) | none => none) = some r := by
          simp only [eqCells] at hr; cases hq : eqV (.int k1 a) (.int k2 b) <;> rw [hq] at hr <;> exact hr
        simp only [eqV] at hr'
        by_cases hkk : k1 = k2
        · subst hkk
          simp at hr'
          subst hr'
          exact run_equalIn_int w d t _ _ _ _ hu
        · simp [hkk] at hr'
      · obtain ⟨x, rfl, hx1⟩ := leafsOk_one hx
        obtain ⟨y, rfl, hy1⟩ := leafsOk_one hy
        obtain ⟨a, rfl⟩ := leaf_bool hx1
        obtain ⟨b, rfl⟩ := leaf_bool hy1
        simp [eqCells, eqV] at hr
        subst hr
        exact run_equalIn_bool' w d t _ _ hu
      · obtain ⟨x, rfl, hx1⟩ := leafsOk_one hx
        obtain ⟨y, rfl, hy1⟩ := leafsOk_one hy
        obtain ⟨a, rfl⟩ := leaf_str hx1
        obtain ⟨b, rfl⟩ := leaf_str hy1
        simp [eqCells, eqV] at hr
        subst hr
        exact run_equalIn_string w d t _ _ hu
/-- The values of plain cells. -/
def scL : List AVal → Option (List Value)
  | [] => some []
  | .d (.sc v) :: r => match scL r with
    | some l => some (v :: l)
    | none => none
  | _ :: _ => none
theorem scL_spec {w : World} {F : Nat → Prop} {ι : Nat → Option Value} {cs : List AVal} {xs : List Value} (h : scL cs = some xs) {C : Array Value} (hl : C.size = cs.length) (hr : ∀ (i : Nat) (c : AVal) (u : Value), cs[i]? = some c → C[i]? = some u → VRel w F ι c u) : C = xs.toArray := by
  have key : ∀ (cs : List AVal) (xs : List Value), scL cs = some xs → xs.length = cs.length ∧ ∀ (i : Nat) (v : Value), xs[i]? = some v → cs[i]? = some (.d (.sc v)) := by
    intro cs
    induction cs with
    | nil => intro xs h; cases h; exact ⟨rfl, by simp⟩
    | cons c r ih =>
      intro xs h
      have hv : ∃ v, c = .d (.sc v) := by
        cases c with
        | d x => cases x with
          | sc v => exact ⟨v, rfl⟩
          | sl _ _ => cases h
          | cut _ _ _ => cases h
        | _ => cases h
      obtain ⟨v, rfl⟩ := hv
      rw [scL] at h
      cases hr : scL r with
      | none => simp [hr] at h
      | some l =>
        simp [hr] at h
        subst h
        obtain ⟨h1, h2⟩ := ih l hr
        refine ⟨by simp [h1], fun i v' hi => ?_⟩
        cases i with
        | zero => simp at hi; subst hi; rfl
        | succ i => simpa using h2 i v' (by simpa using hi)
  obtain ⟨h1, h2⟩ := key cs xs h
  apply Array.ext
  · simp [hl, h1]
  · intro i hi hi2
    have hi3 : i < xs.length := by simpa using hi2
    exact (sc_of (hr i _ C[i] (h2 i xs[i] (List.getElem?_eq_getElem hi3)) (Array.getElem?_eq_getElem hi))).1
/-- '==', '!=' on structs. -/
theorem Y_eq {op : BinOp} {t u : TypeId} {x y : Operand} {cs ds : List AVal} {xs ys : List Value} {ks : List Sh} {r r2 : Bool} (TO : TabOk P tab) (hst : ∀ t, (tlook tab t).isSome = true → P.stoodInHeld t = false) (ho : o.op = .binOp op t x y u) (hx : aev e x = some (.agg cs)) (hy : aev e y = some (.agg ds))
    (h1 : scL cs = some xs) (h2 : scL ds = some ys) (hk : leafs tab 8 t = some ks) (hag : tagg tab t = some true) (hkx : leafsOk ks xs = true) (hky : leafsOk ks ys = true) (hg : P.eqGuardType P.depth t = false) (hr : eqCells xs ys = some r) (hop : (match op with | .eql => some r | .neq => some (!r) | _ => none) = some r2) :
    AYield P T e h o (.d (.sc (.bool r2))) := yield_of _ fun w F ι a E => by
  refine ⟨.bool r2, sc_rel rfl, fun w' => ?_⟩
  obtain ⟨te, h3, h4⟩ := tagg_spec hag
  have hvx := aev_rel E hx
  have hvy := aev_rel E hy
  generalize hax : a.eval x = u at hvx
  generalize hay : a.eval y = v at hvy
  cases hvx with
  | agg _ C hl hrr =>
    cases hvy with
    | agg _ D hl2 hrr2 =>
      have e1 := scL_spec h1 hl hrr
      have e2 := scL_spec h2 hl2 hrr2
      subst e1 e2
      have hrun := run_eqLeafs TO hst 8 t ks xs ys r 9999 te w' hk h3 hkx hky hr (by omega)
      rw [h4] at hrun
      have hrun2 : (Op.equalIn 10000 t (.agg xs.toArray) (.agg ys.toArray)).run P w' = .ok r w' := hrun
      simp only [execOp, ho, hax, hay]
      cases op <;> simp only [Option.some.injEq, reduceCtorEq] at hop
      · subst hop
        simp [run_eqGuard_agg w' .eql t x y _ _ hg, run_eql_struct, hrun2]
      · subst hop
        simp [run_eqGuard_agg w' .neq t x y _ _ hg, run_neq_struct, hrun2]
end

/-! ### What holds no memory -/
mutual
def oneA : AVal → Bool
  | .d (.sc v) => v.oneCell'
  | .agg cs => oneL cs
  | .tup cs => oneL cs
  | _ => false
def oneL : List AVal → Bool
  | [] => true
  | c :: r => oneA c && oneL r
end
mutual
theorem val_mk (w : World) (F : Nat → Prop) (ι : Nat → Option Value) : (c : AVal) → (v : Value) → valA c = some v → oneA c = true → VRel w F ι c v
  | .d (.sc u), v, h, h1 => by cases h; exact sc_rel h1
  | .agg cs, v, h, h1 => by
    rw [valA] at h
    cases hc : valL cs with
    | none => rw [hc] at h; cases h
    | some l =>
      rw [hc] at h
      cases h
      obtain ⟨h2, h3⟩ := valL_mk w F ι cs l hc h1
      exact .agg cs _ (by simpa using h2) fun i c u hi hu => h3 i c u hi (by simpa using hu)
  | .tup cs, v, h, h1 => by
    rw [valA] at h
    cases hc : valL cs with
    | none => rw [hc] at h; cases h
    | some l =>
      rw [hc] at h
      cases h
      obtain ⟨h2, h3⟩ := valL_mk w F ι cs l hc h1
      exact .tup cs _ (by simpa using h2) fun i c u hi hu => h3 i c u hi (by simpa using hu)
  | .d (.sl _ _), _, h, _ => by cases h
  | .top, _, h, _ => by cases h
  | .und, _, h, _ => by cases h
  | .ptr _ _, _, h, _ => by cases h
  | .eptr _ _, _, h, _ => by cases h
  | .iptr _ _, _, h, _ => by cases h
  | .row _, _, h, _ => by cases h
  | .mp _, _, h, _ => by cases h
  | .fn _ _, _, h, _ => by cases h
theorem valL_mk (w : World) (F : Nat → Prop) (ι : Nat → Option Value) : (cs : List AVal) → (l : List Value) → valL cs = some l → oneL cs = true → l.length = cs.length ∧ ∀ (i : Nat) (c : AVal) (u : Value), cs[i]? = some c → l[i]? = some u → VRel w F ι c u
  | [], l, h, _ => by cases h; exact ⟨rfl, by simp⟩
  | c :: r, l, h, h1 => by
    rw [valL] at h
    simp only [oneL, Bool.and_eq_true] at h1
    cases hc : valA c with
    | none => simp [hc] at h
    | some v =>
      cases hr : valL r with
      | none => simp [hc, hr] at h
      | some l' =>
        simp [hc, hr] at h
        subst h
        obtain ⟨h2, h3⟩ := valL_mk w F ι r l' hr h1.2
        refine ⟨by simp [h2], fun i c' u hi hu => ?_⟩
        cases i with
        | zero => simp at hi hu; subst hi hu; exact val_mk w F ι c v hc h1.1
        | succ i => exact h3 i c' u (by simpa using hi) (by simpa using hu)
end
/-- A contract of a call that makes garbage at most, told over values. -/
theorem ACall_val {P : Program} {f : FuncId} {cs : List AVal} {us : List Value} {c : AVal} {v : Value} (hg : isGo P f = true) (hu : valL cs = some us) (hv : valA c = some v) (h1 : oneA c = true)
    (H : ∀ w, Calls P f us.toArray w fun e w' => e = .returned v ∧ Below w.heap.size w w') : ACall P f cs [] (fun c' h' => c' = c ∧ h' = []) := ⟨hg, fun Pm F w0 pin ι xs w HH HA => by
  have hx : xs = us.toArray := by
    have h2 : VRel w F ι (.agg cs) (.agg xs) := .agg cs xs HA.1 HA.2
    have h3 : valA (.agg cs) = some (.agg us.toArray) := by rw [valA, hu]
    have h4 := valA_rel h2 h3
    injection h4
  subst hx
  refine (H w).mono ?_
  rintro e w' ⟨rfl, hb⟩
  exact ⟨v, c, [], ι, rfl, ⟨rfl, rfl⟩, HH.grew (Grew.of_below hb), val_mk _ _ _ c v hv h1⟩⟩
end Go.Proofs.Ytaecjmjdhbjbkaa.Ab

/-
  A runner of closed code: how a region that draws its order is reckoned; the runner, whole.
-/
import Derived.Test.YtplgpbadpdmeeaaRunDraw2
namespace Go.Proofs.Ytplgpbadpdmeeaa.Rn
set_option linter.unusedVariables false
open Go.RowKit
open Go.Proofs.Ytplgpbadpdmeeaa.Ab (TE TTab tlook TabOk TFacts win setW setW_get win_get Sh)

def ERk (e0 : Ev) (m : Nat) : List Rec → Nat → Nat → Option V
  | [], _, t => e0.get t
  | r :: rest, k, t => match tb m (k - 1) with
    | true => match r.dst with
      | some d => match Nat.beq d t with
        | true => some r.v
        | false => ERk e0 m rest (k - 1) t
      | none => ERk e0 m rest (k - 1) t
    | false => ERk e0 m rest (k - 1) t
theorem ERk_eq {e0 : Ev} {m t : Nat} : ∀ {R : List Rec} {k : Nat}, k = R.length → ERk e0 m R k t = ER e0.get (tb m) R t
  | [], _, _ => rfl
  | r :: rest, k, hk => by
    have hk : k - 1 = rest.length := by simp at hk; omega
    rw [ERk, ER, hk, ERk_eq rfl]
    cases tb m rest.length with
    | false => rfl
    | true => cases r.dst with
      | none => rfl
      | some d => dsimp only; cases Nat.beq d t <;> rfl
def HRk (h0 : Hp) (m : Nat) : List Rec → Nat → Nat → Option B
  | [], _, id => h0.get id
  | r :: rest, k, id => match tb m (k - 1) with
    | true => match lookD r.dl id with
      | some x => x
      | none => HRk h0 m rest (k - 1) id
    | false => HRk h0 m rest (k - 1) id
theorem HRk_eq {h0 : Hp} {m id : Nat} : ∀ {R : List Rec} {k : Nat}, k = R.length → HRk h0 m R k id = HR h0.get (tb m) R id
  | [], _, _ => rfl
  | r :: rest, k, hk => by
    have hk : k - 1 = rest.length := by simp at hk; omega
    rw [HRk, HR, hk, HRk_eq rfl]
    cases tb m rest.length with
    | false => rfl
    | true => cases lookD r.dl id <;> rfl
/-- On whom an operation waits, straight or through others. -/
def msks (rest : List Rec) (k : Nat) : List Edge → Option Nat
  | [] => some 0
  | ed :: r => match msks rest k r with
    | some m => match Region.binds .any ed with
      | true => match Nat.blt ed.on k with
        | true => match rest[k - 1 - ed.on]? with
          | some q => some (m ||| 2 ^ ed.on ||| q.msk)
          | none => none
        | false => none
      | false => some m
    | none => none
theorem tb_or (a b j : Nat) : tb (a ||| b) j = (tb a j || tb b j) := by unfold tb; exact Nat.testBit_or a b j
theorem tb_pow (n j : Nat) : tb (2 ^ n) j = true → j = n := by
  unfold tb
  rw [Nat.testBit_two_pow]
  intro h; exact (of_decide_eq_true h).symm
theorem tb_zero (j : Nat) : tb 0 j = false := by unfold tb; exact Nat.zero_testBit j
theorem nth_rev {rest : List Rec} {j : Nat} {q : Rec} (h : rest[rest.length - 1 - j]? = some q) (hj : j < rest.length) : ∃ pre rest', rest = pre ++ q :: rest' ∧ rest'.length = j := by
  obtain ⟨pre, r, rest', hR, hl⟩ := at_of hj
  refine ⟨pre, rest', ?_, hl⟩
  have : rest[rest.length - 1 - j]? = some r := by
    rw [hR, List.getElem?_append_right (by simp; omega)]
    simp
    have : pre.length + rest'.length - j - pre.length = 0 := by omega
    rw [this]; rfl
  rw [this] at h; cases h; exact hR
theorem msks_spec {rest : List Rec} {k : Nat} (hk : k = rest.length) : ∀ {l : List Edge} {m : Nat}, msks rest k l = some m → (∀ ed ∈ l, Region.binds .any ed = true → ed.on < k) ∧ ∀ j, tb m j = true → ∃ ed ∈ l, Region.binds .any ed = true ∧ ed.on < k ∧ (j = ed.on ∨ ∃ q rest', (∃ pre, rest = pre ++ q :: rest') ∧ rest'.length = ed.on ∧ tb q.msk j = true)
  | [], m, h => by cases h; exact ⟨by simp, fun j hj => by rw [tb_zero] at hj; cases hj⟩
  | ed :: r, m, h => by
    rw [msks] at h
    split at h
    · rename_i m0 h0
      obtain ⟨i1, i2⟩ := msks_spec hk h0
      split at h
      · rename_i hb
        split at h
        · rename_i hlt
          have hlt := blt_lt hlt
          split at h
          · rename_i q hq
            cases h
            refine ⟨fun e he hb' => ?_, fun j hj => ?_⟩
            · rcases List.mem_cons.1 he with rfl | he
              · exact hlt
              · exact i1 e he hb'
            · rw [tb_or, tb_or] at hj
              simp only [Bool.or_eq_true] at hj
              rcases hj with (hj | hj) | hj
              · obtain ⟨e, he, rest⟩ := i2 j hj
                exact ⟨e, by simp [he], rest⟩
              · exact ⟨ed, by simp, hb, hlt, .inl (tb_pow _ _ hj)⟩
              · subst hk
                obtain ⟨pre, rest', h1, h2⟩ := nth_rev hq hlt
                exact ⟨ed, by simp, hb, hlt, .inr ⟨q, rest', ⟨pre, h1⟩, h2, hj⟩⟩
          · cases h
        · cases h
      · rename_i hb
        cases h
        refine ⟨fun e he hb' => ?_, fun j hj => ?_⟩
        · rcases List.mem_cons.1 he with rfl | he
          · rw [hb] at hb'; cases hb'
          · exact i1 e he hb'
        · obtain ⟨e, he, rest⟩ := i2 j hj
          exact ⟨e, by simp [he], rest⟩
    · cases h
/-- The slots that an operation looks at. -/
def tmpsOf : List Operand → List Nat
  | [] => []
  | .tmp t :: r => t :: tmpsOf r
  | _ :: r => tmpsOf r
def lksOf (ops : Array Oper) (o : Oper) : List Nat := match o.guard with
  | some (j, _) => match (ops[j]?).bind (·.dst) with
    | some t => t :: tmpsOf o.op.operands.toList
    | none => tmpsOf o.op.operands.toList
  | none => tmpsOf o.op.operands.toList
def mkEj (e0 : Ev) (m : Nat) (rest : List Rec) (k : Nat) : List Nat → Ev
  | [] => .nil
  | t :: r => match ERk e0 m rest k t with
    | some c => (mkEj e0 m rest k r).set t c
    | none => mkEj e0 m rest k r
theorem mkEj_spec {e0 : Ev} {m : Nat} {rest : List Rec} {k : Nat} (hk : k = rest.length) : ∀ {l : List Nat} {t : Nat} {c : V}, (mkEj e0 m rest k l).get t = some c → t ∈ l ∧ ER e0.get (tb m) rest t = some c
  | [], t, c, h => by cases h
  | s :: r, t, c, h => by
    rw [mkEj] at h
    split at h
    · rename_i c0 h0
      rw [Tr.get_set] at h
      split at h
      · rename_i hts; subst hts; cases h; exact ⟨by simp, by rw [← ERk_eq hk]; exact h0⟩
      · obtain ⟨h1, h2⟩ := mkEj_spec hk h; exact ⟨by simp [h1], h2⟩
    · obtain ⟨h1, h2⟩ := mkEj_spec hk h; exact ⟨by simp [h1], h2⟩
mutual
def V.ids : V → List Nat
  | .ptr id _ => [id]
  | .sl id _ _ _ _ => [id]
  | .mp id => [id]
  | .fn _ cs => idsL cs
  | .ifc _ v => v.ids
  | .agg cs => idsL cs
  | .tup cs => idsL cs
  | _ => []
def idsL : List V → List Nat
  | [] => []
  | c :: r => c.ids ++ idsL r
end
def entIds : List (V × V × Nat) → List Nat
  | [] => []
  | p :: r => p.1.ids ++ (p.2.1.ids ++ entIds r)
def B.ids : B → List Nat
  | .cells cs _ => idsL cs
  | .map es _ => entIds es
  | .mit (some id) _ _ _ => [id]
  | _ => []
def reach (get : Nat → Option B) : Nat → List Nat → List Nat → List Nat
  | 0, _, seen => seen
  | _ + 1, [], seen => seen
  | f + 1, id :: w, seen => match seen.contains id with
    | true => reach get f w seen
    | false => match get id with
      | some b => reach get f (b.ids ++ w) (id :: seen)
      | none => reach get f w seen
def rootIds (e : Ev) : List Operand → List Nat
  | [] => []
  | x :: r => match ev e x with
    | some v => v.ids ++ rootIds e r
    | none => rootIds e r
def midsOf (get : Nat → Option B) : List Nat → List Nat
  | [] => []
  | id :: r => match get id with
    | some (.mit (some m) _ _ _) => m :: midsOf get r
    | _ => midsOf get r
/-- The blocks that an operation may come to. -/
def touch (get : Nat → Option B) (e : Ev) (o : Oper) : List Nat := match o.op with
  | .call c => match c.callee with
    | .value _ => reach get 100000 (rootIds e o.op.operands.toList) []
    | _ => rootIds e o.op.operands.toList
  | .next _ _ => rootIds e o.op.operands.toList ++ midsOf get (rootIds e o.op.operands.toList)
  | _ => rootIds e o.op.operands.toList
def mkH (get : Nat → Option B) (n : Nat) : List Nat → Hp
  | [] => .nil
  | id :: r => match get id with
    | some b => match Nat.blt id n with
      | true => (mkH get n r).set id b
      | false => mkH get n r
    | none => mkH get n r
theorem mkH_spec {get : Nat → Option B} {n : Nat} : ∀ {l : List Nat} {id : Nat} {b : B}, (mkH get n l).get id = some b → id ∈ l ∧ get id = some b ∧ id < n
  | [], id, b, h => by cases h
  | j :: r, id, b, h => by
    rw [mkH] at h
    split at h
    · rename_i b0 h0
      split at h
      · rename_i hlt
        rw [Tr.get_set] at h
        split at h
        · rename_i hij; subst hij; cases h; exact ⟨by simp, h0, blt_lt hlt⟩
        · obtain ⟨h1, h2⟩ := mkH_spec h; exact ⟨by simp [h1], h2⟩
      · obtain ⟨h1, h2⟩ := mkH_spec h; exact ⟨by simp [h1], h2⟩
    · obtain ⟨h1, h2⟩ := mkH_spec h; exact ⟨by simp [h1], h2⟩
/-- n, .., n + k - 1. -/
def rng : Nat → Nat → List Nat
  | _, 0 => []
  | n, k + 1 => n :: rng (n + 1) k
theorem mem_rng {id : Nat} : ∀ {k n : Nat}, id ∈ rng n k ↔ n ≤ id ∧ id < n + k
  | 0, n => ⟨fun h => (by cases h), fun h => by omega⟩
  | k + 1, n => by rw [rng, List.mem_cons, mem_rng (k := k)]; omega
def geOf (lo : Nat) : List Nat → List Nat
  | [] => []
  | id :: r => match Nat.ble lo id with
    | true => id :: geOf lo r
    | false => geOf lo r
theorem mem_ge {lo id : Nat} : ∀ {l : List Nat}, id ∈ geOf lo l ↔ id ∈ l ∧ lo ≤ id
  | [] => by simp [geOf]
  | j :: r => by
    rw [geOf]
    split
    · rename_i hb
      have hb := Nat.le_of_ble_eq_true hb
      rw [List.mem_cons, List.mem_cons, mem_ge (l := r)]
      constructor
      · rintro (rfl | ⟨h1, h2⟩)
        · exact ⟨.inl rfl, hb⟩
        · exact ⟨.inr h1, h2⟩
      · rintro ⟨rfl | h1, h2⟩
        · exact .inl rfl
        · exact .inr ⟨h1, h2⟩
    · rename_i hb
      have hb : ¬ lo ≤ j := fun h => by rw [Nat.ble_eq_true_of_le h] at hb; cases hb
      rw [List.mem_cons, mem_ge (l := r)]
      constructor
      · rintro ⟨h1, h2⟩; exact ⟨.inr h1, h2⟩
      · rintro ⟨rfl | h1, h2⟩
        · omega
        · exact ⟨h1, h2⟩
def dlOf (get : Nat → Option B) : List Nat → List (Nat × Option B)
  | [] => []
  | id :: r => (id, get id) :: dlOf get r
theorem dlOf_spec {get : Nat → Option B} {id : Nat} : ∀ {l : List Nat}, (id ∈ l → lookD (dlOf get l) id = some (get id)) ∧ (id ∉ l → lookD (dlOf get l) id = none)
  | [] => ⟨fun h => (by cases h), fun _ => rfl⟩
  | j :: r => by
    obtain ⟨h1, h2⟩ := dlOf_spec (get := get) (id := id) (l := r)
    rw [dlOf, lookD]
    by_cases hj : j = id
    · subst hj; simp
    · simp only [Ab.beq_no hj, cond_false]
      refine ⟨fun h => h1 ((List.mem_cons.1 h).resolve_left (Ne.symm hj)), fun h => h2 fun hh => h (by simp [hh])⟩
def noneInA (rd : List Nat) : List (Nat × Option B) → Bool
  | [] => true
  | p :: r => !rd.contains p.1 && noneInA rd r
def noneIn (dl : List (Nat × Option B)) (rd : List Nat) : Bool := rd.isEmpty || noneInA rd dl
theorem noneInA_spec {rd : List Nat} : ∀ {dl : List (Nat × Option B)}, noneInA rd dl = true → ∀ id x, lookD dl id = some x → id ∉ rd
  | [], h, id, x, hl => by cases hl
  | p :: r, h, id, x, hl => by
    rw [noneInA] at h
    simp only [Bool.and_eq_true, Bool.not_eq_true'] at h
    rw [lookD] at hl
    by_cases hp : p.1 = id
    · subst hp
      intro hm
      have := List.contains_iff_mem.2 hm
      rw [this] at h; cases h.1
    · rw [Ab.beq_no hp, cond_false] at hl
      exact noneInA_spec h.2 id x hl
theorem noneIn_spec {rd : List Nat} {dl : List (Nat × Option B)} (h : noneIn dl rd = true) : ∀ id x, lookD dl id = some x → id ∉ rd := by
  unfold noneIn at h
  simp only [Bool.or_eq_true] at h
  rcases h with h | h
  · intro id x _
    cases rd with
    | nil => simp
    | cons a t => cases h
  · exact noneInA_spec h
def notIn (d : Option Tmp) (l : List Nat) : Bool := match d with
  | some t => !l.contains t
  | none => true
theorem notIn_spec {d : Option Tmp} {l : List Nat} (h : notIn d l = true) : ∀ t, d = some t → t ∉ l := fun t hd hm => by
  subst hd
  have := List.contains_iff_mem.2 hm
  rw [notIn, this] at h; cases h
def apartB (r q : Rec) : Bool := noneIn r.dl q.rd && noneIn q.dl r.rd && notIn r.dst q.lk && notIn q.dst r.lk
theorem apartB_spec {r q : Rec} (h : apartB r q = true) : apart r q := by
  unfold apartB at h
  simp only [Bool.and_eq_true] at h
  exact ⟨noneIn_spec h.1.1.1, noneIn_spec h.1.1.2, notIn_spec h.1.2, notIn_spec h.2⟩
def sameDst (a b : Option Tmp) : Bool := match a, b with
  | some x, some y => Nat.beq x y
  | _, _ => false
def freeB (r : Rec) : List Rec → Nat → Bool
  | [], _ => true
  | q :: rest, k => (tb r.msk (k - 1) || apartB r q) && !sameDst r.dst q.dst && freeB r rest (k - 1)
theorem freeB_spec {r : Rec} : ∀ {rest : List Rec} {k : Nat}, k = rest.length → freeB r rest k = true → (∀ pre q rest', rest = pre ++ q :: rest' → tb r.msk rest'.length = false → apart r q) ∧ ∀ d, r.dst = some d → ∀ q ∈ rest, q.dst ≠ some d
  | [], k, _, _ => ⟨fun pre q rest' h => by simp at h, fun d _ q hq => by cases hq⟩
  | q :: rest, k, hk, h => by
    rw [freeB] at h
    simp only [Bool.and_eq_true, Bool.or_eq_true, Bool.not_eq_true'] at h
    have hk : k - 1 = rest.length := by simp at hk; omega
    obtain ⟨h1, h2⟩ := freeB_spec hk h.2
    refine ⟨fun pre q' rest' he ht => ?_, fun d hd q' hq => ?_⟩
    · cases pre with
      | nil =>
        cases he
        rcases h.1.1 with h3 | h3
        · rw [hk, ht] at h3; cases h3
        · exact apartB_spec h3
      | cons p pre => cases he; exact h1 pre q' rest' rfl ht
    · rcases List.mem_cons.1 hq with rfl | hq
      · intro hd2
        have := h.1.2
        rw [hd, hd2] at this
        simp [sameDst] at this
      · exact h2 d hd q' hq
def dstB (nt : Nat) : Option Tmp → Bool
  | some t => Nat.blt t nt
  | none => true
structure DS where
  rs : List Rec
  k : Nat
  n : Nat
  lo : Nat
def addR (nt : Nat) (d : DS) (r : Rec) (lo : Nat) : Option DS := match dstB nt r.dst && freeB r d.rs d.k with
  | true => some ⟨r :: d.rs, d.k + 1, r.n', lo⟩
  | false => none
section
variable (P : Program) (tab : TTab)
def dstepT (call : FuncId → List V → Nat → Hp → Nat → R) (known : FuncId → Bool) (h0 : Hp) (nt : Nat) (d : DS) (o : Oper) (m : Nat) (lk : List Nat) (ej : Ev) (T : List Nat) : Option DS :=
  match rop P tab ej d.n (mkH (HRk h0 m d.rs d.k) d.n T) d.n o call known with
  | some r => match Nat.blt r.2.2.2 d.n with
    | true => addR nt d ⟨m, o.dst, r.1, dlOf r.2.2.1.get (geOf r.2.2.2 T ++ rng d.n (r.2.1 - d.n)), T, lk, d.n, r.2.1⟩ (lmin r.2.2.2 d.lo)
    | false => addR nt d ⟨m, o.dst, r.1, dlOf r.2.2.1.get (rng d.n (r.2.1 - d.n)), T, lk, d.n, r.2.1⟩ d.lo
  | none => none
def dstep (call : FuncId → List V → Nat → Hp → Nat → R) (known : FuncId → Bool) (ops : Array Oper) (e0 : Ev) (h0 : Hp) (nt : Nat) (d : DS) (o : Oper) : Option DS :=
  match msks d.rs d.k o.after.toList with
  | none => none
  | some m => match wantV ops (mkEj e0 m d.rs d.k (lksOf ops o)) o with
    | none => none
    | some false => addR nt d ⟨m, o.dst, .sc undef, [], [], lksOf ops o, d.n, d.n⟩ d.lo
    | some true => dstepT P tab call known h0 nt d o m (lksOf ops o) (mkEj e0 m d.rs d.k (lksOf ops o)) (touch (HRk h0 m d.rs d.k) (mkEj e0 m d.rs d.k (lksOf ops o)) o)
def dgo (call : FuncId → List V → Nat → Hp → Nat → R) (known : FuncId → Bool) (ops : Array Oper) (e0 : Ev) (h0 : Hp) (nt : Nat) : List Oper → DS → Option DS
  | [], d => some d
  | o :: r, d => match dstep P tab call known ops e0 h0 nt d o with
    | some d' => dgo call known ops e0 h0 nt r d'
    | none => none
def finE (e0 : Ev) : List Rec → Ev
  | [] => e0
  | r :: rest => match r.dst with
    | some d => (finE e0 rest).set d r.v
    | none => finE e0 rest
def applyD : List (Nat × Option B) → Hp → Hp
  | [], h => h
  | p :: r, h => match p.2 with
    | some b => (applyD r h).set p.1 b
    | none => (applyD r h).del p.1
def finH (h0 : Hp) : List Rec → Hp
  | [] => h0
  | r :: rest => applyD r.dl (finH h0 rest)
/-- A region that draws its order. -/
def rdraw (call : FuncId → List V → Nat → Hp → Nat → R) (known : FuncId → Bool) (nt : Nat) (ops : Array Oper) (s : St) : Option St :=
  match dgo P tab call known ops s.e s.h nt ops.toList ⟨[], 0, s.n, s.lo⟩ with
  | some d => some ⟨finE s.e d.rs, d.n, finH s.h d.rs, d.lo⟩
  | none => none
end
theorem finE_get {e0 : Ev} {t : Nat} : ∀ {R : List Rec}, (finE e0 R).get t = ER e0.get (fun _ => true) R t
  | [] => rfl
  | r :: rest => by
    rw [finE, ER]
    cases hd : r.dst with
    | none => exact finE_get
    | some d =>
      dsimp only
      rw [Tr.get_set]
      by_cases ht : t = d
      · subst ht; simp
      · rw [if_neg ht, Ab.beq_no (Ne.symm ht)]; exact finE_get
theorem applyD_get {id : Nat} : ∀ {dl : List (Nat × Option B)} {h : Hp}, (applyD dl h).get id = match lookD dl id with | some x => x | none => h.get id
  | [], h => rfl
  | p :: r, h => by
    rw [applyD, lookD]
    by_cases hp : p.1 = id
    · subst hp
      rw [Ab.beq_yes, cond_true]
      cases hx : p.2 with
      | some b => dsimp only; rw [Tr.get_set, if_pos rfl]
      | none => dsimp only; rw [Tr.get_del, if_pos rfl]
    · rw [Ab.beq_no hp, cond_false]
      cases hx : p.2 with
      | some b => dsimp only; rw [Tr.get_set, if_neg (Ne.symm hp)]; exact applyD_get
      | none => dsimp only; rw [Tr.get_del, if_neg (Ne.symm hp)]; exact applyD_get
theorem finH_get {h0 : Hp} {id : Nat} : ∀ {R : List Rec}, (finH h0 R).get id = HR h0.get (fun _ => true) R id
  | [] => rfl
  | r :: rest => by
    rw [finH, HR, applyD_get]
    dsimp only
    cases lookD r.dl id with
    | some x => rfl
    | none => exact finH_get
theorem all_congr {g0 : Gm} {e0 : Nat → Option V} {n0 : Nat} {L S : Nat → Bool} {id : Nat} : ∀ {R : List Rec}, (∀ j, j < R.length → L j = S j) → HR g0 L R id = HR g0 S R id ∧ ER e0 L R id = ER e0 S R id
  | [], _ => ⟨rfl, rfl⟩
  | r :: rest, h => by
    obtain ⟨h1, h2⟩ := all_congr (g0 := g0) (e0 := e0) (n0 := n0) (L := L) (S := S) (id := id) (R := rest) fun j hj => h j (by simp; omega)
    rw [HR, HR, ER, ER, h rest.length (by simp), h1, h2]
    exact ⟨rfl, rfl⟩
/-- What holds while a region is reckoned. -/
structure DOk (P : Program) (ops : Array Oper) (e0 : Ev) (h0 : Hp) (n0 lo0 nt : Nat) (d : DS) : Prop where
  all : AllOk P ops h0.get e0.get n0 nt d.rs
  len : d.k = d.rs.length
  num : lastN n0 d.rs = d.n
  edges : ∀ i o, i < d.k → ops[i]? = some o → ∀ ed ∈ o.after, Region.binds .any ed = true → ed.on < i
  lo : d.lo ≤ lo0
  low : ∀ r ∈ d.rs, ∀ id x, lookD r.dl id = some x → d.lo ≤ id ∨ n0 ≤ id
  bd : ∀ r ∈ d.rs, ∀ id b, lookD r.dl id = some (some b) → id < d.n
  nn : ∀ id, id < n0 → h0.get id = none → ∀ S, HR h0.get S d.rs id = none
section
variable {P : Program} {tab : TTab} {ops : Array Oper} {e0 : Ev} {h0 : Hp} {n0 lo0 nt : Nat}
theorem addR_ok {d d' : DS} {r : Rec} {lo : Nat} {o : Oper} (D : DOk P ops e0 h0 n0 lo0 nt d) (ha : addR nt d r lo = some d') (ho : ops[d.k]? = some o) (hop : ops[d.rs.length]? = some o ∧ o.dst = r.dst ∧ ∃ ej : Ev, (∀ t c, ej.get t = some c → t ∈ r.lk ∧ ER e0.get (tb r.msk) d.rs t = some c) ∧
      ((wantV ops ej o = some false ∧ r.v = .sc undef ∧ r.dl = [] ∧ r.n' = r.n) ∨
       (wantV ops ej o = some true ∧ ∃ hin hout : Hp, Wp P o ej r.n hin r.v r.n' hout ∧ (∀ id b, hin.get id = some b → id ∈ r.rd ∧ HR h0.get (tb r.msk) d.rs id = some b) ∧ (∀ id, hout.get id = match lookD r.dl id with | some x => x | none => hin.get id) ∧
        (∀ id x, lookD r.dl id = some x → id ∈ r.rd ∨ (r.n ≤ id ∧ id < r.n')) ∧ (∀ id, id < r.n → hin.get id = none → hout.get id = none))))
    (hm : msks d.rs d.k o.after.toList = some r.msk) (hn : r.n = d.n) (hnn : r.n ≤ r.n') (hlo : lo ≤ d.lo) (hlow : ∀ id x, lookD r.dl id = some x → lo ≤ id ∨ n0 ≤ id) (hbd : ∀ id b, lookD r.dl id = some (some b) → id < r.n') : DOk P ops e0 h0 n0 lo0 nt d' ∧ d'.k = d.k + 1 := by
  unfold addR at ha
  split at ha
  · rename_i hc
    cases ha
    simp only [Bool.and_eq_true] at hc
    obtain ⟨hdst, hfree⟩ := hc
    obtain ⟨f1, f2⟩ := freeB_spec D.len hfree
    obtain ⟨m1, m2⟩ := msks_spec D.len hm
    have hrec : RecOk P ops h0.get e0.get n0 nt d.rs r := by
      refine ⟨⟨o, hop⟩, fun j hj => ?_, fun t ht => ⟨?_, f2 t ht⟩, ⟨?_, hnn⟩, f1⟩
      · obtain ⟨ed, h1, h2, h3, h4⟩ := m2 j hj
        have hlen := D.len
        refine ⟨?_, o, hop.1, ed, by simpa using h1, h2, h4⟩
        rcases h4 with rfl | ⟨q, rest', ⟨pre, hp⟩, hl, hq⟩
        · omega
        · have hall := D.all
          rw [hp] at hall
          have := (hall.at.waits j hq).1
          rw [hp]; simp; omega
      · rw [ht] at hdst; exact blt_lt hdst
      · have := D.num
        rw [hn, ← this]
        cases d.rs <;> rfl
    have hnum := D.num
    refine ⟨⟨⟨hrec, D.all⟩, by simp [D.len], rfl, fun i o' hi ho' ed hed hb => ?_, by have := D.lo; dsimp only; omega, fun q hq id x hl => ?_, fun q hq id b hl => ?_, fun id hid h00 S => ?_⟩, rfl⟩
    · dsimp only at hi
      by_cases he : i = d.k
      · subst he
        rw [ho] at ho'; cases ho'
        exact m1 ed (by simpa using hed) hb
      · exact D.edges i o' (by omega) ho' ed hed hb
    · rcases List.mem_cons.1 hq with rfl | hq
      · exact hlow id x hl
      · have := D.low q hq id x hl
        dsimp only; omega
    · rcases List.mem_cons.1 hq with rfl | hq
      · exact hbd id b hl
      · have := D.bd q hq id b hl
        dsimp only; omega
    · have ih := D.nn id hid h00
      show HR h0.get S (r :: d.rs) id = none
      rw [HR]
      split
      · split
        · rename_i x hx
          obtain ⟨_, _, ej, _, hcase⟩ := hop
          rcases hcase with ⟨_, _, hdl, _⟩ | ⟨_, hin, hout, _, q1, q2, q3, q4⟩
          · rw [hdl] at hx; cases hx
          · have hxo : hout.get id = x := by rw [q2, hx]
            rw [← hxo]
            refine q4 id ?_ ?_
            · have := (nums_le D.all).1
              rw [hnum] at this
              omega
            · cases hg : hin.get id with
              | none => rfl
              | some b => have := (q1 id b hg).2; rw [ih] at this; cases this
        · exact ih S
      · exact ih S
  · cases ha
theorem dstep_ok {call : FuncId → List V → Nat → Hp → Nat → R} {known : FuncId → Bool} (TO : TabOk P tab) (CO : CallOk P call) {d d' : DS} {o : Oper} (D : DOk P ops e0 h0 n0 lo0 nt d) (ho : ops[d.k]? = some o) (hd : dstep P tab call known ops e0 h0 nt d o = some d') : DOk P ops e0 h0 n0 lo0 nt d' ∧ d'.k = d.k + 1 := by
  have hlen := D.len
  unfold dstep at hd
  split at hd
  · cases hd
  · rename_i m hm
    have hej : ∀ t c, (mkEj e0 m d.rs d.k (lksOf ops o)).get t = some c → t ∈ lksOf ops o ∧ ER e0.get (tb m) d.rs t = some c := fun t c h => mkEj_spec D.len h
    have ho2 : ops[d.rs.length]? = some o := by rw [← D.len]; exact ho
    split at hd
    · cases hd
    · rename_i hw
      exact addR_ok D hd ho ⟨ho2, rfl, _, hej, .inl ⟨hw, rfl, rfl, rfl⟩⟩ hm rfl (Nat.le_refl _) (Nat.le_refl _) (fun id x hl => by cases hl) (fun id b hl => by cases hl)
    · rename_i hw
      unfold dstepT at hd
      split at hd
      · rename_i r hr
        obtain ⟨g1, g2⟩ := rop_good TO CO hr
        have hhin : ∀ id b, (mkH (HRk h0 m d.rs d.k) d.n (touch (HRk h0 m d.rs d.k) (mkEj e0 m d.rs d.k (lksOf ops o)) o)).get id = some b → id ∈ touch (HRk h0 m d.rs d.k) (mkEj e0 m d.rs d.k (lksOf ops o)) o ∧ HR h0.get (tb m) d.rs id = some b := fun id b h => by
          obtain ⟨h1, h2, _⟩ := mkH_spec h
          exact ⟨h1, by rw [← HRk_eq D.len]; exact h2⟩
        have hbd0 : ∀ id b, (mkH (HRk h0 m d.rs d.k) d.n (touch (HRk h0 m d.rs d.k) (mkEj e0 m d.rs d.k (lksOf ops o)) o)).get id = some b → id < d.n := fun id b h => (mkH_spec h).2.2
        have hbd1 := g1.bd hbd0
        have hsame := g1.same (Nat.le_refl _)
        have hle := g1.le
        split at hd
        · rename_i hwr
          have hwr := blt_lt hwr
          refine addR_ok D hd ho ⟨ho2, rfl, _, hej, .inr ⟨hw, _, r.2.2.1, g2, hhin, fun id => ?_, fun id x hl => ?_, g1.nn⟩⟩ hm rfl hle (lmin_r _ _) (fun id x hl => ?_) (fun id b hl => ?_)
          · dsimp only
            by_cases hid : id ∈ geOf r.2.2.2 (touch (HRk h0 m d.rs d.k) (mkEj e0 m d.rs d.k (lksOf ops o)) o) ++ rng d.n (r.2.1 - d.n)
            · rw [(dlOf_spec).1 hid]
            · rw [(dlOf_spec).2 hid]
              dsimp only
              rw [List.mem_append, mem_ge, mem_rng] at hid
              by_cases h1 : id < r.2.2.2
              · exact hsame id h1
              · -- neither looked at nor new
                have h2 : id ∉ touch (HRk h0 m d.rs d.k) (mkEj e0 m d.rs d.k (lksOf ops o)) o := fun hh => hid (.inl ⟨hh, by omega⟩)
                have h3 : (mkH (HRk h0 m d.rs d.k) d.n (touch (HRk h0 m d.rs d.k) (mkEj e0 m d.rs d.k (lksOf ops o)) o)).get id = none := by
                  cases hg : (mkH (HRk h0 m d.rs d.k) d.n (touch (HRk h0 m d.rs d.k) (mkEj e0 m d.rs d.k (lksOf ops o)) o)).get id with
                  | none => rfl
                  | some b => exact absurd (hhin id b hg).1 h2
                rw [h3]
                by_cases h4 : id < d.n
                · exact g1.nn id h4 h3
                · cases hg : r.2.2.1.get id with
                  | none => rfl
                  | some b =>
                    have := hbd1 id b hg
                    exact absurd (.inr (by omega)) hid
          · dsimp only at hl
            by_cases hid : id ∈ geOf r.2.2.2 (touch (HRk h0 m d.rs d.k) (mkEj e0 m d.rs d.k (lksOf ops o)) o) ++ rng d.n (r.2.1 - d.n)
            · rw [List.mem_append, mem_ge, mem_rng] at hid
              rcases hid with h1 | h1
              · exact .inl h1.1
              · exact .inr (by dsimp only; omega)
            · rw [(dlOf_spec).2 hid] at hl; cases hl
          · dsimp only at hl
            by_cases hid : id ∈ geOf r.2.2.2 (touch (HRk h0 m d.rs d.k) (mkEj e0 m d.rs d.k (lksOf ops o)) o) ++ rng d.n (r.2.1 - d.n)
            · rw [List.mem_append, mem_ge, mem_rng] at hid
              have := lmin_l r.2.2.2 d.lo
              have h9 := (nums_le D.all).1
              rw [D.num] at h9
              omega
            · rw [(dlOf_spec).2 hid] at hl; cases hl
          · dsimp only at hl
            by_cases hid : id ∈ geOf r.2.2.2 (touch (HRk h0 m d.rs d.k) (mkEj e0 m d.rs d.k (lksOf ops o)) o) ++ rng d.n (r.2.1 - d.n)
            · rw [(dlOf_spec).1 hid] at hl
              exact hbd1 id b (Option.some.inj hl)
            · rw [(dlOf_spec).2 hid] at hl; cases hl
        · rename_i hwr
          have hwr := blt_ge hwr
          refine addR_ok D hd ho ⟨ho2, rfl, _, hej, .inr ⟨hw, _, r.2.2.1, g2, hhin, fun id => ?_, fun id x hl => ?_, g1.nn⟩⟩ hm rfl hle (Nat.le_refl _) (fun id x hl => ?_) (fun id b hl => ?_)
          · dsimp only
            by_cases hid : id ∈ rng d.n (r.2.1 - d.n)
            · rw [(dlOf_spec).1 hid]
            · rw [(dlOf_spec).2 hid]
              dsimp only
              rw [mem_rng] at hid
              by_cases h1 : id < d.n
              · exact hsame id (by omega)
              · have h3 : (mkH (HRk h0 m d.rs d.k) d.n (touch (HRk h0 m d.rs d.k) (mkEj e0 m d.rs d.k (lksOf ops o)) o)).get id = none := by
                  cases hg : (mkH (HRk h0 m d.rs d.k) d.n (touch (HRk h0 m d.rs d.k) (mkEj e0 m d.rs d.k (lksOf ops o)) o)).get id with
                  | none => rfl
                  | some b => exact absurd (hbd0 id b hg) h1
                rw [h3]
                cases hg : r.2.2.1.get id with
                | none => rfl
                | some b =>
                  have := hbd1 id b hg
                  exact absurd (by omega) hid
          · dsimp only at hl
            by_cases hid : id ∈ rng d.n (r.2.1 - d.n)
            · rw [mem_rng] at hid; exact .inr (by dsimp only; omega)
            · rw [(dlOf_spec).2 hid] at hl; cases hl
          · dsimp only at hl
            by_cases hid : id ∈ rng d.n (r.2.1 - d.n)
            · rw [mem_rng] at hid
              have h9 := (nums_le D.all).1
              rw [D.num] at h9
              omega
            · rw [(dlOf_spec).2 hid] at hl; cases hl
          · dsimp only at hl
            by_cases hid : id ∈ rng d.n (r.2.1 - d.n)
            · rw [(dlOf_spec).1 hid] at hl
              exact hbd1 id b (Option.some.inj hl)
            · rw [(dlOf_spec).2 hid] at hl; cases hl
      · cases hd
theorem dgo_ok {call : FuncId → List V → Nat → Hp → Nat → R} {known : FuncId → Bool} (TO : TabOk P tab) (CO : CallOk P call) : ∀ {l : List Oper} {d d' : DS}, DOk P ops e0 h0 n0 lo0 nt d → ops.toList.drop d.k = l → dgo P tab call known ops e0 h0 nt l d = some d' → DOk P ops e0 h0 n0 lo0 nt d' ∧ d'.k = d.k + l.length
  | [], d, d', D, hl, h => by cases h; exact ⟨D, rfl⟩
  | o :: r, d, d', D, hl, h => by
    rw [dgo] at h
    split at h
    · rename_i d1 h1
      have ho : ops[d.k]? = some o := by
        have := congrArg (fun l => l[0]?) hl
        simp at this; exact this
      obtain ⟨D1, k1⟩ := dstep_ok TO CO D ho h1
      obtain ⟨D2, k2⟩ := dgo_ok TO CO D1 (by rw [k1, ← List.drop_drop, hl]; rfl) h
      exact ⟨D2, by rw [k2, k1]; simp; omega⟩
    · cases h
theorem rdraw_good {call : FuncId → List V → Nat → Hp → Nat → R} {known : FuncId → Bool} (TO : TabOk P tab) (CO : CallOk P call) (hm : P.follows .mixedOrders = true) : RegOk P (rdraw P tab call known) true := by
  intro nt ops s s' hr
  unfold rdraw at hr
  split at hr
  · rename_i d hd
    cases hr
    have D0 : DOk P ops s.e s.h s.n s.lo nt ⟨[], 0, s.n, s.lo⟩ := ⟨trivial, rfl, rfl, (fun i o hi => by dsimp only at hi; omega), Nat.le_refl _, (fun r hr => by cases hr), (fun r hr => by cases hr), fun id _ h _ => h⟩
    obtain ⟨D, hk⟩ := dgo_ok TO CO D0 (by simp) hd
    have hlen : d.rs.length = ops.size := by rw [← D.len, hk]; simp
    have hnum := D.num
    have hnn := (nums_le D.all).1
    rw [hnum] at hnn
    have hdl : ∀ id, (∃ r ∈ d.rs, ∃ x, lookD r.dl id = some x) ∨ (∀ S, HR s.h.get S d.rs id = s.h.get id) := by
      intro id
      have : ∀ (R : List Rec), (∃ r ∈ R, ∃ x, lookD r.dl id = some x) ∨ (∀ S, HR s.h.get S R id = s.h.get id) := by
        intro R
        induction R with
        | nil => exact .inr fun S => rfl
        | cons r rest ih =>
          cases hl : lookD r.dl id with
          | some x => exact .inl ⟨r, by simp, x, hl⟩
          | none =>
            rcases ih with ⟨q, h1, h2⟩ | h1
            · exact .inl ⟨q, by simp [h1], h2⟩
            · refine .inr fun S => ?_
              rw [HR, hl]
              cases S rest.length <;> exact h1 S
      exact this d.rs
    refine ⟨⟨hnn, D.lo, fun h1 => by have := D.lo; dsimp only; omega, fun h1 id hid => ?_, fun hb id b hg => ?_, fun id hid hn => by dsimp only; rw [finH_get]; exact D.nn id hid hn _⟩, fun id ι a w R hf => ?_⟩
    · dsimp only at hid ⊢
      rw [finH_get]
      rcases hdl id with ⟨r, h2, x, h3⟩ | h2
      · have := D.low r h2 id x h3
        have := D.lo
        omega
      · exact h2 _
    · dsimp only at hg ⊢
      rw [finH_get] at hg
      have : ∀ (R : List Rec) (S : Nat → Bool), (∀ r ∈ R, ∀ id b, lookD r.dl id = some (some b) → id < d.n) → HR s.h.get S R id = some b → id < d.n := by
        intro R S
        induction R with
        | nil => intro _ h; have := hb id b h; omega
        | cons r rest ih =>
          intro hh h
          rw [HR] at h
          split at h
          · split at h
            · rename_i x hx; subst h; exact hh r (by simp) id b hx
            · exact ih (fun q hq => hh q (by simp [hq])) h
          · exact ih (fun q hq => hh q (by simp [hq])) h
      exact this d.rs _ D.bd hg
    · refine wp_region_any hm ?_
      have e0 : setL (Array.replicate ops.size false) = fun _ => false := by
        funext j
        unfold setL
        simp [Array.getD]
      have hoff : ∀ (R : List Rec) id, HR s.h.get (fun _ => false) R id = s.h.get id ∧ ER s.e.get (fun _ => false) R id = s.e.get id ∧ NR s.n (fun _ => false) R id = s.n ∧ MR s.n (fun _ => false) R id = s.n := by
        intro R id
        induction R with
        | nil => exact ⟨rfl, rfl, rfl, rfl⟩
        | cons r rest ih => exact ih
      have hcut : ι.cut s.n = ι := by
        funext id
        unfold Io.cut
        split
        · rfl
        · exact (hf id (by omega)).symm
      have M0 : Mid a.defers s.n nt s.h.get s.e.get d.rs (fun _ => false) ι w ι a { w with drawn := w.drawn + 1 } := by
        have e1 : HR s.h.get (fun _ => false) d.rs = s.h.get := funext fun id => (hoff d.rs id).1
        refine ⟨fun id b hb => ?_, fun i j b b' rr m m' h1 h2 => ?_, fun t v hv => ?_, fun id hid => ?_, ?_, rfl, R.size⟩
        · rw [e1] at hb
          rw [(hoff d.rs id).2.2.1, hcut]
          obtain ⟨rr, m, h1, h2⟩ := R.heap.blk id b hb
          refine ⟨rr, m, h1, ?_, h2.mono (fun _ _ h => h) rfl⟩
          rcases Nat.lt_or_ge id s.n with h3 | h3
          · exact h3
          · rw [hf id h3] at h1; cases h1
        · rw [e1] at h1 h2; exact R.heap.inj i j b b' rr m m' h1 h2
        · rw [(hoff d.rs t).2.1] at hv
          rw [(hoff d.rs t).2.2.2, hcut]
          exact R.env t v hv
        · left
          rcases Nat.lt_or_ge id s.n with h3 | h3
          · exact h3
          · exact absurd (hf id h3) hid
        · rw [e1, hnum]
          exact ⟨rfl, rfl, rfl, Nat.le_refl _, hnn, fun _ _ => rfl, fun _ _ _ => rfl, fun id b rr m h1 h2 _ => ⟨id, b, m, h1, h2⟩⟩
      refine any_good (e0 := s.e.get) D.all hlen (fun i o ho => D.edges i o (by rw [D.len, hlen]; exact (Array.getElem?_eq_some_iff.1 ho).1) ho) (fun ι2 a2 w2 L hL M => ?_) ops.size _ ι a _ (by simp) ?_ (by rw [e0]; exact M0) ?_
      · have e2 : HR s.h.get L d.rs = (finH s.h d.rs).get := funext fun id => by rw [finH_get]; exact (all_congr (e0 := s.e.get) (n0 := s.n) hL).1
        have e3 : ∀ t, ER s.e.get L d.rs t = (finE s.e d.rs).get t := fun t => by rw [finE_get]; exact (all_congr (g0 := s.h.get) (n0 := s.n) hL).2
        refine ⟨rfl, ι2, ⟨⟨fun id b hb => ?_, fun i j b b' rr m m' h1 h2 => ?_⟩, fun t v hv => ?_, (by have q := R.defers.ex M.ex; rw [e2] at q; rw [M.defers]; exact q), M.size⟩, ?_⟩
        · dsimp only at hb
          rw [← e2] at hb
          obtain ⟨rr, m, h1, _, h2⟩ := M.blk id b hb
          exact ⟨rr, m, h1, h2.mono (cut_le _ _) rfl⟩
        · dsimp only at h1 h2
          rw [← e2] at h1 h2
          exact M.inj i j b b' rr m m' h1 h2
        · dsimp only at hv
          rw [← e3] at hv
          obtain ⟨u, h1, h2⟩ := M.env t v hv
          exact ⟨u, h1, h2.mono (cut_le _ _)⟩
        · have := M.ex
          rw [e2, hnum] at this
          exact this
      · rw [e0]; intro pre r rest _ h; cases h
      · rw [e0]
        have : ∀ n, cnt (fun _ => false) n = n := by
          intro n
          induction n with
          | zero => rfl
          | succ n ih => rw [cnt, ih]; rfl
        rw [this]; exact Nat.le_refl _
  · cases hr
end
end Go.Proofs.Ytplgpbadpdmeeaa.Rn

/-
  A runner of closed code: regions that draw their order. Each operation is reckoned on the blocks that it can reach, as its forerunners leave them; two operations of which neither waits on the other must not touch what the other one changes.
-/
import Derived.Test.YtplgpbadpdmeeaaRunCode
import Derived.Orders
namespace Go.Proofs.Ytplgpbadpdmeeaa.Rn
set_option linter.unusedVariables false
open Go.RowKit
open Go.Proofs.Ytplgpbadpdmeeaa.Ab (TE TTab tlook TabOk TFacts win setW setW_get win_get Sh)

/-- What one operation did: on whom it waits, its result, what it changed, what it could look at, the numbers ahead of it and behind it. -/
structure Rec where
  msk : Nat
  dst : Option Tmp
  v : V
  dl : List (Nat × Option B)
  rd : List Nat
  lk : List Nat
  n : Nat
  n' : Nat
def lookD : List (Nat × Option B) → Nat → Option (Option B)
  | [], _ => none
  | p :: r, id => cond (Nat.beq p.1 id) (some p.2) (lookD r id)
/-- The records stand the last one first: the place of one is how many stand behind it. -/
def HR (g0 : Gm) (S : Nat → Bool) : List Rec → Gm
  | [], id => g0 id
  | r :: rest, id => match S rest.length with
    | true => match lookD r.dl id with
      | some x => x
      | none => HR g0 S rest id
    | false => HR g0 S rest id
def ER (e0 : Nat → Option V) (S : Nat → Bool) : List Rec → Nat → Option V
  | [], t => e0 t
  | r :: rest, t => match S rest.length with
    | true => match r.dst with
      | some d => match Nat.beq d t with
        | true => some r.v
        | false => ER e0 S rest t
      | none => ER e0 S rest t
    | false => ER e0 S rest t
/-- From which numbers on nothing is named in a block, in a slot. -/
def NR (n0 : Nat) (S : Nat → Bool) : List Rec → Nat → Nat
  | [], _ => n0
  | r :: rest, id => match S rest.length with
    | true => match lookD r.dl id with
      | some _ => r.n'
      | none => NR n0 S rest id
    | false => NR n0 S rest id
def MR (n0 : Nat) (S : Nat → Bool) : List Rec → Nat → Nat
  | [], _ => n0
  | r :: rest, t => match S rest.length with
    | true => match r.dst with
      | some d => match Nat.beq d t with
        | true => r.n'
        | false => MR n0 S rest t
      | none => MR n0 S rest t
    | false => MR n0 S rest t
/-- Only the first numbers. -/
def Io.cut (ι : Io) (N : Nat) : Io := fun id => if id < N then ι id else none
theorem cut_le (ι : Io) (N : Nat) : Io.le (ι.cut N) ι := fun id x h => by unfold Io.cut at h; split at h; exact h; cases h
theorem cut_mono {ι ι' : Io} {N M : Nat} (h : N ≤ M) (hl : Io.le ι ι') : Io.le (ι.cut N) (ι'.cut M) := fun id x hx => by
  unfold Io.cut at hx ⊢
  split at hx
  · rw [if_pos (by omega)]; exact hl _ _ hx
  · cases hx
def tb (m : Nat) (j : Nat) : Bool := Nat.testBit m j
/-- Neither touches what the other one changes. -/
def apart (r q : Rec) : Prop := (∀ id x, lookD r.dl id = some x → id ∉ q.rd) ∧ (∀ id x, lookD q.dl id = some x → id ∉ r.rd) ∧ (∀ d, r.dst = some d → d ∉ q.lk) ∧ (∀ d, q.dst = some d → d ∉ r.lk)
/-- A record holds, over those behind it. -/
structure RecOk (P : Program) (ops : Array Oper) (g0 : Gm) (e0 : Nat → Option V) (n0 : Nat) (nt : Nat) (rest : List Rec) (r : Rec) : Prop where
  op : ∃ o, ops[rest.length]? = some o ∧ o.dst = r.dst ∧ ∃ ej : Ev, (∀ t c, ej.get t = some c → t ∈ r.lk ∧ ER e0 (tb r.msk) rest t = some c) ∧
      ((wantV ops ej o = some false ∧ r.v = .sc undef ∧ r.dl = [] ∧ r.n' = r.n) ∨
       (wantV ops ej o = some true ∧ ∃ hin hout : Hp, Wp P o ej r.n hin r.v r.n' hout ∧ (∀ id b, hin.get id = some b → id ∈ r.rd ∧ HR g0 (tb r.msk) rest id = some b) ∧ (∀ id, hout.get id = match lookD r.dl id with | some x => x | none => hin.get id) ∧
        (∀ id x, lookD r.dl id = some x → id ∈ r.rd ∨ (r.n ≤ id ∧ id < r.n')) ∧ (∀ id, id < r.n → hin.get id = none → hout.get id = none)))
  waits : ∀ j, tb r.msk j = true → j < rest.length ∧ ∃ o, ops[rest.length]? = some o ∧ ∃ ed ∈ o.after, Region.binds .any ed = true ∧ (j = ed.on ∨ ∃ q rest', (∃ pre, rest = pre ++ q :: rest') ∧ rest'.length = ed.on ∧ tb q.msk j = true)
  dsts : ∀ d, r.dst = some d → d < nt ∧ ∀ q ∈ rest, q.dst ≠ some d
  nums : (match rest with | [] => n0 | q :: _ => q.n') = r.n ∧ r.n ≤ r.n'
  free : ∀ pre q rest', rest = pre ++ q :: rest' → tb r.msk rest'.length = false → apart r q
def AllOk (P : Program) (ops : Array Oper) (g0 : Gm) (e0 : Nat → Option V) (n0 nt : Nat) : List Rec → Prop
  | [] => True
  | r :: rest => RecOk P ops g0 e0 n0 nt rest r ∧ AllOk P ops g0 e0 n0 nt rest
def lastN (n0 : Nat) : List Rec → Nat
  | [] => n0
  | q :: _ => q.n'

section
variable {P : Program} {ops : Array Oper} {g0 : Gm} {e0 : Nat → Option V} {n0 nt : Nat}
theorem AllOk.tail {pre rest : List Rec} (h : AllOk P ops g0 e0 n0 nt (pre ++ rest)) : AllOk P ops g0 e0 n0 nt rest := by
  induction pre with
  | nil => exact h
  | cons r pre ih => exact ih h.2
theorem AllOk.at {pre rest : List Rec} {r : Rec} (h : AllOk P ops g0 e0 n0 nt (pre ++ r :: rest)) : RecOk P ops g0 e0 n0 nt rest r := (AllOk.tail h).1
theorem RecOk.num {rest : List Rec} {r : Rec} (h : RecOk P ops g0 e0 n0 nt rest r) : lastN n0 rest = r.n := by
  have := h.nums.1
  cases rest <;> exact this
theorem nums_le : ∀ {R : List Rec}, AllOk P ops g0 e0 n0 nt R → n0 ≤ lastN n0 R ∧ ∀ q ∈ R, n0 ≤ q.n ∧ q.n ≤ q.n' ∧ q.n' ≤ lastN n0 R
  | [], _ => ⟨Nat.le_refl _, by simp⟩
  | r :: rest, h => by
    obtain ⟨h1, h2⟩ := nums_le h.2
    have h3 := h.1.num
    have h4 := h.1.nums.2
    refine ⟨by show n0 ≤ r.n'; omega, fun q hq => ?_⟩
    rcases List.mem_cons.1 hq with rfl | hq
    · exact ⟨by omega, h4, Nat.le_refl _⟩
    · obtain ⟨g1, g2, g3⟩ := h2 q hq
      exact ⟨g1, g2, by show q.n' ≤ r.n'; omega⟩
/-- The ranges of numbers lie apart. -/
theorem nums_apart {pre mid rest : List Rec} {r q : Rec} (h : AllOk P ops g0 e0 n0 nt (pre ++ r :: (mid ++ q :: rest))) : q.n' ≤ r.n := by
  have h1 := h.at.num
  have h2 := (nums_le (AllOk.tail (pre := pre ++ [r]) (by simpa using h))).2 q (by simp)
  omega
/-- Which are listed: with each one its forerunners. -/
def Closed (R : List Rec) (L : Nat → Bool) : Prop := ∀ pre r rest, R = pre ++ r :: rest → L rest.length = true → ∀ j, tb r.msk j = true → L j = true

theorem hr_pre {L : Nat → Bool} {id : Nat} {rest : List Rec} : ∀ {pre : List Rec}, (∀ p1 q p2, pre = p1 ++ q :: p2 → L (p2 ++ rest).length = true → lookD q.dl id = none) → HR g0 L (pre ++ rest) id = HR g0 L rest id ∧ NR n0 L (pre ++ rest) id = NR n0 L rest id
  | [], _ => ⟨rfl, rfl⟩
  | q :: pre, h => by
    obtain ⟨h1, h2⟩ := hr_pre (pre := pre) fun p1 q' p2 hp hl => h (q :: p1) q' p2 (by rw [hp]; rfl) hl
    have h3 := h [] q pre rfl
    rw [List.cons_append, HR, NR]
    cases hl : L (pre ++ rest).length with
    | false => exact ⟨h1, h2⟩
    | true => rw [h3 hl]; exact ⟨h1, h2⟩
theorem hr_anc {L : Nat → Bool} {m : Nat} {id : Nat} : ∀ {rest : List Rec}, (∀ j, j < rest.length → tb m j = true → L j = true) → (∀ p1 q p2, rest = p1 ++ q :: p2 → tb m p2.length = false → lookD q.dl id = none) → HR g0 L rest id = HR g0 (tb m) rest id ∧ NR n0 L rest id = NR n0 (tb m) rest id
  | [], _, _ => ⟨rfl, rfl⟩
  | q :: rest, h1, h2 => by
    obtain ⟨h3, h4⟩ := hr_anc (rest := rest) (L := L) (m := m) (id := id) (fun j hj => h1 j (by simp; omega)) fun p1 q' p2 hp hl => h2 (q :: p1) q' p2 (by rw [hp]; rfl) hl
    rw [HR, HR, NR, NR]
    cases hm : tb m rest.length with
    | true => rw [h1 rest.length (by simp) hm, h3, h4]; exact ⟨rfl, rfl⟩
    | false =>
      have := h2 [] q rest rfl hm
      rw [this]
      cases L rest.length <;> exact ⟨h3, h4⟩
theorem nr_le {S : Nat → Bool} {id : Nat} : ∀ {R : List Rec}, AllOk P ops g0 e0 n0 nt R → NR n0 S R id ≤ lastN n0 R
  | [], _ => Nat.le_refl _
  | r :: rest, h => by
    have h1 := nr_le (S := S) (id := id) h.2
    have h3 := h.1.num
    have h4 := h.1.nums.2
    have h5 : lastN n0 (r :: rest) = r.n' := rfl
    rw [NR, h5]
    split
    · split <;> omega
    · omega
/-- What a record's operation looks at stands so whatever else is listed. -/
theorem looks {pre rest : List Rec} {r : Rec} {L : Nat → Bool} (h : AllOk P ops g0 e0 n0 nt (pre ++ r :: rest)) (hc : Closed (pre ++ r :: rest) L) (hi : L rest.length = false) (hm : ∀ j, tb r.msk j = true → L j = true) {id : Nat} {b : B} (hrd : id ∈ r.rd) (hb : HR g0 (tb r.msk) rest id = some b) :
    HR g0 L (pre ++ r :: rest) id = some b ∧ NR n0 L (pre ++ r :: rest) id ≤ r.n := by
  have hr := h.at
  have h1 := hr_pre (g0 := g0) (n0 := n0) (L := L) (id := id) (pre := pre) (rest := r :: rest) fun p1 q p2 hp hl => by
    have hq : RecOk P ops g0 e0 n0 nt (p2 ++ r :: rest) q := AllOk.at (pre := p1) (by rw [hp] at h; simpa using h)
    cases hd : lookD q.dl id with
    | none => rfl
    | some x =>
      exfalso
      cases ht : tb q.msk rest.length with
      | true => have := hc p1 q (p2 ++ r :: rest) (by rw [hp]; simp) hl _ ht; rw [hi] at this; cases this
      | false => exact (hq.free p2 r rest rfl ht).1 id x hd hrd
  have h2 := hr_anc (g0 := g0) (n0 := n0) (L := L) (m := r.msk) (id := id) (rest := rest) (fun j _ hj => hm j hj) fun p1 q p2 hp hl => by
    cases hd : lookD q.dl id with
    | none => rfl
    | some x => exact absurd hrd ((hr.free p1 q p2 hp hl).2.1 id x hd)
  have h3 : HR g0 L (r :: rest) id = HR g0 L rest id ∧ NR n0 L (r :: rest) id = NR n0 L rest id := by rw [HR, NR, hi]; exact ⟨rfl, rfl⟩
  refine ⟨by rw [h1.1, h3.1, h2.1, hb], ?_⟩
  rw [h1.2, h3.2, h2.2, ← hr.num]
  exact nr_le (AllOk.tail (pre := pre ++ [r]) (by simpa using h))
/-! The slots -/
theorem er_pre {L : Nat → Bool} {t : Nat} {rest : List Rec} : ∀ {pre : List Rec}, (∀ p1 q p2, pre = p1 ++ q :: p2 → L (p2 ++ rest).length = true → q.dst ≠ some t) → ER e0 L (pre ++ rest) t = ER e0 L rest t ∧ MR n0 L (pre ++ rest) t = MR n0 L rest t
  | [], _ => ⟨rfl, rfl⟩
  | q :: pre, h => by
    obtain ⟨h1, h2⟩ := er_pre (pre := pre) fun p1 q' p2 hp hl => h (q :: p1) q' p2 (by rw [hp]; rfl) hl
    have h3 := h [] q pre rfl
    rw [List.cons_append, ER, MR]
    cases hl : L (pre ++ rest).length with
    | false => exact ⟨h1, h2⟩
    | true =>
      cases hd : q.dst with
      | none => exact ⟨h1, h2⟩
      | some d =>
        have : Nat.beq d t = false := Ab.beq_no (by rintro rfl; exact h3 hl hd)
        dsimp only
        rw [this]; exact ⟨h1, h2⟩
theorem er_anc {L : Nat → Bool} {m : Nat} {t : Nat} : ∀ {rest : List Rec}, (∀ j, j < rest.length → tb m j = true → L j = true) → (∀ p1 q p2, rest = p1 ++ q :: p2 → tb m p2.length = false → q.dst ≠ some t) → ER e0 L rest t = ER e0 (tb m) rest t ∧ MR n0 L rest t = MR n0 (tb m) rest t
  | [], _, _ => ⟨rfl, rfl⟩
  | q :: rest, h1, h2 => by
    obtain ⟨h3, h4⟩ := er_anc (rest := rest) (L := L) (m := m) (t := t) (fun j hj => h1 j (by simp; omega)) fun p1 q' p2 hp hl => h2 (q :: p1) q' p2 (by rw [hp]; rfl) hl
    rw [ER, ER, MR, MR]
    cases hm : tb m rest.length with
    | true => rw [h1 rest.length (by simp) hm, h3, h4]; exact ⟨rfl, rfl⟩
    | false =>
      have hq := h2 [] q rest rfl hm
      have : ∀ d, q.dst = some d → Nat.beq d t = false := fun d hd => Ab.beq_no (by rintro rfl; exact hq hd)
      cases L rest.length with
      | false => exact ⟨h3, h4⟩
      | true =>
        cases hd : q.dst with
        | none => exact ⟨h3, h4⟩
        | some d => dsimp only; rw [this d hd]; exact ⟨h3, h4⟩
theorem mr_le {S : Nat → Bool} {t : Nat} : ∀ {R : List Rec}, AllOk P ops g0 e0 n0 nt R → MR n0 S R t ≤ lastN n0 R
  | [], _ => Nat.le_refl _
  | r :: rest, h => by
    have h1 := mr_le (S := S) (t := t) h.2
    have h3 := h.1.num
    have h4 := h.1.nums.2
    have h5 : lastN n0 (r :: rest) = r.n' := rfl
    rw [MR, h5]
    split
    · split
      · split <;> omega
      · omega
    · omega
theorem slots {pre rest : List Rec} {r : Rec} {L : Nat → Bool} (h : AllOk P ops g0 e0 n0 nt (pre ++ r :: rest)) (hc : Closed (pre ++ r :: rest) L) (hi : L rest.length = false) (hm : ∀ j, tb r.msk j = true → L j = true) {t : Nat} {c : V} (hlk : t ∈ r.lk) (hb : ER e0 (tb r.msk) rest t = some c) :
    ER e0 L (pre ++ r :: rest) t = some c ∧ MR n0 L (pre ++ r :: rest) t ≤ r.n := by
  have hr := h.at
  have h1 := er_pre (e0 := e0) (n0 := n0) (L := L) (t := t) (pre := pre) (rest := r :: rest) fun p1 q p2 hp hl hd => by
    have hq : RecOk P ops g0 e0 n0 nt (p2 ++ r :: rest) q := AllOk.at (pre := p1) (by rw [hp] at h; simpa using h)
    cases ht : tb q.msk rest.length with
    | true => have := hc p1 q (p2 ++ r :: rest) (by rw [hp]; simp) hl _ ht; rw [hi] at this; cases this
    | false => exact (hq.free p2 r rest rfl ht).2.2.1 t hd hlk
  have h2 := er_anc (e0 := e0) (n0 := n0) (L := L) (m := r.msk) (t := t) (rest := rest) (fun j _ hj => hm j hj) fun p1 q p2 hp hl hd => (hr.free p1 q p2 hp hl).2.2.2 t hd hlk
  have h3 : ER e0 L (r :: rest) t = ER e0 L rest t ∧ MR n0 L (r :: rest) t = MR n0 L rest t := by rw [ER, MR, hi]; exact ⟨rfl, rfl⟩
  refine ⟨by rw [h1.1, h3.1, h2.1, hb], ?_⟩
  rw [h1.2, h3.2, h2.2, ← hr.num]
  exact mr_le (AllOk.tail (pre := pre ++ [r]) (by simpa using h))

/-! ### One more is listed -/
def ins (L : Nat → Bool) (i : Nat) : Nat → Bool := fun j => Nat.beq j i || L j
theorem ins_self (L : Nat → Bool) (i : Nat) : ins L i i = true := by simp [ins]
theorem ins_ne {L : Nat → Bool} {i j : Nat} (h : j ≠ i) : ins L i j = L j := by simp [ins, Ab.beq_no h]
theorem hr_ins_rest {L : Nat → Bool} {i : Nat} {id : Nat} : ∀ {rest : List Rec}, rest.length ≤ i → HR g0 (ins L i) rest id = HR g0 L rest id ∧ NR n0 (ins L i) rest id = NR n0 L rest id ∧ ER e0 (ins L i) rest id = ER e0 L rest id ∧ MR n0 (ins L i) rest id = MR n0 L rest id
  | [], _ => ⟨rfl, rfl, rfl, rfl⟩
  | q :: rest, h => by
    have h : rest.length + 1 ≤ i := h
    obtain ⟨h1, h2, h3, h4⟩ := hr_ins_rest (L := L) (i := i) (id := id) (rest := rest) (by omega)
    rw [HR, HR, NR, NR, ER, ER, MR, MR, ins_ne (show rest.length ≠ i by omega), h1, h2, h3, h4]
    exact ⟨rfl, rfl, rfl, rfl⟩
theorem hr_ins_pre {L : Nat → Bool} {id : Nat} {r : Rec} {rest : List Rec} : ∀ {pre : List Rec}, (HR g0 (ins L rest.length) (r :: rest) id = HR g0 L (r :: rest) id → HR g0 (ins L rest.length) (pre ++ r :: rest) id = HR g0 L (pre ++ r :: rest) id) ∧ (NR n0 (ins L rest.length) (r :: rest) id = NR n0 L (r :: rest) id → NR n0 (ins L rest.length) (pre ++ r :: rest) id = NR n0 L (pre ++ r :: rest) id) ∧
    (ER e0 (ins L rest.length) (r :: rest) id = ER e0 L (r :: rest) id → ER e0 (ins L rest.length) (pre ++ r :: rest) id = ER e0 L (pre ++ r :: rest) id) ∧ (MR n0 (ins L rest.length) (r :: rest) id = MR n0 L (r :: rest) id → MR n0 (ins L rest.length) (pre ++ r :: rest) id = MR n0 L (pre ++ r :: rest) id)
  | [] => ⟨fun h => h, fun h => h, fun h => h, fun h => h⟩
  | q :: pre => by
    obtain ⟨h1, h2, h3, h4⟩ := hr_ins_pre (L := L) (id := id) (r := r) (rest := rest) (pre := pre)
    have hne : (pre ++ r :: rest).length ≠ rest.length := by simp; omega
    refine ⟨fun h => ?_, fun h => ?_, fun h => ?_, fun h => ?_⟩
    · rw [List.cons_append, HR, HR, ins_ne hne, h1 h]
    · rw [List.cons_append, NR, NR, ins_ne hne, h2 h]
    · rw [List.cons_append, ER, ER, ins_ne hne, h3 h]
    · rw [List.cons_append, MR, MR, ins_ne hne, h4 h]
/-- What it did not change stands. -/
theorem ins_same {pre rest : List Rec} {r : Rec} {L : Nat → Bool} (hi : L rest.length = false) {id : Nat} (hd : lookD r.dl id = none) : HR g0 (ins L rest.length) (pre ++ r :: rest) id = HR g0 L (pre ++ r :: rest) id ∧ NR n0 (ins L rest.length) (pre ++ r :: rest) id = NR n0 L (pre ++ r :: rest) id := by
  obtain ⟨h1, h2, _⟩ := hr_ins_pre (g0 := g0) (n0 := n0) (e0 := fun _ => none) (L := L) (id := id) (r := r) (rest := rest) (pre := pre)
  obtain ⟨g1, g2, _⟩ := hr_ins_rest (g0 := g0) (n0 := n0) (e0 := fun _ => none) (L := L) (i := rest.length) (id := id) (rest := rest) (Nat.le_refl _)
  refine ⟨h1 ?_, h2 ?_⟩
  · rw [HR, HR, ins_self, hi, hd, g1]
  · rw [NR, NR, ins_self, hi, hd, g2]
/-- What it changed is as it leaves it. -/
theorem ins_new {pre rest : List Rec} {r : Rec} {L : Nat → Bool} (h : AllOk P ops g0 e0 n0 nt (pre ++ r :: rest)) (hc : Closed (pre ++ r :: rest) L) (hi : L rest.length = false) {id : Nat} {x : Option B} (hd : lookD r.dl id = some x) : HR g0 (ins L rest.length) (pre ++ r :: rest) id = x ∧ NR n0 (ins L rest.length) (pre ++ r :: rest) id = r.n' := by
  have h1 := hr_pre (g0 := g0) (n0 := n0) (L := ins L rest.length) (id := id) (pre := pre) (rest := r :: rest) fun p1 q p2 hp hl => by
    have hq : RecOk P ops g0 e0 n0 nt (p2 ++ r :: rest) q := AllOk.at (pre := p1) (by rw [hp] at h; simpa using h)
    rw [ins_ne (by simp; omega)] at hl
    have hno : tb q.msk rest.length = false := by
      cases ht : tb q.msk rest.length with
      | false => rfl
      | true => have := hc p1 q (p2 ++ r :: rest) (by rw [hp]; simp) hl _ ht; rw [hi] at this; cases this
    have hap := hq.free p2 r rest rfl hno
    cases hd2 : lookD q.dl id with
    | none => rfl
    | some y =>
      exfalso
      -- it changes id: it looks at it, or made it
      obtain ⟨o, _, _, ej, _, hcase⟩ := hq.op
      have hq2 : id ∈ q.rd ∨ (q.n ≤ id ∧ id < q.n') := by
        rcases hcase with ⟨_, _, hnil, _⟩ | ⟨_, hin, hout, _, _, _, hrd, _⟩
        · rw [hnil] at hd2; cases hd2
        · exact hrd id y hd2
      rcases hq2 with hq2 | hq2
      · exact hap.2.1 id x hd hq2
      · obtain ⟨o', _, _, ej', _, hcase'⟩ := h.at.op
        have hr2 : id ∈ r.rd ∨ (r.n ≤ id ∧ id < r.n') := by
          rcases hcase' with ⟨_, _, hnil, _⟩ | ⟨_, hin, hout, _, _, _, hrd, _⟩
          · rw [hnil] at hd; cases hd
          · exact hrd id x hd
        rcases hr2 with hr2 | hr2
        · exact hap.1 id y hd2 hr2
        · have := nums_apart (pre := p1) (mid := p2) (rest := rest) (r := q) (q := r) (by rw [hp] at h; simpa using h)
          omega
  rw [h1.1, h1.2, HR, NR, ins_self, hd]
  exact ⟨rfl, rfl⟩
theorem ins_slot {pre rest : List Rec} {r : Rec} {L : Nat → Bool} (h : AllOk P ops g0 e0 n0 nt (pre ++ r :: rest)) (hi : L rest.length = false) {t : Nat} : (r.dst = some t → ER e0 (ins L rest.length) (pre ++ r :: rest) t = some r.v ∧ MR n0 (ins L rest.length) (pre ++ r :: rest) t = r.n') ∧ (r.dst ≠ some t → ER e0 (ins L rest.length) (pre ++ r :: rest) t = ER e0 L (pre ++ r :: rest) t ∧ MR n0 (ins L rest.length) (pre ++ r :: rest) t = MR n0 L (pre ++ r :: rest) t) := by
  obtain ⟨_, _, g3, g4⟩ := hr_ins_rest (g0 := g0) (n0 := n0) (e0 := e0) (L := L) (i := rest.length) (id := t) (rest := rest) (Nat.le_refl _)
  refine ⟨fun hd => ?_, fun hd => ?_⟩
  · have h1 := er_pre (e0 := e0) (n0 := n0) (L := ins L rest.length) (t := t) (pre := pre) (rest := r :: rest) fun p1 q p2 hp hl hdq => by
      have hq : RecOk P ops g0 e0 n0 nt (p2 ++ r :: rest) q := AllOk.at (pre := p1) (by rw [hp] at h; simpa using h)
      exact (hq.dsts t hdq).2 r (by simp) hd
    rw [h1.1, h1.2, ER, MR, ins_self, hd]
    dsimp only
    rw [Ab.beq_yes]
    exact ⟨rfl, rfl⟩
  · obtain ⟨_, _, h3, h4⟩ := hr_ins_pre (g0 := g0) (n0 := n0) (e0 := e0) (L := L) (id := t) (r := r) (rest := rest) (pre := pre)
    refine ⟨h3 ?_, h4 ?_⟩
    · rw [ER, ER, ins_self, hi, g3]
      cases hdd : r.dst with
      | none => rfl
      | some d => dsimp only; rw [Ab.beq_no (by rintro rfl; exact hd hdd)]
    · rw [MR, MR, ins_self, hi, g4]
      cases hdd : r.dst with
      | none => rfl
      | some d => dsimp only; rw [Ab.beq_no (by rintro rfl; exact hd hdd)]
end
end Go.Proofs.Ytplgpbadpdmeeaa.Rn

/-
  Texts of a proof, one behind the other (part 3).
-/
import Derived.Lib.Bytealg
import Derived.ArgAppend
import Derived.Deep.AppendLies
import Derived.Laws.CopyRow
import Derived.Test.YtnnclkeoakjjkaaGreatFl1
set_option linter.unusedVariables false
set_option linter.unusedSimpArgs false
namespace Go.Proofs.YtnnclkeoakjjkaaGreat.Ab
set_option linter.unusedVariables false
open Go.RowKit

def intA (n : Int) : AVal := .d (.sc (.int .i64 n))
def boolA (b : Bool) : AVal := .d (.sc (.bool b))
def pfxD (p : Pfx) : List Dat := [.sc (.int .u32 p.a), .sc (.int .i64 p.b)]
theorem pfxD_len (p : Pfx) : (pfxD p).length = 2 := rfl
def pfxA (p : Pfx) : AVal := .agg [.d (.sc (.int .u32 p.a)), .d (.sc (.int .i64 p.b))]
def pfxsA (l : List Pfx) : AVal := .d (.sl (l.flatMap pfxD) l.length)
theorem pfxEq (x y : Pfx) : eqCells [.int .u32 x.a, .int .i64 x.b] [.int .u32 y.a, .int .i64 y.b] = some (x == y) := by
  obtain ⟨a, b⟩ := x
  obtain ⟨c, d⟩ := y
  simp only [eqCells, eqV, if_true, Bool.and_true, Option.some.injEq]
  rw [Bool.eq_iff_iff]
  simp [Pfx.mk.injEq]
theorem noStand : ∀ t, (tlook tab t).isSome = true → Tryz.prog.stoodInHeld t = false := by
  have h : tab.all (fun t _ => !Tryz.prog.stoodInHeld t) = true := by kernel_rfl
  intro t ht
  obtain ⟨te, hte⟩ := Option.isSome_iff_exists.1 ht
  simpa using TTab.of_all h hte
abbrev Just (c : AVal) : AVal → Heap → Prop := fun c' h' => c' = c ∧ h' = []

theorem refCheck_A (p : Pfx) (hp : p.ok) : ACall Tryz.prog 26 [pfxA p] [] (Just (intA (chk p))) := ACall_val (by kernel_rfl) rfl rfl rfl fun w => refCheck_any p w hp
theorem check_A (p : Pfx) (hp : p.ok) : ACall Tryz.prog 41 [pfxA p] [] (Just (intA (chk p))) := ACall_val (by kernel_rfl) rfl rfl rfl fun w => check_any p w hp
theorem refIn_A (x : Int) (p : Pfx) (hp : p.ok) (x0 : 0 ≤ x) (x1 : x < 4294967296) : ACall Tryz.prog 13 [.d (.sc (.int .u32 x)), pfxA p] [] (Just (boolA (inB x p))) := ACall_val (by kernel_rfl) rfl rfl rfl fun w => refIn_any x p w hp x0 x1
end Go.Proofs.YtnnclkeoakjjkaaGreat.Ab

namespace Go.Proofs.YtnnclkeoakjjkaaGreat.Ab
set_option linter.unusedVariables false
set_option linter.unusedSimpArgs false
set_option maxRecDepth 100000
open Go.RowKit

def pfxV (p : Pfx) : Value := .agg #[.int .u32 p.a, .int .i64 p.b]
theorem pfxA_val (p : Pfx) : valA (pfxA p) = some (pfxV p) := rfl
theorem pfxA_rel (p : Pfx) (w : World) (F : Nat → Prop) (ι : Nat → Option Value) : VRel w F ι (pfxA p) (pfxV p) := val_mk _ _ _ _ _ rfl rfl
theorem chk_int (b : Bool) (n : Nat) (t : TypeId) (q : IntKind) (x : Int) (w : World) (ht : Tryz.prog.underlying t = some (.int q)) : (Instr.checkKey b (n + 1) t (.int q x)).run Tryz.prog w = .ok () w := by
  unfold Instr.checkKey
  simp [run_underlying ht]
theorem part_u32 (p : Pfx) (w : World) : (part 24 #[.int .u32 p.a, .int .i64 p.b] 0).run Tryz.prog w = .ok (.int .u32 p.a) w := by
  have h : tlook tab 24 = some _ := rfl
  unfold part
  simp [(tabOk _ _ h).run_agg]
theorem part_i64 (p : Pfx) (w : World) : (part 3 #[.int .u32 p.a, .int .i64 p.b] 1).run Tryz.prog w = .ok (.int .i64 p.b) w := by
  have h : tlook tab 3 = some _ := rfl
  unfold part
  simp [(tabOk _ _ h).run_agg]
theorem chk_pfx (b : Bool) (k : Pfx) (w : World) (n : Nat) : (Instr.checkKey b (n + 2) 26 (pfxV k)).run Tryz.prog w = .ok () w := by
  unfold Instr.checkKey
  simp [pfxV, run_underlying Tryz.underlying26, part_u32, part_i64, chk_int b n _ _ _ _ Tryz.underlying24, chk_int b n _ _ _ _ Tryz.underlying3]
theorem pfxKey : KeyLaw Tryz.prog 26 pfxV (fun _ => True) := by
  refine KeyLaw.of_agg Tryz.underlying26 (fun k => ⟨_, rfl⟩) ?_ ?_ ?_
  · intro b k w _
    exact chk_pfx b k w 9998
  · intro a b w _ _
    have h := run_eqLeafs tabOk noStand 8 26 _ [.int .u32 a.a, .int .i64 a.b] [.int .u32 b.a, .int .i64 b.b] _ 9999 _ w rfl rfl rfl rfl (pfxEq a b) (by omega)
    have e : (a == b) = decide (a = b) := by rw [Bool.eq_iff_iff]; simp
    rw [e] at h
    exact h
  · intro a _
    simp [Instr.sameBits, pfxV]
end Go.Proofs.YtnnclkeoakjjkaaGreat.Ab

namespace Go.Proofs.YtnnclkeoakjjkaaGreat
set_option linter.unusedVariables false
open Go.Lib

structure Good {α : Type} (c : α → α → Int) : Prop where
  anti : ∀ x y, c y x = - c x y
  trans : ∀ x y z, c x y ≤ 0 → c y z ≤ 0 → c x z ≤ 0
section
variable {α β : Type} {c d : α → α → Int}
theorem Good.refl (G : Good c) (x : α) : c x x = 0 := by have := G.anti x x; omega
theorem Good.lt_le (G : Good c) {x y z : α} (h1 : c x y < 0) (h2 : c y z ≤ 0) : c x z < 0 := by
  have h3 := G.trans x y z (by omega) h2
  rcases Int.lt_or_eq_of_le h3 with h4 | h4
  · exact h4
  · have h5 := G.anti x z
    have h6 := G.trans y z x h2 (by omega)
    have h7 := G.anti x y
    omega
theorem Good.le_lt (G : Good c) {x y z : α} (h1 : c x y ≤ 0) (h2 : c y z < 0) : c x z < 0 := by
  have h3 := G.trans x y z h1 (by omega)
  rcases Int.lt_or_eq_of_le h3 with h4 | h4
  · exact h4
  · have h5 := G.anti x z
    have h6 := G.trans z x y (by omega) h1
    have h7 := G.anti y z
    omega
theorem Good.lt_lt (G : Good c) {x y z : α} (h1 : c x y < 0) (h2 : c y z < 0) : c x z < 0 := G.lt_le h1 (by omega)
def lexc (c d : α → α → Int) : α → α → Int := fun x y => if c x y = 0 then d x y else c x y
theorem Good.lex (G : Good c) (H : Good d) : Good (lexc c d) := by
  refine ⟨fun x y => ?_, fun x y z h1 h2 => ?_⟩
  · unfold lexc
    have h := G.anti x y
    by_cases h0 : c x y = 0
    · rw [if_pos h0, if_pos (by omega)]; exact H.anti x y
    · rw [if_neg h0, if_neg (by omega)]; exact h
  · unfold lexc at *
    by_cases hxy : c x y = 0
    · rw [if_pos hxy] at h1
      by_cases hyz : c y z = 0
      · rw [if_pos hyz] at h2
        have e1 := G.trans x y z (by omega) (by omega)
        have e2 := G.anti x y
        have e3 := G.anti y z
        have e4 := G.trans z y x (by omega) (by omega)
        have e5 := G.anti x z
        rw [if_pos (by omega)]
        exact H.trans x y z h1 h2
      · rw [if_neg hyz] at h2
        have := G.le_lt (x := x) (y := y) (z := z) (by omega) (by omega)
        rw [if_neg (by omega)]; omega
    · rw [if_neg hxy] at h1
      have h3 : c y z ≤ 0 := by
        by_cases hyz : c y z = 0
        · omega
        · rw [if_neg hyz] at h2; exact h2
      have := G.lt_le (x := x) (y := y) (z := z) (by omega) h3
      rw [if_neg (by omega)]; omega
theorem Good.of (G : Good c) (g : β → α) : Good fun x y => c (g x) (g y) := ⟨fun x y => G.anti _ _, fun x y z => G.trans _ _ _⟩
theorem lexc_zero {x y : α} : lexc c d x y = 0 ↔ c x y = 0 ∧ d x y = 0 := by
  unfold lexc
  by_cases h : c x y = 0
  · rw [if_pos h]; exact ⟨fun h2 => ⟨h, h2⟩, fun h2 => h2.2⟩
  · rw [if_neg h]; exact ⟨fun h2 => absurd h2 h, fun h2 => absurd h2.1 h⟩
end
def c2 (x y : Int) : Int := if x < y then -1 else if y < x then 1 else 0
theorem good_c2 : Good c2 := ⟨fun x y => by unfold c2; split <;> split <;> omega, fun x y z h1 h2 => by unfold c2 at *; split at h1 <;> split at h2 <;> (try split at h1) <;> (try split at h2) <;> split <;> (try split) <;> omega⟩
theorem c2_zero {x y : Int} : c2 x y = 0 ↔ x = y := by unfold c2; split <;> (try split) <;> omega
theorem c2_gt {x y : Int} : 0 < c2 x y ↔ y < x := by unfold c2; split <;> (try split) <;> omega
def cB (x y : Bool) : Int := if x = y then 0 else if y then -1 else 1
theorem good_cB : Good cB := ⟨fun x y => by cases x <;> cases y <;> decide, fun x y z h1 h2 => by cases x <;> cases y <;> cases z <;> revert h1 h2 <;> decide⟩
theorem cB_zero {x y : Bool} : cB x y = 0 ↔ x = y := by cases x <;> cases y <;> decide
theorem good_bytes : Good compareBytes := by
  refine ⟨fun x => ?_, fun x => ?_⟩
  · induction x with
    | nil => intro y; cases y <;> simp [compareBytes]
    | cons a x ih =>
      intro y
      cases y with
      | nil => simp [compareBytes]
      | cons b y =>
        simp only [compareBytes]
        by_cases h1 : a < b
        · have h2 : ¬ b < a := fun h => by have := UInt8.lt_trans h1 h; exact UInt8.lt_irrefl _ this
          simp [h1, h2]
        · by_cases h2 : b < a
          · simp [h1, h2]
          · simp [h1, h2, ih y]
  · induction x with
    | nil => intro y z _ h2; cases z <;> simp [compareBytes]
    | cons a x ih =>
      intro y z h1 h2
      cases y with
      | nil => simp [compareBytes] at h1
      | cons b y =>
        cases z with
        | nil => simp [compareBytes] at h2
        | cons d z =>
          simp only [compareBytes] at *
          simp only [UInt8.lt_iff_toNat_lt] at *
          split at h1
          · split at h2
            · rw [if_pos (by omega)]; omega
            · split at h2
              · omega
              · rw [if_pos (by omega)]; omega
          · split at h1
            · omega
            · split at h2
              · rw [if_pos (by omega)]; omega
              · split at h2
                · omega
                · rw [if_neg (by omega), if_neg (by omega)]
                  exact ih y z h1 h2
theorem bytes_zero : ∀ {x y : List UInt8}, compareBytes x y = 0 ↔ x = y
  | [], [] => by simp [compareBytes]
  | [], _ :: _ => by simp [compareBytes]
  | _ :: _, [] => by simp [compareBytes]
  | a :: x, b :: y => by
    simp only [compareBytes, List.cons.injEq]
    split
    · rename_i h
      exact ⟨fun h2 => by omega, fun h2 => by rw [h2.1] at h; exact absurd h (UInt8.lt_irrefl _)⟩
    · split
      · rename_i h
        exact ⟨fun h2 => by omega, fun h2 => by rw [h2.1] at h; exact absurd h (UInt8.lt_irrefl _)⟩
      · rename_i h1 h2
        rw [bytes_zero]
        refine ⟨fun h => ⟨?_, h⟩, fun h => h.2⟩
        rw [UInt8.lt_iff_toNat_lt] at h1 h2
        exact UInt8.toNat_inj.1 (by omega)

section
variable {α : Type} {c : α → α → Int}
def Rising (c : α → α → Int) (l : List α) : Prop := l.Pairwise fun x y => c x y < 0
theorem rising_ext (G : Good c) : ∀ {l m : List α}, Rising c l → Rising c m → (∀ x, x ∈ l ↔ x ∈ m) → l = m
  | [], [], _, _, _ => rfl
  | [], b :: m, _, _, h => absurd ((h b).2 (List.mem_cons_self ..)) (by simp)
  | a :: l, [], _, _, h => absurd ((h a).1 (List.mem_cons_self ..)) (by simp)
  | a :: l, b :: m, h1, h2, h => by
    unfold Rising at h1 h2
    rw [List.pairwise_cons] at h1 h2
    have hab : a = b := by
      rcases List.mem_cons.1 ((h a).1 (List.mem_cons_self ..)) with e | e
      · exact e
      · rcases List.mem_cons.1 ((h b).2 (List.mem_cons_self ..)) with e2 | e2
        · exact e2.symm
        · have q1 := h2.1 a e
          have q2 := h1.1 b e2
          have q3 := G.anti a b
          omega
    subst hab
    congr 1
    refine rising_ext G h1.2 h2.2 fun x => ⟨fun hx => ?_, fun hx => ?_⟩
    · rcases List.mem_cons.1 ((h x).1 (List.mem_cons_of_mem _ hx)) with e | e
      · subst e; have := h1.1 x hx; rw [G.refl] at this; omega
      · exact e
    · rcases List.mem_cons.1 ((h x).2 (List.mem_cons_of_mem _ hx)) with e | e
      · subst e; have := h2.1 x hx; rw [G.refl] at this; omega
      · exact e
def srt (c : α → α → Int) (l : List α) : List α := l.mergeSort fun x y => !(decide (c y x < 0))
theorem srt_mem (l : List α) (x : α) : x ∈ srt c l ↔ x ∈ l := List.mem_mergeSort
theorem srt_len (l : List α) : (srt c l).length = l.length := List.length_mergeSort _
theorem srt_pair (G : Good c) (l : List α) : (srt c l).Pairwise fun x y => c x y ≤ 0 := by
  have := List.pairwise_mergeSort (le := fun x y => !(decide (c y x < 0))) (fun x y z h1 h2 => by
    simp only [Bool.not_eq_true', decide_eq_false_iff_not] at *
    have e1 := G.anti x y
    have e2 := G.anti y z
    have e3 := G.anti x z
    have := G.trans x y z (by omega) (by omega)
    omega) (fun x y => by
    simp only [Bool.or_eq_true, Bool.not_eq_true', decide_eq_false_iff_not]
    have e1 := G.anti x y
    omega) l
  refine this.imp fun {x y} h => ?_
  simp only [Bool.not_eq_true', decide_eq_false_iff_not] at h
  have e1 := G.anti x y
  omega
variable [DecidableEq α]
def dedA : List α → List α
  | [] => []
  | [x] => [x]
  | x :: y :: r => if x = y then dedA (y :: r) else x :: dedA (y :: r)
theorem dedA_mem : ∀ (l : List α) (x : α), x ∈ dedA l ↔ x ∈ l
  | [], x => Iff.rfl
  | [y], x => Iff.rfl
  | y :: z :: r, x => by
    unfold dedA
    split
    · rename_i h
      rw [dedA_mem (z :: r)]
      subst h
      simp
    · rw [List.mem_cons, dedA_mem (z :: r), List.mem_cons (l := z :: r)]
theorem dedA_rising (G : Good c) (hi : ∀ x y, c x y = 0 → x = y) : ∀ (l : List α), l.Pairwise (fun x y => c x y ≤ 0) → Rising c (dedA l)
  | [], _ => List.Pairwise.nil
  | [y], _ => by unfold dedA Rising; simp
  | y :: z :: r, h => by
    have h' := (List.pairwise_cons.1 h).2
    have ih := dedA_rising G hi (z :: r) h'
    unfold dedA
    split
    · exact ih
    · rename_i hne
      unfold Rising
      rw [List.pairwise_cons]
      refine ⟨fun x hx => ?_, ih⟩
      rw [dedA_mem] at hx
      have h1 := (List.pairwise_cons.1 h).1 z (List.mem_cons_self ..)
      have h2 : c y z < 0 := by
        rcases Int.lt_or_eq_of_le h1 with q | q
        · exact q
        · exact absurd (hi _ _ q) hne
      rcases List.mem_cons.1 hx with rfl | hx
      · exact h2
      · exact G.lt_le h2 ((List.pairwise_cons.1 h').1 x hx)
theorem dedA_len : ∀ (l : List α), (dedA l).length ≤ l.length
  | [] => Nat.le_refl _
  | [y] => Nat.le_refl _
  | y :: z :: r => by
    unfold dedA
    have := dedA_len (z :: r)
    split <;> simp at * <;> omega
def sortU (c : α → α → Int) (l : List α) : List α := dedA (srt c l)
theorem sortU_mem (l : List α) (x : α) : x ∈ sortU c l ↔ x ∈ l := by unfold sortU; rw [dedA_mem, srt_mem]
theorem sortU_rising (G : Good c) (hi : ∀ x y, c x y = 0 → x = y) (l : List α) : Rising c (sortU c l) := dedA_rising G hi _ (srt_pair G l)
theorem sortU_len (l : List α) : (sortU c l).length ≤ l.length := by unfold sortU; have := dedA_len (srt c l); rw [srt_len] at this; exact this
theorem sortU_ext (G : Good c) (hi : ∀ x y, c x y = 0 → x = y) {l m : List α} (h : ∀ x, x ∈ l ↔ x ∈ m) : sortU c l = sortU c m :=
  rising_ext G (sortU_rising G hi l) (sortU_rising G hi m) fun x => by rw [sortU_mem, sortU_mem]; exact h x
end
end Go.Proofs.YtnnclkeoakjjkaaGreat

namespace Go.Proofs.YtnnclkeoakjjkaaGreat.Ab
set_option linter.unusedVariables false
open Go.RowKit Go.Lib

theorem bytesLess_cmp : ∀ (a b : List UInt8), Op.bytesLess a b = decide (compareBytes a b < 0)
  | [], [] => by simp [Op.bytesLess, compareBytes]
  | [], _ :: _ => by simp [Op.bytesLess, compareBytes]
  | _ :: _, [] => by simp [Op.bytesLess, compareBytes]
  | a :: x, b :: y => by
    rw [Op.bytesLess, compareBytes, bytesLess_cmp x y]
    by_cases h : a < b
    · simp [h]
    · by_cases h2 : b < a
      · have : (a == b) = false := by
          rw [beq_eq_false_iff_ne]
          rintro rfl
          exact UInt8.lt_irrefl _ h2
        simp [h, h2, this]
      · have : a = b := by
          rw [UInt8.lt_iff_toNat_lt] at h h2
          exact UInt8.toNat_inj.1 (by omega)
        subst this
        simp [h]
theorem mk_toList (l : List UInt8) : (ByteArray.mk (Array.mk l)).toList = l := by
  rw [ByteArray.toList_eq]
abbrev strA (l : List UInt8) : AVal := .d (.sc (.string ⟨⟨l⟩⟩))
def sbin (op : BinOp) (a b : List UInt8) : Option Bool := match op with
  | .eql => some (decide (a = b))
  | .neq => some (!decide (a = b))
  | .lss => some (decide (compareBytes a b < 0))
  | .leq => some (decide (compareBytes a b ≤ 0))
  | .gtr => some (decide (0 < compareBytes a b))
  | .geq => some (decide (0 ≤ compareBytes a b))
  | _ => none
section
variable {P : Program} {nt : Nat} {Q : Post} {e : Env} {h : Heap} {ops : Array Oper} {o : Oper} {rest : List Oper} {T : List Nat} {tab : TTab}
theorem Y_sbin {op : BinOp} {t u : TypeId} {x y : Operand} {a b : List UInt8} {r : Bool} (ho : o.op = .binOp op t x y u) (hx : aev e x = some (strA a)) (hy : aev e y = some (strA b)) (hr : sbin op a b = some r) : AYield P T e h o (.d (.sc (.bool r))) := yield_of _ fun w F ι ac E =>
  ⟨.bool r, sc_rel rfl, fun w' => by
    have hz : (a == b) = decide (compareBytes a b = 0) := by rw [Bool.eq_iff_iff]; simp [bytes_zero]
    have hz2 : decide (a = b) = decide (compareBytes a b = 0) := by rw [Bool.eq_iff_iff]; simp [bytes_zero]
    simp only [execOp, ho, (sc_of (aev_rel E hx)).1, (sc_of (aev_rel E hy)).1]
    cases op <;> first | cases hr; done | (injection hr with hr; subst hr; (try simp only [hz2]); simp [eqGuard, binOp, Op.stringOp, mk_toList, bytesLess_cmp, hz]; done) | (injection hr with hr; subst hr; (try simp only [hz2]); simp [eqGuard, binOp, Op.stringOp, mk_toList, bytesLess_cmp, hz]; generalize compareBytes a b = c; rw [Bool.eq_iff_iff]; simp <;> omega)⟩
theorem R_sT {op : BinOp} {t u : TypeId} {x y : Operand} {a b : List UInt8} {r : Bool} (ho : o.op = .binOp op t x y u) (hx : aev e x = some (strA a)) (hy : aev e y = some (strA b)) (hr : sbin op a b = some r) (hc : r = true) : AYield P T e h o (.d (.sc (.bool true))) := by
  subst hc; exact Y_sbin ho hx hy hr
theorem R_sF {op : BinOp} {t u : TypeId} {x y : Operand} {a b : List UInt8} {r : Bool} (ho : o.op = .binOp op t x y u) (hx : aev e x = some (strA a)) (hy : aev e y = some (strA b)) (hr : sbin op a b = some r) (hc : r = false) : AYield P T e h o (.d (.sc (.bool false))) := by
  subst hc; exact Y_sbin ho hx hy hr
def bbin (op : BinOp) (a b : Bool) : Option Bool := match op with
  | .eql => some (a == b)
  | .neq => some (a != b)
  | _ => none
def tbool (tab : TTab) (t : TypeId) : Bool := match tlook tab t with
  | some ⟨_, _, _, _, .bo⟩ => true
  | _ => false
theorem tbool_spec {tab : TTab} {t : TypeId} (TO : TabOk P tab) (h : tbool tab t = true) : P.underlying t = some .bool := by
  unfold tbool at h
  split at h
  · rename_i heq
    obtain ⟨d, hd, _, hs⟩ := (TO t _ heq).und
    rw [hd]; congr 1
  · cases h
theorem Y_bbin {op : BinOp} {t u : TypeId} {x y : Operand} {a b : Bool} {r : Bool} (TO : TabOk P tab) (ho : o.op = .binOp op t x y u) (ht : tbool tab t = true) (hx : aev e x = some (.d (.sc (.bool a)))) (hy : aev e y = some (.d (.sc (.bool b)))) (hr : bbin op a b = some r) : AYield P T e h o (.d (.sc (.bool r))) := yield_of _ fun w F ι ac E =>
  ⟨.bool r, sc_rel rfl, fun w' => by
    have hu := tbool_spec TO ht
    simp only [execOp, ho, (sc_of (aev_rel E hx)).1, (sc_of (aev_rel E hy)).1]
    cases op <;> first | cases hr; done | (injection hr with hr; subst hr; simp [eqGuard, binOp, run_equal_bool w' t a b hu]; done) | (injection hr with hr; subst hr; simp [eqGuard, binOp, run_equal_bool w' t a b hu]; cases a <;> cases b <;> rfl)⟩
end
end Go.Proofs.YtnnclkeoakjjkaaGreat.Ab

namespace Go.Proofs.YtnnclkeoakjjkaaGreat.Ab
set_option linter.unusedVariables false
open Go.RowKit

section
variable {P : Program} {nt : Nat} {Q : Post} {e : Env} {h : Heap} {ops : Array Oper} {o : Oper} {rest : List Oper} {T : List Nat} {tab : TTab}
theorem HRel.relook {Pm F : Nat → Prop} {w0 w : World} {pin ι : Nat → Option Value} {h h' : Heap} (H : HRel Pm F w0 pin ι h w) (hs : ∀ j, look h' j = look h j) : HRel Pm F w0 pin ι h' w :=
  ⟨fun j b hj => H.blk j b (by rw [← hs]; exact hj), fun j v hj => by rw [hs]; exact H.dom j v hj, H.inj, H.pm, H.os, H.tape, H.output, H.size, H.keep, H.fresh, H.pinned, H.nf, H.forb⟩
theorem run_cutFrom {t el : TypeId} {te te' : TE} (w' : World) (Ft : TFacts P t te) (hs : te.sh = .sl el) (Fe : TFacts P el te') (b : Option Addr) (n cap : Nat) (k : IntKind) (m : Nat) (hm : m ≤ n) :
    (Instr.sliceAt t (.slice b n cap) (some (.int k m)) none none).run P w' = .ok (.slice (if cap = m then b else b.map (·.add (m * te'.size))) (n - m) (cap - m)) w' := by
  have hu := Ft.slice hs
  have he : P.elem t = el := Ft.elem hs
  rw [run_sliceAt_slice (t := t) (h := by rw [he]; exact hu), run_slice_l (P := P) (w := w') (t := t) (a := b) (len := n) (cap := cap) (ht := by rw [he]; exact hu) (kl := k) (l := (m : Int)) (by omega) (by omega), he, Fe.size]
  simp only [Result.andThen, sliced, Int.toNat_natCast]
theorem run_cut3 {t el : TypeId} {te te' : TE} (w' : World) (Ft : TFacts P t te) (hs : te.sh = .sl el) (Fe : TFacts P el te') (b : Option Addr) (hb : ∀ a, b = some a → a.add 0 = a) (n cap : Nat) (k k2 : IntKind) (m : Nat) (hm : m ≤ cap) :
    (Instr.sliceAt t (.slice b n cap) none (some (.int k m)) (some (.int k2 m))).run P w' = .ok (.slice b m m) w' := by
  have hu := Ft.slice hs
  have he : P.elem t = el := Ft.elem hs
  rw [run_sliceAt_slice (t := t) (h := by rw [he]; exact hu), run_slice_hm (P := P) (w := w') (t := t) (a := b) (len := n) (cap := cap) (ht := by rw [he]; exact hu) (kh := k) (km := k2) (h := (m : Int)) (m := (m : Int)) (by omega) (by omega) (by omega), he, Fe.size]
  simp only [Result.andThen, sliced, Int.toNat_natCast, Nat.zero_mul, Nat.sub_zero]
  congr 2
  split
  · rfl
  · cases b with
    | none => rfl
    | some a => simp [hb a rfl]
theorem add_lit0 (g o j : Nat) : (⟨g, o, none⟩ : Addr).add j = ⟨g, o + j, none⟩ := by unfold Addr.add; split <;> simp_all

theorem R_rowFrom {t el el' k kk m id : Nat} {x y : Operand} {cs : List Dat} {n : Nat} {q : IntKind} {i : Int} (TO : TabOk P tab) (ho : o.op = .slice t x (some y) none none) (hel : telem tab t = some el) (hsz : tsize tab el = some k) (hx : aev e x = some (.row id)) (hb : look h id = some (.row el' kk n cs)) (hy : aev e y = some (.d (.sc (.int q i)))) (hi : i = (m : Int)) (hm : m ≤ n) :
    AYield P T e h o (.srow id (m * k) (n - m)) := by
  obtain ⟨te, h1, h2⟩ := telem_spec hel
  obtain ⟨te', h3, rfl⟩ := tsize_spec hsz
  subst hi
  intro Pm F w0 pin ι a w H E
  obtain ⟨v, hv, xs, hown, _⟩ := H.blk id _ hb
  have hr := aev_rel E hx
  have hk := (sc_of (aev_rel E hy)).1
  generalize hau : a.eval x = u at hr
  cases hr with
  | row _ _ g1 g2 =>
    have g3 := g2 v hv
    subst g3
    rcases hown.2 with ⟨rfl, h4⟩ | ⟨g, cap, cur, rfl, _, _, hnc, _⟩
    · subst h4
      have : m = 0 := by omega
      subst this
      refine ⟨.slice none 0 0, .srow id _ _ _ rfl fun v' hv' => ⟨none, 0, rfl, by omega, fun h => by omega⟩, fun w' _ => ?_⟩
      simp only [execOp, ho, hau]; simp [hk]; rw [show (0 : Int) = ((0 : Nat) : Int) from rfl, run_cutFrom w' (TO t te h1) h2 (TO el te' h3) none 0 0 q 0 (Nat.le_refl _)]; rfl
    · refine ⟨_, .srow id _ _ (.slice (if cap = m then (some ⟨g, 0, none⟩) else some ⟨g, m * te'.size, none⟩) (n - m) (cap - m)) rfl fun v' hv' => ?_, fun w' _ => ?_⟩
      · rw [hv] at hv'; cases hv'
        refine ⟨_, _, rfl, by omega, fun hpos => ⟨g, n, cap, rfl, ?_⟩⟩
        rw [if_neg (by omega)]
      · simp only [execOp, ho, hau]; simp [hk]; rw [run_cutFrom w' (TO t te h1) h2 (TO el te' h3) _ n cap q m hm]
        simp only [Option.map_some, add_lit0, Nat.zero_add]
        rfl
theorem R_indexs {t el k j id off n : Nat} {x y : Operand} {el' kk nn : Nat} {cs : List Dat} {q : IntKind} {i : Int} (TO : TabOk P tab) (ho : o.op = .indexAddr t x y) (hel : telem tab t = some el) (hsz : tsize tab el = some k) (hx : aev e x = some (.srow id off n)) (hb : look h id = some (.row el' kk nn cs)) (hy : aev e y = some (.d (.sc (.int q i)))) (hj : i = (j : Int)) (hlt : j < n) :
    AYield P T e h o (.eptr id (off + j * k)) := by
  obtain ⟨te, h1, h2⟩ := telem_spec hel
  obtain ⟨te', h3, rfl⟩ := tsize_spec hsz
  subst hj
  intro Pm F w0 pin ι a w H E
  obtain ⟨v, hv, xs, hown, _⟩ := H.blk id _ hb
  have hr := aev_rel E hx
  have hk := (sc_of (aev_rel E hy)).1
  have hu := (TO t te h1).slice h2
  generalize hau : a.eval x = u at hr
  cases hr with
  | srow _ _ _ _ g1 g2 =>
    obtain ⟨b', c', rfl, _, g3⟩ := g2 v hv
    obtain ⟨g, N, cap, rfl, rfl⟩ := g3 (by omega)
    refine ⟨.pointer (some ⟨g, off + j * te'.size, none⟩), .eptr id _ _ rfl fun v' hv' => ?_, fun w' _ => ?_⟩
    · rw [hv] at hv'; cases hv'; exact ⟨g, N, cap, rfl, rfl⟩
    · simp [execOp, ho, hau, hk, run_indexAt w' hu (TO el te' h3) g off n c' q (j : Int) ⟨by omega, by omega⟩]
theorem R_lens {t el id off n : Nat} {x : Operand} {el' kk nn : Nat} {cs : List Dat} (TO : TabOk P tab) (ho : o.op = .call { callee := .builtin .len, args := #[x], argTypes := #[t] }) (hel : telem tab t = some el) (hx : aev e x = some (.srow id off n)) (hb : look h id = some (.row el' kk nn cs)) : AYield P T e h o (.d (.sc (.int .i64 (n : Int)))) := by
  obtain ⟨te, h1, h2⟩ := telem_spec hel
  intro Pm F w0 pin ι a w H E
  obtain ⟨v, hv, xs, hown, _⟩ := H.blk id _ hb
  have hu := (TO t te h1).slice h2
  have hr := aev_rel E hx
  generalize hau : a.eval x = u at hr
  cases hr with
  | srow _ _ _ _ g1 g2 =>
    obtain ⟨b', c', rfl, _, g3⟩ := g2 v hv
    exact ⟨_, sc_rel rfl, fun w' _ => by simp [execOp, ho, resolve, invoke, builtin, hau, Builtin.len_, run_underlying hu, goInt]⟩
theorem R_clip {t el k : Nat} {x y z : Operand} {cs : List Dat} {n : Nat} {q q2 : IntKind} {i j : Int} (TO : TabOk P tab) (ho : o.op = .slice t x none (some y) (some z)) (hel : telem tab t = some el) (hsz : tsize tab el = some k) (hx : aev e x = some (.d (.sl cs n))) (hy : aev e y = some (.d (.sc (.int q i)))) (hz : aev e z = some (.d (.sc (.int q2 j)))) (hi : i = (n : Int)) (hj : j = (n : Int)) :
    AYield P T e h o (.full cs n) := by
  obtain ⟨te, h1, h2⟩ := telem_spec hel
  obtain ⟨te', h3, rfl⟩ := tsize_spec hsz
  subst hi hj
  refine yield_of _ fun w F ι a E => ?_
  have hv := aev_rel E hx
  have hk := (sc_of (aev_rel E hy)).1
  have hk2 := (sc_of (aev_rel E hz)).1
  generalize hau : a.eval x = u at hv
  cases hv with
  | d _ _ hd =>
    cases hd with
    | nil => exact ⟨_, .full [] 0 none .nil, fun w' => by simp only [execOp, ho, hau]; simp [hk, hk2]; rw [show (0 : Int) = ((0 : Nat) : Int) from rfl, run_cut3 w' (TO t te h1) h2 (TO el te' h3) none (fun a h => by cases h) 0 0 q q2 0 (Nat.le_refl _)]; rfl⟩
    | sl _ _ b off cap vs hn hl hf hc hr =>
      exact ⟨_, .full cs n _ (.sl cs n b off n vs (Nat.le_refl _) hl hf hc hr), fun w' => by simp only [execOp, ho, hau]; simp [hk, hk2]; rw [run_cut3 w' (TO t te h1) h2 (TO el te' h3) _ (fun a h => by cases h; exact add0 _ _) n cap q q2 n hn]; rfl⟩

theorem E_rowTo {t el : TypeId} {te te' : TE} {d : Option Tmp} {x y : Operand} {rid n m : Nat} {cs : List Dat} {q : IntKind} {el' kk : Nat} (TO : TabOk P tab) (ho : o.op = .slice t x none (some y) none) (hdst : o.dst = d)
    (ht : tlook tab t = some te) (hs : te.sh = .sl el) (hel : tlook tab el = some te') (hx : aev e x = some (.row rid)) (hb : look h rid = some (.row el' kk n cs)) (hy : aev e y = some (.d (.sc (.int q (m : Int))))) (hm : m ≤ n) (hid : Nat.blt rid 1000 = true) (hd : dstOk nt d = true) (hT : T.contains rid = true) :
    AEff P nt T e h o (fun e' h' => e' = aput d (.row rid) (killE rid e) ∧ h' = (rid, .row el' kk m (cs.take (m * kk))) :: killH rid h) := fun Pm F w0 pin ι a w R K Qx hK => by
  have hid' : rid < 1000 := by simp [Nat.blt] at hid; omega
  obtain ⟨v, hv, xs, hown, hxl, hxr⟩ := R.heap.blk _ _ hb
  have hr := aev_rel R.env hx
  have hk := (sc_of (aev_rel R.env hy)).1
  obtain ⟨b, N, cap, hvv, hN, hadd⟩ : ∃ b N cap, v = .slice b N cap ∧ m ≤ cap ∧ ∀ a, b = some a → a.add 0 = a := by
    rcases hown.2 with ⟨h1, h2⟩ | ⟨g, cap, cur, h1, _, _, h2, _⟩
    · exact ⟨none, 0, 0, h1, by omega, fun a h => by cases h⟩
    · exact ⟨_, _, cap, h1, by omega, fun a h => by cases h; exact add0 _ _⟩
  have hval : a.eval x = v := by
    generalize a.eval x = u at hr
    cases hr with
    | row _ _ g1 g2 => exact g2 v hv
  have hlen : (xs.take (m * kk)).length = m * kk := by rw [List.length_take, hown.1]; exact Nat.min_eq_left (Nat.mul_le_mul_right kk hm)
  have hown' : w.ownsRow 0 el' kk (.slice b m cap) m (xs.take (m * kk)) := by
    refine ⟨hlen, ?_⟩
    rcases hown.2 with ⟨h1, h2⟩ | ⟨g, cap2, cur, h1, g2, g3, g4, g5, g6, g7⟩
    · rw [hvv] at h1; cases h1; exact .inl ⟨by rw [show m = 0 by omega], by omega⟩
    · rw [hvv] at h1; cases h1
      refine .inr ⟨g, cap, cur, rfl, g2, g3, hN, g5, g6, ?_⟩
      rw [← g7, List.take_take, Nat.min_eq_left (Nat.mul_le_mul_right kk hm)]
  have hblk : blockOf (.slice b m cap) = blockOf v := by subst hvv; cases b <;> rfl
  have TT : Touch w ι rid (.slice b m cap) w := ⟨rfl, rfl, rfl, Nat.le_refl _, fun r _ _ => rfl, fun r hr1 => .inr ⟨v, hv, by rw [← hblk]; exact hr1⟩⟩
  have hrun : (execOp a.eval o).run P w = .ok (.value (.slice b m cap)) w := by
    simp only [execOp, ho, hval, hvv, Option.map_some, Option.map_none, hk]
    simp
    rw [run_cutTo w (TO t te ht) hs (TO el te' hel) b hadd N cap q m hN]
    rfl
  unfold Oper.wp
  rw [hrun, Oper.upon_value, hdst]
  refine hK _ _ _ _ _ ⟨rfl, rfl⟩ ⟨R.heap.touch TT (.inl hid') ⟨xs.take (m * kk), hown', by rw [List.length_take, List.length_take, hxl], fun i c u h1 h2 => ?_⟩, (R.env.killed TT.ext).aput hd R.size (.row rid _ (own_one hown') fun v hv => by simp [upd] at hv; exact hv), by rw [put_defers]; exact R.defers.ext TT.ext, by rw [put_size]; exact R.size⟩ ?_ (put_defers _ _ _)
  · rw [List.getElem?_take] at h1 h2
    split at h1
    · rename_i hlt
      rw [if_pos hlt] at h2
      exact (hxr _ _ _ h1 h2).ext TT.ext.mem TT.ext.free
    · cases h1
  · refine ⟨⟨rfl, rfl, rfl, Nat.le_refl _, fun r _ _ => rfl⟩, fun j _ u r hj hr1 hlt => ?_⟩
    unfold upd at hj
    split at hj
    · rename_i hjr
      subst hjr
      cases hj
      exact ⟨v, hv, by rw [← hblk]; exact hr1⟩
    · exact ⟨u, hj, hr1⟩

theorem run_copyK {P : Program} (w : World) (dT sT ty elem : TypeId) (k : Nat) (g o dLen dCap : Nat) (a : Addr) (sLen sCap : Nat) (cur : Array Value) (t : TypeId) (cs : List Value)
    (hu : P.underlying dT = some (.slice elem)) (hs : (P.info? elem).map (·.size) = some k)
    (hg : w.heap[g]? = some (.cells cur t (0, 0))) (hn : cs.length = Nat.min sLen dLen * k)
    (hsrc : ∀ j v, cs[j]? = some v → w.cell? (a.add j) = some v) (hfit : o + cs.length ≤ cur.size) (h1 : ∀ v ∈ cs, v.oneCell' = true) :
    (Builtin.copy_ #[dT, sT] ty #[.slice (some ⟨g, o, none⟩) dLen dCap, .slice (some a) sLen sCap]).run P w =
      .ok (goInt (Nat.min sLen dLen)) (w.setRow g (setW cur.toList o cs).toArray) := by
  have hl := run_loadCells_list (P := P) w a cs hsrc
  have hst := run_storeCells_at P g o t cs 0 cur w hg (by simpa using hfit) h1
  cases hq : P.info? elem with
  | none => simp [hq] at hs
  | some i =>
    have hi : i.size = k := by simpa [hq] using hs
    simp [Builtin.copy_, run_underlying hu, Builtin.lenOf, Builtin.firstCells, sizeOf, typeInfo, hq, hi, ← hn, hl, hst, setW]
theorem run_copyK0 {P : Program} (w : World) (dT sT ty elem : TypeId) (k : Nat) (d a : Option Addr) (dLen dCap sLen sCap : Nat) (hu : P.underlying dT = some (.slice elem)) (hs : (P.info? elem).map (·.size) = some k) (hn : Nat.min sLen dLen = 0) :
    (Builtin.copy_ #[dT, sT] ty #[.slice d dLen dCap, .slice a sLen sCap]).run P w = .ok (goInt 0) w := by
  cases hq : P.info? elem with
  | none => simp [hq] at hs
  | some i =>
    have hl : ∀ (x : Addr), (loadCells x 0).run P w = .ok #[] w := fun x => by simpa using run_loadCells_list (P := P) w x [] (by simp)
    cases d <;> cases a <;> simp [Builtin.copy_, run_underlying hu, Builtin.lenOf, Builtin.firstCells, sizeOf, typeInfo, hq, hn, storeCells, hl]
theorem win_get' {α : Type} (cs : List α) (off k j : Nat) (hj : j < k) : (win cs off k)[j]? = cs[off + j]? := by
  unfold win
  rw [List.getElem?_take_of_lt hj, List.getElem?_drop]
theorem win_len {α : Type} (cs : List α) (off k : Nat) (h : off + k ≤ cs.length) : (win cs off k).length = k := by
  unfold win
  rw [List.length_take, List.length_drop]; omega
theorem setW_nil {α : Type} (cs : List α) (off : Nat) : setW cs off [] = cs := by unfold setW; simp
theorem setW_len {α : Type} (cs xs : List α) (off : Nat) (h : off + xs.length ≤ cs.length) : (setW cs off xs).length = cs.length := by
  unfold setW
  simp; omega
theorem own_set {w : World} {e k n g cap off : Nat} {cur : Array Value} {xs news : List Value} (hg : w.heap[g]? = some (.cells cur e (0, 0))) (hlen : xs.length = n * k) (hcap : n ≤ cap) (hmax : cap ≤ maxLen) (hsz : cur.size = cap * k) (ht : cur.toList.take (n * k) = xs) (hfit : off + news.length ≤ n * k) :
    (w.setRow g (setW cur.toList off news).toArray).ownsRow 0 e k (.slice (some ⟨g, 0, none⟩) n cap) n (setW xs off news) := by
  have hle : n * k ≤ cur.size := by rw [hsz]; exact Nat.mul_le_mul_right k hcap
  have h1 := setRow_heap w g cur (setW cur.toList off news).toArray e (0, 0) hg
  refine ⟨by rw [setW_len _ _ _ (by omega), hlen], .inr ⟨g, cap, _, rfl, Nat.zero_le _, h1, hcap, hmax, ?_, ?_⟩⟩
  · rw [List.size_toArray, setW_len _ _ _ (by rw [Array.length_toList (xs := cur)]; omega), Array.length_toList, hsz]
  · rw [List.toList_toArray, ← ht]
    apply List.ext_getElem?
    intro i
    by_cases hi : i < n * k
    · rw [List.getElem?_take_of_lt hi, setW_get (by rw [Array.length_toList (xs := cur)]; omega), setW_get (by rw [List.length_take, Array.length_toList (xs := cur)]; omega), List.getElem?_take_of_lt hi]
    · rw [List.getElem?_eq_none (by rw [List.length_take]; omega), List.getElem?_eq_none (by rw [setW_len _ _ _ (by rw [List.length_take, Array.length_toList (xs := cur)]; omega), List.length_take]; omega)]
theorem E_copyS {t sT el : TypeId} {te te' : TE} {d : Option Tmp} {x y : Operand} {id off1 n1 off2 n2 n k : Nat} {cs : List Dat} (TO : TabOk P tab) (ho : o.op = .call { callee := .builtin .copy, args := #[x, y], argTypes := #[t, sT] }) (hdst : o.dst = d)
    (ht : tlook tab t = some te) (hs : te.sh = .sl el) (hel : tlook tab el = some te') (hk : te'.size = k) (hx : aev e x = some (.srow id off1 n1)) (hy : aev e y = some (.srow id off2 n2)) (hb : look h id = some (.row el k n cs))
    (h1 : off1 + Nat.min n2 n1 * k ≤ n * k) (h2 : off2 + Nat.min n2 n1 * k ≤ n * k) (hd : dstOk nt d = true) (hT : T.contains id = true) :
    AEff P nt T e h o (fun e' h' => e' = aput d (.d (.sc (.int .i64 ((Nat.min n2 n1 : Nat) : Int)))) e ∧ h' = (id, .row el k n (setW cs off1 (win cs off2 (Nat.min n2 n1 * k)))) :: h) := fun Pm F w0 pin ι a w R K Qx hK => by
  subst hk
  obtain ⟨v, hv, xs, hown, hxl, hxr⟩ := R.heap.blk _ _ hb
  have hu := (TO t te ht).slice hs
  have hsz : (P.info? el).map (·.size) = some te'.size := by
    obtain ⟨z, _, _, i, hi, _, hsz, _⟩ := (TO el te' hel).zero w
    rw [hi]; simp [hsz]
  have hrx := aev_rel R.env hx
  have hry := aev_rel R.env hy
  have hcl : cs.length = n * te'.size := by rw [← hxl]; exact hown.1
  obtain ⟨ux, hux⟩ : ∃ ux, a.eval x = ux := ⟨_, rfl⟩
  obtain ⟨uy, huy⟩ : ∃ uy, a.eval y = uy := ⟨_, rfl⟩
  rw [hux] at hrx
  rw [huy] at hry
  cases hrx with
  | srow _ _ _ _ g1 g2 =>
  cases hry with
  | srow _ _ _ _ g3 g4 =>
    obtain ⟨b1, c1, rfl, _, k1⟩ := g2 v hv
    obtain ⟨b2, c2, rfl, _, k2⟩ := g4 v hv
    by_cases h0 : Nat.min n2 n1 = 0
    · have hrun : (execOp a.eval o).run P w = .ok (.value (goInt 0)) w := by
        simp [execOp, ho, resolve, invoke, builtin, hux, huy, run_copyK0 w t sT o.type el te'.size b1 b2 n1 c1 n2 c2 hu hsz h0]
      unfold Oper.wp
      rw [hrun, Oper.upon_value, hdst]
      refine hK ι _ _ _ _ ⟨rfl, rfl⟩ ?_ ⟨CT.refl T ι w, fun id _ v r hv hr _ => ⟨v, hv, hr⟩⟩ (put_defers _ _ _)
      rw [h0]
      refine ⟨?_, R.env.aput hd R.size (sc_rel rfl), by rw [put_defers]; exact R.defers, by rw [put_size]; exact R.size⟩
      have e1 : setW cs off1 (win cs off2 (0 * te'.size)) = cs := by unfold win; rw [Nat.zero_mul, List.take_zero]; exact setW_nil _ _
      rw [e1]
      refine R.heap.relook fun j => ?_
      by_cases hj2 : id = j
      · subst hj2; rw [look_cons_same, hb]
      · rw [look_cons_ne _ _ hj2]
    · have hm1 : 0 < n1 := by have e : Nat.min n2 n1 = min n2 n1 := rfl; omega
      have hm2 : 0 < n2 := by have e : Nat.min n2 n1 = min n2 n1 := rfl; omega
      obtain ⟨g, N, cap, hvv, rfl⟩ := k1 hm1
      obtain ⟨g', N', cap', hvv2, rfl⟩ := k2 hm2
      rw [hvv] at hvv2; cases hvv2
      rcases hown.2 with ⟨q1, _⟩ | ⟨g0, cap0, cur, q1, _, hg, q4, q5, q6, q7⟩
      · rw [hvv] at q1; cases q1
      rw [hvv] at q1; cases q1
      have hle : n * te'.size ≤ cur.size := by rw [q6]; exact Nat.mul_le_mul_right _ q4
      have hwl : (win cur.toList off2 (Nat.min n2 n1 * te'.size)).length = Nat.min n2 n1 * te'.size := win_len _ _ _ (by rw [Array.length_toList (xs := cur)]; omega)
      have hcell : ∀ j v, (win cur.toList off2 (Nat.min n2 n1 * te'.size))[j]? = some v → w.cell? ((⟨g, off2, none⟩ : Addr).add j) = some v := fun j v hj => by
        have hjl : j < Nat.min n2 n1 * te'.size := by rw [← hwl]; exact (List.getElem?_eq_some_iff.1 hj).1
        rw [win_get' _ _ _ _ hjl, Array.getElem?_toList] at hj
        rw [add_lit0, cell_of_row w g (off2 + j) cur el (0, 0) hg]
        exact hj
      have hxw : win cur.toList off2 (Nat.min n2 n1 * te'.size) = win xs off2 (Nat.min n2 n1 * te'.size) := by
        rw [← q7]
        apply List.ext_getElem?
        intro i
        by_cases hi : i < Nat.min n2 n1 * te'.size
        · rw [win_get' _ _ _ _ hi, win_get' _ _ _ _ hi, List.getElem?_take_of_lt (by omega)]
        · rw [List.getElem?_eq_none (by omega), List.getElem?_eq_none (by rw [win_len _ _ _ (by rw [List.length_take, Array.length_toList (xs := cur)]; omega)]; omega)]
      have hone : ∀ u ∈ win cur.toList off2 (Nat.min n2 n1 * te'.size), u.oneCell' = true := fun u hu => by
        rw [hxw] at hu
        obtain ⟨i, hi⟩ := List.mem_iff_getElem?.1 hu
        have hlt : i < Nat.min n2 n1 * te'.size := by
          have := (List.getElem?_eq_some_iff.1 hi).1
          rw [win_len _ _ _ (by rw [hown.1]; omega)] at this
          exact this
        rw [win_get' _ _ _ _ hlt] at hi
        have hlt2 : off2 + i < cs.length := by rw [← hxl]; exact (List.getElem?_eq_some_iff.1 hi).1
        exact (hxr _ _ _ (List.getElem?_eq_getElem hlt2) hi).one
      have hrun0 := run_copyK (P := P) w t sT o.type el te'.size g off1 n1 c1 ⟨g, off2, none⟩ n2 c2 cur el _ hu hsz hg hwl hcell (by rw [hwl]; omega) hone
      have hrun : (execOp a.eval o).run P w = .ok (.value (goInt (Nat.min n2 n1))) (w.setRow g (setW cur.toList off1 (win cur.toList off2 (Nat.min n2 n1 * te'.size))).toArray) := by
        simp only [execOp, ho, resolve, invoke, builtin]
        simp [hux, huy, hrun0]
      obtain ⟨hW, hnew⟩ := wrote_setRow (C' := (setW cur.toList off1 (win cur.toList off2 (Nat.min n2 n1 * te'.size))).toArray) hg (v := v) (by rw [hvv]; rfl)
      have hown2 := own_set (off := off1) (news := win cur.toList off2 (Nat.min n2 n1 * te'.size)) hg hown.1 q4 q5 q6 q7 (by rw [hwl]; exact h1)
      unfold Oper.wp
      rw [hrun, Oper.upon_value, hdst]
      refine hK ι _ _ _ _ ⟨rfl, rfl⟩ ?_ ⟨⟨hW.os, hW.tape, hW.output, hW.size, fun r hr hne => hW.mem r hr fun he => hne id (List.contains_iff_mem.1 hT) v hv he⟩, fun id _ v r hv hr _ => ⟨v, hv, hr⟩⟩ (put_defers _ _ _)
      refine ⟨R.heap.wrote hW hv ⟨_, by rw [hvv]; exact hown2, by rw [setW_len _ _ _ (by rw [hwl, hown.1]; omega), setW_len _ _ _ (by rw [win_len _ _ _ (by omega)]; omega), hxl], fun i c u h4 h5 => ?_⟩, (R.env.mono fun _ _ _ _ hv' => hv'.wrote hW hv).aput hd R.size (sc_rel rfl), by rw [put_defers]; exact R.defers.ext (hW.ext hv), by rw [put_size]; exact R.size⟩
      rw [setW_get (by rw [win_len _ _ _ (by omega)]; omega), win_len _ _ _ (by omega)] at h4
      rw [setW_get (by rw [hwl, hown.1]; omega), hwl] at h5
      split at h4
      · rename_i hin
        rw [if_pos hin] at h5
        rw [hxw] at h5
        rw [win_get' _ _ _ _ (by omega)] at h4 h5
        exact (hxr _ _ _ h4 h5).ext (hW.ext hv).mem (hW.ext hv).free
      · rename_i hin
        rw [if_neg hin] at h5
        exact (hxr _ _ _ h4 h5).ext (hW.ext hv).mem (hW.ext hv).free

theorem run_appF {P : Program} {t el : TypeId} {te te' : TE} {ty : TypeId} (w : World) (Ft : TFacts P t te) (hs : te.sh = .sl el) (Fe : TFacts P el te') (hk : 0 < te'.size) (hk2 : te'.zero.length = te'.size) (b : Option Addr) (n : Nat) (olds : List Value)
    (hol : olds.length = n * te'.size) (hold : (b = none ∧ n = 0) ∨ ∃ g o, b = some ⟨g, o, none⟩ ∧ ∀ (j : Nat) (x : Value), olds[j]? = some x → w.cell? ⟨g, o + j, none⟩ = some x) (u : Value) (m : Nat) (news : List Value) (hm : 0 < m)
    (hl : news.length = m * te'.size) (hu : ∃ b o' c', u = .slice (some ⟨b, o', none⟩) m c' ∧ ∀ (j : Nat) (x : Value), news[j]? = some x → w.cell? ⟨b, o' + j, none⟩ = some x)
    (h1 : ∀ x ∈ news, x.oneCell' = true) (hn : n + m ≤ 2147483648) (hb : te'.bytes ≤ 65536) :
    ∃ v' w', (Builtin.append_ #[t, t] ty #[.slice b n n, u]).run P w = .ok v' w' ∧ w'.ownsRow w.heap.size el te'.size v' (n + m) (olds ++ news) ∧ w.grownBy w' none := by
  have hut := Ft.slice hs
  obtain ⟨z, _, hz2, i, hi, hz3, hsz, hby⟩ := Fe.zero w
  have hzs : z.cells.size = te'.size := by rw [← Array.length_toList, hz2, hk2]
  have hbb : (n + m) * te'.bytes ≤ 140737488355328 := by have := Nat.mul_le_mul hn hb; omega
  obtain ⟨b2, o', c', rfl, hc⟩ := hu
  rcases hold with ⟨rfl, rfl⟩ | ⟨g, o, rfl, hco⟩
  · have hnil : olds = [] := by simpa using hol
    subst hnil
    obtain ⟨v', w', hr, h2, h3, _, h5⟩ := run_append_own_at (P := P) w w.heap.size t ty el i z te'.size te'.bytes hut hi hz3 hsz hby hzs hk (.slice none 0 0) 0 [] (World.ownsRow_nil _ _ _ _) ⟨b2, o', none⟩ m c' news hl
      (fun j x hj => by rw [Addr.add_mid]; exact hc j x hj) h1 (by unfold maxLen; omega) hbb (Nat.le_refl _)
    exact ⟨v', w', hr, h2, h3⟩
  · exact run_append_arg_grows (P := P) w t ty el i z te'.size te'.bytes hut hi hz3 hsz hby hzs hk ⟨g, o, none⟩ n n olds hol (fun j x hj => by rw [add_lit0]; exact hco j x hj) ⟨b2, o', none⟩ m c' news hl
      (fun j x hj => by rw [add_lit0]; exact hc j x hj) (by omega) (by unfold maxLen; omega) hbb
end
end Go.Proofs.YtnnclkeoakjjkaaGreat.Ab

namespace Go.Proofs.YtnnclkeoakjjkaaGreat
set_option linter.unusedVariables false
open Go.RowKit Go.Lib
structure Rte where
  p : Pfx
  f : Int
  d : Int
  m : Int
  t : Int
  i : List UInt8
  h : Int
  x : Bool
  deriving DecidableEq
def ordP : Pfx → Pfx → Int := lexc (fun x y => c2 x.a y.a) (fun x y => c2 x.b y.b)
def ordR : Rte → Rte → Int := lexc (fun x y => ordP x.p y.p) (lexc (fun x y => c2 x.f y.f) (lexc (fun x y => c2 x.d y.d) (lexc (fun x y => c2 x.m y.m) (lexc (fun x y => c2 x.t y.t) (lexc (fun x y => c2 x.h y.h) (lexc (fun x y => compareBytes x.i y.i) (fun x y => cB x.x y.x)))))))
theorem good_ordP : Good ordP := (good_c2.of _).lex (good_c2.of _)
theorem good_ordR : Good ordR := (good_ordP.of _).lex ((good_c2.of _).lex ((good_c2.of _).lex ((good_c2.of _).lex ((good_c2.of _).lex ((good_c2.of _).lex ((good_bytes.of _).lex (good_cB.of _)))))))
theorem ordP_zero (x y : Pfx) : ordP x y = 0 ↔ x = y := by
  obtain ⟨a, b⟩ := x
  obtain ⟨c, d⟩ := y
  simp [ordP, lexc_zero, c2_zero]
theorem ordR_zero (x y : Rte) : ordR x y = 0 ↔ x = y := by
  obtain ⟨a, b, c, d, e, f, g, h⟩ := x
  obtain ⟨a', b', c', d', e', f', g', h'⟩ := y
  simp only [ordR, lexc_zero, c2_zero, bytes_zero, cB_zero, ordP_zero, Rte.mk.injEq]
  constructor
  · rintro ⟨h1, h2, h3, h4, h5, h6, h7, h8⟩; exact ⟨h1, h2, h3, h4, h5, h7, h6, h8⟩
  · rintro ⟨h1, h2, h3, h4, h5, h7, h6, h8⟩; exact ⟨h1, h2, h3, h4, h5, h6, h7, h8⟩
def rank : Rte → Rte → Int := lexc (fun x y => c2 x.d y.d) (lexc (fun x y => c2 x.f y.f) (fun x y => c2 x.m y.m))
def firstI : List Int → Int
  | [] => 0
  | x :: r => if x = 0 then firstI r else x
theorem ordP_first (x y : Pfx) : firstI [c2 x.a y.a, c2 x.b y.b] = ordP x y := by
  simp only [firstI, ordP, lexc]
  split
  · split
    · rename_i h; exact h.symm
    · rfl
  · rfl
theorem ordR_first (x y : Rte) : firstI [ordP x.p y.p, c2 x.f y.f, c2 x.d y.d, c2 x.m y.m, c2 x.t y.t, c2 x.h y.h, compareBytes x.i y.i, cB x.x y.x] = ordR x y := by
  have key : ∀ a : Int, (if a = 0 then 0 else a) = a := fun a => by split <;> omega
  simp only [firstI, ordR, lexc, key]
namespace Ab
def rteD (r : Rte) : List Dat := [.sc (.int .u32 r.p.a), .sc (.int .i64 r.p.b), .sc (.int .u8 r.f), .sc (.int .i64 r.d), .sc (.int .i64 r.m), .sc (.int .i64 r.t), .sc (.string ⟨⟨r.i⟩⟩), .sc (.int .u32 r.h), .sc (.bool r.x)]
theorem rteD_len (r : Rte) : (rteD r).length = 9 := rfl
def rteA (r : Rte) : AVal := .agg [.d (.sc (.int .u32 r.p.a)), .d (.sc (.int .i64 r.p.b)), .d (.sc (.int .u8 r.f)), .d (.sc (.int .i64 r.d)), .d (.sc (.int .i64 r.m)), .d (.sc (.int .i64 r.t)), .d (.sc (.string ⟨⟨r.i⟩⟩)), .d (.sc (.int .u32 r.h)), .d (.sc (.bool r.x))]
def rtesA (l : List Rte) : AVal := .d (.sl (l.flatMap rteD) l.length)
end Ab
end Go.Proofs.YtnnclkeoakjjkaaGreat

namespace Go.Proofs.YtnnclkeoakjjkaaGreat.Ab
set_option linter.unusedVariables false
open Go.RowKit
section
variable {P : Program} {nt : Nat} {Q : Post}
def RF : Post := fun _ _ _ => False
theorem A_cut {z : Bool} {x y : Code} {e : Env} {h : Heap} (E1 : Env) (H1 : Heap) (h1 : AWp z P nt x (AThen (fun e' h' => AWk nt e' h' E1 H1) RF) e h) (h2 : AWp z P nt y Q E1 H1) : AWp z P nt (.seq x y) Q e h :=
  A_seq (h1.mono fun ex e h hq => by
    cases ex with
    | normal => exact A_weaken hq h2
    | _ => exact False.elim hq)
end
end Go.Proofs.YtnnclkeoakjjkaaGreat.Ab

namespace Go.Proofs.YtnnclkeoakjjkaaGreat.Ab
set_option linter.unusedVariables false
open Go.RowKit
class NPc (Q : Post) : Prop where
  np : NoPanic Q
instance {K : Env → Heap → Prop} {Q : Post} [I : NPc Q] : NPc (AThen K Q) := ⟨np_then I.np⟩
instance {j : Nat} {Q : Post} [I : NPc Q] : NPc (AIn j Q) := ⟨np_in I.np⟩
instance {nt : Nat} {tab : TTab} {rs : List ResultVar} {R : AVal → Heap → Prop} : NPc (APost nt tab rs R) := ⟨np_post⟩
instance : NPc RF := ⟨fun _ _ _ h => h⟩
section
variable {nt : Nat} {Q : Post} {e : Env} {h : Heap} {ops : Array Oper} {o : Oper} {T : List Nat} {fuel : Nat} {listed : Array Bool}
theorem q_1 {x : Operand} {c : AVal} (ho : o.op = .move x := by exact rfl) (hx : aev e x = some c := by exact rfl) : AYield Tryz.prog T e h o c := Y_move ho hx
theorem q_2 {x : Operand} {c : AVal} (ho : o.op = .assign x := by exact rfl) (hx : aev e x = some c := by exact rfl) : AYield Tryz.prog T e h o c := Y_assign ho hx
theorem q_3 {t el k j : Nat} {x y : Operand} {cs : List Dat} {n : Nat} {q : IntKind} {i : Int} (ho : o.op = .indexAddr t x y := by exact rfl) (hel : telem tab t = some el := by exact rfl) (hsz : tsize tab el = some k := by exact rfl) (hx : aev e x = some (.d (.sl cs n)) := by exact rfl) (hy : aev e y = some (.d (.sc (.int q i))) := by exact rfl) (hj : i = (j : Int) := by exact rfl) (hlt : j < n := by omega) : AYield Tryz.prog T e h o (.iptr cs (j * k)) := R_index tabOk ho hel hsz hx hy hj hlt
theorem q_4 {t f off o1 : Nat} {x : Operand} {cs : List Dat} (ho : o.op = .fieldAddr t x f := by exact rfl) (hf : tfield tab t f = some off := by exact rfl) (hx : aev e x = some (.iptr cs o1) := by exact rfl) : AYield Tryz.prog T e h o (.iptr cs (o1 + off)) := R_fieldi tabOk ho hf hx
theorem q_5 {t o1 s : Nat} {x : Operand} {cs xs : List Dat} {c : AVal} {ag : Bool} (ho : o.op = .load t x := by exact rfl) (hs : tsize tab t = some s := by exact rfl) (ha : tagg tab t = some ag := by exact rfl) (hx : aev e x = some (.iptr cs o1) := by exact rfl) (hw : win cs o1 s = xs := by exact rfl) (hl : Nat.beq xs.length s = true := by exact rfl) (hc : lval ag (xs.map AVal.d) = some c := by exact rfl) : AYield Tryz.prog T e h o c := R_loadi tabOk ho hs ha hx hw hl hc
theorem q_6 {t el : Nat} {x : Operand} {cs : List Dat} {n : Nat} (ho : o.op = .call { callee := .builtin .len, args := #[x], argTypes := #[t] } := by exact rfl) (hel : telem tab t = some el := by exact rfl) (hx : aev e x = some (.d (.sl cs n)) := by exact rfl) : AYield Tryz.prog T e h o (.d (.sc (.int .i64 (n : Int)))) := R_len tabOk ho hel hx
theorem q_7 {t id o1 s : Nat} {x : Operand} {cs xs : List AVal} {c : AVal} {ag : Bool} (ho : o.op = .load t x := by exact rfl) (hs : tsize tab t = some s := by exact rfl) (ha : tagg tab t = some ag := by exact rfl) (hx : aev e x = some (.ptr id o1) := by exact rfl) (hb : look h id = some (.var cs) := by exact rfl) (hT : T.contains id = false := by exact rfl) (hw : win cs o1 s = xs := by exact rfl) (hl : Nat.beq xs.length s = true := by exact rfl) (hc : lval ag xs = some c := by exact rfl) : AYield Tryz.prog T e h o c := R_load tabOk ho hs ha hx hb hT hw hl hc
theorem q_8 {t f off o1 id : Nat} {x : Operand} (ho : o.op = .fieldAddr t x f := by exact rfl) (hf : tfield tab t f = some off := by exact rfl) (hx : aev e x = some (.ptr id o1) := by exact rfl) (hb : (look h id).isSome = true := by exact rfl) : AYield Tryz.prog T e h o (.ptr id (o1 + off)) := R_field tabOk ho hf hx hb
theorem q_9 {t u : TypeId} {x y : Operand} {k : IntKind} {a b r : Int} (ho : o.op = .binOp .add t x y u := by exact rfl) (hx : aev e x = some (.d (.sc (.int k a))) := by exact rfl) (hy : aev e y = some (.d (.sc (.int k b))) := by exact rfl) (hr : k.wrap (a + b) = r := by first | exact wrap_succ (by omega) | exact wrap_pred (by omega) (by omega) | exact wrap_i64 ⟨by omega, by omega⟩ | rfl) : AYield Tryz.prog T e h o (.d (.sc (.int k r))) := Y_add ho hx hy hr
theorem q_10 {t u : TypeId} {x y : Operand} {k : IntKind} {a b r : Int} (ho : o.op = .binOp .sub t x y u := by exact rfl) (hx : aev e x = some (.d (.sc (.int k a))) := by exact rfl) (hy : aev e y = some (.d (.sc (.int k b))) := by exact rfl) (hr : k.wrap (a - b) = r := by first | exact wrap_succ (by omega) | exact wrap_pred (by omega) (by omega) | exact wrap_i64 ⟨by omega, by omega⟩ | rfl) : AYield Tryz.prog T e h o (.d (.sc (.int k r))) := Y_sub ho hx hy hr
theorem q_11 {op : BinOp} {t u : TypeId} {x y : Operand} {k : IntKind} {a b : Int} {c : Bool} (ho : o.op = .binOp op t x y u := by exact rfl) (hx : aev e x = some (.d (.sc (.int k a))) := by exact rfl) (hy : aev e y = some (.d (.sc (.int k b))) := by exact rfl) (hr : ibin op k a b = some (.bool c) := by exact rfl) (hc : c = true := by first | (simp only [decide_eq_true_eq, beq_iff_eq, bne_iff_ne, ne_eq]; done) | (simp only [decide_eq_true_eq, beq_iff_eq, bne_iff_ne, ne_eq]; omega)) : AYield Tryz.prog T e h o (.d (.sc (.bool true))) := R_cmpT ho hx hy hr hc
theorem q_12 {op : BinOp} {t u : TypeId} {x y : Operand} {k : IntKind} {a b : Int} {c : Bool} (ho : o.op = .binOp op t x y u := by exact rfl) (hx : aev e x = some (.d (.sc (.int k a))) := by exact rfl) (hy : aev e y = some (.d (.sc (.int k b))) := by exact rfl) (hr : ibin op k a b = some (.bool c) := by exact rfl) (hc : c = false := by first | (simp only [decide_eq_false_iff_not, beq_eq_false_iff_ne, bne_eq_false_iff_eq, ne_eq]; done) | (simp only [decide_eq_false_iff_not, beq_eq_false_iff_ne, bne_eq_false_iff_eq, ne_eq]; omega)) : AYield Tryz.prog T e h o (.d (.sc (.bool false))) := R_cmpF ho hx hy hr hc
theorem q_13 {op : BinOp} {t u : TypeId} {x y : Operand} {k : IntKind} {a b : Int} {r : Value} (ho : o.op = .binOp op t x y u := by exact rfl) (hx : aev e x = some (.d (.sc (.int k a))) := by exact rfl) (hy : aev e y = some (.d (.sc (.int k b))) := by exact rfl) (hr : ibin op k a b = some r := by exact rfl) : AYield Tryz.prog T e h o (.d (.sc r)) := Y_ibin ho hx hy hr
theorem q_14 {x : Operand} {i : Nat} {cs : List AVal} {c : AVal} (ho : o.op = .extract x i := by exact rfl) (hx : aev e x = some (.tup cs) := by exact rfl) (hi : cs[i]? = some c := by exact rfl) : AYield Tryz.prog T e h o c := Y_extract ho hx hi
theorem q_15 {t el el' id k n : Nat} {x : Operand} {cs : List Dat} (ho : o.op = .call { callee := .builtin .len, args := #[x], argTypes := #[t] } := by exact rfl) (hel : telem tab t = some el := by exact rfl) (hx : aev e x = some (.row id) := by exact rfl) (hb : look h id = some (.row el' k n cs) := by exact rfl) : AYield Tryz.prog T e h o (.d (.sc (.int .i64 (n : Int)))) := R_lenr tabOk ho hel hx hb
theorem q_16 {t el : Nat} {x : Operand} (ho : o.op = .call { callee := .builtin .len, args := #[x], argTypes := #[t] } := by exact rfl) (hel : telem tab t = some el := by exact rfl) (hx : aev e x = some (.d (.sc (.slice none 0 0))) := by exact rfl) : AYield Tryz.prog T e h o (.d (.sc (.int .i64 0))) := R_lenn tabOk ho hel hx
theorem q_17 {t el el' k kk j id : Nat} {x y : Operand} {cs : List Dat} {n : Nat} {q : IntKind} {i : Int} (ho : o.op = .indexAddr t x y := by exact rfl) (hel : telem tab t = some el := by exact rfl) (hsz : tsize tab el = some k := by exact rfl) (hx : aev e x = some (.row id) := by exact rfl) (hb : look h id = some (.row el' kk n cs) := by exact rfl) (hy : aev e y = some (.d (.sc (.int q i))) := by exact rfl) (hj : i = (j : Int) := by exact rfl) (hlt : j < n := by omega) : AYield Tryz.prog T e h o (.eptr id (j * k)) := R_indexr tabOk ho hel hsz hx hb hy hj hlt
theorem q_18 {t f off o1 id : Nat} {x : Operand} (ho : o.op = .fieldAddr t x f := by exact rfl) (hf : tfield tab t f = some off := by exact rfl) (hx : aev e x = some (.eptr id o1) := by exact rfl) (hb : (look h id).isSome = true := by exact rfl) : AYield Tryz.prog T e h o (.eptr id (o1 + off)) := R_fielde tabOk ho hf hx hb
theorem q_19 {t id o1 s el k n : Nat} {x : Operand} {cs xs : List Dat} {c : AVal} {ag : Bool} (ho : o.op = .load t x := by exact rfl) (hs : tsize tab t = some s := by exact rfl) (ha : tagg tab t = some ag := by exact rfl) (hx : aev e x = some (.eptr id o1) := by exact rfl) (hb : look h id = some (.row el k n cs) := by exact rfl) (hT : T.contains id = false := by exact rfl) (hw : win cs o1 s = xs := by exact rfl) (hl : Nat.beq xs.length s = true := by exact rfl) (hc : lval ag (xs.map AVal.d) = some c := by exact rfl) : AYield Tryz.prog T e h o c := R_loade tabOk ho hs ha hx hb hT hw hl hc
theorem q_20 {t : TypeId} {x : Operand} {b : Bool} (ho : o.op = .unOp .not t x := by exact rfl) (hx : aev e x = some (.d (.sc (.bool b))) := by exact rfl) : AYield Tryz.prog T e h o (.d (.sc (.bool !b))) := Y_not ho hx
theorem q_21 {x y z : Operand} {b : Bool} {c : AVal} (ho : o.op = .pick x y z := by exact rfl) (hx : aev e x = some (.d (.sc (.bool b))) := by exact rfl) (hb : b = true := by first | rfl | assumption) (hy : aev e y = some c := by exact rfl) : AYield Tryz.prog T e h o c := Y_pick_t ho hx hb hy
theorem q_22 {x y z : Operand} {b : Bool} {c : AVal} (ho : o.op = .pick x y z := by exact rfl) (hx : aev e x = some (.d (.sc (.bool b))) := by exact rfl) (hb : b = false := by first | rfl | assumption) (hz : aev e z = some c := by exact rfl) : AYield Tryz.prog T e h o c := Y_pick_f ho hx hb hz
theorem q_23 {x y z : Operand} {b p q : Bool} (ho : o.op = .pick x y z := by exact rfl) (hx : aev e x = some (.d (.sc (.bool b))) := by exact rfl) (hy : aev e y = some (.d (.sc (.bool p))) := by exact rfl) (hz : aev e z = some (.d (.sc (.bool q))) := by exact rfl) : AYield Tryz.prog T e h o (.d (.sc (.bool (cond b p q)))) := Y_pick_b ho hx hy hz
theorem q_24 {t : TypeId} {ps : Array (Nat × Operand)} {al : List (Nat × AVal)} {z xs : List AVal} {fs : List (Nat × TypeId)} (ho : o.op = .build t ps := by exact rfl) (hz : tzero tab t = some z := by exact rfl) (hfs : (match tlook tab t with | some ⟨_, _, _, _, .st fs⟩ => some fs | _ => none) = some fs := by exact rfl) (hal' : fs.all (fun f => (tlook tab f.2).isSome) = true := by exact rfl) (hal : aparts e ps.toList = some al := by exact rfl) (hf : afill (stPlace tab fs) z al = some xs := by exact rfl) : AYield Tryz.prog T e h o (.agg xs) := R_build tabOk ho hz hfs hal' hal hf
theorem q_M (i : Nat) {c : AVal} {d : Nat} [I : NPc Q] (hi : ops[i]? = some o) (hk : memOp o.op = false) (hs : Region.noSelect ops = true) (hf : Region.free .any ops listed i = true) (hr : (Region.ready .any ops listed).contains i = true)
    (hw : awant ops e o = some true) (hdst : o.dst = some d) (hd : Nat.blt d nt = true) (hy : AYield Tryz.prog T e h o c) (H : AAny Tryz.prog nt ops Q T fuel (listed.setIfInBounds i true) ((d, c) :: e) h) : AAny Tryz.prog nt ops Q T (fuel + 1) listed e h := N_take hi hs hf hr I.np hw hdst hd hy H
theorem q_L (i : Nat) {c : AVal} {d : Nat} [I : NPc Q] (hi : ops[i]? = some o) (hk : memOp o.op = true) (hs : Region.noSelect ops = true) (hf : Region.free .any ops listed i = true) (hr : (Region.ready .any ops listed).contains i = true)
    (hw : awant ops e o = some true) (hdst : o.dst = some d) (hd : Nat.blt d nt = true) (hy : AYield Tryz.prog T e h o c) (H : AAny Tryz.prog nt ops Q T fuel (listed.setIfInBounds i true) ((d, c) :: e) h) : AAny Tryz.prog nt ops Q T (fuel + 1) listed e h := N_take hi hs hf hr I.np hw hdst hd hy H
theorem q_25 {x y z : Operand} {b : Bool} {c : AVal} (ho : o.op = .pick x y z := by exact rfl) (hx : aev e x = some (.d (.sc (.bool b))) := by exact rfl) (hb : b = true := by exact rfl) (hy : aev e y = some c := by exact rfl) : AYield Tryz.prog T e h o c := Y_pick_t ho hx hb hy
theorem q_26 {x y z : Operand} {b : Bool} {c : AVal} (ho : o.op = .pick x y z := by exact rfl) (hx : aev e x = some (.d (.sc (.bool b))) := by exact rfl) (hb : b = false := by exact rfl) (hz : aev e z = some c := by exact rfl) : AYield Tryz.prog T e h o c := Y_pick_f ho hx hb hz
variable {rest : List Oper} {K : Env → Heap → Prop}
theorem q_a {t : TypeId} {d : Nat} {z : List AVal} (HK : AOps Tryz.prog nt ops Q rest ((d, .ptr d 0) :: killE d e) ((d, .var z) :: killH d h)) (hw : awant ops e o = some true := by exact rfl) (hdst : o.dst = some d := by exact rfl) (hd : Nat.blt d nt = true := by exact rfl) (hid : Nat.blt d 1000 = true := by exact rfl) (ho : o.op = .alloc t := by exact rfl) (hz : tzero tab t = some z := by exact rfl) : AOps Tryz.prog nt ops Q (o :: rest) e h := O_alloc tabOk hw hdst hd hid ho hz HK
theorem q_b {t : TypeId} {x y : Operand} {id off s : Nat} {cs xs : List AVal} {c : AVal} (HK : AOps Tryz.prog nt ops Q rest e ((id, .var (setW cs off xs)) :: h)) (hw : awant ops e o = some true := by exact rfl) (hdst : o.dst = none := by exact rfl) (ho : o.op = .store t x y := by exact rfl) (hx : aev e x = some (.ptr id off) := by exact rfl) (hb : look h id = some (.var cs) := by exact rfl)
    (hy : aev e y = some c := by exact rfl) (hcs : cellsA c = some xs := by exact rfl) (hp : xs.all plainC = true := by exact rfl) (hs : tsize tab t = some s := by exact rfl) (hl : Nat.beq xs.length s = true := by exact rfl) (hle : Nat.ble (off + s) cs.length = true := by exact rfl) : AOps Tryz.prog nt ops Q (o :: rest) e h := O_store tabOk hw hdst ho hx hb hy hcs hp hs hl hle HK
theorem q_c {t el k len d : Nat} {ps : Array (Nat × Operand)} {al : List (Nat × AVal)} {xs : List AVal} {ds : List Dat} (HK : AOps Tryz.prog nt ops Q rest ((d, .row d) :: killE d e) ((d, .row el k len ds) :: killH d h)) (hw : awant ops e o = some true := by exact rfl) (hdst : o.dst = some d := by exact rfl) (hd : Nat.blt d nt = true := by exact rfl) (hid : Nat.blt d 1000 = true := by exact rfl) (ho : o.op = .buildSlice t len ps := by exact rfl)
    (hel : telem tab t = some el := by exact rfl) (hsz : tsize tab el = some k := by exact rfl) (hok : (match tlook tab el with | some te => te.zero.all (·.oneCell') && Nat.blt 0 te.size && Nat.beq te.zero.length te.size && Nat.blt (len * te.size) 16777216 && Nat.blt 0 len | none => false) = true := by exact rfl)
    (hal : aparts e ps.toList = some al := by exact rfl) (hf : (match tlook tab el with
      | some te => afill (fun i => some (i * te.size, te.size)) ((List.range (len * te.size)).map fun j => match te.zero[j % te.size]? with | some v => .d (.sc v) | none => .top) al
      | none => none) = some xs := by exact rfl) (hds : datsA xs = some ds := by exact rfl) : AOps Tryz.prog nt ops Q (o :: rest) e h := O_slice tabOk hw hdst hd hid ho hel hsz hok hal hf hds HK
theorem q_d {t : TypeId} {x : Operand} {d : Nat} {c : AVal} {cs : List AVal} (HK : AOps Tryz.prog nt ops Q rest ((d, .ptr d 0) :: killE d e) ((d, .var (cs.map (killV d))) :: killH d h)) (hw : awant ops e o = some true := by exact rfl) (hdst : o.dst = some d := by exact rfl) (hd : Nat.blt d nt = true := by exact rfl) (hid : Nat.blt d 1000 = true := by exact rfl) (ho : o.op = .box t x := by exact rfl) (hx : aev e x = some c := by exact rfl) (hcs : cellsA c = some cs := by exact rfl) : AOps Tryz.prog nt ops Q (o :: rest) e h := O_box hw hdst hd hid ho hx hcs HK
theorem q_e {d : Nat} (H : AOps Tryz.prog nt ops Q rest ((d, .und) :: e) h) (hw : awant ops e o = some false := by exact rfl) (hdst : o.dst = some d := by exact rfl) (hd : Nat.blt d nt = true := by exact rfl) : AOps Tryz.prog nt ops Q (o :: rest) e h := O_s hw hdst hd H
theorem q_f {d : Nat} (H : AQ Tryz.prog nt ops Q rest ((d, .und) :: e) h) (hw : awant ops e o = some false := by exact rfl) (hdst : o.dst = some d := by exact rfl) (hd : Nat.blt d nt = true := by exact rfl) : AQ Tryz.prog nt ops Q (o :: rest) e h := Q_s hw hdst hd H
theorem q_g (H : AOps Tryz.prog nt ops Q rest e h) (hw : awant ops e o = some false := by exact rfl) (hdst : o.dst = none := by exact rfl) : AOps Tryz.prog nt ops Q (o :: rest) e h := O_sn hw hdst H
theorem q_h {i j : Nat} (H : Q (.exit i) e h) (hb : Nat.beq i j = false := by exact rfl) : AIn j Q (.exit i) e h := X_in_other hb H
theorem q_j (H : K e h) : AThen K Q .normal e h := H
theorem q_k {j : Nat} (H : Q .normal e h) : AIn j Q .normal e h := H
theorem q_l {j : Nat} (H : Q (.exit j) e h) : AThen K Q (.exit j) e h := H
theorem q_m (H : Q .ret e h) : AThen K Q .ret e h := H
theorem q_n {j : Nat} (H : Q .normal e h) : AIn j Q (.exit j) e h := X_in_same H
theorem q_o {j : Nat} (H : Q .ret e h) : AIn j Q .ret e h := H
theorem q_P (i : Nat) {c : AVal} {d : Nat} [I : NPc Q] (hi : ops[i]? = some o) (hs : (Region.noSelect ops && Region.free .any ops listed i && (Region.ready .any ops listed).contains i) = true)
    (hw : awant ops e o = some true) (hdst : o.dst = some d) (hd : Nat.blt d nt = true) (hy : AYield Tryz.prog T e h o c) (H : AAny Tryz.prog nt ops Q T fuel (listed.setIfInBounds i true) ((d, c) :: e) h) : AAny Tryz.prog nt ops Q T (fuel + 1) listed e h := by
  simp only [Bool.and_eq_true] at hs
  exact N_take hi hs.1.1 hs.1.2 hs.2 I.np hw hdst hd hy H
end
end Go.Proofs.YtnnclkeoakjjkaaGreat.Ab

namespace Go.Proofs.YtnnclkeoakjjkaaGreat.Ab
set_option linter.unusedVariables false
set_option maxRecDepth 100000
open Go.RowKit
set_option linter.unusedSimpArgs false
attribute [local irreducible] AWp AOps AQ AYield AEff ACall AWk AAny AAt AThen AIn APost NoPanic

def usedA (u : Nat → Int) : List AVal := (List.range 33).map fun b => intA (u b)
def tblB (m : Nat) (u : Nat → Int) : ABlk := .var (.mp m :: usedA u)
def rmapB (l : List (Pfx × List Rte)) : ABlk := .map (ents pfxA rtesA l)
theorem new_A : ACall Tryz.prog 29 [] [] (fun c h => c = .ptr 3 0 ∧ h = [(3, tblB 902 fun _ => 0), (902, rmapB [])]) := by
  refine ACall_of tabOk Tryz.func29 rfl Tryz.ntmps29 (congrArg Array.toList Tryz.results29) (by kernel_rfl) rfl ?_
  repeat (first | refine A_seq ?_ | refine A_block ?_ | refine R_list ?_ | refine R_quiet rfl mixed (by kernel_rfl) ?_ | ((first | apply O_y rfl rfl rfl | apply Q_y rfl rfl rfl); (first | exact q_1 | exact q_2 | exact q_3 | exact q_4 | exact q_5 | exact q_6 | exact q_7 | exact q_8 | exact q_9 | exact q_10 | exact q_11 | exact q_12 | exact q_13 | exact q_14 | exact q_15 | exact q_16 | exact q_17 | exact q_18 | exact q_19 | exact q_20 | exact q_21 | exact q_22 | exact q_23 | exact q_24 | fail)) | refine O_nil ?_ | refine Q_nil ?_ | refine q_j ?_ | refine q_k ?_ | refine q_d ?_ | refine q_a ?_ | refine q_b ?_ | refine q_c ?_ | refine A_ct rfl ?_ | refine A_cf rfl ?_ | refine A_skip ?_ | refine A_exit ?_ | refine A_ret ?_ | refine q_l ?_ | refine q_m ?_ | refine q_n ?_ | refine q_h ?_ | refine q_o ?_ | refine q_e ?_ | refine q_f ?_ | refine q_g ?_ | (refine O_makeMap 902 rfl rfl rfl rfl rfl ?_))
  exact X_retW AWk.refl rfl (h2 := [(3, tblB 902 fun _ => 0), (902, rmapB [])]) ⟨rfl, rfl, trivial⟩ ⟨rfl, rfl⟩
theorem var_eq {id : Nat} {cs cs' : List AVal} {h : Heap} (hc : cs = cs') (hl : look h id = some (.var cs)) : look h id = some (.var cs') := by subst hc; exact hl
def bump (u : Nat → Int) (b : Nat) (d : Int) : Nat → Int := fun j => if j = b then u j + d else u j
theorem used_get (m : Nat) (u : Nat → Int) (b : Nat) (hb : b < 33) : win (.mp m :: usedA u) (0 + 1 + b * 1) 1 = [intA (u b)] := by
  have h1 : (AVal.mp m :: usedA u)[1 + b]? = some (intA (u b)) := by
    rw [show 1 + b = b + 1 by omega, List.getElem?_cons_succ]
    simp [usedA, List.getElem?_map, List.getElem?_range hb]
  have h2 : 1 + b < (AVal.mp m :: usedA u).length := (List.getElem?_eq_some_iff.1 h1).1
  unfold win
  rw [show 0 + 1 + b * 1 = 1 + b by omega, List.drop_eq_getElem_cons h2]
  have h3 := (List.getElem?_eq_some_iff.1 h1).2
  rw [List.take_succ_cons, List.take_zero, h3]
theorem used_set (m : Nat) (u : Nat → Int) (b : Nat) (d : Int) (hb : b < 33) : setW (.mp m :: usedA u) (0 + 1 + b * 1) [intA (u b + d)] = .mp m :: usedA (bump u b d) := by
  apply List.ext_getElem?
  intro i
  rw [setW_get (by simp [usedA]; omega)]
  cases i with
  | zero => simp
  | succ i =>
    simp only [List.getElem?_cons_succ, List.length_cons, List.length_nil, usedA, List.getElem?_map]
    by_cases hi : i < 33
    · rw [List.getElem?_range hi]
      by_cases he : i = b
      · subst he
        rw [if_pos (by omega)]
        simp [bump]
        rw [show i + 1 - (1 + i) = 0 by omega]
        rfl
      · rw [if_neg (by omega)]
        simp [bump, he]
    · have h0 : (List.range 33)[i]? = none := by simp; omega
      rw [h0, if_neg (by omega)]
      rfl
theorem zeroRts (W : World) : (zeroValue 22).run Tryz.prog W = .ok (.slice none 0 0) W := by
  have h : tlook tab 22 = some _ := rfl
  obtain ⟨z, h1, h2, i, h3, h4, _⟩ := (tabOk _ _ h).zero W
  have h5 : (Tryz.prog.info? 22).bind (·.zero) = some (.slice none 0 0) := by kernel_rfl
  rw [h3] at h5
  simp only [Option.bind_some] at h5
  rw [h4] at h5
  cases h5
  exact h1
theorem kill_map (id : Nat) (l : List (Pfx × List Rte)) : some (killB id (rmapB l)) = some (rmapB l) := by
  show some (ABlk.map ((l.map fun p => (pfxA p.1, rtesA p.2)).map fun p => (killV id p.1, killV id p.2))) = _
  rw [List.map_map]
  rfl
set_option maxHeartbeats 2000000 in
theorem put_A (u : Nat → Int) (l : List (Pfx × List Rte)) (p : Pfx) (v : List Rte) (hp : p.ok) (hn : (l.map (·.1)).Nodup) (hu : ∀ j, 0 ≤ u j ∧ u j ≤ 1000000000) :
    ACall Tryz.prog 31 [.ptr 1000 0, pfxA p, rtesA v] [(1000, tblB 1001 u), (1001, rmapB l)] (fun c h => c = intA (chk p) ∧ h = if chk p = 0 then [(1000, tblB 1001 (if (aget l p).isSome then u else bump u p.b.toNat 1)), (1001, rmapB (Go.Proofs.YtnnclkeoakjjkaaGreat.aput l p v))] else [(1000, tblB 1001 u), (1001, rmapB l)]) := by
  refine ACall_of tabOk Tryz.func31 rfl Tryz.ntmps31 (congrArg Array.toList Tryz.results31) (by kernel_rfl) rfl ?_
  have hck := check_A p hp
  by_cases hc : chk p = 0
  · rw [hc] at hck ⊢
    simp only [if_true]
    have hg := (chk_eq p).1 hc
    obtain ⟨a, b⟩ := p
    obtain ⟨B, rfl⟩ : ∃ B : Nat, b = (B : Int) := ⟨b.toNat, by have := hg.1; simp at this; omega⟩
    have hB : B < 33 := by have := hg.2.1; simp at this; omega
    have huB := hu B
    refine A_seq ?_
    refine R_list ?_
    refine q_d ?_
    refine O_weaken (Wk_sel (e1 := [(0, .ptr 1000 0), (2, rtesA v), (4, .ptr 4 0)]) (h1 := [(4, .var [.d (.sc (.int .u32 a)), .d (.sc (.int .i64 (B : Int)))]), (1000, tblB 1001 u), (1001, rmapB l)]) ⟨rfl, rfl, rfl, trivial⟩ ⟨rfl, rfl, kill_map 4 l, trivial⟩) ?_
    cases hag : aget l ⟨a, (B : Int)⟩ with
    | none =>
      repeat (first | refine A_seq ?_ | refine A_block ?_ | refine R_list ?_ | refine R_quiet rfl mixed (by kernel_rfl) ?_ | ((first | apply O_y rfl rfl rfl | apply Q_y rfl rfl rfl); (first | exact q_1 | exact q_2 | exact q_3 | exact q_4 | exact q_5 | exact q_6 | exact q_7 | exact q_8 | exact q_9 | exact q_10 | exact q_11 | exact q_12 | exact q_13 | exact q_14 | exact q_15 | exact q_16 | exact q_17 | exact q_18 | exact q_19 | exact q_20 | exact q_21 | exact q_22 | exact q_23 | exact q_24 | (first | exact R_pnil tabOk rfl rfl rfl rfl rfl | exact Y_nilCheck rfl rfl rfl | exact R_lkOut pfxKey pfxA_val zeroRts rfl trivial (fun _ _ => trivial) hn hag tabOk rfl rfl rfl rfl rfl rfl))) | refine O_nil ?_ | refine Q_nil ?_ | refine q_j ?_ | refine q_k ?_ | refine q_d ?_ | refine q_a ?_ | refine q_b ?_ | refine q_c ?_ | refine A_ct rfl ?_ | refine A_cf rfl ?_ | refine A_skip ?_ | refine A_exit ?_ | refine A_ret ?_ | refine q_l ?_ | refine q_m ?_ | refine q_n ?_ | refine q_h ?_ | refine q_o ?_ | refine q_e ?_ | refine q_f ?_ | refine q_g ?_ | refine O_c rfl rfl rfl rfl rfl hck (fun _ => rfl) ?_)
      refine N_begin [1000] mixed ?_
      repeat (first | ((first | apply q_M 0 rfl rfl (by kernel_rfl) (by decide +kernel) (by decide +kernel) rfl rfl rfl | apply q_M 1 rfl rfl (by kernel_rfl) (by decide +kernel) (by decide +kernel) rfl rfl rfl | apply q_M 2 rfl rfl (by kernel_rfl) (by decide +kernel) (by decide +kernel) rfl rfl rfl | apply q_M 3 rfl rfl (by kernel_rfl) (by decide +kernel) (by decide +kernel) rfl rfl rfl | apply q_M 4 rfl rfl (by kernel_rfl) (by decide +kernel) (by decide +kernel) rfl rfl rfl | apply q_M 5 rfl rfl (by kernel_rfl) (by decide +kernel) (by decide +kernel) rfl rfl rfl | apply q_M 6 rfl rfl (by kernel_rfl) (by decide +kernel) (by decide +kernel) rfl rfl rfl | apply q_M 7 rfl rfl (by kernel_rfl) (by decide +kernel) (by decide +kernel) rfl rfl rfl | apply q_M 8 rfl rfl (by kernel_rfl) (by decide +kernel) (by decide +kernel) rfl rfl rfl | apply q_M 9 rfl rfl (by kernel_rfl) (by decide +kernel) (by decide +kernel) rfl rfl rfl | apply q_M 10 rfl rfl (by kernel_rfl) (by decide +kernel) (by decide +kernel) rfl rfl rfl | apply q_M 11 rfl rfl (by kernel_rfl) (by decide +kernel) (by decide +kernel) rfl rfl rfl | apply q_M 12 rfl rfl (by kernel_rfl) (by decide +kernel) (by decide +kernel) rfl rfl rfl ); (first | exact q_1 | exact q_2 | exact q_3 | exact q_4 | exact q_5 | exact q_6 | exact q_7 | exact q_8 | exact q_9 | exact q_10 | exact q_11 | exact q_12 | exact q_13 | exact q_14 | exact q_15 | exact q_16 | exact q_17 | exact q_18 | exact q_19 | exact q_20 | exact q_21 | exact q_22 | exact q_23 | exact q_24 | (first | exact Y_nilCheck rfl rfl rfl | exact R_ixp tabOk rfl rfl rfl rfl rfl rfl rfl hB | exact R_load tabOk rfl rfl rfl rfl rfl rfl (used_get _ _ _ hB) rfl rfl))) | (apply q_L 0 rfl rfl (by kernel_rfl) (by decide +kernel) (by decide +kernel) rfl rfl rfl; (first | exact q_5 | exact q_6 | exact q_7 | exact q_15 | exact q_16 | exact q_19 | (first | exact Y_nilCheck rfl rfl rfl | exact R_ixp tabOk rfl rfl rfl rfl rfl rfl rfl hB | exact R_load tabOk rfl rfl rfl rfl rfl rfl (used_get _ _ _ hB) rfl rfl))) | (apply q_L 1 rfl rfl (by kernel_rfl) (by decide +kernel) (by decide +kernel) rfl rfl rfl; (first | exact q_5 | exact q_6 | exact q_7 | exact q_15 | exact q_16 | exact q_19 | (first | exact Y_nilCheck rfl rfl rfl | exact R_ixp tabOk rfl rfl rfl rfl rfl rfl rfl hB | exact R_load tabOk rfl rfl rfl rfl rfl rfl (used_get _ _ _ hB) rfl rfl))) | (apply q_L 2 rfl rfl (by kernel_rfl) (by decide +kernel) (by decide +kernel) rfl rfl rfl; (first | exact q_5 | exact q_6 | exact q_7 | exact q_15 | exact q_16 | exact q_19 | (first | exact Y_nilCheck rfl rfl rfl | exact R_ixp tabOk rfl rfl rfl rfl rfl rfl rfl hB | exact R_load tabOk rfl rfl rfl rfl rfl rfl (used_get _ _ _ hB) rfl rfl))) | (apply q_L 3 rfl rfl (by kernel_rfl) (by decide +kernel) (by decide +kernel) rfl rfl rfl; (first | exact q_5 | exact q_6 | exact q_7 | exact q_15 | exact q_16 | exact q_19 | (first | exact Y_nilCheck rfl rfl rfl | exact R_ixp tabOk rfl rfl rfl rfl rfl rfl rfl hB | exact R_load tabOk rfl rfl rfl rfl rfl rfl (used_get _ _ _ hB) rfl rfl))) | (apply q_L 4 rfl rfl (by kernel_rfl) (by decide +kernel) (by decide +kernel) rfl rfl rfl; (first | exact q_5 | exact q_6 | exact q_7 | exact q_15 | exact q_16 | exact q_19 | (first | exact Y_nilCheck rfl rfl rfl | exact R_ixp tabOk rfl rfl rfl rfl rfl rfl rfl hB | exact R_load tabOk rfl rfl rfl rfl rfl rfl (used_get _ _ _ hB) rfl rfl))) | (apply q_L 5 rfl rfl (by kernel_rfl) (by decide +kernel) (by decide +kernel) rfl rfl rfl; (first | exact q_5 | exact q_6 | exact q_7 | exact q_15 | exact q_16 | exact q_19 | (first | exact Y_nilCheck rfl rfl rfl | exact R_ixp tabOk rfl rfl rfl rfl rfl rfl rfl hB | exact R_load tabOk rfl rfl rfl rfl rfl rfl (used_get _ _ _ hB) rfl rfl))) | (apply q_L 6 rfl rfl (by kernel_rfl) (by decide +kernel) (by decide +kernel) rfl rfl rfl; (first | exact q_5 | exact q_6 | exact q_7 | exact q_15 | exact q_16 | exact q_19 | (first | exact Y_nilCheck rfl rfl rfl | exact R_ixp tabOk rfl rfl rfl rfl rfl rfl rfl hB | exact R_load tabOk rfl rfl rfl rfl rfl rfl (used_get _ _ _ hB) rfl rfl))) | (apply q_L 7 rfl rfl (by kernel_rfl) (by decide +kernel) (by decide +kernel) rfl rfl rfl; (first | exact q_5 | exact q_6 | exact q_7 | exact q_15 | exact q_16 | exact q_19 | (first | exact Y_nilCheck rfl rfl rfl | exact R_ixp tabOk rfl rfl rfl rfl rfl rfl rfl hB | exact R_load tabOk rfl rfl rfl rfl rfl rfl (used_get _ _ _ hB) rfl rfl))) | (apply q_L 8 rfl rfl (by kernel_rfl) (by decide +kernel) (by decide +kernel) rfl rfl rfl; (first | exact q_5 | exact q_6 | exact q_7 | exact q_15 | exact q_16 | exact q_19 | (first | exact Y_nilCheck rfl rfl rfl | exact R_ixp tabOk rfl rfl rfl rfl rfl rfl rfl hB | exact R_load tabOk rfl rfl rfl rfl rfl rfl (used_get _ _ _ hB) rfl rfl))) | (apply q_L 9 rfl rfl (by kernel_rfl) (by decide +kernel) (by decide +kernel) rfl rfl rfl; (first | exact q_5 | exact q_6 | exact q_7 | exact q_15 | exact q_16 | exact q_19 | (first | exact Y_nilCheck rfl rfl rfl | exact R_ixp tabOk rfl rfl rfl rfl rfl rfl rfl hB | exact R_load tabOk rfl rfl rfl rfl rfl rfl (used_get _ _ _ hB) rfl rfl))) | (apply q_L 10 rfl rfl (by kernel_rfl) (by decide +kernel) (by decide +kernel) rfl rfl rfl; (first | exact q_5 | exact q_6 | exact q_7 | exact q_15 | exact q_16 | exact q_19 | (first | exact Y_nilCheck rfl rfl rfl | exact R_ixp tabOk rfl rfl rfl rfl rfl rfl rfl hB | exact R_load tabOk rfl rfl rfl rfl rfl rfl (used_get _ _ _ hB) rfl rfl))) | (apply q_L 11 rfl rfl (by kernel_rfl) (by decide +kernel) (by decide +kernel) rfl rfl rfl; (first | exact q_5 | exact q_6 | exact q_7 | exact q_15 | exact q_16 | exact q_19 | (first | exact Y_nilCheck rfl rfl rfl | exact R_ixp tabOk rfl rfl rfl rfl rfl rfl rfl hB | exact R_load tabOk rfl rfl rfl rfl rfl rfl (used_get _ _ _ hB) rfl rfl))) | (apply q_L 12 rfl rfl (by kernel_rfl) (by decide +kernel) (by decide +kernel) rfl rfl rfl; (first | exact q_5 | exact q_6 | exact q_7 | exact q_15 | exact q_16 | exact q_19 | (first | exact Y_nilCheck rfl rfl rfl | exact R_ixp tabOk rfl rfl rfl rfl rfl rfl rfl hB | exact R_load tabOk rfl rfl rfl rfl rfl rfl (used_get _ _ _ hB) rfl rfl))) | refine N_one (j := 0) (by decide +kernel) ?_ | refine N_one (j := 1) (by decide +kernel) ?_ | refine N_one (j := 2) (by decide +kernel) ?_ | refine N_one (j := 3) (by decide +kernel) ?_ | refine N_one (j := 4) (by decide +kernel) ?_ | refine N_one (j := 5) (by decide +kernel) ?_ | refine N_one (j := 6) (by decide +kernel) ?_ | refine N_one (j := 7) (by decide +kernel) ?_ | refine N_one (j := 8) (by decide +kernel) ?_ | refine N_one (j := 9) (by decide +kernel) ?_ | refine N_one (j := 10) (by decide +kernel) ?_ | refine N_one (j := 11) (by decide +kernel) ?_ | refine N_one (j := 12) (by decide +kernel) ?_ | refine T_alloc tabOk rfl rfl rfl rfl rfl rfl rfl ?_ | refine T_store tabOk rfl rfl rfl rfl rfl rfl rfl rfl rfl rfl rfl rfl rfl ?_ | refine T_box rfl rfl rfl rfl rfl rfl rfl rfl ?_ | (apply T_yield rfl rfl rfl rfl; (first | exact q_1 | exact q_2 | exact q_3 | exact q_4 | exact q_5 | exact q_6 | exact q_7 | exact q_8 | exact q_9 | exact q_10 | exact q_11 | exact q_12 | exact q_13 | exact q_14 | exact q_15 | exact q_16 | exact q_17 | exact q_18 | exact q_19 | exact q_20 | exact q_21 | exact q_22 | exact q_23 | exact q_24 | (first | exact Y_nilCheck rfl rfl rfl | exact R_ixp tabOk rfl rfl rfl rfl rfl rfl rfl hB | exact R_load tabOk rfl rfl rfl rfl rfl rfl (used_get _ _ _ hB) rfl rfl))) | refine N_done (by decide +kernel) ?_ | (refine T_storeS tabOk rfl rfl rfl rfl rfl rfl rfl rfl rfl rfl rfl rfl (by simp [usedA]; omega) ?_))
      repeat (first | refine A_seq ?_ | refine A_block ?_ | refine R_list ?_ | refine R_quiet rfl mixed (by kernel_rfl) ?_ | ((first | apply O_y rfl rfl rfl | apply Q_y rfl rfl rfl); (first | exact q_1 | exact q_2 | exact q_3 | exact q_4 | exact q_5 | exact q_6 | exact q_7 | exact q_8 | exact q_9 | exact q_10 | exact q_11 | exact q_12 | exact q_13 | exact q_14 | exact q_15 | exact q_16 | exact q_17 | exact q_18 | exact q_19 | exact q_20 | exact q_21 | exact q_22 | exact q_23 | exact q_24 | fail)) | refine O_nil ?_ | refine Q_nil ?_ | refine q_j ?_ | refine q_k ?_ | refine q_d ?_ | refine q_a ?_ | refine q_b ?_ | refine q_c ?_ | refine A_ct rfl ?_ | refine A_cf rfl ?_ | refine A_skip ?_ | refine A_exit ?_ | refine A_ret ?_ | refine q_l ?_ | refine q_m ?_ | refine q_n ?_ | refine q_h ?_ | refine q_o ?_ | refine q_e ?_ | refine q_f ?_ | refine q_g ?_ | fail)
      refine A_weaken (Wk_sel (e1 := [(0, .ptr 1000 0), (2, rtesA v), (4, .ptr 4 0)]) (h1 := [(4, .var [.d (.sc (.int .u32 a)), .d (.sc (.int .i64 (B : Int)))]), (1000, tblB 1001 (bump u B 1)), (1001, rmapB l)]) ⟨rfl, rfl, rfl, trivial⟩ ⟨rfl, var_eq (used_set 1001 u B 1 hB) rfl, rfl, trivial⟩) ?_
      refine N_begin [1001] mixed ?_
      repeat (first | ((first | apply q_M 0 rfl rfl (by kernel_rfl) (by decide +kernel) (by decide +kernel) rfl rfl rfl | apply q_M 1 rfl rfl (by kernel_rfl) (by decide +kernel) (by decide +kernel) rfl rfl rfl | apply q_M 2 rfl rfl (by kernel_rfl) (by decide +kernel) (by decide +kernel) rfl rfl rfl | apply q_M 3 rfl rfl (by kernel_rfl) (by decide +kernel) (by decide +kernel) rfl rfl rfl | apply q_M 4 rfl rfl (by kernel_rfl) (by decide +kernel) (by decide +kernel) rfl rfl rfl | apply q_M 5 rfl rfl (by kernel_rfl) (by decide +kernel) (by decide +kernel) rfl rfl rfl | apply q_M 6 rfl rfl (by kernel_rfl) (by decide +kernel) (by decide +kernel) rfl rfl rfl | apply q_M 7 rfl rfl (by kernel_rfl) (by decide +kernel) (by decide +kernel) rfl rfl rfl | apply q_M 8 rfl rfl (by kernel_rfl) (by decide +kernel) (by decide +kernel) rfl rfl rfl | apply q_M 9 rfl rfl (by kernel_rfl) (by decide +kernel) (by decide +kernel) rfl rfl rfl | apply q_M 10 rfl rfl (by kernel_rfl) (by decide +kernel) (by decide +kernel) rfl rfl rfl | apply q_M 11 rfl rfl (by kernel_rfl) (by decide +kernel) (by decide +kernel) rfl rfl rfl | apply q_M 12 rfl rfl (by kernel_rfl) (by decide +kernel) (by decide +kernel) rfl rfl rfl ); (first | exact q_1 | exact q_2 | exact q_3 | exact q_4 | exact q_5 | exact q_6 | exact q_7 | exact q_8 | exact q_9 | exact q_10 | exact q_11 | exact q_12 | exact q_13 | exact q_14 | exact q_15 | exact q_16 | exact q_17 | exact q_18 | exact q_19 | exact q_20 | exact q_21 | exact q_22 | exact q_23 | exact q_24 | (first | exact Y_nilCheck rfl rfl rfl))) | (apply q_L 0 rfl rfl (by kernel_rfl) (by decide +kernel) (by decide +kernel) rfl rfl rfl; (first | exact q_5 | exact q_6 | exact q_7 | exact q_15 | exact q_16 | exact q_19 | (first | exact Y_nilCheck rfl rfl rfl))) | (apply q_L 1 rfl rfl (by kernel_rfl) (by decide +kernel) (by decide +kernel) rfl rfl rfl; (first | exact q_5 | exact q_6 | exact q_7 | exact q_15 | exact q_16 | exact q_19 | (first | exact Y_nilCheck rfl rfl rfl))) | (apply q_L 2 rfl rfl (by kernel_rfl) (by decide +kernel) (by decide +kernel) rfl rfl rfl; (first | exact q_5 | exact q_6 | exact q_7 | exact q_15 | exact q_16 | exact q_19 | (first | exact Y_nilCheck rfl rfl rfl))) | (apply q_L 3 rfl rfl (by kernel_rfl) (by decide +kernel) (by decide +kernel) rfl rfl rfl; (first | exact q_5 | exact q_6 | exact q_7 | exact q_15 | exact q_16 | exact q_19 | (first | exact Y_nilCheck rfl rfl rfl))) | (apply q_L 4 rfl rfl (by kernel_rfl) (by decide +kernel) (by decide +kernel) rfl rfl rfl; (first | exact q_5 | exact q_6 | exact q_7 | exact q_15 | exact q_16 | exact q_19 | (first | exact Y_nilCheck rfl rfl rfl))) | (apply q_L 5 rfl rfl (by kernel_rfl) (by decide +kernel) (by decide +kernel) rfl rfl rfl; (first | exact q_5 | exact q_6 | exact q_7 | exact q_15 | exact q_16 | exact q_19 | (first | exact Y_nilCheck rfl rfl rfl))) | (apply q_L 6 rfl rfl (by kernel_rfl) (by decide +kernel) (by decide +kernel) rfl rfl rfl; (first | exact q_5 | exact q_6 | exact q_7 | exact q_15 | exact q_16 | exact q_19 | (first | exact Y_nilCheck rfl rfl rfl))) | (apply q_L 7 rfl rfl (by kernel_rfl) (by decide +kernel) (by decide +kernel) rfl rfl rfl; (first | exact q_5 | exact q_6 | exact q_7 | exact q_15 | exact q_16 | exact q_19 | (first | exact Y_nilCheck rfl rfl rfl))) | (apply q_L 8 rfl rfl (by kernel_rfl) (by decide +kernel) (by decide +kernel) rfl rfl rfl; (first | exact q_5 | exact q_6 | exact q_7 | exact q_15 | exact q_16 | exact q_19 | (first | exact Y_nilCheck rfl rfl rfl))) | (apply q_L 9 rfl rfl (by kernel_rfl) (by decide +kernel) (by decide +kernel) rfl rfl rfl; (first | exact q_5 | exact q_6 | exact q_7 | exact q_15 | exact q_16 | exact q_19 | (first | exact Y_nilCheck rfl rfl rfl))) | (apply q_L 10 rfl rfl (by kernel_rfl) (by decide +kernel) (by decide +kernel) rfl rfl rfl; (first | exact q_5 | exact q_6 | exact q_7 | exact q_15 | exact q_16 | exact q_19 | (first | exact Y_nilCheck rfl rfl rfl))) | (apply q_L 11 rfl rfl (by kernel_rfl) (by decide +kernel) (by decide +kernel) rfl rfl rfl; (first | exact q_5 | exact q_6 | exact q_7 | exact q_15 | exact q_16 | exact q_19 | (first | exact Y_nilCheck rfl rfl rfl))) | (apply q_L 12 rfl rfl (by kernel_rfl) (by decide +kernel) (by decide +kernel) rfl rfl rfl; (first | exact q_5 | exact q_6 | exact q_7 | exact q_15 | exact q_16 | exact q_19 | (first | exact Y_nilCheck rfl rfl rfl))) | refine N_one (j := 0) (by decide +kernel) ?_ | refine N_one (j := 1) (by decide +kernel) ?_ | refine N_one (j := 2) (by decide +kernel) ?_ | refine N_one (j := 3) (by decide +kernel) ?_ | refine N_one (j := 4) (by decide +kernel) ?_ | refine N_one (j := 5) (by decide +kernel) ?_ | refine N_one (j := 6) (by decide +kernel) ?_ | refine N_one (j := 7) (by decide +kernel) ?_ | refine N_one (j := 8) (by decide +kernel) ?_ | refine N_one (j := 9) (by decide +kernel) ?_ | refine N_one (j := 10) (by decide +kernel) ?_ | refine N_one (j := 11) (by decide +kernel) ?_ | refine N_one (j := 12) (by decide +kernel) ?_ | refine T_alloc tabOk rfl rfl rfl rfl rfl rfl rfl ?_ | refine T_store tabOk rfl rfl rfl rfl rfl rfl rfl rfl rfl rfl rfl rfl rfl ?_ | refine T_box rfl rfl rfl rfl rfl rfl rfl rfl ?_ | (apply T_yield rfl rfl rfl rfl; (first | exact q_1 | exact q_2 | exact q_3 | exact q_4 | exact q_5 | exact q_6 | exact q_7 | exact q_8 | exact q_9 | exact q_10 | exact q_11 | exact q_12 | exact q_13 | exact q_14 | exact q_15 | exact q_16 | exact q_17 | exact q_18 | exact q_19 | exact q_20 | exact q_21 | exact q_22 | exact q_23 | exact q_24 | (first | exact Y_nilCheck rfl rfl rfl))) | refine N_done (by decide +kernel) ?_ | (refine T_upd (k := ⟨a, (B : Int)⟩) (xa := rtesA) (q := v) pfxKey pfxA_val pfxA_rel trivial (fun _ _ => trivial) hn tabOk rfl rfl rfl rfl rfl rfl rfl rfl rfl rfl ?_))
      repeat (first | refine A_seq ?_ | refine A_block ?_ | refine R_list ?_ | refine R_quiet rfl mixed (by kernel_rfl) ?_ | ((first | apply O_y rfl rfl rfl | apply Q_y rfl rfl rfl); (first | exact q_1 | exact q_2 | exact q_3 | exact q_4 | exact q_5 | exact q_6 | exact q_7 | exact q_8 | exact q_9 | exact q_10 | exact q_11 | exact q_12 | exact q_13 | exact q_14 | exact q_15 | exact q_16 | exact q_17 | exact q_18 | exact q_19 | exact q_20 | exact q_21 | exact q_22 | exact q_23 | exact q_24 | fail)) | refine O_nil ?_ | refine Q_nil ?_ | refine q_j ?_ | refine q_k ?_ | refine q_d ?_ | refine q_a ?_ | refine q_b ?_ | refine q_c ?_ | refine A_ct rfl ?_ | refine A_cf rfl ?_ | refine A_skip ?_ | refine A_exit ?_ | refine A_ret ?_ | refine q_l ?_ | refine q_m ?_ | refine q_n ?_ | refine q_h ?_ | refine q_o ?_ | refine q_e ?_ | refine q_f ?_ | refine q_g ?_ | fail)
      exact X_retW AWk.refl rfl (h2 := [(1000, tblB 1001 (bump u B 1)), (1001, rmapB (Go.Proofs.YtnnclkeoakjjkaaGreat.aput l ⟨a, (B : Int)⟩ v))]) ⟨rfl, rfl, trivial⟩ ⟨rfl, rfl⟩
    | some x =>
      repeat (first | refine A_seq ?_ | refine A_block ?_ | refine R_list ?_ | refine R_quiet rfl mixed (by kernel_rfl) ?_ | ((first | apply O_y rfl rfl rfl | apply Q_y rfl rfl rfl); (first | exact q_1 | exact q_2 | exact q_3 | exact q_4 | exact q_5 | exact q_6 | exact q_7 | exact q_8 | exact q_9 | exact q_10 | exact q_11 | exact q_12 | exact q_13 | exact q_14 | exact q_15 | exact q_16 | exact q_17 | exact q_18 | exact q_19 | exact q_20 | exact q_21 | exact q_22 | exact q_23 | exact q_24 | (first | exact R_pnil tabOk rfl rfl rfl rfl rfl | exact Y_nilCheck rfl rfl rfl | exact R_lkIn pfxKey pfxA_val zeroRts trivial (fun _ _ => trivial) hn hag tabOk rfl rfl rfl rfl rfl rfl))) | refine O_nil ?_ | refine Q_nil ?_ | refine q_j ?_ | refine q_k ?_ | refine q_d ?_ | refine q_a ?_ | refine q_b ?_ | refine q_c ?_ | refine A_ct rfl ?_ | refine A_cf rfl ?_ | refine A_skip ?_ | refine A_exit ?_ | refine A_ret ?_ | refine q_l ?_ | refine q_m ?_ | refine q_n ?_ | refine q_h ?_ | refine q_o ?_ | refine q_e ?_ | refine q_f ?_ | refine q_g ?_ | refine O_c rfl rfl rfl rfl rfl hck (fun _ => rfl) ?_)
      refine N_begin [1001] mixed ?_
      repeat (first | ((first | apply q_M 0 rfl rfl (by kernel_rfl) (by decide +kernel) (by decide +kernel) rfl rfl rfl | apply q_M 1 rfl rfl (by kernel_rfl) (by decide +kernel) (by decide +kernel) rfl rfl rfl | apply q_M 2 rfl rfl (by kernel_rfl) (by decide +kernel) (by decide +kernel) rfl rfl rfl | apply q_M 3 rfl rfl (by kernel_rfl) (by decide +kernel) (by decide +kernel) rfl rfl rfl | apply q_M 4 rfl rfl (by kernel_rfl) (by decide +kernel) (by decide +kernel) rfl rfl rfl | apply q_M 5 rfl rfl (by kernel_rfl) (by decide +kernel) (by decide +kernel) rfl rfl rfl | apply q_M 6 rfl rfl (by kernel_rfl) (by decide +kernel) (by decide +kernel) rfl rfl rfl | apply q_M 7 rfl rfl (by kernel_rfl) (by decide +kernel) (by decide +kernel) rfl rfl rfl | apply q_M 8 rfl rfl (by kernel_rfl) (by decide +kernel) (by decide +kernel) rfl rfl rfl | apply q_M 9 rfl rfl (by kernel_rfl) (by decide +kernel) (by decide +kernel) rfl rfl rfl | apply q_M 10 rfl rfl (by kernel_rfl) (by decide +kernel) (by decide +kernel) rfl rfl rfl | apply q_M 11 rfl rfl (by kernel_rfl) (by decide +kernel) (by decide +kernel) rfl rfl rfl | apply q_M 12 rfl rfl (by kernel_rfl) (by decide +kernel) (by decide +kernel) rfl rfl rfl ); (first | exact q_1 | exact q_2 | exact q_3 | exact q_4 | exact q_5 | exact q_6 | exact q_7 | exact q_8 | exact q_9 | exact q_10 | exact q_11 | exact q_12 | exact q_13 | exact q_14 | exact q_15 | exact q_16 | exact q_17 | exact q_18 | exact q_19 | exact q_20 | exact q_21 | exact q_22 | exact q_23 | exact q_24 | (first | exact Y_nilCheck rfl rfl rfl))) | (apply q_L 0 rfl rfl (by kernel_rfl) (by decide +kernel) (by decide +kernel) rfl rfl rfl; (first | exact q_5 | exact q_6 | exact q_7 | exact q_15 | exact q_16 | exact q_19 | (first | exact Y_nilCheck rfl rfl rfl))) | (apply q_L 1 rfl rfl (by kernel_rfl) (by decide +kernel) (by decide +kernel) rfl rfl rfl; (first | exact q_5 | exact q_6 | exact q_7 | exact q_15 | exact q_16 | exact q_19 | (first | exact Y_nilCheck rfl rfl rfl))) | (apply q_L 2 rfl rfl (by kernel_rfl) (by decide +kernel) (by decide +kernel) rfl rfl rfl; (first | exact q_5 | exact q_6 | exact q_7 | exact q_15 | exact q_16 | exact q_19 | (first | exact Y_nilCheck rfl rfl rfl))) | (apply q_L 3 rfl rfl (by kernel_rfl) (by decide +kernel) (by decide +kernel) rfl rfl rfl; (first | exact q_5 | exact q_6 | exact q_7 | exact q_15 | exact q_16 | exact q_19 | (first | exact Y_nilCheck rfl rfl rfl))) | (apply q_L 4 rfl rfl (by kernel_rfl) (by decide +kernel) (by decide +kernel) rfl rfl rfl; (first | exact q_5 | exact q_6 | exact q_7 | exact q_15 | exact q_16 | exact q_19 | (first | exact Y_nilCheck rfl rfl rfl))) | (apply q_L 5 rfl rfl (by kernel_rfl) (by decide +kernel) (by decide +kernel) rfl rfl rfl; (first | exact q_5 | exact q_6 | exact q_7 | exact q_15 | exact q_16 | exact q_19 | (first | exact Y_nilCheck rfl rfl rfl))) | (apply q_L 6 rfl rfl (by kernel_rfl) (by decide +kernel) (by decide +kernel) rfl rfl rfl; (first | exact q_5 | exact q_6 | exact q_7 | exact q_15 | exact q_16 | exact q_19 | (first | exact Y_nilCheck rfl rfl rfl))) | (apply q_L 7 rfl rfl (by kernel_rfl) (by decide +kernel) (by decide +kernel) rfl rfl rfl; (first | exact q_5 | exact q_6 | exact q_7 | exact q_15 | exact q_16 | exact q_19 | (first | exact Y_nilCheck rfl rfl rfl))) | (apply q_L 8 rfl rfl (by kernel_rfl) (by decide +kernel) (by decide +kernel) rfl rfl rfl; (first | exact q_5 | exact q_6 | exact q_7 | exact q_15 | exact q_16 | exact q_19 | (first | exact Y_nilCheck rfl rfl rfl))) | (apply q_L 9 rfl rfl (by kernel_rfl) (by decide +kernel) (by decide +kernel) rfl rfl rfl; (first | exact q_5 | exact q_6 | exact q_7 | exact q_15 | exact q_16 | exact q_19 | (first | exact Y_nilCheck rfl rfl rfl))) | (apply q_L 10 rfl rfl (by kernel_rfl) (by decide +kernel) (by decide +kernel) rfl rfl rfl; (first | exact q_5 | exact q_6 | exact q_7 | exact q_15 | exact q_16 | exact q_19 | (first | exact Y_nilCheck rfl rfl rfl))) | (apply q_L 11 rfl rfl (by kernel_rfl) (by decide +kernel) (by decide +kernel) rfl rfl rfl; (first | exact q_5 | exact q_6 | exact q_7 | exact q_15 | exact q_16 | exact q_19 | (first | exact Y_nilCheck rfl rfl rfl))) | (apply q_L 12 rfl rfl (by kernel_rfl) (by decide +kernel) (by decide +kernel) rfl rfl rfl; (first | exact q_5 | exact q_6 | exact q_7 | exact q_15 | exact q_16 | exact q_19 | (first | exact Y_nilCheck rfl rfl rfl))) | refine N_one (j := 0) (by decide +kernel) ?_ | refine N_one (j := 1) (by decide +kernel) ?_ | refine N_one (j := 2) (by decide +kernel) ?_ | refine N_one (j := 3) (by decide +kernel) ?_ | refine N_one (j := 4) (by decide +kernel) ?_ | refine N_one (j := 5) (by decide +kernel) ?_ | refine N_one (j := 6) (by decide +kernel) ?_ | refine N_one (j := 7) (by decide +kernel) ?_ | refine N_one (j := 8) (by decide +kernel) ?_ | refine N_one (j := 9) (by decide +kernel) ?_ | refine N_one (j := 10) (by decide +kernel) ?_ | refine N_one (j := 11) (by decide +kernel) ?_ | refine N_one (j := 12) (by decide +kernel) ?_ | refine T_alloc tabOk rfl rfl rfl rfl rfl rfl rfl ?_ | refine T_store tabOk rfl rfl rfl rfl rfl rfl rfl rfl rfl rfl rfl rfl rfl ?_ | refine T_box rfl rfl rfl rfl rfl rfl rfl rfl ?_ | (apply T_yield rfl rfl rfl rfl; (first | exact q_1 | exact q_2 | exact q_3 | exact q_4 | exact q_5 | exact q_6 | exact q_7 | exact q_8 | exact q_9 | exact q_10 | exact q_11 | exact q_12 | exact q_13 | exact q_14 | exact q_15 | exact q_16 | exact q_17 | exact q_18 | exact q_19 | exact q_20 | exact q_21 | exact q_22 | exact q_23 | exact q_24 | (first | exact Y_nilCheck rfl rfl rfl))) | refine N_done (by decide +kernel) ?_ | (refine T_upd (k := ⟨a, (B : Int)⟩) (xa := rtesA) (q := v) pfxKey pfxA_val pfxA_rel trivial (fun _ _ => trivial) hn tabOk rfl rfl rfl rfl rfl rfl rfl rfl rfl rfl ?_))
      repeat (first | refine A_seq ?_ | refine A_block ?_ | refine R_list ?_ | refine R_quiet rfl mixed (by kernel_rfl) ?_ | ((first | apply O_y rfl rfl rfl | apply Q_y rfl rfl rfl); (first | exact q_1 | exact q_2 | exact q_3 | exact q_4 | exact q_5 | exact q_6 | exact q_7 | exact q_8 | exact q_9 | exact q_10 | exact q_11 | exact q_12 | exact q_13 | exact q_14 | exact q_15 | exact q_16 | exact q_17 | exact q_18 | exact q_19 | exact q_20 | exact q_21 | exact q_22 | exact q_23 | exact q_24 | fail)) | refine O_nil ?_ | refine Q_nil ?_ | refine q_j ?_ | refine q_k ?_ | refine q_d ?_ | refine q_a ?_ | refine q_b ?_ | refine q_c ?_ | refine A_ct rfl ?_ | refine A_cf rfl ?_ | refine A_skip ?_ | refine A_exit ?_ | refine A_ret ?_ | refine q_l ?_ | refine q_m ?_ | refine q_n ?_ | refine q_h ?_ | refine q_o ?_ | refine q_e ?_ | refine q_f ?_ | refine q_g ?_ | fail)
      exact X_retW AWk.refl rfl (h2 := [(1000, tblB 1001 u), (1001, rmapB (Go.Proofs.YtnnclkeoakjjkaaGreat.aput l ⟨a, (B : Int)⟩ v))]) ⟨rfl, rfl, trivial⟩ ⟨rfl, rfl⟩
  · simp only [hc, if_false]
    have hR : (fun c h => c = intA (chk p) ∧ h = [(1000, tblB 1001 u), (1001, rmapB l)]) = (fun c h => c = intA (chk p) ∧ h = [(1000, tblB 1001 u), (1001, rmapB l)]) := rfl
    refine A_seq ?_
    refine R_list ?_
    refine q_d ?_
    refine O_weaken (Wk_sel (e1 := [(0, .ptr 1000 0), (2, rtesA v), (4, .ptr 4 0)]) (h1 := [(4, .var [.d (.sc (.int .u32 p.a)), .d (.sc (.int .i64 p.b))]), (1000, tblB 1001 u), (1001, rmapB l)]) ⟨rfl, rfl, rfl, trivial⟩ ⟨rfl, rfl, kill_map 4 l, trivial⟩) ?_
    repeat (first | refine A_seq ?_ | refine A_block ?_ | refine R_list ?_ | refine R_quiet rfl mixed (by kernel_rfl) ?_ | ((first | apply O_y rfl rfl rfl | apply Q_y rfl rfl rfl); (first | exact q_1 | exact q_2 | exact q_3 | exact q_4 | exact q_5 | exact q_6 | exact q_7 | exact q_8 | exact q_9 | exact q_10 | exact q_11 | exact q_12 | exact q_13 | exact q_14 | exact q_15 | exact q_16 | exact q_17 | exact q_18 | exact q_19 | exact q_20 | exact q_21 | exact q_22 | exact q_23 | exact q_24 | (first | exact R_pnil tabOk rfl rfl rfl rfl rfl))) | refine O_nil ?_ | refine Q_nil ?_ | refine q_j ?_ | refine q_k ?_ | refine q_d ?_ | refine q_a ?_ | refine q_b ?_ | refine q_c ?_ | refine A_ct rfl ?_ | refine A_cf rfl ?_ | refine A_skip ?_ | refine A_exit ?_ | refine A_ret ?_ | refine q_l ?_ | refine q_m ?_ | refine q_n ?_ | refine q_h ?_ | refine q_o ?_ | refine q_e ?_ | refine q_f ?_ | refine q_g ?_ | refine O_c rfl rfl rfl rfl rfl hck (fun _ => rfl) ?_)
    exact X_retW AWk.refl rfl (h2 := [(1000, tblB 1001 u), (1001, rmapB l)]) ⟨rfl, rfl, trivial⟩ ⟨rfl, rfl⟩
theorem subnet_A (x : Int) (k : Nat) (hk : k ≤ 32) (x0 : 0 ≤ x) (x1 : x < 4294967296) : ACall Tryz.prog 58 [.d (.sc (.int .u32 x)), intA (k : Int)] [] (Just (.tup [pfxA (sub x k), intA 0])) :=
  ACall_val (by kernel_rfl) rfl rfl rfl fun w => addrSubnet_any x (k : Int) w (by omega) (by omega) x0 x1
def overS (u : Nat → Int) (l : List (Pfx × List Rte)) (x : Int) (k : Nat) : List Pfx := ((List.range k).filter fun b => !(u b == 0) && (aget l (sub x (b : Nat))).isSome).map fun b => sub x (b : Nat)
theorem overS_in (u : Nat → Int) (l : List (Pfx × List Rte)) (x : Int) (k : Nat) (h1 : u k ≠ 0) {z : List Rte} (h2 : aget l (sub x (k : Nat)) = some z) : overS u l x (k + 1) = overS u l x k ++ [sub x (k : Nat)] := by
  unfold overS
  rw [List.range_succ, List.filter_append, List.map_append]
  simp [h1, h2]
theorem overS_no (u : Nat → Int) (l : List (Pfx × List Rte)) (x : Int) (k : Nat) (h1 : u k = 0 ∨ aget l (sub x (k : Nat)) = none) : overS u l x (k + 1) = overS u l x k := by
  unfold overS
  rw [List.range_succ, List.filter_append, List.map_append]
  rcases h1 with h1 | h1 <;> simp [h1]
theorem overS_len (u : Nat → Int) (l : List (Pfx × List Rte)) (x : Int) (k : Nat) : (overS u l x k).length ≤ k := by
  unfold overS
  rw [List.length_map]
  exact Nat.le_trans (List.length_filter_le _ _) (by simp)
theorem kill3 (i j k : Nat) (l : List (Pfx × List Rte)) : some (killB i (killB j (killB k (rmapB l)))) = some (rmapB l) := by
  have h : ∀ i, killB i (rmapB l) = rmapB l := fun i => Option.some.inj (kill_map i l)
  rw [h, h, h]
theorem freeze_map (id : Nat) (x : Dat) (l : List (Pfx × List Rte)) : some (frB id x (rmapB l)) = some (rmapB l) := by
  show some (ABlk.map ((l.map fun p => (pfxA p.1, rtesA p.2)).map fun p => (frV id x p.1, frV id x p.2))) = _
  rw [List.map_map]
  rfl
set_option maxHeartbeats 4000000 in
theorem over_A (u : Nat → Int) (l : List (Pfx × List Rte)) (x : Int) (x0 : 0 ≤ x) (x1 : x < 4294967296) (hn : (l.map (·.1)).Nodup) :
    ACall Tryz.prog 48 [.ptr 1000 0, .d (.sc (.int .u32 x))] [(1000, tblB 1001 u), (1001, rmapB l)] (fun c h => c = pfxsA (overS u l x 33) ∧ h = [(1000, tblB 1001 u), (1001, rmapB l)]) := by
  refine ACall_of tabOk Tryz.func48 rfl Tryz.ntmps48 (congrArg Array.toList Tryz.results48) (by kernel_rfl) rfl ?_
  repeat (first | refine A_seq ?_ | refine A_block ?_ | refine R_list ?_ | refine R_quiet rfl mixed (by kernel_rfl) ?_ | ((first | apply O_y rfl rfl rfl | apply Q_y rfl rfl rfl); (first | exact q_1 | exact q_2 | exact q_3 | exact q_4 | exact q_5 | exact q_6 | exact q_7 | exact q_8 | exact q_9 | exact q_10 | exact q_11 | exact q_12 | exact q_13 | exact q_14 | exact q_15 | exact q_16 | exact q_17 | exact q_18 | exact q_19 | exact q_20 | exact q_21 | exact q_22 | exact q_23 | exact q_24 | (first | exact R_pnil tabOk rfl rfl rfl rfl rfl | exact Y_nilCheck rfl rfl rfl))) | refine O_nil ?_ | refine Q_nil ?_ | refine q_j ?_ | refine q_k ?_ | refine q_d ?_ | refine q_a ?_ | refine q_b ?_ | refine q_c ?_ | refine A_ct rfl ?_ | refine A_cf rfl ?_ | refine A_skip ?_ | refine A_exit ?_ | refine A_ret ?_ | refine q_l ?_ | refine q_m ?_ | refine q_n ?_ | refine q_h ?_ | refine q_o ?_ | refine q_e ?_ | refine q_f ?_ | refine q_g ?_ | fail)
  refine A_weaken (Wk_nil 26 2 (t := 5) (id := 5) rfl rfl) ?_
  refine A_loop (fun k : Nat => [(0, .ptr 1000 0), (1, .d (.sc (.int .u32 x))), (5, .row 5), (17, .agg (usedA u)), (18, intA (k : Int))]) (fun k => [(5, .row 26 2 (overS u l x k).length ((overS u l x k).flatMap pfxD)), (1000, tblB 1001 u), (1001, rmapB l)]) (fun k => k ≤ 33) (fun k => 33 - k) 0 (by omega) (Wk_sel ⟨rfl, rfl, rfl, rfl, rfl, trivial⟩ ⟨rfl, rfl, kill_map 5 l, trivial⟩) ?_
  intro k hk
  dsimp only
  have hlen := overS_len u l x k
  by_cases hlt : k < 33
  · have hk32 : k ≤ 32 := by omega
    have huk : (usedA u)[k]? = some (intA (u k)) := by simp [usedA, List.getElem?_map, List.getElem?_range hlt]
    by_cases h0 : u k = 0
    ·
      repeat (first | refine A_seq ?_ | refine A_block ?_ | refine R_list ?_ | refine R_quiet rfl mixed (by kernel_rfl) ?_ | ((first | apply O_y rfl rfl rfl | apply Q_y rfl rfl rfl); (first | exact q_1 | exact q_2 | exact q_3 | exact q_4 | exact q_5 | exact q_6 | exact q_7 | exact q_8 | exact q_9 | exact q_10 | exact q_11 | exact q_12 | exact q_13 | exact q_14 | exact q_15 | exact q_16 | exact q_17 | exact q_18 | exact q_19 | exact q_20 | exact q_21 | exact q_22 | exact q_23 | exact q_24 | (first | exact R_ixa tabOk rfl rfl rfl rfl rfl rfl rfl hlt huk))) | refine O_nil ?_ | refine Q_nil ?_ | refine q_j ?_ | refine q_k ?_ | refine q_d ?_ | refine q_a ?_ | refine q_b ?_ | refine q_c ?_ | refine A_ct rfl ?_ | refine A_cf rfl ?_ | refine A_skip ?_ | refine A_exit ?_ | refine A_ret ?_ | refine q_l ?_ | refine q_m ?_ | refine q_n ?_ | refine q_h ?_ | refine q_o ?_ | refine q_e ?_ | refine q_f ?_ | refine q_g ?_ | fail)
      exact ⟨k + 1, by omega, by omega, Wk_sel ⟨rfl, rfl, rfl, rfl, rfl, trivial⟩ ⟨by rw [overS_no u l x k (.inl h0)]; rfl, rfl, rfl, trivial⟩⟩
    · cases hag : aget l (sub x (k : Nat)) with
      | none =>
        repeat (first | refine A_seq ?_ | refine A_block ?_ | refine R_list ?_ | refine R_quiet rfl mixed (by kernel_rfl) ?_ | ((first | apply O_y rfl rfl rfl | apply Q_y rfl rfl rfl); (first | exact q_1 | exact q_2 | exact q_3 | exact q_4 | exact q_5 | exact q_6 | exact q_7 | exact q_8 | exact q_9 | exact q_10 | exact q_11 | exact q_12 | exact q_13 | exact q_14 | exact q_15 | exact q_16 | exact q_17 | exact q_18 | exact q_19 | exact q_20 | exact q_21 | exact q_22 | exact q_23 | exact q_24 | (first | exact R_ixa tabOk rfl rfl rfl rfl rfl rfl rfl hlt huk | exact Y_nilCheck rfl rfl rfl | exact R_lkOut pfxKey pfxA_val zeroRts rfl trivial (fun _ _ => trivial) hn hag tabOk rfl rfl rfl (kill_map 8 l) rfl rfl))) | refine O_nil ?_ | refine Q_nil ?_ | refine q_j ?_ | refine q_k ?_ | refine q_d ?_ | refine q_a ?_ | refine q_b ?_ | refine q_c ?_ | refine A_ct rfl ?_ | refine A_cf rfl ?_ | refine A_skip ?_ | refine A_exit ?_ | refine A_ret ?_ | refine q_l ?_ | refine q_m ?_ | refine q_n ?_ | refine q_h ?_ | refine q_o ?_ | refine q_e ?_ | refine q_f ?_ | refine q_g ?_ | refine O_c rfl rfl rfl rfl rfl (subnet_A x k hk32 x0 x1) (fun _ => rfl) ?_)
        exact ⟨k + 1, by omega, by omega, Wk_sel ⟨rfl, rfl, rfl, rfl, rfl, trivial⟩ ⟨by rw [overS_no u l x k (.inr hag)]; rfl, rfl, kill_map 8 l, trivial⟩⟩
      | some z =>
        repeat (first | refine A_seq ?_ | refine A_block ?_ | refine R_list ?_ | refine R_quiet rfl mixed (by kernel_rfl) ?_ | ((first | apply O_y rfl rfl rfl | apply Q_y rfl rfl rfl); (first | exact q_1 | exact q_2 | exact q_3 | exact q_4 | exact q_5 | exact q_6 | exact q_7 | exact q_8 | exact q_9 | exact q_10 | exact q_11 | exact q_12 | exact q_13 | exact q_14 | exact q_15 | exact q_16 | exact q_17 | exact q_18 | exact q_19 | exact q_20 | exact q_21 | exact q_22 | exact q_23 | exact q_24 | (first | exact R_ixa tabOk rfl rfl rfl rfl rfl rfl rfl hlt huk | exact Y_nilCheck rfl rfl rfl | exact R_lkIn pfxKey pfxA_val zeroRts trivial (fun _ _ => trivial) hn hag tabOk rfl rfl rfl (kill_map 8 l) rfl rfl))) | refine O_nil ?_ | refine Q_nil ?_ | refine q_j ?_ | refine q_k ?_ | refine q_d ?_ | refine q_a ?_ | refine q_b ?_ | refine q_c ?_ | refine A_ct rfl ?_ | refine A_cf rfl ?_ | refine A_skip ?_ | refine A_exit ?_ | refine A_ret ?_ | refine q_l ?_ | refine q_m ?_ | refine q_n ?_ | refine q_h ?_ | refine q_o ?_ | refine q_e ?_ | refine q_f ?_ | refine q_g ?_ | (first | refine O_c rfl rfl rfl rfl rfl (subnet_A x k hk32 x0 x1) (fun _ => rfl) ?_ | (first | refine O_appR tabOk rfl rfl rfl rfl rfl rfl rfl rfl rfl rfl rfl (by first | exact Src.row rfl | exact Src.dat _ _ | exact Src.nil) rfl (by omega) ?_ | refine O_appN tabOk rfl rfl rfl rfl rfl rfl rfl rfl rfl rfl (by first | exact Src.row rfl | exact Src.dat _ _ | exact Src.nil) rfl (by omega) ?_)))
        exact ⟨k + 1, by omega, by omega, Wk_sel ⟨rfl, rfl, rfl, rfl, rfl, trivial⟩ ⟨row_eq (by rw [overS_in u l x k h0 hag]; simp) (by rw [overS_in u l x k h0 hag, List.flatMap_append]; simp [pfxD]) rfl, rfl, kill3 _ _ _ l, trivial⟩⟩
  · have hk33 : k = 33 := by omega
    subst hk33
    repeat (first | refine A_seq ?_ | refine A_block ?_ | refine R_list ?_ | refine R_quiet rfl mixed (by kernel_rfl) ?_ | ((first | apply O_y rfl rfl rfl | apply Q_y rfl rfl rfl); (first | exact q_1 | exact q_2 | exact q_3 | exact q_4 | exact q_5 | exact q_6 | exact q_7 | exact q_8 | exact q_9 | exact q_10 | exact q_11 | exact q_12 | exact q_13 | exact q_14 | exact q_15 | exact q_16 | exact q_17 | exact q_18 | exact q_19 | exact q_20 | exact q_21 | exact q_22 | exact q_23 | exact q_24 | fail)) | refine O_nil ?_ | refine Q_nil ?_ | refine q_j ?_ | refine q_k ?_ | refine q_d ?_ | refine q_a ?_ | refine q_b ?_ | refine q_c ?_ | refine A_ct rfl ?_ | refine A_cf rfl ?_ | refine A_skip ?_ | refine A_exit ?_ | refine A_ret ?_ | refine q_l ?_ | refine q_m ?_ | refine q_n ?_ | refine q_h ?_ | refine q_o ?_ | refine q_e ?_ | refine q_f ?_ | refine q_g ?_ | fail)
    refine X_retW (Wk_freeze (id := 5) rfl) rfl (h2 := [(1000, tblB 1001 u), (1001, rmapB l)]) ⟨rfl, freeze_map _ _ l, trivial⟩ ⟨rfl, rfl⟩
theorem ren_map (ρ : List (Nat × Nat)) (l : List (Pfx × List Rte)) : renB ρ (rmapB l) = rmapB l := by
  show ABlk.map ((l.map fun p => (pfxA p.1, rtesA p.2)).map fun p => (renV ρ p.1, renV ρ p.2)) = _
  rw [List.map_map]
  rfl
theorem ok_map (ρ : List (Nat × Nat)) (l : List (Pfx × List Rte)) : okB ρ (rmapB l) := by
  intro p hp
  obtain ⟨q, _, rfl⟩ := List.mem_map.1 hp
  exact ⟨rfl, rfl⟩
theorem ok_tbl (i j : Nat) (u : Nat → Int) : okB [(1000, i), (1001, j)] (tblB 1001 u) := by
  intro c hc
  rcases List.mem_cons.1 hc with rfl | hc
  · rfl
  · obtain ⟨b, _, rfl⟩ := List.mem_map.1 hc
    rfl
theorem ren_tbl (i j : Nat) (u : Nat → Int) : renB [(1000, i), (1001, j)] (tblB 1001 u) = tblB j u := by
  show ABlk.var (renV _ (.mp 1001) :: (usedA u).map (renV _)) = _
  unfold tblB usedA
  rw [List.map_map]
  rfl
section
variable {P : Program} {nt : Nat} {Q : Post} {e : Env} {h : Heap} {o : Oper} {ops : Array Oper} {rest : List Oper}
theorem look_pass {p k i j : Nat} (h : look [(1000, i), (1001, j)] p = some k) : (p = 1000 ∧ k = i) ∨ (p = 1001 ∧ k = j) := by
  by_cases h1 : 1000 = p
  · subst h1; rw [look_cons_same] at h; cases h; exact .inl ⟨rfl, rfl⟩
  · rw [look_cons_ne _ _ h1] at h
    by_cases h2 : 1001 = p
    · subst h2; rw [look_cons_same] at h; cases h; exact .inr ⟨rfl, rfl⟩
    · rw [look_cons_ne _ _ h2] at h; cases h
theorem O_cTbl {f : FuncId} {args : Array Operand} {ats : Array TypeId} {cs0 cs : List AVal} {c : AVal} {d : Nat} (i j : Nat) (hij : i ≠ j) {u u' : Nat → Int} {l l' : List (Pfx × List Rte)}
    (H : ACall P f cs [(1000, tblB 1001 u), (1001, rmapB l)] (fun c' h' => c' = c ∧ h' = [(1000, tblB 1001 u'), (1001, rmapB l')])) (hw : awant ops e o = some true) (hdst : o.dst = some d) (hd : Nat.blt d nt = true) (ho : o.op = .call { callee := .value (.func f), args := args, argTypes := ats }) (hx : aevs e args.toList = some cs0)
    (hok : cs.all (okV [(1000, i), (1001, j)]) = true) (hcs : cs.map (renV [(1000, i), (1001, j)]) = cs0) (hi : look h i = some (tblB j u)) (hj : look h j = some (rmapB l))
    (HK : AOps P nt ops Q rest ((d, renV [(1000, i), (1001, j)] c) :: e) ((i, tblB j u') :: (j, rmapB l') :: h)) : AOps P nt ops Q (o :: rest) e h := by
  refine O_cP [(1000, i), (1001, j)] (fun p p' k h1 h2 => ?_) (fun p k h1 => ?_) H (fun c hc => List.all_eq_true.1 hok c hc) ⟨⟨i, _, rfl, hi, ren_tbl i j u, ok_tbl i j u⟩, ⟨j, _, rfl, hj, ren_map _ l, ok_map _ l⟩, trivial⟩ hw hdst hd ho hx hcs ?_
  · rcases look_pass h1 with ⟨h3, h4⟩ | ⟨h3, h4⟩ <;> rcases look_pass h2 with ⟨h5, h6⟩ | ⟨h5, h6⟩ <;> omega
  · rcases look_pass h1 with ⟨h3, h4⟩ | ⟨h3, h4⟩ <;> subst h3 <;> exact ⟨by omega, rfl, rfl⟩
  · have e1 : renH [(1000, i), (1001, j)] [(1000, tblB 1001 u'), (1001, rmapB l')] ++ h = (i, tblB j u') :: (j, rmapB l') :: h := by
      show (i, renB _ (tblB 1001 u')) :: (j, renB _ (rmapB l')) :: ([] ++ h) = _
      rw [ren_tbl, ren_map]
      rfl
    rw [e1]
    exact HK
end
theorem overS_mem (u : Nat → Int) (l : List (Pfx × List Rte)) (x : Int) (k : Nat) (q : Pfx) (h : q ∈ overS u l x k) : ∃ z, aget l q = some z := by
  unfold overS at h
  obtain ⟨b, hb, rfl⟩ := List.mem_map.1 h
  have := (List.mem_filter.1 hb).2
  simp only [Bool.and_eq_true] at this
  exact Option.isSome_iff_exists.1 this.2
def longR (u : Nat → Int) (l : List (Pfx × List Rte)) (x : Int) : Pfx × List Rte × Bool := match (overS u l x 33).getLast? with
  | some p => (p, (aget l p).getD [], true)
  | none => (⟨0, 0⟩, [], false)
set_option maxHeartbeats 4000000 in
theorem longest_A (u : Nat → Int) (l : List (Pfx × List Rte)) (x : Int) (x0 : 0 ≤ x) (x1 : x < 4294967296) (hn : (l.map (·.1)).Nodup) :
    ACall Tryz.prog 33 [.ptr 1000 0, .d (.sc (.int .u32 x))] [(1000, tblB 1001 u), (1001, rmapB l)] (fun c h => c = .tup [pfxA (longR u l x).1, rtesA (longR u l x).2.1, boolA (longR u l x).2.2] ∧ h = [(1000, tblB 1001 u), (1001, rmapB l)]) := by
  refine ACall_of tabOk Tryz.func33 rfl Tryz.ntmps33 (congrArg Array.toList Tryz.results33) (by kernel_rfl) rfl ?_
  refine A_seq ?_
  refine R_list ?_
  refine q_a ?_
  refine O_weaken (Wk_sel (e1 := [(0, .ptr 1000 0), (1, .d (.sc (.int .u32 x))), (4, .ptr 4 0)]) (h1 := [(4, .var [.d (.sc (.int .u32 0)), .d (.sc (.int .i64 0))]), (1000, tblB 1001 u), (1001, rmapB l)]) ⟨rfl, rfl, rfl, trivial⟩ ⟨rfl, rfl, kill_map 4 l, trivial⟩) ?_
  obtain ⟨L, hL⟩ : ∃ L, overS u l x 33 = L := ⟨_, rfl⟩
  have hov := over_A u l x x0 x1 hn
  rw [hL] at hov
  have hLn : L.length ≤ 33 := by rw [← hL]; exact overS_len u l x 33
  unfold longR
  rw [hL]
  by_cases h0 : L.length = 0
  · have : L = [] := List.length_eq_zero_iff.1 h0
    subst this
    repeat (first | refine A_seq ?_ | refine A_block ?_ | refine R_list ?_ | refine R_quiet rfl mixed (by kernel_rfl) ?_ | ((first | apply O_y rfl rfl rfl | apply Q_y rfl rfl rfl); (first | exact q_1 | exact q_2 | exact q_3 | exact q_4 | exact q_5 | exact q_6 | exact q_7 | exact q_8 | exact q_9 | exact q_10 | exact q_11 | exact q_12 | exact q_13 | exact q_14 | exact q_15 | exact q_16 | exact q_17 | exact q_18 | exact q_19 | exact q_20 | exact q_21 | exact q_22 | exact q_23 | exact q_24 | fail)) | refine O_nil ?_ | refine Q_nil ?_ | refine q_j ?_ | refine q_k ?_ | refine q_d ?_ | refine q_a ?_ | refine q_b ?_ | refine q_c ?_ | refine A_ct rfl ?_ | refine A_cf rfl ?_ | refine A_skip ?_ | refine A_exit ?_ | refine A_ret ?_ | refine q_l ?_ | refine q_m ?_ | refine q_n ?_ | refine q_h ?_ | refine q_o ?_ | refine q_e ?_ | refine q_f ?_ | refine q_g ?_ | (refine O_cTbl 1000 1001 (by omega) hov rfl rfl rfl rfl rfl rfl rfl rfl rfl ?_))
    exact X_retW (Wk_see (t := 5) rfl see_nil) rfl (h2 := [(1000, tblB 1001 u), (1001, rmapB l)]) ⟨rfl, rfl, trivial⟩ ⟨rfl, rfl⟩
  · have hlt : L.length - 1 < L.length := by omega
    repeat (first | refine A_seq ?_ | refine A_block ?_ | refine R_list ?_ | refine R_quiet rfl mixed (by kernel_rfl) ?_ | ((first | apply O_y rfl rfl rfl | apply Q_y rfl rfl rfl); (first | exact q_1 | exact q_2 | exact q_3 | exact q_4 | exact R_loadi tabOk rfl rfl rfl rfl (by first | exact win_flat0 pfxD_len L (L.length - 1) _ hlt (by decide) | exact win_flat pfxD_len L (L.length - 1) _ _ hlt (by decide) | exact win_flat2 pfxD_len L (L.length - 1) _ _ _ hlt (by decide) | rfl) rfl rfl | exact q_6 | exact q_7 | exact q_8 | exact q_9 | exact q_10 | exact q_11 | exact q_12 | exact q_13 | exact q_14 | exact q_15 | exact q_16 | exact q_17 | exact q_18 | exact q_19 | exact q_20 | exact q_21 | exact q_22 | exact q_23 | exact q_24 | (exact R_index (j := L.length - 1) tabOk rfl rfl rfl rfl rfl (by omega) hlt))) | refine O_nil ?_ | refine Q_nil ?_ | refine q_j ?_ | refine q_k ?_ | refine q_d ?_ | refine q_a ?_ | refine q_b ?_ | refine q_c ?_ | refine A_ct rfl ?_ | refine A_cf rfl ?_ | refine A_skip ?_ | refine A_exit ?_ | refine A_ret ?_ | refine q_l ?_ | refine q_m ?_ | refine q_n ?_ | refine q_h ?_ | refine q_o ?_ | refine q_e ?_ | refine q_f ?_ | refine q_g ?_ | (refine O_cTbl 1000 1001 (by omega) hov rfl rfl rfl rfl rfl rfl rfl rfl rfl ?_))
    obtain ⟨q, hq⟩ : ∃ q, L[L.length - 1] = q := ⟨_, rfl⟩
    have hlast : L.getLast? = some q := by rw [List.getLast?_eq_getElem?, List.getElem?_eq_getElem hlt, hq]
    obtain ⟨z, hz⟩ : ∃ z, aget l q = some z := by
      refine overS_mem u l x 33 q ?_
      rw [hL]
      exact List.mem_of_getElem? (by rw [← hq]; exact List.getElem?_eq_getElem hlt)
    rw [hq]
    refine A_weaken (Wk_sel (e1 := [(0, .ptr 1000 0), (4, .ptr 4 0)]) (h1 := [(4, .var [.d (.sc (.int .u32 q.a)), .d (.sc (.int .i64 q.b))]), (1000, tblB 1001 u), (1001, rmapB l)]) ⟨rfl, rfl, trivial⟩ ⟨rfl, rfl, rfl, trivial⟩) ?_
    refine N_begin [4] mixed ?_
    repeat (first | ((first | apply q_M 0 rfl rfl (by kernel_rfl) (by decide +kernel) (by decide +kernel) rfl rfl rfl | apply q_M 1 rfl rfl (by kernel_rfl) (by decide +kernel) (by decide +kernel) rfl rfl rfl | apply q_M 2 rfl rfl (by kernel_rfl) (by decide +kernel) (by decide +kernel) rfl rfl rfl | apply q_M 3 rfl rfl (by kernel_rfl) (by decide +kernel) (by decide +kernel) rfl rfl rfl | apply q_M 4 rfl rfl (by kernel_rfl) (by decide +kernel) (by decide +kernel) rfl rfl rfl | apply q_M 5 rfl rfl (by kernel_rfl) (by decide +kernel) (by decide +kernel) rfl rfl rfl | apply q_M 6 rfl rfl (by kernel_rfl) (by decide +kernel) (by decide +kernel) rfl rfl rfl | apply q_M 7 rfl rfl (by kernel_rfl) (by decide +kernel) (by decide +kernel) rfl rfl rfl | apply q_M 8 rfl rfl (by kernel_rfl) (by decide +kernel) (by decide +kernel) rfl rfl rfl | apply q_M 9 rfl rfl (by kernel_rfl) (by decide +kernel) (by decide +kernel) rfl rfl rfl | apply q_M 10 rfl rfl (by kernel_rfl) (by decide +kernel) (by decide +kernel) rfl rfl rfl | apply q_M 11 rfl rfl (by kernel_rfl) (by decide +kernel) (by decide +kernel) rfl rfl rfl | apply q_M 12 rfl rfl (by kernel_rfl) (by decide +kernel) (by decide +kernel) rfl rfl rfl ); (first | exact q_1 | exact q_2 | exact q_3 | exact q_4 | exact q_5 | exact q_6 | exact q_7 | exact q_8 | exact q_9 | exact q_10 | exact q_11 | exact q_12 | exact q_13 | exact q_14 | exact q_15 | exact q_16 | exact q_17 | exact q_18 | exact q_19 | exact q_20 | exact q_21 | exact q_22 | exact q_23 | exact q_24 | (first | exact Y_nilCheck rfl rfl rfl | exact R_lk1 pfxKey pfxA_val zeroRts trivial (fun _ _ => trivial) hn hz tabOk rfl rfl rfl rfl rfl rfl))) | (apply q_L 0 rfl rfl (by kernel_rfl) (by decide +kernel) (by decide +kernel) rfl rfl rfl; (first | exact q_5 | exact q_6 | exact q_7 | exact q_15 | exact q_16 | exact q_19 | (first | exact Y_nilCheck rfl rfl rfl | exact R_lk1 pfxKey pfxA_val zeroRts trivial (fun _ _ => trivial) hn hz tabOk rfl rfl rfl rfl rfl rfl))) | (apply q_L 1 rfl rfl (by kernel_rfl) (by decide +kernel) (by decide +kernel) rfl rfl rfl; (first | exact q_5 | exact q_6 | exact q_7 | exact q_15 | exact q_16 | exact q_19 | (first | exact Y_nilCheck rfl rfl rfl | exact R_lk1 pfxKey pfxA_val zeroRts trivial (fun _ _ => trivial) hn hz tabOk rfl rfl rfl rfl rfl rfl))) | (apply q_L 2 rfl rfl (by kernel_rfl) (by decide +kernel) (by decide +kernel) rfl rfl rfl; (first | exact q_5 | exact q_6 | exact q_7 | exact q_15 | exact q_16 | exact q_19 | (first | exact Y_nilCheck rfl rfl rfl | exact R_lk1 pfxKey pfxA_val zeroRts trivial (fun _ _ => trivial) hn hz tabOk rfl rfl rfl rfl rfl rfl))) | (apply q_L 3 rfl rfl (by kernel_rfl) (by decide +kernel) (by decide +kernel) rfl rfl rfl; (first | exact q_5 | exact q_6 | exact q_7 | exact q_15 | exact q_16 | exact q_19 | (first | exact Y_nilCheck rfl rfl rfl | exact R_lk1 pfxKey pfxA_val zeroRts trivial (fun _ _ => trivial) hn hz tabOk rfl rfl rfl rfl rfl rfl))) | (apply q_L 4 rfl rfl (by kernel_rfl) (by decide +kernel) (by decide +kernel) rfl rfl rfl; (first | exact q_5 | exact q_6 | exact q_7 | exact q_15 | exact q_16 | exact q_19 | (first | exact Y_nilCheck rfl rfl rfl | exact R_lk1 pfxKey pfxA_val zeroRts trivial (fun _ _ => trivial) hn hz tabOk rfl rfl rfl rfl rfl rfl))) | (apply q_L 5 rfl rfl (by kernel_rfl) (by decide +kernel) (by decide +kernel) rfl rfl rfl; (first | exact q_5 | exact q_6 | exact q_7 | exact q_15 | exact q_16 | exact q_19 | (first | exact Y_nilCheck rfl rfl rfl | exact R_lk1 pfxKey pfxA_val zeroRts trivial (fun _ _ => trivial) hn hz tabOk rfl rfl rfl rfl rfl rfl))) | (apply q_L 6 rfl rfl (by kernel_rfl) (by decide +kernel) (by decide +kernel) rfl rfl rfl; (first | exact q_5 | exact q_6 | exact q_7 | exact q_15 | exact q_16 | exact q_19 | (first | exact Y_nilCheck rfl rfl rfl | exact R_lk1 pfxKey pfxA_val zeroRts trivial (fun _ _ => trivial) hn hz tabOk rfl rfl rfl rfl rfl rfl))) | (apply q_L 7 rfl rfl (by kernel_rfl) (by decide +kernel) (by decide +kernel) rfl rfl rfl; (first | exact q_5 | exact q_6 | exact q_7 | exact q_15 | exact q_16 | exact q_19 | (first | exact Y_nilCheck rfl rfl rfl | exact R_lk1 pfxKey pfxA_val zeroRts trivial (fun _ _ => trivial) hn hz tabOk rfl rfl rfl rfl rfl rfl))) | (apply q_L 8 rfl rfl (by kernel_rfl) (by decide +kernel) (by decide +kernel) rfl rfl rfl; (first | exact q_5 | exact q_6 | exact q_7 | exact q_15 | exact q_16 | exact q_19 | (first | exact Y_nilCheck rfl rfl rfl | exact R_lk1 pfxKey pfxA_val zeroRts trivial (fun _ _ => trivial) hn hz tabOk rfl rfl rfl rfl rfl rfl))) | (apply q_L 9 rfl rfl (by kernel_rfl) (by decide +kernel) (by decide +kernel) rfl rfl rfl; (first | exact q_5 | exact q_6 | exact q_7 | exact q_15 | exact q_16 | exact q_19 | (first | exact Y_nilCheck rfl rfl rfl | exact R_lk1 pfxKey pfxA_val zeroRts trivial (fun _ _ => trivial) hn hz tabOk rfl rfl rfl rfl rfl rfl))) | (apply q_L 10 rfl rfl (by kernel_rfl) (by decide +kernel) (by decide +kernel) rfl rfl rfl; (first | exact q_5 | exact q_6 | exact q_7 | exact q_15 | exact q_16 | exact q_19 | (first | exact Y_nilCheck rfl rfl rfl | exact R_lk1 pfxKey pfxA_val zeroRts trivial (fun _ _ => trivial) hn hz tabOk rfl rfl rfl rfl rfl rfl))) | (apply q_L 11 rfl rfl (by kernel_rfl) (by decide +kernel) (by decide +kernel) rfl rfl rfl; (first | exact q_5 | exact q_6 | exact q_7 | exact q_15 | exact q_16 | exact q_19 | (first | exact Y_nilCheck rfl rfl rfl | exact R_lk1 pfxKey pfxA_val zeroRts trivial (fun _ _ => trivial) hn hz tabOk rfl rfl rfl rfl rfl rfl))) | (apply q_L 12 rfl rfl (by kernel_rfl) (by decide +kernel) (by decide +kernel) rfl rfl rfl; (first | exact q_5 | exact q_6 | exact q_7 | exact q_15 | exact q_16 | exact q_19 | (first | exact Y_nilCheck rfl rfl rfl | exact R_lk1 pfxKey pfxA_val zeroRts trivial (fun _ _ => trivial) hn hz tabOk rfl rfl rfl rfl rfl rfl))) | refine N_one (j := 0) (by decide +kernel) ?_ | refine N_one (j := 1) (by decide +kernel) ?_ | refine N_one (j := 2) (by decide +kernel) ?_ | refine N_one (j := 3) (by decide +kernel) ?_ | refine N_one (j := 4) (by decide +kernel) ?_ | refine N_one (j := 5) (by decide +kernel) ?_ | refine N_one (j := 6) (by decide +kernel) ?_ | refine N_one (j := 7) (by decide +kernel) ?_ | refine N_one (j := 8) (by decide +kernel) ?_ | refine N_one (j := 9) (by decide +kernel) ?_ | refine N_one (j := 10) (by decide +kernel) ?_ | refine N_one (j := 11) (by decide +kernel) ?_ | refine N_one (j := 12) (by decide +kernel) ?_ | refine T_alloc tabOk rfl rfl rfl rfl rfl rfl rfl ?_ | refine T_store tabOk rfl rfl rfl rfl rfl rfl rfl rfl rfl rfl rfl rfl rfl ?_ | refine T_box rfl rfl rfl rfl rfl rfl rfl rfl ?_ | (apply T_yield rfl rfl rfl rfl; (first | exact q_1 | exact q_2 | exact q_3 | exact q_4 | exact q_5 | exact q_6 | exact q_7 | exact q_8 | exact q_9 | exact q_10 | exact q_11 | exact q_12 | exact q_13 | exact q_14 | exact q_15 | exact q_16 | exact q_17 | exact q_18 | exact q_19 | exact q_20 | exact q_21 | exact q_22 | exact q_23 | exact q_24 | (first | exact Y_nilCheck rfl rfl rfl | exact R_lk1 pfxKey pfxA_val zeroRts trivial (fun _ _ => trivial) hn hz tabOk rfl rfl rfl rfl rfl rfl))) | refine N_done (by decide +kernel) ?_ | fail)
    refine N_two (j := 0) (k := 5) (by decide +kernel) ?_ ?_
    ·
      repeat (first | ((first | apply q_M 0 rfl rfl (by kernel_rfl) (by decide +kernel) (by decide +kernel) rfl rfl rfl | apply q_M 1 rfl rfl (by kernel_rfl) (by decide +kernel) (by decide +kernel) rfl rfl rfl | apply q_M 2 rfl rfl (by kernel_rfl) (by decide +kernel) (by decide +kernel) rfl rfl rfl | apply q_M 3 rfl rfl (by kernel_rfl) (by decide +kernel) (by decide +kernel) rfl rfl rfl | apply q_M 4 rfl rfl (by kernel_rfl) (by decide +kernel) (by decide +kernel) rfl rfl rfl | apply q_M 5 rfl rfl (by kernel_rfl) (by decide +kernel) (by decide +kernel) rfl rfl rfl | apply q_M 6 rfl rfl (by kernel_rfl) (by decide +kernel) (by decide +kernel) rfl rfl rfl | apply q_M 7 rfl rfl (by kernel_rfl) (by decide +kernel) (by decide +kernel) rfl rfl rfl | apply q_M 8 rfl rfl (by kernel_rfl) (by decide +kernel) (by decide +kernel) rfl rfl rfl | apply q_M 9 rfl rfl (by kernel_rfl) (by decide +kernel) (by decide +kernel) rfl rfl rfl | apply q_M 10 rfl rfl (by kernel_rfl) (by decide +kernel) (by decide +kernel) rfl rfl rfl | apply q_M 11 rfl rfl (by kernel_rfl) (by decide +kernel) (by decide +kernel) rfl rfl rfl | apply q_M 12 rfl rfl (by kernel_rfl) (by decide +kernel) (by decide +kernel) rfl rfl rfl ); (first | exact q_1 | exact q_2 | exact q_3 | exact q_4 | exact q_5 | exact q_6 | exact q_7 | exact q_8 | exact q_9 | exact q_10 | exact q_11 | exact q_12 | exact q_13 | exact q_14 | exact q_15 | exact q_16 | exact q_17 | exact q_18 | exact q_19 | exact q_20 | exact q_21 | exact q_22 | exact q_23 | exact q_24 | (first | exact Y_nilCheck rfl rfl rfl | exact R_lk1 pfxKey pfxA_val zeroRts trivial (fun _ _ => trivial) hn hz tabOk rfl rfl rfl rfl rfl rfl))) | (apply q_L 0 rfl rfl (by kernel_rfl) (by decide +kernel) (by decide +kernel) rfl rfl rfl; (first | exact q_5 | exact q_6 | exact q_7 | exact q_15 | exact q_16 | exact q_19 | (first | exact Y_nilCheck rfl rfl rfl | exact R_lk1 pfxKey pfxA_val zeroRts trivial (fun _ _ => trivial) hn hz tabOk rfl rfl rfl rfl rfl rfl))) | (apply q_L 1 rfl rfl (by kernel_rfl) (by decide +kernel) (by decide +kernel) rfl rfl rfl; (first | exact q_5 | exact q_6 | exact q_7 | exact q_15 | exact q_16 | exact q_19 | (first | exact Y_nilCheck rfl rfl rfl | exact R_lk1 pfxKey pfxA_val zeroRts trivial (fun _ _ => trivial) hn hz tabOk rfl rfl rfl rfl rfl rfl))) | (apply q_L 2 rfl rfl (by kernel_rfl) (by decide +kernel) (by decide +kernel) rfl rfl rfl; (first | exact q_5 | exact q_6 | exact q_7 | exact q_15 | exact q_16 | exact q_19 | (first | exact Y_nilCheck rfl rfl rfl | exact R_lk1 pfxKey pfxA_val zeroRts trivial (fun _ _ => trivial) hn hz tabOk rfl rfl rfl rfl rfl rfl))) | (apply q_L 3 rfl rfl (by kernel_rfl) (by decide +kernel) (by decide +kernel) rfl rfl rfl; (first | exact q_5 | exact q_6 | exact q_7 | exact q_15 | exact q_16 | exact q_19 | (first | exact Y_nilCheck rfl rfl rfl | exact R_lk1 pfxKey pfxA_val zeroRts trivial (fun _ _ => trivial) hn hz tabOk rfl rfl rfl rfl rfl rfl))) | (apply q_L 4 rfl rfl (by kernel_rfl) (by decide +kernel) (by decide +kernel) rfl rfl rfl; (first | exact q_5 | exact q_6 | exact q_7 | exact q_15 | exact q_16 | exact q_19 | (first | exact Y_nilCheck rfl rfl rfl | exact R_lk1 pfxKey pfxA_val zeroRts trivial (fun _ _ => trivial) hn hz tabOk rfl rfl rfl rfl rfl rfl))) | (apply q_L 5 rfl rfl (by kernel_rfl) (by decide +kernel) (by decide +kernel) rfl rfl rfl; (first | exact q_5 | exact q_6 | exact q_7 | exact q_15 | exact q_16 | exact q_19 | (first | exact Y_nilCheck rfl rfl rfl | exact R_lk1 pfxKey pfxA_val zeroRts trivial (fun _ _ => trivial) hn hz tabOk rfl rfl rfl rfl rfl rfl))) | (apply q_L 6 rfl rfl (by kernel_rfl) (by decide +kernel) (by decide +kernel) rfl rfl rfl; (first | exact q_5 | exact q_6 | exact q_7 | exact q_15 | exact q_16 | exact q_19 | (first | exact Y_nilCheck rfl rfl rfl | exact R_lk1 pfxKey pfxA_val zeroRts trivial (fun _ _ => trivial) hn hz tabOk rfl rfl rfl rfl rfl rfl))) | (apply q_L 7 rfl rfl (by kernel_rfl) (by decide +kernel) (by decide +kernel) rfl rfl rfl; (first | exact q_5 | exact q_6 | exact q_7 | exact q_15 | exact q_16 | exact q_19 | (first | exact Y_nilCheck rfl rfl rfl | exact R_lk1 pfxKey pfxA_val zeroRts trivial (fun _ _ => trivial) hn hz tabOk rfl rfl rfl rfl rfl rfl))) | (apply q_L 8 rfl rfl (by kernel_rfl) (by decide +kernel) (by decide +kernel) rfl rfl rfl; (first | exact q_5 | exact q_6 | exact q_7 | exact q_15 | exact q_16 | exact q_19 | (first | exact Y_nilCheck rfl rfl rfl | exact R_lk1 pfxKey pfxA_val zeroRts trivial (fun _ _ => trivial) hn hz tabOk rfl rfl rfl rfl rfl rfl))) | (apply q_L 9 rfl rfl (by kernel_rfl) (by decide +kernel) (by decide +kernel) rfl rfl rfl; (first | exact q_5 | exact q_6 | exact q_7 | exact q_15 | exact q_16 | exact q_19 | (first | exact Y_nilCheck rfl rfl rfl | exact R_lk1 pfxKey pfxA_val zeroRts trivial (fun _ _ => trivial) hn hz tabOk rfl rfl rfl rfl rfl rfl))) | (apply q_L 10 rfl rfl (by kernel_rfl) (by decide +kernel) (by decide +kernel) rfl rfl rfl; (first | exact q_5 | exact q_6 | exact q_7 | exact q_15 | exact q_16 | exact q_19 | (first | exact Y_nilCheck rfl rfl rfl | exact R_lk1 pfxKey pfxA_val zeroRts trivial (fun _ _ => trivial) hn hz tabOk rfl rfl rfl rfl rfl rfl))) | (apply q_L 11 rfl rfl (by kernel_rfl) (by decide +kernel) (by decide +kernel) rfl rfl rfl; (first | exact q_5 | exact q_6 | exact q_7 | exact q_15 | exact q_16 | exact q_19 | (first | exact Y_nilCheck rfl rfl rfl | exact R_lk1 pfxKey pfxA_val zeroRts trivial (fun _ _ => trivial) hn hz tabOk rfl rfl rfl rfl rfl rfl))) | (apply q_L 12 rfl rfl (by kernel_rfl) (by decide +kernel) (by decide +kernel) rfl rfl rfl; (first | exact q_5 | exact q_6 | exact q_7 | exact q_15 | exact q_16 | exact q_19 | (first | exact Y_nilCheck rfl rfl rfl | exact R_lk1 pfxKey pfxA_val zeroRts trivial (fun _ _ => trivial) hn hz tabOk rfl rfl rfl rfl rfl rfl))) | refine N_one (j := 0) (by decide +kernel) ?_ | refine N_one (j := 1) (by decide +kernel) ?_ | refine N_one (j := 2) (by decide +kernel) ?_ | refine N_one (j := 3) (by decide +kernel) ?_ | refine N_one (j := 4) (by decide +kernel) ?_ | refine N_one (j := 5) (by decide +kernel) ?_ | refine N_one (j := 6) (by decide +kernel) ?_ | refine N_one (j := 7) (by decide +kernel) ?_ | refine N_one (j := 8) (by decide +kernel) ?_ | refine N_one (j := 9) (by decide +kernel) ?_ | refine N_one (j := 10) (by decide +kernel) ?_ | refine N_one (j := 11) (by decide +kernel) ?_ | refine N_one (j := 12) (by decide +kernel) ?_ | refine T_alloc tabOk rfl rfl rfl rfl rfl rfl rfl ?_ | refine T_store tabOk rfl rfl rfl rfl rfl rfl rfl rfl rfl rfl rfl rfl rfl ?_ | refine T_box rfl rfl rfl rfl rfl rfl rfl rfl ?_ | (apply T_yield rfl rfl rfl rfl; (first | exact q_1 | exact q_2 | exact q_3 | exact q_4 | exact q_5 | exact q_6 | exact q_7 | exact q_8 | exact q_9 | exact q_10 | exact q_11 | exact q_12 | exact q_13 | exact q_14 | exact q_15 | exact q_16 | exact q_17 | exact q_18 | exact q_19 | exact q_20 | exact q_21 | exact q_22 | exact q_23 | exact q_24 | (first | exact Y_nilCheck rfl rfl rfl | exact R_lk1 pfxKey pfxA_val zeroRts trivial (fun _ _ => trivial) hn hz tabOk rfl rfl rfl rfl rfl rfl))) | refine N_done (by decide +kernel) ?_ | fail)
      repeat (first | refine A_seq ?_ | refine A_block ?_ | refine R_list ?_ | refine R_quiet rfl mixed (by kernel_rfl) ?_ | ((first | apply O_y rfl rfl rfl | apply Q_y rfl rfl rfl); (first | exact q_1 | exact q_2 | exact q_3 | exact q_4 | exact q_5 | exact q_6 | exact q_7 | exact q_8 | exact q_9 | exact q_10 | exact q_11 | exact q_12 | exact q_13 | exact q_14 | exact q_15 | exact q_16 | exact q_17 | exact q_18 | exact q_19 | exact q_20 | exact q_21 | exact q_22 | exact q_23 | exact q_24 | fail)) | refine O_nil ?_ | refine Q_nil ?_ | refine q_j ?_ | refine q_k ?_ | refine q_d ?_ | refine q_a ?_ | refine q_b ?_ | refine q_c ?_ | refine A_ct rfl ?_ | refine A_cf rfl ?_ | refine A_skip ?_ | refine A_exit ?_ | refine A_ret ?_ | refine q_l ?_ | refine q_m ?_ | refine q_n ?_ | refine q_h ?_ | refine q_o ?_ | refine q_e ?_ | refine q_f ?_ | refine q_g ?_ | fail)
      refine X_retW AWk.refl rfl (h2 := [(1000, tblB 1001 u), (1001, rmapB l)]) ⟨rfl, rfl, trivial⟩ ⟨?_, rfl⟩
      rw [hlast]
      simp only [hz, Option.getD_some]
      rfl
    ·
      repeat (first | ((first | apply q_M 0 rfl rfl (by kernel_rfl) (by decide +kernel) (by decide +kernel) rfl rfl rfl | apply q_M 1 rfl rfl (by kernel_rfl) (by decide +kernel) (by decide +kernel) rfl rfl rfl | apply q_M 2 rfl rfl (by kernel_rfl) (by decide +kernel) (by decide +kernel) rfl rfl rfl | apply q_M 3 rfl rfl (by kernel_rfl) (by decide +kernel) (by decide +kernel) rfl rfl rfl | apply q_M 4 rfl rfl (by kernel_rfl) (by decide +kernel) (by decide +kernel) rfl rfl rfl | apply q_M 5 rfl rfl (by kernel_rfl) (by decide +kernel) (by decide +kernel) rfl rfl rfl | apply q_M 6 rfl rfl (by kernel_rfl) (by decide +kernel) (by decide +kernel) rfl rfl rfl | apply q_M 7 rfl rfl (by kernel_rfl) (by decide +kernel) (by decide +kernel) rfl rfl rfl | apply q_M 8 rfl rfl (by kernel_rfl) (by decide +kernel) (by decide +kernel) rfl rfl rfl | apply q_M 9 rfl rfl (by kernel_rfl) (by decide +kernel) (by decide +kernel) rfl rfl rfl | apply q_M 10 rfl rfl (by kernel_rfl) (by decide +kernel) (by decide +kernel) rfl rfl rfl | apply q_M 11 rfl rfl (by kernel_rfl) (by decide +kernel) (by decide +kernel) rfl rfl rfl | apply q_M 12 rfl rfl (by kernel_rfl) (by decide +kernel) (by decide +kernel) rfl rfl rfl ); (first | exact q_1 | exact q_2 | exact q_3 | exact q_4 | exact q_5 | exact q_6 | exact q_7 | exact q_8 | exact q_9 | exact q_10 | exact q_11 | exact q_12 | exact q_13 | exact q_14 | exact q_15 | exact q_16 | exact q_17 | exact q_18 | exact q_19 | exact q_20 | exact q_21 | exact q_22 | exact q_23 | exact q_24 | (first | exact Y_nilCheck rfl rfl rfl | exact R_lk1 pfxKey pfxA_val zeroRts trivial (fun _ _ => trivial) hn hz tabOk rfl rfl rfl rfl rfl rfl))) | (apply q_L 0 rfl rfl (by kernel_rfl) (by decide +kernel) (by decide +kernel) rfl rfl rfl; (first | exact q_5 | exact q_6 | exact q_7 | exact q_15 | exact q_16 | exact q_19 | (first | exact Y_nilCheck rfl rfl rfl | exact R_lk1 pfxKey pfxA_val zeroRts trivial (fun _ _ => trivial) hn hz tabOk rfl rfl rfl rfl rfl rfl))) | (apply q_L 1 rfl rfl (by kernel_rfl) (by decide +kernel) (by decide +kernel) rfl rfl rfl; (first | exact q_5 | exact q_6 | exact q_7 | exact q_15 | exact q_16 | exact q_19 | (first | exact Y_nilCheck rfl rfl rfl | exact R_lk1 pfxKey pfxA_val zeroRts trivial (fun _ _ => trivial) hn hz tabOk rfl rfl rfl rfl rfl rfl))) | (apply q_L 2 rfl rfl (by kernel_rfl) (by decide +kernel) (by decide +kernel) rfl rfl rfl; (first | exact q_5 | exact q_6 | exact q_7 | exact q_15 | exact q_16 | exact q_19 | (first | exact Y_nilCheck rfl rfl rfl | exact R_lk1 pfxKey pfxA_val zeroRts trivial (fun _ _ => trivial) hn hz tabOk rfl rfl rfl rfl rfl rfl))) | (apply q_L 3 rfl rfl (by kernel_rfl) (by decide +kernel) (by decide +kernel) rfl rfl rfl; (first | exact q_5 | exact q_6 | exact q_7 | exact q_15 | exact q_16 | exact q_19 | (first | exact Y_nilCheck rfl rfl rfl | exact R_lk1 pfxKey pfxA_val zeroRts trivial (fun _ _ => trivial) hn hz tabOk rfl rfl rfl rfl rfl rfl))) | (apply q_L 4 rfl rfl (by kernel_rfl) (by decide +kernel) (by decide +kernel) rfl rfl rfl; (first | exact q_5 | exact q_6 | exact q_7 | exact q_15 | exact q_16 | exact q_19 | (first | exact Y_nilCheck rfl rfl rfl | exact R_lk1 pfxKey pfxA_val zeroRts trivial (fun _ _ => trivial) hn hz tabOk rfl rfl rfl rfl rfl rfl))) | (apply q_L 5 rfl rfl (by kernel_rfl) (by decide +kernel) (by decide +kernel) rfl rfl rfl; (first | exact q_5 | exact q_6 | exact q_7 | exact q_15 | exact q_16 | exact q_19 | (first | exact Y_nilCheck rfl rfl rfl | exact R_lk1 pfxKey pfxA_val zeroRts trivial (fun _ _ => trivial) hn hz tabOk rfl rfl rfl rfl rfl rfl))) | (apply q_L 6 rfl rfl (by kernel_rfl) (by decide +kernel) (by decide +kernel) rfl rfl rfl; (first | exact q_5 | exact q_6 | exact q_7 | exact q_15 | exact q_16 | exact q_19 | (first | exact Y_nilCheck rfl rfl rfl | exact R_lk1 pfxKey pfxA_val zeroRts trivial (fun _ _ => trivial) hn hz tabOk rfl rfl rfl rfl rfl rfl))) | (apply q_L 7 rfl rfl (by kernel_rfl) (by decide +kernel) (by decide +kernel) rfl rfl rfl; (first | exact q_5 | exact q_6 | exact q_7 | exact q_15 | exact q_16 | exact q_19 | (first | exact Y_nilCheck rfl rfl rfl | exact R_lk1 pfxKey pfxA_val zeroRts trivial (fun _ _ => trivial) hn hz tabOk rfl rfl rfl rfl rfl rfl))) | (apply q_L 8 rfl rfl (by kernel_rfl) (by decide +kernel) (by decide +kernel) rfl rfl rfl; (first | exact q_5 | exact q_6 | exact q_7 | exact q_15 | exact q_16 | exact q_19 | (first | exact Y_nilCheck rfl rfl rfl | exact R_lk1 pfxKey pfxA_val zeroRts trivial (fun _ _ => trivial) hn hz tabOk rfl rfl rfl rfl rfl rfl))) | (apply q_L 9 rfl rfl (by kernel_rfl) (by decide +kernel) (by decide +kernel) rfl rfl rfl; (first | exact q_5 | exact q_6 | exact q_7 | exact q_15 | exact q_16 | exact q_19 | (first | exact Y_nilCheck rfl rfl rfl | exact R_lk1 pfxKey pfxA_val zeroRts trivial (fun _ _ => trivial) hn hz tabOk rfl rfl rfl rfl rfl rfl))) | (apply q_L 10 rfl rfl (by kernel_rfl) (by decide +kernel) (by decide +kernel) rfl rfl rfl; (first | exact q_5 | exact q_6 | exact q_7 | exact q_15 | exact q_16 | exact q_19 | (first | exact Y_nilCheck rfl rfl rfl | exact R_lk1 pfxKey pfxA_val zeroRts trivial (fun _ _ => trivial) hn hz tabOk rfl rfl rfl rfl rfl rfl))) | (apply q_L 11 rfl rfl (by kernel_rfl) (by decide +kernel) (by decide +kernel) rfl rfl rfl; (first | exact q_5 | exact q_6 | exact q_7 | exact q_15 | exact q_16 | exact q_19 | (first | exact Y_nilCheck rfl rfl rfl | exact R_lk1 pfxKey pfxA_val zeroRts trivial (fun _ _ => trivial) hn hz tabOk rfl rfl rfl rfl rfl rfl))) | (apply q_L 12 rfl rfl (by kernel_rfl) (by decide +kernel) (by decide +kernel) rfl rfl rfl; (first | exact q_5 | exact q_6 | exact q_7 | exact q_15 | exact q_16 | exact q_19 | (first | exact Y_nilCheck rfl rfl rfl | exact R_lk1 pfxKey pfxA_val zeroRts trivial (fun _ _ => trivial) hn hz tabOk rfl rfl rfl rfl rfl rfl))) | refine N_one (j := 0) (by decide +kernel) ?_ | refine N_one (j := 1) (by decide +kernel) ?_ | refine N_one (j := 2) (by decide +kernel) ?_ | refine N_one (j := 3) (by decide +kernel) ?_ | refine N_one (j := 4) (by decide +kernel) ?_ | refine N_one (j := 5) (by decide +kernel) ?_ | refine N_one (j := 6) (by decide +kernel) ?_ | refine N_one (j := 7) (by decide +kernel) ?_ | refine N_one (j := 8) (by decide +kernel) ?_ | refine N_one (j := 9) (by decide +kernel) ?_ | refine N_one (j := 10) (by decide +kernel) ?_ | refine N_one (j := 11) (by decide +kernel) ?_ | refine N_one (j := 12) (by decide +kernel) ?_ | refine T_alloc tabOk rfl rfl rfl rfl rfl rfl rfl ?_ | refine T_store tabOk rfl rfl rfl rfl rfl rfl rfl rfl rfl rfl rfl rfl rfl ?_ | refine T_box rfl rfl rfl rfl rfl rfl rfl rfl ?_ | (apply T_yield rfl rfl rfl rfl; (first | exact q_1 | exact q_2 | exact q_3 | exact q_4 | exact q_5 | exact q_6 | exact q_7 | exact q_8 | exact q_9 | exact q_10 | exact q_11 | exact q_12 | exact q_13 | exact q_14 | exact q_15 | exact q_16 | exact q_17 | exact q_18 | exact q_19 | exact q_20 | exact q_21 | exact q_22 | exact q_23 | exact q_24 | (first | exact Y_nilCheck rfl rfl rfl | exact R_lk1 pfxKey pfxA_val zeroRts trivial (fun _ _ => trivial) hn hz tabOk rfl rfl rfl rfl rfl rfl))) | refine N_done (by decide +kernel) ?_ | fail)
      repeat (first | refine A_seq ?_ | refine A_block ?_ | refine R_list ?_ | refine R_quiet rfl mixed (by kernel_rfl) ?_ | ((first | apply O_y rfl rfl rfl | apply Q_y rfl rfl rfl); (first | exact q_1 | exact q_2 | exact q_3 | exact q_4 | exact q_5 | exact q_6 | exact q_7 | exact q_8 | exact q_9 | exact q_10 | exact q_11 | exact q_12 | exact q_13 | exact q_14 | exact q_15 | exact q_16 | exact q_17 | exact q_18 | exact q_19 | exact q_20 | exact q_21 | exact q_22 | exact q_23 | exact q_24 | fail)) | refine O_nil ?_ | refine Q_nil ?_ | refine q_j ?_ | refine q_k ?_ | refine q_d ?_ | refine q_a ?_ | refine q_b ?_ | refine q_c ?_ | refine A_ct rfl ?_ | refine A_cf rfl ?_ | refine A_skip ?_ | refine A_exit ?_ | refine A_ret ?_ | refine q_l ?_ | refine q_m ?_ | refine q_n ?_ | refine q_h ?_ | refine q_o ?_ | refine q_e ?_ | refine q_f ?_ | refine q_g ?_ | fail)
      refine X_retW AWk.refl rfl (h2 := [(1000, tblB 1001 u), (1001, rmapB l)]) ⟨rfl, rfl, trivial⟩ ⟨?_, rfl⟩
      rw [hlast]
      simp only [hz, Option.getD_some]
      rfl
set_option maxHeartbeats 2000000 in
theorem tblAt_A (u : Nat → Int) (m : List (Pfx × List Rte)) (p : Pfx) (hn : (m.map (·.1)).Nodup) :
    ACall Tryz.prog 30 [.ptr 1000 0, pfxA p] [(1000, tblB 1001 u), (1001, rmapB m)] (fun c h => c = .tup [(match aget m p with | some v => rtesA v | none => .d (.sc (.slice none 0 0))), boolA (aget m p).isSome] ∧ h = [(1000, tblB 1001 u), (1001, rmapB m)]) := by
  refine ACall_of tabOk Tryz.func30 rfl Tryz.ntmps30 (congrArg Array.toList Tryz.results30) (by kernel_rfl) rfl ?_
  cases hag : aget m p with
  | none =>
    repeat (first | refine A_seq ?_ | refine A_block ?_ | refine R_list ?_ | refine R_quiet rfl mixed (by kernel_rfl) ?_ | ((first | apply O_y rfl rfl rfl | apply Q_y rfl rfl rfl); (first | exact q_1 | exact q_2 | exact q_3 | exact q_4 | exact q_5 | exact q_6 | exact q_7 | exact q_8 | exact q_9 | exact q_10 | exact q_11 | exact q_12 | exact q_13 | exact q_14 | exact q_15 | exact q_16 | exact q_17 | exact q_18 | exact q_19 | exact q_20 | exact q_21 | exact q_22 | exact q_23 | exact q_24 | (first | exact R_pnil tabOk rfl rfl rfl rfl rfl | exact Y_nilCheck rfl rfl rfl | exact R_lkOut (k := p) pfxKey pfxA_val zeroRts rfl trivial (fun _ _ => trivial) hn hag tabOk rfl rfl rfl (kill_map 3 m) rfl rfl))) | refine O_nil ?_ | refine Q_nil ?_ | refine q_j ?_ | refine q_k ?_ | refine q_d ?_ | refine q_a ?_ | refine q_b ?_ | refine q_c ?_ | refine A_ct rfl ?_ | refine A_cf rfl ?_ | refine A_skip ?_ | refine A_exit ?_ | refine A_ret ?_ | refine q_l ?_ | refine q_m ?_ | refine q_n ?_ | refine q_h ?_ | refine q_o ?_ | refine q_e ?_ | refine q_f ?_ | refine q_g ?_ | fail)
    exact X_retW AWk.refl rfl (h2 := [(1000, tblB 1001 u), (1001, rmapB m)]) ⟨rfl, kill_map 3 m, trivial⟩ ⟨rfl, rfl⟩
  | some x =>
    repeat (first | refine A_seq ?_ | refine A_block ?_ | refine R_list ?_ | refine R_quiet rfl mixed (by kernel_rfl) ?_ | ((first | apply O_y rfl rfl rfl | apply Q_y rfl rfl rfl); (first | exact q_1 | exact q_2 | exact q_3 | exact q_4 | exact q_5 | exact q_6 | exact q_7 | exact q_8 | exact q_9 | exact q_10 | exact q_11 | exact q_12 | exact q_13 | exact q_14 | exact q_15 | exact q_16 | exact q_17 | exact q_18 | exact q_19 | exact q_20 | exact q_21 | exact q_22 | exact q_23 | exact q_24 | (first | exact R_pnil tabOk rfl rfl rfl rfl rfl | exact Y_nilCheck rfl rfl rfl | exact R_lkIn (k := p) pfxKey pfxA_val zeroRts trivial (fun _ _ => trivial) hn hag tabOk rfl rfl rfl (kill_map 3 m) rfl rfl))) | refine O_nil ?_ | refine Q_nil ?_ | refine q_j ?_ | refine q_k ?_ | refine q_d ?_ | refine q_a ?_ | refine q_b ?_ | refine q_c ?_ | refine A_ct rfl ?_ | refine A_cf rfl ?_ | refine A_skip ?_ | refine A_exit ?_ | refine A_ret ?_ | refine q_l ?_ | refine q_m ?_ | refine q_n ?_ | refine q_h ?_ | refine q_o ?_ | refine q_e ?_ | refine q_f ?_ | refine q_g ?_ | fail)
    exact X_retW AWk.refl rfl (h2 := [(1000, tblB 1001 u), (1001, rmapB m)]) ⟨rfl, kill_map 3 m, trivial⟩ ⟨rfl, rfl⟩
end Go.Proofs.YtnnclkeoakjjkaaGreat.Ab

namespace Go.Proofs.YtnnclkeoakjjkaaGreat.Ab
set_option linter.unusedVariables false
set_option maxRecDepth 100000
open Go.RowKit Go.Lib
set_option linter.unusedSimpArgs false
attribute [local irreducible] AWp AOps AQ AYield AEff ACall AWk AAny AAt AThen AIn APost NoPanic
theorem nan_int (x : Int) : ACall Tryz.prog 88 [.d (.sc (.int .i64 x))] [] (Just (boolA false)) := by
  refine ACall_of tabOk Tryz.func88 rfl Tryz.ntmps88 (congrArg Array.toList Tryz.results88) (by kernel_rfl) rfl ?_
  repeat (first | refine A_seq ?_ | refine A_block ?_ | refine R_list ?_ | refine R_quiet rfl mixed (by kernel_rfl) ?_ | ((first | apply O_y rfl rfl rfl | apply Q_y rfl rfl rfl); (first | exact q_1 | exact q_2 | exact q_3 | exact q_4 | exact q_5 | exact q_6 | exact q_7 | exact q_8 | exact q_9 | exact q_10 | exact q_11 | exact q_12 | exact q_13 | exact q_14 | exact q_15 | exact q_16 | exact q_17 | exact q_18 | exact q_19 | exact q_20 | exact q_21 | exact q_22 | exact q_23 | exact q_24 | fail)) | refine O_nil ?_ | refine Q_nil ?_ | refine q_j ?_ | refine q_k ?_ | refine q_d ?_ | refine q_a ?_ | refine q_b ?_ | refine q_c ?_ | refine A_ct rfl ?_ | refine A_cf rfl ?_ | refine A_skip ?_ | refine A_exit ?_ | refine A_ret ?_ | refine q_l ?_ | refine q_m ?_ | refine q_n ?_ | refine q_h ?_ | refine q_o ?_ | refine q_e ?_ | refine q_f ?_ | refine q_g ?_ | fail)
  exact X_ret rfl ⟨rfl, rfl⟩
theorem compare_int (x y : Int) : ACall Tryz.prog 60 [.d (.sc (.int .i64 x)), .d (.sc (.int .i64 y))] [] (Just (intA (c2 x y))) := by
  have hx := nan_int x
  have hy := nan_int y
  refine ACall_of tabOk Tryz.func60 rfl Tryz.ntmps60 (congrArg Array.toList Tryz.results60) (by kernel_rfl) rfl ?_
  unfold c2
  by_cases h1 : x < y
  · rw [if_pos h1]
    repeat (first | refine A_seq ?_ | refine A_block ?_ | refine R_list ?_ | refine R_quiet rfl mixed (by kernel_rfl) ?_ | ((first | apply O_y rfl rfl rfl | apply Q_y rfl rfl rfl); (first | exact q_1 | exact q_2 | exact q_3 | exact q_4 | exact q_5 | exact q_6 | exact q_7 | exact q_8 | exact q_9 | exact q_10 | exact q_11 | exact q_12 | exact q_13 | exact q_14 | exact q_15 | exact q_16 | exact q_17 | exact q_18 | exact q_19 | exact q_20 | exact q_21 | exact q_22 | exact q_23 | exact q_24 | fail)) | refine O_nil ?_ | refine Q_nil ?_ | refine q_j ?_ | refine q_k ?_ | refine q_d ?_ | refine q_a ?_ | refine q_b ?_ | refine q_c ?_ | refine A_ct rfl ?_ | refine A_cf rfl ?_ | refine A_skip ?_ | refine A_exit ?_ | refine A_ret ?_ | refine q_l ?_ | refine q_m ?_ | refine q_n ?_ | refine q_h ?_ | refine q_o ?_ | refine q_e ?_ | refine q_f ?_ | refine q_g ?_ | (first | refine O_c rfl rfl rfl rfl rfl hx (fun _ => rfl) ?_ | refine O_c rfl rfl rfl rfl rfl hy (fun _ => rfl) ?_ | refine Q_c rfl rfl rfl rfl rfl hx rfl (fun _ _ _ => val_mk _ _ _ _ _ rfl rfl) ?_ | refine Q_c rfl rfl rfl rfl rfl hy rfl (fun _ _ _ => val_mk _ _ _ _ _ rfl rfl) ?_))
    exact X_ret rfl ⟨rfl, rfl⟩
  · rw [if_neg h1]
    by_cases h2 : y < x
    · rw [if_pos h2]
      repeat (first | refine A_seq ?_ | refine A_block ?_ | refine R_list ?_ | refine R_quiet rfl mixed (by kernel_rfl) ?_ | ((first | apply O_y rfl rfl rfl | apply Q_y rfl rfl rfl); (first | exact q_1 | exact q_2 | exact q_3 | exact q_4 | exact q_5 | exact q_6 | exact q_7 | exact q_8 | exact q_9 | exact q_10 | exact q_11 | exact q_12 | exact q_13 | exact q_14 | exact q_15 | exact q_16 | exact q_17 | exact q_18 | exact q_19 | exact q_20 | exact q_21 | exact q_22 | exact q_23 | exact q_24 | fail)) | refine O_nil ?_ | refine Q_nil ?_ | refine q_j ?_ | refine q_k ?_ | refine q_d ?_ | refine q_a ?_ | refine q_b ?_ | refine q_c ?_ | refine A_ct rfl ?_ | refine A_cf rfl ?_ | refine A_skip ?_ | refine A_exit ?_ | refine A_ret ?_ | refine q_l ?_ | refine q_m ?_ | refine q_n ?_ | refine q_h ?_ | refine q_o ?_ | refine q_e ?_ | refine q_f ?_ | refine q_g ?_ | (first | refine O_c rfl rfl rfl rfl rfl hx (fun _ => rfl) ?_ | refine O_c rfl rfl rfl rfl rfl hy (fun _ => rfl) ?_ | refine Q_c rfl rfl rfl rfl rfl hx rfl (fun _ _ _ => val_mk _ _ _ _ _ rfl rfl) ?_ | refine Q_c rfl rfl rfl rfl rfl hy rfl (fun _ _ _ => val_mk _ _ _ _ _ rfl rfl) ?_))
      exact X_ret rfl ⟨rfl, rfl⟩
    · rw [if_neg h2]
      repeat (first | refine A_seq ?_ | refine A_block ?_ | refine R_list ?_ | refine R_quiet rfl mixed (by kernel_rfl) ?_ | ((first | apply O_y rfl rfl rfl | apply Q_y rfl rfl rfl); (first | exact q_1 | exact q_2 | exact q_3 | exact q_4 | exact q_5 | exact q_6 | exact q_7 | exact q_8 | exact q_9 | exact q_10 | exact q_11 | exact q_12 | exact q_13 | exact q_14 | exact q_15 | exact q_16 | exact q_17 | exact q_18 | exact q_19 | exact q_20 | exact q_21 | exact q_22 | exact q_23 | exact q_24 | fail)) | refine O_nil ?_ | refine Q_nil ?_ | refine q_j ?_ | refine q_k ?_ | refine q_d ?_ | refine q_a ?_ | refine q_b ?_ | refine q_c ?_ | refine A_ct rfl ?_ | refine A_cf rfl ?_ | refine A_skip ?_ | refine A_exit ?_ | refine A_ret ?_ | refine q_l ?_ | refine q_m ?_ | refine q_n ?_ | refine q_h ?_ | refine q_o ?_ | refine q_e ?_ | refine q_f ?_ | refine q_g ?_ | (first | refine O_c rfl rfl rfl rfl rfl hx (fun _ => rfl) ?_ | refine O_c rfl rfl rfl rfl rfl hy (fun _ => rfl) ?_ | refine Q_c rfl rfl rfl rfl rfl hx rfl (fun _ _ _ => val_mk _ _ _ _ _ rfl rfl) ?_ | refine Q_c rfl rfl rfl rfl rfl hy rfl (fun _ _ _ => val_mk _ _ _ _ _ rfl rfl) ?_))
      exact X_ret rfl ⟨rfl, rfl⟩
theorem nan_u8 (x : Int) : ACall Tryz.prog 97 [.d (.sc (.int .u8 x))] [] (Just (boolA false)) := by
  refine ACall_of tabOk Tryz.func97 rfl Tryz.ntmps97 (congrArg Array.toList Tryz.results97) (by kernel_rfl) rfl ?_
  repeat (first | refine A_seq ?_ | refine A_block ?_ | refine R_list ?_ | refine R_quiet rfl mixed (by kernel_rfl) ?_ | ((first | apply O_y rfl rfl rfl | apply Q_y rfl rfl rfl); (first | exact q_1 | exact q_2 | exact q_3 | exact q_4 | exact q_5 | exact q_6 | exact q_7 | exact q_8 | exact q_9 | exact q_10 | exact q_11 | exact q_12 | exact q_13 | exact q_14 | exact q_15 | exact q_16 | exact q_17 | exact q_18 | exact q_19 | exact q_20 | exact q_21 | exact q_22 | exact q_23 | exact q_24 | fail)) | refine O_nil ?_ | refine Q_nil ?_ | refine q_j ?_ | refine q_k ?_ | refine q_d ?_ | refine q_a ?_ | refine q_b ?_ | refine q_c ?_ | refine A_ct rfl ?_ | refine A_cf rfl ?_ | refine A_skip ?_ | refine A_exit ?_ | refine A_ret ?_ | refine q_l ?_ | refine q_m ?_ | refine q_n ?_ | refine q_h ?_ | refine q_o ?_ | refine q_e ?_ | refine q_f ?_ | refine q_g ?_ | fail)
  exact X_ret rfl ⟨rfl, rfl⟩
theorem compare_u8 (x y : Int) : ACall Tryz.prog 66 [.d (.sc (.int .u8 x)), .d (.sc (.int .u8 y))] [] (Just (intA (c2 x y))) := by
  have hx := nan_u8 x
  have hy := nan_u8 y
  refine ACall_of tabOk Tryz.func66 rfl Tryz.ntmps66 (congrArg Array.toList Tryz.results66) (by kernel_rfl) rfl ?_
  unfold c2
  by_cases h1 : x < y
  · rw [if_pos h1]
    repeat (first | refine A_seq ?_ | refine A_block ?_ | refine R_list ?_ | refine R_quiet rfl mixed (by kernel_rfl) ?_ | ((first | apply O_y rfl rfl rfl | apply Q_y rfl rfl rfl); (first | exact q_1 | exact q_2 | exact q_3 | exact q_4 | exact q_5 | exact q_6 | exact q_7 | exact q_8 | exact q_9 | exact q_10 | exact q_11 | exact q_12 | exact q_13 | exact q_14 | exact q_15 | exact q_16 | exact q_17 | exact q_18 | exact q_19 | exact q_20 | exact q_21 | exact q_22 | exact q_23 | exact q_24 | fail)) | refine O_nil ?_ | refine Q_nil ?_ | refine q_j ?_ | refine q_k ?_ | refine q_d ?_ | refine q_a ?_ | refine q_b ?_ | refine q_c ?_ | refine A_ct rfl ?_ | refine A_cf rfl ?_ | refine A_skip ?_ | refine A_exit ?_ | refine A_ret ?_ | refine q_l ?_ | refine q_m ?_ | refine q_n ?_ | refine q_h ?_ | refine q_o ?_ | refine q_e ?_ | refine q_f ?_ | refine q_g ?_ | (first | refine O_c rfl rfl rfl rfl rfl hx (fun _ => rfl) ?_ | refine O_c rfl rfl rfl rfl rfl hy (fun _ => rfl) ?_ | refine Q_c rfl rfl rfl rfl rfl hx rfl (fun _ _ _ => val_mk _ _ _ _ _ rfl rfl) ?_ | refine Q_c rfl rfl rfl rfl rfl hy rfl (fun _ _ _ => val_mk _ _ _ _ _ rfl rfl) ?_))
    exact X_ret rfl ⟨rfl, rfl⟩
  · rw [if_neg h1]
    by_cases h2 : y < x
    · rw [if_pos h2]
      repeat (first | refine A_seq ?_ | refine A_block ?_ | refine R_list ?_ | refine R_quiet rfl mixed (by kernel_rfl) ?_ | ((first | apply O_y rfl rfl rfl | apply Q_y rfl rfl rfl); (first | exact q_1 | exact q_2 | exact q_3 | exact q_4 | exact q_5 | exact q_6 | exact q_7 | exact q_8 | exact q_9 | exact q_10 | exact q_11 | exact q_12 | exact q_13 | exact q_14 | exact q_15 | exact q_16 | exact q_17 | exact q_18 | exact q_19 | exact q_20 | exact q_21 | exact q_22 | exact q_23 | exact q_24 | fail)) | refine O_nil ?_ | refine Q_nil ?_ | refine q_j ?_ | refine q_k ?_ | refine q_d ?_ | refine q_a ?_ | refine q_b ?_ | refine q_c ?_ | refine A_ct rfl ?_ | refine A_cf rfl ?_ | refine A_skip ?_ | refine A_exit ?_ | refine A_ret ?_ | refine q_l ?_ | refine q_m ?_ | refine q_n ?_ | refine q_h ?_ | refine q_o ?_ | refine q_e ?_ | refine q_f ?_ | refine q_g ?_ | (first | refine O_c rfl rfl rfl rfl rfl hx (fun _ => rfl) ?_ | refine O_c rfl rfl rfl rfl rfl hy (fun _ => rfl) ?_ | refine Q_c rfl rfl rfl rfl rfl hx rfl (fun _ _ _ => val_mk _ _ _ _ _ rfl rfl) ?_ | refine Q_c rfl rfl rfl rfl rfl hy rfl (fun _ _ _ => val_mk _ _ _ _ _ rfl rfl) ?_))
      exact X_ret rfl ⟨rfl, rfl⟩
    · rw [if_neg h2]
      repeat (first | refine A_seq ?_ | refine A_block ?_ | refine R_list ?_ | refine R_quiet rfl mixed (by kernel_rfl) ?_ | ((first | apply O_y rfl rfl rfl | apply Q_y rfl rfl rfl); (first | exact q_1 | exact q_2 | exact q_3 | exact q_4 | exact q_5 | exact q_6 | exact q_7 | exact q_8 | exact q_9 | exact q_10 | exact q_11 | exact q_12 | exact q_13 | exact q_14 | exact q_15 | exact q_16 | exact q_17 | exact q_18 | exact q_19 | exact q_20 | exact q_21 | exact q_22 | exact q_23 | exact q_24 | fail)) | refine O_nil ?_ | refine Q_nil ?_ | refine q_j ?_ | refine q_k ?_ | refine q_d ?_ | refine q_a ?_ | refine q_b ?_ | refine q_c ?_ | refine A_ct rfl ?_ | refine A_cf rfl ?_ | refine A_skip ?_ | refine A_exit ?_ | refine A_ret ?_ | refine q_l ?_ | refine q_m ?_ | refine q_n ?_ | refine q_h ?_ | refine q_o ?_ | refine q_e ?_ | refine q_f ?_ | refine q_g ?_ | (first | refine O_c rfl rfl rfl rfl rfl hx (fun _ => rfl) ?_ | refine O_c rfl rfl rfl rfl rfl hy (fun _ => rfl) ?_ | refine Q_c rfl rfl rfl rfl rfl hx rfl (fun _ _ _ => val_mk _ _ _ _ _ rfl rfl) ?_ | refine Q_c rfl rfl rfl rfl rfl hy rfl (fun _ _ _ => val_mk _ _ _ _ _ rfl rfl) ?_))
      exact X_ret rfl ⟨rfl, rfl⟩
theorem nan_addr (x : Int) : ACall Tryz.prog 56 [.d (.sc (.int .u32 x))] [] (Just (boolA false)) := by
  refine ACall_of tabOk Tryz.func56 rfl Tryz.ntmps56 (congrArg Array.toList Tryz.results56) (by kernel_rfl) rfl ?_
  repeat (first | refine A_seq ?_ | refine A_block ?_ | refine R_list ?_ | refine R_quiet rfl mixed (by kernel_rfl) ?_ | ((first | apply O_y rfl rfl rfl | apply Q_y rfl rfl rfl); (first | exact q_1 | exact q_2 | exact q_3 | exact q_4 | exact q_5 | exact q_6 | exact q_7 | exact q_8 | exact q_9 | exact q_10 | exact q_11 | exact q_12 | exact q_13 | exact q_14 | exact q_15 | exact q_16 | exact q_17 | exact q_18 | exact q_19 | exact q_20 | exact q_21 | exact q_22 | exact q_23 | exact q_24 | fail)) | refine O_nil ?_ | refine Q_nil ?_ | refine q_j ?_ | refine q_k ?_ | refine q_d ?_ | refine q_a ?_ | refine q_b ?_ | refine q_c ?_ | refine A_ct rfl ?_ | refine A_cf rfl ?_ | refine A_skip ?_ | refine A_exit ?_ | refine A_ret ?_ | refine q_l ?_ | refine q_m ?_ | refine q_n ?_ | refine q_h ?_ | refine q_o ?_ | refine q_e ?_ | refine q_f ?_ | refine q_g ?_ | fail)
  exact X_ret rfl ⟨rfl, rfl⟩
theorem compare_addr (x y : Int) : ACall Tryz.prog 39 [.d (.sc (.int .u32 x)), .d (.sc (.int .u32 y))] [] (Just (intA (c2 x y))) := by
  have hx := nan_addr x
  have hy := nan_addr y
  refine ACall_of tabOk Tryz.func39 rfl Tryz.ntmps39 (congrArg Array.toList Tryz.results39) (by kernel_rfl) rfl ?_
  unfold c2
  by_cases h1 : x < y
  · rw [if_pos h1]
    repeat (first | refine A_seq ?_ | refine A_block ?_ | refine R_list ?_ | refine R_quiet rfl mixed (by kernel_rfl) ?_ | ((first | apply O_y rfl rfl rfl | apply Q_y rfl rfl rfl); (first | exact q_1 | exact q_2 | exact q_3 | exact q_4 | exact q_5 | exact q_6 | exact q_7 | exact q_8 | exact q_9 | exact q_10 | exact q_11 | exact q_12 | exact q_13 | exact q_14 | exact q_15 | exact q_16 | exact q_17 | exact q_18 | exact q_19 | exact q_20 | exact q_21 | exact q_22 | exact q_23 | exact q_24 | fail)) | refine O_nil ?_ | refine Q_nil ?_ | refine q_j ?_ | refine q_k ?_ | refine q_d ?_ | refine q_a ?_ | refine q_b ?_ | refine q_c ?_ | refine A_ct rfl ?_ | refine A_cf rfl ?_ | refine A_skip ?_ | refine A_exit ?_ | refine A_ret ?_ | refine q_l ?_ | refine q_m ?_ | refine q_n ?_ | refine q_h ?_ | refine q_o ?_ | refine q_e ?_ | refine q_f ?_ | refine q_g ?_ | (first | refine O_c rfl rfl rfl rfl rfl hx (fun _ => rfl) ?_ | refine O_c rfl rfl rfl rfl rfl hy (fun _ => rfl) ?_ | refine Q_c rfl rfl rfl rfl rfl hx rfl (fun _ _ _ => val_mk _ _ _ _ _ rfl rfl) ?_ | refine Q_c rfl rfl rfl rfl rfl hy rfl (fun _ _ _ => val_mk _ _ _ _ _ rfl rfl) ?_))
    exact X_ret rfl ⟨rfl, rfl⟩
  · rw [if_neg h1]
    by_cases h2 : y < x
    · rw [if_pos h2]
      repeat (first | refine A_seq ?_ | refine A_block ?_ | refine R_list ?_ | refine R_quiet rfl mixed (by kernel_rfl) ?_ | ((first | apply O_y rfl rfl rfl | apply Q_y rfl rfl rfl); (first | exact q_1 | exact q_2 | exact q_3 | exact q_4 | exact q_5 | exact q_6 | exact q_7 | exact q_8 | exact q_9 | exact q_10 | exact q_11 | exact q_12 | exact q_13 | exact q_14 | exact q_15 | exact q_16 | exact q_17 | exact q_18 | exact q_19 | exact q_20 | exact q_21 | exact q_22 | exact q_23 | exact q_24 | fail)) | refine O_nil ?_ | refine Q_nil ?_ | refine q_j ?_ | refine q_k ?_ | refine q_d ?_ | refine q_a ?_ | refine q_b ?_ | refine q_c ?_ | refine A_ct rfl ?_ | refine A_cf rfl ?_ | refine A_skip ?_ | refine A_exit ?_ | refine A_ret ?_ | refine q_l ?_ | refine q_m ?_ | refine q_n ?_ | refine q_h ?_ | refine q_o ?_ | refine q_e ?_ | refine q_f ?_ | refine q_g ?_ | (first | refine O_c rfl rfl rfl rfl rfl hx (fun _ => rfl) ?_ | refine O_c rfl rfl rfl rfl rfl hy (fun _ => rfl) ?_ | refine Q_c rfl rfl rfl rfl rfl hx rfl (fun _ _ _ => val_mk _ _ _ _ _ rfl rfl) ?_ | refine Q_c rfl rfl rfl rfl rfl hy rfl (fun _ _ _ => val_mk _ _ _ _ _ rfl rfl) ?_))
      exact X_ret rfl ⟨rfl, rfl⟩
    · rw [if_neg h2]
      repeat (first | refine A_seq ?_ | refine A_block ?_ | refine R_list ?_ | refine R_quiet rfl mixed (by kernel_rfl) ?_ | ((first | apply O_y rfl rfl rfl | apply Q_y rfl rfl rfl); (first | exact q_1 | exact q_2 | exact q_3 | exact q_4 | exact q_5 | exact q_6 | exact q_7 | exact q_8 | exact q_9 | exact q_10 | exact q_11 | exact q_12 | exact q_13 | exact q_14 | exact q_15 | exact q_16 | exact q_17 | exact q_18 | exact q_19 | exact q_20 | exact q_21 | exact q_22 | exact q_23 | exact q_24 | fail)) | refine O_nil ?_ | refine Q_nil ?_ | refine q_j ?_ | refine q_k ?_ | refine q_d ?_ | refine q_a ?_ | refine q_b ?_ | refine q_c ?_ | refine A_ct rfl ?_ | refine A_cf rfl ?_ | refine A_skip ?_ | refine A_exit ?_ | refine A_ret ?_ | refine q_l ?_ | refine q_m ?_ | refine q_n ?_ | refine q_h ?_ | refine q_o ?_ | refine q_e ?_ | refine q_f ?_ | refine q_g ?_ | (first | refine O_c rfl rfl rfl rfl rfl hx (fun _ => rfl) ?_ | refine O_c rfl rfl rfl rfl rfl hy (fun _ => rfl) ?_ | refine Q_c rfl rfl rfl rfl rfl hx rfl (fun _ _ _ => val_mk _ _ _ _ _ rfl rfl) ?_ | refine Q_c rfl rfl rfl rfl rfl hy rfl (fun _ _ _ => val_mk _ _ _ _ _ rfl rfl) ?_))
      exact X_ret rfl ⟨rfl, rfl⟩
theorem nan_str (x : List UInt8) : ACall Tryz.prog 98 [strA x] [] (Just (boolA false)) := by
  refine ACall_of tabOk Tryz.func98 rfl Tryz.ntmps98 (congrArg Array.toList Tryz.results98) (by kernel_rfl) rfl ?_
  repeat (first | refine A_seq ?_ | refine A_block ?_ | refine R_list ?_ | refine R_quiet rfl mixed (by kernel_rfl) ?_ | ((first | apply O_y rfl rfl rfl | apply Q_y rfl rfl rfl); (first | exact q_1 | exact q_2 | exact q_3 | exact q_4 | exact q_5 | exact q_6 | exact q_7 | exact q_8 | exact q_9 | exact q_10 | exact q_11 | exact q_12 | exact q_13 | exact q_14 | exact q_15 | exact q_16 | exact q_17 | exact q_18 | exact q_19 | exact q_20 | exact q_21 | exact q_22 | exact q_23 | exact q_24 | (first | exact R_sF rfl rfl rfl rfl (by first | (simp only [decide_eq_false_iff_not, Bool.not_eq_false', decide_eq_true_eq]; done) | (simp only [decide_eq_false_iff_not, Bool.not_eq_false', decide_eq_true_eq]; omega)) | exact R_sT rfl rfl rfl rfl (by first | (simp only [decide_eq_true_eq, Bool.not_eq_true', decide_eq_false_iff_not]; done) | (simp only [decide_eq_true_eq, Bool.not_eq_true', decide_eq_false_iff_not]; omega))))) | refine O_nil ?_ | refine Q_nil ?_ | refine q_j ?_ | refine q_k ?_ | refine q_d ?_ | refine q_a ?_ | refine q_b ?_ | refine q_c ?_ | refine A_ct rfl ?_ | refine A_cf rfl ?_ | refine A_skip ?_ | refine A_exit ?_ | refine A_ret ?_ | refine q_l ?_ | refine q_m ?_ | refine q_n ?_ | refine q_h ?_ | refine q_o ?_ | refine q_e ?_ | refine q_f ?_ | refine q_g ?_ | fail)
  exact X_ret rfl ⟨rfl, rfl⟩
theorem bytes_c2 (x y : List UInt8) : compareBytes x y = -1 ∨ compareBytes x y = 0 ∨ compareBytes x y = 1 := by
  induction x generalizing y with
  | nil => cases y <;> simp [compareBytes]
  | cons a x ih =>
    cases y with
    | nil => simp [compareBytes]
    | cons b y =>
      simp only [compareBytes]
      split
      · exact .inl rfl
      · split
        · exact .inr (.inr rfl)
        · exact ih y
theorem compare_str (x y : List UInt8) : ACall Tryz.prog 67 [strA x, strA y] [] (Just (intA (compareBytes x y))) := by
  have hx := nan_str x
  have hy := nan_str y
  refine ACall_of tabOk Tryz.func67 rfl Tryz.ntmps67 (congrArg Array.toList Tryz.results67) (by kernel_rfl) rfl ?_
  rcases bytes_c2 x y with h | h | h
  ·
    repeat (first | refine A_seq ?_ | refine A_block ?_ | refine R_list ?_ | refine R_quiet rfl mixed (by kernel_rfl) ?_ | ((first | apply O_y rfl rfl rfl | apply Q_y rfl rfl rfl); (first | exact q_1 | exact q_2 | exact q_3 | exact q_4 | exact q_5 | exact q_6 | exact q_7 | exact q_8 | exact q_9 | exact q_10 | exact q_11 | exact q_12 | exact q_13 | exact q_14 | exact q_15 | exact q_16 | exact q_17 | exact q_18 | exact q_19 | exact q_20 | exact q_21 | exact q_22 | exact q_23 | exact q_24 | (first | exact R_sF rfl rfl rfl rfl (by first | (simp only [decide_eq_false_iff_not, Bool.not_eq_false', decide_eq_true_eq]; done) | (simp only [decide_eq_false_iff_not, Bool.not_eq_false', decide_eq_true_eq]; omega)) | exact R_sT rfl rfl rfl rfl (by first | (simp only [decide_eq_true_eq, Bool.not_eq_true', decide_eq_false_iff_not]; done) | (simp only [decide_eq_true_eq, Bool.not_eq_true', decide_eq_false_iff_not]; omega))))) | refine O_nil ?_ | refine Q_nil ?_ | refine q_j ?_ | refine q_k ?_ | refine q_d ?_ | refine q_a ?_ | refine q_b ?_ | refine q_c ?_ | refine A_ct rfl ?_ | refine A_cf rfl ?_ | refine A_skip ?_ | refine A_exit ?_ | refine A_ret ?_ | refine q_l ?_ | refine q_m ?_ | refine q_n ?_ | refine q_h ?_ | refine q_o ?_ | refine q_e ?_ | refine q_f ?_ | refine q_g ?_ | (first | refine O_c rfl rfl rfl rfl rfl hx (fun _ => rfl) ?_ | refine O_c rfl rfl rfl rfl rfl hy (fun _ => rfl) ?_ | refine Q_c rfl rfl rfl rfl rfl hx rfl (fun _ _ _ => val_mk _ _ _ _ _ rfl rfl) ?_ | refine Q_c rfl rfl rfl rfl rfl hy rfl (fun _ _ _ => val_mk _ _ _ _ _ rfl rfl) ?_))
    exact X_ret rfl ⟨by rw [h]; rfl, rfl⟩
  ·
    repeat (first | refine A_seq ?_ | refine A_block ?_ | refine R_list ?_ | refine R_quiet rfl mixed (by kernel_rfl) ?_ | ((first | apply O_y rfl rfl rfl | apply Q_y rfl rfl rfl); (first | exact q_1 | exact q_2 | exact q_3 | exact q_4 | exact q_5 | exact q_6 | exact q_7 | exact q_8 | exact q_9 | exact q_10 | exact q_11 | exact q_12 | exact q_13 | exact q_14 | exact q_15 | exact q_16 | exact q_17 | exact q_18 | exact q_19 | exact q_20 | exact q_21 | exact q_22 | exact q_23 | exact q_24 | (first | exact R_sF rfl rfl rfl rfl (by first | (simp only [decide_eq_false_iff_not, Bool.not_eq_false', decide_eq_true_eq]; done) | (simp only [decide_eq_false_iff_not, Bool.not_eq_false', decide_eq_true_eq]; omega)) | exact R_sT rfl rfl rfl rfl (by first | (simp only [decide_eq_true_eq, Bool.not_eq_true', decide_eq_false_iff_not]; done) | (simp only [decide_eq_true_eq, Bool.not_eq_true', decide_eq_false_iff_not]; omega))))) | refine O_nil ?_ | refine Q_nil ?_ | refine q_j ?_ | refine q_k ?_ | refine q_d ?_ | refine q_a ?_ | refine q_b ?_ | refine q_c ?_ | refine A_ct rfl ?_ | refine A_cf rfl ?_ | refine A_skip ?_ | refine A_exit ?_ | refine A_ret ?_ | refine q_l ?_ | refine q_m ?_ | refine q_n ?_ | refine q_h ?_ | refine q_o ?_ | refine q_e ?_ | refine q_f ?_ | refine q_g ?_ | (first | refine O_c rfl rfl rfl rfl rfl hx (fun _ => rfl) ?_ | refine O_c rfl rfl rfl rfl rfl hy (fun _ => rfl) ?_ | refine Q_c rfl rfl rfl rfl rfl hx rfl (fun _ _ _ => val_mk _ _ _ _ _ rfl rfl) ?_ | refine Q_c rfl rfl rfl rfl rfl hy rfl (fun _ _ _ => val_mk _ _ _ _ _ rfl rfl) ?_))
    exact X_ret rfl ⟨by rw [h]; rfl, rfl⟩
  ·
    repeat (first | refine A_seq ?_ | refine A_block ?_ | refine R_list ?_ | refine R_quiet rfl mixed (by kernel_rfl) ?_ | ((first | apply O_y rfl rfl rfl | apply Q_y rfl rfl rfl); (first | exact q_1 | exact q_2 | exact q_3 | exact q_4 | exact q_5 | exact q_6 | exact q_7 | exact q_8 | exact q_9 | exact q_10 | exact q_11 | exact q_12 | exact q_13 | exact q_14 | exact q_15 | exact q_16 | exact q_17 | exact q_18 | exact q_19 | exact q_20 | exact q_21 | exact q_22 | exact q_23 | exact q_24 | (first | exact R_sF rfl rfl rfl rfl (by first | (simp only [decide_eq_false_iff_not, Bool.not_eq_false', decide_eq_true_eq]; done) | (simp only [decide_eq_false_iff_not, Bool.not_eq_false', decide_eq_true_eq]; omega)) | exact R_sT rfl rfl rfl rfl (by first | (simp only [decide_eq_true_eq, Bool.not_eq_true', decide_eq_false_iff_not]; done) | (simp only [decide_eq_true_eq, Bool.not_eq_true', decide_eq_false_iff_not]; omega))))) | refine O_nil ?_ | refine Q_nil ?_ | refine q_j ?_ | refine q_k ?_ | refine q_d ?_ | refine q_a ?_ | refine q_b ?_ | refine q_c ?_ | refine A_ct rfl ?_ | refine A_cf rfl ?_ | refine A_skip ?_ | refine A_exit ?_ | refine A_ret ?_ | refine q_l ?_ | refine q_m ?_ | refine q_n ?_ | refine q_h ?_ | refine q_o ?_ | refine q_e ?_ | refine q_f ?_ | refine q_g ?_ | (first | refine O_c rfl rfl rfl rfl rfl hx (fun _ => rfl) ?_ | refine O_c rfl rfl rfl rfl rfl hy (fun _ => rfl) ?_ | refine Q_c rfl rfl rfl rfl rfl hx rfl (fun _ _ _ => val_mk _ _ _ _ _ rfl rfl) ?_ | refine Q_c rfl rfl rfl rfl rfl hy rfl (fun _ _ _ => val_mk _ _ _ _ _ rfl rfl) ?_))
    exact X_ret rfl ⟨by rw [h]; rfl, rfl⟩
theorem cmpBool_A (x y : Bool) : ACall Tryz.prog 68 [boolA x, boolA y] [] (Just (intA (cB x y))) := by
  refine ACall_of tabOk Tryz.func68 rfl Tryz.ntmps68 (congrArg Array.toList Tryz.results68) (by kernel_rfl) rfl ?_
  cases x <;> cases y
  ·
    repeat (first | refine A_seq ?_ | refine A_block ?_ | refine R_list ?_ | refine R_quiet rfl mixed (by kernel_rfl) ?_ | ((first | apply O_y rfl rfl rfl | apply Q_y rfl rfl rfl); (first | exact q_1 | exact q_2 | exact q_3 | exact q_4 | exact q_5 | exact q_6 | exact q_7 | exact q_8 | exact q_9 | exact q_10 | exact q_11 | exact q_12 | exact q_13 | exact q_14 | exact q_15 | exact q_16 | exact q_17 | exact q_18 | exact q_19 | exact q_20 | exact q_21 | exact q_22 | exact q_23 | exact q_24 | exact Y_bbin tabOk rfl rfl rfl rfl rfl)) | refine O_nil ?_ | refine Q_nil ?_ | refine q_j ?_ | refine q_k ?_ | refine q_d ?_ | refine q_a ?_ | refine q_b ?_ | refine q_c ?_ | refine A_ct rfl ?_ | refine A_cf rfl ?_ | refine A_skip ?_ | refine A_exit ?_ | refine A_ret ?_ | refine q_l ?_ | refine q_m ?_ | refine q_n ?_ | refine q_h ?_ | refine q_o ?_ | refine q_e ?_ | refine q_f ?_ | refine q_g ?_ | fail)
    exact X_ret rfl ⟨rfl, rfl⟩
  ·
    repeat (first | refine A_seq ?_ | refine A_block ?_ | refine R_list ?_ | refine R_quiet rfl mixed (by kernel_rfl) ?_ | ((first | apply O_y rfl rfl rfl | apply Q_y rfl rfl rfl); (first | exact q_1 | exact q_2 | exact q_3 | exact q_4 | exact q_5 | exact q_6 | exact q_7 | exact q_8 | exact q_9 | exact q_10 | exact q_11 | exact q_12 | exact q_13 | exact q_14 | exact q_15 | exact q_16 | exact q_17 | exact q_18 | exact q_19 | exact q_20 | exact q_21 | exact q_22 | exact q_23 | exact q_24 | exact Y_bbin tabOk rfl rfl rfl rfl rfl)) | refine O_nil ?_ | refine Q_nil ?_ | refine q_j ?_ | refine q_k ?_ | refine q_d ?_ | refine q_a ?_ | refine q_b ?_ | refine q_c ?_ | refine A_ct rfl ?_ | refine A_cf rfl ?_ | refine A_skip ?_ | refine A_exit ?_ | refine A_ret ?_ | refine q_l ?_ | refine q_m ?_ | refine q_n ?_ | refine q_h ?_ | refine q_o ?_ | refine q_e ?_ | refine q_f ?_ | refine q_g ?_ | fail)
    exact X_ret rfl ⟨rfl, rfl⟩
  ·
    repeat (first | refine A_seq ?_ | refine A_block ?_ | refine R_list ?_ | refine R_quiet rfl mixed (by kernel_rfl) ?_ | ((first | apply O_y rfl rfl rfl | apply Q_y rfl rfl rfl); (first | exact q_1 | exact q_2 | exact q_3 | exact q_4 | exact q_5 | exact q_6 | exact q_7 | exact q_8 | exact q_9 | exact q_10 | exact q_11 | exact q_12 | exact q_13 | exact q_14 | exact q_15 | exact q_16 | exact q_17 | exact q_18 | exact q_19 | exact q_20 | exact q_21 | exact q_22 | exact q_23 | exact q_24 | exact Y_bbin tabOk rfl rfl rfl rfl rfl)) | refine O_nil ?_ | refine Q_nil ?_ | refine q_j ?_ | refine q_k ?_ | refine q_d ?_ | refine q_a ?_ | refine q_b ?_ | refine q_c ?_ | refine A_ct rfl ?_ | refine A_cf rfl ?_ | refine A_skip ?_ | refine A_exit ?_ | refine A_ret ?_ | refine q_l ?_ | refine q_m ?_ | refine q_n ?_ | refine q_h ?_ | refine q_o ?_ | refine q_e ?_ | refine q_f ?_ | refine q_g ?_ | fail)
    exact X_ret rfl ⟨rfl, rfl⟩
  ·
    repeat (first | refine A_seq ?_ | refine A_block ?_ | refine R_list ?_ | refine R_quiet rfl mixed (by kernel_rfl) ?_ | ((first | apply O_y rfl rfl rfl | apply Q_y rfl rfl rfl); (first | exact q_1 | exact q_2 | exact q_3 | exact q_4 | exact q_5 | exact q_6 | exact q_7 | exact q_8 | exact q_9 | exact q_10 | exact q_11 | exact q_12 | exact q_13 | exact q_14 | exact q_15 | exact q_16 | exact q_17 | exact q_18 | exact q_19 | exact q_20 | exact q_21 | exact q_22 | exact q_23 | exact q_24 | exact Y_bbin tabOk rfl rfl rfl rfl rfl)) | refine O_nil ?_ | refine Q_nil ?_ | refine q_j ?_ | refine q_k ?_ | refine q_d ?_ | refine q_a ?_ | refine q_b ?_ | refine q_c ?_ | refine A_ct rfl ?_ | refine A_cf rfl ?_ | refine A_skip ?_ | refine A_exit ?_ | refine A_ret ?_ | refine q_l ?_ | refine q_m ?_ | refine q_n ?_ | refine q_h ?_ | refine q_o ?_ | refine q_e ?_ | refine q_f ?_ | refine q_g ?_ | fail)
    exact X_ret rfl ⟨rfl, rfl⟩
end Go.Proofs.YtnnclkeoakjjkaaGreat.Ab

namespace Go.Proofs.YtnnclkeoakjjkaaGreat.Ab
set_option linter.unusedVariables false
open Go.RowKit

mutual
def fzV (id : Nat) (ds : List Dat) : AVal → AVal
  | .ptr j off => cond (Nat.beq j id) (.iptr ds off) (.ptr j off)
  | .agg cs => .agg (fzL id ds cs)
  | .tup cs => .tup (fzL id ds cs)
  | .fn f cs => .fn f (fzL id ds cs)
  | .top => .top
  | .und => .und
  | .d x => .d x
  | .eptr j off => .eptr j off
  | .iptr cs off => .iptr cs off
  | .row j => .row j
  | .mp j => .mp j
  | .srow j o n => .srow j o n
  | .full cs n => .full cs n
def fzL (id : Nat) (ds : List Dat) : List AVal → List AVal
  | [] => []
  | c :: r => fzV id ds c :: fzL id ds r
end
def fzB (id : Nat) (ds : List Dat) : ABlk → ABlk
  | .var cs => .var (fzL id ds cs)
  | .row e k n cs => .row e k n cs
  | .map es => .map (es.map fun p => (fzV id ds p.1, fzV id ds p.2))
  | .mapx r bs clk es => .mapx r bs clk (es.map fun p => (fzV id ds p.1, fzV id ds p.2))
  | .it o => .it o
def fzE (id : Nat) (ds : List Dat) : Env → Env
  | [] => []
  | (k, c) :: r => (k, fzV id ds c) :: fzE id ds r
def fzH (id : Nat) (ds : List Dat) : Heap → Heap
  | [] => []
  | (k, b) :: r => cond (Nat.beq k id) (fzH id ds r) ((k, fzB id ds b) :: fzH id ds r)
section
variable {nt : Nat} {e : Env} {h : Heap}
theorem Wk_nilB {b id : Nat} (el k : Nat) (hb : look h b = some (.var [.d (.sc (.slice none 0 0))])) (hid : Nat.blt id 1000 = true) (hne : Nat.beq b id = false) :
    AWk nt e h (killE id e) ((b, .var [.row id]) :: (id, .row el k 0 []) :: killH id h) := fun Pm F w0 pin ι a w R => by
  have hid' : id < 1000 := by simp [Nat.blt] at hid; omega
  have hne' := of_beq_no hne
  have TT : Touch w ι id (.slice none 0 0) w := ⟨rfl, rfl, rfl, Nat.le_refl _, fun _ _ _ => rfl, fun r hr => by cases hr⟩
  have H1 := R.heap.touch TT (.inl hid') (b' := .row el k 0 []) ⟨[], World.ownsRow_nil _ _ _ _, rfl, by simp⟩
  obtain ⟨v, hv, r, C, T, rfl, hC, hlC, hrr⟩ := R.heap.blk b _ hb
  have hv1 : upd ι id (some (.slice none 0 0)) b = some (.pointer (some ⟨r, 0, none⟩)) := by simp [upd, hne', hv]
  have hW : Wrote w (.pointer (some ⟨r, 0, none⟩)) w := ⟨rfl, rfl, rfl, Nat.le_refl _, fun _ _ _ => rfl⟩
  have H2 := H1.wrote (b' := .var [.row id]) hW hv1 ⟨r, C, T, rfl, hC, hlC, fun i c u h1 h2 => by
    cases i with
    | zero =>
      simp at h1
      subst h1
      have h3 := hrr 0 _ u rfl h2
      refine .row id u (by rw [(sc_of h3).1]; rfl) fun v' hv' => ?_
      simp [upd] at hv'
      rw [(sc_of h3).1, hv']
    | succ i => simp at h1⟩
  exact ⟨_, H2, R.env.killed TT.ext, R.defers.ext TT.ext, R.size⟩
end
section
variable {P : Program} {nt : Nat} {Q : Post} {e : Env} {h : Heap} {ops : Array Oper} {T : List Nat} {fuel i : Nat} {listed : Array Bool} {o : Oper} {tab : TTab}
theorem T_slice {t el k len d : Nat} {ps : Array (Nat × Operand)} {al : List (Nat × AVal)} {xs : List AVal} {ds : List Dat} (TO : TabOk P tab) (hi : ops[i]? = some o) (hw : awant ops e o = some true) (hdst : o.dst = some d) (hd : Nat.blt d nt = true) (hid : Nat.blt d 1000 = true) (ho : o.op = .buildSlice t len ps)
    (hel : telem tab t = some el) (hsz : tsize tab el = some k) (hok : (match tlook tab el with | some te => te.zero.all (·.oneCell') && Nat.blt 0 te.size && Nat.beq te.zero.length te.size && Nat.blt (len * te.size) 16777216 && Nat.blt 0 len | none => false) = true)
    (hal : aparts e ps.toList = some al) (hf : (match tlook tab el with
      | some te => afill (fun i => some (i * te.size, te.size)) ((List.range (len * te.size)).map fun j => match te.zero[j % te.size]? with | some v => .d (.sc v) | none => .top) al
      | none => none) = some xs) (hds : datsA xs = some ds)
    (HK : AAny P nt ops Q T fuel (listed.setIfInBounds i true) ((d, .row d) :: killE d e) ((d, .row el k len ds) :: killH d h)) : AAt P nt ops Q T fuel listed i e h := by
  obtain ⟨te, h1, h2⟩ := telem_spec hel
  obtain ⟨te', h3, rfl⟩ := tsize_spec hsz
  rw [h3] at hok hf
  simp only [Bool.and_eq_true] at hok
  exact T_eff hi hw (E_buildSlice TO ho hdst h1 h2 h3 hok.1.1.1.1 hok.1.1.1.2 hok.1.1.2 hok.1.2 hok.2 hal hf (datsA_spec hds) hid hd) fun e' h' ⟨h1, h2⟩ => by subst h1 h2; exact HK
end
end Go.Proofs.YtnnclkeoakjjkaaGreat.Ab

namespace Go.Proofs.YtnnclkeoakjjkaaGreat.Ab
set_option linter.unusedVariables false
open Go.RowKit
section
variable {P : Program} {nt : Nat} {Q : Post} {e : Env} {h : Heap} {ops : Array Oper} {o : Oper} {rest : List Oper} {T : List Nat} {tab : TTab} {fuel i : Nat} {listed : Array Bool}
theorem T_cL {f : FuncId} {args : Array Operand} {ats : Array TypeId} {cs : List AVal} {c : AVal} {v : Value} {d : Nat} (hi : ops[i]? = some o) (hw : awant ops e o = some true) (hdst : o.dst = some d) (hd : Nat.blt d nt = true) (ho : o.op = .call { callee := .value (.func f), args := args, argTypes := ats }) (hx : aevs e args.toList = some cs)
    (H : ACall P f (cs.map (lendV h)) [] (fun c' h' => c' = c ∧ h' = [])) (hc : valA c = some v) (hrel : ∀ w F ι, VRel w F ι c v) (HK : AAny P nt ops Q T fuel (listed.setIfInBounds i true) ((d, c) :: e) h) : AAt P nt ops Q T fuel listed i e h :=
  T_eff hi hw (E_callL ho hdst hx H hd hc hrel) fun e' h' ⟨h1, h2⟩ => by subst h1 h2; exact HK
theorem O_rowTo {t el el' k kk m rid d : Nat} {x y : Operand} {cs : List Dat} {n : Nat} {q : IntKind} {i : Int} (TO : TabOk P tab) (hw : awant ops e o = some true) (hdst : o.dst = some d) (hd : Nat.blt d nt = true) (ho : o.op = .slice t x none (some y) none) (hel : telem tab t = some el) (hsz : tsize tab el = some k)
    (hx : aev e x = some (.row rid)) (hb : look h rid = some (.row el' kk n cs)) (hy : aev e y = some (.d (.sc (.int q i)))) (hid : Nat.blt rid 1000 = true) (hi : i = (m : Int)) (hm : m ≤ n)
    (HK : AOps P nt ops Q rest ((d, .row rid) :: killE rid e) ((rid, .row el' kk m (cs.take (m * kk))) :: killH rid h)) : AOps P nt ops Q (o :: rest) e h := by
  obtain ⟨te, h1, h2⟩ := telem_spec hel
  obtain ⟨te', h3, rfl⟩ := tsize_spec hsz
  subst hi
  exact O_eff (T := [rid]) hw (E_rowTo TO ho hdst h1 h2 h3 hx hb hy hm hid hd (by simp)) fun e' h' ⟨h4, h5⟩ => by subst h4 h5; exact HK
theorem T_copyS {t sT el k off1 n1 off2 n2 n id d c : Nat} {x y : Operand} {cs : List Dat} (TO : TabOk P tab) (hi : ops[i]? = some o) (hw : awant ops e o = some true) (hdst : o.dst = some d) (hd : Nat.blt d nt = true) (ho : o.op = .call { callee := .builtin .copy, args := #[x, y], argTypes := #[t, sT] })
    (hel : telem tab t = some el) (hsz : tsize tab el = some k) (hx : aev e x = some (.srow id off1 n1)) (hy : aev e y = some (.srow id off2 n2)) (hb : look h id = some (.row el k n cs)) (hT : T.contains id = true) (hc : Nat.min n2 n1 = c)
    (h1 : off1 + c * k ≤ n * k) (h2 : off2 + c * k ≤ n * k)
    (HK : AAny P nt ops Q T fuel (listed.setIfInBounds i true) ((d, .d (.sc (.int .i64 (c : Int)))) :: e) ((id, .row el k n (setW cs off1 (win cs off2 (c * k)))) :: h)) : AAt P nt ops Q T fuel listed i e h := by
  obtain ⟨te, h3, h4⟩ := telem_spec hel
  obtain ⟨te', h5, rfl⟩ := tsize_spec hsz
  subst hc
  exact T_eff hi hw (E_copyS TO ho hdst h3 h4 h5 rfl hx hy hb h1 h2 hd hT) fun e' h' ⟨h6, h7⟩ => by subst h6 h7; exact HK
end
end Go.Proofs.YtnnclkeoakjjkaaGreat.Ab

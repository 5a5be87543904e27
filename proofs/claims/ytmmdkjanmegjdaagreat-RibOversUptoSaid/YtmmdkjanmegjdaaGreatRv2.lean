/-
 Texts of a proof, one behind the other (part 3).
-/
import Derived.Lib.Bytealg
import Derived.Maps.Own
import Derived.Maps.RangeRun
import Derived.Laws.StructEq
import Derived.Test.YtmmdkjanmegjdaaGreatRows
import Derived.ProofKit
import Derived.SizedLaws
import Derived.JoinedCond
import Derived.Deep.CondSized
import Derived.Test.YtmmdkjanmegjdaaGreatRv1
set_option linter.unusedVariables false
set_option linter.unusedSimpArgs false
namespace Go.Proofs.YtmmdkjanmegjdaaGreat.Ab
open Go.RowKit

def intA (n : Int) : AVal := .d (.sc (.int .i64 n))
def boolA (b : Bool) : AVal := .d (.sc (.bool b))
def pfxD (p : Pfx) : List Dat := [.sc (.int .u32 p.a), .sc (.int .i64 p.b)]
theorem zeP (p : Pfx) : (pfxD p).length = 2 := rfl
def pfxA (p : Pfx) : AVal := .agg [.d (.sc (.int .u32 p.a)), .d (.sc (.int .i64 p.b))]
def pfxsA (l : List Pfx) : AVal := .d (.sl (l.flatMap pfxD) l.length)
theorem pfxEq (x y : Pfx) : eqCells [.int .u32 x.a, .int .i64 x.b] [.int .u32 y.a, .int .i64 y.b] = some (x == y) := by
 obtain ⟨a, b⟩ := x
 obtain ⟨c, d⟩ := y
 simp only [eqCells, eqV, if_true, Bool.and_true, Option.some.injEq]
 rw [Bool.eq_iff_iff]
 simp [Pfx.mk.injEq]
theorem zap : ∀ t, (tlook tab t).isSome = true → Tryz.prog.stoodInHeld t = false := by
 have h : tab.all (fun t _ => !Tryz.prog.stoodInHeld t) = true := by kernel_rfl
 intro t ht
 obtain ⟨te, hte⟩ := Option.isSome_iff_exists.1 ht
 simpa using TTab.of_all h hte
abbrev Just (c : AVal) : AVal → Heap → Prop := fun c' h' => c' = c ∧ h' = []

theorem znw (p : Pfx) (hp : p.ok) : ACall Tryz.prog 53 [pfxA p] [] (Just (intA (chk p))) := zbo (by kernel_rfl) rfl rfl rfl fun w => zd3 p w hp
theorem zpC (p q : Pfx) : ACall Tryz.prog 22 [pfxA p, pfxA q] [] (Just (intA (cmpP p q))) := zbo (by kernel_rfl) rfl rfl rfl fun w => zns p q w
theorem zgO (p q : Pfx) (hp : p.ok) (hq : q.ok) : ACall Tryz.prog 143 [pfxA p, pfxA q] [] (Just (boolA (withinB p q))) := zbo (by kernel_rfl) rfl rfl rfl fun w => zfh p q w hp hq
theorem zkj (p q : Pfx) (hp : p.ok) (hq : q.ok) : ACall Tryz.prog 145 [pfxA p, pfxA q] [] (Just (boolA (withinB p q))) := zbo (by kernel_rfl) rfl rfl rfl fun w => zhM p q w hp hq
end Go.Proofs.YtmmdkjanmegjdaaGreat.Ab

namespace Go.Proofs.YtmmdkjanmegjdaaGreat
open Go.Lib

structure Good {α : Type} (c : α → α → Int) : Prop where
 anti : ∀ x y, c y x = - c x y
 trans : ∀ x y z, c x y ≤ 0 → c y z ≤ 0 → c x z ≤ 0
section
variable {α β : Type} {c d : α → α → Int}
theorem Good.refl (G : Good c) (x : α) : c x x = 0 := by have := G.anti x x; omega
theorem Good.lt_le (G : Good c) {x y z : α} (h1 : c x y < 0) (h2 : c y z ≤ 0) : c x z < 0 := by
 have h3 := G.trans x y z (by omega) h2
 rcases Int.lt_or_eq_of_le h3 with h4 | h4
 ·exact h4
 ·have h5 := G.anti x z
  have h6 := G.trans y z x h2 (by omega)
  have h7 := G.anti x y
  omega
theorem Good.le_lt (G : Good c) {x y z : α} (h1 : c x y ≤ 0) (h2 : c y z < 0) : c x z < 0 := by
 have h3 := G.trans x y z h1 (by omega)
 rcases Int.lt_or_eq_of_le h3 with h4 | h4
 ·exact h4
 ·have h5 := G.anti x z
  have h6 := G.trans z x y (by omega) h1
  have h7 := G.anti y z
  omega
theorem Good.lt_lt (G : Good c) {x y z : α} (h1 : c x y < 0) (h2 : c y z < 0) : c x z < 0 := G.lt_le h1 (by omega)
def lexc (c d : α → α → Int) : α → α → Int := fun x y => if c x y = 0 then d x y else c x y
theorem Good.lex (G : Good c) (H : Good d) : Good (lexc c d) := by
 refine ⟨fun x y => ?_, fun x y z h1 h2 => ?_⟩
 ·unfold lexc
  have h := G.anti x y
  by_cases h0 : c x y = 0
  ·rw [if_pos h0, if_pos (by omega)]; exact H.anti x y
  ·rw [if_neg h0, if_neg (by omega)]; exact h
 ·unfold lexc at *
  by_cases hxy : c x y = 0
  ·rw [if_pos hxy] at h1
   by_cases hyz : c y z = 0
   ·rw [if_pos hyz] at h2
    have e1 := G.trans x y z (by omega) (by omega)
    have e2 := G.anti x y
    have e3 := G.anti y z
    have e4 := G.trans z y x (by omega) (by omega)
    have e5 := G.anti x z
    rw [if_pos (by omega)]
    exact H.trans x y z h1 h2
   ·rw [if_neg hyz] at h2
    have := G.le_lt (x := x) (y := y) (z := z) (by omega) (by omega)
    rw [if_neg (by omega)]; omega
  ·rw [if_neg hxy] at h1
   have h3 : c y z ≤ 0 := by
    by_cases hyz : c y z = 0
    ·omega
    ·rw [if_neg hyz] at h2; exact h2
   have := G.lt_le (x := x) (y := y) (z := z) (by omega) h3
   rw [if_neg (by omega)]; omega
theorem Good.of (G : Good c) (g : β → α) : Good fun x y => c (g x) (g y) := ⟨fun x y => G.anti _ _, fun x y z => G.trans _ _ _⟩
theorem zfB {x y : α} : lexc c d x y = 0 ↔ c x y = 0 ∧ d x y = 0 := by
 unfold lexc
 by_cases h : c x y = 0
 ·rw [if_pos h]; exact ⟨fun h2 => ⟨h, h2⟩, fun h2 => h2.2⟩
 ·rw [if_neg h]; exact ⟨fun h2 => absurd h2 h, fun h2 => absurd h2.1 h⟩
end
def c2 (x y : Int) : Int := if x < y then -1 else if y < x then 1 else 0
theorem zbp : Good c2 := ⟨fun x y => by unfold c2; split <;> split <;> omega, fun x y z h1 h2 => by unfold c2 at *; split at h1 <;> split at h2 <;> (try split at h1) <;> (try split at h2) <;> split <;> (try split) <;> omega⟩
theorem ziU {x y : Int} : c2 x y = 0 ↔ x = y := by unfold c2; split <;> (try split) <;> omega
theorem zoa {x y : Int} : c2 x y < 0 ↔ x < y := by unfold c2; split <;> (try split) <;> omega
def cB (x y : Bool) : Int := if x = y then 0 else if y then -1 else 1
theorem zng : Good cB := ⟨fun x y => by cases x <;> cases y <;> decide, fun x y z h1 h2 => by cases x <;> cases y <;> cases z <;> revert h1 h2 <;> decide⟩
theorem zny {x y : Bool} : cB x y = 0 ↔ x = y := by cases x <;> cases y <;> decide
theorem zib : Good compareBytes := by
 refine ⟨fun x => ?_, fun x => ?_⟩
 ·induction x with
  | nil => intro y; cases y <;> simp [compareBytes]
  | cons a x ih =>
   intro y
   cases y with
   | nil => simp [compareBytes]
   | cons b y =>
    simp only [compareBytes]
    by_cases h1 : a < b
    ·have h2 : ¬ b < a := fun h => by have := UInt8.lt_trans h1 h; exact UInt8.lt_irrefl _ this
     simp [h1, h2]
    ·by_cases h2 : b < a
     ·simp [h1, h2]
     ·simp [h1, h2, ih y]
 ·induction x with
  | nil => intro y z _ h2; cases z <;> simp [compareBytes]
  | cons a x ih =>
   intro y z h1 h2
   cases y with
   | nil => simp [compareBytes] at h1
   | cons b y =>
    cases z with
    | nil => simp [compareBytes] at h2
    | cons d z =>
     simp only [compareBytes] at *
     simp only [UInt8.lt_iff_toNat_lt] at *
     split at h1
     ·split at h2
      ·rw [if_pos (by omega)]; omega
      ·split at h2
       ·omega
       ·rw [if_pos (by omega)]; omega
     ·split at h1
      ·omega
      ·split at h2
       ·rw [if_pos (by omega)]; omega
       ·split at h2
        ·omega
        ·rw [if_neg (by omega), if_neg (by omega)]
         exact ih y z h1 h2
theorem zcr : ∀ {x y : List UInt8}, compareBytes x y = 0 ↔ x = y
 | [], [] => by simp [compareBytes]
 | [], _ :: _ => by simp [compareBytes]
 | _ :: _, [] => by simp [compareBytes]
 | a :: x, b :: y => by
  simp only [compareBytes, List.cons.injEq]
  split
  ·rename_i h
   exact ⟨fun h2 => by omega, fun h2 => by rw [h2.1] at h; exact absurd h (UInt8.lt_irrefl _)⟩
  ·split
   ·rename_i h
    exact ⟨fun h2 => by omega, fun h2 => by rw [h2.1] at h; exact absurd h (UInt8.lt_irrefl _)⟩
   ·rename_i h1 h2
    rw [zcr]
    refine ⟨fun h => ⟨?_, h⟩, fun h => h.2⟩
    rw [UInt8.lt_iff_toNat_lt] at h1 h2
    exact UInt8.toNat_inj.1 (by omega)

section
variable {α : Type} {c : α → α → Int}
def Rising (c : α → α → Int) (l : List α) : Prop := l.Pairwise fun x y => c x y < 0
theorem zaY (G : Good c) : ∀ {l m : List α}, Rising c l → Rising c m → (∀ x, x ∈ l ↔ x ∈ m) → l = m
 | [], [], _, _, _ => rfl
 | [], b :: m, _, _, h => absurd ((h b).2 (List.mem_cons_self ..)) (by simp)
 | a :: l, [], _, _, h => absurd ((h a).1 (List.mem_cons_self ..)) (by simp)
 | a :: l, b :: m, h1, h2, h => by
  unfold Rising at h1 h2
  rw [List.pairwise_cons] at h1 h2
  have hab : a = b := by
   rcases List.mem_cons.1 ((h a).1 (List.mem_cons_self ..)) with e | e
   ·exact e
   ·rcases List.mem_cons.1 ((h b).2 (List.mem_cons_self ..)) with e2 | e2
    ·exact e2.symm
    ·have q1 := h2.1 a e
     have q2 := h1.1 b e2
     have q3 := G.anti a b
     omega
  subst hab
  congr 1
  refine zaY G h1.2 h2.2 fun x => ⟨fun hx => ?_, fun hx => ?_⟩
  ·rcases List.mem_cons.1 ((h x).1 (List.mem_cons_of_mem _ hx)) with e | e
   ·subst e; have := h1.1 x hx; rw [G.refl] at this; omega
   ·exact e
  ·rcases List.mem_cons.1 ((h x).2 (List.mem_cons_of_mem _ hx)) with e | e
   ·subst e; have := h2.1 x hx; rw [G.refl] at this; omega
   ·exact e
def srt (c : α → α → Int) (l : List α) : List α := l.mergeSort fun x y => !(decide (c y x < 0))
theorem zcg (l : List α) (x : α) : x ∈ srt c l ↔ x ∈ l := List.mem_mergeSort
theorem zbC (l : List α) : (srt c l).length = l.length := List.length_mergeSort _
theorem zdi (G : Good c) (l : List α) : (srt c l).Pairwise fun x y => c x y ≤ 0 := by
 have := List.pairwise_mergeSort (le := fun x y => !(decide (c y x < 0))) (fun x y z h1 h2 => by
  simp only [Bool.not_eq_true', decide_eq_false_iff_not] at *
  have e1 := G.anti x y
  have e2 := G.anti y z
  have e3 := G.anti x z
  have := G.trans x y z (by omega) (by omega)
  omega) (fun x y => by
  simp only [Bool.or_eq_true, Bool.not_eq_true', decide_eq_false_iff_not]
  have e1 := G.anti x y
  omega) l
 refine this.imp fun {x y} h => ?_
 simp only [Bool.not_eq_true', decide_eq_false_iff_not] at h
 have e1 := G.anti x y
 omega
variable [DecidableEq α]
def dedA : List α → List α
 | [] => []
 | [x] => [x]
 | x :: y :: r => if x = y then dedA (y :: r) else x :: dedA (y :: r)
theorem zdE : ∀ (l : List α) (x : α), x ∈ dedA l ↔ x ∈ l
 | [], x => Iff.rfl
 | [y], x => Iff.rfl
 | y :: z :: r, x => by
  unfold dedA
  split
  ·rename_i h
   rw [zdE (z :: r)]
   subst h
   simp
  ·rw [List.mem_cons, zdE (z :: r), List.mem_cons (l := z :: r)]
theorem zel (G : Good c) (hi : ∀ x y, c x y = 0 → x = y) : ∀ (l : List α), l.Pairwise (fun x y => c x y ≤ 0) → Rising c (dedA l)
 | [], _ => List.Pairwise.nil
 | [y], _ => by unfold dedA Rising; simp
 | y :: z :: r, h => by
  have h' := (List.pairwise_cons.1 h).2
  have ih := zel G hi (z :: r) h'
  unfold dedA
  split
  ·exact ih
  ·rename_i hne
   unfold Rising
   rw [List.pairwise_cons]
   refine ⟨fun x hx => ?_, ih⟩
   rw [zdE] at hx
   have h1 := (List.pairwise_cons.1 h).1 z (List.mem_cons_self ..)
   have h2 : c y z < 0 := by
    rcases Int.lt_or_eq_of_le h1 with q | q
    ·exact q
    ·exact absurd (hi _ _ q) hne
   rcases List.mem_cons.1 hx with rfl | hx
   ·exact h2
   ·exact G.lt_le h2 ((List.pairwise_cons.1 h').1 x hx)
theorem zhg : ∀ (l : List α), (dedA l).length ≤ l.length
 | [] => Nat.le_refl _
 | [y] => Nat.le_refl _
 | y :: z :: r => by
  unfold dedA
  have := zhg (z :: r)
  split <;> simp at * <;> omega
def sortU (c : α → α → Int) (l : List α) : List α := dedA (srt c l)
theorem zay (l : List α) (x : α) : x ∈ sortU c l ↔ x ∈ l := by unfold sortU; rw [zdE, zcg]
theorem zas (G : Good c) (hi : ∀ x y, c x y = 0 → x = y) (l : List α) : Rising c (sortU c l) := zel G hi _ (zdi G l)
theorem zbi (l : List α) : (sortU c l).length ≤ l.length := by unfold sortU; have := zhg (srt c l); rw [zbC] at this; exact this
theorem zjj (G : Good c) (hi : ∀ x y, c x y = 0 → x = y) {l m : List α} (h : ∀ x, x ∈ l ↔ x ∈ m) : sortU c l = sortU c m :=
 zaY G (zas G hi l) (zas G hi m) fun x => by rw [zay, zay]; exact h x
theorem zes (G : Good c) (hi : ∀ x y, c x y = 0 → x = y) {l : List α} (h : Rising c l) : sortU c l = l :=
 zaY G (zas G hi l) h fun x => zay l x
end
end Go.Proofs.YtmmdkjanmegjdaaGreat

namespace Go.Proofs.YtmmdkjanmegjdaaGreat.Ab
open Go.RowKit Go.Lib

theorem zb1 : ∀ (a b : List UInt8), Op.bytesLess a b = decide (compareBytes a b < 0)
 | [], [] => by simp [Op.bytesLess, compareBytes]
 | [], _ :: _ => by simp [Op.bytesLess, compareBytes]
 | _ :: _, [] => by simp [Op.bytesLess, compareBytes]
 | a :: x, b :: y => by
  rw [Op.bytesLess, compareBytes, zb1 x y]
  by_cases h : a < b
  ·simp [h]
  ·by_cases h2 : b < a
   ·have : (a == b) = false := by
     rw [beq_eq_false_iff_ne]
     rintro rfl
     exact UInt8.lt_irrefl _ h2
    simp [h, h2, this]
   ·have : a = b := by
     rw [UInt8.lt_iff_toNat_lt] at h h2
     exact UInt8.toNat_inj.1 (by omega)
    subst this
    simp [h]
theorem zdU (l : List UInt8) : (ByteArray.mk (Array.mk l)).toList = l := by
 rw [ByteArray.toList_eq]
abbrev strA (l : List UInt8) : AVal := .d (.sc (.string ⟨⟨l⟩⟩))
def sbin (op : BinOp) (a b : List UInt8) : Option Bool := match op with
 | .eql => some (decide (a = b))
 | .neq => some (!decide (a = b))
 | .lss => some (decide (compareBytes a b < 0))
 | .leq => some (decide (compareBytes a b ≤ 0))
 | .gtr => some (decide (0 < compareBytes a b))
 | .geq => some (decide (0 ≤ compareBytes a b))
 | _ => none
section
variable {P : Program} {nt : Nat} {Q : Post} {e : Env} {h : Heap} {ops : Array Oper} {o : Oper} {rest : List Oper} {T : List Nat} {tab : TTab}
theorem zgj {op : BinOp} {t u : TypeId} {x y : Operand} {a b : List UInt8} {r : Bool} (ho : o.op = .binOp op t x y u) (hx : aev e x = some (strA a)) (hy : aev e y = some (strA b)) (hr : sbin op a b = some r) : AYield P T e h o (.d (.sc (.bool r))) := zN _ fun w F ι ac E =>
 ⟨.bool r, zH rfl, fun w' => by
  have hz : (a == b) = decide (compareBytes a b = 0) := by rw [Bool.eq_iff_iff]; simp [zcr]
  have hz2 : decide (a = b) = decide (compareBytes a b = 0) := by rw [Bool.eq_iff_iff]; simp [zcr]
  simp only [execOp, ho, (zQ (zj E hx)).1, (zQ (zj E hy)).1]
  cases op <;> first | cases hr; done | (injection hr with hr; subst hr; (try simp only [hz2]); simp [eqGuard, binOp, Op.stringOp, zdU, zb1, hz]; done) | (injection hr with hr; subst hr; (try simp only [hz2]); simp [eqGuard, binOp, Op.stringOp, zdU, zb1, hz]; generalize compareBytes a b = c; rw [Bool.eq_iff_iff]; simp <;> omega)⟩
theorem R_sT {op : BinOp} {t u : TypeId} {x y : Operand} {a b : List UInt8} {r : Bool} (ho : o.op = .binOp op t x y u) (hx : aev e x = some (strA a)) (hy : aev e y = some (strA b)) (hr : sbin op a b = some r) (hc : r = true) : AYield P T e h o (.d (.sc (.bool true))) := by
 subst hc; exact zgj ho hx hy hr
theorem R_sF {op : BinOp} {t u : TypeId} {x y : Operand} {a b : List UInt8} {r : Bool} (ho : o.op = .binOp op t x y u) (hx : aev e x = some (strA a)) (hy : aev e y = some (strA b)) (hr : sbin op a b = some r) (hc : r = false) : AYield P T e h o (.d (.sc (.bool false))) := by
 subst hc; exact zgj ho hx hy hr
def bbin (op : BinOp) (a b : Bool) : Option Bool := match op with
 | .eql => some (a == b)
 | .neq => some (a != b)
 | _ => none
def tbool (tab : TTab) (t : TypeId) : Bool := match tlook tab t with
 | some ⟨_, _, _, _, .bo⟩ => true
 | _ => false
theorem zhO {tab : TTab} {t : TypeId} (TO : TabOk P tab) (h : tbool tab t = true) : P.underlying t = some .bool := by
 unfold tbool at h
 split at h
 ·rename_i heq
  obtain ⟨d, hd, _, hs⟩ := (TO t _ heq).und
  rw [hd]; congr 1
 ·cases h
theorem zfc {op : BinOp} {t u : TypeId} {x y : Operand} {a b : Bool} {r : Bool} (TO : TabOk P tab) (ho : o.op = .binOp op t x y u) (ht : tbool tab t = true) (hx : aev e x = some (.d (.sc (.bool a)))) (hy : aev e y = some (.d (.sc (.bool b)))) (hr : bbin op a b = some r) : AYield P T e h o (.d (.sc (.bool r))) := zN _ fun w F ι ac E =>
 ⟨.bool r, zH rfl, fun w' => by
  have hu := zhO TO ht
  simp only [execOp, ho, (zQ (zj E hx)).1, (zQ (zj E hy)).1]
  cases op <;> first | cases hr; done | (injection hr with hr; subst hr; simp [eqGuard, binOp, run_equal_bool w' t a b hu]; done) | (injection hr with hr; subst hr; simp [eqGuard, binOp, run_equal_bool w' t a b hu]; cases a <;> cases b <;> rfl)⟩
end
end Go.Proofs.YtmmdkjanmegjdaaGreat.Ab

namespace Go.Proofs.YtmmdkjanmegjdaaGreat.Ab
open Go.RowKit
section
variable {P : Program} {nt : Nat} {Q : Post}
def RF : Post := fun _ _ _ => False
theorem zaH {z : Bool} {x y : Code} {e : Env} {h : Heap} (E1 : Env) (H1 : Heap) (h1 : AWp z P nt x (AThen (fun e' h' => AWk nt e' h' E1 H1) RF) e h) (h2 : AWp z P nt y Q E1 H1) : AWp z P nt (.seq x y) Q e h :=
 z7 (h1.mono fun ex e h hq => by
  cases ex with
  | normal => exact zt hq h2
  | _ => exact False.elim hq)
end
end Go.Proofs.YtmmdkjanmegjdaaGreat.Ab

namespace Go.Proofs.YtmmdkjanmegjdaaGreat.Ab
open Go.RowKit

mutual
def fzV (id : Nat) (ds : List Dat) : AVal → AVal
 | .ptr j off => cond (Nat.beq j id) (.iptr ds off) (.ptr j off)
 | .agg cs => .agg (fzL id ds cs)
 | .tup cs => .tup (fzL id ds cs)
 | .fn f cs => .fn f (fzL id ds cs)
 | .top => .top
 | .und => .und
 | .d x => .d x
 | .eptr j off => .eptr j off
 | .iptr cs off => .iptr cs off
 | .row j => .row j
 | .mp j => .mp j
 | .srow j o n => .srow j o n
 | .full cs n => .full cs n
def fzL (id : Nat) (ds : List Dat) : List AVal → List AVal
 | [] => []
 | c :: r => fzV id ds c :: fzL id ds r
end
theorem zdz (id : Nat) (ds : List Dat) (cs : List AVal) (i : Nat) : (fzL id ds cs)[i]? = (cs[i]?).map (fzV id ds) := by
 induction cs generalizing i with
 | nil => rfl
 | cons c r ih =>
  rw [fzL]
  cases i with
  | zero => rfl
  | succ i => simpa using ih i
theorem zdy (id : Nat) (ds : List Dat) (cs : List AVal) : (fzL id ds cs).length = cs.length := by
 induction cs with
 | nil => rfl
 | cons c r ih => rw [fzL]; simp [ih]
def fzB (id : Nat) (ds : List Dat) : ABlk → ABlk
 | .var cs => .var (fzL id ds cs)
 | .row e k n cs => .row e k n cs
 | .rowA e k n cs => .rowA e k n (fzL id ds cs)
 | .map es => .map (es.map fun p => (fzV id ds p.1, fzV id ds p.2))
 | .mapx r bs clk es => .mapx r bs clk (es.map fun p => (fzV id ds p.1, fzV id ds p.2))
 | .it o => .it o
 | .rowx hv e k n cs => .rowx hv e k n cs
def fzE (id : Nat) (ds : List Dat) : Env → Env
 | [] => []
 | (k, c) :: r => (k, fzV id ds c) :: fzE id ds r
def fzH (id : Nat) (ds : List Dat) : Heap → Heap
 | [] => []
 | (k, b) :: r => cond (Nat.beq k id) (fzH id ds r) ((k, fzB id ds b) :: fzH id ds r)
theorem zlc (id : Nat) (ds : List Dat) (e : Env) (t : Nat) : look (fzE id ds e) t = (look e t).map (fzV id ds) := by
 induction e with
 | nil => rfl
 | cons p r ih =>
  show cond _ _ _ = Option.map _ (cond _ _ _)
  cases Nat.beq p.1 t
  ·exact ih
  ·rfl
theorem zeT (id : Nat) (ds : List Dat) (h : Heap) (t : Nat) : look (fzH id ds h) t = if t = id then none else (look h t).map (fzB id ds) := by
 induction h with
 | nil => simp [fzH, look]
 | cons p r ih =>
  show look (cond _ _ _) t = _
  by_cases hpt : p.1 = t
  ·cases hc : Nat.beq p.1 id
   ·have := zb9 hc
    have e1 : look (p :: r) t = some p.2 := by rw [← hpt]; exact ze _ _ _
    rw [cond_false, e1, if_neg (by omega), ← hpt, ze]; rfl
   ·have := Nat.eq_of_beq_eq_true hc
    rw [cond_true, ih, if_pos (by omega), if_pos (by omega)]
  ·have e1 : look (p :: r) t = look r t := zc _ _ hpt
   rw [e1]
   cases hc : Nat.beq p.1 id
   ·rw [cond_false, zc _ _ hpt, ih]
   ·rw [cond_true, ih]
section
variable {nt : Nat} {e : Env} {h : Heap}
theorem zG {id : Nat} {cs : List AVal} {ds : List Dat} (hb : look h id = some (.var cs)) (hcs : cs = ds.map .d) : AWk nt e h (fzE id ds e) (fzH id ds h) := fun Pm F w0 pin ι a w R => by
 subst hcs
 obtain ⟨v, hv, r, C, T, rfl, hC, hlC, hrr⟩ := R.heap.blk id _ hb
 let ι' : Nat → Option Value := fun j => if j = id then none else ι j
 have hs : ∀ j u, ι' j = some u → j ≠ id ∧ ι j = some u := fun j u hj => by
  simp only [ι'] at hj
  split at hj
  ·cases hj
  ·exact ⟨by assumption, hj⟩
 have he : Ext w F ι w ι' := ⟨fun _ _ _ => rfl, fun r _ hf => ⟨hf.1, fun j u hj => hf.2 j u (hs j u hj).2⟩⟩
 have hfr : FreeB F ι' r := ⟨R.heap.nf id _ r hv rfl, fun j u hj hb => by
  obtain ⟨h1, h2⟩ := hs j u hj
  exact R.heap.inj j id u _ r h1 h2 hv hb rfl⟩
 have hlen : C.toList.length = ds.length := by simpa using hlC
 have hcell : ∀ (i : Nat) (u : Value), C.toList[i]? = some u → w.cell? ⟨r, 0 + i, none⟩ = some u := fun i u hu => by
  rw [Nat.zero_add]; simp [World.cell?, hC]; simpa using hu
 have hdat : ∀ (i : Nat) (c : Dat) (u : Value), ds[i]? = some c → C.toList[i]? = some u → DRel w (FreeB F ι') c u := fun i c u h1 h2 => by
  have := hrr i (.d c) u (by rw [List.getElem?_map, h1]; rfl) (by simpa using h2)
  cases this with
  | d _ _ hd => exact hd.ext he.mem he.free
 have vk : ∀ c u, VRel w F ι c u → VRel w F ι' (fzV id ds c) u := by
  intro c u hc
  induction hc with
  | top u => exact .top u
  | und => exact .und
  | d x u hd => exact .d x u (hd.ext he.mem he.free)
  | agg cs C hl h ih =>
   refine .agg _ C (by rw [zdy]; exact hl) fun i c u h1 h2 => ?_
   rw [zdz] at h1
   cases h3 : cs[i]? with
   | none => simp [h3] at h1
   | some c0 => simp [h3] at h1; subst h1; exact ih i c0 u h3 h2
  | tup cs C hl h ih =>
   refine .tup _ C (by rw [zdy]; exact hl) fun i c u h1 h2 => ?_
   rw [zdz] at h1
   cases h3 : cs[i]? with
   | none => simp [h3] at h1
   | some c0 => simp [h3] at h1; subst h1; exact ih i c0 u h3 h2
  | ptr j off u h1 h =>
   rw [fzV]
   cases hj : Nat.beq j id with
   | true =>
    have := Nat.eq_of_beq_eq_true hj
    subst this
    obtain ⟨g, h3, rfl⟩ := h _ hv
    cases h3
    have := VRel.iptr (w := w) (F := F) (ι := ι') ds off r 0 C.toList hlen (fun _ => hfr) hcell hdat
    rw [Nat.zero_add] at this
    exact this
   | false => exact .ptr j off u h1 fun v hv => h v (hs j v hv).2
  | eptr j off u h1 h => exact .eptr j off u h1 fun v hv => h v (hs j v hv).2
  | iptr cs off b o' vs hl hf hc hr => exact (VRel.iptr cs off b o' vs hl hf hc hr : VRel w F ι _ _).ext he fun j v _ hv => (hs j v hv).2
  | row j u h1 h => exact .row j u h1 fun v hv => h v (hs j v hv).2
  | mp j u h1 h => exact .mp j u h1 fun v hv => h v (hs j v hv).2
  | srow j off n u h1 h => exact .srow j off n u h1 fun v hv => h v (hs j v hv).2
  | full cs n b h => exact .full cs n b (h.ext he.mem he.free)
  | fn f cs C hl h ih =>
   refine .fn f _ C (by rw [zdy]; exact hl) fun i c u h1 h2 => ?_
   rw [zdz] at h1
   cases h3 : cs[i]? with
   | none => simp [h3] at h1
   | some c0 => simp [h3] at h1; subst h1; exact ih i c0 u h3 h2
 refine ⟨ι', ⟨?_, ?_, fun i j v v' r hij hi hj => R.heap.inj i j v v' r hij (hs i v hi).2 (hs j v' hj).2, fun i v r hi => R.heap.pm i v r (hs i v hi).2, R.heap.os, R.heap.tape, R.heap.output, R.heap.size, R.heap.keep, R.heap.fresh, fun i v h1 hi => R.heap.pinned i v h1 (hs i v hi).2, fun i v r hi => R.heap.nf i v r (hs i v hi).2, R.heap.forb⟩, ?_, R.defers.ext he, R.size⟩
 ·intro j b hj
  rw [zeT] at hj
  split at hj
  ·cases hj
  ·rename_i hji
   cases hl2 : look h j with
   | none => simp [hl2] at hj
   | some b0 =>
    simp [hl2] at hj
    subst hj
    obtain ⟨v2, hv2, hB⟩ := R.heap.blk j b0 hl2
    refine ⟨v2, by simp [ι', hji, hv2], ?_⟩
    cases b0 with
    | var es =>
     obtain ⟨r, C, tt, rfl, h3, h4, h5⟩ := hB
     refine ⟨r, C, tt, rfl, h3, by rw [zdy]; exact h4, fun i c u h6 h7 => ?_⟩
     rw [zdz] at h6
     cases h8 : es[i]? with
     | none => simp [h8] at h6
     | some c0 => simp [h8] at h6; subst h6; exact vk _ _ (h5 i c0 u h8 h7)
    | row el2 k2 n2 es =>
     obtain ⟨ys, hown2, h4, h5⟩ := hB
     exact ⟨ys, hown2, h4, fun i c u h6 h7 => (h5 i c u h6 h7).ext he.mem he.free⟩
    | rowA el2 k2 n2 es =>
     obtain ⟨ys, hown2, h4, h5⟩ := hB
     refine ⟨ys, hown2, by rw [zdy]; exact h4, fun i c u h6 h7 => ?_⟩
     rw [zdz] at h6
     cases h8 : es[i]? with
     | none => simp [h8] at h6
     | some c0 => simp [h8] at h6; subst h6; exact vk _ _ (h5 i c0 u h8 h7)
    | map es =>
     obtain ⟨r, E, clk, rfl, h3, h4, h5, h6⟩ := hB
     refine ⟨r, E, clk, rfl, h3, by simpa using h4, fun i p m h7 h8 => ?_, h6⟩
     rw [List.getElem?_map] at h7
     cases h9 : es[i]? with
     | none => simp [h9] at h7
     | some p0 => simp [h9] at h7; subst h7; exact ⟨vk _ _ (h5 i p0 m h9 h8).1, vk _ _ (h5 i p0 m h9 h8).2⟩
    | mapx r0 bs0 clk0 es =>
     obtain ⟨E, rfl, h3, h4, h5, h6⟩ := hB
     refine ⟨E, rfl, h3, by simpa using h4, fun i p m h7 h8 => ?_, h6⟩
     rw [List.getElem?_map] at h7
     cases h9 : es[i]? with
     | none => simp [h9] at h7
     | some p0 => simp [h9] at h7; subst h7; exact ⟨vk _ _ (h5 i p0 m h9 h8).1, vk _ _ (h5 i p0 m h9 h8).2⟩
    | rowx hv el2 k2 n2 ds2 => exact hB.viaX (fun c u h => h.ext he.mem he.free) fun _ _ => rfl
    | it o => exact hB
 ·intro j u hj
  obtain ⟨h1, h2⟩ := hs j u hj
  obtain ⟨b, hb⟩ := R.heap.dom j u h2
  exact ⟨fzB id _ b, by rw [zeT, if_neg h1, hb]; rfl⟩
 ·intro t c ht
  rw [zlc] at ht
  cases hl2 : look e t with
  | none => simp [hl2] at ht
  | some c0 =>
   simp [hl2] at ht
   subst ht
   obtain ⟨u, hu, hv2⟩ := R.env t c0 hl2
   exact ⟨u, hu, vk _ _ hv2⟩
end
section
variable {P : Program} {nt : Nat} {Q : Post} {e : Env} {h : Heap} {ops : Array Oper} {T : List Nat} {fuel i : Nat} {listed : Array Bool} {o : Oper} {tab : TTab}
theorem zbE {t el k len d : Nat} {ps : Array (Nat × Operand)} {al : List (Nat × AVal)} {xs : List AVal} {ds : List Dat} (TO : TabOk P tab) (hi : ops[i]? = some o) (hw : awant ops e o = some true) (hdst : o.dst = some d) (hd : Nat.blt d nt = true) (hid : Nat.blt d 1000 = true) (ho : o.op = .buildSlice t len ps)
  (hel : telem tab t = some el) (hsz : tsize tab el = some k) (hok : (match tlook tab el with | some te => te.zero.all (·.oneCell') && Nat.blt 0 te.size && Nat.beq te.zero.length te.size && Nat.blt (len * te.size) 16777216 && Nat.blt 0 len | none => false) = true)
  (hal : aparts e ps.toList = some al) (hf : (match tlook tab el with
   | some te => afill (fun i => some (i * te.size, te.size)) ((List.range (len * te.size)).map fun j => match te.zero[j % te.size]? with | some v => .d (.sc v) | none => .top) al
   | none => none) = some xs) (hds : datsA xs = some ds)
  (HK : AAny P nt ops Q T fuel (listed.setIfInBounds i true) ((d, .row d) :: killE d e) ((d, .row el k len ds) :: killH d h)) : AAt P nt ops Q T fuel listed i e h := by
 obtain ⟨te, h1, h2⟩ := zy hel
 obtain ⟨te', h3, rfl⟩ := zu hsz
 rw [h3] at hok hf
 simp only [Bool.and_eq_true] at hok
 exact za5 hi hw (zdM TO ho hdst h1 h2 h3 hok.1.1.1.1 hok.1.1.1.2 hok.1.1.2 hok.1.2 hok.2 hal hf (zbQ hds) hid hd) fun e' h' ⟨h1, h2⟩ => by subst h1 h2; exact HK
theorem zd6 {t el k rid n m d : Nat} {x y : Operand} {cy : AVal} {cs ds : List Dat} (TO : TabOk P tab) (hi : ops[i]? = some o) (hw : awant ops e o = some true) (hdst : o.dst = some d) (hd : Nat.blt d nt = true) (ho : o.op = .call { callee := .builtin .append, args := #[x, y], argTypes := #[t, t] })
  (hel : telem tab t = some el) (hsz : tsize tab el = some k) (hok : (match tlook tab el with | some te => Nat.blt 0 te.size && Nat.beq te.zero.length te.size && Nat.ble te.bytes 65536 | none => false) = true)
  (hx : aev e x = some (.row rid)) (hb : look h rid = some (.row el k n cs)) (hid : Nat.blt rid 1000 = true) (hy : aev e y = some cy) (S : Src h cy m ds) (hl : ds.length = m * k) (hn : n + m ≤ 2147483648) (hT : T.contains rid = true)
  (HK : AAny P nt ops Q T fuel (listed.setIfInBounds i true) ((d, .row rid) :: killE rid e) ((rid, .row el k (n + m) (cs ++ ds)) :: killH rid h)) : AAt P nt ops Q T fuel listed i e h := by
 obtain ⟨te, h1, h2⟩ := zy hel
 obtain ⟨te', h3, rfl⟩ := zu hsz
 rw [h3] at hok
 simp only [Bool.and_eq_true] at hok
 exact za5 hi hw (zhK TO ho hdst h1 h2 h3 hok.1.1 hok.1.2 hok.2 hx hy (.row hb) S hl hn hid hd hT) fun e' h' ⟨h1, h2⟩ => by subst h1 h2; exact HK
end
end Go.Proofs.YtmmdkjanmegjdaaGreat.Ab

namespace Go.Proofs.YtmmdkjanmegjdaaGreat.Ab
open Go.RowKit

mutual
def shut : AVal → Bool
 | .agg cs => shutL cs
 | .tup cs => shutL cs
 | .fn _ cs => shutL cs
 | .ptr _ _ => false
 | .eptr _ _ => false
 | .row _ => false
 | .mp _ => false
 | .srow _ _ _ => false
 | _ => true
def shutL : List AVal → Bool
 | [] => true
 | c :: r => shut c && shutL r
end
mutual
theorem zbM (id : Nat) : (c : AVal) → shut c = true → c.has id = false
 | .agg cs, h => by rw [AVal.has]; exact zb7 id cs h
 | .tup cs, h => by rw [AVal.has]; exact zb7 id cs h
 | .fn _ cs, h => by rw [AVal.has]; exact zb7 id cs h
 | .ptr _ _, h => by cases h
 | .eptr _ _, h => by cases h
 | .row _, h => by cases h
 | .mp _, h => by cases h
 | .srow _ _ _, h => by cases h
 | .full _ _, _ => rfl
 | .top, _ => rfl
 | .und, _ => rfl
 | .d _, _ => rfl
 | .iptr _ _, _ => rfl
theorem zb7 (id : Nat) : (cs : List AVal) → shutL cs = true → hasL id cs = false
 | [], _ => rfl
 | c :: r, h => by
  rw [shutL, Bool.and_eq_true] at h
  rw [hasL, zbM id c h.1, zb7 id r h.2]
  rfl
end
def ren1 (ρ : List (Nat × Nat)) : AVal → AVal
 | .ptr p o => match look ρ p with | some i => .ptr i o | none => .top
 | .eptr p o => match look ρ p with | some i => .eptr i o | none => .top
 | .row p => match look ρ p with | some i => .row i | none => .top
 | .mp p => match look ρ p with | some i => .mp i | none => .top
 | .srow p o n => match look ρ p with | some i => .srow i o n | none => .top
 | .full cs n => .full cs n
 | .d x => .d x
 | .und => .und
 | .iptr cs o => .iptr cs o
 | .agg cs => cond (shutL cs) (.agg cs) .top
 | .tup cs => cond (shutL cs) (.tup cs) .top
 | .fn f cs => cond (shutL cs) (.fn f cs) .top
 | .top => .top
def ok1 (ρ : List (Nat × Nat)) : AVal → Bool
 | .ptr p _ => (look ρ p).isSome
 | .eptr p _ => (look ρ p).isSome
 | .row p => (look ρ p).isSome
 | .mp p => (look ρ p).isSome
 | .srow p _ _ => (look ρ p).isSome
 | c => shut c
def renV (ρ : List (Nat × Nat)) : AVal → AVal
 | .ptr p o => match look ρ p with | some i => .ptr i o | none => .top
 | .eptr p o => match look ρ p with | some i => .eptr i o | none => .top
 | .row p => match look ρ p with | some i => .row i | none => .top
 | .mp p => match look ρ p with | some i => .mp i | none => .top
 | .srow p o n => match look ρ p with | some i => .srow i o n | none => .top
 | .full cs n => .full cs n
 | .d x => .d x
 | .und => .und
 | .iptr cs o => .iptr cs o
 | .agg cs => cond (shutL cs) (.agg cs) .top
 | .tup cs => cond (shutL cs) (.tup cs) .top
 | .fn f cs => cond (shutL cs) (.fn f cs) (.fn f (cs.map (ren1 ρ)))
 | .top => .top
def okV (ρ : List (Nat × Nat)) : AVal → Bool
 | .ptr p _ => (look ρ p).isSome
 | .eptr p _ => (look ρ p).isSome
 | .row p => (look ρ p).isSome
 | .mp p => (look ρ p).isSome
 | .srow p _ _ => (look ρ p).isSome
 | .fn f cs => shutL cs || cs.all (ok1 ρ)
 | c => shut c
def renB (ρ : List (Nat × Nat)) : ABlk → ABlk
 | .var cs => .var (cs.map (renV ρ))
 | .row e k n cs => .row e k n cs
 | .rowA e k n cs => .rowA e k n (cs.map (renV ρ))
 | .map es => .map (es.map fun p => (renV ρ p.1, renV ρ p.2))
 | .mapx r bs clk es => .mapx r bs clk (es.map fun p => (renV ρ p.1, renV ρ p.2))
 | .it o => .it o
 | .rowx hv e k n cs => .rowx hv e k n cs
def okB (ρ : List (Nat × Nat)) : ABlk → Prop
 | .var cs => ∀ c ∈ cs, okV ρ c = true
 | .row _ _ _ _ => True
 | .rowA _ _ _ cs => ∀ c ∈ cs, okV ρ c = true
 | .map es => ∀ p ∈ es, okV ρ p.1 = true ∧ okV ρ p.2 = true
 | .mapx _ _ _ es => ∀ p ∈ es, okV ρ p.1 = true ∧ okV ρ p.2 = true
 | .it _ => True
 | .rowx _ _ _ _ _ => True
def renH (ρ : List (Nat × Nat)) : Heap → Heap
 | [] => []
 | (p, b) :: r => match look ρ p with
  | some i => (i, renB ρ b) :: renH ρ r
  | none => renH ρ r
def Lent (ρ : List (Nat × Nat)) (h : Heap) : Heap → Prop
 | [] => True
 | (p, b) :: r => (∃ i b', look ρ p = some i ∧ look h i = some b' ∧ renB ρ b = b' ∧ okB ρ b) ∧ Lent ρ h r
theorem Lent.get {ρ : List (Nat × Nat)} {h h0 : Heap} (H : Lent ρ h h0) {p : Nat} {b : ABlk} (hb : look h0 p = some b) : ∃ i, look ρ p = some i ∧ look h i = some (renB ρ b) ∧ okB ρ b := by
 induction h0 with
 | nil => cases hb
 | cons q r ih =>
  obtain ⟨q, b0⟩ := q
  by_cases hq : q = p
  ·subst hq
   rw [ze] at hb
   cases hb
   obtain ⟨⟨i, b', h1, h2, h3, h4⟩, _⟩ := H
   exact ⟨i, h1, by rw [h3]; exact h2, h4⟩
  ·rw [zc _ _ hq] at hb
   exact ih H.2 hb
theorem zcT {ρ : List (Nat × Nat)} (hinj : ∀ p p' i, look ρ p = some i → look ρ p' = some i → p = p') (h' : Heap) (i : Nat) :
  (∀ b, look (renH ρ h') i = some b → ∃ p b', look ρ p = some i ∧ look h' p = some b' ∧ b = renB ρ b') ∧ (look (renH ρ h') i = none → ∀ p, look ρ p = some i → look h' p = none) := by
 induction h' with
 | nil => exact ⟨fun b hb => (by cases hb), fun _ p _ => rfl⟩
 | cons q r ih =>
  obtain ⟨q, b0⟩ := q
  rw [renH]
  cases hq : look ρ q with
  | none =>
   refine ⟨fun b hb => ?_, fun hn p hp => ?_⟩
   ·obtain ⟨p, b', h1, h2, h3⟩ := ih.1 b hb
    have : q ≠ p := by rintro rfl; rw [hq] at h1; cases h1
    exact ⟨p, b', h1, by rw [zc _ _ this]; exact h2, h3⟩
   ·have : q ≠ p := by rintro rfl; rw [hq] at hp; cases hp
    rw [zc _ _ this]
    exact ih.2 hn p hp
  | some j =>
   dsimp only
   by_cases hj : j = i
   ·subst hj
    refine ⟨fun b hb => ?_, fun hn => ?_⟩
    ·rw [ze] at hb
     cases hb
     exact ⟨q, b0, hq, ze _ _ _, rfl⟩
    ·rw [ze] at hn; cases hn
   ·refine ⟨fun b hb => ?_, fun hn p hp => ?_⟩
    ·rw [zc _ _ hj] at hb
     obtain ⟨p, b', h1, h2, h3⟩ := ih.1 b hb
     have : q ≠ p := by rintro rfl; rw [hq] at h1; cases h1; exact hj rfl
     exact ⟨p, b', h1, by rw [zc _ _ this]; exact h2, h3⟩
    ·rw [zc _ _ hj] at hn
     have : q ≠ p := by rintro rfl; rw [hq] at hp; cases hp; exact hj rfl
     rw [zc _ _ this]
     exact ih.2 hn p hp

theorem VRel.up1 {w : World} {F F' : Nat → Prop} {ι ι' : Nat → Option Value} {ρ : List (Nat × Nat)} {c : AVal} {u : Value} (h : VRel w F' ι' c u) (hF : ExtF w F' ι' w F ι) (hρ : ∀ p i, look ρ p = some i → ∀ v, ι i = some v → ι' p = some v) : VRel w F ι (ren1 ρ c) u := by
 have closed : ∀ {c : AVal}, VRel w F' ι' c u → shut c = true → VRel w F ι c u := fun h hs => h.extF hF fun id v hi => by rw [zbM id _ hs] at hi; cases hi
 cases c with
 | ptr p o =>
  rw [ren1]
  cases hp : look ρ p with
  | none => exact .top u
  | some i => cases h with | ptr _ _ _ h1 h2 => exact .ptr i o u h1 fun v hv => h2 v (hρ p i hp v hv)
 | eptr p o =>
  rw [ren1]
  cases hp : look ρ p with
  | none => exact .top u
  | some i => cases h with | eptr _ _ _ h1 h2 => exact .eptr i o u h1 fun v hv => h2 v (hρ p i hp v hv)
 | row p =>
  rw [ren1]
  cases hp : look ρ p with
  | none => exact .top u
  | some i => cases h with | row _ _ h1 h2 => exact .row i u h1 fun v hv => h2 v (hρ p i hp v hv)
 | mp p =>
  rw [ren1]
  cases hp : look ρ p with
  | none => exact .top u
  | some i => cases h with | mp _ _ h1 h2 => exact .mp i u h1 fun v hv => h2 v (hρ p i hp v hv)
 | srow p o n =>
  rw [ren1]
  cases hp : look ρ p with
  | none => exact .top u
  | some i => cases h with | srow _ _ _ _ h1 h2 => exact .srow i o n u h1 fun v hv => h2 v (hρ p i hp v hv)
 | full cs n => exact closed h rfl
 | d x => exact closed h rfl
 | und => exact closed h rfl
 | iptr cs o => exact closed h rfl
 | top => exact .top u
 | agg cs =>
  rw [ren1]
  cases hs : shutL cs with
  | true => exact closed h hs
  | false => exact .top u
 | tup cs =>
  rw [ren1]
  cases hs : shutL cs with
  | true => exact closed h hs
  | false => exact .top u
 | fn f cs =>
  rw [ren1]
  cases hs : shutL cs with
  | true => exact closed h hs
  | false => exact .top u
theorem VRel.down1 {w : World} {F F' : Nat → Prop} {ι ι0 : Nat → Option Value} {ρ : List (Nat × Nat)} {c : AVal} {u : Value} (hok : ok1 ρ c = true) (h : VRel w F ι (ren1 ρ c) u) (hF : ExtF w F ι w F' ι0) (hρ : ∀ p v, ι0 p = some v → ∃ i, look ρ p = some i ∧ ι i = some v) : VRel w F' ι0 c u := by
 have closed : ∀ {c : AVal}, VRel w F ι c u → shut c = true → VRel w F' ι0 c u := fun h hs => h.extF hF fun id v hi => by rw [zbM id _ hs] at hi; cases hi
 have key : ∀ {p i : Nat}, look ρ p = some i → ∀ v, ι0 p = some v → ι i = some v := fun hp v hv => by
  obtain ⟨j, h1, h2⟩ := hρ _ v hv
  rw [hp] at h1; cases h1; exact h2
 cases c with
 | ptr p o =>
  obtain ⟨i, hp⟩ := Option.isSome_iff_exists.1 hok
  rw [ren1, hp] at h
  cases h with | ptr _ _ _ h1 h2 => exact .ptr p o u h1 fun v hv => h2 v (key hp v hv)
 | eptr p o =>
  obtain ⟨i, hp⟩ := Option.isSome_iff_exists.1 hok
  rw [ren1, hp] at h
  cases h with | eptr _ _ _ h1 h2 => exact .eptr p o u h1 fun v hv => h2 v (key hp v hv)
 | row p =>
  obtain ⟨i, hp⟩ := Option.isSome_iff_exists.1 hok
  rw [ren1, hp] at h
  cases h with | row _ _ h1 h2 => exact .row p u h1 fun v hv => h2 v (key hp v hv)
 | mp p =>
  obtain ⟨i, hp⟩ := Option.isSome_iff_exists.1 hok
  rw [ren1, hp] at h
  cases h with | mp _ _ h1 h2 => exact .mp p u h1 fun v hv => h2 v (key hp v hv)
 | srow p o n =>
  obtain ⟨i, hp⟩ := Option.isSome_iff_exists.1 hok
  rw [ren1, hp] at h
  cases h with | srow _ _ _ _ h1 h2 => exact .srow p o n u h1 fun v hv => h2 v (key hp v hv)
 | full cs n => exact closed h rfl
 | d x => exact closed h rfl
 | und => exact closed h rfl
 | iptr cs o => exact closed h rfl
 | top => exact .top u
 | agg cs => have hs : shutL cs = true := hok; rw [ren1, hs] at h; exact closed h hs
 | tup cs => have hs : shutL cs = true := hok; rw [ren1, hs] at h; exact closed h hs
 | fn f cs => have hs : shutL cs = true := hok; rw [ren1, hs] at h; exact closed h hs

theorem VRel.up {w : World} {F F' : Nat → Prop} {ι ι' : Nat → Option Value} {ρ : List (Nat × Nat)} {c : AVal} {u : Value} (h : VRel w F' ι' c u) (hF : ExtF w F' ι' w F ι) (hρ : ∀ p i, look ρ p = some i → ∀ v, ι i = some v → ι' p = some v) : VRel w F ι (renV ρ c) u := by
 have closed : ∀ {c : AVal}, VRel w F' ι' c u → shut c = true → VRel w F ι c u := fun h hs => h.extF hF fun id v hi => by rw [zbM id _ hs] at hi; cases hi
 cases c with
 | ptr p o =>
  rw [renV]
  cases hp : look ρ p with
  | none => exact .top u
  | some i => cases h with | ptr _ _ _ h1 h2 => exact .ptr i o u h1 fun v hv => h2 v (hρ p i hp v hv)
 | eptr p o =>
  rw [renV]
  cases hp : look ρ p with
  | none => exact .top u
  | some i => cases h with | eptr _ _ _ h1 h2 => exact .eptr i o u h1 fun v hv => h2 v (hρ p i hp v hv)
 | row p =>
  rw [renV]
  cases hp : look ρ p with
  | none => exact .top u
  | some i => cases h with | row _ _ h1 h2 => exact .row i u h1 fun v hv => h2 v (hρ p i hp v hv)
 | mp p =>
  rw [renV]
  cases hp : look ρ p with
  | none => exact .top u
  | some i => cases h with | mp _ _ h1 h2 => exact .mp i u h1 fun v hv => h2 v (hρ p i hp v hv)
 | srow p o n =>
  rw [renV]
  cases hp : look ρ p with
  | none => exact .top u
  | some i => cases h with | srow _ _ _ _ h1 h2 => exact .srow i o n u h1 fun v hv => h2 v (hρ p i hp v hv)
 | full cs n => exact closed h rfl
 | d x => exact closed h rfl
 | und => exact closed h rfl
 | iptr cs o => exact closed h rfl
 | top => exact .top u
 | agg cs =>
  rw [renV]
  cases hs : shutL cs with
  | true => exact closed h hs
  | false => exact .top u
 | tup cs =>
  rw [renV]
  cases hs : shutL cs with
  | true => exact closed h hs
  | false => exact .top u
 | fn f cs =>
  rw [renV]
  cases hs : shutL cs with
  | true => exact closed h hs
  | false =>
   cases h with
   | fn _ _ C hl hh =>
    refine .fn f _ C (by simpa using hl) fun i c u h1 h2 => ?_
    rw [List.getElem?_map] at h1
    cases hi : cs[i]? with
    | none => rw [hi] at h1; cases h1
    | some c' => rw [hi] at h1; cases h1; exact (hh i c' u hi h2).up1 hF hρ
theorem VRel.down {w : World} {F F' : Nat → Prop} {ι ι0 : Nat → Option Value} {ρ : List (Nat × Nat)} {c : AVal} {u : Value} (hok : okV ρ c = true) (h : VRel w F ι (renV ρ c) u) (hF : ExtF w F ι w F' ι0) (hρ : ∀ p v, ι0 p = some v → ∃ i, look ρ p = some i ∧ ι i = some v) : VRel w F' ι0 c u := by
 have closed : ∀ {c : AVal}, VRel w F ι c u → shut c = true → VRel w F' ι0 c u := fun h hs => h.extF hF fun id v hi => by rw [zbM id _ hs] at hi; cases hi
 have key : ∀ {p i : Nat}, look ρ p = some i → ∀ v, ι0 p = some v → ι i = some v := fun hp v hv => by
  obtain ⟨j, h1, h2⟩ := hρ _ v hv
  rw [hp] at h1; cases h1; exact h2
 cases c with
 | ptr p o =>
  obtain ⟨i, hp⟩ := Option.isSome_iff_exists.1 hok
  rw [renV, hp] at h
  cases h with | ptr _ _ _ h1 h2 => exact .ptr p o u h1 fun v hv => h2 v (key hp v hv)
 | eptr p o =>
  obtain ⟨i, hp⟩ := Option.isSome_iff_exists.1 hok
  rw [renV, hp] at h
  cases h with | eptr _ _ _ h1 h2 => exact .eptr p o u h1 fun v hv => h2 v (key hp v hv)
 | row p =>
  obtain ⟨i, hp⟩ := Option.isSome_iff_exists.1 hok
  rw [renV, hp] at h
  cases h with | row _ _ h1 h2 => exact .row p u h1 fun v hv => h2 v (key hp v hv)
 | mp p =>
  obtain ⟨i, hp⟩ := Option.isSome_iff_exists.1 hok
  rw [renV, hp] at h
  cases h with | mp _ _ h1 h2 => exact .mp p u h1 fun v hv => h2 v (key hp v hv)
 | srow p o n =>
  obtain ⟨i, hp⟩ := Option.isSome_iff_exists.1 hok
  rw [renV, hp] at h
  cases h with | srow _ _ _ _ h1 h2 => exact .srow p o n u h1 fun v hv => h2 v (key hp v hv)
 | full cs n => exact closed h rfl
 | d x => exact closed h rfl
 | und => exact closed h rfl
 | iptr cs o => exact closed h rfl
 | top => exact .top u
 | agg cs => have hs : shutL cs = true := hok; rw [renV, hs] at h; exact closed h hs
 | tup cs => have hs : shutL cs = true := hok; rw [renV, hs] at h; exact closed h hs
 | fn f cs =>
  rw [renV] at h
  cases hs : shutL cs with
  | true => rw [hs] at h; exact closed h hs
  | false =>
   rw [hs] at h
   have hok2 : cs.all (ok1 ρ) = true := by
    have h3 : (shutL cs || cs.all (ok1 ρ)) = true := hok
    rw [hs] at h3; exact h3
   cases h with
   | fn _ _ C hl hh => exact .fn f cs C (by simpa using hl) fun i c u h1 h2 => (hh i (ren1 ρ c) u (by rw [List.getElem?_map, h1]; rfl) h2).down1 (List.all_eq_true.1 hok2 c (List.mem_of_getElem? h1)) hF hρ

theorem BRel.up {w : World} {F F' : Nat → Prop} {ι ι' : Nat → Option Value} {ρ : List (Nat × Nat)} {b : ABlk} {v : Value} (h : BRel w F' ι' b v) (hF : ExtF w F' ι' w F ι) (hρ : ∀ p i, look ρ p = some i → ∀ v, ι i = some v → ι' p = some v) : BRel w F ι (renB ρ b) v := by
 cases b with
 | var cs =>
  obtain ⟨r, C, T, rfl, hc, hl, h⟩ := h
  refine ⟨r, C, T, rfl, hc, by simpa using hl, fun i c u h1 h2 => ?_⟩
  rw [List.getElem?_map] at h1
  cases hi : cs[i]? with
  | none => rw [hi] at h1; cases h1
  | some c' => rw [hi] at h1; cases h1; exact (h i c' u hi h2).up hF hρ
 | row e k n cs =>
  obtain ⟨xs, hown, hl, h⟩ := h
  exact ⟨xs, hown, hl, fun i c u h1 h2 => (h i c u h1 h2).ext hF.mem hF.free⟩
 | rowA e k n cs =>
  obtain ⟨xs, hown, hl, h⟩ := h
  refine ⟨xs, hown, by simpa using hl, fun i c u h1 h2 => ?_⟩
  rw [List.getElem?_map] at h1
  cases hi : cs[i]? with
  | none => rw [hi] at h1; cases h1
  | some c' => rw [hi] at h1; cases h1; exact (h i c' u hi h2).up hF hρ
 | map es =>
  obtain ⟨r, E, clk, rfl, hc, hl, h, h3⟩ := h
  refine ⟨r, E, clk, rfl, hc, by simpa using hl, fun i p m h1 h2 => ?_, h3⟩
  rw [List.getElem?_map] at h1
  cases hi : es[i]? with
  | none => rw [hi] at h1; cases h1
  | some c' => rw [hi] at h1; cases h1; exact ⟨(h i c' m hi h2).1.up hF hρ, (h i c' m hi h2).2.up hF hρ⟩
 | mapx r0 bs0 clk0 es =>
  obtain ⟨E, rfl, hc, hl, h, h3⟩ := h
  refine ⟨E, rfl, hc, by simpa using hl, fun i p m h1 h2 => ?_, h3⟩
  rw [List.getElem?_map] at h1
  cases hi : es[i]? with
  | none => rw [hi] at h1; cases h1
  | some c' => rw [hi] at h1; cases h1; exact ⟨(h i c' m hi h2).1.up hF hρ, (h i c' m hi h2).2.up hF hρ⟩
 | rowx hv e k n cs => exact h.viaX (fun c u h => h.ext hF.mem hF.free) fun _ _ => rfl
 | it o => exact h
theorem BRel.down {w : World} {F F' : Nat → Prop} {ι ι0 : Nat → Option Value} {ρ : List (Nat × Nat)} {b : ABlk} {v : Value} (hok : okB ρ b) (h : BRel w F ι (renB ρ b) v) (hF : ExtF w F ι w F' ι0) (hρ : ∀ p v, ι0 p = some v → ∃ i, look ρ p = some i ∧ ι i = some v) : BRel w F' ι0 b v := by
 cases b with
 | var cs =>
  obtain ⟨r, C, T, rfl, hc, hl, h⟩ := h
  exact ⟨r, C, T, rfl, hc, by simpa using hl, fun i c u h1 h2 => (h i (renV ρ c) u (by rw [List.getElem?_map, h1]; rfl) h2).down (hok c (List.mem_of_getElem? h1)) hF hρ⟩
 | row e k n cs =>
  obtain ⟨xs, hown, hl, h⟩ := h
  exact ⟨xs, hown, hl, fun i c u h1 h2 => (h i c u h1 h2).ext hF.mem hF.free⟩
 | rowA e k n cs =>
  obtain ⟨xs, hown, hl, h⟩ := h
  exact ⟨xs, hown, by simpa using hl, fun i c u h1 h2 => (h i (renV ρ c) u (by rw [List.getElem?_map, h1]; rfl) h2).down (hok c (List.mem_of_getElem? h1)) hF hρ⟩
 | map es =>
  obtain ⟨r, E, clk, rfl, hc, hl, h, h3⟩ := h
  refine ⟨r, E, clk, rfl, hc, by simpa using hl, fun i p m h1 h2 => ?_, h3⟩
  have hk := hok p (List.mem_of_getElem? h1)
  have := h i (renV ρ p.1, renV ρ p.2) m (by rw [List.getElem?_map, h1]; rfl) h2
  exact ⟨this.1.down hk.1 hF hρ, this.2.down hk.2 hF hρ⟩
 | mapx r0 bs0 clk0 es =>
  obtain ⟨E, rfl, hc, hl, h, h3⟩ := h
  refine ⟨E, rfl, hc, by simpa using hl, fun i p m h1 h2 => ?_, h3⟩
  have hk := hok p (List.mem_of_getElem? h1)
  have := h i (renV ρ p.1, renV ρ p.2) m (by rw [List.getElem?_map, h1]; rfl) h2
  exact ⟨this.1.down hk.1 hF hρ, this.2.down hk.2 hF hρ⟩
 | rowx hv e k n cs => exact h.viaX (fun c u h => h.ext hF.mem hF.free) fun _ _ => rfl
 | it o => exact h

section
variable {P : Program} {nt : Nat} {T : List Nat} {e : Env} {h : Heap} {o : Oper} {tab : TTab}
theorem zi8 {f : FuncId} {args : Array Operand} {ats : Array TypeId} {cs0 cs : List AVal} {h0 : Heap} {d : Option Tmp} {Q : AVal → Heap → Prop} (ρ : List (Nat × Nat)) (ho : o.op = .call { callee := .value (.func f), args := args, argTypes := ats }) (hdst : o.dst = d) (hx : aevs e args.toList = some cs0)
  (hcs : cs.map (renV ρ) = cs0) (hok : ∀ c ∈ cs, okV ρ c = true) (hl : Lent ρ h h0) (hdom : ∀ p i, look ρ p = some i → 1000 ≤ p ∧ (look h0 p).isSome = true) (hinj : ∀ p p' i, look ρ p = some i → look ρ p' = some i → p = p')
  (H : ACall P f cs h0 Q) (hd : dstOk nt d = true) (hT : ∀ p i, look ρ p = some i → T.contains i = true) (hq : ∀ c h', Q c h' → ∀ p i, look ρ p = some i → (look h' p).isSome = true) :
  AEff P nt T e h o (fun e' h2 => ∃ c h', Q c h' ∧ e' = aput d (renV ρ c) e ∧ h2 = renH ρ h' ++ h) := fun Pm F w0 pin ι a w R K Qx hK => by
 unfold Oper.wp
 rw [zbH H.1 ho, Oper.upon_enter, hdst]
 have HR := R.heap
 let ι0 : Nat → Option Value := fun p => match look ρ p with | some i => ι i | none => none
 have h0some : ∀ p v, ι0 p = some v → ∃ i, look ρ p = some i ∧ ι i = some v := fun p v hv => by
  simp only [ι0] at hv
  cases hp : look ρ p with
  | none => rw [hp] at hv; cases hv
  | some i => rw [hp] at hv; exact ⟨i, rfl, hv⟩
 have h0of : ∀ p i, look ρ p = some i → ι0 p = ι i := fun p i hp => by simp only [ι0, hp]
 let F' : Nat → Prop := fun r => F r ∨ ∃ id v, ι id = some v ∧ blockOf v = some r ∧ ∀ p, look ρ p ≠ some id
 let Pm' : Nat → Prop := fun r => w.heap.size ≤ r ∨ ∃ p v, ι0 p = some v ∧ blockOf v = some r
 have hFdown : ExtF w F ι w F' ι0 := ⟨fun _ _ _ => rfl, fun r _ hf => ⟨fun hc => hc.elim hf.1 fun ⟨id, v, h1, h2, _⟩ => hf.2 id v h1 h2, fun p v hv hb => by
  obtain ⟨i, _, h2⟩ := h0some p v hv
  exact hf.2 i v h2 hb⟩⟩
 have HC : HRel Pm' F' w ι0 ι0 h0 w := by
  refine ⟨fun p b hb => ?_, fun p v hv => ?_, fun p q v v' r hpq hv hv' hr => ?_, fun p v r hv hr => .inr ⟨p, v, hv, hr⟩, rfl, rfl, rfl, Nat.le_refl _, fun _ _ _ => rfl, fun r hr => .inl hr, fun p v _ hv => hv, fun p v r hv hr hF' => ?_, fun r hr => ?_⟩
  ·obtain ⟨i, h1, h2, h3⟩ := hl.get hb
   obtain ⟨v, hv, hB⟩ := HR.blk i _ h2
   exact ⟨v, by rw [h0of p i h1]; exact hv, hB.down h3 hFdown h0some⟩
  ·obtain ⟨i, h1, h2⟩ := h0some p v hv
   exact Option.isSome_iff_exists.1 (hdom p i h1).2
  ·obtain ⟨i, h1, h2⟩ := h0some p v hv
   obtain ⟨j, h3, h4⟩ := h0some q v' hv'
   exact HR.inj i j v v' r (by rintro rfl; exact hpq (hinj p q i h1 h3)) h2 h4 hr
  ·obtain ⟨i, h1, h2⟩ := h0some p v hv
   rcases hF' with h3 | ⟨id, v', h3, h4, h5⟩
   ·exact HR.nf i v r h2 hr h3
   ·have : i ≠ id := by rintro rfl; exact h5 p h1
    exact HR.inj i id v v' r this h2 h3 hr h4
  ·rcases hr with h1 | ⟨id, v, h1, h2, _⟩
   ·exact Nat.lt_of_lt_of_le (HR.forb r h1) HR.size
   ·exact HR.lt h1 h2
 have HA : ArgsRel w F' ι0 cs (args.map a.eval) := by
  have := zbD R.env hx
  refine ⟨by rw [this.1, ← hcs, List.length_map], fun i c u h1 h2 => (this.2 i (renV ρ c) u (by rw [← hcs, List.getElem?_map, h1]; rfl) h2).down (hok c (List.mem_of_getElem? h1)) hFdown h0some⟩
 refine (H.2 Pm' F' w ι0 ι0 _ w HC HA).mono ?_
 rintro x w' ⟨u, c, h', ι', rfl, hQ, hH, hv⟩
 have hsz := hH.size
 have hkeep : ∀ r, r < w.heap.size → (∀ p i v, look ρ p = some i → ι i = some v → blockOf v ≠ some r) → w'.heap[r]? = w.heap[r]? := fun r hr hn => hH.keep r hr fun hp => by
  rcases hp with h1 | ⟨p, v, h1, h2⟩
  ·omega
  ·obtain ⟨i, h3, h4⟩ := h0some p v h1
   exact hn p i v h3 h4 h2
 have hpin : ∀ p i, look ρ p = some i → ∀ v, ι i = some v → ι' p = some v := fun p i hp v hv => by
  obtain ⟨b, hb⟩ := Option.isSome_iff_exists.1 (hq c h' hQ p i hp)
  obtain ⟨v', hv', _⟩ := hH.blk p b hb
  have := hH.pinned p v' (hdom p i hp).1 hv'
  rw [h0of p i hp, hv] at this
  cases this
  exact hv'
 have hFup : ExtF w' F' ι' w' F ι := ⟨fun _ _ _ => rfl, fun r _ hf => ⟨fun hc => hf.1 (.inl hc), fun id v hid hb => by
  by_cases hex : ∃ p, look ρ p = some id
  ·obtain ⟨p, hp⟩ := hex
   exact hf.2 p v (hpin p id hp v hid) hb
  ·exact hf.1 (.inr ⟨id, v, hid, hb, fun p hp => hex ⟨p, hp⟩⟩)⟩⟩
 have hext : Ext w F ι w' ι := ⟨fun r hr hf => hkeep r hr fun p i v hp hi hb => hf.2 i v hi hb, fun r _ hf => hf⟩
 have hheap : HRel Pm F w0 pin ι (renH ρ h' ++ h) w' := by
  refine ⟨fun id b hb => ?_, fun id v hv => ?_, HR.inj, HR.pm, hH.os.trans HR.os, hH.tape.trans HR.tape, hH.output.trans HR.output, Nat.le_trans HR.size hsz, fun r hr hn => ?_, HR.fresh, HR.pinned, HR.nf, HR.forb⟩
  ·rw [zI] at hb
   cases hl2 : look (renH ρ h') id with
   | some b' =>
    rw [hl2] at hb
    cases hb
    obtain ⟨p, b0, h1, h2, h3⟩ := (zcT hinj h' id).1 b hl2
    subst h3
    obtain ⟨v', hv', hB⟩ := hH.blk p b0 h2
    have h4 := hH.pinned p v' (hdom p id h1).1 hv'
    rw [h0of p id h1] at h4
    exact ⟨v', h4, hB.up hFup hpin⟩
   | none =>
    rw [hl2] at hb
    have hb2 : look h id = some b := hb
    have hno : ∀ p, look ρ p ≠ some id := fun p hp => by
     have h1 := (zcT hinj h' id).2 hl2 p hp
     have h2 := hq c h' hQ p id hp
     rw [h1] at h2; cases h2
    obtain ⟨v, hv, hB⟩ := HR.blk id b hb2
    refine ⟨v, hv, hB.ext hext (fun _ _ h => h) fun r hr => hkeep r (HR.lt hv hr) fun p i v2 hp hi hb3 => ?_⟩
    exact HR.inj i id v2 v r (by rintro rfl; exact hno p hp) hi hv hb3 hr
  ·obtain ⟨b, hb⟩ := HR.dom id v hv
   rw [zI]
   cases hl2 : look (renH ρ h') id with
   | some b' => exact ⟨b', rfl⟩
   | none => exact ⟨b, hb⟩
  ·rw [hkeep r (Nat.lt_of_lt_of_le hr HR.size) fun p i v hp hi hb => hn (HR.pm i v r hi hb)]
   exact HR.keep r hr hn
 have R2 : Rel Pm F w0 pin ι nt e (renH ρ h' ++ h) a w' := ⟨hheap, R.env.mono fun _ _ _ _ hv => hv.ext hext fun _ _ _ h => h, R.defers.ext hext, R.size⟩
 exact hK ι _ _ _ w' ⟨c, h', hQ, rfl, rfl⟩ (R2.put hd (hv.up hFup hpin)) ⟨⟨hH.os, hH.tape, hH.output, hsz, fun r hr hne => hkeep r hr fun p i v hp hi hb => hne i (List.contains_iff_mem.1 (hT p i hp)) v hi hb⟩, fun id _ v r h1 h2 _ => ⟨v, h1, h2⟩⟩ (zl _ _ _)
end
end Go.Proofs.YtmmdkjanmegjdaaGreat.Ab

namespace Go.Proofs.YtmmdkjanmegjdaaGreat
set_option linter.unusedSectionVars false
open Go.RowKit Go.Sort

section
variable {κ ν : Type} [DecidableEq κ]
def mget : List (κ × ν) → κ → Option (Nat × ν)
 | [], _ => none
 | (k', v) :: r, k => if k = k' then some (0, v) else (mget r k).map fun x => (x.1 + 1, x.2)
def aget (l : List (κ × ν)) (k : κ) : Option ν := (mget l k).map (·.2)
def aput (l : List (κ × ν)) (k : κ) (v : ν) : List (κ × ν) := match mget l k with
 | some (i, _) => l.set i (k, v)
 | none => l ++ [(k, v)]
def adel (l : List (κ × ν)) (k : κ) : List (κ × ν) := match mget l k with
 | some (i, _) => l.eraseIdx i
 | none => l

theorem zcR {l : List (κ × ν)} {k : κ} {i : Nat} {v : ν} (h : mget l k = some (i, v)) : l[i]? = some (k, v) := by
 induction l generalizing i with
 | nil => cases h
 | cons p r ih =>
  obtain ⟨k', v'⟩ := p
  unfold mget at h
  split at h
  ·rename_i e
   injection h with h
   injection h with h1 h2
   subst h1 h2 e
   rfl
  ·cases hr : mget r k with
   | none => simp [hr] at h
   | some x =>
    simp only [hr, Option.map_some, Option.some.injEq, Prod.mk.injEq] at h
    obtain ⟨rfl, rfl⟩ := h
    simpa using ih hr
theorem zdV {l : List (κ × ν)} {k : κ} (h : mget l k = none) : ∀ p ∈ l, p.1 ≠ k := by
 induction l with
 | nil => intro p hp; cases hp
 | cons q r ih =>
  obtain ⟨k', v'⟩ := q
  unfold mget at h
  split at h
  ·cases h
  ·rename_i hne
   intro p hp
   rcases List.mem_cons.1 hp with rfl | hp
   ·exact fun e => hne e.symm
   ·exact ih (by simpa using h) p hp
theorem zd5 {l : List (κ × ν)} {k : κ} (h : aget l k = none) : ∀ p ∈ l, p.1 ≠ k := zdV (by simpa [aget] using h)
theorem z8 {l : List (κ × ν)} {k : κ} {v : ν} (h : aget l k = some v) : (k, v) ∈ l := by
 unfold aget at h
 cases hm : mget l k with
 | none => simp [hm] at h
 | some x =>
  obtain ⟨i, u⟩ := x
  simp [hm] at h
  subst h
  exact List.mem_of_getElem? (zcR hm)
theorem zaa {l : List (κ × ν)} (hn : (l.map (·.1)).Nodup) {k : κ} {v : ν} (h : (k, v) ∈ l) : aget l k = some v := by
 cases hg : aget l k with
 | none => exact absurd rfl (zd5 hg _ h)
 | some u =>
  have h2 := z8 hg
  have : ∀ {l : List (κ × ν)}, (l.map (·.1)).Nodup → ∀ {u v : ν}, (k, u) ∈ l → (k, v) ∈ l → u = v := by
   intro l
   induction l with
   | nil => intro _ u v h; cases h
   | cons p r ih =>
    intro hn u v hu hv
    rw [List.map_cons, List.nodup_cons] at hn
    rcases List.mem_cons.1 hu with hu | hu
    ·rcases List.mem_cons.1 hv with hv | hv
     ·rw [← hu] at hv; injection hv with _ h; exact h.symm
     ·exact absurd (List.mem_map.2 ⟨_, hv, by rw [← hu]⟩) hn.1
    ·rcases List.mem_cons.1 hv with hv | hv
     ·exact absurd (List.mem_map.2 ⟨_, hu, by rw [← hv]⟩) hn.1
     ·exact ih hn.2 hu hv
  rw [this hn h2 h]
theorem zkC {l : List (κ × ν)} {k : κ} {u v : ν} {i : Nat} (h : l[i]? = some (k, u)) : (l.set i (k, v)).map (·.1) = l.map (·.1) := by
 apply List.ext_getElem?
 intro j
 rw [List.getElem?_map, List.getElem?_set, List.getElem?_map]
 split
 ·rename_i e
  subst e
  obtain ⟨hlt, h2⟩ := List.getElem?_eq_some_iff.1 h
  simp [hlt, h2]
 ·rfl
theorem zbm {l : List (κ × ν)} {k : κ} {v : ν} (hn : (l.map (·.1)).Nodup) : ((aput l k v).map (·.1)).Nodup := by
 unfold aput
 cases h : mget l k with
 | some x => obtain ⟨i, u⟩ := x; simp only; rw [zkC (zcR h)]; exact hn
 | none =>
  simp only [List.map_append, List.map_cons, List.map_nil]
  rw [List.nodup_append]
  refine ⟨hn, by simp, ?_⟩
  intro a ha b hb
  simp at hb
  subst hb
  obtain ⟨p, hp, rfl⟩ := List.mem_map.1 ha
  exact zdV h p hp
theorem zip {l : List (κ × ν)} {k : κ} (hn : (l.map (·.1)).Nodup) : ((adel l k).map (·.1)).Nodup := by
 unfold adel
 cases h : mget l k with
 | some x => obtain ⟨i, u⟩ := x; exact hn.sublist ((List.eraseIdx_sublist l i).map _)
 | none => exact hn
theorem zbO {l : List (κ × ν)} (hn : (l.map (·.1)).Nodup) {k : κ} {v : ν} {p : κ × ν} : p ∈ aput l k v ↔ p = (k, v) ∨ p.1 ≠ k ∧ p ∈ l := by
 have hnd := zbm (k := k) (v := v) hn
 unfold aput at *
 cases h : mget l k with
 | none =>
  have hnone := zdV h
  simp only [List.mem_append, List.mem_singleton]
  constructor
  ·rintro (h1 | h1)
   ·exact .inr ⟨hnone p h1, h1⟩
   ·exact .inl h1
  ·rintro (h1 | ⟨_, h1⟩)
   ·exact .inr h1
   ·exact .inl h1
 | some x =>
  obtain ⟨i, u⟩ := x
  have hi := zcR h
  have hlt : i < l.length := (List.getElem?_eq_some_iff.1 hi).1
  simp only [h] at hnd
  simp only
  constructor
  ·intro hp
   by_cases hk : p.1 = k
   ·left
    have h1 : (k, v) ∈ l.set i (k, v) := List.mem_of_getElem? (i := i) (by rw [List.getElem?_set]; simp [hlt])
    have e1 := zaa hnd h1
    have e2 := zaa hnd (k := k) (v := p.2) (by rw [show (k, p.2) = p from by rw [← hk]]; exact hp)
    rw [e1] at e2
    injection e2 with e2
    rw [← hk, e2]
   ·right
    refine ⟨hk, ?_⟩
    obtain ⟨j, hj⟩ := List.getElem?_of_mem hp
    rw [List.getElem?_set] at hj
    by_cases e : i = j
    ·simp [e] at hj
     exact absurd (by rw [← hj.2]) hk
    ·rw [if_neg e] at hj; exact List.mem_of_getElem? hj
  ·rintro (h1 | ⟨hk, h1⟩)
   ·subst h1
    exact List.mem_of_getElem? (i := i) (by rw [List.getElem?_set]; simp [hlt])
   ·obtain ⟨j, hj⟩ := List.getElem?_of_mem h1
    refine List.mem_of_getElem? (i := j) ?_
    rw [List.getElem?_set]
    split
    ·rename_i e
     subst e
     rw [hi] at hj
     injection hj with hj
     exact absurd (by rw [← hj]) hk
    ·exact hj
theorem zhs {l : List (κ × ν)} (hn : (l.map (·.1)).Nodup) {k : κ} {v : ν} : aget l k = some v ↔ (k, v) ∈ l := ⟨z8, zaa hn⟩
theorem zfM {l : List (κ × ν)} (hn : (l.map (·.1)).Nodup) {k k' : κ} {v : ν} : aget (aput l k v) k' = if k' = k then some v else aget l k' := by
 apply Option.ext
 intro u
 rw [zhs (zbm hn), zbO hn]
 split
 ·rename_i e
  subst e
  simp [eq_comm]
 ·rename_i e
  rw [zhs hn]
  simp [e]
end
end Go.Proofs.YtmmdkjanmegjdaaGreat

namespace Go.Proofs.YtmmdkjanmegjdaaGreat
set_option linter.unusedSectionVars false
open Go.RowKit Go.Sort Go.ChangeMaps

structure KeyLaw (P : Program) (K : TypeId) {κ : Type} [DecidableEq κ] (ek : κ → Value) (ok : κ → Prop) : Prop where
 check : ∀ b k w, ok k → (Instr.checkKey b 10000 K (ek k)).run P w = .ok () w
 find : ∀ (k : κ) (es : List MapEntry) (l : List (κ × Value)), ok k → (∀ p ∈ l, ok p.1) → es.map (fun e => (e.key, e.val)) = l.map (fun p => (ek p.1, p.2)) → ∀ w, (Instr.findKey K (ek k) es).run P w = .ok (mget l k) w
 bits : ∀ a, ok a → Instr.sameBits 10000 (ek a) (ek a) = true

theorem KeyLaw.of_agg {P : Program} {K : TypeId} {κ : Type} [DecidableEq κ] {ek : κ → Value} {ok : κ → Prop} {fs : Array Field} (hd : P.underlying K = some (.struct fs)) (hagg : ∀ k, ∃ cs, ek k = .agg cs)
  (check : ∀ b k w, ok k → (Instr.checkKey b 10000 K (ek k)).run P w = .ok () w) (eql : ∀ a b w, ok a → ok b → (Op.equal K (ek a) (ek b)).run P w = .ok (decide (a = b)) w)
  (bits : ∀ a, ok a → Instr.sameBits 10000 (ek a) (ek a) = true) : KeyLaw P K ek ok where
 check := check
 bits := bits
 find := by
  intro k es l hk hl he w
  have ask : ∀ (es : List MapEntry) (l : List (κ × Value)) (i : Nat), (∀ p ∈ l, ok p.1) → es.map (fun e => (e.key, e.val)) = l.map (fun p => (ek p.1, p.2)) →
    (Instr.findAsking K (ek k) es i).run P w = .ok ((mget l k).map fun x => (i + x.1, x.2)) w := by
   intro es
   induction es with
   | nil =>
    intro l i _ h
    cases l with
    | nil => rfl
    | cons p r => simp at h
   | cons e es ih =>
    intro l i hl h
    cases l with
    | nil => simp at h
    | cons p r =>
     obtain ⟨k', v⟩ := p
     simp only [List.map_cons, List.cons.injEq, Prod.mk.injEq] at h
     obtain ⟨⟨h1, h2⟩, h3⟩ := h
     unfold Instr.findAsking
     rw [Sem.run_bind, h1, eql k k' w hk (hl (k', v) (by simp))]
     simp only [Result.andThen_ok]
     unfold mget
     by_cases e : k = k'
     ·simp [e, h2]
     ·simp only [e, decide_false, Bool.false_eq_true, if_false]
      rw [ih r (i + 1) (fun p hp => hl p (by simp [hp])) h3]
      cases mget r k with
      | none => rfl
      | some x => simp; omega
  unfold Instr.findKey
  rw [Sem.run_bind, run_underlying hd]
  simp only [Result.andThen_ok]
  cases es with
  | nil =>
   cases l with
   | nil => simp [Instr.findNow, mget]
   | cons p r => simp at he
  | cons e es =>
   obtain ⟨cs, hcs⟩ := hagg k
   have hn : Instr.findNow (.struct fs) (ek k) (e :: es) 0 = none := by
    unfold Instr.findNow
    rw [hcs]
    cases e.key <;> rfl
   rw [hn]
   simp only
   rw [ask (e :: es) l 0 hl he]
   cases mget l k with
   | none => rfl
   | some x => simp

section
variable {P : Program} {κ ν : Type} [DecidableEq κ] {ek : κ → Value} {ev : ν → Value} {w w' : World} {B : Nat} {l : List (κ × ν)}

def MapIs (ek : κ → Value) (ev : ν → Value) (w : World) (B : Nat) (l : List (κ × ν)) : Prop :=
 ∃ es clock, w.heap[B]? = some (.map es clock) ∧ es.toList.map (fun e => (e.key, e.val)) = l.map (fun p => (ek p.1, ev p.2)) ∧ (∀ e ∈ es.toList, e.born < clock) ∧ (es.toList.map (·.born)).Pairwise (· < ·) ∧ (l.map (·.1)).Nodup

theorem MapIs.nodup (h : MapIs ek ev w B l) : (l.map (·.1)).Nodup := by obtain ⟨_, _, _, _, _, _, h⟩ := h; exact h
theorem MapIs.lt (h : MapIs ek ev w B l) : B < w.heap.size := by
 obtain ⟨_, _, h, _⟩ := h
 exact (Array.getElem?_eq_some_iff.1 h).1
theorem MapIs.of_block (h : MapIs ek ev w B l) (hb : w'.heap[B]? = w.heap[B]?) : MapIs ek ev w' B l := by
 obtain ⟨es, clock, h1, h2⟩ := h
 exact ⟨es, clock, hb.trans h1, h2⟩
theorem MapIs.keep (h : MapIs ek ev w B l) (hb : Below w.heap.size w w') : MapIs ek ev w' B l := h.of_block (hb.block B h.lt)
theorem MapIs.grown {row : Option Nat} (h : MapIs ek ev w B l) (hg : w.grownBy w' row) (hr : some B ≠ row) : MapIs ek ev w' B l := h.of_block (hg.block B h.lt hr)
theorem MapIs.alloc (h : MapIs ek ev w B l) (o : Obj) : MapIs ek ev (w.alloc o) B l := h.of_block (Below.heap_alloc w o B h.lt)
theorem MapIs.drew (h : MapIs ek ev w B l) : MapIs ek ev w.drew B l := h
theorem MapIs.drewN (h : MapIs ek ev w B l) (n : Nat) : MapIs ek ev (w.drewN n) B l := h
theorem MapIs.setCell (h : MapIs ek ev w B l) (a : Addr) (u : Value) : MapIs ek ev (w.setCell a u) B l := by
 obtain ⟨es, clock, h1, h2⟩ := h
 refine ⟨es, clock, ?_, h2⟩
 by_cases e : B = a.block
 ·simp only [World.setCell, Array.getElem?_modify]
  rw [if_pos e.symm, h1]; rfl
 ·rw [Below.heap_setCell w a u B e]; exact h1
theorem MapIs.made (w : World) : MapIs ek ev (w.alloc (.map #[] 0)) w.heap.size [] :=
 ⟨#[], 0, heap_alloc_new w _, rfl, by simp, by simp, by simp⟩
theorem MapIs.find {K : TypeId} {ok : κ → Prop} (h : MapIs ek ev w B l) (law : KeyLaw P K ek ok) {k : κ} (hk : ok k) (hl : ∀ p ∈ l, ok p.1) :
  ∃ es clock, w.heap[B]? = some (.map es clock) ∧ (∀ W, (Instr.findKey K (ek k) es.toList).run P W = .ok ((mget l k).map fun x => (x.1, ev x.2)) W) ∧ (∀ b W, (Instr.checkKey b 10000 K (ek k)).run P W = .ok () W) := by
 obtain ⟨es, clock, h1, h2, _⟩ := h
 refine ⟨es, clock, h1, fun W => ?_, fun b W => law.check b k W hk⟩
 have e : es.toList.map (fun e => (e.key, e.val)) = (l.map (fun p => (p.1, ev p.2))).map (fun p => (ek p.1, p.2)) := by rw [h2, List.map_map]; rfl
 rw [law.find k es.toList (l.map (fun p => (p.1, ev p.2))) hk (by intro p hp; obtain ⟨q, hq, rfl⟩ := List.mem_map.1 hp; exact hl q hq) e W]
 congr 1
 have : ∀ l : List (κ × ν), mget (l.map fun p => (p.1, ev p.2)) k = (mget l k).map fun x => (x.1, ev x.2) := by
  intro l
  induction l with
  | nil => rfl
  | cons p r ih =>
   obtain ⟨k', v⟩ := p
   simp only [List.map_cons, mget]
   split
   ·rfl
   ·rw [ih]; cases mget r k <;> rfl
 exact this l

theorem MapIs.lookup_ok {T K E : TypeId} {ok : κ → Prop} (h : MapIs ek ev w B l) (law : KeyLaw P K ek ok) (hT : P.underlying T = some (.map K E)) {z : Value} (hz : ∀ W, (zeroValue E).run P W = .ok z W) {k : κ} (hk : ok k) (hl : ∀ p ∈ l, ok p.1) :
  (Instr.lookup T (.map (some B)) (ek k) true).run P w = .ok (.tuple #[((aget l k).map ev).getD z, .bool (aget l k).isSome]) w := by
 obtain ⟨es, clock, h1, hf, hc⟩ := h.find law hk hl
 simp only [Instr.lookup, Sem.run_bind, run_underlying hT, Result.andThen_ok, MapKept.run_getObj_map h1, Sem.run_pure, hc, hf]
 unfold aget
 cases mget l k with
 | none => simp [hz]
 | some x => simp
theorem MapIs.lookup {T K E : TypeId} {ok : κ → Prop} (h : MapIs ek ev w B l) (law : KeyLaw P K ek ok) (hT : P.underlying T = some (.map K E)) {z : Value} (hz : ∀ W, (zeroValue E).run P W = .ok z W) {k : κ} (hk : ok k) (hl : ∀ p ∈ l, ok p.1) :
  (Instr.lookup T (.map (some B)) (ek k) false).run P w = .ok (((aget l k).map ev).getD z) w := by
 obtain ⟨es, clock, h1, hf, hc⟩ := h.find law hk hl
 simp only [Instr.lookup, Sem.run_bind, run_underlying hT, Result.andThen_ok, MapKept.run_getObj_map h1, Sem.run_pure, hc, hf]
 unfold aget
 cases mget l k with
 | none => simp [hz]
 | some x => simp

theorem zaA {es : Array MapEntry} {clock : Nat} (hb : w.heap[B]? = some (.map es clock)) (o : Obj) : w.grownBy (setBlock w B o) (some B) :=
 ⟨rfl, rfl, rfl, by simp [setBlock], fun k hk hne => heap_setBlock_other hb o (fun e => hne (by rw [e]))⟩
theorem zh3 {es : Array MapEntry} {i : Nat} (g : MapEntry → MapEntry) : (es.modify i g).toList = es.toList.modify i g := by simp
theorem zet {α : Type} (l : List α) (i : Nat) (g : α → α) {x : α} (h : l[i]? = some x) : l.modify i g = l.set i (g x) := by
 apply List.ext_getElem?
 intro j
 rw [List.getElem?_modify, List.getElem?_set]
 by_cases e : i = j
 ·subst e
  obtain ⟨hlt, h2⟩ := List.getElem?_eq_some_iff.1 h
  simp [hlt, h2]
 ·simp [e]

theorem MapIs.update {T K E : TypeId} {ok : κ → Prop} (h : MapIs ek ev w B l) (law : KeyLaw P K ek ok) (hT : P.underlying T = some (.map K E)) {k : κ} (hk : ok k) (hl : ∀ p ∈ l, ok p.1) (v : ν) :
  ∃ w', (Instr.mapUpdate T (.map (some B)) (ek k) (ev v)).run P w = .ok () w' ∧ MapIs ek ev w' B (aput l k v) ∧ w.grownBy w' (some B) ∧ w'.heap.size = w.heap.size := by
 have hn := zbm (k := k) (v := v) h.nodup
 obtain ⟨es, clock, h1, hf, hc⟩ := h.find law hk hl
 obtain ⟨es', clock', h1', h2, h3, h4, h5⟩ := h
 rw [h1] at h1'
 injection h1' with h1'
 injection h1' with e1 e2
 subst e1 e2
 simp only [Instr.mapUpdate, Sem.run_bind, run_underlying hT, Result.andThen_ok, MapKept.run_getObj_map h1, hc, hf]
 unfold aput at *
 cases hm : mget l k with
 | none =>
  simp only [Option.map_none]
  refine ⟨setBlock w B (.map (es.push { key := ek k, val := ev v, born := clock }) (clock + 1)), by rw [MapKept.run_setObj_map _ h1]; rfl, ?_, zaA h1 _, by simp [setBlock]⟩
  refine ⟨_, _, heap_setBlock_same h1 _, ?_, ?_, ?_, by simpa [hm] using hn⟩
  ·simp [h2]
  ·intro e he
   simp at he
   rcases he with he | rfl
   ·have := h3 e (by simpa using he); omega
   ·simp
  ·simp only [Array.toList_push, List.map_append, List.map_cons, List.map_nil]
   rw [List.pairwise_append]
   refine ⟨h4, by simp, ?_⟩
   intro a ha b hb
   simp at hb
   subst hb
   obtain ⟨e, he, rfl⟩ := List.mem_map.1 ha
   have := h3 e he
   omega
 | some x =>
  obtain ⟨i, u⟩ := x
  simp only [Option.map_some]
  have hi := zcR hm
  have hie : (es.toList.map (fun e => (e.key, e.val)))[i]? = some (ek k, ev u) := by rw [h2, List.getElem?_map, hi]; rfl
  rw [List.getElem?_map] at hie
  cases hee : es.toList[i]? with
  | none => simp [hee] at hie
  | some e0 =>
   simp only [hee, Option.map_some, Option.some.injEq, Prod.mk.injEq] at hie
   have hes : es[i]? = some e0 := by rw [← Array.getElem?_toList]; exact hee
   have hstay : (Instr.keyThatStays (((es[i]?).map (·.key)).getD (ek k)) (ek k)).run P w = .ok (ek k) w := by
    rw [hes]
    simp only [Option.map_some, Option.getD_some, hie.1, Instr.keyThatStays, law.bits k hk, if_true, Sem.run_pure]
   rw [Sem.run_bind, hstay]
   simp only [Result.andThen_ok]
   refine ⟨setBlock w B (.map (es.modify i fun e => { e with key := ek k, val := ev v }) clock), by rw [MapKept.run_setObj_map _ h1]; rfl, ?_, zaA h1 _, by simp [setBlock]⟩
   have hmod : (es.modify i fun e => { e with key := ek k, val := ev v }).toList = es.toList.set i { e0 with key := ek k, val := ev v } := by
    rw [zh3, zet _ _ _ hee]
   refine ⟨_, _, heap_setBlock_same h1 _, ?_, ?_, ?_, by simpa [hm] using hn⟩
   ·rw [hmod, List.map_set, h2, List.map_set]
   ·rw [hmod]
    intro e he
    obtain ⟨j, hj⟩ := List.getElem?_of_mem he
    rw [List.getElem?_set] at hj
    by_cases e2 : i = j
    ·subst e2
     have hlt := (List.getElem?_eq_some_iff.1 hee).1
     simp at hlt
     simp [hlt] at hj
     subst hj
     exact h3 e0 (List.mem_of_getElem? hee)
    ·rw [if_neg e2] at hj
     exact h3 e (List.mem_of_getElem? hj)
   ·rw [hmod, List.map_set]
    have : (es.toList.map (·.born)).set i e0.born = es.toList.map (·.born) := by
     apply List.ext_getElem?
     intro j
     rw [List.getElem?_set]
     by_cases e2 : i = j
     ·subst e2
      have hlt := (List.getElem?_eq_some_iff.1 hee).1
      simp at hlt
      obtain ⟨_, h9⟩ := Array.getElem?_eq_some_iff.1 hes
      simp [hlt, h9]
     ·rw [if_neg e2]
    simpa [this] using h4

theorem map_eraseIdx' {α β : Type} (f : α → β) : ∀ (l : List α) (i : Nat), (l.eraseIdx i).map f = (l.map f).eraseIdx i
 | [], _ => by simp
 | a :: r, 0 => by simp
 | a :: r, i + 1 => by simp [map_eraseIdx' f r i]
theorem MapIs.delete {T K E ty : TypeId} {ok : κ → Prop} {tk : TypeId} (h : MapIs ek ev w B l) (law : KeyLaw P K ek ok) (hT : P.underlying T = some (.map K E)) {k : κ} (hk : ok k) (hl : ∀ p ∈ l, ok p.1) :
  ∃ w', (Builtin.delete_ #[T, tk] ty #[.map (some B), ek k]).run P w = .ok (.tuple #[]) w' ∧ MapIs ek ev w' B (adel l k) ∧ w.grownBy w' (some B) ∧ w'.heap.size = w.heap.size := by
 have hn := zip (k := k) h.nodup
 obtain ⟨es, clock, h1, hf, hc⟩ := h.find law hk hl
 obtain ⟨es', clock', h1', h2, h3, h4, h5⟩ := h
 rw [h1] at h1'
 injection h1' with h1'
 injection h1' with e1 e2
 subst e1 e2
 have hg1 : (#[T, tk] : Array TypeId)[0]? = some T := rfl
 have hg2 : (#[Value.map (some B), ek k] : Array Value)[0]? = some (.map (some B)) := rfl
 have hg3 : (#[Value.map (some B), ek k] : Array Value)[1]? = some (ek k) := rfl
 simp only [Builtin.delete_, hg1, hg2, hg3, Sem.run_bind, run_underlying hT, Result.andThen_ok, MapKept.run_getObj_map h1, hc, hf]
 unfold adel at *
 cases hm : mget l k with
 | none =>
  simp only [Option.map_none]
  refine ⟨setBlock w B (.map es clock), by rw [Sem.run_bind, MapKept.run_setObj_map _ h1]; rfl, ?_, zaA h1 _, by simp [setBlock]⟩
  exact ⟨_, _, heap_setBlock_same h1 _, h2, h3, h4, h5⟩
 | some x =>
  obtain ⟨i, u⟩ := x
  simp only [Option.map_some]
  refine ⟨setBlock w B (.map (es.eraseIdxIfInBounds i) clock), by rw [Sem.run_bind, MapKept.run_setObj_map _ h1]; rfl, ?_, zaA h1 _, by simp [setBlock]⟩
  have he : (es.eraseIdxIfInBounds i).toList = es.toList.eraseIdx i := by simp
  refine ⟨_, _, heap_setBlock_same h1 _, ?_, ?_, ?_, by simpa [hm] using hn⟩
  ·rw [he, map_eraseIdx', h2, map_eraseIdx']
  ·rw [he]
   intro e hem
   exact h3 e ((List.eraseIdx_sublist _ _).subset hem)
  ·rw [he]
   exact h4.sublist ((List.eraseIdx_sublist _ _).map _)

theorem MapIs.size (h : MapIs ek ev w B l) : ∃ es clock, w.heap[B]? = some (.map es clock) ∧ es.size = l.length := by
 obtain ⟨es, clock, h1, h2, _⟩ := h
 refine ⟨es, clock, h1, ?_⟩
 have := congrArg List.length h2
 simpa using this
end
end Go.Proofs.YtmmdkjanmegjdaaGreat

namespace Go.Proofs.YtmmdkjanmegjdaaGreat.Ab
open Go.RowKit

section
variable {P : Program} {nt : Nat} {Q : Post} {e : Env} {h : Heap} {o : Oper} {T : List Nat} {tab : TTab}
theorem zeO {Pm F : Nat → Prop} {w0 w : World} {pin ι : Nat → Option Value} {h : Heap} (H : HRel Pm F w0 pin ι h w) {id o1 : Nat} {u : Value} (hb : (look h id).isSome = true) (hv : VRel w F ι (.ptr id o1) u) : ∃ r, ι id = some (.pointer (some ⟨r, 0, none⟩)) ∧ u = .pointer (some ⟨r, o1, none⟩) := by
 obtain ⟨b, hb⟩ := Option.isSome_iff_exists.1 hb
 obtain ⟨v, hv2, _⟩ := H.blk id _ hb
 cases hv with
 | ptr _ _ _ h1 h2 =>
  obtain ⟨r, rfl, rfl⟩ := h2 v hv2
  exact ⟨r, hv2, rfl⟩
theorem zae {x : Operand} {id o1 : Nat} (ho : o.op = .nilCheck x) (hx : aev e x = some (.ptr id o1)) (hb : (look h id).isSome = true) : AYield P T e h o (.ptr id o1) := fun Pm F w0 pin ι a w H E => by
 have hv := zj E hx
 obtain ⟨r, h1, h2⟩ := zeO H hb hv
 refine ⟨a.eval x, hv, fun w' _ => ?_⟩
 simp only [execOp, ho, h2]
 rfl
theorem zgK {w : World} {d : Nat} {t el : TypeId} (hd : P.underlying t = some (.pointer el)) (a : Addr) : (Op.equalIn (d + 1) t (.pointer (some a)) (.pointer none)).run P w = .ok false w := by
 unfold Op.equalIn
 simp [run_underlying hd]
theorem zee {w : World} {F : Nat → Prop} {ι : Nat → Option Value} {id : Nat} {u v : Value} (h : VRel w F ι (.mp id) u) (hv : ι id = some v) : u = v := by
 cases h with
 | mp _ _ _ h2 => exact h2 v hv
theorem zj7 {op : BinOp} {t u : TypeId} {te : TE} {el : TypeId} {x : Operand} {id o1 : Nat} {r : Bool} (TO : TabOk P tab) (ho : o.op = .binOp op t x (.const (.pointer none)) u) (ht : tlook tab t = some te) (hs : te.sh = .pt el) (hx : aev e x = some (.ptr id o1)) (hb : (look h id).isSome = true) (hr : (match op with | .eql => some false | .neq => some true | _ => none) = some r) :
  AYield P T e h o (.d (.sc (.bool r))) := fun Pm F w0 pin ι a w H E => by
 have hv := zj E hx
 obtain ⟨rr, h1, h2⟩ := zeO H hb hv
 obtain ⟨d, hd, _, hh⟩ := (TO t te ht).und
 rw [hs] at hh
 cases hh
 refine ⟨.bool r, zH rfl, fun w' _ => ?_⟩
 have key := zgK (w := w') (d := 9999) hd ⟨rr, o1, none⟩
 have ev : a.eval (.const (.pointer none)) = .pointer none := rfl
 cases op <;> simp at hr <;> subst hr <;> simp only [execOp, ho, h2, ev, eqGuard, binOp, Op.equal] <;> rw [show Op.maxDepth = 9999 + 1 from rfl] <;> simp [key]
theorem zhA {t el n : Nat} {te te' : TE} {x y : Operand} {id o1 j : Nat} {k : IntKind} {i : Int} (TO : TabOk P tab) (ho : o.op = .indexAddr t x y) (ht : tlook tab t = some te) (hs : te.sh = .ar n el) (hel : tlook tab el = some te') (hx : aev e x = some (.ptr id o1)) (hb : (look h id).isSome = true) (hy : aev e y = some (.d (.sc (.int k i)))) (hi : i = (j : Int)) (hj : j < n) :
  AYield P T e h o (.ptr id (o1 + j * te'.size)) := fun Pm F w0 pin ι a w H E => by
 have hv := zj E hx
 obtain ⟨r, h1, h2⟩ := zeO H hb hv
 have hk := (zQ (zj E hy)).1
 obtain ⟨d, hd, _, hh⟩ := (TO t te ht).und
 rw [hs] at hh
 cases hh
 subst hi
 refine ⟨.pointer (some ⟨r, o1 + j * te'.size, none⟩), .ptr id _ _ rfl fun v hv' => ?_, fun w' _ => ?_⟩
 ·rw [h1] at hv'; cases hv'; exact ⟨r, rfl, rfl⟩
 ·simp [execOp, ho, h2, hk, Instr.indexAt, asIntOf, run_underlying hd, Instr.sureAddr, hj, (TO el te' hel).size, Addr.add_mid]
theorem zhB {t el n : Nat} {te te' : TE} {x y : Operand} {cs : List AVal} {c : AVal} {j : Nat} {k : IntKind} {i : Int} (TO : TabOk P tab) (ho : o.op = .index t x y) (ht : tlook tab t = some te) (hs : te.sh = .ar n el) (hel : tlook tab el = some te') (hag : te'.agg = false) (hsz : te'.size = 1) (hx : aev e x = some (.agg cs)) (hy : aev e y = some (.d (.sc (.int k i)))) (hi : i = (j : Int)) (hj : j < n) (hc : cs[j]? = some c) :
  AYield P T e h o c := zN _ fun w F ι a E => by
 have hv := zj E hx
 have hk := (zQ (zj E hy)).1
 obtain ⟨d, hd, _, hh⟩ := (TO t te ht).und
 rw [hs] at hh
 cases hh
 subst hi
 generalize hau : a.eval x = u at hv
 cases hv with
 | agg _ C hl hr =>
  have hlt : j < C.size := by rw [hl]; exact (List.getElem?_eq_some_iff.1 hc).1
  refine ⟨C[j], hr j c C[j] hc (Array.getElem?_eq_getElem hlt), fun w' => ?_⟩
  simp [execOp, ho, hau, hk, Instr.index, asIntOf, run_underlying hd, hj, (TO el te' hel).size, part, (TO el te' hel).run_agg, hag, hsz, hlt]

variable {κ ν : Type} {ek : κ → Value} {ok : κ → Prop} {ka : κ → AVal} {xa : ν → AVal}
def ents (ka : κ → AVal) (xa : ν → AVal) (l : List (κ × ν)) : List (AVal × AVal) := l.map fun p => (ka p.1, xa p.2)
def Beside (w : World) (F : Nat → Prop) (ι : Nat → Option Value) (xa : ν → AVal) : List (κ × ν) → List (κ × Value) → Prop
 | [], [] => True
 | p :: l, q :: m => q.1 = p.1 ∧ VRel w F ι (xa p.2) q.2 ∧ Beside w F ι xa l m
 | _, _ => False
theorem Beside.keys {w : World} {F : Nat → Prop} {ι : Nat → Option Value} {l : List (κ × ν)} {m : List (κ × Value)} (h : Beside w F ι xa l m) : m.map (·.1) = l.map (·.1) := by
 induction l generalizing m with
 | nil => cases m with
  | nil => rfl
  | cons q m => cases h
 | cons p l ih => cases m with
  | nil => cases h
  | cons q m => rw [List.map_cons, List.map_cons, h.1, ih h.2.2]
theorem Beside.mget [DecidableEq κ] {w : World} {F : Nat → Prop} {ι : Nat → Option Value} {l : List (κ × ν)} {m : List (κ × Value)} (h : Beside w F ι xa l m) (k : κ) :
  (∀ i x, mget l k = some (i, x) → ∃ u, mget m k = some (i, u) ∧ VRel w F ι (xa x) u) ∧ (mget l k = none → mget m k = none) := by
 induction l generalizing m with
 | nil => cases m with
  | nil => exact ⟨fun i x h => (by cases h), fun _ => rfl⟩
  | cons q m => cases h
 | cons p l ih => cases m with
  | nil => cases h
  | cons q m =>
   obtain ⟨k1, x1⟩ := p
   obtain ⟨k2, u2⟩ := q
   obtain ⟨h1, h2, h3⟩ := h
   dsimp only at h1 h2
   subst h1
   obtain ⟨i1, i2⟩ := ih h3
   unfold Go.Proofs.YtmmdkjanmegjdaaGreat.mget
   split
   ·exact ⟨fun i x hx => (by cases hx; exact ⟨u2, rfl, h2⟩), fun hx => (by cases hx)⟩
   ·refine ⟨fun i x hx => ?_, fun hx => ?_⟩
    ·cases hm : Go.Proofs.YtmmdkjanmegjdaaGreat.mget l k with
     | none => rw [hm] at hx; cases hx
     | some y =>
      rw [hm] at hx
      cases hx
      obtain ⟨u, h5, h6⟩ := i1 y.1 y.2 hm
      exact ⟨u, by rw [h5]; rfl, h6⟩
    ·cases hm : Go.Proofs.YtmmdkjanmegjdaaGreat.mget l k with
     | none => rw [i2 hm]; rfl
     | some y => rw [hm] at hx; cases hx
theorem Beside.aget [DecidableEq κ] {w : World} {F : Nat → Prop} {ι : Nat → Option Value} {l : List (κ × ν)} {m : List (κ × Value)} (h : Beside w F ι xa l m) (k : κ) :
  (∀ x, aget l k = some x → ∃ u, aget m k = some u ∧ VRel w F ι (xa x) u) ∧ (aget l k = none → aget m k = none) := by
 obtain ⟨h1, h2⟩ := h.mget k
 unfold Go.Proofs.YtmmdkjanmegjdaaGreat.aget
 refine ⟨fun x hx => ?_, fun hx => ?_⟩
 ·cases hm : Go.Proofs.YtmmdkjanmegjdaaGreat.mget l k with
  | none => rw [hm] at hx; cases hx
  | some y =>
   rw [hm] at hx
   cases hx
   obtain ⟨u, h5, h6⟩ := h1 y.1 y.2 hm
   exact ⟨u, by rw [h5]; rfl, h6⟩
 ·cases hm : Go.Proofs.YtmmdkjanmegjdaaGreat.mget l k with
  | none => rw [h2 hm]; rfl
  | some y => rw [hm] at hx; cases hx
theorem zj1 {w : World} {F : Nat → Prop} {ι : Nat → Option Value} (hka : ∀ k, valA (ka k) = some (ek k)) (l : List (κ × ν)) (E : List MapEntry) (hl : E.length = l.length) (h : ∀ (i : Nat) (p : AVal × AVal) (m : MapEntry), (ents ka xa l)[i]? = some p → E[i]? = some m → VRel w F ι p.1 m.key ∧ VRel w F ι p.2 m.val) :
  ∃ m : List (κ × Value), Beside w F ι xa l m ∧ E.map (fun e => (e.key, e.val)) = m.map fun p => (ek p.1, p.2) := by
 induction l generalizing E with
 | nil =>
  have : E = [] := List.length_eq_zero_iff.1 hl
  subst this
  exact ⟨[], trivial, rfl⟩
 | cons p l ih => cases E with
  | nil => cases hl
  | cons q E =>
   obtain ⟨m, h1, h2⟩ := ih E (by simpa using hl) fun i p' m' a b => h (i + 1) p' m' a b
   have h0 := h 0 (ka p.1, xa p.2) q rfl rfl
   refine ⟨(p.1, q.val) :: m, ⟨rfl, h0.2, h1⟩, ?_⟩
   rw [List.map_cons, List.map_cons, h2, zax h0.1 (hka p.1)]
theorem ziV (E : List MapEntry) : (∀ (i j : Nat) (m m' : MapEntry), i < j → E[i]? = some m → E[j]? = some m' → m.born < m'.born) ↔ (E.map (·.born)).Pairwise (· < ·) := by
 rw [List.pairwise_map, List.pairwise_iff_getElem]
 constructor
 ·intro h i j hi hj hij
  exact h i j E[i] E[j] hij (List.getElem?_eq_getElem hi) (List.getElem?_eq_getElem hj)
 ·intro h i j m m' hij h1 h2
  obtain ⟨hi, rfl⟩ := List.getElem?_eq_some_iff.1 h1
  obtain ⟨hj, rfl⟩ := List.getElem?_eq_some_iff.1 h2
  exact h i j hi hj hij
theorem zdb [DecidableEq κ] {w : World} {F : Nat → Prop} {ι : Nat → Option Value} (hka : ∀ k, valA (ka k) = some (ek k)) {l : List (κ × ν)} (hn : (l.map (·.1)).Nodup) {v : Value} (h : BRel w F ι (.map (ents ka xa l)) v) :
  ∃ B m, v = .map (some B) ∧ MapIs ek (fun u : Value => u) w B m ∧ Beside w F ι xa l m := by
 obtain ⟨r, E, clk, rfl, hc, hl, h1, h2, h3⟩ := h
 obtain ⟨m, h4, h5⟩ := zj1 hka l E.toList (by rw [Array.length_toList, hl, ents, List.length_map]) fun i p m a b => h1 i p m a (by simpa using b)
 refine ⟨r, m, rfl, ⟨E, clk, hc, h5, fun e he => ?_, (ziV _).1 fun i j m m' a b c => h2 i j m m' a (by simpa using b) (by simpa using c), by rw [h4.keys]; exact hn⟩, h4⟩
 obtain ⟨i, hi⟩ := List.getElem?_of_mem he
 exact h3 i e (by simpa using hi)
theorem zbP [DecidableEq κ] {w w' : World} {B : Nat} {m : List (κ × Value)} (h : MapIs ek (fun u : Value => u) w B m) (hb : w'.heap[B]? = w.heap[B]?) : MapIs ek (fun u : Value => u) w' B m := h.of_block hb

theorem zhw [DecidableEq κ] {t K E : Nat} {te : TE} {x y : Operand} {id : Nat} {k : κ} {l : List (κ × ν)} {z : ν} (TO : TabOk P tab) (law : KeyLaw P K ek ok) (hka : ∀ k, valA (ka k) = some (ek k)) (ho : o.op = .lookup t x y true) (ht : tlook tab t = some te) (hs : te.sh = .mp K E) (hx : aev e x = some (.mp id)) (hb : look h id = some (.map (ents ka xa l))) (hT : T.contains id = false)
  (hy : aev e y = some (ka k)) (hk : ok k) (hl : ∀ p ∈ l, ok p.1) (hn : (l.map (·.1)).Nodup) (hg : aget l k = some z) {zv : Value} (hz : ∀ W, (zeroValue E).run P W = .ok zv W) : AYield P T e h o (.tup [xa z, .d (.sc (.bool true))]) := fun Pm F w0 pin ι a w H Er => by
 obtain ⟨v, hv, hB⟩ := H.blk id _ hb
 obtain ⟨B, m, rfl, hm, hbes⟩ := zdb hka hn hB
 obtain ⟨d, hd, _, hh⟩ := (TO t te ht).und
 rw [hs] at hh
 cases hh
 have hxv := zj Er hx
 have hkv := zax (zj Er hy) (hka k)
 obtain ⟨u, h1, h2⟩ := (hbes.aget k).1 z hg
 have hxe := zee hxv hv
 refine ⟨.tuple #[u, .bool true], .tup _ _ rfl fun i c uu hi hu => ?_, fun w' hw' => ?_⟩
 ·match i, hi, hu with
  | 0, hi, hu => cases hi; cases hu; exact h2
  | 1, hi, hu => cases hi; cases hu; exact zH rfl
 ·have hm' := zbP hm (zbX H hw' hv rfl hT)
  have := hm'.lookup_ok law hd hz hk (fun p hp => by
   have : p.1 ∈ m.map (·.1) := List.mem_map.2 ⟨p, hp, rfl⟩
   rw [hbes.keys] at this
   obtain ⟨q, hq, he⟩ := List.mem_map.1 this
   rw [← he]; exact hl q hq)
  rw [h1] at this
  simp only [execOp, ho, hxe, hkv]
  simp only [Sem.run_bind, this]
  rfl
theorem zgk [DecidableEq κ] {t K E : Nat} {te : TE} {x y : Operand} {id : Nat} {k : κ} {l : List (κ × ν)} (TO : TabOk P tab) (law : KeyLaw P K ek ok) (hka : ∀ k, valA (ka k) = some (ek k)) (ho : o.op = .lookup t x y true) (ht : tlook tab t = some te) (hs : te.sh = .mp K E) (hx : aev e x = some (.mp id)) (hb : look h id = some (.map (ents ka xa l))) (hT : T.contains id = false)
  (hy : aev e y = some (ka k)) (hk : ok k) (hl : ∀ p ∈ l, ok p.1) (hn : (l.map (·.1)).Nodup) (hg : aget l k = none) {zv : Value} (hz : ∀ W, (zeroValue E).run P W = .ok zv W) (hz1 : zv.oneCell' = true) : AYield P T e h o (.tup [.d (.sc zv), .d (.sc (.bool false))]) := fun Pm F w0 pin ι a w H Er => by
 obtain ⟨v, hv, hB⟩ := H.blk id _ hb
 obtain ⟨B, m, rfl, hm, hbes⟩ := zdb hka hn hB
 obtain ⟨d, hd, _, hh⟩ := (TO t te ht).und
 rw [hs] at hh
 cases hh
 have hxv := zj Er hx
 have hkv := zax (zj Er hy) (hka k)
 have h1 := (hbes.aget k).2 hg
 have hxe := zee hxv hv
 refine ⟨.tuple #[zv, .bool false], .tup _ _ rfl fun i c uu hi hu => ?_, fun w' hw' => ?_⟩
 ·match i, hi, hu with
  | 0, hi, hu => cases hi; cases hu; exact zH hz1
  | 1, hi, hu => cases hi; cases hu; exact zH rfl
 ·have hm' := zbP hm (zbX H hw' hv rfl hT)
  have := hm'.lookup_ok law hd hz hk (fun p hp => by
   have : p.1 ∈ m.map (·.1) := List.mem_map.2 ⟨p, hp, rfl⟩
   rw [hbes.keys] at this
   obtain ⟨q, hq, he⟩ := List.mem_map.1 this
   rw [← he]; exact hl q hq)
  rw [h1] at this
  simp only [execOp, ho, hxe, hkv]
  simp only [Sem.run_bind, this]
  rfl
theorem zj8 [DecidableEq κ] {t K E : Nat} {te : TE} {x y : Operand} {id : Nat} {k : κ} {l : List (κ × ν)} {z : ν} (TO : TabOk P tab) (law : KeyLaw P K ek ok) (hka : ∀ k, valA (ka k) = some (ek k)) (ho : o.op = .lookup t x y false) (ht : tlook tab t = some te) (hs : te.sh = .mp K E) (hx : aev e x = some (.mp id)) (hb : look h id = some (.map (ents ka xa l))) (hT : T.contains id = false)
  (hy : aev e y = some (ka k)) (hk : ok k) (hl : ∀ p ∈ l, ok p.1) (hn : (l.map (·.1)).Nodup) (hg : aget l k = some z) {zv : Value} (hz : ∀ W, (zeroValue E).run P W = .ok zv W) : AYield P T e h o (xa z) := fun Pm F w0 pin ι a w H Er => by
 obtain ⟨v, hv, hB⟩ := H.blk id _ hb
 obtain ⟨B, m, rfl, hm, hbes⟩ := zdb hka hn hB
 obtain ⟨d, hd, _, hh⟩ := (TO t te ht).und
 rw [hs] at hh
 cases hh
 have hxv := zj Er hx
 have hkv := zax (zj Er hy) (hka k)
 obtain ⟨u, h1, h2⟩ := (hbes.aget k).1 z hg
 have hxe := zee hxv hv
 refine ⟨u, h2, fun w' hw' => ?_⟩
 have hm' := zbP hm (zbX H hw' hv rfl hT)
 have := hm'.lookup law hd hz hk (fun p hp => by
  have : p.1 ∈ m.map (·.1) := List.mem_map.2 ⟨p, hp, rfl⟩
  rw [hbes.keys] at this
  obtain ⟨q, hq, he⟩ := List.mem_map.1 this
  rw [← he]; exact hl q hq)
 rw [h1] at this
 simp only [execOp, ho, hxe, hkv]
 simp only [Sem.run_bind, this]
 rfl
theorem Beside.wrote {w w' : World} {F : Nat → Prop} {ι : Nat → Option Value} {id : Nat} {v : Value} (hW : Wrote w v w') (hv : ι id = some v) : ∀ {l : List (κ × ν)} {m : List (κ × Value)}, Beside w F ι xa l m → Beside w' F ι xa l m
 | [], [], _ => trivial
 | p :: l, q :: m, h => ⟨h.1, h.2.1.wrote hW hv, Beside.wrote hW hv h.2.2⟩
 | [], _ :: _, h => h.elim
 | _ :: _, [], h => h.elim
theorem Beside.snoc {w : World} {F : Nat → Prop} {ι : Nat → Option Value} {k : κ} {z : ν} {u : Value} (hz : VRel w F ι (xa z) u) : ∀ {l : List (κ × ν)} {m : List (κ × Value)}, Beside w F ι xa l m → Beside w F ι xa (l ++ [(k, z)]) (m ++ [(k, u)])
 | [], [], _ => ⟨rfl, hz, trivial⟩
 | p :: l, q :: m, h => ⟨h.1, h.2.1, Beside.snoc hz h.2.2⟩
 | [], _ :: _, h => h.elim
 | _ :: _, [], h => h.elim
theorem Beside.set {w : World} {F : Nat → Prop} {ι : Nat → Option Value} {k : κ} {z : ν} {u : Value} (hz : VRel w F ι (xa z) u) : ∀ (i : Nat) {l : List (κ × ν)} {m : List (κ × Value)}, Beside w F ι xa l m → Beside w F ι xa (l.set i (k, z)) (m.set i (k, u))
 | _, [], [], _ => trivial
 | 0, p :: l, q :: m, h => ⟨rfl, hz, h.2.2⟩
 | i + 1, p :: l, q :: m, h => ⟨h.1, h.2.1, Beside.set hz i h.2.2⟩
 | _, [], _ :: _, h => h.elim
 | _, _ :: _, [], h => h.elim
theorem Beside.erase {w : World} {F : Nat → Prop} {ι : Nat → Option Value} : ∀ (i : Nat) {l : List (κ × ν)} {m : List (κ × Value)}, Beside w F ι xa l m → Beside w F ι xa (l.eraseIdx i) (m.eraseIdx i)
 | _, [], [], _ => trivial
 | 0, p :: l, q :: m, h => h.2.2
 | i + 1, p :: l, q :: m, h => ⟨h.1, h.2.1, Beside.erase i h.2.2⟩
 | _, [], _ :: _, h => h.elim
 | _, _ :: _, [], h => h.elim
theorem Beside.aput [DecidableEq κ] {w : World} {F : Nat → Prop} {ι : Nat → Option Value} {k : κ} {z : ν} {u : Value} (hz : VRel w F ι (xa z) u) {l : List (κ × ν)} {m : List (κ × Value)} (h : Beside w F ι xa l m) : Beside w F ι xa (Go.Proofs.YtmmdkjanmegjdaaGreat.aput l k z) (Go.Proofs.YtmmdkjanmegjdaaGreat.aput m k u) := by
 obtain ⟨h1, h2⟩ := h.mget k
 unfold Go.Proofs.YtmmdkjanmegjdaaGreat.aput
 cases hm : Go.Proofs.YtmmdkjanmegjdaaGreat.mget l k with
 | none => rw [h2 hm]; exact Beside.snoc hz h
 | some y =>
  obtain ⟨i, x⟩ := y
  obtain ⟨u', h5, _⟩ := h1 i x hm
  rw [h5]
  exact Beside.set hz i h
theorem Beside.adel [DecidableEq κ] {w : World} {F : Nat → Prop} {ι : Nat → Option Value} {k : κ} {l : List (κ × ν)} {m : List (κ × Value)} (h : Beside w F ι xa l m) : Beside w F ι xa (Go.Proofs.YtmmdkjanmegjdaaGreat.adel l k) (Go.Proofs.YtmmdkjanmegjdaaGreat.adel m k) := by
 obtain ⟨h1, h2⟩ := h.mget k
 unfold Go.Proofs.YtmmdkjanmegjdaaGreat.adel
 cases hm : Go.Proofs.YtmmdkjanmegjdaaGreat.mget l k with
 | none => rw [h2 hm]; exact h
 | some y =>
  obtain ⟨i, x⟩ := y
  obtain ⟨u', h5, _⟩ := h1 i x hm
  rw [h5]
  exact Beside.erase i h
theorem zll [DecidableEq κ] {w : World} {F : Nat → Prop} {ι : Nat → Option Value} (hkv : ∀ k w F ι, VRel w F ι (ka k) (ek k)) {l : List (κ × ν)} {B : Nat} {m : List (κ × Value)} (h : MapIs ek (fun u : Value => u) w B m) (hb : Beside w F ι xa l m) : BRel w F ι (.map (ents ka xa l)) (.map (some B)) := by
 obtain ⟨E, clk, hc, h1, h2, h3, _⟩ := h
 have hlen : ∀ {l : List (κ × ν)} {m : List (κ × Value)}, Beside w F ι xa l m → m.length = l.length := fun hb => by have := congrArg List.length hb.keys; simpa using this
 have hEl : E.toList.length = m.length := by have := congrArg List.length h1; simpa using this
 refine ⟨B, E, clk, rfl, hc, by rw [← Array.length_toList, hEl, hlen hb, ents, List.length_map], fun i p e hp he => ?_, fun i j a b hij ha hb' => (ziV E.toList).2 h3 i j a b hij (by simpa using ha) (by simpa using hb'), fun i e he => h2 e (List.mem_of_getElem? (i := i) (by simpa using he))⟩
 have key : ∀ (i : Nat) {l : List (κ × ν)} {m : List (κ × Value)}, Beside w F ι xa l m → ∀ p q, l[i]? = some p → m[i]? = some q → q.1 = p.1 ∧ VRel w F ι (xa p.2) q.2 := by
  intro i
  induction i with
  | zero => intro l m hb p q hp hq; match l, m, hb with
   | a :: l, b :: m, hb => cases hp; cases hq; exact ⟨hb.1, hb.2.1⟩
   | [], [], _ => cases hp
  | succ i ih => intro l m hb p q hp hq; match l, m, hb with
   | a :: l, b :: m, hb => exact ih hb.2.2 p q (by simpa using hp) (by simpa using hq)
   | [], [], _ => cases hp
 rw [ents, List.getElem?_map] at hp
 cases hli : l[i]? with
 | none => rw [hli] at hp; cases hp
 | some p0 =>
  rw [hli] at hp
  cases hp
  have he2 : (E.toList.map (fun e => (e.key, e.val)))[i]? = some (e.key, e.val) := by rw [List.getElem?_map, Array.getElem?_toList, he]; rfl
  rw [h1, List.getElem?_map] at he2
  cases hmi : m[i]? with
  | none => rw [hmi] at he2; cases he2
  | some q =>
   rw [hmi] at he2
   simp only [Option.map_some, Option.some.injEq, Prod.mk.injEq] at he2
   obtain ⟨h5, h6⟩ := key i hb p0 q hli hmi
   rw [← he2.1, ← he2.2, h5]
   exact ⟨hkv _ _ _ _, h6⟩
theorem zeq [DecidableEq κ] {t K E : Nat} {te : TE} {x y z : Operand} {d : Option Tmp} {id : Nat} {k : κ} {l : List (κ × ν)} {q : ν} (TO : TabOk P tab) (law : KeyLaw P K ek ok) (hka : ∀ k, valA (ka k) = some (ek k)) (hkv : ∀ k w F ι, VRel w F ι (ka k) (ek k)) (ho : o.op = .mapUpdate t x y z) (hdst : o.dst = d) (ht : tlook tab t = some te) (hs : te.sh = .mp K E) (hx : aev e x = some (.mp id)) (hb : look h id = some (.map (ents ka xa l)))
  (hy : aev e y = some (ka k)) (hq : aev e z = some (xa q)) (hk : ok k) (hl : ∀ p ∈ l, ok p.1) (hn : (l.map (·.1)).Nodup) (hd : dstOk nt d = true) (hT : T.contains id = true) :
  AEff P nt T e h o (fun e' h' => e' = aput d .und e ∧ h' = (id, .map (ents ka xa (Go.Proofs.YtmmdkjanmegjdaaGreat.aput l k q))) :: h) := fun Pm F w0 pin ι a w R Kt Qx hK => by
 obtain ⟨v, hv, hB⟩ := R.heap.blk id _ hb
 obtain ⟨B, m, rfl, hm, hbes⟩ := zdb hka hn hB
 obtain ⟨dd, hdd, _, hh⟩ := (TO t te ht).und
 rw [hs] at hh
 cases hh
 have hxe := zee (zj R.env hx) hv
 have hye := zax (zj R.env hy) (hka k)
 have hze := zj R.env hq
 obtain ⟨w', hrun, hm', hg, hsz⟩ := hm.update law hdd hk (fun p hp => by
  have : p.1 ∈ m.map (·.1) := List.mem_map.2 ⟨p, hp, rfl⟩
  rw [hbes.keys] at this
  obtain ⟨r, hr, he⟩ := List.mem_map.1 this
  rw [← he]; exact hl r hr) (a.eval z)
 have hW : Wrote w (.map (some B)) w' := ⟨hg.os, hg.tape, hg.output, hg.size, fun r hr hne => hg.block r hr fun he => hne (by rw [blockOf]; exact he.symm)⟩
 have hrun2 : (execOp a.eval o).run P w = .ok .skip w' := by
  simp only [execOp, ho, hxe, hye, Sem.run_bind, hrun]
  rfl
 unfold Oper.wp
 rw [hrun2, Oper.upon_skip, hdst]
 refine hK ι _ _ _ w' ⟨rfl, rfl⟩ ⟨R.heap.wrote hW hv (zll hkv hm' ((hbes.aput hze).wrote hW hv)), (R.env.mono fun _ _ _ _ hv' => hv'.wrote hW hv).aput hd R.size .und, by rw [zl]; exact R.defers.ext (hW.ext hv), by rw [zac]; exact R.size⟩ ?_ (zl _ _ _)
 exact ⟨⟨hW.os, hW.tape, hW.output, hW.size, fun r hr hne => hW.mem r hr fun hb => hne id (List.contains_iff_mem.1 hT) _ hv hb⟩, fun j _ u r hj hr _ => ⟨u, hj, hr⟩⟩
theorem zkf {t : TypeId} {d : Option Tmp} {id : Nat} (ho : o.op = .makeMap t none) (hdst : o.dst = d) (hid : Nat.blt id 1000 = true) (hd : dstOk nt d = true) : AEff P nt T e h o (fun e' h' => e' = aput d (.mp id) (killE id e) ∧ h' = (id, .map []) :: killH id h) := fun Pm F w0 pin ι a w R K Qx hK => by
 have hb : ∀ ι', ι' = upd ι id (some (.map (some w.heap.size))) → Ext w F ι (w.alloc (.map #[] 0)) ι' → BRel (w.alloc (.map #[] 0)) F ι' (.map []) (.map (some w.heap.size)) := fun ι' h0 he =>
  ⟨w.heap.size, #[], 0, rfl, zbg _ _, rfl, fun i p m h1 => by simp at h1, fun i j m m' _ h1 => by simp at h1, fun i m h1 => by simp at h1⟩
 obtain ⟨hR, hC⟩ := R.new (T := T) hid hd (.map #[] 0) (.map (some w.heap.size)) (by simp [blockOf]) _ (.mp id) hb fun ι' h1 => .mp id _ rfl fun v hv => by subst h1; simp [upd] at hv; exact hv
 have hrun : (execOp a.eval o).run P w = .ok (.value (.map (some w.heap.size))) (w.alloc (.map #[] 0)) := by
  simp only [execOp, ho]
  simp [Instr.makeMap, newObj, Sem.run]
 unfold Oper.wp
 rw [hrun, Oper.upon_value, hdst]
 exact hK _ _ _ _ _ ⟨rfl, rfl⟩ hR hC (zl _ _ _)
end
end Go.Proofs.YtmmdkjanmegjdaaGreat.Ab

namespace Go.Proofs.YtmmdkjanmegjdaaGreat.Ab
open Go.RowKit

def tmap (tab : TTab) (t : Nat) : Option (Nat × Nat) := match tlook tab t with
 | some te => match te.sh with | .mp k e => some (k, e) | _ => none
 | none => none
def tarr (tab : TTab) (t : Nat) : Option (Nat × Nat) := match tlook tab t with
 | some te => match te.sh with | .ar n e => some (n, e) | _ => none
 | none => none
def tptr (tab : TTab) (t : Nat) : Option Nat := match tlook tab t with
 | some te => match te.sh with | .pt e => some e | _ => none
 | none => none
theorem za1 {tab : TTab} {t k e : Nat} (h : tmap tab t = some (k, e)) : ∃ te, tlook tab t = some te ∧ te.sh = .mp k e := by
 unfold tmap at h
 cases ht : tlook tab t with
 | none => rw [ht] at h; cases h
 | some te =>
  rw [ht] at h
  refine ⟨te, rfl, ?_⟩
  dsimp only at h
  split at h
  ·rename_i hs; cases h; exact hs
  ·cases h
theorem zfn {tab : TTab} {t k e : Nat} (h : tarr tab t = some (k, e)) : ∃ te, tlook tab t = some te ∧ te.sh = .ar k e := by
 unfold tarr at h
 cases ht : tlook tab t with
 | none => rw [ht] at h; cases h
 | some te =>
  rw [ht] at h
  refine ⟨te, rfl, ?_⟩
  dsimp only at h
  split at h
  ·rename_i hs; cases h; exact hs
  ·cases h
theorem zje {tab : TTab} {t e : Nat} (h : tptr tab t = some e) : ∃ te, tlook tab t = some te ∧ te.sh = .pt e := by
 unfold tptr at h
 cases ht : tlook tab t with
 | none => rw [ht] at h; cases h
 | some te =>
  rw [ht] at h
  refine ⟨te, rfl, ?_⟩
  dsimp only at h
  split at h
  ·rename_i hs; cases h; exact hs
  ·cases h

section
variable {P : Program} {nt : Nat} {Q : Post} {e : Env} {h : Heap} {o : Oper} {ops : Array Oper} {rest : List Oper} {T : List Nat} {tab : TTab}
theorem zd7 {op : BinOp} {t u el id o1 : Nat} {x : Operand} {r : Bool} (TO : TabOk P tab) (ho : o.op = .binOp op t x (.const (.pointer none)) u) (ht : tptr tab t = some el) (hx : aev e x = some (.ptr id o1)) (hb : (look h id).isSome = true) (hr : (match op with | .eql => some false | .neq => some true | _ => none) = some r) :
  AYield P T e h o (.d (.sc (.bool r))) := by
 obtain ⟨te, h1, h2⟩ := zje ht
 exact zj7 TO ho h1 h2 hx hb hr
theorem zpI {t el n k id o1 j : Nat} {x y : Operand} {q : IntKind} {i : Int} (TO : TabOk P tab) (ho : o.op = .indexAddr t x y) (ht : tarr tab t = some (n, el)) (hsz : tsize tab el = some k) (hx : aev e x = some (.ptr id o1)) (hb : (look h id).isSome = true) (hy : aev e y = some (.d (.sc (.int q i)))) (hi : i = (j : Int)) (hj : j < n) :
  AYield P T e h o (.ptr id (o1 + j * k)) := by
 obtain ⟨te, h1, h2⟩ := zfn ht
 obtain ⟨te', h3, rfl⟩ := zu hsz
 exact zhA TO ho h1 h2 h3 hx hb hy hi hj
theorem zmd {t el n j : Nat} {x y : Operand} {cs : List AVal} {c : AVal} {q : IntKind} {i : Int} (TO : TabOk P tab) (ho : o.op = .index t x y) (ht : tarr tab t = some (n, el)) (hsz : tsize tab el = some 1) (hag : tagg tab el = some false) (hx : aev e x = some (.agg cs)) (hy : aev e y = some (.d (.sc (.int q i)))) (hi : i = (j : Int)) (hj : j < n) (hc : cs[j]? = some c) :
  AYield P T e h o c := by
 obtain ⟨te, h1, h2⟩ := zfn ht
 obtain ⟨te', h3, h4⟩ := zu hsz
 obtain ⟨te2, h5, h6⟩ := zbG hag
 rw [h3] at h5
 cases h5
 exact zhB TO ho h1 h2 h3 h6 h4 hx hy hi hj hc
variable {κ ν : Type} [DecidableEq κ] {ek : κ → Value} {ok : κ → Prop} {ka : κ → AVal} {xa : ν → AVal}
theorem zd8 {t K E id : Nat} {x y : Operand} {k : κ} {l : List (κ × ν)} {z : ν} {zv : Value} (law : KeyLaw P K ek ok) (hka : ∀ k, valA (ka k) = some (ek k)) (hz : ∀ W, (zeroValue E).run P W = .ok zv W) (hk : ok k) (hl : ∀ p ∈ l, ok p.1) (hn : (l.map (·.1)).Nodup) (hg : aget l k = some z)
  (TO : TabOk P tab) (ho : o.op = .lookup t x y true) (ht : tmap tab t = some (K, E)) (hx : aev e x = some (.mp id)) (hb : look h id = some (.map (ents ka xa l))) (hT : T.contains id = false) (hy : aev e y = some (ka k)) : AYield P T e h o (.tup [xa z, .d (.sc (.bool true))]) := by
 obtain ⟨te, h1, h2⟩ := za1 ht
 exact zhw TO law hka ho h1 h2 hx hb hT hy hk hl hn hg hz
theorem zgs {t K E id : Nat} {x y : Operand} {k : κ} {l : List (κ × ν)} {zv : Value} (law : KeyLaw P K ek ok) (hka : ∀ k, valA (ka k) = some (ek k)) (hz : ∀ W, (zeroValue E).run P W = .ok zv W) (hz1 : zv.oneCell' = true) (hk : ok k) (hl : ∀ p ∈ l, ok p.1) (hn : (l.map (·.1)).Nodup) (hg : aget l k = none)
  (TO : TabOk P tab) (ho : o.op = .lookup t x y true) (ht : tmap tab t = some (K, E)) (hx : aev e x = some (.mp id)) (hb : look h id = some (.map (ents ka xa l))) (hT : T.contains id = false) (hy : aev e y = some (ka k)) : AYield P T e h o (.tup [.d (.sc zv), .d (.sc (.bool false))]) := by
 obtain ⟨te, h1, h2⟩ := za1 ht
 exact zgk TO law hka ho h1 h2 hx hb hT hy hk hl hn hg hz hz1
theorem zaw {t K E id : Nat} {x y : Operand} {k : κ} {l : List (κ × ν)} {z : ν} {zv : Value} (law : KeyLaw P K ek ok) (hka : ∀ k, valA (ka k) = some (ek k)) (hz : ∀ W, (zeroValue E).run P W = .ok zv W) (hk : ok k) (hl : ∀ p ∈ l, ok p.1) (hn : (l.map (·.1)).Nodup) (hg : aget l k = some z)
  (TO : TabOk P tab) (ho : o.op = .lookup t x y false) (ht : tmap tab t = some (K, E)) (hx : aev e x = some (.mp id)) (hb : look h id = some (.map (ents ka xa l))) (hT : T.contains id = false) (hy : aev e y = some (ka k)) : AYield P T e h o (xa z) := by
 obtain ⟨te, h1, h2⟩ := za1 ht
 exact zj8 TO law hka ho h1 h2 hx hb hT hy hk hl hn hg hz
theorem zoc {fuel i : Nat} {listed : Array Bool} {t K E id : Nat} {x y z : Operand} {k : κ} {l : List (κ × ν)} {q : ν} (law : KeyLaw P K ek ok) (hka : ∀ k, valA (ka k) = some (ek k)) (hkv : ∀ k w F ι, VRel w F ι (ka k) (ek k)) (hk : ok k) (hl : ∀ p ∈ l, ok p.1) (hn : (l.map (·.1)).Nodup)
  (TO : TabOk P tab) (hi : ops[i]? = some o) (hw : awant ops e o = some true) (hdst : o.dst = none) (ho : o.op = .mapUpdate t x y z) (ht : tmap tab t = some (K, E)) (hx : aev e x = some (.mp id)) (hb : look h id = some (.map (ents ka xa l))) (hT : T.contains id = true) (hy : aev e y = some (ka k)) (hq : aev e z = some (xa q))
  (H : AAny P nt ops Q T fuel (listed.setIfInBounds i true) e ((id, .map (ents ka xa (Go.Proofs.YtmmdkjanmegjdaaGreat.aput l k q))) :: h)) : AAt P nt ops Q T fuel listed i e h := by
 obtain ⟨te, h1, h2⟩ := za1 ht
 exact za5 hi hw (zeq TO law hka hkv ho hdst h1 h2 hx hb hy hq hk hl hn rfl hT) fun e' h' ⟨h3, h4⟩ => by subst h3 h4; exact H
theorem zl8 {fuel i : Nat} {listed : Array Bool} {t : TypeId} {x y : Operand} {id off s : Nat} {cs xs : List AVal} {c : AVal} (TO : TabOk P tab) (hi : ops[i]? = some o) (hw : awant ops e o = some true) (hdst : o.dst = none) (ho : o.op = .store t x y) (hx : aev e x = some (.ptr id off)) (hb : look h id = some (.var cs))
  (hy : aev e y = some c) (hcs : cellsA c = some xs) (hp : xs.all plainC = true) (hs : tsize tab t = some s) (hl : Nat.beq xs.length s = true) (hT : T.contains id = true) (hle : off + s ≤ cs.length)
  (H : AAny P nt ops Q T fuel (listed.setIfInBounds i true) e ((id, .var (setW cs off xs)) :: h)) : AAt P nt ops Q T fuel listed i e h := by
 obtain ⟨te, h1, h2⟩ := zu hs
 subst h2
 exact za5 hi hw (zcN TO ho hdst h1 hx hb hy hcs hp hl (Nat.ble_eq_true_of_le hle) rfl rfl hT) fun e' h' ⟨h1, h2⟩ => by subst h1 h2; exact H
theorem zc1 {t d : Nat} (id : Nat) (hw : awant ops e o = some true) (hdst : o.dst = some d) (hd : Nat.blt d nt = true) (hid : Nat.blt id 1000 = true) (ho : o.op = .makeMap t none) (HK : AOps P nt ops Q rest ((d, .mp id) :: killE id e) ((id, .map []) :: killH id h)) : AOps P nt ops Q (o :: rest) e h :=
 zat (T := []) hw (zkf ho hdst hid hd) fun e' h' ⟨h1, h2⟩ => by subst h1 h2; exact HK
theorem O_cP {f : FuncId} {args : Array Operand} {ats : Array TypeId} {cs0 cs : List AVal} {h0 h1 : Heap} {c : AVal} {d : Nat} (ρ : List (Nat × Nat)) (hinj : ∀ p p' i, look ρ p = some i → look ρ p' = some i → p = p') (hdom : ∀ p i, look ρ p = some i → 1000 ≤ p ∧ (look h0 p).isSome = true ∧ (look h1 p).isSome = true)
  (H : ACall P f cs h0 (fun c' h' => c' = c ∧ h' = h1)) (hok : ∀ c ∈ cs, okV ρ c = true) (hl : Lent ρ h h0) (hw : awant ops e o = some true) (hdst : o.dst = some d) (hd : Nat.blt d nt = true) (ho : o.op = .call { callee := .value (.func f), args := args, argTypes := ats }) (hx : aevs e args.toList = some cs0)
  (hcs : cs.map (renV ρ) = cs0) (HK : AOps P nt ops Q rest ((d, renV ρ c) :: e) (renH ρ h1 ++ h)) : AOps P nt ops Q (o :: rest) e h :=
 zat (T := ρ.map (·.2)) hw (zi8 ρ ho hdst hx hcs hok hl (fun p i hp => ⟨(hdom p i hp).1, (hdom p i hp).2.1⟩) hinj H hd (fun p i hp => by
  have : ∀ (ρ : List (Nat × Nat)), look ρ p = some i → i ∈ ρ.map (·.2) := by
   intro ρ
   induction ρ with
   | nil => intro h; cases h
   | cons q r ih =>
    obtain ⟨a, b⟩ := q
    intro h
    by_cases ha : a = p
    ·subst ha; rw [ze] at h; cases h; simp
    ·rw [zc _ _ ha] at h; have := ih h; simp at this ⊢; exact .inr this
  exact List.contains_iff_mem.2 (this ρ hp)) (fun c' h' ⟨h3, h4⟩ p i hp => by subst h4; exact (hdom p i hp).2.2)) fun e' h' ⟨c', h2, ⟨h3, h4⟩, h5, h6⟩ => by subst h3 h4 h5 h6; exact HK
end
end Go.Proofs.YtmmdkjanmegjdaaGreat.Ab

namespace Go.Proofs.YtmmdkjanmegjdaaGreat.Ab
open Go.RowKit
open Go.ChangeMaps (setBlock)

section
variable {nt : Nat} {e : Env} {h : Heap}
theorem Rel.opened {Pm F : Nat → Prop} {w0 w : World} {pin ι : Nat → Option Value} {a : Act} (R : Rel Pm F w0 pin ι nt e h a w) {mid : Nat} {es : List (AVal × AVal)} (hb : look h mid = some (.map es)) :
  ∃ r bs clk, bs.length = es.length ∧ bs.Pairwise (fun a b => a < b) ∧ (∀ b ∈ bs, b < clk) ∧ Rel Pm F w0 pin ι nt e ((mid, .mapx r bs clk es) :: h) a w := by
 obtain ⟨v, hv, r, E, clk, rfl, hC, hl, hr, h1, h2⟩ := R.heap.blk mid _ hb
 have hW : Wrote w (.map (some r)) w := ⟨rfl, rfl, rfl, Nat.le_refl _, fun _ _ _ => rfl⟩
 have hp : (E.toList.map (·.born)).Pairwise (fun a b => a < b) := by
  rw [List.pairwise_map, List.pairwise_iff_getElem]
  intro i j hi hj hij
  exact h1 i j _ _ hij (by rw [← Array.getElem?_toList]; exact List.getElem?_eq_getElem hi) (by rw [← Array.getElem?_toList]; exact List.getElem?_eq_getElem hj)
 have hlt : ∀ b ∈ E.toList.map (·.born), b < clk := fun b hb => by
  obtain ⟨m, hm, rfl⟩ := List.mem_map.1 hb
  obtain ⟨i, hi⟩ := List.getElem?_of_mem hm
  exact h2 i m (by rw [← Array.getElem?_toList]; exact hi)
 exact ⟨r, E.toList.map (·.born), clk, by simp [hl], hp, hlt, R.heap.wrote hW hv ⟨E, rfl, hC, hl, hr, rfl, hp, hlt⟩, R.env, R.defers, R.size⟩
end
section
variable {P : Program} {nt : Nat} {Q : Post} {e : Env} {h : Heap} {ops : Array Oper} {o : Oper} {rest : List Oper} {T : List Nat} {tab : TTab} {z : Bool}
theorem zpp {c : Code} {mid : Nat} {es : List (AVal × AVal)} (hb : look h mid = some (.map es)) (H : ∀ r bs clk, bs.length = es.length → bs.Pairwise (fun a b => a < b) → (∀ b ∈ bs, b < clk) → AWp z P nt c Q e ((mid, .mapx r bs clk es) :: h)) : AWp z P nt c Q e h :=
 fun lq Pm F w0 pin ι a w hz R => by
  obtain ⟨r, bs, clk, h1, h2, h3, R'⟩ := R.opened hb
  exact H r bs clk h1 h2 h3 lq Pm F w0 pin ι a w hz R'
theorem znU {t : TypeId} {x : Operand} {d : Option Tmp} {id mid r clk : Nat} {bs : List Nat} {es : List (AVal × AVal)} {k v : TypeId} (TO : TabOk P tab) (ho : o.op = .range t x) (hdst : o.dst = d) (ht : tmap tab t = some (k, v)) (hx : aev e x = some (.mp mid)) (hm : look h mid = some (.mapx r bs clk es)) (hid : Nat.blt id 1000 = true) (hd : dstOk nt d = true) :
  AEff P nt T e h o (fun e' h' => e' = aput d (.ptr id 0) (killE id e) ∧ h' = (id, .it (.mapIter (some r) clk #[] clk)) :: killH id h) := fun Pm F w0 pin ι a w R K Qx hK => by
 obtain ⟨te, h1, h2⟩ := za1 ht
 obtain ⟨vm, hvm, E, rfl, hC, _⟩ := R.heap.blk mid _ hm
 have hxv := zj R.env hx
 have hxe : a.eval x = .map (some r) := by
  generalize a.eval x = u at hxv
  cases hxv with
  | mp _ _ h1 h2 => exact h2 _ hvm
 have hb : ∀ ι', ι' = upd ι id (some (.pointer (some ⟨w.heap.size, 0, none⟩))) → Ext w F ι (w.alloc (.mapIter (some r) clk #[] clk)) ι' → BRel (w.alloc (.mapIter (some r) clk #[] clk)) F ι' (.it (.mapIter (some r) clk #[] clk)) (.pointer (some ⟨w.heap.size, 0, none⟩)) := fun ι' _ _ => ⟨_, rfl, zbg _ _⟩
 obtain ⟨hR, hCt⟩ := R.new (T := T) hid hd (.mapIter (some r) clk #[] clk) (.pointer (some ⟨w.heap.size, 0, none⟩)) (by simp [blockOf]) _ (.ptr id 0) hb fun ι' h1 => .ptr id 0 _ rfl fun v hv => by subst h1; simp [upd] at hv; subst hv; exact ⟨_, rfl, rfl⟩
 have hrun : (execOp a.eval o).run P w = .ok (.value (.pointer (some ⟨w.heap.size, 0, none⟩))) (w.alloc (.mapIter (some r) clk #[] clk)) := by
  have hu : P.underlying t = some (.map k v) := by
   obtain ⟨d, hd, _, hs⟩ := (TO t te h1).und
   rw [h2] at hs
   rw [hd, show d = .map k v from hs]
  simp only [execOp, ho, hxe]
  simp [run_range_map w t k v r E clk hu hC]
 unfold Oper.wp
 rw [hrun, Oper.upon_value, hdst]
 exact hK _ _ _ _ _ ⟨rfl, rfl⟩ hR hCt (zl _ _ _)
theorem znP {t : TypeId} {x : Operand} {d mid r clk : Nat} {bs : List Nat} {es : List (AVal × AVal)} {k v : TypeId} (TO : TabOk P tab) (hw : awant ops e o = some true) (hdst : o.dst = some d) (hd : Nat.blt d nt = true) (hid : Nat.blt d 1000 = true) (ho : o.op = .range t x) (ht : tmap tab t = some (k, v)) (hx : aev e x = some (.mp mid)) (hm : look h mid = some (.mapx r bs clk es))
  (HK : AOps P nt ops Q rest ((d, .ptr d 0) :: killE d e) ((d, .it (.mapIter (some r) clk #[] clk)) :: killH d h)) : AOps P nt ops Q (o :: rest) e h :=
 zat (T := []) hw (znU TO ho hdst ht hx hm hid hd) fun e' h' ⟨h1, h2⟩ => by subst h1 h2; exact HK
theorem zlk {Pm F : Nat → Prop} {w0 w : World} {pin ι : Nat → Option Value} {a : Act} (H : HRel Pm F w0 pin ι h w) (E : EnvRel w F ι e a) {x : Operand} {it : Nat} {ob : Obj} (hx : aev e x = some (.ptr it 0)) (hi : look h it = some (.it ob)) :
  ∃ r, ι it = some (.pointer (some ⟨r, 0, none⟩)) ∧ w.heap[r]? = some ob ∧ a.eval x = .pointer (some ⟨r, 0, none⟩) := by
 obtain ⟨v, hv, r, rfl, hr⟩ := H.blk it _ hi
 refine ⟨r, hv, hr, ?_⟩
 have hxv := zj E hx
 generalize a.eval x = u at hxv
 cases hxv with
 | ptr _ _ _ h1 h2 =>
  obtain ⟨r', h3, h4⟩ := h2 _ hv
  cases h3
  exact h4
theorem zpo {x : Operand} {d : Option Tmp} {it mid r since c0 clk : Nat} {seen : Array Nat} {bs : List Nat} {es : List (AVal × AVal)} (ho : o.op = .next x false) (hdst : o.dst = d) (hx : aev e x = some (.ptr it 0)) (hi : look h it = some (.it (.mapIter (some r) since seen c0))) (hm : look h mid = some (.mapx r bs clk es))
  (hs : clk ≤ since) (hsc : since ≤ c0) (hd : dstOk nt d = true) (hT : T.contains it = true) :
  AEff P nt T e h o (fun e' h' => (e' = aput d (.tup [.d (.sc (.bool false))]) e ∧ h' = h ∧ ∀ b ∈ bs, seen.contains b = true) ∨
   ∃ (j : Nat) (p : AVal × AVal) (b : Nat), es[j]? = some p ∧ bs[j]? = some b ∧ seen.contains b = false ∧ e' = aput d (.tup [.d (.sc (.bool true)), p.1, p.2]) e ∧ h' = (it, .it (.mapIter (some r) since (seen.push b) clk)) :: h) := fun Pm F w0 pin ι a w R K Qx hK => by
 obtain ⟨ri, hvi, hri, hxe⟩ := zlk R.heap R.env hx hi
 obtain ⟨vm, hvm, E, rfl, hC, hl, hr, hbs, hp, hlt⟩ := R.heap.blk mid _ hm
 have hold : ∀ m ∈ E.toList, m.born < since := fun m hm => Nat.lt_of_lt_of_le (hlt m.born (by rw [← hbs]; exact List.mem_map.2 ⟨m, hm, rfl⟩)) hs
 unfold Oper.wp
 rcases run_next_at (P := P) w o.type ri r since c0 seen E clk hri hC hold hsc with ⟨h0, hrun⟩ | ⟨en, hen, w1, hw1, hrun⟩
 ·have hrun2 : (execOp a.eval o).run P w = .ok (.value (.tuple #[.bool false])) w := by
   simp only [execOp, ho, hxe]
   simp [hrun]
  rw [hrun2, Oper.upon_value, hdst]
  refine hK ι _ _ _ w (.inl ⟨rfl, rfl, fun b hb => ?_⟩) (R.put hd (.tup _ _ rfl fun i c u h1 h2 => ?_)) ⟨CT.refl _ _ _, fun id _ v r h1 h2 _ => ⟨v, h1, h2⟩⟩ (zl _ _ _)
  ·rw [← hbs] at hb
   obtain ⟨m, hm, rfl⟩ := List.mem_map.1 hb
   cases hc : seen.contains m.born with
   | true => rfl
   | false =>
    have : m ∈ (leftOf E seen).toList := by
     unfold leftOf
     rw [Array.toList_filter]
     exact List.mem_filter.2 ⟨hm, by rw [hc]; rfl⟩
    rw [Array.eq_empty_of_size_eq_zero h0] at this
    simp at this
  ·match i with
   | 0 => simp at h1 h2; subst h1 h2; exact .d _ _ (.sc _ rfl)
   | i + 1 => simp at h1
 ·obtain ⟨w', hw'⟩ : ∃ w', setBlock w1 ri (.mapIter (some r) since (seen.push en.born) clk) = w' := ⟨_, rfl⟩
  rw [hw'] at hrun
  have hrun2 : (execOp a.eval o).run P w = .ok (.value (.tuple #[.bool true, en.key, en.val])) w' := by
   simp only [execOp, ho, hxe]
   simp [hrun]
  rw [hrun2, Oper.upon_value, hdst]
  have hmem : en ∈ E.toList ∧ seen.contains en.born = false := by
   unfold leftOf at hen
   rw [Array.toList_filter] at hen
   have := List.mem_filter.1 hen
   exact ⟨this.1, by simpa using this.2⟩
  obtain ⟨j, hj⟩ := List.getElem?_of_mem hmem.1
  have hj2 : E[j]? = some en := by rw [← Array.getElem?_toList]; exact hj
  have hjl : j < es.length := by rw [← hl]; exact (Array.getElem?_eq_some_iff.1 hj2).1
  have h1w : w1.heap = w.heap ∧ w1.os = w.os ∧ w1.tape = w.tape ∧ w1.output = w.output := by rcases hw1 with rfl | rfl <;> exact ⟨rfl, rfl, rfl, rfl⟩
  have hlt' : ri < w.heap.size := (Array.getElem?_eq_some_iff.1 hri).1
  have hW : Wrote w (.pointer (some ⟨ri, 0, none⟩)) w' := by
   rw [← hw']
   refine ⟨h1w.2.1, h1w.2.2.1, h1w.2.2.2, by simp [setBlock, h1w.1], fun q hq hne => ?_⟩
   have : ri ≠ q := by rintro rfl; exact hne rfl
   simp [setBlock, h1w.1, Array.getElem?_setIfInBounds_ne this]
  have hnew : w'.heap[ri]? = some (.mapIter (some r) since (seen.push en.born) clk) := by
   rw [← hw']; simp [setBlock, h1w.1, hlt']
  have hB := (hr j es[j] en (List.getElem?_eq_getElem hjl) hj2)
  refine hK ι _ _ _ w' (.inr ⟨j, es[j], en.born, List.getElem?_eq_getElem hjl, by rw [← hbs, List.getElem?_map, hj]; rfl, hmem.2, rfl, rfl⟩) ⟨R.heap.wrote hW hvi ⟨ri, rfl, hnew⟩, (R.env.mono fun _ _ _ _ hv' => hv'.wrote hW hvi).aput hd R.size (.tup _ _ rfl fun i c u h1 h2 => ?_), by rw [zl]; exact R.defers.ext (hW.ext hvi), by rw [zac]; exact R.size⟩ ⟨⟨hW.os, hW.tape, hW.output, hW.size, fun q hq hne => hW.mem q hq fun hb => hne it (List.contains_iff_mem.1 hT) _ hvi hb⟩, fun id _ v r h1 h2 _ => ⟨v, h1, h2⟩⟩ (zl _ _ _)
  match i with
  | 0 => simp at h1 h2; subst h1 h2; exact .d _ _ (.sc _ rfl)
  | 1 => simp at h1 h2; subst h1 h2; exact hB.1.wrote hW hvi
  | 2 => simp at h1 h2; subst h1 h2; exact hB.2.wrote hW hvi
  | i + 3 => simp at h1
theorem zpm {x : Operand} {d it mid r since c0 clk : Nat} {seen : Array Nat} {bs : List Nat} {es : List (AVal × AVal)} (hw : awant ops e o = some true) (hdst : o.dst = some d) (hd : Nat.blt d nt = true) (ho : o.op = .next x false) (hx : aev e x = some (.ptr it 0)) (hi : look h it = some (.it (.mapIter (some r) since seen c0))) (hm : look h mid = some (.mapx r bs clk es))
  (hs : clk ≤ since) (hsc : since ≤ c0) (H0 : (∀ b ∈ bs, seen.contains b = true) → AOps P nt ops Q rest ((d, .tup [.d (.sc (.bool false))]) :: e) h)
  (H1 : ∀ (j : Nat) (p : AVal × AVal) (b : Nat), es[j]? = some p → bs[j]? = some b → seen.contains b = false → AOps P nt ops Q rest ((d, .tup [.d (.sc (.bool true)), p.1, p.2]) :: e) ((it, .it (.mapIter (some r) since (seen.push b) clk)) :: h)) : AOps P nt ops Q (o :: rest) e h :=
 zat (T := [it]) hw (zpo (d := some d) ho hdst hx hi hm hs hsc hd (by simp)) fun e' h' hR => by
  rcases hR with ⟨h1, h2, h3⟩ | ⟨j, p, b, h1, h2, h3, h4, h5⟩
  ·subst h1 h2; exact H0 h3
  ·subst h4 h5; exact H1 j p b h1 h2 h3
theorem znL {x : Operand} {it mid r since clk j b : Nat} {seen : Array Nat} {bs : List Nat} {es : List (AVal × AVal)} {p : AVal × AVal} (ho : o.op = .entry x) (hx : aev e x = some (.ptr it 0)) (hi : look h it = some (.it (.mapIter (some r) since (seen.push b) clk))) (hm : look h mid = some (.mapx r bs clk es))
  (hp : es[j]? = some p) (hb : bs[j]? = some b) (hT1 : T.contains it = false) (hT2 : T.contains mid = false) : AYield P T e h o (.tup [p.1, p.2]) := fun Pm F w0 pin ι a w H E => by
 obtain ⟨ri, hvi, hri, hxe⟩ := zlk H E hx hi
 obtain ⟨vm, hvm, Ar, rfl, hC, hl, hr, hbs, hpw, hlt⟩ := H.blk mid _ hm
 have hj : j < Ar.size := by rw [hl]; exact (List.getElem?_eq_some_iff.1 hp).1
 have hj2 : Ar[j]? = some Ar[j] := Array.getElem?_eq_getElem hj
 have hborn : Ar[j].born = b := by
  rw [← hbs, List.getElem?_map, Array.getElem?_toList, hj2] at hb
  simpa using hb
 have hB := hr j p _ hp hj2
 refine ⟨.tuple #[Ar[j].key, Ar[j].val], .tup _ _ rfl fun i c u h1 h2 => ?_, fun w' hw' => ?_⟩
 ·match i with
  | 0 => simp at h1 h2; subst h1 h2; exact hB.1
  | 1 => simp at h1 h2; subst h1 h2; exact hB.2
  | i + 2 => simp at h1
 ·have keep : ∀ (id : Nat) (v : Value) (q : Nat), ι id = some v → blockOf v = some q → T.contains id = false → w'.heap[q]? = w.heap[q]? := fun id v q hv hq hn => hw'.mem q (H.lt hv hq) fun id2 h2 v2 hv2 hb2 => by
   have hne : id2 ≠ id := by rintro rfl; rw [List.contains_iff_mem.2 h2] at hn; cases hn
   exact H.inj id2 id v2 v q hne hv2 hv hb2 hq
  have g1 : w'.heap[ri]? = some (.mapIter (some r) since (seen.push Ar[j].born) clk) := by rw [keep it _ ri hvi rfl hT1, hborn]; exact hri
  have g2 : w'.heap[r]? = some (.map Ar clk) := by rw [keep mid _ r hvm rfl hT2]; exact hC
  have hnd : (Ar.toList.map (·.born)).Nodup := by rw [hbs]; exact hpw.imp fun h => Nat.ne_of_lt h
  have := run_entry_at (P := P) w' ri r since seen Ar clk Ar[j] g1 g2 (by simp) hnd
  simp only [execOp, ho, hxe]
  simp [this]

theorem zja {f : FuncId} {x : Operand} {caps : List AVal} {args : Array Operand} {ats : Array TypeId} {cs : List AVal} {d : Option Tmp} {c : AVal} (ho : o.op = .call { callee := .value x, args := args, argTypes := ats }) (hdst : o.dst = d) (hf : aev e x = some (.fn f caps)) (hx : aevs e args.toList = some cs)
  (H : ACall P f (cs ++ caps) [] (fun c' h' => c' = c ∧ h' = [])) (hd : dstOk nt d = true) (hc : ∀ j, c.has j = false) : AEff P nt T e h o (fun e' h' => e' = aput d c e ∧ h' = h) := fun Pm F w0 pin ι a w R K Qx hK => by
 have hfv := zj R.env hf
 generalize hau : a.eval x = u at hfv
 cases hfv with
 | fn _ _ C hl hh =>
  unfold Oper.wp
  rw [zdS H.1 ho hau, Oper.upon_enter, hdst]
  have hF : ∀ r, Fc F ι r → r < w.heap.size := fun r hr => hr.elim (fun h1 => Nat.lt_of_lt_of_le (R.heap.forb r h1) R.heap.size) fun ⟨id, v, h1, h2⟩ => R.heap.lt h1 h2
  have hA := zbD R.env hx
  have hA2 : ArgsRel w F ι (cs ++ caps) (args.map a.eval ++ C) := by
   refine ⟨by simp [hl]; exact by simpa using hA.1, fun i c u h1 h2 => ?_⟩
   have hAl : (args.map a.eval).size = cs.length := hA.1
   by_cases hi : i < cs.length
   ·rw [List.getElem?_append_left hi] at h1
    rw [Array.getElem?_append_left (by omega)] at h2
    exact hA.2 i c u h1 h2
   ·rw [List.getElem?_append_right (by omega)] at h1
    rw [Array.getElem?_append_right (by omega), hAl] at h2
    exact hh (i - cs.length) c u h1 h2
  refine (H.2 _ _ w _ _ _ w (HRel.none (Fc F ι) w hF) (zgg hA2)).mono ?_
  rintro y w' ⟨u, c', h', ι', rfl, ⟨rfl, rfl⟩, hH, hv⟩
  obtain ⟨ι2, hR, hC⟩ := R.called (T := T) hH hv (by rfl) (fun _ _ _ h => (by cases h)) (fun j hj => by rw [hc] at hj; cases hj) hd
  rw [List.map_nil, zco, zcn, List.nil_append] at hR
  exact hK _ _ _ _ _ ⟨rfl, rfl⟩ hR hC (zl _ _ _)
theorem O_cF {f : FuncId} {x : Operand} {caps : List AVal} {args : Array Operand} {ats : Array TypeId} {cs : List AVal} {d : Nat} {c : AVal} (hw : awant ops e o = some true) (hdst : o.dst = some d) (hd : Nat.blt d nt = true) (ho : o.op = .call { callee := .value x, args := args, argTypes := ats }) (hf : aev e x = some (.fn f caps)) (hx : aevs e args.toList = some cs)
  (H : ACall P f (cs ++ caps) [] (fun c' h' => c' = c ∧ h' = [])) (hc : ∀ j, c.has j = false) (HK : AOps P nt ops Q rest ((d, c) :: e) h) : AOps P nt ops Q (o :: rest) e h :=
 zat (T := []) hw (zja (d := some d) ho hdst hf hx H hd hc) fun e' h' ⟨h1, h2⟩ => by subst h1 h2; exact HK
end
end Go.Proofs.YtmmdkjanmegjdaaGreat.Ab

namespace Go.Proofs.YtmmdkjanmegjdaaGreat.Ab
open Go.RowKit
section
variable {nt : Nat} {e : Env} {h : Heap}
theorem zbZ {b i : Nat} {cs : List AVal} (hb : look h b = some (.var cs)) (hi : cs[i]? = some (.d (.sc (.slice none 0 0)))) : AWk nt e h e ((b, .var (cs.set i (.d (.sl [] 0)))) :: h) := fun Pm F w0 pin ι a w R => by
 obtain ⟨v, hv, r, C, T, rfl, hC, hlC, hrr⟩ := R.heap.blk b _ hb
 have hW : Wrote w (.pointer (some ⟨r, 0, none⟩)) w := ⟨rfl, rfl, rfl, Nat.le_refl _, fun _ _ _ => rfl⟩
 have H2 := R.heap.wrote (b' := .var (cs.set i (.d (.sl [] 0)))) hW hv ⟨r, C, T, rfl, hC, by rw [List.length_set]; exact hlC, fun j c u h1 h2 => by
  rw [List.getElem?_set] at h1
  by_cases hij : i = j
  ·subst hij
   rw [if_pos rfl] at h1
   split at h1
   ·cases h1; exact zdj _ _ _ _ (hrr i _ u hi h2)
   ·cases h1
  ·rw [if_neg hij] at h1; exact hrr j c u h1 h2⟩
 exact ⟨_, H2, R.env, R.defers, R.size⟩
end
end Go.Proofs.YtmmdkjanmegjdaaGreat.Ab

namespace Go.Proofs.YtmmdkjanmegjdaaGreat.Ab
open Go.RowKit
def tbytes (tab : TTab) (t : Nat) : Option Nat := match tlook tab t with
 | some ⟨_, b, _, _, _⟩ => some b
 | none => none
section
variable {P : Program} {nt : Nat} {Q : Post} {K : Env → Heap → Prop} {e : Env} {h : Heap} {ops : Array Oper} {o : Oper} {rest : List Oper} {T : List Nat} {tab : TTab} {fuel i : Nat} {listed : Array Bool}
theorem zkd {e' : Env} {h' : Heap} (hk : AWkS nt e h e' h') (H : AAny P nt ops Q T fuel listed e' h') : AAny P nt ops Q T fuel listed e h := fun Pm F w0 pin ι a w R => by
 obtain ⟨ι', hs, R'⟩ := hk Pm F w0 pin ι a w R
 refine zcw (fun w2 h2 => ?_) _ _ _ _ (H Pm F w0 pin ι' a w R')
 exact ⟨h2.os, h2.tape, h2.output, h2.size, fun r hr hn => h2.mem r hr fun j hj v hv => hn j hj v (hs j v hv)⟩
def ptReady (ops : Array Oper) (listed : Array Bool) (i : Nat) : Bool := Nat.blt i ops.size && !listed.getD i true && ((ops[i]?).map (·.after.all fun e => !Region.binds .any e || listed.getD e.on false)).getD false
def freeB (ops : Array Oper) (i : Nat) : Bool := match ops[i]? with
 | none => false
 | some oi => (List.range ops.size).all fun j => j == i || oi.after.any (fun e => Region.binds .any e && e.on == j) || match ops[j]? with
   | some oj => oj.after.any (fun e => Region.binds .any e && e.on == i) || oi.apart ops oj
   | none => true
theorem zhI {l2 : Array Bool} (hl : listed = l2) (H : AAny P nt ops Q T fuel l2 e h) : AAny P nt ops Q T fuel listed e h := by subst hl; exact H
theorem zhD {t el k d : Nat} (TO : TabOk P tab) (hi : ops[i]? = some o) (hw : awant ops e o = some true) (hdst : o.dst = some d) (hd : Nat.blt d nt = true) (hid : Nat.blt d 1000 = true) (ho : o.op = .buildSlice t 0 #[]) (hel : telem tab t = some el) (hsz : tsize tab el = some k)
  (HK : AAny P nt ops Q T fuel (listed.setIfInBounds i true) ((d, .row d) :: killE d e) ((d, .row el k 0 []) :: killH d h)) : AAt P nt ops Q T fuel listed i e h := by
 obtain ⟨te, h1, h2⟩ := zy hel
 obtain ⟨te', h3, rfl⟩ := zu hsz
 exact za5 hi hw (zc7 TO ho hdst h1 h2 h3 hid hd) fun e' h' ⟨h1, h2⟩ => by subst h1 h2; exact HK
end
end Go.Proofs.YtmmdkjanmegjdaaGreat.Ab

namespace Go.Proofs.YtmmdkjanmegjdaaGreat
open Go.ChangeShapes Go.WideShapes Go.ChangeAt Go.RowKit
set_option maxRecDepth 100000

theorem own_ : ownKnob Tryz.prog.godebug = none := by kernel_rfl
theorem zpB : laidOutB Tryz.prog = true := by kernel_rfl

theorem zc4 {H : Type} {enc : TypeId × Value → H} {P : Program} (hl : laidOutB P = true) {W W' : World} (hb : Below W.heap.size W W') :
  ∀ (ts : List TypeId) (vs : List Value) (ds : List (DataW H)) (ps : List MemPlace), (∀ t ∈ ts, P.readableRec t = true ∧ t < P.types.size) → (∀ x ∈ ps, x.block < W.heap.size) →
   DataW.TrodAll enc P W 0 (fun _ => true) true ts vs ds ps → DataW.TrodAll enc P W' 0 (fun b => decide (b < W.heap.size)) true ts vs ds ps
 | [], vs, ds, ps, _, _, h => by
  obtain ⟨rfl, rfl, rfl⟩ := trodAll_nil h
  exact trodAll_mk0
 | t :: ts, vs, ds, ps, hr, hlt, h => by
  obtain ⟨v, vs', d, ds', p, q, rfl, rfl, rfl, h1, h2⟩ := trodAll_cons h
  have hr0 := hr t (by simp)
  exact ⟨p, q, Below.trod hl hr0.1 hr0.2 h1 hb (fun x hx => hlt x (by simp [hx])), zc4 hl hb ts vs' ds' q (fun t' h' => hr t' (by simp [h'])) (fun x hx => hlt x (by simp [hx])) h2, rfl⟩

theorem zlg {H : Type} {enc : TypeId × Value → H} {P : Program} {f : Func} {s : ChangeSpec} {W W' : World} {args : Array Value} {ds gs : List (DataW H)} {before : List MemPlace} {tb : TypeId}
  (hrt : f.resultTypes = #[tb]) (hub : P.underlying tb = some .bool) (hv : s.vars = []) (hres : (s.fn H (ds ++ gs)).results = [.lit (.bool true)]) (hargs : (s.fn H (ds ++ gs)).args = ds) (hvs : (s.fn H (ds ++ gs)).vars = [])
  (hl : laidOutB P = true) (hr : ∀ t ∈ f.params.toList, P.readableRec t = true ∧ t < P.types.size)
  (hW : DataW.Whole enc P f.params.toList s.vars false W args.toList ds gs before) (hb : Below W.heap.size W W') : s.post enc P f false true false false W args (.bool true) W' := by
 have hlt := hW.lt
 obtain ⟨p, q, hA, hV, hps, hfz, hnd⟩ := id hW
 rw [hv] at hV
 obtain ⟨hg, hq⟩ := trodVars_none hV
 subst hq
 rw [List.append_nil] at hps
 subst hps
 refine ⟨ds, gs, before, [], before, [], hW, ?_, ?_, ?_, hb.frame _, fun h => by cases h⟩
 ·rw [hres, hrt]
  exact trodAll_mk1 ⟨1, by simp [DataW.trod, hub, Value.cells]⟩
 ·rw [hargs]
  exact zc4 hl hb _ _ _ _ hr hlt hA
 ·rw [hv, hvs]; exact rfl

def Walked (k : FuncId) (params : List TypeId) : Prop :=
 ∀ (H : Type) (enc : TypeId × Value → H) (W : World) (args : Array Value) (ds : List (DataW H)) (ps : List MemPlace), (∀ (j : Nat) t v, params[j]? = some t → args[j]? = some v → ∃ base, Value.okWide Tryz.prog W .any base t v) →
  DataW.TrodAll enc Tryz.prog W 0 (fun _ => true) true params args.toList ds ps → (DataW.weightsEach Tryz.prog params ds).all (· ≤ reachBytes) = true → Calls Tryz.prog k args W (Ret W (.bool true))

section
variable {H : Type} {enc : TypeId × Value → H} {P : Program} {w : World} {base : Nat} {spare : Nat → Bool} {held : Bool} {fuel : Nat}
theorem zh8 {k : IntKind} {n : Int} (h : (Lit.int k n).wf = true) : k.min ≤ n ∧ n ≤ k.max := by
 simpa [Lit.wf] using h
end
end Go.Proofs.YtmmdkjanmegjdaaGreat

/-
 Texts of a proof, one behind the other (part 3).
-/
import Derived.Lib.Bytealg
import Derived.Maps.Own
import Derived.Maps.RangeRun
import Derived.Laws.StructEq
import Derived.Test.YtoahnbmedcjpeaaGreatDoorMn1
set_option maxRecDepth 100000
set_option linter.unusedVariables false
set_option linter.unusedSimpArgs false
namespace Go.Proofs.YtoahnbmedcjpeaaGreatDoor.Ab
open Go.RowKit

def intA (n : Int) : AVal := .d (.sc (.int .i64 n))
def boolA (b : Bool) : AVal := .d (.sc (.bool b))
def pfxD (p : Pfx) : List Dat := [.sc (.int .u32 p.a), .sc (.int .i64 p.b)]
theorem zcW (p : Pfx) : (pfxD p).length = 2 := rfl
def pfxA (p : Pfx) : AVal := .agg [.d (.sc (.int .u32 p.a)), .d (.sc (.int .i64 p.b))]
def pfxsA (l : List Pfx) : AVal := .d (.sl (l.flatMap pfxD) l.length)
theorem pfxEq (x y : Pfx) : eqCells [.int .u32 x.a, .int .i64 x.b] [.int .u32 y.a, .int .i64 y.b] = some (x == y) := by
 obtain ⟨a, b⟩ := x
 obtain ⟨c, d⟩ := y
 simp only [eqCells, eqV, if_true, Bool.and_true, Option.some.injEq]
 rw [Bool.eq_iff_iff]
 simp [Pfx.mk.injEq]
theorem zfp : ∀ t, (tlook tab t).isSome = true → Tryz.prog.stoodInHeld t = false := by
 have h : tab.all (fun t _ => !Tryz.prog.stoodInHeld t) = true := by kernel_rfl
 intro t ht
 obtain ⟨te, hte⟩ := Option.isSome_iff_exists.1 ht
 simpa using TTab.of_all h hte
abbrev Just (c : AVal) : AVal → Heap → Prop := fun c' h' => c' = c ∧ h' = []

theorem zcf (p : Pfx) (hp : p.ok) : ACall Tryz.prog 194 [pfxA p] [] (Just (intA (chk p))) := zaP (by kernel_rfl) rfl rfl rfl fun w => zge p w hp
theorem zkO (p q : Pfx) : ACall Tryz.prog 176 [pfxA p, pfxA q] [] (Just (intA (cmpP p q))) := zaP (by kernel_rfl) rfl rfl rfl fun w => ziJ p q w
end Go.Proofs.YtoahnbmedcjpeaaGreatDoor.Ab

namespace Go.Proofs.YtoahnbmedcjpeaaGreatDoor
open Go.Lib

structure Good {α : Type} (c : α → α → Int) : Prop where
 anti : ∀ x y, c y x = - c x y
 trans : ∀ x y z, c x y ≤ 0 → c y z ≤ 0 → c x z ≤ 0
section
variable {α β : Type} {c d : α → α → Int}
theorem Good.refl (G : Good c) (x : α) : c x x = 0 := by have := G.anti x x; omega
theorem Good.lt_le (G : Good c) {x y z : α} (h1 : c x y < 0) (h2 : c y z ≤ 0) : c x z < 0 := by
 have h3 := G.trans x y z (by omega) h2
 rcases Int.lt_or_eq_of_le h3 with h4 | h4
 ·exact h4
 ·have h5 := G.anti x z
  have h6 := G.trans y z x h2 (by omega)
  have h7 := G.anti x y
  omega
theorem Good.le_lt (G : Good c) {x y z : α} (h1 : c x y ≤ 0) (h2 : c y z < 0) : c x z < 0 := by
 have h3 := G.trans x y z h1 (by omega)
 rcases Int.lt_or_eq_of_le h3 with h4 | h4
 ·exact h4
 ·have h5 := G.anti x z
  have h6 := G.trans z x y (by omega) h1
  have h7 := G.anti y z
  omega
def lexc (c d : α → α → Int) : α → α → Int := fun x y => if c x y = 0 then d x y else c x y
theorem Good.lex (G : Good c) (H : Good d) : Good (lexc c d) := by
 refine ⟨fun x y => ?_, fun x y z h1 h2 => ?_⟩
 ·unfold lexc
  have h := G.anti x y
  by_cases h0 : c x y = 0
  ·rw [if_pos h0, if_pos (by omega)]; exact H.anti x y
  ·rw [if_neg h0, if_neg (by omega)]; exact h
 ·unfold lexc at *
  by_cases hxy : c x y = 0
  ·rw [if_pos hxy] at h1
   by_cases hyz : c y z = 0
   ·rw [if_pos hyz] at h2
    have e1 := G.trans x y z (by omega) (by omega)
    have e2 := G.anti x y
    have e3 := G.anti y z
    have e4 := G.trans z y x (by omega) (by omega)
    have e5 := G.anti x z
    rw [if_pos (by omega)]
    exact H.trans x y z h1 h2
   ·rw [if_neg hyz] at h2
    have := G.le_lt (x := x) (y := y) (z := z) (by omega) (by omega)
    rw [if_neg (by omega)]; omega
  ·rw [if_neg hxy] at h1
   have h3 : c y z ≤ 0 := by
    by_cases hyz : c y z = 0
    ·omega
    ·rw [if_neg hyz] at h2; exact h2
   have := G.lt_le (x := x) (y := y) (z := z) (by omega) h3
   rw [if_neg (by omega)]; omega
theorem Good.of (G : Good c) (g : β → α) : Good fun x y => c (g x) (g y) := ⟨fun x y => G.anti _ _, fun x y z => G.trans _ _ _⟩
theorem Good.neg (G : Good c) : Good fun x y => c y x := ⟨fun x y => G.anti _ _, fun x y z h1 h2 => G.trans z y x h2 h1⟩
end
def c2 (x y : Int) : Int := if x < y then -1 else if y < x then 1 else 0
theorem zb7 : Good c2 := ⟨fun x y => by unfold c2; split <;> split <;> omega, fun x y z h1 h2 => by unfold c2 at *; split at h1 <;> split at h2 <;> (try split at h1) <;> (try split at h2) <;> split <;> (try split) <;> omega⟩
def cB (x y : Bool) : Int := if x = y then 0 else if y then -1 else 1
theorem zix : Good cB := ⟨fun x y => by cases x <;> cases y <;> decide, fun x y z h1 h2 => by cases x <;> cases y <;> cases z <;> revert h1 h2 <;> decide⟩
theorem zc5 : Good compareBytes := by
 refine ⟨fun x => ?_, fun x => ?_⟩
 ·induction x with
  | nil => intro y; cases y <;> simp [compareBytes]
  | cons a x ih =>
   intro y
   cases y with
   | nil => simp [compareBytes]
   | cons b y =>
    simp only [compareBytes]
    by_cases h1 : a < b
    ·have h2 : ¬ b < a := fun h => by have := UInt8.lt_trans h1 h; exact UInt8.lt_irrefl _ this
     simp [h1, h2]
    ·by_cases h2 : b < a
     ·simp [h1, h2]
     ·simp [h1, h2, ih y]
 ·induction x with
  | nil => intro y z _ h2; cases z <;> simp [compareBytes]
  | cons a x ih =>
   intro y z h1 h2
   cases y with
   | nil => simp [compareBytes] at h1
   | cons b y =>
    cases z with
    | nil => simp [compareBytes] at h2
    | cons d z =>
     simp only [compareBytes] at *
     simp only [UInt8.lt_iff_toNat_lt] at *
     split at h1
     ·split at h2
      ·rw [if_pos (by omega)]; omega
      ·split at h2
       ·omega
       ·rw [if_pos (by omega)]; omega
     ·split at h1
      ·omega
      ·split at h2
       ·rw [if_pos (by omega)]; omega
       ·split at h2
        ·omega
        ·rw [if_neg (by omega), if_neg (by omega)]
         exact ih y z h1 h2
theorem zbW : ∀ {x y : List UInt8}, compareBytes x y = 0 ↔ x = y
 | [], [] => by simp [compareBytes]
 | [], _ :: _ => by simp [compareBytes]
 | _ :: _, [] => by simp [compareBytes]
 | a :: x, b :: y => by
  simp only [compareBytes, List.cons.injEq]
  split
  ·rename_i h
   exact ⟨fun h2 => by omega, fun h2 => by rw [h2.1] at h; exact absurd h (UInt8.lt_irrefl _)⟩
  ·split
   ·rename_i h
    exact ⟨fun h2 => by omega, fun h2 => by rw [h2.1] at h; exact absurd h (UInt8.lt_irrefl _)⟩
   ·rename_i h1 h2
    rw [zbW]
    refine ⟨fun h => ⟨?_, h⟩, fun h => h.2⟩
    rw [UInt8.lt_iff_toNat_lt] at h1 h2
    exact UInt8.toNat_inj.1 (by omega)

section
variable {α : Type} {c : α → α → Int}
def Rising (c : α → α → Int) (l : List α) : Prop := l.Pairwise fun x y => c x y < 0
def srt (c : α → α → Int) (l : List α) : List α := l.mergeSort fun x y => !(decide (c y x < 0))
variable [DecidableEq α]
def dedA : List α → List α
 | [] => []
 | [x] => [x]
 | x :: y :: r => if x = y then dedA (y :: r) else x :: dedA (y :: r)
def sortU (c : α → α → Int) (l : List α) : List α := dedA (srt c l)
end
end Go.Proofs.YtoahnbmedcjpeaaGreatDoor

namespace Go.Proofs.YtoahnbmedcjpeaaGreatDoor.Ab
open Go.RowKit Go.Lib

theorem zaX : ∀ (a b : List UInt8), Op.bytesLess a b = decide (compareBytes a b < 0)
 | [], [] => by simp [Op.bytesLess, compareBytes]
 | [], _ :: _ => by simp [Op.bytesLess, compareBytes]
 | _ :: _, [] => by simp [Op.bytesLess, compareBytes]
 | a :: x, b :: y => by
  rw [Op.bytesLess, compareBytes, zaX x y]
  by_cases h : a < b
  ·simp [h]
  ·by_cases h2 : b < a
   ·have : (a == b) = false := by
     rw [beq_eq_false_iff_ne]
     rintro rfl
     exact UInt8.lt_irrefl _ h2
    simp [h, h2, this]
   ·have : a = b := by
     rw [UInt8.lt_iff_toNat_lt] at h h2
     exact UInt8.toNat_inj.1 (by omega)
    subst this
    simp [h]
theorem zdq (l : List UInt8) : (ByteArray.mk (Array.mk l)).toList = l := by
 rw [ByteArray.toList_eq]
abbrev strA (l : List UInt8) : AVal := .d (.sc (.string ⟨⟨l⟩⟩))
def sbin (op : BinOp) (a b : List UInt8) : Option Bool := match op with
 | .eql => some (decide (a = b))
 | .neq => some (!decide (a = b))
 | .lss => some (decide (compareBytes a b < 0))
 | .leq => some (decide (compareBytes a b ≤ 0))
 | .gtr => some (decide (0 < compareBytes a b))
 | .geq => some (decide (0 ≤ compareBytes a b))
 | _ => none
section
variable {P : Program} {nt : Nat} {Q : Post} {e : Env} {h : Heap} {ops : Array Oper} {o : Oper} {rest : List Oper} {T : List Nat} {tab : TTab}
theorem zaY {op : BinOp} {t u : TypeId} {x y : Operand} {a b : List UInt8} {r : Bool} (ho : o.op = .binOp op t x y u) (hx : aev e x = some (strA a)) (hy : aev e y = some (strA b)) (hr : sbin op a b = some r) : AYield P T e h o (.d (.sc (.bool r))) := zE _ fun w F ι ac E =>
 ⟨.bool r, zQ rfl, fun w' => by
  have hz : (a == b) = decide (compareBytes a b = 0) := by rw [Bool.eq_iff_iff]; simp [zbW]
  have hz2 : decide (a = b) = decide (compareBytes a b = 0) := by rw [Bool.eq_iff_iff]; simp [zbW]
  simp only [execOp, ho, (zL (zm E hx)).1, (zL (zm E hy)).1]
  cases op <;> first | cases hr; done | (injection hr with hr; subst hr; (try simp only [hz2]); simp [eqGuard, binOp, Op.stringOp, zdq, zaX, hz]; done) | (injection hr with hr; subst hr; (try simp only [hz2]); simp [eqGuard, binOp, Op.stringOp, zdq, zaX, hz]; generalize compareBytes a b = c; rw [Bool.eq_iff_iff]; simp <;> omega)⟩
theorem R_sT {op : BinOp} {t u : TypeId} {x y : Operand} {a b : List UInt8} {r : Bool} (ho : o.op = .binOp op t x y u) (hx : aev e x = some (strA a)) (hy : aev e y = some (strA b)) (hr : sbin op a b = some r) (hc : r = true) : AYield P T e h o (.d (.sc (.bool true))) := by
 subst hc; exact zaY ho hx hy hr
theorem R_sF {op : BinOp} {t u : TypeId} {x y : Operand} {a b : List UInt8} {r : Bool} (ho : o.op = .binOp op t x y u) (hx : aev e x = some (strA a)) (hy : aev e y = some (strA b)) (hr : sbin op a b = some r) (hc : r = false) : AYield P T e h o (.d (.sc (.bool false))) := by
 subst hc; exact zaY ho hx hy hr
def bbin (op : BinOp) (a b : Bool) : Option Bool := match op with
 | .eql => some (a == b)
 | .neq => some (a != b)
 | _ => none
def tbool (tab : TTab) (t : TypeId) : Bool := match tlook tab t with
 | some ⟨_, _, _, _, .bo⟩ => true
 | _ => false
theorem zeM {tab : TTab} {t : TypeId} (TO : TabOk P tab) (h : tbool tab t = true) : P.underlying t = some .bool := by
 unfold tbool at h
 split at h
 ·rename_i heq
  obtain ⟨d, hd, _, hs⟩ := (TO t _ heq).und
  rw [hd]; congr 1
 ·cases h
theorem zhH {op : BinOp} {t u : TypeId} {x y : Operand} {a b : Bool} {r : Bool} (TO : TabOk P tab) (ho : o.op = .binOp op t x y u) (ht : tbool tab t = true) (hx : aev e x = some (.d (.sc (.bool a)))) (hy : aev e y = some (.d (.sc (.bool b)))) (hr : bbin op a b = some r) : AYield P T e h o (.d (.sc (.bool r))) := zE _ fun w F ι ac E =>
 ⟨.bool r, zQ rfl, fun w' => by
  have hu := zeM TO ht
  simp only [execOp, ho, (zL (zm E hx)).1, (zL (zm E hy)).1]
  cases op <;> first | cases hr; done | (injection hr with hr; subst hr; simp [eqGuard, binOp, run_equal_bool w' t a b hu]; done) | (injection hr with hr; subst hr; simp [eqGuard, binOp, run_equal_bool w' t a b hu]; cases a <;> cases b <;> rfl)⟩
end
end Go.Proofs.YtoahnbmedcjpeaaGreatDoor.Ab

namespace Go.Proofs.YtoahnbmedcjpeaaGreatDoor
open Go.RowKit Go.Lib
structure Ifx where
 nm : List UInt8
 vrf : List UInt8
 a : Int
 b : Int
 down : Bool
 fin : List UInt8
 fout : List UInt8
 side : Int
 area : Int
 cost : Int
 pas : Bool
structure Rul where
 ok : Bool
 pr : Int
 src : Pfx
 dst : Pfx
 s1 : Int
 s2 : Int
 d1 : Int
 d2 : Int
structure Fil where
 nm : List UInt8
 rs : List Rul
structure Rwr where
 dst : Bool
 fil : List UInt8
 to : Int
structure Sta where
 vrf : List UInt8
 p : Pfx
 via : Int
 x : Bool
 dist : Int
 tag : Int
structure LEnt where
 ok : Bool
 p : Pfx
 ge : Int
 le : Int
structure PLst where
 nm : List UInt8
 es : List LEnt
structure Mem where
 ok : Bool
 all : List Int
structure CLst where
 nm : List UInt8
 ms : List Mem
structure Cls where
 seq : Int
 act : Int
 pfx : List UInt8
 com : List UInt8
 tag : Int
 met : Int
 thr : Int
 sMet : Int
 sPref : Int
 sTag : Int
 sCom : List Int
 add : Bool
 pre : List Int
 sHop : Int
 jump : Int
structure Pol where
 nm : List UInt8
 cs : List Cls
 dft : Bool
structure Sbj where
 p : Pfx
 met : Int
 tag : Int
 pref : Int
 path : List Int
 com : List Int
 hop : Int
structure Rds where
 from_ : Int
 met : Int
 ty : Int
 pol : List UInt8
structure Osp where
 vrf : List UInt8
 id_ : Int
 fr : List Rds
structure Per where
 a : Int
 as_ : Int
 pin : List UInt8
 pout : List UInt8
 cl : Bool
 slf : Bool
structure Bgi where
 vrf : List UInt8
 as_ : Int
 id_ : Int
 nets : List Pfx
 ps : List Per
 fr : List Rds
structure Dvc where
 nm : List UInt8
 kd : Int
 vrfs : List (List UInt8)
 ifs : List Ifx
 fils : List Fil
 rws : List Rwr
 sts : List Sta
 pls : List PLst
 cls : List CLst
 pols : List Pol
 osp : List Osp
 bgp : List Bgi
structure Adv where
 p : Pfx
 hop : Int
 pref : Int
 met : Int
 path : List Int
 com : List Int
 peer : Int
 pid : Int
 ext : Bool
 orig : Int
 clus : List Int
 ses : Int
namespace Ab
abbrev iD (x : Int) : Dat := .sc (.int .i64 x)
abbrev uD (x : Int) : Dat := .sc (.int .u32 x)
abbrev cD (x : Int) : Dat := .sc (.int .u8 x)
abbrev sD (x : List UInt8) : Dat := .sc (.string ⟨⟨x⟩⟩)
abbrev bD (x : Bool) : Dat := .sc (.bool x)
def u1D (x : Int) : List Dat := [uD x]
def s1D (x : List UInt8) : List Dat := [sD x]
def usD (l : List Int) : Dat := .sl (l.flatMap u1D) l.length
def lsD {α : Type} (enc : α → List Dat) (l : List α) : Dat := .sl (l.flatMap enc) l.length
def ifxD (x : Ifx) : List Dat := [sD x.nm, sD x.vrf, uD x.a, iD x.b, bD x.down, sD x.fin, sD x.fout, cD x.side, iD x.area, iD x.cost, bD x.pas]
def rulD (x : Rul) : List Dat := [bD x.ok, iD x.pr, uD x.src.a, iD x.src.b, uD x.dst.a, iD x.dst.b, uD x.s1, uD x.s2, uD x.d1, uD x.d2]
def filD (x : Fil) : List Dat := [sD x.nm, .sl (x.rs.flatMap rulD) x.rs.length]
def rwrD (x : Rwr) : List Dat := [bD x.dst, sD x.fil, uD x.to]
def staD (x : Sta) : List Dat := [sD x.vrf, uD x.p.a, iD x.p.b, uD x.via, bD x.x, iD x.dist, iD x.tag]
def lentD (x : LEnt) : List Dat := [bD x.ok, uD x.p.a, iD x.p.b, iD x.ge, iD x.le]
def plstD (x : PLst) : List Dat := [sD x.nm, .sl (x.es.flatMap lentD) x.es.length]
def memD (x : Mem) : List Dat := [bD x.ok, usD x.all]
def clstD (x : CLst) : List Dat := [sD x.nm, .sl (x.ms.flatMap memD) x.ms.length]
def clsD (c : Cls) : List Dat := [iD c.seq, cD c.act, sD c.pfx, sD c.com, iD c.tag, iD c.met, iD c.thr, iD c.sMet, iD c.sPref, iD c.sTag, usD c.sCom, bD c.add, usD c.pre, uD c.sHop, iD c.jump]
def polD (p : Pol) : List Dat := [sD p.nm, .sl (p.cs.flatMap clsD) p.cs.length, bD p.dft]
def sbjD (s : Sbj) : List Dat := [uD s.p.a, iD s.p.b, iD s.met, iD s.tag, iD s.pref, usD s.path, usD s.com, uD s.hop]
def rdsD (x : Rds) : List Dat := [cD x.from_, iD x.met, cD x.ty, sD x.pol]
def ospD (x : Osp) : List Dat := [sD x.vrf, uD x.id_, .sl (x.fr.flatMap rdsD) x.fr.length]
def perD (x : Per) : List Dat := [uD x.a, uD x.as_, sD x.pin, sD x.pout, bD x.cl, bD x.slf]
def bgiD (x : Bgi) : List Dat := [sD x.vrf, uD x.as_, uD x.id_, .sl (x.nets.flatMap pfxD) x.nets.length, .sl (x.ps.flatMap perD) x.ps.length, .sl (x.fr.flatMap rdsD) x.fr.length]
def dvcD (d : Dvc) : List Dat := [sD d.nm, cD d.kd, .sl (d.vrfs.flatMap s1D) d.vrfs.length, .sl (d.ifs.flatMap ifxD) d.ifs.length, .sl (d.fils.flatMap filD) d.fils.length, .sl (d.rws.flatMap rwrD) d.rws.length, .sl (d.sts.flatMap staD) d.sts.length, .sl (d.pls.flatMap plstD) d.pls.length, .sl (d.cls.flatMap clstD) d.cls.length, .sl (d.pols.flatMap polD) d.pols.length, .sl (d.osp.flatMap ospD) d.osp.length, .sl (d.bgp.flatMap bgiD) d.bgp.length]
def advD (x : Adv) : List Dat := [uD x.p.a, iD x.p.b, uD x.hop, iD x.pref, iD x.met, usD x.path, usD x.com, uD x.peer, uD x.pid, bD x.ext, uD x.orig, usD x.clus, iD x.ses]
def aggD (l : List Dat) : AVal := .agg (l.map AVal.d)
abbrev u32A (x : Int) : AVal := .d (.sc (.int .u32 x))
abbrev usA (l : List Int) : AVal := .d (usD l)
abbrev dvcA (d : Dvc) : AVal := aggD (dvcD d)
abbrev advA (d : Adv) : AVal := aggD (advD d)
abbrev advsA (l : List Adv) : AVal := .d (.sl (l.flatMap advD) l.length)
theorem zfl (x : Int) : (u1D x).length = 1 := rfl
theorem zb1 (x : List UInt8) : (s1D x).length = 1 := rfl
theorem za4 (x : Ifx) : (ifxD x).length = 11 := rfl
theorem zd9 (x : Rul) : (rulD x).length = 10 := rfl
theorem zaE (x : Fil) : (filD x).length = 2 := rfl
theorem zcV (x : Rwr) : (rwrD x).length = 3 := rfl
theorem zcQ (x : Sta) : (staD x).length = 7 := rfl
theorem zdr (x : LEnt) : (lentD x).length = 5 := rfl
theorem zas (x : PLst) : (plstD x).length = 2 := rfl
theorem zeg (x : Mem) : (memD x).length = 2 := rfl
theorem zav (x : CLst) : (clstD x).length = 2 := rfl
theorem zer (x : Cls) : (clsD x).length = 15 := rfl
theorem zaS (x : Pol) : (polD x).length = 3 := rfl
theorem zea (x : Rds) : (rdsD x).length = 4 := rfl
theorem zbp (x : Osp) : (ospD x).length = 3 := rfl
theorem zec (x : Per) : (perD x).length = 6 := rfl
theorem zbv (x : Bgi) : (bgiD x).length = 6 := rfl
abbrev hI : Shp := .it .i64
abbrev hU : Shp := .it .u32
abbrev hC : Shp := .it .u8
def ifxS : List Shp := [.st, .st, hU, hI, .bo, .st, .st, hC, hI, hI, .bo]
def rulS : List Shp := [.bo, hI, hU, hI, hU, hI, hU, hU, hU, hU]
def filS : List Shp := [.st, .sl rulS 64]
def rwrS : List Shp := [.bo, .st, hU]
def staS : List Shp := [.st, hU, hI, hU, .bo, hI, hI]
def lentS : List Shp := [.bo, hU, hI, hI, hI]
def plstS : List Shp := [.st, .sl lentS 40]
def memS : List Shp := [.bo, .sl [hU] 4]
def clstS : List Shp := [.st, .sl memS 32]
def clsS : List Shp := [hI, hC, .st, .st, hI, hI, hI, hI, hI, hI, .sl [hU] 4, .bo, .sl [hU] 4, hU, hI]
def polS : List Shp := [.st, .sl clsS 168, .bo]
def sbjS : List Shp := [hU, hI, hI, hI, hI, .sl [hU] 4, .sl [hU] 4, hU]
def rdsS : List Shp := [hC, hI, hC, .st]
def ospS : List Shp := [.st, hU, .sl rdsS 40]
def perS : List Shp := [hU, hU, .st, .st, .bo, .bo]
def pfxS : List Shp := [hU, hI]
def bgiS : List Shp := [.st, hU, hU, .sl pfxS 16, .sl perS 48, .sl rdsS 40]
def dvcS : List Shp := [.st, hC, .sl [.st] 16, .sl ifxS 120, .sl filS 40, .sl rwrS 32, .sl staS 56, .sl plstS 40, .sl clstS 40, .sl polS 48, .sl ospS 48, .sl bgiS 96]
def advS : List Shp := [hU, hI, hU, hI, hI, .sl [hU] 4, .sl [hU] 4, hU, hU, .bo, hU, .sl [hU] 4, hI]
end Ab
def Bd (n b : Nat) : Prop := n * b ≤ 140737488351232
def okI (x : Int) : Prop := -9223372036854775808 ≤ x ∧ x ≤ 9223372036854775807
def okU (x : Int) : Prop := 0 ≤ x ∧ x < 4294967296
def okC (x : Int) : Prop := 0 ≤ x ∧ x < 256
structure Ifx.ok (x : Ifx) : Prop where
 a : okU x.a
 b : okI x.b
def Sta.ok (x : Sta) : Prop := x.p.ok ∧ okU x.via ∧ okI x.dist ∧ okI x.tag
def LEnt.ok' (x : LEnt) : Prop := x.p.ok
def Mem.ok' (x : Mem) : Prop := (∀ n ∈ x.all, okU n) ∧ Bd x.all.length 4
def Fil.ok (x : Fil) : Prop := Bd x.rs.length 64
def Rul.ok' (x : Rul) : Prop := x.src.ok ∧ x.dst.ok
def Fil.ok' (x : Fil) : Prop := x.ok ∧ ∀ r ∈ x.rs, r.ok'
def PLst.ok (x : PLst) : Prop := (∀ e ∈ x.es, e.ok') ∧ Bd x.es.length 40
def CLst.ok (x : CLst) : Prop := (∀ e ∈ x.ms, e.ok') ∧ Bd x.ms.length 32
def Osp.ok (x : Osp) : Prop := Bd x.fr.length 40
def Bgi.ok (x : Bgi) : Prop := Bd x.nets.length 16 ∧ Bd x.ps.length 48 ∧ Bd x.fr.length 40
def Bgi.ok' (x : Bgi) : Prop := x.ok ∧ ∀ p ∈ x.nets, p.ok
structure Cls.ok (c : Cls) : Prop where
 com : ∀ n ∈ c.sCom, okU n
 pre : ∀ n ∈ c.pre, okU n
 b1 : Bd c.sCom.length 4
 b2 : Bd c.pre.length 4
def Pol.ok (x : Pol) : Prop := (∀ e ∈ x.cs, e.ok) ∧ Bd x.cs.length 168
structure Sbj.ok (s : Sbj) : Prop where
 p : s.p.ok
 path : ∀ n ∈ s.path, okU n
 com : ∀ n ∈ s.com, okU n
 hop : okU s.hop
 b1 : Bd s.path.length 4
 b2 : Bd s.com.length 4
structure Adv.ok (s : Adv) : Prop where
 p : s.p.ok
 hop : okU s.hop
 path : ∀ n ∈ s.path, okU n
 com : ∀ n ∈ s.com, okU n
 clus : ∀ n ∈ s.clus, okU n
 pid : okU s.pid
 peer : okU s.peer
 orig : okU s.orig
 pref : okI s.pref
 met : okI s.met
 ses : okI s.ses
 b1 : Bd s.path.length 4
 b2 : Bd s.com.length 4
 b3 : Bd s.clus.length 4
structure Dvc.ok (d : Dvc) : Prop where
 kd : okC d.kd
 ifs : ∀ x ∈ d.ifs, x.ok
 sts : ∀ x ∈ d.sts, x.ok
 fils : ∀ x ∈ d.fils, x.ok
 pls : ∀ x ∈ d.pls, x.ok
 cls : ∀ x ∈ d.cls, x.ok
 pols : ∀ x ∈ d.pols, x.ok
 osp : ∀ x ∈ d.osp, x.ok
 bgp : ∀ x ∈ d.bgp, x.ok
 b2 : Bd d.vrfs.length 16
 b3 : Bd d.ifs.length 120
 b4 : Bd d.fils.length 40
 b5 : Bd d.rws.length 32
 b6 : Bd d.sts.length 56
 b7 : Bd d.pls.length 40
 b8 : Bd d.cls.length 40
 b9 : Bd d.pols.length 48
 b10 : Bd d.osp.length 48
 b11 : Bd d.bgp.length 96
 rok : ∀ x ∈ d.fils, ∀ r ∈ x.rs, r.ok'
 nok : ∀ x ∈ d.bgp, ∀ p ∈ x.nets, p.ok
namespace Ab
end Ab
end Go.Proofs.YtoahnbmedcjpeaaGreatDoor

namespace Go.Proofs.YtoahnbmedcjpeaaGreatDoor.Ab
open Go.RowKit
section
variable {nt : Nat} {e : Env} {h : Heap}
theorem ziV {b id i : Nat} {cs : List AVal} (el k : Nat) (hb : look h b = some (.var cs)) (hi : cs[i]? = some (.d (.sc (.slice none 0 0)))) (hid : Nat.blt id 1000 = true) (hne : Nat.beq b id = false) :
  AWk nt e h (killE id e) ((b, .var ((cs.map (killV id)).set i (.row id))) :: (id, .row el k 0 []) :: killH id h) := fun Pm F w0 pin ι a w R => by
 have hid' : id < 1000 := by simp [Nat.blt] at hid; omega
 have hne' := zaO hne
 have TT : Touch w ι id (.slice none 0 0) w := ⟨rfl, rfl, rfl, Nat.le_refl _, fun _ _ _ => rfl, fun r hr => by cases hr⟩
 have H1 := R.heap.touch TT (.inl hid') (b' := .row el k 0 []) ⟨[], World.ownsRow_nil _ _ _ _, rfl, by simp⟩
 obtain ⟨v, hv, r, C, T, rfl, hC, hlC, hrr⟩ := R.heap.blk b _ hb
 have hv1 : upd ι id (some (.slice none 0 0)) b = some (.pointer (some ⟨r, 0, none⟩)) := by simp [upd, hne', hv]
 have hW : Wrote w (.pointer (some ⟨r, 0, none⟩)) w := ⟨rfl, rfl, rfl, Nat.le_refl _, fun _ _ _ => rfl⟩
 have H2 := H1.wrote (b' := .var ((cs.map (killV id)).set i (.row id))) hW hv1 ⟨r, C, T, rfl, hC, by rw [List.length_set, List.length_map]; exact hlC, fun j c u h1 h2 => by
  rw [List.getElem?_set] at h1
  by_cases hij : i = j
  ·subst hij
   rw [if_pos rfl] at h1
   split at h1
   ·cases h1
    have h3 := hrr i _ u hi h2
    refine .row id u (by rw [(zL h3).1]; rfl) fun v' hv' => ?_
    simp [upd] at hv'
    rw [(zL h3).1, hv']
   ·cases h1
  ·rw [if_neg hij, List.getElem?_map] at h1
   cases hc : cs[j]? with
   | none => rw [hc] at h1; cases h1
   | some c0 => rw [hc] at h1; cases h1; exact (hrr j c0 u hc h2).killed TT.ext⟩
 exact ⟨_, H2, R.env.killed TT.ext, R.defers.ext TT.ext, R.size⟩
end
end Go.Proofs.YtoahnbmedcjpeaaGreatDoor.Ab

namespace Go.Proofs.YtoahnbmedcjpeaaGreatDoor.Ab
open Go.RowKit

mutual
def shut : AVal → Bool
 | .agg cs => shutL cs
 | .tup cs => shutL cs
 | .fn _ cs => shutL cs
 | .ptr _ _ => false
 | .eptr _ _ => false
 | .row _ => false
 | .mp _ => false
 | .srow _ _ _ => false
 | _ => true
def shutL : List AVal → Bool
 | [] => true
 | c :: r => shut c && shutL r
end
mutual
theorem zbk (id : Nat) : (c : AVal) → shut c = true → c.has id = false
 | .agg cs, h => by rw [AVal.has]; exact zbC id cs h
 | .tup cs, h => by rw [AVal.has]; exact zbC id cs h
 | .fn _ cs, h => by rw [AVal.has]; exact zbC id cs h
 | .ptr _ _, h => by cases h
 | .eptr _ _, h => by cases h
 | .row _, h => by cases h
 | .mp _, h => by cases h
 | .srow _ _ _, h => by cases h
 | .full _ _, _ => rfl
 | .top, _ => rfl
 | .und, _ => rfl
 | .d _, _ => rfl
 | .iptr _ _, _ => rfl
theorem zbC (id : Nat) : (cs : List AVal) → shutL cs = true → hasL id cs = false
 | [], _ => rfl
 | c :: r, h => by
  rw [shutL, Bool.and_eq_true] at h
  rw [hasL, zbk id c h.1, zbC id r h.2]
  rfl
end
def ren1 (ρ : List (Nat × Nat)) : AVal → AVal
 | .ptr p o => match look ρ p with | some i => .ptr i o | none => .top
 | .eptr p o => match look ρ p with | some i => .eptr i o | none => .top
 | .row p => match look ρ p with | some i => .row i | none => .top
 | .mp p => match look ρ p with | some i => .mp i | none => .top
 | .srow p o n => match look ρ p with | some i => .srow i o n | none => .top
 | .full cs n => .full cs n
 | .d x => .d x
 | .und => .und
 | .iptr cs o => .iptr cs o
 | .agg cs => cond (shutL cs) (.agg cs) .top
 | .tup cs => cond (shutL cs) (.tup cs) .top
 | .fn f cs => cond (shutL cs) (.fn f cs) .top
 | .top => .top
def ok1 (ρ : List (Nat × Nat)) : AVal → Bool
 | .ptr p _ => (look ρ p).isSome
 | .eptr p _ => (look ρ p).isSome
 | .row p => (look ρ p).isSome
 | .mp p => (look ρ p).isSome
 | .srow p _ _ => (look ρ p).isSome
 | c => shut c
def renV (ρ : List (Nat × Nat)) : AVal → AVal
 | .ptr p o => match look ρ p with | some i => .ptr i o | none => .top
 | .eptr p o => match look ρ p with | some i => .eptr i o | none => .top
 | .row p => match look ρ p with | some i => .row i | none => .top
 | .mp p => match look ρ p with | some i => .mp i | none => .top
 | .srow p o n => match look ρ p with | some i => .srow i o n | none => .top
 | .full cs n => .full cs n
 | .d x => .d x
 | .und => .und
 | .iptr cs o => .iptr cs o
 | .agg cs => cond (shutL cs) (.agg cs) (.agg (cs.map (ren1 ρ)))
 | .tup cs => cond (shutL cs) (.tup cs) (.tup (cs.map (ren1 ρ)))
 | .fn f cs => cond (shutL cs) (.fn f cs) (.fn f (cs.map (ren1 ρ)))
 | .top => .top
def okV (ρ : List (Nat × Nat)) : AVal → Bool
 | .ptr p _ => (look ρ p).isSome
 | .eptr p _ => (look ρ p).isSome
 | .row p => (look ρ p).isSome
 | .mp p => (look ρ p).isSome
 | .srow p _ _ => (look ρ p).isSome
 | .fn f cs => shutL cs || cs.all (ok1 ρ)
 | .agg cs => shutL cs || cs.all (ok1 ρ)
 | .tup cs => shutL cs || cs.all (ok1 ρ)
 | c => shut c
def renB (ρ : List (Nat × Nat)) : ABlk → ABlk
 | .var cs => .var (cs.map (renV ρ))
 | .row e k n cs => .row e k n cs
 | .rowA e k n cs => .rowA e k n (cs.map (renV ρ))
 | .map es => .map (es.map fun p => (renV ρ p.1, renV ρ p.2))
 | .mapx r bs clk es => .mapx r bs clk (es.map fun p => (renV ρ p.1, renV ρ p.2))
 | .it o => .it o
 | .rowx hv e k n cs => .rowx hv e k n cs
def okB (ρ : List (Nat × Nat)) : ABlk → Prop
 | .var cs => ∀ c ∈ cs, okV ρ c = true
 | .row _ _ _ _ => True
 | .rowA _ _ _ cs => ∀ c ∈ cs, okV ρ c = true
 | .map es => ∀ p ∈ es, okV ρ p.1 = true ∧ okV ρ p.2 = true
 | .mapx _ _ _ es => ∀ p ∈ es, okV ρ p.1 = true ∧ okV ρ p.2 = true
 | .it _ => True
 | .rowx _ _ _ _ _ => True
def renH (ρ : List (Nat × Nat)) : Heap → Heap
 | [] => []
 | (p, b) :: r => match look ρ p with
  | some i => (i, renB ρ b) :: renH ρ r
  | none => renH ρ r
def Lent (ρ : List (Nat × Nat)) (h : Heap) : Heap → Prop
 | [] => True
 | (p, b) :: r => (∃ i b', look ρ p = some i ∧ look h i = some b' ∧ renB ρ b = b' ∧ okB ρ b) ∧ Lent ρ h r
theorem Lent.get {ρ : List (Nat × Nat)} {h h0 : Heap} (H : Lent ρ h h0) {p : Nat} {b : ABlk} (hb : look h0 p = some b) : ∃ i, look ρ p = some i ∧ look h i = some (renB ρ b) ∧ okB ρ b := by
 induction h0 with
 | nil => cases hb
 | cons q r ih =>
  obtain ⟨q, b0⟩ := q
  by_cases hq : q = p
  ·subst hq
   rw [zb] at hb
   cases hb
   obtain ⟨⟨i, b', h1, h2, h3, h4⟩, _⟩ := H
   exact ⟨i, h1, by rw [h3]; exact h2, h4⟩
  ·rw [zd _ _ hq] at hb
   exact ih H.2 hb
theorem zbH {ρ : List (Nat × Nat)} (hinj : ∀ p p' i, look ρ p = some i → look ρ p' = some i → p = p') (h' : Heap) (i : Nat) :
  (∀ b, look (renH ρ h') i = some b → ∃ p b', look ρ p = some i ∧ look h' p = some b' ∧ b = renB ρ b') ∧ (look (renH ρ h') i = none → ∀ p, look ρ p = some i → look h' p = none) := by
 induction h' with
 | nil => exact ⟨fun b hb => (by cases hb), fun _ p _ => rfl⟩
 | cons q r ih =>
  obtain ⟨q, b0⟩ := q
  rw [renH]
  cases hq : look ρ q with
  | none =>
   refine ⟨fun b hb => ?_, fun hn p hp => ?_⟩
   ·obtain ⟨p, b', h1, h2, h3⟩ := ih.1 b hb
    have : q ≠ p := by rintro rfl; rw [hq] at h1; cases h1
    exact ⟨p, b', h1, by rw [zd _ _ this]; exact h2, h3⟩
   ·have : q ≠ p := by rintro rfl; rw [hq] at hp; cases hp
    rw [zd _ _ this]
    exact ih.2 hn p hp
  | some j =>
   dsimp only
   by_cases hj : j = i
   ·subst hj
    refine ⟨fun b hb => ?_, fun hn => ?_⟩
    ·rw [zb] at hb
     cases hb
     exact ⟨q, b0, hq, zb _ _ _, rfl⟩
    ·rw [zb] at hn; cases hn
   ·refine ⟨fun b hb => ?_, fun hn p hp => ?_⟩
    ·rw [zd _ _ hj] at hb
     obtain ⟨p, b', h1, h2, h3⟩ := ih.1 b hb
     have : q ≠ p := by rintro rfl; rw [hq] at h1; cases h1; exact hj rfl
     exact ⟨p, b', h1, by rw [zd _ _ this]; exact h2, h3⟩
    ·rw [zd _ _ hj] at hn
     have : q ≠ p := by rintro rfl; rw [hq] at hp; cases hp; exact hj rfl
     rw [zd _ _ this]
     exact ih.2 hn p hp

theorem VRel.up1 {w : World} {F F' : Nat → Prop} {ι ι' : Nat → Option Value} {ρ : List (Nat × Nat)} {c : AVal} {u : Value} (h : VRel w F' ι' c u) (hF : ExtF w F' ι' w F ι) (hρ : ∀ p i, look ρ p = some i → ∀ v, ι i = some v → ι' p = some v) : VRel w F ι (ren1 ρ c) u := by
 have closed : ∀ {c : AVal}, VRel w F' ι' c u → shut c = true → VRel w F ι c u := fun h hs => h.extF hF fun id v hi => by rw [zbk id _ hs] at hi; cases hi
 cases c with
 | ptr p o =>
  rw [ren1]
  cases hp : look ρ p with
  | none => exact .top u
  | some i => cases h with | ptr _ _ _ h1 h2 => exact .ptr i o u h1 fun v hv => h2 v (hρ p i hp v hv)
 | eptr p o =>
  rw [ren1]
  cases hp : look ρ p with
  | none => exact .top u
  | some i => cases h with | eptr _ _ _ h1 h2 => exact .eptr i o u h1 fun v hv => h2 v (hρ p i hp v hv)
 | row p =>
  rw [ren1]
  cases hp : look ρ p with
  | none => exact .top u
  | some i => cases h with | row _ _ h1 h2 => exact .row i u h1 fun v hv => h2 v (hρ p i hp v hv)
 | mp p =>
  rw [ren1]
  cases hp : look ρ p with
  | none => exact .top u
  | some i => cases h with | mp _ _ h1 h2 => exact .mp i u h1 fun v hv => h2 v (hρ p i hp v hv)
 | srow p o n =>
  rw [ren1]
  cases hp : look ρ p with
  | none => exact .top u
  | some i => cases h with | srow _ _ _ _ h1 h2 => exact .srow i o n u h1 fun v hv => h2 v (hρ p i hp v hv)
 | full cs n => exact closed h rfl
 | d x => exact closed h rfl
 | und => exact closed h rfl
 | iptr cs o => exact closed h rfl
 | top => exact .top u
 | agg cs =>
  rw [ren1]
  cases hs : shutL cs with
  | true => exact closed h hs
  | false => exact .top u
 | tup cs =>
  rw [ren1]
  cases hs : shutL cs with
  | true => exact closed h hs
  | false => exact .top u
 | fn f cs =>
  rw [ren1]
  cases hs : shutL cs with
  | true => exact closed h hs
  | false => exact .top u
theorem VRel.down1 {w : World} {F F' : Nat → Prop} {ι ι0 : Nat → Option Value} {ρ : List (Nat × Nat)} {c : AVal} {u : Value} (hok : ok1 ρ c = true) (h : VRel w F ι (ren1 ρ c) u) (hF : ExtF w F ι w F' ι0) (hρ : ∀ p v, ι0 p = some v → ∃ i, look ρ p = some i ∧ ι i = some v) : VRel w F' ι0 c u := by
 have closed : ∀ {c : AVal}, VRel w F ι c u → shut c = true → VRel w F' ι0 c u := fun h hs => h.extF hF fun id v hi => by rw [zbk id _ hs] at hi; cases hi
 have key : ∀ {p i : Nat}, look ρ p = some i → ∀ v, ι0 p = some v → ι i = some v := fun hp v hv => by
  obtain ⟨j, h1, h2⟩ := hρ _ v hv
  rw [hp] at h1; cases h1; exact h2
 cases c with
 | ptr p o =>
  obtain ⟨i, hp⟩ := Option.isSome_iff_exists.1 hok
  rw [ren1, hp] at h
  cases h with | ptr _ _ _ h1 h2 => exact .ptr p o u h1 fun v hv => h2 v (key hp v hv)
 | eptr p o =>
  obtain ⟨i, hp⟩ := Option.isSome_iff_exists.1 hok
  rw [ren1, hp] at h
  cases h with | eptr _ _ _ h1 h2 => exact .eptr p o u h1 fun v hv => h2 v (key hp v hv)
 | row p =>
  obtain ⟨i, hp⟩ := Option.isSome_iff_exists.1 hok
  rw [ren1, hp] at h
  cases h with | row _ _ h1 h2 => exact .row p u h1 fun v hv => h2 v (key hp v hv)
 | mp p =>
  obtain ⟨i, hp⟩ := Option.isSome_iff_exists.1 hok
  rw [ren1, hp] at h
  cases h with | mp _ _ h1 h2 => exact .mp p u h1 fun v hv => h2 v (key hp v hv)
 | srow p o n =>
  obtain ⟨i, hp⟩ := Option.isSome_iff_exists.1 hok
  rw [ren1, hp] at h
  cases h with | srow _ _ _ _ h1 h2 => exact .srow p o n u h1 fun v hv => h2 v (key hp v hv)
 | full cs n => exact closed h rfl
 | d x => exact closed h rfl
 | und => exact closed h rfl
 | iptr cs o => exact closed h rfl
 | top => exact .top u
 | agg cs => have hs : shutL cs = true := hok; rw [ren1, hs] at h; exact closed h hs
 | tup cs => have hs : shutL cs = true := hok; rw [ren1, hs] at h; exact closed h hs
 | fn f cs => have hs : shutL cs = true := hok; rw [ren1, hs] at h; exact closed h hs

theorem VRel.up {w : World} {F F' : Nat → Prop} {ι ι' : Nat → Option Value} {ρ : List (Nat × Nat)} {c : AVal} {u : Value} (h : VRel w F' ι' c u) (hF : ExtF w F' ι' w F ι) (hρ : ∀ p i, look ρ p = some i → ∀ v, ι i = some v → ι' p = some v) : VRel w F ι (renV ρ c) u := by
 have closed : ∀ {c : AVal}, VRel w F' ι' c u → shut c = true → VRel w F ι c u := fun h hs => h.extF hF fun id v hi => by rw [zbk id _ hs] at hi; cases hi
 cases c with
 | ptr p o =>
  rw [renV]
  cases hp : look ρ p with
  | none => exact .top u
  | some i => cases h with | ptr _ _ _ h1 h2 => exact .ptr i o u h1 fun v hv => h2 v (hρ p i hp v hv)
 | eptr p o =>
  rw [renV]
  cases hp : look ρ p with
  | none => exact .top u
  | some i => cases h with | eptr _ _ _ h1 h2 => exact .eptr i o u h1 fun v hv => h2 v (hρ p i hp v hv)
 | row p =>
  rw [renV]
  cases hp : look ρ p with
  | none => exact .top u
  | some i => cases h with | row _ _ h1 h2 => exact .row i u h1 fun v hv => h2 v (hρ p i hp v hv)
 | mp p =>
  rw [renV]
  cases hp : look ρ p with
  | none => exact .top u
  | some i => cases h with | mp _ _ h1 h2 => exact .mp i u h1 fun v hv => h2 v (hρ p i hp v hv)
 | srow p o n =>
  rw [renV]
  cases hp : look ρ p with
  | none => exact .top u
  | some i => cases h with | srow _ _ _ _ h1 h2 => exact .srow i o n u h1 fun v hv => h2 v (hρ p i hp v hv)
 | full cs n => exact closed h rfl
 | d x => exact closed h rfl
 | und => exact closed h rfl
 | iptr cs o => exact closed h rfl
 | top => exact .top u
 | agg cs =>
  rw [renV]
  cases hs : shutL cs with
  | true => exact closed h hs
  | false =>
   cases h with
   | agg _ C hl hh =>
    refine .agg _ C (by simpa using hl) fun i c u h1 h2 => ?_
    rw [List.getElem?_map] at h1
    cases hi : cs[i]? with
    | none => rw [hi] at h1; cases h1
    | some c' => rw [hi] at h1; cases h1; exact (hh i c' _ hi h2).up1 hF hρ
 | tup cs =>
  rw [renV]
  cases hs : shutL cs with
  | true => exact closed h hs
  | false =>
   cases h with
   | tup _ C hl hh =>
    refine .tup _ C (by simpa using hl) fun i c u h1 h2 => ?_
    rw [List.getElem?_map] at h1
    cases hi : cs[i]? with
    | none => rw [hi] at h1; cases h1
    | some c' => rw [hi] at h1; cases h1; exact (hh i c' _ hi h2).up1 hF hρ
 | fn f cs =>
  rw [renV]
  cases hs : shutL cs with
  | true => exact closed h hs
  | false =>
   cases h with
   | fn _ _ C hl hh =>
    refine .fn f _ C (by simpa using hl) fun i c u h1 h2 => ?_
    rw [List.getElem?_map] at h1
    cases hi : cs[i]? with
    | none => rw [hi] at h1; cases h1
    | some c' => rw [hi] at h1; cases h1; exact (hh i c' u hi h2).up1 hF hρ
theorem VRel.down {w : World} {F F' : Nat → Prop} {ι ι0 : Nat → Option Value} {ρ : List (Nat × Nat)} {c : AVal} {u : Value} (hok : okV ρ c = true) (h : VRel w F ι (renV ρ c) u) (hF : ExtF w F ι w F' ι0) (hρ : ∀ p v, ι0 p = some v → ∃ i, look ρ p = some i ∧ ι i = some v) : VRel w F' ι0 c u := by
 have closed : ∀ {c : AVal}, VRel w F ι c u → shut c = true → VRel w F' ι0 c u := fun h hs => h.extF hF fun id v hi => by rw [zbk id _ hs] at hi; cases hi
 have key : ∀ {p i : Nat}, look ρ p = some i → ∀ v, ι0 p = some v → ι i = some v := fun hp v hv => by
  obtain ⟨j, h1, h2⟩ := hρ _ v hv
  rw [hp] at h1; cases h1; exact h2
 cases c with
 | ptr p o =>
  obtain ⟨i, hp⟩ := Option.isSome_iff_exists.1 hok
  rw [renV, hp] at h
  cases h with | ptr _ _ _ h1 h2 => exact .ptr p o u h1 fun v hv => h2 v (key hp v hv)
 | eptr p o =>
  obtain ⟨i, hp⟩ := Option.isSome_iff_exists.1 hok
  rw [renV, hp] at h
  cases h with | eptr _ _ _ h1 h2 => exact .eptr p o u h1 fun v hv => h2 v (key hp v hv)
 | row p =>
  obtain ⟨i, hp⟩ := Option.isSome_iff_exists.1 hok
  rw [renV, hp] at h
  cases h with | row _ _ h1 h2 => exact .row p u h1 fun v hv => h2 v (key hp v hv)
 | mp p =>
  obtain ⟨i, hp⟩ := Option.isSome_iff_exists.1 hok
  rw [renV, hp] at h
  cases h with | mp _ _ h1 h2 => exact .mp p u h1 fun v hv => h2 v (key hp v hv)
 | srow p o n =>
  obtain ⟨i, hp⟩ := Option.isSome_iff_exists.1 hok
  rw [renV, hp] at h
  cases h with | srow _ _ _ _ h1 h2 => exact .srow p o n u h1 fun v hv => h2 v (key hp v hv)
 | full cs n => exact closed h rfl
 | d x => exact closed h rfl
 | und => exact closed h rfl
 | iptr cs o => exact closed h rfl
 | top => exact .top u
 | agg cs =>
  rw [renV] at h
  cases hs : shutL cs with
  | true => rw [hs] at h; exact closed h hs
  | false =>
   rw [hs] at h
   have hok2 : cs.all (ok1 ρ) = true := by
    have h3 : (shutL cs || cs.all (ok1 ρ)) = true := hok
    rw [hs] at h3; exact h3
   cases h with
   | agg _ C hl hh => exact .agg cs C (by simpa using hl) fun i c u h1 h2 => (hh i (ren1 ρ c) _ (by rw [List.getElem?_map, h1]; rfl) h2).down1 (List.all_eq_true.1 hok2 c (List.mem_of_getElem? h1)) hF hρ
 | tup cs =>
  rw [renV] at h
  cases hs : shutL cs with
  | true => rw [hs] at h; exact closed h hs
  | false =>
   rw [hs] at h
   have hok2 : cs.all (ok1 ρ) = true := by
    have h3 : (shutL cs || cs.all (ok1 ρ)) = true := hok
    rw [hs] at h3; exact h3
   cases h with
   | tup _ C hl hh => exact .tup cs C (by simpa using hl) fun i c u h1 h2 => (hh i (ren1 ρ c) _ (by rw [List.getElem?_map, h1]; rfl) h2).down1 (List.all_eq_true.1 hok2 c (List.mem_of_getElem? h1)) hF hρ
 | fn f cs =>
  rw [renV] at h
  cases hs : shutL cs with
  | true => rw [hs] at h; exact closed h hs
  | false =>
   rw [hs] at h
   have hok2 : cs.all (ok1 ρ) = true := by
    have h3 : (shutL cs || cs.all (ok1 ρ)) = true := hok
    rw [hs] at h3; exact h3
   cases h with
   | fn _ _ C hl hh => exact .fn f cs C (by simpa using hl) fun i c u h1 h2 => (hh i (ren1 ρ c) u (by rw [List.getElem?_map, h1]; rfl) h2).down1 (List.all_eq_true.1 hok2 c (List.mem_of_getElem? h1)) hF hρ

theorem BRel.up {w : World} {F F' : Nat → Prop} {ι ι' : Nat → Option Value} {ρ : List (Nat × Nat)} {b : ABlk} {v : Value} (h : BRel w F' ι' b v) (hF : ExtF w F' ι' w F ι) (hρ : ∀ p i, look ρ p = some i → ∀ v, ι i = some v → ι' p = some v) : BRel w F ι (renB ρ b) v := by
 cases b with
 | var cs =>
  obtain ⟨r, C, T, rfl, hc, hl, h⟩ := h
  refine ⟨r, C, T, rfl, hc, by simpa using hl, fun i c u h1 h2 => ?_⟩
  rw [List.getElem?_map] at h1
  cases hi : cs[i]? with
  | none => rw [hi] at h1; cases h1
  | some c' => rw [hi] at h1; cases h1; exact (h i c' u hi h2).up hF hρ
 | row e k n cs =>
  obtain ⟨xs, hown, hl, h⟩ := h
  exact ⟨xs, hown, hl, fun i c u h1 h2 => (h i c u h1 h2).ext hF.mem hF.free⟩
 | rowA e k n cs =>
  obtain ⟨xs, hown, hl, h⟩ := h
  refine ⟨xs, hown, by simpa using hl, fun i c u h1 h2 => ?_⟩
  rw [List.getElem?_map] at h1
  cases hi : cs[i]? with
  | none => rw [hi] at h1; cases h1
  | some c' => rw [hi] at h1; cases h1; exact (h i c' u hi h2).up hF hρ
 | map es =>
  obtain ⟨r, E, clk, rfl, hc, hl, h, h3⟩ := h
  refine ⟨r, E, clk, rfl, hc, by simpa using hl, fun i p m h1 h2 => ?_, h3⟩
  rw [List.getElem?_map] at h1
  cases hi : es[i]? with
  | none => rw [hi] at h1; cases h1
  | some c' => rw [hi] at h1; cases h1; exact ⟨(h i c' m hi h2).1.up hF hρ, (h i c' m hi h2).2.up hF hρ⟩
 | mapx r0 bs0 clk0 es =>
  obtain ⟨E, rfl, hc, hl, h, h3⟩ := h
  refine ⟨E, rfl, hc, by simpa using hl, fun i p m h1 h2 => ?_, h3⟩
  rw [List.getElem?_map] at h1
  cases hi : es[i]? with
  | none => rw [hi] at h1; cases h1
  | some c' => rw [hi] at h1; cases h1; exact ⟨(h i c' m hi h2).1.up hF hρ, (h i c' m hi h2).2.up hF hρ⟩
 | rowx hv e k n cs => exact h.viaX (fun c u h => h.ext hF.mem hF.free) fun _ _ => rfl
 | it o => exact h
theorem BRel.down {w : World} {F F' : Nat → Prop} {ι ι0 : Nat → Option Value} {ρ : List (Nat × Nat)} {b : ABlk} {v : Value} (hok : okB ρ b) (h : BRel w F ι (renB ρ b) v) (hF : ExtF w F ι w F' ι0) (hρ : ∀ p v, ι0 p = some v → ∃ i, look ρ p = some i ∧ ι i = some v) : BRel w F' ι0 b v := by
 cases b with
 | var cs =>
  obtain ⟨r, C, T, rfl, hc, hl, h⟩ := h
  exact ⟨r, C, T, rfl, hc, by simpa using hl, fun i c u h1 h2 => (h i (renV ρ c) u (by rw [List.getElem?_map, h1]; rfl) h2).down (hok c (List.mem_of_getElem? h1)) hF hρ⟩
 | row e k n cs =>
  obtain ⟨xs, hown, hl, h⟩ := h
  exact ⟨xs, hown, hl, fun i c u h1 h2 => (h i c u h1 h2).ext hF.mem hF.free⟩
 | rowA e k n cs =>
  obtain ⟨xs, hown, hl, h⟩ := h
  exact ⟨xs, hown, by simpa using hl, fun i c u h1 h2 => (h i (renV ρ c) u (by rw [List.getElem?_map, h1]; rfl) h2).down (hok c (List.mem_of_getElem? h1)) hF hρ⟩
 | map es =>
  obtain ⟨r, E, clk, rfl, hc, hl, h, h3⟩ := h
  refine ⟨r, E, clk, rfl, hc, by simpa using hl, fun i p m h1 h2 => ?_, h3⟩
  have hk := hok p (List.mem_of_getElem? h1)
  have := h i (renV ρ p.1, renV ρ p.2) m (by rw [List.getElem?_map, h1]; rfl) h2
  exact ⟨this.1.down hk.1 hF hρ, this.2.down hk.2 hF hρ⟩
 | mapx r0 bs0 clk0 es =>
  obtain ⟨E, rfl, hc, hl, h, h3⟩ := h
  refine ⟨E, rfl, hc, by simpa using hl, fun i p m h1 h2 => ?_, h3⟩
  have hk := hok p (List.mem_of_getElem? h1)
  have := h i (renV ρ p.1, renV ρ p.2) m (by rw [List.getElem?_map, h1]; rfl) h2
  exact ⟨this.1.down hk.1 hF hρ, this.2.down hk.2 hF hρ⟩
 | rowx hv e k n cs => exact h.viaX (fun c u h => h.ext hF.mem hF.free) fun _ _ => rfl
 | it o => exact h

section
variable {P : Program} {nt : Nat} {T : List Nat} {e : Env} {h : Heap} {o : Oper} {tab : TTab}
theorem zdX {f : FuncId} {args : Array Operand} {ats : Array TypeId} {cs0 cs : List AVal} {h0 : Heap} {d : Option Tmp} {Q : AVal → Heap → Prop} (ρ : List (Nat × Nat)) (ho : o.op = .call { callee := .value (.func f), args := args, argTypes := ats }) (hdst : o.dst = d) (hx : aevs e args.toList = some cs0)
  (hcs : cs.map (renV ρ) = cs0) (hok : ∀ c ∈ cs, okV ρ c = true) (hl : Lent ρ h h0) (hdom : ∀ p i, look ρ p = some i → 1000 ≤ p ∧ (look h0 p).isSome = true) (hinj : ∀ p p' i, look ρ p = some i → look ρ p' = some i → p = p')
  (H : ACall P f cs h0 Q) (hd : dstOk nt d = true) (hT : ∀ p i, look ρ p = some i → T.contains i = true) (hq : ∀ c h', Q c h' → ∀ p i, look ρ p = some i → (look h' p).isSome = true) :
  AEff P nt T e h o (fun e' h2 => ∃ c h', Q c h' ∧ e' = aput d (renV ρ c) e ∧ h2 = renH ρ h' ++ h) := fun Pm F w0 pin ι a w R K Qx hK => by
 unfold Oper.wp
 rw [za1 H.1 ho, Oper.upon_enter, hdst]
 have HR := R.heap
 let ι0 : Nat → Option Value := fun p => match look ρ p with | some i => ι i | none => none
 have h0some : ∀ p v, ι0 p = some v → ∃ i, look ρ p = some i ∧ ι i = some v := fun p v hv => by
  simp only [ι0] at hv
  cases hp : look ρ p with
  | none => rw [hp] at hv; cases hv
  | some i => rw [hp] at hv; exact ⟨i, rfl, hv⟩
 have h0of : ∀ p i, look ρ p = some i → ι0 p = ι i := fun p i hp => by simp only [ι0, hp]
 let F' : Nat → Prop := fun r => F r ∨ ∃ id v, ι id = some v ∧ blockOf v = some r ∧ ∀ p, look ρ p ≠ some id
 let Pm' : Nat → Prop := fun r => w.heap.size ≤ r ∨ ∃ p v, ι0 p = some v ∧ blockOf v = some r
 have hFdown : ExtF w F ι w F' ι0 := ⟨fun _ _ _ => rfl, fun r _ hf => ⟨fun hc => hc.elim hf.1 fun ⟨id, v, h1, h2, _⟩ => hf.2 id v h1 h2, fun p v hv hb => by
  obtain ⟨i, _, h2⟩ := h0some p v hv
  exact hf.2 i v h2 hb⟩⟩
 have HC : HRel Pm' F' w ι0 ι0 h0 w := by
  refine ⟨fun p b hb => ?_, fun p v hv => ?_, fun p q v v' r hpq hv hv' hr => ?_, fun p v r hv hr => .inr ⟨p, v, hv, hr⟩, rfl, rfl, rfl, Nat.le_refl _, fun _ _ _ => rfl, HR.lowL (fun r hr => hr.imp (fun h => h) fun ⟨p, v, h1, h2⟩ => let ⟨i, _, h3⟩ := h0some p v h1; ⟨i, v, h3, h2⟩) (fun r hr => .inl hr), fun p v _ hv => hv, fun p v r hv hr hF' => ?_, fun r hr => ?_⟩
  ·obtain ⟨i, h1, h2, h3⟩ := hl.get hb
   obtain ⟨v, hv, hB⟩ := HR.blk i _ h2
   exact ⟨v, by rw [h0of p i h1]; exact hv, hB.down h3 hFdown h0some⟩
  ·obtain ⟨i, h1, h2⟩ := h0some p v hv
   exact Option.isSome_iff_exists.1 (hdom p i h1).2
  ·obtain ⟨i, h1, h2⟩ := h0some p v hv
   obtain ⟨j, h3, h4⟩ := h0some q v' hv'
   exact HR.inj i j v v' r (by rintro rfl; exact hpq (hinj p q i h1 h3)) h2 h4 hr
  ·obtain ⟨i, h1, h2⟩ := h0some p v hv
   rcases hF' with h3 | ⟨id, v', h3, h4, h5⟩
   ·exact HR.nf i v r h2 hr h3
   ·have : i ≠ id := by rintro rfl; exact h5 p h1
    exact HR.inj i id v v' r this h2 h3 hr h4
  ·rcases hr with h1 | ⟨id, v, h1, h2, _⟩
   ·exact Nat.lt_of_lt_of_le (HR.forb r h1) HR.size
   ·exact HR.lt h1 h2
 have HA : ArgsRel w F' ι0 cs (args.map a.eval) := by
  have := zaM R.env hx
  refine ⟨by rw [this.1, ← hcs, List.length_map], fun i c u h1 h2 => (this.2 i (renV ρ c) u (by rw [← hcs, List.getElem?_map, h1]; rfl) h2).down (hok c (List.mem_of_getElem? h1)) hFdown h0some⟩
 refine (H.2 Pm' F' w ι0 ι0 _ w HC HA).mono ?_
 rintro x w' ⟨u, c, h', ι', rfl, hQ, hH, hv⟩
 have hsz := hH.size
 have hkeep : ∀ r, r < w.heap.size → (∀ p i v, look ρ p = some i → ι i = some v → blockOf v ≠ some r) → w'.heap[r]? = w.heap[r]? := fun r hr hn => hH.keep r hr fun hp => by
  rcases hp with h1 | ⟨p, v, h1, h2⟩
  ·omega
  ·obtain ⟨i, h3, h4⟩ := h0some p v h1
   exact hn p i v h3 h4 h2
 have hpin : ∀ p i, look ρ p = some i → ∀ v, ι i = some v → ι' p = some v := fun p i hp v hv => by
  obtain ⟨b, hb⟩ := Option.isSome_iff_exists.1 (hq c h' hQ p i hp)
  obtain ⟨v', hv', _⟩ := hH.blk p b hb
  have := hH.pinned p v' (hdom p i hp).1 hv'
  rw [h0of p i hp, hv] at this
  cases this
  exact hv'
 have hFup : ExtF w' F' ι' w' F ι := ⟨fun _ _ _ => rfl, fun r _ hf => ⟨fun hc => hf.1 (.inl hc), fun id v hid hb => by
  by_cases hex : ∃ p, look ρ p = some id
  ·obtain ⟨p, hp⟩ := hex
   exact hf.2 p v (hpin p id hp v hid) hb
  ·exact hf.1 (.inr ⟨id, v, hid, hb, fun p hp => hex ⟨p, hp⟩⟩)⟩⟩
 have hext : Ext w F ι w' ι := ⟨fun r hr hf => hkeep r hr fun p i v hp hi hb => hf.2 i v hi hb, fun r _ hf => hf⟩
 have hheap : HRel Pm F w0 pin ι (renH ρ h' ++ h) w' := by
  refine ⟨fun id b hb => ?_, fun id v hv => ?_, HR.inj, HR.pm, hH.os.trans HR.os, hH.tape.trans HR.tape, hH.output.trans HR.output, Nat.le_trans HR.size hsz, fun r hr hn => ?_, HR.fresh, HR.pinned, HR.nf, HR.forb⟩
  ·rw [zat] at hb
   cases hl2 : look (renH ρ h') id with
   | some b' =>
    rw [hl2] at hb
    cases hb
    obtain ⟨p, b0, h1, h2, h3⟩ := (zbH hinj h' id).1 b hl2
    subst h3
    obtain ⟨v', hv', hB⟩ := hH.blk p b0 h2
    have h4 := hH.pinned p v' (hdom p id h1).1 hv'
    rw [h0of p id h1] at h4
    exact ⟨v', h4, hB.up hFup hpin⟩
   | none =>
    rw [hl2] at hb
    have hb2 : look h id = some b := hb
    have hno : ∀ p, look ρ p ≠ some id := fun p hp => by
     have h1 := (zbH hinj h' id).2 hl2 p hp
     have h2 := hq c h' hQ p id hp
     rw [h1] at h2; cases h2
    obtain ⟨v, hv, hB⟩ := HR.blk id b hb2
    refine ⟨v, hv, hB.ext hext (fun _ _ h => h) fun r hr => hkeep r (HR.lt hv hr) fun p i v2 hp hi hb3 => ?_⟩
    exact HR.inj i id v2 v r (by rintro rfl; exact hno p hp) hi hv hb3 hr
  ·obtain ⟨b, hb⟩ := HR.dom id v hv
   rw [zat]
   cases hl2 : look (renH ρ h') id with
   | some b' => exact ⟨b', rfl⟩
   | none => exact ⟨b, hb⟩
  ·rw [hkeep r (Nat.lt_of_lt_of_le hr HR.size) fun p i v hp hi hb => hn (HR.pm i v r hi hb)]
   exact HR.keep r hr hn
 have R2 : Rel Pm F w0 pin ι nt e (renH ρ h' ++ h) a w' := ⟨hheap, R.env.mono fun _ _ _ _ hv => hv.ext hext fun _ _ _ h => h, R.defers.ext hext, R.size⟩
 exact hK ι _ _ _ w' ⟨c, h', hQ, rfl, rfl⟩ (R2.put hd (hv.up hFup hpin)) ⟨⟨hH.os, hH.tape, hH.output, hsz, fun r hr hne => hkeep r hr fun p i v hp hi hb => hne i (List.contains_iff_mem.1 (hT p i hp)) v hi hb⟩, fun id _ v r h1 h2 _ => ⟨v, h1, h2⟩⟩ (zx _ _ _)
end
end Go.Proofs.YtoahnbmedcjpeaaGreatDoor.Ab

namespace Go.Proofs.YtoahnbmedcjpeaaGreatDoor
set_option linter.unusedSectionVars false
open Go.RowKit Go.Sort

section
variable {κ ν : Type} [DecidableEq κ]
def mget : List (κ × ν) → κ → Option (Nat × ν)
 | [], _ => none
 | (k', v) :: r, k => if k = k' then some (0, v) else (mget r k).map fun x => (x.1 + 1, x.2)
def aget (l : List (κ × ν)) (k : κ) : Option ν := (mget l k).map (·.2)
def aput (l : List (κ × ν)) (k : κ) (v : ν) : List (κ × ν) := match mget l k with
 | some (i, _) => l.set i (k, v)
 | none => l ++ [(k, v)]
def adel (l : List (κ × ν)) (k : κ) : List (κ × ν) := match mget l k with
 | some (i, _) => l.eraseIdx i
 | none => l

theorem zbF {l : List (κ × ν)} {k : κ} {i : Nat} {v : ν} (h : mget l k = some (i, v)) : l[i]? = some (k, v) := by
 induction l generalizing i with
 | nil => cases h
 | cons p r ih =>
  obtain ⟨k', v'⟩ := p
  unfold mget at h
  split at h
  ·rename_i e
   injection h with h
   injection h with h1 h2
   subst h1 h2 e
   rfl
  ·cases hr : mget r k with
   | none => simp [hr] at h
   | some x =>
    simp only [hr, Option.map_some, Option.some.injEq, Prod.mk.injEq] at h
    obtain ⟨rfl, rfl⟩ := h
    simpa using ih hr
theorem zcp {l : List (κ × ν)} {k : κ} (h : mget l k = none) : ∀ p ∈ l, p.1 ≠ k := by
 induction l with
 | nil => intro p hp; cases hp
 | cons q r ih =>
  obtain ⟨k', v'⟩ := q
  unfold mget at h
  split at h
  ·cases h
  ·rename_i hne
   intro p hp
   rcases List.mem_cons.1 hp with rfl | hp
   ·exact fun e => hne e.symm
   ·exact ih (by simpa using h) p hp
theorem zgn {l : List (κ × ν)} {k : κ} (h : aget l k = none) : ∀ p ∈ l, p.1 ≠ k := zcp (by simpa [aget] using h)
theorem zcw {l : List (κ × ν)} {k : κ} {v : ν} (h : aget l k = some v) : (k, v) ∈ l := by
 unfold aget at h
 cases hm : mget l k with
 | none => simp [hm] at h
 | some x =>
  obtain ⟨i, u⟩ := x
  simp [hm] at h
  subst h
  exact List.mem_of_getElem? (zbF hm)
theorem zbw {l : List (κ × ν)} (hn : (l.map (·.1)).Nodup) {k : κ} {v : ν} (h : (k, v) ∈ l) : aget l k = some v := by
 cases hg : aget l k with
 | none => exact absurd rfl (zgn hg _ h)
 | some u =>
  have h2 := zcw hg
  have : ∀ {l : List (κ × ν)}, (l.map (·.1)).Nodup → ∀ {u v : ν}, (k, u) ∈ l → (k, v) ∈ l → u = v := by
   intro l
   induction l with
   | nil => intro _ u v h; cases h
   | cons p r ih =>
    intro hn u v hu hv
    rw [List.map_cons, List.nodup_cons] at hn
    rcases List.mem_cons.1 hu with hu | hu
    ·rcases List.mem_cons.1 hv with hv | hv
     ·rw [← hu] at hv; injection hv with _ h; exact h.symm
     ·exact absurd (List.mem_map.2 ⟨_, hv, by rw [← hu]⟩) hn.1
    ·rcases List.mem_cons.1 hv with hv | hv
     ·exact absurd (List.mem_map.2 ⟨_, hu, by rw [← hv]⟩) hn.1
     ·exact ih hn.2 hu hv
  rw [this hn h2 h]
theorem zgC {l : List (κ × ν)} {k : κ} {u v : ν} {i : Nat} (h : l[i]? = some (k, u)) : (l.set i (k, v)).map (·.1) = l.map (·.1) := by
 apply List.ext_getElem?
 intro j
 rw [List.getElem?_map, List.getElem?_set, List.getElem?_map]
 split
 ·rename_i e
  subst e
  obtain ⟨hlt, h2⟩ := List.getElem?_eq_some_iff.1 h
  simp [hlt, h2]
 ·rfl
theorem zaV {l : List (κ × ν)} {k : κ} {v : ν} (hn : (l.map (·.1)).Nodup) : ((aput l k v).map (·.1)).Nodup := by
 unfold aput
 cases h : mget l k with
 | some x => obtain ⟨i, u⟩ := x; simp only; rw [zgC (zbF h)]; exact hn
 | none =>
  simp only [List.map_append, List.map_cons, List.map_nil]
  rw [List.nodup_append]
  refine ⟨hn, by simp, ?_⟩
  intro a ha b hb
  simp at hb
  subst hb
  obtain ⟨p, hp, rfl⟩ := List.mem_map.1 ha
  exact zcp h p hp
theorem zfb {l : List (κ × ν)} {k : κ} (hn : (l.map (·.1)).Nodup) : ((adel l k).map (·.1)).Nodup := by
 unfold adel
 cases h : mget l k with
 | some x => obtain ⟨i, u⟩ := x; exact hn.sublist ((List.eraseIdx_sublist l i).map _)
 | none => exact hn
theorem zgU {l : List (κ × ν)} (hn : (l.map (·.1)).Nodup) {k : κ} {v : ν} {p : κ × ν} : p ∈ aput l k v ↔ p = (k, v) ∨ p.1 ≠ k ∧ p ∈ l := by
 have hnd := zaV (k := k) (v := v) hn
 unfold aput at *
 cases h : mget l k with
 | none =>
  have hnone := zcp h
  simp only [List.mem_append, List.mem_singleton]
  constructor
  ·rintro (h1 | h1)
   ·exact .inr ⟨hnone p h1, h1⟩
   ·exact .inl h1
  ·rintro (h1 | ⟨_, h1⟩)
   ·exact .inr h1
   ·exact .inl h1
 | some x =>
  obtain ⟨i, u⟩ := x
  have hi := zbF h
  have hlt : i < l.length := (List.getElem?_eq_some_iff.1 hi).1
  simp only [h] at hnd
  simp only
  constructor
  ·intro hp
   by_cases hk : p.1 = k
   ·left
    have h1 : (k, v) ∈ l.set i (k, v) := List.mem_of_getElem? (i := i) (by rw [List.getElem?_set]; simp [hlt])
    have e1 := zbw hnd h1
    have e2 := zbw hnd (k := k) (v := p.2) (by rw [show (k, p.2) = p from by rw [← hk]]; exact hp)
    rw [e1] at e2
    injection e2 with e2
    rw [← hk, e2]
   ·right
    refine ⟨hk, ?_⟩
    obtain ⟨j, hj⟩ := List.getElem?_of_mem hp
    rw [List.getElem?_set] at hj
    by_cases e : i = j
    ·simp [e] at hj
     exact absurd (by rw [← hj.2]) hk
    ·rw [if_neg e] at hj; exact List.mem_of_getElem? hj
  ·rintro (h1 | ⟨hk, h1⟩)
   ·subst h1
    exact List.mem_of_getElem? (i := i) (by rw [List.getElem?_set]; simp [hlt])
   ·obtain ⟨j, hj⟩ := List.getElem?_of_mem h1
    refine List.mem_of_getElem? (i := j) ?_
    rw [List.getElem?_set]
    split
    ·rename_i e
     subst e
     rw [hi] at hj
     injection hj with hj
     exact absurd (by rw [← hj]) hk
    ·exact hj
theorem zez {l : List (κ × ν)} (hn : (l.map (·.1)).Nodup) {k : κ} {v : ν} : aget l k = some v ↔ (k, v) ∈ l := ⟨zcw, zbw hn⟩
theorem zdv {l : List (κ × ν)} (hn : (l.map (·.1)).Nodup) {k k' : κ} {v : ν} : aget (aput l k v) k' = if k' = k then some v else aget l k' := by
 apply Option.ext
 intro u
 rw [zez (zaV hn), zgU hn]
 split
 ·rename_i e
  subst e
  simp [eq_comm]
 ·rename_i e
  rw [zez hn]
  simp [e]
end
end Go.Proofs.YtoahnbmedcjpeaaGreatDoor

namespace Go.Proofs.YtoahnbmedcjpeaaGreatDoor
set_option linter.unusedSectionVars false
open Go.RowKit Go.Sort Go.ChangeMaps

structure KeyLaw (P : Program) (K : TypeId) {κ : Type} [DecidableEq κ] (ek : κ → Value) (ok : κ → Prop) : Prop where
 check : ∀ b k w, ok k → (Instr.checkKey b 10000 K (ek k)).run P w = .ok () w
 find : ∀ (k : κ) (es : List MapEntry) (l : List (κ × Value)), ok k → (∀ p ∈ l, ok p.1) → es.map (fun e => (e.key, e.val)) = l.map (fun p => (ek p.1, p.2)) → ∀ w, (Instr.findKey K (ek k) es).run P w = .ok (mget l k) w
 bits : ∀ a, ok a → Instr.sameBits 10000 (ek a) (ek a) = true

section
variable {P : Program} {κ ν : Type} [DecidableEq κ] {ek : κ → Value} {ev : ν → Value} {w w' : World} {B : Nat} {l : List (κ × ν)}

def MapIs (ek : κ → Value) (ev : ν → Value) (w : World) (B : Nat) (l : List (κ × ν)) : Prop :=
 ∃ es clock, w.heap[B]? = some (.map es clock) ∧ es.toList.map (fun e => (e.key, e.val)) = l.map (fun p => (ek p.1, ev p.2)) ∧ (∀ e ∈ es.toList, e.born < clock) ∧ (es.toList.map (·.born)).Pairwise (· < ·) ∧ (l.map (·.1)).Nodup

theorem MapIs.nodup (h : MapIs ek ev w B l) : (l.map (·.1)).Nodup := by obtain ⟨_, _, _, _, _, _, h⟩ := h; exact h
theorem MapIs.lt (h : MapIs ek ev w B l) : B < w.heap.size := by
 obtain ⟨_, _, h, _⟩ := h
 exact (Array.getElem?_eq_some_iff.1 h).1
theorem MapIs.of_block (h : MapIs ek ev w B l) (hb : w'.heap[B]? = w.heap[B]?) : MapIs ek ev w' B l := by
 obtain ⟨es, clock, h1, h2⟩ := h
 exact ⟨es, clock, hb.trans h1, h2⟩
theorem MapIs.keep (h : MapIs ek ev w B l) (hb : Below w.heap.size w w') : MapIs ek ev w' B l := h.of_block (hb.block B h.lt)
theorem MapIs.grown {row : Option Nat} (h : MapIs ek ev w B l) (hg : w.grownBy w' row) (hr : some B ≠ row) : MapIs ek ev w' B l := h.of_block (hg.block B h.lt hr)
theorem MapIs.alloc (h : MapIs ek ev w B l) (o : Obj) : MapIs ek ev (w.alloc o) B l := h.of_block (Below.heap_alloc w o B h.lt)
theorem MapIs.drew (h : MapIs ek ev w B l) : MapIs ek ev w.drew B l := h
theorem MapIs.drewN (h : MapIs ek ev w B l) (n : Nat) : MapIs ek ev (w.drewN n) B l := h
theorem MapIs.setCell (h : MapIs ek ev w B l) (a : Addr) (u : Value) : MapIs ek ev (w.setCell a u) B l := by
 obtain ⟨es, clock, h1, h2⟩ := h
 refine ⟨es, clock, ?_, h2⟩
 by_cases e : B = a.block
 ·simp only [World.setCell, Array.getElem?_modify]
  rw [if_pos e.symm, h1]; rfl
 ·rw [Below.heap_setCell w a u B e]; exact h1
theorem MapIs.made (w : World) : MapIs ek ev (w.alloc (.map #[] 0)) w.heap.size [] :=
 ⟨#[], 0, heap_alloc_new w _, rfl, by simp, by simp, by simp⟩
theorem MapIs.find {K : TypeId} {ok : κ → Prop} (h : MapIs ek ev w B l) (law : KeyLaw P K ek ok) {k : κ} (hk : ok k) (hl : ∀ p ∈ l, ok p.1) :
  ∃ es clock, w.heap[B]? = some (.map es clock) ∧ (∀ W, (Instr.findKey K (ek k) es.toList).run P W = .ok ((mget l k).map fun x => (x.1, ev x.2)) W) ∧ (∀ b W, (Instr.checkKey b 10000 K (ek k)).run P W = .ok () W) := by
 obtain ⟨es, clock, h1, h2, _⟩ := h
 refine ⟨es, clock, h1, fun W => ?_, fun b W => law.check b k W hk⟩
 have e : es.toList.map (fun e => (e.key, e.val)) = (l.map (fun p => (p.1, ev p.2))).map (fun p => (ek p.1, p.2)) := by rw [h2, List.map_map]; rfl
 rw [law.find k es.toList (l.map (fun p => (p.1, ev p.2))) hk (by intro p hp; obtain ⟨q, hq, rfl⟩ := List.mem_map.1 hp; exact hl q hq) e W]
 congr 1
 have : ∀ l : List (κ × ν), mget (l.map fun p => (p.1, ev p.2)) k = (mget l k).map fun x => (x.1, ev x.2) := by
  intro l
  induction l with
  | nil => rfl
  | cons p r ih =>
   obtain ⟨k', v⟩ := p
   simp only [List.map_cons, mget]
   split
   ·rfl
   ·rw [ih]; cases mget r k <;> rfl
 exact this l

theorem MapIs.lookup {T K E : TypeId} {ok : κ → Prop} (h : MapIs ek ev w B l) (law : KeyLaw P K ek ok) (hT : P.underlying T = some (.map K E)) {z : Value} (hz : ∀ W, (zeroValue E).run P W = .ok z W) {k : κ} (hk : ok k) (hl : ∀ p ∈ l, ok p.1) :
  (Instr.lookup T (.map (some B)) (ek k) false).run P w = .ok (((aget l k).map ev).getD z) w := by
 obtain ⟨es, clock, h1, hf, hc⟩ := h.find law hk hl
 simp only [Instr.lookup, Sem.run_bind, run_underlying hT, Result.andThen_ok, MapKept.run_getObj_map h1, Sem.run_pure, hc, hf]
 unfold aget
 cases mget l k with
 | none => simp [hz]
 | some x => simp

theorem zaw {es : Array MapEntry} {clock : Nat} (hb : w.heap[B]? = some (.map es clock)) (o : Obj) : w.grownBy (setBlock w B o) (some B) :=
 ⟨rfl, rfl, rfl, by simp [setBlock], fun k hk hne => heap_setBlock_other hb o (fun e => hne (by rw [e]))⟩
theorem zeU {es : Array MapEntry} {i : Nat} (g : MapEntry → MapEntry) : (es.modify i g).toList = es.toList.modify i g := by simp
theorem zcE {α : Type} (l : List α) (i : Nat) (g : α → α) {x : α} (h : l[i]? = some x) : l.modify i g = l.set i (g x) := by
 apply List.ext_getElem?
 intro j
 rw [List.getElem?_modify, List.getElem?_set]
 by_cases e : i = j
 ·subst e
  obtain ⟨hlt, h2⟩ := List.getElem?_eq_some_iff.1 h
  simp [hlt, h2]
 ·simp [e]

theorem MapIs.update {T K E : TypeId} {ok : κ → Prop} (h : MapIs ek ev w B l) (law : KeyLaw P K ek ok) (hT : P.underlying T = some (.map K E)) {k : κ} (hk : ok k) (hl : ∀ p ∈ l, ok p.1) (v : ν) :
  ∃ w', (Instr.mapUpdate T (.map (some B)) (ek k) (ev v)).run P w = .ok () w' ∧ MapIs ek ev w' B (aput l k v) ∧ w.grownBy w' (some B) ∧ w'.heap.size = w.heap.size := by
 have hn := zaV (k := k) (v := v) h.nodup
 obtain ⟨es, clock, h1, hf, hc⟩ := h.find law hk hl
 obtain ⟨es', clock', h1', h2, h3, h4, h5⟩ := h
 rw [h1] at h1'
 injection h1' with h1'
 injection h1' with e1 e2
 subst e1 e2
 simp only [Instr.mapUpdate, Sem.run_bind, run_underlying hT, Result.andThen_ok, MapKept.run_getObj_map h1, hc, hf]
 unfold aput at *
 cases hm : mget l k with
 | none =>
  simp only [Option.map_none]
  refine ⟨setBlock w B (.map (es.push { key := ek k, val := ev v, born := clock }) (clock + 1)), by rw [MapKept.run_setObj_map _ h1]; rfl, ?_, zaw h1 _, by simp [setBlock]⟩
  refine ⟨_, _, heap_setBlock_same h1 _, ?_, ?_, ?_, by simpa [hm] using hn⟩
  ·simp [h2]
  ·intro e he
   simp at he
   rcases he with he | rfl
   ·have := h3 e (by simpa using he); omega
   ·simp
  ·simp only [Array.toList_push, List.map_append, List.map_cons, List.map_nil]
   rw [List.pairwise_append]
   refine ⟨h4, by simp, ?_⟩
   intro a ha b hb
   simp at hb
   subst hb
   obtain ⟨e, he, rfl⟩ := List.mem_map.1 ha
   have := h3 e he
   omega
 | some x =>
  obtain ⟨i, u⟩ := x
  simp only [Option.map_some]
  have hi := zbF hm
  have hie : (es.toList.map (fun e => (e.key, e.val)))[i]? = some (ek k, ev u) := by rw [h2, List.getElem?_map, hi]; rfl
  rw [List.getElem?_map] at hie
  cases hee : es.toList[i]? with
  | none => simp [hee] at hie
  | some e0 =>
   simp only [hee, Option.map_some, Option.some.injEq, Prod.mk.injEq] at hie
   have hes : es[i]? = some e0 := by rw [← Array.getElem?_toList]; exact hee
   have hstay : (Instr.keyThatStays (((es[i]?).map (·.key)).getD (ek k)) (ek k)).run P w = .ok (ek k) w := by
    rw [hes]
    simp only [Option.map_some, Option.getD_some, hie.1, Instr.keyThatStays, law.bits k hk, if_true, Sem.run_pure]
   rw [Sem.run_bind, hstay]
   simp only [Result.andThen_ok]
   refine ⟨setBlock w B (.map (es.modify i fun e => { e with key := ek k, val := ev v }) clock), by rw [MapKept.run_setObj_map _ h1]; rfl, ?_, zaw h1 _, by simp [setBlock]⟩
   have hmod : (es.modify i fun e => { e with key := ek k, val := ev v }).toList = es.toList.set i { e0 with key := ek k, val := ev v } := by
    rw [zeU, zcE _ _ _ hee]
   refine ⟨_, _, heap_setBlock_same h1 _, ?_, ?_, ?_, by simpa [hm] using hn⟩
   ·rw [hmod, List.map_set, h2, List.map_set]
   ·rw [hmod]
    intro e he
    obtain ⟨j, hj⟩ := List.getElem?_of_mem he
    rw [List.getElem?_set] at hj
    by_cases e2 : i = j
    ·subst e2
     have hlt := (List.getElem?_eq_some_iff.1 hee).1
     simp at hlt
     simp [hlt] at hj
     subst hj
     exact h3 e0 (List.mem_of_getElem? hee)
    ·rw [if_neg e2] at hj
     exact h3 e (List.mem_of_getElem? hj)
   ·rw [hmod, List.map_set]
    have : (es.toList.map (·.born)).set i e0.born = es.toList.map (·.born) := by
     apply List.ext_getElem?
     intro j
     rw [List.getElem?_set]
     by_cases e2 : i = j
     ·subst e2
      have hlt := (List.getElem?_eq_some_iff.1 hee).1
      simp at hlt
      obtain ⟨_, h9⟩ := Array.getElem?_eq_some_iff.1 hes
      simp [hlt, h9]
     ·rw [if_neg e2]
    simpa [this] using h4

theorem map_eraseIdx' {α β : Type} (f : α → β) : ∀ (l : List α) (i : Nat), (l.eraseIdx i).map f = (l.map f).eraseIdx i
 | [], _ => by simp
 | a :: r, 0 => by simp
 | a :: r, i + 1 => by simp [map_eraseIdx' f r i]
theorem MapIs.delete {T K E ty : TypeId} {ok : κ → Prop} {tk : TypeId} (h : MapIs ek ev w B l) (law : KeyLaw P K ek ok) (hT : P.underlying T = some (.map K E)) {k : κ} (hk : ok k) (hl : ∀ p ∈ l, ok p.1) :
  ∃ w', (Builtin.delete_ #[T, tk] ty #[.map (some B), ek k]).run P w = .ok (.tuple #[]) w' ∧ MapIs ek ev w' B (adel l k) ∧ w.grownBy w' (some B) ∧ w'.heap.size = w.heap.size := by
 have hn := zfb (k := k) h.nodup
 obtain ⟨es, clock, h1, hf, hc⟩ := h.find law hk hl
 obtain ⟨es', clock', h1', h2, h3, h4, h5⟩ := h
 rw [h1] at h1'
 injection h1' with h1'
 injection h1' with e1 e2
 subst e1 e2
 have hg1 : (#[T, tk] : Array TypeId)[0]? = some T := rfl
 have hg2 : (#[Value.map (some B), ek k] : Array Value)[0]? = some (.map (some B)) := rfl
 have hg3 : (#[Value.map (some B), ek k] : Array Value)[1]? = some (ek k) := rfl
 simp only [Builtin.delete_, hg1, hg2, hg3, Sem.run_bind, run_underlying hT, Result.andThen_ok, MapKept.run_getObj_map h1, hc, hf]
 unfold adel at *
 cases hm : mget l k with
 | none =>
  simp only [Option.map_none]
  refine ⟨setBlock w B (.map es clock), by rw [Sem.run_bind, MapKept.run_setObj_map _ h1]; rfl, ?_, zaw h1 _, by simp [setBlock]⟩
  exact ⟨_, _, heap_setBlock_same h1 _, h2, h3, h4, h5⟩
 | some x =>
  obtain ⟨i, u⟩ := x
  simp only [Option.map_some]
  refine ⟨setBlock w B (.map (es.eraseIdxIfInBounds i) clock), by rw [Sem.run_bind, MapKept.run_setObj_map _ h1]; rfl, ?_, zaw h1 _, by simp [setBlock]⟩
  have he : (es.eraseIdxIfInBounds i).toList = es.toList.eraseIdx i := by simp
  refine ⟨_, _, heap_setBlock_same h1 _, ?_, ?_, ?_, by simpa [hm] using hn⟩
  ·rw [he, map_eraseIdx', h2, map_eraseIdx']
  ·rw [he]
   intro e hem
   exact h3 e ((List.eraseIdx_sublist _ _).subset hem)
  ·rw [he]
   exact h4.sublist ((List.eraseIdx_sublist _ _).map _)

theorem MapIs.size (h : MapIs ek ev w B l) : ∃ es clock, w.heap[B]? = some (.map es clock) ∧ es.size = l.length := by
 obtain ⟨es, clock, h1, h2, _⟩ := h
 refine ⟨es, clock, h1, ?_⟩
 have := congrArg List.length h2
 simpa using this
end
end Go.Proofs.YtoahnbmedcjpeaaGreatDoor

namespace Go.Proofs.YtoahnbmedcjpeaaGreatDoor.Ab
open Go.RowKit

section
variable {P : Program} {nt : Nat} {Q : Post} {e : Env} {h : Heap} {o : Oper} {T : List Nat} {tab : TTab}
theorem zgT {w : World} {F : Nat → Prop} {ι : Nat → Option Value} {id : Nat} {u v : Value} (h : VRel w F ι (.mp id) u) (hv : ι id = some v) : u = v := by
 cases h with
 | mp _ _ _ h2 => exact h2 v hv
variable {κ ν : Type} {ek : κ → Value} {ok : κ → Prop} {ka : κ → AVal} {xa : ν → AVal}
def ents (ka : κ → AVal) (xa : ν → AVal) (l : List (κ × ν)) : List (AVal × AVal) := l.map fun p => (ka p.1, xa p.2)
def Beside (w : World) (F : Nat → Prop) (ι : Nat → Option Value) (xa : ν → AVal) : List (κ × ν) → List (κ × Value) → Prop
 | [], [] => True
 | p :: l, q :: m => q.1 = p.1 ∧ VRel w F ι (xa p.2) q.2 ∧ Beside w F ι xa l m
 | _, _ => False
theorem Beside.keys {w : World} {F : Nat → Prop} {ι : Nat → Option Value} {l : List (κ × ν)} {m : List (κ × Value)} (h : Beside w F ι xa l m) : m.map (·.1) = l.map (·.1) := by
 induction l generalizing m with
 | nil => cases m with
  | nil => rfl
  | cons q m => cases h
 | cons p l ih => cases m with
  | nil => cases h
  | cons q m => rw [List.map_cons, List.map_cons, h.1, ih h.2.2]
theorem Beside.mget [DecidableEq κ] {w : World} {F : Nat → Prop} {ι : Nat → Option Value} {l : List (κ × ν)} {m : List (κ × Value)} (h : Beside w F ι xa l m) (k : κ) :
  (∀ i x, mget l k = some (i, x) → ∃ u, mget m k = some (i, u) ∧ VRel w F ι (xa x) u) ∧ (mget l k = none → mget m k = none) := by
 induction l generalizing m with
 | nil => cases m with
  | nil => exact ⟨fun i x h => (by cases h), fun _ => rfl⟩
  | cons q m => cases h
 | cons p l ih => cases m with
  | nil => cases h
  | cons q m =>
   obtain ⟨k1, x1⟩ := p
   obtain ⟨k2, u2⟩ := q
   obtain ⟨h1, h2, h3⟩ := h
   dsimp only at h1 h2
   subst h1
   obtain ⟨i1, i2⟩ := ih h3
   unfold Go.Proofs.YtoahnbmedcjpeaaGreatDoor.mget
   split
   ·exact ⟨fun i x hx => (by cases hx; exact ⟨u2, rfl, h2⟩), fun hx => (by cases hx)⟩
   ·refine ⟨fun i x hx => ?_, fun hx => ?_⟩
    ·cases hm : Go.Proofs.YtoahnbmedcjpeaaGreatDoor.mget l k with
     | none => rw [hm] at hx; cases hx
     | some y =>
      rw [hm] at hx
      cases hx
      obtain ⟨u, h5, h6⟩ := i1 y.1 y.2 hm
      exact ⟨u, by rw [h5]; rfl, h6⟩
    ·cases hm : Go.Proofs.YtoahnbmedcjpeaaGreatDoor.mget l k with
     | none => rw [i2 hm]; rfl
     | some y => rw [hm] at hx; cases hx
theorem Beside.aget [DecidableEq κ] {w : World} {F : Nat → Prop} {ι : Nat → Option Value} {l : List (κ × ν)} {m : List (κ × Value)} (h : Beside w F ι xa l m) (k : κ) :
  (∀ x, aget l k = some x → ∃ u, aget m k = some u ∧ VRel w F ι (xa x) u) ∧ (aget l k = none → aget m k = none) := by
 obtain ⟨h1, h2⟩ := h.mget k
 unfold Go.Proofs.YtoahnbmedcjpeaaGreatDoor.aget
 refine ⟨fun x hx => ?_, fun hx => ?_⟩
 ·cases hm : Go.Proofs.YtoahnbmedcjpeaaGreatDoor.mget l k with
  | none => rw [hm] at hx; cases hx
  | some y =>
   rw [hm] at hx
   cases hx
   obtain ⟨u, h5, h6⟩ := h1 y.1 y.2 hm
   exact ⟨u, by rw [h5]; rfl, h6⟩
 ·cases hm : Go.Proofs.YtoahnbmedcjpeaaGreatDoor.mget l k with
  | none => rw [h2 hm]; rfl
  | some y => rw [hm] at hx; cases hx
theorem zgl {w : World} {F : Nat → Prop} {ι : Nat → Option Value} (hka : ∀ k, valA (ka k) = some (ek k)) (l : List (κ × ν)) (E : List MapEntry) (hl : E.length = l.length) (h : ∀ (i : Nat) (p : AVal × AVal) (m : MapEntry), (ents ka xa l)[i]? = some p → E[i]? = some m → VRel w F ι p.1 m.key ∧ VRel w F ι p.2 m.val) :
  ∃ m : List (κ × Value), Beside w F ι xa l m ∧ E.map (fun e => (e.key, e.val)) = m.map fun p => (ek p.1, p.2) := by
 induction l generalizing E with
 | nil =>
  have : E = [] := List.length_eq_zero_iff.1 hl
  subst this
  exact ⟨[], trivial, rfl⟩
 | cons p l ih => cases E with
  | nil => cases hl
  | cons q E =>
   obtain ⟨m, h1, h2⟩ := ih E (by simpa using hl) fun i p' m' a b => h (i + 1) p' m' a b
   have h0 := h 0 (ka p.1, xa p.2) q rfl rfl
   refine ⟨(p.1, q.val) :: m, ⟨rfl, h0.2, h1⟩, ?_⟩
   rw [List.map_cons, List.map_cons, h2, zaa h0.1 (hka p.1)]
theorem zfB (E : List MapEntry) : (∀ (i j : Nat) (m m' : MapEntry), i < j → E[i]? = some m → E[j]? = some m' → m.born < m'.born) ↔ (E.map (·.born)).Pairwise (· < ·) := by
 rw [List.pairwise_map, List.pairwise_iff_getElem]
 constructor
 ·intro h i j hi hj hij
  exact h i j E[i] E[j] hij (List.getElem?_eq_getElem hi) (List.getElem?_eq_getElem hj)
 ·intro h i j m m' hij h1 h2
  obtain ⟨hi, rfl⟩ := List.getElem?_eq_some_iff.1 h1
  obtain ⟨hj, rfl⟩ := List.getElem?_eq_some_iff.1 h2
  exact h i j hi hj hij
theorem zeV [DecidableEq κ] {w : World} {F : Nat → Prop} {ι : Nat → Option Value} (hka : ∀ k, valA (ka k) = some (ek k)) {l : List (κ × ν)} (hn : (l.map (·.1)).Nodup) {v : Value} (h : BRel w F ι (.map (ents ka xa l)) v) :
  ∃ B m, v = .map (some B) ∧ MapIs ek (fun u : Value => u) w B m ∧ Beside w F ι xa l m := by
 obtain ⟨r, E, clk, rfl, hc, hl, h1, h2, h3⟩ := h
 obtain ⟨m, h4, h5⟩ := zgl hka l E.toList (by rw [Array.length_toList, hl, ents, List.length_map]) fun i p m a b => h1 i p m a (by simpa using b)
 refine ⟨r, m, rfl, ⟨E, clk, hc, h5, fun e he => ?_, (zfB _).1 fun i j m m' a b c => h2 i j m m' a (by simpa using b) (by simpa using c), by rw [h4.keys]; exact hn⟩, h4⟩
 obtain ⟨i, hi⟩ := List.getElem?_of_mem he
 exact h3 i e (by simpa using hi)
theorem zcZ [DecidableEq κ] {w w' : World} {B : Nat} {m : List (κ × Value)} (h : MapIs ek (fun u : Value => u) w B m) (hb : w'.heap[B]? = w.heap[B]?) : MapIs ek (fun u : Value => u) w' B m := h.of_block hb

theorem zgo [DecidableEq κ] {t K E : Nat} {te : TE} {x y : Operand} {id : Nat} {k : κ} {l : List (κ × ν)} {z : ν} (TO : TabOk P tab) (law : KeyLaw P K ek ok) (hka : ∀ k, valA (ka k) = some (ek k)) (ho : o.op = .lookup t x y false) (ht : tlook tab t = some te) (hs : te.sh = .mp K E) (hx : aev e x = some (.mp id)) (hb : look h id = some (.map (ents ka xa l))) (hT : T.contains id = false)
  (hy : aev e y = some (ka k)) (hk : ok k) (hl : ∀ p ∈ l, ok p.1) (hn : (l.map (·.1)).Nodup) (hg : aget l k = some z) {zv : Value} (hz : ∀ W, (zeroValue E).run P W = .ok zv W) : AYield P T e h o (xa z) := fun Pm F w0 pin ι a w H Er => by
 obtain ⟨v, hv, hB⟩ := H.blk id _ hb
 obtain ⟨B, m, rfl, hm, hbes⟩ := zeV hka hn hB
 obtain ⟨d, hd, _, hh⟩ := (TO t te ht).und
 rw [hs] at hh
 cases hh
 have hxv := zm Er hx
 have hkv := zaa (zm Er hy) (hka k)
 obtain ⟨u, h1, h2⟩ := (hbes.aget k).1 z hg
 have hxe := zgT hxv hv
 refine ⟨u, h2, fun w' hw' => ?_⟩
 have hm' := zcZ hm (zcc H hw' hv rfl hT)
 have := hm'.lookup law hd hz hk (fun p hp => by
  have : p.1 ∈ m.map (·.1) := List.mem_map.2 ⟨p, hp, rfl⟩
  rw [hbes.keys] at this
  obtain ⟨q, hq, he⟩ := List.mem_map.1 this
  rw [← he]; exact hl q hq)
 rw [h1] at this
 simp only [execOp, ho, hxe, hkv]
 simp only [Sem.run_bind, this]
 rfl
theorem Beside.wrote {w w' : World} {F : Nat → Prop} {ι : Nat → Option Value} {id : Nat} {v : Value} (hW : Wrote w v w') (hv : ι id = some v) : ∀ {l : List (κ × ν)} {m : List (κ × Value)}, Beside w F ι xa l m → Beside w' F ι xa l m
 | [], [], _ => trivial
 | p :: l, q :: m, h => ⟨h.1, h.2.1.wrote hW hv, Beside.wrote hW hv h.2.2⟩
 | [], _ :: _, h => h.elim
 | _ :: _, [], h => h.elim
theorem Beside.snoc {w : World} {F : Nat → Prop} {ι : Nat → Option Value} {k : κ} {z : ν} {u : Value} (hz : VRel w F ι (xa z) u) : ∀ {l : List (κ × ν)} {m : List (κ × Value)}, Beside w F ι xa l m → Beside w F ι xa (l ++ [(k, z)]) (m ++ [(k, u)])
 | [], [], _ => ⟨rfl, hz, trivial⟩
 | p :: l, q :: m, h => ⟨h.1, h.2.1, Beside.snoc hz h.2.2⟩
 | [], _ :: _, h => h.elim
 | _ :: _, [], h => h.elim
theorem Beside.set {w : World} {F : Nat → Prop} {ι : Nat → Option Value} {k : κ} {z : ν} {u : Value} (hz : VRel w F ι (xa z) u) : ∀ (i : Nat) {l : List (κ × ν)} {m : List (κ × Value)}, Beside w F ι xa l m → Beside w F ι xa (l.set i (k, z)) (m.set i (k, u))
 | _, [], [], _ => trivial
 | 0, p :: l, q :: m, h => ⟨rfl, hz, h.2.2⟩
 | i + 1, p :: l, q :: m, h => ⟨h.1, h.2.1, Beside.set hz i h.2.2⟩
 | _, [], _ :: _, h => h.elim
 | _, _ :: _, [], h => h.elim
theorem Beside.erase {w : World} {F : Nat → Prop} {ι : Nat → Option Value} : ∀ (i : Nat) {l : List (κ × ν)} {m : List (κ × Value)}, Beside w F ι xa l m → Beside w F ι xa (l.eraseIdx i) (m.eraseIdx i)
 | _, [], [], _ => trivial
 | 0, p :: l, q :: m, h => h.2.2
 | i + 1, p :: l, q :: m, h => ⟨h.1, h.2.1, Beside.erase i h.2.2⟩
 | _, [], _ :: _, h => h.elim
 | _, _ :: _, [], h => h.elim
theorem Beside.aput [DecidableEq κ] {w : World} {F : Nat → Prop} {ι : Nat → Option Value} {k : κ} {z : ν} {u : Value} (hz : VRel w F ι (xa z) u) {l : List (κ × ν)} {m : List (κ × Value)} (h : Beside w F ι xa l m) : Beside w F ι xa (Go.Proofs.YtoahnbmedcjpeaaGreatDoor.aput l k z) (Go.Proofs.YtoahnbmedcjpeaaGreatDoor.aput m k u) := by
 obtain ⟨h1, h2⟩ := h.mget k
 unfold Go.Proofs.YtoahnbmedcjpeaaGreatDoor.aput
 cases hm : Go.Proofs.YtoahnbmedcjpeaaGreatDoor.mget l k with
 | none => rw [h2 hm]; exact Beside.snoc hz h
 | some y =>
  obtain ⟨i, x⟩ := y
  obtain ⟨u', h5, _⟩ := h1 i x hm
  rw [h5]
  exact Beside.set hz i h
theorem Beside.adel [DecidableEq κ] {w : World} {F : Nat → Prop} {ι : Nat → Option Value} {k : κ} {l : List (κ × ν)} {m : List (κ × Value)} (h : Beside w F ι xa l m) : Beside w F ι xa (Go.Proofs.YtoahnbmedcjpeaaGreatDoor.adel l k) (Go.Proofs.YtoahnbmedcjpeaaGreatDoor.adel m k) := by
 obtain ⟨h1, h2⟩ := h.mget k
 unfold Go.Proofs.YtoahnbmedcjpeaaGreatDoor.adel
 cases hm : Go.Proofs.YtoahnbmedcjpeaaGreatDoor.mget l k with
 | none => rw [h2 hm]; exact h
 | some y =>
  obtain ⟨i, x⟩ := y
  obtain ⟨u', h5, _⟩ := h1 i x hm
  rw [h5]
  exact Beside.erase i h
theorem zjQ [DecidableEq κ] {w : World} {F : Nat → Prop} {ι : Nat → Option Value} (hkv : ∀ k w F ι, VRel w F ι (ka k) (ek k)) {l : List (κ × ν)} {B : Nat} {m : List (κ × Value)} (h : MapIs ek (fun u : Value => u) w B m) (hb : Beside w F ι xa l m) : BRel w F ι (.map (ents ka xa l)) (.map (some B)) := by
 obtain ⟨E, clk, hc, h1, h2, h3, _⟩ := h
 have hlen : ∀ {l : List (κ × ν)} {m : List (κ × Value)}, Beside w F ι xa l m → m.length = l.length := fun hb => by have := congrArg List.length hb.keys; simpa using this
 have hEl : E.toList.length = m.length := by have := congrArg List.length h1; simpa using this
 refine ⟨B, E, clk, rfl, hc, by rw [← Array.length_toList, hEl, hlen hb, ents, List.length_map], fun i p e hp he => ?_, fun i j a b hij ha hb' => (zfB E.toList).2 h3 i j a b hij (by simpa using ha) (by simpa using hb'), fun i e he => h2 e (List.mem_of_getElem? (i := i) (by simpa using he))⟩
 have key : ∀ (i : Nat) {l : List (κ × ν)} {m : List (κ × Value)}, Beside w F ι xa l m → ∀ p q, l[i]? = some p → m[i]? = some q → q.1 = p.1 ∧ VRel w F ι (xa p.2) q.2 := by
  intro i
  induction i with
  | zero => intro l m hb p q hp hq; match l, m, hb with
   | a :: l, b :: m, hb => cases hp; cases hq; exact ⟨hb.1, hb.2.1⟩
   | [], [], _ => cases hp
  | succ i ih => intro l m hb p q hp hq; match l, m, hb with
   | a :: l, b :: m, hb => exact ih hb.2.2 p q (by simpa using hp) (by simpa using hq)
   | [], [], _ => cases hp
 rw [ents, List.getElem?_map] at hp
 cases hli : l[i]? with
 | none => rw [hli] at hp; cases hp
 | some p0 =>
  rw [hli] at hp
  cases hp
  have he2 : (E.toList.map (fun e => (e.key, e.val)))[i]? = some (e.key, e.val) := by rw [List.getElem?_map, Array.getElem?_toList, he]; rfl
  rw [h1, List.getElem?_map] at he2
  cases hmi : m[i]? with
  | none => rw [hmi] at he2; cases he2
  | some q =>
   rw [hmi] at he2
   simp only [Option.map_some, Option.some.injEq, Prod.mk.injEq] at he2
   obtain ⟨h5, h6⟩ := key i hb p0 q hli hmi
   rw [← he2.1, ← he2.2, h5]
   exact ⟨hkv _ _ _ _, h6⟩
theorem zeL [DecidableEq κ] {t K E : Nat} {te : TE} {x y z : Operand} {d : Option Tmp} {id : Nat} {k : κ} {l : List (κ × ν)} {q : ν} (TO : TabOk P tab) (law : KeyLaw P K ek ok) (hka : ∀ k, valA (ka k) = some (ek k)) (hkv : ∀ k w F ι, VRel w F ι (ka k) (ek k)) (ho : o.op = .mapUpdate t x y z) (hdst : o.dst = d) (ht : tlook tab t = some te) (hs : te.sh = .mp K E) (hx : aev e x = some (.mp id)) (hb : look h id = some (.map (ents ka xa l)))
  (hy : aev e y = some (ka k)) (hq : aev e z = some (xa q)) (hk : ok k) (hl : ∀ p ∈ l, ok p.1) (hn : (l.map (·.1)).Nodup) (hd : dstOk nt d = true) (hT : T.contains id = true) :
  AEff P nt T e h o (fun e' h' => e' = aput d .und e ∧ h' = (id, .map (ents ka xa (Go.Proofs.YtoahnbmedcjpeaaGreatDoor.aput l k q))) :: h) := fun Pm F w0 pin ι a w R Kt Qx hK => by
 obtain ⟨v, hv, hB⟩ := R.heap.blk id _ hb
 obtain ⟨B, m, rfl, hm, hbes⟩ := zeV hka hn hB
 obtain ⟨dd, hdd, _, hh⟩ := (TO t te ht).und
 rw [hs] at hh
 cases hh
 have hxe := zgT (zm R.env hx) hv
 have hye := zaa (zm R.env hy) (hka k)
 have hze := zm R.env hq
 obtain ⟨w', hrun, hm', hg, hsz⟩ := hm.update law hdd hk (fun p hp => by
  have : p.1 ∈ m.map (·.1) := List.mem_map.2 ⟨p, hp, rfl⟩
  rw [hbes.keys] at this
  obtain ⟨r, hr, he⟩ := List.mem_map.1 this
  rw [← he]; exact hl r hr) (a.eval z)
 have hW : Wrote w (.map (some B)) w' := ⟨hg.os, hg.tape, hg.output, hg.size, fun r hr hne => hg.block r hr fun he => hne (by rw [blockOf]; exact he.symm)⟩
 have hrun2 : (execOp a.eval o).run P w = .ok .skip w' := by
  simp only [execOp, ho, hxe, hye, Sem.run_bind, hrun]
  rfl
 unfold Oper.wp
 rw [hrun2, Oper.upon_skip, hdst]
 refine hK ι _ _ _ w' ⟨rfl, rfl⟩ ⟨R.heap.wrote hW hv (zjQ hkv hm' ((hbes.aput hze).wrote hW hv)), (R.env.mono fun _ _ _ _ hv' => hv'.wrote hW hv).aput hd R.size .und, by rw [zx]; exact R.defers.ext (hW.ext hv), by rw [zaD]; exact R.size⟩ ?_ (zx _ _ _)
 exact ⟨⟨hW.os, hW.tape, hW.output, hW.size, fun r hr hne => hW.mem r hr fun hb => hne id (List.contains_iff_mem.1 hT) _ hv hb⟩, fun j _ u r hj hr _ => ⟨u, hj, hr⟩⟩
theorem zgt {t : TypeId} {d : Option Tmp} {id : Nat} (ho : o.op = .makeMap t none) (hdst : o.dst = d) (hid : Nat.blt id 1000 = true) (hd : dstOk nt d = true) : AEff P nt T e h o (fun e' h' => e' = aput d (.mp id) (killE id e) ∧ h' = (id, .map []) :: killH id h) := fun Pm F w0 pin ι a w R K Qx hK => by
 have hb : ∀ ι', ι' = upd ι id (some (.map (some w.heap.size))) → Ext w F ι (w.alloc (.map #[] 0)) ι' → BRel (w.alloc (.map #[] 0)) F ι' (.map []) (.map (some w.heap.size)) := fun ι' h0 he =>
  ⟨w.heap.size, #[], 0, rfl, za5 _ _, rfl, fun i p m h1 => by simp at h1, fun i j m m' _ h1 => by simp at h1, fun i m h1 => by simp at h1⟩
 obtain ⟨hR, hC⟩ := R.new (T := T) hid hd (.map #[] 0) (.map (some w.heap.size)) (by simp [blockOf]) _ (.mp id) hb fun ι' h1 => .mp id _ rfl fun v hv => by subst h1; simp [upd] at hv; exact hv
 have hrun : (execOp a.eval o).run P w = .ok (.value (.map (some w.heap.size))) (w.alloc (.map #[] 0)) := by
  simp only [execOp, ho]
  simp [Instr.makeMap, newObj, Sem.run]
 unfold Oper.wp
 rw [hrun, Oper.upon_value, hdst]
 exact hK _ _ _ _ _ ⟨rfl, rfl⟩ hR hC (zx _ _ _)
end
end Go.Proofs.YtoahnbmedcjpeaaGreatDoor.Ab

namespace Go.Proofs.YtoahnbmedcjpeaaGreatDoor.Ab
open Go.RowKit

def tmap (tab : TTab) (t : Nat) : Option (Nat × Nat) := match tlook tab t with
 | some te => match te.sh with | .mp k e => some (k, e) | _ => none
 | none => none
def tarr (tab : TTab) (t : Nat) : Option (Nat × Nat) := match tlook tab t with
 | some te => match te.sh with | .ar n e => some (n, e) | _ => none
 | none => none
def tptr (tab : TTab) (t : Nat) : Option Nat := match tlook tab t with
 | some te => match te.sh with | .pt e => some e | _ => none
 | none => none
theorem zcl {tab : TTab} {t k e : Nat} (h : tmap tab t = some (k, e)) : ∃ te, tlook tab t = some te ∧ te.sh = .mp k e := by
 unfold tmap at h
 cases ht : tlook tab t with
 | none => rw [ht] at h; cases h
 | some te =>
  rw [ht] at h
  refine ⟨te, rfl, ?_⟩
  dsimp only at h
  split at h
  ·rename_i hs; cases h; exact hs
  ·cases h
section
variable {P : Program} {nt : Nat} {Q : Post} {e : Env} {h : Heap} {o : Oper} {ops : Array Oper} {rest : List Oper} {T : List Nat} {tab : TTab}
variable {κ ν : Type} [DecidableEq κ] {ek : κ → Value} {ok : κ → Prop} {ka : κ → AVal} {xa : ν → AVal}
theorem zjk {t K E id : Nat} {x y : Operand} {k : κ} {l : List (κ × ν)} {z : ν} {zv : Value} (law : KeyLaw P K ek ok) (hka : ∀ k, valA (ka k) = some (ek k)) (hz : ∀ W, (zeroValue E).run P W = .ok zv W) (hk : ok k) (hl : ∀ p ∈ l, ok p.1) (hn : (l.map (·.1)).Nodup) (hg : aget l k = some z)
  (TO : TabOk P tab) (ho : o.op = .lookup t x y false) (ht : tmap tab t = some (K, E)) (hx : aev e x = some (.mp id)) (hb : look h id = some (.map (ents ka xa l))) (hT : T.contains id = false) (hy : aev e y = some (ka k)) : AYield P T e h o (xa z) := by
 obtain ⟨te, h1, h2⟩ := zcl ht
 exact zgo TO law hka ho h1 h2 hx hb hT hy hk hl hn hg hz
theorem zac {t d : Nat} (id : Nat) (hw : awant ops e o = some true) (hdst : o.dst = some d) (hd : Nat.blt d nt = true) (hid : Nat.blt id 1000 = true) (ho : o.op = .makeMap t none) (HK : AOps P nt ops Q rest ((d, .mp id) :: killE id e) ((id, .map []) :: killH id h)) : AOps P nt ops Q (o :: rest) e h :=
 zax (T := []) hw (zgt ho hdst hid hd) fun e' h' ⟨h1, h2⟩ => by subst h1 h2; exact HK
theorem O_cP {f : FuncId} {args : Array Operand} {ats : Array TypeId} {cs0 cs : List AVal} {h0 h1 : Heap} {c : AVal} {d : Nat} (ρ : List (Nat × Nat)) (hinj : ∀ p p' i, look ρ p = some i → look ρ p' = some i → p = p') (hdom : ∀ p i, look ρ p = some i → 1000 ≤ p ∧ (look h0 p).isSome = true ∧ (look h1 p).isSome = true)
  (H : ACall P f cs h0 (fun c' h' => c' = c ∧ h' = h1)) (hok : ∀ c ∈ cs, okV ρ c = true) (hl : Lent ρ h h0) (hw : awant ops e o = some true) (hdst : o.dst = some d) (hd : Nat.blt d nt = true) (ho : o.op = .call { callee := .value (.func f), args := args, argTypes := ats }) (hx : aevs e args.toList = some cs0)
  (hcs : cs.map (renV ρ) = cs0) (HK : AOps P nt ops Q rest ((d, renV ρ c) :: e) (renH ρ h1 ++ h)) : AOps P nt ops Q (o :: rest) e h :=
 zax (T := ρ.map (·.2)) hw (zdX ρ ho hdst hx hcs hok hl (fun p i hp => ⟨(hdom p i hp).1, (hdom p i hp).2.1⟩) hinj H hd (fun p i hp => by
  have : ∀ (ρ : List (Nat × Nat)), look ρ p = some i → i ∈ ρ.map (·.2) := by
   intro ρ
   induction ρ with
   | nil => intro h; cases h
   | cons q r ih =>
    obtain ⟨a, b⟩ := q
    intro h
    by_cases ha : a = p
    ·subst ha; rw [zb] at h; cases h; simp
    ·rw [zd _ _ ha] at h; have := ih h; simp at this ⊢; exact .inr this
  exact List.contains_iff_mem.2 (this ρ hp)) (fun c' h' ⟨h3, h4⟩ p i hp => by subst h4; exact (hdom p i hp).2.2)) fun e' h' ⟨c', h2, ⟨h3, h4⟩, h5, h6⟩ => by subst h3 h4 h5 h6; exact HK
end
end Go.Proofs.YtoahnbmedcjpeaaGreatDoor.Ab

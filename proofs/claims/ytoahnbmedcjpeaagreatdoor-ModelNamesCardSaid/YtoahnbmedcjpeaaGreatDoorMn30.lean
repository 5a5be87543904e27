/-
 Texts of a proof, one behind the other (part 31).
-/
import Derived.Test.YtoahnbmedcjpeaaGreatDoorMn2
import Derived.Test.YtoahnbmedcjpeaaGreatDoorMn3
import Derived.Test.YtoahnbmedcjpeaaGreatDoorMn29
set_option linter.unusedVariables false
set_option linter.unusedSimpArgs false
namespace Go.Proofs.YtoahnbmedcjpeaaGreatDoor
open Go.RowKit Go.Lib
theorem zdn {α : Type} {c : α → α → Int} (G : Good c) : St.Weak (fun x y => decide (c x y < 0)) := ⟨fun x y h => by
 have h := of_decide_eq_true h
 have := G.anti x y
 exact decide_eq_false (by omega), fun x y z h => by
 have h := of_decide_eq_true h
 by_cases h1 : c x y < 0
 ·exact .inl (decide_eq_true h1)
 ·refine .inr (decide_eq_true ?_)
  have h2 := G.anti x y
  exact G.le_lt (x := y) (y := x) (z := z) (by omega) h⟩
def ltN {α : Type} (nm : α → List UInt8) (x y : α) : Bool := decide (compareBytes (nm x) (nm y) < 0)
def srtN {α : Type} (nm : α → List UInt8) (l : List α) : List α := St.stS (ltN nm) l
def srtV (l : List (List UInt8)) : List (List UInt8) := l.mergeSort fun x y => decide (x ≤ y)
def staC : Sta → Sta → Int := lexc (fun x y => compareBytes x.vrf y.vrf) (lexc (fun x y => lexc (fun p q : Pfx => c2 p.a q.a) (fun p q => c2 p.b q.b) x.p y.p) (lexc (fun x y => c2 x.via y.via) (lexc (fun x y => cB x.x y.x) (lexc (fun x y => c2 x.dist y.dist) fun x y => c2 x.tag y.tag))))
def ltS (x y : Sta) : Bool := decide (staC x y < 0)
def formL (d : Dvc) : Dvc := ⟨d.nm, d.kd, srtV d.vrfs, srtN (fun x : Ifx => x.nm) d.ifs, srtN (fun x : Fil => x.nm) d.fils, d.rws, St.stS ltS d.sts, srtN (fun x : PLst => x.nm) d.pls, srtN (fun x : CLst => x.nm) d.cls, srtN (fun x : Pol => x.nm) d.pols, d.osp, d.bgp⟩
theorem weakN {α : Type} (nm : α → List UInt8) : St.Weak (ltN nm) := zdn (zc5.of nm)
theorem zg9 : Good staC := (zc5.of fun x : Sta => x.vrf).lex ((((zb7.of fun p : Pfx => p.a).lex (zb7.of fun p : Pfx => p.b)).of fun x : Sta => x.p).lex ((zb7.of fun x : Sta => x.via).lex ((zix.of fun x : Sta => x.x).lex ((zb7.of fun x : Sta => x.dist).lex (zb7.of fun x : Sta => x.tag)))))
theorem weakS : St.Weak ltS := zdn zg9
theorem zfS {α : Type} (nm : α → List UInt8) (l : List α) : (srtN nm l).Perm l := St.stS_perm l
theorem zfR (l : List (List UInt8)) : (srtV l).Perm l := List.mergeSort_perm _ _
structure OkF (d : Dvc) : Prop where
 ok : d.ok
 n3 : d.ifs.length ≤ 100000000000
 n4 : d.fils.length ≤ 100000000000
 n6 : d.sts.length ≤ 100000000000
 n7 : d.pls.length ≤ 100000000000
 n8 : d.cls.length ≤ 100000000000
 n9 : d.pols.length ≤ 100000000000
def badI (v : Int) : Bool := (v == 1) || (v == 2)
structure BkEq (a b : Bk) : Prop where
 v : noneB a.v = noneB b.v
 f : noneB a.f = noneB b.f
 p : noneB a.p = noneB b.p
 c : noneB a.c = noneB b.c
 o : noneB a.o = noneB b.o
def ifxQ (b : Bk) (x : Ifx) : Bool := nameB x.nm && (((x.a == 0) && (x.b == 0) || (x.a != 0) && withB x.b 1 32) && (decide (x.side ≤ 2) && (withB x.area (-1) 16777216 && (withB x.cost 1 65535 && (noneB b.v x.vrf && (noneB b.f x.fin && noneB b.f x.fout))))))
end Go.Proofs.YtoahnbmedcjpeaaGreatDoor

/-
 Texts of a proof, one behind the other (part 5).
-/
import Derived.Test.YtmmdkjanmegjdaaGreatRv1
import Derived.Test.YtmmdkjanmegjdaaGreatRv2
import Derived.Test.YtmmdkjanmegjdaaGreatRv3
set_option maxRecDepth 100000
set_option linter.unusedVariables false
set_option linter.unusedSimpArgs false
namespace Go.Proofs.YtmmdkjanmegjdaaGreat
open Go.RowKit Go.Lib
structure Ifx where
 nm : List UInt8
 vrf : List UInt8
 a : Int
 b : Int
 down : Bool
 fin : List UInt8
 fout : List UInt8
 side : Int
 area : Int
 cost : Int
 pas : Bool
structure Rul where
 ok : Bool
 pr : Int
 src : Pfx
 dst : Pfx
 s1 : Int
 s2 : Int
 d1 : Int
 d2 : Int
structure Fil where
 nm : List UInt8
 rs : List Rul
structure Rwr where
 dst : Bool
 fil : List UInt8
 to : Int
structure Sta where
 vrf : List UInt8
 p : Pfx
 via : Int
 x : Bool
 dist : Int
 tag : Int
structure LEnt where
 ok : Bool
 p : Pfx
 ge : Int
 le : Int
structure PLst where
 nm : List UInt8
 es : List LEnt
structure Mem where
 ok : Bool
 all : List Int
structure CLst where
 nm : List UInt8
 ms : List Mem
structure Cls where
 seq : Int
 act : Int
 pfx : List UInt8
 com : List UInt8
 tag : Int
 met : Int
 thr : Int
 sMet : Int
 sPref : Int
 sTag : Int
 sCom : List Int
 add : Bool
 pre : List Int
 sHop : Int
 jump : Int
structure Pol where
 nm : List UInt8
 cs : List Cls
 dft : Bool
structure Sbj where
 p : Pfx
 met : Int
 tag : Int
 pref : Int
 path : List Int
 com : List Int
 hop : Int
structure Rds where
 from_ : Int
 met : Int
 ty : Int
 pol : List UInt8
structure Osp where
 vrf : List UInt8
 id_ : Int
 fr : List Rds
structure Per where
 a : Int
 as_ : Int
 pin : List UInt8
 pout : List UInt8
 cl : Bool
 slf : Bool
structure Bgi where
 vrf : List UInt8
 as_ : Int
 id_ : Int
 nets : List Pfx
 ps : List Per
 fr : List Rds
structure Dvc where
 nm : List UInt8
 kd : Int
 vrfs : List (List UInt8)
 ifs : List Ifx
 fils : List Fil
 rws : List Rwr
 sts : List Sta
 pls : List PLst
 cls : List CLst
 pols : List Pol
 osp : List Osp
 bgp : List Bgi
structure Adv where
 p : Pfx
 hop : Int
 pref : Int
 met : Int
 path : List Int
 com : List Int
 peer : Int
 pid : Int
 ext : Bool
 orig : Int
 clus : List Int
 ses : Int
namespace Ab
abbrev iD (x : Int) : Dat := .sc (.int .i64 x)
abbrev uD (x : Int) : Dat := .sc (.int .u32 x)
abbrev cD (x : Int) : Dat := .sc (.int .u8 x)
abbrev sD (x : List UInt8) : Dat := .sc (.string ⟨⟨x⟩⟩)
abbrev bD (x : Bool) : Dat := .sc (.bool x)
def u1D (x : Int) : List Dat := [uD x]
def s1D (x : List UInt8) : List Dat := [sD x]
def usD (l : List Int) : Dat := .sl (l.flatMap u1D) l.length
def lsD {α : Type} (enc : α → List Dat) (l : List α) : Dat := .sl (l.flatMap enc) l.length
def ifxD (x : Ifx) : List Dat := [sD x.nm, sD x.vrf, uD x.a, iD x.b, bD x.down, sD x.fin, sD x.fout, cD x.side, iD x.area, iD x.cost, bD x.pas]
def rulD (x : Rul) : List Dat := [bD x.ok, iD x.pr, uD x.src.a, iD x.src.b, uD x.dst.a, iD x.dst.b, uD x.s1, uD x.s2, uD x.d1, uD x.d2]
def filD (x : Fil) : List Dat := [sD x.nm, .sl (x.rs.flatMap rulD) x.rs.length]
def rwrD (x : Rwr) : List Dat := [bD x.dst, sD x.fil, uD x.to]
def staD (x : Sta) : List Dat := [sD x.vrf, uD x.p.a, iD x.p.b, uD x.via, bD x.x, iD x.dist, iD x.tag]
def lentD (x : LEnt) : List Dat := [bD x.ok, uD x.p.a, iD x.p.b, iD x.ge, iD x.le]
def plstD (x : PLst) : List Dat := [sD x.nm, .sl (x.es.flatMap lentD) x.es.length]
def memD (x : Mem) : List Dat := [bD x.ok, usD x.all]
def clstD (x : CLst) : List Dat := [sD x.nm, .sl (x.ms.flatMap memD) x.ms.length]
def clsD (c : Cls) : List Dat := [iD c.seq, cD c.act, sD c.pfx, sD c.com, iD c.tag, iD c.met, iD c.thr, iD c.sMet, iD c.sPref, iD c.sTag, usD c.sCom, bD c.add, usD c.pre, uD c.sHop, iD c.jump]
def polD (p : Pol) : List Dat := [sD p.nm, .sl (p.cs.flatMap clsD) p.cs.length, bD p.dft]
def sbjD (s : Sbj) : List Dat := [uD s.p.a, iD s.p.b, iD s.met, iD s.tag, iD s.pref, usD s.path, usD s.com, uD s.hop]
def rdsD (x : Rds) : List Dat := [cD x.from_, iD x.met, cD x.ty, sD x.pol]
def ospD (x : Osp) : List Dat := [sD x.vrf, uD x.id_, .sl (x.fr.flatMap rdsD) x.fr.length]
def perD (x : Per) : List Dat := [uD x.a, uD x.as_, sD x.pin, sD x.pout, bD x.cl, bD x.slf]
def bgiD (x : Bgi) : List Dat := [sD x.vrf, uD x.as_, uD x.id_, .sl (x.nets.flatMap pfxD) x.nets.length, .sl (x.ps.flatMap perD) x.ps.length, .sl (x.fr.flatMap rdsD) x.fr.length]
def dvcD (d : Dvc) : List Dat := [sD d.nm, cD d.kd, .sl (d.vrfs.flatMap s1D) d.vrfs.length, .sl (d.ifs.flatMap ifxD) d.ifs.length, .sl (d.fils.flatMap filD) d.fils.length, .sl (d.rws.flatMap rwrD) d.rws.length, .sl (d.sts.flatMap staD) d.sts.length, .sl (d.pls.flatMap plstD) d.pls.length, .sl (d.cls.flatMap clstD) d.cls.length, .sl (d.pols.flatMap polD) d.pols.length, .sl (d.osp.flatMap ospD) d.osp.length, .sl (d.bgp.flatMap bgiD) d.bgp.length]
def advD (x : Adv) : List Dat := [uD x.p.a, iD x.p.b, uD x.hop, iD x.pref, iD x.met, usD x.path, usD x.com, uD x.peer, uD x.pid, bD x.ext, uD x.orig, usD x.clus, iD x.ses]
def aggD (l : List Dat) : AVal := .agg (l.map AVal.d)
abbrev u32A (x : Int) : AVal := .d (.sc (.int .u32 x))
abbrev usA (l : List Int) : AVal := .d (usD l)
abbrev dvcA (d : Dvc) : AVal := aggD (dvcD d)
abbrev advA (d : Adv) : AVal := aggD (advD d)
abbrev advsA (l : List Adv) : AVal := .d (.sl (l.flatMap advD) l.length)
theorem zV (x : Int) : (u1D x).length = 1 := rfl
theorem zcU (x : LEnt) : (lentD x).length = 5 := rfl
theorem zbI (x : PLst) : (plstD x).length = 2 := rfl
theorem zdt (x : Mem) : (memD x).length = 2 := rfl
theorem zbL (x : CLst) : (clstD x).length = 2 := rfl
theorem zdG (x : Cls) : (clsD x).length = 15 := rfl
theorem zdp (x : Pol) : (polD x).length = 3 := rfl
theorem zcB (x : Rds) : (rdsD x).length = 4 := rfl
abbrev hI : Shp := .it .i64
abbrev hU : Shp := .it .u32
abbrev hC : Shp := .it .u8
def ifxS : List Shp := [.st, .st, hU, hI, .bo, .st, .st, hC, hI, hI, .bo]
def rulS : List Shp := [.bo, hI, hU, hI, hU, hI, hU, hU, hU, hU]
def filS : List Shp := [.st, .sl rulS 64]
def rwrS : List Shp := [.bo, .st, hU]
def staS : List Shp := [.st, hU, hI, hU, .bo, hI, hI]
def lentS : List Shp := [.bo, hU, hI, hI, hI]
def plstS : List Shp := [.st, .sl lentS 40]
def memS : List Shp := [.bo, .sl [hU] 4]
def clstS : List Shp := [.st, .sl memS 32]
def clsS : List Shp := [hI, hC, .st, .st, hI, hI, hI, hI, hI, hI, .sl [hU] 4, .bo, .sl [hU] 4, hU, hI]
def polS : List Shp := [.st, .sl clsS 168, .bo]
def sbjS : List Shp := [hU, hI, hI, hI, hI, .sl [hU] 4, .sl [hU] 4, hU]
def rdsS : List Shp := [hC, hI, hC, .st]
def ospS : List Shp := [.st, hU, .sl rdsS 40]
def perS : List Shp := [hU, hU, .st, .st, .bo, .bo]
def pfxS : List Shp := [hU, hI]
def bgiS : List Shp := [.st, hU, hU, .sl pfxS 16, .sl perS 48, .sl rdsS 40]
def dvcS : List Shp := [.st, hC, .sl [.st] 16, .sl ifxS 120, .sl filS 40, .sl rwrS 32, .sl staS 56, .sl plstS 40, .sl clstS 40, .sl polS 48, .sl ospS 48, .sl bgiS 96]
def advS : List Shp := [hU, hI, hU, hI, hI, .sl [hU] 4, .sl [hU] 4, hU, hU, .bo, hU, .sl [hU] 4, hI]
end Ab
def Bd (n b : Nat) : Prop := n * b ≤ 140737488351232
def okI (x : Int) : Prop := -9223372036854775808 ≤ x ∧ x ≤ 9223372036854775807
def okU (x : Int) : Prop := 0 ≤ x ∧ x < 4294967296
def okC (x : Int) : Prop := 0 ≤ x ∧ x < 256
structure Ifx.ok (x : Ifx) : Prop where
 a : okU x.a
 b : okI x.b
def Sta.ok (x : Sta) : Prop := x.p.ok ∧ okU x.via ∧ okI x.dist ∧ okI x.tag
def LEnt.ok' (x : LEnt) : Prop := x.p.ok
def Mem.ok' (x : Mem) : Prop := (∀ n ∈ x.all, okU n) ∧ Bd x.all.length 4
def Fil.ok (x : Fil) : Prop := Bd x.rs.length 64
def PLst.ok (x : PLst) : Prop := (∀ e ∈ x.es, e.ok') ∧ Bd x.es.length 40
def CLst.ok (x : CLst) : Prop := (∀ e ∈ x.ms, e.ok') ∧ Bd x.ms.length 32
def Osp.ok (x : Osp) : Prop := Bd x.fr.length 40
def Bgi.ok (x : Bgi) : Prop := Bd x.nets.length 16 ∧ Bd x.ps.length 48 ∧ Bd x.fr.length 40
structure Cls.ok (c : Cls) : Prop where
 com : ∀ n ∈ c.sCom, okU n
 pre : ∀ n ∈ c.pre, okU n
 b1 : Bd c.sCom.length 4
 b2 : Bd c.pre.length 4
def Pol.ok (x : Pol) : Prop := (∀ e ∈ x.cs, e.ok) ∧ Bd x.cs.length 168
structure Sbj.ok (s : Sbj) : Prop where
 p : s.p.ok
 path : ∀ n ∈ s.path, okU n
 com : ∀ n ∈ s.com, okU n
 hop : okU s.hop
 b1 : Bd s.path.length 4
 b2 : Bd s.com.length 4
structure Adv.ok (s : Adv) : Prop where
 p : s.p.ok
 hop : okU s.hop
 path : ∀ n ∈ s.path, okU n
 com : ∀ n ∈ s.com, okU n
 clus : ∀ n ∈ s.clus, okU n
 pid : okU s.pid
 peer : okU s.peer
 orig : okU s.orig
 pref : okI s.pref
 met : okI s.met
 ses : okI s.ses
 b1 : Bd s.path.length 4
 b2 : Bd s.com.length 4
 b3 : Bd s.clus.length 4
structure Dvc.ok (d : Dvc) : Prop where
 kd : okC d.kd
 ifs : ∀ x ∈ d.ifs, x.ok
 sts : ∀ x ∈ d.sts, x.ok
 fils : ∀ x ∈ d.fils, x.ok
 pls : ∀ x ∈ d.pls, x.ok
 cls : ∀ x ∈ d.cls, x.ok
 pols : ∀ x ∈ d.pols, x.ok
 osp : ∀ x ∈ d.osp, x.ok
 bgp : ∀ x ∈ d.bgp, x.ok
 b2 : Bd d.vrfs.length 16
 b3 : Bd d.ifs.length 120
 b4 : Bd d.fils.length 40
 b5 : Bd d.rws.length 32
 b6 : Bd d.sts.length 56
 b7 : Bd d.pls.length 40
 b8 : Bd d.cls.length 40
 b9 : Bd d.pols.length 48
 b10 : Bd d.osp.length 48
 b11 : Bd d.bgp.length 96
namespace Ab
theorem rd_i {d : Dat} (h : ShD hI d) : ∃ x, d = iD x ∧ okI x := by
 obtain ⟨x, h1, h2, h3⟩ := zf0 h
 simp [IntKind.min, IntKind.max, IntKind.signed, IntKind.bits] at h2 h3
 exact ⟨x, h1, h2, h3⟩
theorem rd_u {d : Dat} (h : ShD hU d) : ∃ x, d = uD x ∧ okU x := by
 obtain ⟨x, h1, h2, h3⟩ := zf0 h
 simp [IntKind.min, IntKind.max, IntKind.signed, IntKind.bits] at h2 h3
 exact ⟨x, h1, h2, by omega⟩
theorem rd_c {d : Dat} (h : ShD hC d) : ∃ x, d = cD x ∧ okC x := by
 obtain ⟨x, h1, h2, h3⟩ := zf0 h
 simp [IntKind.min, IntKind.max, IntKind.signed, IntKind.bits] at h2 h3
 exact ⟨x, h1, h2, by omega⟩
theorem zkR {d : Dat} (h : ShD (.sl [hU] 4) d) : ∃ l, Bd l.length 4 ∧ (∀ x ∈ l, okU x) ∧ d = usD l := zau h u1D okU fun l hf => by
 obtain ⟨d, r, rfl, h1, h2⟩ := zh hf
 obtain rfl := zZ h2
 obtain ⟨x, rfl, h3⟩ := rd_u h1
 exact ⟨x, h3, rfl⟩
theorem zf9 {a b : Int} (h1 : okU a) (h2 : okI b) : (⟨a, b⟩ : Pfx).ok := ⟨h1.1, h1.2, h2.1, by have := h2.2; show b < _; omega⟩
theorem zoz (l : List Dat) (f : Fits ifxS l) : ∃ x : Ifx, x.ok ∧ l = ifxD x := by
 obtain ⟨d0, _, rfl, h0, f⟩ := zh f
 obtain ⟨d1, _, rfl, h1, f⟩ := zh f
 obtain ⟨d2, _, rfl, h2, f⟩ := zh f
 obtain ⟨d3, _, rfl, h3, f⟩ := zh f
 obtain ⟨d4, _, rfl, h4, f⟩ := zh f
 obtain ⟨d5, _, rfl, h5, f⟩ := zh f
 obtain ⟨d6, _, rfl, h6, f⟩ := zh f
 obtain ⟨d7, _, rfl, h7, f⟩ := zh f
 obtain ⟨d8, _, rfl, h8, f⟩ := zh f
 obtain ⟨d9, _, rfl, h9, f⟩ := zh f
 obtain ⟨d10, _, rfl, h10, f⟩ := zh f
 obtain rfl := zZ f
 obtain ⟨x0, rfl⟩ := zaz h0
 obtain ⟨x1, rfl⟩ := zaz h1
 obtain ⟨x2, rfl, g2⟩ := rd_u h2
 obtain ⟨x3, rfl, g3⟩ := rd_i h3
 obtain ⟨x4, rfl⟩ := zby h4
 obtain ⟨x5, rfl⟩ := zaz h5
 obtain ⟨x6, rfl⟩ := zaz h6
 obtain ⟨x7, rfl, g7⟩ := rd_c h7
 obtain ⟨x8, rfl, g8⟩ := rd_i h8
 obtain ⟨x9, rfl, g9⟩ := rd_i h9
 obtain ⟨x10, rfl⟩ := zby h10
 exact ⟨⟨x0, x1, x2, x3, x4, x5, x6, x7, x8, x9, x10⟩, ⟨g2, g3⟩, rfl⟩
theorem zos (l : List Dat) (f : Fits rulS l) : ∃ x : Rul, True ∧ l = rulD x := by
 obtain ⟨d0, _, rfl, h0, f⟩ := zh f
 obtain ⟨d1, _, rfl, h1, f⟩ := zh f
 obtain ⟨d2, _, rfl, h2, f⟩ := zh f
 obtain ⟨d3, _, rfl, h3, f⟩ := zh f
 obtain ⟨d4, _, rfl, h4, f⟩ := zh f
 obtain ⟨d5, _, rfl, h5, f⟩ := zh f
 obtain ⟨d6, _, rfl, h6, f⟩ := zh f
 obtain ⟨d7, _, rfl, h7, f⟩ := zh f
 obtain ⟨d8, _, rfl, h8, f⟩ := zh f
 obtain ⟨d9, _, rfl, h9, f⟩ := zh f
 obtain rfl := zZ f
 obtain ⟨x0, rfl⟩ := zby h0
 obtain ⟨x1, rfl, _⟩ := rd_i h1
 obtain ⟨x2, rfl, _⟩ := rd_u h2
 obtain ⟨x3, rfl, _⟩ := rd_i h3
 obtain ⟨x4, rfl, _⟩ := rd_u h4
 obtain ⟨x5, rfl, _⟩ := rd_i h5
 obtain ⟨x6, rfl, _⟩ := rd_u h6
 obtain ⟨x7, rfl, _⟩ := rd_u h7
 obtain ⟨x8, rfl, _⟩ := rd_u h8
 obtain ⟨x9, rfl, _⟩ := rd_u h9
 exact ⟨⟨x0, x1, ⟨x2, x3⟩, ⟨x4, x5⟩, x6, x7, x8, x9⟩, trivial, rfl⟩
theorem zoA (l : List Dat) (f : Fits filS l) : ∃ x : Fil, x.ok ∧ l = filD x := by
 obtain ⟨d0, _, rfl, h0, f⟩ := zh f
 obtain ⟨d1, _, rfl, h1, f⟩ := zh f
 obtain rfl := zZ f
 obtain ⟨x0, rfl⟩ := zaz h0
 obtain ⟨x1, b1, _, rfl⟩ := zau h1 rulD _ zos
 exact ⟨⟨x0, x1⟩, b1, rfl⟩
theorem zor (l : List Dat) (f : Fits rwrS l) : ∃ x : Rwr, True ∧ l = rwrD x := by
 obtain ⟨d0, _, rfl, h0, f⟩ := zh f
 obtain ⟨d1, _, rfl, h1, f⟩ := zh f
 obtain ⟨d2, _, rfl, h2, f⟩ := zh f
 obtain rfl := zZ f
 obtain ⟨x0, rfl⟩ := zby h0
 obtain ⟨x1, rfl⟩ := zaz h1
 obtain ⟨x2, rfl, _⟩ := rd_u h2
 exact ⟨⟨x0, x1, x2⟩, trivial, rfl⟩
theorem zoq (l : List Dat) (f : Fits staS l) : ∃ x : Sta, x.ok ∧ l = staD x := by
 obtain ⟨d0, _, rfl, h0, f⟩ := zh f
 obtain ⟨d1, _, rfl, h1, f⟩ := zh f
 obtain ⟨d2, _, rfl, h2, f⟩ := zh f
 obtain ⟨d3, _, rfl, h3, f⟩ := zh f
 obtain ⟨d4, _, rfl, h4, f⟩ := zh f
 obtain ⟨d5, _, rfl, h5, f⟩ := zh f
 obtain ⟨d6, _, rfl, h6, f⟩ := zh f
 obtain rfl := zZ f
 obtain ⟨x0, rfl⟩ := zaz h0
 obtain ⟨x1, rfl, g1⟩ := rd_u h1
 obtain ⟨x2, rfl, g2⟩ := rd_i h2
 obtain ⟨x3, rfl, g3⟩ := rd_u h3
 obtain ⟨x4, rfl⟩ := zby h4
 obtain ⟨x5, rfl, g5⟩ := rd_i h5
 obtain ⟨x6, rfl, g6⟩ := rd_i h6
 exact ⟨⟨x0, ⟨x1, x2⟩, x3, x4, x5, x6⟩, ⟨zf9 g1 g2, g3, g5, g6⟩, rfl⟩
theorem zmQ (l : List Dat) (f : Fits lentS l) : ∃ x : LEnt, x.ok' ∧ l = lentD x := by
 obtain ⟨d0, _, rfl, h0, f⟩ := zh f
 obtain ⟨d1, _, rfl, h1, f⟩ := zh f
 obtain ⟨d2, _, rfl, h2, f⟩ := zh f
 obtain ⟨d3, _, rfl, h3, f⟩ := zh f
 obtain ⟨d4, _, rfl, h4, f⟩ := zh f
 obtain rfl := zZ f
 obtain ⟨x0, rfl⟩ := zby h0
 obtain ⟨x1, rfl, g1⟩ := rd_u h1
 obtain ⟨x2, rfl, g2⟩ := rd_i h2
 obtain ⟨x3, rfl, _⟩ := rd_i h3
 obtain ⟨x4, rfl, _⟩ := rd_i h4
 exact ⟨⟨x0, ⟨x1, x2⟩, x3, x4⟩, zf9 g1 g2, rfl⟩
theorem zmP (l : List Dat) (f : Fits plstS l) : ∃ x : PLst, x.ok ∧ l = plstD x := by
 obtain ⟨d0, _, rfl, h0, f⟩ := zh f
 obtain ⟨d1, _, rfl, h1, f⟩ := zh f
 obtain rfl := zZ f
 obtain ⟨x0, rfl⟩ := zaz h0
 obtain ⟨x1, b1, g, rfl⟩ := zau h1 lentD _ zmQ
 exact ⟨⟨x0, x1⟩, ⟨g, b1⟩, rfl⟩
theorem zoy (l : List Dat) (f : Fits memS l) : ∃ x : Mem, x.ok' ∧ l = memD x := by
 obtain ⟨d0, _, rfl, h0, f⟩ := zh f
 obtain ⟨d1, _, rfl, h1, f⟩ := zh f
 obtain rfl := zZ f
 obtain ⟨x0, rfl⟩ := zby h0
 obtain ⟨x1, b1, g, rfl⟩ := zkR h1
 exact ⟨⟨x0, x1⟩, ⟨g, b1⟩, rfl⟩
theorem zmR (l : List Dat) (f : Fits clstS l) : ∃ x : CLst, x.ok ∧ l = clstD x := by
 obtain ⟨d0, _, rfl, h0, f⟩ := zh f
 obtain ⟨d1, _, rfl, h1, f⟩ := zh f
 obtain rfl := zZ f
 obtain ⟨x0, rfl⟩ := zaz h0
 obtain ⟨x1, b1, g, rfl⟩ := zau h1 memD _ zoy
 exact ⟨⟨x0, x1⟩, ⟨g, b1⟩, rfl⟩
theorem zoC (l : List Dat) (f : Fits clsS l) : ∃ x : Cls, x.ok ∧ l = clsD x := by
 obtain ⟨d0, _, rfl, h0, f⟩ := zh f
 obtain ⟨d1, _, rfl, h1, f⟩ := zh f
 obtain ⟨d2, _, rfl, h2, f⟩ := zh f
 obtain ⟨d3, _, rfl, h3, f⟩ := zh f
 obtain ⟨d4, _, rfl, h4, f⟩ := zh f
 obtain ⟨d5, _, rfl, h5, f⟩ := zh f
 obtain ⟨d6, _, rfl, h6, f⟩ := zh f
 obtain ⟨d7, _, rfl, h7, f⟩ := zh f
 obtain ⟨d8, _, rfl, h8, f⟩ := zh f
 obtain ⟨d9, _, rfl, h9, f⟩ := zh f
 obtain ⟨d10, _, rfl, h10, f⟩ := zh f
 obtain ⟨d11, _, rfl, h11, f⟩ := zh f
 obtain ⟨d12, _, rfl, h12, f⟩ := zh f
 obtain ⟨d13, _, rfl, h13, f⟩ := zh f
 obtain ⟨d14, _, rfl, h14, f⟩ := zh f
 obtain rfl := zZ f
 obtain ⟨x0, rfl, _⟩ := rd_i h0
 obtain ⟨x1, rfl, _⟩ := rd_c h1
 obtain ⟨x2, rfl⟩ := zaz h2
 obtain ⟨x3, rfl⟩ := zaz h3
 obtain ⟨x4, rfl, _⟩ := rd_i h4
 obtain ⟨x5, rfl, _⟩ := rd_i h5
 obtain ⟨x6, rfl, _⟩ := rd_i h6
 obtain ⟨x7, rfl, _⟩ := rd_i h7
 obtain ⟨x8, rfl, _⟩ := rd_i h8
 obtain ⟨x9, rfl, _⟩ := rd_i h9
 obtain ⟨x10, b10, g10, rfl⟩ := zkR h10
 obtain ⟨x11, rfl⟩ := zby h11
 obtain ⟨x12, b12, g12, rfl⟩ := zkR h12
 obtain ⟨x13, rfl, _⟩ := rd_u h13
 obtain ⟨x14, rfl, _⟩ := rd_i h14
 exact ⟨⟨x0, x1, x2, x3, x4, x5, x6, x7, x8, x9, x10, x11, x12, x13, x14⟩, ⟨g10, g12, b10, b12⟩, rfl⟩
theorem zou (l : List Dat) (f : Fits polS l) : ∃ x : Pol, x.ok ∧ l = polD x := by
 obtain ⟨d0, _, rfl, h0, f⟩ := zh f
 obtain ⟨d1, _, rfl, h1, f⟩ := zh f
 obtain ⟨d2, _, rfl, h2, f⟩ := zh f
 obtain rfl := zZ f
 obtain ⟨x0, rfl⟩ := zaz h0
 obtain ⟨x1, b1, g, rfl⟩ := zau h1 clsD _ zoC
 obtain ⟨x2, rfl⟩ := zby h2
 exact ⟨⟨x0, x1, x2⟩, ⟨g, b1⟩, rfl⟩
theorem zhW (l : List Dat) (f : Fits rdsS l) : ∃ x : Rds, True ∧ l = rdsD x := by
 obtain ⟨d0, _, rfl, h0, f⟩ := zh f
 obtain ⟨d1, _, rfl, h1, f⟩ := zh f
 obtain ⟨d2, _, rfl, h2, f⟩ := zh f
 obtain ⟨d3, _, rfl, h3, f⟩ := zh f
 obtain rfl := zZ f
 obtain ⟨x0, rfl, _⟩ := rd_c h0
 obtain ⟨x1, rfl, _⟩ := rd_i h1
 obtain ⟨x2, rfl, _⟩ := rd_c h2
 obtain ⟨x3, rfl⟩ := zaz h3
 exact ⟨⟨x0, x1, x2, x3⟩, trivial, rfl⟩
theorem zox (l : List Dat) (f : Fits ospS l) : ∃ x : Osp, x.ok ∧ l = ospD x := by
 obtain ⟨d0, _, rfl, h0, f⟩ := zh f
 obtain ⟨d1, _, rfl, h1, f⟩ := zh f
 obtain ⟨d2, _, rfl, h2, f⟩ := zh f
 obtain rfl := zZ f
 obtain ⟨x0, rfl⟩ := zaz h0
 obtain ⟨x1, rfl, _⟩ := rd_u h1
 obtain ⟨x2, b2, _, rfl⟩ := zau h2 rdsD _ zhW
 exact ⟨⟨x0, x1, x2⟩, b2, rfl⟩
theorem zow (l : List Dat) (f : Fits perS l) : ∃ x : Per, True ∧ l = perD x := by
 obtain ⟨d0, _, rfl, h0, f⟩ := zh f
 obtain ⟨d1, _, rfl, h1, f⟩ := zh f
 obtain ⟨d2, _, rfl, h2, f⟩ := zh f
 obtain ⟨d3, _, rfl, h3, f⟩ := zh f
 obtain ⟨d4, _, rfl, h4, f⟩ := zh f
 obtain ⟨d5, _, rfl, h5, f⟩ := zh f
 obtain rfl := zZ f
 obtain ⟨x0, rfl, _⟩ := rd_u h0
 obtain ⟨x1, rfl, _⟩ := rd_u h1
 obtain ⟨x2, rfl⟩ := zaz h2
 obtain ⟨x3, rfl⟩ := zaz h3
 obtain ⟨x4, rfl⟩ := zby h4
 obtain ⟨x5, rfl⟩ := zby h5
 exact ⟨⟨x0, x1, x2, x3, x4, x5⟩, trivial, rfl⟩
theorem zov (l : List Dat) (f : Fits pfxS l) : ∃ x : Pfx, x.ok ∧ l = pfxD x := by
 obtain ⟨d0, _, rfl, h0, f⟩ := zh f
 obtain ⟨d1, _, rfl, h1, f⟩ := zh f
 obtain rfl := zZ f
 obtain ⟨x0, rfl, g0⟩ := rd_u h0
 obtain ⟨x1, rfl, g1⟩ := rd_i h1
 exact ⟨⟨x0, x1⟩, zf9 g0 g1, rfl⟩
theorem zoD (l : List Dat) (f : Fits bgiS l) : ∃ x : Bgi, x.ok ∧ l = bgiD x := by
 obtain ⟨d0, _, rfl, h0, f⟩ := zh f
 obtain ⟨d1, _, rfl, h1, f⟩ := zh f
 obtain ⟨d2, _, rfl, h2, f⟩ := zh f
 obtain ⟨d3, _, rfl, h3, f⟩ := zh f
 obtain ⟨d4, _, rfl, h4, f⟩ := zh f
 obtain ⟨d5, _, rfl, h5, f⟩ := zh f
 obtain rfl := zZ f
 obtain ⟨x0, rfl⟩ := zaz h0
 obtain ⟨x1, rfl, _⟩ := rd_u h1
 obtain ⟨x2, rfl, _⟩ := rd_u h2
 obtain ⟨x3, b3, _, rfl⟩ := zau h3 pfxD _ zov
 obtain ⟨x4, b4, _, rfl⟩ := zau h4 perD _ zow
 obtain ⟨x5, b5, _, rfl⟩ := zau h5 rdsD _ zhW
 exact ⟨⟨x0, x1, x2, x3, x4, x5⟩, ⟨b3, b4, b5⟩, rfl⟩
theorem zmO (l : List Dat) (f : Fits [.st] l) : ∃ x : List UInt8, True ∧ l = s1D x := by
 obtain ⟨d0, _, rfl, h0, f⟩ := zh f
 obtain rfl := zZ f
 obtain ⟨x0, rfl⟩ := zaz h0
 exact ⟨x0, trivial, rfl⟩
theorem zoB (l : List Dat) (f : Fits dvcS l) : ∃ x : Dvc, x.ok ∧ l = dvcD x := by
 obtain ⟨d0, _, rfl, h0, f⟩ := zh f
 obtain ⟨d1, _, rfl, h1, f⟩ := zh f
 obtain ⟨d2, _, rfl, h2, f⟩ := zh f
 obtain ⟨d3, _, rfl, h3, f⟩ := zh f
 obtain ⟨d4, _, rfl, h4, f⟩ := zh f
 obtain ⟨d5, _, rfl, h5, f⟩ := zh f
 obtain ⟨d6, _, rfl, h6, f⟩ := zh f
 obtain ⟨d7, _, rfl, h7, f⟩ := zh f
 obtain ⟨d8, _, rfl, h8, f⟩ := zh f
 obtain ⟨d9, _, rfl, h9, f⟩ := zh f
 obtain ⟨d10, _, rfl, h10, f⟩ := zh f
 obtain ⟨d11, _, rfl, h11, f⟩ := zh f
 obtain rfl := zZ f
 obtain ⟨x0, rfl⟩ := zaz h0
 obtain ⟨x1, rfl, g1⟩ := rd_c h1
 obtain ⟨x2, b2, _, rfl⟩ := zau h2 s1D _ zmO
 obtain ⟨x3, b3, g3, rfl⟩ := zau h3 ifxD _ zoz
 obtain ⟨x4, b4, g4, rfl⟩ := zau h4 filD _ zoA
 obtain ⟨x5, b5, _, rfl⟩ := zau h5 rwrD _ zor
 obtain ⟨x6, b6, g6, rfl⟩ := zau h6 staD _ zoq
 obtain ⟨x7, b7, g7, rfl⟩ := zau h7 plstD _ zmP
 obtain ⟨x8, b8, g8, rfl⟩ := zau h8 clstD _ zmR
 obtain ⟨x9, b9, g9, rfl⟩ := zau h9 polD _ zou
 obtain ⟨x10, b10, g10, rfl⟩ := zau h10 ospD _ zox
 obtain ⟨x11, b11, g11, rfl⟩ := zau h11 bgiD _ zoD
 exact ⟨⟨x0, x1, x2, x3, x4, x5, x6, x7, x8, x9, x10, x11⟩, ⟨g1, g3, g6, g4, g7, g8, g9, g10, g11, b2, b3, b4, b5, b6, b7, b8, b9, b10, b11⟩, rfl⟩
end Ab
end Go.Proofs.YtmmdkjanmegjdaaGreat

namespace Go.Proofs.YtmmdkjanmegjdaaGreat
open Go.RowKit Go.Lib
def idxOf {α : Type} (p : α → Bool) : List α → Int
 | [] => -1
 | x :: r => if p x then 0 else if idxOf p r = -1 then -1 else idxOf p r + 1
theorem zg7 {α : Type} (p : α → Bool) : ∀ l : List α, -1 ≤ idxOf p l ∧ idxOf p l < l.length
 | [] => by simp [idxOf]
 | x :: r => by
  have := zg7 p r
  rw [List.length_cons]
  unfold idxOf
  split
  ·omega
  ·split <;> omega
theorem zav {α : Type} (p : α → Bool) : ∀ l : List α, (∀ x ∈ l, p x = false) → idxOf p l = -1
 | [], _ => rfl
 | x :: r, h => by
  unfold idxOf
  rw [if_neg (by rw [h x (by simp)]; simp), if_pos (zav p r fun y hy => h y (by simp [hy]))]
theorem za4 {α : Type} (p : α → Bool) : ∀ (l : List α) (k : Nat) (h : k < l.length), (∀ j (hj : j < k), p (l[j]'(by omega)) = false) → p l[k] = true → idxOf p l = (k : Int)
 | [], k, h, _, _ => by simp at h
 | x :: r, 0, h, h1, h2 => by
  unfold idxOf
  rw [if_pos (by simpa using h2)]; rfl
 | x :: r, k + 1, h, h1, h2 => by
  have h0 := h1 0 (by omega)
  have ih := za4 p r k (by simpa using h) (fun j hj => by have := h1 (j + 1) (by omega); simpa using this) (by simpa using h2)
  unfold idxOf
  rw [if_neg (by simpa using h0), ih, if_neg (by omega)]
  omega
theorem za8 {α : Type} (p : α → Bool) (l : List α) : (idxOf p l = -1 ∧ l.find? p = none) ∨ ∃ (k : Nat) (h : k < l.length), idxOf p l = (k : Int) ∧ l.find? p = some l[k] := by
 induction l with
 | nil => exact .inl ⟨rfl, rfl⟩
 | cons x r ih =>
  by_cases hx : p x = true
  ·exact .inr ⟨0, by simp, by unfold idxOf; rw [if_pos hx]; rfl, by rw [List.find?_cons, hx]; rfl⟩
  ·have hx : p x = false := by simpa using hx
   rcases ih with ⟨h1, h2⟩ | ⟨k, h, h1, h2⟩
   ·exact .inl ⟨by unfold idxOf; rw [if_neg (by simp [hx]), if_pos h1], by rw [List.find?_cons, hx]; exact h2⟩
   ·refine .inr ⟨k + 1, by rw [List.length_cons]; omega, ?_, by rw [List.find?_cons, hx]; exact h2⟩
    unfold idxOf
    rw [if_neg (by simp [hx]), h1, if_neg (by omega)]; omega
end Go.Proofs.YtmmdkjanmegjdaaGreat

namespace Go.Proofs.YtmmdkjanmegjdaaGreat.Ab
open Go.RowKit
class NPc (Q : Post) : Prop where
 np : NoPanic Q
instance {K : Env → Heap → Prop} {Q : Post} [I : NPc Q] : NPc (AThen K Q) := ⟨zaW I.np⟩
instance {j : Nat} {Q : Post} [I : NPc Q] : NPc (AIn j Q) := ⟨zbT I.np⟩
instance {nt : Nat} {tab : TTab} {rs : List ResultVar} {R : AVal → Heap → Prop} : NPc (APost nt tab rs R) := ⟨zaX⟩
instance : NPc RF := ⟨fun _ _ _ h => h⟩
section
variable {nt : Nat} {Q : Post} {e : Env} {h : Heap} {ops : Array Oper} {o : Oper} {T : List Nat} {fuel : Nat} {listed : Array Bool}
theorem q_1 {x : Operand} {c : AVal} (ho : o.op = .move x := by exact rfl) (hx : aev e x = some c := by exact rfl) : AYield Tryz.prog T e h o c := zo9 ho hx
theorem q_2 {x : Operand} {c : AVal} (ho : o.op = .assign x := by exact rfl) (hx : aev e x = some c := by exact rfl) : AYield Tryz.prog T e h o c := zl5 ho hx
theorem q_3 {t el k j : Nat} {x y : Operand} {cs : List Dat} {n : Nat} {q : IntKind} {i : Int} (ho : o.op = .indexAddr t x y := by exact rfl) (hel : telem tab t = some el := by exact rfl) (hsz : tsize tab el = some k := by exact rfl) (hx : aev e x = some (.d (.sl cs n)) := by exact rfl) (hy : aev e y = some (.d (.sc (.int q i))) := by exact rfl) (hj : i = (j : Int) := by exact rfl) (hlt : j < n := by omega) : AYield Tryz.prog T e h o (.iptr cs (j * k)) := zbF za ho hel hsz hx hy hj hlt
theorem q_4 {t f off o1 : Nat} {x : Operand} {cs : List Dat} (ho : o.op = .fieldAddr t x f := by exact rfl) (hf : tfield tab t f = some off := by exact rfl) (hx : aev e x = some (.iptr cs o1) := by exact rfl) : AYield Tryz.prog T e h o (.iptr cs (o1 + off)) := zmf za ho hf hx
theorem q_5 {t o1 s : Nat} {x : Operand} {cs xs : List Dat} {c : AVal} {ag : Bool} (ho : o.op = .load t x := by exact rfl) (hs : tsize tab t = some s := by exact rfl) (ha : tagg tab t = some ag := by exact rfl) (hx : aev e x = some (.iptr cs o1) := by exact rfl) (hw : win cs o1 s = xs := by exact rfl) (hl : Nat.beq xs.length s = true := by exact rfl) (hc : lval ag (xs.map AVal.d) = some c := by exact rfl) : AYield Tryz.prog T e h o c := zi0 za ho hs ha hx hw hl hc
theorem q_6 {t el : Nat} {x : Operand} {cs : List Dat} {n : Nat} (ho : o.op = .call { callee := .builtin .len, args := #[x], argTypes := #[t] } := by exact rfl) (hel : telem tab t = some el := by exact rfl) (hx : aev e x = some (.d (.sl cs n)) := by exact rfl) : AYield Tryz.prog T e h o (.d (.sc (.int .i64 (n : Int)))) := zpH za ho hel hx
theorem q_7 {t id o1 s : Nat} {x : Operand} {cs xs : List AVal} {c : AVal} {ag : Bool} (ho : o.op = .load t x := by exact rfl) (hs : tsize tab t = some s := by exact rfl) (ha : tagg tab t = some ag := by exact rfl) (hx : aev e x = some (.ptr id o1) := by exact rfl) (hb : look h id = some (.var cs) := by exact rfl) (hT : T.contains id = false := by exact rfl) (hw : win cs o1 s = xs := by exact rfl) (hl : Nat.beq xs.length s = true := by exact rfl) (hc : lval ag xs = some c := by exact rfl) : AYield Tryz.prog T e h o c := zde za ho hs ha hx hb hT hw hl hc
theorem q_8 {t f off o1 id : Nat} {x : Operand} (ho : o.op = .fieldAddr t x f := by exact rfl) (hf : tfield tab t f = some off := by exact rfl) (hx : aev e x = some (.ptr id o1) := by exact rfl) (hb : (look h id).isSome = true := by exact rfl) : AYield Tryz.prog T e h o (.ptr id (o1 + off)) := znK za ho hf hx hb
theorem q_9 {t u : TypeId} {x y : Operand} {k : IntKind} {a b r : Int} (ho : o.op = .binOp .add t x y u := by exact rfl) (hx : aev e x = some (.d (.sc (.int k a))) := by exact rfl) (hy : aev e y = some (.d (.sc (.int k b))) := by exact rfl) (hr : k.wrap (a + b) = r := by first | exact zfk (by omega) | exact zfl (by omega) (by omega) | exact zaL ⟨by omega, by omega⟩ | rfl) : AYield Tryz.prog T e h o (.d (.sc (.int k r))) := zob ho hx hy hr
theorem q_10 {t u : TypeId} {x y : Operand} {k : IntKind} {a b r : Int} (ho : o.op = .binOp .sub t x y u := by exact rfl) (hx : aev e x = some (.d (.sc (.int k a))) := by exact rfl) (hy : aev e y = some (.d (.sc (.int k b))) := by exact rfl) (hr : k.wrap (a - b) = r := by first | exact zfk (by omega) | exact zfl (by omega) (by omega) | exact zaL ⟨by omega, by omega⟩ | rfl) : AYield Tryz.prog T e h o (.d (.sc (.int k r))) := zl2 ho hx hy hr
theorem q_11 {op : BinOp} {t u : TypeId} {x y : Operand} {k : IntKind} {a b : Int} {c : Bool} (ho : o.op = .binOp op t x y u := by exact rfl) (hx : aev e x = some (.d (.sc (.int k a))) := by exact rfl) (hy : aev e y = some (.d (.sc (.int k b))) := by exact rfl) (hr : ibin op k a b = some (.bool c) := by exact rfl) (hc : c = true := by first | (simp only [decide_eq_true_eq, beq_iff_eq, bne_iff_ne, ne_eq]; done) | (simp only [decide_eq_true_eq, beq_iff_eq, bne_iff_ne, ne_eq]; omega)) : AYield Tryz.prog T e h o (.d (.sc (.bool true))) := ziB ho hx hy hr hc
theorem q_12 {op : BinOp} {t u : TypeId} {x y : Operand} {k : IntKind} {a b : Int} {c : Bool} (ho : o.op = .binOp op t x y u := by exact rfl) (hx : aev e x = some (.d (.sc (.int k a))) := by exact rfl) (hy : aev e y = some (.d (.sc (.int k b))) := by exact rfl) (hr : ibin op k a b = some (.bool c) := by exact rfl) (hc : c = false := by first | (simp only [decide_eq_false_iff_not, beq_eq_false_iff_ne, bne_eq_false_iff_eq, ne_eq]; done) | (simp only [decide_eq_false_iff_not, beq_eq_false_iff_ne, bne_eq_false_iff_eq, ne_eq]; omega)) : AYield Tryz.prog T e h o (.d (.sc (.bool false))) := ziC ho hx hy hr hc
theorem q_13 {op : BinOp} {t u : TypeId} {x y : Operand} {k : IntKind} {a b : Int} {r : Value} (ho : o.op = .binOp op t x y u := by exact rfl) (hx : aev e x = some (.d (.sc (.int k a))) := by exact rfl) (hy : aev e y = some (.d (.sc (.int k b))) := by exact rfl) (hr : ibin op k a b = some r := by exact rfl) : AYield Tryz.prog T e h o (.d (.sc r)) := zcJ ho hx hy hr
theorem q_14 {x : Operand} {i : Nat} {cs : List AVal} {c : AVal} (ho : o.op = .extract x i := by exact rfl) (hx : aev e x = some (.tup cs) := by exact rfl) (hi : cs[i]? = some c := by exact rfl) : AYield Tryz.prog T e h o c := zkb ho hx hi
theorem q_15 {t el el' id k n : Nat} {x : Operand} {cs : List Dat} (ho : o.op = .call { callee := .builtin .len, args := #[x], argTypes := #[t] } := by exact rfl) (hel : telem tab t = some el := by exact rfl) (hx : aev e x = some (.row id) := by exact rfl) (hb : look h id = some (.row el' k n cs) := by exact rfl) : AYield Tryz.prog T e h o (.d (.sc (.int .i64 (n : Int)))) := zpf za ho hel hx hb
theorem q_16 {t el : Nat} {x : Operand} (ho : o.op = .call { callee := .builtin .len, args := #[x], argTypes := #[t] } := by exact rfl) (hel : telem tab t = some el := by exact rfl) (hx : aev e x = some (.d (.sc (.slice none 0 0))) := by exact rfl) : AYield Tryz.prog T e h o (.d (.sc (.int .i64 0))) := zpg za ho hel hx
theorem q_17 {t el el' k kk j id : Nat} {x y : Operand} {cs : List Dat} {n : Nat} {q : IntKind} {i : Int} (ho : o.op = .indexAddr t x y := by exact rfl) (hel : telem tab t = some el := by exact rfl) (hsz : tsize tab el = some k := by exact rfl) (hx : aev e x = some (.row id) := by exact rfl) (hb : look h id = some (.row el' kk n cs) := by exact rfl) (hy : aev e y = some (.d (.sc (.int q i))) := by exact rfl) (hj : i = (j : Int) := by exact rfl) (hlt : j < n := by omega) : AYield Tryz.prog T e h o (.eptr id (j * k)) := zi za ho hel hsz hx hb hy hj hlt
theorem q_18 {t f off o1 id : Nat} {x : Operand} (ho : o.op = .fieldAddr t x f := by exact rfl) (hf : tfield tab t f = some off := by exact rfl) (hx : aev e x = some (.eptr id o1) := by exact rfl) (hb : (look h id).isSome = true := by exact rfl) : AYield Tryz.prog T e h o (.eptr id (o1 + off)) := zmg za ho hf hx hb
theorem q_19 {t id o1 s el k n : Nat} {x : Operand} {cs xs : List Dat} {c : AVal} {ag : Bool} (ho : o.op = .load t x := by exact rfl) (hs : tsize tab t = some s := by exact rfl) (ha : tagg tab t = some ag := by exact rfl) (hx : aev e x = some (.eptr id o1) := by exact rfl) (hb : look h id = some (.row el k n cs) := by exact rfl) (hT : T.contains id = false := by exact rfl) (hw : win cs o1 s = xs := by exact rfl) (hl : Nat.beq xs.length s = true := by exact rfl) (hc : lval ag (xs.map AVal.d) = some c := by exact rfl) : AYield Tryz.prog T e h o c := zg za ho hs ha hx hb hT hw hl hc
theorem q_20 {t : TypeId} {x : Operand} {b : Bool} (ho : o.op = .unOp .not t x := by exact rfl) (hx : aev e x = some (.d (.sc (.bool b))) := by exact rfl) : AYield Tryz.prog T e h o (.d (.sc (.bool !b))) := zpF ho hx
theorem q_21 {x y z : Operand} {b : Bool} {c : AVal} (ho : o.op = .pick x y z := by exact rfl) (hx : aev e x = some (.d (.sc (.bool b))) := by exact rfl) (hb : b = true := by first | rfl | assumption) (hy : aev e y = some c := by exact rfl) : AYield Tryz.prog T e h o c := zhu ho hx hb hy
theorem q_22 {x y z : Operand} {b : Bool} {c : AVal} (ho : o.op = .pick x y z := by exact rfl) (hx : aev e x = some (.d (.sc (.bool b))) := by exact rfl) (hb : b = false := by first | rfl | assumption) (hz : aev e z = some c := by exact rfl) : AYield Tryz.prog T e h o c := zhv ho hx hb hz
theorem q_23 {x y z : Operand} {b p q : Bool} (ho : o.op = .pick x y z := by exact rfl) (hx : aev e x = some (.d (.sc (.bool b))) := by exact rfl) (hy : aev e y = some (.d (.sc (.bool p))) := by exact rfl) (hz : aev e z = some (.d (.sc (.bool q))) := by exact rfl) : AYield Tryz.prog T e h o (.d (.sc (.bool (cond b p q)))) := zl3 ho hx hy hz
theorem q_24 {t : TypeId} {ps : Array (Nat × Operand)} {al : List (Nat × AVal)} {z xs : List AVal} {fs : List (Nat × TypeId)} (ho : o.op = .build t ps := by exact rfl) (hz : tzero tab t = some z := by exact rfl) (hfs : (match tlook tab t with | some ⟨_, _, _, _, .st fs⟩ => some fs | _ => none) = some fs := by exact rfl) (hal' : fs.all (fun f => (tlook tab f.2).isSome) = true := by exact rfl) (hal : aparts e ps.toList = some al := by exact rfl) (hf : afill (stPlace tab fs) z al = some xs := by exact rfl) : AYield Tryz.prog T e h o (.agg xs) := zi1 za ho hz hfs hal' hal hf
theorem q_N (i : Nat) {c : AVal} {d : Nat} [I : NPc Q] (hi : ops[i]? = some o) (hs : Region.noSelect ops = true) (hf : Region.free .any ops listed i = true) (hr : (Region.ready .any ops listed).contains i = true)
  (hw : awant ops e o = some true) (hdst : o.dst = some d) (hd : Nat.blt d nt = true) (hy : AYield Tryz.prog T e h o c) (H : AAny Tryz.prog nt ops Q T fuel (listed.setIfInBounds i true) ((d, c) :: e) h) : AAny Tryz.prog nt ops Q T (fuel + 1) listed e h := zbB hi hs hf hr I.np hw hdst hd hy H
theorem q_M (i : Nat) {c : AVal} {d : Nat} [I : NPc Q] (hi : ops[i]? = some o) (hk : memOp o.op = false) (hs : Region.noSelect ops = true) (hf : Region.free .any ops listed i = true) (hr : (Region.ready .any ops listed).contains i = true)
  (hw : awant ops e o = some true) (hdst : o.dst = some d) (hd : Nat.blt d nt = true) (hy : AYield Tryz.prog T e h o c) (H : AAny Tryz.prog nt ops Q T fuel (listed.setIfInBounds i true) ((d, c) :: e) h) : AAny Tryz.prog nt ops Q T (fuel + 1) listed e h := zbB hi hs hf hr I.np hw hdst hd hy H
theorem q_L (i : Nat) {c : AVal} {d : Nat} [I : NPc Q] (hi : ops[i]? = some o) (hk : memOp o.op = true) (hs : Region.noSelect ops = true) (hf : Region.free .any ops listed i = true) (hr : (Region.ready .any ops listed).contains i = true)
  (hw : awant ops e o = some true) (hdst : o.dst = some d) (hd : Nat.blt d nt = true) (hy : AYield Tryz.prog T e h o c) (H : AAny Tryz.prog nt ops Q T fuel (listed.setIfInBounds i true) ((d, c) :: e) h) : AAny Tryz.prog nt ops Q T (fuel + 1) listed e h := zbB hi hs hf hr I.np hw hdst hd hy H
theorem q_25 {x y z : Operand} {b : Bool} {c : AVal} (ho : o.op = .pick x y z := by exact rfl) (hx : aev e x = some (.d (.sc (.bool b))) := by exact rfl) (hb : b = true := by exact rfl) (hy : aev e y = some c := by exact rfl) : AYield Tryz.prog T e h o c := zhu ho hx hb hy
theorem q_26 {x y z : Operand} {b : Bool} {c : AVal} (ho : o.op = .pick x y z := by exact rfl) (hx : aev e x = some (.d (.sc (.bool b))) := by exact rfl) (hb : b = false := by exact rfl) (hz : aev e z = some c := by exact rfl) : AYield Tryz.prog T e h o c := zhv ho hx hb hz
theorem q_A {c : AVal} (hy : AYield Tryz.prog T e h o c := by first | exact q_1 | exact q_2 | exact q_3 | exact q_4) : AYield Tryz.prog T e h o c := hy
theorem q_B {c : AVal} (hy : AYield Tryz.prog T e h o c := by first | exact q_6 | exact q_7 | exact q_8 | exact q_9 | exact q_10 | exact q_11 | exact q_12 | exact q_13 | exact q_14 | exact q_15 | exact q_16 | exact q_17 | exact q_18 | exact q_19 | exact q_20 | exact q_21 | exact q_22 | exact q_23 | exact q_24) : AYield Tryz.prog T e h o c := hy
variable {rest : List Oper} {K : Env → Heap → Prop}
theorem q_a {t : TypeId} {d : Nat} {z : List AVal} (HK : AOps Tryz.prog nt ops Q rest ((d, .ptr d 0) :: killE d e) ((d, .var z) :: killH d h)) (hw : awant ops e o = some true := by exact rfl) (hdst : o.dst = some d := by exact rfl) (hd : Nat.blt d nt = true := by exact rfl) (hid : Nat.blt d 1000 = true := by exact rfl) (ho : o.op = .alloc t := by exact rfl) (hz : tzero tab t = some z := by exact rfl) : AOps Tryz.prog nt ops Q (o :: rest) e h := znR za hw hdst hd hid ho hz HK
theorem q_b {t : TypeId} {x y : Operand} {id off s : Nat} {cs xs : List AVal} {c : AVal} (HK : AOps Tryz.prog nt ops Q rest e ((id, .var (setW cs off xs)) :: h)) (hw : awant ops e o = some true := by exact rfl) (hdst : o.dst = none := by exact rfl) (ho : o.op = .store t x y := by exact rfl) (hx : aev e x = some (.ptr id off) := by exact rfl) (hb : look h id = some (.var cs) := by exact rfl)
  (hy : aev e y = some c := by exact rfl) (hcs : cellsA c = some xs := by exact rfl) (hp : xs.all plainC = true := by exact rfl) (hs : tsize tab t = some s := by exact rfl) (hl : Nat.beq xs.length s = true := by exact rfl) (hle : Nat.ble (off + s) cs.length = true := by exact rfl) : AOps Tryz.prog nt ops Q (o :: rest) e h := zi2 za hw hdst ho hx hb hy hcs hp hs hl hle HK
theorem q_c {t el k len d : Nat} {ps : Array (Nat × Operand)} {al : List (Nat × AVal)} {xs : List AVal} {ds : List Dat} (HK : AOps Tryz.prog nt ops Q rest ((d, .row d) :: killE d e) ((d, .row el k len ds) :: killH d h)) (hw : awant ops e o = some true := by exact rfl) (hdst : o.dst = some d := by exact rfl) (hd : Nat.blt d nt = true := by exact rfl) (hid : Nat.blt d 1000 = true := by exact rfl) (ho : o.op = .buildSlice t len ps := by exact rfl)
  (hel : telem tab t = some el := by exact rfl) (hsz : tsize tab el = some k := by exact rfl) (hok : (match tlook tab el with | some te => te.zero.all (·.oneCell') && Nat.blt 0 te.size && Nat.beq te.zero.length te.size && Nat.blt (len * te.size) 16777216 && Nat.blt 0 len | none => false) = true := by exact rfl)
  (hal : aparts e ps.toList = some al := by exact rfl) (hf : (match tlook tab el with
   | some te => afill (fun i => some (i * te.size, te.size)) ((List.range (len * te.size)).map fun j => match te.zero[j % te.size]? with | some v => .d (.sc v) | none => .top) al
   | none => none) = some xs := by exact rfl) (hds : datsA xs = some ds := by exact rfl) : AOps Tryz.prog nt ops Q (o :: rest) e h := znO za hw hdst hd hid ho hel hsz hok hal hf hds HK
theorem q_d {t : TypeId} {x : Operand} {d : Nat} {c : AVal} {cs : List AVal} (HK : AOps Tryz.prog nt ops Q rest ((d, .ptr d 0) :: killE d e) ((d, .var (cs.map (killV d))) :: killH d h)) (hw : awant ops e o = some true := by exact rfl) (hdst : o.dst = some d := by exact rfl) (hd : Nat.blt d nt = true := by exact rfl) (hid : Nat.blt d 1000 = true := by exact rfl) (ho : o.op = .box t x := by exact rfl) (hx : aev e x = some c := by exact rfl) (hcs : cellsA c = some cs := by exact rfl) : AOps Tryz.prog nt ops Q (o :: rest) e h := zpK hw hdst hd hid ho hx hcs HK
theorem q_e {d : Nat} (H : AOps Tryz.prog nt ops Q rest ((d, .und) :: e) h) (hw : awant ops e o = some false := by exact rfl) (hdst : o.dst = some d := by exact rfl) (hd : Nat.blt d nt = true := by exact rfl) : AOps Tryz.prog nt ops Q (o :: rest) e h := O_s hw hdst hd H
theorem q_f {d : Nat} (H : AQ Tryz.prog nt ops Q rest ((d, .und) :: e) h) (hw : awant ops e o = some false := by exact rfl) (hdst : o.dst = some d := by exact rfl) (hd : Nat.blt d nt = true := by exact rfl) : AQ Tryz.prog nt ops Q (o :: rest) e h := Q_s hw hdst hd H
theorem q_g (H : AOps Tryz.prog nt ops Q rest e h) (hw : awant ops e o = some false := by exact rfl) (hdst : o.dst = none := by exact rfl) : AOps Tryz.prog nt ops Q (o :: rest) e h := O_sn hw hdst H
theorem q_h {i j : Nat} (H : Q (.exit i) e h) (hb : Nat.beq i j = false := by exact rfl) : AIn j Q (.exit i) e h := ziu hb H
theorem q_j (H : K e h) : AThen K Q .normal e h := H
theorem q_k {j : Nat} (H : Q .normal e h) : AIn j Q .normal e h := H
theorem q_l {j : Nat} (H : Q (.exit j) e h) : AThen K Q (.exit j) e h := H
theorem q_m (H : Q .ret e h) : AThen K Q .ret e h := H
theorem q_n {j : Nat} (H : Q .normal e h) : AIn j Q (.exit j) e h := zkc H
theorem q_o {j : Nat} (H : Q .ret e h) : AIn j Q .ret e h := H
theorem q_Z {G G' : Prop} (h : G') (s : G' → G := by first | exact z7 | exact zS | exact fun x => zab x | exact zcv | exact zmi | exact q_j | exact q_k | exact zmo | exact zmq | exact zoh | exact q_l | exact q_m | exact q_n | exact q_o) : G := s h
theorem q_W {G G' : Prop} (h : G') (s : G' → G := by first | exact fun x => q_h x | exact fun x => q_e x | exact fun x => q_f x | exact fun x => q_g x) : G := s h
theorem q_P (i : Nat) {c : AVal} {d : Nat} [I : NPc Q] (hi : ops[i]? = some o) (hs : (Region.noSelect ops && Region.free .any ops listed i && (Region.ready .any ops listed).contains i) = true)
  (hw : awant ops e o = some true) (hdst : o.dst = some d) (hd : Nat.blt d nt = true) (hy : AYield Tryz.prog T e h o c) (H : AAny Tryz.prog nt ops Q T fuel (listed.setIfInBounds i true) ((d, c) :: e) h) : AAny Tryz.prog nt ops Q T (fuel + 1) listed e h := by
 simp only [Bool.and_eq_true] at hs
 exact zbB hi hs.1.1 hs.1.2 hs.2 I.np hw hdst hd hy H
theorem q_Y {G G' : Prop} (h : G') (s : G' → G := by first | exact z7 | exact zS | exact fun x => zab x | exact zcv | exact zmi | exact q_j | exact q_k | exact zmo | exact zmq | exact zoh | exact q_l | exact q_m | exact q_n | exact q_o | exact fun x => zgr rfl mixed (by kernel_rfl) x) : G := s h
theorem q_U {G G' : Prop} (h : G') (s : G' → G := by first | exact fun x => q_d x | exact fun x => q_a x | exact fun x => q_b x | exact fun x => q_c x | exact fun x => A_ct rfl x | exact fun x => A_cf rfl x | exact fun x => q_h x | exact fun x => q_e x | exact fun x => q_f x | exact fun x => q_g x) : G := s h
theorem q_T {G G' : Prop} (h : G') (s : G' → G := by first | exact fun x => A_ct rfl x | exact fun x => A_cf rfl x | exact fun x => q_h x | exact fun x => q_e x | exact fun x => q_f x | exact fun x => q_g x) : G := s h
theorem q_H {c : AVal} (hy : AYield Tryz.prog T e h o c := by first | exact q_1 | exact q_2 | exact q_3 | exact q_4 | exact q_5 | exact q_6 | exact q_7 | exact q_8 | exact q_9 | exact q_10 | exact q_11 | exact q_12 | exact q_13 | exact q_14 | exact q_15 | exact q_16 | exact q_17 | exact q_18 | exact q_19 | exact q_20 | exact q_21 | exact q_22 | exact q_23 | exact q_24) : AYield Tryz.prog T e h o c := hy
theorem q_S {e1 : Env} {h1 : Heap} (he : Sub e1 e := by repeat (first | exact trivial | refine ⟨rfl, ?_⟩)) (hh : Sub h1 h := by repeat (first | exact trivial | refine ⟨rfl, ?_⟩)) : AWk nt e h e1 h1 := zm he hh
theorem q_O {f : FuncId} {args : Array Operand} {ats : Array TypeId} {cs : List AVal} {c : AVal} {d : Nat} (H : ACall Tryz.prog f cs [] (fun c' h' => c' = c ∧ h' = [])) (HK : AOps Tryz.prog nt ops Q rest ((d, c) :: e) h) (hw : awant ops e o = some true := by exact rfl) (hdst : o.dst = some d := by exact rfl) (hd : Nat.blt d nt = true := by exact rfl) (ho : o.op = .call { callee := .value (.func f), args := args, argTypes := ats } := by exact rfl) (hx : aevs e args.toList = some cs := by exact rfl) (hc : ∀ j, c.has j = false := by exact fun _ => rfl) : AOps Tryz.prog nt ops Q (o :: rest) e h := O_c hw hdst hd ho hx H hc HK
theorem q_Q {f : FuncId} {args : Array Operand} {ats : Array TypeId} {cs : List AVal} {c : AVal} {v : Value} {d : Nat} (H : ACall Tryz.prog f cs [] (fun c' h' => c' = c ∧ h' = [])) (HK : AQ Tryz.prog nt ops Q rest ((d, c) :: e) h) (hw : awant ops e o = some true := by exact rfl) (hdst : o.dst = some d := by exact rfl) (hd : Nat.blt d nt = true := by exact rfl) (ho : o.op = .call { callee := .value (.func f), args := args, argTypes := ats } := by exact rfl) (hx : aevs e args.toList = some cs := by exact rfl) (hc : valA c = some v := by exact rfl) (hrel : ∀ w F ι, VRel w F ι c v := by exact fun _ _ _ => zaJ _ _ _ _ _ rfl rfl) : AQ Tryz.prog nt ops Q (o :: rest) e h := Q_c hw hdst hd ho hx H hc hrel HK
theorem q_I {t el k : Nat} (j : Nat) {x y : Operand} {cs : List Dat} {n : Nat} {q : IntKind} {i : Int} (hlt : j < n) (ho : o.op = .indexAddr t x y := by exact rfl) (hel : telem tab t = some el := by exact rfl) (hsz : tsize tab el = some k := by exact rfl) (hx : aev e x = some (.d (.sl cs n)) := by exact rfl) (hy : aev e y = some (.d (.sc (.int q i))) := by exact rfl) (hj : i = (j : Int) := by exact rfl) : AYield Tryz.prog T e h o (.iptr cs (j * k)) := zbF za ho hel hsz hx hy hj hlt
theorem q_R {t o1 s : Nat} {x : Operand} {cs xs : List Dat} {c : AVal} {ag : Bool} (ho : o.op = .load t x := by exact rfl) (hs : tsize tab t = some s := by exact rfl) (ha : tagg tab t = some ag := by exact rfl) (hx : aev e x = some (.iptr cs o1) := by exact rfl) (w : win cs o1 s = xs) (hl : Nat.beq xs.length s = true := by exact rfl) (hc : lval ag (xs.map AVal.d) = some c := by exact rfl) : AYield Tryz.prog T e h o c := zi0 za ho hs ha hx w hl hc
theorem q_K {d : Nat} {c : AVal} (hh : (awant ops e o, o.dst, Nat.blt d nt) = (some true, some d, true)) (hy : AYield Tryz.prog [] e h o c) (HK : AOps Tryz.prog nt ops Q rest ((d, c) :: e) h) : AOps Tryz.prog nt ops Q (o :: rest) e h := by
 injection hh with h1 h2
 injection h2 with h2 h3
 exact O_y h1 h2 h3 hy HK
theorem q_X {d : Nat} {c : AVal} (hh : (awant ops e o, o.dst, Nat.blt d nt) = (some true, some d, true)) (hy : AYield Tryz.prog [] e h o c) (HK : AQ Tryz.prog nt ops Q rest ((d, c) :: e) h) : AQ Tryz.prog nt ops Q (o :: rest) e h := by
 injection hh with h1 h2
 injection h2 with h2 h3
 exact Q_y h1 h2 h3 hy HK
end
end Go.Proofs.YtmmdkjanmegjdaaGreat.Ab

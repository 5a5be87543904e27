/-
  Texts of a proof, one behind the other (part 6).
-/
import Derived.Test.YtblgdfcijkaimaaBg2
import Derived.Test.YtblgdfcijkaimaaBg4
set_option linter.unusedVariables false
set_option linter.unusedSimpArgs false
namespace Go.Proofs.Ytblgdfcijkaimaa
set_option linter.unusedVariables false
open Go.RowKit Go.Lib
structure Ifx where
  nm : List UInt8
  vrf : List UInt8
  a : Int
  b : Int
  down : Bool
  fin : List UInt8
  fout : List UInt8
  side : Int
  area : Int
  cost : Int
  pas : Bool
structure Rul where
  ok : Bool
  pr : Int
  src : Pfx
  dst : Pfx
  s1 : Int
  s2 : Int
  d1 : Int
  d2 : Int
structure Fil where
  nm : List UInt8
  rs : List Rul
structure Rwr where
  dst : Bool
  fil : List UInt8
  to : Int
structure Sta where
  vrf : List UInt8
  p : Pfx
  via : Int
  x : Bool
  dist : Int
  tag : Int
structure LEnt where
  ok : Bool
  p : Pfx
  ge : Int
  le : Int
structure PLst where
  nm : List UInt8
  es : List LEnt
structure Mem where
  ok : Bool
  all : List Int
structure CLst where
  nm : List UInt8
  ms : List Mem
structure Cls where
  seq : Int
  act : Int
  pfx : List UInt8
  com : List UInt8
  tag : Int
  met : Int
  thr : Int
  sMet : Int
  sPref : Int
  sTag : Int
  sCom : List Int
  add : Bool
  pre : List Int
  sHop : Int
  jump : Int
structure Pol where
  nm : List UInt8
  cs : List Cls
  dft : Bool
structure Sbj where
  p : Pfx
  met : Int
  tag : Int
  pref : Int
  path : List Int
  com : List Int
  hop : Int
structure Rds where
  from_ : Int
  met : Int
  ty : Int
  pol : List UInt8
structure Osp where
  vrf : List UInt8
  id_ : Int
  fr : List Rds
structure Per where
  a : Int
  as_ : Int
  pin : List UInt8
  pout : List UInt8
  cl : Bool
  slf : Bool
structure Bgi where
  vrf : List UInt8
  as_ : Int
  id_ : Int
  nets : List Pfx
  ps : List Per
  fr : List Rds
structure Dvc where
  nm : List UInt8
  kd : Int
  vrfs : List (List UInt8)
  ifs : List Ifx
  fils : List Fil
  rws : List Rwr
  sts : List Sta
  pls : List PLst
  cls : List CLst
  pols : List Pol
  osp : List Osp
  bgp : List Bgi
structure Adv where
  p : Pfx
  hop : Int
  pref : Int
  met : Int
  path : List Int
  com : List Int
  peer : Int
  pid : Int
  ext : Bool
  orig : Int
  clus : List Int
  ses : Int
namespace Ab
set_option maxRecDepth 100000
abbrev iD (x : Int) : Dat := .sc (.int .i64 x)
abbrev uD (x : Int) : Dat := .sc (.int .u32 x)
abbrev cD (x : Int) : Dat := .sc (.int .u8 x)
abbrev sD (x : List UInt8) : Dat := .sc (.string ⟨⟨x⟩⟩)
abbrev bD (x : Bool) : Dat := .sc (.bool x)
def u1D (x : Int) : List Dat := [uD x]
def s1D (x : List UInt8) : List Dat := [sD x]
def usD (l : List Int) : Dat := .sl (l.flatMap u1D) l.length
def lsD {α : Type} (enc : α → List Dat) (l : List α) : Dat := .sl (l.flatMap enc) l.length
def ifxD (x : Ifx) : List Dat := [sD x.nm, sD x.vrf, uD x.a, iD x.b, bD x.down, sD x.fin, sD x.fout, cD x.side, iD x.area, iD x.cost, bD x.pas]
def rulD (x : Rul) : List Dat := [bD x.ok, iD x.pr, uD x.src.a, iD x.src.b, uD x.dst.a, iD x.dst.b, uD x.s1, uD x.s2, uD x.d1, uD x.d2]
def filD (x : Fil) : List Dat := [sD x.nm, .sl (x.rs.flatMap rulD) x.rs.length]
def rwrD (x : Rwr) : List Dat := [bD x.dst, sD x.fil, uD x.to]
def staD (x : Sta) : List Dat := [sD x.vrf, uD x.p.a, iD x.p.b, uD x.via, bD x.x, iD x.dist, iD x.tag]
def lentD (x : LEnt) : List Dat := [bD x.ok, uD x.p.a, iD x.p.b, iD x.ge, iD x.le]
def plstD (x : PLst) : List Dat := [sD x.nm, .sl (x.es.flatMap lentD) x.es.length]
def memD (x : Mem) : List Dat := [bD x.ok, usD x.all]
def clstD (x : CLst) : List Dat := [sD x.nm, .sl (x.ms.flatMap memD) x.ms.length]
def clsD (c : Cls) : List Dat := [iD c.seq, cD c.act, sD c.pfx, sD c.com, iD c.tag, iD c.met, iD c.thr, iD c.sMet, iD c.sPref, iD c.sTag, usD c.sCom, bD c.add, usD c.pre, uD c.sHop, iD c.jump]
def polD (p : Pol) : List Dat := [sD p.nm, .sl (p.cs.flatMap clsD) p.cs.length, bD p.dft]
def sbjD (s : Sbj) : List Dat := [uD s.p.a, iD s.p.b, iD s.met, iD s.tag, iD s.pref, usD s.path, usD s.com, uD s.hop]
def rdsD (x : Rds) : List Dat := [cD x.from_, iD x.met, cD x.ty, sD x.pol]
def ospD (x : Osp) : List Dat := [sD x.vrf, uD x.id_, .sl (x.fr.flatMap rdsD) x.fr.length]
def perD (x : Per) : List Dat := [uD x.a, uD x.as_, sD x.pin, sD x.pout, bD x.cl, bD x.slf]
def bgiD (x : Bgi) : List Dat := [sD x.vrf, uD x.as_, uD x.id_, .sl (x.nets.flatMap pfxD) x.nets.length, .sl (x.ps.flatMap perD) x.ps.length, .sl (x.fr.flatMap rdsD) x.fr.length]
def dvcD (d : Dvc) : List Dat := [sD d.nm, cD d.kd, .sl (d.vrfs.flatMap s1D) d.vrfs.length, .sl (d.ifs.flatMap ifxD) d.ifs.length, .sl (d.fils.flatMap filD) d.fils.length, .sl (d.rws.flatMap rwrD) d.rws.length, .sl (d.sts.flatMap staD) d.sts.length, .sl (d.pls.flatMap plstD) d.pls.length, .sl (d.cls.flatMap clstD) d.cls.length, .sl (d.pols.flatMap polD) d.pols.length, .sl (d.osp.flatMap ospD) d.osp.length, .sl (d.bgp.flatMap bgiD) d.bgp.length]
def advD (x : Adv) : List Dat := [uD x.p.a, iD x.p.b, uD x.hop, iD x.pref, iD x.met, usD x.path, usD x.com, uD x.peer, uD x.pid, bD x.ext, uD x.orig, usD x.clus, iD x.ses]
def aggD (l : List Dat) : AVal := .agg (l.map AVal.d)
abbrev u32A (x : Int) : AVal := .d (.sc (.int .u32 x))
abbrev usA (l : List Int) : AVal := .d (usD l)
abbrev dvcA (d : Dvc) : AVal := aggD (dvcD d)
abbrev advA (d : Adv) : AVal := aggD (advD d)
abbrev advsA (l : List Adv) : AVal := .d (.sl (l.flatMap advD) l.length)
theorem u1D_len (x : Int) : (u1D x).length = 1 := rfl
theorem advD_len (x : Adv) : (advD x).length = 13 := rfl
abbrev hI : Shp := .it .i64
abbrev hU : Shp := .it .u32
abbrev hC : Shp := .it .u8
def ifxS : List Shp := [.st, .st, hU, hI, .bo, .st, .st, hC, hI, hI, .bo]
def rulS : List Shp := [.bo, hI, hU, hI, hU, hI, hU, hU, hU, hU]
def filS : List Shp := [.st, .sl rulS 64]
def rwrS : List Shp := [.bo, .st, hU]
def staS : List Shp := [.st, hU, hI, hU, .bo, hI, hI]
def lentS : List Shp := [.bo, hU, hI, hI, hI]
def plstS : List Shp := [.st, .sl lentS 40]
def memS : List Shp := [.bo, .sl [hU] 4]
def clstS : List Shp := [.st, .sl memS 32]
def clsS : List Shp := [hI, hC, .st, .st, hI, hI, hI, hI, hI, hI, .sl [hU] 4, .bo, .sl [hU] 4, hU, hI]
def polS : List Shp := [.st, .sl clsS 168, .bo]
def sbjS : List Shp := [hU, hI, hI, hI, hI, .sl [hU] 4, .sl [hU] 4, hU]
def rdsS : List Shp := [hC, hI, hC, .st]
def ospS : List Shp := [.st, hU, .sl rdsS 40]
def perS : List Shp := [hU, hU, .st, .st, .bo, .bo]
def pfxS : List Shp := [hU, hI]
def bgiS : List Shp := [.st, hU, hU, .sl pfxS 16, .sl perS 48, .sl rdsS 40]
def dvcS : List Shp := [.st, hC, .sl [.st] 16, .sl ifxS 120, .sl filS 40, .sl rwrS 32, .sl staS 56, .sl plstS 40, .sl clstS 40, .sl polS 48, .sl ospS 48, .sl bgiS 96]
def advS : List Shp := [hU, hI, hU, hI, hI, .sl [hU] 4, .sl [hU] 4, hU, hU, .bo, hU, .sl [hU] 4, hI]
end Ab
def Bd (n b : Nat) : Prop := n * b ≤ 140737488351232
def okI (x : Int) : Prop := -9223372036854775808 ≤ x ∧ x ≤ 9223372036854775807
def okU (x : Int) : Prop := 0 ≤ x ∧ x < 4294967296
def okC (x : Int) : Prop := 0 ≤ x ∧ x < 256
structure Ifx.ok (x : Ifx) : Prop where
  a : okU x.a
  b : okI x.b
def Sta.ok (x : Sta) : Prop := x.p.ok ∧ okU x.via ∧ okI x.dist ∧ okI x.tag
def LEnt.ok' (x : LEnt) : Prop := x.p.ok
def Mem.ok' (x : Mem) : Prop := (∀ n ∈ x.all, okU n) ∧ Bd x.all.length 4
def Fil.ok (x : Fil) : Prop := Bd x.rs.length 64
def PLst.ok (x : PLst) : Prop := (∀ e ∈ x.es, e.ok') ∧ Bd x.es.length 40
def CLst.ok (x : CLst) : Prop := (∀ e ∈ x.ms, e.ok') ∧ Bd x.ms.length 32
def Osp.ok (x : Osp) : Prop := Bd x.fr.length 40
def Bgi.ok (x : Bgi) : Prop := Bd x.nets.length 16 ∧ Bd x.ps.length 48 ∧ Bd x.fr.length 40
structure Cls.ok (c : Cls) : Prop where
  com : ∀ n ∈ c.sCom, okU n
  pre : ∀ n ∈ c.pre, okU n
  b1 : Bd c.sCom.length 4
  b2 : Bd c.pre.length 4
def Pol.ok (x : Pol) : Prop := (∀ e ∈ x.cs, e.ok) ∧ Bd x.cs.length 168
structure Sbj.ok (s : Sbj) : Prop where
  p : s.p.ok
  path : ∀ n ∈ s.path, okU n
  com : ∀ n ∈ s.com, okU n
  hop : okU s.hop
  b1 : Bd s.path.length 4
  b2 : Bd s.com.length 4
structure Adv.ok (s : Adv) : Prop where
  p : s.p.ok
  hop : okU s.hop
  path : ∀ n ∈ s.path, okU n
  com : ∀ n ∈ s.com, okU n
  clus : ∀ n ∈ s.clus, okU n
  pid : okU s.pid
  peer : okU s.peer
  orig : okU s.orig
  pref : okI s.pref
  met : okI s.met
  ses : okI s.ses
  b1 : Bd s.path.length 4
  b2 : Bd s.com.length 4
  b3 : Bd s.clus.length 4
structure Dvc.ok (d : Dvc) : Prop where
  kd : okC d.kd
  ifs : ∀ x ∈ d.ifs, x.ok
  sts : ∀ x ∈ d.sts, x.ok
  fils : ∀ x ∈ d.fils, x.ok
  pls : ∀ x ∈ d.pls, x.ok
  cls : ∀ x ∈ d.cls, x.ok
  pols : ∀ x ∈ d.pols, x.ok
  osp : ∀ x ∈ d.osp, x.ok
  bgp : ∀ x ∈ d.bgp, x.ok
  b2 : Bd d.vrfs.length 16
  b3 : Bd d.ifs.length 120
  b4 : Bd d.fils.length 40
  b5 : Bd d.rws.length 32
  b6 : Bd d.sts.length 56
  b7 : Bd d.pls.length 40
  b8 : Bd d.cls.length 40
  b9 : Bd d.pols.length 48
  b10 : Bd d.osp.length 48
  b11 : Bd d.bgp.length 96
namespace Ab
set_option maxRecDepth 100000
theorem rd_i {d : Dat} (h : ShD hI d) : ∃ x, d = iD x ∧ okI x := by
  obtain ⟨x, h1, h2, h3⟩ := shd_int h
  simp [IntKind.min, IntKind.max, IntKind.signed, IntKind.bits] at h2 h3
  exact ⟨x, h1, h2, h3⟩
theorem rd_u {d : Dat} (h : ShD hU d) : ∃ x, d = uD x ∧ okU x := by
  obtain ⟨x, h1, h2, h3⟩ := shd_int h
  simp [IntKind.min, IntKind.max, IntKind.signed, IntKind.bits] at h2 h3
  exact ⟨x, h1, h2, by omega⟩
theorem rd_c {d : Dat} (h : ShD hC d) : ∃ x, d = cD x ∧ okC x := by
  obtain ⟨x, h1, h2, h3⟩ := shd_int h
  simp [IntKind.min, IntKind.max, IntKind.signed, IntKind.bits] at h2 h3
  exact ⟨x, h1, h2, by omega⟩
theorem rd_us {d : Dat} (h : ShD (.sl [hU] 4) d) : ∃ l, Bd l.length 4 ∧ (∀ x ∈ l, okU x) ∧ d = usD l := shd_sl h u1D okU fun l hf => by
  obtain ⟨d, r, rfl, h1, h2⟩ := fits_cons hf
  obtain rfl := fits_nil h2
  obtain ⟨x, rfl, h3⟩ := rd_u h1
  exact ⟨x, h3, rfl⟩
theorem ok_pfx {a b : Int} (h1 : okU a) (h2 : okI b) : (⟨a, b⟩ : Pfx).ok := ⟨h1.1, h1.2, h2.1, by have := h2.2; show b < _; omega⟩
theorem rd_adv (l : List Dat) (f : Fits advS l) : ∃ x : Adv, x.ok ∧ l = advD x := by
  obtain ⟨d0, _, rfl, h0, f⟩ := fits_cons f
  obtain ⟨d1, _, rfl, h1, f⟩ := fits_cons f
  obtain ⟨d2, _, rfl, h2, f⟩ := fits_cons f
  obtain ⟨d3, _, rfl, h3, f⟩ := fits_cons f
  obtain ⟨d4, _, rfl, h4, f⟩ := fits_cons f
  obtain ⟨d5, _, rfl, h5, f⟩ := fits_cons f
  obtain ⟨d6, _, rfl, h6, f⟩ := fits_cons f
  obtain ⟨d7, _, rfl, h7, f⟩ := fits_cons f
  obtain ⟨d8, _, rfl, h8, f⟩ := fits_cons f
  obtain ⟨d9, _, rfl, h9, f⟩ := fits_cons f
  obtain ⟨d10, _, rfl, h10, f⟩ := fits_cons f
  obtain ⟨d11, _, rfl, h11, f⟩ := fits_cons f
  obtain ⟨d12, _, rfl, h12, f⟩ := fits_cons f
  obtain rfl := fits_nil f
  obtain ⟨x0, rfl, g0⟩ := rd_u h0
  obtain ⟨x1, rfl, g1⟩ := rd_i h1
  obtain ⟨x2, rfl, g2⟩ := rd_u h2
  obtain ⟨x3, rfl, g3⟩ := rd_i h3
  obtain ⟨x4, rfl, g4⟩ := rd_i h4
  obtain ⟨x5, b5, g5, rfl⟩ := rd_us h5
  obtain ⟨x6, b6, g6, rfl⟩ := rd_us h6
  obtain ⟨x7, rfl, g7⟩ := rd_u h7
  obtain ⟨x8, rfl, g8⟩ := rd_u h8
  obtain ⟨x9, rfl⟩ := shd_bo h9
  obtain ⟨x10, rfl, g10⟩ := rd_u h10
  obtain ⟨x11, b11, g11, rfl⟩ := rd_us h11
  obtain ⟨x12, rfl, g12⟩ := rd_i h12
  exact ⟨⟨⟨x0, x1⟩, x2, x3, x4, x5, x6, x7, x8, x9, x10, x11, x12⟩, ⟨ok_pfx g0 g1, g2, g5, g6, g11, g8, g7, g10, g3, g4, g12, b5, b6, b11⟩, rfl⟩
end Ab
end Go.Proofs.Ytblgdfcijkaimaa

/-
 Texts of a proof, one behind the other (part 31).
-/
import Derived.Test.YtoahnbmedcjpeaaGreatDoorMo2
import Derived.Test.YtoahnbmedcjpeaaGreatDoorMo3
import Derived.Test.YtoahnbmedcjpeaaGreatDoorMo29
set_option linter.unusedVariables false
set_option linter.unusedSimpArgs false
namespace Go.Proofs.YtoahnbmedcjpeaaGreatDoor
open Go.RowKit Go.Lib
theorem zeu {α : Type} {c : α → α → Int} (G : Good c) : St.Weak (fun x y => decide (c x y < 0)) := ⟨fun x y h => by
 have h := of_decide_eq_true h
 have := G.anti x y
 exact decide_eq_false (by omega), fun x y z h => by
 have h := of_decide_eq_true h
 by_cases h1 : c x y < 0
 ·exact .inl (decide_eq_true h1)
 ·refine .inr (decide_eq_true ?_)
  have h2 := G.anti x y
  exact G.le_lt (x := y) (y := x) (z := z) (by omega) h⟩
def ltN {α : Type} (nm : α → List UInt8) (x y : α) : Bool := decide (compareBytes (nm x) (nm y) < 0)
def srtN {α : Type} (nm : α → List UInt8) (l : List α) : List α := St.stS (ltN nm) l
def srtV (l : List (List UInt8)) : List (List UInt8) := l.mergeSort fun x y => decide (x ≤ y)
def staC : Sta → Sta → Int := lexc (fun x y => compareBytes x.vrf y.vrf) (lexc (fun x y => lexc (fun p q : Pfx => c2 p.a q.a) (fun p q => c2 p.b q.b) x.p y.p) (lexc (fun x y => c2 x.via y.via) (lexc (fun x y => cB x.x y.x) (lexc (fun x y => c2 x.dist y.dist) fun x y => c2 x.tag y.tag))))
def ltS (x y : Sta) : Bool := decide (staC x y < 0)
def formL (d : Dvc) : Dvc := ⟨d.nm, d.kd, srtV d.vrfs, srtN (fun x : Ifx => x.nm) d.ifs, srtN (fun x : Fil => x.nm) d.fils, d.rws, St.stS ltS d.sts, srtN (fun x : PLst => x.nm) d.pls, srtN (fun x : CLst => x.nm) d.cls, srtN (fun x : Pol => x.nm) d.pols, d.osp, d.bgp⟩
theorem weakN {α : Type} (nm : α → List UInt8) : St.Weak (ltN nm) := zeu (zb3.of nm)
theorem zfI : Good staC := (zb3.of fun x : Sta => x.vrf).lex ((((zde.of fun p : Pfx => p.a).lex (zde.of fun p : Pfx => p.b)).of fun x : Sta => x.p).lex ((zde.of fun x : Sta => x.via).lex ((zkA.of fun x : Sta => x.x).lex ((zde.of fun x : Sta => x.dist).lex (zde.of fun x : Sta => x.tag)))))
theorem weakS : St.Weak ltS := zeu zfI
theorem zew {α : Type} (nm : α → List UInt8) (l : List α) : srtN nm (srtN nm l) = srtN nm l := St.stS_idem (weakN nm) l
theorem zF {α : Type} (nm : α → List UInt8) (l : List α) : (srtN nm l).Perm l := St.stS_perm l
theorem zbb (l : List (List UInt8)) : (srtV l).Perm l := List.mergeSort_perm _ _
theorem zht (l : List (List UInt8)) : srtV (srtV l) = srtV l := by
 unfold srtV
 refine List.mergeSort_of_pairwise ?_
 refine List.pairwise_mergeSort (fun a b c h1 h2 => ?_) (fun a b => ?_) l
 ·simp only [decide_eq_true_eq] at *
  exact List.le_trans h1 h2
 ·simp only [Bool.or_eq_true, decide_eq_true_eq]
  exact List.le_total a b
theorem zgw (d : Dvc) : formL (formL d) = formL d := by
 unfold formL
 simp only [zht, zew, St.stS_idem weakS]
theorem zi7 {d : Dvc} (h : d.ok) : (formL d).ok := by
 have n2 := (zbb d.vrfs).length_eq
 have n3 := (zF (fun x : Ifx => x.nm) d.ifs).length_eq
 have n4 := (zF (fun x : Fil => x.nm) d.fils).length_eq
 have n6 := (St.stS_perm (lt := ltS) d.sts).length_eq
 have n7 := (zF (fun x : PLst => x.nm) d.pls).length_eq
 have n8 := (zF (fun x : CLst => x.nm) d.cls).length_eq
 have n9 := (zF (fun x : Pol => x.nm) d.pols).length_eq
 refine ⟨h.kd, fun x hx => h.ifs x ((zF _ _).mem_iff.1 hx), fun x hx => h.sts x ((St.stS_perm _).mem_iff.1 hx), fun x hx => h.fils x ((zF _ _).mem_iff.1 hx), fun x hx => h.pls x ((zF _ _).mem_iff.1 hx), fun x hx => h.cls x ((zF _ _).mem_iff.1 hx), fun x hx => h.pols x ((zF _ _).mem_iff.1 hx), h.osp, h.bgp, ?_, ?_, ?_, h.b5, ?_, ?_, ?_, ?_, h.b10, h.b11, fun x hx => h.rok x ((zF _ _).mem_iff.1 hx), h.nok⟩
 ·show Bd (srtV d.vrfs).length 16; rw [n2]; exact h.b2
 ·show Bd (srtN _ d.ifs).length 120; rw [n3]; exact h.b3
 ·show Bd (srtN _ d.fils).length 40; rw [n4]; exact h.b4
 ·show Bd (St.stS ltS d.sts).length 56; rw [n6]; exact h.b6
 ·show Bd (srtN _ d.pls).length 40; rw [n7]; exact h.b7
 ·show Bd (srtN _ d.cls).length 40; rw [n8]; exact h.b8
 ·show Bd (srtN _ d.pols).length 48; rw [n9]; exact h.b9
structure OkF (d : Dvc) : Prop where
 ok : d.ok
 n3 : d.ifs.length ≤ 100000000000
 n4 : d.fils.length ≤ 100000000000
 n6 : d.sts.length ≤ 100000000000
 n7 : d.pls.length ≤ 100000000000
 n8 : d.cls.length ≤ 100000000000
 n9 : d.pols.length ≤ 100000000000
theorem zhL {d : Dvc} (h : OkF d) : OkF (formL d) := by
 have n3 := (zF (fun x : Ifx => x.nm) d.ifs).length_eq
 have n4 := (zF (fun x : Fil => x.nm) d.fils).length_eq
 have n6 := (St.stS_perm (lt := ltS) d.sts).length_eq
 have n7 := (zF (fun x : PLst => x.nm) d.pls).length_eq
 have n8 := (zF (fun x : CLst => x.nm) d.cls).length_eq
 have n9 := (zF (fun x : Pol => x.nm) d.pols).length_eq
 exact ⟨zi7 h.ok, n3 ▸ h.n3, n4 ▸ h.n4, n6 ▸ h.n6, n7 ▸ h.n7, n8 ▸ h.n8, n9 ▸ h.n9⟩
theorem zfG {α : Type} (p : α → Bool) : ∀ (l : List α) (k : Nat) (h : k < l.length), p l[k] = true → 0 ≤ idxOf p l ∧ idxOf p l ≤ (k : Int)
 | [], k, h, _ => by simp at h
 | x :: r, 0, h, h1 => by
  unfold idxOf
  rw [if_pos (by simpa using h1)]; omega
 | x :: r, k + 1, h, h1 => by
  have ih := zfG p r k (by simpa using h) (by simpa using h1)
  unfold idxOf
  split
  ·omega
  ·rw [if_neg (by omega)]; omega
theorem zg6 {α : Type} (nm : α → List UInt8) (L : List α) (i : Nat) (hi : i < L.length) : Ab.fstB nm L i = true ↔ ∀ (k : Nat) (hk : k < i), nm (L[k]'(by omega)) ≠ nm L[i] := by
 unfold Ab.fstB
 rw [List.getElem?_eq_getElem hi]
 simp only [decide_eq_true_eq]
 constructor
 ·intro h k hk he
  have := zfG (fun x => decide (nm x = nm L[i])) L k (by omega) (by simpa using he)
  omega
 ·intro h
  exact zar _ L i hi (fun j hj => by simpa using h j hj) (by simp)
theorem zkC {α : Type} (nm : α → List UInt8) (L : List α) : (∀ i, i < L.length → Ab.fstB nm L i = true) ↔ (L.map nm).Nodup := by
 unfold List.Nodup
 rw [List.pairwise_iff_getElem]
 constructor
 ·intro h i j hi hj hij
  simp only [List.length_map] at hi hj
  have := (zg6 nm L j hj).1 (h j hj) i hij
  simpa using this
 ·intro h i hi
  refine (zg6 nm L i hi).2 fun k hk => ?_
  have := h k i (by simp; omega) (by simpa using hi) hk
  simpa using this
def badI (v : Int) : Bool := (v == 1) || (v == 2)
theorem zbe (o n : Bool) : badI (failP o n) = !(o && n) := by cases o <;> cases n <;> rfl
theorem zbS {α : Type} (nm : α → List UInt8) (L : List α) (q : α → Bool) (f : Nat → Int) (h : ∀ i x, L[i]? = some x → badI (f i) = !(Ab.fstB nm L i && q x)) : (∀ i, i < L.length → badI (f i) = false) ↔ (L.map nm).Nodup ∧ ∀ x ∈ L, q x = true := by
 rw [← zkC]
 have h2 : ∀ i (hi : i < L.length), badI (f i) = false ↔ Ab.fstB nm L i = true ∧ q L[i] = true := fun i hi => by
  rw [h i _ (List.getElem?_eq_getElem hi)]
  simp
 constructor
 ·intro g
  refine ⟨fun i hi => ((h2 i hi).1 (g i hi)).1, fun x hx => ?_⟩
  obtain ⟨i, hi, rfl⟩ := List.getElem_of_mem hx
  exact ((h2 i hi).1 (g i hi)).2
 ·rintro ⟨g1, g2⟩ i hi
  exact (h2 i hi).2 ⟨g1 i hi, g2 _ (List.getElem_mem hi)⟩
theorem zhE {α : Type} (L : List α) (q : α → Bool) (f : Nat → Int) (h : ∀ i x, L[i]? = some x → badI (f i) = !(q x)) : (∀ i, i < L.length → badI (f i) = false) ↔ ∀ x ∈ L, q x = true := by
 have h2 : ∀ i (hi : i < L.length), badI (f i) = false ↔ q L[i] = true := fun i hi => by
  rw [h i _ (List.getElem?_eq_getElem hi)]
  simp
 constructor
 ·intro g x hx
  obtain ⟨i, hi, rfl⟩ := List.getElem_of_mem hx
  exact (h2 i hi).1 (g i hi)
 ·intro g i hi
  exact (h2 i hi).2 (g _ (List.getElem_mem hi))
theorem zbu {α : Type} (nm : α → List UInt8) {L M : List α} (q : α → Bool) (hp : M.Perm L) : ((M.map nm).Nodup ∧ ∀ x ∈ M, q x = true) ↔ ((L.map nm).Nodup ∧ ∀ x ∈ L, q x = true) := by
 rw [(hp.map nm).nodup_iff]
 exact and_congr_right fun _ => ⟨fun h x hx => h x (hp.mem_iff.2 hx), fun h x hx => h x (hp.mem_iff.1 hx)⟩
theorem zgk {α : Type} {L M : List α} (q : α → Bool) (hp : M.Perm L) : (∀ x ∈ M, q x = true) ↔ ∀ x ∈ L, q x = true := ⟨fun h x hx => h x (hp.mem_iff.2 hx), fun h x hx => h x (hp.mem_iff.1 hx)⟩
theorem zh3 (f : Nat → Int) (n : Nat) : badAt f n = none ↔ ∀ i, i < n → badI (f i) = false := by
 constructor
 ·intro h i hi
  unfold badAt at h
  rw [List.find?_eq_none] at h
  have := h i (List.mem_range.2 hi)
  unfold badI
  simpa using this
 ·intro h
  exact zek h
theorem zcm (d : Dvc) (j : Nat) : prtR d j = none ↔ (prtN d j : Int) ≤ prtM j ∧ ∀ i, i < prtN d j → badI (prtX d j i) = false := by
 rw [← zh3]
 unfold prtR
 by_cases h : (prtN d j : Int) > prtM j
 ·rw [if_pos h]
  exact ⟨fun h => (by cases h), fun h2 => absurd h2.1 (by omega)⟩
 ·rw [if_neg h]
  cases badAt (prtX d j) (prtN d j) with
  | none => exact ⟨fun _ => ⟨by omega, rfl⟩, fun _ => rfl⟩
  | some i => exact ⟨fun h => (by cases h), fun h => (by cases h.2)⟩
theorem ziv {d : Dvc} {j : Nat} {r : List UInt8 × Int} (h : prtR d j = some r) : r.2 ≠ 0 := by
 unfold prtR at h
 split at h
 ·cases h; exact (by decide : (121 : Int) ≠ 0)
 ·split at h
  ·cases h
   dsimp only
   split
   ·exact (by decide : (121 : Int) ≠ 0)
   ·exact (by decide : (120 : Int) ≠ 0)
  ·cases h
theorem zc2 (d : Dvc) : (checkL d).2 = 0 ↔ nameB d.nm = true ∧ ((d.kd != 1) && (d.kd != 2)) = false ∧ ∀ j, j < 10 → prtR d j = none := by
 unfold checkL
 by_cases h1 : nameB d.nm = true
 ·rw [if_pos h1]
  cases h2 : (d.kd != 1) && (d.kd != 2) with
  | true => rw [if_pos rfl]; exact ⟨fun h => absurd h (by decide), fun h => by cases h.2.1⟩
  | false =>
   rw [if_neg (by decide)]
   cases h3 : prtsR d 10 with
   | none =>
    refine ⟨fun _ => ⟨h1, rfl, fun j hj => ?_⟩, fun _ => rfl⟩
    unfold prtsR at h3
    rw [List.findSome?_eq_none_iff] at h3
    exact h3 j (List.mem_range.2 hj)
   | some r =>
    refine ⟨fun h => ?_, fun h => ?_⟩
    ·unfold prtsR at h3
     obtain ⟨j, _, h4⟩ := List.exists_of_findSome?_eq_some h3
     exact absurd h (ziv h4)
    ·rw [zd4 h.2.2] at h3; cases h3
 ·rw [if_neg h1]
  exact ⟨fun h => absurd h (by decide), fun h => absurd h.1 h1⟩
theorem zbC {l m : List (List UInt8)} (h : l.Perm m) : noneB l = noneB m := by
 funext s
 unfold noneB
 congr 1
 rw [decide_eq_decide]
 exact h.mem_iff
structure BkEq (a b : Bk) : Prop where
 v : noneB a.v = noneB b.v
 f : noneB a.f = noneB b.f
 p : noneB a.p = noneB b.p
 c : noneB a.c = noneB b.c
 o : noneB a.o = noneB b.o
theorem bkEq (d : Dvc) : BkEq (bkOf (formL d)) (bkOf d) := ⟨zbC ((zbb _).map _), zbC ((zF _ _).map _), zbC ((zF _ _).map _), zbC ((zF _ _).map _), zbC ((zF _ _).map _)⟩
theorem zfu {a b : Bk} (h : BkEq a b) (m : Int) (t : Bool) (l : List Rds) : redsP a m t l = redsP b m t l := by unfold redsP; rw [h.o]
theorem zkm {a b : Bk} (h : BkEq a b) (l : List Per) : pnmK a l = pnmK b l := by funext k; unfold pnmK; rw [h.o]
theorem zkR {a b : Bk} (h : BkEq a b) (l : List Cls) : clsP a l = clsP b l := by
 have : clsN a = clsN b := by funext c; unfold clsN; rw [h.p, h.c]
 unfold clsP; rw [this]
theorem zkU {a b : Bk} (h : BkEq a b) (l : List Bgi) (i : Nat) (x : Bgi) : bgiF a l i x = bgiF b l i x := by unfold bgiF bgiO; rw [zfu h, zkm h, h.v]
theorem zko {a b : Bk} (h : BkEq a b) (l : List Osp) (i : Nat) (x : Osp) : ospF a l i x = ospF b l i x := by unfold ospF; rw [zfu h, h.v]
def ifxQ (b : Bk) (x : Ifx) : Bool := nameB x.nm && (((x.a == 0) && (x.b == 0) || (x.a != 0) && withB x.b 1 32) && (decide (x.side ≤ 2) && (withB x.area (-1) 16777216 && (withB x.cost 1 65535 && (noneB b.v x.vrf && (noneB b.f x.fin && noneB b.f x.fout))))))
theorem zkw {a b : Bk} (h : BkEq a b) : ifxQ a = ifxQ b := by funext x; unfold ifxQ; rw [h.v, h.f]
theorem ziC (d : Dvc) : (∀ i, i < d.vrfs.length → badI (flt0 d i) = false) ↔ (d.vrfs.map fun x => x).Nodup ∧ ∀ x ∈ d.vrfs, nameB x = true := zbS _ _ _ _ fun i x h => by
 unfold flt0; rw [h]; dsimp only
 rw [zbe, Bool.and_true, Bool.and_comm]
theorem zgo (d : Dvc) : (∀ i, i < d.ifs.length → badI (flt1 d i) = false) ↔ (d.ifs.map fun x : Ifx => x.nm).Nodup ∧ ∀ x ∈ d.ifs, ifxQ (bkOf d) x = true := zbS _ _ _ _ fun i x h => by
 unfold flt1; rw [h]; dsimp only
 unfold ifxF ifxO ifxQ
 rw [zbe]
 congr 1
 ac_rfl
theorem zgn (d : Dvc) : (∀ i, i < d.fils.length → badI (flt2 d i) = false) ↔ (d.fils.map fun x : Fil => x.nm).Nodup ∧ ∀ x ∈ d.fils, (nameB x.nm && filB x) = true := zbS _ _ _ _ fun i x h => by
 unfold flt2; rw [h]; dsimp only
 rw [zbe, Bool.and_true]
 congr 1
 ac_rfl
theorem ziB (d : Dvc) : (∀ i, i < d.sts.length → badI (flt4 d i) = false) ↔ ∀ x ∈ d.sts, (staO x && noneB (bkOf d).v x.vrf) = true := zhE _ _ _ fun i x h => by
 unfold flt4; rw [h]; dsimp only
 unfold staF
 rw [zbe]
theorem zgm (d : Dvc) : (∀ i, i < d.pls.length → badI (flt5 d i) = false) ↔ (d.pls.map fun x : PLst => x.nm).Nodup ∧ ∀ x ∈ d.pls, (nameB x.nm && entsB x.es) = true := zbS _ _ _ _ fun i x h => by
 unfold flt5; rw [h]; dsimp only
 rw [zbe, Bool.and_true]
 congr 1
 ac_rfl
theorem ziA (d : Dvc) : (∀ i, i < d.cls.length → badI (flt6 d i) = false) ↔ (d.cls.map fun x : CLst => x.nm).Nodup ∧ ∀ x ∈ d.cls, (nameB x.nm && memsB x.ms) = true := zbS _ _ _ _ fun i x h => by
 unfold flt6; rw [h]; dsimp only
 rw [zbe, Bool.and_true]
 congr 1
 ac_rfl
theorem zgl (d : Dvc) : (∀ i, i < d.pols.length → badI (flt7 d i) = false) ↔ (d.pols.map fun x : Pol => x.nm).Nodup ∧ ∀ x ∈ d.pols, (nameB x.nm && ((clsP (bkOf d) x.cs).1 && (clsP (bkOf d) x.cs).2)) = true := zbS _ _ _ _ fun i x h => by
 unfold flt7; rw [h]; dsimp only
 rw [zbe]
 congr 1
 ac_rfl
theorem zeE (d : Dvc) (j : Nat) (hj : j < 10) : (∀ i, i < prtN (formL d) j → badI (prtX (formL d) j i) = false) ↔ ∀ i, i < prtN d j → badI (prtX d j i) = false := by
 have B := bkEq d
 match j, hj with
 | 0, _ => exact (ziC (formL d)).trans ((zbu (fun x => x) nameB (zbb d.vrfs)).trans (ziC d).symm)
 | 1, _ =>
  refine (zgo (formL d)).trans (Iff.trans ?_ (zgo d).symm)
  rw [zkw B]
  exact zbu _ _ (zF _ d.ifs)
 | 2, _ => exact (zgn (formL d)).trans ((zbu _ (fun x : Fil => nameB x.nm && filB x) (zF _ d.fils)).trans (zgn d).symm)
 | 3, _ =>
  have : ∀ i, flt3 (formL d) i = flt3 d i := fun i => by
   unfold flt3
   show (match d.rws[i]? with | some x => failP (x.to != 0) (noneB (bkOf (formL d)).f x.fil) | none => 0) = _
   rw [B.f]
   cases d.rws[i]? <;> rfl
  show (∀ i, i < d.rws.length → badI (flt3 (formL d) i) = false) ↔ ∀ i, i < d.rws.length → badI (flt3 d i) = false
  simp only [this]
 | 4, _ =>
  refine (ziB (formL d)).trans (Iff.trans ?_ (ziB d).symm)
  rw [B.v]
  exact zgk (fun x : Sta => staO x && noneB (bkOf d).v x.vrf) (St.stS_perm d.sts)
 | 5, _ => exact (zgm (formL d)).trans ((zbu _ (fun x : PLst => nameB x.nm && entsB x.es) (zF _ d.pls)).trans (zgm d).symm)
 | 6, _ => exact (ziA (formL d)).trans ((zbu _ (fun x : CLst => nameB x.nm && memsB x.ms) (zF _ d.cls)).trans (ziA d).symm)
 | 7, _ =>
  refine (zgl (formL d)).trans (Iff.trans ?_ (zgl d).symm)
  simp only [zkR B]
  exact zbu _ (fun x : Pol => nameB x.nm && ((clsP (bkOf d) x.cs).1 && (clsP (bkOf d) x.cs).2)) (zF _ d.pols)
 | 8, _ =>
  have : ∀ i, flt8 (formL d) i = flt8 d i := fun i => by
   unfold flt8
   show (match d.osp[i]? with | some x => ospF (bkOf (formL d)) d.osp i x | none => 0) = _
   simp only [zko B]
   cases d.osp[i]? <;> rfl
  show (∀ i, i < d.osp.length → badI (flt8 (formL d) i) = false) ↔ ∀ i, i < d.osp.length → badI (flt8 d i) = false
  simp only [this]
 | 9, _ =>
  have : ∀ i, flt9 (formL d) i = flt9 d i := fun i => by
   unfold flt9
   show (match d.bgp[i]? with | some x => bgiF (bkOf (formL d)) d.bgp i x | none => 0) = _
   simp only [zkU B]
   cases d.bgp[i]? <;> rfl
  show (∀ i, i < d.bgp.length → badI (flt9 (formL d) i) = false) ↔ ∀ i, i < d.bgp.length → badI (flt9 d i) = false
  simp only [this]
theorem zfK (d : Dvc) (j : Nat) (hj : j < 10) : prtN (formL d) j = prtN d j := by
 match j, hj with
 | 0, _ => exact (zbb _).length_eq
 | 1, _ => exact (zF _ _).length_eq
 | 2, _ => exact (zF _ _).length_eq
 | 3, _ => rfl
 | 4, _ => exact (St.stS_perm _).length_eq
 | 5, _ => exact (zF _ _).length_eq
 | 6, _ => exact (zF _ _).length_eq
 | 7, _ => exact (zF _ _).length_eq
 | 8, _ => rfl
 | 9, _ => rfl
theorem zc0 (d : Dvc) : (checkL (formL d)).2 = 0 ↔ (checkL d).2 = 0 := by
 rw [zc2, zc2]
 refine and_congr_right fun _ => and_congr_right fun _ => forall_congr' fun j => ?_
 refine ⟨fun h hj => ?_, fun h hj => ?_⟩
 ·have h1 := (zcm _ _).1 (h hj)
  exact (zcm _ _).2 ⟨by rw [← zfK d j hj]; exact h1.1, (zeE d j hj).1 h1.2⟩
 ·have h1 := (zcm _ _).1 (h hj)
  exact (zcm _ _).2 ⟨by rw [zfK d j hj]; exact h1.1, (zeE d j hj).2 h1.2⟩
end Go.Proofs.YtoahnbmedcjpeaaGreatDoor

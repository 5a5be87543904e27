/-
 Texts of a proof, one behind the other (part 37).
-/
import Derived.Test.YtoahnbmedcjpeaaGreatDoorMn3
import Derived.Test.YtoahnbmedcjpeaaGreatDoorMn35
set_option linter.unusedVariables false
set_option linter.unusedSimpArgs false
namespace Go.Proofs.YtoahnbmedcjpeaaGreatDoor
open Go.RowKit Go.Lib
def aboutL (d : Dvc) : Dvc := ⟨d.nm, d.kd, d.vrfs.reverse, d.ifs.reverse, d.fils.reverse, d.rws, d.sts.reverse, d.pls.reverse, d.cls, d.pols.reverse, d.osp, d.bgp⟩
def alvL (d : Dvc) : List Int := (d.ifs.filter Ab.aliveB).map fun x => x.a
def idsO (d : Dvc) : List Int := d.osp.map fun x => x.id_
def idsB (d : Dvc) : List Int := d.bgp.map fun x => x.id_
structure SnG (l : List Dvc) : Prop where
 n : (l.map Ab.dnm).Nodup
 a : (l.flatMap alvL).Nodup
 o : (l.flatMap idsO).Nodup
 b : (l.flatMap idsB).Nodup
instance (l : List Dvc) : Decidable (SnG l) := decidable_of_iff ((l.map Ab.dnm).Nodup ∧ (l.flatMap alvL).Nodup ∧ (l.flatMap idsO).Nodup ∧ (l.flatMap idsB).Nodup) ⟨fun h => ⟨h.1, h.2.1, h.2.2.1, h.2.2.2⟩, fun h => ⟨h.n, h.a, h.o, h.b⟩⟩
def snErr (l : List Dvc) : Option (Nat × Int) := if 32 < l.length then some (32, 121) else
 match (List.range l.length).find? fun k => (l[k]?.map fun d => (checkL d).2).getD 0 != 0 with
 | some k => some (k, (l[k]?.map fun d => (checkL d).2).getD 0)
 | none => match (List.range l.length).find? fun k => !decide (SnG (l.take (k + 1))) with
  | some k => some (k, 121)
  | none => none
def snapL (l : List Dvc) : List Dvc × Nat × Int := match snErr l with
 | some (k, e) => ([], k, e)
 | none => (srtN Ab.dnm (l.map formL), 0, 0)
structure SnOk (l : List Dvc) : Prop where
 m : l.length ≤ 32
 c : ∀ d ∈ l, (checkL d).2 = 0
 g : SnG l
theorem zc6 {p : Nat → Bool} {n k : Nat} (hk : k < n) (h1 : ∀ j, j < k → p j = false) (h2 : p k = true) : (List.range n).find? p = some k := by
 rw [List.find?_range_eq_some]
 exact ⟨h2, List.mem_range.2 hk, fun j hj => by rw [h1 j hj]; rfl⟩
theorem zbe {p : Nat → Bool} {n : Nat} (h1 : ∀ j, j < n → p j = false) : (List.range n).find? p = none := by
 rw [List.find?_eq_none]
 intro j hj
 rw [h1 j (List.mem_range.1 hj)]; decide
theorem zdK {l : List Dvc} {k : Nat} (hk : k < l.length) : (l[k]?.map fun d => (checkL d).2).getD 0 = (checkL l[k]).2 := by
 rw [List.getElem?_eq_getElem hk]; rfl
theorem zcT {l : List Dvc} (h : 32 < l.length) : snErr l = some (32, 121) := by unfold snErr; rw [if_pos h]
theorem zfW {l : List Dvc} (hm : l.length ≤ 32) {k : Nat} (hk : k < l.length) (h1 : ∀ j (hj : j < k), (checkL (l[j]'(by omega))).2 = 0) (h2 : (checkL l[k]).2 ≠ 0) : snErr l = some (k, (checkL l[k]).2) := by
 unfold snErr
 have e : ((List.range l.length).find? fun k => (l[k]?.map fun d => (checkL d).2).getD 0 != 0) = some k := zc6 hk (fun j hj => by rw [zdK (Nat.lt_trans hj hk), h1 j hj]; rfl) (by rw [zdK hk]; simpa using h2)
 rw [if_neg (by omega), e]
 dsimp only
 rw [zdK hk]
theorem zbj {α β : Type} (f : α → List β) : ∀ {l m : List α}, l.Sublist m → (l.flatMap f).Sublist (m.flatMap f)
 | _, _, .slnil => .slnil
 | _, _, .cons x h => by rw [List.flatMap_cons]; exact (zbj f h).trans (List.sublist_append_right _ _)
 | _, _, .cons_cons x h => by rw [List.flatMap_cons, List.flatMap_cons]; exact (List.Sublist.refl _).append (zbj f h)
theorem zd3 {l : List Dvc} {k j : Nat} (h : SnG (l.take k)) (hj : j ≤ k) : SnG (l.take j) := by
 have e : l.take j = (l.take k).take j := by rw [List.take_take, Nat.min_eq_left hj]
 have s : (l.take j).Sublist (l.take k) := by rw [e]; exact List.take_sublist _ _
 exact ⟨h.n.sublist (s.map _), h.a.sublist (zbj _ s), h.o.sublist (zbj _ s), h.b.sublist (zbj _ s)⟩
theorem zcS {l : List Dvc} (hm : l.length ≤ 32) (h1 : ∀ d ∈ l, (checkL d).2 = 0) : ((List.range l.length).find? fun k => (l[k]?.map fun d => (checkL d).2).getD 0 != 0) = none :=
 zbe fun j hj => by rw [zdK hj, h1 _ (List.getElem_mem hj)]; rfl
theorem zfV {l : List Dvc} (hm : l.length ≤ 32) (h1 : ∀ d ∈ l, (checkL d).2 = 0) {k : Nat} (hk : k < l.length) (h2 : SnG (l.take k)) (h3 : ¬ SnG (l.take (k + 1))) : snErr l = some (k, 121) := by
 unfold snErr
 have e : ((List.range l.length).find? fun k => !decide (SnG (l.take (k + 1)))) = some k := zc6 hk (fun j hj => by rw [decide_eq_true (zd3 h2 (Nat.succ_le_of_lt hj))]; rfl) (by rw [decide_eq_false h3]; rfl)
 rw [if_neg (by omega), zcS hm h1]
 dsimp only
 rw [e]
theorem zgB {l : List Dvc} (h : SnOk l) : snErr l = none := by
 unfold snErr
 have e : ((List.range l.length).find? fun k => !decide (SnG (l.take (k + 1)))) = none := zbe fun j hj => by rw [decide_eq_true (zd3 (k := l.length) (by rw [List.take_length]; exact h.g) (Nat.succ_le_of_lt hj))]; rfl
 rw [if_neg (by have := h.m; omega), zcS h.m h.c]
 dsimp only
 rw [e]
structure Alike (g : Dvc → Dvc) : Prop where
 c : ∀ d, (checkL (g d)).2 = 0 ↔ (checkL d).2 = 0
 n : ∀ d, (g d).nm = d.nm
 a : ∀ d, (alvL (g d)).Perm (alvL d)
 o : ∀ d, idsO (g d) = idsO d
 b : ∀ d, idsB (g d) = idsB d
def rotL (l : List Dvc) (s : Nat) : List Dvc := l.drop s ++ l.take s
def turnL (l : List Dvc) (s : Nat) : List Dvc := (rotL l s).map aboutL
structure SnapR (a : List Dvc) : Prop where
 n : (a.map Ab.dnm).Nodup
 i : ∀ d ∈ a, (d.ifs.map fun x : Ifx => x.nm).Nodup
 r : ∀ k (hk : k + 1 < a.length), compareBytes (a[k]'(by omega)).nm a[k + 1].nm < 0
theorem zip {α : Type} [DecidableEq α] (L : List α) (a : α) : decide (L ++ [a]).Nodup = (decide L.Nodup && !decide (a ∈ L)) := by
 rw [Bool.eq_iff_iff]
 simp only [Bool.and_eq_true, decide_eq_true_eq, Bool.not_eq_true', decide_eq_false_iff_not, List.nodup_append]
 constructor
 ·rintro ⟨h1, _, h3⟩
  exact ⟨h1, fun h => h3 a h a (List.mem_singleton.2 rfl) rfl⟩
 ·rintro ⟨h1, h2⟩
  exact ⟨h1, List.pairwise_singleton _ _, fun x hx y hy h => h2 (by rw [← List.mem_singleton.1 hy, ← h]; exact hx)⟩
theorem zgS {α : Type} [DecidableEq α] (L : List α) (a : α) : (!decide (L ++ [a]).Nodup) = (!decide L.Nodup || decide (a ∈ L)) := by
 rw [zip]; cases decide L.Nodup <;> cases decide (a ∈ L) <;> rfl
def preA (d : Dvc) (j : Nat) : List Int := ((d.ifs.take j).filter Ab.aliveB).map fun x => x.a
theorem zjv {d : Dvc} {j : Nat} (hj : j < d.ifs.length) (h : Ab.aliveB d.ifs[j] = true) : preA d (j + 1) = preA d j ++ [d.ifs[j].a] := by
 unfold preA
 rw [List.take_succ_eq_append_getElem hj, List.filter_append, List.map_append, List.filter_cons_of_pos h]; rfl
theorem zjw {d : Dvc} {j : Nat} (hj : j < d.ifs.length) (h : Ab.aliveB d.ifs[j] = false) : preA d (j + 1) = preA d j := by
 unfold preA
 rw [List.take_succ_eq_append_getElem hj, List.filter_append, List.map_append, List.filter_cons_of_neg (by rw [h]; decide)]; simp
theorem zgJ (d : Dvc) : preA d d.ifs.length = alvL d := by unfold preA alvL; rw [List.take_length]
theorem zaN {β : Type} (f : Dvc → List β) {l : List Dvc} {k : Nat} (hk : k < l.length) : (l.take (k + 1)).flatMap f = (l.take k).flatMap f ++ f l[k] := by
 rw [List.take_succ_eq_append_getElem hk, List.flatMap_append, List.flatMap_cons, List.flatMap_nil, List.append_nil]
theorem zgA {l : List Dvc} {k : Nat} (hk : k < l.length) : (!decide (SnG (l.take (k + 1)))) = (((!decide ((l.take k).map Ab.dnm ++ [l[k].nm]).Nodup || !decide ((l.take k).flatMap alvL ++ alvL l[k]).Nodup) || !decide ((l.take k).flatMap idsO ++ idsO l[k]).Nodup) || !decide ((l.take k).flatMap idsB ++ idsB l[k]).Nodup) := by
 have en : (l.take (k + 1)).map Ab.dnm = (l.take k).map Ab.dnm ++ [l[k].nm] := by rw [List.take_succ_eq_append_getElem hk, List.map_append]; rfl
 have e : SnG (l.take (k + 1)) ↔ (((l.take k).map Ab.dnm ++ [l[k].nm]).Nodup ∧ ((l.take k).flatMap alvL ++ alvL l[k]).Nodup ∧ ((l.take k).flatMap idsO ++ idsO l[k]).Nodup ∧ ((l.take k).flatMap idsB ++ idsB l[k]).Nodup) := by
  rw [← en, ← zaN alvL hk, ← zaN idsO hk, ← zaN idsB hk]
  exact ⟨fun h => ⟨h.n, h.a, h.o, h.b⟩, fun h => ⟨h.1, h.2.1, h.2.2.1, h.2.2.2⟩⟩
 rw [Bool.eq_iff_iff]
 simp only [Bool.not_eq_true', decide_eq_false_iff_not, Bool.or_eq_true, e]
 by_cases h1 : ((l.take k).map Ab.dnm ++ [l[k].nm]).Nodup <;> by_cases h2 : ((l.take k).flatMap alvL ++ alvL l[k]).Nodup <;> by_cases h3 : ((l.take k).flatMap idsO ++ idsO l[k]).Nodup <;> by_cases h4 : ((l.take k).flatMap idsB ++ idsB l[k]).Nodup <;> simp only [h1, h2, h3, h4, and_true, true_and, and_false, false_and, not_true_eq_false, not_false_eq_true, or_true, true_or, or_false, false_or]
theorem zcH {β : Type} (f : Dvc → List β) {B : Nat} : ∀ l : List Dvc, (∀ d ∈ l, (f d).length ≤ B) → (l.flatMap f).length ≤ l.length * B
 | [], _ => by simp
 | d :: l, h => by
  rw [List.flatMap_cons, List.length_append, List.length_cons, Nat.add_mul]
  have := h d (List.mem_cons_self ..)
  have := zcH f l fun x hx => h x (List.mem_cons_of_mem _ hx)
  omega
end Go.Proofs.YtoahnbmedcjpeaaGreatDoor

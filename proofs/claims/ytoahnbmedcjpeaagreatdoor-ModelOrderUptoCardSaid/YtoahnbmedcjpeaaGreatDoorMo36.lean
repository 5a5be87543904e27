/-
 Texts of a proof, one behind the other (part 37).
-/
import Derived.Test.YtoahnbmedcjpeaaGreatDoorMo3
import Derived.Test.YtoahnbmedcjpeaaGreatDoorMo35
set_option linter.unusedVariables false
set_option linter.unusedSimpArgs false
namespace Go.Proofs.YtoahnbmedcjpeaaGreatDoor
open Go.RowKit Go.Lib
theorem zlp {d : Dvc} (h : (checkL d).2 = 0) : (d.ifs.map fun x : Ifx => x.nm).Nodup ∧ (d.fils.map fun x : Fil => x.nm).Nodup ∧ (d.pls.map fun x : PLst => x.nm).Nodup ∧ (d.pols.map fun x : Pol => x.nm).Nodup := by
 have h3 := ((zc2 d).1 h).2.2
 have g := fun j hj => ((zcm d j).1 (h3 j hj)).2
 exact ⟨((zgo d).1 (g 1 (by decide))).1, ((zgn d).1 (g 2 (by decide))).1, ((zgm d).1 (g 5 (by decide))).1, ((zgl d).1 (g 7 (by decide))).1⟩
theorem zeB {α β : Type} {g : α → β} : ∀ {l : List α}, (l.map g).Nodup → ∀ x ∈ l, ∀ y ∈ l, g x = g y → x = y
 | [], _, _, h, _, _, _ => by cases h
 | z :: l, hn, x, hx, y, hy, h => by
  rw [List.map_cons, List.nodup_cons] at hn
  rcases List.mem_cons.1 hx with h1 | h1 <;> rcases List.mem_cons.1 hy with h2 | h2
  ·rw [h1, h2]
  ·exact absurd (List.mem_map.2 ⟨y, h2, by rw [← h, h1]⟩) hn.1
  ·exact absurd (List.mem_map.2 ⟨x, h1, by rw [h, h2]⟩) hn.1
  ·exact zeB hn.2 x h1 y h2 h
theorem zfh {α : Type} {lt : α → α → Bool} (W : St.Weak lt) {l m : List α} (hp : l.Perm m) (ha : ∀ x ∈ l, ∀ y ∈ l, lt x y = false → lt y x = false → x = y) : St.stS lt l = St.stS lt m := by
 refine List.Perm.eq_of_pairwise (le := fun a b => lt b a = false) ?_ (St.stS_srt W l) (St.stS_srt W m) (((St.stS_perm l).trans hp).trans (St.stS_perm m).symm)
 intro a b h1 h2 h3 h4
 exact ha a ((St.stS_perm l).mem_iff.1 h1) b (hp.mem_iff.2 ((St.stS_perm m).mem_iff.1 h2)) h4 h3
theorem zbP {α : Type} (nm : α → List UInt8) {l m : List α} (hp : l.Perm m) (hn : (l.map nm).Nodup) : srtN nm l = srtN nm m := by
 refine zfh (weakN nm) hp fun x hx y hy h1 h2 => zeB hn x hx y hy (zbd.1 ?_)
 have h1 := of_decide_eq_false h1
 have h2 := of_decide_eq_false h2
 have := zb3.anti (nm x) (nm y)
 omega
theorem zhs {l m : List (List UInt8)} (hp : l.Perm m) : srtV l = srtV m := by
 have tr : ∀ a b c : List UInt8, decide (a ≤ b) = true → decide (b ≤ c) = true → decide (a ≤ c) = true := fun a b c h1 h2 => by
  simp only [decide_eq_true_eq] at *
  exact List.le_trans h1 h2
 have tot : ∀ a b : List UInt8, (decide (a ≤ b) || decide (b ≤ a)) = true := fun a b => by
  simp only [Bool.or_eq_true, decide_eq_true_eq]
  exact List.le_total a b
 refine List.Perm.eq_of_pairwise (le := fun a b => decide (a ≤ b) = true) (fun a b _ _ h1 h2 => ?_) (List.pairwise_mergeSort tr tot l) (List.pairwise_mergeSort tr tot m) (((zbb l).trans hp).trans (zbb m).symm)
 simp only [decide_eq_true_eq] at h1 h2
 exact List.le_antisymm h1 h2
theorem zhr {x y : Sta} (h : staC x y = 0) : x = y := by
 unfold staC at h
 obtain ⟨h1, h⟩ := zbw.1 h
 obtain ⟨h2, h⟩ := zbw.1 h
 obtain ⟨h3, h4⟩ := zbw.1 h2
 obtain ⟨h5, h⟩ := zbw.1 h
 obtain ⟨h6, h⟩ := zbw.1 h
 obtain ⟨h7, h8⟩ := zbw.1 h
 obtain ⟨v, ⟨pa, pb⟩, vi, b, di, t⟩ := x
 obtain ⟨v', ⟨pa', pb'⟩, vi', b', di', t'⟩ := y
 have e1 : v = v' := zbd.1 h1
 have e3 : pa = pa' := zdo.1 h3
 have e4 : pb = pb' := zdo.1 h4
 have e5 : vi = vi' := zdo.1 h5
 have e6 : b = b' := zkS.1 h6
 have e7 : di = di' := zdo.1 h7
 have e8 : t = t' := zdo.1 h8
 subst e1 e3 e4 e5 e6 e7 e8
 rfl
theorem zhu {l m : List Sta} (hp : l.Perm m) : St.stS ltS l = St.stS ltS m := by
 refine zfh weakS hp fun x hx y hy h1 h2 => zhr ?_
 have h1 := of_decide_eq_false h1
 have h2 := of_decide_eq_false h2
 have := zfI.anti x y
 omega
def aboutL (d : Dvc) : Dvc := ⟨d.nm, d.kd, d.vrfs.reverse, d.ifs.reverse, d.fils.reverse, d.rws, d.sts.reverse, d.pls.reverse, d.cls, d.pols.reverse, d.osp, d.bgp⟩
theorem zgK (d : Dvc) : aboutL (aboutL d) = d := by
 obtain ⟨nm, kd, vrfs, ifs, fils, rws, sts, pls, cls, pols, osp, bgp⟩ := d
 unfold aboutL
 simp only [List.reverse_reverse]
theorem zdL {d : Dvc} (h : (checkL d).2 = 0) : formL (aboutL d) = formL d := by
 obtain ⟨h1, h2, h3, h4⟩ := zlp h
 have e0 := zhs (List.reverse_perm d.vrfs).symm
 have e1 := zbP _ (List.reverse_perm d.ifs).symm h1
 have e2 := zbP _ (List.reverse_perm d.fils).symm h2
 have e3 := zbP _ (List.reverse_perm d.pls).symm h3
 have e4 := zbP _ (List.reverse_perm d.pols).symm h4
 have e5 := zhu (List.reverse_perm d.sts).symm
 unfold formL aboutL
 dsimp only
 rw [e0, e1, e2, e3, e4, e5]
theorem ze4 (d : Dvc) : (checkL (aboutL d)).2 = 0 ↔ (checkL d).2 = 0 := by
 have f : ∀ d, (checkL d).2 = 0 → (checkL (aboutL d)).2 = 0 := fun d h => by
  rw [← zc0, zdL h, zc0]; exact h
 exact ⟨fun h => by have := f _ h; rwa [zgK] at this, f d⟩
def alvL (d : Dvc) : List Int := (d.ifs.filter Ab.aliveB).map fun x => x.a
def idsO (d : Dvc) : List Int := d.osp.map fun x => x.id_
def idsB (d : Dvc) : List Int := d.bgp.map fun x => x.id_
structure SnG (l : List Dvc) : Prop where
 n : (l.map Ab.dnm).Nodup
 a : (l.flatMap alvL).Nodup
 o : (l.flatMap idsO).Nodup
 b : (l.flatMap idsB).Nodup
instance (l : List Dvc) : Decidable (SnG l) := decidable_of_iff ((l.map Ab.dnm).Nodup ∧ (l.flatMap alvL).Nodup ∧ (l.flatMap idsO).Nodup ∧ (l.flatMap idsB).Nodup) ⟨fun h => ⟨h.1, h.2.1, h.2.2.1, h.2.2.2⟩, fun h => ⟨h.n, h.a, h.o, h.b⟩⟩
def snErr (l : List Dvc) : Option (Nat × Int) := if 32 < l.length then some (32, 121) else
 match (List.range l.length).find? fun k => (l[k]?.map fun d => (checkL d).2).getD 0 != 0 with
 | some k => some (k, (l[k]?.map fun d => (checkL d).2).getD 0)
 | none => match (List.range l.length).find? fun k => !decide (SnG (l.take (k + 1))) with
  | some k => some (k, 121)
  | none => none
def snapL (l : List Dvc) : List Dvc × Nat × Int := match snErr l with
 | some (k, e) => ([], k, e)
 | none => (srtN Ab.dnm (l.map formL), 0, 0)
structure SnOk (l : List Dvc) : Prop where
 m : l.length ≤ 32
 c : ∀ d ∈ l, (checkL d).2 = 0
 g : SnG l
theorem zed {p : Nat → Bool} {n k : Nat} (hk : k < n) (h1 : ∀ j, j < k → p j = false) (h2 : p k = true) : (List.range n).find? p = some k := by
 rw [List.find?_range_eq_some]
 exact ⟨h2, List.mem_range.2 hk, fun j hj => by rw [h1 j hj]; rfl⟩
theorem zca {p : Nat → Bool} {n : Nat} (h1 : ∀ j, j < n → p j = false) : (List.range n).find? p = none := by
 rw [List.find?_eq_none]
 intro j hj
 rw [h1 j (List.mem_range.1 hj)]; decide
theorem zeg {l : List Dvc} {k : Nat} (hk : k < l.length) : (l[k]?.map fun d => (checkL d).2).getD 0 = (checkL l[k]).2 := by
 rw [List.getElem?_eq_getElem hk]; rfl
theorem zgg {l : List Dvc} (h : 32 < l.length) : snErr l = some (32, 121) := by unfold snErr; rw [if_pos h]
theorem zhz {l : List Dvc} (hm : l.length ≤ 32) {k : Nat} (hk : k < l.length) (h1 : ∀ j (hj : j < k), (checkL (l[j]'(by omega))).2 = 0) (h2 : (checkL l[k]).2 ≠ 0) : snErr l = some (k, (checkL l[k]).2) := by
 unfold snErr
 have e : ((List.range l.length).find? fun k => (l[k]?.map fun d => (checkL d).2).getD 0 != 0) = some k := zed hk (fun j hj => by rw [zeg (Nat.lt_trans hj hk), h1 j hj]; rfl) (by rw [zeg hk]; simpa using h2)
 rw [if_neg (by omega), e]
 dsimp only
 rw [zeg hk]
theorem zcg {α β : Type} (f : α → List β) : ∀ {l m : List α}, l.Sublist m → (l.flatMap f).Sublist (m.flatMap f)
 | _, _, .slnil => .slnil
 | _, _, .cons x h => by rw [List.flatMap_cons]; exact (zcg f h).trans (List.sublist_append_right _ _)
 | _, _, .cons_cons x h => by rw [List.flatMap_cons, List.flatMap_cons]; exact (List.Sublist.refl _).append (zcg f h)
theorem zfm {l : List Dvc} {k j : Nat} (h : SnG (l.take k)) (hj : j ≤ k) : SnG (l.take j) := by
 have e : l.take j = (l.take k).take j := by rw [List.take_take, Nat.min_eq_left hj]
 have s : (l.take j).Sublist (l.take k) := by rw [e]; exact List.take_sublist _ _
 exact ⟨h.n.sublist (s.map _), h.a.sublist (zcg _ s), h.o.sublist (zcg _ s), h.b.sublist (zcg _ s)⟩
theorem zd3 {l : List Dvc} (hm : l.length ≤ 32) (h1 : ∀ d ∈ l, (checkL d).2 = 0) : ((List.range l.length).find? fun k => (l[k]?.map fun d => (checkL d).2).getD 0 != 0) = none :=
 zca fun j hj => by rw [zeg hj, h1 _ (List.getElem_mem hj)]; rfl
theorem zhx {l : List Dvc} (hm : l.length ≤ 32) (h1 : ∀ d ∈ l, (checkL d).2 = 0) {k : Nat} (hk : k < l.length) (h2 : SnG (l.take k)) (h3 : ¬ SnG (l.take (k + 1))) : snErr l = some (k, 121) := by
 unfold snErr
 have e : ((List.range l.length).find? fun k => !decide (SnG (l.take (k + 1)))) = some k := zed hk (fun j hj => by rw [decide_eq_true (zfm h2 (Nat.succ_le_of_lt hj))]; rfl) (by rw [decide_eq_false h3]; rfl)
 rw [if_neg (by omega), zd3 hm h1]
 dsimp only
 rw [e]
theorem zd2 {l : List Dvc} (h : SnOk l) : snErr l = none := by
 unfold snErr
 have e : ((List.range l.length).find? fun k => !decide (SnG (l.take (k + 1)))) = none := zca fun j hj => by rw [decide_eq_true (zfm (k := l.length) (by rw [List.take_length]; exact h.g) (Nat.succ_le_of_lt hj))]; rfl
 rw [if_neg (by have := h.m; omega), zd3 h.m h.c]
 dsimp only
 rw [e]
theorem zhy (l : List Dvc) : snErr l = none ↔ SnOk l := by
 refine ⟨fun h => ?_, zd2⟩
 unfold snErr at h
 split at h
 ·cases h
 ·rename_i hm
  split at h
  ·cases h
  ·rename_i h1
   split at h
   ·cases h
   ·rename_i h2
    rw [List.find?_eq_none] at h1 h2
    have hc : ∀ d ∈ l, (checkL d).2 = 0 := fun d hd => by
     obtain ⟨k, hk, rfl⟩ := List.getElem_of_mem hd
     have := h1 k (List.mem_range.2 hk)
     rw [zeg hk] at this
     simpa using this
    refine ⟨by omega, hc, ?_⟩
    cases hl : l.length with
    | zero =>
     rw [List.length_eq_zero_iff.1 hl]
     exact ⟨List.nodup_nil, List.nodup_nil, List.nodup_nil, List.nodup_nil⟩
    | succ n =>
     have := h2 n (List.mem_range.2 (by omega))
     rw [List.take_of_length_le (by omega)] at this
     simpa using this
theorem zhA {l : List Dvc} {k : Nat} {e : Int} (h : snErr l = some (k, e)) : e ≠ 0 := by
 unfold snErr at h
 split at h
 ·cases h; decide
 ·split at h
  ·rename_i k' h1
   have h2 := List.find?_some h1
   cases h
   simpa using h2
  ·split at h
   ·cases h; decide
   ·cases h
theorem zbQ {l : List Dvc} (h : SnOk l) : snapL l = (srtN Ab.dnm (l.map formL), 0, 0) := by unfold snapL; rw [zd2 h]
theorem zik {l m : List Dvc} (hp : l.Perm m) (h : SnG l) : SnG m := ⟨(hp.map _).nodup_iff.1 h.n, (hp.flatMap_right _).nodup_iff.1 h.a, (hp.flatMap_right _).nodup_iff.1 h.o, (hp.flatMap_right _).nodup_iff.1 h.b⟩
theorem zcA {l m : List Dvc} (hp : l.Perm m) (h : SnOk l) : SnOk m := ⟨hp.length_eq ▸ h.m, fun d hd => h.c d (hp.mem_iff.2 hd), zik hp h.g⟩
theorem zez {α β : Type} {f g : α → List β} (h : ∀ x, (f x).Perm (g x)) : ∀ l : List α, (l.flatMap f).Perm (l.flatMap g)
 | [] => .refl _
 | x :: l => by rw [List.flatMap_cons, List.flatMap_cons]; exact (h x).append (zez h l)
structure Alike (g : Dvc → Dvc) : Prop where
 c : ∀ d, (checkL (g d)).2 = 0 ↔ (checkL d).2 = 0
 n : ∀ d, (g d).nm = d.nm
 a : ∀ d, (alvL (g d)).Perm (alvL d)
 o : ∀ d, idsO (g d) = idsO d
 b : ∀ d, idsB (g d) = idsB d
theorem zgV {g : Dvc → Dvc} (G : Alike g) (l : List Dvc) : SnG (l.map g) ↔ SnG l := by
 have en : (l.map g).map Ab.dnm = l.map Ab.dnm := by rw [List.map_map]; exact List.map_congr_left fun d _ => G.n d
 have ea : ((l.map g).flatMap alvL).Perm (l.flatMap alvL) := by rw [List.flatMap_map]; exact zez G.a l
 have eo : (l.map g).flatMap idsO = l.flatMap idsO := by rw [List.flatMap_map]; exact congrArg (fun f => l.flatMap f) (funext G.o)
 have eb : (l.map g).flatMap idsB = l.flatMap idsB := by rw [List.flatMap_map]; exact congrArg (fun f => l.flatMap f) (funext G.b)
 exact ⟨fun h => ⟨en ▸ h.n, ea.nodup_iff.1 h.a, eo ▸ h.o, eb ▸ h.b⟩, fun h => ⟨en.symm ▸ h.n, ea.nodup_iff.2 h.a, eo.symm ▸ h.o, eb.symm ▸ h.b⟩⟩
theorem zfl {g : Dvc → Dvc} (G : Alike g) (l : List Dvc) : SnOk (l.map g) ↔ SnOk l := by
 refine ⟨fun h => ⟨by have := h.m; rwa [List.length_map] at this, fun d hd => (G.c d).1 (h.c _ (List.mem_map.2 ⟨d, hd, rfl⟩)), (zgV G l).1 h.g⟩, fun h => ⟨by rw [List.length_map]; exact h.m, fun d hd => ?_, (zgV G l).2 h.g⟩⟩
 obtain ⟨x, hx, rfl⟩ := List.mem_map.1 hd
 exact (G.c x).2 (h.c x hx)
theorem zgH : Alike formL := ⟨zc0, fun _ => rfl, fun d => ((zF _ d.ifs).filter _).map _, fun _ => rfl, fun _ => rfl⟩
theorem zfV : Alike aboutL := ⟨ze4, fun _ => rfl, fun d => ((List.reverse_perm d.ifs).filter _).map _, fun _ => rfl, fun _ => rfl⟩
def rotL (l : List Dvc) (s : Nat) : List Dvc := l.drop s ++ l.take s
theorem zbc (l : List Dvc) (s : Nat) : (rotL l s).Perm l := by
 unfold rotL
 exact List.perm_append_comm.trans (by rw [List.take_append_drop])
theorem zft (l : List Dvc) (s : Nat) : (rotL l s).length = l.length := (zbc l s).length_eq
theorem zkb (l : List Dvc) {s i : Nat} (hs : s < l.length) (hi : i < l.length) : (rotL l s)[i]'(by rw [zft]; exact hi) = l[(i + s) % l.length]'(Nat.mod_lt _ (by omega)) := by
 unfold rotL
 by_cases h : i + s < l.length
 ·rw [List.getElem_append_left (by rw [List.length_drop]; omega)]
  simp only [List.getElem_drop, Nat.mod_eq_of_lt h]
  congr 1
  omega
 ·rw [List.getElem_append_right (by rw [List.length_drop]; omega)]
  simp only [List.getElem_take, List.length_drop]
  congr 1
  rw [Nat.mod_eq_sub_mod (by omega), Nat.mod_eq_of_lt (by omega)]
  omega
def turnL (l : List Dvc) (s : Nat) : List Dvc := (rotL l s).map aboutL
theorem zc7 (l : List Dvc) (s : Nat) : SnOk (turnL l s) ↔ SnOk l := by
 unfold turnL
 rw [zfl zfV]
 exact ⟨zcA (zbc l s), zcA (zbc l s).symm⟩
theorem zgc {l : List Dvc} (h : SnOk l) (s : Nat) : snapL (turnL l s) = snapL l := by
 rw [zbQ h, zbQ ((zc7 l s).2 h)]
 have e : (turnL l s).map formL = (rotL l s).map formL := by
  unfold turnL
  rw [List.map_map]
  exact List.map_congr_left fun d hd => zdL (h.c d ((zbc l s).mem_iff.1 hd))
 rw [e, zbP Ab.dnm ((zbc l s).map formL)]
 rw [List.map_map]
 exact ((zcA (zbc l s).symm h)).g.n
theorem zb1 {l : List Dvc} (h : SnOk l) : SnOk (srtN Ab.dnm (l.map formL)) := zcA (zF _ _).symm ((zfl zgH l).2 h)
theorem zfk {l : List Dvc} (h : SnOk l) : snapL (srtN Ab.dnm (l.map formL)) = (srtN Ab.dnm (l.map formL), 0, 0) := by
 rw [zbQ (zb1 h)]
 have e : (srtN Ab.dnm (l.map formL)).map formL = srtN Ab.dnm (l.map formL) := by
  conv => rhs; rw [← List.map_id (srtN Ab.dnm (l.map formL))]
  refine List.map_congr_left fun d hd => ?_
  obtain ⟨x, _, rfl⟩ := List.mem_map.1 ((zF _ _).mem_iff.1 hd)
  exact zgw x
 rw [e, zew]
structure SnapR (a : List Dvc) : Prop where
 n : (a.map Ab.dnm).Nodup
 i : ∀ d ∈ a, (d.ifs.map fun x : Ifx => x.nm).Nodup
 r : ∀ k (hk : k + 1 < a.length), compareBytes (a[k]'(by omega)).nm a[k + 1].nm < 0
theorem zfj {l : List Dvc} (h : SnOk l) : SnapR (srtN Ab.dnm (l.map formL)) := by
 have h1 := zb1 h
 refine ⟨h1.g.n, fun d hd => (zlp (h1.c d hd)).1, fun k hk => ?_⟩
 have hs : St.Srt (ltN Ab.dnm) (srtN Ab.dnm (l.map formL)) := St.stS_srt (weakN _) _
 have hn := h1.g.n
 generalize srtN Ab.dnm (l.map formL) = a at hs hn hk
 have h2 := List.pairwise_iff_getElem.1 hs k (k + 1) (by omega) hk (by omega)
 have h3 := of_decide_eq_false h2
 have h4 := zb3.anti a[k].nm a[k + 1].nm
 have h5 : compareBytes a[k].nm a[k + 1].nm ≠ 0 := fun h0 => by
  have := List.pairwise_iff_getElem.1 hn k (k + 1) (by rw [List.length_map]; omega) (by rw [List.length_map]; omega) (by omega)
  rw [List.getElem_map, List.getElem_map] at this
  exact this (zbd.1 h0)
 change ¬ compareBytes a[k + 1].nm a[k].nm < 0 at h3
 omega
theorem zec {α : Type} (nm : α → List UInt8) {l : List α} (hn : (l.map nm).Nodup) {k : Nat} (hk : k < l.length) : idxOf (fun x => decide (nm x = nm l[k])) l = (k : Int) := by
 refine zar _ l k hk (fun j hj => ?_) (decide_eq_true rfl)
 refine decide_eq_false fun h => ?_
 have := List.pairwise_iff_getElem.1 hn j k (by rw [List.length_map]; omega) (by rw [List.length_map]; omega) hj
 rw [List.getElem_map, List.getElem_map] at this
 exact this h
theorem zkr {α : Type} [DecidableEq α] (L : List α) (a : α) : decide (L ++ [a]).Nodup = (decide L.Nodup && !decide (a ∈ L)) := by
 rw [Bool.eq_iff_iff]
 simp only [Bool.and_eq_true, decide_eq_true_eq, Bool.not_eq_true', decide_eq_false_iff_not, List.nodup_append]
 constructor
 ·rintro ⟨h1, _, h3⟩
  exact ⟨h1, fun h => h3 a h a (List.mem_singleton.2 rfl) rfl⟩
 ·rintro ⟨h1, h2⟩
  exact ⟨h1, List.pairwise_singleton _ _, fun x hx y hy h => h2 (by rw [← List.mem_singleton.1 hy, ← h]; exact hx)⟩
theorem ziL {α : Type} [DecidableEq α] (L : List α) (a : α) : (!decide (L ++ [a]).Nodup) = (!decide L.Nodup || decide (a ∈ L)) := by
 rw [zkr]; cases decide L.Nodup <;> cases decide (a ∈ L) <;> rfl
def preA (d : Dvc) (j : Nat) : List Int := ((d.ifs.take j).filter Ab.aliveB).map fun x => x.a
theorem zlS {d : Dvc} {j : Nat} (hj : j < d.ifs.length) (h : Ab.aliveB d.ifs[j] = true) : preA d (j + 1) = preA d j ++ [d.ifs[j].a] := by
 unfold preA
 rw [List.take_succ_eq_append_getElem hj, List.filter_append, List.map_append, List.filter_cons_of_pos h]; rfl
theorem zlT {d : Dvc} {j : Nat} (hj : j < d.ifs.length) (h : Ab.aliveB d.ifs[j] = false) : preA d (j + 1) = preA d j := by
 unfold preA
 rw [List.take_succ_eq_append_getElem hj, List.filter_append, List.map_append, List.filter_cons_of_neg (by rw [h]; decide)]; simp
theorem ziz (d : Dvc) : preA d d.ifs.length = alvL d := by unfold preA alvL; rw [List.take_length]
theorem zbs {β : Type} (f : Dvc → List β) {l : List Dvc} {k : Nat} (hk : k < l.length) : (l.take (k + 1)).flatMap f = (l.take k).flatMap f ++ f l[k] := by
 rw [List.take_succ_eq_append_getElem hk, List.flatMap_append, List.flatMap_cons, List.flatMap_nil, List.append_nil]
theorem zil {l : List Dvc} {k : Nat} (hk : k < l.length) : (!decide (SnG (l.take (k + 1)))) = (((!decide ((l.take k).map Ab.dnm ++ [l[k].nm]).Nodup || !decide ((l.take k).flatMap alvL ++ alvL l[k]).Nodup) || !decide ((l.take k).flatMap idsO ++ idsO l[k]).Nodup) || !decide ((l.take k).flatMap idsB ++ idsB l[k]).Nodup) := by
 have en : (l.take (k + 1)).map Ab.dnm = (l.take k).map Ab.dnm ++ [l[k].nm] := by rw [List.take_succ_eq_append_getElem hk, List.map_append]; rfl
 have e : SnG (l.take (k + 1)) ↔ (((l.take k).map Ab.dnm ++ [l[k].nm]).Nodup ∧ ((l.take k).flatMap alvL ++ alvL l[k]).Nodup ∧ ((l.take k).flatMap idsO ++ idsO l[k]).Nodup ∧ ((l.take k).flatMap idsB ++ idsB l[k]).Nodup) := by
  rw [← en, ← zbs alvL hk, ← zbs idsO hk, ← zbs idsB hk]
  exact ⟨fun h => ⟨h.n, h.a, h.o, h.b⟩, fun h => ⟨h.1, h.2.1, h.2.2.1, h.2.2.2⟩⟩
 rw [Bool.eq_iff_iff]
 simp only [Bool.not_eq_true', decide_eq_false_iff_not, Bool.or_eq_true, e]
 by_cases h1 : ((l.take k).map Ab.dnm ++ [l[k].nm]).Nodup <;> by_cases h2 : ((l.take k).flatMap alvL ++ alvL l[k]).Nodup <;> by_cases h3 : ((l.take k).flatMap idsO ++ idsO l[k]).Nodup <;> by_cases h4 : ((l.take k).flatMap idsB ++ idsB l[k]).Nodup <;> simp only [h1, h2, h3, h4, and_true, true_and, and_false, false_and, not_true_eq_false, not_false_eq_true, or_true, true_or, or_false, false_or]
theorem zdQ {β : Type} (f : Dvc → List β) {B : Nat} : ∀ l : List Dvc, (∀ d ∈ l, (f d).length ≤ B) → (l.flatMap f).length ≤ l.length * B
 | [], _ => by simp
 | d :: l, h => by
  rw [List.flatMap_cons, List.length_append, List.length_cons, Nat.add_mul]
  have := h d (List.mem_cons_self ..)
  have := zdQ f l fun x hx => h x (List.mem_cons_of_mem _ hx)
  omega
end Go.Proofs.YtoahnbmedcjpeaaGreatDoor

/-
 Texts of a proof, one behind the other (part 32).
-/
import Derived.Test.YtoahnbmedcjpeaaGreatDoorMn3
import Derived.Test.YtoahnbmedcjpeaaGreatDoorMn19
import Derived.Test.YtoahnbmedcjpeaaGreatDoorMn30
set_option linter.unusedSimpArgs false
set_option linter.unusedVariables false
namespace Go.Proofs.YtoahnbmedcjpeaaGreatDoor
set_option maxRecDepth 100000
open Go.RowKit Go.Sort Go.Lib Go.Shelf
def strVs (l : List (List UInt8)) : List Value := l.map fun s => Value.string ⟨⟨s⟩⟩
theorem zdo (l : List (List UInt8)) : (strVs l).length = l.length := List.length_map _
theorem zd2 (l : List (List UInt8)) : (srtV l).length = l.length := (zfR l).length_eq
theorem zik (d : List (List UInt8)) (cur : Array Value) (h : d.length ≤ cur.size) : (putCells encStr 0 d.toArray cur).toList.take d.length = strVs d := by
 apply List.ext_getElem?
 intro j
 by_cases hj : j < d.length
 ·rw [List.getElem?_take_of_lt hj, Array.getElem?_toList]
  simp [putCells, strVs, hj, show j < cur.size by omega]
 ·rw [List.getElem?_take_eq_none (by omega), List.getElem?_eq_none (by rw [zdo]; omega)]
theorem zfT (l : List (List UInt8)) (w : World) (base g cap : Nat) (cur : Array Value) (el : TypeId) (hb : base ≤ g) (hg : w.heap[g]? = some (.cells cur el (0, 0))) (hcap : l.length ≤ cap) (hmax : cap ≤ maxLen) (hsz : cur.size = cap * 1) (ht : cur.toList.take (l.length * 1) = strVs l) (hn : l.length < 4611686018427387904) :
  Calls Tryz.prog 75 #[.slice (some ⟨g, 0, none⟩) l.length cap] w fun e w' => e = .returned (.tuple #[]) ∧ w'.ownsRow base el 1 (.slice (some ⟨g, 0, none⟩) l.length cap) l.length (strVs (srtV l)) ∧ Ab.Wrote w (.slice (some ⟨g, 0, none⟩) l.length cap) w' := by
 rw [Nat.mul_one] at hsz ht
 have hlt : g < w.heap.size := (Array.getElem?_eq_some_iff.1 hg).1
 have hH : Holds encStr w g 0 l.toArray := fun j hj => by
  have hj : j < l.length := by simpa using hj
  have h1 : cur[j]? = some (Value.string ⟨⟨l[j]⟩⟩) := by
   have : (cur.toList.take l.length)[j]? = (strVs l)[j]? := by rw [ht]
   rw [List.getElem?_take_of_lt hj, Array.getElem?_toList] at this
   rw [this]
   simp [strVs, hj]
  rw [Nat.zero_add]
  refine ⟨?_, ?_⟩
  ·unfold World.cell?
   rw [hg]
   simp [h1, hj]
  ·simp [World.frozen?, hg]
 refine (Any.slices_Sort_string Tryz.laysSortS g 0 cap l w hH hlt hn).mono ?_
 rintro e w' ⟨rfl, n, os, rfl⟩
 have hw : ∀ r, r < w.heap.size → (grow (putRow encStr (Sort.ahead w n) g 0 (srtV l).toArray) os).heap[r]? = (w.heap[r]?).map (fun o => if r = g then onCells (putCells encStr 0 (srtV l).toArray) o else o) := fun r hr => by
  rw [Go.Sort.heap_grow_old _ _ (by simpa [putRow, mapBlock, Sort.ahead] using hr)]
  by_cases h : g = r
  ·subst h; simp [putRow, mapBlock, Sort.ahead, Array.getElem?_modify]
  ·have h2 : ¬ r = g := fun e => h e.symm
   simp [putRow, mapBlock, Sort.ahead, Array.getElem?_modify, h, h2]
 have hl := zd2 l
 refine ⟨rfl, ⟨by rw [zdo, hl, Nat.mul_one], .inr ⟨g, cap, putCells encStr 0 (srtV l).toArray cur, rfl, hb, ?_, hcap, hmax, by simp [putCells, hsz], ?_⟩⟩, ⟨rfl, rfl, rfl, ?_, fun r hr hne => ?_⟩⟩
 ·refine (hw g hlt).trans ?_
  rw [hg]
  simp [onCells]
 ·rw [Nat.mul_one, ← hl]
  exact zik _ _ (by omega)
 ·simp [grow, putRow, mapBlock, Sort.ahead]
 ·refine (hw r hr).trans ?_
  have h2 : ¬ r = g := fun e => hne (by rw [e]; rfl)
  simp [h2]
namespace Ab
attribute [local irreducible] AWp AOps AQ AYield AEff ACall AWk AAny AAt AThen AIn APost NoPanic
abbrev nilV : AVal := .d (.sc (.slice none 0 0))
theorem zjN : ACall Tryz.prog 163 [.d (.sc (.int .u64 0))] [] (Just (intA 0)) := zaP (by kernel_rfl) rfl rfl rfl fun w => (Any.bits_Len (P := Tryz.prog) (ρ := Tryz.laysSortS_ren) { Tryz.laysSortS with } 0 w (by omega) (by omega)).mono fun _ _ ⟨he, hw⟩ => ⟨he, by rw [hw]; exact Below.refl _ _⟩
theorem zjR : ACall Tryz.prog 219 [nilV, intA 0, intA 0] [] (Just (.tup [])) := by
 refine zc za Tryz.func219 rfl Tryz.ntmps219 (congrArg Array.toList Tryz.results219) (by kernel_rfl) rfl ?_
 repeat (first | refine q_Y ?_ | ((first | apply q_K rfl | apply q_X rfl); (exact q_H)) | refine q_U ?_)
 refine zw (fun _ : Unit => [(0, nilV), (1, intA 0), (2, intA 0), (6, intA 1)]) (fun _ => []) (fun _ => True) (fun _ => 0) () trivial (q_S) ?_
 intro _ _
 repeat (first | refine q_Y ?_ | ((first | apply q_K rfl | apply q_X rfl); (exact q_H)) | refine q_U ?_)
 exact zal AWk.refl rfl (h2 := []) trivial ⟨rfl, rfl⟩
theorem zjx : ACall Tryz.prog 162 [nilV, intA 0, intA 0, intA 0] [] (Just (.tup [])) := by
 refine zc za Tryz.func162 rfl Tryz.ntmps162 (congrArg Array.toList Tryz.results162) (by kernel_rfl) rfl ?_
 repeat (first | refine q_Y ?_ | ((first | apply q_K rfl | apply q_X rfl); (exact q_H)) | refine q_U ?_)
 refine zw (fun _ : Unit => [(0, nilV), (1, intA 0), (2, intA 0)]) (fun _ => []) (fun _ => True) (fun _ => 0) () trivial (q_S) ?_
 intro _ _
 repeat (first | refine q_Y ?_ | ((first | apply q_K rfl | apply q_X rfl); (exact q_H)) | refine q_U ?_ | refine q_O zjR ?_)
 exact zt AWk.refl rfl (h2 := []) trivial ⟨rfl, rfl⟩
theorem zfU : ACall Tryz.prog 75 [nilV] [] (Just (.tup [])) := by
 refine zc za Tryz.func75 rfl Tryz.ntmps75 (congrArg Array.toList Tryz.results75) (by kernel_rfl) rfl ?_
 repeat (first | refine q_Y ?_ | ((first | apply q_K rfl | apply q_X rfl); (first | exact q_H | (first | exact q_16 | exact zeJ (n := 0) za rfl rfl rfl rfl rfl))) | refine q_U ?_ | (first | refine q_O zjN ?_ | refine q_O zjx ?_))
 exact zal AWk.refl rfl (h2 := []) trivial ⟨rfl, rfl⟩
theorem zh6 (l : List (List UInt8)) (hn : l.length < 4611686018427387904) :
  ACall Tryz.prog 75 [.row 1000] [(1000, gR 9 1 s1D l)] (fun c h => c = .tup [] ∧ h = [(1000, gR 9 1 s1D (srtV l))]) := by
 unfold ACall
 refine ⟨by kernel_rfl, fun Pm F w0 pin ι us w H HA => ?_⟩
 obtain ⟨v, hv, xs, hown, hxl, hxr⟩ := H.blk 1000 _ rfl
 have hflat : ∀ m : List (List UInt8), m.flatMap s1D = (strVs m).map Dat.sc := fun m => by
  unfold strVs
  induction m with
  | nil => rfl
  | cons s m ih => rw [List.flatMap_cons, ih]; rfl
 have hval : ∀ (m : List (List UInt8)) (xs : List Value), xs.length = (m.flatMap s1D).length → (∀ (i : Nat) (c : Dat) (u : Value), (m.flatMap s1D)[i]? = some c → xs[i]? = some u → DRel w (FreeB F ι) c u) → xs = strVs m := fun m xs h1 h2 => by
  have hlen : (m.flatMap s1D).length = (strVs m).length := by rw [hflat, List.length_map]
  apply List.ext_getElem?
  intro i
  by_cases hi : i < xs.length
  ·have h3 := h2 i (.sc (strVs m)[i]) xs[i] (by rw [hflat, List.getElem?_map, List.getElem?_eq_getElem (by omega)]; rfl) (List.getElem?_eq_getElem hi)
   rw [List.getElem?_eq_getElem hi, List.getElem?_eq_getElem (by omega)]
   congr 1
   generalize xs[i] = u0 at h3 ⊢
   generalize (strVs m)[i] = v0 at h3 ⊢
   cases h3
   rfl
  ·rw [List.getElem?_eq_none (by omega), List.getElem?_eq_none (by omega)]
 have hxs := hval l xs hxl hxr
 subst hxs
 have hus : us = #[v] := by
  have hsz : us.size = 1 := HA.1
  obtain ⟨u0, rfl⟩ : ∃ u0, us = #[u0] := ⟨us[0], by
   apply Array.ext
   ·simp [hsz]
   ·intro i h1 h2
    have : i = 0 := by omega
    subst this; rfl⟩
  have h0 := HA.2 0 _ u0 rfl rfl
  cases h0 with
  | row _ _ _ h3 => rw [h3 v hv]
 subst hus
 have hlen := zd2 l
 have close : ∀ (w' : World) (h' : Heap), HRel Pm F w0 pin ι ((1000, gR 9 1 s1D (srtV l)) :: [(1000, gR 9 1 s1D l)]) w' → HRel Pm F w0 pin ι [(1000, gR 9 1 s1D (srtV l))] w' := fun w' _ HB => by
  have := HB.only (h' := [(1000, gR 9 1 s1D (srtV l))]) fun id b hb => by
   by_cases hid : 1000 = id
   ·subst hid; exact hb
   ·rw [zd _ _ hid] at hb; cases hb
  have e : Ab.only [(1000, gR 9 1 s1D (srtV l))] ι = ι := funext fun id => by
   unfold Ab.only
   split
   ·rfl
   ·rename_i hn2
    cases hi : ι id with
    | none => rfl
    | some v' =>
     obtain ⟨b, hb⟩ := H.dom id v' hi
     by_cases hid : 1000 = id
     ·subst hid; exact absurd rfl hn2
     ·rw [zd _ _ hid] at hb; cases hb
  rw [e] at this
  exact this
 obtain ⟨h0, ⟨rfl, h1⟩ | ⟨g, cap, cur, rfl, hb, hg, hcap, hmax, hsz, ht⟩⟩ := id hown
 ·have : l = [] := List.eq_nil_of_length_eq_zero h1
  subst this
  have hF : ∀ r, Fc F ι r → r < w.heap.size := fun r hr => hr.elim (fun h1 => Nat.lt_of_lt_of_le (H.forb r h1) H.size) fun ⟨id, v, h1, h2⟩ => H.lt h1 h2
  have hN := zfU
  unfold ACall at hN
  refine (hN.2 _ _ w _ _ _ w (HRel.none (Fc F ι) w hF H.glob) ⟨rfl, fun i c u g1 g2 => ?_⟩).mono ?_
  ·match i, g1, g2 with
   | 0, g1, g2 => cases g1; cases g2; exact .d _ _ (.sc _ rfl)
  ·rintro x w2 ⟨u, c', h', ι', rfl, ⟨rfl, rfl⟩, hH, hvv⟩
   have hu : u = .tuple #[] := zaa hvv rfl
   subst hu
   have e0 : srtV [] = [] := by unfold srtV; simp
   rw [e0]
   exact ⟨_, .tup [], _, ι, rfl, ⟨rfl, rfl⟩, H.grew hH.grewC, .tup _ _ rfl (by simp)⟩
 ·refine (zfT l w 0 g cap cur _ (Nat.zero_le _) hg hcap hmax hsz ht hn).mono ?_
  rintro x w' ⟨rfl, hown', hW⟩
  refine ⟨.tuple #[], .tup [], _, ι, rfl, ⟨rfl, rfl⟩, ?_, .tup _ _ rfl (by simp)⟩
  refine close w' [] (H.wrote hW hv (b' := gR 9 1 s1D (srtV l)) ⟨strVs (srtV l), ?_, ?_, fun i c u h1 h2 => ?_⟩)
  ·rw [hlen]; exact hown'
  ·rw [hflat, List.length_map]
  ·rw [hflat, List.getElem?_map, h2] at h1
   cases h1
   refine .sc u ?_
   have : u ∈ strVs (srtV l) := List.mem_of_getElem? h2
   unfold strVs at this
   obtain ⟨p, _, rfl⟩ := List.mem_map.1 this
   rfl
end Ab
end Go.Proofs.YtoahnbmedcjpeaaGreatDoor

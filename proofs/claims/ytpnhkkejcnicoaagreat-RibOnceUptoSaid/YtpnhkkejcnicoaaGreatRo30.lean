/-
  Texts of a proof, one behind the other (part 31).
-/
import Derived.Shelf.SlSortCmp.WholeK
import Derived.Sort.LotA
import Derived.Test.YtpnhkkejcnicoaaGreatRo1
import Derived.Test.YtpnhkkejcnicoaaGreatRo3
import Derived.Test.YtpnhkkejcnicoaaGreatRo4
import Derived.Test.YtpnhkkejcnicoaaGreatRo6
import Derived.Test.YtpnhkkejcnicoaaGreatRo29
set_option linter.unusedVariables false
set_option linter.unusedSimpArgs false
namespace Go.Proofs.YtpnhkkejcnicoaaGreat
set_option linter.unusedVariables false
set_option maxRecDepth 100000
open Go.RowKit Go.Sort Go.Shelf
section
variable {α : Type} [Inhabited α] (enc : α → List Value) (k : Nat)
theorem flat_get (hk : ∀ x, (enc x).length = k) (l : List α) (t : Nat) (h : t < l.length * k) : (l.flatMap enc)[t]? = some (enc l[t / k]!)[t % k]! := by
  have k0 : 0 < k := by rcases Nat.eq_zero_or_pos k with h0 | h0; · subst h0; simp at h
                        · exact h0
  induction l generalizing t with
  | nil => simp at h
  | cons x l ih =>
    rw [List.flatMap_cons]
    rcases Nat.lt_or_ge t k with h1 | h1
    · rw [List.getElem?_append_left (by rw [hk]; exact h1), Nat.div_eq_of_lt h1, Nat.mod_eq_of_lt h1]
      simp [hk, h1]
    · rw [List.getElem?_append_right (by rw [hk]; exact h1), hk]
      have e1 : t = (t - k) + k := by omega
      have e2 : t / k = (t - k) / k + 1 := by conv => lhs; rw [e1]; rw [Nat.add_div_right _ k0]
      have e3 : t % k = (t - k) % k := by conv => lhs; rw [e1]; rw [Nat.add_mod_right]
      rw [e2, e3, ih (t - k) (by simp [Nat.add_mul] at h; omega)]
      simp
theorem flat_len (hk : ∀ x, (enc x).length = k) (l : List α) : (l.flatMap enc).length = l.length * k := by
  induction l with
  | nil => exact (fun (_ : α) => by simp) (default : α)
  | cons x l ih => rw [List.flatMap_cons, List.length_append, ih, hk]; simp [Nat.add_mul]; omega
theorem flat_toList (hk : ∀ x, (enc x).length = k) (d : Array α) : (flatK enc k d).toList = d.toList.flatMap enc := by
  apply List.ext_getElem?
  intro t
  by_cases ht : t < d.size * k
  · rw [flat_get enc k hk d.toList t (by simpa using ht), Array.getElem?_toList]
    have h1 : t < (flatK enc k d).size := by simpa using ht
    rw [Array.getElem?_eq_getElem h1]
    have := get_flatK enc k d t ht
    rw [getElem!_pos _ t h1] at this
    rw [this]
    have e9 : d[t / k]! = d.toList[t / k]! := by rw [← Array.getElem!_toList]
    rw [e9]
  · rw [List.getElem?_eq_none (by simp; omega), List.getElem?_eq_none (by rw [flat_len enc k hk]; simp; omega)]
variable {w : World} {base g n cap : Nat} {e : TypeId} {os : Array Obj} {cur : Array Value}
theorem holds_of_owns (hk : ∀ x, (enc x).length = k) (l : List α) (hg : w.heap[g]? = some (.cells cur e (0, 0))) (ht : cur.toList.take (l.length * k) = l.flatMap enc) (hs : l.length * k ≤ cur.size) : HoldsK enc k w g 0 l.toArray := by
  intro j hj
  have hj' : j < l.length * k := by simpa using hj
  have e1 : (flatK enc k l.toArray)[j]! = (enc l[j / k]!)[j % k]! := by
    rw [get_flatK _ _ _ _ (by simpa using hj')]; simp
  have e2 := flat_get enc k hk l j hj'
  rw [← ht, List.getElem?_take_of_lt hj', Array.getElem?_toList] at e2
  rw [Nat.zero_add]
  refine ⟨?_, ?_⟩
  · rw [cell_of_row w g j cur e (0, 0) hg, e1, e2]; rfl
  · simp [World.frozen?, hg]
theorem heap_of_sort (d : Array α) {fr : Nat × Nat} (hb : w.heap[g]? = some (.cells cur e fr)) :
    (sortWorldK enc k w g 0 n d os).heap[g]? = some (.cells (putCells id 0 (flatK enc k d) cur) e fr) := by
  have hg : g < w.heap.size := (Array.getElem?_eq_some_iff.1 hb).1
  unfold sortWorldK putRowK
  rw [heap_grow_old _ _ (by simpa using hg)]
  simp [putRow, mapBlock, Sort.ahead, Array.getElem?_modify, hb, onCells]
theorem wrote_sort (d : Array α) {v : Value} (hv : Ab.blockOf v = some g) : Ab.Wrote w v (sortWorldK enc k w g 0 n d os) := by
  refine ⟨rfl, rfl, rfl, ?_, fun j hj hne => ?_⟩
  · unfold sortWorldK putRowK; simp
  · unfold sortWorldK putRowK
    rw [heap_grow_old _ _ (by simpa using hj)]
    have : g ≠ j := fun e => hne (by rw [hv, e])
    simp [putRow, mapBlock, Sort.ahead, Array.getElem?_modify, this]
theorem take_put (F : Array Value) (h : F.size ≤ cur.size) : (putCells id 0 F cur).toList.take F.size = F.toList := by
  apply List.ext_getElem?
  intro j
  by_cases hj : j < F.size
  · rw [List.getElem?_take_of_lt hj, Array.getElem?_toList]
    simp [putCells, hj, show j < cur.size by omega]
  · rw [List.getElem?_take_eq_none (by omega), List.getElem?_eq_none (by simp; omega)]
theorem owns_of_sort (hk : ∀ x, (enc x).length = k) (d : Array α) (hbase : base ≤ g) (hb : w.heap[g]? = some (.cells cur e (0, 0))) (h1 : d.size ≤ cap) (h2 : cap ≤ maxLen) (h3 : cur.size = cap * k) :
    (sortWorldK enc k w g 0 n d os).ownsRow base e k (.slice (some ⟨g, 0, none⟩) d.size cap) d.size (d.toList.flatMap enc) := by
  refine ⟨by rw [flat_len enc k hk]; simp, .inr ⟨g, cap, _, rfl, hbase, heap_of_sort enc k d hb, h1, h2, by simp [putCells, h3], ?_⟩⟩
  have := take_put (cur := cur) (flatK enc k d) (by rw [size_flatK, h3]; exact Nat.mul_le_mul_right k h1)
  rw [size_flatK] at this
  rw [this, flat_toList enc k hk]
end
theorem swo_of {α : Type} {cf : α → α → Int} (G : Good cf) : SWO (ltOf cf) := by
  refine ⟨fun x => ?_, fun x y z h1 h2 => ?_, fun x y z h1 h2 => ?_⟩
  · simp only [ltOf, decide_eq_false_iff_not]
    rw [G.refl]
    omega
  · simp only [ltOf, decide_eq_true_eq] at *
    exact G.lt_lt h1 h2
  · simp only [ltOf, decide_eq_false_iff_not] at *
    have e1 := G.anti x y
    have e2 := G.anti y z
    have e3 := G.anti x z
    have := G.trans z y x (by omega) (by omega)
    omega
theorem tot_of {α : Type} {cf : α → α → Int} (G : Good cf) (hz : ∀ x y, cf x y = 0 → x = y) (x y : α) (h1 : ltOf cf x y = false) (h2 : ltOf cf y x = false) : x = y := by
  simp only [ltOf, decide_eq_false_iff_not] at *
  have := G.anti x y
  exact hz x y (by omega)
theorem world_grown {w w' : World} (G : Ab.Grew w w') (hd : w.drawn ≤ w'.drawn) : ∃ n os, w' = grow (w.drewN n) os := by
  refine ⟨w'.drawn - w.drawn, w'.heap.extract w.heap.size w'.heap.size, ?_⟩
  have h1 := G.os
  have h2 := G.tape
  have h3 := G.output
  have h4 := G.size
  have h5 := G.mem
  obtain ⟨hp, tp, dr, os, ot⟩ := w
  obtain ⟨hp', tp', dr', os', ot'⟩ := w'
  dsimp only at h1 h2 h3 h4 h5 hd
  subst h1 h2 h3
  have e1 : hp' = hp ++ hp'.extract hp.size hp'.size := by
    apply Array.ext_getElem?
    intro i
    by_cases hi : i < hp.size
    · rw [Array.getElem?_append_left hi]
      exact h5 i hi
    · rw [Array.getElem?_append_right (by omega), Array.getElem?_extract]
      split
      · congr 1; omega
      · exact Array.getElem?_eq_none (by omega)
  show World.mk .. = World.mk ..
  dsimp only [World.drewN]
  have e2 : dr' = dr + (dr' - dr) := by omega
  rw [← e1, ← e2]
namespace Ab
section
variable {P : Program} {ρ : Ren} {α : Type} [Inhabited α]
theorem cmpLays_of {g : FuncId} {enc : α → List Value} {k : Nat} {cf : α → α → Int} {eA : α → AVal} (hvA : ∀ x, valA (eA x) = some (.agg (enc x).toArray)) (hoA : ∀ x, oneA (eA x) = true)
    (HC : ∀ x y, ACall P g [eA x, eA y] [] (Just (.d (.sc (.int .i64 (cf x y)))))) (blk off size : Nat) (w : World) : CmpLays P g #[] enc k cf blk off size w := by
  intro m os dk hs x y
  generalize sortWorldK enc k w blk off m dk os = W
  have H2 := (HC x y).2 (fun r => W.heap.size ≤ r) (fun _ => False) W (fun _ => none) (fun _ => none) (#[.agg (enc x).toArray, .agg (enc y).toArray] ++ #[]) W (HRel.none _ W (fun _ h => h.elim)) ⟨rfl, fun i c u h1 h2 => by
    match i, h1, h2 with
    | 0, h1, h2 => cases h1; cases h2; exact val_mk _ _ _ _ _ (hvA x) (hoA x)
    | 1, h1, h2 => cases h1; cases h2; exact val_mk _ _ _ _ _ (hvA y) (hoA y)⟩
  refine (Calls.drawn H2).mono ?_
  rintro e w' ⟨⟨u, c, h', ι', rfl, ⟨rfl, rfl⟩, hH, hv⟩, hd⟩
  obtain ⟨rfl, _⟩ := sc_of hv
  exact ⟨rfl, world_grown hH.grewC (hd (by simp))⟩
theorem vals_of {w : World} {Fr : Nat → Prop} : ∀ (vs xs : List Value), xs.length = vs.length → (∀ (i : Nat) (c : Dat) (u : Value), (vs.map Dat.sc)[i]? = some c → xs[i]? = some u → DRel w Fr c u) → xs = vs := fun vs xs h1 h2 => by
  apply List.ext_getElem?
  intro i
  by_cases hi : i < xs.length
  · have h3 := h2 i (.sc vs[i]) xs[i] (by rw [List.getElem?_map, List.getElem?_eq_getElem (by omega)]; rfl) (List.getElem?_eq_getElem hi)
    rw [List.getElem?_eq_getElem hi, List.getElem?_eq_getElem (by omega)]
    congr 1
    generalize xs[i] = u0 at h3 ⊢
    generalize (vs[i]'(by omega)) = v0 at h3 ⊢
    cases h3
    rfl
  · rw [List.getElem?_eq_none (by omega), List.getElem?_eq_none (by omega)]
theorem sortG (L : SlLaysF0.n6 P ρ) {f el : Nat} {k : Nat} (hf : ρ.f 6 = f) (hgo : isGo P f = true) (aE : ∀ w, (isAgg (ρ.t 24)).run P w = .ok true w) (zE : ∀ w, (Go.sizeOf (ρ.t 24)).run P w = .ok k w)
    {enc : α → List Value} (hk : ∀ x, (enc x).length = k) (h1 : ∀ x, ∀ v ∈ enc x, v.oneCell' = true) {eA : α → AVal} (hvA : ∀ x, valA (eA x) = some (.agg (enc x).toArray)) (hoA : ∀ x, oneA (eA x) = true)
    {eD : α → List Dat} (hD : ∀ x, eD x = (enc x).map Dat.sc) {cf : α → α → Int} (G : Good cf) (hz : ∀ x y, cf x y = 0 → x = y) {g : FuncId} (HC : ∀ x y, ACall P g [eA x, eA y] [] (Just (.d (.sc (.int .i64 (cf x y))))))
    (hnil : ∀ w, Calls P f #[.slice none 0 0, .func (.func g) #[] #[]] w fun e w' => e = .returned (.tuple #[]) ∧ w' = w) (l : List α) (hn : l.length ≤ 2147483648) :
    ACall P f [.row 1000, .fn g []] [(1000, .row el k l.length (l.flatMap eD))] (fun c h => c = .tup [] ∧ h = [(1000, .row el k l.length ((srt cf l).flatMap eD))]) := by
  refine ⟨hgo, fun Pm F w0 pin ι us w H HA => ?_⟩
  obtain ⟨v, hv, xs, hown, hxl, hxr⟩ := H.blk 1000 _ rfl
  have hmap : ∀ m : List α, m.flatMap eD = (m.flatMap enc).map Dat.sc := fun m => by
    rw [List.map_flatMap]
    congr 1
    exact funext hD
  rw [hmap] at hxl hxr
  have hxs := vals_of (l.flatMap enc) xs (by rw [hxl, List.length_map]) hxr
  subst hxs
  have hus : us = #[v, .func (.func g) #[] #[]] := by
    have hsz : us.size = 2 := HA.1
    obtain ⟨u0, u1, rfl⟩ : ∃ u0 u1, us = #[u0, u1] := ⟨us[0], us[1], by apply Array.ext <;> simp [hsz]; intro i h1 h2; match i with | 0 => rfl | 1 => rfl | i + 2 => omega⟩
    have h0 := HA.2 0 _ u0 rfl rfl
    have h1 := HA.2 1 _ u1 rfl rfl
    cases h0 with
    | row _ _ _ h3 =>
      cases h1 with
      | fn _ _ C hl _ =>
        have : C = #[] := Array.eq_empty_of_size_eq_zero hl
        rw [h3 v hv, this]
  subst hus
  have hlen : (srt cf l).length = l.length := srt_len l
  have key : Calls P f #[v, .func (.func g) #[] #[]] w fun e w' => e = .returned (.tuple #[]) ∧ w'.ownsRow 0 el k v l.length ((srt cf l).flatMap enc) ∧ Wrote w v w' := by
    obtain ⟨h0, ⟨rfl, h3⟩ | ⟨gb, cap, cur, rfl, hb, hg, hcap, hmax, hsz, ht⟩⟩ := hown
    · have : l = [] := List.eq_nil_of_length_eq_zero h3
      subst this
      refine (hnil w).mono ?_
      rintro e w' ⟨rfl, rfl⟩
      have e0 : srt cf [] = [] := List.eq_nil_of_length_eq_zero hlen
      rw [e0]
      exact ⟨rfl, World.ownsRow_nil _ _ _ _, rfl, rfl, rfl, Nat.le_refl _, fun _ _ _ => rfl⟩
    · have hH := holds_of_owns enc k hk l hg ht (by rw [hsz]; exact Nat.mul_le_mul_right k hcap)
      refine (hf ▸ AnyQ.slices_SortFunc L k aE zE enc hk h1 cf (swo_of G) g #[] gb 0 cap l.toArray w (fun args W => run_isGo (HC default default).1 args W) (cmpLays_of hvA hoA HC _ _ _ _) hH (Array.getElem?_eq_some_iff.1 hg).1 (by simp; omega)).mono ?_
      rintro e w' ⟨rfl, d', n, os, hp, hs, rfl⟩
      have e1 : d'.toList = srt cf l := sorted_unique_holds (swo_of G) (tot_of G hz) l.toArray d' hp hs
      have e2 : d'.size = l.length := by rw [hp.1]; simp
      refine ⟨rfl, ?_, wrote_sort enc k d' rfl⟩
      have := owns_of_sort (os := os) (n := n) enc k hk d' hb hg (by rw [e2]; exact hcap) hmax hsz
      rw [e2, e1] at this
      exact this
  refine key.mono ?_
  rintro x w' ⟨rfl, hown', hW⟩
  refine ⟨.tuple #[], .tup [], _, ι, rfl, ⟨rfl, rfl⟩, ?_, .tup _ _ rfl (by simp)⟩
  have HB := H.wrote hW hv (b' := .row el k l.length ((srt cf l).flatMap eD)) ⟨(srt cf l).flatMap enc, hown', by rw [hmap, List.length_map], fun i c u h1' h2 => ?_⟩
  · have := HB.only (h' := [(1000, .row el k l.length ((srt cf l).flatMap eD))]) fun id b hb => by
      by_cases hid : 1000 = id
      · subst hid; exact hb
      · rw [look_cons_ne _ _ hid] at hb; cases hb
    have e : Ab.only [(1000, ABlk.row el k l.length ((srt cf l).flatMap eD))] ι = ι := funext fun id => by
      unfold Ab.only
      split
      · rfl
      · rename_i hn2
        cases hi : ι id with
        | none => rfl
        | some v' =>
          obtain ⟨b, hb⟩ := H.dom id v' hi
          by_cases hid : 1000 = id
          · subst hid; exact absurd rfl hn2
          · rw [look_cons_ne _ _ hid] at hb; cases hb
    rw [e] at this
    exact this
  · rw [hmap, List.getElem?_map, h2] at h1'
    cases h1'
    obtain ⟨p, _, hp⟩ := List.mem_flatMap.1 (List.mem_of_getElem? h2)
    exact .sc u (h1 p u hp)
end
end Ab
end Go.Proofs.YtpnhkkejcnicoaaGreat

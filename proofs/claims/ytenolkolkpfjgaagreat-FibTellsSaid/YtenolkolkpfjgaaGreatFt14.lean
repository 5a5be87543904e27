/-
  Texts of a proof, one behind the other (part 15).
-/
import Derived.Shelf.SlSortCmp.WholeK
import Derived.Sort.LotA
import Derived.Test.YtenolkolkpfjgaaGreatFt0
import Derived.Test.YtenolkolkpfjgaaGreatFt1
import Derived.Test.YtenolkolkpfjgaaGreatFt2
import Derived.Test.YtenolkolkpfjgaaGreatFt5
import Derived.Test.YtenolkolkpfjgaaGreatFt8
import Derived.Test.YtenolkolkpfjgaaGreatFt13
set_option linter.unusedVariables false
set_option linter.unusedSimpArgs false
namespace Go.Proofs.YtenolkolkpfjgaaGreat
set_option linter.unusedVariables false
set_option maxRecDepth 100000
open Go.RowKit Go.Sort Go.Shelf
section
variable {α : Type} [Inhabited α] (enc : α → List Value) (k : Nat)
theorem flat_get (hk : ∀ x, (enc x).length = k) (l : List α) (t : Nat) (h : t < l.length * k) : (l.flatMap enc)[t]? = some (enc l[t / k]!)[t % k]! := by
  have k0 : 0 < k := by rcases Nat.eq_zero_or_pos k with h0 | h0; · subst h0; simp at h
                        · exact h0
  induction l generalizing t with
  | nil => simp at h
  | cons x l ih =>
    rw [List.flatMap_cons]
    rcases Nat.lt_or_ge t k with h1 | h1
    · rw [List.getElem?_append_left (by rw [hk]; exact h1), Nat.div_eq_of_lt h1, Nat.mod_eq_of_lt h1]
      simp [hk, h1]
    · rw [List.getElem?_append_right (by rw [hk]; exact h1), hk]
      have e1 : t = (t - k) + k := by omega
      have e2 : t / k = (t - k) / k + 1 := by conv => lhs; rw [e1]; rw [Nat.add_div_right _ k0]
      have e3 : t % k = (t - k) % k := by conv => lhs; rw [e1]; rw [Nat.add_mod_right]
      rw [e2, e3, ih (t - k) (by simp [Nat.add_mul] at h; omega)]
      simp
theorem flat_len (hk : ∀ x, (enc x).length = k) (l : List α) : (l.flatMap enc).length = l.length * k := by
  induction l with
  | nil => exact (fun (_ : α) => by simp) (default : α)
  | cons x l ih => rw [List.flatMap_cons, List.length_append, ih, hk]; simp [Nat.add_mul]; omega
theorem flat_toList (hk : ∀ x, (enc x).length = k) (d : Array α) : (flatK enc k d).toList = d.toList.flatMap enc := by
  apply List.ext_getElem?
  intro t
  by_cases ht : t < d.size * k
  · rw [flat_get enc k hk d.toList t (by simpa using ht), Array.getElem?_toList]
    have h1 : t < (flatK enc k d).size := by simpa using ht
    rw [Array.getElem?_eq_getElem h1]
    have := get_flatK enc k d t ht
    rw [getElem!_pos _ t h1] at this
    rw [this]
    have e9 : d[t / k]! = d.toList[t / k]! := by rw [← Array.getElem!_toList]
    rw [e9]
  · rw [List.getElem?_eq_none (by simp; omega), List.getElem?_eq_none (by rw [flat_len enc k hk]; simp; omega)]
variable {w : World} {base g n cap : Nat} {e : TypeId} {os : Array Obj} {cur : Array Value}
theorem holds_of_owns (hk : ∀ x, (enc x).length = k) (l : List α) (hg : w.heap[g]? = some (.cells cur e (0, 0))) (ht : cur.toList.take (l.length * k) = l.flatMap enc) (hs : l.length * k ≤ cur.size) : HoldsK enc k w g 0 l.toArray := by
  intro j hj
  have hj' : j < l.length * k := by simpa using hj
  have e1 : (flatK enc k l.toArray)[j]! = (enc l[j / k]!)[j % k]! := by
    rw [get_flatK _ _ _ _ (by simpa using hj')]; simp
  have e2 := flat_get enc k hk l j hj'
  rw [← ht, List.getElem?_take_of_lt hj', Array.getElem?_toList] at e2
  rw [Nat.zero_add]
  refine ⟨?_, ?_⟩
  · rw [cell_of_row w g j cur e (0, 0) hg, e1, e2]; rfl
  · simp [World.frozen?, hg]
theorem heap_of_sort (d : Array α) {fr : Nat × Nat} (hb : w.heap[g]? = some (.cells cur e fr)) :
    (sortWorldK enc k w g 0 n d os).heap[g]? = some (.cells (putCells id 0 (flatK enc k d) cur) e fr) := by
  have hg : g < w.heap.size := (Array.getElem?_eq_some_iff.1 hb).1
  unfold sortWorldK putRowK
  rw [heap_grow_old _ _ (by simpa using hg)]
  simp [putRow, mapBlock, Sort.ahead, Array.getElem?_modify, hb, onCells]
theorem wrote_sort (d : Array α) {v : Value} (hv : Ab.blockOf v = some g) : Ab.Wrote w v (sortWorldK enc k w g 0 n d os) := by
  refine ⟨rfl, rfl, rfl, ?_, fun j hj hne => ?_⟩
  · unfold sortWorldK putRowK; simp
  · unfold sortWorldK putRowK
    rw [heap_grow_old _ _ (by simpa using hj)]
    have : g ≠ j := fun e => hne (by rw [hv, e])
    simp [putRow, mapBlock, Sort.ahead, Array.getElem?_modify, this]
theorem take_put (F : Array Value) (h : F.size ≤ cur.size) : (putCells id 0 F cur).toList.take F.size = F.toList := by
  apply List.ext_getElem?
  intro j
  by_cases hj : j < F.size
  · rw [List.getElem?_take_of_lt hj, Array.getElem?_toList]
    simp [putCells, hj, show j < cur.size by omega]
  · rw [List.getElem?_take_eq_none (by omega), List.getElem?_eq_none (by simp; omega)]
theorem owns_of_sort (hk : ∀ x, (enc x).length = k) (d : Array α) (hbase : base ≤ g) (hb : w.heap[g]? = some (.cells cur e (0, 0))) (h1 : d.size ≤ cap) (h2 : cap ≤ maxLen) (h3 : cur.size = cap * k) :
    (sortWorldK enc k w g 0 n d os).ownsRow base e k (.slice (some ⟨g, 0, none⟩) d.size cap) d.size (d.toList.flatMap enc) := by
  refine ⟨by rw [flat_len enc k hk]; simp, .inr ⟨g, cap, _, rfl, hbase, heap_of_sort enc k d hb, h1, h2, by simp [putCells, h3], ?_⟩⟩
  have := take_put (cur := cur) (flatK enc k d) (by rw [size_flatK, h3]; exact Nat.mul_le_mul_right k h1)
  rw [size_flatK] at this
  rw [this, flat_toList enc k hk]
end
theorem swo_of {α : Type} {cf : α → α → Int} (G : Good cf) : SWO (ltOf cf) := by
  refine ⟨fun x => ?_, fun x y z h1 h2 => ?_, fun x y z h1 h2 => ?_⟩
  · simp only [ltOf, decide_eq_false_iff_not]
    rw [G.refl]
    omega
  · simp only [ltOf, decide_eq_true_eq] at *
    exact G.lt_lt h1 h2
  · simp only [ltOf, decide_eq_false_iff_not] at *
    have e1 := G.anti x y
    have e2 := G.anti y z
    have e3 := G.anti x z
    have := G.trans z y x (by omega) (by omega)
    omega
theorem tot_of {α : Type} {cf : α → α → Int} (G : Good cf) (hz : ∀ x y, cf x y = 0 → x = y) (x y : α) (h1 : ltOf cf x y = false) (h2 : ltOf cf y x = false) : x = y := by
  simp only [ltOf, decide_eq_false_iff_not] at *
  have := G.anti x y
  exact hz x y (by omega)
theorem world_grown {w w' : World} (G : Ab.Grew w w') (hd : w.drawn ≤ w'.drawn) : ∃ n os, w' = grow (w.drewN n) os := by
  refine ⟨w'.drawn - w.drawn, w'.heap.extract w.heap.size w'.heap.size, ?_⟩
  have h1 := G.os
  have h2 := G.tape
  have h3 := G.output
  have h4 := G.size
  have h5 := G.mem
  obtain ⟨hp, tp, dr, os, ot⟩ := w
  obtain ⟨hp', tp', dr', os', ot'⟩ := w'
  dsimp only at h1 h2 h3 h4 h5 hd
  subst h1 h2 h3
  have e1 : hp' = hp ++ hp'.extract hp.size hp'.size := by
    apply Array.ext_getElem?
    intro i
    by_cases hi : i < hp.size
    · rw [Array.getElem?_append_left hi]
      exact h5 i hi
    · rw [Array.getElem?_append_right (by omega), Array.getElem?_extract]
      split
      · congr 1; omega
      · exact Array.getElem?_eq_none (by omega)
  show World.mk .. = World.mk ..
  dsimp only [World.drewN]
  have e2 : dr' = dr + (dr' - dr) := by omega
  rw [← e1, ← e2]
namespace Ab
section
variable {P : Program} {ρ : Ren} {α : Type} [Inhabited α]
theorem cmpLays_of {g : FuncId} {enc : α → List Value} {k : Nat} {cf : α → α → Int} {eA : α → AVal} (hvA : ∀ x, valA (eA x) = some (.agg (enc x).toArray)) (hoA : ∀ x, oneA (eA x) = true)
    (HC : ∀ x y, ACall P g [eA x, eA y] [] (Just (.d (.sc (.int .i64 (cf x y)))))) (blk off size : Nat) (w : World) : CmpLays P g #[] enc k cf blk off size w := by
  intro m os dk hs x y
  generalize sortWorldK enc k w blk off m dk os = W
  have H2 := (HC x y).2 (fun r => W.heap.size ≤ r) (fun _ => False) W (fun _ => none) (fun _ => none) (#[.agg (enc x).toArray, .agg (enc y).toArray] ++ #[]) W (HRel.none _ W (fun _ h => h.elim)) ⟨rfl, fun i c u h1 h2 => by
    match i, h1, h2 with
    | 0, h1, h2 => cases h1; cases h2; exact val_mk _ _ _ _ _ (hvA x) (hoA x)
    | 1, h1, h2 => cases h1; cases h2; exact val_mk _ _ _ _ _ (hvA y) (hoA y)⟩
  refine (Calls.drawn H2).mono ?_
  rintro e w' ⟨⟨u, c, h', ι', rfl, ⟨rfl, rfl⟩, hH, hv⟩, hd⟩
  obtain ⟨rfl, _⟩ := sc_of hv
  exact ⟨rfl, world_grown hH.grewC (hd (by simp))⟩
theorem vals_of {w : World} {Fr : Nat → Prop} : ∀ (vs xs : List Value), xs.length = vs.length → (∀ (i : Nat) (c : Dat) (u : Value), (vs.map Dat.sc)[i]? = some c → xs[i]? = some u → DRel w Fr c u) → xs = vs := fun vs xs h1 h2 => by
  apply List.ext_getElem?
  intro i
  by_cases hi : i < xs.length
  · have h3 := h2 i (.sc vs[i]) xs[i] (by rw [List.getElem?_map, List.getElem?_eq_getElem (by omega)]; rfl) (List.getElem?_eq_getElem hi)
    rw [List.getElem?_eq_getElem hi, List.getElem?_eq_getElem (by omega)]
    congr 1
    generalize xs[i] = u0 at h3 ⊢
    generalize (vs[i]'(by omega)) = v0 at h3 ⊢
    cases h3
    rfl
  · rw [List.getElem?_eq_none (by omega), List.getElem?_eq_none (by omega)]
theorem sortG (L : SlLaysF0.n6 P ρ) {f el : Nat} {k : Nat} (hf : ρ.f 6 = f) (hgo : isGo P f = true) (aE : ∀ w, (isAgg (ρ.t 24)).run P w = .ok true w) (zE : ∀ w, (Go.sizeOf (ρ.t 24)).run P w = .ok k w)
    {enc : α → List Value} (hk : ∀ x, (enc x).length = k) (h1 : ∀ x, ∀ v ∈ enc x, v.oneCell' = true) {eA : α → AVal} (hvA : ∀ x, valA (eA x) = some (.agg (enc x).toArray)) (hoA : ∀ x, oneA (eA x) = true)
    {eD : α → List Dat} (hD : ∀ x, eD x = (enc x).map Dat.sc) {cf : α → α → Int} (G : Good cf) (hz : ∀ x y, cf x y = 0 → x = y) {g : FuncId} (HC : ∀ x y, ACall P g [eA x, eA y] [] (Just (.d (.sc (.int .i64 (cf x y))))))
    (hnil : ∀ w, Calls P f #[.slice none 0 0, .func (.func g) #[] #[]] w fun e w' => e = .returned (.tuple #[]) ∧ w' = w) (l : List α) (hn : l.length ≤ 2147483648) :
    ACall P f [.row 1000, .fn g []] [(1000, .row el k l.length (l.flatMap eD))] (fun c h => c = .tup [] ∧ h = [(1000, .row el k l.length ((srt cf l).flatMap eD))]) := by
  refine ⟨hgo, fun Pm F w0 pin ι us w H HA => ?_⟩
  obtain ⟨v, hv, xs, hown, hxl, hxr⟩ := H.blk 1000 _ rfl
  have hmap : ∀ m : List α, m.flatMap eD = (m.flatMap enc).map Dat.sc := fun m => by
    rw [List.map_flatMap]
    congr 1
    exact funext hD
  rw [hmap] at hxl hxr
  have hxs := vals_of (l.flatMap enc) xs (by rw [hxl, List.length_map]) hxr
  subst hxs
  have hus : us = #[v, .func (.func g) #[] #[]] := by
    have hsz : us.size = 2 := HA.1
    obtain ⟨u0, u1, rfl⟩ : ∃ u0 u1, us = #[u0, u1] := ⟨us[0], us[1], by apply Array.ext <;> simp [hsz]; intro i h1 h2; match i with | 0 => rfl | 1 => rfl | i + 2 => omega⟩
    have h0 := HA.2 0 _ u0 rfl rfl
    have h1 := HA.2 1 _ u1 rfl rfl
    cases h0 with
    | row _ _ _ h3 =>
      cases h1 with
      | fn _ _ C hl _ =>
        have : C = #[] := Array.eq_empty_of_size_eq_zero hl
        rw [h3 v hv, this]
  subst hus
  have hlen : (srt cf l).length = l.length := srt_len l
  have key : Calls P f #[v, .func (.func g) #[] #[]] w fun e w' => e = .returned (.tuple #[]) ∧ w'.ownsRow 0 el k v l.length ((srt cf l).flatMap enc) ∧ Wrote w v w' := by
    obtain ⟨h0, ⟨rfl, h3⟩ | ⟨gb, cap, cur, rfl, hb, hg, hcap, hmax, hsz, ht⟩⟩ := hown
    · have : l = [] := List.eq_nil_of_length_eq_zero h3
      subst this
      refine (hnil w).mono ?_
      rintro e w' ⟨rfl, rfl⟩
      have e0 : srt cf [] = [] := List.eq_nil_of_length_eq_zero hlen
      rw [e0]
      exact ⟨rfl, World.ownsRow_nil _ _ _ _, rfl, rfl, rfl, Nat.le_refl _, fun _ _ _ => rfl⟩
    · have hH := holds_of_owns enc k hk l hg ht (by rw [hsz]; exact Nat.mul_le_mul_right k hcap)
      refine (hf ▸ AnyQ.slices_SortFunc L k aE zE enc hk h1 cf (swo_of G) g #[] gb 0 cap l.toArray w (fun args W => run_isGo (HC default default).1 args W) (cmpLays_of hvA hoA HC _ _ _ _) hH (Array.getElem?_eq_some_iff.1 hg).1 (by simp; omega)).mono ?_
      rintro e w' ⟨rfl, d', n, os, hp, hs, rfl⟩
      have e1 : d'.toList = srt cf l := sorted_unique_holds (swo_of G) (tot_of G hz) l.toArray d' hp hs
      have e2 : d'.size = l.length := by rw [hp.1]; simp
      refine ⟨rfl, ?_, wrote_sort enc k d' rfl⟩
      have := owns_of_sort (os := os) (n := n) enc k hk d' hb hg (by rw [e2]; exact hcap) hmax hsz
      rw [e2, e1] at this
      exact this
  refine key.mono ?_
  rintro x w' ⟨rfl, hown', hW⟩
  refine ⟨.tuple #[], .tup [], _, ι, rfl, ⟨rfl, rfl⟩, ?_, .tup _ _ rfl (by simp)⟩
  have HB := H.wrote hW hv (b' := .row el k l.length ((srt cf l).flatMap eD)) ⟨(srt cf l).flatMap enc, hown', by rw [hmap, List.length_map], fun i c u h1' h2 => ?_⟩
  · have := HB.only (h' := [(1000, .row el k l.length ((srt cf l).flatMap eD))]) fun id b hb => by
      by_cases hid : 1000 = id
      · subst hid; exact hb
      · rw [look_cons_ne _ _ hid] at hb; cases hb
    have e : Ab.only [(1000, ABlk.row el k l.length ((srt cf l).flatMap eD))] ι = ι := funext fun id => by
      unfold Ab.only
      split
      · rfl
      · rename_i hn2
        cases hi : ι id with
        | none => rfl
        | some v' =>
          obtain ⟨b, hb⟩ := H.dom id v' hi
          by_cases hid : 1000 = id
          · subst hid; exact absurd rfl hn2
          · rw [look_cons_ne _ _ hid] at hb; cases hb
    rw [e] at this
    exact this
  · rw [hmap, List.getElem?_map, h2] at h1'
    cases h1'
    obtain ⟨p, _, hp⟩ := List.mem_flatMap.1 (List.mem_of_getElem? h2)
    exact .sc u (h1 p u hp)
end
end Ab
end Go.Proofs.YtenolkolkpfjgaaGreat

namespace Go.Proofs.YtenolkolkpfjgaaGreat.Ab
set_option linter.unusedVariables false
open Go.RowKit Go.Builtin
theorem zeroCells_one {z : Array Value} (h : ∀ v ∈ z.toList, v.oneCell' = true) (n : Nat) : ∀ v ∈ (zeroCells z n).toList, v.oneCell' = true := by
  intro v hv
  unfold zeroCells at hv
  rw [Array.toList_map, List.mem_map] at hv
  obtain ⟨i, hi, rfl⟩ := hv
  have hi2 : i < n * z.size := by simpa using hi
  have hp : 0 < z.size := by rcases Nat.eq_zero_or_pos z.size with h0 | h0; · rw [h0] at hi2; omega
                             · exact h0
  rw [getElem!_pos z (i % z.size) (Nat.mod_lt _ hp)]
  exact h _ (by simp)
theorem zeroCells_len (z : Array Value) (n : Nat) : (zeroCells z n).toList.length = n * z.size := by simp [zeroCells]
theorem run_clearK {P : Program} (w : World) (t el ty : TypeId) (g o n cap : Nat) (cur : Array Value) (tt : TypeId) (z : Value) (hu : P.underlying t = some (.slice el)) (hz : (zeroValue el).run P w = .ok z w) (h1 : ∀ v ∈ z.cells.toList, v.oneCell' = true)
    (hg : w.heap[g]? = some (.cells cur tt (0, 0))) (hn : 0 < n) (hfit : o + n * z.cells.size ≤ cur.size) :
    (Builtin.clear_ #[t] ty #[.slice (some ⟨g, o, none⟩) n cap]).run P w = .ok (.tuple #[]) (w.setRow g (setW cur.toList o (zeroCells z.cells n).toList).toArray) := by
  obtain ⟨m, rfl⟩ : ∃ m, n = m + 1 := ⟨n - 1, by omega⟩
  have hst := run_storeCells_at P g o tt (zeroCells z.cells (m + 1)).toList 0 cur w hg (by rw [zeroCells_len]; simpa using hfit) (zeroCells_one h1 _)
  simp [Builtin.clear_, run_underlying hu, hz, hst, setW]
theorem run_clear0 {P : Program} (w : World) (t el ty : TypeId) (b : Option Addr) (cap : Nat) (hu : P.underlying t = some (.slice el)) :
    (Builtin.clear_ #[t] ty #[.slice b 0 cap]).run P w = .ok (.tuple #[]) w := by
  cases b <;> simp [Builtin.clear_, run_underlying hu]
section
variable {P : Program} {nt : Nat} {Q : Post} {e : Env} {h : Heap} {ops : Array Oper} {o : Oper} {rest : List Oper} {T : List Nat} {tab : TTab} {fuel i : Nat} {listed : Array Bool}
theorem E_clear {t el : TypeId} {te te' : TE} {d : Option Tmp} {x : Operand} {id off1 n1 n k : Nat} {cs : List Dat} (TO : TabOk P tab) (ho : o.op = .call { callee := .builtin .clear, args := #[x], argTypes := #[t] }) (hdst : o.dst = d)
    (ht : tlook tab t = some te) (hs : te.sh = .sl el) (hel : tlook tab el = some te') (hk : te'.size = k) (hz1 : te'.zero.all (·.oneCell') = true) (hz2 : te'.zero.length = te'.size) (hx : aev e x = some (.srow id off1 n1)) (hb : look h id = some (.row el k n cs))
    (h1 : off1 + n1 * k ≤ n * k) (hd : dstOk nt d = true) (hT : T.contains id = true) :
    AEff P nt T e h o (fun e' h' => ∃ zs : List Dat, zs.length = n1 * k ∧ e' = aput d (.tup []) e ∧ h' = (id, .row el k n (setW cs off1 zs)) :: h) := fun Pm F w0 pin ι a w R K Qx hK => by
  subst hk
  obtain ⟨v, hv, xs, hown, hxl, hxr⟩ := R.heap.blk _ _ hb
  have hu := (TO t te ht).slice hs
  obtain ⟨z, hz, hz3, _⟩ := (TO el te' hel).zero w
  have hzs : z.cells.size = te'.size := by rw [← Array.length_toList, hz3, hz2]
  have hzo : ∀ v ∈ z.cells.toList, v.oneCell' = true := by rw [hz3]; exact List.all_eq_true.1 hz1
  have hrx := aev_rel R.env hx
  have hcl : cs.length = n * te'.size := by rw [← hxl]; exact hown.1
  obtain ⟨ux, hux⟩ : ∃ ux, a.eval x = ux := ⟨_, rfl⟩
  rw [hux] at hrx
  cases hrx with
  | srow _ _ _ _ g1 g2 =>
    obtain ⟨b1, c1, rfl, _, k1⟩ := g2 v hv
    by_cases h0 : n1 = 0
    · subst h0
      have hrun : (execOp a.eval o).run P w = .ok (.value (.tuple #[])) w := by
        simp [execOp, ho, resolve, invoke, builtin, hux, run_clear0 w t el o.type b1 c1 hu]
      unfold Oper.wp
      rw [hrun, Oper.upon_value, hdst]
      refine hK ι _ _ _ _ ⟨[], by simp, rfl, rfl⟩ ?_ ⟨CT.refl T ι w, fun id _ v r hv hr _ => ⟨v, hv, hr⟩⟩ (put_defers _ _ _)
      refine ⟨?_, R.env.aput hd R.size (.tup _ _ rfl (by simp)), by rw [put_defers]; exact R.defers, by rw [put_size]; exact R.size⟩
      rw [setW_nil]
      refine R.heap.relook fun j => ?_
      by_cases hj2 : id = j
      · subst hj2; rw [look_cons_same, hb]
      · rw [look_cons_ne _ _ hj2]
    · obtain ⟨g, N, cap, hvv, rfl⟩ := k1 (by omega)
      rcases hown.2 with ⟨q1, _⟩ | ⟨g0, cap0, cur, q1, _, hg, q4, q5, q6, q7⟩
      · rw [hvv] at q1; cases q1
      rw [hvv] at q1; cases q1
      have hle : n * te'.size ≤ cur.size := by rw [q6]; exact Nat.mul_le_mul_right _ q4
      have hzl : (zeroCells z.cells n1).toList.length = n1 * te'.size := by rw [zeroCells_len, hzs]
      have hrun0 := run_clearK (P := P) w t el o.type g off1 n1 c1 cur el z hu hz hzo hg (by omega) (by rw [hzs]; omega)
      have hrun : (execOp a.eval o).run P w = .ok (.value (.tuple #[])) (w.setRow g (setW cur.toList off1 (zeroCells z.cells n1).toList).toArray) := by
        simp only [execOp, ho, resolve, invoke, builtin]
        simp [hux, hrun0]
      obtain ⟨hW, hnew⟩ := wrote_setRow (C' := (setW cur.toList off1 (zeroCells z.cells n1).toList).toArray) hg (v := v) (by rw [hvv]; rfl)
      have hown2 := own_set (off := off1) (news := (zeroCells z.cells n1).toList) hg hown.1 q4 q5 q6 q7 (by rw [hzl]; exact h1)
      unfold Oper.wp
      rw [hrun, Oper.upon_value, hdst]
      refine hK ι _ _ _ _ ⟨(zeroCells z.cells n1).toList.map Dat.sc, by rw [List.length_map, hzl], rfl, rfl⟩ ?_ ⟨⟨hW.os, hW.tape, hW.output, hW.size, fun r hr hne => hW.mem r hr fun he => hne id (List.contains_iff_mem.1 hT) v hv he⟩, fun id _ v r hv hr _ => ⟨v, hv, hr⟩⟩ (put_defers _ _ _)
      refine ⟨R.heap.wrote hW hv ⟨_, by rw [hvv]; exact hown2, by rw [setW_len _ _ _ (by rw [hzl, hown.1]; omega), setW_len _ _ _ (by rw [List.length_map, hzl]; omega), hxl], fun i c u h4 h5 => ?_⟩, (R.env.mono fun _ _ _ _ hv' => hv'.wrote hW hv).aput hd R.size (.tup _ _ rfl (by simp)), by rw [put_defers]; exact R.defers.ext (hW.ext hv), by rw [put_size]; exact R.size⟩
      rw [setW_get (by rw [List.length_map, hzl]; omega), List.length_map, hzl] at h4
      rw [setW_get (by rw [hzl, hown.1]; omega), hzl] at h5
      split at h4
      · rename_i hin
        rw [if_pos hin] at h5
        rw [List.getElem?_map, h5] at h4
        cases h4
        exact .sc u (zeroCells_one hzo _ u (List.mem_of_getElem? h5))
      · rename_i hin
        rw [if_neg hin] at h5
        exact (hxr _ _ _ h4 h5).ext (hW.ext hv).mem (hW.ext hv).free
theorem O_clear {t el k off1 n1 n id : Nat} {x : Operand} {cs : List Dat} (TO : TabOk P tab) (hw : awant ops e o = some true) (hdst : o.dst = none) (ho : o.op = .call { callee := .builtin .clear, args := #[x], argTypes := #[t] })
    (hel : telem tab t = some el) (hsz : tsize tab el = some k) (hok : (match tlook tab el with | some te => te.zero.all (·.oneCell') && Nat.beq te.zero.length te.size | none => false) = true) (hx : aev e x = some (.srow id off1 n1)) (hb : look h id = some (.row el k n cs)) (h1 : off1 + n1 * k ≤ n * k)
    (HK : ∀ zs : List Dat, zs.length = n1 * k → AOps P nt ops Q rest e ((id, .row el k n (setW cs off1 zs)) :: h)) : AOps P nt ops Q (o :: rest) e h := by
  obtain ⟨te, h3, h4⟩ := telem_spec hel
  obtain ⟨te', h5, rfl⟩ := tsize_spec hsz
  rw [h5] at hok
  simp only [Bool.and_eq_true] at hok
  exact O_eff (T := [id]) hw (E_clear TO ho hdst h3 h4 h5 rfl hok.1 (Nat.eq_of_beq_eq_true hok.2) hx hb h1 rfl (by simp)) fun e' h' ⟨zs, h6, h7, h8⟩ => by subst h7 h8; exact HK zs h6
end
end Go.Proofs.YtenolkolkpfjgaaGreat.Ab

namespace Go.Proofs.YtenolkolkpfjgaaGreat
set_option linter.unusedVariables false
section
variable {α : Type} [DecidableEq α]
theorem dedA_snoc (y x : α) : ∀ m : List α, dedA (m ++ [y, x]) = if y = x then dedA (m ++ [y]) else dedA (m ++ [y]) ++ [x] := by
  intro m
  induction m with
  | nil => by_cases h : y = x <;> simp [dedA, h]
  | cons a m ih =>
    obtain ⟨b, r, h1⟩ : ∃ b r, m ++ [y] = b :: r := by cases m <;> simp
    have h2 : m ++ [y, x] = b :: (r ++ [x]) := by rw [show m ++ [y, x] = (m ++ [y]) ++ [x] by simp, h1]; rfl
    rw [List.cons_append, List.cons_append, h2, h1]
    rw [h2, h1] at ih
    simp only [dedA]
    rw [ih]
    by_cases hab : a = b <;> by_cases hyx : y = x <;> simp [hab, hyx]
theorem ded_take (l : List α) (k : Nat) (h1 : 1 ≤ k) (h : k < l.length) : dedA (l.take (k + 1)) = if l[k - 1] = l[k] then dedA (l.take k) else dedA (l.take k) ++ [l[k]] := by
  obtain ⟨j, rfl⟩ : ∃ j, k = j + 1 := ⟨k - 1, by omega⟩
  have e1 : l.take (j + 1 + 1) = l.take j ++ [l[j], l[j + 1]] := by
    rw [List.take_succ_eq_append_getElem h, List.take_succ_eq_append_getElem (show j < l.length by omega), List.append_assoc]
    rfl
  have e2 : l.take (j + 1) = l.take j ++ [l[j]] := List.take_succ_eq_append_getElem (show j < l.length by omega)
  rw [e1, dedA_snoc, e2]
  rfl
end
section
variable {α β : Type} {enc : α → List β} {sz : Nat}
theorem flat_take (hsz : ∀ x, (enc x).length = sz) : ∀ (l : List α) (k : Nat), (l.flatMap enc).take (k * sz) = (l.take k).flatMap enc
  | [], k => by simp
  | x :: l, 0 => by simp
  | x :: l, k + 1 => by
    rw [List.flatMap_cons, List.take_succ_cons, List.flatMap_cons, ← flat_take hsz l k, List.take_append, hsz]
    rw [List.take_of_length_le (by rw [hsz, Nat.add_mul]; omega)]
    congr 2
    rw [Nat.add_mul]; omega
theorem flat_drop (hsz : ∀ x, (enc x).length = sz) : ∀ (l : List α) (k : Nat), (l.flatMap enc).drop (k * sz) = (l.drop k).flatMap enc
  | [], k => by simp
  | x :: l, 0 => by simp
  | x :: l, k + 1 => by
    rw [List.flatMap_cons, List.drop_succ_cons, ← flat_drop hsz l k, List.drop_append, hsz]
    rw [List.drop_of_length_le (by rw [hsz, Nat.add_mul]; omega), List.nil_append]
    congr 1
    rw [Nat.add_mul]; omega
theorem flat_set (hsz : ∀ x, (enc x).length = sz) (l : List α) (k : Nat) (x : α) (hk : k < l.length) : Ab.setW (l.flatMap enc) (k * sz) (enc x) = (l.set k x).flatMap enc := by
  unfold Ab.setW
  rw [flat_take hsz, hsz]
  rw [show k * sz + sz = (k + 1) * sz by rw [Nat.add_mul]; omega, flat_drop hsz]
  rw [List.set_eq_take_append_cons_drop, if_pos hk]
  simp
end
end Go.Proofs.YtenolkolkpfjgaaGreat

namespace Go.Proofs.YtenolkolkpfjgaaGreat.Ab
set_option linter.unusedVariables false
open Go.RowKit
section
variable {P : Program} {nt : Nat} {Q : Post} {e : Env} {h : Heap} {ops : Array Oper} {o : Oper} {rest : List Oper} {T : List Nat} {tab : TTab} {fuel i : Nat} {listed : Array Bool}
theorem E_callM {f : FuncId} {args : Array Operand} {ats : Array TypeId} {cs0 cs : List AVal} {d : Option Tmp} {id j el k n el0 k0 n0 : Nat} {ds0 ds : List Dat} (ho : o.op = .call { callee := .value (.func f), args := args, argTypes := ats }) (hdst : o.dst = d) (hx : aevs e args.toList = some cs0)
    (hcs : cs.map (renV [(1000, id)]) = cs0) (hok : ∀ c ∈ cs, okV [(1000, id)] c = true) (hb : look h id = some (.row el0 k0 n0 ds0))
    (H : ACall P f cs [(1000, .row el0 k0 n0 ds0)] (fun c h' => c = .row j ∧ h' = [(j, .row el k n ds)])) (hid : Nat.blt id 1000 = true) (hd : dstOk nt d = true) (hT : T.contains id = true) :
    AEff P nt T e h o (fun e' h2 => e' = aput d (.row id) (killE id e) ∧ h2 = (id, .row el k n ds) :: killH id h) := fun Pm F w0 pin ι a w R K Qx hK => by
  have hid' : id < 1000 := by simp [Nat.blt] at hid; omega
  unfold Oper.wp
  rw [run_callA H.1 ho, Oper.upon_enter, hdst]
  have HR := R.heap
  obtain ⟨v0, hv0, hB0⟩ := HR.blk id _ hb
  let ι0 : Nat → Option Value := fun p => if p = 1000 then ι id else none
  have h0some : ∀ p v, ι0 p = some v → ∃ i, look [(1000, id)] p = some i ∧ ι i = some v := fun p v hv => by
    simp only [ι0] at hv
    split at hv
    · rename_i hp; subst hp; exact ⟨id, rfl, hv⟩
    · cases hv
  have hlk : ∀ p i, look [(1000, id)] p = some i → p = 1000 ∧ i = id := fun p i hp => by
    by_cases h1 : 1000 = p
    · subst h1; rw [look_cons_same] at hp; cases hp; exact ⟨rfl, rfl⟩
    · rw [look_cons_ne _ _ h1] at hp; cases hp
  let F' : Nat → Prop := fun r => F r ∨ ∃ i v, ι i = some v ∧ blockOf v = some r ∧ i ≠ id
  let Pm' : Nat → Prop := fun r => w.heap.size ≤ r ∨ blockOf v0 = some r
  have hFdown : ExtF w F ι w F' ι0 := ⟨fun _ _ _ => rfl, fun r _ hf => ⟨fun hc => hc.elim hf.1 fun ⟨i, v, h1, h2, _⟩ => hf.2 i v h1 h2, fun p v hv hb => by
    obtain ⟨i, _, h2⟩ := h0some p v hv
    exact hf.2 i v h2 hb⟩⟩
  have HC : HRel Pm' F' w ι0 ι0 [(1000, .row el0 k0 n0 ds0)] w := by
    refine ⟨fun p b hb2 => ?_, fun p v hv => ?_, fun p q v v' r hpq hv hv' hr => ?_, fun p v r hv hr => .inr ?_, rfl, rfl, rfl, Nat.le_refl _, fun _ _ _ => rfl, fun r hr => .inl hr, fun p v _ hv => hv, fun p v r hv hr hF' => ?_, fun r hr => ?_⟩
    · by_cases h1 : 1000 = p
      · subst h1
        rw [look_cons_same] at hb2
        cases hb2
        refine ⟨v0, by simp only [ι0, if_true]; exact hv0, ?_⟩
        obtain ⟨xs, hown, hxl, hxr⟩ := hB0
        exact ⟨xs, hown, hxl, fun i c u h3 h4 => (hxr i c u h3 h4).ext (fun _ _ _ => rfl) fun r hr hf => hFdown.free r hr hf⟩
      · rw [look_cons_ne _ _ h1] at hb2; cases hb2
    · simp only [ι0] at hv
      split at hv
      · rename_i hp; subst hp; exact ⟨_, look_cons_same _ _ _⟩
      · cases hv
    · simp only [ι0] at hv hv'
      split at hv <;> split at hv'
      · omega
      · cases hv'
      · cases hv
      · cases hv
    · simp only [ι0] at hv
      split at hv
      · rw [hv0] at hv; cases hv; exact hr
      · cases hv
    · obtain ⟨i, h1, h2⟩ := h0some p v hv
      obtain ⟨_, rfl⟩ := hlk p i h1
      rcases hF' with h3 | ⟨q, v', h3, h4, h5⟩
      · exact HR.nf _ v r h2 hr h3
      · exact HR.inj _ q v v' r (fun h => h5 h.symm) h2 h3 hr h4
    · rcases hr with h1 | ⟨q, v, h1, h2, _⟩
      · exact Nat.lt_of_lt_of_le (HR.forb r h1) HR.size
      · exact HR.lt h1 h2
  have HA : ArgsRel w F' ι0 cs (args.map a.eval) := by
    have := args_of R.env hx
    refine ⟨by rw [this.1, ← hcs, List.length_map], fun i c u h1 h2 => (this.2 i (renV [(1000, id)] c) u (by rw [← hcs, List.getElem?_map, h1]; rfl) h2).down (hok c (List.mem_of_getElem? h1)) hFdown h0some⟩
  refine (H.2 Pm' F' w ι0 ι0 _ w HC HA).mono ?_
  rintro x w' ⟨u, c, h', ι', rfl, ⟨rfl, rfl⟩, hH, hv⟩
  obtain ⟨v', hv', xs, hown, hxl, hxr⟩ := hH.blk j _ (look_cons_same _ _ _)
  have hu : u = v' := by
    cases hv with
    | row _ _ _ h3 => exact h3 v' hv'
  subst hu
  have hpm : ∀ r, blockOf u = some r → w.heap.size ≤ r ∨ ∃ v, ι id = some v ∧ blockOf v = some r := fun r hr => by
    rcases hH.pm j u r hv' hr with h1 | h1
    · exact .inl h1
    · exact .inr ⟨v0, hv0, h1⟩
  have hkeep : ∀ r, r < w.heap.size → blockOf v0 ≠ some r → w'.heap[r]? = w.heap[r]? := fun r hr hn => hH.keep r hr fun hp => by
    rcases hp with h1 | h1
    · omega
    · exact hn h1
  have TT : Touch w ι id u w' := ⟨hH.os, hH.tape, hH.output, hH.size, fun r hr hn => hkeep r hr (hn v0 hv0), hpm⟩
  refine hK _ _ _ _ _ ⟨rfl, rfl⟩ ⟨R.heap.touch TT (.inl hid') ⟨xs, hown, hxl, fun i c u2 h1 h2 => (hxr i c u2 h1 h2).ext (fun _ _ _ => rfl) fun r hr hf => ⟨fun h3 => hf.1 (.inl h3), fun q v h3 h4 => ?_⟩⟩, (R.env.killed TT.ext).aput hd R.size (.row id _ (own_one hown) fun v hv => by simp [upd] at hv; exact hv), by rw [put_defers]; exact R.defers.ext TT.ext, by rw [put_size]; exact R.size⟩ ?_ (put_defers _ _ _)
  · unfold upd at h3
    split at h3
    · cases h3; exact hf.2 j u hv' h4
    · rename_i hne; exact hf.1 (.inr ⟨q, v, h3, h4, hne⟩)
  · refine ⟨⟨hH.os, hH.tape, hH.output, hH.size, fun r hr hne => hkeep r hr (hne id (List.contains_iff_mem.1 hT) v0 hv0)⟩, fun q _ u2 r hq hr1 hlt => ?_⟩
    unfold upd at hq
    split at hq
    · rename_i hqi
      subst hqi
      cases hq
      rcases hpm r hr1 with h1 | ⟨v, h1, h2⟩
      · omega
      · exact ⟨v, h1, h2⟩
    · exact ⟨u2, hq, hr1⟩
theorem O_cM {f : FuncId} {args : Array Operand} {ats : Array TypeId} {cs0 cs : List AVal} {d id j el k n el0 k0 n0 : Nat} {ds0 ds : List Dat} (hw : awant ops e o = some true) (hdst : o.dst = some d) (hd : Nat.blt d nt = true) (ho : o.op = .call { callee := .value (.func f), args := args, argTypes := ats }) (hx : aevs e args.toList = some cs0)
    (H : ACall P f cs [(1000, .row el0 k0 n0 ds0)] (fun c h' => c = .row j ∧ h' = [(j, .row el k n ds)])) (hcs : cs.map (renV [(1000, id)]) = cs0) (hok : ∀ c ∈ cs, okV [(1000, id)] c = true) (hb : look h id = some (.row el0 k0 n0 ds0)) (hid : Nat.blt id 1000 = true)
    (HK : AOps P nt ops Q rest ((d, .row id) :: killE id e) ((id, .row el k n ds) :: killH id h)) : AOps P nt ops Q (o :: rest) e h :=
  O_eff (T := [id]) hw (E_callM (d := some d) ho hdst hx hcs hok hb H hid hd (by simp)) fun e' h' ⟨h1, h2⟩ => by subst h1 h2; exact HK
theorem Wk_rename {p id el k n t : Nat} {cs : List Dat} (hid : Nat.blt id 1000 = true) (ht : look e t = some (.row p)) :
    AWk nt e [(p, .row el k n cs)] [(t, .row id)] [(id, .row el k n cs)] := fun Pm F w0 pin ι a w R => by
  have hid' : id < 1000 := by simp [Nat.blt] at hid; omega
  have H := R.heap
  obtain ⟨v, hv, xs, hown, hxl, hxr⟩ := H.blk p _ (look_cons_same _ _ _)
  have hι : ∀ i u, (fun i => if i = id then ι p else none) i = some u → i = id ∧ ι p = some u := fun i u hu => by
    dsimp only at hu
    split at hu
    · rename_i h; exact ⟨h, hu⟩
    · cases hu
  have hex : Ext w F ι w (fun i => if i = id then ι p else none) := ⟨fun _ _ _ => rfl, fun r _ hf => ⟨hf.1, fun i u hu => hf.2 p u (hι i u hu).2⟩⟩
  refine ⟨fun i => if i = id then ι p else none, ⟨fun i b hb => ?_, fun i u hu => ?_, fun i j u u' r hij hi hj => ?_, fun i u r hu => H.pm p u r (hι i u hu).2, H.os, H.tape, H.output, H.size, H.keep, H.fresh, fun i u h1 hu => ?_, fun i u r hu => H.nf p u r (hι i u hu).2, H.forb⟩, fun s c hs => ?_, R.defers.ext hex, R.size⟩
  · by_cases h1 : id = i
    · subst h1
      rw [look_cons_same] at hb
      cases hb
      exact ⟨v, by simp only [if_true]; exact hv, xs, hown, hxl, fun i c u h3 h4 => (hxr i c u h3 h4).ext (fun _ _ _ => rfl) fun r hr hf => hex.free r hr hf⟩
    · rw [look_cons_ne _ _ h1] at hb; cases hb
  · obtain ⟨rfl, _⟩ := hι i u hu
    exact ⟨_, look_cons_same _ _ _⟩
  · exact absurd ((hι i u hi).1.trans (hι j u' hj).1.symm) hij
  · obtain ⟨rfl, _⟩ := hι i u hu
    omega
  · by_cases h1 : t = s
    · subst h1
      rw [look_cons_same] at hs
      cases hs
      obtain ⟨u, hu, hr⟩ := R.env t _ ht
      refine ⟨u, hu, ?_⟩
      cases hr with
      | row _ _ g1 g2 => exact .row id u g1 fun v2 hv2 => g2 v2 (hι id v2 hv2).2
    · rw [look_cons_ne _ _ h1] at hs; cases hs
theorem run_nilEq {P : Program} {t el : TypeId} (w : World) (hu : P.underlying t = some (.slice el)) (dp : Nat) (b : Option Addr) (n c : Nat) : (Op.equalIn (dp + 1) t (.slice b n c) (.slice none 0 0)).run P w = .ok b.isNone w := by
  unfold Op.equalIn
  cases b <;> simp [run_underlying hu]
theorem E_nilEq {t u el : TypeId} {te : TE} {x : Operand} {d : Option Tmp} {cs : List Dat} {n : Nat} (TO : TabOk P tab) (ho : o.op = .binOp .eql t x (.const (.slice none 0 0)) u) (hdst : o.dst = d) (ht : tlook tab t = some te) (hs : te.sh = .sl el) (hx : aev e x = some (.d (.sl cs n))) (hd : dstOk nt d = true) :
    AEff P nt T e h o (fun e' h' => ∃ b : Bool, (b = true → cs = [] ∧ n = 0) ∧ e' = aput d (.d (.sc (.bool b))) e ∧ h' = h) := fun Pm F w0 pin ι a w R K Qx hK => by
  have hu := (TO t te ht).slice hs
  have hv := aev_rel R.env hx
  have ev : a.eval (.const (.slice none 0 0)) = .slice none 0 0 := rfl
  have key : ∃ b : Bool, (b = true → cs = [] ∧ n = 0) ∧ (execOp a.eval o).run P w = .ok (.value (.bool b)) w := by
    generalize hau : a.eval x = ux at hv
    cases hv with
    | d _ _ hD =>
      cases hD with
      | nil => exact ⟨true, fun _ => ⟨rfl, rfl⟩, by simp only [execOp, ho, hau, ev, eqGuard, binOp, Op.equal]; rw [show Op.maxDepth = 9999 + 1 from rfl]; simp [run_nilEq w hu 9999]⟩
      | sl _ _ b o2 cap vs => exact ⟨false, fun h => (by cases h), by simp only [execOp, ho, hau, ev, eqGuard, binOp, Op.equal]; rw [show Op.maxDepth = 9999 + 1 from rfl]; simp [run_nilEq w hu 9999]⟩
      | emp ea => exact ⟨false, fun h => (by cases h), by simp only [execOp, ho, hau, ev, eqGuard, binOp, Op.equal]; rw [show Op.maxDepth = 9999 + 1 from rfl]; simp [run_nilEq w hu 9999]⟩
  obtain ⟨b, hb, hrun⟩ := key
  unfold Oper.wp
  rw [hrun, Oper.upon_value, hdst]
  refine hK ι _ _ _ _ ⟨b, hb, rfl, rfl⟩ ⟨R.heap, R.env.aput hd R.size (sc_rel rfl), by rw [put_defers]; exact R.defers, by rw [put_size]; exact R.size⟩ ⟨CT.refl T ι w, fun id _ v r hv hr _ => ⟨v, hv, hr⟩⟩ (put_defers _ _ _)
theorem O_nilEq {t u el : TypeId} {x : Operand} {d : Nat} {cs : List Dat} {n : Nat} (TO : TabOk P tab) (hw : awant ops e o = some true) (hdst : o.dst = some d) (hd : Nat.blt d nt = true) (ho : o.op = .binOp .eql t x (.const (.slice none 0 0)) u) (hel : telem tab t = some el) (hx : aev e x = some (.d (.sl cs n)))
    (HK : ∀ b : Bool, (b = true → cs = [] ∧ n = 0) → AOps P nt ops Q rest ((d, .d (.sc (.bool b))) :: e) h) : AOps P nt ops Q (o :: rest) e h := by
  obtain ⟨te, h1, h2⟩ := telem_spec hel
  exact O_eff (T := []) hw (E_nilEq (d := some d) TO ho hdst h1 h2 hx hd) fun e' h' ⟨b, h3, h4, h5⟩ => by subst h4 h5; exact HK b h3
end
end Go.Proofs.YtenolkolkpfjgaaGreat.Ab

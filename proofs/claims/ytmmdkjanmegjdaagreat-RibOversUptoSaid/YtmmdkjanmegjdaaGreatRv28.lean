/-
 Texts of a proof, one behind the other (part 29).
-/
import Derived.Test.YtmmdkjanmegjdaaGreatRv2
import Derived.Test.YtmmdkjanmegjdaaGreatRv4
import Derived.Test.YtmmdkjanmegjdaaGreatRv18
import Derived.Test.YtmmdkjanmegjdaaGreatRv25
import Derived.Test.YtmmdkjanmegjdaaGreatRv26
import Derived.Test.YtmmdkjanmegjdaaGreatRv27
set_option maxRecDepth 100000
set_option linter.unusedSimpArgs false
set_option linter.unusedVariables false
namespace Go.Proofs.YtmmdkjanmegjdaaGreat.Ab
open Go.RowKit
def AWkX {β : Type} (nt : Nat) (e : Env) (h : Heap) (E : β → Env) (H : β → Heap) : Prop :=
 ∀ Pm F w0 pin ι a w, Rel Pm F w0 pin ι nt e h a w → ∃ x ι', Rel Pm F w0 pin ι' nt (E x) (H x) a w
section
variable {P : Program} {nt : Nat} {Q : Post} {e : Env} {h : Heap} {ops : Array Oper} {o : Oper} {rest : List Oper} {T : List Nat} {tab : TTab} {z : Bool}
end
end Go.Proofs.YtmmdkjanmegjdaaGreat.Ab

namespace Go.Proofs.YtmmdkjanmegjdaaGreat.Ab
open Go.RowKit
section
variable {P : Program} {nt : Nat} {Q : Post} {e : Env} {h : Heap} {ops : Array Oper} {o : Oper} {rest : List Oper} {T : List Nat} {tab : TTab}
variable {κ ν : Type} [DecidableEq κ] {ek : κ → Value} {ok : κ → Prop} {ka : κ → AVal} {xa : ν → AVal}
theorem zdJ {t K E id : Nat} {x y : Operand} {k : κ} {l : List (κ × ν)} {zv : Value} (c0 : AVal) (hc0 : ∀ w F ι, VRel w F ι c0 zv) (law : KeyLaw P K ek ok) (hka : ∀ k, valA (ka k) = some (ek k)) (hz : ∀ W, (zeroValue E).run P W = .ok zv W) (hk : ok k) (hl : ∀ p ∈ l, ok p.1) (hn : (l.map (·.1)).Nodup) (hg : aget l k = none)
  (TO : TabOk P tab) (ho : o.op = .lookup t x y true) (ht : tmap tab t = some (K, E)) (hx : aev e x = some (.mp id)) (hb : look h id = some (.map (ents ka xa l))) (hT : T.contains id = false) (hy : aev e y = some (ka k)) : AYield P T e h o (.tup [c0, .d (.sc (.bool false))]) := fun Pm F w0 pin ι a w H Er => by
 obtain ⟨te, ht, hs⟩ := za1 ht
 obtain ⟨v, hv, hB⟩ := H.blk id _ hb
 obtain ⟨B, m, rfl, hm, hbes⟩ := zdb hka hn hB
 obtain ⟨d, hd, _, hh⟩ := (TO t te ht).und
 rw [hs] at hh
 cases hh
 have hxv := zj Er hx
 have hkv := zax (zj Er hy) (hka k)
 have h1 := (hbes.aget k).2 hg
 have hxe := zee hxv hv
 refine ⟨.tuple #[zv, .bool false], .tup _ _ rfl fun i c uu hi hu => ?_, fun w' hw' => ?_⟩
 ·match i, hi, hu with
  | 0, hi, hu => cases hi; cases hu; exact hc0 _ _ _
  | 1, hi, hu => cases hi; cases hu; exact zH rfl
 ·have hm' := zbP hm (zbX H hw' hv rfl hT)
  have := hm'.lookup_ok law hd hz hk (fun p hp => by
   have : p.1 ∈ m.map (·.1) := List.mem_map.2 ⟨p, hp, rfl⟩
   rw [hbes.keys] at this
   obtain ⟨q, hq, he⟩ := List.mem_map.1 this
   rw [← he]; exact hl q hq)
  rw [h1] at this
  simp only [execOp, ho, hxe, hkv]
  simp only [Sem.run_bind, this]
  rfl
theorem zmj {t K E id : Nat} {x y z : Operand} {k : κ} {l : List (κ × ν)} {q : ν} (law : KeyLaw P K ek ok) (hka : ∀ k, valA (ka k) = some (ek k)) (hkv : ∀ k w F ι, VRel w F ι (ka k) (ek k)) (hk : ok k) (hl : ∀ p ∈ l, ok p.1) (hn : (l.map (·.1)).Nodup)
  (TO : TabOk P tab) (hw : awant ops e o = some true) (hdst : o.dst = none) (ho : o.op = .mapUpdate t x y z) (ht : tmap tab t = some (K, E)) (hx : aev e x = some (.mp id)) (hb : look h id = some (.map (ents ka xa l))) (hy : aev e y = some (ka k)) (hq : aev e z = some (xa q))
  (HK : AOps P nt ops Q rest e ((id, .map (ents ka xa (Go.Proofs.YtmmdkjanmegjdaaGreat.aput l k q))) :: h)) : AOps P nt ops Q (o :: rest) e h := by
 obtain ⟨te, h1, h2⟩ := za1 ht
 exact zat (T := [id]) hw (zeq TO law hka hkv ho hdst h1 h2 hx hb hy hq hk hl hn rfl (by simp)) fun e' h' ⟨h3, h4⟩ => by subst h3 h4; exact HK
end
end Go.Proofs.YtmmdkjanmegjdaaGreat.Ab

namespace Go.Proofs.YtmmdkjanmegjdaaGreat.Ab
set_option linter.unusedSectionVars false
open Go.RowKit Go.ChangeMaps
section
variable {P : Program} {nt : Nat} {Q : Post} {e : Env} {h : Heap} {ops : Array Oper} {o : Oper} {rest : List Oper} {T : List Nat} {tab : TTab} {fuel i : Nat} {listed : Array Bool}
theorem HRel.closed {Pm F : Nat → Prop} {w0 w : World} {pin ι : Nat → Option Value} {mid r clk : Nat} {bs : List Nat} {es : List (AVal × AVal)} (H : HRel Pm F w0 pin ι h w) (hb : look h mid = some (.mapx r bs clk es)) : HRel Pm F w0 pin ι ((mid, .map es) :: h) w := by
 obtain ⟨v, hv, E, rfl, hC, hl, hr, h1, h2, h3⟩ := H.blk mid _ hb
 have hW : Wrote w (.map (some r)) w := ⟨rfl, rfl, rfl, Nat.le_refl _, fun _ _ _ => rfl⟩
 refine H.wrote hW hv ⟨r, E, clk, rfl, hC, hl, hr, fun i j m m' hij hi hj => ?_, fun i m hi => ?_⟩
 ·rw [← h1, List.pairwise_map, List.pairwise_iff_getElem] at h2
  have hi' := (Array.getElem?_eq_some_iff.1 hi)
  have hj' := (Array.getElem?_eq_some_iff.1 hj)
  have := h2 i j (by simpa using hi'.1) (by simpa using hj'.1) hij
  rw [Array.getElem_toList, Array.getElem_toList, hi'.2, hj'.2] at this
  exact this
 ·refine h3 m.born ?_
  rw [← h1]
  exact List.mem_map.2 ⟨m, Array.mem_toList_iff.2 (Array.mem_of_getElem? hi), rfl⟩
variable {κ ν : Type} [DecidableEq κ] {ek : κ → Value} {ok : κ → Prop} {ka : κ → AVal} {xa : ν → AVal}
theorem zoe {t K E id : Nat} {x y : Operand} {k : κ} {l : List (κ × ν)} {zv : Value} (c0 : AVal) (hc0 : ∀ w F ι, VRel w F ι c0 zv) (law : KeyLaw P K ek ok) (hka : ∀ k, valA (ka k) = some (ek k)) (hz : ∀ W, (zeroValue E).run P W = .ok zv W) (hk : ok k) (hl : ∀ p ∈ l, ok p.1) (hn : (l.map (·.1)).Nodup) (hg : aget l k = none)
  (TO : TabOk P tab) (ho : o.op = .lookup t x y false) (ht : tmap tab t = some (K, E)) (hx : aev e x = some (.mp id)) (hb : look h id = some (.map (ents ka xa l))) (hT : T.contains id = false) (hy : aev e y = some (ka k)) : AYield P T e h o c0 := fun Pm F w0 pin ι a w H Er => by
 obtain ⟨te, ht, hs⟩ := za1 ht
 obtain ⟨v, hv, hB⟩ := H.blk id _ hb
 obtain ⟨B, m, rfl, hm, hbes⟩ := zdb hka hn hB
 obtain ⟨d, hd, _, hh⟩ := (TO t te ht).und
 rw [hs] at hh
 cases hh
 have hxv := zj Er hx
 have hkv := zax (zj Er hy) (hka k)
 have h1 := (hbes.aget k).2 hg
 have hxe := zee hxv hv
 refine ⟨zv, hc0 _ _ _, fun w' hw' => ?_⟩
 have hm' := zbP hm (zbX H hw' hv rfl hT)
 have := hm'.lookup law hd hz hk (fun p hp => by
  have : p.1 ∈ m.map (·.1) := List.mem_map.2 ⟨p, hp, rfl⟩
  rw [hbes.keys] at this
  obtain ⟨q, hq, he⟩ := List.mem_map.1 this
  rw [← he]; exact hl q hq)
 rw [h1] at this
 simp only [execOp, ho, hxe, hkv]
 simp only [Sem.run_bind, this]
 rfl
theorem zpe {t K E id r clk : Nat} {bs : List Nat} {x y : Operand} {k : κ} {l : List (κ × ν)} {z : ν} {zv : Value} (law : KeyLaw P K ek ok) (hka : ∀ k, valA (ka k) = some (ek k)) (hz : ∀ W, (zeroValue E).run P W = .ok zv W) (hk : ok k) (hl : ∀ p ∈ l, ok p.1) (hn : (l.map (·.1)).Nodup) (hg : aget l k = some z)
  (TO : TabOk P tab) (ho : o.op = .lookup t x y false) (ht : tmap tab t = some (K, E)) (hx : aev e x = some (.mp id)) (hb : look h id = some (.mapx r bs clk (ents ka xa l))) (hT : T.contains id = false) (hy : aev e y = some (ka k)) : AYield P T e h o (xa z) := fun Pm F w0 pin ι a w H Er =>
 zaw (h := (id, .map (ents ka xa l)) :: h) law hka hz hk hl hn hg TO ho ht hx (ze _ _ _) hT hy Pm F w0 pin ι a w (H.closed hb) Er
theorem zhJ {t K E : Nat} {x y : Operand} {d : Option Tmp} {id : Nat} {k : κ} {l : List (κ × ν)} {z : ν} {zv : Value} (law : KeyLaw P K ek ok) (hka : ∀ k, valA (ka k) = some (ek k)) (hkv : ∀ k w F ι, VRel w F ι (ka k) (ek k)) (hz : ∀ W, (zeroValue E).run P W = .ok zv W) (hzr : ∀ w F ι, VRel w F ι (xa z) zv) (hk : ok k) (hl : ∀ p ∈ l, ok p.1) (hn : (l.map (·.1)).Nodup) (hg : aget l k = none)
  (TO : TabOk P tab) (ho : o.op = .mapEntry t x y) (hdst : o.dst = d) (ht : tmap tab t = some (K, E)) (hx : aev e x = some (.mp id)) (hb : look h id = some (.map (ents ka xa l))) (hy : aev e y = some (ka k)) (hd : dstOk nt d = true) (hT : T.contains id = true) :
  AEff P nt T e h o (fun e' h' => ∃ r bs b clk, bs.length = l.length ∧ e' = aput d (.tup [xa z, .d (.sc (.int .i64 ((b : Nat) : Int)))]) e ∧ h' = (id, .mapx r (bs ++ [b]) clk (ents ka xa (l ++ [(k, z)]))) :: h) := fun Pm F w0 pin ι a w R Kt Qx hK => by
 obtain ⟨te, ht, hs⟩ := za1 ht
 obtain ⟨v, hv, hB⟩ := R.heap.blk id _ hb
 obtain ⟨B, m, rfl, hm, hbes⟩ := zdb hka hn hB
 obtain ⟨dd, hdd, _, hh⟩ := (TO t te ht).und
 rw [hs] at hh
 cases hh
 have hxe := zee (zj R.env hx) hv
 have hye := zax (zj R.env hy) (hka k)
 have hlm : ∀ p ∈ m, ok p.1 := fun p hp => by
  have : p.1 ∈ m.map (·.1) := List.mem_map.2 ⟨p, hp, rfl⟩
  rw [hbes.keys] at this
  obtain ⟨r, hr, he⟩ := List.mem_map.1 this
  rw [← he]; exact hl r hr
 have hgm : Go.Proofs.YtmmdkjanmegjdaaGreat.aget m k = none := (hbes.aget k).2 hg
 have hmm : mget m k = none := by
  unfold Go.Proofs.YtmmdkjanmegjdaaGreat.aget at hgm
  cases hc : mget m k with
  | none => rfl
  | some q => rw [hc] at hgm; cases hgm
 obtain ⟨es, clock, h1, hf, hc⟩ := hm.find law hk hlm
 have hm2 := hm
 obtain ⟨es', clock', h1', h2, h3, h4, h5⟩ := hm2
 rw [h1] at h1'
 injection h1' with h1'
 injection h1' with e1 e2
 subst e1 e2
 rw [hmm] at hf
 obtain ⟨w', hw'⟩ : ∃ w', setBlock w B (.map (es.push { key := ek k, val := zv, born := clock }) (clock + 1)) = w' := ⟨_, rfl⟩
 have hg' : w.grownBy w' (some B) := by rw [← hw']; exact zaA h1 _
 have hcell : w'.heap[B]? = some (.map (es.push { key := ek k, val := zv, born := clock }) (clock + 1)) := by rw [← hw']; exact heap_setBlock_same h1 _
 have hrun2 : (execOp a.eval o).run P w = .ok (.value (.tuple #[zv, goInt clock])) w' := by
  simp only [execOp, ho, hxe, hye, Sem.run_bind]
  simp only [Instr.mapEntry, Sem.run_bind, run_underlying hdd, Result.andThen_ok, MapKept.run_getObj_map h1, hc, hf, Option.map_none, hz, MapKept.run_setObj_map _ h1]
  rw [← hw']
  rfl
 have hW : Wrote w (.map (some B)) w' := ⟨hg'.os, hg'.tape, hg'.output, hg'.size, fun r hr hne => hg'.block r hr fun he => hne (by rw [blockOf]; exact he.symm)⟩
 have hmi : MapIs ek (fun u : Value => u) w' B (m ++ [(k, zv)]) := by
  refine ⟨_, _, hcell, ?_, ?_, ?_, ?_⟩
  ·simp [h2]
  ·intro e he
   simp at he
   rcases he with he | rfl
   ·have := h3 e (by simpa using he); omega
   ·simp
  ·simp only [Array.toList_push, List.map_append, List.map_cons, List.map_nil]
   rw [List.pairwise_append]
   refine ⟨h4, by simp, ?_⟩
   intro a ha b hb
   simp at hb
   subst hb
   obtain ⟨e, he, rfl⟩ := List.mem_map.1 ha
   exact h3 e he
  ·rw [List.map_append, List.nodup_append]
   refine ⟨h5, by simp, fun a ha b hb => ?_⟩
   simp at hb
   subst hb
   rintro rfl
   obtain ⟨p, hp, he⟩ := List.mem_map.1 ha
   have := zaa h5 (k := p.1) (v := p.2) hp
   rw [he, hgm] at this
   cases this
 have hBR := zll (xa := xa) hkv hmi ((hbes.wrote hW hv).snoc (hzr _ _ _))
 obtain ⟨r, EE, clk, he, hC, hEl, hr, _, _⟩ := hBR
 cases he
 rw [hcell] at hC
 cases hC
 have hbl : (es.toList.map (·.born)).length = l.length := by
  have := congrArg List.length hbes.keys
  have h6 := congrArg List.length h2
  simp at this h6 ⊢
  omega
 unfold Oper.wp
 rw [hrun2, Oper.upon_value, hdst]
 refine hK ι _ _ _ w' ⟨B, es.toList.map (·.born), clock, clock + 1, hbl, rfl, rfl⟩ ⟨R.heap.wrote hW hv ⟨_, rfl, hcell, hEl, hr, by simp, ?_, ?_⟩, (R.env.mono fun _ _ _ _ hv' => hv'.wrote hW hv).aput hd R.size (.tup _ _ rfl fun i c u g1 g2 => ?_), by rw [zl]; exact R.defers.ext (hW.ext hv), by rw [zac]; exact R.size⟩ ?_ (zl _ _ _)
 ·rw [List.pairwise_append]
  refine ⟨h4, by simp, fun a ha b hb => ?_⟩
  simp at hb
  subst hb
  obtain ⟨e, he, rfl⟩ := List.mem_map.1 ha
  exact h3 e he
 ·intro b hb
  rcases List.mem_append.1 hb with hb | hb
  ·obtain ⟨e, he, rfl⟩ := List.mem_map.1 hb
   have := h3 e he; omega
  ·simp at hb; omega
 ·match i, g1, g2 with
  | 0, g1, g2 => cases g1; cases g2; exact hzr _ _ _
  | 1, g1, g2 => cases g1; cases g2; exact zH rfl
 ·exact ⟨⟨hW.os, hW.tape, hW.output, hW.size, fun r hr hne => hW.mem r hr fun hb => hne id (List.contains_iff_mem.1 hT) _ hv hb⟩, fun j _ u r hj hr _ => ⟨u, hj, hr⟩⟩
theorem zfi {t : TypeId} {x y z0 : Operand} {id r clk b : Nat} {bs : List Nat} {q : IntKind} {k : κ} {l : List (κ × ν)} {z z' : ν} (hbl : bs.length = l.length)
  (ho : o.op = .entryStore t x y z0) (hdst : o.dst = none) (hx : aev e x = some (.mp id)) (hb : look h id = some (.mapx r (bs ++ [b]) clk (ents ka xa (l ++ [(k, z)])))) (hy : aev e y = some (.d (.sc (.int q ((b : Nat) : Int))))) (hz : aev e z0 = some (xa z')) (hT : T.contains id = true) :
  AEff P nt T e h o (fun e' h' => e' = e ∧ h' = (id, .map (ents ka xa (l ++ [(k, z')]))) :: h) := fun Pm F w0 pin ι a w R Kt Qx hK => by
 obtain ⟨v, hv, E, rfl, hC, hl, hr, h1, h2, h3⟩ := R.heap.blk id _ hb
 have hxe := zee (zj R.env hx) hv
 have hye := (zQ (zj R.env hy)).1
 have hlen : E.size = l.length + 1 := by rw [hl]; simp [ents]
 obtain ⟨j, hj⟩ : ∃ j, l.length = j := ⟨_, rfl⟩
 have hjE : j < E.size := by omega
 have hborn : ∀ (i : Nat) (hi : i < E.size), E[i].born = (bs ++ [b])[i]'(by rw [List.length_append]; simp; omega) := fun i hi => by
  have : (E.toList.map (·.born))[i]? = (bs ++ [b])[i]? := by rw [h1]
  rw [List.getElem?_map, Array.getElem?_toList, Array.getElem?_eq_getElem hi, List.getElem?_eq_getElem (by rw [List.length_append]; simp; omega)] at this
  simpa using this
 have hlast : E[j].born = b := by
  rw [hborn j hjE]
  have h6 : (bs ++ [b])[j]? = some b := by rw [← hj, ← hbl]; simp
  rw [List.getElem?_eq_getElem (by rw [List.length_append]; simp; omega)] at h6
  exact Option.some.inj h6
 have hfi : E.findIdx? (fun e => (e.born : Int) == (b : Int)) = some j := by
  rw [Array.findIdx?_eq_some_iff_getElem]
  refine ⟨hjE, by rw [hlast]; simp, fun i hi => ?_⟩
  have hpw := List.pairwise_iff_getElem.1 h2 i j (by rw [List.length_append]; simp; omega) (by rw [List.length_append]; simp; omega) hi
  rw [← hborn i (by omega), ← hborn j hjE, hlast] at hpw
  simp; omega
 obtain ⟨w', hw'⟩ : ∃ w', setBlock w r (.map (E.modify j fun q => { q with val := a.eval z0 }) clk) = w' := ⟨_, rfl⟩
 have hg' : w.grownBy w' (some r) := by rw [← hw']; exact zaA hC _
 have hcell : w'.heap[r]? = some (.map (E.modify j fun q => { q with val := a.eval z0 }) clk) := by rw [← hw']; exact heap_setBlock_same hC _
 have hrun2 : (execOp a.eval o).run P w = .ok .skip w' := by
  simp only [execOp, ho, hxe, hye, Sem.run_bind]
  simp only [Instr.entryStore, Sem.run_bind, MapKept.run_getObj_map hC, Result.andThen_ok, asInt, asIntOf, Sem.run_pure, hfi, MapKept.run_setObj_map _ hC]
  rw [← hw']
  rfl
 have hW : Wrote w (.map (some r)) w' := ⟨hg'.os, hg'.tape, hg'.output, hg'.size, fun r' hr hne => hg'.block r' hr fun he => hne (by rw [blockOf]; exact he.symm)⟩
 have hat : ∀ (i : Nat) (m : MapEntry), (E.modify j fun q => { q with val := a.eval z0 })[i]? = some m → ∃ m0, E[i]? = some m0 ∧ m.born = m0.born ∧ m.key = m0.key ∧ m.val = if i = j then a.eval z0 else m0.val := fun i m hm => by
  rw [Array.getElem?_modify] at hm
  split at hm
  ·rename_i hij
   subst hij
   cases h7 : E[j]? with
   | none => rw [h7] at hm; cases hm
   | some m0 => rw [h7] at hm; cases hm; exact ⟨m0, rfl, rfl, rfl, by simp⟩
  ·rename_i hij
   exact ⟨m, hm, rfl, rfl, by rw [if_neg (fun h => hij h.symm)]⟩
 have hBR : BRel w' F ι (.map (ents ka xa (l ++ [(k, z')]))) (.map (some r)) := by
  refine ⟨r, _, clk, rfl, hcell, by rw [Array.size_modify, hlen]; simp [ents], fun i p m g1 g2 => ?_, fun i i' m m' hii g1 g2 => ?_, fun i m g1 => ?_⟩
  ·obtain ⟨m0, g3, g4, g5, g6⟩ := hat i m g2
   rw [g5, g6]
   unfold ents at g1
   rw [List.getElem?_map, List.getElem?_append] at g1
   by_cases hij : i = j
   ·subst hij
    rw [if_neg (by omega), hj] at g1
    simp at g1
    subst g1
    have := hr i (ka k, xa z) m0 (by unfold ents; rw [List.getElem?_map, List.getElem?_append, if_neg (by omega), hj]; simp) g3
    rw [if_pos rfl]
    exact ⟨this.1.wrote hW hv, (zj R.env hz).wrote hW hv⟩
   ·have hil : i < l.length := by
     have := (Array.getElem?_eq_some_iff.1 g3).1
     omega
    rw [if_pos hil] at g1
    have := hr i p m0 (by unfold ents; rw [List.getElem?_map, List.getElem?_append, if_pos hil]; exact g1) g3
    rw [if_neg hij]
    exact ⟨this.1.wrote hW hv, this.2.wrote hW hv⟩
  ·obtain ⟨m0, g3, g4, _⟩ := hat i m g1
   obtain ⟨m0', g5, g6, _⟩ := hat i' m' g2
   rw [g4, g6]
   obtain ⟨k1, k2⟩ := Array.getElem?_eq_some_iff.1 g3
   obtain ⟨k3, k4⟩ := Array.getElem?_eq_some_iff.1 g5
   rw [← k2, ← k4, hborn i k1, hborn i' k3]
   exact List.pairwise_iff_getElem.1 h2 i i' (by rw [List.length_append]; simp; omega) (by rw [List.length_append]; simp; omega) hii
  ·obtain ⟨m0, g3, g4, _⟩ := hat i m g1
   rw [g4]
   refine h3 _ ?_
   rw [← h1]
   exact List.mem_map.2 ⟨m0, Array.mem_toList_iff.2 (Array.mem_of_getElem? g3), rfl⟩
 unfold Oper.wp
 rw [hrun2, Oper.upon_skip, hdst]
 refine hK ι _ _ _ w' ⟨rfl, rfl⟩ ⟨R.heap.wrote hW hv hBR, (R.env.mono fun _ _ _ _ hv' => hv'.wrote hW hv), R.defers.ext (hW.ext hv), R.size⟩ ?_ rfl
 exact ⟨⟨hW.os, hW.tape, hW.output, hW.size, fun r hr hne => hW.mem r hr fun hb => hne id (List.contains_iff_mem.1 hT) _ hv hb⟩, fun j _ u r hj hr _ => ⟨u, hj, hr⟩⟩
theorem zep {t K E id d : Nat} {x y : Operand} {k : κ} {l : List (κ × ν)} {z : ν} {zv : Value} (law : KeyLaw P K ek ok) (hka : ∀ k, valA (ka k) = some (ek k)) (hkv : ∀ k w F ι, VRel w F ι (ka k) (ek k)) (hz : ∀ W, (zeroValue E).run P W = .ok zv W) (hzr : ∀ w F ι, VRel w F ι (xa z) zv) (hk : ok k) (hl : ∀ p ∈ l, ok p.1) (hn : (l.map (·.1)).Nodup) (hg : aget l k = none)
  (TO : TabOk P tab) (hi : ops[i]? = some o) (hw : awant ops e o = some true) (ho : o.op = .mapEntry t x y) (hdst : o.dst = some d) (hd : Nat.blt d nt = true) (ht : tmap tab t = some (K, E)) (hx : aev e x = some (.mp id)) (hb : look h id = some (.map (ents ka xa l))) (hy : aev e y = some (ka k)) (hT : T.contains id = true)
  (HK : ∀ r bs b clk, bs.length = l.length → AAny P nt ops Q T fuel (listed.setIfInBounds i true) ((d, .tup [xa z, .d (.sc (.int .i64 ((b : Nat) : Int)))]) :: e) ((id, .mapx r (bs ++ [b]) clk (ents ka xa (l ++ [(k, z)]))) :: h)) : AAt P nt ops Q T fuel listed i e h :=
 za5 hi hw (zhJ (d := some d) law hka hkv hz hzr hk hl hn hg TO ho hdst ht hx hb hy hd hT) fun e' h' ⟨r, bs, b, clk, h1, h2, h3⟩ => by subst h2 h3; exact HK r bs b clk h1
theorem zc6 {t : TypeId} {x y z0 : Operand} {id r clk b : Nat} {bs : List Nat} {q : IntKind} {k : κ} {l : List (κ × ν)} {z z' : ν} (hbl : bs.length = l.length)
  (hi : ops[i]? = some o) (hw : awant ops e o = some true) (ho : o.op = .entryStore t x y z0) (hdst : o.dst = none) (hx : aev e x = some (.mp id)) (hb : look h id = some (.mapx r (bs ++ [b]) clk (ents ka xa (l ++ [(k, z)])))) (hy : aev e y = some (.d (.sc (.int q ((b : Nat) : Int))))) (hz : aev e z0 = some (xa z')) (hT : T.contains id = true)
  (HK : AAny P nt ops Q T fuel (listed.setIfInBounds i true) e ((id, .map (ents ka xa (l ++ [(k, z')]))) :: h)) : AAt P nt ops Q T fuel listed i e h :=
 za5 hi hw (zfi hbl ho hdst hx hb hy hz hT) fun e' h' ⟨h1, h2⟩ => by subst h1 h2; exact HK
end
end Go.Proofs.YtmmdkjanmegjdaaGreat.Ab

namespace Go.Proofs.YtmmdkjanmegjdaaGreat.Ab
set_option linter.unusedSectionVars false
open Go.RowKit Go.ChangeMaps
section
variable {P : Program} {nt : Nat} {Q : Post} {e : Env} {h : Heap} {ops : Array Oper} {o : Oper} {rest : List Oper} {T : List Nat} {tab : TTab} {fuel i : Nat} {listed : Array Bool}
variable {κ ν : Type} [DecidableEq κ] {ek : κ → Value} {ok : κ → Prop} {ka : κ → AVal} {xa : ν → AVal}
end
end Go.Proofs.YtmmdkjanmegjdaaGreat.Ab

namespace Go.Proofs.YtmmdkjanmegjdaaGreat.Ab
open Go.RowKit
def isX : ABlk → Bool
 | .rowx _ _ _ _ cs => cs.all plainD
 | _ => false
theorem zlm {b : ABlk} (h : isX b = true) (i : Nat) : killB i b = b := by cases b <;> first | rfl | cases h
theorem zjN {b : ABlk} (h : isX b = true) (l : List Nat) : killBs l b = b := by cases b <;> first | rfl | cases h
theorem zcV {b : ABlk} (h : isX b = true) (j : Nat) : blkHas j b = false := by cases b <;> first | rfl | cases h
theorem zjM {b : ABlk} (h : isX b = true) : plainB b = true := by cases b <;> first | exact h | cases h
section
variable {Pm F : Nat → Prop} {w0 w w' : World} {pin ι ι' : Nat → Option Value} {h : Heap}
theorem BRel.extB {b : ABlk} {v : Value} (hB : BRel w F ι b v) (he : Ext w F ι w ι') (hid : ∀ j v, blkHas j b = true → ι' j = some v → ι j = some v) : BRel w F ι' b v := by
 cases b with
 | var cs =>
  obtain ⟨r, C, tt, h1, h2, h3, h4⟩ := hB
  refine ⟨r, C, tt, h1, h2, h3, fun i c u h5 h6 => (h4 i c u h5 h6).ext he fun j v hj hv => hid j v ?_ hv⟩
  show hasL j cs = true
  cases hh : hasL j cs with
  | true => rfl
  | false => rw [zbw hh h5] at hj; cases hj
 | row el k n cs =>
  obtain ⟨xs, hown, h3, h4⟩ := hB
  exact ⟨xs, hown, h3, fun i c u h5 h6 => (h4 i c u h5 h6).ext he.mem he.free⟩
 | rowA el k n cs =>
  obtain ⟨xs, hown, h3, h4⟩ := hB
  refine ⟨xs, hown, h3, fun i c u h5 h6 => (h4 i c u h5 h6).ext he fun j v hj hv => hid j v ?_ hv⟩
  show hasL j cs = true
  cases hh : hasL j cs with
  | true => rfl
  | false => rw [zbw hh h5] at hj; cases hj
 | map es =>
  obtain ⟨r, E, clk, h1, h2, h3, h4, h5⟩ := hB
  refine ⟨r, E, clk, h1, h2, h3, fun i p m h6 h7 => ⟨(h4 i p m h6 h7).1.ext he fun j v hj hv => hid j v ?_ hv, (h4 i p m h6 h7).2.ext he fun j v hj hv => hid j v ?_ hv⟩, h5⟩
  ·exact List.any_eq_true.2 ⟨p, List.mem_of_getElem? h6, by simp [hj]⟩
  ·exact List.any_eq_true.2 ⟨p, List.mem_of_getElem? h6, by simp [hj]⟩
 | mapx r0 bs0 clk0 es =>
  obtain ⟨E, h1, h2, h3, h4, h5⟩ := hB
  refine ⟨E, h1, h2, h3, fun i p m h6 h7 => ⟨(h4 i p m h6 h7).1.ext he fun j v hj hv => hid j v ?_ hv, (h4 i p m h6 h7).2.ext he fun j v hj hv => hid j v ?_ hv⟩, h5⟩
  ·exact List.any_eq_true.2 ⟨p, List.mem_of_getElem? h6, by simp [hj]⟩
  ·exact List.any_eq_true.2 ⟨p, List.mem_of_getElem? h6, by simp [hj]⟩
 | it o => exact hB
 | rowx hv el k n cs => exact hB.viaX (fun c u h => h.ext he.mem he.free) fun _ _ => rfl
end
section
variable {P : Program} {nt : Nat} {Q : Post} {e e1 : Env} {h h1 G G2 : Heap} {ops : Array Oper} {o : Oper} {rest : List Oper} {T : List Nat} {tab : TTab} {fuel i : Nat} {listed : Array Bool}
theorem zaf (he : Sub e1 e) (hh : Sub h1 h) (hG : ∀ id b, look G id = some b → look h id = some b) : AWk nt e h e1 (h1 ++ G) := fun Pm F w0 pin ι a w R =>
 ⟨only (h1 ++ G) ι, R.heap.only fun id b hb => by
  rw [zI] at hb
  cases hl : look h1 id with
  | some b' => rw [hl] at hb; cases hb; exact hh.look hl
  | none => rw [hl] at hb; exact hG id b hb, fun t c ht => let ⟨u, hu, hv⟩ := R.env t c (he.look ht); ⟨u, hu, hv.only _⟩, R.defers.ext (zds w F _ ι), R.size⟩
theorem ziv (g : Nat → Option Nat) (he : Sub e1 e) (hh : Sub h1 h) (hG : ∀ j b, look G j = some b → ∃ p, g j = some p ∧ look h p = some b ∧ isX b = true ∧ j < 1000) (hinj : ∀ j j' p, g j = some p → g j' = some p → (look G j).isSome = true → (look G j').isSome = true → j = j')
  (hapart : ∀ j, (look G j).isSome = true → look h1 j = none) (hapart2 : ∀ j p, (look G j).isSome = true → g j = some p → look h1 p = none) (hev : ∀ t c, look e1 t = some c → ∀ j, (look G j).isSome = true → c.has j = false) (hbv : ∀ id b, look h1 id = some b → ∀ j, (look G j).isSome = true → blkHas j b = false) :
  AWk nt e h e1 (h1 ++ G) := fun Pm F w0 pin ι a w R => by
 have H := R.heap
 let ι2 : Nat → Option Value := fun j => if (look h1 j).isSome then ι j else if (look G j).isSome then (match g j with | some p => ι p | none => none) else none
 have inG : ∀ j, (look G j).isSome = true → ∃ p b, look G j = some b ∧ g j = some p ∧ look h p = some b ∧ isX b = true ∧ j < 1000 ∧ ι2 j = ι p := fun j hj => by
  obtain ⟨b, hb⟩ := Option.isSome_iff_exists.1 hj
  obtain ⟨p, h2, h3, h4, h5⟩ := hG j b hb
  refine ⟨p, b, hb, h2, h3, h4, h5, ?_⟩
  simp only [ι2, hapart j hj, hj, h2]
  simp
 have cases2 : ∀ j v, ι2 j = some v → ((look h1 j).isSome = true ∧ ι j = some v) ∨ ((look G j).isSome = true ∧ ∃ p, g j = some p ∧ ι p = some v) := fun j v hv => by
  simp only [ι2] at hv
  split at hv
  ·rename_i hs; exact .inl ⟨hs, hv⟩
  ·split at hv
   ·rename_i hs
    obtain ⟨p, b, h2, h3, h4, h5, h6, h7⟩ := inG j hs
    rw [h3] at hv
    exact .inr ⟨hs, p, h3, hv⟩
   ·cases hv
 have src : ∀ j v, ι2 j = some v → ∃ q, ι q = some v := fun j v hv => by
  rcases cases2 j v hv with ⟨_, h2⟩ | ⟨_, p, _, h2⟩
  ·exact ⟨j, h2⟩
  ·exact ⟨p, h2⟩
 have hex : Ext w F ι w ι2 := ⟨fun _ _ _ => rfl, fun r _ hf => ⟨hf.1, fun id v hv => by obtain ⟨q, hq⟩ := src id v hv; exact hf.2 q v hq⟩⟩
 have ext1 : ∀ c u, (∀ j, (look G j).isSome = true → c.has j = false) → VRel w F ι c u → VRel w F ι2 c u := fun c u hn hc => hc.ext hex fun id v hi hv => by
  rcases cases2 id v hv with ⟨_, h2⟩ | ⟨h2, _⟩
  ·exact h2
  ·rw [hn id h2] at hi; cases hi
 refine ⟨ι2, ⟨⟨fun id b hb => ?_, fun id v hv => ?_, fun i j v v' r hij hi hj hr => ?_, fun i v r hi hr => ?_, H.os, H.tape, H.output, H.size, H.keep, H.fresh, fun id v h5 hv => ?_, fun i v r hi hr => ?_, H.forb⟩, fun t c ht => ?_, R.defers.ext hex, R.size⟩⟩
 ·rw [zI] at hb
  cases hl : look h1 id with
  | some b' =>
   rw [hl] at hb; cases hb
   obtain ⟨v, hv, hB⟩ := H.blk id b (hh.look hl)
   refine ⟨v, by simp only [ι2, hl]; simpa using hv, hB.extB hex fun j v hj hv => ?_⟩
   rcases cases2 j v hv with ⟨_, h2⟩ | ⟨h2, _⟩
   ·exact h2
   ·rw [hbv id b hl j h2] at hj; cases hj
  | none =>
   rw [hl] at hb
   have hb : look G id = some b := hb
   obtain ⟨p, b', h2, h3, h4, h5, h6, h7⟩ := inG id (by rw [hb]; rfl)
   rw [hb] at h2; cases h2
   obtain ⟨v, hv, hB⟩ := H.blk p b h4
   exact ⟨v, by rw [h7]; exact hv, hB.extB hex fun j v hj _ => by rw [zcV h5] at hj; cases hj⟩
 ·rw [zI]
  rcases cases2 id v hv with ⟨h2, _⟩ | ⟨h2, _⟩
  ·obtain ⟨b, hb⟩ := Option.isSome_iff_exists.1 h2
   exact ⟨b, by rw [hb]⟩
  ·obtain ⟨b, hb⟩ := Option.isSome_iff_exists.1 h2
   exact ⟨b, by rw [hapart id h2]; exact hb⟩
 ·rcases cases2 i v hi with ⟨h2, h3⟩ | ⟨h2, p, h3, h4⟩ <;> rcases cases2 j v' hj with ⟨k2, k3⟩ | ⟨k2, q, k3, k4⟩
  ·exact H.inj i j v v' r hij h3 k3 hr
  ·refine H.inj i q v v' r ?_ h3 k4 hr
   rintro rfl
   rw [hapart2 j i k2 k3] at h2; cases h2
  ·refine H.inj p j v v' r ?_ h4 k3 hr
   rintro rfl
   rw [hapart2 i p h2 h3] at k2; cases k2
  ·refine H.inj p q v v' r ?_ h4 k4 hr
   rintro rfl
   exact hij (hinj i j p h3 k3 h2 k2)
 ·obtain ⟨q, hq⟩ := src i v hi; exact H.pm q v r hq hr
 ·rcases cases2 id v hv with ⟨_, h3⟩ | ⟨h2, p, h3, h4⟩
  ·exact H.pinned id v h5 h3
  ·obtain ⟨_, _, _, _, _, _, h6, _⟩ := inG id h2; omega
 ·obtain ⟨q, hq⟩ := src i v hi; exact H.nf q v r hq hr
 ·obtain ⟨u, hu, hv⟩ := R.env t c (he.look ht)
  exact ⟨u, hu, ext1 c u (hev t c ht) hv⟩
end
section
variable {κ ν : Type} [DecidableEq κ] {ok : κ → Prop} {ka : κ → AVal} {ek : κ → Value} {xa : ν → AVal}
variable {P : Program} {nt : Nat} {Q : Post} {e : Env} {h : Heap} {ops : Array Oper} {o : Oper} {T : List Nat} {tab : TTab} {fuel i : Nat} {listed : Array Bool}
end
theorem zbU {α : Type} {l : List (Nat × α)} {k : Nat} (h : k ∈ l.map (·.1)) : ∃ b, look l k = some b := by
 have := zaP l k
 rw [List.contains_iff_mem.2 h] at this
 exact Option.isSome_iff_exists.1 this.symm
theorem zgE {α : Type} {l m : List (Nat × α)} (hn : (l.map (·.1)).Nodup) (h : ∀ id b, look l id = some b → look m id = some b) : Sub l m := by
 induction l with
 | nil => exact trivial
 | cons p r ih =>
  obtain ⟨k, b⟩ := p
  rw [List.map_cons, List.nodup_cons] at hn
  refine ⟨h k b (ze _ _ _), ih hn.2 fun id b' hb => h id b' ?_⟩
  have : k ≠ id := by
   rintro rfl
   refine hn.1 ?_
   have := zaP r k
   rw [hb] at this
   exact List.contains_iff_mem.1 this
  rw [zc _ _ this]; exact hb
theorem zaB {ids : List Nat} {c : AVal} (h : ∀ j ∈ ids, c.has j = false) : killVs ids c = c := by
 unfold killVs
 have e : hasAny ids c = false := by
  unfold hasAny
  rw [List.any_eq_false]
  intro j hj
  rw [h j hj]; simp
 rw [e]; rfl
theorem zg3 {ids : List Nat} {e : Env} {t : Nat} {c : AVal} (hl : look e t = some c) (h : ∀ j ∈ ids, c.has j = false) : look (killEs ids e) t = some c := by
 rw [zef, hl]
 show some (killVs ids c) = _
 rw [zaB h]
theorem RawDs.refl (h : Heap) (cs : List Dat) : RawDs h cs cs := ⟨rfl, fun i c c' h1 h2 => by rw [h1] at h2; cases h2; exact .same _⟩
section
variable {P : Program} {nt : Nat} {Q : Post} {e : Env} {h : Heap} {ops : Array Oper} {o : Oper} {rest : List Oper}
theorem zhG {α : Type} {Φ : α → Prop} {C : α → AVal} {H1 : α → Heap} {f : FuncId} {args : Array Operand} {ats : Array TypeId} {cs : List AVal} {d : Nat} (H : ACall P f cs [] (fun c' h' => ∃ x, Φ x ∧ c' = C x ∧ h' = H1 x))
  (hq : ∀ x, Φ x → ((H1 x).map (·.1)).all (fun j => Nat.blt j 1000) = true ∧ (∀ id b j, look (H1 x) id = some b → blkHas j b = true → (look (H1 x) j).isSome = true) ∧ ∀ j, (C x).has j = true → (look (H1 x) j).isSome = true)
  (hw : awant ops e o = some true) (hdst : o.dst = some d) (hd : Nat.blt d nt = true) (ho : o.op = .call { callee := .value (.func f), args := args, argTypes := ats }) (hx : aevs e args.toList = some cs)
  (HK : ∀ x, Φ x → AOps P nt ops Q rest ((d, C x) :: killEs ((H1 x).map (·.1)) e) (H1 x ++ killHs ((H1 x).map (·.1)) h)) : AOps P nt ops Q (o :: rest) e h :=
 zat (T := []) hw (zcu (d := some d) ho hdst hx H hd fun c' h' ⟨x, hΦ, q1, q2⟩ => by subst q1 q2; exact hq x hΦ) fun e' h' ⟨c', h2, ⟨x, hΦ, q1, q2⟩, q3, q4⟩ => by subst q1 q2 q3 q4; exact HK x hΦ
end
end Go.Proofs.YtmmdkjanmegjdaaGreat.Ab

namespace Go.Proofs.YtmmdkjanmegjdaaGreat
open Go.RowKit Go.Lib
namespace Ab
def sbjH (s : Sbj) (v w : Value) : List Dat := [uD s.p.a, iD s.p.b, iD s.met, iD s.tag, iD s.pref, .sc v, .sc w, uD s.hop]
abbrev uX (v : Value) (l : List Int) : ABlk := .rowx v 44 1 l.length (l.flatMap u1D)
theorem zkW (l : List Int) : (l.flatMap u1D).all plainD = true := by
 rw [List.all_eq_true]
 intro c hc
 obtain ⟨x, _, hx⟩ := List.mem_flatMap.1 hc
 simp [u1D, uD] at hx
 subst hx; rfl
theorem zfE (v : Value) (l : List Int) : isX (uX v l) = true := zkW l
theorem zkZ (s : Sbj) (h1 : s.path.length ≤ 1000000000) (h2 : s.com.length ≤ 1000000000) : ACall Tryz.prog 38 [aggD (sbjD s)] [] (fun c h => ∃ x : Value × Value, True ∧ c = aggD (sbjH s x.1 x.2) ∧ h = [(21, uX x.1 s.path), (22, uX x.2 s.com)]) :=
 ((zhX s h1 h2).raw (fun id hm => by simp [sbjV] at hm; rcases hm with rfl | rfl <;> rfl)).mono fun c h ⟨ρ, h1, h2⟩ => ⟨(ρ 21, ρ 22), trivial, h1, h2⟩
theorem zhY (s : Sbj) (x : Value × Value) : (([(21, uX x.1 s.path), (22, uX x.2 s.com)] : Heap).map (·.1)).all (fun j => Nat.blt j 1000) = true ∧ (∀ id b j, look [(21, uX x.1 s.path), (22, uX x.2 s.com)] id = some b → blkHas j b = true → (look [(21, uX x.1 s.path), (22, uX x.2 s.com)] j).isSome = true) ∧ ∀ j, (aggD (sbjH s x.1 x.2)).has j = true → (look [(21, uX x.1 s.path), (22, uX x.2 s.com)] j).isSome = true :=
 ⟨rfl, (fun id b j hb hj => by
  by_cases h : 21 = id
  ·subst h; rw [ze] at hb; cases hb; cases hj
  ·rw [zc _ _ h] at hb
   by_cases h : 22 = id
   ·subst h; rw [ze] at hb; cases hb; cases hj
   ·rw [zc _ _ h] at hb; cases hb), (fun j hj => by cases hj)⟩
attribute [local irreducible] AWp AOps AQ AYield AEff ACall AWk AAny AAt AThen AIn APost NoPanic
set_option maxHeartbeats 8000000 in
theorem zlX (d : Dvc) (nm : List UInt8) (s : Sbj) (ho : OkA d s) (hk : (applyP d nm s).2.1 = true) : ACall Tryz.prog 17 [dvcA d, .d (sD nm), aggD (sbjD s)] [] (fun c h => ∃ x : Value × Value, True ∧ c = .tup [aggD (sbjH (applyP d nm s).1 x.1 x.2), boolA true, .d (iD (applyP d nm s).2.2)] ∧ h = [(21, uX x.1 (applyP d nm s).1.path), (22, uX x.2 (applyP d nm s).1.com)]) := by
 unfold applyP at hk ⊢
 by_cases hn : nm = []
 ·have how := zkZ s ho.os.path ho.os.com
  rw [if_pos hn]
  refine zf za Tryz.func17 rfl Tryz.ntmps17 (congrArg Array.toList Tryz.results17) (by kernel_rfl) rfl ?_
  repeat (first | refine q_Y ?_ | ((first | apply q_K rfl | apply q_X rfl); (first | exact q_H | (exact R_sT rfl rfl rfl rfl (decide_eq_true hn)))) | refine q_U ?_)
  refine zhG (α := Value × Value) (Φ := fun _ => True) (C := fun x => aggD (sbjH s x.1 x.2)) (H1 := fun x => [(21, uX x.1 s.path), (22, uX x.2 s.com)]) how (fun x _ => zhY s x) rfl rfl rfl rfl rfl fun x _ => ?_
  repeat (first | refine q_Y ?_ | ((first | apply q_K rfl | apply q_X rfl); (exact q_H)) | refine q_U ?_)
  exact zo AWk.refl rfl (h2 := [(21, uX x.1 s.path), (22, uX x.2 s.com)]) ⟨rfl, rfl, trivial⟩ ⟨x, trivial, rfl, rfl⟩
 rw [if_neg hn] at hk ⊢
 have hna := ziM d nm (by have := ho.n; omega)
 unfold namedA at hna
 cases hf : d.pols.find? (fun p => decide (p.nm = nm)) with
 | none => rw [hf] at hk; cases hk
 | some p =>
  rw [hf] at hna hk
  try dsimp only at hna hk ⊢
  have hp := ho.op p (List.mem_of_find?_eq_some hf)
  obtain ⟨x, hr⟩ : ∃ x, runP d p s = x := ⟨_, rfl⟩
  have hlast : OkS (lastS s (runP d p s).2.2) := zf2 d p.cs p.dft p.cs 0 0 (-1) s s [] hp.2 ho.os
  rw [hr] at hlast hk ⊢
  obtain ⟨ok, b, ms⟩ := x
  try dsimp only at hlast hk ⊢
  have hru := zkL d p s ho.od hp.1 hp.2 hr
  have how := zkZ (lastS s ms) hlast.path hlast.com
  cases ok with
  | false => cases hk
  | true =>
   rw [if_pos rfl]
   refine zf za Tryz.func17 rfl Tryz.ntmps17 (congrArg Array.toList Tryz.results17) (by kernel_rfl) rfl ?_
   repeat (first | refine q_Y ?_ | ((first | apply q_K rfl | apply q_X rfl); (first | exact q_H | first | exact R_sF rfl rfl rfl rfl (decide_eq_false hn) | exact zU rfl rfl)) | refine q_U ?_ | refine q_O hna ?_)
   refine O_cP [(1000, 11)] (fun p p' i h1 h2 => by rw [(zK h1).1, (zK h2).1]) (fun p i h1 => by rw [(zK h1).1]; exact ⟨Nat.le_refl _, rfl, rfl⟩) hru (List.all_eq_true.1 (show List.all _ _ = true from rfl)) ⟨⟨11, _, rfl, rfl, rfl, fun c hc => by obtain ⟨x, _, rfl⟩ := List.mem_map.1 hc; rfl⟩, trivial⟩ rfl rfl rfl rfl rfl rfl ?_
   repeat (first | refine q_Y ?_ | ((first | apply q_K rfl | apply q_X rfl); (exact q_H)) | refine q_U ?_)
   refine zhG (α := Value × Value) (Φ := fun _ => True) (C := fun x => aggD (sbjH (lastS s ms) x.1 x.2)) (H1 := fun x => [(21, uX x.1 (lastS s ms).path), (22, uX x.2 (lastS s ms).com)]) how (fun x _ => zhY (lastS s ms) x) rfl rfl rfl rfl rfl fun x _ => ?_
   repeat (first | refine q_Y ?_ | ((first | apply q_K rfl | apply q_X rfl); (exact q_H)) | refine q_U ?_)
   exact zo AWk.refl rfl (h2 := [(21, uX x.1 (lastS s ms).path), (22, uX x.2 (lastS s ms).com)]) ⟨rfl, rfl, trivial⟩ ⟨x, trivial, rfl, rfl⟩
end Ab
end Go.Proofs.YtmmdkjanmegjdaaGreat

namespace Go.Proofs.YtmmdkjanmegjdaaGreat
open Go.RowKit Go.Lib
structure Rte where
 p : Pfx
 f : Int
 d : Int
 m : Int
 t : Int
 i : List UInt8
 h : Int
 x : Bool
 deriving DecidableEq
def ordP : Pfx → Pfx → Int := lexc (fun x y => c2 x.a y.a) (fun x y => c2 x.b y.b)
def ordR : Rte → Rte → Int := lexc (fun x y => ordP x.p y.p) (lexc (fun x y => c2 x.f y.f) (lexc (fun x y => c2 x.d y.d) (lexc (fun x y => c2 x.m y.m) (lexc (fun x y => c2 x.t y.t) (lexc (fun x y => c2 x.h y.h) (lexc (fun x y => compareBytes x.i y.i) (fun x y => cB x.x y.x)))))))
theorem zjQ : Good ordP := (zbp.of _).lex (zbp.of _)
theorem zbd : Good ordR := (zjQ.of _).lex ((zbp.of _).lex ((zbp.of _).lex ((zbp.of _).lex ((zbp.of _).lex ((zbp.of _).lex ((zib.of _).lex (zng.of _)))))))
theorem zjA (x y : Pfx) : ordP x y = 0 ↔ x = y := by
 obtain ⟨a, b⟩ := x
 obtain ⟨c, d⟩ := y
 simp [ordP, zfB, ziU]
theorem zfx (x y : Rte) : ordR x y = 0 ↔ x = y := by
 obtain ⟨a, b, c, d, e, f, g, h⟩ := x
 obtain ⟨a', b', c', d', e', f', g', h'⟩ := y
 simp only [ordR, zfB, ziU, zcr, zny, zjA, Rte.mk.injEq]
 constructor
 ·rintro ⟨h1, h2, h3, h4, h5, h6, h7, h8⟩; exact ⟨h1, h2, h3, h4, h5, h7, h6, h8⟩
 ·rintro ⟨h1, h2, h3, h4, h5, h7, h6, h8⟩; exact ⟨h1, h2, h3, h4, h5, h6, h7, h8⟩
def rank : Rte → Rte → Int := lexc (fun x y => c2 x.d y.d) (lexc (fun x y => c2 x.f y.f) (fun x y => c2 x.m y.m))
theorem zbj : Good rank := (zbp.of _).lex ((zbp.of _).lex (zbp.of _))
def firstI : List Int → Int
 | [] => 0
 | x :: r => if x = 0 then firstI r else x
theorem zeS (x y : Pfx) : firstI [c2 x.a y.a, c2 x.b y.b] = ordP x y := by
 simp only [firstI, ordP, lexc]
 split
 ·split
  ·rename_i h; exact h.symm
  ·rfl
 ·rfl
theorem zeR (x y : Rte) : firstI [ordP x.p y.p, c2 x.f y.f, c2 x.d y.d, c2 x.m y.m, c2 x.t y.t, c2 x.h y.h, compareBytes x.i y.i, cB x.x y.x] = ordR x y := by
 have key : ∀ a : Int, (if a = 0 then 0 else a) = a := fun a => by split <;> omega
 simp only [firstI, ordR, lexc, key]
namespace Ab
def rteD (r : Rte) : List Dat := [.sc (.int .u32 r.p.a), .sc (.int .i64 r.p.b), .sc (.int .u8 r.f), .sc (.int .i64 r.d), .sc (.int .i64 r.m), .sc (.int .i64 r.t), .sc (.string ⟨⟨r.i⟩⟩), .sc (.int .u32 r.h), .sc (.bool r.x)]
theorem zr (r : Rte) : (rteD r).length = 9 := rfl
def rteA (r : Rte) : AVal := .agg [.d (.sc (.int .u32 r.p.a)), .d (.sc (.int .i64 r.p.b)), .d (.sc (.int .u8 r.f)), .d (.sc (.int .i64 r.d)), .d (.sc (.int .i64 r.m)), .d (.sc (.int .i64 r.t)), .d (.sc (.string ⟨⟨r.i⟩⟩)), .d (.sc (.int .u32 r.h)), .d (.sc (.bool r.x))]
def rtesA (l : List Rte) : AVal := .d (.sl (l.flatMap rteD) l.length)
end Ab
end Go.Proofs.YtmmdkjanmegjdaaGreat

namespace Go.Proofs.YtmmdkjanmegjdaaGreat
def winB (l : List Rte) (r : Rte) : Bool := l.all fun s => !(decide (s.p = r.p) && decide (rank s r < 0))
theorem zgz {l : List Rte} {r : Rte} : winB l r = true ↔ ∀ s ∈ l, s.p = r.p → 0 ≤ rank s r := by
 unfold winB
 rw [List.all_eq_true]
 refine forall_congr' fun s => forall_congr' fun _ => ?_
 simp only [Bool.not_eq_true', Bool.and_eq_false_iff, decide_eq_false_iff_not, Int.not_lt]
 constructor
 ·rintro (h | h) hp
  ·exact absurd hp h
  ·exact h
 ·intro h
  by_cases hp : s.p = r.p
  ·exact .inr (h hp)
  ·exact .inl hp
def takeR (l : List Rte) : List Rte := sortU ordR (l.filter (winB l))
theorem zf8 (x y : Rte) (h : ordR x y = 0) : x = y := (zfx x y).1 h
theorem zjf {l : List Rte} {r : Rte} : r ∈ takeR l ↔ r ∈ l ∧ ∀ s ∈ l, s.p = r.p → 0 ≤ rank s r := by
 unfold takeR
 rw [zay, List.mem_filter, zgz]
theorem zfX (l : List Rte) : Rising ordR (takeR l) := zas zbd zf8 _
theorem least {α : Type} {c : α → α → Int} (G : Good c) : ∀ (l : List α), l ≠ [] → ∃ b ∈ l, ∀ s ∈ l, c b s ≤ 0
 | [], h => absurd rfl h
 | [x], _ => ⟨x, List.mem_cons_self .., fun s hs => by rcases List.mem_cons.1 hs with rfl | h; exact Int.le_of_eq (G.refl _); cases h⟩
 | x :: y :: r, _ => by
  obtain ⟨b, hb, hl⟩ := least G (y :: r) (by simp)
  rcases Int.lt_or_le 0 (c x b) with h | h
  ·refine ⟨b, List.mem_cons_of_mem _ hb, fun s hs => ?_⟩
   rcases List.mem_cons.1 hs with rfl | hs
   ·have := G.anti s b; omega
   ·exact hl s hs
  ·refine ⟨x, List.mem_cons_self .., fun s hs => ?_⟩
   rcases List.mem_cons.1 hs with rfl | hs
   ·exact Int.le_of_eq (G.refl _)
   ·exact G.trans _ _ _ h (hl s hs)
structure Kept (l : List Rte) (es : List (Pfx × Rte)) : Prop where
 mem : ∀ e ∈ es, e.2 ∈ l ∧ e.2.p = e.1
 all : ∀ r ∈ l, ∃ e ∈ es, e.1 = r.p ∧ rank e.2 r ≤ 0
theorem zli {l : List Rte} {es : List (Pfx × Rte)} (K : Kept l es) {r b : Rte} (hn : (es.map (·.1)).Nodup) (hb : (r.p, b) ∈ es) (hr : r ∈ l) : winB l r = true ↔ rank r b = 0 := by
 have hb1 := K.mem _ hb
 have least : ∀ s ∈ l, s.p = r.p → rank b s ≤ 0 := fun s hs hp => by
  obtain ⟨e, he, h1, h2⟩ := K.all s hs
  have : e = (r.p, b) := by
   obtain ⟨k, v⟩ := e
   dsimp only at h1
   have h3 : k = r.p := h1.trans hp
   subst h3
   exact Prod.ext rfl (Option.some.inj ((zaa hn he).symm.trans (zaa hn hb)))
  rw [this] at h2
  exact h2
 rw [zgz]
 constructor
 ·intro h
  have h1 := h b hb1.1 hb1.2
  have h2 := zbj.anti b r
  have := least r hr rfl
  omega
 ·intro h s hs hp
  have h1 := least s hs hp
  have h2 := zbj.anti s b
  have h3 := zbj.anti s r
  have := zbj.trans r b s (by omega) h1
  omega
theorem zg4 {l : List Rte} {es : List (Pfx × Rte)} (K : Kept l es) (hn : (es.map (·.1)).Nodup) {r : Rte} (h : ∀ b, aget es r.p = some b → rank r b < 0) : Kept (l ++ [r]) (aput es r.p r) := by
 refine ⟨fun e he => ?_, fun s hs => ?_⟩
 ·rcases (zbO hn).1 he with rfl | ⟨_, h1⟩
  ·exact ⟨by simp, rfl⟩
  ·have := K.mem e h1
   exact ⟨List.mem_append_left _ this.1, this.2⟩
 ·rcases List.mem_append.1 hs with h1 | h1
  ·obtain ⟨e, he, h2, h3⟩ := K.all s h1
   by_cases hk : e.1 = r.p
   ·have hg := zaa hn (k := r.p) (v := e.2) (by rw [← hk]; exact he)
    exact ⟨(r.p, r), (zbO hn).2 (.inl rfl), hk.symm.trans h2, Int.le_of_lt (zbj.lt_le (h _ hg) h3)⟩
   ·exact ⟨e, (zbO hn).2 (.inr ⟨hk, he⟩), h2, h3⟩
  ·have : s = r := by simpa using h1
   subst this
   exact ⟨(s.p, s), (zbO hn).2 (.inl rfl), rfl, Int.le_of_eq (zbj.refl _)⟩
theorem zjL {l : List Rte} {es : List (Pfx × Rte)} (K : Kept l es) {r b : Rte} (hg : aget es r.p = some b) (h : 0 ≤ rank r b) : Kept (l ++ [r]) es := by
 refine ⟨fun e he => ⟨List.mem_append_left _ (K.mem e he).1, (K.mem e he).2⟩, fun s hs => ?_⟩
 rcases List.mem_append.1 hs with h1 | h1
 ·exact K.all s h1
 ·have : s = r := by simpa using h1
  subst this
  have := zbj.anti s b
  exact ⟨(s.p, b), z8 hg, rfl, by dsimp only; omega⟩
theorem zlj : Kept [] [] := ⟨fun _ h => (by cases h), fun _ h => (by cases h)⟩
end Go.Proofs.YtmmdkjanmegjdaaGreat

namespace Go.Proofs.YtmmdkjanmegjdaaGreat
open Go.RowKit Go.Lib
theorem zol (d : Dvc) (cs : List Cls) (dft : Bool) (s0 : Sbj) : ∀ (r : List Cls) (i fr : Nat) (b : Int) (s : Sbj) (ms : List (Nat × Sbj)), s.p = s0.p → (lastS s0 ms).p = s0.p → (lastS s0 (runL d cs dft r i fr b s ms).2.2).p = s0.p := fun r => by
 induction r with
 | nil => intro i fr b s ms h h2; exact h2
 | cons c r ih =>
  intro i fr b s ms h h2
  have hs : (setC c s).p = s0.p := h
  rw [runL]
  split
  ·exact ih _ _ _ _ _ h h2
  split
  ·exact ih _ _ _ _ _ h h2
  split
  ·show (lastS s0 (ms ++ [(i, s)])).p = _; rw [zaK]; exact h
  split
  ·split
   ·show (lastS s0 (ms ++ [(i, setC c s)])).p = _; rw [zaK]; exact hs
   ·exact ih _ _ _ _ _ hs (by rw [zaK]; exact hs)
  ·exact ih _ _ _ _ _ hs (by rw [zaK]; exact hs)
theorem zdH {d : Dvc} {nm : List UInt8} {s : Sbj} (h : (applyP d nm s).2.1 = true) : (applyP d nm s).1.p = s.p := by
 unfold applyP at h ⊢
 split
 ·rfl
 ·rename_i hn
  rw [if_neg hn] at h
  cases hf : d.pols.find? (fun p => decide (p.nm = nm)) with
  | none => rw [hf] at h; cases h
  | some p =>
   rw [hf] at h
   dsimp only at h ⊢
   split
   ·exact zol d p.cs p.dft s p.cs 0 0 (-1) s [] rfl rfl
   ·rename_i hk; rw [if_neg hk] at h; cases h
def andC (a b : Int) : Int := IntKind.u8.wrap ((BitVec.ofInt 8 a &&& BitVec.ofInt 8 b).toNat)
def comesB (f fr : Int) : Bool :=
 if f = 1 then decide (andC fr 1 ≠ 0) else if f = 2 then decide (andC fr 2 ≠ 0) else if 3 ≤ f ∧ f ≤ 6 then decide (andC fr 4 ≠ 0) else if f = 7 ∨ f = 8 then decide (andC fr 8 ≠ 0) else false
def subjR (x : Rds) (ospf : Bool) (r : Rte) : Sbj := ⟨r.p, if x.met ≠ -1 then x.met else if ospf then 20 else r.m, r.t, 100, [], [], 0⟩
abbrev Tkn := Nat × Sbj
def inR (d : Dvc) (x : Rds) (i : Nat) (ospf : Bool) : List Rte → List (Pfx × Tkn) → List Pfx → List (Pfx × Tkn)
 | [], tk, lk => tk
 | r :: rs, tk, lk =>
  if (aget tk r.p).isSome = true ∨ comesB r.f x.from_ = false ∨ r.p ∈ lk then inR d x i ospf rs tk lk
  else if (applyP d x.pol (subjR x ospf r)).2.1 = true then inR d x i ospf rs (tk ++ [(r.p, (i, (applyP d x.pol (subjR x ospf r)).1))]) (lk ++ [r.p])
  else inR d x i ospf rs tk (lk ++ [r.p])
def outR (d : Dvc) (ospf : Bool) (rs : List Rte) : List Rds → Nat → List (Pfx × Tkn) → List (Pfx × Tkn)
 | [], i, tk => tk
 | x :: l, i, tk => outR d ospf rs l (i + 1) (inR d x i ospf rs tk [])
theorem za9 (x y : Pfx) : (cmpP x y = -1 ∧ (x.a < y.a ∨ x.a = y.a ∧ x.b < y.b)) ∨ (cmpP x y = 0 ∧ x.a = y.a ∧ x.b = y.b) ∨ (cmpP x y = 1 ∧ (y.a < x.a ∨ x.a = y.a ∧ y.b < x.b)) := by
 obtain ⟨a, b⟩ := x
 obtain ⟨c, d⟩ := y
 unfold cmpP
 dsimp only
 by_cases h : a < c ∨ a = c ∧ b < d
 ·rw [if_pos h]; exact .inl ⟨rfl, h⟩
 ·rw [if_neg h]
  by_cases h2 : (⟨a, b⟩ : Pfx) = ⟨c, d⟩
  ·rw [if_pos h2]
   injection h2 with h3 h4
   exact .inr (.inl ⟨rfl, h3, h4⟩)
  ·rw [if_neg h2]
   refine .inr (.inr ⟨rfl, ?_⟩)
   have h3 : ¬ (a = c ∧ b = d) := fun ⟨h3, h4⟩ => h2 (by rw [h3, h4])
   omega
theorem zcW : Good cmpP := by
 refine ⟨fun x y => ?_, fun x y z h1 h2 => ?_⟩
 ·rcases za9 x y with ⟨e1, h1⟩ | ⟨e1, h1⟩ | ⟨e1, h1⟩ <;> rcases za9 y x with ⟨e2, h2⟩ | ⟨e2, h2⟩ | ⟨e2, h2⟩ <;> rw [e1, e2] <;> omega
 ·rcases za9 x y with ⟨e1, g1⟩ | ⟨e1, g1⟩ | ⟨e1, g1⟩ <;> rcases za9 y z with ⟨e2, g2⟩ | ⟨e2, g2⟩ | ⟨e2, g2⟩ <;> rcases za9 x z with ⟨e3, g3⟩ | ⟨e3, g3⟩ | ⟨e3, g3⟩ <;> rw [e3] <;> omega
theorem zbK {x y : Pfx} (h : cmpP x y = 0) : x = y := by
 rcases za9 x y with ⟨e1, h1⟩ | ⟨e1, h1⟩ | ⟨e1, h1⟩
 ·omega
 ·obtain ⟨a, b⟩ := x
  obtain ⟨c, d⟩ := y
  dsimp only at h1
  rw [h1.1, h1.2]
 ·omega
def cmpT (x y : Tkn) : Int := cmpP x.2.p y.2.p
theorem zbk : Good cmpT := ⟨fun _ _ => zcW.anti _ _, fun _ _ _ => zcW.trans _ _ _⟩
def takenL (tk : List (Pfx × Tkn)) : List Tkn := srt cmpT (tk.map (·.2))
def errR (d : Dvc) (l : List Rds) : Bool := l.any fun x => decide ((applyP d x.pol zeroS).2.2 ≠ 0)
def overR (d : Dvc) (l : List Rds) (rs : List Rte) (ospf : Bool) : List Tkn × Int := if errR d l = true then ([], 120) else (takenL (outR d ospf (sortU ordR rs) l 0 []), 0)
structure Ents (tk : List (Pfx × Tkn)) : Prop where
 nd : (tk.map (·.1)).Nodup
 key : ∀ e ∈ tk, e.2.2.p = e.1
theorem zd2 {tk : List (Pfx × Tkn)} (h : Ents tk) {p : Pfx} {v : Tkn} (hp : aget tk p = none) (hv : v.2.p = p) : Ents (tk ++ [(p, v)]) := by
 refine ⟨?_, fun e he => ?_⟩
 ·rw [List.map_append, List.nodup_append]
  refine ⟨h.nd, by simp, fun a ha b hb => ?_⟩
  obtain ⟨e, he, rfl⟩ := List.mem_map.1 ha
  have : b = p := by simpa using hb
  subst this
  exact zd5 hp e he
 ·rcases List.mem_append.1 he with he | he
  ·exact h.key e he
  ·have : e = (p, v) := by simpa using he
   subst this; exact hv
theorem zdw (d : Dvc) (x : Rds) (i : Nat) (ospf : Bool) : ∀ (rs : List Rte) (tk : List (Pfx × Tkn)) (lk : List Pfx), Ents tk →
  ∃ ext, inR d x i ospf rs tk lk = tk ++ ext ∧ Ents (tk ++ ext) ∧ ∀ e ∈ ext, e.2.1 = i ∧ ∃ r ∈ rs, r.p = e.1 ∧ comesB r.f x.from_ = true
 | [], tk, lk, h => ⟨[], by simp [inR], by simpa using h, by simp⟩
 | r :: rs, tk, lk, h => by
  rw [inR]
  split
  ·obtain ⟨ext, e1, e2, e3⟩ := zdw d x i ospf rs tk lk h
   exact ⟨ext, e1, e2, fun e he => ⟨(e3 e he).1, by obtain ⟨r', h1, h2⟩ := (e3 e he).2; exact ⟨r', by simp [h1], h2⟩⟩⟩
  ·rename_i hn
   have hn1 : aget tk r.p = none := by
    cases hg : aget tk r.p with
    | none => rfl
    | some v => exact absurd (.inl (by rw [hg]; rfl)) hn
   have hn2 : comesB r.f x.from_ = true := by
    cases hg : comesB r.f x.from_
    ·exact absurd (.inr (.inl hg)) hn
    ·rfl
   split
   ·rename_i hok
    have hp := zdH hok
    obtain ⟨ext, e1, e2, e3⟩ := zdw d x i ospf rs _ (lk ++ [r.p]) (zd2 h hn1 (v := (i, (applyP d x.pol (subjR x ospf r)).1)) hp)
    refine ⟨(r.p, (i, (applyP d x.pol (subjR x ospf r)).1)) :: ext, by rw [e1]; simp, by simpa using e2, fun e he => ?_⟩
    rcases List.mem_cons.1 he with rfl | he
    ·exact ⟨rfl, r, by simp, rfl, hn2⟩
    ·obtain ⟨h1, r', h2, h3⟩ := e3 e he
     exact ⟨h1, r', by simp [h2], h3⟩
   ·obtain ⟨ext, e1, e2, e3⟩ := zdw d x i ospf rs tk (lk ++ [r.p]) h
    exact ⟨ext, e1, e2, fun e he => ⟨(e3 e he).1, by obtain ⟨r', h1, h2⟩ := (e3 e he).2; exact ⟨r', by simp [h1], h2⟩⟩⟩
theorem zeQ (d : Dvc) (ospf : Bool) (rs : List Rte) : ∀ (l : List Rds) (i : Nat) (tk : List (Pfx × Tkn)), Ents tk →
  ∃ ext, outR d ospf rs l i tk = tk ++ ext ∧ Ents (tk ++ ext) ∧ ∀ e ∈ ext, i ≤ e.2.1 ∧ ∃ h : e.2.1 - i < l.length, ∃ r ∈ rs, r.p = e.1 ∧ comesB r.f (l[e.2.1 - i]).from_ = true
 | [], i, tk, h => ⟨[], by simp [outR], by simpa using h, by simp⟩
 | x :: l, i, tk, h => by
  rw [outR]
  obtain ⟨e1, a1, a2, a3⟩ := zdw d x i ospf rs tk [] h
  rw [a1]
  obtain ⟨e2, b1, b2, b3⟩ := zeQ d ospf rs l (i + 1) _ a2
  refine ⟨e1 ++ e2, by rw [b1, List.append_assoc], by rw [← List.append_assoc]; exact b2, fun e he => ?_⟩
  rcases List.mem_append.1 he with he | he
  ·obtain ⟨h1, h2⟩ := a3 e he
   refine ⟨by omega, by rw [h1]; simp, ?_⟩
   have : e.2.1 - i = 0 := by omega
   simpa [this] using h2
  ·obtain ⟨h1, h2, h3⟩ := b3 e he
   refine ⟨by omega, by rw [List.length_cons]; omega, ?_⟩
   have : e.2.1 - i = (e.2.1 - (i + 1)) + 1 := by omega
   simpa [this] using h3
theorem zdD : Ents ([] : List (Pfx × Tkn)) := ⟨by simp, by simp⟩
theorem zeD {tk : List (Pfx × Tkn)} {x : Tkn} : x ∈ takenL tk ↔ ∃ p, (p, x) ∈ tk := by
 unfold takenL
 rw [zcg, List.mem_map]
 constructor
 ·rintro ⟨⟨p, y⟩, h1, rfl⟩; exact ⟨p, h1⟩
 ·rintro ⟨p, h⟩; exact ⟨(p, x), h, rfl⟩
theorem zff {tk : List (Pfx × Tkn)} (h : Ents tk) : Rising cmpT (takenL tk) := by
 have h1 := zdi zbk (tk.map (·.2))
 have h2 : (takenL tk).Pairwise fun x y => x.2.p ≠ y.2.p := by
  have h3 : (tk.map (·.2)).Pairwise fun x y => x.2.p ≠ y.2.p := by
   rw [List.pairwise_map]
   have h4 : tk.Pairwise fun a b => a.1 ≠ b.1 := List.pairwise_map.1 h.nd
   exact h4.imp_of_mem fun {a b} ha hb hne => by rw [h.key a ha, h.key b hb]; exact hne
  exact (List.mergeSort_perm _ _).symm.pairwise h3 fun {a b} hne => fun e => hne e.symm
 exact h1.and h2 |>.imp fun {x y} ⟨a, b⟩ => by
  rcases Int.lt_or_eq_of_le a with h | h
  ·exact h
  ·exact absurd (zbK h) b
theorem zhP (tk : List (Pfx × Tkn)) : (takenL tk).length = tk.length := by unfold takenL; rw [zbC, List.length_map]
end Go.Proofs.YtmmdkjanmegjdaaGreat

/-
  Texts of a proof, one behind the other (part 7).
-/
import Derived.Test.YtenolkolkpfjgaaGreatFt5
set_option linter.unusedVariables false
set_option linter.unusedSimpArgs false
namespace Go.Proofs.YtenolkolkpfjgaaGreat.Ab
set_option linter.unusedVariables false
set_option linter.unusedSimpArgs false
set_option linter.unusedSectionVars false
open Go.RowKit Go.ChangeMaps
section
variable {P : Program} {nt : Nat} {Q : Post} {e : Env} {h : Heap} {ops : Array Oper} {o : Oper} {rest : List Oper} {T : List Nat} {tab : TTab} {fuel i : Nat} {listed : Array Bool}
theorem HRel.closed {Pm F : Nat → Prop} {w0 w : World} {pin ι : Nat → Option Value} {mid r clk : Nat} {bs : List Nat} {es : List (AVal × AVal)} (H : HRel Pm F w0 pin ι h w) (hb : look h mid = some (.mapx r bs clk es)) : HRel Pm F w0 pin ι ((mid, .map es) :: h) w := by
  obtain ⟨v, hv, E, rfl, hC, hl, hr, h1, h2, h3⟩ := H.blk mid _ hb
  have hW : Wrote w (.map (some r)) w := ⟨rfl, rfl, rfl, Nat.le_refl _, fun _ _ _ => rfl⟩
  refine H.wrote hW hv ⟨r, E, clk, rfl, hC, hl, hr, fun i j m m' hij hi hj => ?_, fun i m hi => ?_⟩
  · rw [← h1, List.pairwise_map, List.pairwise_iff_getElem] at h2
    have hi' := (Array.getElem?_eq_some_iff.1 hi)
    have hj' := (Array.getElem?_eq_some_iff.1 hj)
    have := h2 i j (by simpa using hi'.1) (by simpa using hj'.1) hij
    rw [Array.getElem_toList, Array.getElem_toList, hi'.2, hj'.2] at this
    exact this
  · refine h3 m.born ?_
    rw [← h1]
    exact List.mem_map.2 ⟨m, Array.mem_toList_iff.2 (Array.mem_of_getElem? hi), rfl⟩
variable {κ ν : Type} [DecidableEq κ] {ek : κ → Value} {ok : κ → Prop} {ka : κ → AVal} {xa : ν → AVal}
theorem R_lk0 {t K E id : Nat} {x y : Operand} {k : κ} {l : List (κ × ν)} {zv : Value} (c0 : AVal) (hc0 : ∀ w F ι, VRel w F ι c0 zv) (law : KeyLaw P K ek ok) (hka : ∀ k, valA (ka k) = some (ek k)) (hz : ∀ W, (zeroValue E).run P W = .ok zv W) (hk : ok k) (hl : ∀ p ∈ l, ok p.1) (hn : (l.map (·.1)).Nodup) (hg : aget l k = none)
    (TO : TabOk P tab) (ho : o.op = .lookup t x y false) (ht : tmap tab t = some (K, E)) (hx : aev e x = some (.mp id)) (hb : look h id = some (.map (ents ka xa l))) (hT : T.contains id = false) (hy : aev e y = some (ka k)) : AYield P T e h o c0 := fun Pm F w0 pin ι a w H Er => by
  obtain ⟨te, ht, hs⟩ := tmap_spec ht
  obtain ⟨v, hv, hB⟩ := H.blk id _ hb
  obtain ⟨B, m, rfl, hm, hbes⟩ := map_is hka hn hB
  obtain ⟨d, hd, _, hh⟩ := (TO t te ht).und
  rw [hs] at hh
  cases hh
  have hxv := aev_rel Er hx
  have hkv := valA_rel (aev_rel Er hy) (hka k)
  have h1 := (hbes.aget k).2 hg
  have hxe := mp_eq hxv hv
  refine ⟨zv, hc0 _ _ _, fun w' hw' => ?_⟩
  have hm' := mapIs_same hm (ct_same H hw' hv rfl hT)
  have := hm'.lookup law hd hz hk (fun p hp => by
    have : p.1 ∈ m.map (·.1) := List.mem_map.2 ⟨p, hp, rfl⟩
    rw [hbes.keys] at this
    obtain ⟨q, hq, he⟩ := List.mem_map.1 this
    rw [← he]; exact hl q hq)
  rw [h1] at this
  simp only [execOp, ho, hxe, hkv]
  simp only [Sem.run_bind, this]
  rfl
theorem R_lk1x {t K E id r clk : Nat} {bs : List Nat} {x y : Operand} {k : κ} {l : List (κ × ν)} {z : ν} {zv : Value} (law : KeyLaw P K ek ok) (hka : ∀ k, valA (ka k) = some (ek k)) (hz : ∀ W, (zeroValue E).run P W = .ok zv W) (hk : ok k) (hl : ∀ p ∈ l, ok p.1) (hn : (l.map (·.1)).Nodup) (hg : aget l k = some z)
    (TO : TabOk P tab) (ho : o.op = .lookup t x y false) (ht : tmap tab t = some (K, E)) (hx : aev e x = some (.mp id)) (hb : look h id = some (.mapx r bs clk (ents ka xa l))) (hT : T.contains id = false) (hy : aev e y = some (ka k)) : AYield P T e h o (xa z) := fun Pm F w0 pin ι a w H Er =>
  R_lk1 (h := (id, .map (ents ka xa l)) :: h) law hka hz hk hl hn hg TO ho ht hx (look_cons_same _ _ _) hT hy Pm F w0 pin ι a w (H.closed hb) Er
theorem E_mapEntry0 {t K E : Nat} {x y : Operand} {d : Option Tmp} {id : Nat} {k : κ} {l : List (κ × ν)} {z : ν} {zv : Value} (law : KeyLaw P K ek ok) (hka : ∀ k, valA (ka k) = some (ek k)) (hkv : ∀ k w F ι, VRel w F ι (ka k) (ek k)) (hz : ∀ W, (zeroValue E).run P W = .ok zv W) (hzr : ∀ w F ι, VRel w F ι (xa z) zv) (hk : ok k) (hl : ∀ p ∈ l, ok p.1) (hn : (l.map (·.1)).Nodup) (hg : aget l k = none)
    (TO : TabOk P tab) (ho : o.op = .mapEntry t x y) (hdst : o.dst = d) (ht : tmap tab t = some (K, E)) (hx : aev e x = some (.mp id)) (hb : look h id = some (.map (ents ka xa l))) (hy : aev e y = some (ka k)) (hd : dstOk nt d = true) (hT : T.contains id = true) :
    AEff P nt T e h o (fun e' h' => ∃ r bs b clk, bs.length = l.length ∧ e' = aput d (.tup [xa z, .d (.sc (.int .i64 ((b : Nat) : Int)))]) e ∧ h' = (id, .mapx r (bs ++ [b]) clk (ents ka xa (l ++ [(k, z)]))) :: h) := fun Pm F w0 pin ι a w R Kt Qx hK => by
  obtain ⟨te, ht, hs⟩ := tmap_spec ht
  obtain ⟨v, hv, hB⟩ := R.heap.blk id _ hb
  obtain ⟨B, m, rfl, hm, hbes⟩ := map_is hka hn hB
  obtain ⟨dd, hdd, _, hh⟩ := (TO t te ht).und
  rw [hs] at hh
  cases hh
  have hxe := mp_eq (aev_rel R.env hx) hv
  have hye := valA_rel (aev_rel R.env hy) (hka k)
  have hlm : ∀ p ∈ m, ok p.1 := fun p hp => by
    have : p.1 ∈ m.map (·.1) := List.mem_map.2 ⟨p, hp, rfl⟩
    rw [hbes.keys] at this
    obtain ⟨r, hr, he⟩ := List.mem_map.1 this
    rw [← he]; exact hl r hr
  have hgm : Go.Proofs.YtenolkolkpfjgaaGreat.aget m k = none := (hbes.aget k).2 hg
  have hmm : mget m k = none := by
    unfold Go.Proofs.YtenolkolkpfjgaaGreat.aget at hgm
    cases hc : mget m k with
    | none => rfl
    | some q => rw [hc] at hgm; cases hgm
  obtain ⟨es, clock, h1, hf, hc⟩ := hm.find law hk hlm
  have hm2 := hm
  obtain ⟨es', clock', h1', h2, h3, h4, h5⟩ := hm2
  rw [h1] at h1'
  injection h1' with h1'
  injection h1' with e1 e2
  subst e1 e2
  rw [hmm] at hf
  obtain ⟨w', hw'⟩ : ∃ w', setBlock w B (.map (es.push { key := ek k, val := zv, born := clock }) (clock + 1)) = w' := ⟨_, rfl⟩
  have hg' : w.grownBy w' (some B) := by rw [← hw']; exact setBlock_grown h1 _
  have hcell : w'.heap[B]? = some (.map (es.push { key := ek k, val := zv, born := clock }) (clock + 1)) := by rw [← hw']; exact heap_setBlock_same h1 _
  have hrun2 : (execOp a.eval o).run P w = .ok (.value (.tuple #[zv, goInt clock])) w' := by
    simp only [execOp, ho, hxe, hye, Sem.run_bind]
    simp only [Instr.mapEntry, Sem.run_bind, run_underlying hdd, Result.andThen_ok, MapKept.run_getObj_map h1, hc, hf, Option.map_none, hz, MapKept.run_setObj_map _ h1]
    rw [← hw']
    rfl
  have hW : Wrote w (.map (some B)) w' := ⟨hg'.os, hg'.tape, hg'.output, hg'.size, fun r hr hne => hg'.block r hr fun he => hne (by rw [blockOf]; exact he.symm)⟩
  have hmi : MapIs ek (fun u : Value => u) w' B (m ++ [(k, zv)]) := by
    refine ⟨_, _, hcell, ?_, ?_, ?_, ?_⟩
    · simp [h2]
    · intro e he
      simp at he
      rcases he with he | rfl
      · have := h3 e (by simpa using he); omega
      · simp
    · simp only [Array.toList_push, List.map_append, List.map_cons, List.map_nil]
      rw [List.pairwise_append]
      refine ⟨h4, by simp, ?_⟩
      intro a ha b hb
      simp at hb
      subst hb
      obtain ⟨e, he, rfl⟩ := List.mem_map.1 ha
      exact h3 e he
    · rw [List.map_append, List.nodup_append]
      refine ⟨h5, by simp, fun a ha b hb => ?_⟩
      simp at hb
      subst hb
      rintro rfl
      obtain ⟨p, hp, he⟩ := List.mem_map.1 ha
      have := aget_of_mem h5 (k := p.1) (v := p.2) hp
      rw [he, hgm] at this
      cases this
  have hBR := is_map (xa := xa) hkv hmi ((hbes.wrote hW hv).snoc (hzr _ _ _))
  obtain ⟨r, EE, clk, he, hC, hEl, hr, _, _⟩ := hBR
  cases he
  rw [hcell] at hC
  cases hC
  have hbl : (es.toList.map (·.born)).length = l.length := by
    have := congrArg List.length hbes.keys
    have h6 := congrArg List.length h2
    simp at this h6 ⊢
    omega
  unfold Oper.wp
  rw [hrun2, Oper.upon_value, hdst]
  refine hK ι _ _ _ w' ⟨B, es.toList.map (·.born), clock, clock + 1, hbl, rfl, rfl⟩ ⟨R.heap.wrote hW hv ⟨_, rfl, hcell, hEl, hr, by simp, ?_, ?_⟩, (R.env.mono fun _ _ _ _ hv' => hv'.wrote hW hv).aput hd R.size (.tup _ _ rfl fun i c u g1 g2 => ?_), by rw [put_defers]; exact R.defers.ext (hW.ext hv), by rw [put_size]; exact R.size⟩ ?_ (put_defers _ _ _)
  · rw [List.pairwise_append]
    refine ⟨h4, by simp, fun a ha b hb => ?_⟩
    simp at hb
    subst hb
    obtain ⟨e, he, rfl⟩ := List.mem_map.1 ha
    exact h3 e he
  · intro b hb
    rcases List.mem_append.1 hb with hb | hb
    · obtain ⟨e, he, rfl⟩ := List.mem_map.1 hb
      have := h3 e he; omega
    · simp at hb; omega
  · match i, g1, g2 with
    | 0, g1, g2 => cases g1; cases g2; exact hzr _ _ _
    | 1, g1, g2 => cases g1; cases g2; exact sc_rel rfl
  · exact ⟨⟨hW.os, hW.tape, hW.output, hW.size, fun r hr hne => hW.mem r hr fun hb => hne id (List.contains_iff_mem.1 hT) _ hv hb⟩, fun j _ u r hj hr _ => ⟨u, hj, hr⟩⟩
theorem E_entryStore0 {t : TypeId} {x y z0 : Operand} {id r clk b : Nat} {bs : List Nat} {q : IntKind} {k : κ} {l : List (κ × ν)} {z z' : ν} (hbl : bs.length = l.length)
    (ho : o.op = .entryStore t x y z0) (hdst : o.dst = none) (hx : aev e x = some (.mp id)) (hb : look h id = some (.mapx r (bs ++ [b]) clk (ents ka xa (l ++ [(k, z)])))) (hy : aev e y = some (.d (.sc (.int q ((b : Nat) : Int))))) (hz : aev e z0 = some (xa z')) (hT : T.contains id = true) :
    AEff P nt T e h o (fun e' h' => e' = e ∧ h' = (id, .map (ents ka xa (l ++ [(k, z')]))) :: h) := fun Pm F w0 pin ι a w R Kt Qx hK => by
  obtain ⟨v, hv, E, rfl, hC, hl, hr, h1, h2, h3⟩ := R.heap.blk id _ hb
  have hxe := mp_eq (aev_rel R.env hx) hv
  have hye := (sc_of (aev_rel R.env hy)).1
  have hlen : E.size = l.length + 1 := by rw [hl]; simp [ents]
  obtain ⟨j, hj⟩ : ∃ j, l.length = j := ⟨_, rfl⟩
  have hjE : j < E.size := by omega
  have hborn : ∀ (i : Nat) (hi : i < E.size), E[i].born = (bs ++ [b])[i]'(by rw [List.length_append]; simp; omega) := fun i hi => by
    have : (E.toList.map (·.born))[i]? = (bs ++ [b])[i]? := by rw [h1]
    rw [List.getElem?_map, Array.getElem?_toList, Array.getElem?_eq_getElem hi, List.getElem?_eq_getElem (by rw [List.length_append]; simp; omega)] at this
    simpa using this
  have hlast : E[j].born = b := by
    rw [hborn j hjE]
    have h6 : (bs ++ [b])[j]? = some b := by rw [← hj, ← hbl]; simp
    rw [List.getElem?_eq_getElem (by rw [List.length_append]; simp; omega)] at h6
    exact Option.some.inj h6
  have hfi : E.findIdx? (fun e => (e.born : Int) == (b : Int)) = some j := by
    rw [Array.findIdx?_eq_some_iff_getElem]
    refine ⟨hjE, by rw [hlast]; simp, fun i hi => ?_⟩
    have hpw := List.pairwise_iff_getElem.1 h2 i j (by rw [List.length_append]; simp; omega) (by rw [List.length_append]; simp; omega) hi
    rw [← hborn i (by omega), ← hborn j hjE, hlast] at hpw
    simp; omega
  obtain ⟨w', hw'⟩ : ∃ w', setBlock w r (.map (E.modify j fun q => { q with val := a.eval z0 }) clk) = w' := ⟨_, rfl⟩
  have hg' : w.grownBy w' (some r) := by rw [← hw']; exact setBlock_grown hC _
  have hcell : w'.heap[r]? = some (.map (E.modify j fun q => { q with val := a.eval z0 }) clk) := by rw [← hw']; exact heap_setBlock_same hC _
  have hrun2 : (execOp a.eval o).run P w = .ok .skip w' := by
    simp only [execOp, ho, hxe, hye, Sem.run_bind]
    simp only [Instr.entryStore, Sem.run_bind, MapKept.run_getObj_map hC, Result.andThen_ok, asInt, asIntOf, Sem.run_pure, hfi, MapKept.run_setObj_map _ hC]
    rw [← hw']
    rfl
  have hW : Wrote w (.map (some r)) w' := ⟨hg'.os, hg'.tape, hg'.output, hg'.size, fun r' hr hne => hg'.block r' hr fun he => hne (by rw [blockOf]; exact he.symm)⟩
  have hat : ∀ (i : Nat) (m : MapEntry), (E.modify j fun q => { q with val := a.eval z0 })[i]? = some m → ∃ m0, E[i]? = some m0 ∧ m.born = m0.born ∧ m.key = m0.key ∧ m.val = if i = j then a.eval z0 else m0.val := fun i m hm => by
    rw [Array.getElem?_modify] at hm
    split at hm
    · rename_i hij
      subst hij
      cases h7 : E[j]? with
      | none => rw [h7] at hm; cases hm
      | some m0 => rw [h7] at hm; cases hm; exact ⟨m0, rfl, rfl, rfl, by simp⟩
    · rename_i hij
      exact ⟨m, hm, rfl, rfl, by rw [if_neg (fun h => hij h.symm)]⟩
  have hBR : BRel w' F ι (.map (ents ka xa (l ++ [(k, z')]))) (.map (some r)) := by
    refine ⟨r, _, clk, rfl, hcell, by rw [Array.size_modify, hlen]; simp [ents], fun i p m g1 g2 => ?_, fun i i' m m' hii g1 g2 => ?_, fun i m g1 => ?_⟩
    · obtain ⟨m0, g3, g4, g5, g6⟩ := hat i m g2
      rw [g5, g6]
      unfold ents at g1
      rw [List.getElem?_map, List.getElem?_append] at g1
      by_cases hij : i = j
      · subst hij
        rw [if_neg (by omega), hj] at g1
        simp at g1
        subst g1
        have := hr i (ka k, xa z) m0 (by unfold ents; rw [List.getElem?_map, List.getElem?_append, if_neg (by omega), hj]; simp) g3
        rw [if_pos rfl]
        exact ⟨this.1.wrote hW hv, (aev_rel R.env hz).wrote hW hv⟩
      · have hil : i < l.length := by
          have := (Array.getElem?_eq_some_iff.1 g3).1
          omega
        rw [if_pos hil] at g1
        have := hr i p m0 (by unfold ents; rw [List.getElem?_map, List.getElem?_append, if_pos hil]; exact g1) g3
        rw [if_neg hij]
        exact ⟨this.1.wrote hW hv, this.2.wrote hW hv⟩
    · obtain ⟨m0, g3, g4, _⟩ := hat i m g1
      obtain ⟨m0', g5, g6, _⟩ := hat i' m' g2
      rw [g4, g6]
      obtain ⟨k1, k2⟩ := Array.getElem?_eq_some_iff.1 g3
      obtain ⟨k3, k4⟩ := Array.getElem?_eq_some_iff.1 g5
      rw [← k2, ← k4, hborn i k1, hborn i' k3]
      exact List.pairwise_iff_getElem.1 h2 i i' (by rw [List.length_append]; simp; omega) (by rw [List.length_append]; simp; omega) hii
    · obtain ⟨m0, g3, g4, _⟩ := hat i m g1
      rw [g4]
      refine h3 _ ?_
      rw [← h1]
      exact List.mem_map.2 ⟨m0, Array.mem_toList_iff.2 (Array.mem_of_getElem? g3), rfl⟩
  unfold Oper.wp
  rw [hrun2, Oper.upon_skip, hdst]
  refine hK ι _ _ _ w' ⟨rfl, rfl⟩ ⟨R.heap.wrote hW hv hBR, (R.env.mono fun _ _ _ _ hv' => hv'.wrote hW hv), R.defers.ext (hW.ext hv), R.size⟩ ?_ rfl
  exact ⟨⟨hW.os, hW.tape, hW.output, hW.size, fun r hr hne => hW.mem r hr fun hb => hne id (List.contains_iff_mem.1 hT) _ hv hb⟩, fun j _ u r hj hr _ => ⟨u, hj, hr⟩⟩
theorem T_mapEntry0 {t K E id d : Nat} {x y : Operand} {k : κ} {l : List (κ × ν)} {z : ν} {zv : Value} (law : KeyLaw P K ek ok) (hka : ∀ k, valA (ka k) = some (ek k)) (hkv : ∀ k w F ι, VRel w F ι (ka k) (ek k)) (hz : ∀ W, (zeroValue E).run P W = .ok zv W) (hzr : ∀ w F ι, VRel w F ι (xa z) zv) (hk : ok k) (hl : ∀ p ∈ l, ok p.1) (hn : (l.map (·.1)).Nodup) (hg : aget l k = none)
    (TO : TabOk P tab) (hi : ops[i]? = some o) (hw : awant ops e o = some true) (ho : o.op = .mapEntry t x y) (hdst : o.dst = some d) (hd : Nat.blt d nt = true) (ht : tmap tab t = some (K, E)) (hx : aev e x = some (.mp id)) (hb : look h id = some (.map (ents ka xa l))) (hy : aev e y = some (ka k)) (hT : T.contains id = true)
    (HK : ∀ r bs b clk, bs.length = l.length → AAny P nt ops Q T fuel (listed.setIfInBounds i true) ((d, .tup [xa z, .d (.sc (.int .i64 ((b : Nat) : Int)))]) :: e) ((id, .mapx r (bs ++ [b]) clk (ents ka xa (l ++ [(k, z)]))) :: h)) : AAt P nt ops Q T fuel listed i e h :=
  T_eff hi hw (E_mapEntry0 (d := some d) law hka hkv hz hzr hk hl hn hg TO ho hdst ht hx hb hy hd hT) fun e' h' ⟨r, bs, b, clk, h1, h2, h3⟩ => by subst h2 h3; exact HK r bs b clk h1
theorem T_entryStore0 {t : TypeId} {x y z0 : Operand} {id r clk b : Nat} {bs : List Nat} {q : IntKind} {k : κ} {l : List (κ × ν)} {z z' : ν} (hbl : bs.length = l.length)
    (hi : ops[i]? = some o) (hw : awant ops e o = some true) (ho : o.op = .entryStore t x y z0) (hdst : o.dst = none) (hx : aev e x = some (.mp id)) (hb : look h id = some (.mapx r (bs ++ [b]) clk (ents ka xa (l ++ [(k, z)])))) (hy : aev e y = some (.d (.sc (.int q ((b : Nat) : Int))))) (hz : aev e z0 = some (xa z')) (hT : T.contains id = true)
    (HK : AAny P nt ops Q T fuel (listed.setIfInBounds i true) e ((id, .map (ents ka xa (l ++ [(k, z')]))) :: h)) : AAt P nt ops Q T fuel listed i e h :=
  T_eff hi hw (E_entryStore0 hbl ho hdst hx hb hy hz hT) fun e' h' ⟨h1, h2⟩ => by subst h1 h2; exact HK
end
end Go.Proofs.YtenolkolkpfjgaaGreat.Ab

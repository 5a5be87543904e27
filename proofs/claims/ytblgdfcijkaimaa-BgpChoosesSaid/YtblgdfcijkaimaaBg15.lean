/-
  Texts of a proof, one behind the other (part 16).
-/
import Derived.Test.YtblgdfcijkaimaaBg11
import Derived.Test.YtblgdfcijkaimaaBg14
set_option linter.unusedVariables false
set_option linter.unusedSimpArgs false
namespace Go.Proofs.Ytblgdfcijkaimaa.Ab
set_option linter.unusedVariables false
set_option linter.unusedSimpArgs false
set_option linter.unusedSectionVars false
open Go.RowKit Go.ChangeMaps
section
variable {P : Program} {nt : Nat} {Q : Post} {e : Env} {h : Heap} {ops : Array Oper} {o : Oper} {rest : List Oper} {T : List Nat} {tab : TTab} {fuel i : Nat} {listed : Array Bool}
variable {κ ν : Type} [DecidableEq κ] {ek : κ → Value} {ok : κ → Prop} {ka : κ → AVal} {xa : ν → AVal}
theorem E_mapEntry1 {t K E : Nat} {x y : Operand} {d : Option Tmp} {id j : Nat} {k : κ} {l : List (κ × ν)} {z : ν} (law : KeyLaw P K ek ok) (hka : ∀ k, valA (ka k) = some (ek k)) (hk : ok k) (hl : ∀ p ∈ l, ok p.1) (hn : (l.map (·.1)).Nodup) (hg : mget l k = some (j, z))
    (TO : TabOk P tab) (ho : o.op = .mapEntry t x y) (hdst : o.dst = d) (ht : tmap tab t = some (K, E)) (hx : aev e x = some (.mp id)) (hb : look h id = some (.map (ents ka xa l))) (hy : aev e y = some (ka k)) (hd : dstOk nt d = true) (hT : T.contains id = true) :
    AEff P nt T e h o (fun e' h' => ∃ r bs b clk, bs.length = l.length ∧ bs[j]? = some b ∧ e' = aput d (.tup [xa z, .d (.sc (.int .i64 ((b : Nat) : Int)))]) e ∧ h' = (id, .mapx r bs clk (ents ka xa l)) :: h) := fun Pm F w0 pin ι a w R Kt Qx hK => by
  obtain ⟨te, ht, hs⟩ := tmap_spec ht
  obtain ⟨v, hv, hB⟩ := R.heap.blk id _ hb
  obtain ⟨r0, E0, clk0, hve, hC, hEl, hr, hup, hbd⟩ := (show BRel w F ι (.map (ents ka xa l)) v from hB)
  obtain ⟨B, m, rfl, hm, hbes⟩ := map_is hka hn hB
  cases hve
  obtain ⟨dd, hdd, _, hh⟩ := (TO t te ht).und
  rw [hs] at hh
  cases hh
  have hxe := mp_eq (aev_rel R.env hx) hv
  have hye := valA_rel (aev_rel R.env hy) (hka k)
  have hlm : ∀ p ∈ m, ok p.1 := fun p hp => by
    have : p.1 ∈ m.map (·.1) := List.mem_map.2 ⟨p, hp, rfl⟩
    rw [hbes.keys] at this
    obtain ⟨r, hr, he⟩ := List.mem_map.1 this
    rw [← he]; exact hl r hr
  obtain ⟨u, hgm, hzu⟩ := (hbes.mget k).1 j z hg
  obtain ⟨es, clock, h1, hf, hc⟩ := hm.find law hk hlm
  obtain ⟨es', clock', h1', h2, h3, h4, h5⟩ := (show MapIs ek (fun u : Value => u) w _ m from hm)
  rw [h1] at h1'
  injection h1' with h1'
  injection h1' with e1 e2
  subst e1 e2
  rw [hC] at h1
  injection h1 with h1
  injection h1 with e1 e2
  subst e1 e2
  rw [hgm] at hf
  have hi := mget_some hgm
  have hie : (E0.toList.map (fun e => (e.key, e.val)))[j]? = some (ek k, u) := by rw [h2, List.getElem?_map, hi]; rfl
  rw [List.getElem?_map, Array.getElem?_toList] at hie
  cases hee : E0[j]? with
  | none => rw [hee] at hie; cases hie
  | some e0 =>
    rw [hee] at hie
    simp only [Option.map_some, Option.some.injEq, Prod.mk.injEq] at hie
    have hstay : (Instr.keyThatStays (((E0[j]?).map (·.key)).getD (ek k)) (ek k)).run P w = .ok (ek k) w := by
      rw [hee]
      simp only [Option.map_some, Option.getD_some, hie.1, Instr.keyThatStays, law.bits k hk, if_true, Sem.run_pure]
    have hsame : (E0.modify j fun e => { e with key := ek k }) = E0 := by
      apply Array.ext_getElem?
      intro i
      rw [Array.getElem?_modify]
      split
      · rename_i hij
        subst hij
        rw [hee]
        simp only [Option.map_some, ← hie.1]
      · rfl
    obtain ⟨w', hw'⟩ : ∃ w', setBlock w r0 (.map E0 clk0) = w' := ⟨_, rfl⟩
    have hg' : w.grownBy w' (some r0) := by rw [← hw']; exact setBlock_grown hC _
    have hcell : w'.heap[r0]? = some (.map E0 clk0) := by rw [← hw']; exact heap_setBlock_same hC _
    have hrun2 : (execOp a.eval o).run P w = .ok (.value (.tuple #[u, goInt e0.born])) w' := by
      simp only [execOp, ho, hxe, hye, Sem.run_bind]
      simp only [Instr.mapEntry, Sem.run_bind, run_underlying hdd, Result.andThen_ok, MapKept.run_getObj_map hC, hc, hf, Option.map_some]
      rw [hstay]
      simp only [Result.andThen_ok, Sem.run_bind, hsame, MapKept.run_setObj_map _ hC, hee, Option.map_some, Option.getD_some]
      rw [← hw']
      rfl
    have hW : Wrote w (.map (some r0)) w' := ⟨hg'.os, hg'.tape, hg'.output, hg'.size, fun r hr hne => hg'.block r hr fun he => hne (by rw [blockOf]; exact he.symm)⟩
    have hbl : (E0.toList.map (·.born)).length = l.length := by simp [hEl, ents]
    unfold Oper.wp
    rw [hrun2, Oper.upon_value, hdst]
    refine hK ι _ _ _ w' ⟨r0, E0.toList.map (·.born), e0.born, clk0, hbl, by rw [List.getElem?_map, Array.getElem?_toList, hee]; rfl, rfl, rfl⟩ ⟨R.heap.wrote hW hv ⟨E0, rfl, hcell, hEl, fun i p m g1 g2 => ⟨(hr i p m g1 g2).1.wrote hW hv, (hr i p m g1 g2).2.wrote hW hv⟩, rfl, h4, fun b hb => ?_⟩, (R.env.mono fun _ _ _ _ hv' => hv'.wrote hW hv).aput hd R.size (.tup _ _ rfl fun i c u' g1 g2 => ?_), by rw [put_defers]; exact R.defers.ext (hW.ext hv), by rw [put_size]; exact R.size⟩ ?_ (put_defers _ _ _)
    · obtain ⟨e, he, rfl⟩ := List.mem_map.1 hb
      exact h3 e he
    · match i, g1, g2 with
      | 0, g1, g2 => cases g1; cases g2; exact hzu.wrote hW hv
      | 1, g1, g2 => cases g1; cases g2; exact sc_rel rfl
    · exact ⟨⟨hW.os, hW.tape, hW.output, hW.size, fun r hr hne => hW.mem r hr fun hb => hne id (List.contains_iff_mem.1 hT) _ hv hb⟩, fun j _ u r hj hr _ => ⟨u, hj, hr⟩⟩
theorem E_entryStore1 {t : TypeId} {x y z0 : Operand} {id r clk b j : Nat} {bs : List Nat} {q : IntKind} {k : κ} {l : List (κ × ν)} {z z' : ν} (hbl : bs.length = l.length) (hbj : bs[j]? = some b) (hlj : l[j]? = some (k, z))
    (ho : o.op = .entryStore t x y z0) (hdst : o.dst = none) (hx : aev e x = some (.mp id)) (hb : look h id = some (.mapx r bs clk (ents ka xa l))) (hy : aev e y = some (.d (.sc (.int q ((b : Nat) : Int))))) (hz : aev e z0 = some (xa z')) (hT : T.contains id = true) :
    AEff P nt T e h o (fun e' h' => e' = e ∧ h' = (id, .map (ents ka xa (l.set j (k, z')))) :: h) := fun Pm F w0 pin ι a w R Kt Qx hK => by
  obtain ⟨v, hv, E, rfl, hC, hl, hr, h1, h2, h3⟩ := R.heap.blk id _ hb
  have hxe := mp_eq (aev_rel R.env hx) hv
  have hye := (sc_of (aev_rel R.env hy)).1
  have hlen : E.size = l.length := by rw [hl]; simp [ents]
  have hjl : j < l.length := (List.getElem?_eq_some_iff.1 hlj).1
  have hjE : j < E.size := by omega
  have hborn : ∀ (i : Nat) (hi : i < E.size), E[i].born = bs[i]'(by omega) := fun i hi => by
    have : (E.toList.map (·.born))[i]? = bs[i]? := by rw [h1]
    rw [List.getElem?_map, Array.getElem?_toList, Array.getElem?_eq_getElem hi, List.getElem?_eq_getElem (by omega)] at this
    simpa using this
  have hlast : E[j].born = b := by
    rw [hborn j hjE]
    rw [List.getElem?_eq_getElem (by omega)] at hbj
    exact Option.some.inj hbj
  have hfi : E.findIdx? (fun e => (e.born : Int) == (b : Int)) = some j := by
    rw [Array.findIdx?_eq_some_iff_getElem]
    refine ⟨hjE, by rw [hlast]; simp, fun i hi => ?_⟩
    have hpw := List.pairwise_iff_getElem.1 h2 i j (by omega) (by omega) hi
    rw [← hborn i (by omega), ← hborn j hjE, hlast] at hpw
    simp; omega
  obtain ⟨w', hw'⟩ : ∃ w', setBlock w r (.map (E.modify j fun q => { q with val := a.eval z0 }) clk) = w' := ⟨_, rfl⟩
  have hg' : w.grownBy w' (some r) := by rw [← hw']; exact setBlock_grown hC _
  have hcell : w'.heap[r]? = some (.map (E.modify j fun q => { q with val := a.eval z0 }) clk) := by rw [← hw']; exact heap_setBlock_same hC _
  have hrun2 : (execOp a.eval o).run P w = .ok .skip w' := by
    simp only [execOp, ho, hxe, hye, Sem.run_bind]
    simp only [Instr.entryStore, Sem.run_bind, MapKept.run_getObj_map hC, Result.andThen_ok, asInt, asIntOf, Sem.run_pure, hfi, MapKept.run_setObj_map _ hC]
    rw [← hw']
    rfl
  have hW : Wrote w (.map (some r)) w' := ⟨hg'.os, hg'.tape, hg'.output, hg'.size, fun r' hr hne => hg'.block r' hr fun he => hne (by rw [blockOf]; exact he.symm)⟩
  have hat : ∀ (i : Nat) (m : MapEntry), (E.modify j fun q => { q with val := a.eval z0 })[i]? = some m → ∃ m0, E[i]? = some m0 ∧ m.born = m0.born ∧ m.key = m0.key ∧ m.val = if i = j then a.eval z0 else m0.val := fun i m hm => by
    rw [Array.getElem?_modify] at hm
    split at hm
    · rename_i hij
      subst hij
      cases h7 : E[j]? with
      | none => rw [h7] at hm; cases hm
      | some m0 => rw [h7] at hm; cases hm; exact ⟨m0, rfl, rfl, rfl, by simp⟩
    · rename_i hij
      exact ⟨m, hm, rfl, rfl, by rw [if_neg (fun h => hij h.symm)]⟩
  have hBR : BRel w' F ι (.map (ents ka xa (l.set j (k, z')))) (.map (some r)) := by
    refine ⟨r, _, clk, rfl, hcell, by rw [Array.size_modify, hlen]; simp [ents], fun i p m g1 g2 => ?_, fun i i' m m' hii g1 g2 => ?_, fun i m g1 => ?_⟩
    · obtain ⟨m0, g3, g4, g5, g6⟩ := hat i m g2
      rw [g5, g6]
      unfold ents at g1
      rw [List.getElem?_map, List.getElem?_set] at g1
      by_cases hij : j = i
      · subst hij
        rw [if_pos rfl, if_pos hjl] at g1
        cases g1
        have := hr j (ka k, xa z) m0 (by unfold ents; rw [List.getElem?_map, hlj]; rfl) g3
        rw [if_pos rfl]
        exact ⟨this.1.wrote hW hv, (aev_rel R.env hz).wrote hW hv⟩
      · rw [if_neg hij] at g1
        have := hr i p m0 (by unfold ents; rw [List.getElem?_map]; exact g1) g3
        rw [if_neg fun h => hij h.symm]
        exact ⟨this.1.wrote hW hv, this.2.wrote hW hv⟩
    · obtain ⟨m0, g3, g4, _⟩ := hat i m g1
      obtain ⟨m0', g5, g6, _⟩ := hat i' m' g2
      rw [g4, g6]
      obtain ⟨k1, k2⟩ := Array.getElem?_eq_some_iff.1 g3
      obtain ⟨k3, k4⟩ := Array.getElem?_eq_some_iff.1 g5
      rw [← k2, ← k4, hborn i k1, hborn i' k3]
      exact List.pairwise_iff_getElem.1 h2 i i' (by omega) (by omega) hii
    · obtain ⟨m0, g3, g4, _⟩ := hat i m g1
      rw [g4]
      refine h3 _ ?_
      rw [← h1]
      exact List.mem_map.2 ⟨m0, Array.mem_toList_iff.2 (Array.mem_of_getElem? g3), rfl⟩
  unfold Oper.wp
  rw [hrun2, Oper.upon_skip, hdst]
  refine hK ι _ _ _ w' ⟨rfl, rfl⟩ ⟨R.heap.wrote hW hv hBR, (R.env.mono fun _ _ _ _ hv' => hv'.wrote hW hv), R.defers.ext (hW.ext hv), R.size⟩ ?_ rfl
  exact ⟨⟨hW.os, hW.tape, hW.output, hW.size, fun r hr hne => hW.mem r hr fun hb => hne id (List.contains_iff_mem.1 hT) _ hv hb⟩, fun j _ u r hj hr _ => ⟨u, hj, hr⟩⟩
end
end Go.Proofs.Ytblgdfcijkaimaa.Ab

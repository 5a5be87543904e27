/-
  Texts of a proof, one behind the other (part 17).
-/
import Derived.Test.YtblgdfcijkaimaaBg11
import Derived.Test.YtblgdfcijkaimaaBg13
import Derived.Test.YtblgdfcijkaimaaBg15
set_option linter.unusedVariables false
set_option linter.unusedSimpArgs false
namespace Go.Proofs.Ytblgdfcijkaimaa.Ab
set_option linter.unusedVariables false
set_option maxRecDepth 100000
open Go.RowKit
def isX : ABlk → Bool
  | .rowx _ _ _ _ cs => cs.all plainD
  | _ => false
theorem isX_kill {b : ABlk} (h : isX b = true) (i : Nat) : killB i b = b := by cases b <;> first | rfl | cases h
theorem isX_kills {b : ABlk} (h : isX b = true) (l : List Nat) : killBs l b = b := by cases b <;> first | rfl | cases h
theorem isX_has {b : ABlk} (h : isX b = true) (j : Nat) : blkHas j b = false := by cases b <;> first | rfl | cases h
theorem isX_plain {b : ABlk} (h : isX b = true) : plainB b = true := by cases b <;> first | exact h | cases h
section
variable {Pm F : Nat → Prop} {w0 w w' : World} {pin ι ι' : Nat → Option Value} {h : Heap}
theorem BRel.extB {b : ABlk} {v : Value} (hB : BRel w F ι b v) (he : Ext w F ι w ι') (hid : ∀ j v, blkHas j b = true → ι' j = some v → ι j = some v) : BRel w F ι' b v := by
  cases b with
  | var cs =>
    obtain ⟨r, C, tt, h1, h2, h3, h4⟩ := hB
    refine ⟨r, C, tt, h1, h2, h3, fun i c u h5 h6 => (h4 i c u h5 h6).ext he fun j v hj hv => hid j v ?_ hv⟩
    show hasL j cs = true
    cases hh : hasL j cs with
    | true => rfl
    | false => rw [hasL_mem hh h5] at hj; cases hj
  | row el k n cs =>
    obtain ⟨xs, hown, h3, h4⟩ := hB
    exact ⟨xs, hown, h3, fun i c u h5 h6 => (h4 i c u h5 h6).ext he.mem he.free⟩
  | rowA el k n cs =>
    obtain ⟨xs, hown, h3, h4⟩ := hB
    refine ⟨xs, hown, h3, fun i c u h5 h6 => (h4 i c u h5 h6).ext he fun j v hj hv => hid j v ?_ hv⟩
    show hasL j cs = true
    cases hh : hasL j cs with
    | true => rfl
    | false => rw [hasL_mem hh h5] at hj; cases hj
  | map es =>
    obtain ⟨r, E, clk, h1, h2, h3, h4, h5⟩ := hB
    refine ⟨r, E, clk, h1, h2, h3, fun i p m h6 h7 => ⟨(h4 i p m h6 h7).1.ext he fun j v hj hv => hid j v ?_ hv, (h4 i p m h6 h7).2.ext he fun j v hj hv => hid j v ?_ hv⟩, h5⟩
    · exact List.any_eq_true.2 ⟨p, List.mem_of_getElem? h6, by simp [hj]⟩
    · exact List.any_eq_true.2 ⟨p, List.mem_of_getElem? h6, by simp [hj]⟩
  | mapx r0 bs0 clk0 es =>
    obtain ⟨E, h1, h2, h3, h4, h5⟩ := hB
    refine ⟨E, h1, h2, h3, fun i p m h6 h7 => ⟨(h4 i p m h6 h7).1.ext he fun j v hj hv => hid j v ?_ hv, (h4 i p m h6 h7).2.ext he fun j v hj hv => hid j v ?_ hv⟩, h5⟩
    · exact List.any_eq_true.2 ⟨p, List.mem_of_getElem? h6, by simp [hj]⟩
    · exact List.any_eq_true.2 ⟨p, List.mem_of_getElem? h6, by simp [hj]⟩
  | it o => exact hB
  | rowx hv el k n cs => exact hB.viaX (fun c u h => h.ext he.mem he.free) fun _ _ => rfl
end
section
variable {P : Program} {nt : Nat} {Q : Post} {e e1 : Env} {h h1 G G2 : Heap} {ops : Array Oper} {o : Oper} {rest : List Oper} {T : List Nat} {tab : TTab} {fuel i : Nat} {listed : Array Bool}
theorem Wk_selG (he : Sub e1 e) (hh : Sub h1 h) (hG : ∀ id b, look G id = some b → look h id = some b) : AWk nt e h e1 (h1 ++ G) := fun Pm F w0 pin ι a w R =>
  ⟨only (h1 ++ G) ι, R.heap.only fun id b hb => by
    rw [look_append] at hb
    cases hl : look h1 id with
    | some b' => rw [hl] at hb; cases hb; exact hh.look hl
    | none => rw [hl] at hb; exact hG id b hb, fun t c ht => let ⟨u, hu, hv⟩ := R.env t c (he.look ht); ⟨u, hu, hv.only _⟩, R.defers.ext (only_ext w F _ ι), R.size⟩
theorem Wk_reG (g : Nat → Option Nat) (he : Sub e1 e) (hh : Sub h1 h) (hG : ∀ j b, look G j = some b → ∃ p, g j = some p ∧ look h p = some b ∧ isX b = true ∧ j < 1000) (hinj : ∀ j j' p, g j = some p → g j' = some p → (look G j).isSome = true → (look G j').isSome = true → j = j')
    (hapart : ∀ j, (look G j).isSome = true → look h1 j = none) (hapart2 : ∀ j p, (look G j).isSome = true → g j = some p → look h1 p = none) (hev : ∀ t c, look e1 t = some c → ∀ j, (look G j).isSome = true → c.has j = false) (hbv : ∀ id b, look h1 id = some b → ∀ j, (look G j).isSome = true → blkHas j b = false) :
    AWk nt e h e1 (h1 ++ G) := fun Pm F w0 pin ι a w R => by
  have H := R.heap
  let ι2 : Nat → Option Value := fun j => if (look h1 j).isSome then ι j else if (look G j).isSome then (match g j with | some p => ι p | none => none) else none
  have inG : ∀ j, (look G j).isSome = true → ∃ p b, look G j = some b ∧ g j = some p ∧ look h p = some b ∧ isX b = true ∧ j < 1000 ∧ ι2 j = ι p := fun j hj => by
    obtain ⟨b, hb⟩ := Option.isSome_iff_exists.1 hj
    obtain ⟨p, h2, h3, h4, h5⟩ := hG j b hb
    refine ⟨p, b, hb, h2, h3, h4, h5, ?_⟩
    simp only [ι2, hapart j hj, hj, h2]
    simp
  have cases2 : ∀ j v, ι2 j = some v → ((look h1 j).isSome = true ∧ ι j = some v) ∨ ((look G j).isSome = true ∧ ∃ p, g j = some p ∧ ι p = some v) := fun j v hv => by
    simp only [ι2] at hv
    split at hv
    · rename_i hs; exact .inl ⟨hs, hv⟩
    · split at hv
      · rename_i hs
        obtain ⟨p, b, h2, h3, h4, h5, h6, h7⟩ := inG j hs
        rw [h3] at hv
        exact .inr ⟨hs, p, h3, hv⟩
      · cases hv
  have src : ∀ j v, ι2 j = some v → ∃ q, ι q = some v := fun j v hv => by
    rcases cases2 j v hv with ⟨_, h2⟩ | ⟨_, p, _, h2⟩
    · exact ⟨j, h2⟩
    · exact ⟨p, h2⟩
  have hex : Ext w F ι w ι2 := ⟨fun _ _ _ => rfl, fun r _ hf => ⟨hf.1, fun id v hv => by obtain ⟨q, hq⟩ := src id v hv; exact hf.2 q v hq⟩⟩
  have ext1 : ∀ c u, (∀ j, (look G j).isSome = true → c.has j = false) → VRel w F ι c u → VRel w F ι2 c u := fun c u hn hc => hc.ext hex fun id v hi hv => by
    rcases cases2 id v hv with ⟨_, h2⟩ | ⟨h2, _⟩
    · exact h2
    · rw [hn id h2] at hi; cases hi
  refine ⟨ι2, ⟨⟨fun id b hb => ?_, fun id v hv => ?_, fun i j v v' r hij hi hj hr => ?_, fun i v r hi hr => ?_, H.os, H.tape, H.output, H.size, H.keep, H.fresh, fun id v h5 hv => ?_, fun i v r hi hr => ?_, H.forb⟩, fun t c ht => ?_, R.defers.ext hex, R.size⟩⟩
  · rw [look_append] at hb
    cases hl : look h1 id with
    | some b' =>
      rw [hl] at hb; cases hb
      obtain ⟨v, hv, hB⟩ := H.blk id b (hh.look hl)
      refine ⟨v, by simp only [ι2, hl]; simpa using hv, hB.extB hex fun j v hj hv => ?_⟩
      rcases cases2 j v hv with ⟨_, h2⟩ | ⟨h2, _⟩
      · exact h2
      · rw [hbv id b hl j h2] at hj; cases hj
    | none =>
      rw [hl] at hb
      have hb : look G id = some b := hb
      obtain ⟨p, b', h2, h3, h4, h5, h6, h7⟩ := inG id (by rw [hb]; rfl)
      rw [hb] at h2; cases h2
      obtain ⟨v, hv, hB⟩ := H.blk p b h4
      exact ⟨v, by rw [h7]; exact hv, hB.extB hex fun j v hj _ => by rw [isX_has h5] at hj; cases hj⟩
  · rw [look_append]
    rcases cases2 id v hv with ⟨h2, _⟩ | ⟨h2, _⟩
    · obtain ⟨b, hb⟩ := Option.isSome_iff_exists.1 h2
      exact ⟨b, by rw [hb]⟩
    · obtain ⟨b, hb⟩ := Option.isSome_iff_exists.1 h2
      exact ⟨b, by rw [hapart id h2]; exact hb⟩
  · rcases cases2 i v hi with ⟨h2, h3⟩ | ⟨h2, p, h3, h4⟩ <;> rcases cases2 j v' hj with ⟨k2, k3⟩ | ⟨k2, q, k3, k4⟩
    · exact H.inj i j v v' r hij h3 k3 hr
    · refine H.inj i q v v' r ?_ h3 k4 hr
      rintro rfl
      rw [hapart2 j i k2 k3] at h2; cases h2
    · refine H.inj p j v v' r ?_ h4 k3 hr
      rintro rfl
      rw [hapart2 i p h2 h3] at k2; cases k2
    · refine H.inj p q v v' r ?_ h4 k4 hr
      rintro rfl
      exact hij (hinj i j p h3 k3 h2 k2)
  · obtain ⟨q, hq⟩ := src i v hi; exact H.pm q v r hq hr
  · rcases cases2 id v hv with ⟨_, h3⟩ | ⟨h2, p, h3, h4⟩
    · exact H.pinned id v h5 h3
    · obtain ⟨_, _, _, _, _, _, h6, _⟩ := inG id h2; omega
  · obtain ⟨q, hq⟩ := src i v hi; exact H.nf q v r hq hr
  · obtain ⟨u, hu, hv⟩ := R.env t c (he.look ht)
    exact ⟨u, hu, ext1 c u (hev t c ht) hv⟩
theorem T_cNE {α : Type} {Φ : α → Prop} {C : α → AVal} {H1 : α → Heap} {f : FuncId} {args : Array Operand} {ats : Array TypeId} {cs : List AVal} {d : Nat} (H : ACall P f cs [] (fun c' h' => ∃ x, Φ x ∧ c' = C x ∧ h' = H1 x))
    (hq : ∀ x, Φ x → ((H1 x).map (·.1)).all (fun j => Nat.blt j 1000) = true ∧ (∀ id b j, look (H1 x) id = some b → blkHas j b = true → (look (H1 x) j).isSome = true) ∧ ∀ j, (C x).has j = true → (look (H1 x) j).isSome = true)
    (hi : ops[i]? = some o) (hw : awant ops e o = some true) (hdst : o.dst = some d) (hd : Nat.blt d nt = true) (ho : o.op = .call { callee := .value (.func f), args := args, argTypes := ats }) (hx : aevs e args.toList = some cs)
    (HK : ∀ x, Φ x → AAny P nt ops Q T fuel (listed.setIfInBounds i true) ((d, C x) :: killEs ((H1 x).map (·.1)) e) (H1 x ++ killHs ((H1 x).map (·.1)) h)) : AAt P nt ops Q T fuel listed i e h :=
  T_eff hi hw (E_callQ (d := some d) ho hdst hx H hd fun c' h' ⟨x, hΦ, q1, q2⟩ => by subst q1 q2; exact hq x hΦ) fun e' h' ⟨c', h2, ⟨x, hΦ, q1, q2⟩, q3, q4⟩ => by subst q1 q2 q3 q4; exact HK x hΦ
end
section
variable {κ ν : Type} [DecidableEq κ] {ok : κ → Prop} {ka : κ → AVal} {ek : κ → Value} {xa : ν → AVal}
variable {P : Program} {nt : Nat} {Q : Post} {e : Env} {h : Heap} {ops : Array Oper} {o : Oper} {T : List Nat} {tab : TTab} {fuel i : Nat} {listed : Array Bool}
theorem T_mapEntry1 {t K E id d j : Nat} {x y : Operand} {k : κ} {l : List (κ × ν)} {z : ν} (law : KeyLaw P K ek ok) (hka : ∀ k, valA (ka k) = some (ek k)) (hk : ok k) (hl : ∀ p ∈ l, ok p.1) (hn : (l.map (·.1)).Nodup) (hg : mget l k = some (j, z))
    (TO : TabOk P tab) (hi : ops[i]? = some o) (hw : awant ops e o = some true) (ho : o.op = .mapEntry t x y) (hdst : o.dst = some d) (hd : Nat.blt d nt = true) (ht : tmap tab t = some (K, E)) (hx : aev e x = some (.mp id)) (hb : look h id = some (.map (ents ka xa l))) (hy : aev e y = some (ka k)) (hT : T.contains id = true)
    (HK : ∀ r bs b clk, bs.length = l.length → bs[j]? = some b → AAny P nt ops Q T fuel (listed.setIfInBounds i true) ((d, .tup [xa z, .d (.sc (.int .i64 ((b : Nat) : Int)))]) :: e) ((id, .mapx r bs clk (ents ka xa l)) :: h)) : AAt P nt ops Q T fuel listed i e h :=
  T_eff hi hw (E_mapEntry1 (d := some d) law hka hk hl hn hg TO ho hdst ht hx hb hy hd hT) fun e' h' ⟨r, bs, b, clk, h1, h2, h3, h4⟩ => by subst h3 h4; exact HK r bs b clk h1 h2
theorem T_entryStore1 {t : TypeId} {x y z0 : Operand} {id r clk b j : Nat} {bs : List Nat} {q : IntKind} {k : κ} {l : List (κ × ν)} {z z' : ν} (hbl : bs.length = l.length) (hbj : bs[j]? = some b) (hlj : l[j]? = some (k, z))
    (hi : ops[i]? = some o) (hw : awant ops e o = some true) (ho : o.op = .entryStore t x y z0) (hdst : o.dst = none) (hx : aev e x = some (.mp id)) (hb : look h id = some (.mapx r bs clk (ents ka xa l))) (hy : aev e y = some (.d (.sc (.int q ((b : Nat) : Int))))) (hz : aev e z0 = some (xa z')) (hT : T.contains id = true)
    (HK : AAny P nt ops Q T fuel (listed.setIfInBounds i true) e ((id, .map (ents ka xa (l.set j (k, z')))) :: h)) : AAt P nt ops Q T fuel listed i e h :=
  T_eff hi hw (E_entryStore1 hbl hbj hlj ho hdst hx hb hy hz hT) fun e' h' ⟨h1, h2⟩ => by subst h1 h2; exact HK
end
structure Own3 (G : Heap) (b : Nat) (x : AdvR) : Prop where
  o1 : look G b = some (nRowx x.v1 x.a.path)
  o2 : look G (b + 1) = some (nRowx x.v2 x.a.com)
  o3 : look G (b + 2) = some (aRowx x.v3 x.a.clus)
structure Fam (G : Heap) (m : Nat) : Prop where
  lo : ∀ id b, look G id = some b → 100 ≤ id ∧ id < 3 * m + 100
  ix : ∀ id b, look G id = some b → isX b = true
  nd : (G.map (·.1)).Nodup
theorem Fam.nil : Fam [] 0 := ⟨fun _ _ h => (by cases h), fun _ _ h => (by cases h), .nil⟩
theorem look_of_key {α : Type} {l : List (Nat × α)} {k : Nat} (h : k ∈ l.map (·.1)) : ∃ b, look l k = some b := by
  have := contains_keys l k
  rw [List.contains_iff_mem.2 h] at this
  exact Option.isSome_iff_exists.1 this.symm
theorem sub_of_look {α : Type} {l m : List (Nat × α)} (hn : (l.map (·.1)).Nodup) (h : ∀ id b, look l id = some b → look m id = some b) : Sub l m := by
  induction l with
  | nil => exact trivial
  | cons p r ih =>
    obtain ⟨k, b⟩ := p
    rw [List.map_cons, List.nodup_cons] at hn
    refine ⟨h k b (look_cons_same _ _ _), ih hn.2 fun id b' hb => h id b' ?_⟩
    have : k ≠ id := by
      rintro rfl
      refine hn.1 ?_
      have := contains_keys r k
      rw [hb] at this
      exact List.contains_iff_mem.1 this
    rw [look_cons_ne _ _ this]; exact hb
def three (b : Nat) (x : AdvR) : Heap := [(b, nRowx x.v1 x.a.path), (b + 1, nRowx x.v2 x.a.com), (b + 2, aRowx x.v3 x.a.clus)]
theorem plain_u1 (l : List Int) : (l.flatMap u1D).all plainD = true := by
  rw [List.all_eq_true]
  intro c hc
  obtain ⟨x, _, hx⟩ := List.mem_flatMap.1 hc
  simp [u1D] at hx
  subst hx; rfl
theorem look_three {b j : Nat} {x : AdvR} {bl : ABlk} (h : look (three b x) j = some bl) : (j = b ∨ j = b + 1 ∨ j = b + 2) ∧ isX bl = true := by
  unfold three at h
  by_cases h1 : b = j
  · subst h1; rw [look_cons_same] at h; cases h; exact ⟨.inl rfl, plain_u1 _⟩
  · rw [look_cons_ne _ _ h1] at h
    by_cases h2 : b + 1 = j
    · subst h2; rw [look_cons_same] at h; cases h; exact ⟨.inr (.inl rfl), plain_u1 _⟩
    · rw [look_cons_ne _ _ h2] at h
      by_cases h3 : b + 2 = j
      · subst h3; rw [look_cons_same] at h; cases h; exact ⟨.inr (.inr rfl), plain_u1 _⟩
      · rw [look_cons_ne _ _ h3] at h; cases h
theorem Fam.snoc {G : Heap} {m : Nat} (h : Fam G m) (x : AdvR) : Fam (three (3 * m + 100) x ++ G) (m + 1) := by
  have key : ∀ id b, look (three (3 * m + 100) x ++ G) id = some b → (100 ≤ id ∧ id < 3 * (m + 1) + 100) ∧ isX b = true := fun id b hb => by
    rw [look_append] at hb
    cases hl : look (three (3 * m + 100) x) id with
    | some b' =>
      rw [hl] at hb; cases hb
      obtain ⟨h1, h2⟩ := look_three hl
      exact ⟨by omega, h2⟩
    | none =>
      rw [hl] at hb
      have := h.lo id b hb
      exact ⟨by omega, h.ix id b hb⟩
  refine ⟨fun id b hb => (key id b hb).1, fun id b hb => (key id b hb).2, ?_⟩
  have hno : ∀ k, 3 * m + 100 ≤ k → k ∉ G.map (·.1) := fun k hk hm => by
    obtain ⟨b, hb⟩ := look_of_key hm
    have := h.lo k b hb; omega
  show ((3 * m + 100) :: (3 * m + 100 + 1) :: (3 * m + 100 + 2) :: G.map (·.1)).Nodup
  rw [List.nodup_cons, List.nodup_cons, List.nodup_cons]
  refine ⟨?_, ?_, hno _ (by omega), h.nd⟩
  · rw [List.mem_cons, List.mem_cons]; rintro (h1 | h1 | h1)
    · omega
    · omega
    · exact hno _ (by omega) h1
  · rw [List.mem_cons]; rintro (h1 | h1)
    · omega
    · exact hno _ (by omega) h1
theorem Own3.new (G : Heap) (b : Nat) (x : AdvR) : Own3 (three b x ++ G) b x := by
  refine ⟨?_, ?_, ?_⟩
  · exact look_cons_same _ _ _
  · show look ((b, _) :: (b + 1, _) :: _) _ = _
    rw [look_cons_ne _ _ (by omega)]; exact look_cons_same _ _ _
  · show look ((b, _) :: (b + 1, _) :: (b + 2, _) :: _) _ = _
    rw [look_cons_ne _ _ (by omega), look_cons_ne _ _ (by omega)]; exact look_cons_same _ _ _
theorem Own3.old {G : Heap} {b c : Nat} {x y : AdvR} (h : Own3 G b x) (hc : b + 2 < c) : Own3 (three c y ++ G) b x := by
  have key : ∀ j bl, j ≤ b + 2 → look G j = some bl → look (three c y ++ G) j = some bl := fun j bl hj hl => by
    show look ((c, _) :: (c + 1, _) :: (c + 2, _) :: G) j = _
    rw [look_cons_ne _ _ (by omega), look_cons_ne _ _ (by omega), look_cons_ne _ _ (by omega)]; exact hl
  exact ⟨key _ _ (by omega) h.o1, key _ _ (by omega) h.o2, key _ _ (by omega) h.o3⟩
theorem Own3.raw {G : Heap} {b : Nat} {x : AdvR} {h : Heap} (o : Own3 G b x) (hG : ∀ id bl, look G id = some bl → look h id = some bl) : RawDs h (advRD x) (advD x.a) :=
  .cons (.same _) <| .cons (.same _) <| .cons (.same _) <| .cons (.same _) <| .cons (.same _) <| .cons (.row _ _ _ _ _ _ (hG _ _ o.o1)) <| .cons (.row _ _ _ _ _ _ (hG _ _ o.o2)) <| .cons (.same _) <| .cons (.same _) <| .cons (.same _) <| .cons (.same _) <|
    .cons (.row _ _ _ _ _ _ (hG _ _ o.o3)) <| .cons (.same _) <| .nil _
end Go.Proofs.Ytblgdfcijkaimaa.Ab

/-
  Texts of a proof, one behind the other (part 24).
-/
import Derived.Test.YtblgdfcijkaimaaBg11
import Derived.Test.YtblgdfcijkaimaaBg16
import Derived.Test.YtblgdfcijkaimaaBg20
import Derived.Test.YtblgdfcijkaimaaBg21
import Derived.Test.YtblgdfcijkaimaaBg22
set_option linter.unusedVariables false
set_option linter.unusedSimpArgs false
namespace Go.Proofs.Ytblgdfcijkaimaa
set_option linter.unusedVariables false
def zAdv : Adv := ⟨⟨0, 0⟩, 0, 0, 0, [], [], 0, 0, false, 0, [], 0⟩
def zAR : AdvR := ⟨zAdv, .slice none 0 0, .slice none 0 0, .slice none 0 0⟩
namespace Ab
set_option maxRecDepth 100000
open Go.RowKit Go.Lib
theorem advRA_rel (w : World) (F : Nat → Prop) (ι : Nat → Option Value) : VRel w F ι (advRA zAR) (.agg (advRV zAR).toArray) := val_mk _ _ _ _ _ rfl rfl
theorem zeroAdvR (W : World) : (zeroValue 34).run Try.prog W = .ok (.agg (advRV zAR).toArray) W := by
  have h : tlook tab 34 = some _ := rfl
  obtain ⟨z, h1, h2, i, h3, h4, _⟩ := (tabOk _ _ h).zero W
  have h5 : (Try.prog.info? 34).bind (·.zero) = some (.agg (advRV zAR).toArray) := by kernel_rfl
  rw [h3] at h5
  simp only [Option.bind_some] at h5
  rw [h4] at h5
  cases h5
  exact h1
theorem zeroIntB (W : World) : (zeroValue 3).run Try.prog W = .ok (.int .i64 0) W := by
  have h : tlook tab 3 = some _ := rfl
  obtain ⟨z, h1, h2, i, h3, h4, _⟩ := (tabOk _ _ h).zero W
  have h5 : (Try.prog.info? 3).bind (·.zero) = some (.int .i64 0) := by kernel_rfl
  rw [h3] at h5
  simp only [Option.bind_some] at h5
  rw [h4] at h5
  cases h5
  exact h1
def cstB (l : List (Pfx × Int)) : ABlk := .map (ents pfxA intA l)
theorem kill_cst (id : Nat) (l : List (Pfx × Int)) : killB id (cstB l) = cstB l := by
  show ABlk.map ((l.map fun p => (pfxA p.1, intA p.2)).map fun p => (killV id p.1, killV id p.2)) = _
  rw [List.map_map]; rfl
theorem kills_by (ids : List Nat) (l : List (Pfx × AdvR)) : killBs ids (byB l) = byB l := by
  show ABlk.map ((l.map fun p => (pfxA p.1, advRA p.2)).map fun p => (killVs ids p.1, killVs ids p.2)) = _
  rw [List.map_map]
  congr 1
  refine List.map_congr_left fun p _ => ?_
  have e : ∀ c : AVal, hasAny ids c = false → killVs ids c = c := fun c h => by unfold killVs; rw [h]; rfl
  have h0 : ∀ c : AVal, (∀ j, c.has j = false) → hasAny ids c = false := fun c h => by
    unfold hasAny; rw [List.any_eq_false]; intro x _; rw [h x]; simp
  show (killVs ids (pfxA p.1), killVs ids (advRA p.2)) = _
  rw [e _ (h0 _ fun j => rfl), e _ (h0 _ fun j => rfl)]
theorem kills_cst (ids : List Nat) (l : List (Pfx × Int)) : killBs ids (cstB l) = cstB l := by
  show ABlk.map ((l.map fun p => (pfxA p.1, intA p.2)).map fun p => (killVs ids p.1, killVs ids p.2)) = _
  rw [List.map_map]
  congr 1
  refine List.map_congr_left fun p _ => ?_
  have e : ∀ c : AVal, hasAny ids c = false → killVs ids c = c := fun c h => by unfold killVs; rw [h]; rfl
  have h0 : ∀ c : AVal, (∀ j, c.has j = false) → hasAny ids c = false := fun c h => by
    unfold hasAny; rw [List.any_eq_false]; intro x _; rw [h x]; simp
  show (killVs ids (pfxA p.1), killVs ids (intA p.2)) = _
  rw [e _ (h0 _ fun j => rfl), e _ (h0 _ fun j => rfl)]
set_option linter.unusedSimpArgs false
attribute [local irreducible] AWp AOps AQ AYield AEff ACall AWk AAny AAt AThen AIn APost NoPanic
structure BSt where
  k : Nat
  es : List (Pfx × AdvR)
  cs : List (Pfx × Int)
  G : Heap
  m : Nat
structure BInv (r : List Rte) (l : List Adv) (s : BSt) : Prop where
  kl : s.k ≤ l.length
  er : EntR s.es
  nc : (s.cs.map (·.1)).Nodup
  bo : ∀ p, (match aget s.es p, aget s.cs p with | some x, some c => bestO p (useL r (l.take s.k)) = some (x.a, c) | none, none => bestO p (useL r (l.take s.k)) = none | _, _ => False)
  fam : Fam s.G s.m
  ml : s.m ≤ s.k
  own : ∃ β : Pfx → Nat, (∀ p x, aget s.es p = some x → β p < s.m ∧ Own3 s.G (3 * β p + 100) x) ∧ ∀ p q x y, aget s.es p = some x → aget s.es q = some y → β p = β q → p = q
def BestQ (r : List Rte) (l : List Adv) (c : AVal) (h : Heap) : Prop := ∃ (R : List AdvR) (G : Heap) (m : Nat) (β : Nat → Nat), BestOk (useL r l) (R.map (·.a)) ∧ R.length ≤ l.length ∧ Fam G m ∧ m ≤ l.length ∧ (∀ (i : Nat) (hi : i < R.length), β i < m ∧ Own3 G (3 * β i + 100) R[i]) ∧ (∀ i j, i < R.length → j < R.length → β i = β j → i = j) ∧
      c = .row 3 ∧ h = (3, rB R) :: G
theorem aput_noneB {κ ν : Type} [DecidableEq κ] {l : List (κ × ν)} {k : κ} {v : ν} (h : aget l k = none) : Go.Proofs.Ytblgdfcijkaimaa.aput l k v = l ++ [(k, v)] := by
  unfold Go.Proofs.Ytblgdfcijkaimaa.aput
  unfold aget at h
  cases hm : mget l k with
  | none => rfl
  | some x => rw [hm] at h; cases h
theorem BInv.put {r : List Rte} {l : List Adv} {k : Nat} {es : List (Pfx × AdvR)} {cs : List (Pfx × Int)} {G : Heap} {m : Nat} (h : BInv r l ⟨k, es, cs, G, m⟩) (hk : k < l.length) {c0 : Int} {y : AdvR} (hu : useL r (l.take (k + 1)) = useL r (l.take k) ++ [(l[k], c0)]) (hy : y.a = l[k])
    (hb : bestStep l[k].p (bestO l[k].p (useL r (l.take k))) (l[k], c0) = some (l[k], c0)) : BInv r l ⟨k + 1, Go.Proofs.Ytblgdfcijkaimaa.aput es l[k].p y, Go.Proofs.Ytblgdfcijkaimaa.aput cs l[k].p c0, three (3 * m + 100) y ++ G, m + 1⟩ := by
  obtain ⟨β, hβ1, hβ2⟩ := h.own
  have hml := h.ml
  dsimp only at hβ1 hβ2 hml
  refine ⟨hk, ⟨aput_nodup h.er.nd, fun e he => ?_⟩, aput_nodup h.nc, fun p => ?_, h.fam.snoc y, Nat.succ_le_succ hml, fun p => if p = l[k].p then m else β p, fun p x hp => ?_, fun p q x z hp hq he => ?_⟩
  · rcases (mem_aput h.er.nd).1 he with rfl | ⟨_, h2⟩
    · dsimp only; rw [hy]
    · exact h.er.key e h2
  · dsimp only
    rw [aget_aput h.er.nd, aget_aput h.nc, hu, bestO_snoc]
    by_cases hp : p = l[k].p
    · subst hp
      rw [if_pos rfl, if_pos rfl]
      dsimp only
      rw [hb, hy]
    · rw [if_neg hp, if_neg hp]
      have e : bestStep p (bestO p (useL r (l.take k))) (l[k], c0) = bestO p (useL r (l.take k)) := if_neg (fun h => hp h.symm)
      rw [e]
      exact h.bo p
  · dsimp only at hp ⊢
    rw [aget_aput h.er.nd] at hp
    by_cases hpp : p = l[k].p
    · rw [if_pos hpp] at hp ⊢
      cases hp
      exact ⟨by omega, Own3.new _ _ _⟩
    · rw [if_neg hpp] at hp ⊢
      obtain ⟨h1, h2⟩ := hβ1 p x hp
      exact ⟨by omega, h2.old (by omega)⟩
  · dsimp only at hp hq he
    rw [aget_aput h.er.nd] at hp hq
    by_cases h1 : p = l[k].p <;> by_cases h2 : q = l[k].p
    · rw [h1, h2]
    · rw [if_pos h1, if_neg h2] at he
      rw [if_neg h2] at hq
      have := (hβ1 q z hq).1; omega
    · rw [if_neg h1, if_pos h2] at he
      rw [if_neg h1] at hp
      have := (hβ1 p x hp).1; omega
    · rw [if_neg h1, if_neg h2] at he
      rw [if_neg h1] at hp
      rw [if_neg h2] at hq
      exact hβ2 p q x z hp hq he
theorem BInv.add {r : List Rte} {l : List Adv} {k : Nat} {es : List (Pfx × AdvR)} {cs : List (Pfx × Int)} {G : Heap} {m : Nat} (h : BInv r l ⟨k, es, cs, G, m⟩) (hk : k < l.length) {c0 : Int} {y : AdvR} (hu : useL r (l.take (k + 1)) = useL r (l.take k) ++ [(l[k], c0)]) (hag : aget es l[k].p = none) (hy : y.a = l[k]) :
    BInv r l ⟨k + 1, es ++ [(l[k].p, y)], Go.Proofs.Ytblgdfcijkaimaa.aput cs l[k].p c0, three (3 * m + 100) y ++ G, m + 1⟩ := by
  have hbo := h.bo l[k].p
  dsimp only at hbo
  rw [hag] at hbo
  have hno : bestO l[k].p (useL r (l.take k)) = none := by
    cases hc : aget cs l[k].p with
    | none => rw [hc] at hbo; exact hbo
    | some c => rw [hc] at hbo; exact hbo.elim
  have := h.put hk hu hy (by rw [hno]; exact if_pos rfl)
  rw [aput_noneB hag] at this
  exact this
theorem BInv.keep {r : List Rte} {l : List Adv} {k : Nat} {es : List (Pfx × AdvR)} {cs : List (Pfx × Int)} {G : Heap} {m : Nat} (h : BInv r l ⟨k, es, cs, G, m⟩) (hk : k < l.length) {c0 c1 : Int} {b : Adv} (hu : useL r (l.take (k + 1)) = useL r (l.take k) ++ [(l[k], c0)]) (hb : bestO l[k].p (useL r (l.take k)) = some (b, c1)) (hlt : ¬ ordT l[k] b c0 c1 < 0) : BInv r l ⟨k + 1, es, cs, G, m⟩ :=
  ⟨hk, h.er, h.nc, fun p => by
    have := h.bo p
    dsimp only at this ⊢
    have e : bestO p (useL r (l.take (k + 1))) = bestO p (useL r (l.take k)) := by
      rw [hu, bestO_snoc]
      unfold bestStep
      by_cases hp : l[k].p = p
      · rw [if_pos hp, ← hp, hb]
        exact if_neg (fun h => hlt ((bord_lt _ _ _ _).1 h))
      · exact if_neg hp
    rw [e]; exact this, h.fam, Nat.le_succ_of_le h.ml, h.own⟩
theorem mget_of_aget {κ ν : Type} [DecidableEq κ] {l : List (κ × ν)} {k : κ} {v : ν} (h : aget l k = some v) : ∃ j, mget l k = some (j, v) := by
  unfold aget at h
  cases hm : mget l k with
  | none => rw [hm] at h; cases h
  | some q => rw [hm] at h; obtain ⟨j, z⟩ := q; cases h; exact ⟨j, rfl⟩
theorem BInv.done {r : List Rte} {l : List Adv} {es : List (Pfx × AdvR)} {cs : List (Pfx × Int)} {G : Heap} {m : Nat} (h : BInv r l ⟨l.length, es, cs, G, m⟩) : BestQ r l (.row 3) ((3, rB (srt cmpR (es.map (·.2)))) :: G) := by
  obtain ⟨β, hβ1, hβ2⟩ := h.own
  have hbo := h.bo
  have hE := h.er
  have hml := h.ml
  dsimp only at hβ1 hβ2 hbo hE hml
  rw [List.take_length] at hbo
  have hmem : ∀ x, x ∈ srt cmpR (es.map (·.2)) → aget es x.a.p = some x := fun x hx => by
    rw [srt_mem, List.mem_map] at hx
    obtain ⟨e, he, rfl⟩ := hx
    rw [hE.key e he]; exact aget_of_mem hE.nd he
  have hris := srtR_rising hE.apart
  refine ⟨srt cmpR (es.map (·.2)), G, m, fun i => β ((srt cmpR (es.map (·.2)))[i]!).a.p, ⟨?_, fun a => ⟨fun ha => ?_, fun ⟨c, hf⟩ => ?_⟩⟩, ?_, h.fam, hml, fun i hi => ?_, fun i j hi hj he => ?_, rfl, rfl⟩
  · unfold Rising at hris ⊢
    rw [List.pairwise_map]; exact hris
  · obtain ⟨x, hx, rfl⟩ := List.mem_map.1 ha
    have h1 := hbo x.a.p
    rw [hmem x hx] at h1
    cases hc : aget cs x.a.p with
    | none => rw [hc] at h1; exact h1.elim
    | some c => rw [hc] at h1; exact ⟨c, (bestO_FM _ _ _ h1).2⟩
  · have h1 := hbo a.p
    have h2 := hf.best
    dsimp only at h2
    rw [h2] at h1
    cases he : aget es a.p with
    | none =>
      rw [he] at h1
      cases hc : aget cs a.p with
      | none => rw [hc] at h1; cases h1
      | some c => rw [hc] at h1; exact h1.elim
    | some x =>
      rw [he] at h1
      cases hc : aget cs a.p with
      | none => rw [hc] at h1; exact h1.elim
      | some d =>
        rw [hc] at h1
        have h1 : some (a, c) = some (x.a, d) := h1
        cases h1
        exact List.mem_map.2 ⟨x, (srt_mem _ _).2 (List.mem_map.2 ⟨_, mem_of_aget he, rfl⟩), rfl⟩
  · rw [srt_len, List.length_map]
    have h1 : (es.map fun e => β e.1).Nodup := by
      rw [List.nodup_iff_pairwise_ne, List.pairwise_map]
      have h2 : es.Pairwise fun a b => a.1 ≠ b.1 := List.pairwise_map.1 hE.nd
      exact h2.imp_of_mem fun {a b} ha hb hne he => hne (hβ2 _ _ _ _ (aget_of_mem hE.nd ha) (aget_of_mem hE.nd hb) he)
    have h2 := nodupB_len h1 (n := m) fun j hj => by
      obtain ⟨e, he, rfl⟩ := List.mem_map.1 hj
      exact (hβ1 _ _ (aget_of_mem hE.nd he)).1
    rw [List.length_map] at h2
    omega
  · dsimp only
    rw [getElem!_pos _ i hi]
    exact hβ1 _ _ (hmem _ (List.getElem_mem hi))
  · dsimp only at he
    rw [getElem!_pos _ i hi, getElem!_pos _ j hj] at he
    have h1 := hβ2 _ _ _ _ (hmem _ (List.getElem_mem hi)) (hmem _ (List.getElem_mem hj)) he
    have hp := List.pairwise_iff_getElem.1 hris
    rcases Nat.lt_trichotomy i j with h2 | h2 | h2
    · have h3 : cmpP (srt cmpR (es.map (·.2)))[i].a.p (srt cmpR (es.map (·.2)))[j].a.p < 0 := hp i j hi hj h2
      rw [h1, good_pfx.refl] at h3; omega
    · exact h2
    · have h3 : cmpP (srt cmpR (es.map (·.2)))[j].a.p (srt cmpR (es.map (·.2)))[i].a.p < 0 := hp j i hj hi h2
      rw [h1, good_pfx.refl] at h3; omega
theorem ren_by (ρ : List (Nat × Nat)) (es : List (Pfx × AdvR)) : renB ρ (byB es) = byB es := by
  show ABlk.map ((es.map fun p => (pfxA p.1, advRA p.2)).map fun p => (renV ρ p.1, renV ρ p.2)) = _
  rw [List.map_map]; rfl
theorem look_mem {α : Type} {l : List (Nat × α)} {t : Nat} {c : α} (h : look l t = some c) : (t, c) ∈ l := by
  induction l with
  | nil => cases h
  | cons p r ih =>
    obtain ⟨k, d⟩ := p
    by_cases hk : k = t
    · subst hk; rw [look_cons_same] at h; cases h; exact List.mem_cons_self ..
    · rw [look_cons_ne _ _ hk] at h; exact List.mem_cons_of_mem _ (ih h)
theorem kby1 (i : Nat) (l : List (Pfx × AdvR)) : some (killB i (byB l)) = some (.map (ents pfxA advRA l)) := by rw [kill_by]; rfl
theorem kby2 (i j : Nat) (l : List (Pfx × AdvR)) : some (killB i (killB j (byB l))) = some (.map (ents pfxA advRA l)) := by rw [kill_by, kill_by]; rfl
theorem kcs2 (i j : Nat) (l : List (Pfx × Int)) : some (killB i (killB j (cstB l))) = some (.map (ents pfxA intA l)) := by rw [kill_cst, kill_cst]; rfl
theorem BInv.stay {r : List Rte} {l : List Adv} {k : Nat} {es : List (Pfx × AdvR)} {cs : List (Pfx × Int)} {G : Heap} {m : Nat} (h : BInv r l ⟨k, es, cs, G, m⟩) (hk : k < l.length) (hu : useL r (l.take (k + 1)) = useL r (l.take k)) : BInv r l ⟨k + 1, es, cs, G, m⟩ :=
  ⟨hk, h.er, h.nc, fun p => by have := h.bo p; dsimp only at this ⊢; rw [hu]; exact this, h.fam, Nat.le_succ_of_le h.ml, h.own⟩
abbrev bestE (r : List Rte) (l : List Adv) (k : Nat) : Env := [(1, rtesA r), (5, .mp 5), (6, .mp 6), (15, advsA l), (16, intA (l.length : Int)), (17, intA (k : Int))]
theorem kbyS0 (ids : List Nat) (l : List (Pfx × AdvR)) : some (killBs ids (byB l)) = some (.map (ents pfxA advRA l)) := by rw [kills_by]; rfl
theorem kcsS0 (ids : List Nat) (l : List (Pfx × Int)) : some (killBs ids (cstB l)) = some (.map (ents pfxA intA l)) := by rw [kills_cst]; rfl
theorem copied3_A (x : Adv) (hx : x.ok) : ACall Try.prog 19 [advA x] [] (fun c h => ∃ y : AdvR, y.a = x ∧ c = advRA y ∧ h = three 51 y) :=
  (copied_A x hx).mono fun c h ⟨y, h1, h2, h3⟩ => ⟨y, h1, h2, by rw [h3, ← h1]; rfl⟩
theorem three_lo {y : AdvR} : ∀ k ∈ (three 51 y).map (·.1), k < 100 := fun k hk => by simp [three] at hk; omega
theorem three_q (y : AdvR) : ((three 51 y).map (·.1)).all (fun j => Nat.blt j 1000) = true ∧ (∀ id b j, look (three 51 y) id = some b → blkHas j b = true → (look (three 51 y) j).isSome = true) ∧ ∀ j, (advRA y).has j = true → (look (three 51 y) j).isSome = true :=
  ⟨rfl, fun id b j hb hj => (by rw [isX_has (look_three hb).2] at hj; cases hj), fun j hj => (by cases hj)⟩
theorem by_has (es : List (Pfx × AdvR)) (j : Nat) : blkHas j (byB es) = false := by
  show (List.any _ _) = false
  rw [List.any_eq_false]
  intro p hp
  obtain ⟨q, _, rfl⟩ := List.mem_map.1 hp
  show ¬ ((pfxA q.1).has j || (advRA q.2).has j) = true
  simp [pfxA, AVal.has, hasL, aggD, advRD]
theorem cst_has (cs : List (Pfx × Int)) (j : Nat) : blkHas j (cstB cs) = false := by
  show (List.any _ _) = false
  rw [List.any_eq_false]
  intro p hp
  obtain ⟨q, _, rfl⟩ := List.mem_map.1 hp
  show ¬ ((pfxA q.1).has j || (intA q.2).has j) = true
  simp [pfxA, AVal.has, hasL, intA]
theorem Wk_bst {nt : Nat} {e : Env} {h : Heap} {r : List Rte} {l : List Adv} {k m : Nat} {es : List (Pfx × AdvR)} {cs : List (Pfx × Int)} {G : Heap} {y : AdvR} (hF : Fam G m) (hm : m < 299) (he : Sub (bestE r l k) e) (hh : Sub [(5, byB es), (6, cstB cs)] h)
    (h1 : look h 51 = some (nRowx y.v1 y.a.path)) (h2 : look h 52 = some (nRowx y.v2 y.a.com)) (h3 : look h 53 = some (aRowx y.v3 y.a.clus)) (hG : ∀ id b, look G id = some b → look h id = some b) :
    AWk nt e h (bestE r l k) ([(5, byB es), (6, cstB cs)] ++ (three (3 * m + 100) y ++ G)) := by
  have hF2 := hF.snoc y
  have dom : ∀ j, (look (three (3 * m + 100) y ++ G) j).isSome = true → 100 ≤ j ∧ j < 3 * (m + 1) + 100 := fun j hj => by
    obtain ⟨b, hb⟩ := Option.isSome_iff_exists.1 hj
    exact hF2.lo j b hb
  refine Wk_reG (fun j => if j < 3 * m + 100 then some j else some (j - (3 * m + 100) + 51)) he hh (fun j b hb => ?_) (fun j j' p hj hj' hs hs' => ?_) (fun j hj => ?_) (fun j p hj hp => ?_) (fun t c ht j hj => ?_) (fun id b hb j hj => ?_)
  · have hx := hF2.ix j b hb
    have hlo := hF2.lo j b hb
    have hb0 := hb
    rw [look_append] at hb
    cases hl : look (three (3 * m + 100) y) j with
    | some b' =>
      rw [hl] at hb
      cases hb
      obtain ⟨hj, _⟩ := look_three hl
      rcases hj with rfl | rfl | rfl
      · refine ⟨51, by rw [if_neg (by omega)]; congr 1; omega, ?_, hx, by omega⟩
        have := (Own3.new G (3 * m + 100) y).o1; rw [this] at hb0; cases hb0; exact h1
      · refine ⟨52, by rw [if_neg (by omega)]; congr 1; omega, ?_, hx, by omega⟩
        have := (Own3.new G (3 * m + 100) y).o2; rw [this] at hb0; cases hb0; exact h2
      · refine ⟨53, by rw [if_neg (by omega)]; congr 1; omega, ?_, hx, by omega⟩
        have := (Own3.new G (3 * m + 100) y).o3; rw [this] at hb0; cases hb0; exact h3
    | none =>
      rw [hl] at hb
      have hb : look G j = some b := hb
      have := hF.lo j b hb
      exact ⟨j, by rw [if_pos (by omega)], hG j b hb, hx, by omega⟩
  · have d1 := dom j hs
    have d2 := dom j' hs'
    split at hj <;> split at hj' <;> cases hj <;> injection hj' with hj' <;> omega
  · have d1 := dom j hj
    show look ((5, _) :: (6, _) :: []) j = none
    rw [look_cons_ne _ _ (by omega), look_cons_ne _ _ (by omega)]; rfl
  · have d1 := dom j hj
    have hp2 : p ≠ 5 ∧ p ≠ 6 := by split at hp <;> injection hp with hp <;> omega
    show look ((5, _) :: (6, _) :: []) p = none
    rw [look_cons_ne _ _ (by omega), look_cons_ne _ _ (by omega)]; rfl
  · have d1 := dom j hj
    have hm := look_mem ht
    simp only [bestE, List.mem_cons, Prod.mk.injEq, List.not_mem_nil, or_false] at hm
    rcases hm with ⟨_, rfl⟩ | ⟨_, rfl⟩ | ⟨_, rfl⟩ | ⟨_, rfl⟩ | ⟨_, rfl⟩ | ⟨_, rfl⟩
    · rfl
    · show (5 == j) = false; simp; omega
    · show (6 == j) = false; simp; omega
    · rfl
    · rfl
    · rfl
  · have hm := look_mem hb
    simp only [List.mem_cons, Prod.mk.injEq, List.not_mem_nil, or_false] at hm
    rcases hm with ⟨_, rfl⟩ | ⟨_, rfl⟩
    · exact by_has _ _
    · exact cst_has _ _
theorem look_fam {G : Heap} {m : Nat} (F : Fam G m) {h : Heap} (hh : ∀ j b, 100 ≤ j → isX b = true → look G j = some b → look h j = some b) : ∀ id b, look G id = some b → look h id = some b := fun id b hb => hh id b (F.lo id b hb).1 (F.ix id b hb) hb
theorem fam_cons {G h : Heap} {j k : Nat} {b c : ABlk} (hk : k < 100) (hj : 100 ≤ j) (hl : look h j = some b) : look ((k, c) :: h) j = some b := by rw [look_cons_ne _ _ (by omega)]; exact hl
theorem fam_killH {h : Heap} {j k : Nat} {b : ABlk} (hk : k < 100) (hj : 100 ≤ j) (hx : isX b = true) (hl : look h j = some b) : look (killH k h) j = some b := by
  rw [look_killH, if_neg (by omega), hl]; show some (killB k b) = _; rw [isX_kill hx]
theorem fam_killHs {h : Heap} {j : Nat} {ks : List Nat} {b : ABlk} (hk : ∀ k ∈ ks, k < 100) (hj : 100 ≤ j) (hx : isX b = true) (hl : look h j = some b) : look (killHs ks h) j = some b := by
  rw [look_killHs, if_neg (fun hc => by have := hk j (List.contains_iff_mem.1 hc); omega), hl]; show some (killBs ks b) = _; rw [isX_kills hx]
set_option maxHeartbeats 16000000 in
theorem best_A (l : List Adv) (r : List Rte) (hl : ∀ x ∈ l, x.ok) (hr : ∀ x ∈ r, x.p.ok) (hn : l.length ≤ 100) (hm : r.length ≤ 1000000) : ACall Try.prog 9 [advsA l, rtesA r] [] (BestQ r l) := by
  refine ACall_of tabOk Try.func9 rfl Try.ntmps9 (congrArg Array.toList Try.results9) (by kernel_rfl) rfl ?_
  repeat ((fail_if_success (refine stopL ?_)); first | refine q_Z ?_ | refine R_quiet rfl mixed (by kernel_rfl) ?_ | ((first | apply O_y rfl rfl rfl | apply Q_y rfl rfl rfl); (first | exact R_addN rfl rfl rfl | exact R_subN rfl rfl rfl | (first | exact q_A | exact q_5 | exact q_B))) | refine q_d ?_ | refine q_a ?_ | refine q_b ?_ | refine q_c ?_ | refine A_ct rfl ?_ | refine A_cf rfl ?_ | refine q_W ?_)
  refine O_makeMap 5 rfl rfl rfl rfl rfl ?_
  repeat ((fail_if_success (refine stopL ?_)); first | refine q_Z ?_ | refine R_quiet rfl mixed (by kernel_rfl) ?_ | ((first | apply O_y rfl rfl rfl | apply Q_y rfl rfl rfl); (first | exact R_addN rfl rfl rfl | exact R_subN rfl rfl rfl | (first | exact q_A | exact q_5 | exact q_B))) | refine q_d ?_ | refine q_a ?_ | refine q_b ?_ | refine q_c ?_ | refine A_ct rfl ?_ | refine A_cf rfl ?_ | refine q_W ?_)
  refine O_makeMap 6 rfl rfl rfl rfl rfl ?_
  repeat ((fail_if_success (refine stopL ?_)); first | refine q_Z ?_ | refine R_quiet rfl mixed (by kernel_rfl) ?_ | ((first | apply O_y rfl rfl rfl | apply Q_y rfl rfl rfl); (first | exact R_addN rfl rfl rfl | exact R_subN rfl rfl rfl | (first | exact q_A | exact q_5 | exact q_B))) | refine q_d ?_ | refine q_a ?_ | refine q_b ?_ | refine q_c ?_ | refine A_ct rfl ?_ | refine A_cf rfl ?_ | refine q_W ?_)
  refine A_loop (fun s : BSt => bestE r l s.k) (fun s => [(5, byB s.es), (6, cstB s.cs)] ++ s.G) (BInv r l) (fun s => l.length - s.k) ⟨0, [], [], [], 0⟩ ⟨Nat.zero_le _, ⟨.nil, by simp⟩, .nil, fun p => by simp [aget, mget, bestO, useL], Fam.nil, Nat.le_refl _, fun _ => 0, fun p x h => by simp [aget, mget] at h, fun p q x y h => by simp [aget, mget] at h⟩ (Wk_sel (e1 := bestE r l 0) (h1 := [(5, byB []), (6, cstB [])]) ⟨rfl, rfl, rfl, rfl, rfl, rfl, trivial⟩ ⟨rfl, rfl, trivial⟩) ?_
  rintro ⟨k, es, cs, G, m⟩ hI
  have hF := hI.fam
  have hE := hI.er
  have hkl := hI.kl
  dsimp only at hF hE hkl
  try dsimp only
  unfold bestE
  by_cases hk : k < l.length
  · have hu := bgpUse_A l[k] (hl _ (List.getElem_mem hk)) r hr hm
    have hut := useL_take r l k hk
    obtain ⟨c0, ok, huo⟩ : ∃ c o, useP l[k] r = (c, o) := ⟨_, _, rfl⟩
    rw [huo] at hu hut
    dsimp only at hut
    have hbo := hI.bo l[k].p
    dsimp only at hbo
    cases hag : aget es l[k].p with
    | none =>
      cases ok with
      | false =>
        rw [if_neg (by simp), List.append_nil] at hut
        repeat ((fail_if_success (refine stopL ?_)); first | refine q_Z ?_ | refine R_quiet rfl mixed (by kernel_rfl) ?_ | ((first | apply O_y rfl rfl rfl | apply Q_y rfl rfl rfl); (first | exact R_addN rfl rfl rfl | exact R_subN rfl rfl rfl | (first | exact q_A | exact R_loadi tabOk rfl rfl rfl rfl (by first | exact win_flat0 advD_len l k _ hk (by decide) | exact win_flat advD_len l k _ _ hk (by decide) | exact win_flat2 advD_len l k _ _ _ hk (by decide) | rfl) rfl rfl | exact q_B | (first | exact R_lkOutA (k := l[k].p) (advRA zAR) advRA_rel pfxKey pfxA_val zeroAdvR trivial (fun _ _ => trivial) hE.nd hag tabOk rfl rfl rfl (kby1 8 es) rfl rfl | exact q_26)))) | refine q_d ?_ | refine q_a ?_ | refine q_b ?_ | refine q_c ?_ | refine A_ct rfl ?_ | refine A_cf rfl ?_ | refine q_W ?_ | refine O_c rfl rfl rfl rfl rfl hu (fun _ => rfl) ?_)
        exact ⟨⟨k + 1, es, cs, G, m⟩, hI.stay hk hut, by dsimp only; omega, by dsimp only; exact Wk_selG (h1 := [(5, byB es), (6, cstB cs)]) ⟨rfl, rfl, rfl, rfl, rfl, rfl, trivial⟩ ⟨kby2 11 8 es, kcs2 11 8 cs, trivial⟩ (look_fam hF fun j b hj hx hb => by repeat (first | exact hb | refine fam_cons (G := []) (by decide) hj ?_ | refine fam_killH (by decide) hj hx ?_ | refine fam_killHs three_lo hj hx ?_ | refine fam_killHs (by decide) hj hx ?_)) ⟩
      | true =>
        rw [if_pos rfl] at hut
        have hcp := copied3_A l[k] (hl _ (List.getElem_mem hk))
        repeat ((fail_if_success (refine stopL ?_)); first | refine q_Z ?_ | refine R_quiet rfl mixed (by kernel_rfl) ?_ | ((first | apply O_y rfl rfl rfl | apply Q_y rfl rfl rfl); (first | exact R_addN rfl rfl rfl | exact R_subN rfl rfl rfl | (first | exact q_A | exact R_loadi tabOk rfl rfl rfl rfl (by first | exact win_flat0 advD_len l k _ hk (by decide) | exact win_flat advD_len l k _ _ hk (by decide) | exact win_flat2 advD_len l k _ _ _ hk (by decide) | rfl) rfl rfl | exact q_B | (first | exact R_lkOutA (k := l[k].p) (advRA zAR) advRA_rel pfxKey pfxA_val zeroAdvR trivial (fun _ _ => trivial) hE.nd hag tabOk rfl rfl rfl (kby1 8 es) rfl rfl | exact q_26 | exact q_25)))) | refine q_d ?_ | refine q_a ?_ | refine q_b ?_ | refine q_c ?_ | refine A_ct rfl ?_ | refine A_cf rfl ?_ | refine q_W ?_ | refine O_c rfl rfl rfl rfl rfl hu (fun _ => rfl) ?_)
        refine A_weaken (Wk_selG (e1 := (8, .ptr 8 0) :: (9, intA c0) :: bestE r l k) (h1 := [(8, .var ((advD l[k]).map .d)), (5, byB es), (6, cstB cs)]) (G := G) ⟨rfl, rfl, rfl, rfl, rfl, rfl, rfl, rfl, trivial⟩ ⟨rfl, kby2 11 8 es, kcs2 11 8 cs, trivial⟩ (look_fam hF fun j b hj hx hb => by repeat (first | exact hb | refine fam_cons (G := []) (by decide) hj ?_ | refine fam_killH (by decide) hj hx ?_ | refine fam_killHs three_lo hj hx ?_ | refine fam_killHs (by decide) hj hx ?_)) ) ?_
        refine N_begin [5, 6] mixed ?_
        apply q_P 0 rfl (by kernel_rfl) rfl rfl rfl
        exact q_1
        apply q_P 1 rfl (by kernel_rfl) rfl rfl rfl
        exact q_8
        apply q_P 2 rfl (by kernel_rfl) rfl rfl rfl
        exact q_7
        apply q_P 3 rfl (by kernel_rfl) rfl rfl rfl
        exact q_1
        apply q_P 4 rfl (by kernel_rfl) rfl rfl rfl
        exact q_8
        apply q_P 5 rfl (by kernel_rfl) rfl rfl rfl
        exact q_7
        apply q_P 6 rfl (by kernel_rfl) rfl rfl rfl
        exact q_7
        apply q_P 8 rfl (by kernel_rfl) rfl rfl rfl
        exact q_1
        refine N_one (j := 7) (by kernel_rfl) ?_
        refine T_cNE hcp (fun y _ => three_q y) rfl rfl rfl rfl rfl rfl fun y hy => ?_
        refine N_one (j := 9) (by kernel_rfl) ?_
        refine T_mapEntry0 (k := l[k].p) (z := zAR) pfxKey pfxA_val pfxA_rel zeroAdvR advRA_rel trivial (fun _ _ => trivial) hE.nd hag tabOk rfl rfl rfl rfl rfl rfl rfl (kbyS0 _ es) rfl rfl fun r0 bs b0 clk hbl => ?_
        apply q_P 10 rfl (by kernel_rfl) rfl rfl rfl
        exact q_14
        refine N_one (j := 11) (by kernel_rfl) ?_
        refine T_entryStore0 (z' := y) hbl rfl rfl rfl rfl rfl rfl rfl rfl rfl ?_
        refine N_one (j := 12) (by kernel_rfl) ?_
        refine T_upd (k := l[k].p) (xa := intA) (q := c0) pfxKey pfxA_val pfxA_rel trivial (fun _ _ => trivial) hI.nc tabOk rfl rfl rfl rfl rfl rfl (kcsS0 _ cs) rfl rfl rfl ?_
        refine N_done (by kernel_rfl) ?_
        repeat ((fail_if_success (refine stopL ?_)); first | refine q_Z ?_ | refine R_quiet rfl mixed (by kernel_rfl) ?_ | ((first | apply O_y rfl rfl rfl | apply Q_y rfl rfl rfl); (first | exact R_addN rfl rfl rfl | exact R_subN rfl rfl rfl | (first | exact q_A | exact q_5 | exact q_B))) | refine q_d ?_ | refine q_a ?_ | refine q_b ?_ | refine q_c ?_ | refine A_ct rfl ?_ | refine A_cf rfl ?_ | refine q_W ?_)
        exact ⟨⟨k + 1, es ++ [(l[k].p, y)], Go.Proofs.Ytblgdfcijkaimaa.aput cs l[k].p c0, three (3 * m + 100) y ++ G, m + 1⟩, hI.add hk hut hag hy, by dsimp only; omega, by dsimp only; exact Wk_bst hF (by have := hI.ml; dsimp only at this; omega) ⟨rfl, rfl, rfl, rfl, rfl, rfl, trivial⟩ ⟨rfl, rfl, trivial⟩ rfl rfl rfl (look_fam hF fun j b hj hx hb => by repeat (first | exact hb | refine fam_cons (G := []) (by decide) hj ?_ | refine fam_killH (by decide) hj hx ?_ | refine fam_killHs three_lo hj hx ?_ | refine fam_killHs (by decide) hj hx ?_)) ⟩
    | some b =>
      have hcs : ∃ c, aget cs l[k].p = some c ∧ bestO l[k].p (useL r (l.take k)) = some (b.a, c) := by
        rw [hag] at hbo
        cases hc : aget cs l[k].p with
        | none => rw [hc] at hbo; exact hbo.elim
        | some c => rw [hc] at hbo; exact ⟨c, rfl, hbo⟩
      obtain ⟨c1, hac, hbe⟩ := hcs
      obtain ⟨β, hβ1, hβ2⟩ := hI.own
      dsimp only at hβ1 hβ2
      obtain ⟨hβm, hown⟩ := hβ1 _ _ hag
      cases ok with
      | false =>
        rw [if_neg (by simp), List.append_nil] at hut
        repeat ((fail_if_success (refine stopL ?_)); first | refine q_Z ?_ | refine R_quiet rfl mixed (by kernel_rfl) ?_ | ((first | apply O_y rfl rfl rfl | apply Q_y rfl rfl rfl); (first | exact R_addN rfl rfl rfl | exact R_subN rfl rfl rfl | (first | exact q_A | exact R_loadi tabOk rfl rfl rfl rfl (by first | exact win_flat0 advD_len l k _ hk (by decide) | exact win_flat advD_len l k _ _ hk (by decide) | exact win_flat2 advD_len l k _ _ _ hk (by decide) | rfl) rfl rfl | exact q_B | (first | exact R_lkIn (k := l[k].p) pfxKey pfxA_val zeroAdvR trivial (fun _ _ => trivial) hE.nd hag tabOk rfl rfl rfl (kby1 8 es) rfl rfl | exact q_26)))) | refine q_d ?_ | refine q_a ?_ | refine q_b ?_ | refine q_c ?_ | refine A_ct rfl ?_ | refine A_cf rfl ?_ | refine q_W ?_ | refine O_c rfl rfl rfl rfl rfl hu (fun _ => rfl) ?_)
        exact ⟨⟨k + 1, es, cs, G, m⟩, hI.stay hk hut, by dsimp only; omega, by dsimp only; exact Wk_selG (h1 := [(5, byB es), (6, cstB cs)]) ⟨rfl, rfl, rfl, rfl, rfl, rfl, trivial⟩ ⟨kby2 11 8 es, kcs2 11 8 cs, trivial⟩ (look_fam hF fun j b hj hx hb => by repeat (first | exact hb | refine fam_cons (G := []) (by decide) hj ?_ | refine fam_killH (by decide) hj hx ?_ | refine fam_killHs three_lo hj hx ?_ | refine fam_killHs (by decide) hj hx ?_)) ⟩
      | true =>
        rw [if_pos rfl] at hut
        have hcp := copied3_A l[k] (hl _ (List.getElem_mem hk))
        have hbt := better_A l[k] b.a c0 c1
        by_cases hlt : ordT l[k] b.a c0 c1 < 0
        · rw [decide_eq_true hlt] at hbt
          repeat ((fail_if_success (refine stopL ?_)); first | refine q_Z ?_ | refine R_quiet rfl mixed (by kernel_rfl) ?_ | ((first | apply O_y rfl rfl rfl | apply Q_y rfl rfl rfl); (first | exact R_addN rfl rfl rfl | exact R_subN rfl rfl rfl | (first | exact q_A | exact R_loadi tabOk rfl rfl rfl rfl (by first | exact win_flat0 advD_len l k _ hk (by decide) | exact win_flat advD_len l k _ _ hk (by decide) | exact win_flat2 advD_len l k _ _ _ hk (by decide) | rfl) rfl rfl | exact q_B | (first | exact R_lkIn (k := l[k].p) pfxKey pfxA_val zeroAdvR trivial (fun _ _ => trivial) hE.nd hag tabOk rfl rfl rfl (kby1 8 es) rfl rfl | exact R_lk1 (k := l[k].p) pfxKey pfxA_val zeroIntB trivial (fun _ _ => trivial) hI.nc hac tabOk rfl rfl rfl (kcs2 11 8 cs) rfl rfl | exact q_26 | exact q_25)))) | refine q_d ?_ | refine q_a ?_ | refine q_b ?_ | refine q_c ?_ | refine A_ct rfl ?_ | refine A_cf rfl ?_ | refine q_W ?_ | refine O_c rfl rfl rfl rfl rfl hu (fun _ => rfl) ?_)
          refine Q_cR (cs := [advA l[k], advRA b, intA c0, intA c1]) (cs' := [advA l[k], advA b.a, intA c0, intA c1]) (c := boolA true) ?_ hbt rfl rfl rfl rfl rfl rfl (fun _ _ _ => val_mk _ _ _ _ _ rfl rfl) ?_
          · exact .cons (.same _) (.cons (.agg (advRD b) (advD b.a) (hown.raw (look_fam hF fun j b hj hx hb => by repeat (first | exact hb | refine fam_cons (G := []) (by decide) hj ?_ | refine fam_killH (by decide) hj hx ?_ | refine fam_killHs three_lo hj hx ?_ | refine fam_killHs (by decide) hj hx ?_)) )) (.cons (.same _) (.cons (.same _) .nil)))
          repeat ((fail_if_success (refine stopL ?_)); first | refine q_Z ?_ | refine R_quiet rfl mixed (by kernel_rfl) ?_ | ((first | apply O_y rfl rfl rfl | apply Q_y rfl rfl rfl); (first | exact R_addN rfl rfl rfl | exact R_subN rfl rfl rfl | (first | exact q_A | exact q_5 | exact q_B | (first | exact q_26 | exact q_25)))) | refine q_d ?_ | refine q_a ?_ | refine q_b ?_ | refine q_c ?_ | refine A_ct rfl ?_ | refine A_cf rfl ?_ | refine q_W ?_)
          refine A_weaken (Wk_selG (e1 := (8, .ptr 8 0) :: (9, intA c0) :: bestE r l k) (h1 := [(8, .var ((advD l[k]).map .d)), (5, byB es), (6, cstB cs)]) (G := G) ⟨rfl, rfl, rfl, rfl, rfl, rfl, rfl, rfl, trivial⟩ ⟨rfl, kby2 11 8 es, kcs2 11 8 cs, trivial⟩ (look_fam hF fun j b hj hx hb => by repeat (first | exact hb | refine fam_cons (G := []) (by decide) hj ?_ | refine fam_killH (by decide) hj hx ?_ | refine fam_killHs three_lo hj hx ?_ | refine fam_killHs (by decide) hj hx ?_)) ) ?_
          refine N_begin [5, 6] mixed ?_
          apply q_P 0 rfl (by kernel_rfl) rfl rfl rfl
          exact q_1
          apply q_P 1 rfl (by kernel_rfl) rfl rfl rfl
          exact q_8
          apply q_P 2 rfl (by kernel_rfl) rfl rfl rfl
          exact q_7
          apply q_P 3 rfl (by kernel_rfl) rfl rfl rfl
          exact q_1
          apply q_P 4 rfl (by kernel_rfl) rfl rfl rfl
          exact q_8
          apply q_P 5 rfl (by kernel_rfl) rfl rfl rfl
          exact q_7
          apply q_P 6 rfl (by kernel_rfl) rfl rfl rfl
          exact q_7
          apply q_P 8 rfl (by kernel_rfl) rfl rfl rfl
          exact q_1
          obtain ⟨j, hmg⟩ := mget_of_aget hag
          refine N_one (j := 7) (by kernel_rfl) ?_
          refine T_cNE hcp (fun y _ => three_q y) rfl rfl rfl rfl rfl rfl fun y hy => ?_
          refine N_one (j := 9) (by kernel_rfl) ?_
          refine T_mapEntry1 (k := l[k].p) (z := b) (j := j) pfxKey pfxA_val trivial (fun _ _ => trivial) hE.nd hmg tabOk rfl rfl rfl rfl rfl rfl rfl (kbyS0 _ es) rfl rfl fun r0 bs b0 clk hbl hbj => ?_
          apply q_P 10 rfl (by kernel_rfl) rfl rfl rfl
          exact q_14
          refine N_one (j := 11) (by kernel_rfl) ?_
          refine T_entryStore1 (z' := y) hbl hbj (mget_some hmg) rfl rfl rfl rfl rfl rfl rfl rfl rfl ?_
          refine N_one (j := 12) (by kernel_rfl) ?_
          refine T_upd (k := l[k].p) (xa := intA) (q := c0) pfxKey pfxA_val pfxA_rel trivial (fun _ _ => trivial) hI.nc tabOk rfl rfl rfl rfl rfl rfl (kcsS0 _ cs) rfl rfl rfl ?_
          refine N_done (by kernel_rfl) ?_
          repeat ((fail_if_success (refine stopL ?_)); first | refine q_Z ?_ | refine R_quiet rfl mixed (by kernel_rfl) ?_ | ((first | apply O_y rfl rfl rfl | apply Q_y rfl rfl rfl); (first | exact R_addN rfl rfl rfl | exact R_subN rfl rfl rfl | (first | exact q_A | exact q_5 | exact q_B))) | refine q_d ?_ | refine q_a ?_ | refine q_b ?_ | refine q_c ?_ | refine A_ct rfl ?_ | refine A_cf rfl ?_ | refine q_W ?_)
          have hput : es.set j (l[k].p, y) = Go.Proofs.Ytblgdfcijkaimaa.aput es l[k].p y := by unfold Go.Proofs.Ytblgdfcijkaimaa.aput; rw [hmg]
          exact ⟨⟨k + 1, Go.Proofs.Ytblgdfcijkaimaa.aput es l[k].p y, Go.Proofs.Ytblgdfcijkaimaa.aput cs l[k].p c0, three (3 * m + 100) y ++ G, m + 1⟩, hI.put hk hut hy (by rw [hbe]; unfold bestStep; rw [if_pos rfl]; exact if_pos ((bord_lt _ _ _ _).2 hlt)), by dsimp only; omega, by dsimp only; exact Wk_bst hF (by have := hI.ml; dsimp only at this; omega) ⟨rfl, rfl, rfl, rfl, rfl, rfl, trivial⟩ ⟨congrArg (fun z => some (ABlk.map (ents pfxA advRA z))) hput, rfl, trivial⟩ rfl rfl rfl (look_fam hF fun j b hj hx hb => by repeat (first | exact hb | refine fam_cons (G := []) (by decide) hj ?_ | refine fam_killH (by decide) hj hx ?_ | refine fam_killHs three_lo hj hx ?_ | refine fam_killHs (by decide) hj hx ?_)) ⟩
        · rw [decide_eq_false hlt] at hbt
          repeat ((fail_if_success (refine stopL ?_)); first | refine q_Z ?_ | refine R_quiet rfl mixed (by kernel_rfl) ?_ | ((first | apply O_y rfl rfl rfl | apply Q_y rfl rfl rfl); (first | exact R_addN rfl rfl rfl | exact R_subN rfl rfl rfl | (first | exact q_A | exact R_loadi tabOk rfl rfl rfl rfl (by first | exact win_flat0 advD_len l k _ hk (by decide) | exact win_flat advD_len l k _ _ hk (by decide) | exact win_flat2 advD_len l k _ _ _ hk (by decide) | rfl) rfl rfl | exact q_B | (first | exact R_lkIn (k := l[k].p) pfxKey pfxA_val zeroAdvR trivial (fun _ _ => trivial) hE.nd hag tabOk rfl rfl rfl (kby1 8 es) rfl rfl | exact R_lk1 (k := l[k].p) pfxKey pfxA_val zeroIntB trivial (fun _ _ => trivial) hI.nc hac tabOk rfl rfl rfl (kcs2 11 8 cs) rfl rfl | exact q_26 | exact q_25)))) | refine q_d ?_ | refine q_a ?_ | refine q_b ?_ | refine q_c ?_ | refine A_ct rfl ?_ | refine A_cf rfl ?_ | refine q_W ?_ | refine O_c rfl rfl rfl rfl rfl hu (fun _ => rfl) ?_)
          refine Q_cR (cs := [advA l[k], advRA b, intA c0, intA c1]) (cs' := [advA l[k], advA b.a, intA c0, intA c1]) (c := boolA false) ?_ hbt rfl rfl rfl rfl rfl rfl (fun _ _ _ => val_mk _ _ _ _ _ rfl rfl) ?_
          · exact .cons (.same _) (.cons (.agg (advRD b) (advD b.a) (hown.raw (look_fam hF fun j b hj hx hb => by repeat (first | exact hb | refine fam_cons (G := []) (by decide) hj ?_ | refine fam_killH (by decide) hj hx ?_ | refine fam_killHs three_lo hj hx ?_ | refine fam_killHs (by decide) hj hx ?_)) )) (.cons (.same _) (.cons (.same _) .nil)))
          repeat ((fail_if_success (refine stopL ?_)); first | refine q_Z ?_ | refine R_quiet rfl mixed (by kernel_rfl) ?_ | ((first | apply O_y rfl rfl rfl | apply Q_y rfl rfl rfl); (first | exact R_addN rfl rfl rfl | exact R_subN rfl rfl rfl | (first | exact q_A | exact q_5 | exact q_B | (first | exact q_26 | exact q_25)))) | refine q_d ?_ | refine q_a ?_ | refine q_b ?_ | refine q_c ?_ | refine A_ct rfl ?_ | refine A_cf rfl ?_ | refine q_W ?_)
          exact ⟨⟨k + 1, es, cs, G, m⟩, hI.keep hk hut hbe hlt, by dsimp only; omega, by dsimp only; exact Wk_selG (h1 := [(5, byB es), (6, cstB cs)]) ⟨rfl, rfl, rfl, rfl, rfl, rfl, trivial⟩ ⟨kby2 11 8 es, kcs2 11 8 cs, trivial⟩ (look_fam hF fun j b hj hx hb => by repeat (first | exact hb | refine fam_cons (G := []) (by decide) hj ?_ | refine fam_killH (by decide) hj hx ?_ | refine fam_killHs three_lo hj hx ?_ | refine fam_killHs (by decide) hj hx ?_)) ⟩
  · obtain rfl : k = l.length := by omega
    have hdone := hI.done
    have hel : es.length ≤ 1000000 := by
      obtain ⟨R, G2, m2, β, _, h2, _, _, _, _, _, h8⟩ := hdone
      injection h8 with h8 _
      injection h8 with _ h8
      injection h8 with _ _ h8 _
      rw [srt_len, List.length_map] at h8
      omega
    have hso := sorted_A es hE hel
    repeat ((fail_if_success (refine stopL ?_)); first | refine q_Z ?_ | refine R_quiet rfl mixed (by kernel_rfl) ?_ | ((first | apply O_y rfl rfl rfl | apply Q_y rfl rfl rfl); (first | exact R_addN rfl rfl rfl | exact R_subN rfl rfl rfl | (first | exact q_A | exact q_5 | exact q_B))) | refine q_d ?_ | refine q_a ?_ | refine q_b ?_ | refine q_c ?_ | refine A_ct rfl ?_ | refine A_cf rfl ?_ | refine q_W ?_)
    refine O_cX (α := Unit) (C := fun _ => .row 3) (H1 := fun _ => [(3, rB (srt cmpR (es.map (·.2)))), (1000, byB es)]) (Φ := fun _ => True) [(1000, 5)] [(3, 3)] (fun p p' i h1 h2 => by rw [(look_oneB h1).1, (look_oneB h2).1]) (fun p i h1 => by rw [(look_oneB h1).1]; exact ⟨Nat.le_refl _, rfl, fun _ => rfl⟩) (fun p i h1 => by rw [(look_oneB h1).1, (look_oneB h1).2]; exact ⟨by decide, by decide, fun q h2 => by have := (look_oneB h2).2; omega⟩) (fun p p' i h1 h2 => by rw [(look_oneB h1).1, (look_oneB h2).1]) (by simp)
      (hso.mono fun c h ⟨h1, h2⟩ => ⟨(), trivial, h1, h2⟩) rfl ⟨⟨5, _, rfl, rfl, ren_by _ es, ?_⟩, trivial⟩ rfl rfl rfl rfl rfl rfl fun _ _ => ?_
    · intro p hp
      obtain ⟨q, _, rfl⟩ := List.mem_map.1 hp
      exact ⟨rfl, rfl⟩
    repeat ((fail_if_success (refine stopL ?_)); first | refine q_Z ?_ | refine R_quiet rfl mixed (by kernel_rfl) ?_ | ((first | apply O_y rfl rfl rfl | apply Q_y rfl rfl rfl); (first | exact R_addN rfl rfl rfl | exact R_subN rfl rfl rfl | (first | exact q_A | exact q_5 | exact q_B))) | refine q_d ?_ | refine q_a ?_ | refine q_b ?_ | refine q_c ?_ | refine A_ct rfl ?_ | refine A_cf rfl ?_ | refine q_W ?_)
    exact X_retW (Wk_selG (e1 := [(4, .row 3)]) (h1 := [(3, rB (srt cmpR (es.map (·.2))))]) (G := G) ⟨rfl, trivial⟩ ⟨rfl, trivial⟩ (look_fam hF fun j b hj hx hb => by repeat (first | exact hb | refine fam_cons (G := []) (by decide) hj ?_ | refine fam_killH (by decide) hj hx ?_ | refine fam_killHs three_lo hj hx ?_ | refine fam_killHs (by decide) hj hx ?_)) ) rfl (h2 := (3, rB (srt cmpR (es.map (·.2)))) :: G) ⟨rfl, sub_of_look hF.nd fun id b hb => fam_cons (G := []) (by decide) (hF.lo id b hb).1 hb⟩ hdone
end Ab
end Go.Proofs.Ytblgdfcijkaimaa

/-
  Plain laws of tables by prefixes: two tables with the same prefixes.
-/
import Derived.Test.YtaecjmjdhbjbkaaTLongLaw
import Derived.Test.YtaecjmjdhbjbkaaTDrop
namespace Go.Proofs.Ytaecjmjdhbjbkaa.Ab
set_option linter.unusedVariables false
open Go.RowKit

def vOf (p : Pfx) : Int := IntKind.i64.wrap (p.a + p.b)
/-- The table has those that are good, each with its number. -/
structure Rep (s : TS) (K : Pfx → Prop) : Prop where
  keys : ∀ q, (∃ z, aget s.2 q = some z) ↔ K q ∧ good q
  vals : ∀ q z, aget s.2 q = some z → z = vOf q
theorem Rep.zero : Rep (fun _ => 0, []) fun _ => False :=
  ⟨fun q => ⟨fun ⟨z, h⟩ => absurd (mem_of_aget h) (by simp), fun h => h.1.elim⟩, fun q z h => absurd (mem_of_aget h) (by simp)⟩
theorem Rep.of {s : TS} {K K' : Pfx → Prop} (R : Rep s K) (h : ∀ q, K q ↔ K' q) : Rep s K' := ⟨fun q => by rw [R.keys q, h q], R.vals⟩
theorem Rep.put {s : TS} {K : Pfx → Prop} {k : Nat} (T : TOk s k) (R : Rep s K) (p : Pfx) : Rep (putS s p (vOf p)) fun q => K q ∨ q = p := by
  by_cases hg : good p
  · refine ⟨fun q => ?_, fun q z h => ?_⟩
    · rw [putS_get T p _ hg]
      by_cases e : q = p
      · rw [if_pos e]
        exact ⟨fun _ => ⟨.inr e, by rw [e]; exact hg⟩, fun _ => ⟨_, rfl⟩⟩
      · rw [if_neg e, R.keys q]
        exact ⟨fun h => ⟨.inl h.1, h.2⟩, fun h => ⟨h.1.resolve_right e, h.2⟩⟩
    · rw [putS_get T p _ hg] at h
      split at h
      · rename_i e; cases h; rw [e]
      · exact R.vals q z h
  · rw [putS_bad _ _ _ hg]
    refine ⟨fun q => ?_, R.vals⟩
    rw [R.keys q]
    refine ⟨fun h => ⟨.inl h.1, h.2⟩, fun h => ⟨h.1.resolve_right fun e => hg (by rw [← e]; exact h.2), h.2⟩⟩
theorem Rep.same {s t : TS} {K : Pfx → Prop} (Rs : Rep s K) (Rt : Rep t K) (q : Pfx) : aget s.2 q = aget t.2 q := by
  cases hs : aget s.2 q with
  | none =>
    cases ht : aget t.2 q with
    | none => rfl
    | some z =>
      obtain ⟨z', h⟩ := (Rs.keys q).2 ((Rt.keys q).1 ⟨z, ht⟩)
      rw [hs] at h; cases h
  | some z =>
    obtain ⟨z', h⟩ := (Rt.keys q).2 ((Rs.keys q).1 ⟨z, hs⟩)
    rw [h, Rs.vals q z hs, Rt.vals q z' h]
section
variable {s t : TS} {i j : Nat}
theorem over_same (Ts : TOk s i) (Tt : TOk t j) (h : ∀ q, aget s.2 q = aget t.2 q) (x : Int) : overS s.1 s.2 x 33 = overS t.1 t.2 x 33 := by
  refine List.Perm.eq_of_pairwise (le := fun p q : Pfx => p.b < q.b) (fun a b _ _ h1 h2 => by omega) (over_sorted _ _ _ _) (over_sorted _ _ _ _) ?_
  refine (List.perm_ext_iff_of_nodup (nodup_of_lt (over_sorted _ _ _ _)) (nodup_of_lt (over_sorted _ _ _ _))).2 fun q => ?_
  rw [over_mem Ts x q, over_mem Tt x q, h q]
theorem long_same (Ts : TOk s i) (Tt : TOk t j) (h : ∀ q, aget s.2 q = aget t.2 q) (x : Int) : longR s.1 s.2 x = longR t.1 t.2 x := by
  unfold longR
  rw [over_same Ts Tt h x]
  split
  · rw [h]
  · rfl
theorem len_same (Ts : TOk s i) (Tt : TOk t j) (h : ∀ q, aget s.2 q = aget t.2 q) : s.2.length = t.2.length := by
  have hp : (s.2.map (·.1)).Perm (t.2.map (·.1)) := (List.perm_ext_iff_of_nodup Ts.nd Tt.nd).2 fun q => by rw [key_iff, key_iff, h q]
  have := hp.length_eq
  simpa using this
/-- What is put and dropped leaves no trace. -/
theorem put_drop (T : TOk t j) (q : Pfx) (v : Int) (hg : good q) (hn : aget t.2 q = none) :
    TOk (dropS (putS t q v) q) j ∧ (∀ p, aget (dropS (putS t q v) q).2 p = aget t.2 p) ∧ dropE (putS t q v).2 q = 0 := by
  have hc := (chk_eq q).2 hg
  have hget := fun p => putS_get T q v hg p
  have hs : (aget (putS t q v).2 q).isSome = true := by rw [hget, if_pos rfl]; rfl
  have hnd : ((putS t q v).2.map (·.1)).Nodup := by
    unfold putS
    rw [if_pos hc]
    exact aput_nodup T.nd
  have e : dropS (putS t q v) q = (bump (putS t q v).1 q.b.toNat (-1), Go.Proofs.Ytaecjmjdhbjbkaa.adel (putS t q v).2 q) := by
    unfold dropS
    rw [if_pos hc, if_pos hs]
  have hu : bump (putS t q v).1 q.b.toNat (-1) = t.1 := by
    unfold putS
    rw [if_pos hc]
    rw [if_neg (by rw [hn]; simp)]
    funext k
    unfold bump
    dsimp only
    split <;> omega
  have hag : ∀ p, aget (Go.Proofs.Ytaecjmjdhbjbkaa.adel (putS t q v).2 q) p = aget t.2 p := fun p => by
    rw [aget_adel hnd]
    split
    · rename_i e; rw [e, hn]
    · rw [hget, if_neg (by assumption)]
  have hmem : ∀ p ∈ Go.Proofs.Ytaecjmjdhbjbkaa.adel (putS t q v).2 q, p ∈ t.2 := fun p hp => by
    have h1 := (aget_iff (adel_nodup hnd)).2 (show (p.1, p.2) ∈ _ from hp)
    rw [hag] at h1
    exact mem_of_aget h1
  refine ⟨?_, fun p => by rw [e]; exact hag p, by unfold dropE; rw [if_pos hc, if_pos hs]⟩
  rw [e, hu]
  refine ⟨adel_nodup hnd, fun p hp => T.good p (hmem p hp), fun p hp => T.ok p (hmem p hp), fun p hp => T.used p (hmem p hp), T.ub, ?_⟩
  have h1 := (adel_nodup (k := q) hnd).length_le_of_subset (l₂ := t.2.map (·.1)) fun p hp => by
    obtain ⟨x, hx, rfl⟩ := List.mem_map.1 hp
    exact List.mem_map.2 ⟨x, hmem x hx, rfl⟩
  have := T.len
  simp at h1
  dsimp only
  omega
end
end Go.Proofs.Ytaecjmjdhbjbkaa.Ab

/- Two tables: calls with a table in regions that draw their order; remainders. -/
namespace Go.Proofs.Ytaecjmjdhbjbkaa.Ab
set_option linter.unusedVariables false
set_option maxRecDepth 100000
open Go.RowKit

def agBool (tab : TTab) (t : TypeId) : Bool := match tlook tab t with
  | some te => match te.sh with
    | .bo => true
    | _ => false
  | none => false
section
variable {P : Program} {T : List Nat} {e : Env} {h : Heap} {o : Oper} {tab : TTab}
theorem Y_beq {t u : TypeId} {x y : Operand} {a b r : Bool} (TO : TabOk P tab) (ho : o.op = .binOp .eql t x y u) (ht : agBool tab t = true) (hx : aev e x = some (.d (.sc (.bool a)))) (hy : aev e y = some (.d (.sc (.bool b)))) (hr : (a == b) = r) : AYield P T e h o (.d (.sc (.bool r))) := yield_of _ fun w F ι ac E => by
  unfold agBool at ht
  split at ht
  · rename_i te hte
    split at ht
    · rename_i hs
      obtain ⟨d, hd, _, hh⟩ := (TO t te hte).und
      rw [hs] at hh
      cases hh
      refine ⟨.bool r, sc_rel rfl, fun w' => ?_⟩
      simp only [execOp, ho, (sc_of (aev_rel E hx)).1, (sc_of (aev_rel E hy)).1]
      simp [eqGuard, binOp, run_equal_bool w' t a b hd, ← hr]
    · cases ht
  · cases ht
end
section
variable {P : Program} {nt : Nat} {Q : Post} {e : Env} {h : Heap} {o : Oper} {ops : Array Oper} {rest : List Oper} {T : List Nat} {tab : TTab}
theorem Y_rem {t u : TypeId} {x y : Operand} {k : IntKind} {a b r : Int} (ho : o.op = .binOp .rem t x y u) (hx : aev e x = some (.d (.sc (.int k a)))) (hy : aev e y = some (.d (.sc (.int k b)))) (hb : b ≠ 0) (hr : a.tmod b = r) : AYield P T e h o (.d (.sc (.int k r))) := yield_of _ fun w F ι ac E =>
  ⟨.int k r, sc_rel rfl, fun w' => by
    simp only [execOp, ho, (sc_of (aev_rel E hx)).1, (sc_of (aev_rel E hy)).1]
    simp [eqGuard, binOp, Op.intDiv, hb, ← hr]⟩
theorem ren2_tbl (u : Nat → Int) : renB [(3, 4), (902, 903)] (tblB 902 u) = tblB 903 u := by
  show ABlk.var (renV _ (.mp 902) :: (usedA u).map (renV _)) = _
  unfold tblB usedA
  rw [List.map_map]
  rfl
theorem look_two {α : Type} {p a b : Nat} {k i j : α} (h : look [(a, i), (b, j)] p = some k) : (p = a ∧ k = i) ∨ (p = b ∧ k = j) := by
  by_cases h1 : a = p
  · subst h1; rw [look_cons_same] at h; cases h; exact .inl ⟨rfl, rfl⟩
  · rw [look_cons_ne _ _ h1] at h
    by_cases h2 : b = p
    · subst h2; rw [look_cons_same] at h; cases h; exact .inr ⟨rfl, rfl⟩
    · rw [look_cons_ne _ _ h2] at h; cases h
/-- The same table by other numbers. -/
theorem tbl_ren {f : FuncId} {args : List AVal} {u : Nat → Int} {m : List (Pfx × Int)} (H : ACall P f args [] (fun c h => c = .ptr 3 0 ∧ h = [(3, tblB 902 u), (902, mapB m)])) : ACall P f args [] (fun c h => c = .ptr 4 0 ∧ h = [(4, tblB 903 u), (903, mapB m)]) := by
  refine ⟨H.1, fun Pm F w0 pin ι us w HH HA => (H.2 Pm F w0 pin ι us w HH HA).mono ?_⟩
  rintro x w' ⟨v0, c, h2, ι', rfl, ⟨rfl, rfl⟩, hH, hv⟩
  let ι2 : Nat → Option Value := fun id => if id = 4 then ι' 3 else if id = 903 then ι' 902 else none
  have h2of : ∀ id v, ι2 id = some v → (id = 4 ∧ ι' 3 = some v) ∨ (id = 903 ∧ ι' 902 = some v) := fun id v hv => by
    simp only [ι2] at hv
    split at hv
    · exact .inl ⟨by assumption, hv⟩
    · split at hv
      · exact .inr ⟨by assumption, hv⟩
      · cases hv
  have hold : ∀ id v, ι2 id = some v → ∃ j, ι' j = some v := fun id v hv => by
    rcases h2of id v hv with ⟨_, h⟩ | ⟨_, h⟩
    · exact ⟨_, h⟩
    · exact ⟨_, h⟩
  have hF : ExtF w' F ι' w' F ι2 := ⟨fun _ _ _ => rfl, fun r _ hf => ⟨hf.1, fun id v hv hb => by obtain ⟨j, hj⟩ := hold id v hv; exact hf.2 j v hj hb⟩⟩
  have hρ : ∀ p i, look [(3, 4), (902, 903)] p = some i → ∀ v, ι2 i = some v → ι' p = some v := fun p i hp v hv => by
    rcases look_two hp with ⟨rfl, rfl⟩ | ⟨rfl, rfl⟩
    · rcases h2of _ v hv with ⟨_, h⟩ | ⟨h, _⟩
      · exact h
      · omega
    · rcases h2of _ v hv with ⟨h, _⟩ | ⟨_, h⟩
      · omega
      · exact h
  obtain ⟨v3, h3, hB3⟩ := hH.blk 3 _ rfl
  obtain ⟨v9, h9, hB9⟩ := hH.blk 902 _ rfl
  refine ⟨v0, .ptr 4 0, _, ι2, rfl, ⟨rfl, rfl⟩, ⟨fun id b hb => ?_, fun id v hv => ?_, fun i j v v' r hij hi hj hr => ?_, fun i v r hi => by obtain ⟨j, hj⟩ := hold i v hi; exact hH.pm j v r hj, hH.os, hH.tape, hH.output, hH.size, hH.keep, hH.fresh, fun id v h1 hv => ?_, fun i v r hi => by obtain ⟨j, hj⟩ := hold i v hi; exact hH.nf j v r hj, hH.forb⟩, ?_⟩
  · rcases look_two hb with ⟨rfl, rfl⟩ | ⟨rfl, rfl⟩
    · refine ⟨v3, by simp [ι2, h3], ?_⟩
      rw [← ren2_tbl]
      exact hB3.up hF hρ
    · refine ⟨v9, by simp [ι2, h9], ?_⟩
      rw [← ren_map [(3, 4), (902, 903)] m]
      exact hB9.up hF hρ
  · rcases h2of id v hv with ⟨rfl, _⟩ | ⟨rfl, _⟩
    · exact ⟨_, rfl⟩
    · exact ⟨_, rfl⟩
  · rcases h2of i v hi with ⟨rfl, h5⟩ | ⟨rfl, h5⟩ <;> rcases h2of j v' hj with ⟨rfl, h6⟩ | ⟨rfl, h6⟩
    · exact absurd rfl hij
    · exact hH.inj 3 902 v v' r (by omega) h5 h6 hr
    · exact hH.inj 902 3 v v' r (by omega) h5 h6 hr
    · exact absurd rfl hij
  · rcases h2of id v hv with ⟨rfl, _⟩ | ⟨rfl, _⟩ <;> omega
  · exact hv.up hF hρ
end
set_option linter.unusedSimpArgs false
attribute [local irreducible] AWp AOps AQ AYield AEff ACall AWk AAny AAt AThen AIn APost NoPanic
section
variable {P : Program} {nt : Nat} {Q : Post} {e : Env} {h : Heap} {o : Oper} {ops : Array Oper} {rest : List Oper} {T : List Nat}
theorem O_cNew2 {f : FuncId} {args : Array Operand} {ats : Array TypeId} {cs : List AVal} {d : Nat} {u : Nat → Int} {l : List (Pfx × Int)} (H : ACall P f cs [] (fun c' h' => c' = .ptr 4 0 ∧ h' = [(4, tblB 903 u), (903, mapB l)])) (hw : awant ops e o = some true) (hdst : o.dst = some d) (hd : Nat.blt d nt = true)
    (ho : o.op = .call { callee := .value (.func f), args := args, argTypes := ats }) (hx : aevs e args.toList = some cs) (HK : AOps P nt ops Q rest ((d, .ptr 4 0) :: killEs [4, 903] e) ((4, tblB 903 u) :: (903, mapB l) :: killHs [4, 903] h)) : AOps P nt ops Q (o :: rest) e h :=
  O_eff (T := []) hw (E_callQ ho hdst hx H hd fun c' h' ⟨h1, h2⟩ => by
    subst h1 h2
    refine ⟨rfl, fun id b j hb hh => ?_, fun j hj => ?_⟩
    · by_cases h3 : 4 = id
      · subst h3
        rw [look_cons_same] at hb
        cases hb
        have hs : hasL j (usedA u) = false := shutL_has j (usedA u) rfl
        have : (903 == j) = true := by
          have h9 : ((AVal.mp 903).has j || hasL j (usedA u)) = true := hh
          rw [hs, Bool.or_false] at h9
          exact h9
        have : 903 = j := by simpa using this
        subst this
        rfl
      · rw [look_cons_ne _ _ h3] at hb
        by_cases h4 : 903 = id
        · subst h4
          rw [look_cons_same] at hb
          cases hb
          have h9 : (ents pfxA intA l).any (fun p => p.1.has j || p.2.has j) = true := hh
          obtain ⟨p, hp, h10⟩ := List.any_eq_true.1 h9
          obtain ⟨q, _, rfl⟩ := List.mem_map.1 hp
          rw [shut_has j (pfxA q.1) rfl, shut_has j (intA q.2) rfl] at h10
          cases h10
        · rw [look_cons_ne _ _ h4] at hb; cases hb
    · have h9 : (4 == j) = true := hj
      have : 4 = j := by simpa using h9
      subst this
      rfl) fun e' h' ⟨c, h2, ⟨h3, h4⟩, h5, h6⟩ => by subst h3 h4 h5 h6; exact HK
/-- A call that gets a table of ours, at its turn in a region that draws. -/
theorem T_cTbl {f : FuncId} {args : Array Operand} {ats : Array TypeId} {cs0 cs : List AVal} {c : AVal} {d fuel n : Nat} {listed : Array Bool} (i j : Nat) (hij : i ≠ j) {u u' : Nat → Int} {l l' : List (Pfx × Int)}
    (H : ACall P f cs [(1000, tblB 1001 u), (1001, mapB l)] (fun c' h' => c' = c ∧ h' = [(1000, tblB 1001 u'), (1001, mapB l')])) (hn : ops[n]? = some o) (hw : awant ops e o = some true) (hdst : o.dst = some d) (hd : Nat.blt d nt = true) (ho : o.op = .call { callee := .value (.func f), args := args, argTypes := ats }) (hx : aevs e args.toList = some cs0)
    (hok : cs.all (okV [(1000, i), (1001, j)]) = true) (hcs : cs.map (renV [(1000, i), (1001, j)]) = cs0) (hi : look h i = some (tblB j u)) (hj : look h j = some (mapB l)) (hT1 : T.contains i = true) (hT2 : T.contains j = true)
    (HK : AAny P nt ops Q T fuel (listed.setIfInBounds n true) ((d, renV [(1000, i), (1001, j)] c) :: e) ((i, tblB j u') :: (j, mapB l') :: h)) : AAt P nt ops Q T fuel listed n e h := by
  refine T_eff hn hw (E_callP (h0 := [(1000, tblB 1001 u), (1001, mapB l)]) [(1000, i), (1001, j)] ho hdst hx hcs (fun c hc => List.all_eq_true.1 hok c hc) ⟨⟨i, _, rfl, hi, ren_tbl i j u, ok_tbl i j u⟩, ⟨j, _, rfl, hj, ren_map _ l, ok_map _ l⟩, trivial⟩ (fun p k h1 => ?_) (fun p p' k h1 h2 => ?_) H hd (fun p k h1 => ?_) (fun c' h' ⟨_, hh⟩ p k h1 => ?_)) fun e' h' ⟨c', h2, ⟨h3, h4⟩, h5, h6⟩ => ?_
  · rcases look_pass h1 with ⟨h3, h4⟩ | ⟨h3, h4⟩ <;> subst h3 <;> exact ⟨by omega, rfl⟩
  · rcases look_pass h1 with ⟨h3, h4⟩ | ⟨h3, h4⟩ <;> rcases look_pass h2 with ⟨h5, h6⟩ | ⟨h5, h6⟩ <;> omega
  · rcases look_pass h1 with ⟨h3, h4⟩ | ⟨h3, h4⟩ <;> subst h4 <;> assumption
  · subst hh
    rcases look_pass h1 with ⟨h3, h4⟩ | ⟨h3, h4⟩ <;> subst h3 <;> rfl
  · subst h3 h4 h5 h6
    have e1 : renH [(1000, i), (1001, j)] [(1000, tblB 1001 u'), (1001, mapB l')] ++ h = (i, tblB j u') :: (j, mapB l') :: h := by
      show (i, renB _ (tblB 1001 u')) :: (j, renB _ (mapB l')) :: ([] ++ h) = _
      rw [ren_tbl, ren_map]
      rfl
    rw [e1]
    exact HK
end
end Go.Proofs.Ytaecjmjdhbjbkaa.Ab

/-
  Texts of a proof, one behind the other (part 20).
-/
import Derived.Test.YtjmelcdgbnjefaaRc1
import Derived.Test.YtjmelcdgbnjefaaRc5
import Derived.Test.YtjmelcdgbnjefaaRc12
set_option linter.unusedVariables false
set_option linter.unusedSimpArgs false
namespace Go.Proofs.Ytjmelcdgbnjefaa.Ab
set_option linter.unusedVariables false
set_option linter.unusedSimpArgs false
set_option maxRecDepth 100000
open Go.RowKit
theorem intKey {P : Program} {K : TypeId} {q : IntKind} (hd : P.underlying K = some (.int q)) : KeyLaw P K (fun a : Int => .int q a) (fun _ => True) where
  check := fun b k w _ => by
    show (Instr.checkKey b (9999 + 1) K (.int q k)).run P w = _
    unfold Instr.checkKey
    simp [run_underlying hd]
  bits := fun a _ => by simp [Instr.sameBits]
  find := fun k es l _ _ he w => by
    have key : ∀ (es : List MapEntry) (l : List (Int × Value)) (i : Nat), es.map (fun e => (e.key, e.val)) = l.map (fun p => (Value.int q p.1, p.2)) → Instr.findNow (.int q) (.int q k) es i = some ((mget l k).map fun x => (i + x.1, x.2)) := by
      intro es
      induction es with
      | nil =>
        intro l i h
        cases l with
        | nil => rfl
        | cons p r => simp at h
      | cons e es ih =>
        intro l i h
        cases l with
        | nil => simp at h
        | cons p r =>
          obtain ⟨k', v⟩ := p
          simp only [List.map_cons, List.cons.injEq, Prod.mk.injEq] at h
          obtain ⟨⟨h1, h2⟩, h3⟩ := h
          unfold Instr.findNow mget
          rw [h1]
          by_cases e' : k = k'
          · subst e'; simp [Instr.sameNow, h2]
          · have : (k == k') = false := by simpa using e'
            simp only [Instr.sameNow, if_true, this, if_neg e']
            rw [ih r (i + 1) h3]
            cases mget r k with
            | none => rfl
            | some x => simp; omega
    unfold Instr.findKey
    rw [Sem.run_bind, run_underlying hd]
    simp only [Result.andThen_ok]
    rw [key es l 0 he]
    cases mget l k with
    | none => rfl
    | some x => simp
section
variable {P : Program} {nt : Nat} {Q : Post} {e : Env} {h : Heap} {o : Oper} {ops : Array Oper} {rest : List Oper} {T : List Nat} {tab : TTab} {κ ν : Type} [DecidableEq κ] {ek : κ → Value} {ok : κ → Prop} {ka : κ → AVal} {xa : ν → AVal}
theorem O_insert {t K E id : Nat} {x y z : Operand} {k : κ} {l : List (κ × ν)} {q : ν} (law : KeyLaw P K ek ok) (hka : ∀ k, valA (ka k) = some (ek k)) (hkv : ∀ k w F ι, VRel w F ι (ka k) (ek k)) (hk : ok k) (hl : ∀ p ∈ l, ok p.1) (hn : (l.map (·.1)).Nodup)
    (TO : TabOk P tab) (hw : awant ops e o = some true) (hdst : o.dst = none) (ho : o.op = .insert t x y z) (ht : tmap tab t = some (K, E)) (hx : aev e x = some (.mp id)) (hb : look h id = some (.map (ents ka xa l))) (hy : aev e y = some (ka k)) (hq : aev e z = some (xa q))
    (HK : AOps P nt ops Q rest e ((id, .map (ents ka xa (Go.Proofs.Ytjmelcdgbnjefaa.aput l k q))) :: h)) : AOps P nt ops Q (o :: rest) e h := by
  obtain ⟨te, h1, h2⟩ := tmap_spec ht
  refine O_eff (T := [id]) (R := fun e' h' => e' = e ∧ h' = (id, .map (ents ka xa (Go.Proofs.Ytjmelcdgbnjefaa.aput l k q))) :: h) hw (fun Pm F w0 pin ι a w R Kt Qx hK => ?_) fun e' h' ⟨h3, h4⟩ => by subst h3 h4; exact HK
  have hE := E_mapUpdate (T := [id]) (nt := nt) (o := { o with op := .mapUpdate t x y z }) (d := none) TO law hka hkv rfl hdst h1 h2 hx hb hy hq hk hl hn rfl (by simp) Pm F w0 pin ι a w R Kt Qx hK
  have he : execOp a.eval o = execOp a.eval { o with op := .mapUpdate t x y z } := by simp only [execOp, ho]
  unfold Oper.wp at hE ⊢
  rw [he]
  exact hE
theorem R_buildArr {t el n k : Nat} {ps : Array (Nat × Operand)} {z : List AVal} {al : List (Nat × AVal)} {xs : List AVal} (TO : TabOk P tab) (ho : o.op = .build t ps) (hz : tzero tab t = some z) (ht : tarr tab t = some (n, el)) (hsz : tsize tab el = some k) (hal : aparts e ps.toList = some al)
    (hf : afill (fun i => some (i * k, k)) z al = some xs) : AYield P T e h o (.agg xs) := by
  obtain ⟨te, h1, h2, rfl⟩ := tzero_spec hz
  obtain ⟨te0, h10, h11⟩ := tarr_spec ht
  rw [h1] at h10; cases h10
  obtain ⟨te', h3, rfl⟩ := tsize_spec hsz
  refine yield_of _ fun w F ι a E => ?_
  obtain ⟨d, hu, _, hsh⟩ := (TO t te h1).und
  rw [h11] at hsh
  cases hsh
  obtain ⟨z, _, hz2, i, hi, hz3, _⟩ := (TO t te h1).zero w
  obtain ⟨C', g1, g2, g3⟩ := afill_rel E (fun i => some (i * te'.size, te'.size)) ps.toList al _ z.cells xs hal hf (by simp [← hz2]) fun i c u h1 h2' => by
    rw [List.getElem?_map, ← hz2, Array.getElem?_toList, h2'] at h1
    cases h1
    exact sc_rel (List.all_eq_true.1 h2 u (by rw [← hz2]; exact List.mem_of_getElem? (by rw [Array.getElem?_toList]; exact h2')))
  refine ⟨.agg C', .agg xs C' g2 g3, fun w' => ?_⟩
  have hzero : (zeroValue t).run P w' = .ok z w' := by simp [zeroValue, typeInfo, hi, hz3]
  simp [execOp, ho, Instr.build, hzero, run_underlying hu, (TO el te' h3).size, Array.toList_map, g1]
end
end Go.Proofs.Ytjmelcdgbnjefaa.Ab

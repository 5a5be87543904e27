/-
  Texts of a proof, one behind the other (part 3).
-/
import Derived.CallsIn
import Derived.Listen
import Derived.Lone
import Derived.Shelf.SlSortCmp.WholeK
import Derived.Sort.LotA
import Derived.Maps.Own
import Derived.Maps.RangeRun
import Derived.Laws.StructEq
import Derived.Test.YtjfmiehpncginaaRb1
set_option linter.unusedVariables false
set_option linter.unusedSimpArgs false
namespace Go.Proofs.Ytjfmiehpncginaa
set_option linter.unusedVariables false
set_option maxRecDepth 100000
open Go
def rworld {α : Type} : Result α → World
  | .ok _ w => w
  | .halt _ w => w
theorem ask_drawn {α : Type} (a : Ask α) (w : World) : w.drawn ≤ (w.ask a).2.drawn := by
  induction a generalizing w with
  | done a => exact Nat.le_refl _
  | ask what range k ih =>
    simp only [World.ask]
    split
    · exact ih _ _
    · refine Nat.le_trans ?_ (ih _ _)
      exact Nat.le_succ _
theorem sys_drawn (w : World) (c : Sys) : w.drawn ≤ (w.sys c).2.drawn := by
  have hk := ask_drawn (Kernel.perform c w.os) w
  unfold World.sys
  split
  · exact Nat.le_refl _
  · rename_i h
    rw [h] at hk
    exact hk
theorem viewStore_drawn {p : Program} {w : World} {at_ : Addr} {u : TypeId} {k : Addr} {v : Value} {b : Bool} {r : World × List Addr} (h : w.viewStore p at_ u k v b = .ok r) : r.1.drawn = w.drawn := by
  unfold World.viewStore at h
  simp only [bind, Except.bind, pure, Except.pure, throw, throwThe, MonadExceptOf.throw] at h
  repeat' first
    | (simp at h; done)
    | (simp only [Except.ok.injEq] at h; subst h; rfl)
    | split at h
theorem farStore_drawn {p : Program} {w : World} {a : Addr} {v : Value} {b : Bool} {r : World × List Addr} (h : w.farStore p a v b = .ok r) : r.1.drawn = w.drawn := by
  unfold World.farStore at h
  split at h
  · split at h
    · rename_i hv
      cases h
      exact viewStore_drawn hv
    · cases h
  · cases h
theorem run_drawn {α : Type} (p : Program) (e : Sem α) (w : World) : w.drawn ≤ (rworld (e.run p w)).drawn := by
  induction e generalizing w with
  | pure a => exact Nat.le_refl _
  | load m a k ih =>
    simp only [Sem.run]
    (repeat' split) <;> first | exact ih _ _ | exact Nat.le_refl _
  | store m a v k ih =>
    cases v <;> simp only [Sem.run] <;> (repeat' split) <;> first
      | exact Nat.le_refl _
      | (refine Nat.le_trans ?_ (ih _); exact Nat.le_refl _)
      | (refine Nat.le_trans ?_ (ih _); rename_i hf; exact Nat.le_of_eq (farStore_drawn hf).symm)
  | new o k ih => refine Nat.le_trans ?_ (ih _ _); exact Nat.le_refl _
  | shape r k ih => exact ih _ _
  | freeze a n k ih =>
    refine Nat.le_trans ?_ (ih _)
    unfold World.freeze
    split <;> exact Nat.le_refl _
  | frozen a k ih => exact ih _ _
  | getObj r k ih =>
    simp only [Sem.run]
    split <;> first | exact ih _ _ | exact Nat.le_refl _
  | setObj r o k ih =>
    simp only [Sem.run]
    split <;> first | exact Nat.le_refl _ | (refine Nat.le_trans ?_ (ih _); exact Nat.le_refl _)
  | choose q k ih =>
    simp only [Sem.run]
    split
    · exact ih _ _
    · refine Nat.le_trans ?_ (ih _ _)
      exact Nat.le_succ _
  | sys c k ih =>
    refine Nat.le_trans ?_ (ih _ _)
    exact sys_drawn _ _
  | program k ih => exact ih _ _
  | mark m k ih => exact ih _
  | halt h => exact Nat.le_refl _
section
variable {α : Type} {p : Program} {s : Sem α} {w w1 : World} {D : Nat} {a : α} {x : Halt} {e e1 : Array Event}
theorem le_ok (h : s.run p w = .ok a w1) (hD : D ≤ w.drawn) : D ≤ w1.drawn := by
  have := run_drawn p s w
  rw [h] at this
  exact Nat.le_trans hD this
theorem le_halt (h : s.run p w = .halt x w1) (hD : D ≤ w.drawn) : D ≤ w1.drawn := by
  have := run_drawn p s w
  rw [h] at this
  exact Nat.le_trans hD this
theorem le_okP (h : (s.run p w, e) = (.ok a w1, e1)) (hD : D ≤ w.drawn) : D ≤ w1.drawn := le_ok (Prod.mk.inj h).1 hD
theorem le_haltP (h : (s.run p w, e) = (.halt x w1, e1)) (hD : D ≤ w.drawn) : D ≤ w1.drawn := le_halt (Prod.mk.inj h).1 hD
end
def gdr (D : Nat) : GStep → Prop
  | .go _ w _ => D ≤ w.drawn
  | .comm _ _ _ _ w _ => D ≤ w.drawn
  | .spawn _ _ w _ => D ≤ w.drawn
  | .count _ w _ => D ≤ w.drawn
  | .timer _ _ w _ => D ≤ w.drawn
  | .alone _ _ w _ => D ≤ w.drawn
  | .newcoro _ _ _ w _ => D ≤ w.drawn
  | .coroswitch _ _ _ w _ => D ≤ w.drawn
  | .collect _ w _ => D ≤ w.drawn
  | .watch _ w _ => D ≤ w.drawn
  | .ended _ _ _ => True
theorem gdr_after (D : Nat) (es : Array Event) (s : GStep) : gdr D (GStep.after es s) = gdr D s := by cases s <;> rfl
theorem gdr_elim {α : Type} {D : Nat} {o : Option α} {a : GStep} {f : α → GStep} (ha : gdr D a) (hf : ∀ x, gdr D (f x)) : gdr D (o.elim a f) := by cases o; exact ha; exact hf _
section
variable {p : Program} {main b : Bool} {fr : Frame} {callers : List Frame} {dying : Option Dying} {w : World} {D : Nat}
theorem doReturn_dr {v : Value} (h : D ≤ w.drawn) : gdr D (doReturn p main fr callers dying v w) := by
  unfold doReturn
  repeat' first
    | trivial
    | rw [gdr_after]
    | exact h
    | exact le_ok (by assumption) h
    | exact le_halt (by assumption) h
    | exact le_okP (by assumption) h
    | exact le_haltP (by assumption) h
    | (simp only [gdr]; exact le_ok (by assumption) h)
    | (simp only [gdr]; exact le_halt (by assumption) h)
    | split
theorem dieOf_dr {l : List ByteArray} {m : String} {b : Bool} (h : D ≤ w.drawn) : gdr D (dieOf fr l m b w) := h
theorem endThrow_dr {m : String} (h : D ≤ w.drawn) : gdr D (endThrow fr m w) := h
theorem endWith_dr {n : Nat} {t : ByteArray} {o : Outcome} : gdr D (endWith w n t o) := by
  unfold endWith
  simp only []
  repeat' first
    | trivial
    | split
theorem endPrinting_dr {v : Value} (h : D ≤ w.drawn) : gdr D (endPrinting p fr v w) := by
  unfold endPrinting
  simp only []
  repeat' first
    | exact endThrow_dr h
    | trivial
    | split
theorem endFatal_dr {m : String} (h : D ≤ w.drawn) : gdr D (endFatal p fr callers dying m w) := by
  unfold endFatal
  simp only []
  split
  · exact dieOf_dr (le_ok (by assumption) h)
  · trivial
  · trivial
theorem writeOn_dr {d : Dying} {f : Fatal} (h : D ≤ w.drawn) : gdr D (writeOn p fr d f w) := by
  unfold writeOn
  simp only [Sem.runT_eq]
  split
  · trivial
  · split
    · exact le_okP (by assumption) h
    · exact le_haltP (by assumption) h
    · trivial
    · trivial
theorem die_dr {d : Dying} (h : D ≤ w.drawn) : gdr D (die p fr d w) := by
  unfold die
  simp only [Sem.runT_eq, gdr_after]
  repeat' first
    | trivial
    | rw [gdr_after]
    | exact h
    | exact le_ok (by assumption) h
    | exact le_halt (by assumption) h
    | exact le_okP (by assumption) h
    | exact le_haltP (by assumption) h
    | (simp only [gdr]; exact le_ok (by assumption) h)
    | (simp only [gdr]; exact le_halt (by assumption) h)
    | exact writeOn_dr h
    | exact endWith_dr
    | exact endPrinting_dr (le_halt (by assumption) h)
    | split
theorem callDeferred_dr {d : Deferred} (h : D ≤ w.drawn) : gdr D (callDeferred p fr callers dying d w) := by
  unfold callDeferred
  simp only [Sem.runT_eq, gdr_after]
  repeat' first
    | trivial
    | rw [gdr_after]
    | exact h
    | exact le_ok (by assumption) h
    | exact le_halt (by assumption) h
    | exact le_okP (by assumption) h
    | exact le_haltP (by assumption) h
    | (simp only [gdr]; exact le_ok (by assumption) h)
    | (simp only [gdr]; exact le_halt (by assumption) h)
    | exact endFatal_dr (le_halt (by assumption) h)
    | exact endThrow_dr (le_halt (by assumption) h)
    | split
theorem unwind_dr (h : D ≤ w.drawn) : gdr D (unwind p main fr callers dying w) := by
  unfold unwind
  simp only [Sem.runT_eq, gdr_after]
  repeat' first
    | trivial
    | rw [gdr_after]
    | exact h
    | exact le_ok (by assumption) h
    | exact le_halt (by assumption) h
    | exact le_okP (by assumption) h
    | exact le_haltP (by assumption) h
    | (simp only [gdr]; exact le_ok (by assumption) h)
    | (simp only [gdr]; exact le_halt (by assumption) h)
    | exact callDeferred_dr h
    | exact doReturn_dr h
    | exact doReturn_dr (le_ok (by assumption) h)
    | exact endPrinting_dr h
    | split
theorem early_dr {g : Nat} (h : D ≤ w.drawn) : gdr D (early p fr callers dying g w) := by
  unfold early
  simp only []
  repeat' first
    | trivial
    | rw [gdr_after]
    | exact h
    | exact le_ok (by assumption) h
    | exact le_halt (by assumption) h
    | exact le_okP (by assumption) h
    | exact le_haltP (by assumption) h
    | (simp only [gdr]; exact le_ok (by assumption) h)
    | (simp only [gdr]; exact le_halt (by assumption) h)
    | split
theorem apply_dr {s : Sem Next} (h : D ≤ w.drawn) : gdr D (stepG.apply p b fr callers dying s w) := by
  unfold stepG.apply
  have e : (if b = true then s.runT p w #[] else (s.run p w, #[])).1 = s.run p w := by split <;> simp
  generalize (if b = true then s.runT p w #[] else (s.run p w, #[])) = re at e ⊢
  obtain ⟨r, es⟩ := re
  dsimp only at e
  subst e
  simp only [gdr_after]
  repeat' first
    | trivial
    | rw [gdr_after]
    | exact h
    | exact le_ok (by assumption) h
    | exact le_halt (by assumption) h
    | exact le_okP (by assumption) h
    | exact le_haltP (by assumption) h
    | (simp only [gdr]; exact le_ok (by assumption) h)
    | (simp only [gdr]; exact le_halt (by assumption) h)
    | exact endFatal_dr (le_halt (by assumption) h)
    | exact endThrow_dr (le_halt (by assumption) h)
    | exact endThrow_dr (le_ok (by assumption) h)
    | exact early_dr (le_halt (by assumption) h)
    | split
theorem oper_dr (h : D ≤ w.drawn) : gdr D (stepG.oper p b fr callers dying w) := by
  unfold stepG.oper
  split
  · trivial
  · split <;> exact apply_dr h
theorem exec_dr (h : D ≤ w.drawn) : gdr D (stepG.exec p main b fr callers dying w) := by
  unfold stepG.exec
  simp only [Sem.runT_eq, gdr_after]
  repeat' first
    | trivial
    | rw [gdr_after]
    | exact h
    | exact le_ok (by assumption) h
    | exact le_halt (by assumption) h
    | exact le_okP (by assumption) h
    | exact le_haltP (by assumption) h
    | (simp only [gdr]; exact le_ok (by assumption) h)
    | (simp only [gdr]; exact le_halt (by assumption) h)
    | exact apply_dr h
    | exact apply_dr (le_ok (by assumption) h)
    | exact oper_dr h
    | exact doReturn_dr (le_ok (by assumption) h)
    | (refine gdr_elim ?_ fun x => ?_)
    | (simp only [Sem.runT_eq, gdr_after]; done)
    | split
end
section
variable {p : Program} {w : World} {m m' : Machine}
theorem stepG_dr {main b : Bool} {g : Goroutine} : gdr w.drawn (stepG p main g w b) := by
  obtain ⟨fr, callers, status, dying, offers⟩ := g
  simp only [stepG]
  have h : w.drawn ≤ w.drawn := Nat.le_refl _
  split
  · exact die_dr h
  · exact exec_dr h
  · exact unwind_dr h
theorem waitingAt_dr {rest : Rest} {cs : Array CommCase} {w1 : World} (h : waitingAt rest cs w = some w1) : w1.drawn = w.drawn := by
  unfold waitingAt at h
  repeat' first
    | (simp at h; done)
    | (simp only [Option.some.injEq] at h; subst h; rfl)
    | split at h
theorem communicate_dr {rest : Rest} {gs : Array Goroutine} {i : Nat} {g : Goroutine} {cases : Array CommCase} {blocking : Bool} {shape : CommShape} (h : (communicate p rest gs i g cases blocking shape w).1 = .next m') : w.drawn ≤ m'.world.drawn := by
  have hD : w.drawn ≤ w.drawn := Nat.le_refl _
  unfold communicate at h
  simp only [] at h
  repeat' first
    | (simp at h; done)
    | (simp only [Stepped.next.injEq] at h; subst h; dsimp only; first | exact hD | exact le_ok (by assumption) hD | exact le_halt (by assumption) hD | exact le_halt (by assumption) (le_ok (by assumption) hD) | exact le_ok (by assumption) (le_ok (by assumption) hD))
    | (simp only [Stepped.next.injEq] at h; subst h; dsimp only; rename_i hw; exact Nat.le_of_eq (waitingAt_dr hw).symm)
    | split at h
theorem look_dr {gs : Array Goroutine} {rest : Rest} (h : look p gs rest w = .next m') : w.drawn ≤ m'.world.drawn := by
  have hD : w.drawn ≤ w.drawn := Nat.le_refl _
  unfold look at h
  simp only [] at h
  repeat' first
    | (simp at h; done)
    | (simp only [Stepped.next.injEq] at h; subst h; dsimp only; first | exact hD | exact le_ok (by assumption) hD | exact le_halt (by assumption) hD | exact le_halt (by assumption) (le_ok (by assumption) hD) | exact le_ok (by assumption) (le_ok (by assumption) hD))
    | split at h
theorem opened_dr {var : Addr} {m1 : Machine} (h : timerOp.opened m var = some m1) : m1.world.drawn = m.world.drawn := by
  unfold timerOp.opened at h
  split at h
  · split at h
    · cases h; rfl
    · cases h
  · cases h; rfl
theorem timerOp_dr {op : TimerOp} {v : Value} (h : timerOp m op = .ok (v, m')) : m'.world.drawn = m.world.drawn := by
  unfold timerOp timerOp.named retime drain Machine.withTimers at h
  simp only [] at h
  repeat' first
    | (simp at h; done)
    | (simp only [Except.ok.injEq, Prod.mk.injEq] at h; obtain ⟨_, h⟩ := h; subst h; first | rfl | (dsimp only; exact opened_dr (by assumption)))
    | split at h
set_option maxHeartbeats 4000000 in
theorem runT_dr {i : Nat} {b : Bool} (h : (runT p m i b).1 = .next m') : m.world.drawn ≤ m'.world.drawn := by
  simp only [runT] at h
  revert h
  generalize m.gs.swapAt! _ _ = gg
  have hs : gdr m.world.drawn (stepG p (i == 0) gg.1 m.world b) := stepG_dr
  revert hs
  generalize stepG p (i == 0) gg.1 m.world b = s
  intro hs h
  cases s <;> simp only [] at h <;> simp only [gdr] at hs
  all_goals first
    | (simp at h; done)
    | (exact Nat.le_trans hs (communicate_dr h))
    | (exact Nat.le_trans hs (look_dr h))
    | (simp only [Stepped.next.injEq] at h; subst h; exact hs)
    | (repeat' first
        | (simp at h; done)
        | (simp only [Stepped.next.injEq] at h; subst h; exact hs)
        | (simp only [Stepped.next.injEq] at h; subst h; rename_i ht; have := timerOp_dr ht; dsimp only at this ⊢; omega)
        | (simp only [endThrow, dieOf, Stepped.next.injEq] at h; subst h; exact hs)
        | split at h)
theorem serve_dr {k : Nat} (h : serve p m k = .next m') : m.world.drawn ≤ m'.world.drawn := by
  unfold serve at h
  simp only [] at h
  repeat' first
    | (simp at h; done)
    | (simp only [Stepped.next.injEq] at h; subst h; exact Nat.le_refl _)
    | split at h
/-- What is to be done next: at a machine of no less draws. -/
def mdr (D : Nat) : Move → Prop
  | .goroutine m _ => D ≤ m.world.drawn
  | .machine (.next m) _ => D ≤ m.world.drawn
  | .machine (.ended _ _) _ => True
theorem mdr_serve {D k : Nat} {ops : Array MemOp} (h : D ≤ m.world.drawn) : mdr D (.machine (serve p m k) ops) := by
  cases hs : serve p m k with
  | next m1 => exact Nat.le_trans h (serve_dr hs)
  | ended o w => trivial
theorem adv_dr {D t : Nat} (h : D ≤ m.world.drawn) : D ≤ (m.advanceTo t).world.drawn := h
set_option maxHeartbeats 4000000 in
theorem askOn_dr {D : Nat} (h : D ≤ m.world.drawn) : mdr D (askOn p m) := by
  unfold askOn
  simp only []
  repeat' first
    | trivial
    | rw [gdr_after]
    | exact h
    | exact le_ok (by assumption) h
    | exact le_halt (by assumption) h
    | exact le_okP (by assumption) h
    | exact le_haltP (by assumption) h
    | (simp only [gdr]; exact le_ok (by assumption) h)
    | (simp only [gdr]; exact le_halt (by assumption) h)
    | exact le_ok (by assumption) (le_ok (by assumption) h)
    | exact le_ok (by assumption) (le_ok (by assumption) (le_ok (by assumption) h))
    | exact mdr_serve (le_ok (by assumption) h)
    | (simp only [mdr, Machine.advanceTo]; first | trivial | exact le_ok (by assumption) h | exact le_ok (by assumption) (le_ok (by assumption) h) | exact le_ok (by assumption) (le_ok (by assumption) (le_ok (by assumption) h)) | exact le_ok (by assumption) (le_ok (by assumption) (le_ok (by assumption) (le_ok (by assumption) h))) | exact le_ok (by assumption) (adv_dr (le_ok (by assumption) (le_ok (by assumption) h))) | exact le_ok (by assumption) (le_ok (by assumption) (adv_dr (le_ok (by assumption) (le_ok (by assumption) h)))))
    | split
theorem ask_dr {D : Nat} (h : D ≤ m.world.drawn) : mdr D (ask p m) := by
  unfold ask
  split
  · split
    · trivial
    · rename_i hr
      generalize hl : look p m.gs m.rest _ = s
      cases s with
      | next m1 => exact askOn_dr (Nat.le_trans (le_ok hr h) (look_dr hl))
      | ended o w => trivial
    · rename_i hr
      exact askOn_dr (le_ok hr h)
  · exact askOn_dr h
theorem move_dr {D : Nat} (h : D ≤ m.world.drawn) : mdr D (move p m) := by
  unfold move
  repeat' first
    | trivial
    | exact h
    | exact ask_dr h
    | split
theorem step_dr (h : step p m = .next m') : m.world.drawn ≤ m'.world.drawn := by
  have hm : mdr m.world.drawn (move p m) := move_dr (Nat.le_refl _)
  unfold step stepT at h
  split at h
  · rename_i m1 i he
    rw [he] at hm
    exact Nat.le_trans hm (runT_dr h)
  · rename_i s ops he
    rw [he] at hm
    dsimp only at h
    subst h
    exact hm
theorem steps_dr (h : Steps p m m') : m.world.drawn ≤ m'.world.drawn := by
  have h1 := StepsIn.of_steps h
  clear h
  induction h1 with
  | refl => exact Nat.le_refl _
  | head _ hs _ ih => exact Nat.le_trans (step_dr hs) ih
/-- No call takes a draw back. -/
theorem Calls.drawn {f : FuncId} {args : Array Value} {R : Ending → World → Prop} (h : Calls p f args w R) : Calls p f args w fun e w' => R e w' ∧ (e ≠ .outgrown → w.drawn ≤ w'.drawn) := fun cs => by
  obtain ⟨e, w', fr, hR, hc, h1, h2⟩ := h cs
  refine ⟨e, w', fr, ⟨hR, fun he => ?_⟩, hc, h1, h2⟩
  cases e with
  | outgrown => exact absurd rfl he
  | returned v => exact steps_dr hc
  | panicked c => exact steps_dr hc
end
end Go.Proofs.Ytjfmiehpncginaa

namespace Go.Proofs.Ytjfmiehpncginaa
set_option linter.unusedVariables false
set_option maxRecDepth 100000
open Go.RowKit Go.Sort Go.Shelf
/-! ### Rows of elements of k cells -/
section
variable {α : Type} [Inhabited α] (enc : α → List Value) (k : Nat)
theorem flat_get (hk : ∀ x, (enc x).length = k) (l : List α) (t : Nat) (h : t < l.length * k) : (l.flatMap enc)[t]? = some (enc l[t / k]!)[t % k]! := by
  have k0 : 0 < k := by rcases Nat.eq_zero_or_pos k with h0 | h0; · subst h0; simp at h
                        · exact h0
  induction l generalizing t with
  | nil => simp at h
  | cons x l ih =>
    rw [List.flatMap_cons]
    rcases Nat.lt_or_ge t k with h1 | h1
    · rw [List.getElem?_append_left (by rw [hk]; exact h1), Nat.div_eq_of_lt h1, Nat.mod_eq_of_lt h1]
      simp [hk, h1]
    · rw [List.getElem?_append_right (by rw [hk]; exact h1), hk]
      have e1 : t = (t - k) + k := by omega
      have e2 : t / k = (t - k) / k + 1 := by conv => lhs; rw [e1]; rw [Nat.add_div_right _ k0]
      have e3 : t % k = (t - k) % k := by conv => lhs; rw [e1]; rw [Nat.add_mod_right]
      rw [e2, e3, ih (t - k) (by simp [Nat.add_mul] at h; omega)]
      simp
theorem flat_len (hk : ∀ x, (enc x).length = k) (l : List α) : (l.flatMap enc).length = l.length * k := by
  induction l with
  | nil => exact (fun (_ : α) => by simp) (default : α)
  | cons x l ih => rw [List.flatMap_cons, List.length_append, ih, hk]; simp [Nat.add_mul]; omega
theorem flat_toList (hk : ∀ x, (enc x).length = k) (d : Array α) : (flatK enc k d).toList = d.toList.flatMap enc := by
  apply List.ext_getElem?
  intro t
  by_cases ht : t < d.size * k
  · rw [flat_get enc k hk d.toList t (by simpa using ht), Array.getElem?_toList]
    have h1 : t < (flatK enc k d).size := by simpa using ht
    rw [Array.getElem?_eq_getElem h1]
    have := get_flatK enc k d t ht
    rw [getElem!_pos _ t h1] at this
    rw [this]
    have e9 : d[t / k]! = d.toList[t / k]! := by rw [← Array.getElem!_toList]
    rw [e9]
  · rw [List.getElem?_eq_none (by simp; omega), List.getElem?_eq_none (by rw [flat_len enc k hk]; simp; omega)]
variable {w : World} {base g n cap : Nat} {e : TypeId} {os : Array Obj} {cur : Array Value}
/-- A row that is owned holds its elements, as the sort asks it. -/
theorem holds_of_owns (hk : ∀ x, (enc x).length = k) (l : List α) (hg : w.heap[g]? = some (.cells cur e (0, 0))) (ht : cur.toList.take (l.length * k) = l.flatMap enc) (hs : l.length * k ≤ cur.size) : HoldsK enc k w g 0 l.toArray := by
  intro j hj
  have hj' : j < l.length * k := by simpa using hj
  have e1 : (flatK enc k l.toArray)[j]! = (enc l[j / k]!)[j % k]! := by
    rw [get_flatK _ _ _ _ (by simpa using hj')]; simp
  have e2 := flat_get enc k hk l j hj'
  rw [← ht, List.getElem?_take_of_lt hj', Array.getElem?_toList] at e2
  rw [Nat.zero_add]
  refine ⟨?_, ?_⟩
  · rw [cell_of_row w g j cur e (0, 0) hg, e1, e2]; rfl
  · simp [World.frozen?, hg]
theorem heap_of_sort (d : Array α) {fr : Nat × Nat} (hb : w.heap[g]? = some (.cells cur e fr)) :
    (sortWorldK enc k w g 0 n d os).heap[g]? = some (.cells (putCells id 0 (flatK enc k d) cur) e fr) := by
  have hg : g < w.heap.size := (Array.getElem?_eq_some_iff.1 hb).1
  unfold sortWorldK putRowK
  rw [heap_grow_old _ _ (by simpa using hg)]
  simp [putRow, mapBlock, Sort.ahead, Array.getElem?_modify, hb, onCells]
theorem wrote_sort (d : Array α) {v : Value} (hv : Ab.blockOf v = some g) : Ab.Wrote w v (sortWorldK enc k w g 0 n d os) := by
  refine ⟨rfl, rfl, rfl, ?_, fun j hj hne => ?_⟩
  · unfold sortWorldK putRowK; simp
  · unfold sortWorldK putRowK
    rw [heap_grow_old _ _ (by simpa using hj)]
    have : g ≠ j := fun e => hne (by rw [hv, e])
    simp [putRow, mapBlock, Sort.ahead, Array.getElem?_modify, this]
theorem take_put (F : Array Value) (h : F.size ≤ cur.size) : (putCells id 0 F cur).toList.take F.size = F.toList := by
  apply List.ext_getElem?
  intro j
  by_cases hj : j < F.size
  · rw [List.getElem?_take_of_lt hj, Array.getElem?_toList]
    simp [putCells, hj, show j < cur.size by omega]
  · rw [List.getElem?_take_eq_none (by omega), List.getElem?_eq_none (by simp; omega)]
theorem owns_of_sort (hk : ∀ x, (enc x).length = k) (d : Array α) (hbase : base ≤ g) (hb : w.heap[g]? = some (.cells cur e (0, 0))) (h1 : d.size ≤ cap) (h2 : cap ≤ maxLen) (h3 : cur.size = cap * k) :
    (sortWorldK enc k w g 0 n d os).ownsRow base e k (.slice (some ⟨g, 0, none⟩) d.size cap) d.size (d.toList.flatMap enc) := by
  refine ⟨by rw [flat_len enc k hk]; simp, .inr ⟨g, cap, _, rfl, hbase, heap_of_sort enc k d hb, h1, h2, by simp [putCells, h3], ?_⟩⟩
  have := take_put (cur := cur) (flatK enc k d) (by rw [size_flatK, h3]; exact Nat.mul_le_mul_right k h1)
  rw [size_flatK] at this
  rw [this, flat_toList enc k hk]
end
/-! ### Orders -/
theorem swo_of {α : Type} {cf : α → α → Int} (G : Good cf) : SWO (ltOf cf) := by
  refine ⟨fun x => ?_, fun x y z h1 h2 => ?_, fun x y z h1 h2 => ?_⟩
  · simp only [ltOf, decide_eq_false_iff_not]
    rw [G.refl]
    omega
  · simp only [ltOf, decide_eq_true_eq] at *
    exact G.lt_lt h1 h2
  · simp only [ltOf, decide_eq_false_iff_not] at *
    have e1 := G.anti x y
    have e2 := G.anti y z
    have e3 := G.anti x z
    have := G.trans z y x (by omega) (by omega)
    omega
theorem tot_of {α : Type} {cf : α → α → Int} (G : Good cf) (hz : ∀ x y, cf x y = 0 → x = y) (x y : α) (h1 : ltOf cf x y = false) (h2 : ltOf cf y x = false) : x = y := by
  simp only [ltOf, decide_eq_false_iff_not] at *
  have := G.anti x y
  exact hz x y (by omega)
theorem srt_is {α : Type} (cf : α → α → Int) (l : List α) : (l.mergeSort fun x y => !(ltOf cf) y x) = srt cf l := rfl
/-! ### Comparing -/
theorem world_grown {w w' : World} (G : Ab.Grew w w') (hd : w.drawn ≤ w'.drawn) : ∃ n os, w' = grow (w.drewN n) os := by
  refine ⟨w'.drawn - w.drawn, w'.heap.extract w.heap.size w'.heap.size, ?_⟩
  have h1 := G.os
  have h2 := G.tape
  have h3 := G.output
  have h4 := G.size
  have h5 := G.mem
  obtain ⟨hp, tp, dr, os, ot⟩ := w
  obtain ⟨hp', tp', dr', os', ot'⟩ := w'
  dsimp only at h1 h2 h3 h4 h5 hd
  subst h1 h2 h3
  have e1 : hp' = hp ++ hp'.extract hp.size hp'.size := by
    apply Array.ext_getElem?
    intro i
    by_cases hi : i < hp.size
    · rw [Array.getElem?_append_left hi]
      exact h5 i hi
    · rw [Array.getElem?_append_right (by omega), Array.getElem?_extract]
      split
      · congr 1; omega
      · exact Array.getElem?_eq_none (by omega)
  show World.mk .. = World.mk ..
  dsimp only [World.drewN]
  have e2 : dr' = dr + (dr' - dr) := by omega
  rw [← e1, ← e2]
namespace Ab
section
variable {P : Program} {ρ : Ren} {α : Type} [Inhabited α]
theorem cmpLays_of {g : FuncId} {enc : α → List Value} {k : Nat} {cf : α → α → Int} {eA : α → AVal} (hvA : ∀ x, valA (eA x) = some (.agg (enc x).toArray)) (hoA : ∀ x, oneA (eA x) = true)
    (HC : ∀ x y, ACall P g [eA x, eA y] [] (Just (.d (.sc (.int .i64 (cf x y)))))) (blk off size : Nat) (w : World) : CmpLays P g #[] enc k cf blk off size w := by
  intro m os dk hs x y
  generalize sortWorldK enc k w blk off m dk os = W
  have H2 := (HC x y).2 (fun r => W.heap.size ≤ r) (fun _ => False) W (fun _ => none) (fun _ => none) (#[.agg (enc x).toArray, .agg (enc y).toArray] ++ #[]) W (HRel.none _ W (fun _ h => h.elim)) ⟨rfl, fun i c u h1 h2 => by
    match i, h1, h2 with
    | 0, h1, h2 => cases h1; cases h2; exact val_mk _ _ _ _ _ (hvA x) (hoA x)
    | 1, h1, h2 => cases h1; cases h2; exact val_mk _ _ _ _ _ (hvA y) (hoA y)⟩
  refine (Calls.drawn H2).mono ?_
  rintro e w' ⟨⟨u, c, h', ι', rfl, ⟨rfl, rfl⟩, hH, hv⟩, hd⟩
  obtain ⟨rfl, _⟩ := sc_of hv
  exact ⟨rfl, world_grown hH.grewC (hd (by simp))⟩
theorem vals_of {w : World} {Fr : Nat → Prop} : ∀ (vs xs : List Value), xs.length = vs.length → (∀ (i : Nat) (c : Dat) (u : Value), (vs.map Dat.sc)[i]? = some c → xs[i]? = some u → DRel w Fr c u) → xs = vs := fun vs xs h1 h2 => by
  apply List.ext_getElem?
  intro i
  by_cases hi : i < xs.length
  · have h3 := h2 i (.sc vs[i]) xs[i] (by rw [List.getElem?_map, List.getElem?_eq_getElem (by omega)]; rfl) (List.getElem?_eq_getElem hi)
    rw [List.getElem?_eq_getElem hi, List.getElem?_eq_getElem (by omega)]
    congr 1
    generalize xs[i] = u0 at h3 ⊢
    generalize (vs[i]'(by omega)) = v0 at h3 ⊢
    cases h3
    rfl
  · rw [List.getElem?_eq_none (by omega), List.getElem?_eq_none (by omega)]
theorem sortG (L : SlLaysF0.n6 P ρ) {f el : Nat} {k : Nat} (hf : ρ.f 6 = f) (hgo : isGo P f = true) (aE : ∀ w, (isAgg (ρ.t 24)).run P w = .ok true w) (zE : ∀ w, (Go.sizeOf (ρ.t 24)).run P w = .ok k w)
    {enc : α → List Value} (hk : ∀ x, (enc x).length = k) (h1 : ∀ x, ∀ v ∈ enc x, v.oneCell' = true) {eA : α → AVal} (hvA : ∀ x, valA (eA x) = some (.agg (enc x).toArray)) (hoA : ∀ x, oneA (eA x) = true)
    {eD : α → List Dat} (hD : ∀ x, eD x = (enc x).map Dat.sc) {cf : α → α → Int} (G : Good cf) (hz : ∀ x y, cf x y = 0 → x = y) {g : FuncId} (HC : ∀ x y, ACall P g [eA x, eA y] [] (Just (.d (.sc (.int .i64 (cf x y))))))
    (hnil : ∀ w, Calls P f #[.slice none 0 0, .func (.func g) #[] #[]] w fun e w' => e = .returned (.tuple #[]) ∧ w' = w) (l : List α) (hn : l.length ≤ 2147483648) :
    ACall P f [.row 1000, .fn g []] [(1000, .row el k l.length (l.flatMap eD))] (fun c h => c = .tup [] ∧ h = [(1000, .row el k l.length ((srt cf l).flatMap eD))]) := by
  refine ⟨hgo, fun Pm F w0 pin ι us w H HA => ?_⟩
  obtain ⟨v, hv, xs, hown, hxl, hxr⟩ := H.blk 1000 _ rfl
  have hmap : ∀ m : List α, m.flatMap eD = (m.flatMap enc).map Dat.sc := fun m => by
    rw [List.map_flatMap]
    congr 1
    exact funext hD
  rw [hmap] at hxl hxr
  have hxs := vals_of (l.flatMap enc) xs (by rw [hxl, List.length_map]) hxr
  subst hxs
  have hus : us = #[v, .func (.func g) #[] #[]] := by
    have hsz : us.size = 2 := HA.1
    obtain ⟨u0, u1, rfl⟩ : ∃ u0 u1, us = #[u0, u1] := ⟨us[0], us[1], by apply Array.ext <;> simp [hsz]; intro i h1 h2; match i with | 0 => rfl | 1 => rfl | i + 2 => omega⟩
    have h0 := HA.2 0 _ u0 rfl rfl
    have h1 := HA.2 1 _ u1 rfl rfl
    cases h0 with
    | row _ _ _ h3 =>
      cases h1 with
      | fn _ _ C hl _ =>
        have : C = #[] := Array.eq_empty_of_size_eq_zero hl
        rw [h3 v hv, this]
  subst hus
  have hlen : (srt cf l).length = l.length := srt_len l
  have key : Calls P f #[v, .func (.func g) #[] #[]] w fun e w' => e = .returned (.tuple #[]) ∧ w'.ownsRow 0 el k v l.length ((srt cf l).flatMap enc) ∧ Wrote w v w' := by
    obtain ⟨h0, ⟨rfl, h3⟩ | ⟨gb, cap, cur, rfl, hb, hg, hcap, hmax, hsz, ht⟩⟩ := hown
    · have : l = [] := List.eq_nil_of_length_eq_zero h3
      subst this
      refine (hnil w).mono ?_
      rintro e w' ⟨rfl, rfl⟩
      have e0 : srt cf [] = [] := List.eq_nil_of_length_eq_zero hlen
      rw [e0]
      exact ⟨rfl, World.ownsRow_nil _ _ _ _, rfl, rfl, rfl, Nat.le_refl _, fun _ _ _ => rfl⟩
    · have hH := holds_of_owns enc k hk l hg ht (by rw [hsz]; exact Nat.mul_le_mul_right k hcap)
      refine (hf ▸ AnyQ.slices_SortFunc L k aE zE enc hk h1 cf (swo_of G) g #[] gb 0 cap l.toArray w (fun args W => run_isGo (HC default default).1 args W) (cmpLays_of hvA hoA HC _ _ _ _) hH (Array.getElem?_eq_some_iff.1 hg).1 (by simp; omega)).mono ?_
      rintro e w' ⟨rfl, d', n, os, hp, hs, rfl⟩
      have e1 : d'.toList = srt cf l := sorted_unique_holds (swo_of G) (tot_of G hz) l.toArray d' hp hs
      have e2 : d'.size = l.length := by rw [hp.1]; simp
      refine ⟨rfl, ?_, wrote_sort enc k d' rfl⟩
      have := owns_of_sort (os := os) (n := n) enc k hk d' hb hg (by rw [e2]; exact hcap) hmax hsz
      rw [e2, e1] at this
      exact this
  refine key.mono ?_
  rintro x w' ⟨rfl, hown', hW⟩
  refine ⟨.tuple #[], .tup [], _, ι, rfl, ⟨rfl, rfl⟩, ?_, .tup _ _ rfl (by simp)⟩
  have HB := H.wrote hW hv (b' := .row el k l.length ((srt cf l).flatMap eD)) ⟨(srt cf l).flatMap enc, hown', by rw [hmap, List.length_map], fun i c u h1' h2 => ?_⟩
  · have := HB.only (h' := [(1000, .row el k l.length ((srt cf l).flatMap eD))]) fun id b hb => by
      by_cases hid : 1000 = id
      · subst hid; exact hb
      · rw [look_cons_ne _ _ hid] at hb; cases hb
    have e : Ab.only [(1000, ABlk.row el k l.length ((srt cf l).flatMap eD))] ι = ι := funext fun id => by
      unfold Ab.only
      split
      · rfl
      · rename_i hn2
        cases hi : ι id with
        | none => rfl
        | some v' =>
          obtain ⟨b, hb⟩ := H.dom id v' hi
          by_cases hid : 1000 = id
          · subst hid; exact absurd rfl hn2
          · rw [look_cons_ne _ _ hid] at hb; cases hb
    rw [e] at this
    exact this
  · rw [hmap, List.getElem?_map, h2] at h1'
    cases h1'
    obtain ⟨p, _, hp⟩ := List.mem_flatMap.1 (List.mem_of_getElem? h2)
    exact .sc u (h1 p u hp)
end
end Ab
end Go.Proofs.Ytjfmiehpncginaa

namespace Go.Proofs.Ytjfmiehpncginaa.Ab
set_option linter.unusedVariables false
open Go.RowKit Go.Builtin
theorem zeroCells_one {z : Array Value} (h : ∀ v ∈ z.toList, v.oneCell' = true) (n : Nat) : ∀ v ∈ (zeroCells z n).toList, v.oneCell' = true := by
  intro v hv
  unfold zeroCells at hv
  rw [Array.toList_map, List.mem_map] at hv
  obtain ⟨i, hi, rfl⟩ := hv
  have hi2 : i < n * z.size := by simpa using hi
  have hp : 0 < z.size := by rcases Nat.eq_zero_or_pos z.size with h0 | h0; · rw [h0] at hi2; omega
                             · exact h0
  rw [getElem!_pos z (i % z.size) (Nat.mod_lt _ hp)]
  exact h _ (by simp)
theorem zeroCells_len (z : Array Value) (n : Nat) : (zeroCells z n).toList.length = n * z.size := by simp [zeroCells]
theorem run_clearK {P : Program} (w : World) (t el ty : TypeId) (g o n cap : Nat) (cur : Array Value) (tt : TypeId) (z : Value) (hu : P.underlying t = some (.slice el)) (hz : (zeroValue el).run P w = .ok z w) (h1 : ∀ v ∈ z.cells.toList, v.oneCell' = true)
    (hg : w.heap[g]? = some (.cells cur tt (0, 0))) (hn : 0 < n) (hfit : o + n * z.cells.size ≤ cur.size) :
    (Builtin.clear_ #[t] ty #[.slice (some ⟨g, o, none⟩) n cap]).run P w = .ok (.tuple #[]) (w.setRow g (setW cur.toList o (zeroCells z.cells n).toList).toArray) := by
  obtain ⟨m, rfl⟩ : ∃ m, n = m + 1 := ⟨n - 1, by omega⟩
  have hst := run_storeCells_at P g o tt (zeroCells z.cells (m + 1)).toList 0 cur w hg (by rw [zeroCells_len]; simpa using hfit) (zeroCells_one h1 _)
  simp [Builtin.clear_, run_underlying hu, hz, hst, setW]
theorem run_clear0 {P : Program} (w : World) (t el ty : TypeId) (b : Option Addr) (cap : Nat) (hu : P.underlying t = some (.slice el)) :
    (Builtin.clear_ #[t] ty #[.slice b 0 cap]).run P w = .ok (.tuple #[]) w := by
  cases b <;> simp [Builtin.clear_, run_underlying hu]
section
variable {P : Program} {nt : Nat} {Q : Post} {e : Env} {h : Heap} {ops : Array Oper} {o : Oper} {rest : List Oper} {T : List Nat} {tab : TTab} {fuel i : Nat} {listed : Array Bool}
theorem E_clear {t el : TypeId} {te te' : TE} {d : Option Tmp} {x : Operand} {id off1 n1 n k : Nat} {cs : List Dat} (TO : TabOk P tab) (ho : o.op = .call { callee := .builtin .clear, args := #[x], argTypes := #[t] }) (hdst : o.dst = d)
    (ht : tlook tab t = some te) (hs : te.sh = .sl el) (hel : tlook tab el = some te') (hk : te'.size = k) (hz1 : te'.zero.all (·.oneCell') = true) (hz2 : te'.zero.length = te'.size) (hx : aev e x = some (.srow id off1 n1)) (hb : look h id = some (.row el k n cs))
    (h1 : off1 + n1 * k ≤ n * k) (hd : dstOk nt d = true) (hT : T.contains id = true) :
    AEff P nt T e h o (fun e' h' => ∃ zs : List Dat, zs.length = n1 * k ∧ e' = aput d (.tup []) e ∧ h' = (id, .row el k n (setW cs off1 zs)) :: h) := fun Pm F w0 pin ι a w R K Qx hK => by
  subst hk
  obtain ⟨v, hv, xs, hown, hxl, hxr⟩ := R.heap.blk _ _ hb
  have hu := (TO t te ht).slice hs
  obtain ⟨z, hz, hz3, _⟩ := (TO el te' hel).zero w
  have hzs : z.cells.size = te'.size := by rw [← Array.length_toList, hz3, hz2]
  have hzo : ∀ v ∈ z.cells.toList, v.oneCell' = true := by rw [hz3]; exact List.all_eq_true.1 hz1
  have hrx := aev_rel R.env hx
  have hcl : cs.length = n * te'.size := by rw [← hxl]; exact hown.1
  obtain ⟨ux, hux⟩ : ∃ ux, a.eval x = ux := ⟨_, rfl⟩
  rw [hux] at hrx
  cases hrx with
  | srow _ _ _ _ g1 g2 =>
    obtain ⟨b1, c1, rfl, _, k1⟩ := g2 v hv
    by_cases h0 : n1 = 0
    · subst h0
      have hrun : (execOp a.eval o).run P w = .ok (.value (.tuple #[])) w := by
        simp [execOp, ho, resolve, invoke, builtin, hux, run_clear0 w t el o.type b1 c1 hu]
      unfold Oper.wp
      rw [hrun, Oper.upon_value, hdst]
      refine hK ι _ _ _ _ ⟨[], by simp, rfl, rfl⟩ ?_ ⟨CT.refl T ι w, fun id _ v r hv hr _ => ⟨v, hv, hr⟩⟩ (put_defers _ _ _)
      refine ⟨?_, R.env.aput hd R.size (.tup _ _ rfl (by simp)), by rw [put_defers]; exact R.defers, by rw [put_size]; exact R.size⟩
      rw [setW_nil]
      refine R.heap.relook fun j => ?_
      by_cases hj2 : id = j
      · subst hj2; rw [look_cons_same, hb]
      · rw [look_cons_ne _ _ hj2]
    · obtain ⟨g, N, cap, hvv, rfl⟩ := k1 (by omega)
      rcases hown.2 with ⟨q1, _⟩ | ⟨g0, cap0, cur, q1, _, hg, q4, q5, q6, q7⟩
      · rw [hvv] at q1; cases q1
      rw [hvv] at q1; cases q1
      have hle : n * te'.size ≤ cur.size := by rw [q6]; exact Nat.mul_le_mul_right _ q4
      have hzl : (zeroCells z.cells n1).toList.length = n1 * te'.size := by rw [zeroCells_len, hzs]
      have hrun0 := run_clearK (P := P) w t el o.type g off1 n1 c1 cur el z hu hz hzo hg (by omega) (by rw [hzs]; omega)
      have hrun : (execOp a.eval o).run P w = .ok (.value (.tuple #[])) (w.setRow g (setW cur.toList off1 (zeroCells z.cells n1).toList).toArray) := by
        simp only [execOp, ho, resolve, invoke, builtin]
        simp [hux, hrun0]
      obtain ⟨hW, hnew⟩ := wrote_setRow (C' := (setW cur.toList off1 (zeroCells z.cells n1).toList).toArray) hg (v := v) (by rw [hvv]; rfl)
      have hown2 := own_set (off := off1) (news := (zeroCells z.cells n1).toList) hg hown.1 q4 q5 q6 q7 (by rw [hzl]; exact h1)
      unfold Oper.wp
      rw [hrun, Oper.upon_value, hdst]
      refine hK ι _ _ _ _ ⟨(zeroCells z.cells n1).toList.map Dat.sc, by rw [List.length_map, hzl], rfl, rfl⟩ ?_ ⟨⟨hW.os, hW.tape, hW.output, hW.size, fun r hr hne => hW.mem r hr fun he => hne id (List.contains_iff_mem.1 hT) v hv he⟩, fun id _ v r hv hr _ => ⟨v, hv, hr⟩⟩ (put_defers _ _ _)
      refine ⟨R.heap.wrote hW hv ⟨_, by rw [hvv]; exact hown2, by rw [setW_len _ _ _ (by rw [hzl, hown.1]; omega), setW_len _ _ _ (by rw [List.length_map, hzl]; omega), hxl], fun i c u h4 h5 => ?_⟩, (R.env.mono fun _ _ _ _ hv' => hv'.wrote hW hv).aput hd R.size (.tup _ _ rfl (by simp)), by rw [put_defers]; exact R.defers.ext (hW.ext hv), by rw [put_size]; exact R.size⟩
      rw [setW_get (by rw [List.length_map, hzl]; omega), List.length_map, hzl] at h4
      rw [setW_get (by rw [hzl, hown.1]; omega), hzl] at h5
      split at h4
      · rename_i hin
        rw [if_pos hin] at h5
        rw [List.getElem?_map, h5] at h4
        cases h4
        exact .sc u (zeroCells_one hzo _ u (List.mem_of_getElem? h5))
      · rename_i hin
        rw [if_neg hin] at h5
        exact (hxr _ _ _ h4 h5).ext (hW.ext hv).mem (hW.ext hv).free
theorem O_clear {t el k off1 n1 n id : Nat} {x : Operand} {cs : List Dat} (TO : TabOk P tab) (hw : awant ops e o = some true) (hdst : o.dst = none) (ho : o.op = .call { callee := .builtin .clear, args := #[x], argTypes := #[t] })
    (hel : telem tab t = some el) (hsz : tsize tab el = some k) (hok : (match tlook tab el with | some te => te.zero.all (·.oneCell') && Nat.beq te.zero.length te.size | none => false) = true) (hx : aev e x = some (.srow id off1 n1)) (hb : look h id = some (.row el k n cs)) (h1 : off1 + n1 * k ≤ n * k)
    (HK : ∀ zs : List Dat, zs.length = n1 * k → AOps P nt ops Q rest e ((id, .row el k n (setW cs off1 zs)) :: h)) : AOps P nt ops Q (o :: rest) e h := by
  obtain ⟨te, h3, h4⟩ := telem_spec hel
  obtain ⟨te', h5, rfl⟩ := tsize_spec hsz
  rw [h5] at hok
  simp only [Bool.and_eq_true] at hok
  exact O_eff (T := [id]) hw (E_clear TO ho hdst h3 h4 h5 rfl hok.1 (Nat.eq_of_beq_eq_true hok.2) hx hb h1 rfl (by simp)) fun e' h' ⟨zs, h6, h7, h8⟩ => by subst h7 h8; exact HK zs h6
theorem T_clear {t el k off1 n1 n id : Nat} {x : Operand} {cs : List Dat} (TO : TabOk P tab) (hi : ops[i]? = some o) (hw : awant ops e o = some true) (hdst : o.dst = none) (ho : o.op = .call { callee := .builtin .clear, args := #[x], argTypes := #[t] })
    (hel : telem tab t = some el) (hsz : tsize tab el = some k) (hok : (match tlook tab el with | some te => te.zero.all (·.oneCell') && Nat.beq te.zero.length te.size | none => false) = true) (hx : aev e x = some (.srow id off1 n1)) (hb : look h id = some (.row el k n cs)) (hT : T.contains id = true) (h1 : off1 + n1 * k ≤ n * k)
    (HK : ∀ zs : List Dat, zs.length = n1 * k → AAny P nt ops Q T fuel (listed.setIfInBounds i true) e ((id, .row el k n (setW cs off1 zs)) :: h)) : AAt P nt ops Q T fuel listed i e h := by
  obtain ⟨te, h3, h4⟩ := telem_spec hel
  obtain ⟨te', h5, rfl⟩ := tsize_spec hsz
  rw [h5] at hok
  simp only [Bool.and_eq_true] at hok
  exact T_eff hi hw (E_clear TO ho hdst h3 h4 h5 rfl hok.1 (Nat.eq_of_beq_eq_true hok.2) hx hb h1 rfl hT) fun e' h' ⟨zs, h6, h7, h8⟩ => by subst h7 h8; exact HK zs h6
end
end Go.Proofs.Ytjfmiehpncginaa.Ab

namespace Go.Proofs.Ytjfmiehpncginaa.Ab
set_option linter.unusedVariables false
open Go.RowKit
section
variable {P : Program} {nt : Nat} {Q : Post} {e : Env} {h : Heap} {ops : Array Oper} {o : Oper} {rest : List Oper} {T : List Nat} {tab : TTab} {fuel i : Nat} {listed : Array Bool}
theorem E_callM {f : FuncId} {args : Array Operand} {ats : Array TypeId} {cs0 cs : List AVal} {d : Option Tmp} {id j el k n el0 k0 n0 : Nat} {ds0 ds : List Dat} (ho : o.op = .call { callee := .value (.func f), args := args, argTypes := ats }) (hdst : o.dst = d) (hx : aevs e args.toList = some cs0)
    (hcs : cs.map (renV [(1000, id)]) = cs0) (hok : ∀ c ∈ cs, okV [(1000, id)] c = true) (hb : look h id = some (.row el0 k0 n0 ds0))
    (H : ACall P f cs [(1000, .row el0 k0 n0 ds0)] (fun c h' => c = .row j ∧ h' = [(j, .row el k n ds)])) (hid : Nat.blt id 1000 = true) (hd : dstOk nt d = true) (hT : T.contains id = true) :
    AEff P nt T e h o (fun e' h2 => e' = aput d (.row id) (killE id e) ∧ h2 = (id, .row el k n ds) :: killH id h) := fun Pm F w0 pin ι a w R K Qx hK => by
  have hid' : id < 1000 := by simp [Nat.blt] at hid; omega
  unfold Oper.wp
  rw [run_callA H.1 ho, Oper.upon_enter, hdst]
  have HR := R.heap
  obtain ⟨v0, hv0, hB0⟩ := HR.blk id _ hb
  let ι0 : Nat → Option Value := fun p => if p = 1000 then ι id else none
  have h0some : ∀ p v, ι0 p = some v → ∃ i, look [(1000, id)] p = some i ∧ ι i = some v := fun p v hv => by
    simp only [ι0] at hv
    split at hv
    · rename_i hp; subst hp; exact ⟨id, rfl, hv⟩
    · cases hv
  have hlk : ∀ p i, look [(1000, id)] p = some i → p = 1000 ∧ i = id := fun p i hp => by
    by_cases h1 : 1000 = p
    · subst h1; rw [look_cons_same] at hp; cases hp; exact ⟨rfl, rfl⟩
    · rw [look_cons_ne _ _ h1] at hp; cases hp
  let F' : Nat → Prop := fun r => F r ∨ ∃ i v, ι i = some v ∧ blockOf v = some r ∧ i ≠ id
  let Pm' : Nat → Prop := fun r => w.heap.size ≤ r ∨ blockOf v0 = some r
  have hFdown : ExtF w F ι w F' ι0 := ⟨fun _ _ _ => rfl, fun r _ hf => ⟨fun hc => hc.elim hf.1 fun ⟨i, v, h1, h2, _⟩ => hf.2 i v h1 h2, fun p v hv hb => by
    obtain ⟨i, _, h2⟩ := h0some p v hv
    exact hf.2 i v h2 hb⟩⟩
  have HC : HRel Pm' F' w ι0 ι0 [(1000, .row el0 k0 n0 ds0)] w := by
    refine ⟨fun p b hb2 => ?_, fun p v hv => ?_, fun p q v v' r hpq hv hv' hr => ?_, fun p v r hv hr => .inr ?_, rfl, rfl, rfl, Nat.le_refl _, fun _ _ _ => rfl, fun r hr => .inl hr, fun p v _ hv => hv, fun p v r hv hr hF' => ?_, fun r hr => ?_⟩
    · by_cases h1 : 1000 = p
      · subst h1
        rw [look_cons_same] at hb2
        cases hb2
        refine ⟨v0, by simp only [ι0, if_true]; exact hv0, ?_⟩
        obtain ⟨xs, hown, hxl, hxr⟩ := hB0
        exact ⟨xs, hown, hxl, fun i c u h3 h4 => (hxr i c u h3 h4).ext (fun _ _ _ => rfl) fun r hr hf => hFdown.free r hr hf⟩
      · rw [look_cons_ne _ _ h1] at hb2; cases hb2
    · simp only [ι0] at hv
      split at hv
      · rename_i hp; subst hp; exact ⟨_, look_cons_same _ _ _⟩
      · cases hv
    · simp only [ι0] at hv hv'
      split at hv <;> split at hv'
      · omega
      · cases hv'
      · cases hv
      · cases hv
    · simp only [ι0] at hv
      split at hv
      · rw [hv0] at hv; cases hv; exact hr
      · cases hv
    · obtain ⟨i, h1, h2⟩ := h0some p v hv
      obtain ⟨_, rfl⟩ := hlk p i h1
      rcases hF' with h3 | ⟨q, v', h3, h4, h5⟩
      · exact HR.nf _ v r h2 hr h3
      · exact HR.inj _ q v v' r (fun h => h5 h.symm) h2 h3 hr h4
    · rcases hr with h1 | ⟨q, v, h1, h2, _⟩
      · exact Nat.lt_of_lt_of_le (HR.forb r h1) HR.size
      · exact HR.lt h1 h2
  have HA : ArgsRel w F' ι0 cs (args.map a.eval) := by
    have := args_of R.env hx
    refine ⟨by rw [this.1, ← hcs, List.length_map], fun i c u h1 h2 => (this.2 i (renV [(1000, id)] c) u (by rw [← hcs, List.getElem?_map, h1]; rfl) h2).down (hok c (List.mem_of_getElem? h1)) hFdown h0some⟩
  refine (H.2 Pm' F' w ι0 ι0 _ w HC HA).mono ?_
  rintro x w' ⟨u, c, h', ι', rfl, ⟨rfl, rfl⟩, hH, hv⟩
  obtain ⟨v', hv', xs, hown, hxl, hxr⟩ := hH.blk j _ (look_cons_same _ _ _)
  have hu : u = v' := by
    cases hv with
    | row _ _ _ h3 => exact h3 v' hv'
  subst hu
  have hpm : ∀ r, blockOf u = some r → w.heap.size ≤ r ∨ ∃ v, ι id = some v ∧ blockOf v = some r := fun r hr => by
    rcases hH.pm j u r hv' hr with h1 | h1
    · exact .inl h1
    · exact .inr ⟨v0, hv0, h1⟩
  have hkeep : ∀ r, r < w.heap.size → blockOf v0 ≠ some r → w'.heap[r]? = w.heap[r]? := fun r hr hn => hH.keep r hr fun hp => by
    rcases hp with h1 | h1
    · omega
    · exact hn h1
  have TT : Touch w ι id u w' := ⟨hH.os, hH.tape, hH.output, hH.size, fun r hr hn => hkeep r hr (hn v0 hv0), hpm⟩
  refine hK _ _ _ _ _ ⟨rfl, rfl⟩ ⟨R.heap.touch TT (.inl hid') ⟨xs, hown, hxl, fun i c u2 h1 h2 => (hxr i c u2 h1 h2).ext (fun _ _ _ => rfl) fun r hr hf => ⟨fun h3 => hf.1 (.inl h3), fun q v h3 h4 => ?_⟩⟩, (R.env.killed TT.ext).aput hd R.size (.row id _ (own_one hown) fun v hv => by simp [upd] at hv; exact hv), by rw [put_defers]; exact R.defers.ext TT.ext, by rw [put_size]; exact R.size⟩ ?_ (put_defers _ _ _)
  · unfold upd at h3
    split at h3
    · cases h3; exact hf.2 j u hv' h4
    · rename_i hne; exact hf.1 (.inr ⟨q, v, h3, h4, hne⟩)
  · refine ⟨⟨hH.os, hH.tape, hH.output, hH.size, fun r hr hne => hkeep r hr (hne id (List.contains_iff_mem.1 hT) v0 hv0)⟩, fun q _ u2 r hq hr1 hlt => ?_⟩
    unfold upd at hq
    split at hq
    · rename_i hqi
      subst hqi
      cases hq
      rcases hpm r hr1 with h1 | ⟨v, h1, h2⟩
      · omega
      · exact ⟨v, h1, h2⟩
    · exact ⟨u2, hq, hr1⟩
theorem O_cM {f : FuncId} {args : Array Operand} {ats : Array TypeId} {cs0 cs : List AVal} {d id j el k n el0 k0 n0 : Nat} {ds0 ds : List Dat} (hw : awant ops e o = some true) (hdst : o.dst = some d) (hd : Nat.blt d nt = true) (ho : o.op = .call { callee := .value (.func f), args := args, argTypes := ats }) (hx : aevs e args.toList = some cs0)
    (H : ACall P f cs [(1000, .row el0 k0 n0 ds0)] (fun c h' => c = .row j ∧ h' = [(j, .row el k n ds)])) (hcs : cs.map (renV [(1000, id)]) = cs0) (hok : ∀ c ∈ cs, okV [(1000, id)] c = true) (hb : look h id = some (.row el0 k0 n0 ds0)) (hid : Nat.blt id 1000 = true)
    (HK : AOps P nt ops Q rest ((d, .row id) :: killE id e) ((id, .row el k n ds) :: killH id h)) : AOps P nt ops Q (o :: rest) e h :=
  O_eff (T := [id]) hw (E_callM (d := some d) ho hdst hx hcs hok hb H hid hd (by simp)) fun e' h' ⟨h1, h2⟩ => by subst h1 h2; exact HK
/-- The one row that was handed in, under a number of one's own. -/
theorem Wk_rename {p id el k n t : Nat} {cs : List Dat} (hid : Nat.blt id 1000 = true) (ht : look e t = some (.row p)) :
    AWk nt e [(p, .row el k n cs)] [(t, .row id)] [(id, .row el k n cs)] := fun Pm F w0 pin ι a w R => by
  have hid' : id < 1000 := by simp [Nat.blt] at hid; omega
  have H := R.heap
  obtain ⟨v, hv, xs, hown, hxl, hxr⟩ := H.blk p _ (look_cons_same _ _ _)
  have hι : ∀ i u, (fun i => if i = id then ι p else none) i = some u → i = id ∧ ι p = some u := fun i u hu => by
    dsimp only at hu
    split at hu
    · rename_i h; exact ⟨h, hu⟩
    · cases hu
  have hex : Ext w F ι w (fun i => if i = id then ι p else none) := ⟨fun _ _ _ => rfl, fun r _ hf => ⟨hf.1, fun i u hu => hf.2 p u (hι i u hu).2⟩⟩
  refine ⟨fun i => if i = id then ι p else none, ⟨fun i b hb => ?_, fun i u hu => ?_, fun i j u u' r hij hi hj => ?_, fun i u r hu => H.pm p u r (hι i u hu).2, H.os, H.tape, H.output, H.size, H.keep, H.fresh, fun i u h1 hu => ?_, fun i u r hu => H.nf p u r (hι i u hu).2, H.forb⟩, fun s c hs => ?_, R.defers.ext hex, R.size⟩
  · by_cases h1 : id = i
    · subst h1
      rw [look_cons_same] at hb
      cases hb
      exact ⟨v, by simp only [if_true]; exact hv, xs, hown, hxl, fun i c u h3 h4 => (hxr i c u h3 h4).ext (fun _ _ _ => rfl) fun r hr hf => hex.free r hr hf⟩
    · rw [look_cons_ne _ _ h1] at hb; cases hb
  · obtain ⟨rfl, _⟩ := hι i u hu
    exact ⟨_, look_cons_same _ _ _⟩
  · exact absurd ((hι i u hi).1.trans (hι j u' hj).1.symm) hij
  · obtain ⟨rfl, _⟩ := hι i u hu
    omega
  · by_cases h1 : t = s
    · subst h1
      rw [look_cons_same] at hs
      cases hs
      obtain ⟨u, hu, hr⟩ := R.env t _ ht
      refine ⟨u, hu, ?_⟩
      cases hr with
      | row _ _ g1 g2 => exact .row id u g1 fun v2 hv2 => g2 v2 (hι id v2 hv2).2
    · rw [look_cons_ne _ _ h1] at hs; cases hs
/-- Is a slice nil? It is not known, but then it holds nothing. -/
theorem run_nilEq {P : Program} {t el : TypeId} (w : World) (hu : P.underlying t = some (.slice el)) (dp : Nat) (b : Option Addr) (n c : Nat) : (Op.equalIn (dp + 1) t (.slice b n c) (.slice none 0 0)).run P w = .ok b.isNone w := by
  unfold Op.equalIn
  cases b <;> simp [run_underlying hu]
theorem E_nilEq {t u el : TypeId} {te : TE} {x : Operand} {d : Option Tmp} {cs : List Dat} {n : Nat} (TO : TabOk P tab) (ho : o.op = .binOp .eql t x (.const (.slice none 0 0)) u) (hdst : o.dst = d) (ht : tlook tab t = some te) (hs : te.sh = .sl el) (hx : aev e x = some (.d (.sl cs n))) (hd : dstOk nt d = true) :
    AEff P nt T e h o (fun e' h' => ∃ b : Bool, (b = true → cs = [] ∧ n = 0) ∧ e' = aput d (.d (.sc (.bool b))) e ∧ h' = h) := fun Pm F w0 pin ι a w R K Qx hK => by
  have hu := (TO t te ht).slice hs
  have hv := aev_rel R.env hx
  have ev : a.eval (.const (.slice none 0 0)) = .slice none 0 0 := rfl
  have key : ∃ b : Bool, (b = true → cs = [] ∧ n = 0) ∧ (execOp a.eval o).run P w = .ok (.value (.bool b)) w := by
    generalize hau : a.eval x = ux at hv
    cases hv with
    | d _ _ hD =>
      cases hD with
      | nil => exact ⟨true, fun _ => ⟨rfl, rfl⟩, by simp only [execOp, ho, hau, ev, eqGuard, binOp, Op.equal]; rw [show Op.maxDepth = 9999 + 1 from rfl]; simp [run_nilEq w hu 9999]⟩
      | sl _ _ b o2 cap vs => exact ⟨false, fun h => (by cases h), by simp only [execOp, ho, hau, ev, eqGuard, binOp, Op.equal]; rw [show Op.maxDepth = 9999 + 1 from rfl]; simp [run_nilEq w hu 9999]⟩
  obtain ⟨b, hb, hrun⟩ := key
  unfold Oper.wp
  rw [hrun, Oper.upon_value, hdst]
  refine hK ι _ _ _ _ ⟨b, hb, rfl, rfl⟩ ⟨R.heap, R.env.aput hd R.size (sc_rel rfl), by rw [put_defers]; exact R.defers, by rw [put_size]; exact R.size⟩ ⟨CT.refl T ι w, fun id _ v r hv hr _ => ⟨v, hv, hr⟩⟩ (put_defers _ _ _)
theorem O_nilEq {t u el : TypeId} {x : Operand} {d : Nat} {cs : List Dat} {n : Nat} (TO : TabOk P tab) (hw : awant ops e o = some true) (hdst : o.dst = some d) (hd : Nat.blt d nt = true) (ho : o.op = .binOp .eql t x (.const (.slice none 0 0)) u) (hel : telem tab t = some el) (hx : aev e x = some (.d (.sl cs n)))
    (HK : ∀ b : Bool, (b = true → cs = [] ∧ n = 0) → AOps P nt ops Q rest ((d, .d (.sc (.bool b))) :: e) h) : AOps P nt ops Q (o :: rest) e h := by
  obtain ⟨te, h1, h2⟩ := telem_spec hel
  exact O_eff (T := []) hw (E_nilEq (d := some d) TO ho hdst h1 h2 hx hd) fun e' h' ⟨b, h3, h4, h5⟩ => by subst h4 h5; exact HK b h3
end
end Go.Proofs.Ytjfmiehpncginaa.Ab

namespace Go.Proofs.Ytjfmiehpncginaa
set_option linter.unusedVariables false
/-! ### Plain -/
section
variable {α : Type} [DecidableEq α]
theorem dedA_snoc (y x : α) : ∀ m : List α, dedA (m ++ [y, x]) = if y = x then dedA (m ++ [y]) else dedA (m ++ [y]) ++ [x] := by
  intro m
  induction m with
  | nil => by_cases h : y = x <;> simp [dedA, h]
  | cons a m ih =>
    obtain ⟨b, r, h1⟩ : ∃ b r, m ++ [y] = b :: r := by cases m <;> simp
    have h2 : m ++ [y, x] = b :: (r ++ [x]) := by rw [show m ++ [y, x] = (m ++ [y]) ++ [x] by simp, h1]; rfl
    rw [List.cons_append, List.cons_append, h2, h1]
    rw [h2, h1] at ih
    simp only [dedA]
    rw [ih]
    by_cases hab : a = b <;> by_cases hyx : y = x <;> simp [hab, hyx]
theorem ded_take (l : List α) (k : Nat) (h1 : 1 ≤ k) (h : k < l.length) : dedA (l.take (k + 1)) = if l[k - 1] = l[k] then dedA (l.take k) else dedA (l.take k) ++ [l[k]] := by
  obtain ⟨j, rfl⟩ : ∃ j, k = j + 1 := ⟨k - 1, by omega⟩
  have e1 : l.take (j + 1 + 1) = l.take j ++ [l[j], l[j + 1]] := by
    rw [List.take_succ_eq_append_getElem h, List.take_succ_eq_append_getElem (show j < l.length by omega), List.append_assoc]
    rfl
  have e2 : l.take (j + 1) = l.take j ++ [l[j]] := List.take_succ_eq_append_getElem (show j < l.length by omega)
  rw [e1, dedA_snoc, e2]
  rfl
end
section
variable {α β : Type} {enc : α → List β} {sz : Nat}
theorem flat_take (hsz : ∀ x, (enc x).length = sz) : ∀ (l : List α) (k : Nat), (l.flatMap enc).take (k * sz) = (l.take k).flatMap enc
  | [], k => by simp
  | x :: l, 0 => by simp
  | x :: l, k + 1 => by
    rw [List.flatMap_cons, List.take_succ_cons, List.flatMap_cons, ← flat_take hsz l k, List.take_append, hsz]
    rw [List.take_of_length_le (by rw [hsz, Nat.add_mul]; omega)]
    congr 2
    rw [Nat.add_mul]; omega
theorem flat_drop (hsz : ∀ x, (enc x).length = sz) : ∀ (l : List α) (k : Nat), (l.flatMap enc).drop (k * sz) = (l.drop k).flatMap enc
  | [], k => by simp
  | x :: l, 0 => by simp
  | x :: l, k + 1 => by
    rw [List.flatMap_cons, List.drop_succ_cons, ← flat_drop hsz l k, List.drop_append, hsz]
    rw [List.drop_of_length_le (by rw [hsz, Nat.add_mul]; omega), List.nil_append]
    congr 1
    rw [Nat.add_mul]; omega
theorem flat_set (hsz : ∀ x, (enc x).length = sz) (l : List α) (k : Nat) (x : α) (hk : k < l.length) : Ab.setW (l.flatMap enc) (k * sz) (enc x) = (l.set k x).flatMap enc := by
  unfold Ab.setW
  rw [flat_take hsz, hsz]
  rw [show k * sz + sz = (k + 1) * sz by rw [Nat.add_mul]; omega, flat_drop hsz]
  rw [List.set_eq_take_append_cons_drop, if_pos hk]
  simp
end
instance : Inhabited Rte := ⟨⟨⟨0, 0⟩, 0, 0, 0, 0, [], 0, false⟩⟩
def rteV (r : Rte) : List Value := [.int .u32 r.p.a, .int .i64 r.p.b, .int .u8 r.f, .int .i64 r.d, .int .i64 r.m, .int .i64 r.t, .string ⟨⟨r.i⟩⟩, .int .u32 r.h, .bool r.x]
theorem ordR_eq' (x y : Rte) (h : ordR x y = 0) : x = y := (ordR_zero x y).1 h
section
open Go.RowKit Go.Sort Go.Lib
set_option maxRecDepth 100000
theorem insNilR (c : Value) (w : World) : Calls Try.prog 57 #[.slice none 0 0, .int .i64 0, .int .i64 0, c] w (RetS w (.tuple #[])) := by
  go_enter Try.func57, Try.ntmps57
  go_wp2_with fail
  refine wp_loop_rounds 1 ?_
  rw [rounds_succ]; go_wp2_with fail
  go_end0
  exact ⟨rfl, rfl⟩
theorem pdqNilR (c : Value) (w : World) (n : Int) : Calls Try.prog 47 #[.slice none 0 0, .int .i64 0, .int .i64 0, .int .i64 n, c] w (RetS w (.tuple #[])) := by
  go_enter Try.func47, Try.ntmps47
  go_wp2_with fail
  refine wp_loop_rounds 1 ?_
  rw [rounds_succ]; go_wp2_with fail
  refine (insNilR c _).mono ?_
  rintro e w' ⟨rfl, rfl⟩
  go_wp2_with fail
  go_end0
  exact ⟨rfl, rfl⟩
theorem sortNilR (c : Value) (w : World) : Calls Try.prog 40 #[.slice none 0 0, c] w (RetS w (.tuple #[])) := by
  have hl := fun W => Any.bits_Len (SlLaysF0.n15.bits (P := _) (ρ := _) { Try.sortRoute with }) (0 : Int) W (by omega) (by omega)
  go_enter Try.func40, Try.ntmps40
  go_wp2_with fail
  refine (hl _).mono ?_
  rintro e w' ⟨rfl, rfl⟩
  go_wp2_with fail
  refine (pdqNilR c _ _).mono ?_
  rintro e w' ⟨rfl, rfl⟩
  go_wp2_with fail
  go_end0
  exact ⟨rfl, rfl⟩
end
namespace Ab
set_option maxRecDepth 100000
open Go.RowKit Go.Lib
set_option linter.unusedSimpArgs false
attribute [local irreducible] AWp AOps AQ AYield AEff ACall AWk AAny AAt AThen AIn APost NoPanic
def rteB (l : List Rte) : ABlk := .row 36 9 l.length (l.flatMap rteD)
theorem rteEq (x y : Rte) : eqCells (rteV x) (rteV y) = some (x == y) := by
  obtain ⟨⟨a, b⟩, f, d, m, t, i, h, q⟩ := x
  obtain ⟨⟨a', b'⟩, f', d', m', t', i', h', q'⟩ := y
  simp only [rteV, eqCells, eqV, if_true, mk_toList, Bool.and_true, Option.some.injEq]
  rw [Bool.eq_iff_iff]
  simp only [Bool.and_eq_true, beq_iff_eq, Rte.mk.injEq, Pfx.mk.injEq, and_assoc]
theorem sortR_A (l : List Rte) (hn : l.length ≤ 2147483648) : ACall Try.prog 40 [.row 1000, .fn 41 []] [(1000, rteB l)] (fun c h => c = .tup [] ∧ h = [(1000, rteB (srt ordR l))]) := by
  have := sortG (α := Rte) Try.sortRoute (f := 40) (el := 36) (k := 9) rfl (by kernel_rfl) (fun W => Try.isAgg36 W) (fun W => Try.sizeOf36 W) (enc := rteV) (fun _ => rfl)
    (fun x v hv => by simp [rteV] at hv; rcases hv with rfl | rfl | rfl | rfl | rfl | rfl | rfl | rfl | rfl <;> rfl) (eA := rteA) (fun _ => rfl) (fun _ => rfl) (eD := rteD) (fun _ => rfl) good_ordR ordR_eq' (g := 41) routesCmp_A (fun w => (sortNilR _ w).mono fun e w' h => ⟨h.1, h.2.symm⟩) l hn
  unfold rteB
  rw [srt_len]
  exact this
theorem clone_A (l : List Rte) (hl : l.length ≤ 2147483648) : ACall Try.prog 39 [rtesA l] [] (fun c h => c = .row 5 ∧ h = [(5, rteB l)]) := by
  refine ACall_of tabOk Try.func39 rfl Try.ntmps39 (congrArg Array.toList Try.results39) (by kernel_rfl) rfl ?_
  have hfl : (l.flatMap rteD).length = l.length * 9 := flat_len rteD_len l
  repeat (first | refine A_seq ?_ | refine A_block ?_ | refine R_list ?_ | refine R_quiet rfl mixed (by kernel_rfl) ?_ | ((first | apply O_y rfl rfl rfl | apply Q_y rfl rfl rfl); (first | exact Y_move rfl rfl | exact Y_assign rfl rfl | exact R_index tabOk rfl rfl rfl rfl rfl rfl (by omega) | exact R_fieldi tabOk rfl rfl rfl | exact R_loadi tabOk rfl rfl rfl rfl rfl rfl rfl | exact R_len tabOk rfl rfl rfl | exact R_load tabOk rfl rfl rfl rfl rfl rfl rfl rfl rfl | exact R_field tabOk rfl rfl rfl rfl | exact Y_addn rfl rfl rfl | exact Y_subn rfl rfl rfl | exact R_cmpT rfl rfl rfl rfl | exact R_cmpF rfl rfl rfl rfl | exact Y_ibin rfl rfl rfl rfl | exact Y_extract rfl rfl rfl | exact R_lenr tabOk rfl rfl rfl rfl | exact R_lenn tabOk rfl rfl rfl | exact R_indexr tabOk rfl rfl rfl rfl rfl rfl rfl (by omega) | exact R_fielde tabOk rfl rfl rfl rfl | exact R_loade tabOk rfl rfl rfl rfl rfl rfl rfl rfl rfl | exact Y_not rfl rfl | exact Y_pick_t rfl rfl (by first | rfl | assumption) rfl | exact Y_pick_f rfl rfl (by first | rfl | assumption) rfl | exact Y_pick_b rfl rfl rfl rfl | exact R_build tabOk rfl rfl rfl rfl rfl rfl | fail)) | refine O_nil ?_ | refine Q_nil ?_ | refine X_then_normal ?_ | refine X_in_normal ?_ | refine O_box rfl rfl rfl rfl rfl rfl rfl ?_ | refine O_alloc tabOk rfl rfl rfl rfl rfl rfl ?_ | refine O_store tabOk rfl rfl rfl rfl rfl rfl rfl rfl rfl rfl rfl ?_ | refine O_slice tabOk rfl rfl rfl rfl rfl rfl rfl rfl rfl rfl rfl ?_ | refine A_ct rfl ?_ | refine A_cf rfl ?_ | refine A_skip ?_ | refine A_exit ?_ | refine A_ret ?_ | refine X_then_exit ?_ | refine X_then_ret ?_ | refine X_in_same ?_ | refine X_in_other rfl ?_ | refine X_in_ret ?_ | refine O_s rfl rfl rfl ?_ | refine Q_s rfl rfl rfl ?_ | refine O_sn rfl rfl ?_ | (refine O_nilEq tabOk rfl rfl rfl rfl rfl rfl ?_; intro b hb))
  cases b with
  | true =>
    have : l = [] := List.eq_nil_of_length_eq_zero (hb rfl).2
    subst this
    repeat (first | refine A_seq ?_ | refine A_block ?_ | refine R_list ?_ | refine R_quiet rfl mixed (by kernel_rfl) ?_ | ((first | apply O_y rfl rfl rfl | apply Q_y rfl rfl rfl); (first | exact Y_move rfl rfl | exact Y_assign rfl rfl | exact R_index tabOk rfl rfl rfl rfl rfl rfl (by omega) | exact R_fieldi tabOk rfl rfl rfl | exact R_loadi tabOk rfl rfl rfl rfl rfl rfl rfl | exact R_len tabOk rfl rfl rfl | exact R_load tabOk rfl rfl rfl rfl rfl rfl rfl rfl rfl | exact R_field tabOk rfl rfl rfl rfl | exact Y_addn rfl rfl rfl | exact Y_subn rfl rfl rfl | exact R_cmpT rfl rfl rfl rfl | exact R_cmpF rfl rfl rfl rfl | exact Y_ibin rfl rfl rfl rfl | exact Y_extract rfl rfl rfl | exact R_lenr tabOk rfl rfl rfl rfl | exact R_lenn tabOk rfl rfl rfl | exact R_indexr tabOk rfl rfl rfl rfl rfl rfl rfl (by omega) | exact R_fielde tabOk rfl rfl rfl rfl | exact R_loade tabOk rfl rfl rfl rfl rfl rfl rfl rfl rfl | exact Y_not rfl rfl | exact Y_pick_t rfl rfl (by first | rfl | assumption) rfl | exact Y_pick_f rfl rfl (by first | rfl | assumption) rfl | exact Y_pick_b rfl rfl rfl rfl | exact R_build tabOk rfl rfl rfl rfl rfl rfl | fail)) | refine O_nil ?_ | refine Q_nil ?_ | refine X_then_normal ?_ | refine X_in_normal ?_ | refine O_box rfl rfl rfl rfl rfl rfl rfl ?_ | refine O_alloc tabOk rfl rfl rfl rfl rfl rfl ?_ | refine O_store tabOk rfl rfl rfl rfl rfl rfl rfl rfl rfl rfl rfl ?_ | refine O_slice tabOk rfl rfl rfl rfl rfl rfl rfl rfl rfl rfl rfl ?_ | refine A_ct rfl ?_ | refine A_cf rfl ?_ | refine A_skip ?_ | refine A_exit ?_ | refine A_ret ?_ | refine X_then_exit ?_ | refine X_then_ret ?_ | refine X_in_same ?_ | refine X_in_other rfl ?_ | refine X_in_ret ?_ | refine O_s rfl rfl rfl ?_ | refine Q_s rfl rfl rfl ?_ | refine O_sn rfl rfl ?_ | fail)
    exact X_retW (Wk_nil 36 9 (t := 2) (id := 5) rfl rfl) rfl (h2 := [(5, rteB [])]) ⟨rfl, trivial⟩ ⟨rfl, rfl⟩
  | false =>
    repeat (first | refine A_seq ?_ | refine A_block ?_ | refine R_list ?_ | refine R_quiet rfl mixed (by kernel_rfl) ?_ | ((first | apply O_y rfl rfl rfl | apply Q_y rfl rfl rfl); (first | exact Y_move rfl rfl | exact Y_assign rfl rfl | exact R_index tabOk rfl rfl rfl rfl rfl rfl (by omega) | exact R_fieldi tabOk rfl rfl rfl | exact R_loadi tabOk rfl rfl rfl rfl rfl rfl rfl | exact R_len tabOk rfl rfl rfl | exact R_load tabOk rfl rfl rfl rfl rfl rfl rfl rfl rfl | exact R_field tabOk rfl rfl rfl rfl | exact Y_addn rfl rfl rfl | exact Y_subn rfl rfl rfl | exact R_cmpT rfl rfl rfl rfl | exact R_cmpF rfl rfl rfl rfl | exact Y_ibin rfl rfl rfl rfl | exact Y_extract rfl rfl rfl | exact R_lenr tabOk rfl rfl rfl rfl | exact R_lenn tabOk rfl rfl rfl | exact R_indexr tabOk rfl rfl rfl rfl rfl rfl rfl (by omega) | exact R_fielde tabOk rfl rfl rfl rfl | exact R_loade tabOk rfl rfl rfl rfl rfl rfl rfl rfl rfl | exact Y_not rfl rfl | exact Y_pick_t rfl rfl (by first | rfl | assumption) rfl | exact Y_pick_f rfl rfl (by first | rfl | assumption) rfl | exact Y_pick_b rfl rfl rfl rfl | exact R_build tabOk rfl rfl rfl rfl rfl rfl | fail)) | refine O_nil ?_ | refine Q_nil ?_ | refine X_then_normal ?_ | refine X_in_normal ?_ | refine O_box rfl rfl rfl rfl rfl rfl rfl ?_ | refine O_alloc tabOk rfl rfl rfl rfl rfl rfl ?_ | refine O_store tabOk rfl rfl rfl rfl rfl rfl rfl rfl rfl rfl rfl ?_ | refine O_slice tabOk rfl rfl rfl rfl rfl rfl rfl rfl rfl rfl rfl ?_ | refine A_ct rfl ?_ | refine A_cf rfl ?_ | refine A_skip ?_ | refine A_exit ?_ | refine A_ret ?_ | refine X_then_exit ?_ | refine X_then_ret ?_ | refine X_in_same ?_ | refine X_in_other rfl ?_ | refine X_in_ret ?_ | refine O_s rfl rfl rfl ?_ | refine Q_s rfl rfl rfl ?_ | refine O_sn rfl rfl ?_ | (first | refine O_slice0 tabOk rfl rfl rfl rfl rfl rfl rfl ?_ | (first | refine O_appR tabOk rfl rfl rfl rfl rfl rfl rfl rfl rfl rfl rfl (by first | exact Src.row rfl | exact Src.dat _ _ | exact Src.nil) hfl (by omega) ?_ | refine O_appN tabOk rfl rfl rfl rfl rfl rfl rfl rfl rfl rfl (by first | exact Src.row rfl | exact Src.dat _ _ | exact Src.nil) hfl (by omega) ?_)))
    exact X_retW AWk.refl rfl (h2 := [(5, rteB l)]) ⟨by rw [Nat.zero_add]; rfl, trivial⟩ ⟨rfl, rfl⟩
/-- What stands in the row while Compact goes through its end: K the first place of which the element ahead is the same, q the next place to be looked at, d the elements that stay. -/
structure Cpt (l m : List Rte) (k q : Nat) : Prop where
  len : m.length = l.length
  q1 : q ≤ l.length
  kq : k < q
  k0 : 0 < k
  front : m.take k = dedA (l.take q)
  back : ∀ i, q ≤ i + 1 → m[i]? = l[i]?
theorem cpt_next {l m : List Rte} {k q : Nat} (C : Cpt l m k q) (h : q < l.length) (he : l[q - 1]'(by omega) = l[q]) : Cpt l m k (q + 1) := by
  have := C.kq
  have := C.k0
  refine ⟨C.len, by omega, by omega, C.k0, ?_, fun i hi => C.back i (by omega)⟩
  rw [ded_take l q (by omega) h, if_pos he, C.front]
theorem cpt_put {l m : List Rte} {k q : Nat} (C : Cpt l m k q) (h : q < l.length) (he : l[q - 1]'(by omega) ≠ l[q]) : Cpt l (m.set k l[q]) (k + 1) (q + 1) := by
  have h1 := C.kq
  have h2 := C.k0
  have h3 := C.len
  refine ⟨by rw [List.length_set, h3], by omega, by omega, by omega, ?_, fun i hi => ?_⟩
  · rw [ded_take l q (by omega) h, if_neg he, ← C.front, List.take_succ_eq_append_getElem (by rw [List.length_set]; omega), List.getElem_set_self, List.take_set_of_le (Nat.le_refl _)]
  · rw [List.getElem?_set_ne (by omega)]
    exact C.back i (by omega)
theorem win_at (l : List Rte) (k : Nat) (h : k < l.length) : win (l.flatMap rteD) (k * 9) 9 = rteD l[k] := win_flat0 rteD_len l k 9 h (by decide)
theorem win_part (l : List Rte) (a b : Nat) (h : a + b < l.length) : win (l.flatMap rteD) (a * 9 + b * 9) 9 = rteD l[a + b] := by rw [← Nat.add_mul]; exact win_at l (a + b) h
set_option maxHeartbeats 8000000 in
theorem compact_A (l : List Rte) (hn : l.length ≤ 2147483648) : ACall Try.prog 42 [.row 1000] [(1000, rteB l)] (fun c h => c = .row 100 ∧ h = [(100, rteB (dedA l))]) := by
  refine ACall_of tabOk Try.func42 rfl Try.ntmps42 (congrArg Array.toList Try.results42) (by kernel_rfl) rfl ?_
  refine A_weaken (Wk_rename (id := 100) (t := 0) rfl rfl) ?_
  by_cases h2 : l.length < 2
  · have hd : dedA l = l := by match l, h2 with | [], _ => rfl | [x], _ => rfl
    rw [hd]
    repeat (first | refine A_seq ?_ | refine A_block ?_ | refine R_list ?_ | refine R_quiet rfl mixed (by kernel_rfl) ?_ | ((first | apply O_y rfl rfl rfl | apply Q_y rfl rfl rfl); (first | exact Y_move rfl rfl | exact Y_assign rfl rfl | exact R_index tabOk rfl rfl rfl rfl rfl rfl (by omega) | exact R_fieldi tabOk rfl rfl rfl | exact R_loadi tabOk rfl rfl rfl rfl rfl rfl rfl | exact R_len tabOk rfl rfl rfl | exact R_load tabOk rfl rfl rfl rfl rfl rfl rfl rfl rfl | exact R_field tabOk rfl rfl rfl rfl | exact Y_addn rfl rfl rfl | exact Y_subn rfl rfl rfl | exact R_cmpT rfl rfl rfl rfl | exact R_cmpF rfl rfl rfl rfl | exact Y_ibin rfl rfl rfl rfl | exact Y_extract rfl rfl rfl | exact R_lenr tabOk rfl rfl rfl rfl | exact R_lenn tabOk rfl rfl rfl | exact R_indexr tabOk rfl rfl rfl rfl rfl rfl rfl (by omega) | exact R_fielde tabOk rfl rfl rfl rfl | exact R_loade tabOk rfl rfl rfl rfl rfl rfl rfl rfl rfl | exact Y_not rfl rfl | exact Y_pick_t rfl rfl (by first | rfl | assumption) rfl | exact Y_pick_f rfl rfl (by first | rfl | assumption) rfl | exact Y_pick_b rfl rfl rfl rfl | exact R_build tabOk rfl rfl rfl rfl rfl rfl | fail)) | refine O_nil ?_ | refine Q_nil ?_ | refine X_then_normal ?_ | refine X_in_normal ?_ | refine O_box rfl rfl rfl rfl rfl rfl rfl ?_ | refine O_alloc tabOk rfl rfl rfl rfl rfl rfl ?_ | refine O_store tabOk rfl rfl rfl rfl rfl rfl rfl rfl rfl rfl rfl ?_ | refine O_slice tabOk rfl rfl rfl rfl rfl rfl rfl rfl rfl rfl rfl ?_ | refine A_ct rfl ?_ | refine A_cf rfl ?_ | refine A_skip ?_ | refine A_exit ?_ | refine A_ret ?_ | refine X_then_exit ?_ | refine X_then_ret ?_ | refine X_in_same ?_ | refine X_in_other rfl ?_ | refine X_in_ret ?_ | refine O_s rfl rfl rfl ?_ | refine Q_s rfl rfl rfl ?_ | refine O_sn rfl rfl ?_ | fail)
    exact X_retW AWk.refl rfl (h2 := [(100, rteB l)]) ⟨rfl, trivial⟩ ⟨rfl, rfl⟩
  ·
    repeat (first | refine A_seq ?_ | refine A_block ?_ | refine R_list ?_ | refine R_quiet rfl mixed (by kernel_rfl) ?_ | ((first | apply O_y rfl rfl rfl | apply Q_y rfl rfl rfl); (first | exact Y_move rfl rfl | exact Y_assign rfl rfl | exact R_index tabOk rfl rfl rfl rfl rfl rfl (by omega) | exact R_fieldi tabOk rfl rfl rfl | exact R_loadi tabOk rfl rfl rfl rfl rfl rfl rfl | exact R_len tabOk rfl rfl rfl | exact R_load tabOk rfl rfl rfl rfl rfl rfl rfl rfl rfl | exact R_field tabOk rfl rfl rfl rfl | exact Y_addn rfl rfl rfl | exact Y_subn rfl rfl rfl | exact R_cmpT rfl rfl rfl rfl | exact R_cmpF rfl rfl rfl rfl | exact Y_ibin rfl rfl rfl rfl | exact Y_extract rfl rfl rfl | exact R_lenr tabOk rfl rfl rfl rfl | exact R_lenn tabOk rfl rfl rfl | exact R_indexr tabOk rfl rfl rfl rfl rfl rfl rfl (by omega) | exact R_fielde tabOk rfl rfl rfl rfl | exact R_loade tabOk rfl rfl rfl rfl rfl rfl rfl rfl rfl | exact Y_not rfl rfl | exact Y_pick_t rfl rfl (by first | rfl | assumption) rfl | exact Y_pick_f rfl rfl (by first | rfl | assumption) rfl | exact Y_pick_b rfl rfl rfl rfl | exact R_build tabOk rfl rfl rfl rfl rfl rfl | fail)) | refine O_nil ?_ | refine Q_nil ?_ | refine X_then_normal ?_ | refine X_in_normal ?_ | refine O_box rfl rfl rfl rfl rfl rfl rfl ?_ | refine O_alloc tabOk rfl rfl rfl rfl rfl rfl ?_ | refine O_store tabOk rfl rfl rfl rfl rfl rfl rfl rfl rfl rfl rfl ?_ | refine O_slice tabOk rfl rfl rfl rfl rfl rfl rfl rfl rfl rfl rfl ?_ | refine A_ct rfl ?_ | refine A_cf rfl ?_ | refine A_skip ?_ | refine A_exit ?_ | refine A_ret ?_ | refine X_then_exit ?_ | refine X_then_ret ?_ | refine X_in_same ?_ | refine X_in_other rfl ?_ | refine X_in_ret ?_ | refine O_s rfl rfl rfl ?_ | refine Q_s rfl rfl rfl ?_ | refine O_sn rfl rfl ?_ | fail)
    refine A_loop (fun k : Nat => [(0, .row 100), (3, intA (k : Int))]) (fun _ => [(100, rteB l)]) (fun k => 1 ≤ k ∧ k ≤ l.length ∧ dedA (l.take k) = l.take k) (fun k => l.length - k) 1 ⟨by omega, by omega, ?_⟩ (Wk_sel ⟨rfl, rfl, trivial⟩ ⟨rfl, trivial⟩) ?_
    · match l with
      | [] => rfl
      | x :: r => rfl
    rintro k ⟨hk1, hk2, hd⟩
    dsimp only
    by_cases hlt : k < l.length
    · have hlt1 : k - 1 < l.length := by omega
      have hk' : ((k : Int) - 1) = ((k - 1 : Nat) : Int) := by omega
      have heq := rteEq l[k] l[k - 1]
      have hw0 := win_at l k hlt
      have hw1 := win_at l (k - 1) hlt1
      by_cases he : l[k] = l[k - 1]
      · rw [show (l[k] == l[k - 1]) = true by simpa using he] at heq
        repeat (first | refine A_seq ?_ | refine A_block ?_ | refine R_list ?_ | refine R_quiet rfl mixed (by kernel_rfl) ?_ | ((first | apply O_y rfl rfl rfl | apply Q_y rfl rfl rfl); (first | exact Y_move rfl rfl | exact Y_assign rfl rfl | exact R_index tabOk rfl rfl rfl rfl rfl rfl (by omega) | exact R_fieldi tabOk rfl rfl rfl | exact R_loadi tabOk rfl rfl rfl rfl rfl rfl rfl | exact R_len tabOk rfl rfl rfl | exact R_load tabOk rfl rfl rfl rfl rfl rfl rfl rfl rfl | exact R_field tabOk rfl rfl rfl rfl | exact Y_addn rfl rfl rfl | exact Y_subn rfl rfl rfl | exact R_cmpT rfl rfl rfl rfl | exact R_cmpF rfl rfl rfl rfl | exact Y_ibin rfl rfl rfl rfl | exact Y_extract rfl rfl rfl | exact R_lenr tabOk rfl rfl rfl rfl | exact R_lenn tabOk rfl rfl rfl | exact R_indexr tabOk rfl rfl rfl rfl rfl rfl rfl (by omega) | exact R_fielde tabOk rfl rfl rfl rfl | exact R_loade tabOk rfl rfl rfl rfl rfl rfl rfl rfl rfl | exact Y_not rfl rfl | exact Y_pick_t rfl rfl (by first | rfl | assumption) rfl | exact Y_pick_f rfl rfl (by first | rfl | assumption) rfl | exact Y_pick_b rfl rfl rfl rfl | exact R_build tabOk rfl rfl rfl rfl rfl rfl | (first | exact R_indexr tabOk rfl rfl rfl rfl rfl rfl hk' hlt1 | exact R_loade tabOk rfl rfl rfl rfl rfl rfl hw0 rfl rfl | exact R_loade tabOk rfl rfl rfl rfl rfl rfl hw1 rfl rfl | exact Y_eq tabOk noStand rfl rfl rfl rfl rfl rfl rfl rfl rfl (by kernel_rfl) heq rfl | exact R_rowFrom tabOk rfl rfl rfl rfl rfl rfl rfl (Nat.le_of_lt hlt)))) | refine O_nil ?_ | refine Q_nil ?_ | refine X_then_normal ?_ | refine X_in_normal ?_ | refine O_box rfl rfl rfl rfl rfl rfl rfl ?_ | refine O_alloc tabOk rfl rfl rfl rfl rfl rfl ?_ | refine O_store tabOk rfl rfl rfl rfl rfl rfl rfl rfl rfl rfl rfl ?_ | refine O_slice tabOk rfl rfl rfl rfl rfl rfl rfl rfl rfl rfl rfl ?_ | refine A_ct rfl ?_ | refine A_cf rfl ?_ | refine A_skip ?_ | refine A_exit ?_ | refine A_ret ?_ | refine X_then_exit ?_ | refine X_then_ret ?_ | refine X_in_same ?_ | refine X_in_other rfl ?_ | refine X_in_ret ?_ | refine O_s rfl rfl rfl ?_ | refine Q_s rfl rfl rfl ?_ | refine O_sn rfl rfl ?_ | fail)
        refine A_loop (fun x : Nat × Nat × List Rte => [(0, .row 100), (3, intA (x.1 : Int)), (4, .srow 100 (k * 9) (l.length - k)), (5, intA (x.2.1 : Int))]) (fun x => [(100, rteB x.2.2)]) (fun x => 1 ≤ x.2.1 ∧ Cpt l x.2.2 x.1 (k + x.2.1)) (fun x => l.length - x.2.1) (k, 1, l) ⟨Nat.le_refl _, rfl, hlt, Nat.lt_succ_self k, hk1, ?_, fun _ _ => rfl⟩ (Wk_sel ⟨rfl, rfl, rfl, rfl, trivial⟩ ⟨rfl, trivial⟩) ?_
        · rw [ded_take l k hk1 hlt, if_pos he.symm, hd]
        rintro ⟨K, j, m⟩ ⟨hj, C⟩
        dsimp only at hj C ⊢
        have c1 := C.len
        have c2 := C.q1
        have c3 := C.kq
        have c4 := C.k0
        by_cases hq : k + j < l.length
        · have hjk : j < l.length - k := by omega
          have hjk1 : j - 1 < l.length - k := by omega
          have hj' : ((j : Int) - 1) = ((j - 1 : Nat) : Int) := by omega
          have e1 : m[k + j]'(by omega) = l[k + j] := by
            have := C.back (k + j) (by omega)
            rw [List.getElem?_eq_getElem (by omega), List.getElem?_eq_getElem hq] at this
            exact Option.some.inj this
          have e2 : m[k + (j - 1)]'(by omega) = l[k + j - 1] := by
            have := C.back (k + (j - 1)) (by omega)
            rw [List.getElem?_eq_getElem (by omega), List.getElem?_eq_getElem (show k + (j - 1) < l.length by omega)] at this
            rw [Option.some.inj this]
            congr 1
            omega
          have hw2 := win_part m k j (by omega)
          have hw3 := win_part m k (j - 1) (by omega)
          rw [e1] at hw2
          rw [e2] at hw3
          have heq2 := rteEq l[k + j] l[k + j - 1]
          by_cases hs : l[k + j - 1] = l[k + j]
          · rw [show (l[k + j] == l[k + j - 1]) = true by simpa using hs.symm] at heq2
            repeat (first | refine A_seq ?_ | refine A_block ?_ | refine R_list ?_ | refine R_quiet rfl mixed (by kernel_rfl) ?_ | ((first | apply O_y rfl rfl rfl | apply Q_y rfl rfl rfl); (first | exact Y_move rfl rfl | exact Y_assign rfl rfl | exact R_index tabOk rfl rfl rfl rfl rfl rfl (by omega) | exact R_fieldi tabOk rfl rfl rfl | exact R_loadi tabOk rfl rfl rfl rfl rfl rfl rfl | exact R_len tabOk rfl rfl rfl | exact R_load tabOk rfl rfl rfl rfl rfl rfl rfl rfl rfl | exact R_field tabOk rfl rfl rfl rfl | exact Y_addn rfl rfl rfl | exact Y_subn rfl rfl rfl | exact R_cmpT rfl rfl rfl rfl | exact R_cmpF rfl rfl rfl rfl | exact Y_ibin rfl rfl rfl rfl | exact Y_extract rfl rfl rfl | exact R_lenr tabOk rfl rfl rfl rfl | exact R_lenn tabOk rfl rfl rfl | exact R_indexr tabOk rfl rfl rfl rfl rfl rfl rfl (by omega) | exact R_fielde tabOk rfl rfl rfl rfl | exact R_loade tabOk rfl rfl rfl rfl rfl rfl rfl rfl rfl | exact Y_not rfl rfl | exact Y_pick_t rfl rfl (by first | rfl | assumption) rfl | exact Y_pick_f rfl rfl (by first | rfl | assumption) rfl | exact Y_pick_b rfl rfl rfl rfl | exact R_build tabOk rfl rfl rfl rfl rfl rfl | (first | exact R_lens tabOk rfl rfl rfl rfl | exact R_indexs tabOk rfl rfl rfl rfl rfl rfl rfl hjk | exact R_indexs tabOk rfl rfl rfl rfl rfl rfl rfl hjk1 | exact R_indexs tabOk rfl rfl rfl rfl rfl rfl hj' hjk1 | exact R_loade tabOk rfl rfl rfl rfl rfl rfl hw2 rfl rfl | exact R_loade tabOk rfl rfl rfl rfl rfl rfl hw3 rfl rfl | exact Y_eq tabOk noStand rfl rfl rfl rfl rfl rfl rfl rfl rfl (by kernel_rfl) heq2 rfl))) | refine O_nil ?_ | refine Q_nil ?_ | refine X_then_normal ?_ | refine X_in_normal ?_ | refine O_box rfl rfl rfl rfl rfl rfl rfl ?_ | refine O_alloc tabOk rfl rfl rfl rfl rfl rfl ?_ | refine O_store tabOk rfl rfl rfl rfl rfl rfl rfl rfl rfl rfl rfl ?_ | refine O_slice tabOk rfl rfl rfl rfl rfl rfl rfl rfl rfl rfl rfl ?_ | refine A_ct rfl ?_ | refine A_cf rfl ?_ | refine A_skip ?_ | refine A_exit ?_ | refine A_ret ?_ | refine X_then_exit ?_ | refine X_then_ret ?_ | refine X_in_same ?_ | refine X_in_other rfl ?_ | refine X_in_ret ?_ | refine O_s rfl rfl rfl ?_ | refine Q_s rfl rfl rfl ?_ | refine O_sn rfl rfl ?_ | fail)
            exact ⟨(K, j + 1, m), ⟨by dsimp only; omega, by dsimp only; exact cpt_next C hq hs⟩, by dsimp only; omega, Wk_sel ⟨rfl, rfl, rfl, rfl, trivial⟩ ⟨rfl, trivial⟩⟩
          · rw [show (l[k + j] == l[k + j - 1]) = false by simpa using fun h => hs h.symm] at heq2
            have hKm : K < m.length := by omega
            have hfl : (m.flatMap rteD).length = m.length * 9 := flat_len rteD_len m
            repeat (first | refine A_seq ?_ | refine A_block ?_ | refine R_list ?_ | refine R_quiet rfl mixed (by kernel_rfl) ?_ | ((first | apply O_y rfl rfl rfl | apply Q_y rfl rfl rfl); (first | exact Y_move rfl rfl | exact Y_assign rfl rfl | exact R_index tabOk rfl rfl rfl rfl rfl rfl (by omega) | exact R_fieldi tabOk rfl rfl rfl | exact R_loadi tabOk rfl rfl rfl rfl rfl rfl rfl | exact R_len tabOk rfl rfl rfl | exact R_load tabOk rfl rfl rfl rfl rfl rfl rfl rfl rfl | exact R_field tabOk rfl rfl rfl rfl | exact Y_addn rfl rfl rfl | exact Y_subn rfl rfl rfl | exact R_cmpT rfl rfl rfl rfl | exact R_cmpF rfl rfl rfl rfl | exact Y_ibin rfl rfl rfl rfl | exact Y_extract rfl rfl rfl | exact R_lenr tabOk rfl rfl rfl rfl | exact R_lenn tabOk rfl rfl rfl | exact R_indexr tabOk rfl rfl rfl rfl rfl rfl rfl (by omega) | exact R_fielde tabOk rfl rfl rfl rfl | exact R_loade tabOk rfl rfl rfl rfl rfl rfl rfl rfl rfl | exact Y_not rfl rfl | exact Y_pick_t rfl rfl (by first | rfl | assumption) rfl | exact Y_pick_f rfl rfl (by first | rfl | assumption) rfl | exact Y_pick_b rfl rfl rfl rfl | exact R_build tabOk rfl rfl rfl rfl rfl rfl | (first | exact R_lens tabOk rfl rfl rfl rfl | exact R_indexs tabOk rfl rfl rfl rfl rfl rfl rfl hjk | exact R_indexs tabOk rfl rfl rfl rfl rfl rfl rfl hjk1 | exact R_indexs tabOk rfl rfl rfl rfl rfl rfl hj' hjk1 | exact R_loade tabOk rfl rfl rfl rfl rfl rfl hw2 rfl rfl | exact R_loade tabOk rfl rfl rfl rfl rfl rfl hw3 rfl rfl | exact Y_eq tabOk noStand rfl rfl rfl rfl rfl rfl rfl rfl rfl (by kernel_rfl) heq2 rfl | exact R_indexr tabOk rfl rfl rfl rfl rfl rfl rfl hKm))) | refine O_nil ?_ | refine Q_nil ?_ | refine X_then_normal ?_ | refine X_in_normal ?_ | refine O_box rfl rfl rfl rfl rfl rfl rfl ?_ | refine O_alloc tabOk rfl rfl rfl rfl rfl rfl ?_ | refine O_store tabOk rfl rfl rfl rfl rfl rfl rfl rfl rfl rfl rfl ?_ | refine O_slice tabOk rfl rfl rfl rfl rfl rfl rfl rfl rfl rfl rfl ?_ | refine A_ct rfl ?_ | refine A_cf rfl ?_ | refine A_skip ?_ | refine A_exit ?_ | refine A_ret ?_ | refine X_then_exit ?_ | refine X_then_ret ?_ | refine X_in_same ?_ | refine X_in_other rfl ?_ | refine X_in_ret ?_ | refine O_s rfl rfl rfl ?_ | refine Q_s rfl rfl rfl ?_ | refine O_sn rfl rfl ?_ | (refine O_storee tabOk rfl rfl rfl rfl rfl rfl rfl rfl rfl rfl (by rw [hfl]; omega) (by omega) ?_))
            exact ⟨(K + 1, j + 1, m.set K l[k + j]), ⟨by dsimp only; omega, by dsimp only; exact cpt_put C hq hs⟩, by dsimp only; omega, Wk_sel ⟨rfl, rfl, rfl, rfl, trivial⟩ ⟨row_eq (by dsimp only; rw [List.length_set]) (flat_set rteD_len m K l[k + j] hKm) rfl, trivial⟩⟩
        · have hK : K ≤ m.length := by omega
          have hq2 : k + j = l.length := by omega
          have hfl : (m.flatMap rteD).length = m.length * 9 := flat_len rteD_len m
          have hjl : ¬ ((j : Int) < ((l.length - k : Nat) : Int)) := by omega
          repeat (first | refine A_seq ?_ | refine A_block ?_ | refine R_list ?_ | refine R_quiet rfl mixed (by kernel_rfl) ?_ | ((first | apply O_y rfl rfl rfl | apply Q_y rfl rfl rfl); (first | exact Y_move rfl rfl | exact Y_assign rfl rfl | exact R_index tabOk rfl rfl rfl rfl rfl rfl (by omega) | exact R_fieldi tabOk rfl rfl rfl | exact R_loadi tabOk rfl rfl rfl rfl rfl rfl rfl | exact R_len tabOk rfl rfl rfl | exact R_load tabOk rfl rfl rfl rfl rfl rfl rfl rfl rfl | exact R_field tabOk rfl rfl rfl rfl | exact Y_addn rfl rfl rfl | exact Y_subn rfl rfl rfl | exact R_cmpT rfl rfl rfl rfl | exact R_cmpF rfl rfl rfl rfl | exact Y_ibin rfl rfl rfl rfl | exact Y_extract rfl rfl rfl | exact R_lenr tabOk rfl rfl rfl rfl | exact R_lenn tabOk rfl rfl rfl | exact R_indexr tabOk rfl rfl rfl rfl rfl rfl rfl (by omega) | exact R_fielde tabOk rfl rfl rfl rfl | exact R_loade tabOk rfl rfl rfl rfl rfl rfl rfl rfl rfl | exact Y_not rfl rfl | exact Y_pick_t rfl rfl (by first | rfl | assumption) rfl | exact Y_pick_f rfl rfl (by first | rfl | assumption) rfl | exact Y_pick_b rfl rfl rfl rfl | exact R_build tabOk rfl rfl rfl rfl rfl rfl | (first | exact R_lens tabOk rfl rfl rfl rfl | exact R_rowFrom tabOk rfl rfl rfl rfl rfl rfl rfl hK))) | refine O_nil ?_ | refine Q_nil ?_ | refine X_then_normal ?_ | refine X_in_normal ?_ | refine O_box rfl rfl rfl rfl rfl rfl rfl ?_ | refine O_alloc tabOk rfl rfl rfl rfl rfl rfl ?_ | refine O_store tabOk rfl rfl rfl rfl rfl rfl rfl rfl rfl rfl rfl ?_ | refine O_slice tabOk rfl rfl rfl rfl rfl rfl rfl rfl rfl rfl rfl ?_ | refine A_ct rfl ?_ | refine A_cf rfl ?_ | refine A_skip ?_ | refine A_exit ?_ | refine A_ret ?_ | refine X_then_exit ?_ | refine X_then_ret ?_ | refine X_in_same ?_ | refine X_in_other rfl ?_ | refine X_in_ret ?_ | refine O_s rfl rfl rfl ?_ | refine Q_s rfl rfl rfl ?_ | refine O_sn rfl rfl ?_ | fail)
          refine O_clear tabOk rfl rfl rfl rfl rfl rfl rfl rfl (by rw [Nat.sub_mul]; have := Nat.mul_le_mul_right 9 hK; omega) fun zs hzs => ?_
          repeat (first | refine A_seq ?_ | refine A_block ?_ | refine R_list ?_ | refine R_quiet rfl mixed (by kernel_rfl) ?_ | ((first | apply O_y rfl rfl rfl | apply Q_y rfl rfl rfl); (first | exact Y_move rfl rfl | exact Y_assign rfl rfl | exact R_index tabOk rfl rfl rfl rfl rfl rfl (by omega) | exact R_fieldi tabOk rfl rfl rfl | exact R_loadi tabOk rfl rfl rfl rfl rfl rfl rfl | exact R_len tabOk rfl rfl rfl | exact R_load tabOk rfl rfl rfl rfl rfl rfl rfl rfl rfl | exact R_field tabOk rfl rfl rfl rfl | exact Y_addn rfl rfl rfl | exact Y_subn rfl rfl rfl | exact R_cmpT rfl rfl rfl rfl | exact R_cmpF rfl rfl rfl rfl | exact Y_ibin rfl rfl rfl rfl | exact Y_extract rfl rfl rfl | exact R_lenr tabOk rfl rfl rfl rfl | exact R_lenn tabOk rfl rfl rfl | exact R_indexr tabOk rfl rfl rfl rfl rfl rfl rfl (by omega) | exact R_fielde tabOk rfl rfl rfl rfl | exact R_loade tabOk rfl rfl rfl rfl rfl rfl rfl rfl rfl | exact Y_not rfl rfl | exact Y_pick_t rfl rfl (by first | rfl | assumption) rfl | exact Y_pick_f rfl rfl (by first | rfl | assumption) rfl | exact Y_pick_b rfl rfl rfl rfl | exact R_build tabOk rfl rfl rfl rfl rfl rfl | fail)) | refine O_nil ?_ | refine Q_nil ?_ | refine X_then_normal ?_ | refine X_in_normal ?_ | refine O_box rfl rfl rfl rfl rfl rfl rfl ?_ | refine O_alloc tabOk rfl rfl rfl rfl rfl rfl ?_ | refine O_store tabOk rfl rfl rfl rfl rfl rfl rfl rfl rfl rfl rfl ?_ | refine O_slice tabOk rfl rfl rfl rfl rfl rfl rfl rfl rfl rfl rfl ?_ | refine A_ct rfl ?_ | refine A_cf rfl ?_ | refine A_skip ?_ | refine A_exit ?_ | refine A_ret ?_ | refine X_then_exit ?_ | refine X_then_ret ?_ | refine X_in_same ?_ | refine X_in_other rfl ?_ | refine X_in_ret ?_ | refine O_s rfl rfl rfl ?_ | refine Q_s rfl rfl rfl ?_ | refine O_sn rfl rfl ?_ | (refine O_rowTo tabOk rfl rfl rfl rfl rfl rfl rfl rfl rfl rfl rfl hK ?_))
          have hfr : (setW (m.flatMap rteD) (K * 9) zs).take (K * 9) = (dedA l).flatMap rteD := by
            unfold setW
            rw [List.take_append_of_le_length (by rw [List.length_append, List.length_take, hfl]; have := Nat.mul_le_mul_right 9 hK; omega), List.take_append_of_le_length (by rw [List.length_take, hfl]; have := Nat.mul_le_mul_right 9 hK; omega), List.take_take, Nat.min_self, flat_take rteD_len, C.front, hq2, List.take_length]
          have hlK : K = (dedA l).length := by
            have := congrArg List.length C.front
            rw [hq2, List.take_length, List.length_take] at this
            omega
          exact X_retW AWk.refl rfl (h2 := [(100, rteB (dedA l))]) ⟨row_eq hlK hfr rfl, trivial⟩ ⟨rfl, rfl⟩
      · rw [show (l[k] == l[k - 1]) = false by simpa using he] at heq
        repeat (first | refine A_seq ?_ | refine A_block ?_ | refine R_list ?_ | refine R_quiet rfl mixed (by kernel_rfl) ?_ | ((first | apply O_y rfl rfl rfl | apply Q_y rfl rfl rfl); (first | exact Y_move rfl rfl | exact Y_assign rfl rfl | exact R_index tabOk rfl rfl rfl rfl rfl rfl (by omega) | exact R_fieldi tabOk rfl rfl rfl | exact R_loadi tabOk rfl rfl rfl rfl rfl rfl rfl | exact R_len tabOk rfl rfl rfl | exact R_load tabOk rfl rfl rfl rfl rfl rfl rfl rfl rfl | exact R_field tabOk rfl rfl rfl rfl | exact Y_addn rfl rfl rfl | exact Y_subn rfl rfl rfl | exact R_cmpT rfl rfl rfl rfl | exact R_cmpF rfl rfl rfl rfl | exact Y_ibin rfl rfl rfl rfl | exact Y_extract rfl rfl rfl | exact R_lenr tabOk rfl rfl rfl rfl | exact R_lenn tabOk rfl rfl rfl | exact R_indexr tabOk rfl rfl rfl rfl rfl rfl rfl (by omega) | exact R_fielde tabOk rfl rfl rfl rfl | exact R_loade tabOk rfl rfl rfl rfl rfl rfl rfl rfl rfl | exact Y_not rfl rfl | exact Y_pick_t rfl rfl (by first | rfl | assumption) rfl | exact Y_pick_f rfl rfl (by first | rfl | assumption) rfl | exact Y_pick_b rfl rfl rfl rfl | exact R_build tabOk rfl rfl rfl rfl rfl rfl | (first | exact R_indexr tabOk rfl rfl rfl rfl rfl rfl hk' hlt1 | exact R_loade tabOk rfl rfl rfl rfl rfl rfl hw0 rfl rfl | exact R_loade tabOk rfl rfl rfl rfl rfl rfl hw1 rfl rfl | exact Y_eq tabOk noStand rfl rfl rfl rfl rfl rfl rfl rfl rfl (by kernel_rfl) heq rfl))) | refine O_nil ?_ | refine Q_nil ?_ | refine X_then_normal ?_ | refine X_in_normal ?_ | refine O_box rfl rfl rfl rfl rfl rfl rfl ?_ | refine O_alloc tabOk rfl rfl rfl rfl rfl rfl ?_ | refine O_store tabOk rfl rfl rfl rfl rfl rfl rfl rfl rfl rfl rfl ?_ | refine O_slice tabOk rfl rfl rfl rfl rfl rfl rfl rfl rfl rfl rfl ?_ | refine A_ct rfl ?_ | refine A_cf rfl ?_ | refine A_skip ?_ | refine A_exit ?_ | refine A_ret ?_ | refine X_then_exit ?_ | refine X_then_ret ?_ | refine X_in_same ?_ | refine X_in_other rfl ?_ | refine X_in_ret ?_ | refine O_s rfl rfl rfl ?_ | refine Q_s rfl rfl rfl ?_ | refine O_sn rfl rfl ?_ | fail)
        exact ⟨k + 1, ⟨by omega, by omega, by rw [ded_take l k hk1 hlt, if_neg fun h => he h.symm, hd, ← List.take_succ_eq_append_getElem hlt]⟩, by omega, Wk_sel ⟨rfl, rfl, trivial⟩ ⟨rfl, trivial⟩⟩
    · have : k = l.length := by omega
      subst this
      rw [List.take_length] at hd
      rw [hd]
      repeat (first | refine A_seq ?_ | refine A_block ?_ | refine R_list ?_ | refine R_quiet rfl mixed (by kernel_rfl) ?_ | ((first | apply O_y rfl rfl rfl | apply Q_y rfl rfl rfl); (first | exact Y_move rfl rfl | exact Y_assign rfl rfl | exact R_index tabOk rfl rfl rfl rfl rfl rfl (by omega) | exact R_fieldi tabOk rfl rfl rfl | exact R_loadi tabOk rfl rfl rfl rfl rfl rfl rfl | exact R_len tabOk rfl rfl rfl | exact R_load tabOk rfl rfl rfl rfl rfl rfl rfl rfl rfl | exact R_field tabOk rfl rfl rfl rfl | exact Y_addn rfl rfl rfl | exact Y_subn rfl rfl rfl | exact R_cmpT rfl rfl rfl rfl | exact R_cmpF rfl rfl rfl rfl | exact Y_ibin rfl rfl rfl rfl | exact Y_extract rfl rfl rfl | exact R_lenr tabOk rfl rfl rfl rfl | exact R_lenn tabOk rfl rfl rfl | exact R_indexr tabOk rfl rfl rfl rfl rfl rfl rfl (by omega) | exact R_fielde tabOk rfl rfl rfl rfl | exact R_loade tabOk rfl rfl rfl rfl rfl rfl rfl rfl rfl | exact Y_not rfl rfl | exact Y_pick_t rfl rfl (by first | rfl | assumption) rfl | exact Y_pick_f rfl rfl (by first | rfl | assumption) rfl | exact Y_pick_b rfl rfl rfl rfl | exact R_build tabOk rfl rfl rfl rfl rfl rfl | fail)) | refine O_nil ?_ | refine Q_nil ?_ | refine X_then_normal ?_ | refine X_in_normal ?_ | refine O_box rfl rfl rfl rfl rfl rfl rfl ?_ | refine O_alloc tabOk rfl rfl rfl rfl rfl rfl ?_ | refine O_store tabOk rfl rfl rfl rfl rfl rfl rfl rfl rfl rfl rfl ?_ | refine O_slice tabOk rfl rfl rfl rfl rfl rfl rfl rfl rfl rfl rfl ?_ | refine A_ct rfl ?_ | refine A_cf rfl ?_ | refine A_skip ?_ | refine A_exit ?_ | refine A_ret ?_ | refine X_then_exit ?_ | refine X_then_ret ?_ | refine X_in_same ?_ | refine X_in_other rfl ?_ | refine X_in_ret ?_ | refine O_s rfl rfl rfl ?_ | refine Q_s rfl rfl rfl ?_ | refine O_sn rfl rfl ?_ | fail)
      exact X_retW AWk.refl rfl (h2 := [(100, rteB l)]) ⟨rfl, trivial⟩ ⟨rfl, rfl⟩
end Ab
end Go.Proofs.Ytjfmiehpncginaa

namespace Go.Proofs.Ytjfmiehpncginaa.Ab
set_option linter.unusedVariables false
set_option maxRecDepth 100000
open Go.RowKit Go.Lib
set_option linter.unusedSimpArgs false
attribute [local irreducible] AWp AOps AQ AYield AEff ACall AWk AAny AAt AThen AIn APost NoPanic
def oneI (a b : Bool) : Int := if a then -1 else if b then 1 else 0
theorem one_A (a b : Bool) : ACall Try.prog 34 [boolA a, boolA b] [] (Just (intA (oneI a b))) := by
  refine ACall_of tabOk Try.func34 rfl Try.ntmps34 (congrArg Array.toList Try.results34) (by kernel_rfl) rfl ?_
  cases a
  · cases b
    ·
      repeat (first | refine A_seq ?_ | refine A_block ?_ | refine R_list ?_ | refine R_quiet rfl mixed (by kernel_rfl) ?_ | ((first | apply O_y rfl rfl rfl | apply Q_y rfl rfl rfl); (first | exact Y_move rfl rfl | exact Y_assign rfl rfl | exact R_index tabOk rfl rfl rfl rfl rfl rfl (by omega) | exact R_fieldi tabOk rfl rfl rfl | exact R_loadi tabOk rfl rfl rfl rfl rfl rfl rfl | exact R_len tabOk rfl rfl rfl | exact R_load tabOk rfl rfl rfl rfl rfl rfl rfl rfl rfl | exact R_field tabOk rfl rfl rfl rfl | exact Y_addn rfl rfl rfl | exact Y_subn rfl rfl rfl | exact R_cmpT rfl rfl rfl rfl | exact R_cmpF rfl rfl rfl rfl | exact Y_ibin rfl rfl rfl rfl | exact Y_extract rfl rfl rfl | exact R_lenr tabOk rfl rfl rfl rfl | exact R_lenn tabOk rfl rfl rfl | exact R_indexr tabOk rfl rfl rfl rfl rfl rfl rfl (by omega) | exact R_fielde tabOk rfl rfl rfl rfl | exact R_loade tabOk rfl rfl rfl rfl rfl rfl rfl rfl rfl | exact Y_not rfl rfl | exact Y_pick_t rfl rfl (by first | rfl | assumption) rfl | exact Y_pick_f rfl rfl (by first | rfl | assumption) rfl | exact Y_pick_b rfl rfl rfl rfl | exact R_build tabOk rfl rfl rfl rfl rfl rfl | fail)) | refine O_nil ?_ | refine Q_nil ?_ | refine X_then_normal ?_ | refine X_in_normal ?_ | refine O_box rfl rfl rfl rfl rfl rfl rfl ?_ | refine O_alloc tabOk rfl rfl rfl rfl rfl rfl ?_ | refine O_store tabOk rfl rfl rfl rfl rfl rfl rfl rfl rfl rfl rfl ?_ | refine O_slice tabOk rfl rfl rfl rfl rfl rfl rfl rfl rfl rfl rfl ?_ | refine A_ct rfl ?_ | refine A_cf rfl ?_ | refine A_skip ?_ | refine A_exit ?_ | refine A_ret ?_ | refine X_then_exit ?_ | refine X_then_ret ?_ | refine X_in_same ?_ | refine X_in_other rfl ?_ | refine X_in_ret ?_ | refine O_s rfl rfl rfl ?_ | refine Q_s rfl rfl rfl ?_ | refine O_sn rfl rfl ?_ | fail)
      exact X_ret rfl ⟨rfl, rfl⟩
    ·
      repeat (first | refine A_seq ?_ | refine A_block ?_ | refine R_list ?_ | refine R_quiet rfl mixed (by kernel_rfl) ?_ | ((first | apply O_y rfl rfl rfl | apply Q_y rfl rfl rfl); (first | exact Y_move rfl rfl | exact Y_assign rfl rfl | exact R_index tabOk rfl rfl rfl rfl rfl rfl (by omega) | exact R_fieldi tabOk rfl rfl rfl | exact R_loadi tabOk rfl rfl rfl rfl rfl rfl rfl | exact R_len tabOk rfl rfl rfl | exact R_load tabOk rfl rfl rfl rfl rfl rfl rfl rfl rfl | exact R_field tabOk rfl rfl rfl rfl | exact Y_addn rfl rfl rfl | exact Y_subn rfl rfl rfl | exact R_cmpT rfl rfl rfl rfl | exact R_cmpF rfl rfl rfl rfl | exact Y_ibin rfl rfl rfl rfl | exact Y_extract rfl rfl rfl | exact R_lenr tabOk rfl rfl rfl rfl | exact R_lenn tabOk rfl rfl rfl | exact R_indexr tabOk rfl rfl rfl rfl rfl rfl rfl (by omega) | exact R_fielde tabOk rfl rfl rfl rfl | exact R_loade tabOk rfl rfl rfl rfl rfl rfl rfl rfl rfl | exact Y_not rfl rfl | exact Y_pick_t rfl rfl (by first | rfl | assumption) rfl | exact Y_pick_f rfl rfl (by first | rfl | assumption) rfl | exact Y_pick_b rfl rfl rfl rfl | exact R_build tabOk rfl rfl rfl rfl rfl rfl | fail)) | refine O_nil ?_ | refine Q_nil ?_ | refine X_then_normal ?_ | refine X_in_normal ?_ | refine O_box rfl rfl rfl rfl rfl rfl rfl ?_ | refine O_alloc tabOk rfl rfl rfl rfl rfl rfl ?_ | refine O_store tabOk rfl rfl rfl rfl rfl rfl rfl rfl rfl rfl rfl ?_ | refine O_slice tabOk rfl rfl rfl rfl rfl rfl rfl rfl rfl rfl rfl ?_ | refine A_ct rfl ?_ | refine A_cf rfl ?_ | refine A_skip ?_ | refine A_exit ?_ | refine A_ret ?_ | refine X_then_exit ?_ | refine X_then_ret ?_ | refine X_in_same ?_ | refine X_in_other rfl ?_ | refine X_in_ret ?_ | refine O_s rfl rfl rfl ?_ | refine Q_s rfl rfl rfl ?_ | refine O_sn rfl rfl ?_ | fail)
      exact X_ret rfl ⟨rfl, rfl⟩
  ·
    repeat (first | refine A_seq ?_ | refine A_block ?_ | refine R_list ?_ | refine R_quiet rfl mixed (by kernel_rfl) ?_ | ((first | apply O_y rfl rfl rfl | apply Q_y rfl rfl rfl); (first | exact Y_move rfl rfl | exact Y_assign rfl rfl | exact R_index tabOk rfl rfl rfl rfl rfl rfl (by omega) | exact R_fieldi tabOk rfl rfl rfl | exact R_loadi tabOk rfl rfl rfl rfl rfl rfl rfl | exact R_len tabOk rfl rfl rfl | exact R_load tabOk rfl rfl rfl rfl rfl rfl rfl rfl rfl | exact R_field tabOk rfl rfl rfl rfl | exact Y_addn rfl rfl rfl | exact Y_subn rfl rfl rfl | exact R_cmpT rfl rfl rfl rfl | exact R_cmpF rfl rfl rfl rfl | exact Y_ibin rfl rfl rfl rfl | exact Y_extract rfl rfl rfl | exact R_lenr tabOk rfl rfl rfl rfl | exact R_lenn tabOk rfl rfl rfl | exact R_indexr tabOk rfl rfl rfl rfl rfl rfl rfl (by omega) | exact R_fielde tabOk rfl rfl rfl rfl | exact R_loade tabOk rfl rfl rfl rfl rfl rfl rfl rfl rfl | exact Y_not rfl rfl | exact Y_pick_t rfl rfl (by first | rfl | assumption) rfl | exact Y_pick_f rfl rfl (by first | rfl | assumption) rfl | exact Y_pick_b rfl rfl rfl rfl | exact R_build tabOk rfl rfl rfl rfl rfl rfl | fail)) | refine O_nil ?_ | refine Q_nil ?_ | refine X_then_normal ?_ | refine X_in_normal ?_ | refine O_box rfl rfl rfl rfl rfl rfl rfl ?_ | refine O_alloc tabOk rfl rfl rfl rfl rfl rfl ?_ | refine O_store tabOk rfl rfl rfl rfl rfl rfl rfl rfl rfl rfl rfl ?_ | refine O_slice tabOk rfl rfl rfl rfl rfl rfl rfl rfl rfl rfl rfl ?_ | refine A_ct rfl ?_ | refine A_cf rfl ?_ | refine A_skip ?_ | refine A_exit ?_ | refine A_ret ?_ | refine X_then_exit ?_ | refine X_then_ret ?_ | refine X_in_same ?_ | refine X_in_other rfl ?_ | refine X_in_ret ?_ | refine O_s rfl rfl rfl ?_ | refine Q_s rfl rfl rfl ?_ | refine O_sn rfl rfl ?_ | fail)
    exact X_ret rfl ⟨rfl, rfl⟩
theorem oneI_c2 (x y : Int) : oneI (decide (x < y)) (decide (x > y)) = c2 x y := by
  unfold oneI c2
  by_cases h1 : x < y
  · simp [h1]
  · by_cases h2 : y < x
    · simp [h1, h2]
    · simp [h1, h2]
theorem oneI_bytes (x y : List UInt8) : oneI (decide (compareBytes x y < 0)) (decide (0 < compareBytes x y)) = compareBytes x y := by
  rcases bytes_c2 x y with h | h | h <;> rw [h] <;> rfl
theorem oneI_cB1 (b : Bool) : oneI b false = cB false b := by cases b <;> rfl
theorem oneI_cB2 (b : Bool) : oneI false (!b) = cB true b := by cases b <;> rfl
theorem one_c2 (x y : Int) : ACall Try.prog 34 [boolA (decide (x < y)), boolA (decide (x > y))] [] (Just (intA (c2 x y))) := by
  have := one_A (decide (x < y)) (decide (x > y)); rw [oneI_c2] at this; exact this
theorem one_bytes (x y : List UInt8) : ACall Try.prog 34 [boolA (decide (compareBytes x y < 0)), boolA (decide (0 < compareBytes x y))] [] (Just (intA (compareBytes x y))) := by
  have := one_A (decide (compareBytes x y < 0)) (decide (0 < compareBytes x y)); rw [oneI_bytes] at this; exact this
theorem first_A (l : List Int) (hn : l.length ≤ 1000000) : ACall Try.prog 32 [intsA l] [] (Just (intA (firstI l))) := by
  refine ACall_of tabOk Try.func32 rfl Try.ntmps32 (congrArg Array.toList Try.results32) (by kernel_rfl) rfl ?_
  repeat (first | refine A_seq ?_ | refine A_block ?_ | refine R_list ?_ | refine R_quiet rfl mixed (by kernel_rfl) ?_ | ((first | apply O_y rfl rfl rfl | apply Q_y rfl rfl rfl); (first | exact Y_move rfl rfl | exact Y_assign rfl rfl | exact R_index tabOk rfl rfl rfl rfl rfl rfl (by omega) | exact R_fieldi tabOk rfl rfl rfl | exact R_loadi tabOk rfl rfl rfl rfl rfl rfl rfl | exact R_len tabOk rfl rfl rfl | exact R_load tabOk rfl rfl rfl rfl rfl rfl rfl rfl rfl | exact R_field tabOk rfl rfl rfl rfl | exact Y_addn rfl rfl rfl | exact Y_subn rfl rfl rfl | exact R_cmpT rfl rfl rfl rfl | exact R_cmpF rfl rfl rfl rfl | exact Y_ibin rfl rfl rfl rfl | exact Y_extract rfl rfl rfl | exact R_lenr tabOk rfl rfl rfl rfl | exact R_lenn tabOk rfl rfl rfl | exact R_indexr tabOk rfl rfl rfl rfl rfl rfl rfl (by omega) | exact R_fielde tabOk rfl rfl rfl rfl | exact R_loade tabOk rfl rfl rfl rfl rfl rfl rfl rfl rfl | exact Y_not rfl rfl | exact Y_pick_t rfl rfl (by first | rfl | assumption) rfl | exact Y_pick_f rfl rfl (by first | rfl | assumption) rfl | exact Y_pick_b rfl rfl rfl rfl | exact R_build tabOk rfl rfl rfl rfl rfl rfl | fail)) | refine O_nil ?_ | refine Q_nil ?_ | refine X_then_normal ?_ | refine X_in_normal ?_ | refine O_box rfl rfl rfl rfl rfl rfl rfl ?_ | refine O_alloc tabOk rfl rfl rfl rfl rfl rfl ?_ | refine O_store tabOk rfl rfl rfl rfl rfl rfl rfl rfl rfl rfl rfl ?_ | refine O_slice tabOk rfl rfl rfl rfl rfl rfl rfl rfl rfl rfl rfl ?_ | refine A_ct rfl ?_ | refine A_cf rfl ?_ | refine A_skip ?_ | refine A_exit ?_ | refine A_ret ?_ | refine X_then_exit ?_ | refine X_then_ret ?_ | refine X_in_same ?_ | refine X_in_other rfl ?_ | refine X_in_ret ?_ | refine O_s rfl rfl rfl ?_ | refine Q_s rfl rfl rfl ?_ | refine O_sn rfl rfl ?_ | fail)
  refine A_loop (fun k : Nat => [(0, intsA l), (3, intA (k : Int))]) (fun _ => []) (fun k => k ≤ l.length ∧ firstI l = firstI (l.drop k)) (fun k => l.length - k) 0 ⟨by omega, rfl⟩ (Wk_sel ⟨rfl, rfl, trivial⟩ trivial) ?_
  rintro k ⟨hk, he⟩
  dsimp only
  by_cases hlt : k < l.length
  · by_cases h0 : l[k] = 0
    ·
      repeat (first | refine A_seq ?_ | refine A_block ?_ | refine R_list ?_ | refine R_quiet rfl mixed (by kernel_rfl) ?_ | ((first | apply O_y rfl rfl rfl | apply Q_y rfl rfl rfl); (first | exact Y_move rfl rfl | exact Y_assign rfl rfl | exact R_index tabOk rfl rfl rfl rfl rfl rfl (by omega) | exact R_fieldi tabOk rfl rfl rfl | exact R_loadi tabOk rfl rfl rfl rfl (by first | exact win_flat0 intD_len l k _ hlt (by decide) | exact win_flat intD_len l k _ _ hlt (by decide) | exact win_flat2 intD_len l k _ _ _ hlt (by decide) | rfl) rfl rfl | exact R_len tabOk rfl rfl rfl | exact R_load tabOk rfl rfl rfl rfl rfl rfl rfl rfl rfl | exact R_field tabOk rfl rfl rfl rfl | exact Y_addn rfl rfl rfl | exact Y_subn rfl rfl rfl | exact R_cmpT rfl rfl rfl rfl | exact R_cmpF rfl rfl rfl rfl | exact Y_ibin rfl rfl rfl rfl | exact Y_extract rfl rfl rfl | exact R_lenr tabOk rfl rfl rfl rfl | exact R_lenn tabOk rfl rfl rfl | exact R_indexr tabOk rfl rfl rfl rfl rfl rfl rfl (by omega) | exact R_fielde tabOk rfl rfl rfl rfl | exact R_loade tabOk rfl rfl rfl rfl rfl rfl rfl rfl rfl | exact Y_not rfl rfl | exact Y_pick_t rfl rfl (by first | rfl | assumption) rfl | exact Y_pick_f rfl rfl (by first | rfl | assumption) rfl | exact Y_pick_b rfl rfl rfl rfl | exact R_build tabOk rfl rfl rfl rfl rfl rfl | fail)) | refine O_nil ?_ | refine Q_nil ?_ | refine X_then_normal ?_ | refine X_in_normal ?_ | refine O_box rfl rfl rfl rfl rfl rfl rfl ?_ | refine O_alloc tabOk rfl rfl rfl rfl rfl rfl ?_ | refine O_store tabOk rfl rfl rfl rfl rfl rfl rfl rfl rfl rfl rfl ?_ | refine O_slice tabOk rfl rfl rfl rfl rfl rfl rfl rfl rfl rfl rfl ?_ | refine A_ct rfl ?_ | refine A_cf rfl ?_ | refine A_skip ?_ | refine A_exit ?_ | refine A_ret ?_ | refine X_then_exit ?_ | refine X_then_ret ?_ | refine X_in_same ?_ | refine X_in_other rfl ?_ | refine X_in_ret ?_ | refine O_s rfl rfl rfl ?_ | refine Q_s rfl rfl rfl ?_ | refine O_sn rfl rfl ?_ | fail)
      exact ⟨k + 1, ⟨by omega, by rw [he, firstI_drop hlt h0]⟩, by omega, Wk_sel ⟨rfl, rfl, trivial⟩ trivial⟩
    ·
      repeat (first | refine A_seq ?_ | refine A_block ?_ | refine R_list ?_ | refine R_quiet rfl mixed (by kernel_rfl) ?_ | ((first | apply O_y rfl rfl rfl | apply Q_y rfl rfl rfl); (first | exact Y_move rfl rfl | exact Y_assign rfl rfl | exact R_index tabOk rfl rfl rfl rfl rfl rfl (by omega) | exact R_fieldi tabOk rfl rfl rfl | exact R_loadi tabOk rfl rfl rfl rfl (by first | exact win_flat0 intD_len l k _ hlt (by decide) | exact win_flat intD_len l k _ _ hlt (by decide) | exact win_flat2 intD_len l k _ _ _ hlt (by decide) | rfl) rfl rfl | exact R_len tabOk rfl rfl rfl | exact R_load tabOk rfl rfl rfl rfl rfl rfl rfl rfl rfl | exact R_field tabOk rfl rfl rfl rfl | exact Y_addn rfl rfl rfl | exact Y_subn rfl rfl rfl | exact R_cmpT rfl rfl rfl rfl | exact R_cmpF rfl rfl rfl rfl | exact Y_ibin rfl rfl rfl rfl | exact Y_extract rfl rfl rfl | exact R_lenr tabOk rfl rfl rfl rfl | exact R_lenn tabOk rfl rfl rfl | exact R_indexr tabOk rfl rfl rfl rfl rfl rfl rfl (by omega) | exact R_fielde tabOk rfl rfl rfl rfl | exact R_loade tabOk rfl rfl rfl rfl rfl rfl rfl rfl rfl | exact Y_not rfl rfl | exact Y_pick_t rfl rfl (by first | rfl | assumption) rfl | exact Y_pick_f rfl rfl (by first | rfl | assumption) rfl | exact Y_pick_b rfl rfl rfl rfl | exact R_build tabOk rfl rfl rfl rfl rfl rfl | fail)) | refine O_nil ?_ | refine Q_nil ?_ | refine X_then_normal ?_ | refine X_in_normal ?_ | refine O_box rfl rfl rfl rfl rfl rfl rfl ?_ | refine O_alloc tabOk rfl rfl rfl rfl rfl rfl ?_ | refine O_store tabOk rfl rfl rfl rfl rfl rfl rfl rfl rfl rfl rfl ?_ | refine O_slice tabOk rfl rfl rfl rfl rfl rfl rfl rfl rfl rfl rfl ?_ | refine A_ct rfl ?_ | refine A_cf rfl ?_ | refine A_skip ?_ | refine A_exit ?_ | refine A_ret ?_ | refine X_then_exit ?_ | refine X_then_ret ?_ | refine X_in_same ?_ | refine X_in_other rfl ?_ | refine X_in_ret ?_ | refine O_s rfl rfl rfl ?_ | refine Q_s rfl rfl rfl ?_ | refine O_sn rfl rfl ?_ | fail)
      exact X_ret rfl ⟨by rw [he, firstI_at hlt h0]; rfl, rfl⟩
  · have : k = l.length := by omega
    subst this
    repeat (first | refine A_seq ?_ | refine A_block ?_ | refine R_list ?_ | refine R_quiet rfl mixed (by kernel_rfl) ?_ | ((first | apply O_y rfl rfl rfl | apply Q_y rfl rfl rfl); (first | exact Y_move rfl rfl | exact Y_assign rfl rfl | exact R_index tabOk rfl rfl rfl rfl rfl rfl (by omega) | exact R_fieldi tabOk rfl rfl rfl | exact R_loadi tabOk rfl rfl rfl rfl rfl rfl rfl | exact R_len tabOk rfl rfl rfl | exact R_load tabOk rfl rfl rfl rfl rfl rfl rfl rfl rfl | exact R_field tabOk rfl rfl rfl rfl | exact Y_addn rfl rfl rfl | exact Y_subn rfl rfl rfl | exact R_cmpT rfl rfl rfl rfl | exact R_cmpF rfl rfl rfl rfl | exact Y_ibin rfl rfl rfl rfl | exact Y_extract rfl rfl rfl | exact R_lenr tabOk rfl rfl rfl rfl | exact R_lenn tabOk rfl rfl rfl | exact R_indexr tabOk rfl rfl rfl rfl rfl rfl rfl (by omega) | exact R_fielde tabOk rfl rfl rfl rfl | exact R_loade tabOk rfl rfl rfl rfl rfl rfl rfl rfl rfl | exact Y_not rfl rfl | exact Y_pick_t rfl rfl (by first | rfl | assumption) rfl | exact Y_pick_f rfl rfl (by first | rfl | assumption) rfl | exact Y_pick_b rfl rfl rfl rfl | exact R_build tabOk rfl rfl rfl rfl rfl rfl | fail)) | refine O_nil ?_ | refine Q_nil ?_ | refine X_then_normal ?_ | refine X_in_normal ?_ | refine O_box rfl rfl rfl rfl rfl rfl rfl ?_ | refine O_alloc tabOk rfl rfl rfl rfl rfl rfl ?_ | refine O_store tabOk rfl rfl rfl rfl rfl rfl rfl rfl rfl rfl rfl ?_ | refine O_slice tabOk rfl rfl rfl rfl rfl rfl rfl rfl rfl rfl rfl ?_ | refine A_ct rfl ?_ | refine A_cf rfl ?_ | refine A_skip ?_ | refine A_exit ?_ | refine A_ret ?_ | refine X_then_exit ?_ | refine X_then_ret ?_ | refine X_in_same ?_ | refine X_in_other rfl ?_ | refine X_in_ret ?_ | refine O_s rfl rfl rfl ?_ | refine Q_s rfl rfl rfl ?_ | refine O_sn rfl rfl ?_ | fail)
    exact X_ret rfl ⟨by rw [he, List.drop_length]; rfl, rfl⟩
set_option maxHeartbeats 8000000 in
theorem refPrefix_A (p q : Pfx) : ACall Try.prog 33 [pfxA p, pfxA q] [] (Just (intA (ordP p q))) := by
  have h1 := one_c2 p.a q.a
  have h2 := one_c2 p.b q.b
  have h3 := first_A [c2 p.a q.a, c2 p.b q.b] (by simp)
  rw [ordP_first] at h3
  refine ACall_of tabOk Try.func33 rfl Try.ntmps33 (congrArg Array.toList Try.results33) (by kernel_rfl) rfl ?_
  refine A_seq ?_
  refine R_list ?_
  repeat (first | refine A_seq ?_ | refine A_block ?_ | refine R_list ?_ | refine R_quiet rfl mixed (by kernel_rfl) ?_ | ((first | apply O_y rfl rfl rfl | apply Q_y rfl rfl rfl); (first | exact Y_move rfl rfl | exact Y_assign rfl rfl | exact R_index tabOk rfl rfl rfl rfl rfl rfl (by omega) | exact R_fieldi tabOk rfl rfl rfl | exact R_loadi tabOk rfl rfl rfl rfl rfl rfl rfl | exact R_len tabOk rfl rfl rfl | exact R_load tabOk rfl rfl rfl rfl rfl rfl rfl rfl rfl | exact R_field tabOk rfl rfl rfl rfl | exact Y_addn rfl rfl rfl | exact Y_subn rfl rfl rfl | exact R_cmpT rfl rfl rfl rfl | exact R_cmpF rfl rfl rfl rfl | exact Y_ibin rfl rfl rfl rfl | exact Y_extract rfl rfl rfl | exact R_lenr tabOk rfl rfl rfl rfl | exact R_lenn tabOk rfl rfl rfl | exact R_indexr tabOk rfl rfl rfl rfl rfl rfl rfl (by omega) | exact R_fielde tabOk rfl rfl rfl rfl | exact R_loade tabOk rfl rfl rfl rfl rfl rfl rfl rfl rfl | exact Y_not rfl rfl | exact Y_pick_t rfl rfl (by first | rfl | assumption) rfl | exact Y_pick_f rfl rfl (by first | rfl | assumption) rfl | exact Y_pick_b rfl rfl rfl rfl | exact R_build tabOk rfl rfl rfl rfl rfl rfl | fail)) | refine O_nil ?_ | refine Q_nil ?_ | refine X_then_normal ?_ | refine X_in_normal ?_ | refine O_box rfl rfl rfl rfl rfl rfl rfl ?_ | refine O_alloc tabOk rfl rfl rfl rfl rfl rfl ?_ | refine O_store tabOk rfl rfl rfl rfl rfl rfl rfl rfl rfl rfl rfl ?_ | refine O_slice tabOk rfl rfl rfl rfl rfl rfl rfl rfl rfl rfl rfl ?_ | refine A_ct rfl ?_ | refine A_cf rfl ?_ | refine A_skip ?_ | refine A_exit ?_ | refine A_ret ?_ | refine X_then_exit ?_ | refine X_then_ret ?_ | refine X_in_same ?_ | refine X_in_other rfl ?_ | refine X_in_ret ?_ | refine O_s rfl rfl rfl ?_ | refine Q_s rfl rfl rfl ?_ | refine O_sn rfl rfl ?_ | fail)
  refine N_begin [] mixed ?_
  (apply N_take (i := 0) rfl (by kernel_rfl) (by kernel_rfl) (by kernel_rfl) (by repeat (first | exact np_post | refine np_then ?_ | refine np_in ?_)) rfl rfl rfl; (first | exact Y_move rfl rfl | exact Y_assign rfl rfl | exact R_field tabOk rfl rfl rfl rfl | exact R_load tabOk rfl rfl rfl rfl rfl rfl rfl rfl rfl | exact Y_ibin rfl rfl rfl rfl | exact Y_sbin rfl rfl rfl rfl | exact Y_not rfl rfl | exact Y_pick_t rfl rfl rfl rfl | exact Y_pick_f rfl rfl rfl rfl))
  (apply N_take (i := 1) rfl (by kernel_rfl) (by kernel_rfl) (by kernel_rfl) (by repeat (first | exact np_post | refine np_then ?_ | refine np_in ?_)) rfl rfl rfl; (first | exact Y_move rfl rfl | exact Y_assign rfl rfl | exact R_field tabOk rfl rfl rfl rfl | exact R_load tabOk rfl rfl rfl rfl rfl rfl rfl rfl rfl | exact Y_ibin rfl rfl rfl rfl | exact Y_sbin rfl rfl rfl rfl | exact Y_not rfl rfl | exact Y_pick_t rfl rfl rfl rfl | exact Y_pick_f rfl rfl rfl rfl))
  (apply N_take (i := 2) rfl (by kernel_rfl) (by kernel_rfl) (by kernel_rfl) (by repeat (first | exact np_post | refine np_then ?_ | refine np_in ?_)) rfl rfl rfl; (first | exact Y_move rfl rfl | exact Y_assign rfl rfl | exact R_field tabOk rfl rfl rfl rfl | exact R_load tabOk rfl rfl rfl rfl rfl rfl rfl rfl rfl | exact Y_ibin rfl rfl rfl rfl | exact Y_sbin rfl rfl rfl rfl | exact Y_not rfl rfl | exact Y_pick_t rfl rfl rfl rfl | exact Y_pick_f rfl rfl rfl rfl))
  (apply N_take (i := 3) rfl (by kernel_rfl) (by kernel_rfl) (by kernel_rfl) (by repeat (first | exact np_post | refine np_then ?_ | refine np_in ?_)) rfl rfl rfl; (first | exact Y_move rfl rfl | exact Y_assign rfl rfl | exact R_field tabOk rfl rfl rfl rfl | exact R_load tabOk rfl rfl rfl rfl rfl rfl rfl rfl rfl | exact Y_ibin rfl rfl rfl rfl | exact Y_sbin rfl rfl rfl rfl | exact Y_not rfl rfl | exact Y_pick_t rfl rfl rfl rfl | exact Y_pick_f rfl rfl rfl rfl))
  (apply N_take (i := 4) rfl (by kernel_rfl) (by kernel_rfl) (by kernel_rfl) (by repeat (first | exact np_post | refine np_then ?_ | refine np_in ?_)) rfl rfl rfl; (first | exact Y_move rfl rfl | exact Y_assign rfl rfl | exact R_field tabOk rfl rfl rfl rfl | exact R_load tabOk rfl rfl rfl rfl rfl rfl rfl rfl rfl | exact Y_ibin rfl rfl rfl rfl | exact Y_sbin rfl rfl rfl rfl | exact Y_not rfl rfl | exact Y_pick_t rfl rfl rfl rfl | exact Y_pick_f rfl rfl rfl rfl))
  (apply N_take (i := 5) rfl (by kernel_rfl) (by kernel_rfl) (by kernel_rfl) (by repeat (first | exact np_post | refine np_then ?_ | refine np_in ?_)) rfl rfl rfl; (first | exact Y_move rfl rfl | exact Y_assign rfl rfl | exact R_field tabOk rfl rfl rfl rfl | exact R_load tabOk rfl rfl rfl rfl rfl rfl rfl rfl rfl | exact Y_ibin rfl rfl rfl rfl | exact Y_sbin rfl rfl rfl rfl | exact Y_not rfl rfl | exact Y_pick_t rfl rfl rfl rfl | exact Y_pick_f rfl rfl rfl rfl))
  (apply N_take (i := 6) rfl (by kernel_rfl) (by kernel_rfl) (by kernel_rfl) (by repeat (first | exact np_post | refine np_then ?_ | refine np_in ?_)) rfl rfl rfl; (first | exact Y_move rfl rfl | exact Y_assign rfl rfl | exact R_field tabOk rfl rfl rfl rfl | exact R_load tabOk rfl rfl rfl rfl rfl rfl rfl rfl rfl | exact Y_ibin rfl rfl rfl rfl | exact Y_sbin rfl rfl rfl rfl | exact Y_not rfl rfl | exact Y_pick_t rfl rfl rfl rfl | exact Y_pick_f rfl rfl rfl rfl))
  (apply N_take (i := 7) rfl (by kernel_rfl) (by kernel_rfl) (by kernel_rfl) (by repeat (first | exact np_post | refine np_then ?_ | refine np_in ?_)) rfl rfl rfl; (first | exact Y_move rfl rfl | exact Y_assign rfl rfl | exact R_field tabOk rfl rfl rfl rfl | exact R_load tabOk rfl rfl rfl rfl rfl rfl rfl rfl rfl | exact Y_ibin rfl rfl rfl rfl | exact Y_sbin rfl rfl rfl rfl | exact Y_not rfl rfl | exact Y_pick_t rfl rfl rfl rfl | exact Y_pick_f rfl rfl rfl rfl))
  (apply N_take (i := 8) rfl (by kernel_rfl) (by kernel_rfl) (by kernel_rfl) (by repeat (first | exact np_post | refine np_then ?_ | refine np_in ?_)) rfl rfl rfl; (first | exact Y_move rfl rfl | exact Y_assign rfl rfl | exact R_field tabOk rfl rfl rfl rfl | exact R_load tabOk rfl rfl rfl rfl rfl rfl rfl rfl rfl | exact Y_ibin rfl rfl rfl rfl | exact Y_sbin rfl rfl rfl rfl | exact Y_not rfl rfl | exact Y_pick_t rfl rfl rfl rfl | exact Y_pick_f rfl rfl rfl rfl))
  (apply N_take (i := 9) rfl (by kernel_rfl) (by kernel_rfl) (by kernel_rfl) (by repeat (first | exact np_post | refine np_then ?_ | refine np_in ?_)) rfl rfl rfl; (first | exact Y_move rfl rfl | exact Y_assign rfl rfl | exact R_field tabOk rfl rfl rfl rfl | exact R_load tabOk rfl rfl rfl rfl rfl rfl rfl rfl rfl | exact Y_ibin rfl rfl rfl rfl | exact Y_sbin rfl rfl rfl rfl | exact Y_not rfl rfl | exact Y_pick_t rfl rfl rfl rfl | exact Y_pick_f rfl rfl rfl rfl))
  (apply N_take (i := 11) rfl (by kernel_rfl) (by kernel_rfl) (by kernel_rfl) (by repeat (first | exact np_post | refine np_then ?_ | refine np_in ?_)) rfl rfl rfl; (first | exact Y_move rfl rfl | exact Y_assign rfl rfl | exact R_field tabOk rfl rfl rfl rfl | exact R_load tabOk rfl rfl rfl rfl rfl rfl rfl rfl rfl | exact Y_ibin rfl rfl rfl rfl | exact Y_sbin rfl rfl rfl rfl | exact Y_not rfl rfl | exact Y_pick_t rfl rfl rfl rfl | exact Y_pick_f rfl rfl rfl rfl))
  (apply N_take (i := 12) rfl (by kernel_rfl) (by kernel_rfl) (by kernel_rfl) (by repeat (first | exact np_post | refine np_then ?_ | refine np_in ?_)) rfl rfl rfl; (first | exact Y_move rfl rfl | exact Y_assign rfl rfl | exact R_field tabOk rfl rfl rfl rfl | exact R_load tabOk rfl rfl rfl rfl rfl rfl rfl rfl rfl | exact Y_ibin rfl rfl rfl rfl | exact Y_sbin rfl rfl rfl rfl | exact Y_not rfl rfl | exact Y_pick_t rfl rfl rfl rfl | exact Y_pick_f rfl rfl rfl rfl))
  (apply N_take (i := 13) rfl (by kernel_rfl) (by kernel_rfl) (by kernel_rfl) (by repeat (first | exact np_post | refine np_then ?_ | refine np_in ?_)) rfl rfl rfl; (first | exact Y_move rfl rfl | exact Y_assign rfl rfl | exact R_field tabOk rfl rfl rfl rfl | exact R_load tabOk rfl rfl rfl rfl rfl rfl rfl rfl rfl | exact Y_ibin rfl rfl rfl rfl | exact Y_sbin rfl rfl rfl rfl | exact Y_not rfl rfl | exact Y_pick_t rfl rfl rfl rfl | exact Y_pick_f rfl rfl rfl rfl))
  (apply N_take (i := 14) rfl (by kernel_rfl) (by kernel_rfl) (by kernel_rfl) (by repeat (first | exact np_post | refine np_then ?_ | refine np_in ?_)) rfl rfl rfl; (first | exact Y_move rfl rfl | exact Y_assign rfl rfl | exact R_field tabOk rfl rfl rfl rfl | exact R_load tabOk rfl rfl rfl rfl rfl rfl rfl rfl rfl | exact Y_ibin rfl rfl rfl rfl | exact Y_sbin rfl rfl rfl rfl | exact Y_not rfl rfl | exact Y_pick_t rfl rfl rfl rfl | exact Y_pick_f rfl rfl rfl rfl))
  (apply N_take (i := 15) rfl (by kernel_rfl) (by kernel_rfl) (by kernel_rfl) (by repeat (first | exact np_post | refine np_then ?_ | refine np_in ?_)) rfl rfl rfl; (first | exact Y_move rfl rfl | exact Y_assign rfl rfl | exact R_field tabOk rfl rfl rfl rfl | exact R_load tabOk rfl rfl rfl rfl rfl rfl rfl rfl rfl | exact Y_ibin rfl rfl rfl rfl | exact Y_sbin rfl rfl rfl rfl | exact Y_not rfl rfl | exact Y_pick_t rfl rfl rfl rfl | exact Y_pick_f rfl rfl rfl rfl))
  (apply N_take (i := 16) rfl (by kernel_rfl) (by kernel_rfl) (by kernel_rfl) (by repeat (first | exact np_post | refine np_then ?_ | refine np_in ?_)) rfl rfl rfl; (first | exact Y_move rfl rfl | exact Y_assign rfl rfl | exact R_field tabOk rfl rfl rfl rfl | exact R_load tabOk rfl rfl rfl rfl rfl rfl rfl rfl rfl | exact Y_ibin rfl rfl rfl rfl | exact Y_sbin rfl rfl rfl rfl | exact Y_not rfl rfl | exact Y_pick_t rfl rfl rfl rfl | exact Y_pick_f rfl rfl rfl rfl))
  (apply N_take (i := 17) rfl (by kernel_rfl) (by kernel_rfl) (by kernel_rfl) (by repeat (first | exact np_post | refine np_then ?_ | refine np_in ?_)) rfl rfl rfl; (first | exact Y_move rfl rfl | exact Y_assign rfl rfl | exact R_field tabOk rfl rfl rfl rfl | exact R_load tabOk rfl rfl rfl rfl rfl rfl rfl rfl rfl | exact Y_ibin rfl rfl rfl rfl | exact Y_sbin rfl rfl rfl rfl | exact Y_not rfl rfl | exact Y_pick_t rfl rfl rfl rfl | exact Y_pick_f rfl rfl rfl rfl))
  (apply N_take (i := 18) rfl (by kernel_rfl) (by kernel_rfl) (by kernel_rfl) (by repeat (first | exact np_post | refine np_then ?_ | refine np_in ?_)) rfl rfl rfl; (first | exact Y_move rfl rfl | exact Y_assign rfl rfl | exact R_field tabOk rfl rfl rfl rfl | exact R_load tabOk rfl rfl rfl rfl rfl rfl rfl rfl rfl | exact Y_ibin rfl rfl rfl rfl | exact Y_sbin rfl rfl rfl rfl | exact Y_not rfl rfl | exact Y_pick_t rfl rfl rfl rfl | exact Y_pick_f rfl rfl rfl rfl))
  (apply N_take (i := 19) rfl (by kernel_rfl) (by kernel_rfl) (by kernel_rfl) (by repeat (first | exact np_post | refine np_then ?_ | refine np_in ?_)) rfl rfl rfl; (first | exact Y_move rfl rfl | exact Y_assign rfl rfl | exact R_field tabOk rfl rfl rfl rfl | exact R_load tabOk rfl rfl rfl rfl rfl rfl rfl rfl rfl | exact Y_ibin rfl rfl rfl rfl | exact Y_sbin rfl rfl rfl rfl | exact Y_not rfl rfl | exact Y_pick_t rfl rfl rfl rfl | exact Y_pick_f rfl rfl rfl rfl))
  (apply N_take (i := 20) rfl (by kernel_rfl) (by kernel_rfl) (by kernel_rfl) (by repeat (first | exact np_post | refine np_then ?_ | refine np_in ?_)) rfl rfl rfl; (first | exact Y_move rfl rfl | exact Y_assign rfl rfl | exact R_field tabOk rfl rfl rfl rfl | exact R_load tabOk rfl rfl rfl rfl rfl rfl rfl rfl rfl | exact Y_ibin rfl rfl rfl rfl | exact Y_sbin rfl rfl rfl rfl | exact Y_not rfl rfl | exact Y_pick_t rfl rfl rfl rfl | exact Y_pick_f rfl rfl rfl rfl))
  refine N_one (j := 10) (by kernel_rfl) ?_
  refine T_call rfl rfl rfl rfl rfl rfl h1 (fun _ => rfl) ?_
  refine N_one (j := 21) (by kernel_rfl) ?_
  refine T_call rfl rfl rfl rfl rfl rfl h2 (fun _ => rfl) ?_
  refine N_one (j := 22) (by kernel_rfl) ?_
  refine T_slice tabOk rfl rfl rfl rfl rfl rfl rfl rfl rfl rfl rfl rfl ?_
  refine N_one (j := 23) (by kernel_rfl) ?_
  refine T_cL rfl rfl rfl rfl rfl rfl h3 rfl (fun _ _ _ => val_mk _ _ _ _ _ rfl rfl) ?_
  (apply N_take (i := 24) rfl (by kernel_rfl) (by kernel_rfl) (by kernel_rfl) (by repeat (first | exact np_post | refine np_then ?_ | refine np_in ?_)) rfl rfl rfl; (first | exact Y_move rfl rfl | exact Y_assign rfl rfl | exact R_field tabOk rfl rfl rfl rfl | exact R_load tabOk rfl rfl rfl rfl rfl rfl rfl rfl rfl | exact Y_ibin rfl rfl rfl rfl | exact Y_sbin rfl rfl rfl rfl | exact Y_not rfl rfl | exact Y_pick_t rfl rfl rfl rfl | exact Y_pick_f rfl rfl rfl rfl))
  refine N_done (by kernel_rfl) ?_
  repeat (first | refine A_seq ?_ | refine A_block ?_ | refine R_list ?_ | refine R_quiet rfl mixed (by kernel_rfl) ?_ | ((first | apply O_y rfl rfl rfl | apply Q_y rfl rfl rfl); (first | exact Y_move rfl rfl | exact Y_assign rfl rfl | exact R_index tabOk rfl rfl rfl rfl rfl rfl (by omega) | exact R_fieldi tabOk rfl rfl rfl | exact R_loadi tabOk rfl rfl rfl rfl rfl rfl rfl | exact R_len tabOk rfl rfl rfl | exact R_load tabOk rfl rfl rfl rfl rfl rfl rfl rfl rfl | exact R_field tabOk rfl rfl rfl rfl | exact Y_addn rfl rfl rfl | exact Y_subn rfl rfl rfl | exact R_cmpT rfl rfl rfl rfl | exact R_cmpF rfl rfl rfl rfl | exact Y_ibin rfl rfl rfl rfl | exact Y_extract rfl rfl rfl | exact R_lenr tabOk rfl rfl rfl rfl | exact R_lenn tabOk rfl rfl rfl | exact R_indexr tabOk rfl rfl rfl rfl rfl rfl rfl (by omega) | exact R_fielde tabOk rfl rfl rfl rfl | exact R_loade tabOk rfl rfl rfl rfl rfl rfl rfl rfl rfl | exact Y_not rfl rfl | exact Y_pick_t rfl rfl (by first | rfl | assumption) rfl | exact Y_pick_f rfl rfl (by first | rfl | assumption) rfl | exact Y_pick_b rfl rfl rfl rfl | exact R_build tabOk rfl rfl rfl rfl rfl rfl | fail)) | refine O_nil ?_ | refine Q_nil ?_ | refine X_then_normal ?_ | refine X_in_normal ?_ | refine O_box rfl rfl rfl rfl rfl rfl rfl ?_ | refine O_alloc tabOk rfl rfl rfl rfl rfl rfl ?_ | refine O_store tabOk rfl rfl rfl rfl rfl rfl rfl rfl rfl rfl rfl ?_ | refine O_slice tabOk rfl rfl rfl rfl rfl rfl rfl rfl rfl rfl rfl ?_ | refine A_ct rfl ?_ | refine A_cf rfl ?_ | refine A_skip ?_ | refine A_exit ?_ | refine A_ret ?_ | refine X_then_exit ?_ | refine X_then_ret ?_ | refine X_in_same ?_ | refine X_in_other rfl ?_ | refine X_in_ret ?_ | refine O_s rfl rfl rfl ?_ | refine Q_s rfl rfl rfl ?_ | refine O_sn rfl rfl ?_ | fail)
  exact X_ret rfl ⟨rfl, rfl⟩
set_option maxHeartbeats 4000000 in
theorem refSame_A (l m : List Rte) (hn : l.length ≤ 1000000) : ACall Try.prog 12 [rtesA l, rtesA m] [] (Just (boolA (decide (l = m)))) := by
  refine ACall_of tabOk Try.func12 rfl Try.ntmps12 (congrArg Array.toList Try.results12) (by kernel_rfl) rfl ?_
  by_cases hl : l.length = m.length
  ·
    repeat (first | refine A_seq ?_ | refine A_block ?_ | refine R_list ?_ | refine R_quiet rfl mixed (by kernel_rfl) ?_ | ((first | apply O_y rfl rfl rfl | apply Q_y rfl rfl rfl); (first | exact Y_move rfl rfl | exact Y_assign rfl rfl | exact R_index tabOk rfl rfl rfl rfl rfl rfl (by omega) | exact R_fieldi tabOk rfl rfl rfl | exact R_loadi tabOk rfl rfl rfl rfl rfl rfl rfl | exact R_len tabOk rfl rfl rfl | exact R_load tabOk rfl rfl rfl rfl rfl rfl rfl rfl rfl | exact R_field tabOk rfl rfl rfl rfl | exact Y_addn rfl rfl rfl | exact Y_subn rfl rfl rfl | exact R_cmpT rfl rfl rfl rfl | exact R_cmpF rfl rfl rfl rfl | exact Y_ibin rfl rfl rfl rfl | exact Y_extract rfl rfl rfl | exact R_lenr tabOk rfl rfl rfl rfl | exact R_lenn tabOk rfl rfl rfl | exact R_indexr tabOk rfl rfl rfl rfl rfl rfl rfl (by omega) | exact R_fielde tabOk rfl rfl rfl rfl | exact R_loade tabOk rfl rfl rfl rfl rfl rfl rfl rfl rfl | exact Y_not rfl rfl | exact Y_pick_t rfl rfl (by first | rfl | assumption) rfl | exact Y_pick_f rfl rfl (by first | rfl | assumption) rfl | exact Y_pick_b rfl rfl rfl rfl | exact R_build tabOk rfl rfl rfl rfl rfl rfl | fail)) | refine O_nil ?_ | refine Q_nil ?_ | refine X_then_normal ?_ | refine X_in_normal ?_ | refine O_box rfl rfl rfl rfl rfl rfl rfl ?_ | refine O_alloc tabOk rfl rfl rfl rfl rfl rfl ?_ | refine O_store tabOk rfl rfl rfl rfl rfl rfl rfl rfl rfl rfl rfl ?_ | refine O_slice tabOk rfl rfl rfl rfl rfl rfl rfl rfl rfl rfl rfl ?_ | refine A_ct rfl ?_ | refine A_cf rfl ?_ | refine A_skip ?_ | refine A_exit ?_ | refine A_ret ?_ | refine X_then_exit ?_ | refine X_then_ret ?_ | refine X_in_same ?_ | refine X_in_other rfl ?_ | refine X_in_ret ?_ | refine O_s rfl rfl rfl ?_ | refine Q_s rfl rfl rfl ?_ | refine O_sn rfl rfl ?_ | fail)
    refine A_loop (fun k : Nat => [(0, rtesA l), (1, rtesA m), (5, intA (k : Int))]) (fun _ => []) (fun k => k ≤ l.length ∧ l.take k = m.take k) (fun k => l.length - k) 0 ⟨Nat.zero_le _, rfl⟩ (Wk_sel ⟨rfl, rfl, rfl, trivial⟩ trivial) ?_
    rintro k ⟨hk, he⟩
    dsimp only
    by_cases hlt : k < l.length
    · have hlm : k < m.length := by omega
      have heq := rteEq l[k] m[k]
      have hw0 := win_at l k hlt
      have hw1 := win_at m k hlm
      by_cases hx : l[k] = m[k]
      · rw [show (l[k] == m[k]) = true by simpa using hx] at heq
        repeat (first | refine A_seq ?_ | refine A_block ?_ | refine R_list ?_ | refine R_quiet rfl mixed (by kernel_rfl) ?_ | ((first | apply O_y rfl rfl rfl | apply Q_y rfl rfl rfl); (first | exact Y_move rfl rfl | exact Y_assign rfl rfl | exact R_index tabOk rfl rfl rfl rfl rfl rfl (by omega) | exact R_fieldi tabOk rfl rfl rfl | exact R_loadi tabOk rfl rfl rfl rfl hw0 rfl rfl | exact R_len tabOk rfl rfl rfl | exact R_load tabOk rfl rfl rfl rfl rfl rfl rfl rfl rfl | exact R_field tabOk rfl rfl rfl rfl | exact Y_addn rfl rfl rfl | exact Y_subn rfl rfl rfl | exact R_cmpT rfl rfl rfl rfl | exact R_cmpF rfl rfl rfl rfl | exact Y_ibin rfl rfl rfl rfl | exact Y_extract rfl rfl rfl | exact R_lenr tabOk rfl rfl rfl rfl | exact R_lenn tabOk rfl rfl rfl | exact R_indexr tabOk rfl rfl rfl rfl rfl rfl rfl (by omega) | exact R_fielde tabOk rfl rfl rfl rfl | exact R_loade tabOk rfl rfl rfl rfl rfl rfl rfl rfl rfl | exact Y_not rfl rfl | exact Y_pick_t rfl rfl (by first | rfl | assumption) rfl | exact Y_pick_f rfl rfl (by first | rfl | assumption) rfl | exact Y_pick_b rfl rfl rfl rfl | exact R_build tabOk rfl rfl rfl rfl rfl rfl | (first | exact R_loadi tabOk rfl rfl rfl rfl hw1 rfl rfl | exact Y_eq tabOk noStand rfl rfl rfl rfl rfl rfl rfl rfl rfl (by kernel_rfl) heq rfl))) | refine O_nil ?_ | refine Q_nil ?_ | refine X_then_normal ?_ | refine X_in_normal ?_ | refine O_box rfl rfl rfl rfl rfl rfl rfl ?_ | refine O_alloc tabOk rfl rfl rfl rfl rfl rfl ?_ | refine O_store tabOk rfl rfl rfl rfl rfl rfl rfl rfl rfl rfl rfl ?_ | refine O_slice tabOk rfl rfl rfl rfl rfl rfl rfl rfl rfl rfl rfl ?_ | refine A_ct rfl ?_ | refine A_cf rfl ?_ | refine A_skip ?_ | refine A_exit ?_ | refine A_ret ?_ | refine X_then_exit ?_ | refine X_then_ret ?_ | refine X_in_same ?_ | refine X_in_other rfl ?_ | refine X_in_ret ?_ | refine O_s rfl rfl rfl ?_ | refine Q_s rfl rfl rfl ?_ | refine O_sn rfl rfl ?_ | fail)
        exact ⟨k + 1, ⟨by omega, by rw [List.take_succ_eq_append_getElem hlt, List.take_succ_eq_append_getElem hlm, he, hx]⟩, by omega, Wk_sel ⟨rfl, rfl, rfl, trivial⟩ trivial⟩
      · rw [show (l[k] == m[k]) = false by simpa using hx] at heq
        have hne : ¬ l = m := fun h => hx (by subst h; rfl)
        rw [show decide (l = m) = false by simpa using hne]
        repeat (first | refine A_seq ?_ | refine A_block ?_ | refine R_list ?_ | refine R_quiet rfl mixed (by kernel_rfl) ?_ | ((first | apply O_y rfl rfl rfl | apply Q_y rfl rfl rfl); (first | exact Y_move rfl rfl | exact Y_assign rfl rfl | exact R_index tabOk rfl rfl rfl rfl rfl rfl (by omega) | exact R_fieldi tabOk rfl rfl rfl | exact R_loadi tabOk rfl rfl rfl rfl hw0 rfl rfl | exact R_len tabOk rfl rfl rfl | exact R_load tabOk rfl rfl rfl rfl rfl rfl rfl rfl rfl | exact R_field tabOk rfl rfl rfl rfl | exact Y_addn rfl rfl rfl | exact Y_subn rfl rfl rfl | exact R_cmpT rfl rfl rfl rfl | exact R_cmpF rfl rfl rfl rfl | exact Y_ibin rfl rfl rfl rfl | exact Y_extract rfl rfl rfl | exact R_lenr tabOk rfl rfl rfl rfl | exact R_lenn tabOk rfl rfl rfl | exact R_indexr tabOk rfl rfl rfl rfl rfl rfl rfl (by omega) | exact R_fielde tabOk rfl rfl rfl rfl | exact R_loade tabOk rfl rfl rfl rfl rfl rfl rfl rfl rfl | exact Y_not rfl rfl | exact Y_pick_t rfl rfl (by first | rfl | assumption) rfl | exact Y_pick_f rfl rfl (by first | rfl | assumption) rfl | exact Y_pick_b rfl rfl rfl rfl | exact R_build tabOk rfl rfl rfl rfl rfl rfl | (first | exact R_loadi tabOk rfl rfl rfl rfl hw1 rfl rfl | exact Y_eq tabOk noStand rfl rfl rfl rfl rfl rfl rfl rfl rfl (by kernel_rfl) heq rfl))) | refine O_nil ?_ | refine Q_nil ?_ | refine X_then_normal ?_ | refine X_in_normal ?_ | refine O_box rfl rfl rfl rfl rfl rfl rfl ?_ | refine O_alloc tabOk rfl rfl rfl rfl rfl rfl ?_ | refine O_store tabOk rfl rfl rfl rfl rfl rfl rfl rfl rfl rfl rfl ?_ | refine O_slice tabOk rfl rfl rfl rfl rfl rfl rfl rfl rfl rfl rfl ?_ | refine A_ct rfl ?_ | refine A_cf rfl ?_ | refine A_skip ?_ | refine A_exit ?_ | refine A_ret ?_ | refine X_then_exit ?_ | refine X_then_ret ?_ | refine X_in_same ?_ | refine X_in_other rfl ?_ | refine X_in_ret ?_ | refine O_s rfl rfl rfl ?_ | refine Q_s rfl rfl rfl ?_ | refine O_sn rfl rfl ?_ | fail)
        exact X_ret rfl ⟨rfl, rfl⟩
    · have hkk : k = l.length := by omega
      subst hkk
      rw [List.take_length, hl, List.take_length] at he
      rw [show decide (l = m) = true by simpa using he]
      repeat (first | refine A_seq ?_ | refine A_block ?_ | refine R_list ?_ | refine R_quiet rfl mixed (by kernel_rfl) ?_ | ((first | apply O_y rfl rfl rfl | apply Q_y rfl rfl rfl); (first | exact Y_move rfl rfl | exact Y_assign rfl rfl | exact R_index tabOk rfl rfl rfl rfl rfl rfl (by omega) | exact R_fieldi tabOk rfl rfl rfl | exact R_loadi tabOk rfl rfl rfl rfl rfl rfl rfl | exact R_len tabOk rfl rfl rfl | exact R_load tabOk rfl rfl rfl rfl rfl rfl rfl rfl rfl | exact R_field tabOk rfl rfl rfl rfl | exact Y_addn rfl rfl rfl | exact Y_subn rfl rfl rfl | exact R_cmpT rfl rfl rfl rfl | exact R_cmpF rfl rfl rfl rfl | exact Y_ibin rfl rfl rfl rfl | exact Y_extract rfl rfl rfl | exact R_lenr tabOk rfl rfl rfl rfl | exact R_lenn tabOk rfl rfl rfl | exact R_indexr tabOk rfl rfl rfl rfl rfl rfl rfl (by omega) | exact R_fielde tabOk rfl rfl rfl rfl | exact R_loade tabOk rfl rfl rfl rfl rfl rfl rfl rfl rfl | exact Y_not rfl rfl | exact Y_pick_t rfl rfl (by first | rfl | assumption) rfl | exact Y_pick_f rfl rfl (by first | rfl | assumption) rfl | exact Y_pick_b rfl rfl rfl rfl | exact R_build tabOk rfl rfl rfl rfl rfl rfl | fail)) | refine O_nil ?_ | refine Q_nil ?_ | refine X_then_normal ?_ | refine X_in_normal ?_ | refine O_box rfl rfl rfl rfl rfl rfl rfl ?_ | refine O_alloc tabOk rfl rfl rfl rfl rfl rfl ?_ | refine O_store tabOk rfl rfl rfl rfl rfl rfl rfl rfl rfl rfl rfl ?_ | refine O_slice tabOk rfl rfl rfl rfl rfl rfl rfl rfl rfl rfl rfl ?_ | refine A_ct rfl ?_ | refine A_cf rfl ?_ | refine A_skip ?_ | refine A_exit ?_ | refine A_ret ?_ | refine X_then_exit ?_ | refine X_then_ret ?_ | refine X_in_same ?_ | refine X_in_other rfl ?_ | refine X_in_ret ?_ | refine O_s rfl rfl rfl ?_ | refine Q_s rfl rfl rfl ?_ | refine O_sn rfl rfl ?_ | fail)
      exact X_ret rfl ⟨rfl, rfl⟩
  · rw [show decide (l = m) = false by simpa using fun h => hl (by rw [h])]
    repeat (first | refine A_seq ?_ | refine A_block ?_ | refine R_list ?_ | refine R_quiet rfl mixed (by kernel_rfl) ?_ | ((first | apply O_y rfl rfl rfl | apply Q_y rfl rfl rfl); (first | exact Y_move rfl rfl | exact Y_assign rfl rfl | exact R_index tabOk rfl rfl rfl rfl rfl rfl (by omega) | exact R_fieldi tabOk rfl rfl rfl | exact R_loadi tabOk rfl rfl rfl rfl rfl rfl rfl | exact R_len tabOk rfl rfl rfl | exact R_load tabOk rfl rfl rfl rfl rfl rfl rfl rfl rfl | exact R_field tabOk rfl rfl rfl rfl | exact Y_addn rfl rfl rfl | exact Y_subn rfl rfl rfl | exact R_cmpT rfl rfl rfl rfl | exact R_cmpF rfl rfl rfl rfl | exact Y_ibin rfl rfl rfl rfl | exact Y_extract rfl rfl rfl | exact R_lenr tabOk rfl rfl rfl rfl | exact R_lenn tabOk rfl rfl rfl | exact R_indexr tabOk rfl rfl rfl rfl rfl rfl rfl (by omega) | exact R_fielde tabOk rfl rfl rfl rfl | exact R_loade tabOk rfl rfl rfl rfl rfl rfl rfl rfl rfl | exact Y_not rfl rfl | exact Y_pick_t rfl rfl (by first | rfl | assumption) rfl | exact Y_pick_f rfl rfl (by first | rfl | assumption) rfl | exact Y_pick_b rfl rfl rfl rfl | exact R_build tabOk rfl rfl rfl rfl rfl rfl | fail)) | refine O_nil ?_ | refine Q_nil ?_ | refine X_then_normal ?_ | refine X_in_normal ?_ | refine O_box rfl rfl rfl rfl rfl rfl rfl ?_ | refine O_alloc tabOk rfl rfl rfl rfl rfl rfl ?_ | refine O_store tabOk rfl rfl rfl rfl rfl rfl rfl rfl rfl rfl rfl ?_ | refine O_slice tabOk rfl rfl rfl rfl rfl rfl rfl rfl rfl rfl rfl ?_ | refine A_ct rfl ?_ | refine A_cf rfl ?_ | refine A_skip ?_ | refine A_exit ?_ | refine A_ret ?_ | refine X_then_exit ?_ | refine X_then_ret ?_ | refine X_in_same ?_ | refine X_in_other rfl ?_ | refine X_in_ret ?_ | refine O_s rfl rfl rfl ?_ | refine Q_s rfl rfl rfl ?_ | refine O_sn rfl rfl ?_ | fail)
    exact X_ret rfl ⟨rfl, rfl⟩
end Go.Proofs.Ytjfmiehpncginaa.Ab

namespace Go.Proofs.Ytjfmiehpncginaa.Ab
set_option linter.unusedVariables false
set_option maxRecDepth 100000
open Go.RowKit Go.Lib
set_option linter.unusedSimpArgs false
attribute [local irreducible] AWp AOps AQ AYield AEff ACall AWk AAny AAt AThen AIn APost NoPanic
set_option maxHeartbeats 16000000 in
theorem refCmpR_A (x y : Rte) : ACall Try.prog 15 [rteA x, rteA y] [] (Just (intA (ordR x y))) := by
  have h0 := refPrefix_A x.p y.p
  have h1 := one_c2 x.f y.f
  have h2 := one_c2 x.d y.d
  have h3 := one_c2 x.m y.m
  have h4 := one_c2 x.t y.t
  have h5 := one_c2 x.h y.h
  have h6 := one_bytes x.i y.i
  have h9 := first_A [ordP x.p y.p, c2 x.f y.f, c2 x.d y.d, c2 x.m y.m, c2 x.t y.t, c2 x.h y.h, compareBytes x.i y.i, cB x.x y.x] (by simp)
  rw [ordR_first] at h9
  obtain ⟨P, f, d, m, t, i, h, X⟩ := x
  dsimp only at *
  refine ACall_of tabOk Try.func15 rfl Try.ntmps15 (congrArg Array.toList Try.results15) (by kernel_rfl) rfl ?_
  refine A_seq ?_
  refine R_list ?_
  repeat (first | refine A_seq ?_ | refine A_block ?_ | refine R_list ?_ | refine R_quiet rfl mixed (by kernel_rfl) ?_ | ((first | apply O_y rfl rfl rfl | apply Q_y rfl rfl rfl); (first | exact Y_move rfl rfl | exact Y_assign rfl rfl | exact R_index tabOk rfl rfl rfl rfl rfl rfl (by omega) | exact R_fieldi tabOk rfl rfl rfl | exact R_loadi tabOk rfl rfl rfl rfl rfl rfl rfl | exact R_len tabOk rfl rfl rfl | exact R_load tabOk rfl rfl rfl rfl rfl rfl rfl rfl rfl | exact R_field tabOk rfl rfl rfl rfl | exact Y_addn rfl rfl rfl | exact Y_subn rfl rfl rfl | exact R_cmpT rfl rfl rfl rfl | exact R_cmpF rfl rfl rfl rfl | exact Y_ibin rfl rfl rfl rfl | exact Y_extract rfl rfl rfl | exact R_lenr tabOk rfl rfl rfl rfl | exact R_lenn tabOk rfl rfl rfl | exact R_indexr tabOk rfl rfl rfl rfl rfl rfl rfl (by omega) | exact R_fielde tabOk rfl rfl rfl rfl | exact R_loade tabOk rfl rfl rfl rfl rfl rfl rfl rfl rfl | exact Y_not rfl rfl | exact Y_pick_t rfl rfl (by first | rfl | assumption) rfl | exact Y_pick_f rfl rfl (by first | rfl | assumption) rfl | exact Y_pick_b rfl rfl rfl rfl | exact R_build tabOk rfl rfl rfl rfl rfl rfl | fail)) | refine O_nil ?_ | refine Q_nil ?_ | refine X_then_normal ?_ | refine X_in_normal ?_ | refine O_box rfl rfl rfl rfl rfl rfl rfl ?_ | refine O_alloc tabOk rfl rfl rfl rfl rfl rfl ?_ | refine O_store tabOk rfl rfl rfl rfl rfl rfl rfl rfl rfl rfl rfl ?_ | refine O_slice tabOk rfl rfl rfl rfl rfl rfl rfl rfl rfl rfl rfl ?_ | refine A_ct rfl ?_ | refine A_cf rfl ?_ | refine A_skip ?_ | refine A_exit ?_ | refine A_ret ?_ | refine X_then_exit ?_ | refine X_then_ret ?_ | refine X_in_same ?_ | refine X_in_other rfl ?_ | refine X_in_ret ?_ | refine O_s rfl rfl rfl ?_ | refine Q_s rfl rfl rfl ?_ | refine O_sn rfl rfl ?_ | fail)
  cases X with
  | false =>
    have h7 := one_A y.x false
    rw [oneI_cB1] at h7
    refine N_begin [] mixed ?_
    (apply N_take (i := 0) rfl (by kernel_rfl) (by kernel_rfl) (by kernel_rfl) (by repeat (first | exact np_post | refine np_then ?_ | refine np_in ?_)) rfl rfl rfl; (first | exact Y_move rfl rfl | exact Y_assign rfl rfl | exact R_field tabOk rfl rfl rfl rfl | exact R_load tabOk rfl rfl rfl rfl rfl rfl rfl rfl rfl | exact Y_ibin rfl rfl rfl rfl | exact Y_sbin rfl rfl rfl rfl | exact Y_not rfl rfl | exact Y_pick_t rfl rfl rfl rfl | exact Y_pick_f rfl rfl rfl rfl))
    (apply N_take (i := 1) rfl (by kernel_rfl) (by kernel_rfl) (by kernel_rfl) (by repeat (first | exact np_post | refine np_then ?_ | refine np_in ?_)) rfl rfl rfl; (first | exact Y_move rfl rfl | exact Y_assign rfl rfl | exact R_field tabOk rfl rfl rfl rfl | exact R_load tabOk rfl rfl rfl rfl rfl rfl rfl rfl rfl | exact Y_ibin rfl rfl rfl rfl | exact Y_sbin rfl rfl rfl rfl | exact Y_not rfl rfl | exact Y_pick_t rfl rfl rfl rfl | exact Y_pick_f rfl rfl rfl rfl))
    (apply N_take (i := 2) rfl (by kernel_rfl) (by kernel_rfl) (by kernel_rfl) (by repeat (first | exact np_post | refine np_then ?_ | refine np_in ?_)) rfl rfl rfl; (first | exact Y_move rfl rfl | exact Y_assign rfl rfl | exact R_field tabOk rfl rfl rfl rfl | exact R_load tabOk rfl rfl rfl rfl rfl rfl rfl rfl rfl | exact Y_ibin rfl rfl rfl rfl | exact Y_sbin rfl rfl rfl rfl | exact Y_not rfl rfl | exact Y_pick_t rfl rfl rfl rfl | exact Y_pick_f rfl rfl rfl rfl))
    (apply N_take (i := 3) rfl (by kernel_rfl) (by kernel_rfl) (by kernel_rfl) (by repeat (first | exact np_post | refine np_then ?_ | refine np_in ?_)) rfl rfl rfl; (first | exact Y_move rfl rfl | exact Y_assign rfl rfl | exact R_field tabOk rfl rfl rfl rfl | exact R_load tabOk rfl rfl rfl rfl rfl rfl rfl rfl rfl | exact Y_ibin rfl rfl rfl rfl | exact Y_sbin rfl rfl rfl rfl | exact Y_not rfl rfl | exact Y_pick_t rfl rfl rfl rfl | exact Y_pick_f rfl rfl rfl rfl))
    (apply N_take (i := 5) rfl (by kernel_rfl) (by kernel_rfl) (by kernel_rfl) (by repeat (first | exact np_post | refine np_then ?_ | refine np_in ?_)) rfl rfl rfl; (first | exact Y_move rfl rfl | exact Y_assign rfl rfl | exact R_field tabOk rfl rfl rfl rfl | exact R_load tabOk rfl rfl rfl rfl rfl rfl rfl rfl rfl | exact Y_ibin rfl rfl rfl rfl | exact Y_sbin rfl rfl rfl rfl | exact Y_not rfl rfl | exact Y_pick_t rfl rfl rfl rfl | exact Y_pick_f rfl rfl rfl rfl))
    (apply N_take (i := 6) rfl (by kernel_rfl) (by kernel_rfl) (by kernel_rfl) (by repeat (first | exact np_post | refine np_then ?_ | refine np_in ?_)) rfl rfl rfl; (first | exact Y_move rfl rfl | exact Y_assign rfl rfl | exact R_field tabOk rfl rfl rfl rfl | exact R_load tabOk rfl rfl rfl rfl rfl rfl rfl rfl rfl | exact Y_ibin rfl rfl rfl rfl | exact Y_sbin rfl rfl rfl rfl | exact Y_not rfl rfl | exact Y_pick_t rfl rfl rfl rfl | exact Y_pick_f rfl rfl rfl rfl))
    (apply N_take (i := 7) rfl (by kernel_rfl) (by kernel_rfl) (by kernel_rfl) (by repeat (first | exact np_post | refine np_then ?_ | refine np_in ?_)) rfl rfl rfl; (first | exact Y_move rfl rfl | exact Y_assign rfl rfl | exact R_field tabOk rfl rfl rfl rfl | exact R_load tabOk rfl rfl rfl rfl rfl rfl rfl rfl rfl | exact Y_ibin rfl rfl rfl rfl | exact Y_sbin rfl rfl rfl rfl | exact Y_not rfl rfl | exact Y_pick_t rfl rfl rfl rfl | exact Y_pick_f rfl rfl rfl rfl))
    (apply N_take (i := 8) rfl (by kernel_rfl) (by kernel_rfl) (by kernel_rfl) (by repeat (first | exact np_post | refine np_then ?_ | refine np_in ?_)) rfl rfl rfl; (first | exact Y_move rfl rfl | exact Y_assign rfl rfl | exact R_field tabOk rfl rfl rfl rfl | exact R_load tabOk rfl rfl rfl rfl rfl rfl rfl rfl rfl | exact Y_ibin rfl rfl rfl rfl | exact Y_sbin rfl rfl rfl rfl | exact Y_not rfl rfl | exact Y_pick_t rfl rfl rfl rfl | exact Y_pick_f rfl rfl rfl rfl))
    (apply N_take (i := 9) rfl (by kernel_rfl) (by kernel_rfl) (by kernel_rfl) (by repeat (first | exact np_post | refine np_then ?_ | refine np_in ?_)) rfl rfl rfl; (first | exact Y_move rfl rfl | exact Y_assign rfl rfl | exact R_field tabOk rfl rfl rfl rfl | exact R_load tabOk rfl rfl rfl rfl rfl rfl rfl rfl rfl | exact Y_ibin rfl rfl rfl rfl | exact Y_sbin rfl rfl rfl rfl | exact Y_not rfl rfl | exact Y_pick_t rfl rfl rfl rfl | exact Y_pick_f rfl rfl rfl rfl))
    (apply N_take (i := 10) rfl (by kernel_rfl) (by kernel_rfl) (by kernel_rfl) (by repeat (first | exact np_post | refine np_then ?_ | refine np_in ?_)) rfl rfl rfl; (first | exact Y_move rfl rfl | exact Y_assign rfl rfl | exact R_field tabOk rfl rfl rfl rfl | exact R_load tabOk rfl rfl rfl rfl rfl rfl rfl rfl rfl | exact Y_ibin rfl rfl rfl rfl | exact Y_sbin rfl rfl rfl rfl | exact Y_not rfl rfl | exact Y_pick_t rfl rfl rfl rfl | exact Y_pick_f rfl rfl rfl rfl))
    (apply N_take (i := 11) rfl (by kernel_rfl) (by kernel_rfl) (by kernel_rfl) (by repeat (first | exact np_post | refine np_then ?_ | refine np_in ?_)) rfl rfl rfl; (first | exact Y_move rfl rfl | exact Y_assign rfl rfl | exact R_field tabOk rfl rfl rfl rfl | exact R_load tabOk rfl rfl rfl rfl rfl rfl rfl rfl rfl | exact Y_ibin rfl rfl rfl rfl | exact Y_sbin rfl rfl rfl rfl | exact Y_not rfl rfl | exact Y_pick_t rfl rfl rfl rfl | exact Y_pick_f rfl rfl rfl rfl))
    (apply N_take (i := 12) rfl (by kernel_rfl) (by kernel_rfl) (by kernel_rfl) (by repeat (first | exact np_post | refine np_then ?_ | refine np_in ?_)) rfl rfl rfl; (first | exact Y_move rfl rfl | exact Y_assign rfl rfl | exact R_field tabOk rfl rfl rfl rfl | exact R_load tabOk rfl rfl rfl rfl rfl rfl rfl rfl rfl | exact Y_ibin rfl rfl rfl rfl | exact Y_sbin rfl rfl rfl rfl | exact Y_not rfl rfl | exact Y_pick_t rfl rfl rfl rfl | exact Y_pick_f rfl rfl rfl rfl))
    (apply N_take (i := 13) rfl (by kernel_rfl) (by kernel_rfl) (by kernel_rfl) (by repeat (first | exact np_post | refine np_then ?_ | refine np_in ?_)) rfl rfl rfl; (first | exact Y_move rfl rfl | exact Y_assign rfl rfl | exact R_field tabOk rfl rfl rfl rfl | exact R_load tabOk rfl rfl rfl rfl rfl rfl rfl rfl rfl | exact Y_ibin rfl rfl rfl rfl | exact Y_sbin rfl rfl rfl rfl | exact Y_not rfl rfl | exact Y_pick_t rfl rfl rfl rfl | exact Y_pick_f rfl rfl rfl rfl))
    (apply N_take (i := 14) rfl (by kernel_rfl) (by kernel_rfl) (by kernel_rfl) (by repeat (first | exact np_post | refine np_then ?_ | refine np_in ?_)) rfl rfl rfl; (first | exact Y_move rfl rfl | exact Y_assign rfl rfl | exact R_field tabOk rfl rfl rfl rfl | exact R_load tabOk rfl rfl rfl rfl rfl rfl rfl rfl rfl | exact Y_ibin rfl rfl rfl rfl | exact Y_sbin rfl rfl rfl rfl | exact Y_not rfl rfl | exact Y_pick_t rfl rfl rfl rfl | exact Y_pick_f rfl rfl rfl rfl))
    (apply N_take (i := 16) rfl (by kernel_rfl) (by kernel_rfl) (by kernel_rfl) (by repeat (first | exact np_post | refine np_then ?_ | refine np_in ?_)) rfl rfl rfl; (first | exact Y_move rfl rfl | exact Y_assign rfl rfl | exact R_field tabOk rfl rfl rfl rfl | exact R_load tabOk rfl rfl rfl rfl rfl rfl rfl rfl rfl | exact Y_ibin rfl rfl rfl rfl | exact Y_sbin rfl rfl rfl rfl | exact Y_not rfl rfl | exact Y_pick_t rfl rfl rfl rfl | exact Y_pick_f rfl rfl rfl rfl))
    (apply N_take (i := 17) rfl (by kernel_rfl) (by kernel_rfl) (by kernel_rfl) (by repeat (first | exact np_post | refine np_then ?_ | refine np_in ?_)) rfl rfl rfl; (first | exact Y_move rfl rfl | exact Y_assign rfl rfl | exact R_field tabOk rfl rfl rfl rfl | exact R_load tabOk rfl rfl rfl rfl rfl rfl rfl rfl rfl | exact Y_ibin rfl rfl rfl rfl | exact Y_sbin rfl rfl rfl rfl | exact Y_not rfl rfl | exact Y_pick_t rfl rfl rfl rfl | exact Y_pick_f rfl rfl rfl rfl))
    (apply N_take (i := 18) rfl (by kernel_rfl) (by kernel_rfl) (by kernel_rfl) (by repeat (first | exact np_post | refine np_then ?_ | refine np_in ?_)) rfl rfl rfl; (first | exact Y_move rfl rfl | exact Y_assign rfl rfl | exact R_field tabOk rfl rfl rfl rfl | exact R_load tabOk rfl rfl rfl rfl rfl rfl rfl rfl rfl | exact Y_ibin rfl rfl rfl rfl | exact Y_sbin rfl rfl rfl rfl | exact Y_not rfl rfl | exact Y_pick_t rfl rfl rfl rfl | exact Y_pick_f rfl rfl rfl rfl))
    (apply N_take (i := 19) rfl (by kernel_rfl) (by kernel_rfl) (by kernel_rfl) (by repeat (first | exact np_post | refine np_then ?_ | refine np_in ?_)) rfl rfl rfl; (first | exact Y_move rfl rfl | exact Y_assign rfl rfl | exact R_field tabOk rfl rfl rfl rfl | exact R_load tabOk rfl rfl rfl rfl rfl rfl rfl rfl rfl | exact Y_ibin rfl rfl rfl rfl | exact Y_sbin rfl rfl rfl rfl | exact Y_not rfl rfl | exact Y_pick_t rfl rfl rfl rfl | exact Y_pick_f rfl rfl rfl rfl))
    (apply N_take (i := 20) rfl (by kernel_rfl) (by kernel_rfl) (by kernel_rfl) (by repeat (first | exact np_post | refine np_then ?_ | refine np_in ?_)) rfl rfl rfl; (first | exact Y_move rfl rfl | exact Y_assign rfl rfl | exact R_field tabOk rfl rfl rfl rfl | exact R_load tabOk rfl rfl rfl rfl rfl rfl rfl rfl rfl | exact Y_ibin rfl rfl rfl rfl | exact Y_sbin rfl rfl rfl rfl | exact Y_not rfl rfl | exact Y_pick_t rfl rfl rfl rfl | exact Y_pick_f rfl rfl rfl rfl))
    (apply N_take (i := 21) rfl (by kernel_rfl) (by kernel_rfl) (by kernel_rfl) (by repeat (first | exact np_post | refine np_then ?_ | refine np_in ?_)) rfl rfl rfl; (first | exact Y_move rfl rfl | exact Y_assign rfl rfl | exact R_field tabOk rfl rfl rfl rfl | exact R_load tabOk rfl rfl rfl rfl rfl rfl rfl rfl rfl | exact Y_ibin rfl rfl rfl rfl | exact Y_sbin rfl rfl rfl rfl | exact Y_not rfl rfl | exact Y_pick_t rfl rfl rfl rfl | exact Y_pick_f rfl rfl rfl rfl))
    (apply N_take (i := 22) rfl (by kernel_rfl) (by kernel_rfl) (by kernel_rfl) (by repeat (first | exact np_post | refine np_then ?_ | refine np_in ?_)) rfl rfl rfl; (first | exact Y_move rfl rfl | exact Y_assign rfl rfl | exact R_field tabOk rfl rfl rfl rfl | exact R_load tabOk rfl rfl rfl rfl rfl rfl rfl rfl rfl | exact Y_ibin rfl rfl rfl rfl | exact Y_sbin rfl rfl rfl rfl | exact Y_not rfl rfl | exact Y_pick_t rfl rfl rfl rfl | exact Y_pick_f rfl rfl rfl rfl))
    (apply N_take (i := 23) rfl (by kernel_rfl) (by kernel_rfl) (by kernel_rfl) (by repeat (first | exact np_post | refine np_then ?_ | refine np_in ?_)) rfl rfl rfl; (first | exact Y_move rfl rfl | exact Y_assign rfl rfl | exact R_field tabOk rfl rfl rfl rfl | exact R_load tabOk rfl rfl rfl rfl rfl rfl rfl rfl rfl | exact Y_ibin rfl rfl rfl rfl | exact Y_sbin rfl rfl rfl rfl | exact Y_not rfl rfl | exact Y_pick_t rfl rfl rfl rfl | exact Y_pick_f rfl rfl rfl rfl))
    (apply N_take (i := 24) rfl (by kernel_rfl) (by kernel_rfl) (by kernel_rfl) (by repeat (first | exact np_post | refine np_then ?_ | refine np_in ?_)) rfl rfl rfl; (first | exact Y_move rfl rfl | exact Y_assign rfl rfl | exact R_field tabOk rfl rfl rfl rfl | exact R_load tabOk rfl rfl rfl rfl rfl rfl rfl rfl rfl | exact Y_ibin rfl rfl rfl rfl | exact Y_sbin rfl rfl rfl rfl | exact Y_not rfl rfl | exact Y_pick_t rfl rfl rfl rfl | exact Y_pick_f rfl rfl rfl rfl))
    (apply N_take (i := 25) rfl (by kernel_rfl) (by kernel_rfl) (by kernel_rfl) (by repeat (first | exact np_post | refine np_then ?_ | refine np_in ?_)) rfl rfl rfl; (first | exact Y_move rfl rfl | exact Y_assign rfl rfl | exact R_field tabOk rfl rfl rfl rfl | exact R_load tabOk rfl rfl rfl rfl rfl rfl rfl rfl rfl | exact Y_ibin rfl rfl rfl rfl | exact Y_sbin rfl rfl rfl rfl | exact Y_not rfl rfl | exact Y_pick_t rfl rfl rfl rfl | exact Y_pick_f rfl rfl rfl rfl))
    (apply N_take (i := 27) rfl (by kernel_rfl) (by kernel_rfl) (by kernel_rfl) (by repeat (first | exact np_post | refine np_then ?_ | refine np_in ?_)) rfl rfl rfl; (first | exact Y_move rfl rfl | exact Y_assign rfl rfl | exact R_field tabOk rfl rfl rfl rfl | exact R_load tabOk rfl rfl rfl rfl rfl rfl rfl rfl rfl | exact Y_ibin rfl rfl rfl rfl | exact Y_sbin rfl rfl rfl rfl | exact Y_not rfl rfl | exact Y_pick_t rfl rfl rfl rfl | exact Y_pick_f rfl rfl rfl rfl))
    (apply N_take (i := 28) rfl (by kernel_rfl) (by kernel_rfl) (by kernel_rfl) (by repeat (first | exact np_post | refine np_then ?_ | refine np_in ?_)) rfl rfl rfl; (first | exact Y_move rfl rfl | exact Y_assign rfl rfl | exact R_field tabOk rfl rfl rfl rfl | exact R_load tabOk rfl rfl rfl rfl rfl rfl rfl rfl rfl | exact Y_ibin rfl rfl rfl rfl | exact Y_sbin rfl rfl rfl rfl | exact Y_not rfl rfl | exact Y_pick_t rfl rfl rfl rfl | exact Y_pick_f rfl rfl rfl rfl))
    (apply N_take (i := 29) rfl (by kernel_rfl) (by kernel_rfl) (by kernel_rfl) (by repeat (first | exact np_post | refine np_then ?_ | refine np_in ?_)) rfl rfl rfl; (first | exact Y_move rfl rfl | exact Y_assign rfl rfl | exact R_field tabOk rfl rfl rfl rfl | exact R_load tabOk rfl rfl rfl rfl rfl rfl rfl rfl rfl | exact Y_ibin rfl rfl rfl rfl | exact Y_sbin rfl rfl rfl rfl | exact Y_not rfl rfl | exact Y_pick_t rfl rfl rfl rfl | exact Y_pick_f rfl rfl rfl rfl))
    (apply N_take (i := 30) rfl (by kernel_rfl) (by kernel_rfl) (by kernel_rfl) (by repeat (first | exact np_post | refine np_then ?_ | refine np_in ?_)) rfl rfl rfl; (first | exact Y_move rfl rfl | exact Y_assign rfl rfl | exact R_field tabOk rfl rfl rfl rfl | exact R_load tabOk rfl rfl rfl rfl rfl rfl rfl rfl rfl | exact Y_ibin rfl rfl rfl rfl | exact Y_sbin rfl rfl rfl rfl | exact Y_not rfl rfl | exact Y_pick_t rfl rfl rfl rfl | exact Y_pick_f rfl rfl rfl rfl))
    (apply N_take (i := 31) rfl (by kernel_rfl) (by kernel_rfl) (by kernel_rfl) (by repeat (first | exact np_post | refine np_then ?_ | refine np_in ?_)) rfl rfl rfl; (first | exact Y_move rfl rfl | exact Y_assign rfl rfl | exact R_field tabOk rfl rfl rfl rfl | exact R_load tabOk rfl rfl rfl rfl rfl rfl rfl rfl rfl | exact Y_ibin rfl rfl rfl rfl | exact Y_sbin rfl rfl rfl rfl | exact Y_not rfl rfl | exact Y_pick_t rfl rfl rfl rfl | exact Y_pick_f rfl rfl rfl rfl))
    (apply N_take (i := 32) rfl (by kernel_rfl) (by kernel_rfl) (by kernel_rfl) (by repeat (first | exact np_post | refine np_then ?_ | refine np_in ?_)) rfl rfl rfl; (first | exact Y_move rfl rfl | exact Y_assign rfl rfl | exact R_field tabOk rfl rfl rfl rfl | exact R_load tabOk rfl rfl rfl rfl rfl rfl rfl rfl rfl | exact Y_ibin rfl rfl rfl rfl | exact Y_sbin rfl rfl rfl rfl | exact Y_not rfl rfl | exact Y_pick_t rfl rfl rfl rfl | exact Y_pick_f rfl rfl rfl rfl))
    (apply N_take (i := 33) rfl (by kernel_rfl) (by kernel_rfl) (by kernel_rfl) (by repeat (first | exact np_post | refine np_then ?_ | refine np_in ?_)) rfl rfl rfl; (first | exact Y_move rfl rfl | exact Y_assign rfl rfl | exact R_field tabOk rfl rfl rfl rfl | exact R_load tabOk rfl rfl rfl rfl rfl rfl rfl rfl rfl | exact Y_ibin rfl rfl rfl rfl | exact Y_sbin rfl rfl rfl rfl | exact Y_not rfl rfl | exact Y_pick_t rfl rfl rfl rfl | exact Y_pick_f rfl rfl rfl rfl))
    (apply N_take (i := 34) rfl (by kernel_rfl) (by kernel_rfl) (by kernel_rfl) (by repeat (first | exact np_post | refine np_then ?_ | refine np_in ?_)) rfl rfl rfl; (first | exact Y_move rfl rfl | exact Y_assign rfl rfl | exact R_field tabOk rfl rfl rfl rfl | exact R_load tabOk rfl rfl rfl rfl rfl rfl rfl rfl rfl | exact Y_ibin rfl rfl rfl rfl | exact Y_sbin rfl rfl rfl rfl | exact Y_not rfl rfl | exact Y_pick_t rfl rfl rfl rfl | exact Y_pick_f rfl rfl rfl rfl))
    (apply N_take (i := 35) rfl (by kernel_rfl) (by kernel_rfl) (by kernel_rfl) (by repeat (first | exact np_post | refine np_then ?_ | refine np_in ?_)) rfl rfl rfl; (first | exact Y_move rfl rfl | exact Y_assign rfl rfl | exact R_field tabOk rfl rfl rfl rfl | exact R_load tabOk rfl rfl rfl rfl rfl rfl rfl rfl rfl | exact Y_ibin rfl rfl rfl rfl | exact Y_sbin rfl rfl rfl rfl | exact Y_not rfl rfl | exact Y_pick_t rfl rfl rfl rfl | exact Y_pick_f rfl rfl rfl rfl))
    (apply N_take (i := 36) rfl (by kernel_rfl) (by kernel_rfl) (by kernel_rfl) (by repeat (first | exact np_post | refine np_then ?_ | refine np_in ?_)) rfl rfl rfl; (first | exact Y_move rfl rfl | exact Y_assign rfl rfl | exact R_field tabOk rfl rfl rfl rfl | exact R_load tabOk rfl rfl rfl rfl rfl rfl rfl rfl rfl | exact Y_ibin rfl rfl rfl rfl | exact Y_sbin rfl rfl rfl rfl | exact Y_not rfl rfl | exact Y_pick_t rfl rfl rfl rfl | exact Y_pick_f rfl rfl rfl rfl))
    (apply N_take (i := 38) rfl (by kernel_rfl) (by kernel_rfl) (by kernel_rfl) (by repeat (first | exact np_post | refine np_then ?_ | refine np_in ?_)) rfl rfl rfl; (first | exact Y_move rfl rfl | exact Y_assign rfl rfl | exact R_field tabOk rfl rfl rfl rfl | exact R_load tabOk rfl rfl rfl rfl rfl rfl rfl rfl rfl | exact Y_ibin rfl rfl rfl rfl | exact Y_sbin rfl rfl rfl rfl | exact Y_not rfl rfl | exact Y_pick_t rfl rfl rfl rfl | exact Y_pick_f rfl rfl rfl rfl))
    (apply N_take (i := 39) rfl (by kernel_rfl) (by kernel_rfl) (by kernel_rfl) (by repeat (first | exact np_post | refine np_then ?_ | refine np_in ?_)) rfl rfl rfl; (first | exact Y_move rfl rfl | exact Y_assign rfl rfl | exact R_field tabOk rfl rfl rfl rfl | exact R_load tabOk rfl rfl rfl rfl rfl rfl rfl rfl rfl | exact Y_ibin rfl rfl rfl rfl | exact Y_sbin rfl rfl rfl rfl | exact Y_not rfl rfl | exact Y_pick_t rfl rfl rfl rfl | exact Y_pick_f rfl rfl rfl rfl))
    (apply N_take (i := 40) rfl (by kernel_rfl) (by kernel_rfl) (by kernel_rfl) (by repeat (first | exact np_post | refine np_then ?_ | refine np_in ?_)) rfl rfl rfl; (first | exact Y_move rfl rfl | exact Y_assign rfl rfl | exact R_field tabOk rfl rfl rfl rfl | exact R_load tabOk rfl rfl rfl rfl rfl rfl rfl rfl rfl | exact Y_ibin rfl rfl rfl rfl | exact Y_sbin rfl rfl rfl rfl | exact Y_not rfl rfl | exact Y_pick_t rfl rfl rfl rfl | exact Y_pick_f rfl rfl rfl rfl))
    (apply N_take (i := 41) rfl (by kernel_rfl) (by kernel_rfl) (by kernel_rfl) (by repeat (first | exact np_post | refine np_then ?_ | refine np_in ?_)) rfl rfl rfl; (first | exact Y_move rfl rfl | exact Y_assign rfl rfl | exact R_field tabOk rfl rfl rfl rfl | exact R_load tabOk rfl rfl rfl rfl rfl rfl rfl rfl rfl | exact Y_ibin rfl rfl rfl rfl | exact Y_sbin rfl rfl rfl rfl | exact Y_not rfl rfl | exact Y_pick_t rfl rfl rfl rfl | exact Y_pick_f rfl rfl rfl rfl))
    (apply N_take (i := 42) rfl (by kernel_rfl) (by kernel_rfl) (by kernel_rfl) (by repeat (first | exact np_post | refine np_then ?_ | refine np_in ?_)) rfl rfl rfl; (first | exact Y_move rfl rfl | exact Y_assign rfl rfl | exact R_field tabOk rfl rfl rfl rfl | exact R_load tabOk rfl rfl rfl rfl rfl rfl rfl rfl rfl | exact Y_ibin rfl rfl rfl rfl | exact Y_sbin rfl rfl rfl rfl | exact Y_not rfl rfl | exact Y_pick_t rfl rfl rfl rfl | exact Y_pick_f rfl rfl rfl rfl))
    (apply N_take (i := 43) rfl (by kernel_rfl) (by kernel_rfl) (by kernel_rfl) (by repeat (first | exact np_post | refine np_then ?_ | refine np_in ?_)) rfl rfl rfl; (first | exact Y_move rfl rfl | exact Y_assign rfl rfl | exact R_field tabOk rfl rfl rfl rfl | exact R_load tabOk rfl rfl rfl rfl rfl rfl rfl rfl rfl | exact Y_ibin rfl rfl rfl rfl | exact Y_sbin rfl rfl rfl rfl | exact Y_not rfl rfl | exact Y_pick_t rfl rfl rfl rfl | exact Y_pick_f rfl rfl rfl rfl))
    (apply N_take (i := 44) rfl (by kernel_rfl) (by kernel_rfl) (by kernel_rfl) (by repeat (first | exact np_post | refine np_then ?_ | refine np_in ?_)) rfl rfl rfl; (first | exact Y_move rfl rfl | exact Y_assign rfl rfl | exact R_field tabOk rfl rfl rfl rfl | exact R_load tabOk rfl rfl rfl rfl rfl rfl rfl rfl rfl | exact Y_ibin rfl rfl rfl rfl | exact Y_sbin rfl rfl rfl rfl | exact Y_not rfl rfl | exact Y_pick_t rfl rfl rfl rfl | exact Y_pick_f rfl rfl rfl rfl))
    (apply N_take (i := 45) rfl (by kernel_rfl) (by kernel_rfl) (by kernel_rfl) (by repeat (first | exact np_post | refine np_then ?_ | refine np_in ?_)) rfl rfl rfl; (first | exact Y_move rfl rfl | exact Y_assign rfl rfl | exact R_field tabOk rfl rfl rfl rfl | exact R_load tabOk rfl rfl rfl rfl rfl rfl rfl rfl rfl | exact Y_ibin rfl rfl rfl rfl | exact Y_sbin rfl rfl rfl rfl | exact Y_not rfl rfl | exact Y_pick_t rfl rfl rfl rfl | exact Y_pick_f rfl rfl rfl rfl))
    (apply N_take (i := 46) rfl (by kernel_rfl) (by kernel_rfl) (by kernel_rfl) (by repeat (first | exact np_post | refine np_then ?_ | refine np_in ?_)) rfl rfl rfl; (first | exact Y_move rfl rfl | exact Y_assign rfl rfl | exact R_field tabOk rfl rfl rfl rfl | exact R_load tabOk rfl rfl rfl rfl rfl rfl rfl rfl rfl | exact Y_ibin rfl rfl rfl rfl | exact Y_sbin rfl rfl rfl rfl | exact Y_not rfl rfl | exact Y_pick_t rfl rfl rfl rfl | exact Y_pick_f rfl rfl rfl rfl))
    (apply N_take (i := 47) rfl (by kernel_rfl) (by kernel_rfl) (by kernel_rfl) (by repeat (first | exact np_post | refine np_then ?_ | refine np_in ?_)) rfl rfl rfl; (first | exact Y_move rfl rfl | exact Y_assign rfl rfl | exact R_field tabOk rfl rfl rfl rfl | exact R_load tabOk rfl rfl rfl rfl rfl rfl rfl rfl rfl | exact Y_ibin rfl rfl rfl rfl | exact Y_sbin rfl rfl rfl rfl | exact Y_not rfl rfl | exact Y_pick_t rfl rfl rfl rfl | exact Y_pick_f rfl rfl rfl rfl))
    (apply N_take (i := 49) rfl (by kernel_rfl) (by kernel_rfl) (by kernel_rfl) (by repeat (first | exact np_post | refine np_then ?_ | refine np_in ?_)) rfl rfl rfl; (first | exact Y_move rfl rfl | exact Y_assign rfl rfl | exact R_field tabOk rfl rfl rfl rfl | exact R_load tabOk rfl rfl rfl rfl rfl rfl rfl rfl rfl | exact Y_ibin rfl rfl rfl rfl | exact Y_sbin rfl rfl rfl rfl | exact Y_not rfl rfl | exact Y_pick_t rfl rfl rfl rfl | exact Y_pick_f rfl rfl rfl rfl))
    (apply N_take (i := 50) rfl (by kernel_rfl) (by kernel_rfl) (by kernel_rfl) (by repeat (first | exact np_post | refine np_then ?_ | refine np_in ?_)) rfl rfl rfl; (first | exact Y_move rfl rfl | exact Y_assign rfl rfl | exact R_field tabOk rfl rfl rfl rfl | exact R_load tabOk rfl rfl rfl rfl rfl rfl rfl rfl rfl | exact Y_ibin rfl rfl rfl rfl | exact Y_sbin rfl rfl rfl rfl | exact Y_not rfl rfl | exact Y_pick_t rfl rfl rfl rfl | exact Y_pick_f rfl rfl rfl rfl))
    (apply N_take (i := 51) rfl (by kernel_rfl) (by kernel_rfl) (by kernel_rfl) (by repeat (first | exact np_post | refine np_then ?_ | refine np_in ?_)) rfl rfl rfl; (first | exact Y_move rfl rfl | exact Y_assign rfl rfl | exact R_field tabOk rfl rfl rfl rfl | exact R_load tabOk rfl rfl rfl rfl rfl rfl rfl rfl rfl | exact Y_ibin rfl rfl rfl rfl | exact Y_sbin rfl rfl rfl rfl | exact Y_not rfl rfl | exact Y_pick_t rfl rfl rfl rfl | exact Y_pick_f rfl rfl rfl rfl))
    (apply N_take (i := 52) rfl (by kernel_rfl) (by kernel_rfl) (by kernel_rfl) (by repeat (first | exact np_post | refine np_then ?_ | refine np_in ?_)) rfl rfl rfl; (first | exact Y_move rfl rfl | exact Y_assign rfl rfl | exact R_field tabOk rfl rfl rfl rfl | exact R_load tabOk rfl rfl rfl rfl rfl rfl rfl rfl rfl | exact Y_ibin rfl rfl rfl rfl | exact Y_sbin rfl rfl rfl rfl | exact Y_not rfl rfl | exact Y_pick_t rfl rfl rfl rfl | exact Y_pick_f rfl rfl rfl rfl))
    (apply N_take (i := 53) rfl (by kernel_rfl) (by kernel_rfl) (by kernel_rfl) (by repeat (first | exact np_post | refine np_then ?_ | refine np_in ?_)) rfl rfl rfl; (first | exact Y_move rfl rfl | exact Y_assign rfl rfl | exact R_field tabOk rfl rfl rfl rfl | exact R_load tabOk rfl rfl rfl rfl rfl rfl rfl rfl rfl | exact Y_ibin rfl rfl rfl rfl | exact Y_sbin rfl rfl rfl rfl | exact Y_not rfl rfl | exact Y_pick_t rfl rfl rfl rfl | exact Y_pick_f rfl rfl rfl rfl))
    (apply N_take (i := 54) rfl (by kernel_rfl) (by kernel_rfl) (by kernel_rfl) (by repeat (first | exact np_post | refine np_then ?_ | refine np_in ?_)) rfl rfl rfl; (first | exact Y_move rfl rfl | exact Y_assign rfl rfl | exact R_field tabOk rfl rfl rfl rfl | exact R_load tabOk rfl rfl rfl rfl rfl rfl rfl rfl rfl | exact Y_ibin rfl rfl rfl rfl | exact Y_sbin rfl rfl rfl rfl | exact Y_not rfl rfl | exact Y_pick_t rfl rfl rfl rfl | exact Y_pick_f rfl rfl rfl rfl))
    (apply N_take (i := 55) rfl (by kernel_rfl) (by kernel_rfl) (by kernel_rfl) (by repeat (first | exact np_post | refine np_then ?_ | refine np_in ?_)) rfl rfl rfl; (first | exact Y_move rfl rfl | exact Y_assign rfl rfl | exact R_field tabOk rfl rfl rfl rfl | exact R_load tabOk rfl rfl rfl rfl rfl rfl rfl rfl rfl | exact Y_ibin rfl rfl rfl rfl | exact Y_sbin rfl rfl rfl rfl | exact Y_not rfl rfl | exact Y_pick_t rfl rfl rfl rfl | exact Y_pick_f rfl rfl rfl rfl))
    (apply N_take (i := 56) rfl (by kernel_rfl) (by kernel_rfl) (by kernel_rfl) (by repeat (first | exact np_post | refine np_then ?_ | refine np_in ?_)) rfl rfl rfl; (first | exact Y_move rfl rfl | exact Y_assign rfl rfl | exact R_field tabOk rfl rfl rfl rfl | exact R_load tabOk rfl rfl rfl rfl rfl rfl rfl rfl rfl | exact Y_ibin rfl rfl rfl rfl | exact Y_sbin rfl rfl rfl rfl | exact Y_not rfl rfl | exact Y_pick_t rfl rfl rfl rfl | exact Y_pick_f rfl rfl rfl rfl))
    (apply N_take (i := 57) rfl (by kernel_rfl) (by kernel_rfl) (by kernel_rfl) (by repeat (first | exact np_post | refine np_then ?_ | refine np_in ?_)) rfl rfl rfl; (first | exact Y_move rfl rfl | exact Y_assign rfl rfl | exact R_field tabOk rfl rfl rfl rfl | exact R_load tabOk rfl rfl rfl rfl rfl rfl rfl rfl rfl | exact Y_ibin rfl rfl rfl rfl | exact Y_sbin rfl rfl rfl rfl | exact Y_not rfl rfl | exact Y_pick_t rfl rfl rfl rfl | exact Y_pick_f rfl rfl rfl rfl))
    (apply N_take (i := 58) rfl (by kernel_rfl) (by kernel_rfl) (by kernel_rfl) (by repeat (first | exact np_post | refine np_then ?_ | refine np_in ?_)) rfl rfl rfl; (first | exact Y_move rfl rfl | exact Y_assign rfl rfl | exact R_field tabOk rfl rfl rfl rfl | exact R_load tabOk rfl rfl rfl rfl rfl rfl rfl rfl rfl | exact Y_ibin rfl rfl rfl rfl | exact Y_sbin rfl rfl rfl rfl | exact Y_not rfl rfl | exact Y_pick_t rfl rfl rfl rfl | exact Y_pick_f rfl rfl rfl rfl))
    (apply N_take (i := 60) rfl (by kernel_rfl) (by kernel_rfl) (by kernel_rfl) (by repeat (first | exact np_post | refine np_then ?_ | refine np_in ?_)) rfl rfl rfl; (first | exact Y_move rfl rfl | exact Y_assign rfl rfl | exact R_field tabOk rfl rfl rfl rfl | exact R_load tabOk rfl rfl rfl rfl rfl rfl rfl rfl rfl | exact Y_ibin rfl rfl rfl rfl | exact Y_sbin rfl rfl rfl rfl | exact Y_not rfl rfl | exact Y_pick_t rfl rfl rfl rfl | exact Y_pick_f rfl rfl rfl rfl))
    (apply N_take (i := 61) rfl (by kernel_rfl) (by kernel_rfl) (by kernel_rfl) (by repeat (first | exact np_post | refine np_then ?_ | refine np_in ?_)) rfl rfl rfl; (first | exact Y_move rfl rfl | exact Y_assign rfl rfl | exact R_field tabOk rfl rfl rfl rfl | exact R_load tabOk rfl rfl rfl rfl rfl rfl rfl rfl rfl | exact Y_ibin rfl rfl rfl rfl | exact Y_sbin rfl rfl rfl rfl | exact Y_not rfl rfl | exact Y_pick_t rfl rfl rfl rfl | exact Y_pick_f rfl rfl rfl rfl))
    (apply N_take (i := 62) rfl (by kernel_rfl) (by kernel_rfl) (by kernel_rfl) (by repeat (first | exact np_post | refine np_then ?_ | refine np_in ?_)) rfl rfl rfl; (first | exact Y_move rfl rfl | exact Y_assign rfl rfl | exact R_field tabOk rfl rfl rfl rfl | exact R_load tabOk rfl rfl rfl rfl rfl rfl rfl rfl rfl | exact Y_ibin rfl rfl rfl rfl | exact Y_sbin rfl rfl rfl rfl | exact Y_not rfl rfl | exact Y_pick_t rfl rfl rfl rfl | exact Y_pick_f rfl rfl rfl rfl))
    (apply N_take (i := 63) rfl (by kernel_rfl) (by kernel_rfl) (by kernel_rfl) (by repeat (first | exact np_post | refine np_then ?_ | refine np_in ?_)) rfl rfl rfl; (first | exact Y_move rfl rfl | exact Y_assign rfl rfl | exact R_field tabOk rfl rfl rfl rfl | exact R_load tabOk rfl rfl rfl rfl rfl rfl rfl rfl rfl | exact Y_ibin rfl rfl rfl rfl | exact Y_sbin rfl rfl rfl rfl | exact Y_not rfl rfl | exact Y_pick_t rfl rfl rfl rfl | exact Y_pick_f rfl rfl rfl rfl))
    (apply N_take (i := 64) rfl (by kernel_rfl) (by kernel_rfl) (by kernel_rfl) (by repeat (first | exact np_post | refine np_then ?_ | refine np_in ?_)) rfl rfl rfl; (first | exact Y_move rfl rfl | exact Y_assign rfl rfl | exact R_field tabOk rfl rfl rfl rfl | exact R_load tabOk rfl rfl rfl rfl rfl rfl rfl rfl rfl | exact Y_ibin rfl rfl rfl rfl | exact Y_sbin rfl rfl rfl rfl | exact Y_not rfl rfl | exact Y_pick_t rfl rfl rfl rfl | exact Y_pick_f rfl rfl rfl rfl))
    (apply N_take (i := 65) rfl (by kernel_rfl) (by kernel_rfl) (by kernel_rfl) (by repeat (first | exact np_post | refine np_then ?_ | refine np_in ?_)) rfl rfl rfl; (first | exact Y_move rfl rfl | exact Y_assign rfl rfl | exact R_field tabOk rfl rfl rfl rfl | exact R_load tabOk rfl rfl rfl rfl rfl rfl rfl rfl rfl | exact Y_ibin rfl rfl rfl rfl | exact Y_sbin rfl rfl rfl rfl | exact Y_not rfl rfl | exact Y_pick_t rfl rfl rfl rfl | exact Y_pick_f rfl rfl rfl rfl))
    (apply N_take (i := 66) rfl (by kernel_rfl) (by kernel_rfl) (by kernel_rfl) (by repeat (first | exact np_post | refine np_then ?_ | refine np_in ?_)) rfl rfl rfl; (first | exact Y_move rfl rfl | exact Y_assign rfl rfl | exact R_field tabOk rfl rfl rfl rfl | exact R_load tabOk rfl rfl rfl rfl rfl rfl rfl rfl rfl | exact Y_ibin rfl rfl rfl rfl | exact Y_sbin rfl rfl rfl rfl | exact Y_not rfl rfl | exact Y_pick_t rfl rfl rfl rfl | exact Y_pick_f rfl rfl rfl rfl))
    (apply N_take (i := 67) rfl (by kernel_rfl) (by kernel_rfl) (by kernel_rfl) (by repeat (first | exact np_post | refine np_then ?_ | refine np_in ?_)) rfl rfl rfl; (first | exact Y_move rfl rfl | exact Y_assign rfl rfl | exact R_field tabOk rfl rfl rfl rfl | exact R_load tabOk rfl rfl rfl rfl rfl rfl rfl rfl rfl | exact Y_ibin rfl rfl rfl rfl | exact Y_sbin rfl rfl rfl rfl | exact Y_not rfl rfl | exact Y_pick_t rfl rfl rfl rfl | exact Y_pick_f rfl rfl rfl rfl))
    (apply N_take (i := 68) rfl (by kernel_rfl) (by kernel_rfl) (by kernel_rfl) (by repeat (first | exact np_post | refine np_then ?_ | refine np_in ?_)) rfl rfl rfl; (first | exact Y_move rfl rfl | exact Y_assign rfl rfl | exact R_field tabOk rfl rfl rfl rfl | exact R_load tabOk rfl rfl rfl rfl rfl rfl rfl rfl rfl | exact Y_ibin rfl rfl rfl rfl | exact Y_sbin rfl rfl rfl rfl | exact Y_not rfl rfl | exact Y_pick_t rfl rfl rfl rfl | exact Y_pick_f rfl rfl rfl rfl))
    (apply N_take (i := 69) rfl (by kernel_rfl) (by kernel_rfl) (by kernel_rfl) (by repeat (first | exact np_post | refine np_then ?_ | refine np_in ?_)) rfl rfl rfl; (first | exact Y_move rfl rfl | exact Y_assign rfl rfl | exact R_field tabOk rfl rfl rfl rfl | exact R_load tabOk rfl rfl rfl rfl rfl rfl rfl rfl rfl | exact Y_ibin rfl rfl rfl rfl | exact Y_sbin rfl rfl rfl rfl | exact Y_not rfl rfl | exact Y_pick_t rfl rfl rfl rfl | exact Y_pick_f rfl rfl rfl rfl))
    (apply N_take (i := 71) rfl (by kernel_rfl) (by kernel_rfl) (by kernel_rfl) (by repeat (first | exact np_post | refine np_then ?_ | refine np_in ?_)) rfl rfl rfl; (first | exact Y_move rfl rfl | exact Y_assign rfl rfl | exact R_field tabOk rfl rfl rfl rfl | exact R_load tabOk rfl rfl rfl rfl rfl rfl rfl rfl rfl | exact Y_ibin rfl rfl rfl rfl | exact Y_sbin rfl rfl rfl rfl | exact Y_not rfl rfl | exact Y_pick_t rfl rfl rfl rfl | exact Y_pick_f rfl rfl rfl rfl))
    (apply N_take (i := 72) rfl (by kernel_rfl) (by kernel_rfl) (by kernel_rfl) (by repeat (first | exact np_post | refine np_then ?_ | refine np_in ?_)) rfl rfl rfl; (first | exact Y_move rfl rfl | exact Y_assign rfl rfl | exact R_field tabOk rfl rfl rfl rfl | exact R_load tabOk rfl rfl rfl rfl rfl rfl rfl rfl rfl | exact Y_ibin rfl rfl rfl rfl | exact Y_sbin rfl rfl rfl rfl | exact Y_not rfl rfl | exact Y_pick_t rfl rfl rfl rfl | exact Y_pick_f rfl rfl rfl rfl))
    (apply N_take (i := 73) rfl (by kernel_rfl) (by kernel_rfl) (by kernel_rfl) (by repeat (first | exact np_post | refine np_then ?_ | refine np_in ?_)) rfl rfl rfl; (first | exact Y_move rfl rfl | exact Y_assign rfl rfl | exact R_field tabOk rfl rfl rfl rfl | exact R_load tabOk rfl rfl rfl rfl rfl rfl rfl rfl rfl | exact Y_ibin rfl rfl rfl rfl | exact Y_sbin rfl rfl rfl rfl | exact Y_not rfl rfl | exact Y_pick_t rfl rfl rfl rfl | exact Y_pick_f rfl rfl rfl rfl))
    (apply N_take (i := 78) rfl (by kernel_rfl) (by kernel_rfl) (by kernel_rfl) (by repeat (first | exact np_post | refine np_then ?_ | refine np_in ?_)) rfl rfl rfl; (first | exact Y_move rfl rfl | exact Y_assign rfl rfl | exact R_field tabOk rfl rfl rfl rfl | exact R_load tabOk rfl rfl rfl rfl rfl rfl rfl rfl rfl | exact Y_ibin rfl rfl rfl rfl | exact Y_sbin rfl rfl rfl rfl | exact Y_not rfl rfl | exact Y_pick_t rfl rfl rfl rfl | exact Y_pick_f rfl rfl rfl rfl))
    (apply N_take (i := 79) rfl (by kernel_rfl) (by kernel_rfl) (by kernel_rfl) (by repeat (first | exact np_post | refine np_then ?_ | refine np_in ?_)) rfl rfl rfl; (first | exact Y_move rfl rfl | exact Y_assign rfl rfl | exact R_field tabOk rfl rfl rfl rfl | exact R_load tabOk rfl rfl rfl rfl rfl rfl rfl rfl rfl | exact Y_ibin rfl rfl rfl rfl | exact Y_sbin rfl rfl rfl rfl | exact Y_not rfl rfl | exact Y_pick_t rfl rfl rfl rfl | exact Y_pick_f rfl rfl rfl rfl))
    refine N_one (j := 4) (by kernel_rfl) ?_
    refine T_call rfl rfl rfl rfl rfl rfl h0 (fun _ => rfl) ?_
    refine N_one (j := 15) (by kernel_rfl) ?_
    refine T_call rfl rfl rfl rfl rfl rfl h1 (fun _ => rfl) ?_
    refine N_one (j := 26) (by kernel_rfl) ?_
    refine T_call rfl rfl rfl rfl rfl rfl h2 (fun _ => rfl) ?_
    refine N_one (j := 37) (by kernel_rfl) ?_
    refine T_call rfl rfl rfl rfl rfl rfl h3 (fun _ => rfl) ?_
    refine N_one (j := 48) (by kernel_rfl) ?_
    refine T_call rfl rfl rfl rfl rfl rfl h4 (fun _ => rfl) ?_
    refine N_one (j := 59) (by kernel_rfl) ?_
    refine T_call rfl rfl rfl rfl rfl rfl h5 (fun _ => rfl) ?_
    refine N_one (j := 70) (by kernel_rfl) ?_
    refine T_call rfl rfl rfl rfl rfl rfl h6 (fun _ => rfl) ?_
    (apply N_take (i := 74) rfl (by kernel_rfl) (by kernel_rfl) (by kernel_rfl) (by repeat (first | exact np_post | refine np_then ?_ | refine np_in ?_)) rfl rfl rfl; (first | exact Y_move rfl rfl | exact Y_assign rfl rfl | exact R_field tabOk rfl rfl rfl rfl | exact R_load tabOk rfl rfl rfl rfl rfl rfl rfl rfl rfl | exact Y_ibin rfl rfl rfl rfl | exact Y_sbin rfl rfl rfl rfl | exact Y_not rfl rfl | exact Y_pick_t rfl rfl rfl rfl | exact Y_pick_f rfl rfl rfl rfl))
    (apply N_take (i := 75) rfl (by kernel_rfl) (by kernel_rfl) (by kernel_rfl) (by repeat (first | exact np_post | refine np_then ?_ | refine np_in ?_)) rfl rfl rfl; (first | exact Y_move rfl rfl | exact Y_assign rfl rfl | exact R_field tabOk rfl rfl rfl rfl | exact R_load tabOk rfl rfl rfl rfl rfl rfl rfl rfl rfl | exact Y_ibin rfl rfl rfl rfl | exact Y_sbin rfl rfl rfl rfl | exact Y_not rfl rfl | exact Y_pick_t rfl rfl rfl rfl | exact Y_pick_f rfl rfl rfl rfl))
    (apply N_take (i := 76) rfl (by kernel_rfl) (by kernel_rfl) (by kernel_rfl) (by repeat (first | exact np_post | refine np_then ?_ | refine np_in ?_)) rfl rfl rfl; (first | exact Y_move rfl rfl | exact Y_assign rfl rfl | exact R_field tabOk rfl rfl rfl rfl | exact R_load tabOk rfl rfl rfl rfl rfl rfl rfl rfl rfl | exact Y_ibin rfl rfl rfl rfl | exact Y_sbin rfl rfl rfl rfl | exact Y_not rfl rfl | exact Y_pick_t rfl rfl rfl rfl | exact Y_pick_f rfl rfl rfl rfl))
    (apply N_take (i := 77) rfl (by kernel_rfl) (by kernel_rfl) (by kernel_rfl) (by repeat (first | exact np_post | refine np_then ?_ | refine np_in ?_)) rfl rfl rfl; (first | exact Y_move rfl rfl | exact Y_assign rfl rfl | exact R_field tabOk rfl rfl rfl rfl | exact R_load tabOk rfl rfl rfl rfl rfl rfl rfl rfl rfl | exact Y_ibin rfl rfl rfl rfl | exact Y_sbin rfl rfl rfl rfl | exact Y_not rfl rfl | exact Y_pick_t rfl rfl rfl rfl | exact Y_pick_f rfl rfl rfl rfl))
    (apply N_take (i := 80) rfl (by kernel_rfl) (by kernel_rfl) (by kernel_rfl) (by repeat (first | exact np_post | refine np_then ?_ | refine np_in ?_)) rfl rfl rfl; (first | exact Y_move rfl rfl | exact Y_assign rfl rfl | exact R_field tabOk rfl rfl rfl rfl | exact R_load tabOk rfl rfl rfl rfl rfl rfl rfl rfl rfl | exact Y_ibin rfl rfl rfl rfl | exact Y_sbin rfl rfl rfl rfl | exact Y_not rfl rfl | exact Y_pick_t rfl rfl rfl rfl | exact Y_pick_f rfl rfl rfl rfl))
    refine N_skip (i := 81) rfl (by kernel_rfl) (by kernel_rfl) (by kernel_rfl) (by repeat (first | exact np_post | refine np_then ?_ | refine np_in ?_)) rfl rfl rfl ?_
    refine N_skip (i := 82) rfl (by kernel_rfl) (by kernel_rfl) (by kernel_rfl) (by repeat (first | exact np_post | refine np_then ?_ | refine np_in ?_)) rfl rfl rfl ?_
    refine N_skip (i := 83) rfl (by kernel_rfl) (by kernel_rfl) (by kernel_rfl) (by repeat (first | exact np_post | refine np_then ?_ | refine np_in ?_)) rfl rfl rfl ?_
    (apply N_take (i := 84) rfl (by kernel_rfl) (by kernel_rfl) (by kernel_rfl) (by repeat (first | exact np_post | refine np_then ?_ | refine np_in ?_)) rfl rfl rfl; (first | exact Y_move rfl rfl | exact Y_assign rfl rfl | exact R_field tabOk rfl rfl rfl rfl | exact R_load tabOk rfl rfl rfl rfl rfl rfl rfl rfl rfl | exact Y_ibin rfl rfl rfl rfl | exact Y_sbin rfl rfl rfl rfl | exact Y_not rfl rfl | exact Y_pick_t rfl rfl rfl rfl | exact Y_pick_f rfl rfl rfl rfl))
    refine N_one (j := 85) (by kernel_rfl) ?_
    refine T_call rfl rfl rfl rfl rfl rfl h7 (fun _ => rfl) ?_
    refine N_one (j := 86) (by kernel_rfl) ?_
    refine T_slice tabOk rfl rfl rfl rfl rfl rfl rfl rfl rfl rfl rfl rfl ?_
    refine N_one (j := 87) (by kernel_rfl) ?_
    refine T_cL rfl rfl rfl rfl rfl rfl h9 rfl (fun _ _ _ => val_mk _ _ _ _ _ rfl rfl) ?_
    (apply N_take (i := 88) rfl (by kernel_rfl) (by kernel_rfl) (by kernel_rfl) (by repeat (first | exact np_post | refine np_then ?_ | refine np_in ?_)) rfl rfl rfl; (first | exact Y_move rfl rfl | exact Y_assign rfl rfl | exact R_field tabOk rfl rfl rfl rfl | exact R_load tabOk rfl rfl rfl rfl rfl rfl rfl rfl rfl | exact Y_ibin rfl rfl rfl rfl | exact Y_sbin rfl rfl rfl rfl | exact Y_not rfl rfl | exact Y_pick_t rfl rfl rfl rfl | exact Y_pick_f rfl rfl rfl rfl))
    refine N_done (by kernel_rfl) ?_
    repeat (first | refine A_seq ?_ | refine A_block ?_ | refine R_list ?_ | refine R_quiet rfl mixed (by kernel_rfl) ?_ | ((first | apply O_y rfl rfl rfl | apply Q_y rfl rfl rfl); (first | exact Y_move rfl rfl | exact Y_assign rfl rfl | exact R_index tabOk rfl rfl rfl rfl rfl rfl (by omega) | exact R_fieldi tabOk rfl rfl rfl | exact R_loadi tabOk rfl rfl rfl rfl rfl rfl rfl | exact R_len tabOk rfl rfl rfl | exact R_load tabOk rfl rfl rfl rfl rfl rfl rfl rfl rfl | exact R_field tabOk rfl rfl rfl rfl | exact Y_addn rfl rfl rfl | exact Y_subn rfl rfl rfl | exact R_cmpT rfl rfl rfl rfl | exact R_cmpF rfl rfl rfl rfl | exact Y_ibin rfl rfl rfl rfl | exact Y_extract rfl rfl rfl | exact R_lenr tabOk rfl rfl rfl rfl | exact R_lenn tabOk rfl rfl rfl | exact R_indexr tabOk rfl rfl rfl rfl rfl rfl rfl (by omega) | exact R_fielde tabOk rfl rfl rfl rfl | exact R_loade tabOk rfl rfl rfl rfl rfl rfl rfl rfl rfl | exact Y_not rfl rfl | exact Y_pick_t rfl rfl (by first | rfl | assumption) rfl | exact Y_pick_f rfl rfl (by first | rfl | assumption) rfl | exact Y_pick_b rfl rfl rfl rfl | exact R_build tabOk rfl rfl rfl rfl rfl rfl | fail)) | refine O_nil ?_ | refine Q_nil ?_ | refine X_then_normal ?_ | refine X_in_normal ?_ | refine O_box rfl rfl rfl rfl rfl rfl rfl ?_ | refine O_alloc tabOk rfl rfl rfl rfl rfl rfl ?_ | refine O_store tabOk rfl rfl rfl rfl rfl rfl rfl rfl rfl rfl rfl ?_ | refine O_slice tabOk rfl rfl rfl rfl rfl rfl rfl rfl rfl rfl rfl ?_ | refine A_ct rfl ?_ | refine A_cf rfl ?_ | refine A_skip ?_ | refine A_exit ?_ | refine A_ret ?_ | refine X_then_exit ?_ | refine X_then_ret ?_ | refine X_in_same ?_ | refine X_in_other rfl ?_ | refine X_in_ret ?_ | refine O_s rfl rfl rfl ?_ | refine Q_s rfl rfl rfl ?_ | refine O_sn rfl rfl ?_ | fail)
    exact X_ret rfl ⟨rfl, rfl⟩
  | true =>
    have h7 := one_A false (!y.x)
    rw [oneI_cB2] at h7
    refine N_begin [] mixed ?_
    (apply N_take (i := 0) rfl (by kernel_rfl) (by kernel_rfl) (by kernel_rfl) (by repeat (first | exact np_post | refine np_then ?_ | refine np_in ?_)) rfl rfl rfl; (first | exact Y_move rfl rfl | exact Y_assign rfl rfl | exact R_field tabOk rfl rfl rfl rfl | exact R_load tabOk rfl rfl rfl rfl rfl rfl rfl rfl rfl | exact Y_ibin rfl rfl rfl rfl | exact Y_sbin rfl rfl rfl rfl | exact Y_not rfl rfl | exact Y_pick_t rfl rfl rfl rfl | exact Y_pick_f rfl rfl rfl rfl))
    (apply N_take (i := 1) rfl (by kernel_rfl) (by kernel_rfl) (by kernel_rfl) (by repeat (first | exact np_post | refine np_then ?_ | refine np_in ?_)) rfl rfl rfl; (first | exact Y_move rfl rfl | exact Y_assign rfl rfl | exact R_field tabOk rfl rfl rfl rfl | exact R_load tabOk rfl rfl rfl rfl rfl rfl rfl rfl rfl | exact Y_ibin rfl rfl rfl rfl | exact Y_sbin rfl rfl rfl rfl | exact Y_not rfl rfl | exact Y_pick_t rfl rfl rfl rfl | exact Y_pick_f rfl rfl rfl rfl))
    (apply N_take (i := 2) rfl (by kernel_rfl) (by kernel_rfl) (by kernel_rfl) (by repeat (first | exact np_post | refine np_then ?_ | refine np_in ?_)) rfl rfl rfl; (first | exact Y_move rfl rfl | exact Y_assign rfl rfl | exact R_field tabOk rfl rfl rfl rfl | exact R_load tabOk rfl rfl rfl rfl rfl rfl rfl rfl rfl | exact Y_ibin rfl rfl rfl rfl | exact Y_sbin rfl rfl rfl rfl | exact Y_not rfl rfl | exact Y_pick_t rfl rfl rfl rfl | exact Y_pick_f rfl rfl rfl rfl))
    (apply N_take (i := 3) rfl (by kernel_rfl) (by kernel_rfl) (by kernel_rfl) (by repeat (first | exact np_post | refine np_then ?_ | refine np_in ?_)) rfl rfl rfl; (first | exact Y_move rfl rfl | exact Y_assign rfl rfl | exact R_field tabOk rfl rfl rfl rfl | exact R_load tabOk rfl rfl rfl rfl rfl rfl rfl rfl rfl | exact Y_ibin rfl rfl rfl rfl | exact Y_sbin rfl rfl rfl rfl | exact Y_not rfl rfl | exact Y_pick_t rfl rfl rfl rfl | exact Y_pick_f rfl rfl rfl rfl))
    (apply N_take (i := 5) rfl (by kernel_rfl) (by kernel_rfl) (by kernel_rfl) (by repeat (first | exact np_post | refine np_then ?_ | refine np_in ?_)) rfl rfl rfl; (first | exact Y_move rfl rfl | exact Y_assign rfl rfl | exact R_field tabOk rfl rfl rfl rfl | exact R_load tabOk rfl rfl rfl rfl rfl rfl rfl rfl rfl | exact Y_ibin rfl rfl rfl rfl | exact Y_sbin rfl rfl rfl rfl | exact Y_not rfl rfl | exact Y_pick_t rfl rfl rfl rfl | exact Y_pick_f rfl rfl rfl rfl))
    (apply N_take (i := 6) rfl (by kernel_rfl) (by kernel_rfl) (by kernel_rfl) (by repeat (first | exact np_post | refine np_then ?_ | refine np_in ?_)) rfl rfl rfl; (first | exact Y_move rfl rfl | exact Y_assign rfl rfl | exact R_field tabOk rfl rfl rfl rfl | exact R_load tabOk rfl rfl rfl rfl rfl rfl rfl rfl rfl | exact Y_ibin rfl rfl rfl rfl | exact Y_sbin rfl rfl rfl rfl | exact Y_not rfl rfl | exact Y_pick_t rfl rfl rfl rfl | exact Y_pick_f rfl rfl rfl rfl))
    (apply N_take (i := 7) rfl (by kernel_rfl) (by kernel_rfl) (by kernel_rfl) (by repeat (first | exact np_post | refine np_then ?_ | refine np_in ?_)) rfl rfl rfl; (first | exact Y_move rfl rfl | exact Y_assign rfl rfl | exact R_field tabOk rfl rfl rfl rfl | exact R_load tabOk rfl rfl rfl rfl rfl rfl rfl rfl rfl | exact Y_ibin rfl rfl rfl rfl | exact Y_sbin rfl rfl rfl rfl | exact Y_not rfl rfl | exact Y_pick_t rfl rfl rfl rfl | exact Y_pick_f rfl rfl rfl rfl))
    (apply N_take (i := 8) rfl (by kernel_rfl) (by kernel_rfl) (by kernel_rfl) (by repeat (first | exact np_post | refine np_then ?_ | refine np_in ?_)) rfl rfl rfl; (first | exact Y_move rfl rfl | exact Y_assign rfl rfl | exact R_field tabOk rfl rfl rfl rfl | exact R_load tabOk rfl rfl rfl rfl rfl rfl rfl rfl rfl | exact Y_ibin rfl rfl rfl rfl | exact Y_sbin rfl rfl rfl rfl | exact Y_not rfl rfl | exact Y_pick_t rfl rfl rfl rfl | exact Y_pick_f rfl rfl rfl rfl))
    (apply N_take (i := 9) rfl (by kernel_rfl) (by kernel_rfl) (by kernel_rfl) (by repeat (first | exact np_post | refine np_then ?_ | refine np_in ?_)) rfl rfl rfl; (first | exact Y_move rfl rfl | exact Y_assign rfl rfl | exact R_field tabOk rfl rfl rfl rfl | exact R_load tabOk rfl rfl rfl rfl rfl rfl rfl rfl rfl | exact Y_ibin rfl rfl rfl rfl | exact Y_sbin rfl rfl rfl rfl | exact Y_not rfl rfl | exact Y_pick_t rfl rfl rfl rfl | exact Y_pick_f rfl rfl rfl rfl))
    (apply N_take (i := 10) rfl (by kernel_rfl) (by kernel_rfl) (by kernel_rfl) (by repeat (first | exact np_post | refine np_then ?_ | refine np_in ?_)) rfl rfl rfl; (first | exact Y_move rfl rfl | exact Y_assign rfl rfl | exact R_field tabOk rfl rfl rfl rfl | exact R_load tabOk rfl rfl rfl rfl rfl rfl rfl rfl rfl | exact Y_ibin rfl rfl rfl rfl | exact Y_sbin rfl rfl rfl rfl | exact Y_not rfl rfl | exact Y_pick_t rfl rfl rfl rfl | exact Y_pick_f rfl rfl rfl rfl))
    (apply N_take (i := 11) rfl (by kernel_rfl) (by kernel_rfl) (by kernel_rfl) (by repeat (first | exact np_post | refine np_then ?_ | refine np_in ?_)) rfl rfl rfl; (first | exact Y_move rfl rfl | exact Y_assign rfl rfl | exact R_field tabOk rfl rfl rfl rfl | exact R_load tabOk rfl rfl rfl rfl rfl rfl rfl rfl rfl | exact Y_ibin rfl rfl rfl rfl | exact Y_sbin rfl rfl rfl rfl | exact Y_not rfl rfl | exact Y_pick_t rfl rfl rfl rfl | exact Y_pick_f rfl rfl rfl rfl))
    (apply N_take (i := 12) rfl (by kernel_rfl) (by kernel_rfl) (by kernel_rfl) (by repeat (first | exact np_post | refine np_then ?_ | refine np_in ?_)) rfl rfl rfl; (first | exact Y_move rfl rfl | exact Y_assign rfl rfl | exact R_field tabOk rfl rfl rfl rfl | exact R_load tabOk rfl rfl rfl rfl rfl rfl rfl rfl rfl | exact Y_ibin rfl rfl rfl rfl | exact Y_sbin rfl rfl rfl rfl | exact Y_not rfl rfl | exact Y_pick_t rfl rfl rfl rfl | exact Y_pick_f rfl rfl rfl rfl))
    (apply N_take (i := 13) rfl (by kernel_rfl) (by kernel_rfl) (by kernel_rfl) (by repeat (first | exact np_post | refine np_then ?_ | refine np_in ?_)) rfl rfl rfl; (first | exact Y_move rfl rfl | exact Y_assign rfl rfl | exact R_field tabOk rfl rfl rfl rfl | exact R_load tabOk rfl rfl rfl rfl rfl rfl rfl rfl rfl | exact Y_ibin rfl rfl rfl rfl | exact Y_sbin rfl rfl rfl rfl | exact Y_not rfl rfl | exact Y_pick_t rfl rfl rfl rfl | exact Y_pick_f rfl rfl rfl rfl))
    (apply N_take (i := 14) rfl (by kernel_rfl) (by kernel_rfl) (by kernel_rfl) (by repeat (first | exact np_post | refine np_then ?_ | refine np_in ?_)) rfl rfl rfl; (first | exact Y_move rfl rfl | exact Y_assign rfl rfl | exact R_field tabOk rfl rfl rfl rfl | exact R_load tabOk rfl rfl rfl rfl rfl rfl rfl rfl rfl | exact Y_ibin rfl rfl rfl rfl | exact Y_sbin rfl rfl rfl rfl | exact Y_not rfl rfl | exact Y_pick_t rfl rfl rfl rfl | exact Y_pick_f rfl rfl rfl rfl))
    (apply N_take (i := 16) rfl (by kernel_rfl) (by kernel_rfl) (by kernel_rfl) (by repeat (first | exact np_post | refine np_then ?_ | refine np_in ?_)) rfl rfl rfl; (first | exact Y_move rfl rfl | exact Y_assign rfl rfl | exact R_field tabOk rfl rfl rfl rfl | exact R_load tabOk rfl rfl rfl rfl rfl rfl rfl rfl rfl | exact Y_ibin rfl rfl rfl rfl | exact Y_sbin rfl rfl rfl rfl | exact Y_not rfl rfl | exact Y_pick_t rfl rfl rfl rfl | exact Y_pick_f rfl rfl rfl rfl))
    (apply N_take (i := 17) rfl (by kernel_rfl) (by kernel_rfl) (by kernel_rfl) (by repeat (first | exact np_post | refine np_then ?_ | refine np_in ?_)) rfl rfl rfl; (first | exact Y_move rfl rfl | exact Y_assign rfl rfl | exact R_field tabOk rfl rfl rfl rfl | exact R_load tabOk rfl rfl rfl rfl rfl rfl rfl rfl rfl | exact Y_ibin rfl rfl rfl rfl | exact Y_sbin rfl rfl rfl rfl | exact Y_not rfl rfl | exact Y_pick_t rfl rfl rfl rfl | exact Y_pick_f rfl rfl rfl rfl))
    (apply N_take (i := 18) rfl (by kernel_rfl) (by kernel_rfl) (by kernel_rfl) (by repeat (first | exact np_post | refine np_then ?_ | refine np_in ?_)) rfl rfl rfl; (first | exact Y_move rfl rfl | exact Y_assign rfl rfl | exact R_field tabOk rfl rfl rfl rfl | exact R_load tabOk rfl rfl rfl rfl rfl rfl rfl rfl rfl | exact Y_ibin rfl rfl rfl rfl | exact Y_sbin rfl rfl rfl rfl | exact Y_not rfl rfl | exact Y_pick_t rfl rfl rfl rfl | exact Y_pick_f rfl rfl rfl rfl))
    (apply N_take (i := 19) rfl (by kernel_rfl) (by kernel_rfl) (by kernel_rfl) (by repeat (first | exact np_post | refine np_then ?_ | refine np_in ?_)) rfl rfl rfl; (first | exact Y_move rfl rfl | exact Y_assign rfl rfl | exact R_field tabOk rfl rfl rfl rfl | exact R_load tabOk rfl rfl rfl rfl rfl rfl rfl rfl rfl | exact Y_ibin rfl rfl rfl rfl | exact Y_sbin rfl rfl rfl rfl | exact Y_not rfl rfl | exact Y_pick_t rfl rfl rfl rfl | exact Y_pick_f rfl rfl rfl rfl))
    (apply N_take (i := 20) rfl (by kernel_rfl) (by kernel_rfl) (by kernel_rfl) (by repeat (first | exact np_post | refine np_then ?_ | refine np_in ?_)) rfl rfl rfl; (first | exact Y_move rfl rfl | exact Y_assign rfl rfl | exact R_field tabOk rfl rfl rfl rfl | exact R_load tabOk rfl rfl rfl rfl rfl rfl rfl rfl rfl | exact Y_ibin rfl rfl rfl rfl | exact Y_sbin rfl rfl rfl rfl | exact Y_not rfl rfl | exact Y_pick_t rfl rfl rfl rfl | exact Y_pick_f rfl rfl rfl rfl))
    (apply N_take (i := 21) rfl (by kernel_rfl) (by kernel_rfl) (by kernel_rfl) (by repeat (first | exact np_post | refine np_then ?_ | refine np_in ?_)) rfl rfl rfl; (first | exact Y_move rfl rfl | exact Y_assign rfl rfl | exact R_field tabOk rfl rfl rfl rfl | exact R_load tabOk rfl rfl rfl rfl rfl rfl rfl rfl rfl | exact Y_ibin rfl rfl rfl rfl | exact Y_sbin rfl rfl rfl rfl | exact Y_not rfl rfl | exact Y_pick_t rfl rfl rfl rfl | exact Y_pick_f rfl rfl rfl rfl))
    (apply N_take (i := 22) rfl (by kernel_rfl) (by kernel_rfl) (by kernel_rfl) (by repeat (first | exact np_post | refine np_then ?_ | refine np_in ?_)) rfl rfl rfl; (first | exact Y_move rfl rfl | exact Y_assign rfl rfl | exact R_field tabOk rfl rfl rfl rfl | exact R_load tabOk rfl rfl rfl rfl rfl rfl rfl rfl rfl | exact Y_ibin rfl rfl rfl rfl | exact Y_sbin rfl rfl rfl rfl | exact Y_not rfl rfl | exact Y_pick_t rfl rfl rfl rfl | exact Y_pick_f rfl rfl rfl rfl))
    (apply N_take (i := 23) rfl (by kernel_rfl) (by kernel_rfl) (by kernel_rfl) (by repeat (first | exact np_post | refine np_then ?_ | refine np_in ?_)) rfl rfl rfl; (first | exact Y_move rfl rfl | exact Y_assign rfl rfl | exact R_field tabOk rfl rfl rfl rfl | exact R_load tabOk rfl rfl rfl rfl rfl rfl rfl rfl rfl | exact Y_ibin rfl rfl rfl rfl | exact Y_sbin rfl rfl rfl rfl | exact Y_not rfl rfl | exact Y_pick_t rfl rfl rfl rfl | exact Y_pick_f rfl rfl rfl rfl))
    (apply N_take (i := 24) rfl (by kernel_rfl) (by kernel_rfl) (by kernel_rfl) (by repeat (first | exact np_post | refine np_then ?_ | refine np_in ?_)) rfl rfl rfl; (first | exact Y_move rfl rfl | exact Y_assign rfl rfl | exact R_field tabOk rfl rfl rfl rfl | exact R_load tabOk rfl rfl rfl rfl rfl rfl rfl rfl rfl | exact Y_ibin rfl rfl rfl rfl | exact Y_sbin rfl rfl rfl rfl | exact Y_not rfl rfl | exact Y_pick_t rfl rfl rfl rfl | exact Y_pick_f rfl rfl rfl rfl))
    (apply N_take (i := 25) rfl (by kernel_rfl) (by kernel_rfl) (by kernel_rfl) (by repeat (first | exact np_post | refine np_then ?_ | refine np_in ?_)) rfl rfl rfl; (first | exact Y_move rfl rfl | exact Y_assign rfl rfl | exact R_field tabOk rfl rfl rfl rfl | exact R_load tabOk rfl rfl rfl rfl rfl rfl rfl rfl rfl | exact Y_ibin rfl rfl rfl rfl | exact Y_sbin rfl rfl rfl rfl | exact Y_not rfl rfl | exact Y_pick_t rfl rfl rfl rfl | exact Y_pick_f rfl rfl rfl rfl))
    (apply N_take (i := 27) rfl (by kernel_rfl) (by kernel_rfl) (by kernel_rfl) (by repeat (first | exact np_post | refine np_then ?_ | refine np_in ?_)) rfl rfl rfl; (first | exact Y_move rfl rfl | exact Y_assign rfl rfl | exact R_field tabOk rfl rfl rfl rfl | exact R_load tabOk rfl rfl rfl rfl rfl rfl rfl rfl rfl | exact Y_ibin rfl rfl rfl rfl | exact Y_sbin rfl rfl rfl rfl | exact Y_not rfl rfl | exact Y_pick_t rfl rfl rfl rfl | exact Y_pick_f rfl rfl rfl rfl))
    (apply N_take (i := 28) rfl (by kernel_rfl) (by kernel_rfl) (by kernel_rfl) (by repeat (first | exact np_post | refine np_then ?_ | refine np_in ?_)) rfl rfl rfl; (first | exact Y_move rfl rfl | exact Y_assign rfl rfl | exact R_field tabOk rfl rfl rfl rfl | exact R_load tabOk rfl rfl rfl rfl rfl rfl rfl rfl rfl | exact Y_ibin rfl rfl rfl rfl | exact Y_sbin rfl rfl rfl rfl | exact Y_not rfl rfl | exact Y_pick_t rfl rfl rfl rfl | exact Y_pick_f rfl rfl rfl rfl))
    (apply N_take (i := 29) rfl (by kernel_rfl) (by kernel_rfl) (by kernel_rfl) (by repeat (first | exact np_post | refine np_then ?_ | refine np_in ?_)) rfl rfl rfl; (first | exact Y_move rfl rfl | exact Y_assign rfl rfl | exact R_field tabOk rfl rfl rfl rfl | exact R_load tabOk rfl rfl rfl rfl rfl rfl rfl rfl rfl | exact Y_ibin rfl rfl rfl rfl | exact Y_sbin rfl rfl rfl rfl | exact Y_not rfl rfl | exact Y_pick_t rfl rfl rfl rfl | exact Y_pick_f rfl rfl rfl rfl))
    (apply N_take (i := 30) rfl (by kernel_rfl) (by kernel_rfl) (by kernel_rfl) (by repeat (first | exact np_post | refine np_then ?_ | refine np_in ?_)) rfl rfl rfl; (first | exact Y_move rfl rfl | exact Y_assign rfl rfl | exact R_field tabOk rfl rfl rfl rfl | exact R_load tabOk rfl rfl rfl rfl rfl rfl rfl rfl rfl | exact Y_ibin rfl rfl rfl rfl | exact Y_sbin rfl rfl rfl rfl | exact Y_not rfl rfl | exact Y_pick_t rfl rfl rfl rfl | exact Y_pick_f rfl rfl rfl rfl))
    (apply N_take (i := 31) rfl (by kernel_rfl) (by kernel_rfl) (by kernel_rfl) (by repeat (first | exact np_post | refine np_then ?_ | refine np_in ?_)) rfl rfl rfl; (first | exact Y_move rfl rfl | exact Y_assign rfl rfl | exact R_field tabOk rfl rfl rfl rfl | exact R_load tabOk rfl rfl rfl rfl rfl rfl rfl rfl rfl | exact Y_ibin rfl rfl rfl rfl | exact Y_sbin rfl rfl rfl rfl | exact Y_not rfl rfl | exact Y_pick_t rfl rfl rfl rfl | exact Y_pick_f rfl rfl rfl rfl))
    (apply N_take (i := 32) rfl (by kernel_rfl) (by kernel_rfl) (by kernel_rfl) (by repeat (first | exact np_post | refine np_then ?_ | refine np_in ?_)) rfl rfl rfl; (first | exact Y_move rfl rfl | exact Y_assign rfl rfl | exact R_field tabOk rfl rfl rfl rfl | exact R_load tabOk rfl rfl rfl rfl rfl rfl rfl rfl rfl | exact Y_ibin rfl rfl rfl rfl | exact Y_sbin rfl rfl rfl rfl | exact Y_not rfl rfl | exact Y_pick_t rfl rfl rfl rfl | exact Y_pick_f rfl rfl rfl rfl))
    (apply N_take (i := 33) rfl (by kernel_rfl) (by kernel_rfl) (by kernel_rfl) (by repeat (first | exact np_post | refine np_then ?_ | refine np_in ?_)) rfl rfl rfl; (first | exact Y_move rfl rfl | exact Y_assign rfl rfl | exact R_field tabOk rfl rfl rfl rfl | exact R_load tabOk rfl rfl rfl rfl rfl rfl rfl rfl rfl | exact Y_ibin rfl rfl rfl rfl | exact Y_sbin rfl rfl rfl rfl | exact Y_not rfl rfl | exact Y_pick_t rfl rfl rfl rfl | exact Y_pick_f rfl rfl rfl rfl))
    (apply N_take (i := 34) rfl (by kernel_rfl) (by kernel_rfl) (by kernel_rfl) (by repeat (first | exact np_post | refine np_then ?_ | refine np_in ?_)) rfl rfl rfl; (first | exact Y_move rfl rfl | exact Y_assign rfl rfl | exact R_field tabOk rfl rfl rfl rfl | exact R_load tabOk rfl rfl rfl rfl rfl rfl rfl rfl rfl | exact Y_ibin rfl rfl rfl rfl | exact Y_sbin rfl rfl rfl rfl | exact Y_not rfl rfl | exact Y_pick_t rfl rfl rfl rfl | exact Y_pick_f rfl rfl rfl rfl))
    (apply N_take (i := 35) rfl (by kernel_rfl) (by kernel_rfl) (by kernel_rfl) (by repeat (first | exact np_post | refine np_then ?_ | refine np_in ?_)) rfl rfl rfl; (first | exact Y_move rfl rfl | exact Y_assign rfl rfl | exact R_field tabOk rfl rfl rfl rfl | exact R_load tabOk rfl rfl rfl rfl rfl rfl rfl rfl rfl | exact Y_ibin rfl rfl rfl rfl | exact Y_sbin rfl rfl rfl rfl | exact Y_not rfl rfl | exact Y_pick_t rfl rfl rfl rfl | exact Y_pick_f rfl rfl rfl rfl))
    (apply N_take (i := 36) rfl (by kernel_rfl) (by kernel_rfl) (by kernel_rfl) (by repeat (first | exact np_post | refine np_then ?_ | refine np_in ?_)) rfl rfl rfl; (first | exact Y_move rfl rfl | exact Y_assign rfl rfl | exact R_field tabOk rfl rfl rfl rfl | exact R_load tabOk rfl rfl rfl rfl rfl rfl rfl rfl rfl | exact Y_ibin rfl rfl rfl rfl | exact Y_sbin rfl rfl rfl rfl | exact Y_not rfl rfl | exact Y_pick_t rfl rfl rfl rfl | exact Y_pick_f rfl rfl rfl rfl))
    (apply N_take (i := 38) rfl (by kernel_rfl) (by kernel_rfl) (by kernel_rfl) (by repeat (first | exact np_post | refine np_then ?_ | refine np_in ?_)) rfl rfl rfl; (first | exact Y_move rfl rfl | exact Y_assign rfl rfl | exact R_field tabOk rfl rfl rfl rfl | exact R_load tabOk rfl rfl rfl rfl rfl rfl rfl rfl rfl | exact Y_ibin rfl rfl rfl rfl | exact Y_sbin rfl rfl rfl rfl | exact Y_not rfl rfl | exact Y_pick_t rfl rfl rfl rfl | exact Y_pick_f rfl rfl rfl rfl))
    (apply N_take (i := 39) rfl (by kernel_rfl) (by kernel_rfl) (by kernel_rfl) (by repeat (first | exact np_post | refine np_then ?_ | refine np_in ?_)) rfl rfl rfl; (first | exact Y_move rfl rfl | exact Y_assign rfl rfl | exact R_field tabOk rfl rfl rfl rfl | exact R_load tabOk rfl rfl rfl rfl rfl rfl rfl rfl rfl | exact Y_ibin rfl rfl rfl rfl | exact Y_sbin rfl rfl rfl rfl | exact Y_not rfl rfl | exact Y_pick_t rfl rfl rfl rfl | exact Y_pick_f rfl rfl rfl rfl))
    (apply N_take (i := 40) rfl (by kernel_rfl) (by kernel_rfl) (by kernel_rfl) (by repeat (first | exact np_post | refine np_then ?_ | refine np_in ?_)) rfl rfl rfl; (first | exact Y_move rfl rfl | exact Y_assign rfl rfl | exact R_field tabOk rfl rfl rfl rfl | exact R_load tabOk rfl rfl rfl rfl rfl rfl rfl rfl rfl | exact Y_ibin rfl rfl rfl rfl | exact Y_sbin rfl rfl rfl rfl | exact Y_not rfl rfl | exact Y_pick_t rfl rfl rfl rfl | exact Y_pick_f rfl rfl rfl rfl))
    (apply N_take (i := 41) rfl (by kernel_rfl) (by kernel_rfl) (by kernel_rfl) (by repeat (first | exact np_post | refine np_then ?_ | refine np_in ?_)) rfl rfl rfl; (first | exact Y_move rfl rfl | exact Y_assign rfl rfl | exact R_field tabOk rfl rfl rfl rfl | exact R_load tabOk rfl rfl rfl rfl rfl rfl rfl rfl rfl | exact Y_ibin rfl rfl rfl rfl | exact Y_sbin rfl rfl rfl rfl | exact Y_not rfl rfl | exact Y_pick_t rfl rfl rfl rfl | exact Y_pick_f rfl rfl rfl rfl))
    (apply N_take (i := 42) rfl (by kernel_rfl) (by kernel_rfl) (by kernel_rfl) (by repeat (first | exact np_post | refine np_then ?_ | refine np_in ?_)) rfl rfl rfl; (first | exact Y_move rfl rfl | exact Y_assign rfl rfl | exact R_field tabOk rfl rfl rfl rfl | exact R_load tabOk rfl rfl rfl rfl rfl rfl rfl rfl rfl | exact Y_ibin rfl rfl rfl rfl | exact Y_sbin rfl rfl rfl rfl | exact Y_not rfl rfl | exact Y_pick_t rfl rfl rfl rfl | exact Y_pick_f rfl rfl rfl rfl))
    (apply N_take (i := 43) rfl (by kernel_rfl) (by kernel_rfl) (by kernel_rfl) (by repeat (first | exact np_post | refine np_then ?_ | refine np_in ?_)) rfl rfl rfl; (first | exact Y_move rfl rfl | exact Y_assign rfl rfl | exact R_field tabOk rfl rfl rfl rfl | exact R_load tabOk rfl rfl rfl rfl rfl rfl rfl rfl rfl | exact Y_ibin rfl rfl rfl rfl | exact Y_sbin rfl rfl rfl rfl | exact Y_not rfl rfl | exact Y_pick_t rfl rfl rfl rfl | exact Y_pick_f rfl rfl rfl rfl))
    (apply N_take (i := 44) rfl (by kernel_rfl) (by kernel_rfl) (by kernel_rfl) (by repeat (first | exact np_post | refine np_then ?_ | refine np_in ?_)) rfl rfl rfl; (first | exact Y_move rfl rfl | exact Y_assign rfl rfl | exact R_field tabOk rfl rfl rfl rfl | exact R_load tabOk rfl rfl rfl rfl rfl rfl rfl rfl rfl | exact Y_ibin rfl rfl rfl rfl | exact Y_sbin rfl rfl rfl rfl | exact Y_not rfl rfl | exact Y_pick_t rfl rfl rfl rfl | exact Y_pick_f rfl rfl rfl rfl))
    (apply N_take (i := 45) rfl (by kernel_rfl) (by kernel_rfl) (by kernel_rfl) (by repeat (first | exact np_post | refine np_then ?_ | refine np_in ?_)) rfl rfl rfl; (first | exact Y_move rfl rfl | exact Y_assign rfl rfl | exact R_field tabOk rfl rfl rfl rfl | exact R_load tabOk rfl rfl rfl rfl rfl rfl rfl rfl rfl | exact Y_ibin rfl rfl rfl rfl | exact Y_sbin rfl rfl rfl rfl | exact Y_not rfl rfl | exact Y_pick_t rfl rfl rfl rfl | exact Y_pick_f rfl rfl rfl rfl))
    (apply N_take (i := 46) rfl (by kernel_rfl) (by kernel_rfl) (by kernel_rfl) (by repeat (first | exact np_post | refine np_then ?_ | refine np_in ?_)) rfl rfl rfl; (first | exact Y_move rfl rfl | exact Y_assign rfl rfl | exact R_field tabOk rfl rfl rfl rfl | exact R_load tabOk rfl rfl rfl rfl rfl rfl rfl rfl rfl | exact Y_ibin rfl rfl rfl rfl | exact Y_sbin rfl rfl rfl rfl | exact Y_not rfl rfl | exact Y_pick_t rfl rfl rfl rfl | exact Y_pick_f rfl rfl rfl rfl))
    (apply N_take (i := 47) rfl (by kernel_rfl) (by kernel_rfl) (by kernel_rfl) (by repeat (first | exact np_post | refine np_then ?_ | refine np_in ?_)) rfl rfl rfl; (first | exact Y_move rfl rfl | exact Y_assign rfl rfl | exact R_field tabOk rfl rfl rfl rfl | exact R_load tabOk rfl rfl rfl rfl rfl rfl rfl rfl rfl | exact Y_ibin rfl rfl rfl rfl | exact Y_sbin rfl rfl rfl rfl | exact Y_not rfl rfl | exact Y_pick_t rfl rfl rfl rfl | exact Y_pick_f rfl rfl rfl rfl))
    (apply N_take (i := 49) rfl (by kernel_rfl) (by kernel_rfl) (by kernel_rfl) (by repeat (first | exact np_post | refine np_then ?_ | refine np_in ?_)) rfl rfl rfl; (first | exact Y_move rfl rfl | exact Y_assign rfl rfl | exact R_field tabOk rfl rfl rfl rfl | exact R_load tabOk rfl rfl rfl rfl rfl rfl rfl rfl rfl | exact Y_ibin rfl rfl rfl rfl | exact Y_sbin rfl rfl rfl rfl | exact Y_not rfl rfl | exact Y_pick_t rfl rfl rfl rfl | exact Y_pick_f rfl rfl rfl rfl))
    (apply N_take (i := 50) rfl (by kernel_rfl) (by kernel_rfl) (by kernel_rfl) (by repeat (first | exact np_post | refine np_then ?_ | refine np_in ?_)) rfl rfl rfl; (first | exact Y_move rfl rfl | exact Y_assign rfl rfl | exact R_field tabOk rfl rfl rfl rfl | exact R_load tabOk rfl rfl rfl rfl rfl rfl rfl rfl rfl | exact Y_ibin rfl rfl rfl rfl | exact Y_sbin rfl rfl rfl rfl | exact Y_not rfl rfl | exact Y_pick_t rfl rfl rfl rfl | exact Y_pick_f rfl rfl rfl rfl))
    (apply N_take (i := 51) rfl (by kernel_rfl) (by kernel_rfl) (by kernel_rfl) (by repeat (first | exact np_post | refine np_then ?_ | refine np_in ?_)) rfl rfl rfl; (first | exact Y_move rfl rfl | exact Y_assign rfl rfl | exact R_field tabOk rfl rfl rfl rfl | exact R_load tabOk rfl rfl rfl rfl rfl rfl rfl rfl rfl | exact Y_ibin rfl rfl rfl rfl | exact Y_sbin rfl rfl rfl rfl | exact Y_not rfl rfl | exact Y_pick_t rfl rfl rfl rfl | exact Y_pick_f rfl rfl rfl rfl))
    (apply N_take (i := 52) rfl (by kernel_rfl) (by kernel_rfl) (by kernel_rfl) (by repeat (first | exact np_post | refine np_then ?_ | refine np_in ?_)) rfl rfl rfl; (first | exact Y_move rfl rfl | exact Y_assign rfl rfl | exact R_field tabOk rfl rfl rfl rfl | exact R_load tabOk rfl rfl rfl rfl rfl rfl rfl rfl rfl | exact Y_ibin rfl rfl rfl rfl | exact Y_sbin rfl rfl rfl rfl | exact Y_not rfl rfl | exact Y_pick_t rfl rfl rfl rfl | exact Y_pick_f rfl rfl rfl rfl))
    (apply N_take (i := 53) rfl (by kernel_rfl) (by kernel_rfl) (by kernel_rfl) (by repeat (first | exact np_post | refine np_then ?_ | refine np_in ?_)) rfl rfl rfl; (first | exact Y_move rfl rfl | exact Y_assign rfl rfl | exact R_field tabOk rfl rfl rfl rfl | exact R_load tabOk rfl rfl rfl rfl rfl rfl rfl rfl rfl | exact Y_ibin rfl rfl rfl rfl | exact Y_sbin rfl rfl rfl rfl | exact Y_not rfl rfl | exact Y_pick_t rfl rfl rfl rfl | exact Y_pick_f rfl rfl rfl rfl))
    (apply N_take (i := 54) rfl (by kernel_rfl) (by kernel_rfl) (by kernel_rfl) (by repeat (first | exact np_post | refine np_then ?_ | refine np_in ?_)) rfl rfl rfl; (first | exact Y_move rfl rfl | exact Y_assign rfl rfl | exact R_field tabOk rfl rfl rfl rfl | exact R_load tabOk rfl rfl rfl rfl rfl rfl rfl rfl rfl | exact Y_ibin rfl rfl rfl rfl | exact Y_sbin rfl rfl rfl rfl | exact Y_not rfl rfl | exact Y_pick_t rfl rfl rfl rfl | exact Y_pick_f rfl rfl rfl rfl))
    (apply N_take (i := 55) rfl (by kernel_rfl) (by kernel_rfl) (by kernel_rfl) (by repeat (first | exact np_post | refine np_then ?_ | refine np_in ?_)) rfl rfl rfl; (first | exact Y_move rfl rfl | exact Y_assign rfl rfl | exact R_field tabOk rfl rfl rfl rfl | exact R_load tabOk rfl rfl rfl rfl rfl rfl rfl rfl rfl | exact Y_ibin rfl rfl rfl rfl | exact Y_sbin rfl rfl rfl rfl | exact Y_not rfl rfl | exact Y_pick_t rfl rfl rfl rfl | exact Y_pick_f rfl rfl rfl rfl))
    (apply N_take (i := 56) rfl (by kernel_rfl) (by kernel_rfl) (by kernel_rfl) (by repeat (first | exact np_post | refine np_then ?_ | refine np_in ?_)) rfl rfl rfl; (first | exact Y_move rfl rfl | exact Y_assign rfl rfl | exact R_field tabOk rfl rfl rfl rfl | exact R_load tabOk rfl rfl rfl rfl rfl rfl rfl rfl rfl | exact Y_ibin rfl rfl rfl rfl | exact Y_sbin rfl rfl rfl rfl | exact Y_not rfl rfl | exact Y_pick_t rfl rfl rfl rfl | exact Y_pick_f rfl rfl rfl rfl))
    (apply N_take (i := 57) rfl (by kernel_rfl) (by kernel_rfl) (by kernel_rfl) (by repeat (first | exact np_post | refine np_then ?_ | refine np_in ?_)) rfl rfl rfl; (first | exact Y_move rfl rfl | exact Y_assign rfl rfl | exact R_field tabOk rfl rfl rfl rfl | exact R_load tabOk rfl rfl rfl rfl rfl rfl rfl rfl rfl | exact Y_ibin rfl rfl rfl rfl | exact Y_sbin rfl rfl rfl rfl | exact Y_not rfl rfl | exact Y_pick_t rfl rfl rfl rfl | exact Y_pick_f rfl rfl rfl rfl))
    (apply N_take (i := 58) rfl (by kernel_rfl) (by kernel_rfl) (by kernel_rfl) (by repeat (first | exact np_post | refine np_then ?_ | refine np_in ?_)) rfl rfl rfl; (first | exact Y_move rfl rfl | exact Y_assign rfl rfl | exact R_field tabOk rfl rfl rfl rfl | exact R_load tabOk rfl rfl rfl rfl rfl rfl rfl rfl rfl | exact Y_ibin rfl rfl rfl rfl | exact Y_sbin rfl rfl rfl rfl | exact Y_not rfl rfl | exact Y_pick_t rfl rfl rfl rfl | exact Y_pick_f rfl rfl rfl rfl))
    (apply N_take (i := 60) rfl (by kernel_rfl) (by kernel_rfl) (by kernel_rfl) (by repeat (first | exact np_post | refine np_then ?_ | refine np_in ?_)) rfl rfl rfl; (first | exact Y_move rfl rfl | exact Y_assign rfl rfl | exact R_field tabOk rfl rfl rfl rfl | exact R_load tabOk rfl rfl rfl rfl rfl rfl rfl rfl rfl | exact Y_ibin rfl rfl rfl rfl | exact Y_sbin rfl rfl rfl rfl | exact Y_not rfl rfl | exact Y_pick_t rfl rfl rfl rfl | exact Y_pick_f rfl rfl rfl rfl))
    (apply N_take (i := 61) rfl (by kernel_rfl) (by kernel_rfl) (by kernel_rfl) (by repeat (first | exact np_post | refine np_then ?_ | refine np_in ?_)) rfl rfl rfl; (first | exact Y_move rfl rfl | exact Y_assign rfl rfl | exact R_field tabOk rfl rfl rfl rfl | exact R_load tabOk rfl rfl rfl rfl rfl rfl rfl rfl rfl | exact Y_ibin rfl rfl rfl rfl | exact Y_sbin rfl rfl rfl rfl | exact Y_not rfl rfl | exact Y_pick_t rfl rfl rfl rfl | exact Y_pick_f rfl rfl rfl rfl))
    (apply N_take (i := 62) rfl (by kernel_rfl) (by kernel_rfl) (by kernel_rfl) (by repeat (first | exact np_post | refine np_then ?_ | refine np_in ?_)) rfl rfl rfl; (first | exact Y_move rfl rfl | exact Y_assign rfl rfl | exact R_field tabOk rfl rfl rfl rfl | exact R_load tabOk rfl rfl rfl rfl rfl rfl rfl rfl rfl | exact Y_ibin rfl rfl rfl rfl | exact Y_sbin rfl rfl rfl rfl | exact Y_not rfl rfl | exact Y_pick_t rfl rfl rfl rfl | exact Y_pick_f rfl rfl rfl rfl))
    (apply N_take (i := 63) rfl (by kernel_rfl) (by kernel_rfl) (by kernel_rfl) (by repeat (first | exact np_post | refine np_then ?_ | refine np_in ?_)) rfl rfl rfl; (first | exact Y_move rfl rfl | exact Y_assign rfl rfl | exact R_field tabOk rfl rfl rfl rfl | exact R_load tabOk rfl rfl rfl rfl rfl rfl rfl rfl rfl | exact Y_ibin rfl rfl rfl rfl | exact Y_sbin rfl rfl rfl rfl | exact Y_not rfl rfl | exact Y_pick_t rfl rfl rfl rfl | exact Y_pick_f rfl rfl rfl rfl))
    (apply N_take (i := 64) rfl (by kernel_rfl) (by kernel_rfl) (by kernel_rfl) (by repeat (first | exact np_post | refine np_then ?_ | refine np_in ?_)) rfl rfl rfl; (first | exact Y_move rfl rfl | exact Y_assign rfl rfl | exact R_field tabOk rfl rfl rfl rfl | exact R_load tabOk rfl rfl rfl rfl rfl rfl rfl rfl rfl | exact Y_ibin rfl rfl rfl rfl | exact Y_sbin rfl rfl rfl rfl | exact Y_not rfl rfl | exact Y_pick_t rfl rfl rfl rfl | exact Y_pick_f rfl rfl rfl rfl))
    (apply N_take (i := 65) rfl (by kernel_rfl) (by kernel_rfl) (by kernel_rfl) (by repeat (first | exact np_post | refine np_then ?_ | refine np_in ?_)) rfl rfl rfl; (first | exact Y_move rfl rfl | exact Y_assign rfl rfl | exact R_field tabOk rfl rfl rfl rfl | exact R_load tabOk rfl rfl rfl rfl rfl rfl rfl rfl rfl | exact Y_ibin rfl rfl rfl rfl | exact Y_sbin rfl rfl rfl rfl | exact Y_not rfl rfl | exact Y_pick_t rfl rfl rfl rfl | exact Y_pick_f rfl rfl rfl rfl))
    (apply N_take (i := 66) rfl (by kernel_rfl) (by kernel_rfl) (by kernel_rfl) (by repeat (first | exact np_post | refine np_then ?_ | refine np_in ?_)) rfl rfl rfl; (first | exact Y_move rfl rfl | exact Y_assign rfl rfl | exact R_field tabOk rfl rfl rfl rfl | exact R_load tabOk rfl rfl rfl rfl rfl rfl rfl rfl rfl | exact Y_ibin rfl rfl rfl rfl | exact Y_sbin rfl rfl rfl rfl | exact Y_not rfl rfl | exact Y_pick_t rfl rfl rfl rfl | exact Y_pick_f rfl rfl rfl rfl))
    (apply N_take (i := 67) rfl (by kernel_rfl) (by kernel_rfl) (by kernel_rfl) (by repeat (first | exact np_post | refine np_then ?_ | refine np_in ?_)) rfl rfl rfl; (first | exact Y_move rfl rfl | exact Y_assign rfl rfl | exact R_field tabOk rfl rfl rfl rfl | exact R_load tabOk rfl rfl rfl rfl rfl rfl rfl rfl rfl | exact Y_ibin rfl rfl rfl rfl | exact Y_sbin rfl rfl rfl rfl | exact Y_not rfl rfl | exact Y_pick_t rfl rfl rfl rfl | exact Y_pick_f rfl rfl rfl rfl))
    (apply N_take (i := 68) rfl (by kernel_rfl) (by kernel_rfl) (by kernel_rfl) (by repeat (first | exact np_post | refine np_then ?_ | refine np_in ?_)) rfl rfl rfl; (first | exact Y_move rfl rfl | exact Y_assign rfl rfl | exact R_field tabOk rfl rfl rfl rfl | exact R_load tabOk rfl rfl rfl rfl rfl rfl rfl rfl rfl | exact Y_ibin rfl rfl rfl rfl | exact Y_sbin rfl rfl rfl rfl | exact Y_not rfl rfl | exact Y_pick_t rfl rfl rfl rfl | exact Y_pick_f rfl rfl rfl rfl))
    (apply N_take (i := 69) rfl (by kernel_rfl) (by kernel_rfl) (by kernel_rfl) (by repeat (first | exact np_post | refine np_then ?_ | refine np_in ?_)) rfl rfl rfl; (first | exact Y_move rfl rfl | exact Y_assign rfl rfl | exact R_field tabOk rfl rfl rfl rfl | exact R_load tabOk rfl rfl rfl rfl rfl rfl rfl rfl rfl | exact Y_ibin rfl rfl rfl rfl | exact Y_sbin rfl rfl rfl rfl | exact Y_not rfl rfl | exact Y_pick_t rfl rfl rfl rfl | exact Y_pick_f rfl rfl rfl rfl))
    (apply N_take (i := 71) rfl (by kernel_rfl) (by kernel_rfl) (by kernel_rfl) (by repeat (first | exact np_post | refine np_then ?_ | refine np_in ?_)) rfl rfl rfl; (first | exact Y_move rfl rfl | exact Y_assign rfl rfl | exact R_field tabOk rfl rfl rfl rfl | exact R_load tabOk rfl rfl rfl rfl rfl rfl rfl rfl rfl | exact Y_ibin rfl rfl rfl rfl | exact Y_sbin rfl rfl rfl rfl | exact Y_not rfl rfl | exact Y_pick_t rfl rfl rfl rfl | exact Y_pick_f rfl rfl rfl rfl))
    (apply N_take (i := 72) rfl (by kernel_rfl) (by kernel_rfl) (by kernel_rfl) (by repeat (first | exact np_post | refine np_then ?_ | refine np_in ?_)) rfl rfl rfl; (first | exact Y_move rfl rfl | exact Y_assign rfl rfl | exact R_field tabOk rfl rfl rfl rfl | exact R_load tabOk rfl rfl rfl rfl rfl rfl rfl rfl rfl | exact Y_ibin rfl rfl rfl rfl | exact Y_sbin rfl rfl rfl rfl | exact Y_not rfl rfl | exact Y_pick_t rfl rfl rfl rfl | exact Y_pick_f rfl rfl rfl rfl))
    (apply N_take (i := 73) rfl (by kernel_rfl) (by kernel_rfl) (by kernel_rfl) (by repeat (first | exact np_post | refine np_then ?_ | refine np_in ?_)) rfl rfl rfl; (first | exact Y_move rfl rfl | exact Y_assign rfl rfl | exact R_field tabOk rfl rfl rfl rfl | exact R_load tabOk rfl rfl rfl rfl rfl rfl rfl rfl rfl | exact Y_ibin rfl rfl rfl rfl | exact Y_sbin rfl rfl rfl rfl | exact Y_not rfl rfl | exact Y_pick_t rfl rfl rfl rfl | exact Y_pick_f rfl rfl rfl rfl))
    (apply N_take (i := 78) rfl (by kernel_rfl) (by kernel_rfl) (by kernel_rfl) (by repeat (first | exact np_post | refine np_then ?_ | refine np_in ?_)) rfl rfl rfl; (first | exact Y_move rfl rfl | exact Y_assign rfl rfl | exact R_field tabOk rfl rfl rfl rfl | exact R_load tabOk rfl rfl rfl rfl rfl rfl rfl rfl rfl | exact Y_ibin rfl rfl rfl rfl | exact Y_sbin rfl rfl rfl rfl | exact Y_not rfl rfl | exact Y_pick_t rfl rfl rfl rfl | exact Y_pick_f rfl rfl rfl rfl))
    (apply N_take (i := 79) rfl (by kernel_rfl) (by kernel_rfl) (by kernel_rfl) (by repeat (first | exact np_post | refine np_then ?_ | refine np_in ?_)) rfl rfl rfl; (first | exact Y_move rfl rfl | exact Y_assign rfl rfl | exact R_field tabOk rfl rfl rfl rfl | exact R_load tabOk rfl rfl rfl rfl rfl rfl rfl rfl rfl | exact Y_ibin rfl rfl rfl rfl | exact Y_sbin rfl rfl rfl rfl | exact Y_not rfl rfl | exact Y_pick_t rfl rfl rfl rfl | exact Y_pick_f rfl rfl rfl rfl))
    refine N_one (j := 4) (by kernel_rfl) ?_
    refine T_call rfl rfl rfl rfl rfl rfl h0 (fun _ => rfl) ?_
    refine N_one (j := 15) (by kernel_rfl) ?_
    refine T_call rfl rfl rfl rfl rfl rfl h1 (fun _ => rfl) ?_
    refine N_one (j := 26) (by kernel_rfl) ?_
    refine T_call rfl rfl rfl rfl rfl rfl h2 (fun _ => rfl) ?_
    refine N_one (j := 37) (by kernel_rfl) ?_
    refine T_call rfl rfl rfl rfl rfl rfl h3 (fun _ => rfl) ?_
    refine N_one (j := 48) (by kernel_rfl) ?_
    refine T_call rfl rfl rfl rfl rfl rfl h4 (fun _ => rfl) ?_
    refine N_one (j := 59) (by kernel_rfl) ?_
    refine T_call rfl rfl rfl rfl rfl rfl h5 (fun _ => rfl) ?_
    refine N_one (j := 70) (by kernel_rfl) ?_
    refine T_call rfl rfl rfl rfl rfl rfl h6 (fun _ => rfl) ?_
    (apply N_take (i := 74) rfl (by kernel_rfl) (by kernel_rfl) (by kernel_rfl) (by repeat (first | exact np_post | refine np_then ?_ | refine np_in ?_)) rfl rfl rfl; (first | exact Y_move rfl rfl | exact Y_assign rfl rfl | exact R_field tabOk rfl rfl rfl rfl | exact R_load tabOk rfl rfl rfl rfl rfl rfl rfl rfl rfl | exact Y_ibin rfl rfl rfl rfl | exact Y_sbin rfl rfl rfl rfl | exact Y_not rfl rfl | exact Y_pick_t rfl rfl rfl rfl | exact Y_pick_f rfl rfl rfl rfl))
    refine N_skip (i := 75) rfl (by kernel_rfl) (by kernel_rfl) (by kernel_rfl) (by repeat (first | exact np_post | refine np_then ?_ | refine np_in ?_)) rfl rfl rfl ?_
    refine N_skip (i := 76) rfl (by kernel_rfl) (by kernel_rfl) (by kernel_rfl) (by repeat (first | exact np_post | refine np_then ?_ | refine np_in ?_)) rfl rfl rfl ?_
    (apply N_take (i := 77) rfl (by kernel_rfl) (by kernel_rfl) (by kernel_rfl) (by repeat (first | exact np_post | refine np_then ?_ | refine np_in ?_)) rfl rfl rfl; (first | exact Y_move rfl rfl | exact Y_assign rfl rfl | exact R_field tabOk rfl rfl rfl rfl | exact R_load tabOk rfl rfl rfl rfl rfl rfl rfl rfl rfl | exact Y_ibin rfl rfl rfl rfl | exact Y_sbin rfl rfl rfl rfl | exact Y_not rfl rfl | exact Y_pick_t rfl rfl rfl rfl | exact Y_pick_f rfl rfl rfl rfl))
    (apply N_take (i := 80) rfl (by kernel_rfl) (by kernel_rfl) (by kernel_rfl) (by repeat (first | exact np_post | refine np_then ?_ | refine np_in ?_)) rfl rfl rfl; (first | exact Y_move rfl rfl | exact Y_assign rfl rfl | exact R_field tabOk rfl rfl rfl rfl | exact R_load tabOk rfl rfl rfl rfl rfl rfl rfl rfl rfl | exact Y_ibin rfl rfl rfl rfl | exact Y_sbin rfl rfl rfl rfl | exact Y_not rfl rfl | exact Y_pick_t rfl rfl rfl rfl | exact Y_pick_f rfl rfl rfl rfl))
    (apply N_take (i := 81) rfl (by kernel_rfl) (by kernel_rfl) (by kernel_rfl) (by repeat (first | exact np_post | refine np_then ?_ | refine np_in ?_)) rfl rfl rfl; (first | exact Y_move rfl rfl | exact Y_assign rfl rfl | exact R_field tabOk rfl rfl rfl rfl | exact R_load tabOk rfl rfl rfl rfl rfl rfl rfl rfl rfl | exact Y_ibin rfl rfl rfl rfl | exact Y_sbin rfl rfl rfl rfl | exact Y_not rfl rfl | exact Y_pick_t rfl rfl rfl rfl | exact Y_pick_f rfl rfl rfl rfl))
    (apply N_take (i := 82) rfl (by kernel_rfl) (by kernel_rfl) (by kernel_rfl) (by repeat (first | exact np_post | refine np_then ?_ | refine np_in ?_)) rfl rfl rfl; (first | exact Y_move rfl rfl | exact Y_assign rfl rfl | exact R_field tabOk rfl rfl rfl rfl | exact R_load tabOk rfl rfl rfl rfl rfl rfl rfl rfl rfl | exact Y_ibin rfl rfl rfl rfl | exact Y_sbin rfl rfl rfl rfl | exact Y_not rfl rfl | exact Y_pick_t rfl rfl rfl rfl | exact Y_pick_f rfl rfl rfl rfl))
    (apply N_take (i := 83) rfl (by kernel_rfl) (by kernel_rfl) (by kernel_rfl) (by repeat (first | exact np_post | refine np_then ?_ | refine np_in ?_)) rfl rfl rfl; (first | exact Y_move rfl rfl | exact Y_assign rfl rfl | exact R_field tabOk rfl rfl rfl rfl | exact R_load tabOk rfl rfl rfl rfl rfl rfl rfl rfl rfl | exact Y_ibin rfl rfl rfl rfl | exact Y_sbin rfl rfl rfl rfl | exact Y_not rfl rfl | exact Y_pick_t rfl rfl rfl rfl | exact Y_pick_f rfl rfl rfl rfl))
    (apply N_take (i := 84) rfl (by kernel_rfl) (by kernel_rfl) (by kernel_rfl) (by repeat (first | exact np_post | refine np_then ?_ | refine np_in ?_)) rfl rfl rfl; (first | exact Y_move rfl rfl | exact Y_assign rfl rfl | exact R_field tabOk rfl rfl rfl rfl | exact R_load tabOk rfl rfl rfl rfl rfl rfl rfl rfl rfl | exact Y_ibin rfl rfl rfl rfl | exact Y_sbin rfl rfl rfl rfl | exact Y_not rfl rfl | exact Y_pick_t rfl rfl rfl rfl | exact Y_pick_f rfl rfl rfl rfl))
    refine N_one (j := 85) (by kernel_rfl) ?_
    refine T_call rfl rfl rfl rfl rfl rfl h7 (fun _ => rfl) ?_
    refine N_one (j := 86) (by kernel_rfl) ?_
    refine T_slice tabOk rfl rfl rfl rfl rfl rfl rfl rfl rfl rfl rfl rfl ?_
    refine N_one (j := 87) (by kernel_rfl) ?_
    refine T_cL rfl rfl rfl rfl rfl rfl h9 rfl (fun _ _ _ => val_mk _ _ _ _ _ rfl rfl) ?_
    (apply N_take (i := 88) rfl (by kernel_rfl) (by kernel_rfl) (by kernel_rfl) (by repeat (first | exact np_post | refine np_then ?_ | refine np_in ?_)) rfl rfl rfl; (first | exact Y_move rfl rfl | exact Y_assign rfl rfl | exact R_field tabOk rfl rfl rfl rfl | exact R_load tabOk rfl rfl rfl rfl rfl rfl rfl rfl rfl | exact Y_ibin rfl rfl rfl rfl | exact Y_sbin rfl rfl rfl rfl | exact Y_not rfl rfl | exact Y_pick_t rfl rfl rfl rfl | exact Y_pick_f rfl rfl rfl rfl))
    refine N_done (by kernel_rfl) ?_
    repeat (first | refine A_seq ?_ | refine A_block ?_ | refine R_list ?_ | refine R_quiet rfl mixed (by kernel_rfl) ?_ | ((first | apply O_y rfl rfl rfl | apply Q_y rfl rfl rfl); (first | exact Y_move rfl rfl | exact Y_assign rfl rfl | exact R_index tabOk rfl rfl rfl rfl rfl rfl (by omega) | exact R_fieldi tabOk rfl rfl rfl | exact R_loadi tabOk rfl rfl rfl rfl rfl rfl rfl | exact R_len tabOk rfl rfl rfl | exact R_load tabOk rfl rfl rfl rfl rfl rfl rfl rfl rfl | exact R_field tabOk rfl rfl rfl rfl | exact Y_addn rfl rfl rfl | exact Y_subn rfl rfl rfl | exact R_cmpT rfl rfl rfl rfl | exact R_cmpF rfl rfl rfl rfl | exact Y_ibin rfl rfl rfl rfl | exact Y_extract rfl rfl rfl | exact R_lenr tabOk rfl rfl rfl rfl | exact R_lenn tabOk rfl rfl rfl | exact R_indexr tabOk rfl rfl rfl rfl rfl rfl rfl (by omega) | exact R_fielde tabOk rfl rfl rfl rfl | exact R_loade tabOk rfl rfl rfl rfl rfl rfl rfl rfl rfl | exact Y_not rfl rfl | exact Y_pick_t rfl rfl (by first | rfl | assumption) rfl | exact Y_pick_f rfl rfl (by first | rfl | assumption) rfl | exact Y_pick_b rfl rfl rfl rfl | exact R_build tabOk rfl rfl rfl rfl rfl rfl | fail)) | refine O_nil ?_ | refine Q_nil ?_ | refine X_then_normal ?_ | refine X_in_normal ?_ | refine O_box rfl rfl rfl rfl rfl rfl rfl ?_ | refine O_alloc tabOk rfl rfl rfl rfl rfl rfl ?_ | refine O_store tabOk rfl rfl rfl rfl rfl rfl rfl rfl rfl rfl rfl ?_ | refine O_slice tabOk rfl rfl rfl rfl rfl rfl rfl rfl rfl rfl rfl ?_ | refine A_ct rfl ?_ | refine A_cf rfl ?_ | refine A_skip ?_ | refine A_exit ?_ | refine A_ret ?_ | refine X_then_exit ?_ | refine X_then_ret ?_ | refine X_in_same ?_ | refine X_in_other rfl ?_ | refine X_in_ret ?_ | refine O_s rfl rfl rfl ?_ | refine Q_s rfl rfl rfl ?_ | refine O_sn rfl rfl ?_ | fail)
    exact X_ret rfl ⟨rfl, rfl⟩
end Go.Proofs.Ytjfmiehpncginaa.Ab

namespace Go.Proofs.Ytjfmiehpncginaa
set_option linter.unusedVariables false
set_option linter.unusedSectionVars false
open Go.RowKit Go.Sort

section
variable {κ ν : Type} [DecidableEq κ]
/-- The place and the value of a key. -/
def mget : List (κ × ν) → κ → Option (Nat × ν)
  | [], _ => none
  | (k', v) :: r, k => if k = k' then some (0, v) else (mget r k).map fun x => (x.1 + 1, x.2)
def aget (l : List (κ × ν)) (k : κ) : Option ν := (mget l k).map (·.2)
def aput (l : List (κ × ν)) (k : κ) (v : ν) : List (κ × ν) := match mget l k with
  | some (i, _) => l.set i (k, v)
  | none => l ++ [(k, v)]
def adel (l : List (κ × ν)) (k : κ) : List (κ × ν) := match mget l k with
  | some (i, _) => l.eraseIdx i
  | none => l

theorem mget_some {l : List (κ × ν)} {k : κ} {i : Nat} {v : ν} (h : mget l k = some (i, v)) : l[i]? = some (k, v) := by
  induction l generalizing i with
  | nil => cases h
  | cons p r ih =>
    obtain ⟨k', v'⟩ := p
    unfold mget at h
    split at h
    · rename_i e
      injection h with h
      injection h with h1 h2
      subst h1 h2 e
      rfl
    · cases hr : mget r k with
      | none => simp [hr] at h
      | some x =>
        simp only [hr, Option.map_some, Option.some.injEq, Prod.mk.injEq] at h
        obtain ⟨rfl, rfl⟩ := h
        simpa using ih hr
theorem mget_none {l : List (κ × ν)} {k : κ} (h : mget l k = none) : ∀ p ∈ l, p.1 ≠ k := by
  induction l with
  | nil => intro p hp; cases hp
  | cons q r ih =>
    obtain ⟨k', v'⟩ := q
    unfold mget at h
    split at h
    · cases h
    · rename_i hne
      intro p hp
      rcases List.mem_cons.1 hp with rfl | hp
      · exact fun e => hne e.symm
      · exact ih (by simpa using h) p hp
theorem aget_none {l : List (κ × ν)} {k : κ} (h : aget l k = none) : ∀ p ∈ l, p.1 ≠ k := mget_none (by simpa [aget] using h)
theorem mem_of_aget {l : List (κ × ν)} {k : κ} {v : ν} (h : aget l k = some v) : (k, v) ∈ l := by
  unfold aget at h
  cases hm : mget l k with
  | none => simp [hm] at h
  | some x =>
    obtain ⟨i, u⟩ := x
    simp [hm] at h
    subst h
    exact List.mem_of_getElem? (mget_some hm)
theorem aget_of_mem {l : List (κ × ν)} (hn : (l.map (·.1)).Nodup) {k : κ} {v : ν} (h : (k, v) ∈ l) : aget l k = some v := by
  cases hg : aget l k with
  | none => exact absurd rfl (aget_none hg _ h)
  | some u =>
    have h2 := mem_of_aget hg
    have : ∀ {l : List (κ × ν)}, (l.map (·.1)).Nodup → ∀ {u v : ν}, (k, u) ∈ l → (k, v) ∈ l → u = v := by
      intro l
      induction l with
      | nil => intro _ u v h; cases h
      | cons p r ih =>
        intro hn u v hu hv
        rw [List.map_cons, List.nodup_cons] at hn
        rcases List.mem_cons.1 hu with hu | hu
        · rcases List.mem_cons.1 hv with hv | hv
          · rw [← hu] at hv; injection hv with _ h; exact h.symm
          · exact absurd (List.mem_map.2 ⟨_, hv, by rw [← hu]⟩) hn.1
        · rcases List.mem_cons.1 hv with hv | hv
          · exact absurd (List.mem_map.2 ⟨_, hu, by rw [← hv]⟩) hn.1
          · exact ih hn.2 hu hv
    rw [this hn h2 h]
theorem aput_length {l : List (κ × ν)} {k : κ} {v : ν} : (aput l k v).length = if (aget l k).isSome then l.length else l.length + 1 := by
  unfold aput aget
  cases h : mget l k <;> simp
theorem set_keys {l : List (κ × ν)} {k : κ} {u v : ν} {i : Nat} (h : l[i]? = some (k, u)) : (l.set i (k, v)).map (·.1) = l.map (·.1) := by
  apply List.ext_getElem?
  intro j
  rw [List.getElem?_map, List.getElem?_set, List.getElem?_map]
  split
  · rename_i e
    subst e
    obtain ⟨hlt, h2⟩ := List.getElem?_eq_some_iff.1 h
    simp [hlt, h2]
  · rfl
theorem aput_nodup {l : List (κ × ν)} {k : κ} {v : ν} (hn : (l.map (·.1)).Nodup) : ((aput l k v).map (·.1)).Nodup := by
  unfold aput
  cases h : mget l k with
  | some x => obtain ⟨i, u⟩ := x; simp only; rw [set_keys (mget_some h)]; exact hn
  | none =>
    simp only [List.map_append, List.map_cons, List.map_nil]
    rw [List.nodup_append]
    refine ⟨hn, by simp, ?_⟩
    intro a ha b hb
    simp at hb
    subst hb
    obtain ⟨p, hp, rfl⟩ := List.mem_map.1 ha
    exact mget_none h p hp
theorem adel_nodup {l : List (κ × ν)} {k : κ} (hn : (l.map (·.1)).Nodup) : ((adel l k).map (·.1)).Nodup := by
  unfold adel
  cases h : mget l k with
  | some x => obtain ⟨i, u⟩ := x; exact hn.sublist ((List.eraseIdx_sublist l i).map _)
  | none => exact hn
theorem mem_aput {l : List (κ × ν)} (hn : (l.map (·.1)).Nodup) {k : κ} {v : ν} {p : κ × ν} : p ∈ aput l k v ↔ p = (k, v) ∨ p.1 ≠ k ∧ p ∈ l := by
  have hnd := aput_nodup (k := k) (v := v) hn
  unfold aput at *
  cases h : mget l k with
  | none =>
    have hnone := mget_none h
    simp only [List.mem_append, List.mem_singleton]
    constructor
    · rintro (h1 | h1)
      · exact .inr ⟨hnone p h1, h1⟩
      · exact .inl h1
    · rintro (h1 | ⟨_, h1⟩)
      · exact .inr h1
      · exact .inl h1
  | some x =>
    obtain ⟨i, u⟩ := x
    have hi := mget_some h
    have hlt : i < l.length := (List.getElem?_eq_some_iff.1 hi).1
    simp only [h] at hnd
    simp only
    constructor
    · intro hp
      by_cases hk : p.1 = k
      · left
        have h1 : (k, v) ∈ l.set i (k, v) := List.mem_of_getElem? (i := i) (by rw [List.getElem?_set]; simp [hlt])
        have e1 := aget_of_mem hnd h1
        have e2 := aget_of_mem hnd (k := k) (v := p.2) (by rw [show (k, p.2) = p from by rw [← hk]]; exact hp)
        rw [e1] at e2
        injection e2 with e2
        rw [← hk, e2]
      · right
        refine ⟨hk, ?_⟩
        obtain ⟨j, hj⟩ := List.getElem?_of_mem hp
        rw [List.getElem?_set] at hj
        by_cases e : i = j
        · simp [e] at hj
          exact absurd (by rw [← hj.2]) hk
        · rw [if_neg e] at hj; exact List.mem_of_getElem? hj
    · rintro (h1 | ⟨hk, h1⟩)
      · subst h1
        exact List.mem_of_getElem? (i := i) (by rw [List.getElem?_set]; simp [hlt])
      · obtain ⟨j, hj⟩ := List.getElem?_of_mem h1
        refine List.mem_of_getElem? (i := j) ?_
        rw [List.getElem?_set]
        split
        · rename_i e
          subst e
          rw [hi] at hj
          injection hj with hj
          exact absurd (by rw [← hj]) hk
        · exact hj
theorem aget_iff {l : List (κ × ν)} (hn : (l.map (·.1)).Nodup) {k : κ} {v : ν} : aget l k = some v ↔ (k, v) ∈ l := ⟨mem_of_aget, aget_of_mem hn⟩
theorem aget_aput {l : List (κ × ν)} (hn : (l.map (·.1)).Nodup) {k k' : κ} {v : ν} : aget (aput l k v) k' = if k' = k then some v else aget l k' := by
  apply Option.ext
  intro u
  rw [aget_iff (aput_nodup hn), mem_aput hn]
  split
  · rename_i e
    subst e
    simp [eq_comm]
  · rename_i e
    rw [aget_iff hn]
    simp [e]
theorem mem_adel {l : List (κ × ν)} (hn : (l.map (·.1)).Nodup) {k : κ} {p : κ × ν} : p ∈ adel l k ↔ p.1 ≠ k ∧ p ∈ l := by
  unfold adel
  cases h : mget l k with
  | none => exact ⟨fun hp => ⟨mget_none h p hp, hp⟩, fun hp => hp.2⟩
  | some x =>
    obtain ⟨i, u⟩ := x
    have hi := mget_some h
    have hlt : i < l.length := (List.getElem?_eq_some_iff.1 hi).1
    simp only
    have hsub : ∀ q ∈ l.eraseIdx i, q ∈ l := fun q hq => (List.eraseIdx_sublist l i).subset hq
    constructor
    · intro hp
      refine ⟨?_, hsub p hp⟩
      intro hk
      obtain ⟨j, hj⟩ := List.getElem?_of_mem hp
      rw [List.getElem?_eraseIdx] at hj
      have hkeys : ∀ a b : Nat, a ≠ b → ∀ x y, l[a]? = some x → l[b]? = some y → x.1 ≠ y.1 := by
        intro a b hab x y hx hy e
        have h1 : (l.map (·.1))[a]? = some x.1 := by rw [List.getElem?_map, hx]; rfl
        have h2 : (l.map (·.1))[b]? = some x.1 := by rw [List.getElem?_map, hy, e]; rfl
        have la := (List.getElem?_eq_some_iff.1 h1).1
        exact hab ((List.getElem?_inj la hn).1 (h1.trans h2.symm))
      split at hj
      · exact hkeys j i (by omega) _ _ hj hi hk
      · exact hkeys (j + 1) i (by omega) _ _ hj hi hk
    · rintro ⟨hk, hp⟩
      obtain ⟨j, hj⟩ := List.getElem?_of_mem hp
      have hji : j ≠ i := by
        rintro rfl
        rw [hi] at hj
        injection hj with hj
        exact hk (by rw [← hj])
      by_cases hlt2 : j < i
      · exact List.mem_of_getElem? (i := j) (by rw [List.getElem?_eraseIdx, if_pos hlt2]; exact hj)
      · exact List.mem_of_getElem? (i := j - 1) (by rw [List.getElem?_eraseIdx, if_neg (by omega), show j - 1 + 1 = j by omega]; exact hj)
theorem aget_adel {l : List (κ × ν)} (hn : (l.map (·.1)).Nodup) {k k' : κ} : aget (adel l k) k' = if k' = k then none else aget l k' := by
  apply Option.ext
  intro u
  rw [aget_iff (adel_nodup hn), mem_adel hn]
  split
  · rename_i e
    subst e
    simp
  · rename_i e
    rw [aget_iff hn]
    simp [e]
end
end Go.Proofs.Ytjfmiehpncginaa

namespace Go.Proofs.Ytjfmiehpncginaa
set_option linter.unusedVariables false
set_option linter.unusedSectionVars false
open Go.RowKit Go.Sort Go.ChangeMaps

/-- What the model must say of a key's type. -/
structure KeyLaw (P : Program) (K : TypeId) {κ : Type} [DecidableEq κ] (ek : κ → Value) (ok : κ → Prop) : Prop where
  check : ∀ b k w, ok k → (Instr.checkKey b 10000 K (ek k)).run P w = .ok () w
  find : ∀ (k : κ) (es : List MapEntry) (l : List (κ × Value)), ok k → (∀ p ∈ l, ok p.1) → es.map (fun e => (e.key, e.val)) = l.map (fun p => (ek p.1, p.2)) → ∀ w, (Instr.findKey K (ek k) es).run P w = .ok (mget l k) w
  bits : ∀ a, ok a → Instr.sameBits 10000 (ek a) (ek a) = true

theorem KeyLaw.of_agg {P : Program} {K : TypeId} {κ : Type} [DecidableEq κ] {ek : κ → Value} {ok : κ → Prop} {fs : Array Field} (hd : P.underlying K = some (.struct fs)) (hagg : ∀ k, ∃ cs, ek k = .agg cs)
    (check : ∀ b k w, ok k → (Instr.checkKey b 10000 K (ek k)).run P w = .ok () w) (eql : ∀ a b w, ok a → ok b → (Op.equal K (ek a) (ek b)).run P w = .ok (decide (a = b)) w)
    (bits : ∀ a, ok a → Instr.sameBits 10000 (ek a) (ek a) = true) : KeyLaw P K ek ok where
  check := check
  bits := bits
  find := by
    intro k es l hk hl he w
    have ask : ∀ (es : List MapEntry) (l : List (κ × Value)) (i : Nat), (∀ p ∈ l, ok p.1) → es.map (fun e => (e.key, e.val)) = l.map (fun p => (ek p.1, p.2)) →
        (Instr.findAsking K (ek k) es i).run P w = .ok ((mget l k).map fun x => (i + x.1, x.2)) w := by
      intro es
      induction es with
      | nil =>
        intro l i _ h
        cases l with
        | nil => rfl
        | cons p r => simp at h
      | cons e es ih =>
        intro l i hl h
        cases l with
        | nil => simp at h
        | cons p r =>
          obtain ⟨k', v⟩ := p
          simp only [List.map_cons, List.cons.injEq, Prod.mk.injEq] at h
          obtain ⟨⟨h1, h2⟩, h3⟩ := h
          unfold Instr.findAsking
          rw [Sem.run_bind, h1, eql k k' w hk (hl (k', v) (by simp))]
          simp only [Result.andThen_ok]
          unfold mget
          by_cases e : k = k'
          · simp [e, h2]
          · simp only [e, decide_false, Bool.false_eq_true, if_false]
            rw [ih r (i + 1) (fun p hp => hl p (by simp [hp])) h3]
            cases mget r k with
            | none => rfl
            | some x => simp; omega
    unfold Instr.findKey
    rw [Sem.run_bind, run_underlying hd]
    simp only [Result.andThen_ok]
    cases es with
    | nil =>
      cases l with
      | nil => simp [Instr.findNow, mget]
      | cons p r => simp at he
    | cons e es =>
      obtain ⟨cs, hcs⟩ := hagg k
      have hn : Instr.findNow (.struct fs) (ek k) (e :: es) 0 = none := by
        unfold Instr.findNow
        rw [hcs]
        cases e.key <;> rfl
      rw [hn]
      simp only
      rw [ask (e :: es) l 0 hl he]
      cases mget l k with
      | none => rfl
      | some x => simp

section
variable {P : Program} {κ ν : Type} [DecidableEq κ] {ek : κ → Value} {ev : ν → Value} {w w' : World} {B : Nat} {l : List (κ × ν)}

/-- Block B is a map that holds just these keys and values, laid in this order. -/
def MapIs (ek : κ → Value) (ev : ν → Value) (w : World) (B : Nat) (l : List (κ × ν)) : Prop :=
  ∃ es clock, w.heap[B]? = some (.map es clock) ∧ es.toList.map (fun e => (e.key, e.val)) = l.map (fun p => (ek p.1, ev p.2)) ∧ (∀ e ∈ es.toList, e.born < clock) ∧ (es.toList.map (·.born)).Pairwise (· < ·) ∧ (l.map (·.1)).Nodup

theorem MapIs.nodup (h : MapIs ek ev w B l) : (l.map (·.1)).Nodup := by obtain ⟨_, _, _, _, _, _, h⟩ := h; exact h
theorem MapIs.lt (h : MapIs ek ev w B l) : B < w.heap.size := by
  obtain ⟨_, _, h, _⟩ := h
  exact (Array.getElem?_eq_some_iff.1 h).1
theorem MapIs.of_block (h : MapIs ek ev w B l) (hb : w'.heap[B]? = w.heap[B]?) : MapIs ek ev w' B l := by
  obtain ⟨es, clock, h1, h2⟩ := h
  exact ⟨es, clock, hb.trans h1, h2⟩
theorem MapIs.keep (h : MapIs ek ev w B l) (hb : Below w.heap.size w w') : MapIs ek ev w' B l := h.of_block (hb.block B h.lt)
theorem MapIs.grown {row : Option Nat} (h : MapIs ek ev w B l) (hg : w.grownBy w' row) (hr : some B ≠ row) : MapIs ek ev w' B l := h.of_block (hg.block B h.lt hr)
theorem MapIs.alloc (h : MapIs ek ev w B l) (o : Obj) : MapIs ek ev (w.alloc o) B l := h.of_block (Below.heap_alloc w o B h.lt)
theorem MapIs.drew (h : MapIs ek ev w B l) : MapIs ek ev w.drew B l := h
theorem MapIs.drewN (h : MapIs ek ev w B l) (n : Nat) : MapIs ek ev (w.drewN n) B l := h
theorem MapIs.setCell (h : MapIs ek ev w B l) (a : Addr) (u : Value) : MapIs ek ev (w.setCell a u) B l := by
  obtain ⟨es, clock, h1, h2⟩ := h
  refine ⟨es, clock, ?_, h2⟩
  by_cases e : B = a.block
  · simp only [World.setCell, Array.getElem?_modify]
    rw [if_pos e.symm, h1]; rfl
  · rw [Below.heap_setCell w a u B e]; exact h1
theorem MapIs.made (w : World) : MapIs ek ev (w.alloc (.map #[] 0)) w.heap.size [] :=
  ⟨#[], 0, heap_alloc_new w _, rfl, by simp, by simp, by simp⟩
theorem MapIs.ne_cells (h : MapIs ek ev w B l) {b o : Nat} {v : Value} (hc : w.cell? ⟨b, o, none⟩ = some v) : b ≠ B := by
  rintro rfl
  obtain ⟨es, clock, h1, _⟩ := h
  simp [World.cell?, h1] at hc

theorem MapIs.find {K : TypeId} {ok : κ → Prop} (h : MapIs ek ev w B l) (law : KeyLaw P K ek ok) {k : κ} (hk : ok k) (hl : ∀ p ∈ l, ok p.1) :
    ∃ es clock, w.heap[B]? = some (.map es clock) ∧ (∀ W, (Instr.findKey K (ek k) es.toList).run P W = .ok ((mget l k).map fun x => (x.1, ev x.2)) W) ∧ (∀ b W, (Instr.checkKey b 10000 K (ek k)).run P W = .ok () W) := by
  obtain ⟨es, clock, h1, h2, _⟩ := h
  refine ⟨es, clock, h1, fun W => ?_, fun b W => law.check b k W hk⟩
  have e : es.toList.map (fun e => (e.key, e.val)) = (l.map (fun p => (p.1, ev p.2))).map (fun p => (ek p.1, p.2)) := by rw [h2, List.map_map]; rfl
  rw [law.find k es.toList (l.map (fun p => (p.1, ev p.2))) hk (by intro p hp; obtain ⟨q, hq, rfl⟩ := List.mem_map.1 hp; exact hl q hq) e W]
  congr 1
  have : ∀ l : List (κ × ν), mget (l.map fun p => (p.1, ev p.2)) k = (mget l k).map fun x => (x.1, ev x.2) := by
    intro l
    induction l with
    | nil => rfl
    | cons p r ih =>
      obtain ⟨k', v⟩ := p
      simp only [List.map_cons, mget]
      split
      · rfl
      · rw [ih]; cases mget r k <;> rfl
  exact this l

/-- 'v, ok := m[k]'. -/
theorem MapIs.lookup_ok {T K E : TypeId} {ok : κ → Prop} (h : MapIs ek ev w B l) (law : KeyLaw P K ek ok) (hT : P.underlying T = some (.map K E)) {z : Value} (hz : ∀ W, (zeroValue E).run P W = .ok z W) {k : κ} (hk : ok k) (hl : ∀ p ∈ l, ok p.1) :
    (Instr.lookup T (.map (some B)) (ek k) true).run P w = .ok (.tuple #[((aget l k).map ev).getD z, .bool (aget l k).isSome]) w := by
  obtain ⟨es, clock, h1, hf, hc⟩ := h.find law hk hl
  simp only [Instr.lookup, Sem.run_bind, run_underlying hT, Result.andThen_ok, MapKept.run_getObj_map h1, Sem.run_pure, hc, hf]
  unfold aget
  cases mget l k with
  | none => simp [hz]
  | some x => simp
/-- 'm[k]'. -/
theorem MapIs.lookup {T K E : TypeId} {ok : κ → Prop} (h : MapIs ek ev w B l) (law : KeyLaw P K ek ok) (hT : P.underlying T = some (.map K E)) {z : Value} (hz : ∀ W, (zeroValue E).run P W = .ok z W) {k : κ} (hk : ok k) (hl : ∀ p ∈ l, ok p.1) :
    (Instr.lookup T (.map (some B)) (ek k) false).run P w = .ok (((aget l k).map ev).getD z) w := by
  obtain ⟨es, clock, h1, hf, hc⟩ := h.find law hk hl
  simp only [Instr.lookup, Sem.run_bind, run_underlying hT, Result.andThen_ok, MapKept.run_getObj_map h1, Sem.run_pure, hc, hf]
  unfold aget
  cases mget l k with
  | none => simp [hz]
  | some x => simp

theorem setBlock_grown {es : Array MapEntry} {clock : Nat} (hb : w.heap[B]? = some (.map es clock)) (o : Obj) : w.grownBy (setBlock w B o) (some B) :=
  ⟨rfl, rfl, rfl, by simp [setBlock], fun k hk hne => heap_setBlock_other hb o (fun e => hne (by rw [e]))⟩
theorem modify_map {es : Array MapEntry} {i : Nat} (g : MapEntry → MapEntry) : (es.modify i g).toList = es.toList.modify i g := by simp
theorem list_modify_set {α : Type} (l : List α) (i : Nat) (g : α → α) {x : α} (h : l[i]? = some x) : l.modify i g = l.set i (g x) := by
  apply List.ext_getElem?
  intro j
  rw [List.getElem?_modify, List.getElem?_set]
  by_cases e : i = j
  · subst e
    obtain ⟨hlt, h2⟩ := List.getElem?_eq_some_iff.1 h
    simp [hlt, h2]
  · simp [e]

/-- 'm[k] = v'. -/
theorem MapIs.update {T K E : TypeId} {ok : κ → Prop} (h : MapIs ek ev w B l) (law : KeyLaw P K ek ok) (hT : P.underlying T = some (.map K E)) {k : κ} (hk : ok k) (hl : ∀ p ∈ l, ok p.1) (v : ν) :
    ∃ w', (Instr.mapUpdate T (.map (some B)) (ek k) (ev v)).run P w = .ok () w' ∧ MapIs ek ev w' B (aput l k v) ∧ w.grownBy w' (some B) ∧ w'.heap.size = w.heap.size := by
  have hn := aput_nodup (k := k) (v := v) h.nodup
  obtain ⟨es, clock, h1, hf, hc⟩ := h.find law hk hl
  obtain ⟨es', clock', h1', h2, h3, h4, h5⟩ := h
  rw [h1] at h1'
  injection h1' with h1'
  injection h1' with e1 e2
  subst e1 e2
  simp only [Instr.mapUpdate, Sem.run_bind, run_underlying hT, Result.andThen_ok, MapKept.run_getObj_map h1, hc, hf]
  unfold aput at *
  cases hm : mget l k with
  | none =>
    simp only [Option.map_none]
    refine ⟨setBlock w B (.map (es.push { key := ek k, val := ev v, born := clock }) (clock + 1)), by rw [MapKept.run_setObj_map _ h1]; rfl, ?_, setBlock_grown h1 _, by simp [setBlock]⟩
    refine ⟨_, _, heap_setBlock_same h1 _, ?_, ?_, ?_, by simpa [hm] using hn⟩
    · simp [h2]
    · intro e he
      simp at he
      rcases he with he | rfl
      · have := h3 e (by simpa using he); omega
      · simp
    · simp only [Array.toList_push, List.map_append, List.map_cons, List.map_nil]
      rw [List.pairwise_append]
      refine ⟨h4, by simp, ?_⟩
      intro a ha b hb
      simp at hb
      subst hb
      obtain ⟨e, he, rfl⟩ := List.mem_map.1 ha
      have := h3 e he
      omega
  | some x =>
    obtain ⟨i, u⟩ := x
    simp only [Option.map_some]
    have hi := mget_some hm
    have hie : (es.toList.map (fun e => (e.key, e.val)))[i]? = some (ek k, ev u) := by rw [h2, List.getElem?_map, hi]; rfl
    rw [List.getElem?_map] at hie
    cases hee : es.toList[i]? with
    | none => simp [hee] at hie
    | some e0 =>
      simp only [hee, Option.map_some, Option.some.injEq, Prod.mk.injEq] at hie
      have hes : es[i]? = some e0 := by rw [← Array.getElem?_toList]; exact hee
      have hstay : (Instr.keyThatStays (((es[i]?).map (·.key)).getD (ek k)) (ek k)).run P w = .ok (ek k) w := by
        rw [hes]
        simp only [Option.map_some, Option.getD_some, hie.1, Instr.keyThatStays, law.bits k hk, if_true, Sem.run_pure]
      rw [Sem.run_bind, hstay]
      simp only [Result.andThen_ok]
      refine ⟨setBlock w B (.map (es.modify i fun e => { e with key := ek k, val := ev v }) clock), by rw [MapKept.run_setObj_map _ h1]; rfl, ?_, setBlock_grown h1 _, by simp [setBlock]⟩
      have hmod : (es.modify i fun e => { e with key := ek k, val := ev v }).toList = es.toList.set i { e0 with key := ek k, val := ev v } := by
        rw [modify_map, list_modify_set _ _ _ hee]
      refine ⟨_, _, heap_setBlock_same h1 _, ?_, ?_, ?_, by simpa [hm] using hn⟩
      · rw [hmod, List.map_set, h2, List.map_set]
      · rw [hmod]
        intro e he
        obtain ⟨j, hj⟩ := List.getElem?_of_mem he
        rw [List.getElem?_set] at hj
        by_cases e2 : i = j
        · subst e2
          have hlt := (List.getElem?_eq_some_iff.1 hee).1
          simp at hlt
          simp [hlt] at hj
          subst hj
          exact h3 e0 (List.mem_of_getElem? hee)
        · rw [if_neg e2] at hj
          exact h3 e (List.mem_of_getElem? hj)
      · rw [hmod, List.map_set]
        have : (es.toList.map (·.born)).set i e0.born = es.toList.map (·.born) := by
          apply List.ext_getElem?
          intro j
          rw [List.getElem?_set]
          by_cases e2 : i = j
          · subst e2
            have hlt := (List.getElem?_eq_some_iff.1 hee).1
            simp at hlt
            obtain ⟨_, h9⟩ := Array.getElem?_eq_some_iff.1 hes
            simp [hlt, h9]
          · rw [if_neg e2]
        simpa [this] using h4

theorem map_eraseIdx' {α β : Type} (f : α → β) : ∀ (l : List α) (i : Nat), (l.eraseIdx i).map f = (l.map f).eraseIdx i
  | [], _ => by simp
  | a :: r, 0 => by simp
  | a :: r, i + 1 => by simp [map_eraseIdx' f r i]
/-- 'delete(m, k)'. -/
theorem MapIs.delete {T K E ty : TypeId} {ok : κ → Prop} {tk : TypeId} (h : MapIs ek ev w B l) (law : KeyLaw P K ek ok) (hT : P.underlying T = some (.map K E)) {k : κ} (hk : ok k) (hl : ∀ p ∈ l, ok p.1) :
    ∃ w', (Builtin.delete_ #[T, tk] ty #[.map (some B), ek k]).run P w = .ok (.tuple #[]) w' ∧ MapIs ek ev w' B (adel l k) ∧ w.grownBy w' (some B) ∧ w'.heap.size = w.heap.size := by
  have hn := adel_nodup (k := k) h.nodup
  obtain ⟨es, clock, h1, hf, hc⟩ := h.find law hk hl
  obtain ⟨es', clock', h1', h2, h3, h4, h5⟩ := h
  rw [h1] at h1'
  injection h1' with h1'
  injection h1' with e1 e2
  subst e1 e2
  have hg1 : (#[T, tk] : Array TypeId)[0]? = some T := rfl
  have hg2 : (#[Value.map (some B), ek k] : Array Value)[0]? = some (.map (some B)) := rfl
  have hg3 : (#[Value.map (some B), ek k] : Array Value)[1]? = some (ek k) := rfl
  simp only [Builtin.delete_, hg1, hg2, hg3, Sem.run_bind, run_underlying hT, Result.andThen_ok, MapKept.run_getObj_map h1, hc, hf]
  unfold adel at *
  cases hm : mget l k with
  | none =>
    simp only [Option.map_none]
    refine ⟨setBlock w B (.map es clock), by rw [Sem.run_bind, MapKept.run_setObj_map _ h1]; rfl, ?_, setBlock_grown h1 _, by simp [setBlock]⟩
    exact ⟨_, _, heap_setBlock_same h1 _, h2, h3, h4, h5⟩
  | some x =>
    obtain ⟨i, u⟩ := x
    simp only [Option.map_some]
    refine ⟨setBlock w B (.map (es.eraseIdxIfInBounds i) clock), by rw [Sem.run_bind, MapKept.run_setObj_map _ h1]; rfl, ?_, setBlock_grown h1 _, by simp [setBlock]⟩
    have he : (es.eraseIdxIfInBounds i).toList = es.toList.eraseIdx i := by simp
    refine ⟨_, _, heap_setBlock_same h1 _, ?_, ?_, ?_, by simpa [hm] using hn⟩
    · rw [he, map_eraseIdx', h2, map_eraseIdx']
    · rw [he]
      intro e hem
      exact h3 e ((List.eraseIdx_sublist _ _).subset hem)
    · rw [he]
      exact h4.sublist ((List.eraseIdx_sublist _ _).map _)

/-- 'len(m)'. -/
theorem MapIs.size (h : MapIs ek ev w B l) : ∃ es clock, w.heap[B]? = some (.map es clock) ∧ es.size = l.length := by
  obtain ⟨es, clock, h1, h2, _⟩ := h
  refine ⟨es, clock, h1, ?_⟩
  have := congrArg List.length h2
  simpa using this
end
end Go.Proofs.Ytjfmiehpncginaa

namespace Go.Proofs.Ytjfmiehpncginaa.Ab
set_option linter.unusedVariables false
open Go.RowKit

section
variable {P : Program} {nt : Nat} {Q : Post} {e : Env} {h : Heap} {o : Oper} {T : List Nat} {tab : TTab}
theorem ptr_some {Pm F : Nat → Prop} {w0 w : World} {pin ι : Nat → Option Value} {h : Heap} (H : HRel Pm F w0 pin ι h w) {id o1 : Nat} {u : Value} (hb : (look h id).isSome = true) (hv : VRel w F ι (.ptr id o1) u) : ∃ r, ι id = some (.pointer (some ⟨r, 0, none⟩)) ∧ u = .pointer (some ⟨r, o1, none⟩) := by
  obtain ⟨b, hb⟩ := Option.isSome_iff_exists.1 hb
  obtain ⟨v, hv2, _⟩ := H.blk id _ hb
  cases hv with
  | ptr _ _ _ h1 h2 =>
    obtain ⟨r, rfl, rfl⟩ := h2 v hv2
    exact ⟨r, hv2, rfl⟩
theorem Y_nilCheck {x : Operand} {id o1 : Nat} (ho : o.op = .nilCheck x) (hx : aev e x = some (.ptr id o1)) (hb : (look h id).isSome = true) : AYield P T e h o (.ptr id o1) := fun Pm F w0 pin ι a w H E => by
  have hv := aev_rel E hx
  obtain ⟨r, h1, h2⟩ := ptr_some H hb hv
  refine ⟨a.eval x, hv, fun w' _ => ?_⟩
  simp only [execOp, ho, h2]
  rfl
theorem run_ptr_nil {w : World} {d : Nat} {t el : TypeId} (hd : P.underlying t = some (.pointer el)) (a : Addr) : (Op.equalIn (d + 1) t (.pointer (some a)) (.pointer none)).run P w = .ok false w := by
  unfold Op.equalIn
  simp [run_underlying hd]
theorem mp_eq {w : World} {F : Nat → Prop} {ι : Nat → Option Value} {id : Nat} {u v : Value} (h : VRel w F ι (.mp id) u) (hv : ι id = some v) : u = v := by
  cases h with
  | mp _ _ _ h2 => exact h2 v hv
theorem Y_ptr_nil {op : BinOp} {t u : TypeId} {te : TE} {el : TypeId} {x : Operand} {id o1 : Nat} {r : Bool} (TO : TabOk P tab) (ho : o.op = .binOp op t x (.const (.pointer none)) u) (ht : tlook tab t = some te) (hs : te.sh = .pt el) (hx : aev e x = some (.ptr id o1)) (hb : (look h id).isSome = true) (hr : (match op with | .eql => some false | .neq => some true | _ => none) = some r) :
    AYield P T e h o (.d (.sc (.bool r))) := fun Pm F w0 pin ι a w H E => by
  have hv := aev_rel E hx
  obtain ⟨rr, h1, h2⟩ := ptr_some H hb hv
  obtain ⟨d, hd, _, hh⟩ := (TO t te ht).und
  rw [hs] at hh
  cases hh
  refine ⟨.bool r, sc_rel rfl, fun w' _ => ?_⟩
  have key := run_ptr_nil (w := w') (d := 9999) hd ⟨rr, o1, none⟩
  have ev : a.eval (.const (.pointer none)) = .pointer none := rfl
  cases op <;> simp at hr <;> subst hr <;> simp only [execOp, ho, h2, ev, eqGuard, binOp, Op.equal] <;> rw [show Op.maxDepth = 9999 + 1 from rfl] <;> simp [key]
theorem Y_index_ptr {t el n : Nat} {te te' : TE} {x y : Operand} {id o1 j : Nat} {k : IntKind} {i : Int} (TO : TabOk P tab) (ho : o.op = .indexAddr t x y) (ht : tlook tab t = some te) (hs : te.sh = .ar n el) (hel : tlook tab el = some te') (hx : aev e x = some (.ptr id o1)) (hb : (look h id).isSome = true) (hy : aev e y = some (.d (.sc (.int k i)))) (hi : i = (j : Int)) (hj : j < n) :
    AYield P T e h o (.ptr id (o1 + j * te'.size)) := fun Pm F w0 pin ι a w H E => by
  have hv := aev_rel E hx
  obtain ⟨r, h1, h2⟩ := ptr_some H hb hv
  have hk := (sc_of (aev_rel E hy)).1
  obtain ⟨d, hd, _, hh⟩ := (TO t te ht).und
  rw [hs] at hh
  cases hh
  subst hi
  refine ⟨.pointer (some ⟨r, o1 + j * te'.size, none⟩), .ptr id _ _ rfl fun v hv' => ?_, fun w' _ => ?_⟩
  · rw [h1] at hv'; cases hv'; exact ⟨r, rfl, rfl⟩
  · simp [execOp, ho, h2, hk, Instr.indexAt, asIntOf, run_underlying hd, Instr.sureAddr, hj, (TO el te' hel).size, Addr.add_mid]
theorem Y_index_arr {t el n : Nat} {te te' : TE} {x y : Operand} {cs : List AVal} {c : AVal} {j : Nat} {k : IntKind} {i : Int} (TO : TabOk P tab) (ho : o.op = .index t x y) (ht : tlook tab t = some te) (hs : te.sh = .ar n el) (hel : tlook tab el = some te') (hag : te'.agg = false) (hsz : te'.size = 1) (hx : aev e x = some (.agg cs)) (hy : aev e y = some (.d (.sc (.int k i)))) (hi : i = (j : Int)) (hj : j < n) (hc : cs[j]? = some c) :
    AYield P T e h o c := yield_of _ fun w F ι a E => by
  have hv := aev_rel E hx
  have hk := (sc_of (aev_rel E hy)).1
  obtain ⟨d, hd, _, hh⟩ := (TO t te ht).und
  rw [hs] at hh
  cases hh
  subst hi
  generalize hau : a.eval x = u at hv
  cases hv with
  | agg _ C hl hr =>
    have hlt : j < C.size := by rw [hl]; exact (List.getElem?_eq_some_iff.1 hc).1
    refine ⟨C[j], hr j c C[j] hc (Array.getElem?_eq_getElem hlt), fun w' => ?_⟩
    simp [execOp, ho, hau, hk, Instr.index, asIntOf, run_underlying hd, hj, (TO el te' hel).size, part, (TO el te' hel).run_agg, hag, hsz, hlt]

/-! Maps -/
variable {κ ν : Type} {ek : κ → Value} {ok : κ → Prop} {ka : κ → AVal} {xa : ν → AVal}
/-- The entries of a map. -/
def ents (ka : κ → AVal) (xa : ν → AVal) (l : List (κ × ν)) : List (AVal × AVal) := l.map fun p => (ka p.1, xa p.2)
/-- Values beside one another. -/
def Beside (w : World) (F : Nat → Prop) (ι : Nat → Option Value) (xa : ν → AVal) : List (κ × ν) → List (κ × Value) → Prop
  | [], [] => True
  | p :: l, q :: m => q.1 = p.1 ∧ VRel w F ι (xa p.2) q.2 ∧ Beside w F ι xa l m
  | _, _ => False
theorem Beside.keys {w : World} {F : Nat → Prop} {ι : Nat → Option Value} {l : List (κ × ν)} {m : List (κ × Value)} (h : Beside w F ι xa l m) : m.map (·.1) = l.map (·.1) := by
  induction l generalizing m with
  | nil => cases m with
    | nil => rfl
    | cons q m => cases h
  | cons p l ih => cases m with
    | nil => cases h
    | cons q m => rw [List.map_cons, List.map_cons, h.1, ih h.2.2]
theorem Beside.mget [DecidableEq κ] {w : World} {F : Nat → Prop} {ι : Nat → Option Value} {l : List (κ × ν)} {m : List (κ × Value)} (h : Beside w F ι xa l m) (k : κ) :
    (∀ i x, mget l k = some (i, x) → ∃ u, mget m k = some (i, u) ∧ VRel w F ι (xa x) u) ∧ (mget l k = none → mget m k = none) := by
  induction l generalizing m with
  | nil => cases m with
    | nil => exact ⟨fun i x h => (by cases h), fun _ => rfl⟩
    | cons q m => cases h
  | cons p l ih => cases m with
    | nil => cases h
    | cons q m =>
      obtain ⟨k1, x1⟩ := p
      obtain ⟨k2, u2⟩ := q
      obtain ⟨h1, h2, h3⟩ := h
      dsimp only at h1 h2
      subst h1
      obtain ⟨i1, i2⟩ := ih h3
      unfold Go.Proofs.Ytjfmiehpncginaa.mget
      split
      · exact ⟨fun i x hx => (by cases hx; exact ⟨u2, rfl, h2⟩), fun hx => (by cases hx)⟩
      · refine ⟨fun i x hx => ?_, fun hx => ?_⟩
        · cases hm : Go.Proofs.Ytjfmiehpncginaa.mget l k with
          | none => rw [hm] at hx; cases hx
          | some y =>
            rw [hm] at hx
            cases hx
            obtain ⟨u, h5, h6⟩ := i1 y.1 y.2 hm
            exact ⟨u, by rw [h5]; rfl, h6⟩
        · cases hm : Go.Proofs.Ytjfmiehpncginaa.mget l k with
          | none => rw [i2 hm]; rfl
          | some y => rw [hm] at hx; cases hx
theorem Beside.aget [DecidableEq κ] {w : World} {F : Nat → Prop} {ι : Nat → Option Value} {l : List (κ × ν)} {m : List (κ × Value)} (h : Beside w F ι xa l m) (k : κ) :
    (∀ x, aget l k = some x → ∃ u, aget m k = some u ∧ VRel w F ι (xa x) u) ∧ (aget l k = none → aget m k = none) := by
  obtain ⟨h1, h2⟩ := h.mget k
  unfold Go.Proofs.Ytjfmiehpncginaa.aget
  refine ⟨fun x hx => ?_, fun hx => ?_⟩
  · cases hm : Go.Proofs.Ytjfmiehpncginaa.mget l k with
    | none => rw [hm] at hx; cases hx
    | some y =>
      rw [hm] at hx
      cases hx
      obtain ⟨u, h5, h6⟩ := h1 y.1 y.2 hm
      exact ⟨u, by rw [h5]; rfl, h6⟩
  · cases hm : Go.Proofs.Ytjfmiehpncginaa.mget l k with
    | none => rw [h2 hm]; rfl
    | some y => rw [hm] at hx; cases hx
theorem beside_of {w : World} {F : Nat → Prop} {ι : Nat → Option Value} (hka : ∀ k, valA (ka k) = some (ek k)) (l : List (κ × ν)) (E : List MapEntry) (hl : E.length = l.length) (h : ∀ (i : Nat) (p : AVal × AVal) (m : MapEntry), (ents ka xa l)[i]? = some p → E[i]? = some m → VRel w F ι p.1 m.key ∧ VRel w F ι p.2 m.val) :
    ∃ m : List (κ × Value), Beside w F ι xa l m ∧ E.map (fun e => (e.key, e.val)) = m.map fun p => (ek p.1, p.2) := by
  induction l generalizing E with
  | nil =>
    have : E = [] := List.length_eq_zero_iff.1 hl
    subst this
    exact ⟨[], trivial, rfl⟩
  | cons p l ih => cases E with
    | nil => cases hl
    | cons q E =>
      obtain ⟨m, h1, h2⟩ := ih E (by simpa using hl) fun i p' m' a b => h (i + 1) p' m' a b
      have h0 := h 0 (ka p.1, xa p.2) q rfl rfl
      refine ⟨(p.1, q.val) :: m, ⟨rfl, h0.2, h1⟩, ?_⟩
      rw [List.map_cons, List.map_cons, h2, valA_rel h0.1 (hka p.1)]
theorem born_up (E : List MapEntry) : (∀ (i j : Nat) (m m' : MapEntry), i < j → E[i]? = some m → E[j]? = some m' → m.born < m'.born) ↔ (E.map (·.born)).Pairwise (· < ·) := by
  rw [List.pairwise_map, List.pairwise_iff_getElem]
  constructor
  · intro h i j hi hj hij
    exact h i j E[i] E[j] hij (List.getElem?_eq_getElem hi) (List.getElem?_eq_getElem hj)
  · intro h i j m m' hij h1 h2
    obtain ⟨hi, rfl⟩ := List.getElem?_eq_some_iff.1 h1
    obtain ⟨hj, rfl⟩ := List.getElem?_eq_some_iff.1 h2
    exact h i j hi hj hij
theorem map_is [DecidableEq κ] {w : World} {F : Nat → Prop} {ι : Nat → Option Value} (hka : ∀ k, valA (ka k) = some (ek k)) {l : List (κ × ν)} (hn : (l.map (·.1)).Nodup) {v : Value} (h : BRel w F ι (.map (ents ka xa l)) v) :
    ∃ B m, v = .map (some B) ∧ MapIs ek (fun u : Value => u) w B m ∧ Beside w F ι xa l m := by
  obtain ⟨r, E, clk, rfl, hc, hl, h1, h2, h3⟩ := h
  obtain ⟨m, h4, h5⟩ := beside_of hka l E.toList (by rw [Array.length_toList, hl, ents, List.length_map]) fun i p m a b => h1 i p m a (by simpa using b)
  refine ⟨r, m, rfl, ⟨E, clk, hc, h5, fun e he => ?_, (born_up _).1 fun i j m m' a b c => h2 i j m m' a (by simpa using b) (by simpa using c), by rw [h4.keys]; exact hn⟩, h4⟩
  obtain ⟨i, hi⟩ := List.getElem?_of_mem he
  exact h3 i e (by simpa using hi)
theorem mapIs_same [DecidableEq κ] {w w' : World} {B : Nat} {m : List (κ × Value)} (h : MapIs ek (fun u : Value => u) w B m) (hb : w'.heap[B]? = w.heap[B]?) : MapIs ek (fun u : Value => u) w' B m := h.of_block hb

/-- 'v, is := m[k]', found. -/
theorem Y_lookup_in [DecidableEq κ] {t K E : Nat} {te : TE} {x y : Operand} {id : Nat} {k : κ} {l : List (κ × ν)} {z : ν} (TO : TabOk P tab) (law : KeyLaw P K ek ok) (hka : ∀ k, valA (ka k) = some (ek k)) (ho : o.op = .lookup t x y true) (ht : tlook tab t = some te) (hs : te.sh = .mp K E) (hx : aev e x = some (.mp id)) (hb : look h id = some (.map (ents ka xa l))) (hT : T.contains id = false)
    (hy : aev e y = some (ka k)) (hk : ok k) (hl : ∀ p ∈ l, ok p.1) (hn : (l.map (·.1)).Nodup) (hg : aget l k = some z) {zv : Value} (hz : ∀ W, (zeroValue E).run P W = .ok zv W) : AYield P T e h o (.tup [xa z, .d (.sc (.bool true))]) := fun Pm F w0 pin ι a w H Er => by
  obtain ⟨v, hv, hB⟩ := H.blk id _ hb
  obtain ⟨B, m, rfl, hm, hbes⟩ := map_is hka hn hB
  obtain ⟨d, hd, _, hh⟩ := (TO t te ht).und
  rw [hs] at hh
  cases hh
  have hxv := aev_rel Er hx
  have hkv := valA_rel (aev_rel Er hy) (hka k)
  obtain ⟨u, h1, h2⟩ := (hbes.aget k).1 z hg
  have hxe := mp_eq hxv hv
  refine ⟨.tuple #[u, .bool true], .tup _ _ rfl fun i c uu hi hu => ?_, fun w' hw' => ?_⟩
  · match i, hi, hu with
    | 0, hi, hu => cases hi; cases hu; exact h2
    | 1, hi, hu => cases hi; cases hu; exact sc_rel rfl
  · have hm' := mapIs_same hm (ct_same H hw' hv rfl hT)
    have := hm'.lookup_ok law hd hz hk (fun p hp => by
      have : p.1 ∈ m.map (·.1) := List.mem_map.2 ⟨p, hp, rfl⟩
      rw [hbes.keys] at this
      obtain ⟨q, hq, he⟩ := List.mem_map.1 this
      rw [← he]; exact hl q hq)
    rw [h1] at this
    simp only [execOp, ho, hxe, hkv]
    simp only [Sem.run_bind, this]
    rfl
/-- .. not found. -/
theorem Y_lookup_out [DecidableEq κ] {t K E : Nat} {te : TE} {x y : Operand} {id : Nat} {k : κ} {l : List (κ × ν)} (TO : TabOk P tab) (law : KeyLaw P K ek ok) (hka : ∀ k, valA (ka k) = some (ek k)) (ho : o.op = .lookup t x y true) (ht : tlook tab t = some te) (hs : te.sh = .mp K E) (hx : aev e x = some (.mp id)) (hb : look h id = some (.map (ents ka xa l))) (hT : T.contains id = false)
    (hy : aev e y = some (ka k)) (hk : ok k) (hl : ∀ p ∈ l, ok p.1) (hn : (l.map (·.1)).Nodup) (hg : aget l k = none) {zv : Value} (hz : ∀ W, (zeroValue E).run P W = .ok zv W) (hz1 : zv.oneCell' = true) : AYield P T e h o (.tup [.d (.sc zv), .d (.sc (.bool false))]) := fun Pm F w0 pin ι a w H Er => by
  obtain ⟨v, hv, hB⟩ := H.blk id _ hb
  obtain ⟨B, m, rfl, hm, hbes⟩ := map_is hka hn hB
  obtain ⟨d, hd, _, hh⟩ := (TO t te ht).und
  rw [hs] at hh
  cases hh
  have hxv := aev_rel Er hx
  have hkv := valA_rel (aev_rel Er hy) (hka k)
  have h1 := (hbes.aget k).2 hg
  have hxe := mp_eq hxv hv
  refine ⟨.tuple #[zv, .bool false], .tup _ _ rfl fun i c uu hi hu => ?_, fun w' hw' => ?_⟩
  · match i, hi, hu with
    | 0, hi, hu => cases hi; cases hu; exact sc_rel hz1
    | 1, hi, hu => cases hi; cases hu; exact sc_rel rfl
  · have hm' := mapIs_same hm (ct_same H hw' hv rfl hT)
    have := hm'.lookup_ok law hd hz hk (fun p hp => by
      have : p.1 ∈ m.map (·.1) := List.mem_map.2 ⟨p, hp, rfl⟩
      rw [hbes.keys] at this
      obtain ⟨q, hq, he⟩ := List.mem_map.1 this
      rw [← he]; exact hl q hq)
    rw [h1] at this
    simp only [execOp, ho, hxe, hkv]
    simp only [Sem.run_bind, this]
    rfl
/-- 'm[k]', found. -/
theorem Y_lookup1 [DecidableEq κ] {t K E : Nat} {te : TE} {x y : Operand} {id : Nat} {k : κ} {l : List (κ × ν)} {z : ν} (TO : TabOk P tab) (law : KeyLaw P K ek ok) (hka : ∀ k, valA (ka k) = some (ek k)) (ho : o.op = .lookup t x y false) (ht : tlook tab t = some te) (hs : te.sh = .mp K E) (hx : aev e x = some (.mp id)) (hb : look h id = some (.map (ents ka xa l))) (hT : T.contains id = false)
    (hy : aev e y = some (ka k)) (hk : ok k) (hl : ∀ p ∈ l, ok p.1) (hn : (l.map (·.1)).Nodup) (hg : aget l k = some z) {zv : Value} (hz : ∀ W, (zeroValue E).run P W = .ok zv W) : AYield P T e h o (xa z) := fun Pm F w0 pin ι a w H Er => by
  obtain ⟨v, hv, hB⟩ := H.blk id _ hb
  obtain ⟨B, m, rfl, hm, hbes⟩ := map_is hka hn hB
  obtain ⟨d, hd, _, hh⟩ := (TO t te ht).und
  rw [hs] at hh
  cases hh
  have hxv := aev_rel Er hx
  have hkv := valA_rel (aev_rel Er hy) (hka k)
  obtain ⟨u, h1, h2⟩ := (hbes.aget k).1 z hg
  have hxe := mp_eq hxv hv
  refine ⟨u, h2, fun w' hw' => ?_⟩
  have hm' := mapIs_same hm (ct_same H hw' hv rfl hT)
  have := hm'.lookup law hd hz hk (fun p hp => by
    have : p.1 ∈ m.map (·.1) := List.mem_map.2 ⟨p, hp, rfl⟩
    rw [hbes.keys] at this
    obtain ⟨q, hq, he⟩ := List.mem_map.1 this
    rw [← he]; exact hl q hq)
  rw [h1] at this
  simp only [execOp, ho, hxe, hkv]
  simp only [Sem.run_bind, this]
  rfl
/-- 'len(m)'. -/
theorem Y_len_map [DecidableEq κ] {t K E : Nat} {te : TE} {x : Operand} {id : Nat} {es : List (AVal × AVal)} (TO : TabOk P tab) (ho : o.op = .call { callee := .builtin .len, args := #[x], argTypes := #[t] }) (ht : tlook tab t = some te) (hs : te.sh = .mp K E) (hx : aev e x = some (.mp id)) (hb : look h id = some (.map es)) (hT : T.contains id = false) :
    AYield P T e h o (.d (.sc (.int .i64 (es.length : Int)))) := fun Pm F w0 pin ι a w H Er => by
  obtain ⟨v, hv, hB⟩ := H.blk id _ hb
  obtain ⟨r, E', clk, rfl, hc, hl, _⟩ := hB
  obtain ⟨d, hd, _, hh⟩ := (TO t te ht).und
  rw [hs] at hh
  cases hh
  have hxe := mp_eq (aev_rel Er hx) hv
  refine ⟨.int .i64 (es.length : Int), sc_rel rfl, fun w' hw' => ?_⟩
  have h7 := ct_same H hw' hv rfl hT
  rw [hc] at h7
  simp [execOp, ho, resolve, invoke, builtin, hxe, Builtin.len_, run_underlying hd, MapKept.run_getObj_map h7, goInt, hl]
/-- Values beside one another, behind a step. -/
theorem Beside.wrote {w w' : World} {F : Nat → Prop} {ι : Nat → Option Value} {id : Nat} {v : Value} (hW : Wrote w v w') (hv : ι id = some v) : ∀ {l : List (κ × ν)} {m : List (κ × Value)}, Beside w F ι xa l m → Beside w' F ι xa l m
  | [], [], _ => trivial
  | p :: l, q :: m, h => ⟨h.1, h.2.1.wrote hW hv, Beside.wrote hW hv h.2.2⟩
  | [], _ :: _, h => h.elim
  | _ :: _, [], h => h.elim
theorem Beside.snoc {w : World} {F : Nat → Prop} {ι : Nat → Option Value} {k : κ} {z : ν} {u : Value} (hz : VRel w F ι (xa z) u) : ∀ {l : List (κ × ν)} {m : List (κ × Value)}, Beside w F ι xa l m → Beside w F ι xa (l ++ [(k, z)]) (m ++ [(k, u)])
  | [], [], _ => ⟨rfl, hz, trivial⟩
  | p :: l, q :: m, h => ⟨h.1, h.2.1, Beside.snoc hz h.2.2⟩
  | [], _ :: _, h => h.elim
  | _ :: _, [], h => h.elim
theorem Beside.set {w : World} {F : Nat → Prop} {ι : Nat → Option Value} {k : κ} {z : ν} {u : Value} (hz : VRel w F ι (xa z) u) : ∀ (i : Nat) {l : List (κ × ν)} {m : List (κ × Value)}, Beside w F ι xa l m → Beside w F ι xa (l.set i (k, z)) (m.set i (k, u))
  | _, [], [], _ => trivial
  | 0, p :: l, q :: m, h => ⟨rfl, hz, h.2.2⟩
  | i + 1, p :: l, q :: m, h => ⟨h.1, h.2.1, Beside.set hz i h.2.2⟩
  | _, [], _ :: _, h => h.elim
  | _, _ :: _, [], h => h.elim
theorem Beside.erase {w : World} {F : Nat → Prop} {ι : Nat → Option Value} : ∀ (i : Nat) {l : List (κ × ν)} {m : List (κ × Value)}, Beside w F ι xa l m → Beside w F ι xa (l.eraseIdx i) (m.eraseIdx i)
  | _, [], [], _ => trivial
  | 0, p :: l, q :: m, h => h.2.2
  | i + 1, p :: l, q :: m, h => ⟨h.1, h.2.1, Beside.erase i h.2.2⟩
  | _, [], _ :: _, h => h.elim
  | _, _ :: _, [], h => h.elim
theorem Beside.aput [DecidableEq κ] {w : World} {F : Nat → Prop} {ι : Nat → Option Value} {k : κ} {z : ν} {u : Value} (hz : VRel w F ι (xa z) u) {l : List (κ × ν)} {m : List (κ × Value)} (h : Beside w F ι xa l m) : Beside w F ι xa (Go.Proofs.Ytjfmiehpncginaa.aput l k z) (Go.Proofs.Ytjfmiehpncginaa.aput m k u) := by
  obtain ⟨h1, h2⟩ := h.mget k
  unfold Go.Proofs.Ytjfmiehpncginaa.aput
  cases hm : Go.Proofs.Ytjfmiehpncginaa.mget l k with
  | none => rw [h2 hm]; exact Beside.snoc hz h
  | some y =>
    obtain ⟨i, x⟩ := y
    obtain ⟨u', h5, _⟩ := h1 i x hm
    rw [h5]
    exact Beside.set hz i h
theorem Beside.adel [DecidableEq κ] {w : World} {F : Nat → Prop} {ι : Nat → Option Value} {k : κ} {l : List (κ × ν)} {m : List (κ × Value)} (h : Beside w F ι xa l m) : Beside w F ι xa (Go.Proofs.Ytjfmiehpncginaa.adel l k) (Go.Proofs.Ytjfmiehpncginaa.adel m k) := by
  obtain ⟨h1, h2⟩ := h.mget k
  unfold Go.Proofs.Ytjfmiehpncginaa.adel
  cases hm : Go.Proofs.Ytjfmiehpncginaa.mget l k with
  | none => rw [h2 hm]; exact h
  | some y =>
    obtain ⟨i, x⟩ := y
    obtain ⟨u', h5, _⟩ := h1 i x hm
    rw [h5]
    exact Beside.erase i h
theorem is_map [DecidableEq κ] {w : World} {F : Nat → Prop} {ι : Nat → Option Value} (hkv : ∀ k w F ι, VRel w F ι (ka k) (ek k)) {l : List (κ × ν)} {B : Nat} {m : List (κ × Value)} (h : MapIs ek (fun u : Value => u) w B m) (hb : Beside w F ι xa l m) : BRel w F ι (.map (ents ka xa l)) (.map (some B)) := by
  obtain ⟨E, clk, hc, h1, h2, h3, _⟩ := h
  have hlen : ∀ {l : List (κ × ν)} {m : List (κ × Value)}, Beside w F ι xa l m → m.length = l.length := fun hb => by have := congrArg List.length hb.keys; simpa using this
  have hEl : E.toList.length = m.length := by have := congrArg List.length h1; simpa using this
  refine ⟨B, E, clk, rfl, hc, by rw [← Array.length_toList, hEl, hlen hb, ents, List.length_map], fun i p e hp he => ?_, fun i j a b hij ha hb' => (born_up E.toList).2 h3 i j a b hij (by simpa using ha) (by simpa using hb'), fun i e he => h2 e (List.mem_of_getElem? (i := i) (by simpa using he))⟩
  have key : ∀ (i : Nat) {l : List (κ × ν)} {m : List (κ × Value)}, Beside w F ι xa l m → ∀ p q, l[i]? = some p → m[i]? = some q → q.1 = p.1 ∧ VRel w F ι (xa p.2) q.2 := by
    intro i
    induction i with
    | zero => intro l m hb p q hp hq; match l, m, hb with
      | a :: l, b :: m, hb => cases hp; cases hq; exact ⟨hb.1, hb.2.1⟩
      | [], [], _ => cases hp
    | succ i ih => intro l m hb p q hp hq; match l, m, hb with
      | a :: l, b :: m, hb => exact ih hb.2.2 p q (by simpa using hp) (by simpa using hq)
      | [], [], _ => cases hp
  rw [ents, List.getElem?_map] at hp
  cases hli : l[i]? with
  | none => rw [hli] at hp; cases hp
  | some p0 =>
    rw [hli] at hp
    cases hp
    have he2 : (E.toList.map (fun e => (e.key, e.val)))[i]? = some (e.key, e.val) := by rw [List.getElem?_map, Array.getElem?_toList, he]; rfl
    rw [h1, List.getElem?_map] at he2
    cases hmi : m[i]? with
    | none => rw [hmi] at he2; cases he2
    | some q =>
      rw [hmi] at he2
      simp only [Option.map_some, Option.some.injEq, Prod.mk.injEq] at he2
      obtain ⟨h5, h6⟩ := key i hb p0 q hli hmi
      rw [← he2.1, ← he2.2, h5]
      exact ⟨hkv _ _ _ _, h6⟩
/-- 'm[k] = z'. -/
theorem E_mapUpdate [DecidableEq κ] {t K E : Nat} {te : TE} {x y z : Operand} {d : Option Tmp} {id : Nat} {k : κ} {l : List (κ × ν)} {q : ν} (TO : TabOk P tab) (law : KeyLaw P K ek ok) (hka : ∀ k, valA (ka k) = some (ek k)) (hkv : ∀ k w F ι, VRel w F ι (ka k) (ek k)) (ho : o.op = .mapUpdate t x y z) (hdst : o.dst = d) (ht : tlook tab t = some te) (hs : te.sh = .mp K E) (hx : aev e x = some (.mp id)) (hb : look h id = some (.map (ents ka xa l)))
    (hy : aev e y = some (ka k)) (hq : aev e z = some (xa q)) (hk : ok k) (hl : ∀ p ∈ l, ok p.1) (hn : (l.map (·.1)).Nodup) (hd : dstOk nt d = true) (hT : T.contains id = true) :
    AEff P nt T e h o (fun e' h' => e' = aput d .und e ∧ h' = (id, .map (ents ka xa (Go.Proofs.Ytjfmiehpncginaa.aput l k q))) :: h) := fun Pm F w0 pin ι a w R Kt Qx hK => by
  obtain ⟨v, hv, hB⟩ := R.heap.blk id _ hb
  obtain ⟨B, m, rfl, hm, hbes⟩ := map_is hka hn hB
  obtain ⟨dd, hdd, _, hh⟩ := (TO t te ht).und
  rw [hs] at hh
  cases hh
  have hxe := mp_eq (aev_rel R.env hx) hv
  have hye := valA_rel (aev_rel R.env hy) (hka k)
  have hze := aev_rel R.env hq
  obtain ⟨w', hrun, hm', hg, hsz⟩ := hm.update law hdd hk (fun p hp => by
    have : p.1 ∈ m.map (·.1) := List.mem_map.2 ⟨p, hp, rfl⟩
    rw [hbes.keys] at this
    obtain ⟨r, hr, he⟩ := List.mem_map.1 this
    rw [← he]; exact hl r hr) (a.eval z)
  have hW : Wrote w (.map (some B)) w' := ⟨hg.os, hg.tape, hg.output, hg.size, fun r hr hne => hg.block r hr fun he => hne (by rw [blockOf]; exact he.symm)⟩
  have hrun2 : (execOp a.eval o).run P w = .ok .skip w' := by
    simp only [execOp, ho, hxe, hye, Sem.run_bind, hrun]
    rfl
  unfold Oper.wp
  rw [hrun2, Oper.upon_skip, hdst]
  refine hK ι _ _ _ w' ⟨rfl, rfl⟩ ⟨R.heap.wrote hW hv (is_map hkv hm' ((hbes.aput hze).wrote hW hv)), (R.env.mono fun _ _ _ _ hv' => hv'.wrote hW hv).aput hd R.size .und, by rw [put_defers]; exact R.defers.ext (hW.ext hv), by rw [put_size]; exact R.size⟩ ?_ (put_defers _ _ _)
  exact ⟨⟨hW.os, hW.tape, hW.output, hW.size, fun r hr hne => hW.mem r hr fun hb => hne id (List.contains_iff_mem.1 hT) _ hv hb⟩, fun j _ u r hj hr _ => ⟨u, hj, hr⟩⟩
/-- 'delete(m, k)'. -/
theorem E_delete [DecidableEq κ] {t tk K E : Nat} {te : TE} {x y : Operand} {d : Option Tmp} {id : Nat} {k : κ} {l : List (κ × ν)} (TO : TabOk P tab) (law : KeyLaw P K ek ok) (hka : ∀ k, valA (ka k) = some (ek k)) (hkv : ∀ k w F ι, VRel w F ι (ka k) (ek k)) (ho : o.op = .call { callee := .builtin .delete, args := #[x, y], argTypes := #[t, tk] }) (hdst : o.dst = none) (ht : tlook tab t = some te) (hs : te.sh = .mp K E) (hx : aev e x = some (.mp id)) (hb : look h id = some (.map (ents ka xa l)))
    (hy : aev e y = some (ka k)) (hk : ok k) (hl : ∀ p ∈ l, ok p.1) (hn : (l.map (·.1)).Nodup) (hT : T.contains id = true) :
    AEff P nt T e h o (fun e' h' => e' = e ∧ h' = (id, .map (ents ka xa (Go.Proofs.Ytjfmiehpncginaa.adel l k))) :: h) := fun Pm F w0 pin ι a w R Kt Qx hK => by
  obtain ⟨v, hv, hB⟩ := R.heap.blk id _ hb
  obtain ⟨B, m, rfl, hm, hbes⟩ := map_is hka hn hB
  obtain ⟨dd, hdd, _, hh⟩ := (TO t te ht).und
  rw [hs] at hh
  cases hh
  have hxe := mp_eq (aev_rel R.env hx) hv
  have hye := valA_rel (aev_rel R.env hy) (hka k)
  have hlm : ∀ p ∈ m, ok p.1 := fun p hp => by
    have : p.1 ∈ m.map (·.1) := List.mem_map.2 ⟨p, hp, rfl⟩
    rw [hbes.keys] at this
    obtain ⟨r, hr, he⟩ := List.mem_map.1 this
    rw [← he]; exact hl r hr
  obtain ⟨w', hrun, hm', hg, hsz⟩ := hm.delete (ty := o.type) (tk := tk) law hdd hk hlm
  have hW : Wrote w (.map (some B)) w' := ⟨hg.os, hg.tape, hg.output, hg.size, fun r hr hne => hg.block r hr fun he => hne (by rw [blockOf]; exact he.symm)⟩
  have hrun2 : (execOp a.eval o).run P w = .ok (.value (.tuple #[])) w' := by
    simp only [execOp, ho]
    simp [resolve, invoke, builtin, hxe, hye, hrun]
  unfold Oper.wp
  rw [hrun2, Oper.upon_value, hdst]
  refine hK ι _ _ _ w' ⟨rfl, rfl⟩ ⟨R.heap.wrote hW hv (is_map hkv hm' ((hbes.adel).wrote hW hv)), (R.env.mono fun _ _ _ _ hv' => hv'.wrote hW hv), R.defers.ext (hW.ext hv), R.size⟩ ?_ rfl
  exact ⟨⟨hW.os, hW.tape, hW.output, hW.size, fun r hr hne => hW.mem r hr fun hb => hne id (List.contains_iff_mem.1 hT) _ hv hb⟩, fun j _ u r hj hr _ => ⟨u, hj, hr⟩⟩
/-- 'make(map[K]V)', 'map[K]V{}'. -/
theorem E_makeMap {t : TypeId} {d : Option Tmp} {id : Nat} (ho : o.op = .makeMap t none) (hdst : o.dst = d) (hid : Nat.blt id 1000 = true) (hd : dstOk nt d = true) : AEff P nt T e h o (fun e' h' => e' = aput d (.mp id) (killE id e) ∧ h' = (id, .map []) :: killH id h) := fun Pm F w0 pin ι a w R K Qx hK => by
  have hb : ∀ ι', ι' = upd ι id (some (.map (some w.heap.size))) → Ext w F ι (w.alloc (.map #[] 0)) ι' → BRel (w.alloc (.map #[] 0)) F ι' (.map []) (.map (some w.heap.size)) := fun ι' h0 he =>
    ⟨w.heap.size, #[], 0, rfl, heap_new _ _, rfl, fun i p m h1 => by simp at h1, fun i j m m' _ h1 => by simp at h1, fun i m h1 => by simp at h1⟩
  obtain ⟨hR, hC⟩ := R.new (T := T) hid hd (.map #[] 0) (.map (some w.heap.size)) (by simp [blockOf]) _ (.mp id) hb fun ι' h1 => .mp id _ rfl fun v hv => by subst h1; simp [upd] at hv; exact hv
  have hrun : (execOp a.eval o).run P w = .ok (.value (.map (some w.heap.size))) (w.alloc (.map #[] 0)) := by
    simp only [execOp, ho]
    simp [Instr.makeMap, newObj, Sem.run]
  unfold Oper.wp
  rw [hrun, Oper.upon_value, hdst]
  exact hK _ _ _ _ _ ⟨rfl, rfl⟩ hR hC (put_defers _ _ _)
end
end Go.Proofs.Ytjfmiehpncginaa.Ab

namespace Go.Proofs.Ytjfmiehpncginaa.Ab
set_option linter.unusedVariables false
open Go.RowKit

def tmap (tab : TTab) (t : Nat) : Option (Nat × Nat) := match tlook tab t with
  | some te => match te.sh with | .mp k e => some (k, e) | _ => none
  | none => none
def tarr (tab : TTab) (t : Nat) : Option (Nat × Nat) := match tlook tab t with
  | some te => match te.sh with | .ar n e => some (n, e) | _ => none
  | none => none
def tptr (tab : TTab) (t : Nat) : Option Nat := match tlook tab t with
  | some te => match te.sh with | .pt e => some e | _ => none
  | none => none
theorem tmap_spec {tab : TTab} {t k e : Nat} (h : tmap tab t = some (k, e)) : ∃ te, tlook tab t = some te ∧ te.sh = .mp k e := by
  unfold tmap at h
  cases ht : tlook tab t with
  | none => rw [ht] at h; cases h
  | some te =>
    rw [ht] at h
    refine ⟨te, rfl, ?_⟩
    dsimp only at h
    split at h
    · rename_i hs; cases h; exact hs
    · cases h
theorem tarr_spec {tab : TTab} {t k e : Nat} (h : tarr tab t = some (k, e)) : ∃ te, tlook tab t = some te ∧ te.sh = .ar k e := by
  unfold tarr at h
  cases ht : tlook tab t with
  | none => rw [ht] at h; cases h
  | some te =>
    rw [ht] at h
    refine ⟨te, rfl, ?_⟩
    dsimp only at h
    split at h
    · rename_i hs; cases h; exact hs
    · cases h
theorem tptr_spec {tab : TTab} {t e : Nat} (h : tptr tab t = some e) : ∃ te, tlook tab t = some te ∧ te.sh = .pt e := by
  unfold tptr at h
  cases ht : tlook tab t with
  | none => rw [ht] at h; cases h
  | some te =>
    rw [ht] at h
    refine ⟨te, rfl, ?_⟩
    dsimp only at h
    split at h
    · rename_i hs; cases h; exact hs
    · cases h

section
variable {P : Program} {nt : Nat} {Q : Post} {e : Env} {h : Heap} {o : Oper} {ops : Array Oper} {rest : List Oper} {T : List Nat} {tab : TTab}
theorem R_pnil {op : BinOp} {t u el id o1 : Nat} {x : Operand} {r : Bool} (TO : TabOk P tab) (ho : o.op = .binOp op t x (.const (.pointer none)) u) (ht : tptr tab t = some el) (hx : aev e x = some (.ptr id o1)) (hb : (look h id).isSome = true) (hr : (match op with | .eql => some false | .neq => some true | _ => none) = some r) :
    AYield P T e h o (.d (.sc (.bool r))) := by
  obtain ⟨te, h1, h2⟩ := tptr_spec ht
  exact Y_ptr_nil TO ho h1 h2 hx hb hr
theorem R_ixp {t el n k id o1 j : Nat} {x y : Operand} {q : IntKind} {i : Int} (TO : TabOk P tab) (ho : o.op = .indexAddr t x y) (ht : tarr tab t = some (n, el)) (hsz : tsize tab el = some k) (hx : aev e x = some (.ptr id o1)) (hb : (look h id).isSome = true) (hy : aev e y = some (.d (.sc (.int q i)))) (hi : i = (j : Int)) (hj : j < n) :
    AYield P T e h o (.ptr id (o1 + j * k)) := by
  obtain ⟨te, h1, h2⟩ := tarr_spec ht
  obtain ⟨te', h3, rfl⟩ := tsize_spec hsz
  exact Y_index_ptr TO ho h1 h2 h3 hx hb hy hi hj
theorem R_ixa {t el n j : Nat} {x y : Operand} {cs : List AVal} {c : AVal} {q : IntKind} {i : Int} (TO : TabOk P tab) (ho : o.op = .index t x y) (ht : tarr tab t = some (n, el)) (hsz : tsize tab el = some 1) (hag : tagg tab el = some false) (hx : aev e x = some (.agg cs)) (hy : aev e y = some (.d (.sc (.int q i)))) (hi : i = (j : Int)) (hj : j < n) (hc : cs[j]? = some c) :
    AYield P T e h o c := by
  obtain ⟨te, h1, h2⟩ := tarr_spec ht
  obtain ⟨te', h3, h4⟩ := tsize_spec hsz
  obtain ⟨te2, h5, h6⟩ := tagg_spec hag
  rw [h3] at h5
  cases h5
  exact Y_index_arr TO ho h1 h2 h3 h6 h4 hx hy hi hj hc
theorem R_lenm {t K E id : Nat} {x : Operand} {es : List (AVal × AVal)} (TO : TabOk P tab) (ho : o.op = .call { callee := .builtin .len, args := #[x], argTypes := #[t] }) (ht : tmap tab t = some (K, E)) (hx : aev e x = some (.mp id)) (hb : look h id = some (.map es)) (hT : T.contains id = false) :
    AYield P T e h o (.d (.sc (.int .i64 (es.length : Int)))) := by
  obtain ⟨te, h1, h2⟩ := tmap_spec ht
  exact Y_len_map (κ := Nat) TO ho h1 h2 hx hb hT
variable {κ ν : Type} [DecidableEq κ] {ek : κ → Value} {ok : κ → Prop} {ka : κ → AVal} {xa : ν → AVal}
theorem R_lkIn {t K E id : Nat} {x y : Operand} {k : κ} {l : List (κ × ν)} {z : ν} {zv : Value} (law : KeyLaw P K ek ok) (hka : ∀ k, valA (ka k) = some (ek k)) (hz : ∀ W, (zeroValue E).run P W = .ok zv W) (hk : ok k) (hl : ∀ p ∈ l, ok p.1) (hn : (l.map (·.1)).Nodup) (hg : aget l k = some z)
    (TO : TabOk P tab) (ho : o.op = .lookup t x y true) (ht : tmap tab t = some (K, E)) (hx : aev e x = some (.mp id)) (hb : look h id = some (.map (ents ka xa l))) (hT : T.contains id = false) (hy : aev e y = some (ka k)) : AYield P T e h o (.tup [xa z, .d (.sc (.bool true))]) := by
  obtain ⟨te, h1, h2⟩ := tmap_spec ht
  exact Y_lookup_in TO law hka ho h1 h2 hx hb hT hy hk hl hn hg hz
theorem R_lkOut {t K E id : Nat} {x y : Operand} {k : κ} {l : List (κ × ν)} {zv : Value} (law : KeyLaw P K ek ok) (hka : ∀ k, valA (ka k) = some (ek k)) (hz : ∀ W, (zeroValue E).run P W = .ok zv W) (hz1 : zv.oneCell' = true) (hk : ok k) (hl : ∀ p ∈ l, ok p.1) (hn : (l.map (·.1)).Nodup) (hg : aget l k = none)
    (TO : TabOk P tab) (ho : o.op = .lookup t x y true) (ht : tmap tab t = some (K, E)) (hx : aev e x = some (.mp id)) (hb : look h id = some (.map (ents ka xa l))) (hT : T.contains id = false) (hy : aev e y = some (ka k)) : AYield P T e h o (.tup [.d (.sc zv), .d (.sc (.bool false))]) := by
  obtain ⟨te, h1, h2⟩ := tmap_spec ht
  exact Y_lookup_out TO law hka ho h1 h2 hx hb hT hy hk hl hn hg hz hz1
theorem R_lk1 {t K E id : Nat} {x y : Operand} {k : κ} {l : List (κ × ν)} {z : ν} {zv : Value} (law : KeyLaw P K ek ok) (hka : ∀ k, valA (ka k) = some (ek k)) (hz : ∀ W, (zeroValue E).run P W = .ok zv W) (hk : ok k) (hl : ∀ p ∈ l, ok p.1) (hn : (l.map (·.1)).Nodup) (hg : aget l k = some z)
    (TO : TabOk P tab) (ho : o.op = .lookup t x y false) (ht : tmap tab t = some (K, E)) (hx : aev e x = some (.mp id)) (hb : look h id = some (.map (ents ka xa l))) (hT : T.contains id = false) (hy : aev e y = some (ka k)) : AYield P T e h o (xa z) := by
  obtain ⟨te, h1, h2⟩ := tmap_spec ht
  exact Y_lookup1 TO law hka ho h1 h2 hx hb hT hy hk hl hn hg hz
/-- 'm[k] = z', at its turn in a region that draws. -/
theorem T_upd {fuel i : Nat} {listed : Array Bool} {t K E id : Nat} {x y z : Operand} {k : κ} {l : List (κ × ν)} {q : ν} (law : KeyLaw P K ek ok) (hka : ∀ k, valA (ka k) = some (ek k)) (hkv : ∀ k w F ι, VRel w F ι (ka k) (ek k)) (hk : ok k) (hl : ∀ p ∈ l, ok p.1) (hn : (l.map (·.1)).Nodup)
    (TO : TabOk P tab) (hi : ops[i]? = some o) (hw : awant ops e o = some true) (hdst : o.dst = none) (ho : o.op = .mapUpdate t x y z) (ht : tmap tab t = some (K, E)) (hx : aev e x = some (.mp id)) (hb : look h id = some (.map (ents ka xa l))) (hT : T.contains id = true) (hy : aev e y = some (ka k)) (hq : aev e z = some (xa q))
    (H : AAny P nt ops Q T fuel (listed.setIfInBounds i true) e ((id, .map (ents ka xa (Go.Proofs.Ytjfmiehpncginaa.aput l k q))) :: h)) : AAt P nt ops Q T fuel listed i e h := by
  obtain ⟨te, h1, h2⟩ := tmap_spec ht
  exact T_eff hi hw (E_mapUpdate TO law hka hkv ho hdst h1 h2 hx hb hy hq hk hl hn rfl hT) fun e' h' ⟨h3, h4⟩ => by subst h3 h4; exact H
theorem T_del {fuel i : Nat} {listed : Array Bool} {t tk K E id : Nat} {x y : Operand} {k : κ} {l : List (κ × ν)} (law : KeyLaw P K ek ok) (hka : ∀ k, valA (ka k) = some (ek k)) (hkv : ∀ k w F ι, VRel w F ι (ka k) (ek k)) (hk : ok k) (hl : ∀ p ∈ l, ok p.1) (hn : (l.map (·.1)).Nodup)
    (TO : TabOk P tab) (hi : ops[i]? = some o) (hw : awant ops e o = some true) (hdst : o.dst = none) (ho : o.op = .call { callee := .builtin .delete, args := #[x, y], argTypes := #[t, tk] }) (ht : tmap tab t = some (K, E)) (hx : aev e x = some (.mp id)) (hb : look h id = some (.map (ents ka xa l))) (hT : T.contains id = true) (hy : aev e y = some (ka k))
    (H : AAny P nt ops Q T fuel (listed.setIfInBounds i true) e ((id, .map (ents ka xa (Go.Proofs.Ytjfmiehpncginaa.adel l k))) :: h)) : AAt P nt ops Q T fuel listed i e h := by
  obtain ⟨te, h1, h2⟩ := tmap_spec ht
  exact T_eff hi hw (E_delete (d := none) TO law hka hkv ho hdst h1 h2 hx hb hy hk hl hn hT) fun e' h' ⟨h3, h4⟩ => by subst h3 h4; exact H
theorem T_storeS {fuel i : Nat} {listed : Array Bool} {t : TypeId} {x y : Operand} {id off s : Nat} {cs xs : List AVal} {c : AVal} (TO : TabOk P tab) (hi : ops[i]? = some o) (hw : awant ops e o = some true) (hdst : o.dst = none) (ho : o.op = .store t x y) (hx : aev e x = some (.ptr id off)) (hb : look h id = some (.var cs))
    (hy : aev e y = some c) (hcs : cellsA c = some xs) (hp : xs.all plainC = true) (hs : tsize tab t = some s) (hl : Nat.beq xs.length s = true) (hT : T.contains id = true) (hle : off + s ≤ cs.length)
    (H : AAny P nt ops Q T fuel (listed.setIfInBounds i true) e ((id, .var (setW cs off xs)) :: h)) : AAt P nt ops Q T fuel listed i e h := by
  obtain ⟨te, h1, h2⟩ := tsize_spec hs
  subst h2
  exact T_eff hi hw (E_store_ptr TO ho hdst h1 hx hb hy hcs hp hl (Nat.ble_eq_true_of_le hle) rfl rfl hT) fun e' h' ⟨h1, h2⟩ => by subst h1 h2; exact H
theorem O_makeMap {t d : Nat} (id : Nat) (hw : awant ops e o = some true) (hdst : o.dst = some d) (hd : Nat.blt d nt = true) (hid : Nat.blt id 1000 = true) (ho : o.op = .makeMap t none) (HK : AOps P nt ops Q rest ((d, .mp id) :: killE id e) ((id, .map []) :: killH id h)) : AOps P nt ops Q (o :: rest) e h :=
  O_eff (T := []) hw (E_makeMap ho hdst hid hd) fun e' h' ⟨h1, h2⟩ => by subst h1 h2; exact HK
/-- 'new' of a value, under a name of our choice. -/
theorem O_boxN {t : TypeId} {x : Operand} {d : Nat} {c : AVal} {cs : List AVal} (id : Nat) (hw : awant ops e o = some true) (hdst : o.dst = some d) (hd : Nat.blt d nt = true) (hid : Nat.blt id 1000 = true) (ho : o.op = .box t x) (hx : aev e x = some c) (hcs : cellsA c = some cs)
    (HK : AOps P nt ops Q rest ((d, .ptr id 0) :: killE id e) ((id, .var (cs.map (killV id))) :: killH id h)) : AOps P nt ops Q (o :: rest) e h :=
  O_eff (T := []) hw (E_box ho hdst hx hcs hid hd) fun e' h' ⟨h1, h2⟩ => by subst h1 h2; exact HK
/-- A call that gets blocks of ours. -/
theorem O_cP {f : FuncId} {args : Array Operand} {ats : Array TypeId} {cs0 cs : List AVal} {h0 h1 : Heap} {c : AVal} {d : Nat} (ρ : List (Nat × Nat)) (hinj : ∀ p p' i, look ρ p = some i → look ρ p' = some i → p = p') (hdom : ∀ p i, look ρ p = some i → 1000 ≤ p ∧ (look h0 p).isSome = true ∧ (look h1 p).isSome = true)
    (H : ACall P f cs h0 (fun c' h' => c' = c ∧ h' = h1)) (hok : ∀ c ∈ cs, okV ρ c = true) (hl : Lent ρ h h0) (hw : awant ops e o = some true) (hdst : o.dst = some d) (hd : Nat.blt d nt = true) (ho : o.op = .call { callee := .value (.func f), args := args, argTypes := ats }) (hx : aevs e args.toList = some cs0)
    (hcs : cs.map (renV ρ) = cs0) (HK : AOps P nt ops Q rest ((d, renV ρ c) :: e) (renH ρ h1 ++ h)) : AOps P nt ops Q (o :: rest) e h :=
  O_eff (T := ρ.map (·.2)) hw (E_callP ρ ho hdst hx hcs hok hl (fun p i hp => ⟨(hdom p i hp).1, (hdom p i hp).2.1⟩) hinj H hd (fun p i hp => by
    have : ∀ (ρ : List (Nat × Nat)), look ρ p = some i → i ∈ ρ.map (·.2) := by
      intro ρ
      induction ρ with
      | nil => intro h; cases h
      | cons q r ih =>
        obtain ⟨a, b⟩ := q
        intro h
        by_cases ha : a = p
        · subst ha; rw [look_cons_same] at h; cases h; simp
        · rw [look_cons_ne _ _ ha] at h; have := ih h; simp at this ⊢; exact .inr this
    exact List.contains_iff_mem.2 (this ρ hp)) (fun c' h' ⟨h3, h4⟩ p i hp => by subst h4; exact (hdom p i hp).2.2)) fun e' h' ⟨c', h2, ⟨h3, h4⟩, h5, h6⟩ => by subst h3 h4 h5 h6; exact HK
end
end Go.Proofs.Ytjfmiehpncginaa.Ab

namespace Go.Proofs.Ytjfmiehpncginaa.Ab
set_option linter.unusedVariables false
set_option linter.unusedSimpArgs false
set_option maxRecDepth 100000
open Go.RowKit

def pfxV (p : Pfx) : Value := .agg #[.int .u32 p.a, .int .i64 p.b]
theorem pfxA_val (p : Pfx) : valA (pfxA p) = some (pfxV p) := rfl
theorem pfxA_rel (p : Pfx) (w : World) (F : Nat → Prop) (ι : Nat → Option Value) : VRel w F ι (pfxA p) (pfxV p) := val_mk _ _ _ _ _ rfl rfl
theorem chk_int (b : Bool) (n : Nat) (t : TypeId) (q : IntKind) (x : Int) (w : World) (ht : Try.prog.underlying t = some (.int q)) : (Instr.checkKey b (n + 1) t (.int q x)).run Try.prog w = .ok () w := by
  unfold Instr.checkKey
  simp [run_underlying ht]
theorem part_u32 (p : Pfx) (w : World) : (part 24 #[.int .u32 p.a, .int .i64 p.b] 0).run Try.prog w = .ok (.int .u32 p.a) w := by
  have h : tlook tab 24 = some _ := rfl
  unfold part
  simp [(tabOk _ _ h).run_agg]
theorem part_i64 (p : Pfx) (w : World) : (part 3 #[.int .u32 p.a, .int .i64 p.b] 1).run Try.prog w = .ok (.int .i64 p.b) w := by
  have h : tlook tab 3 = some _ := rfl
  unfold part
  simp [(tabOk _ _ h).run_agg]
theorem chk_pfx (b : Bool) (k : Pfx) (w : World) (n : Nat) : (Instr.checkKey b (n + 2) 34 (pfxV k)).run Try.prog w = .ok () w := by
  unfold Instr.checkKey
  simp [pfxV, run_underlying Try.underlying34, part_u32, part_i64, chk_int b n _ _ _ _ Try.underlying24, chk_int b n _ _ _ _ Try.underlying3]
theorem pfxKey : KeyLaw Try.prog 34 pfxV (fun _ => True) := by
  refine KeyLaw.of_agg Try.underlying34 (fun k => ⟨_, rfl⟩) ?_ ?_ ?_
  · intro b k w _
    exact chk_pfx b k w 9998
  · intro a b w _ _
    have h := run_eqLeafs tabOk noStand 8 34 _ [.int .u32 a.a, .int .i64 a.b] [.int .u32 b.a, .int .i64 b.b] _ 9999 _ w rfl rfl rfl rfl (pfxEq a b) (by omega)
    have e : (a == b) = decide (a = b) := by rw [Bool.eq_iff_iff]; simp
    rw [e] at h
    exact h
  · intro a _
    simp [Instr.sameBits, pfxV]
end Go.Proofs.Ytjfmiehpncginaa.Ab

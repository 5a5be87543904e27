/-
  Texts of a proof, one behind the other (part 14).
-/
import Derived.CallsIn
import Derived.Listen
import Derived.Lone
import Derived.Test.YtenolkolkpfjgaaGreatFt8
set_option linter.unusedVariables false
set_option linter.unusedSimpArgs false
namespace Go.Proofs.YtenolkolkpfjgaaGreat
set_option linter.unusedVariables false
set_option maxRecDepth 100000
open Go
def rworld {α : Type} : Result α → World
  | .ok _ w => w
  | .halt _ w => w
theorem ask_drawn {α : Type} (a : Ask α) (w : World) : w.drawn ≤ (w.ask a).2.drawn := by
  induction a generalizing w with
  | done a => exact Nat.le_refl _
  | ask what range k ih =>
    simp only [World.ask]
    split
    · exact ih _ _
    · refine Nat.le_trans ?_ (ih _ _)
      exact Nat.le_succ _
theorem sys_drawn (w : World) (c : Sys) : w.drawn ≤ (w.sys c).2.drawn := by
  have hk := ask_drawn (Kernel.perform c w.os) w
  unfold World.sys
  split
  · exact Nat.le_refl _
  · rename_i h
    rw [h] at hk
    exact hk
theorem viewStore_drawn {p : Program} {w : World} {at_ : Addr} {u : TypeId} {k : Addr} {v : Value} {b : Bool} {r : World × List Addr} (h : w.viewStore p at_ u k v b = .ok r) : r.1.drawn = w.drawn := by
  unfold World.viewStore at h
  simp only [bind, Except.bind, pure, Except.pure, throw, throwThe, MonadExceptOf.throw] at h
  repeat' first
    | (simp at h; done)
    | (simp only [Except.ok.injEq] at h; subst h; rfl)
    | split at h
theorem farStore_drawn {p : Program} {w : World} {a : Addr} {v : Value} {b : Bool} {r : World × List Addr} (h : w.farStore p a v b = .ok r) : r.1.drawn = w.drawn := by
  unfold World.farStore at h
  split at h
  · split at h
    · rename_i hv
      cases h
      exact viewStore_drawn hv
    · cases h
  · cases h
theorem run_drawn {α : Type} (p : Program) (e : Sem α) (w : World) : w.drawn ≤ (rworld (e.run p w)).drawn := by
  induction e generalizing w with
  | pure a => exact Nat.le_refl _
  | load m a k ih =>
    simp only [Sem.run]
    (repeat' split) <;> first | exact ih _ _ | exact Nat.le_refl _
  | store m a v k ih =>
    cases v <;> simp only [Sem.run] <;> (repeat' split) <;> first
      | exact Nat.le_refl _
      | (refine Nat.le_trans ?_ (ih _); exact Nat.le_refl _)
      | (refine Nat.le_trans ?_ (ih _); rename_i hf; exact Nat.le_of_eq (farStore_drawn hf).symm)
  | new o k ih => refine Nat.le_trans ?_ (ih _ _); exact Nat.le_refl _
  | shape r k ih => exact ih _ _
  | freeze a n k ih =>
    refine Nat.le_trans ?_ (ih _)
    unfold World.freeze
    split <;> exact Nat.le_refl _
  | frozen a k ih => exact ih _ _
  | getObj r k ih =>
    simp only [Sem.run]
    split <;> first | exact ih _ _ | exact Nat.le_refl _
  | setObj r o k ih =>
    simp only [Sem.run]
    split <;> first | exact Nat.le_refl _ | (refine Nat.le_trans ?_ (ih _); exact Nat.le_refl _)
  | choose q k ih =>
    simp only [Sem.run]
    split
    · exact ih _ _
    · refine Nat.le_trans ?_ (ih _ _)
      exact Nat.le_succ _
  | sys c k ih =>
    refine Nat.le_trans ?_ (ih _ _)
    exact sys_drawn _ _
  | program k ih => exact ih _ _
  | mark m k ih => exact ih _
  | halt h => exact Nat.le_refl _
section
variable {α : Type} {p : Program} {s : Sem α} {w w1 : World} {D : Nat} {a : α} {x : Halt} {e e1 : Array Event}
theorem le_ok (h : s.run p w = .ok a w1) (hD : D ≤ w.drawn) : D ≤ w1.drawn := by
  have := run_drawn p s w
  rw [h] at this
  exact Nat.le_trans hD this
theorem le_halt (h : s.run p w = .halt x w1) (hD : D ≤ w.drawn) : D ≤ w1.drawn := by
  have := run_drawn p s w
  rw [h] at this
  exact Nat.le_trans hD this
theorem le_okP (h : (s.run p w, e) = (.ok a w1, e1)) (hD : D ≤ w.drawn) : D ≤ w1.drawn := le_ok (Prod.mk.inj h).1 hD
theorem le_haltP (h : (s.run p w, e) = (.halt x w1, e1)) (hD : D ≤ w.drawn) : D ≤ w1.drawn := le_halt (Prod.mk.inj h).1 hD
end
def gdr (D : Nat) : GStep → Prop
  | .go _ w _ => D ≤ w.drawn
  | .comm _ _ _ _ w _ => D ≤ w.drawn
  | .spawn _ _ w _ => D ≤ w.drawn
  | .count _ w _ => D ≤ w.drawn
  | .timer _ _ w _ => D ≤ w.drawn
  | .alone _ _ w _ => D ≤ w.drawn
  | .newcoro _ _ _ w _ => D ≤ w.drawn
  | .coroswitch _ _ _ w _ => D ≤ w.drawn
  | .collect _ w _ => D ≤ w.drawn
  | .watch _ w _ => D ≤ w.drawn
  | .ended _ _ _ => True
theorem gdr_after (D : Nat) (es : Array Event) (s : GStep) : gdr D (GStep.after es s) = gdr D s := by cases s <;> rfl
theorem gdr_elim {α : Type} {D : Nat} {o : Option α} {a : GStep} {f : α → GStep} (ha : gdr D a) (hf : ∀ x, gdr D (f x)) : gdr D (o.elim a f) := by cases o; exact ha; exact hf _
section
variable {p : Program} {main b : Bool} {fr : Frame} {callers : List Frame} {dying : Option Dying} {w : World} {D : Nat}
theorem doReturn_dr {v : Value} (h : D ≤ w.drawn) : gdr D (doReturn p main fr callers dying v w) := by
  unfold doReturn
  repeat' first
    | trivial
    | rw [gdr_after]
    | exact h
    | exact le_ok (by assumption) h
    | exact le_halt (by assumption) h
    | exact le_okP (by assumption) h
    | exact le_haltP (by assumption) h
    | (simp only [gdr]; exact le_ok (by assumption) h)
    | (simp only [gdr]; exact le_halt (by assumption) h)
    | split
theorem dieOf_dr {l : List ByteArray} {m : String} {b : Bool} (h : D ≤ w.drawn) : gdr D (dieOf fr l m b w) := h
theorem endThrow_dr {m : String} (h : D ≤ w.drawn) : gdr D (endThrow fr m w) := h
theorem endWith_dr {n : Nat} {t : ByteArray} {o : Outcome} : gdr D (endWith w n t o) := by
  unfold endWith
  simp only []
  repeat' first
    | trivial
    | split
theorem endPrinting_dr {v : Value} (h : D ≤ w.drawn) : gdr D (endPrinting p fr v w) := by
  unfold endPrinting
  simp only []
  repeat' first
    | exact endThrow_dr h
    | trivial
    | split
theorem endFatal_dr {m : String} (h : D ≤ w.drawn) : gdr D (endFatal p fr callers dying m w) := by
  unfold endFatal
  simp only []
  split
  · exact dieOf_dr (le_ok (by assumption) h)
  · trivial
  · trivial
theorem writeOn_dr {d : Dying} {f : Fatal} (h : D ≤ w.drawn) : gdr D (writeOn p fr d f w) := by
  unfold writeOn
  simp only [Sem.runT_eq]
  split
  · trivial
  · split
    · exact le_okP (by assumption) h
    · exact le_haltP (by assumption) h
    · trivial
    · trivial
theorem die_dr {d : Dying} (h : D ≤ w.drawn) : gdr D (die p fr d w) := by
  unfold die
  simp only [Sem.runT_eq, gdr_after]
  repeat' first
    | trivial
    | rw [gdr_after]
    | exact h
    | exact le_ok (by assumption) h
    | exact le_halt (by assumption) h
    | exact le_okP (by assumption) h
    | exact le_haltP (by assumption) h
    | (simp only [gdr]; exact le_ok (by assumption) h)
    | (simp only [gdr]; exact le_halt (by assumption) h)
    | exact writeOn_dr h
    | exact endWith_dr
    | exact endPrinting_dr (le_halt (by assumption) h)
    | split
theorem callDeferred_dr {d : Deferred} (h : D ≤ w.drawn) : gdr D (callDeferred p fr callers dying d w) := by
  unfold callDeferred
  simp only [Sem.runT_eq, gdr_after]
  repeat' first
    | trivial
    | rw [gdr_after]
    | exact h
    | exact le_ok (by assumption) h
    | exact le_halt (by assumption) h
    | exact le_okP (by assumption) h
    | exact le_haltP (by assumption) h
    | (simp only [gdr]; exact le_ok (by assumption) h)
    | (simp only [gdr]; exact le_halt (by assumption) h)
    | exact endFatal_dr (le_halt (by assumption) h)
    | exact endThrow_dr (le_halt (by assumption) h)
    | split
theorem unwind_dr (h : D ≤ w.drawn) : gdr D (unwind p main fr callers dying w) := by
  unfold unwind
  simp only [Sem.runT_eq, gdr_after]
  repeat' first
    | trivial
    | rw [gdr_after]
    | exact h
    | exact le_ok (by assumption) h
    | exact le_halt (by assumption) h
    | exact le_okP (by assumption) h
    | exact le_haltP (by assumption) h
    | (simp only [gdr]; exact le_ok (by assumption) h)
    | (simp only [gdr]; exact le_halt (by assumption) h)
    | exact callDeferred_dr h
    | exact doReturn_dr h
    | exact doReturn_dr (le_ok (by assumption) h)
    | exact endPrinting_dr h
    | split
theorem early_dr {g : Nat} (h : D ≤ w.drawn) : gdr D (early p fr callers dying g w) := by
  unfold early
  simp only []
  repeat' first
    | trivial
    | rw [gdr_after]
    | exact h
    | exact le_ok (by assumption) h
    | exact le_halt (by assumption) h
    | exact le_okP (by assumption) h
    | exact le_haltP (by assumption) h
    | (simp only [gdr]; exact le_ok (by assumption) h)
    | (simp only [gdr]; exact le_halt (by assumption) h)
    | split
theorem apply_dr {s : Sem Next} (h : D ≤ w.drawn) : gdr D (stepG.apply p b fr callers dying s w) := by
  unfold stepG.apply
  have e : (if b = true then s.runT p w #[] else (s.run p w, #[])).1 = s.run p w := by split <;> simp
  generalize (if b = true then s.runT p w #[] else (s.run p w, #[])) = re at e ⊢
  obtain ⟨r, es⟩ := re
  dsimp only at e
  subst e
  simp only [gdr_after]
  repeat' first
    | trivial
    | rw [gdr_after]
    | exact h
    | exact le_ok (by assumption) h
    | exact le_halt (by assumption) h
    | exact le_okP (by assumption) h
    | exact le_haltP (by assumption) h
    | (simp only [gdr]; exact le_ok (by assumption) h)
    | (simp only [gdr]; exact le_halt (by assumption) h)
    | exact endFatal_dr (le_halt (by assumption) h)
    | exact endThrow_dr (le_halt (by assumption) h)
    | exact endThrow_dr (le_ok (by assumption) h)
    | exact early_dr (le_halt (by assumption) h)
    | split
theorem oper_dr (h : D ≤ w.drawn) : gdr D (stepG.oper p b fr callers dying w) := by
  unfold stepG.oper
  split
  · trivial
  · split <;> exact apply_dr h
theorem exec_dr (h : D ≤ w.drawn) : gdr D (stepG.exec p main b fr callers dying w) := by
  unfold stepG.exec
  simp only [Sem.runT_eq, gdr_after]
  repeat' first
    | trivial
    | rw [gdr_after]
    | exact h
    | exact le_ok (by assumption) h
    | exact le_halt (by assumption) h
    | exact le_okP (by assumption) h
    | exact le_haltP (by assumption) h
    | (simp only [gdr]; exact le_ok (by assumption) h)
    | (simp only [gdr]; exact le_halt (by assumption) h)
    | exact apply_dr h
    | exact apply_dr (le_ok (by assumption) h)
    | exact oper_dr h
    | exact doReturn_dr (le_ok (by assumption) h)
    | (refine gdr_elim ?_ fun x => ?_)
    | (simp only [Sem.runT_eq, gdr_after]; done)
    | split
end
section
variable {p : Program} {w : World} {m m' : Machine}
theorem stepG_dr {main b : Bool} {g : Goroutine} : gdr w.drawn (stepG p main g w b) := by
  obtain ⟨fr, callers, status, dying, offers⟩ := g
  simp only [stepG]
  have h : w.drawn ≤ w.drawn := Nat.le_refl _
  split
  · exact die_dr h
  · exact exec_dr h
  · exact unwind_dr h
theorem waitingAt_dr {rest : Rest} {cs : Array CommCase} {w1 : World} (h : waitingAt rest cs w = some w1) : w1.drawn = w.drawn := by
  unfold waitingAt at h
  repeat' first
    | (simp at h; done)
    | (simp only [Option.some.injEq] at h; subst h; rfl)
    | split at h
theorem communicate_dr {rest : Rest} {gs : Array Goroutine} {i : Nat} {g : Goroutine} {cases : Array CommCase} {blocking : Bool} {shape : CommShape} (h : (communicate p rest gs i g cases blocking shape w).1 = .next m') : w.drawn ≤ m'.world.drawn := by
  have hD : w.drawn ≤ w.drawn := Nat.le_refl _
  unfold communicate at h
  simp only [] at h
  repeat' first
    | (simp at h; done)
    | (simp only [Stepped.next.injEq] at h; subst h; dsimp only; first | exact hD | exact le_ok (by assumption) hD | exact le_halt (by assumption) hD | exact le_halt (by assumption) (le_ok (by assumption) hD) | exact le_ok (by assumption) (le_ok (by assumption) hD))
    | (simp only [Stepped.next.injEq] at h; subst h; dsimp only; rename_i hw; exact Nat.le_of_eq (waitingAt_dr hw).symm)
    | split at h
theorem look_dr {gs : Array Goroutine} {rest : Rest} (h : look p gs rest w = .next m') : w.drawn ≤ m'.world.drawn := by
  have hD : w.drawn ≤ w.drawn := Nat.le_refl _
  unfold look at h
  simp only [] at h
  repeat' first
    | (simp at h; done)
    | (simp only [Stepped.next.injEq] at h; subst h; dsimp only; first | exact hD | exact le_ok (by assumption) hD | exact le_halt (by assumption) hD | exact le_halt (by assumption) (le_ok (by assumption) hD) | exact le_ok (by assumption) (le_ok (by assumption) hD))
    | split at h
theorem opened_dr {var : Addr} {m1 : Machine} (h : timerOp.opened m var = some m1) : m1.world.drawn = m.world.drawn := by
  unfold timerOp.opened at h
  split at h
  · split at h
    · cases h; rfl
    · cases h
  · cases h; rfl
theorem timerOp_dr {op : TimerOp} {v : Value} (h : timerOp m op = .ok (v, m')) : m'.world.drawn = m.world.drawn := by
  unfold timerOp timerOp.named retime drain Machine.withTimers at h
  simp only [] at h
  repeat' first
    | (simp at h; done)
    | (simp only [Except.ok.injEq, Prod.mk.injEq] at h; obtain ⟨_, h⟩ := h; subst h; first | rfl | (dsimp only; exact opened_dr (by assumption)))
    | split at h
set_option maxHeartbeats 4000000 in
theorem runT_dr {i : Nat} {b : Bool} (h : (runT p m i b).1 = .next m') : m.world.drawn ≤ m'.world.drawn := by
  simp only [runT] at h
  revert h
  generalize m.gs.swapAt! _ _ = gg
  have hs : gdr m.world.drawn (stepG p (i == 0) gg.1 m.world b) := stepG_dr
  revert hs
  generalize stepG p (i == 0) gg.1 m.world b = s
  intro hs h
  cases s <;> simp only [] at h <;> simp only [gdr] at hs
  all_goals first
    | (simp at h; done)
    | (exact Nat.le_trans hs (communicate_dr h))
    | (exact Nat.le_trans hs (look_dr h))
    | (simp only [Stepped.next.injEq] at h; subst h; exact hs)
    | (repeat' first
        | (simp at h; done)
        | (simp only [Stepped.next.injEq] at h; subst h; exact hs)
        | (simp only [Stepped.next.injEq] at h; subst h; rename_i ht; have := timerOp_dr ht; dsimp only at this ⊢; omega)
        | (simp only [endThrow, dieOf, Stepped.next.injEq] at h; subst h; exact hs)
        | split at h)
theorem serve_dr {k : Nat} (h : serve p m k = .next m') : m.world.drawn ≤ m'.world.drawn := by
  unfold serve at h
  simp only [] at h
  repeat' first
    | (simp at h; done)
    | (simp only [Stepped.next.injEq] at h; subst h; exact Nat.le_refl _)
    | split at h
def mdr (D : Nat) : Move → Prop
  | .goroutine m _ => D ≤ m.world.drawn
  | .machine (.next m) _ => D ≤ m.world.drawn
  | .machine (.ended _ _) _ => True
theorem mdr_serve {D k : Nat} {ops : Array MemOp} (h : D ≤ m.world.drawn) : mdr D (.machine (serve p m k) ops) := by
  cases hs : serve p m k with
  | next m1 => exact Nat.le_trans h (serve_dr hs)
  | ended o w => trivial
theorem adv_dr {D t : Nat} (h : D ≤ m.world.drawn) : D ≤ (m.advanceTo t).world.drawn := h
set_option maxHeartbeats 4000000 in
theorem askOn_dr {D : Nat} (h : D ≤ m.world.drawn) : mdr D (askOn p m) := by
  unfold askOn
  simp only []
  repeat' first
    | trivial
    | rw [gdr_after]
    | exact h
    | exact le_ok (by assumption) h
    | exact le_halt (by assumption) h
    | exact le_okP (by assumption) h
    | exact le_haltP (by assumption) h
    | (simp only [gdr]; exact le_ok (by assumption) h)
    | (simp only [gdr]; exact le_halt (by assumption) h)
    | exact le_ok (by assumption) (le_ok (by assumption) h)
    | exact le_ok (by assumption) (le_ok (by assumption) (le_ok (by assumption) h))
    | exact mdr_serve (le_ok (by assumption) h)
    | (simp only [mdr, Machine.advanceTo]; first | trivial | exact le_ok (by assumption) h | exact le_ok (by assumption) (le_ok (by assumption) h) | exact le_ok (by assumption) (le_ok (by assumption) (le_ok (by assumption) h)) | exact le_ok (by assumption) (le_ok (by assumption) (le_ok (by assumption) (le_ok (by assumption) h))) | exact le_ok (by assumption) (adv_dr (le_ok (by assumption) (le_ok (by assumption) h))) | exact le_ok (by assumption) (le_ok (by assumption) (adv_dr (le_ok (by assumption) (le_ok (by assumption) h)))))
    | split
theorem ask_dr {D : Nat} (h : D ≤ m.world.drawn) : mdr D (ask p m) := by
  unfold ask
  split
  · split
    · trivial
    · rename_i hr
      generalize hl : look p m.gs m.rest _ = s
      cases s with
      | next m1 => exact askOn_dr (Nat.le_trans (le_ok hr h) (look_dr hl))
      | ended o w => trivial
    · rename_i hr
      exact askOn_dr (le_ok hr h)
  · exact askOn_dr h
theorem move_dr {D : Nat} (h : D ≤ m.world.drawn) : mdr D (move p m) := by
  unfold move
  repeat' first
    | trivial
    | exact h
    | exact ask_dr h
    | split
theorem step_dr (h : step p m = .next m') : m.world.drawn ≤ m'.world.drawn := by
  have hm : mdr m.world.drawn (move p m) := move_dr (Nat.le_refl _)
  unfold step stepT at h
  split at h
  · rename_i m1 i he
    rw [he] at hm
    exact Nat.le_trans hm (runT_dr h)
  · rename_i s ops he
    rw [he] at hm
    dsimp only at h
    subst h
    exact hm
theorem steps_dr (h : Steps p m m') : m.world.drawn ≤ m'.world.drawn := by
  have h1 := StepsIn.of_steps h
  clear h
  induction h1 with
  | refl => exact Nat.le_refl _
  | head _ hs _ ih => exact Nat.le_trans (step_dr hs) ih
theorem Calls.drawn {f : FuncId} {args : Array Value} {R : Ending → World → Prop} (h : Calls p f args w R) : Calls p f args w fun e w' => R e w' ∧ (e ≠ .outgrown → w.drawn ≤ w'.drawn) := fun cs => by
  obtain ⟨e, w', fr, hR, hc, h1, h2⟩ := h cs
  refine ⟨e, w', fr, ⟨hR, fun he => ?_⟩, hc, h1, h2⟩
  cases e with
  | outgrown => exact absurd rfl he
  | returned v => exact steps_dr hc
  | panicked c => exact steps_dr hc
end
end Go.Proofs.YtenolkolkpfjgaaGreat

/-
  A runner of closed code: a region that draws its order, run in each order; all must come to one state. (For m[k]++, whose lookup and whose entry are free to come in either order.)
-/
import Derived.Test.YtplgpbadpdmeeaaRunDraw3
namespace Go.Proofs.Ytplgpbadpdmeeaa.Rn
set_option linter.unusedVariables false
open Go.RowKit
open Go.Proofs.Ytplgpbadpdmeeaa.Ab (TE TTab tlook TabOk TFacts win setW setW_get win_get Sh)

/-! Equality, as far as it is told -/
def valEq : Value → Value → Bool
  | .bool a, .bool b => a == b
  | .int k a, .int q b => decide (k = q) && decide (a = b)
  | .string a, .string b => decide (a.data.toList = b.data.toList)
  | .pointer none, .pointer none => true
  | .slice none l c, .slice none l' c' => Nat.beq l l' && Nat.beq c c'
  | .map none, .map none => true
  | .nilFunc, .nilFunc => true
  | .nilIface, .nilIface => true
  | .tuple a, .tuple b => Nat.beq a.size 0 && Nat.beq b.size 0
  | _, _ => false
theorem valEq_eq : ∀ {a b : Value}, valEq a b = true → a = b := by
  intro a b h
  unfold valEq at h
  split at h <;> first | rfl | skip
  · simp at h; rw [h]
  · simp at h; rw [h.1, h.2]
  · rename_i a b
    obtain ⟨⟨l⟩⟩ := a
    obtain ⟨⟨m⟩⟩ := b
    simp at h
    rw [h]
  · simp at h; rw [h.1, h.2]
  · rename_i a b
    simp at h
    rw [h.1, h.2]
  · cases h

mutual
def veq : V → V → Bool
  | .sc a, .sc b => valEq a b
  | .ptr i o, .ptr j p => Nat.beq i j && Nat.beq o p
  | .sl i o l k c, .sl i' o' l' k' c' => Nat.beq i i' && Nat.beq o o' && Nat.beq l l' && Nat.beq k k' && decide (c = c')
  | .emp, .emp => true
  | .mp i, .mp j => Nat.beq i j
  | .fn f cs, .fn g ds => Nat.beq f g && veqs cs ds
  | .ifc t v, .ifc u w => Nat.beq t u && veq v w
  | .agg cs, .agg ds => veqs cs ds
  | .tup cs, .tup ds => veqs cs ds
  | _, _ => false
def veqs : List V → List V → Bool
  | [], [] => true
  | a :: r, b :: q => veq a b && veqs r q
  | _, _ => false
end
mutual
theorem veq_eq : (a b : V) → veq a b = true → a = b
  | .sc x, b, h => by cases b <;> simp [veq] at h; rw [valEq_eq h]
  | .ptr i o, b, h => by cases b <;> simp [veq] at h; rw [h.1, h.2]
  | .sl i o l k c, b, h => by cases b <;> simp [veq] at h; obtain ⟨⟨⟨⟨h1, h2⟩, h3⟩, h4⟩, h5⟩ := h; rw [h1, h2, h3, h4, h5]
  | .emp, b, h => by cases b <;> simp [veq] at h; rfl
  | .mp i, b, h => by cases b <;> simp [veq] at h; rw [h]
  | .fn f cs, b, h => by cases b <;> simp [veq] at h; rw [h.1, veqs_eq _ _ h.2]
  | .ifc t v, b, h => by cases b <;> simp [veq] at h; rw [h.1, veq_eq _ _ h.2]
  | .agg cs, b, h => by cases b <;> simp [veq] at h; rw [veqs_eq _ _ h]
  | .tup cs, b, h => by cases b <;> simp [veq] at h; rw [veqs_eq _ _ h]
theorem veqs_eq : (a b : List V) → veqs a b = true → a = b
  | [], b, h => by cases b <;> simp [veqs] at h; rfl
  | a :: r, b, h => by cases b <;> simp [veqs] at h; rw [veq_eq _ _ h.1, veqs_eq _ _ h.2]
end
def entsEq : List (V × V × Nat) → List (V × V × Nat) → Bool
  | [], [] => true
  | a :: r, b :: q => veq a.1 b.1 && veq a.2.1 b.2.1 && Nat.beq a.2.2 b.2.2 && entsEq r q
  | _, _ => false
theorem entsEq_eq : ∀ {a b : List (V × V × Nat)}, entsEq a b = true → a = b
  | [], b, h => by cases b <;> simp [entsEq] at h; rfl
  | (x, y, z) :: r, b, h => by
    cases b with
    | nil => simp [entsEq] at h
    | cons q b =>
      obtain ⟨u, v, w⟩ := q
      simp [entsEq] at h
      obtain ⟨⟨⟨h1, h2⟩, h3⟩, h4⟩ := h
      rw [veq_eq _ _ h1, veq_eq _ _ h2, h3, entsEq_eq h4]
def bEq : B → B → Bool
  | .cells cs m, .cells ds k => veqs cs ds && (m == k)
  | .map es c, .map ds d => entsEq es ds && Nat.beq c d
  | .sit s p, .sit t q => decide (s.data.toList = t.data.toList) && Nat.beq p q
  | .mit m s l t, .mit m' s' l' t' => decide (m = m') && Nat.beq s s' && decide (l = l') && Nat.beq t t'
  | _, _ => false
theorem bEq_eq : ∀ (a b : B), bEq a b = true → a = b
  | .cells cs m, b, h => by cases b <;> simp [bEq] at h; rw [veqs_eq _ _ h.1, h.2]
  | .map es c, b, h => by cases b <;> simp [bEq] at h; rw [entsEq_eq h.1, h.2]
  | .sit ⟨⟨s⟩⟩ p, b, h => by
    cases b <;> simp [bEq] at h
    rename_i t q
    obtain ⟨⟨t⟩⟩ := t
    simp at h
    rw [h.1, h.2]
  | .mit m s l t, b, h => by cases b <;> simp [bEq] at h; obtain ⟨⟨⟨h1, h2⟩, h3⟩, h4⟩ := h; rw [h1, h2, h3, h4]
def optEq {α : Type} (f : α → α → Bool) : Option α → Option α → Bool
  | none, none => true
  | some a, some b => f a b
  | _, _ => false
def trEq {α : Type} (f : α → α → Bool) : Tr α → Tr α → Bool
  | .nil, .nil => true
  | .nd v l r, .nd u p q => optEq f v u && trEq f l p && trEq f r q
  | _, _ => false
theorem optEq_eq {α : Type} {f : α → α → Bool} (hf : ∀ a b, f a b = true → a = b) : ∀ {a b : Option α}, optEq f a b = true → a = b
  | none, none, _ => rfl
  | some a, some b, h => by rw [hf a b h]
theorem trEq_eq {α : Type} {f : α → α → Bool} (hf : ∀ a b, f a b = true → a = b) : ∀ {a b : Tr α}, trEq f a b = true → a = b
  | .nil, .nil, _ => rfl
  | .nd v l r, .nd u p q, h => by
    simp [trEq] at h
    rw [optEq_eq hf h.1.1, trEq_eq hf h.1.2, trEq_eq hf h.2]
def stEq (s t : St) : Bool := trEq veq s.e t.e && Nat.beq s.n t.n && trEq bEq s.h t.h && Nat.beq s.lo t.lo
theorem stEq_eq {s t : St} (h : stEq s t = true) : s = t := by
  obtain ⟨a, b, c, d⟩ := s
  obtain ⟨a', b', c', d'⟩ := t
  simp [stEq] at h
  obtain ⟨⟨⟨h1, h2⟩, h3⟩, h4⟩ := h
  rw [trEq_eq veq_eq h1, h2, trEq_eq bEq_eq h3, h4]

/-! Each order -/
section
variable {P : Program} {tab : TTab} {ops : Array Oper} {nt : Nat}
theorem rone_good {call : FuncId → List V → Nat → Hp → Nat → R} {known : FuncId → Bool} (TO : TabOk P tab) (CO : CallOk P call) {o : Oper} {s s' : St} (hr : rops P tab call known ops nt [o] s = some s') :
    SynS s s' ∧ ∀ {z : Nat} ι a w, Rl z ι nt s.e s.h.get a w → Free ι s.n s'.n → ∀ (K : Act → World → Prop) (Q : Exit → Act → World → Prop), (∀ ι' a' w', Rl z ι' nt s'.e s'.h.get a' w' → Ex s.n s'.n ι s.h.get w ι' s'.h.get w' → K a' w') → if Region.wanted o (yielded ops a.tmps) then o.wp P a w K Q else K (a.put o.dst undef) w := by
  rw [rops] at hr
  split at hr
  · rename_i hw
    split at hr
    · rename_i r hop
      split at hr
      · rename_i e' hp
        cases hr
        obtain ⟨g1, g2⟩ := rop_good TO CO hop
        refine ⟨g1, fun ι a w R hf K Q hK => ?_⟩
        rw [wantV_rel R.env hw, if_pos rfl]
        refine g2 ι a w ⟨R.heap, R.env, hf⟩ K Q fun ι' u w' hv hH hE => ?_
        have hio := hE.io hf
        have R' : Rl _ ι' nt s.e r.2.2.1.get a w' := ⟨hH, R.env.mono hio, R.defers.ex hE, R.size⟩
        exact hK ι' _ w' (putE_rel R' hv hp) hE
      · cases hr
    · cases hr
  · rename_i hw
    split at hr
    · rename_i e' hp
      cases hr
      refine ⟨Syn.refl _ _ _, fun ι a w R hf K Q hK => ?_⟩
      rw [wantV_rel R.env hw]
      exact hK ι _ w (putE_rel R (.sc _) hp) (Ex.refl _ _ _ _)
    · cases hr
  · cases hr
variable (P tab ops nt) in
def rany (call : FuncId → List V → Nat → Hp → Nat → R) (known : FuncId → Bool) : Nat → Array Bool → St → Option St
  | 0, listed, s => match Region.ready .any ops listed with
    | [] => some s
    | _ => none
  | f + 1, listed, s =>
    let one : Nat → Option St := fun i => match ops[i]? with
      | some o => match rops P tab call known ops nt [o] s with
        | some s1 => rany call known f (listed.setIfInBounds i true) s1
        | none => none
      | none => none
    match Region.ready .any ops listed with
    | [] => some s
    | i :: rs => match one i with
      | some r => cond (rs.all fun j => match one j with
        | some q => stEq q r
        | none => false) (some r) none
      | none => none
theorem rany_good {call : FuncId → List V → Nat → Hp → Nat → R} {known : FuncId → Bool} (TO : TabOk P tab) (CO : CallOk P call) : ∀ (f : Nat) (listed : Array Bool) (s s' : St), rany P tab ops nt call known f listed s = some s' →
    SynS s s' ∧ ∀ {z : Nat} ι a w, Rl z ι nt s.e s.h.get a w → Free ι s.n s'.n → ∀ Q : Exit → Act → World → Prop, (∀ x a' w', CPost z nt .normal s s' ι w x a' w' → Q x a' w') → wpAny P .any ops Q f listed a w
  | 0, listed, s, s', h => by
    rw [rany] at h
    split at h
    · rename_i hrd
      cases h
      exact ⟨Syn.refl _ _ _, fun ι a w R hf Q hQ => wpAny_done hrd (hQ _ _ _ ⟨rfl, ι, R, Ex.refl _ _ _ _⟩) _⟩
    · cases h
  | f + 1, listed, s, s', h => by
    rw [rany] at h
    dsimp only at h
    split at h
    · rename_i hrd
      cases h
      exact ⟨Syn.refl _ _ _, fun ι a w R hf Q hQ => wpAny_done hrd (hQ _ _ _ ⟨rfl, ι, R, Ex.refl _ _ _ _⟩) _⟩
    · rename_i i rs hrd
      -- each that may come up comes to s'
      have all : (match ops[i]? with
          | some o => match rops P tab call known ops nt [o] s with
            | some s1 => rany P tab ops nt call known f (listed.setIfInBounds i true) s1
            | none => none
          | none => none) = some s' ∧ ∀ j ∈ rs, (match ops[j]? with
          | some o => match rops P tab call known ops nt [o] s with
            | some s1 => rany P tab ops nt call known f (listed.setIfInBounds j true) s1
            | none => none
          | none => none) = some s' := by
        split at h
        · rename_i r hr
          cases hb : (rs.all fun j => match (match ops[j]? with
              | some o => match rops P tab call known ops nt [o] s with
                | some s1 => rany P tab ops nt call known f (listed.setIfInBounds j true) s1
                | none => none
              | none => none) with
            | some q => stEq q r
            | none => false) with
          | false => rw [hb] at h; cases h
          | true =>
            rw [hb] at h
            cases h
            refine ⟨hr, fun j hj => ?_⟩
            have := List.all_eq_true.1 hb j hj
            split at this
            · rename_i q hq
              rw [hq, stEq_eq this]
            · cases this
        · cases h
      have each : ∀ j ∈ i :: rs, ∃ o s1, ops[j]? = some o ∧ rops P tab call known ops nt [o] s = some s1 ∧ rany P tab ops nt call known f (listed.setIfInBounds j true) s1 = some s' := fun j hj => by
        have hj2 : (match ops[j]? with
          | some o => match rops P tab call known ops nt [o] s with
            | some s1 => rany P tab ops nt call known f (listed.setIfInBounds j true) s1
            | none => none
          | none => none) = some s' := by
          rcases List.mem_cons.1 hj with rfl | hj
          · exact all.1
          · exact all.2 j hj
        split at hj2
        · rename_i o ho
          split at hj2
          · rename_i s1 h1; exact ⟨o, s1, ho, h1, hj2⟩
          · cases hj2
        · cases hj2
      obtain ⟨o0, s0, ho0, h0, hr0⟩ := each i (by simp)
      obtain ⟨p1, _⟩ := rone_good TO CO h0
      obtain ⟨p2, _⟩ := rany_good TO CO f _ s0 s' hr0
      refine ⟨p1.trans p2, fun ι a w R hf Q hQ => wpAny_all hrd (by simp) fun j hj => ?_⟩
      obtain ⟨o, s1, ho, h1, hr1⟩ := each j hj
      obtain ⟨g1, g2⟩ := rone_good TO CO h1
      obtain ⟨g3, g4⟩ := rany_good TO CO f _ s1 s' hr1
      have key := g2 ι a w R (hf.left g3.le) (wpAny P .any ops Q f (listed.setIfInBounds j true)) Q fun ι' a' w' R' E' => g4 ι' a' w' R' (hf.right E') Q fun x a2 w2 h2 => hQ x a2 w2 (cpost_trans E' h2)
      unfold wpOp
      simp only [ho]
      split
      · rename_i hw; rw [if_pos hw] at key; exact .inl key
      · rename_i hw; rw [if_neg hw] at key; exact key
variable (P tab) in
/-- By records; where two are in each other's way, by each order. -/
def rdrawA (call : FuncId → List V → Nat → Hp → Nat → R) (known : FuncId → Bool) (nt : Nat) (ops : Array Oper) (s : St) : Option St := match rdraw P tab call known nt ops s with
  | some s' => some s'
  | none => cond (Nat.ble ops.size 12) (rany P tab ops nt call known ops.size (Array.replicate ops.size false) s) none
theorem rdrawA_good {call : FuncId → List V → Nat → Hp → Nat → R} {known : FuncId → Bool} (TO : TabOk P tab) (CO : CallOk P call) (hm : P.follows .mixedOrders = true) : RegOk P (rdrawA P tab call known) true := by
  intro nt ops s s' hr
  unfold rdrawA at hr
  split at hr
  · rename_i s1 h1
    cases hr
    exact rdraw_good TO CO hm nt ops s _ h1
  · cases hb : Nat.ble ops.size 12 with
    | false => rw [hb] at hr; cases hr
    | true =>
      rw [hb] at hr
      obtain ⟨g1, g2⟩ := rany_good TO CO _ _ s s' hr
      refine ⟨g1, fun id ι a w R hf => wp_region_any hm (g2 ι a { w with drawn := w.drawn + 1 } ⟨⟨fun id b hb => ?_, R.heap.inj⟩, R.env, ⟨R.defers.all, R.defers.apart, R.defers.low⟩, R.size⟩ hf _ fun x a' w' hq => ?_)⟩
      · obtain ⟨rr, m, h1, h2⟩ := R.heap.blk id b hb
        exact ⟨rr, m, h1, h2.mono (fun _ _ h => h) rfl⟩
      · obtain ⟨h1, ι', R', E⟩ := hq
        exact ⟨h1, ι', R', ⟨E.os, E.tape, E.output, E.size, E.le, E.same, E.mem, E.old⟩⟩

/-! ### The runner -/
def knownF (ft : FT) (f : FuncId) : Bool := (flook ft f).isSome
def run (P : Program) (tab : TTab) (ft : FT) (fuel : Nat) : Nat → Code → St → RC := Nat.rec (fun _ _ _ => none) (fun _ ih => rstep (fun nt ops s => rops P tab (rcall tab ft ih) (knownF ft) ops nt ops.toList s) (rdrawA P tab (rcall tab ft ih) (knownF ft)) (rcallG tab ft ih 1) ih) fuel
theorem run_good {ft : FT} (TO : TabOk P tab) (FO : FOk P ft) (hm : P.follows .mixedOrders = true) : ∀ fuel, IhOk P (run P tab ft fuel)
  | 0 => fun nt c s x s' h => by cases h
  | fuel + 1 => by
    have IO := run_good TO FO hm fuel
    have CO := rcall_good TO FO IO
    refine rstep_good (fun nt ops s s' hr => ?_) (rdrawA_good TO CO hm) (rcallG_good TO FO IO) IO
    obtain ⟨h1, h2⟩ := rops_good TO CO ops.toList s s' hr
    exact ⟨h1, fun id ι a w R hf => wp_region_list (h2 ι a w R hf _ fun x a' w' h => h)⟩
/-- What a closed call comes to. -/
def runF (P : Program) (tab : TTab) (ft : FT) (fuel : Nat) (f : FuncId) (args : List Value) : Option Value := match rcall tab ft (run P tab ft fuel) f (args.map .sc) 0 .nil 0 with
  | some r => tv r.1
  | none => none
theorem runF_good {ft : FT} (TO : TabOk P tab) (FO : FOk P ft) (hm : P.follows .mixedOrders = true) {fuel : Nat} {f : FuncId} {args : List Value} {v : Value} (h : runF P tab ft fuel f args = some v) (w : World) :
    Calls P f args.toArray w fun x w' => x = .returned v ∧ w'.os = w.os ∧ w'.tape = w.tape ∧ w'.output = w.output ∧ w.heap.size ≤ w'.heap.size ∧ ∀ k, k < w.heap.size → w'.heap[k]? = w.heap[k]? := by
  unfold runF at h
  split at h
  · rename_i r hr
    obtain ⟨_, _, h3⟩ := rcall_good TO FO (run_good TO FO hm fuel) _ _ _ _ _ _ hr
    have H0 : HRel (fun _ => none) (Tr.nil : Hp).get w := ⟨(fun id b hb => by cases hb), (fun i j b b' r m m' hb => by cases hb)⟩
    refine (h3 (fun _ => none) args.toArray w H0 (by simpa using LRel.scs args) (fun _ _ => rfl)).mono ?_
    rintro x w' ⟨u, ι', rfl, h4, h5, h6⟩
    exact ⟨by rw [tv_rel h4 _ h], h6.os, h6.tape, h6.output, h6.size, fun k hk => h6.mem k hk fun id b m hb => by cases hb⟩
  · cases h
end
end Go.Proofs.Ytplgpbadpdmeeaa.Rn

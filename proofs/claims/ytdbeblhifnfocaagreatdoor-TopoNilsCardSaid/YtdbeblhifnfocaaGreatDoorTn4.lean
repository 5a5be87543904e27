/-
  Texts of a proof, one behind the other (part 5).
-/
import Derived.Maps.AppendAt
import Derived.Laws.AppendOwnNone
import Derived.Test.YtdbeblhifnfocaaGreatDoorProg
import Derived.Test.YtdbeblhifnfocaaGreatDoorTn0
import Derived.Test.YtdbeblhifnfocaaGreatDoorTn2
import Derived.Test.YtdbeblhifnfocaaGreatDoorTn3
set_option linter.unusedVariables false
set_option linter.unusedSimpArgs false
namespace Go.Proofs.YtdbeblhifnfocaaGreatDoor.Rn
set_option linter.unusedVariables false
open Go.RowKit
open Go.Proofs.YtdbeblhifnfocaaGreatDoor.Ab (TE TTab tlook TabOk TFacts win setW setW_get win_get Sh)

def valEq : Value → Value → Bool
  | .bool a, .bool b => a == b
  | .int k a, .int q b => decide (k = q) && decide (a = b)
  | .string a, .string b => decide (a.data.toList = b.data.toList)
  | .pointer none, .pointer none => true
  | .slice none l c, .slice none l' c' => Nat.beq l l' && Nat.beq c c'
  | .map none, .map none => true
  | .nilFunc, .nilFunc => true
  | .nilIface, .nilIface => true
  | .tuple a, .tuple b => Nat.beq a.size 0 && Nat.beq b.size 0
  | _, _ => false
theorem valEq_eq : ∀ {a b : Value}, valEq a b = true → a = b := by
  intro a b h
  unfold valEq at h
  split at h <;> first | rfl | skip
  · simp at h; rw [h]
  · simp at h; rw [h.1, h.2]
  · rename_i a b
    obtain ⟨⟨l⟩⟩ := a
    obtain ⟨⟨m⟩⟩ := b
    simp at h
    rw [h]
  · simp at h; rw [h.1, h.2]
  · rename_i a b
    simp at h
    rw [h.1, h.2]
  · cases h

mutual
def veq : V → V → Bool
  | .sc a, .sc b => valEq a b
  | .ptr i o, .ptr j p => Nat.beq i j && Nat.beq o p
  | .sl i o l k c, .sl i' o' l' k' c' => Nat.beq i i' && Nat.beq o o' && Nat.beq l l' && Nat.beq k k' && decide (c = c')
  | .emp, .emp => true
  | .mp i, .mp j => Nat.beq i j
  | .fn f cs, .fn g ds => Nat.beq f g && veqs cs ds
  | .ifc t v, .ifc u w => Nat.beq t u && veq v w
  | .agg cs, .agg ds => veqs cs ds
  | .tup cs, .tup ds => veqs cs ds
  | _, _ => false
def veqs : List V → List V → Bool
  | [], [] => true
  | a :: r, b :: q => veq a b && veqs r q
  | _, _ => false
end
mutual
theorem veq_eq : (a b : V) → veq a b = true → a = b
  | .sc x, b, h => by cases b <;> simp [veq] at h; rw [valEq_eq h]
  | .ptr i o, b, h => by cases b <;> simp [veq] at h; rw [h.1, h.2]
  | .sl i o l k c, b, h => by cases b <;> simp [veq] at h; obtain ⟨⟨⟨⟨h1, h2⟩, h3⟩, h4⟩, h5⟩ := h; rw [h1, h2, h3, h4, h5]
  | .emp, b, h => by cases b <;> simp [veq] at h; rfl
  | .mp i, b, h => by cases b <;> simp [veq] at h; rw [h]
  | .fn f cs, b, h => by cases b <;> simp [veq] at h; rw [h.1, veqs_eq _ _ h.2]
  | .ifc t v, b, h => by cases b <;> simp [veq] at h; rw [h.1, veq_eq _ _ h.2]
  | .agg cs, b, h => by cases b <;> simp [veq] at h; rw [veqs_eq _ _ h]
  | .tup cs, b, h => by cases b <;> simp [veq] at h; rw [veqs_eq _ _ h]
theorem veqs_eq : (a b : List V) → veqs a b = true → a = b
  | [], b, h => by cases b <;> simp [veqs] at h; rfl
  | a :: r, b, h => by cases b <;> simp [veqs] at h; rw [veq_eq _ _ h.1, veqs_eq _ _ h.2]
end
def entsEq : List (V × V × Nat) → List (V × V × Nat) → Bool
  | [], [] => true
  | a :: r, b :: q => veq a.1 b.1 && veq a.2.1 b.2.1 && Nat.beq a.2.2 b.2.2 && entsEq r q
  | _, _ => false
theorem entsEq_eq : ∀ {a b : List (V × V × Nat)}, entsEq a b = true → a = b
  | [], b, h => by cases b <;> simp [entsEq] at h; rfl
  | (x, y, z) :: r, b, h => by
    cases b with
    | nil => simp [entsEq] at h
    | cons q b =>
      obtain ⟨u, v, w⟩ := q
      simp [entsEq] at h
      obtain ⟨⟨⟨h1, h2⟩, h3⟩, h4⟩ := h
      rw [veq_eq _ _ h1, veq_eq _ _ h2, h3, entsEq_eq h4]
def bEq : B → B → Bool
  | .cells cs m, .cells ds k => veqs cs ds && (m == k)
  | .map es c, .map ds d => entsEq es ds && Nat.beq c d
  | .sit s p, .sit t q => decide (s.data.toList = t.data.toList) && Nat.beq p q
  | .mit m s l t, .mit m' s' l' t' => decide (m = m') && Nat.beq s s' && decide (l = l') && Nat.beq t t'
  | _, _ => false
theorem bEq_eq : ∀ (a b : B), bEq a b = true → a = b
  | .cells cs m, b, h => by cases b <;> simp [bEq] at h; rw [veqs_eq _ _ h.1, h.2]
  | .map es c, b, h => by cases b <;> simp [bEq] at h; rw [entsEq_eq h.1, h.2]
  | .sit ⟨⟨s⟩⟩ p, b, h => by
    cases b <;> simp [bEq] at h
    rename_i t q
    obtain ⟨⟨t⟩⟩ := t
    simp at h
    rw [h.1, h.2]
  | .mit m s l t, b, h => by cases b <;> simp [bEq] at h; obtain ⟨⟨⟨h1, h2⟩, h3⟩, h4⟩ := h; rw [h1, h2, h3, h4]
def optEq {α : Type} (f : α → α → Bool) : Option α → Option α → Bool
  | none, none => true
  | some a, some b => f a b
  | _, _ => false
def trEq {α : Type} (f : α → α → Bool) : Tr α → Tr α → Bool
  | .nil, .nil => true
  | .nd v l r, .nd u p q => optEq f v u && trEq f l p && trEq f r q
  | _, _ => false
theorem optEq_eq {α : Type} {f : α → α → Bool} (hf : ∀ a b, f a b = true → a = b) : ∀ {a b : Option α}, optEq f a b = true → a = b
  | none, none, _ => rfl
  | some a, some b, h => by rw [hf a b h]
theorem trEq_eq {α : Type} {f : α → α → Bool} (hf : ∀ a b, f a b = true → a = b) : ∀ {a b : Tr α}, trEq f a b = true → a = b
  | .nil, .nil, _ => rfl
  | .nd v l r, .nd u p q, h => by
    simp [trEq] at h
    rw [optEq_eq hf h.1.1, trEq_eq hf h.1.2, trEq_eq hf h.2]
def stEq (s t : St) : Bool := trEq veq s.e t.e && Nat.beq s.n t.n && trEq bEq s.h t.h && Nat.beq s.lo t.lo
theorem stEq_eq {s t : St} (h : stEq s t = true) : s = t := by
  obtain ⟨a, b, c, d⟩ := s
  obtain ⟨a', b', c', d'⟩ := t
  simp [stEq] at h
  obtain ⟨⟨⟨h1, h2⟩, h3⟩, h4⟩ := h
  rw [trEq_eq veq_eq h1, h2, trEq_eq bEq_eq h3, h4]

section
variable {P : Program} {tab : TTab} {ops : Array Oper} {nt : Nat}
theorem rone_good {call : FuncId → List V → Nat → Hp → Nat → R} {known : FuncId → Bool} (TO : TabOk P tab) (CO : CallOk P call) {o : Oper} {s s' : St} (hr : rops P tab call known ops nt [o] s = some s') :
    SynS s s' ∧ ∀ {z : Nat} ι a w, Rl z ι nt s.e s.h.get a w → Free ι s.n s'.n → ∀ (K : Act → World → Prop) (Q : Exit → Act → World → Prop), (∀ ι' a' w', Rl z ι' nt s'.e s'.h.get a' w' → Ex s.n s'.n ι s.h.get w ι' s'.h.get w' → K a' w') → if Region.wanted o (yielded ops a.tmps) then o.wp P a w K Q else K (a.put o.dst undef) w := by
  rw [rops] at hr
  split at hr
  · rename_i hw
    split at hr
    · rename_i r hop
      split at hr
      · rename_i e' hp
        cases hr
        obtain ⟨g1, g2⟩ := rop_good TO CO hop
        refine ⟨g1, fun ι a w R hf K Q hK => ?_⟩
        rw [wantV_rel R.env hw, if_pos rfl]
        refine g2 ι a w ⟨R.heap, R.env, hf⟩ K Q fun ι' u w' hv hH hE => ?_
        have hio := hE.io hf
        have R' : Rl _ ι' nt s.e r.2.2.1.get a w' := ⟨hH, R.env.mono hio, R.defers.ex hE, R.size⟩
        exact hK ι' _ w' (putE_rel R' hv hp) hE
      · cases hr
    · cases hr
  · rename_i hw
    split at hr
    · rename_i e' hp
      cases hr
      refine ⟨Syn.refl _ _ _, fun ι a w R hf K Q hK => ?_⟩
      rw [wantV_rel R.env hw]
      exact hK ι _ w (putE_rel R (.sc _) hp) (Ex.refl _ _ _ _)
    · cases hr
  · cases hr
variable (P tab ops nt) in
def rany (call : FuncId → List V → Nat → Hp → Nat → R) (known : FuncId → Bool) : Nat → Array Bool → St → Option St
  | 0, listed, s => match Region.ready .any ops listed with
    | [] => some s
    | _ => none
  | f + 1, listed, s =>
    let one : Nat → Option St := fun i => match ops[i]? with
      | some o => match rops P tab call known ops nt [o] s with
        | some s1 => rany call known f (listed.setIfInBounds i true) s1
        | none => none
      | none => none
    match Region.ready .any ops listed with
    | [] => some s
    | i :: rs => match one i with
      | some r => cond (rs.all fun j => match one j with
        | some q => stEq q r
        | none => false) (some r) none
      | none => none
theorem rany_good {call : FuncId → List V → Nat → Hp → Nat → R} {known : FuncId → Bool} (TO : TabOk P tab) (CO : CallOk P call) : ∀ (f : Nat) (listed : Array Bool) (s s' : St), rany P tab ops nt call known f listed s = some s' →
    SynS s s' ∧ ∀ {z : Nat} ι a w, Rl z ι nt s.e s.h.get a w → Free ι s.n s'.n → ∀ Q : Exit → Act → World → Prop, (∀ x a' w', CPost z nt .normal s s' ι w x a' w' → Q x a' w') → wpAny P .any ops Q f listed a w
  | 0, listed, s, s', h => by
    rw [rany] at h
    split at h
    · rename_i hrd
      cases h
      exact ⟨Syn.refl _ _ _, fun ι a w R hf Q hQ => wpAny_done hrd (hQ _ _ _ ⟨rfl, ι, R, Ex.refl _ _ _ _⟩) _⟩
    · cases h
  | f + 1, listed, s, s', h => by
    rw [rany] at h
    dsimp only at h
    split at h
    · rename_i hrd
      cases h
      exact ⟨Syn.refl _ _ _, fun ι a w R hf Q hQ => wpAny_done hrd (hQ _ _ _ ⟨rfl, ι, R, Ex.refl _ _ _ _⟩) _⟩
    · rename_i i rs hrd
      -- each that may come up comes to s'
      have all : (match ops[i]? with
          | some o => match rops P tab call known ops nt [o] s with
            | some s1 => rany P tab ops nt call known f (listed.setIfInBounds i true) s1
            | none => none
          | none => none) = some s' ∧ ∀ j ∈ rs, (match ops[j]? with
          | some o => match rops P tab call known ops nt [o] s with
            | some s1 => rany P tab ops nt call known f (listed.setIfInBounds j true) s1
            | none => none
          | none => none) = some s' := by
        split at h
        · rename_i r hr
          cases hb : (rs.all fun j => match (match ops[j]? with
              | some o => match rops P tab call known ops nt [o] s with
                | some s1 => rany P tab ops nt call known f (listed.setIfInBounds j true) s1
                | none => none
              | none => none) with
            | some q => stEq q r
            | none => false) with
          | false => rw [hb] at h; cases h
          | true =>
            rw [hb] at h
            cases h
            refine ⟨hr, fun j hj => ?_⟩
            have := List.all_eq_true.1 hb j hj
            split at this
            · rename_i q hq
              rw [hq, stEq_eq this]
            · cases this
        · cases h
      have each : ∀ j ∈ i :: rs, ∃ o s1, ops[j]? = some o ∧ rops P tab call known ops nt [o] s = some s1 ∧ rany P tab ops nt call known f (listed.setIfInBounds j true) s1 = some s' := fun j hj => by
        have hj2 : (match ops[j]? with
          | some o => match rops P tab call known ops nt [o] s with
            | some s1 => rany P tab ops nt call known f (listed.setIfInBounds j true) s1
            | none => none
          | none => none) = some s' := by
          rcases List.mem_cons.1 hj with rfl | hj
          · exact all.1
          · exact all.2 j hj
        split at hj2
        · rename_i o ho
          split at hj2
          · rename_i s1 h1; exact ⟨o, s1, ho, h1, hj2⟩
          · cases hj2
        · cases hj2
      obtain ⟨o0, s0, ho0, h0, hr0⟩ := each i (by simp)
      obtain ⟨p1, _⟩ := rone_good TO CO h0
      obtain ⟨p2, _⟩ := rany_good TO CO f _ s0 s' hr0
      refine ⟨p1.trans p2, fun ι a w R hf Q hQ => wpAny_all hrd (by simp) fun j hj => ?_⟩
      obtain ⟨o, s1, ho, h1, hr1⟩ := each j hj
      obtain ⟨g1, g2⟩ := rone_good TO CO h1
      obtain ⟨g3, g4⟩ := rany_good TO CO f _ s1 s' hr1
      have key := g2 ι a w R (hf.left g3.le) (wpAny P .any ops Q f (listed.setIfInBounds j true)) Q fun ι' a' w' R' E' => g4 ι' a' w' R' (hf.right E') Q fun x a2 w2 h2 => hQ x a2 w2 (cpost_trans E' h2)
      unfold wpOp
      simp only [ho]
      split
      · rename_i hw; rw [if_pos hw] at key; exact .inl key
      · rename_i hw; rw [if_neg hw] at key; exact key
variable (P tab) in
def rdrawA (call : FuncId → List V → Nat → Hp → Nat → R) (known : FuncId → Bool) (nt : Nat) (ops : Array Oper) (s : St) : Option St := match rdraw P tab call known nt ops s with
  | some s' => some s'
  | none => cond (Nat.ble ops.size 12) (rany P tab ops nt call known ops.size (Array.replicate ops.size false) s) none
theorem rdrawA_good {call : FuncId → List V → Nat → Hp → Nat → R} {known : FuncId → Bool} (TO : TabOk P tab) (CO : CallOk P call) (hm : P.follows .mixedOrders = true) : RegOk P (rdrawA P tab call known) true := by
  intro nt ops s s' hr
  unfold rdrawA at hr
  split at hr
  · rename_i s1 h1
    cases hr
    exact rdraw_good TO CO hm nt ops s _ h1
  · cases hb : Nat.ble ops.size 12 with
    | false => rw [hb] at hr; cases hr
    | true =>
      rw [hb] at hr
      obtain ⟨g1, g2⟩ := rany_good TO CO _ _ s s' hr
      refine ⟨g1, fun id ι a w R hf => wp_region_any hm (g2 ι a { w with drawn := w.drawn + 1 } ⟨⟨fun id b hb => ?_, R.heap.inj⟩, R.env, ⟨R.defers.all, R.defers.apart, R.defers.low⟩, R.size⟩ hf _ fun x a' w' hq => ?_)⟩
      · obtain ⟨rr, m, h1, h2⟩ := R.heap.blk id b hb
        exact ⟨rr, m, h1, h2.mono (fun _ _ h => h) rfl⟩
      · obtain ⟨h1, ι', R', E⟩ := hq
        exact ⟨h1, ι', R', ⟨E.os, E.tape, E.output, E.size, E.le, E.same, E.mem, E.old⟩⟩

def knownF (ft : FT) (f : FuncId) : Bool := (flook ft f).isSome
def run (P : Program) (tab : TTab) (ft : FT) (fuel : Nat) : Nat → Code → St → RC := Nat.rec (fun _ _ _ => none) (fun _ ih => rstep (fun nt ops s => rops P tab (rcall tab ft ih) (knownF ft) ops nt ops.toList s) (rdrawA P tab (rcall tab ft ih) (knownF ft)) (rcallG tab ft ih 1) ih) fuel
theorem run_good {ft : FT} (TO : TabOk P tab) (FO : FOk P ft) (hm : P.follows .mixedOrders = true) : ∀ fuel, IhOk P (run P tab ft fuel)
  | 0 => fun nt c s x s' h => by cases h
  | fuel + 1 => by
    have IO := run_good TO FO hm fuel
    have CO := rcall_good TO FO IO
    refine rstep_good (fun nt ops s s' hr => ?_) (rdrawA_good TO CO hm) (rcallG_good TO FO IO) IO
    obtain ⟨h1, h2⟩ := rops_good TO CO ops.toList s s' hr
    exact ⟨h1, fun id ι a w R hf => wp_region_list (h2 ι a w R hf _ fun x a' w' h => h)⟩
def runF (P : Program) (tab : TTab) (ft : FT) (fuel : Nat) (f : FuncId) (args : List Value) : Option Value := match rcall tab ft (run P tab ft fuel) f (args.map .sc) 0 .nil 0 with
  | some r => tv r.1
  | none => none
theorem runF_good {ft : FT} (TO : TabOk P tab) (FO : FOk P ft) (hm : P.follows .mixedOrders = true) {fuel : Nat} {f : FuncId} {args : List Value} {v : Value} (h : runF P tab ft fuel f args = some v) (w : World) :
    Calls P f args.toArray w fun x w' => x = .returned v ∧ w'.os = w.os ∧ w'.tape = w.tape ∧ w'.output = w.output ∧ w.heap.size ≤ w'.heap.size ∧ ∀ k, k < w.heap.size → w'.heap[k]? = w.heap[k]? := by
  unfold runF at h
  split at h
  · rename_i r hr
    obtain ⟨_, _, h3⟩ := rcall_good TO FO (run_good TO FO hm fuel) _ _ _ _ _ _ hr
    have H0 : HRel (fun _ => none) (Tr.nil : Hp).get w := ⟨(fun id b hb => by cases hb), (fun i j b b' r m m' hb => by cases hb)⟩
    refine (h3 (fun _ => none) args.toArray w H0 (by simpa using LRel.scs args) (fun _ _ => rfl)).mono ?_
    rintro x w' ⟨u, ι', rfl, h4, h5, h6⟩
    exact ⟨by rw [tv_rel h4 _ h], h6.os, h6.tape, h6.output, h6.size, fun k hk => h6.mem k hk fun id b m hb => by cases hb⟩
  · cases h
end
end Go.Proofs.YtdbeblhifnfocaaGreatDoor.Rn

namespace Go.Proofs.YtdbeblhifnfocaaGreatDoor.Ab
set_option linter.unusedVariables false
open Go.RowKit

section
variable {P : Program} {nt : Nat} {T : List Nat} {e : Env} {h : Heap} {o : Oper} {tab : TTab}

theorem DRel.one {w : World} {Fr : Nat → Prop} {d : Dat} {u : Value} (h : DRel w Fr d u) : u.oneCell' = true := by cases h <;> first | assumption | rfl
inductive Src (h : Heap) : AVal → Nat → List Dat → Prop where
  | row {id el k m : Nat} {ds : List Dat} (hb : look h id = some (.row el k m ds)) : Src h (.row id) m ds
  | dat (ds : List Dat) (m : Nat) : Src h (.d (.sl ds m)) m ds
  | nil : Src h (.d (.sc (.slice none 0 0))) 0 []
theorem Src.cells {Pm F : Nat → Prop} {w0 w : World} {pin ι : Nat → Option Value} (H : HRel Pm F w0 pin ι h w) {c : AVal} {m : Nat} {ds : List Dat} (S : Src h c m ds) {u : Value} (hv : VRel w F ι c u) :
    ∃ news : List Value, news.length = ds.length ∧ (∀ (i : Nat) (d : Dat) (x : Value), ds[i]? = some d → news[i]? = some x → DRel w (FreeB F ι) d x) ∧
      ((u = .slice none 0 0 ∧ m = 0 ∧ ds = []) ∨ ((∃ ea, u = .slice (some ea) 0 0) ∧ m = 0 ∧ ds = []) ∨ ∃ b o' c', u = .slice (some ⟨b, o', none⟩) m c' ∧ ∀ (j : Nat) (x : Value), news[j]? = some x → w.cell? ⟨b, o' + j, none⟩ = some x) := by
  cases S with
  | row hb =>
    obtain ⟨v, hv', xs, hown, hl, hr⟩ := H.blk _ _ hb
    refine ⟨xs, hl, hr, ?_⟩
    cases hv with
    | row _ _ h1 h2 =>
      have := h2 v hv'
      subst this
      rcases hown.2 with ⟨h3, h4⟩ | ⟨g, cap, cur, h3, _⟩
      · left
        refine ⟨h3, h4, ?_⟩
        have := hown.1
        subst h4
        simp at this
        subst this
        cases ds with
        | nil => rfl
        | cons _ _ => simp at hl
      · right; right
        refine ⟨g, 0, cap, h3, fun j x hj => ?_⟩
        have := hown.cells (g := g) (by rw [h3]; rfl) j x hj
        rwa [Addr.add_mid] at this
  | dat =>
    cases hv with
    | d _ _ hd =>
      cases hd with
      | nil => exact ⟨[], rfl, by simp, .inl ⟨rfl, rfl, rfl⟩⟩
      | emp ea => exact ⟨[], rfl, by simp, .inr (.inl ⟨⟨ea, rfl⟩, rfl, rfl⟩)⟩
      | sl _ _ b o' cap vs hn hl hf hc hr => exact ⟨vs, hl, hr, .inr (.inr ⟨b, o', cap, rfl, hc⟩)⟩
  | nil =>
    obtain ⟨rfl, _⟩ := sc_of hv
    exact ⟨[], rfl, by simp, .inl ⟨rfl, rfl, rfl⟩⟩

inductive Dst (h : Heap) (el k : Nat) (rid : Nat) : AVal → Nat → List Dat → Prop where
  | row {n : Nat} {cs : List Dat} (hb : look h rid = some (.row el k n cs)) : Dst h el k rid (.row rid) n cs
  | nil : Dst h el k rid (.d (.sc (.slice none 0 0))) 0 []
end

def hasAny (ids : List Nat) (c : AVal) : Bool := ids.any fun id => c.has id
def killVs (ids : List Nat) (c : AVal) : AVal := cond (hasAny ids c) .top c
def killEs (ids : List Nat) : Env → Env
  | [] => []
  | (k, c) :: r => (k, killVs ids c) :: killEs ids r
def killBs (ids : List Nat) : ABlk → ABlk
  | .var cs => .var (cs.map (killVs ids))
  | .row e k n cs => .row e k n cs
  | .rowA e k n cs => .rowA e k n (cs.map (killVs ids))
  | .map es => .map (es.map fun p => (killVs ids p.1, killVs ids p.2))
  | .mapx r bs clk es => .mapx r bs clk (es.map fun p => (killVs ids p.1, killVs ids p.2))
  | .it o => .it o
  | .rowx hv e k n cs => .rowx hv e k n cs
def killHs (ids : List Nat) : Heap → Heap
  | [] => []
  | (k, b) :: r => cond (ids.contains k) (killHs ids r) ((k, killBs ids b) :: killHs ids r)
def blkHas (id : Nat) : ABlk → Bool
  | .var cs => hasL id cs
  | .row _ _ _ _ => false
  | .rowA _ _ _ cs => hasL id cs
  | .map es => es.any fun p => p.1.has id || p.2.has id
  | .mapx _ _ _ es => es.any fun p => p.1.has id || p.2.has id
  | .it _ => false
  | .rowx _ _ _ _ _ => false

section
variable {P : Program} {nt : Nat} {T : List Nat} {e : Env} {h : Heap} {o : Oper} {tab : TTab}
def Fc (F : Nat → Prop) (ι : Nat → Option Value) : Nat → Prop := fun r => F r ∨ ∃ id v, ι id = some v ∧ blockOf v = some r
theorem HRel.none (F : Nat → Prop) (w : World) (hF : ∀ r, F r → r < w.heap.size) (hg : GlobOk w) : HRel (fun r => w.heap.size ≤ r) F w (fun _ => none) (fun _ => none) [] w :=
  ⟨fun _ _ h => (by cases h), fun _ _ h => (by cases h), fun _ _ _ _ _ _ h => (by cases h), fun _ _ _ h => (by cases h), rfl, rfl, rfl, Nat.le_refl _, fun _ _ _ => rfl, ⟨fun _ h => h, fun r h1 h2 => (by have := hg.size; have h2 : w.heap.size ≤ r := h2; omega), hg⟩, fun _ _ _ h => (by cases h), fun _ _ _ h => (by cases h), hF⟩
end
end Go.Proofs.YtdbeblhifnfocaaGreatDoor.Ab

namespace Go.Proofs.YtdbeblhifnfocaaGreatDoor.Ab
set_option linter.unusedVariables false
open Go.RowKit

section
variable {nt : Nat} {e e1 e2 : Env} {h h1 h2 : Heap}
theorem AWk.refl : AWk nt e h e h := fun _ _ _ _ ι _ _ R => ⟨ι, R⟩
theorem AWk.trans (a : AWk nt e h e1 h1) (b : AWk nt e1 h1 e2 h2) : AWk nt e h e2 h2 := fun Pm F w0 pin ι a' w R => let ⟨ι', R'⟩ := a Pm F w0 pin ι a' w R; b Pm F w0 pin ι' a' w R'
def Sub {α : Type} : List (Nat × α) → List (Nat × α) → Prop
  | [], _ => True
  | (k, c) :: r, l => look l k = some c ∧ Sub r l
theorem Sub.look {α : Type} {m l : List (Nat × α)} (hs : Sub m l) {t : Nat} {c : α} (ht : Ab.look m t = some c) : Ab.look l t = some c := by
  induction m with
  | nil => cases ht
  | cons p r ih =>
    by_cases hp : p.1 = t
    · have e1 : Ab.look (p :: r) t = some p.2 := by rw [← hp]; exact look_cons_same _ _ _
      rw [e1] at ht; cases ht; rw [← hp]; exact hs.1
    · have e1 : Ab.look (p :: r) t = Ab.look r t := look_cons_ne _ _ hp
      rw [e1] at ht; exact ih hs.2 ht
mutual
def frV (id : Nat) (x : Dat) : AVal → AVal
  | .row j => cond (Nat.beq j id) (.d x) (.row j)
  | .srow j o n => cond (Nat.beq j id) .top (.srow j o n)
  | .agg cs => .agg (frL id x cs)
  | .tup cs => .tup (frL id x cs)
  | .fn f cs => .fn f (frL id x cs)
  | c => c
def frL (id : Nat) (x : Dat) : List AVal → List AVal
  | [] => []
  | c :: r => frV id x c :: frL id x r
end
def frB (id : Nat) (x : Dat) : ABlk → ABlk
  | .var cs => .var (frL id x cs)
  | .row e k n cs => .row e k n cs
  | .rowA e k n cs => .rowA e k n (frL id x cs)
  | .map es => .map (es.map fun p => (frV id x p.1, frV id x p.2))
  | .mapx r bs clk es => .mapx r bs clk (es.map fun p => (frV id x p.1, frV id x p.2))
  | .it o => .it o
  | .rowx hv e k n cs => .rowx hv e k n cs
def frE (id : Nat) (x : Dat) : Env → Env
  | [] => []
  | (k, c) :: r => (k, frV id x c) :: frE id x r
def frH (id : Nat) (x : Dat) : Heap → Heap
  | [] => []
  | (k, b) :: r => cond (Nat.beq k id) (frH id x r) ((k, frB id x b) :: frH id x r)
def AWkS (nt : Nat) (e : Env) (h : Heap) (e' : Env) (h' : Heap) : Prop :=
  ∀ Pm F w0 pin ι a w, Rel Pm F w0 pin ι nt e h a w → ∃ ι', (∀ j u, ι' j = some u → ι j = some u) ∧ Rel Pm F w0 pin ι' nt e' h' a w
end

section
variable {P : Program} {nt : Nat} {T : List Nat} {e : Env} {h : Heap} {o : Oper} {tab : TTab}
mutual
def valA : AVal → Option Value
  | .d (.sc v) => some v
  | .agg cs => match valL cs with
    | some l => some (.agg l.toArray)
    | none => none
  | .tup cs => match valL cs with
    | some l => some (.tuple l.toArray)
    | none => none
  | _ => none
def valL : List AVal → Option (List Value)
  | [] => some []
  | c :: r => match valA c, valL r with
    | some v, some l => some (v :: l)
    | _, _ => none
end
def AOut (nt : Nat) (tab : TTab) (rs : List ResultVar) (Q : AVal → Heap → Prop) (e : Env) (h : Heap) : Prop := ∃ e' h' v h2, AWk nt e h e' h' ∧ ares tab e' h' rs = some v ∧ Sub h2 h' ∧ Q v h2
def APost (nt : Nat) (tab : TTab) (rs : List ResultVar) (Q : AVal → Heap → Prop) : Post := fun x e h => match x with
  | .normal => AOut nt tab rs Q e h
  | .ret => AOut nt tab rs Q e h
  | _ => False
theorem DRel.forbid {w : World} {Fr M : Nat → Prop} (hM : ∀ r, M r → ∀ o v, w.cell? ⟨r, o, none⟩ ≠ some v) {x : Dat} {u : Value} (h : DRel w Fr x u) : DRel w (fun r => Fr r ∧ ¬ M r) x u := by
  induction h with
  | sc v h => exact .sc v h
  | nil => exact .nil
  | emp a => exact .emp a
  | sl cs n b o cap vs hn hl hf hc hr ih =>
    refine .sl cs n b o cap vs hn hl (fun hne => ⟨hf hne, fun hm => ?_⟩) hc ih
    cases vs with
    | nil => exact hne rfl
    | cons v r => exact hM b hm _ v (hc 0 v rfl)
  | cut cs n m b o cap vs hn hm hl hf hc hr ih =>
    refine .cut cs n m b o cap vs hn hm hl (fun hne => ⟨hf hne, fun hm => ?_⟩) hc ih
    cases vs with
    | nil => exact hne rfl
    | cons v r => exact hM b hm _ v (hc 0 v rfl)
theorem DRel.imp {w : World} {Fr Fr' : Nat → Prop} {x : Dat} {u : Value} (h : DRel w Fr x u) (hf : ∀ r, Fr r → Fr' r) : DRel w Fr' x u := h.ext (fun _ _ _ => rfl) fun r _ => hf r
theorem VRel.forbid {w : World} {F M : Nat → Prop} {ι : Nat → Option Value} (hM : ∀ r, M r → ∀ o v, w.cell? ⟨r, o, none⟩ ≠ some v) {c : AVal} {u : Value} (h : VRel w F ι c u) : VRel w (fun r => F r ∨ M r) ι c u := by
  have hfr : ∀ r, FreeB F ι r ∧ ¬ M r → FreeB (fun r => F r ∨ M r) ι r := fun r h => ⟨fun hc => hc.elim h.1.1 h.2, h.1.2⟩
  induction h with
  | top u => exact .top u
  | und => exact .und
  | d x u h => exact .d x u ((h.forbid hM).imp hfr)
  | agg cs C hl h ih => exact .agg cs C hl ih
  | tup cs C hl h ih => exact .tup cs C hl ih
  | ptr id off u h1 h => exact .ptr id off u h1 h
  | eptr id off u h1 h => exact .eptr id off u h1 h
  | iptr cs off b o vs hl hf hc hr =>
    refine .iptr cs off b o vs hl (fun hne => hfr b ⟨hf hne, fun hm => ?_⟩) hc fun i c u h1 h2 => ((hr i c u h1 h2).forbid hM).imp hfr
    cases vs with
    | nil => exact hne rfl
    | cons v r => exact hM b hm _ v (hc 0 v rfl)
  | row id u h1 h => exact .row id u h1 h
  | mp id u h1 h => exact .mp id u h1 h
  | fn f caps C hl h ih => exact .fn f caps C hl ih
  | srow id off n u h1 h => exact .srow id off n u h1 h
  | full cs n b h => exact .full cs n b ((h.forbid hM).imp hfr)
theorem BRel.via {w w' : World} {F F' : Nat → Prop} {ι ι' : Nat → Option Value} {b : ABlk} {v : Value} (h : BRel w F ι b v) (hV : ∀ c u, VRel w F ι c u → VRel w' F' ι' c u) (hD : ∀ c u, DRel w (FreeB F ι) c u → DRel w' (FreeB F' ι') c u)
    (hs : ∀ r, blockOf v = some r → w'.heap[r]? = w.heap[r]?) : BRel w' F' ι' b v := by
  cases b with
  | var cs =>
    obtain ⟨r, C, T, rfl, hc, hl, h⟩ := h
    exact ⟨r, C, T, rfl, (hs r rfl).trans hc, hl, fun i c u h1 h2 => hV _ _ (h i c u h1 h2)⟩
  | row e k n cs =>
    obtain ⟨xs, hown, hl, h⟩ := h
    refine ⟨xs, ⟨hown.1, ?_⟩, hl, fun i c u h1 h2 => hD _ _ (h i c u h1 h2)⟩
    rcases hown.2 with h1 | ⟨g, cap, cur, rfl, hb, hg, rest⟩
    · exact .inl h1
    · exact .inr ⟨g, cap, cur, rfl, hb, (hs g rfl).trans hg, rest⟩
  | rowA e k n cs =>
    obtain ⟨xs, hown, hl, h⟩ := h
    refine ⟨xs, ⟨hown.1, ?_⟩, hl, fun i c u h1 h2 => hV _ _ (h i c u h1 h2)⟩
    rcases hown.2 with h1 | ⟨g, cap, cur, rfl, hb, hg, rest⟩
    · exact .inl h1
    · exact .inr ⟨g, cap, cur, rfl, hb, (hs g rfl).trans hg, rest⟩
  | map es =>
    obtain ⟨r, E, clk, rfl, hc, hl, h, h3⟩ := h
    exact ⟨r, E, clk, rfl, (hs r rfl).trans hc, hl, fun i p m h1 h2 => ⟨hV _ _ (h i p m h1 h2).1, hV _ _ (h i p m h1 h2).2⟩, h3⟩
  | mapx r0 bs0 clk0 es =>
    obtain ⟨E, rfl, hc, hl, h, h3⟩ := h
    exact ⟨E, rfl, (hs _ rfl).trans hc, hl, fun i p m h1 h2 => ⟨hV _ _ (h i p m h1 h2).1, hV _ _ (h i p m h1 h2).2⟩, h3⟩
  | rowx hv e k n cs => exact h.viaX hD hs
  | it o => obtain ⟨r, rfl, hc⟩ := h; exact ⟨r, rfl, (hs r rfl).trans hc⟩
theorem ExtM.go {w w' : World} {F M : Nat → Prop} {ι : Nat → Option Value} (hM : ∀ r, M r → ∀ o v, w.cell? ⟨r, o, none⟩ ≠ some v) (hk : ∀ r, ¬ M r → w'.heap[r]? = w.heap[r]?) :
    (∀ c u, VRel w F ι c u → VRel w' F ι c u) ∧ ∀ c u, DRel w (FreeB F ι) c u → DRel w' (FreeB F ι) c u :=
  ⟨fun c u h => (h.forbid hM).extF ⟨fun r _ hf => hk r fun hm => hf.1 (.inr hm), fun r _ hf => ⟨fun h => hf.1 (.inl h), hf.2⟩⟩ fun _ _ _ h => h,
   fun c u h => (h.forbid hM).ext (fun r _ hf => hk r hf.2) fun r _ hf => hf.1⟩
theorem HRel.laid {Pm F M : Nat → Prop} {w0 w w' : World} {pin ι : Nat → Option Value} {h : Heap} (H : HRel Pm F w0 pin ι h w) (hM : ∀ r, M r → ∀ o v, w.cell? ⟨r, o, Option.none⟩ ≠ some v) (hn : ∀ r, M r → Pm r ∧ FreeB F ι r)
    (hk : ∀ r, ¬ M r → w'.heap[r]? = w.heap[r]?) (k1 : w'.os = w.os) (k2 : w'.tape = w.tape) (k3 : w'.output = w.output) (k4 : w.heap.size ≤ w'.heap.size) : HRel Pm F w0 pin ι h w' := by
  obtain ⟨hV, hD⟩ := ExtM.go (F := F) (ι := ι) hM hk
  refine ⟨fun id b hb => ?_, H.dom, H.inj, H.pm, k1.trans H.os, k2.trans H.tape, k3.trans H.output, Nat.le_trans H.size k4, fun r hr hp => ?_, H.fresh, H.pinned, H.nf, H.forb⟩
  · obtain ⟨v, hv, hB⟩ := H.blk id b hb
    exact ⟨v, hv, hB.via hV hD fun r hr => hk r fun hm => (hn r hm).2.2 id v hv hr⟩
  · rw [hk r fun hm => hp (hn r hm).1]
    exact H.keep r hr hp
theorem Rel.left {Pm F : Nat → Prop} {w0 w w' : World} {pin ι : Nat → Option Value} {a : Act} (R : Rel Pm F w0 pin ι nt e h a w) (k1 : w'.os = w.os) (k2 : w'.tape = w.tape) (k3 : w'.output = w.output) (k4 : w'.heap.size = w.heap.size)
    (k5 : ∀ r, (∀ d ∈ a.defers, d ≠ ({ target := .collected r, args := #[] } : Deferred)) → w'.heap[r]? = w.heap[r]?) : Rel Pm F w0 pin ι nt e h { a with defers := [] } w' := by
  let M : Nat → Prop := fun r => markOf r ∈ a.defers
  have hm : ∀ r, M r → w.heap[r]? = some (.deferred (some [])) ∧ Pm r ∧ FreeB F ι r := fun r hr => by
    obtain ⟨q, h1, h2, h3, h4⟩ := R.defers.all _ hr
    have : q = r := by simp [markOf] at h1; exact h1.symm
    subst this
    exact ⟨h3, h2, h4⟩
  have hM : ∀ r, M r → ∀ o v, w.cell? ⟨r, o, none⟩ ≠ some v := fun r hr o v hc => by simp [World.cell?, (hm r hr).1] at hc
  have hk : ∀ r, ¬ M r → w'.heap[r]? = w.heap[r]? := fun r hr => k5 r fun d hd h => hr (by show markOf r ∈ _; rw [markOf, ← h]; exact hd)
  refine ⟨R.heap.laid hM (fun r hr => (hm r hr).2) hk k1 k2 k3 (by omega), R.env.mono fun _ c u _ hv => (ExtM.go hM hk).1 c u hv, MkOk.nil, R.size⟩
end
end Go.Proofs.YtdbeblhifnfocaaGreatDoor.Ab

namespace Go.Proofs.YtdbeblhifnfocaaGreatDoor.Ab
set_option linter.unusedVariables false
def tab : TTab := (.node 196 ⟨5, 40, true, [Value.bool false, Value.int .u32 0, Value.int .i64 0, Value.int .i64 0, Value.int .i64 0], .st [(0, 4), (1, 70), (3, 3), (4, 3)]⟩ (.node 108 ⟨4, 40, true, [Value.string ⟨#[]⟩, Value.int .i64 0, Value.int .i64 0, Value.nilFunc], .st [(0, 9), (1, 3), (2, 3), (3, 106)]⟩ (.node 60 ⟨1, 8, false, [Value.map none], .mp 24 31⟩ (.node 39 ⟨1, 24, false, [Value.slice none 0 0], .sl 58⟩ (.node 24 ⟨1, 4, false, [Value.int .u32 0], .it .u32⟩ (.node 9 ⟨1, 16, false, [Value.string ⟨#[]⟩], .str⟩ (.node 3 ⟨1, 8, false, [Value.int .i64 0], .it .i64⟩ (.node 2 ⟨1, 8, false, [Value.int .i64 0], .it .i64⟩ (.node 1 ⟨1, 8, false, [Value.nilFunc], .fu⟩ .leaf .leaf) .leaf) (.node 5 ⟨1, 1, false, [Value.int .u8 0], .it .u8⟩ (.node 4 ⟨1, 1, false, [Value.bool false], .bo⟩ .leaf .leaf) .leaf)) (.node 22 ⟨1, 8, false, [Value.pointer none], .pt 62⟩ (.node 21 ⟨1, 4, false, [Value.int .i32 0], .it .i32⟩ (.node 12 ⟨1, 8, false, [Value.int .u64 0], .it .u64⟩ .leaf .leaf) .leaf) (.node 23 ⟨1, 4, false, [Value.int .u32 0], .it .u32⟩ .leaf .leaf))) (.node 31 ⟨2, 16, true, [Value.int .i64 0, Value.int .i64 0], .st [(0, 3), (1, 3)]⟩ (.node 27 ⟨1, 8, false, [Value.int .i64 0], .it .i64⟩ (.node 26 ⟨11, 120, true, [Value.string ⟨#[]⟩, Value.string ⟨#[]⟩, Value.int .u32 0, Value.int .i64 0, Value.bool false, Value.string ⟨#[]⟩, Value.string ⟨#[]⟩, Value.int .u8 0, Value.int .i64 0, Value.int .i64 0, Value.bool false], .st [(0, 9), (1, 9), (2, 24), (3, 3), (4, 4), (5, 9), (6, 9), (7, 5), (8, 3), (9, 3), (10, 4)]⟩ (.node 25 ⟨11, 120, true, [Value.string ⟨#[]⟩, Value.string ⟨#[]⟩, Value.int .u32 0, Value.int .i64 0, Value.bool false, Value.string ⟨#[]⟩, Value.string ⟨#[]⟩, Value.int .u8 0, Value.int .i64 0, Value.int .i64 0, Value.bool false], .st [(0, 9), (1, 9), (2, 24), (3, 3), (4, 4), (5, 9), (6, 9), (7, 5), (8, 3), (9, 3), (10, 4)]⟩ .leaf .leaf) .leaf) (.node 30 ⟨2, 16, true, [Value.int .i64 0, Value.int .i64 0], .st [(0, 3), (1, 3)]⟩ (.node 29 ⟨1, 8, false, [Value.nilFunc], .fu⟩ .leaf .leaf) .leaf)) (.node 36 ⟨1, 8, false, [Value.nilFunc], .fu⟩ (.node 34 ⟨1, 8, false, [Value.nilFunc], .fu⟩ (.node 32 ⟨1, 24, false, [Value.slice none 0 0], .sl 31⟩ .leaf .leaf) .leaf) (.node 38 ⟨1, 8, false, [Value.nilFunc], .fu⟩ .leaf .leaf)))) (.node 50 ⟨1, 24, false, [Value.slice none 0 0], .sl 172⟩ (.node 45 ⟨1, 8, false, [Value.nilFunc], .fu⟩ (.node 42 ⟨1, 24, false, [Value.slice none 0 0], .sl 73⟩ (.node 41 ⟨1, 8, false, [Value.nilFunc], .fu⟩ (.node 40 ⟨1, 8, false, [Value.nilFunc], .fu⟩ .leaf .leaf) .leaf) (.node 44 ⟨1, 24, false, [Value.slice none 0 0], .sl 75⟩ (.node 43 ⟨1, 8, false, [Value.nilFunc], .fu⟩ .leaf .leaf) .leaf)) (.node 48 ⟨1, 24, false, [Value.slice none 0 0], .sl 26⟩ (.node 47 ⟨1, 24, false, [Value.slice none 0 0], .sl 9⟩ (.node 46 ⟨1, 8, false, [Value.nilFunc], .fu⟩ .leaf .leaf) .leaf) (.node 49 ⟨1, 24, false, [Value.slice none 0 0], .sl 116⟩ .leaf .leaf))) (.node 55 ⟨1, 24, false, [Value.slice none 0 0], .sl 83⟩ (.node 53 ⟨1, 24, false, [Value.slice none 0 0], .sl 126⟩ (.node 52 ⟨1, 24, false, [Value.slice none 0 0], .sl 121⟩ (.node 51 ⟨1, 24, false, [Value.slice none 0 0], .sl 135⟩ .leaf .leaf) .leaf) (.node 54 ⟨1, 24, false, [Value.slice none 0 0], .sl 131⟩ .leaf .leaf)) (.node 58 ⟨12, 264, true, [Value.string ⟨#[]⟩, Value.int .u8 0, Value.slice none 0 0, Value.slice none 0 0, Value.slice none 0 0, Value.slice none 0 0, Value.slice none 0 0, Value.slice none 0 0, Value.slice none 0 0, Value.slice none 0 0, Value.slice none 0 0, Value.slice none 0 0], .st [(0, 9), (1, 5), (2, 47), (3, 48), (4, 49), (5, 50), (6, 51), (7, 52), (8, 53), (9, 54), (10, 55), (11, 56)]⟩ (.node 57 ⟨12, 264, true, [Value.string ⟨#[]⟩, Value.int .u8 0, Value.slice none 0 0, Value.slice none 0 0, Value.slice none 0 0, Value.slice none 0 0, Value.slice none 0 0, Value.slice none 0 0, Value.slice none 0 0, Value.slice none 0 0, Value.slice none 0 0, Value.slice none 0 0], .st [(0, 9), (1, 5), (2, 47), (3, 48), (4, 49), (5, 50), (6, 51), (7, 52), (8, 53), (9, 54), (10, 55), (11, 56)]⟩ (.node 56 ⟨1, 24, false, [Value.slice none 0 0], .sl 87⟩ .leaf .leaf) .leaf) (.node 59 ⟨1, 8, false, [Value.map none], .mp 31 32⟩ .leaf .leaf))))) (.node 85 ⟨1, 24, false, [Value.slice none 0 0], .sl 96⟩ (.node 73 ⟨4, 32, true, [Value.int .i64 0, Value.int .i64 0, Value.int .i64 0, Value.int .i64 0], .ar 2 31⟩ (.node 68 ⟨1, 8, false, [Value.nilFunc], .fu⟩ (.node 63 ⟨1, 8, false, [Value.nilFunc], .fu⟩ (.node 62 ⟨4, 64, true, [Value.slice none 0 0, Value.map none, Value.map none, Value.slice none 0 0], .st [(0, 39), (1, 59), (2, 60), (3, 44)]⟩ (.node 61 ⟨4, 64, true, [Value.slice none 0 0, Value.map none, Value.map none, Value.slice none 0 0], .st [(0, 39), (1, 59), (2, 60), (3, 44)]⟩ .leaf .leaf) .leaf) (.node 67 ⟨1, 8, false, [Value.map none], .mp 70 32⟩ (.node 66 ⟨1, 8, false, [Value.nilFunc], .fu⟩ .leaf .leaf) .leaf)) (.node 71 ⟨1, 8, false, [Value.nilFunc], .fu⟩ (.node 70 ⟨2, 16, true, [Value.int .u32 0, Value.int .i64 0], .st [(0, 24), (1, 3)]⟩ (.node 69 ⟨2, 16, true, [Value.int .u32 0, Value.int .i64 0], .st [(0, 24), (1, 3)]⟩ .leaf .leaf) .leaf) (.node 72 ⟨1, 8, false, [Value.nilFunc], .fu⟩ .leaf .leaf))) (.node 80 ⟨1, 8, false, [Value.map none], .mp 24 3⟩ (.node 76 ⟨1, 8, false, [Value.nilFunc], .fu⟩ (.node 75 ⟨7, 56, true, [Value.int .i64 0, Value.int .i64 0, Value.int .i64 0, Value.int .i64 0, Value.int .i64 0, Value.int .i64 0, Value.bool false], .st [(0, 3), (1, 3), (2, 3), (3, 3), (4, 3), (5, 3), (6, 4)]⟩ (.node 74 ⟨7, 56, true, [Value.int .i64 0, Value.int .i64 0, Value.int .i64 0, Value.int .i64 0, Value.int .i64 0, Value.int .i64 0, Value.bool false], .st [(0, 3), (1, 3), (2, 3), (3, 3), (4, 3), (5, 3), (6, 4)]⟩ .leaf .leaf) .leaf) (.node 79 ⟨1, 8, false, [Value.map none], .mp 9 3⟩ (.node 78 ⟨1, 8, false, [Value.nilFunc], .fu⟩ .leaf .leaf) .leaf)) (.node 83 ⟨3, 48, true, [Value.string ⟨#[]⟩, Value.int .u32 0, Value.slice none 0 0], .st [(0, 9), (1, 24), (2, 81)]⟩ (.node 82 ⟨3, 48, true, [Value.string ⟨#[]⟩, Value.int .u32 0, Value.slice none 0 0], .st [(0, 9), (1, 24), (2, 81)]⟩ (.node 81 ⟨1, 24, false, [Value.slice none 0 0], .sl 215⟩ .leaf .leaf) .leaf) (.node 84 ⟨1, 24, false, [Value.slice none 0 0], .sl 70⟩ .leaf .leaf)))) (.node 97 ⟨1, 8, false, [Value.nilFunc], .fu⟩ (.node 92 ⟨1, 8, false, [Value.nilFunc], .fu⟩ (.node 88 ⟨1, 8, false, [Value.nilFunc], .fu⟩ (.node 87 ⟨6, 96, true, [Value.string ⟨#[]⟩, Value.int .u32 0, Value.int .u32 0, Value.slice none 0 0, Value.slice none 0 0, Value.slice none 0 0], .st [(0, 9), (1, 23), (2, 24), (3, 84), (4, 85), (5, 81)]⟩ (.node 86 ⟨6, 96, true, [Value.string ⟨#[]⟩, Value.int .u32 0, Value.int .u32 0, Value.slice none 0 0, Value.slice none 0 0, Value.slice none 0 0], .st [(0, 9), (1, 23), (2, 24), (3, 84), (4, 85), (5, 81)]⟩ .leaf .leaf) .leaf) (.node 90 ⟨1, 8, false, [Value.nilFunc], .fu⟩ (.node 89 ⟨1, 8, false, [Value.nilFunc], .fu⟩ .leaf .leaf) .leaf)) (.node 95 ⟨6, 48, true, [Value.int .u32 0, Value.int .u32 0, Value.string ⟨#[]⟩, Value.string ⟨#[]⟩, Value.bool false, Value.bool false], .st [(0, 24), (1, 23), (2, 9), (3, 9), (4, 4), (5, 4)]⟩ (.node 94 ⟨1, 8, false, [Value.nilFunc], .fu⟩ (.node 93 ⟨1, 8, false, [Value.nilFunc], .fu⟩ .leaf .leaf) .leaf) (.node 96 ⟨6, 48, true, [Value.int .u32 0, Value.int .u32 0, Value.string ⟨#[]⟩, Value.string ⟨#[]⟩, Value.bool false, Value.bool false], .st [(0, 24), (1, 23), (2, 9), (3, 9), (4, 4), (5, 4)]⟩ .leaf .leaf))) (.node 103 ⟨1, 8, false, [Value.nilFunc], .fu⟩ (.node 100 ⟨2, 16, true, [Value.int .i64 0, Value.int .i64 0], .st [(0, 3), (1, 3)]⟩ (.node 99 ⟨2, 16, true, [Value.int .i64 0, Value.int .i64 0], .st [(0, 3), (1, 3)]⟩ (.node 98 ⟨1, 8, false, [Value.nilFunc], .fu⟩ .leaf .leaf) .leaf) (.node 102 ⟨1, 8, false, [Value.nilFunc], .fu⟩ .leaf .leaf)) (.node 106 ⟨1, 8, false, [Value.nilFunc], .fu⟩ (.node 105 ⟨1, 8, false, [Value.nilFunc], .fu⟩ (.node 104 ⟨1, 24, false, [Value.slice none 0 0], .sl 108⟩ .leaf .leaf) .leaf) (.node 107 ⟨4, 40, true, [Value.string ⟨#[]⟩, Value.int .i64 0, Value.int .i64 0, Value.nilFunc], .st [(0, 9), (1, 3), (2, 3), (3, 106)]⟩ .leaf .leaf)))))) (.node 152 ⟨5, 56, true, [Value.slice none 0 0, Value.int .i64 0, Value.int .i64 0, Value.int .i64 0, Value.int .i64 0], .st [(0, 149), (1, 3), (2, 100), (4, 27)]⟩ (.node 130 ⟨3, 48, true, [Value.string ⟨#[]⟩, Value.slice none 0 0, Value.bool false], .st [(0, 9), (1, 129), (2, 4)]⟩ (.node 119 ⟨1, 24, false, [Value.slice none 0 0], .sl 196⟩ (.node 114 ⟨1, 24, false, [Value.slice none 0 0], .sl 191⟩ (.node 111 ⟨1, 8, false, [Value.nilFunc], .fu⟩ (.node 110 ⟨1, 8, false, [Value.nilFunc], .fu⟩ (.node 109 ⟨1, 8, false, [Value.nilFunc], .fu⟩ .leaf .leaf) .leaf) (.node 113 ⟨1, 8, false, [Value.nilFunc], .fu⟩ (.node 112 ⟨1, 8, false, [Value.nilFunc], .fu⟩ .leaf .leaf) .leaf)) (.node 117 ⟨1, 8, false, [Value.nilFunc], .fu⟩ (.node 116 ⟨2, 40, true, [Value.string ⟨#[]⟩, Value.slice none 0 0], .st [(0, 9), (1, 114)]⟩ (.node 115 ⟨2, 40, true, [Value.string ⟨#[]⟩, Value.slice none 0 0], .st [(0, 9), (1, 114)]⟩ .leaf .leaf) .leaf) (.node 118 ⟨1, 8, false, [Value.nilFunc], .fu⟩ .leaf .leaf))) (.node 125 ⟨2, 40, true, [Value.string ⟨#[]⟩, Value.slice none 0 0], .st [(0, 9), (1, 124)]⟩ (.node 122 ⟨1, 8, false, [Value.nilFunc], .fu⟩ (.node 121 ⟨2, 40, true, [Value.string ⟨#[]⟩, Value.slice none 0 0], .st [(0, 9), (1, 119)]⟩ (.node 120 ⟨2, 40, true, [Value.string ⟨#[]⟩, Value.slice none 0 0], .st [(0, 9), (1, 119)]⟩ .leaf .leaf) .leaf) (.node 124 ⟨1, 24, false, [Value.slice none 0 0], .sl 202⟩ (.node 123 ⟨1, 8, false, [Value.nilFunc], .fu⟩ .leaf .leaf) .leaf)) (.node 128 ⟨1, 8, false, [Value.nilFunc], .fu⟩ (.node 127 ⟨1, 8, false, [Value.nilFunc], .fu⟩ (.node 126 ⟨2, 40, true, [Value.string ⟨#[]⟩, Value.slice none 0 0], .st [(0, 9), (1, 124)]⟩ .leaf .leaf) .leaf) (.node 129 ⟨1, 24, false, [Value.slice none 0 0], .sl 209⟩ .leaf .leaf)))) (.node 141 ⟨1, 8, false, [Value.nilFunc], .fu⟩ (.node 136 ⟨1, 8, false, [Value.nilFunc], .fu⟩ (.node 133 ⟨1, 8, false, [Value.nilFunc], .fu⟩ (.node 132 ⟨1, 8, false, [Value.nilFunc], .fu⟩ (.node 131 ⟨3, 48, true, [Value.string ⟨#[]⟩, Value.slice none 0 0, Value.bool false], .st [(0, 9), (1, 129), (2, 4)]⟩ .leaf .leaf) .leaf) (.node 135 ⟨7, 56, true, [Value.string ⟨#[]⟩, Value.int .u32 0, Value.int .i64 0, Value.int .u32 0, Value.bool false, Value.int .i64 0, Value.int .i64 0], .st [(0, 9), (1, 70), (3, 24), (4, 4), (5, 3), (6, 3)]⟩ (.node 134 ⟨7, 56, true, [Value.string ⟨#[]⟩, Value.int .u32 0, Value.int .i64 0, Value.int .u32 0, Value.bool false, Value.int .i64 0, Value.int .i64 0], .st [(0, 9), (1, 70), (3, 24), (4, 4), (5, 3), (6, 3)]⟩ .leaf .leaf) .leaf)) (.node 139 ⟨1, 8, false, [Value.nilFunc], .fu⟩ (.node 138 ⟨1, 8, false, [Value.nilFunc], .fu⟩ (.node 137 ⟨1, 8, false, [Value.nilFunc], .fu⟩ .leaf .leaf) .leaf) (.node 140 ⟨1, 8, false, [Value.nilFunc], .fu⟩ .leaf .leaf))) (.node 147 ⟨18, 328, true, [Value.string ⟨#[]⟩, Value.int .u8 0, Value.slice none 0 0, Value.slice none 0 0, Value.slice none 0 0, Value.slice none 0 0, Value.slice none 0 0, Value.slice none 0 0, Value.slice none 0 0, Value.slice none 0 0, Value.slice none 0 0, Value.slice none 0 0, Value.string ⟨#[]⟩, Value.int .i64 0, Value.int .i64 0, Value.slice none 0 0, Value.bool false, Value.bool false], .st [(0, 58), (12, 9), (13, 3), (14, 3), (15, 47), (16, 4), (17, 4)]⟩ (.node 145 ⟨1, 8, false, [Value.pointer none], .pt 147⟩ (.node 144 ⟨1, 8, false, [Value.nilFunc], .fu⟩ (.node 142 ⟨1, 24, false, [Value.slice none 0 0], .sl 151⟩ .leaf .leaf) .leaf) (.node 146 ⟨18, 328, true, [Value.string ⟨#[]⟩, Value.int .u8 0, Value.slice none 0 0, Value.slice none 0 0, Value.slice none 0 0, Value.slice none 0 0, Value.slice none 0 0, Value.slice none 0 0, Value.slice none 0 0, Value.slice none 0 0, Value.slice none 0 0, Value.slice none 0 0, Value.string ⟨#[]⟩, Value.int .i64 0, Value.int .i64 0, Value.slice none 0 0, Value.bool false, Value.bool false], .st [(0, 58), (12, 9), (13, 3), (14, 3), (15, 47), (16, 4), (17, 4)]⟩ .leaf .leaf)) (.node 150 ⟨2, 32, true, [Value.int .i64 0, Value.slice none 0 0], .st [(0, 3), (1, 149)]⟩ (.node 149 ⟨1, 24, false, [Value.slice none 0 0], .sl 155⟩ (.node 148 ⟨1, 8, false, [Value.pointer none], .pt 153⟩ .leaf .leaf) .leaf) (.node 151 ⟨2, 32, true, [Value.int .i64 0, Value.slice none 0 0], .st [(0, 3), (1, 149)]⟩ .leaf .leaf))))) (.node 174 ⟨1, 8, false, [Value.nilFunc], .fu⟩ (.node 163 ⟨5, 40, true, [Value.map none, Value.map none, Value.map none, Value.map none, Value.map none], .st [(0, 79), (1, 79), (2, 79), (3, 79), (4, 79)]⟩ (.node 158 ⟨1, 8, false, [Value.nilFunc], .fu⟩ (.node 155 ⟨3, 32, true, [Value.string ⟨#[]⟩, Value.int .i64 0, Value.int .i64 0], .st [(0, 9), (1, 100)]⟩ (.node 154 ⟨3, 32, true, [Value.string ⟨#[]⟩, Value.int .i64 0, Value.int .i64 0], .st [(0, 9), (1, 100)]⟩ (.node 153 ⟨5, 56, true, [Value.slice none 0 0, Value.int .i64 0, Value.int .i64 0, Value.int .i64 0, Value.int .i64 0], .st [(0, 149), (1, 3), (2, 100), (4, 27)]⟩ .leaf .leaf) .leaf) (.node 157 ⟨1, 8, false, [Value.nilFunc], .fu⟩ (.node 156 ⟨1, 8, false, [Value.nilFunc], .fu⟩ .leaf .leaf) .leaf)) (.node 161 ⟨1, 8, false, [Value.nilFunc], .fu⟩ (.node 160 ⟨1, 24, false, [Value.slice none 0 0], .sl 5⟩ (.node 159 ⟨1, 8, false, [Value.nilFunc], .fu⟩ .leaf .leaf) .leaf) (.node 162 ⟨5, 40, true, [Value.map none, Value.map none, Value.map none, Value.map none, Value.map none], .st [(0, 79), (1, 79), (2, 79), (3, 79), (4, 79)]⟩ .leaf .leaf))) (.node 169 ⟨1, 8, false, [Value.nilFunc], .fu⟩ (.node 166 ⟨1, 8, false, [Value.nilFunc], .fu⟩ (.node 165 ⟨1, 8, false, [Value.nilFunc], .fu⟩ (.node 164 ⟨1, 8, false, [Value.nilFunc], .fu⟩ .leaf .leaf) .leaf) (.node 168 ⟨1, 8, false, [Value.nilFunc], .fu⟩ (.node 167 ⟨1, 8, false, [Value.nilFunc], .fu⟩ .leaf .leaf) .leaf)) (.node 172 ⟨3, 32, true, [Value.bool false, Value.string ⟨#[]⟩, Value.int .u32 0], .st [(0, 4), (1, 9), (2, 24)]⟩ (.node 171 ⟨3, 32, true, [Value.bool false, Value.string ⟨#[]⟩, Value.int .u32 0], .st [(0, 4), (1, 9), (2, 24)]⟩ (.node 170 ⟨1, 8, false, [Value.nilFunc], .fu⟩ .leaf .leaf) .leaf) (.node 173 ⟨1, 8, false, [Value.nilFunc], .fu⟩ .leaf .leaf)))) (.node 186 ⟨1, 8, false, [Value.nilFunc], .fu⟩ (.node 181 ⟨1, 8, false, [Value.nilFunc], .fu⟩ (.node 177 ⟨1, 8, false, [Value.nilFunc], .fu⟩ (.node 176 ⟨1, 8, false, [Value.nilFunc], .fu⟩ (.node 175 ⟨1, 8, false, [Value.nilFunc], .fu⟩ .leaf .leaf) .leaf) (.node 180 ⟨1, 8, false, [Value.nilFunc], .fu⟩ (.node 178 ⟨1, 8, false, [Value.nilFunc], .fu⟩ .leaf .leaf) .leaf)) (.node 184 ⟨1, 8, false, [Value.nilFunc], .fu⟩ (.node 183 ⟨1, 8, false, [Value.nilFunc], .fu⟩ (.node 182 ⟨1, 8, false, [Value.nilFunc], .fu⟩ .leaf .leaf) .leaf) (.node 185 ⟨1, 8, false, [Value.nilFunc], .fu⟩ .leaf .leaf))) (.node 191 ⟨10, 64, true, [Value.bool false, Value.int .i64 0, Value.int .u32 0, Value.int .i64 0, Value.int .u32 0, Value.int .i64 0, Value.int .u32 0, Value.int .u32 0, Value.int .u32 0, Value.int .u32 0], .st [(0, 4), (1, 3), (2, 70), (4, 70), (6, 189), (8, 189)]⟩ (.node 189 ⟨2, 8, true, [Value.int .u32 0, Value.int .u32 0], .st [(0, 23), (1, 23)]⟩ (.node 188 ⟨2, 8, true, [Value.int .u32 0, Value.int .u32 0], .st [(0, 23), (1, 23)]⟩ (.node 187 ⟨1, 8, false, [Value.nilFunc], .fu⟩ .leaf .leaf) .leaf) (.node 190 ⟨10, 64, true, [Value.bool false, Value.int .i64 0, Value.int .u32 0, Value.int .i64 0, Value.int .u32 0, Value.int .i64 0, Value.int .u32 0, Value.int .u32 0, Value.int .u32 0, Value.int .u32 0], .st [(0, 4), (1, 3), (2, 70), (4, 70), (6, 189), (8, 189)]⟩ .leaf .leaf)) (.node 194 ⟨1, 8, false, [Value.nilFunc], .fu⟩ (.node 193 ⟨1, 8, false, [Value.nilFunc], .fu⟩ (.node 192 ⟨1, 8, false, [Value.nilFunc], .fu⟩ .leaf .leaf) .leaf) (.node 195 ⟨5, 40, true, [Value.bool false, Value.int .u32 0, Value.int .i64 0, Value.int .i64 0, Value.int .i64 0], .st [(0, 4), (1, 70), (3, 3), (4, 3)]⟩ .leaf .leaf))))))) (.node 283 ⟨1, 8, false, [Value.nilFunc], .fu⟩ (.node 239 ⟨1, 8, false, [Value.nilFunc], .fu⟩ (.node 218 ⟨1, 8, false, [Value.nilFunc], .fu⟩ (.node 207 ⟨1, 8, false, [Value.nilFunc], .fu⟩ (.node 202 ⟨2, 32, true, [Value.bool false, Value.slice none 0 0], .st [(0, 4), (1, 200)]⟩ (.node 199 ⟨1, 8, false, [Value.nilFunc], .fu⟩ (.node 198 ⟨1, 8, false, [Value.nilFunc], .fu⟩ (.node 197 ⟨1, 8, false, [Value.nilFunc], .fu⟩ .leaf .leaf) .leaf) (.node 201 ⟨2, 32, true, [Value.bool false, Value.slice none 0 0], .st [(0, 4), (1, 200)]⟩ (.node 200 ⟨1, 24, false, [Value.slice none 0 0], .sl 23⟩ .leaf .leaf) .leaf)) (.node 205 ⟨1, 8, false, [Value.nilFunc], .fu⟩ (.node 204 ⟨1, 8, false, [Value.nilFunc], .fu⟩ (.node 203 ⟨1, 8, false, [Value.nilFunc], .fu⟩ .leaf .leaf) .leaf) (.node 206 ⟨1, 8, false, [Value.nilFunc], .fu⟩ .leaf .leaf))) (.node 213 ⟨1, 8, false, [Value.nilFunc], .fu⟩ (.node 210 ⟨1, 8, false, [Value.nilFunc], .fu⟩ (.node 209 ⟨15, 168, true, [Value.int .i64 0, Value.int .u8 0, Value.string ⟨#[]⟩, Value.string ⟨#[]⟩, Value.int .i64 0, Value.int .i64 0, Value.int .i64 0, Value.int .i64 0, Value.int .i64 0, Value.int .i64 0, Value.slice none 0 0, Value.bool false, Value.slice none 0 0, Value.int .u32 0, Value.int .i64 0], .st [(0, 3), (1, 5), (2, 9), (3, 9), (4, 3), (5, 3), (6, 3), (7, 3), (8, 3), (9, 3), (10, 200), (11, 4), (12, 200), (13, 24), (14, 3)]⟩ (.node 208 ⟨15, 168, true, [Value.int .i64 0, Value.int .u8 0, Value.string ⟨#[]⟩, Value.string ⟨#[]⟩, Value.int .i64 0, Value.int .i64 0, Value.int .i64 0, Value.int .i64 0, Value.int .i64 0, Value.int .i64 0, Value.slice none 0 0, Value.bool false, Value.slice none 0 0, Value.int .u32 0, Value.int .i64 0], .st [(0, 3), (1, 5), (2, 9), (3, 9), (4, 3), (5, 3), (6, 3), (7, 3), (8, 3), (9, 3), (10, 200), (11, 4), (12, 200), (13, 24), (14, 3)]⟩ .leaf .leaf) .leaf) (.node 212 ⟨1, 8, false, [Value.nilFunc], .fu⟩ (.node 211 ⟨1, 8, false, [Value.nilFunc], .fu⟩ .leaf .leaf) .leaf)) (.node 216 ⟨1, 8, false, [Value.nilFunc], .fu⟩ (.node 215 ⟨4, 40, true, [Value.int .u8 0, Value.int .i64 0, Value.int .u8 0, Value.string ⟨#[]⟩], .st [(0, 5), (1, 3), (2, 5), (3, 9)]⟩ (.node 214 ⟨4, 40, true, [Value.int .u8 0, Value.int .i64 0, Value.int .u8 0, Value.string ⟨#[]⟩], .st [(0, 5), (1, 3), (2, 5), (3, 9)]⟩ .leaf .leaf) .leaf) (.node 217 ⟨1, 8, false, [Value.nilFunc], .fu⟩ .leaf .leaf)))) (.node 229 ⟨1, 8, false, [Value.nilFunc], .fu⟩ (.node 224 ⟨1, 8, false, [Value.nilFunc], .fu⟩ (.node 221 ⟨1, 8, false, [Value.nilFunc], .fu⟩ (.node 220 ⟨1, 8, false, [Value.nilFunc], .fu⟩ (.node 219 ⟨1, 8, false, [Value.nilFunc], .fu⟩ .leaf .leaf) .leaf) (.node 223 ⟨1, 8, false, [Value.int .u64 0], .it .u64⟩ (.node 222 ⟨1, 8, false, [Value.nilFunc], .fu⟩ .leaf .leaf) .leaf)) (.node 227 ⟨1, 8, false, [Value.nilFunc], .fu⟩ (.node 226 ⟨1, 8, false, [Value.nilFunc], .fu⟩ (.node 225 ⟨1, 8, false, [Value.nilFunc], .fu⟩ .leaf .leaf) .leaf) (.node 228 ⟨1, 8, false, [Value.nilFunc], .fu⟩ .leaf .leaf))) (.node 234 ⟨1, 8, false, [Value.nilFunc], .fu⟩ (.node 232 ⟨1, 8, false, [Value.nilFunc], .fu⟩ (.node 231 ⟨1, 8, false, [Value.nilFunc], .fu⟩ (.node 230 ⟨1, 8, false, [Value.nilFunc], .fu⟩ .leaf .leaf) .leaf) (.node 233 ⟨1, 8, false, [Value.nilFunc], .fu⟩ .leaf .leaf)) (.node 237 ⟨1, 8, false, [Value.nilFunc], .fu⟩ (.node 236 ⟨1, 8, false, [Value.nilFunc], .fu⟩ (.node 235 ⟨1, 8, false, [Value.nilFunc], .fu⟩ .leaf .leaf) .leaf) (.node 238 ⟨1, 8, false, [Value.nilFunc], .fu⟩ .leaf .leaf))))) (.node 262 ⟨1, 8, false, [Value.nilFunc], .fu⟩ (.node 251 ⟨1, 8, false, [Value.pointer none], .pt 116⟩ (.node 246 ⟨1, 8, false, [Value.nilFunc], .fu⟩ (.node 243 ⟨1, 8, false, [Value.nilFunc], .fu⟩ (.node 242 ⟨1, 8, false, [Value.nilFunc], .fu⟩ (.node 240 ⟨1, 8, false, [Value.int .u64 0], .it .u64⟩ .leaf .leaf) .leaf) (.node 245 ⟨1, 8, false, [Value.nilFunc], .fu⟩ (.node 244 ⟨1, 8, false, [Value.nilFunc], .fu⟩ .leaf .leaf) .leaf)) (.node 249 ⟨1, 8, false, [Value.pointer none], .pt 26⟩ (.node 248 ⟨1, 8, false, [Value.nilFunc], .fu⟩ (.node 247 ⟨1, 8, false, [Value.nilFunc], .fu⟩ .leaf .leaf) .leaf) (.node 250 ⟨1, 8, false, [Value.nilFunc], .fu⟩ .leaf .leaf))) (.node 257 ⟨1, 8, false, [Value.nilFunc], .fu⟩ (.node 254 ⟨1, 8, false, [Value.pointer none], .pt 83⟩ (.node 253 ⟨1, 8, false, [Value.pointer none], .pt 209⟩ (.node 252 ⟨1, 8, false, [Value.nilFunc], .fu⟩ .leaf .leaf) .leaf) (.node 256 ⟨1, 8, false, [Value.nilFunc], .fu⟩ (.node 255 ⟨1, 8, false, [Value.nilFunc], .fu⟩ .leaf .leaf) .leaf)) (.node 260 ⟨1, 8, false, [Value.nilFunc], .fu⟩ (.node 259 ⟨1, 8, false, [Value.nilFunc], .fu⟩ (.node 258 ⟨1, 8, false, [Value.pointer none], .pt 87⟩ .leaf .leaf) .leaf) (.node 261 ⟨1, 8, false, [Value.nilFunc], .fu⟩ .leaf .leaf)))) (.node 273 ⟨1, 8, false, [Value.nilFunc], .fu⟩ (.node 268 ⟨1, 8, false, [Value.nilFunc], .fu⟩ (.node 265 ⟨1, 8, false, [Value.nilFunc], .fu⟩ (.node 264 ⟨1, 8, false, [Value.nilFunc], .fu⟩ (.node 263 ⟨1, 8, false, [Value.nilFunc], .fu⟩ .leaf .leaf) .leaf) (.node 267 ⟨1, 8, false, [Value.nilFunc], .fu⟩ (.node 266 ⟨1, 8, false, [Value.nilFunc], .fu⟩ .leaf .leaf) .leaf)) (.node 271 ⟨1, 8, false, [Value.nilFunc], .fu⟩ (.node 270 ⟨1, 8, false, [Value.nilFunc], .fu⟩ (.node 269 ⟨1, 8, false, [Value.nilFunc], .fu⟩ .leaf .leaf) .leaf) (.node 272 ⟨1, 8, false, [Value.nilFunc], .fu⟩ .leaf .leaf))) (.node 278 ⟨1, 8, false, [Value.nilFunc], .fu⟩ (.node 276 ⟨1, 8, false, [Value.nilFunc], .fu⟩ (.node 275 ⟨1, 8, false, [Value.nilFunc], .fu⟩ (.node 274 ⟨1, 8, false, [Value.nilFunc], .fu⟩ .leaf .leaf) .leaf) (.node 277 ⟨1, 8, false, [Value.nilFunc], .fu⟩ .leaf .leaf)) (.node 281 ⟨1, 8, false, [Value.nilFunc], .fu⟩ (.node 280 ⟨1, 24, false, [Value.slice none 0 0], .sl 3⟩ (.node 279 ⟨1, 8, false, [Value.nilFunc], .fu⟩ .leaf .leaf) .leaf) (.node 282 ⟨1, 8, false, [Value.nilFunc], .fu⟩ .leaf .leaf)))))) (.node 329 ⟨1, 8, false, [Value.nilFunc], .fu⟩ (.node 307 ⟨1, 8, false, [Value.nilFunc], .fu⟩ (.node 295 ⟨1, 8, false, [Value.nilFunc], .fu⟩ (.node 289 ⟨1, 8, false, [Value.nilFunc], .fu⟩ (.node 286 ⟨1, 8, false, [Value.nilFunc], .fu⟩ (.node 285 ⟨1, 8, false, [Value.nilFunc], .fu⟩ (.node 284 ⟨1, 8, false, [Value.nilFunc], .fu⟩ .leaf .leaf) .leaf) (.node 288 ⟨1, 8, false, [Value.nilFunc], .fu⟩ (.node 287 ⟨1, 8, false, [Value.nilFunc], .fu⟩ .leaf .leaf) .leaf)) (.node 292 ⟨1, 8, false, [Value.int .i64 0], .it .i64⟩ (.node 291 ⟨1, 8, false, [Value.nilFunc], .fu⟩ (.node 290 ⟨1, 8, false, [Value.nilFunc], .fu⟩ .leaf .leaf) .leaf) (.node 294 ⟨1, 8, false, [Value.nilFunc], .fu⟩ .leaf .leaf))) (.node 302 ⟨1, 8, false, [Value.nilFunc], .fu⟩ (.node 299 ⟨1, 8, false, [Value.nilFunc], .fu⟩ (.node 298 ⟨1, 8, false, [Value.nilFunc], .fu⟩ (.node 296 ⟨1, 8, false, [Value.nilFunc], .fu⟩ .leaf .leaf) .leaf) (.node 301 ⟨1, 8, false, [Value.nilFunc], .fu⟩ (.node 300 ⟨1, 8, false, [Value.nilFunc], .fu⟩ .leaf .leaf) .leaf)) (.node 305 ⟨1, 8, false, [Value.nilFunc], .fu⟩ (.node 304 ⟨1, 8, false, [Value.nilFunc], .fu⟩ (.node 303 ⟨1, 8, false, [Value.nilFunc], .fu⟩ .leaf .leaf) .leaf) (.node 306 ⟨1, 8, false, [Value.nilFunc], .fu⟩ .leaf .leaf)))) (.node 318 ⟨1, 8, false, [Value.nilFunc], .fu⟩ (.node 313 ⟨1, 8, false, [Value.nilFunc], .fu⟩ (.node 310 ⟨1, 8, false, [Value.nilFunc], .fu⟩ (.node 309 ⟨1, 8, false, [Value.nilFunc], .fu⟩ (.node 308 ⟨1, 8, false, [Value.nilFunc], .fu⟩ .leaf .leaf) .leaf) (.node 312 ⟨1, 8, false, [Value.nilFunc], .fu⟩ (.node 311 ⟨1, 8, false, [Value.nilFunc], .fu⟩ .leaf .leaf) .leaf)) (.node 316 ⟨1, 8, false, [Value.nilFunc], .fu⟩ (.node 315 ⟨1, 8, false, [Value.nilFunc], .fu⟩ (.node 314 ⟨1, 8, false, [Value.nilFunc], .fu⟩ .leaf .leaf) .leaf) (.node 317 ⟨1, 8, false, [Value.nilFunc], .fu⟩ .leaf .leaf))) (.node 324 ⟨1, 8, false, [Value.nilFunc], .fu⟩ (.node 322 ⟨1, 8, false, [Value.nilFunc], .fu⟩ (.node 321 ⟨1, 8, false, [Value.nilFunc], .fu⟩ (.node 320 ⟨1, 8, false, [Value.nilFunc], .fu⟩ .leaf .leaf) .leaf) (.node 323 ⟨1, 8, false, [Value.nilFunc], .fu⟩ .leaf .leaf)) (.node 327 ⟨1, 8, false, [Value.nilFunc], .fu⟩ (.node 326 ⟨1, 8, false, [Value.nilFunc], .fu⟩ (.node 325 ⟨1, 8, false, [Value.nilFunc], .fu⟩ .leaf .leaf) .leaf) (.node 328 ⟨1, 8, false, [Value.nilFunc], .fu⟩ .leaf .leaf))))) (.node 351 ⟨1, 8, false, [Value.nilFunc], .fu⟩ (.node 341 ⟨1, 8, false, [Value.nilFunc], .fu⟩ (.node 336 ⟨1, 8, false, [Value.int .u64 0], .it .u64⟩ (.node 332 ⟨24, 24, true, [Value.int .u8 0, Value.int .u8 0, Value.int .u8 0, Value.int .u8 0, Value.int .u8 0, Value.int .u8 0, Value.int .u8 0, Value.int .u8 0, Value.int .u8 0, Value.int .u8 0, Value.int .u8 0, Value.int .u8 0, Value.int .u8 0, Value.int .u8 0, Value.int .u8 0, Value.int .u8 0, Value.int .u8 0, Value.int .u8 0, Value.int .u8 0, Value.int .u8 0, Value.int .u8 0, Value.int .u8 0, Value.int .u8 0, Value.int .u8 0], .ar 24 5⟩ (.node 331 ⟨1, 8, false, [Value.nilFunc], .fu⟩ (.node 330 ⟨1, 8, false, [Value.nilFunc], .fu⟩ .leaf .leaf) .leaf) (.node 335 ⟨1, 8, false, [Value.nilFunc], .fu⟩ (.node 333 ⟨1, 8, false, [Value.nilFunc], .fu⟩ .leaf .leaf) .leaf)) (.node 339 ⟨1, 8, false, [Value.nilFunc], .fu⟩ (.node 338 ⟨1, 8, false, [Value.nilFunc], .fu⟩ (.node 337 ⟨1, 8, false, [Value.nilFunc], .fu⟩ .leaf .leaf) .leaf) (.node 340 ⟨1, 8, false, [Value.pointer none], .pt 3⟩ .leaf .leaf))) (.node 346 ⟨1, 8, false, [Value.nilFunc], .fu⟩ (.node 344 ⟨1, 8, false, [Value.nilFunc], .fu⟩ (.node 343 ⟨1, 8, false, [Value.nilFunc], .fu⟩ (.node 342 ⟨1, 8, false, [Value.nilFunc], .fu⟩ .leaf .leaf) .leaf) (.node 345 ⟨1, 8, false, [Value.nilFunc], .fu⟩ .leaf .leaf)) (.node 349 ⟨1, 8, false, [Value.nilFunc], .fu⟩ (.node 348 ⟨1, 8, false, [Value.nilFunc], .fu⟩ (.node 347 ⟨1, 8, false, [Value.nilFunc], .fu⟩ .leaf .leaf) .leaf) (.node 350 ⟨1, 8, false, [Value.nilFunc], .fu⟩ .leaf .leaf)))) (.node 364 ⟨1, 8, false, [Value.pointer none], .pt 336⟩ (.node 359 ⟨1, 8, false, [Value.nilFunc], .fu⟩ (.node 355 ⟨1, 8, false, [Value.nilFunc], .fu⟩ (.node 354 ⟨1, 8, false, [Value.nilFunc], .fu⟩ (.node 352 ⟨1, 8, false, [Value.nilFunc], .fu⟩ .leaf .leaf) .leaf) (.node 358 ⟨1, 8, false, [Value.nilFunc], .fu⟩ (.node 357 ⟨1, 8, false, [Value.nilFunc], .fu⟩ .leaf .leaf) .leaf)) (.node 362 ⟨20, 160, true, [Value.int .u64 0, Value.int .u64 0, Value.int .u64 0, Value.int .u64 0, Value.int .u64 0, Value.int .u64 0, Value.int .u64 0, Value.int .u64 0, Value.int .u64 0, Value.int .u64 0, Value.int .u64 0, Value.int .u64 0, Value.int .u64 0, Value.int .u64 0, Value.int .u64 0, Value.int .u64 0, Value.int .u64 0, Value.int .u64 0, Value.int .u64 0, Value.int .u64 0], .ar 20 240⟩ (.node 361 ⟨1, 8, false, [Value.nilFunc], .fu⟩ (.node 360 ⟨1, 8, false, [Value.nilFunc], .fu⟩ .leaf .leaf) .leaf) (.node 363 ⟨65, 65, true, [Value.int .u8 0, Value.int .u8 0, Value.int .u8 0, Value.int .u8 0, Value.int .u8 0, Value.int .u8 0, Value.int .u8 0, Value.int .u8 0, Value.int .u8 0, Value.int .u8 0, Value.int .u8 0, Value.int .u8 0, Value.int .u8 0, Value.int .u8 0, Value.int .u8 0, Value.int .u8 0, Value.int .u8 0, Value.int .u8 0, Value.int .u8 0, Value.int .u8 0, Value.int .u8 0, Value.int .u8 0, Value.int .u8 0, Value.int .u8 0, Value.int .u8 0, Value.int .u8 0, Value.int .u8 0, Value.int .u8 0, Value.int .u8 0, Value.int .u8 0, Value.int .u8 0, Value.int .u8 0, Value.int .u8 0, Value.int .u8 0, Value.int .u8 0, Value.int .u8 0, Value.int .u8 0, Value.int .u8 0, Value.int .u8 0, Value.int .u8 0, Value.int .u8 0, Value.int .u8 0, Value.int .u8 0, Value.int .u8 0, Value.int .u8 0, Value.int .u8 0, Value.int .u8 0, Value.int .u8 0, Value.int .u8 0, Value.int .u8 0, Value.int .u8 0, Value.int .u8 0, Value.int .u8 0, Value.int .u8 0, Value.int .u8 0, Value.int .u8 0, Value.int .u8 0, Value.int .u8 0, Value.int .u8 0, Value.int .u8 0, Value.int .u8 0, Value.int .u8 0, Value.int .u8 0, Value.int .u8 0, Value.int .u8 0], .ar 65 5⟩ .leaf .leaf))) (.node 371 ⟨32, 32, true, [Value.int .u8 0, Value.int .u8 0, Value.int .u8 0, Value.int .u8 0, Value.int .u8 0, Value.int .u8 0, Value.int .u8 0, Value.int .u8 0, Value.int .u8 0, Value.int .u8 0, Value.int .u8 0, Value.int .u8 0, Value.int .u8 0, Value.int .u8 0, Value.int .u8 0, Value.int .u8 0, Value.int .u8 0, Value.int .u8 0, Value.int .u8 0, Value.int .u8 0, Value.int .u8 0, Value.int .u8 0, Value.int .u8 0, Value.int .u8 0, Value.int .u8 0, Value.int .u8 0, Value.int .u8 0, Value.int .u8 0, Value.int .u8 0, Value.int .u8 0, Value.int .u8 0, Value.int .u8 0], .ar 32 5⟩ (.node 368 ⟨1, 8, false, [Value.nilFunc], .fu⟩ (.node 367 ⟨1, 8, false, [Value.nilFunc], .fu⟩ (.node 366 ⟨1, 8, false, [Value.nilFunc], .fu⟩ .leaf .leaf) .leaf) (.node 370 ⟨1, 8, false, [Value.nilFunc], .fu⟩ .leaf .leaf)) (.node 381 ⟨1, 8, false, [Value.nilFunc], .fu⟩ (.node 378 ⟨1, 8, false, [Value.nilFunc], .fu⟩ (.node 372 ⟨64, 64, true, [Value.int .u8 0, Value.int .u8 0, Value.int .u8 0, Value.int .u8 0, Value.int .u8 0, Value.int .u8 0, Value.int .u8 0, Value.int .u8 0, Value.int .u8 0, Value.int .u8 0, Value.int .u8 0, Value.int .u8 0, Value.int .u8 0, Value.int .u8 0, Value.int .u8 0, Value.int .u8 0, Value.int .u8 0, Value.int .u8 0, Value.int .u8 0, Value.int .u8 0, Value.int .u8 0, Value.int .u8 0, Value.int .u8 0, Value.int .u8 0, Value.int .u8 0, Value.int .u8 0, Value.int .u8 0, Value.int .u8 0, Value.int .u8 0, Value.int .u8 0, Value.int .u8 0, Value.int .u8 0, Value.int .u8 0, Value.int .u8 0, Value.int .u8 0, Value.int .u8 0, Value.int .u8 0, Value.int .u8 0, Value.int .u8 0, Value.int .u8 0, Value.int .u8 0, Value.int .u8 0, Value.int .u8 0, Value.int .u8 0, Value.int .u8 0, Value.int .u8 0, Value.int .u8 0, Value.int .u8 0, Value.int .u8 0, Value.int .u8 0, Value.int .u8 0, Value.int .u8 0, Value.int .u8 0, Value.int .u8 0, Value.int .u8 0, Value.int .u8 0, Value.int .u8 0, Value.int .u8 0, Value.int .u8 0, Value.int .u8 0, Value.int .u8 0, Value.int .u8 0, Value.int .u8 0, Value.int .u8 0], .ar 64 5⟩ .leaf .leaf) .leaf) (.node 382 ⟨1, 8, false, [Value.pointer none], .pt 5⟩ .leaf .leaf))))))))
theorem tf1 : TFacts Tryz.prog 1 ⟨1, 8, false, [Value.nilFunc], .fu⟩ := ⟨by kernel_rfl, _, Tryz.underlying1, rfl, ⟨_, _, _, rfl⟩⟩
theorem tf2 : TFacts Tryz.prog 2 ⟨1, 8, false, [Value.int .i64 0], .it .i64⟩ := ⟨by kernel_rfl, _, Tryz.underlying2, rfl, rfl⟩
theorem tf3 : TFacts Tryz.prog 3 ⟨1, 8, false, [Value.int .i64 0], .it .i64⟩ := ⟨by kernel_rfl, _, Tryz.underlying3, rfl, rfl⟩
theorem tf4 : TFacts Tryz.prog 4 ⟨1, 1, false, [Value.bool false], .bo⟩ := ⟨by kernel_rfl, _, Tryz.underlying4, rfl, rfl⟩
theorem tf5 : TFacts Tryz.prog 5 ⟨1, 1, false, [Value.int .u8 0], .it .u8⟩ := ⟨by kernel_rfl, _, Tryz.underlying5, rfl, rfl⟩
theorem tf9 : TFacts Tryz.prog 9 ⟨1, 16, false, [Value.string ⟨#[]⟩], .str⟩ := ⟨by kernel_rfl, _, Tryz.underlying9, rfl, rfl⟩
theorem tf12 : TFacts Tryz.prog 12 ⟨1, 8, false, [Value.int .u64 0], .it .u64⟩ := ⟨by kernel_rfl, _, Tryz.underlying12, rfl, rfl⟩
theorem tf21 : TFacts Tryz.prog 21 ⟨1, 4, false, [Value.int .i32 0], .it .i32⟩ := ⟨by kernel_rfl, _, Tryz.underlying21, rfl, rfl⟩
theorem tf22 : TFacts Tryz.prog 22 ⟨1, 8, false, [Value.pointer none], .pt 62⟩ := ⟨by kernel_rfl, _, Tryz.underlying22, rfl, rfl⟩
theorem tf23 : TFacts Tryz.prog 23 ⟨1, 4, false, [Value.int .u32 0], .it .u32⟩ := ⟨by kernel_rfl, _, Tryz.underlying23, rfl, rfl⟩
theorem tf24 : TFacts Tryz.prog 24 ⟨1, 4, false, [Value.int .u32 0], .it .u32⟩ := ⟨by kernel_rfl, _, Tryz.underlying24, rfl, rfl⟩
theorem tf25 : TFacts Tryz.prog 25 ⟨11, 120, true, [Value.string ⟨#[]⟩, Value.string ⟨#[]⟩, Value.int .u32 0, Value.int .i64 0, Value.bool false, Value.string ⟨#[]⟩, Value.string ⟨#[]⟩, Value.int .u8 0, Value.int .i64 0, Value.int .i64 0, Value.bool false], .st [(0, 9), (1, 9), (2, 24), (3, 3), (4, 4), (5, 9), (6, 9), (7, 5), (8, 3), (9, 3), (10, 4)]⟩ := ⟨by kernel_rfl, _, Tryz.underlying25, rfl, ⟨_, rfl, rfl, by decide⟩⟩
theorem tf26 : TFacts Tryz.prog 26 ⟨11, 120, true, [Value.string ⟨#[]⟩, Value.string ⟨#[]⟩, Value.int .u32 0, Value.int .i64 0, Value.bool false, Value.string ⟨#[]⟩, Value.string ⟨#[]⟩, Value.int .u8 0, Value.int .i64 0, Value.int .i64 0, Value.bool false], .st [(0, 9), (1, 9), (2, 24), (3, 3), (4, 4), (5, 9), (6, 9), (7, 5), (8, 3), (9, 3), (10, 4)]⟩ := ⟨by kernel_rfl, _, Tryz.underlying26, rfl, ⟨_, rfl, rfl, by decide⟩⟩
theorem tf27 : TFacts Tryz.prog 27 ⟨1, 8, false, [Value.int .i64 0], .it .i64⟩ := ⟨by kernel_rfl, _, Tryz.underlying27, rfl, rfl⟩
theorem tf29 : TFacts Tryz.prog 29 ⟨1, 8, false, [Value.nilFunc], .fu⟩ := ⟨by kernel_rfl, _, Tryz.underlying29, rfl, ⟨_, _, _, rfl⟩⟩
theorem tf30 : TFacts Tryz.prog 30 ⟨2, 16, true, [Value.int .i64 0, Value.int .i64 0], .st [(0, 3), (1, 3)]⟩ := ⟨by kernel_rfl, _, Tryz.underlying30, rfl, ⟨_, rfl, rfl, by decide⟩⟩
theorem tf31 : TFacts Tryz.prog 31 ⟨2, 16, true, [Value.int .i64 0, Value.int .i64 0], .st [(0, 3), (1, 3)]⟩ := ⟨by kernel_rfl, _, Tryz.underlying31, rfl, ⟨_, rfl, rfl, by decide⟩⟩
theorem tf32 : TFacts Tryz.prog 32 ⟨1, 24, false, [Value.slice none 0 0], .sl 31⟩ := ⟨by kernel_rfl, _, Tryz.underlying32, rfl, rfl⟩
theorem tf34 : TFacts Tryz.prog 34 ⟨1, 8, false, [Value.nilFunc], .fu⟩ := ⟨by kernel_rfl, _, Tryz.underlying34, rfl, ⟨_, _, _, rfl⟩⟩
theorem tf36 : TFacts Tryz.prog 36 ⟨1, 8, false, [Value.nilFunc], .fu⟩ := ⟨by kernel_rfl, _, Tryz.underlying36, rfl, ⟨_, _, _, rfl⟩⟩
theorem tf38 : TFacts Tryz.prog 38 ⟨1, 8, false, [Value.nilFunc], .fu⟩ := ⟨by kernel_rfl, _, Tryz.underlying38, rfl, ⟨_, _, _, rfl⟩⟩
theorem tf39 : TFacts Tryz.prog 39 ⟨1, 24, false, [Value.slice none 0 0], .sl 58⟩ := ⟨by kernel_rfl, _, Tryz.underlying39, rfl, rfl⟩
theorem tf40 : TFacts Tryz.prog 40 ⟨1, 8, false, [Value.nilFunc], .fu⟩ := ⟨by kernel_rfl, _, Tryz.underlying40, rfl, ⟨_, _, _, rfl⟩⟩
theorem tf41 : TFacts Tryz.prog 41 ⟨1, 8, false, [Value.nilFunc], .fu⟩ := ⟨by kernel_rfl, _, Tryz.underlying41, rfl, ⟨_, _, _, rfl⟩⟩
theorem tf42 : TFacts Tryz.prog 42 ⟨1, 24, false, [Value.slice none 0 0], .sl 73⟩ := ⟨by kernel_rfl, _, Tryz.underlying42, rfl, rfl⟩
theorem tf43 : TFacts Tryz.prog 43 ⟨1, 8, false, [Value.nilFunc], .fu⟩ := ⟨by kernel_rfl, _, Tryz.underlying43, rfl, ⟨_, _, _, rfl⟩⟩
theorem tf44 : TFacts Tryz.prog 44 ⟨1, 24, false, [Value.slice none 0 0], .sl 75⟩ := ⟨by kernel_rfl, _, Tryz.underlying44, rfl, rfl⟩
theorem tf45 : TFacts Tryz.prog 45 ⟨1, 8, false, [Value.nilFunc], .fu⟩ := ⟨by kernel_rfl, _, Tryz.underlying45, rfl, ⟨_, _, _, rfl⟩⟩
theorem tf46 : TFacts Tryz.prog 46 ⟨1, 8, false, [Value.nilFunc], .fu⟩ := ⟨by kernel_rfl, _, Tryz.underlying46, rfl, ⟨_, _, _, rfl⟩⟩
theorem tf47 : TFacts Tryz.prog 47 ⟨1, 24, false, [Value.slice none 0 0], .sl 9⟩ := ⟨by kernel_rfl, _, Tryz.underlying47, rfl, rfl⟩
theorem tf48 : TFacts Tryz.prog 48 ⟨1, 24, false, [Value.slice none 0 0], .sl 26⟩ := ⟨by kernel_rfl, _, Tryz.underlying48, rfl, rfl⟩
theorem tf49 : TFacts Tryz.prog 49 ⟨1, 24, false, [Value.slice none 0 0], .sl 116⟩ := ⟨by kernel_rfl, _, Tryz.underlying49, rfl, rfl⟩
theorem tf50 : TFacts Tryz.prog 50 ⟨1, 24, false, [Value.slice none 0 0], .sl 172⟩ := ⟨by kernel_rfl, _, Tryz.underlying50, rfl, rfl⟩
theorem tf51 : TFacts Tryz.prog 51 ⟨1, 24, false, [Value.slice none 0 0], .sl 135⟩ := ⟨by kernel_rfl, _, Tryz.underlying51, rfl, rfl⟩
theorem tf52 : TFacts Tryz.prog 52 ⟨1, 24, false, [Value.slice none 0 0], .sl 121⟩ := ⟨by kernel_rfl, _, Tryz.underlying52, rfl, rfl⟩
theorem tf53 : TFacts Tryz.prog 53 ⟨1, 24, false, [Value.slice none 0 0], .sl 126⟩ := ⟨by kernel_rfl, _, Tryz.underlying53, rfl, rfl⟩
theorem tf54 : TFacts Tryz.prog 54 ⟨1, 24, false, [Value.slice none 0 0], .sl 131⟩ := ⟨by kernel_rfl, _, Tryz.underlying54, rfl, rfl⟩
theorem tf55 : TFacts Tryz.prog 55 ⟨1, 24, false, [Value.slice none 0 0], .sl 83⟩ := ⟨by kernel_rfl, _, Tryz.underlying55, rfl, rfl⟩
theorem tf56 : TFacts Tryz.prog 56 ⟨1, 24, false, [Value.slice none 0 0], .sl 87⟩ := ⟨by kernel_rfl, _, Tryz.underlying56, rfl, rfl⟩
theorem tf57 : TFacts Tryz.prog 57 ⟨12, 264, true, [Value.string ⟨#[]⟩, Value.int .u8 0, Value.slice none 0 0, Value.slice none 0 0, Value.slice none 0 0, Value.slice none 0 0, Value.slice none 0 0, Value.slice none 0 0, Value.slice none 0 0, Value.slice none 0 0, Value.slice none 0 0, Value.slice none 0 0], .st [(0, 9), (1, 5), (2, 47), (3, 48), (4, 49), (5, 50), (6, 51), (7, 52), (8, 53), (9, 54), (10, 55), (11, 56)]⟩ := ⟨by kernel_rfl, _, Tryz.underlying57, rfl, ⟨_, rfl, rfl, by decide⟩⟩
theorem tf58 : TFacts Tryz.prog 58 ⟨12, 264, true, [Value.string ⟨#[]⟩, Value.int .u8 0, Value.slice none 0 0, Value.slice none 0 0, Value.slice none 0 0, Value.slice none 0 0, Value.slice none 0 0, Value.slice none 0 0, Value.slice none 0 0, Value.slice none 0 0, Value.slice none 0 0, Value.slice none 0 0], .st [(0, 9), (1, 5), (2, 47), (3, 48), (4, 49), (5, 50), (6, 51), (7, 52), (8, 53), (9, 54), (10, 55), (11, 56)]⟩ := ⟨by kernel_rfl, _, Tryz.underlying58, rfl, ⟨_, rfl, rfl, by decide⟩⟩
theorem tf59 : TFacts Tryz.prog 59 ⟨1, 8, false, [Value.map none], .mp 31 32⟩ := ⟨by kernel_rfl, _, Tryz.underlying59, rfl, rfl⟩
theorem tf60 : TFacts Tryz.prog 60 ⟨1, 8, false, [Value.map none], .mp 24 31⟩ := ⟨by kernel_rfl, _, Tryz.underlying60, rfl, rfl⟩
theorem tf61 : TFacts Tryz.prog 61 ⟨4, 64, true, [Value.slice none 0 0, Value.map none, Value.map none, Value.slice none 0 0], .st [(0, 39), (1, 59), (2, 60), (3, 44)]⟩ := ⟨by kernel_rfl, _, Tryz.underlying61, rfl, ⟨_, rfl, rfl, by decide⟩⟩
theorem tf62 : TFacts Tryz.prog 62 ⟨4, 64, true, [Value.slice none 0 0, Value.map none, Value.map none, Value.slice none 0 0], .st [(0, 39), (1, 59), (2, 60), (3, 44)]⟩ := ⟨by kernel_rfl, _, Tryz.underlying62, rfl, ⟨_, rfl, rfl, by decide⟩⟩
theorem tf63 : TFacts Tryz.prog 63 ⟨1, 8, false, [Value.nilFunc], .fu⟩ := ⟨by kernel_rfl, _, Tryz.underlying63, rfl, ⟨_, _, _, rfl⟩⟩
theorem tf66 : TFacts Tryz.prog 66 ⟨1, 8, false, [Value.nilFunc], .fu⟩ := ⟨by kernel_rfl, _, Tryz.underlying66, rfl, ⟨_, _, _, rfl⟩⟩
theorem tf67 : TFacts Tryz.prog 67 ⟨1, 8, false, [Value.map none], .mp 70 32⟩ := ⟨by kernel_rfl, _, Tryz.underlying67, rfl, rfl⟩
theorem tf68 : TFacts Tryz.prog 68 ⟨1, 8, false, [Value.nilFunc], .fu⟩ := ⟨by kernel_rfl, _, Tryz.underlying68, rfl, ⟨_, _, _, rfl⟩⟩
theorem tf69 : TFacts Tryz.prog 69 ⟨2, 16, true, [Value.int .u32 0, Value.int .i64 0], .st [(0, 24), (1, 3)]⟩ := ⟨by kernel_rfl, _, Tryz.underlying69, rfl, ⟨_, rfl, rfl, by decide⟩⟩
theorem tf70 : TFacts Tryz.prog 70 ⟨2, 16, true, [Value.int .u32 0, Value.int .i64 0], .st [(0, 24), (1, 3)]⟩ := ⟨by kernel_rfl, _, Tryz.underlying70, rfl, ⟨_, rfl, rfl, by decide⟩⟩
theorem tf71 : TFacts Tryz.prog 71 ⟨1, 8, false, [Value.nilFunc], .fu⟩ := ⟨by kernel_rfl, _, Tryz.underlying71, rfl, ⟨_, _, _, rfl⟩⟩
theorem tf72 : TFacts Tryz.prog 72 ⟨1, 8, false, [Value.nilFunc], .fu⟩ := ⟨by kernel_rfl, _, Tryz.underlying72, rfl, ⟨_, _, _, rfl⟩⟩
theorem tf73 : TFacts Tryz.prog 73 ⟨4, 32, true, [Value.int .i64 0, Value.int .i64 0, Value.int .i64 0, Value.int .i64 0], .ar 2 31⟩ := ⟨by kernel_rfl, _, Tryz.underlying73, rfl, rfl⟩
theorem tf74 : TFacts Tryz.prog 74 ⟨7, 56, true, [Value.int .i64 0, Value.int .i64 0, Value.int .i64 0, Value.int .i64 0, Value.int .i64 0, Value.int .i64 0, Value.bool false], .st [(0, 3), (1, 3), (2, 3), (3, 3), (4, 3), (5, 3), (6, 4)]⟩ := ⟨by kernel_rfl, _, Tryz.underlying74, rfl, ⟨_, rfl, rfl, by decide⟩⟩
theorem tf75 : TFacts Tryz.prog 75 ⟨7, 56, true, [Value.int .i64 0, Value.int .i64 0, Value.int .i64 0, Value.int .i64 0, Value.int .i64 0, Value.int .i64 0, Value.bool false], .st [(0, 3), (1, 3), (2, 3), (3, 3), (4, 3), (5, 3), (6, 4)]⟩ := ⟨by kernel_rfl, _, Tryz.underlying75, rfl, ⟨_, rfl, rfl, by decide⟩⟩
theorem tf76 : TFacts Tryz.prog 76 ⟨1, 8, false, [Value.nilFunc], .fu⟩ := ⟨by kernel_rfl, _, Tryz.underlying76, rfl, ⟨_, _, _, rfl⟩⟩
theorem tf78 : TFacts Tryz.prog 78 ⟨1, 8, false, [Value.nilFunc], .fu⟩ := ⟨by kernel_rfl, _, Tryz.underlying78, rfl, ⟨_, _, _, rfl⟩⟩
theorem tf79 : TFacts Tryz.prog 79 ⟨1, 8, false, [Value.map none], .mp 9 3⟩ := ⟨by kernel_rfl, _, Tryz.underlying79, rfl, rfl⟩
theorem tf80 : TFacts Tryz.prog 80 ⟨1, 8, false, [Value.map none], .mp 24 3⟩ := ⟨by kernel_rfl, _, Tryz.underlying80, rfl, rfl⟩
theorem tf81 : TFacts Tryz.prog 81 ⟨1, 24, false, [Value.slice none 0 0], .sl 215⟩ := ⟨by kernel_rfl, _, Tryz.underlying81, rfl, rfl⟩
theorem tf82 : TFacts Tryz.prog 82 ⟨3, 48, true, [Value.string ⟨#[]⟩, Value.int .u32 0, Value.slice none 0 0], .st [(0, 9), (1, 24), (2, 81)]⟩ := ⟨by kernel_rfl, _, Tryz.underlying82, rfl, ⟨_, rfl, rfl, by decide⟩⟩
theorem tf83 : TFacts Tryz.prog 83 ⟨3, 48, true, [Value.string ⟨#[]⟩, Value.int .u32 0, Value.slice none 0 0], .st [(0, 9), (1, 24), (2, 81)]⟩ := ⟨by kernel_rfl, _, Tryz.underlying83, rfl, ⟨_, rfl, rfl, by decide⟩⟩
theorem tf84 : TFacts Tryz.prog 84 ⟨1, 24, false, [Value.slice none 0 0], .sl 70⟩ := ⟨by kernel_rfl, _, Tryz.underlying84, rfl, rfl⟩
theorem tf85 : TFacts Tryz.prog 85 ⟨1, 24, false, [Value.slice none 0 0], .sl 96⟩ := ⟨by kernel_rfl, _, Tryz.underlying85, rfl, rfl⟩
theorem tf86 : TFacts Tryz.prog 86 ⟨6, 96, true, [Value.string ⟨#[]⟩, Value.int .u32 0, Value.int .u32 0, Value.slice none 0 0, Value.slice none 0 0, Value.slice none 0 0], .st [(0, 9), (1, 23), (2, 24), (3, 84), (4, 85), (5, 81)]⟩ := ⟨by kernel_rfl, _, Tryz.underlying86, rfl, ⟨_, rfl, rfl, by decide⟩⟩
theorem tf87 : TFacts Tryz.prog 87 ⟨6, 96, true, [Value.string ⟨#[]⟩, Value.int .u32 0, Value.int .u32 0, Value.slice none 0 0, Value.slice none 0 0, Value.slice none 0 0], .st [(0, 9), (1, 23), (2, 24), (3, 84), (4, 85), (5, 81)]⟩ := ⟨by kernel_rfl, _, Tryz.underlying87, rfl, ⟨_, rfl, rfl, by decide⟩⟩
theorem tf88 : TFacts Tryz.prog 88 ⟨1, 8, false, [Value.nilFunc], .fu⟩ := ⟨by kernel_rfl, _, Tryz.underlying88, rfl, ⟨_, _, _, rfl⟩⟩
theorem tf89 : TFacts Tryz.prog 89 ⟨1, 8, false, [Value.nilFunc], .fu⟩ := ⟨by kernel_rfl, _, Tryz.underlying89, rfl, ⟨_, _, _, rfl⟩⟩
theorem tf90 : TFacts Tryz.prog 90 ⟨1, 8, false, [Value.nilFunc], .fu⟩ := ⟨by kernel_rfl, _, Tryz.underlying90, rfl, ⟨_, _, _, rfl⟩⟩
theorem tf92 : TFacts Tryz.prog 92 ⟨1, 8, false, [Value.nilFunc], .fu⟩ := ⟨by kernel_rfl, _, Tryz.underlying92, rfl, ⟨_, _, _, rfl⟩⟩
theorem tf93 : TFacts Tryz.prog 93 ⟨1, 8, false, [Value.nilFunc], .fu⟩ := ⟨by kernel_rfl, _, Tryz.underlying93, rfl, ⟨_, _, _, rfl⟩⟩
theorem tf94 : TFacts Tryz.prog 94 ⟨1, 8, false, [Value.nilFunc], .fu⟩ := ⟨by kernel_rfl, _, Tryz.underlying94, rfl, ⟨_, _, _, rfl⟩⟩
theorem tf95 : TFacts Tryz.prog 95 ⟨6, 48, true, [Value.int .u32 0, Value.int .u32 0, Value.string ⟨#[]⟩, Value.string ⟨#[]⟩, Value.bool false, Value.bool false], .st [(0, 24), (1, 23), (2, 9), (3, 9), (4, 4), (5, 4)]⟩ := ⟨by kernel_rfl, _, Tryz.underlying95, rfl, ⟨_, rfl, rfl, by decide⟩⟩
theorem tf96 : TFacts Tryz.prog 96 ⟨6, 48, true, [Value.int .u32 0, Value.int .u32 0, Value.string ⟨#[]⟩, Value.string ⟨#[]⟩, Value.bool false, Value.bool false], .st [(0, 24), (1, 23), (2, 9), (3, 9), (4, 4), (5, 4)]⟩ := ⟨by kernel_rfl, _, Tryz.underlying96, rfl, ⟨_, rfl, rfl, by decide⟩⟩
theorem tf97 : TFacts Tryz.prog 97 ⟨1, 8, false, [Value.nilFunc], .fu⟩ := ⟨by kernel_rfl, _, Tryz.underlying97, rfl, ⟨_, _, _, rfl⟩⟩
theorem tf98 : TFacts Tryz.prog 98 ⟨1, 8, false, [Value.nilFunc], .fu⟩ := ⟨by kernel_rfl, _, Tryz.underlying98, rfl, ⟨_, _, _, rfl⟩⟩
theorem tf99 : TFacts Tryz.prog 99 ⟨2, 16, true, [Value.int .i64 0, Value.int .i64 0], .st [(0, 3), (1, 3)]⟩ := ⟨by kernel_rfl, _, Tryz.underlying99, rfl, ⟨_, rfl, rfl, by decide⟩⟩
theorem tf100 : TFacts Tryz.prog 100 ⟨2, 16, true, [Value.int .i64 0, Value.int .i64 0], .st [(0, 3), (1, 3)]⟩ := ⟨by kernel_rfl, _, Tryz.underlying100, rfl, ⟨_, rfl, rfl, by decide⟩⟩
theorem tf102 : TFacts Tryz.prog 102 ⟨1, 8, false, [Value.nilFunc], .fu⟩ := ⟨by kernel_rfl, _, Tryz.underlying102, rfl, ⟨_, _, _, rfl⟩⟩
theorem tf103 : TFacts Tryz.prog 103 ⟨1, 8, false, [Value.nilFunc], .fu⟩ := ⟨by kernel_rfl, _, Tryz.underlying103, rfl, ⟨_, _, _, rfl⟩⟩
theorem tf104 : TFacts Tryz.prog 104 ⟨1, 24, false, [Value.slice none 0 0], .sl 108⟩ := ⟨by kernel_rfl, _, Tryz.underlying104, rfl, rfl⟩
theorem tf105 : TFacts Tryz.prog 105 ⟨1, 8, false, [Value.nilFunc], .fu⟩ := ⟨by kernel_rfl, _, Tryz.underlying105, rfl, ⟨_, _, _, rfl⟩⟩
theorem tf106 : TFacts Tryz.prog 106 ⟨1, 8, false, [Value.nilFunc], .fu⟩ := ⟨by kernel_rfl, _, Tryz.underlying106, rfl, ⟨_, _, _, rfl⟩⟩
theorem tf107 : TFacts Tryz.prog 107 ⟨4, 40, true, [Value.string ⟨#[]⟩, Value.int .i64 0, Value.int .i64 0, Value.nilFunc], .st [(0, 9), (1, 3), (2, 3), (3, 106)]⟩ := ⟨by kernel_rfl, _, Tryz.underlying107, rfl, ⟨_, rfl, rfl, by decide⟩⟩
theorem tf108 : TFacts Tryz.prog 108 ⟨4, 40, true, [Value.string ⟨#[]⟩, Value.int .i64 0, Value.int .i64 0, Value.nilFunc], .st [(0, 9), (1, 3), (2, 3), (3, 106)]⟩ := ⟨by kernel_rfl, _, Tryz.underlying108, rfl, ⟨_, rfl, rfl, by decide⟩⟩
theorem tf109 : TFacts Tryz.prog 109 ⟨1, 8, false, [Value.nilFunc], .fu⟩ := ⟨by kernel_rfl, _, Tryz.underlying109, rfl, ⟨_, _, _, rfl⟩⟩
theorem tf110 : TFacts Tryz.prog 110 ⟨1, 8, false, [Value.nilFunc], .fu⟩ := ⟨by kernel_rfl, _, Tryz.underlying110, rfl, ⟨_, _, _, rfl⟩⟩
theorem tf111 : TFacts Tryz.prog 111 ⟨1, 8, false, [Value.nilFunc], .fu⟩ := ⟨by kernel_rfl, _, Tryz.underlying111, rfl, ⟨_, _, _, rfl⟩⟩
theorem tf112 : TFacts Tryz.prog 112 ⟨1, 8, false, [Value.nilFunc], .fu⟩ := ⟨by kernel_rfl, _, Tryz.underlying112, rfl, ⟨_, _, _, rfl⟩⟩
theorem tf113 : TFacts Tryz.prog 113 ⟨1, 8, false, [Value.nilFunc], .fu⟩ := ⟨by kernel_rfl, _, Tryz.underlying113, rfl, ⟨_, _, _, rfl⟩⟩
theorem tf114 : TFacts Tryz.prog 114 ⟨1, 24, false, [Value.slice none 0 0], .sl 191⟩ := ⟨by kernel_rfl, _, Tryz.underlying114, rfl, rfl⟩
theorem tf115 : TFacts Tryz.prog 115 ⟨2, 40, true, [Value.string ⟨#[]⟩, Value.slice none 0 0], .st [(0, 9), (1, 114)]⟩ := ⟨by kernel_rfl, _, Tryz.underlying115, rfl, ⟨_, rfl, rfl, by decide⟩⟩
theorem tf116 : TFacts Tryz.prog 116 ⟨2, 40, true, [Value.string ⟨#[]⟩, Value.slice none 0 0], .st [(0, 9), (1, 114)]⟩ := ⟨by kernel_rfl, _, Tryz.underlying116, rfl, ⟨_, rfl, rfl, by decide⟩⟩
theorem tf117 : TFacts Tryz.prog 117 ⟨1, 8, false, [Value.nilFunc], .fu⟩ := ⟨by kernel_rfl, _, Tryz.underlying117, rfl, ⟨_, _, _, rfl⟩⟩
theorem tf118 : TFacts Tryz.prog 118 ⟨1, 8, false, [Value.nilFunc], .fu⟩ := ⟨by kernel_rfl, _, Tryz.underlying118, rfl, ⟨_, _, _, rfl⟩⟩
theorem tf119 : TFacts Tryz.prog 119 ⟨1, 24, false, [Value.slice none 0 0], .sl 196⟩ := ⟨by kernel_rfl, _, Tryz.underlying119, rfl, rfl⟩
theorem tf120 : TFacts Tryz.prog 120 ⟨2, 40, true, [Value.string ⟨#[]⟩, Value.slice none 0 0], .st [(0, 9), (1, 119)]⟩ := ⟨by kernel_rfl, _, Tryz.underlying120, rfl, ⟨_, rfl, rfl, by decide⟩⟩
theorem tf121 : TFacts Tryz.prog 121 ⟨2, 40, true, [Value.string ⟨#[]⟩, Value.slice none 0 0], .st [(0, 9), (1, 119)]⟩ := ⟨by kernel_rfl, _, Tryz.underlying121, rfl, ⟨_, rfl, rfl, by decide⟩⟩
theorem tf122 : TFacts Tryz.prog 122 ⟨1, 8, false, [Value.nilFunc], .fu⟩ := ⟨by kernel_rfl, _, Tryz.underlying122, rfl, ⟨_, _, _, rfl⟩⟩
theorem tf123 : TFacts Tryz.prog 123 ⟨1, 8, false, [Value.nilFunc], .fu⟩ := ⟨by kernel_rfl, _, Tryz.underlying123, rfl, ⟨_, _, _, rfl⟩⟩
theorem tf124 : TFacts Tryz.prog 124 ⟨1, 24, false, [Value.slice none 0 0], .sl 202⟩ := ⟨by kernel_rfl, _, Tryz.underlying124, rfl, rfl⟩
theorem tf125 : TFacts Tryz.prog 125 ⟨2, 40, true, [Value.string ⟨#[]⟩, Value.slice none 0 0], .st [(0, 9), (1, 124)]⟩ := ⟨by kernel_rfl, _, Tryz.underlying125, rfl, ⟨_, rfl, rfl, by decide⟩⟩
theorem tf126 : TFacts Tryz.prog 126 ⟨2, 40, true, [Value.string ⟨#[]⟩, Value.slice none 0 0], .st [(0, 9), (1, 124)]⟩ := ⟨by kernel_rfl, _, Tryz.underlying126, rfl, ⟨_, rfl, rfl, by decide⟩⟩
theorem tf127 : TFacts Tryz.prog 127 ⟨1, 8, false, [Value.nilFunc], .fu⟩ := ⟨by kernel_rfl, _, Tryz.underlying127, rfl, ⟨_, _, _, rfl⟩⟩
theorem tf128 : TFacts Tryz.prog 128 ⟨1, 8, false, [Value.nilFunc], .fu⟩ := ⟨by kernel_rfl, _, Tryz.underlying128, rfl, ⟨_, _, _, rfl⟩⟩
theorem tf129 : TFacts Tryz.prog 129 ⟨1, 24, false, [Value.slice none 0 0], .sl 209⟩ := ⟨by kernel_rfl, _, Tryz.underlying129, rfl, rfl⟩
theorem tf130 : TFacts Tryz.prog 130 ⟨3, 48, true, [Value.string ⟨#[]⟩, Value.slice none 0 0, Value.bool false], .st [(0, 9), (1, 129), (2, 4)]⟩ := ⟨by kernel_rfl, _, Tryz.underlying130, rfl, ⟨_, rfl, rfl, by decide⟩⟩
theorem tf131 : TFacts Tryz.prog 131 ⟨3, 48, true, [Value.string ⟨#[]⟩, Value.slice none 0 0, Value.bool false], .st [(0, 9), (1, 129), (2, 4)]⟩ := ⟨by kernel_rfl, _, Tryz.underlying131, rfl, ⟨_, rfl, rfl, by decide⟩⟩
theorem tf132 : TFacts Tryz.prog 132 ⟨1, 8, false, [Value.nilFunc], .fu⟩ := ⟨by kernel_rfl, _, Tryz.underlying132, rfl, ⟨_, _, _, rfl⟩⟩
theorem tf133 : TFacts Tryz.prog 133 ⟨1, 8, false, [Value.nilFunc], .fu⟩ := ⟨by kernel_rfl, _, Tryz.underlying133, rfl, ⟨_, _, _, rfl⟩⟩
theorem tf134 : TFacts Tryz.prog 134 ⟨7, 56, true, [Value.string ⟨#[]⟩, Value.int .u32 0, Value.int .i64 0, Value.int .u32 0, Value.bool false, Value.int .i64 0, Value.int .i64 0], .st [(0, 9), (1, 70), (3, 24), (4, 4), (5, 3), (6, 3)]⟩ := ⟨by kernel_rfl, _, Tryz.underlying134, rfl, ⟨_, rfl, rfl, by decide⟩⟩
theorem tf135 : TFacts Tryz.prog 135 ⟨7, 56, true, [Value.string ⟨#[]⟩, Value.int .u32 0, Value.int .i64 0, Value.int .u32 0, Value.bool false, Value.int .i64 0, Value.int .i64 0], .st [(0, 9), (1, 70), (3, 24), (4, 4), (5, 3), (6, 3)]⟩ := ⟨by kernel_rfl, _, Tryz.underlying135, rfl, ⟨_, rfl, rfl, by decide⟩⟩
theorem tf136 : TFacts Tryz.prog 136 ⟨1, 8, false, [Value.nilFunc], .fu⟩ := ⟨by kernel_rfl, _, Tryz.underlying136, rfl, ⟨_, _, _, rfl⟩⟩
theorem tf137 : TFacts Tryz.prog 137 ⟨1, 8, false, [Value.nilFunc], .fu⟩ := ⟨by kernel_rfl, _, Tryz.underlying137, rfl, ⟨_, _, _, rfl⟩⟩
theorem tf138 : TFacts Tryz.prog 138 ⟨1, 8, false, [Value.nilFunc], .fu⟩ := ⟨by kernel_rfl, _, Tryz.underlying138, rfl, ⟨_, _, _, rfl⟩⟩
theorem tf139 : TFacts Tryz.prog 139 ⟨1, 8, false, [Value.nilFunc], .fu⟩ := ⟨by kernel_rfl, _, Tryz.underlying139, rfl, ⟨_, _, _, rfl⟩⟩
theorem tf140 : TFacts Tryz.prog 140 ⟨1, 8, false, [Value.nilFunc], .fu⟩ := ⟨by kernel_rfl, _, Tryz.underlying140, rfl, ⟨_, _, _, rfl⟩⟩
theorem tf141 : TFacts Tryz.prog 141 ⟨1, 8, false, [Value.nilFunc], .fu⟩ := ⟨by kernel_rfl, _, Tryz.underlying141, rfl, ⟨_, _, _, rfl⟩⟩
theorem tf142 : TFacts Tryz.prog 142 ⟨1, 24, false, [Value.slice none 0 0], .sl 151⟩ := ⟨by kernel_rfl, _, Tryz.underlying142, rfl, rfl⟩
theorem tf144 : TFacts Tryz.prog 144 ⟨1, 8, false, [Value.nilFunc], .fu⟩ := ⟨by kernel_rfl, _, Tryz.underlying144, rfl, ⟨_, _, _, rfl⟩⟩
theorem tf145 : TFacts Tryz.prog 145 ⟨1, 8, false, [Value.pointer none], .pt 147⟩ := ⟨by kernel_rfl, _, Tryz.underlying145, rfl, rfl⟩
theorem tf146 : TFacts Tryz.prog 146 ⟨18, 328, true, [Value.string ⟨#[]⟩, Value.int .u8 0, Value.slice none 0 0, Value.slice none 0 0, Value.slice none 0 0, Value.slice none 0 0, Value.slice none 0 0, Value.slice none 0 0, Value.slice none 0 0, Value.slice none 0 0, Value.slice none 0 0, Value.slice none 0 0, Value.string ⟨#[]⟩, Value.int .i64 0, Value.int .i64 0, Value.slice none 0 0, Value.bool false, Value.bool false], .st [(0, 58), (12, 9), (13, 3), (14, 3), (15, 47), (16, 4), (17, 4)]⟩ := ⟨by kernel_rfl, _, Tryz.underlying146, rfl, ⟨_, rfl, rfl, by decide⟩⟩
theorem tf147 : TFacts Tryz.prog 147 ⟨18, 328, true, [Value.string ⟨#[]⟩, Value.int .u8 0, Value.slice none 0 0, Value.slice none 0 0, Value.slice none 0 0, Value.slice none 0 0, Value.slice none 0 0, Value.slice none 0 0, Value.slice none 0 0, Value.slice none 0 0, Value.slice none 0 0, Value.slice none 0 0, Value.string ⟨#[]⟩, Value.int .i64 0, Value.int .i64 0, Value.slice none 0 0, Value.bool false, Value.bool false], .st [(0, 58), (12, 9), (13, 3), (14, 3), (15, 47), (16, 4), (17, 4)]⟩ := ⟨by kernel_rfl, _, Tryz.underlying147, rfl, ⟨_, rfl, rfl, by decide⟩⟩
theorem tf148 : TFacts Tryz.prog 148 ⟨1, 8, false, [Value.pointer none], .pt 153⟩ := ⟨by kernel_rfl, _, Tryz.underlying148, rfl, rfl⟩
theorem tf149 : TFacts Tryz.prog 149 ⟨1, 24, false, [Value.slice none 0 0], .sl 155⟩ := ⟨by kernel_rfl, _, Tryz.underlying149, rfl, rfl⟩
theorem tf150 : TFacts Tryz.prog 150 ⟨2, 32, true, [Value.int .i64 0, Value.slice none 0 0], .st [(0, 3), (1, 149)]⟩ := ⟨by kernel_rfl, _, Tryz.underlying150, rfl, ⟨_, rfl, rfl, by decide⟩⟩
theorem tf151 : TFacts Tryz.prog 151 ⟨2, 32, true, [Value.int .i64 0, Value.slice none 0 0], .st [(0, 3), (1, 149)]⟩ := ⟨by kernel_rfl, _, Tryz.underlying151, rfl, ⟨_, rfl, rfl, by decide⟩⟩
theorem tf152 : TFacts Tryz.prog 152 ⟨5, 56, true, [Value.slice none 0 0, Value.int .i64 0, Value.int .i64 0, Value.int .i64 0, Value.int .i64 0], .st [(0, 149), (1, 3), (2, 100), (4, 27)]⟩ := ⟨by kernel_rfl, _, Tryz.underlying152, rfl, ⟨_, rfl, rfl, by decide⟩⟩
theorem tf153 : TFacts Tryz.prog 153 ⟨5, 56, true, [Value.slice none 0 0, Value.int .i64 0, Value.int .i64 0, Value.int .i64 0, Value.int .i64 0], .st [(0, 149), (1, 3), (2, 100), (4, 27)]⟩ := ⟨by kernel_rfl, _, Tryz.underlying153, rfl, ⟨_, rfl, rfl, by decide⟩⟩
theorem tf154 : TFacts Tryz.prog 154 ⟨3, 32, true, [Value.string ⟨#[]⟩, Value.int .i64 0, Value.int .i64 0], .st [(0, 9), (1, 100)]⟩ := ⟨by kernel_rfl, _, Tryz.underlying154, rfl, ⟨_, rfl, rfl, by decide⟩⟩
theorem tf155 : TFacts Tryz.prog 155 ⟨3, 32, true, [Value.string ⟨#[]⟩, Value.int .i64 0, Value.int .i64 0], .st [(0, 9), (1, 100)]⟩ := ⟨by kernel_rfl, _, Tryz.underlying155, rfl, ⟨_, rfl, rfl, by decide⟩⟩
theorem tf156 : TFacts Tryz.prog 156 ⟨1, 8, false, [Value.nilFunc], .fu⟩ := ⟨by kernel_rfl, _, Tryz.underlying156, rfl, ⟨_, _, _, rfl⟩⟩
theorem tf157 : TFacts Tryz.prog 157 ⟨1, 8, false, [Value.nilFunc], .fu⟩ := ⟨by kernel_rfl, _, Tryz.underlying157, rfl, ⟨_, _, _, rfl⟩⟩
theorem tf158 : TFacts Tryz.prog 158 ⟨1, 8, false, [Value.nilFunc], .fu⟩ := ⟨by kernel_rfl, _, Tryz.underlying158, rfl, ⟨_, _, _, rfl⟩⟩
theorem tf159 : TFacts Tryz.prog 159 ⟨1, 8, false, [Value.nilFunc], .fu⟩ := ⟨by kernel_rfl, _, Tryz.underlying159, rfl, ⟨_, _, _, rfl⟩⟩
theorem tf160 : TFacts Tryz.prog 160 ⟨1, 24, false, [Value.slice none 0 0], .sl 5⟩ := ⟨by kernel_rfl, _, Tryz.underlying160, rfl, rfl⟩
theorem tf161 : TFacts Tryz.prog 161 ⟨1, 8, false, [Value.nilFunc], .fu⟩ := ⟨by kernel_rfl, _, Tryz.underlying161, rfl, ⟨_, _, _, rfl⟩⟩
theorem tf162 : TFacts Tryz.prog 162 ⟨5, 40, true, [Value.map none, Value.map none, Value.map none, Value.map none, Value.map none], .st [(0, 79), (1, 79), (2, 79), (3, 79), (4, 79)]⟩ := ⟨by kernel_rfl, _, Tryz.underlying162, rfl, ⟨_, rfl, rfl, by decide⟩⟩
theorem tf163 : TFacts Tryz.prog 163 ⟨5, 40, true, [Value.map none, Value.map none, Value.map none, Value.map none, Value.map none], .st [(0, 79), (1, 79), (2, 79), (3, 79), (4, 79)]⟩ := ⟨by kernel_rfl, _, Tryz.underlying163, rfl, ⟨_, rfl, rfl, by decide⟩⟩
theorem tf164 : TFacts Tryz.prog 164 ⟨1, 8, false, [Value.nilFunc], .fu⟩ := ⟨by kernel_rfl, _, Tryz.underlying164, rfl, ⟨_, _, _, rfl⟩⟩
theorem tf165 : TFacts Tryz.prog 165 ⟨1, 8, false, [Value.nilFunc], .fu⟩ := ⟨by kernel_rfl, _, Tryz.underlying165, rfl, ⟨_, _, _, rfl⟩⟩
theorem tf166 : TFacts Tryz.prog 166 ⟨1, 8, false, [Value.nilFunc], .fu⟩ := ⟨by kernel_rfl, _, Tryz.underlying166, rfl, ⟨_, _, _, rfl⟩⟩
theorem tf167 : TFacts Tryz.prog 167 ⟨1, 8, false, [Value.nilFunc], .fu⟩ := ⟨by kernel_rfl, _, Tryz.underlying167, rfl, ⟨_, _, _, rfl⟩⟩
theorem tf168 : TFacts Tryz.prog 168 ⟨1, 8, false, [Value.nilFunc], .fu⟩ := ⟨by kernel_rfl, _, Tryz.underlying168, rfl, ⟨_, _, _, rfl⟩⟩
theorem tf169 : TFacts Tryz.prog 169 ⟨1, 8, false, [Value.nilFunc], .fu⟩ := ⟨by kernel_rfl, _, Tryz.underlying169, rfl, ⟨_, _, _, rfl⟩⟩
theorem tf170 : TFacts Tryz.prog 170 ⟨1, 8, false, [Value.nilFunc], .fu⟩ := ⟨by kernel_rfl, _, Tryz.underlying170, rfl, ⟨_, _, _, rfl⟩⟩
theorem tf171 : TFacts Tryz.prog 171 ⟨3, 32, true, [Value.bool false, Value.string ⟨#[]⟩, Value.int .u32 0], .st [(0, 4), (1, 9), (2, 24)]⟩ := ⟨by kernel_rfl, _, Tryz.underlying171, rfl, ⟨_, rfl, rfl, by decide⟩⟩
theorem tf172 : TFacts Tryz.prog 172 ⟨3, 32, true, [Value.bool false, Value.string ⟨#[]⟩, Value.int .u32 0], .st [(0, 4), (1, 9), (2, 24)]⟩ := ⟨by kernel_rfl, _, Tryz.underlying172, rfl, ⟨_, rfl, rfl, by decide⟩⟩
theorem tf173 : TFacts Tryz.prog 173 ⟨1, 8, false, [Value.nilFunc], .fu⟩ := ⟨by kernel_rfl, _, Tryz.underlying173, rfl, ⟨_, _, _, rfl⟩⟩
theorem tf174 : TFacts Tryz.prog 174 ⟨1, 8, false, [Value.nilFunc], .fu⟩ := ⟨by kernel_rfl, _, Tryz.underlying174, rfl, ⟨_, _, _, rfl⟩⟩
theorem tf175 : TFacts Tryz.prog 175 ⟨1, 8, false, [Value.nilFunc], .fu⟩ := ⟨by kernel_rfl, _, Tryz.underlying175, rfl, ⟨_, _, _, rfl⟩⟩
theorem tf176 : TFacts Tryz.prog 176 ⟨1, 8, false, [Value.nilFunc], .fu⟩ := ⟨by kernel_rfl, _, Tryz.underlying176, rfl, ⟨_, _, _, rfl⟩⟩
theorem tf177 : TFacts Tryz.prog 177 ⟨1, 8, false, [Value.nilFunc], .fu⟩ := ⟨by kernel_rfl, _, Tryz.underlying177, rfl, ⟨_, _, _, rfl⟩⟩
theorem tf178 : TFacts Tryz.prog 178 ⟨1, 8, false, [Value.nilFunc], .fu⟩ := ⟨by kernel_rfl, _, Tryz.underlying178, rfl, ⟨_, _, _, rfl⟩⟩
theorem tf180 : TFacts Tryz.prog 180 ⟨1, 8, false, [Value.nilFunc], .fu⟩ := ⟨by kernel_rfl, _, Tryz.underlying180, rfl, ⟨_, _, _, rfl⟩⟩
theorem tf181 : TFacts Tryz.prog 181 ⟨1, 8, false, [Value.nilFunc], .fu⟩ := ⟨by kernel_rfl, _, Tryz.underlying181, rfl, ⟨_, _, _, rfl⟩⟩
theorem tf182 : TFacts Tryz.prog 182 ⟨1, 8, false, [Value.nilFunc], .fu⟩ := ⟨by kernel_rfl, _, Tryz.underlying182, rfl, ⟨_, _, _, rfl⟩⟩
theorem tf183 : TFacts Tryz.prog 183 ⟨1, 8, false, [Value.nilFunc], .fu⟩ := ⟨by kernel_rfl, _, Tryz.underlying183, rfl, ⟨_, _, _, rfl⟩⟩
theorem tf184 : TFacts Tryz.prog 184 ⟨1, 8, false, [Value.nilFunc], .fu⟩ := ⟨by kernel_rfl, _, Tryz.underlying184, rfl, ⟨_, _, _, rfl⟩⟩
theorem tf185 : TFacts Tryz.prog 185 ⟨1, 8, false, [Value.nilFunc], .fu⟩ := ⟨by kernel_rfl, _, Tryz.underlying185, rfl, ⟨_, _, _, rfl⟩⟩
theorem tf186 : TFacts Tryz.prog 186 ⟨1, 8, false, [Value.nilFunc], .fu⟩ := ⟨by kernel_rfl, _, Tryz.underlying186, rfl, ⟨_, _, _, rfl⟩⟩
theorem tf187 : TFacts Tryz.prog 187 ⟨1, 8, false, [Value.nilFunc], .fu⟩ := ⟨by kernel_rfl, _, Tryz.underlying187, rfl, ⟨_, _, _, rfl⟩⟩
theorem tf188 : TFacts Tryz.prog 188 ⟨2, 8, true, [Value.int .u32 0, Value.int .u32 0], .st [(0, 23), (1, 23)]⟩ := ⟨by kernel_rfl, _, Tryz.underlying188, rfl, ⟨_, rfl, rfl, by decide⟩⟩
theorem tf189 : TFacts Tryz.prog 189 ⟨2, 8, true, [Value.int .u32 0, Value.int .u32 0], .st [(0, 23), (1, 23)]⟩ := ⟨by kernel_rfl, _, Tryz.underlying189, rfl, ⟨_, rfl, rfl, by decide⟩⟩
theorem tf190 : TFacts Tryz.prog 190 ⟨10, 64, true, [Value.bool false, Value.int .i64 0, Value.int .u32 0, Value.int .i64 0, Value.int .u32 0, Value.int .i64 0, Value.int .u32 0, Value.int .u32 0, Value.int .u32 0, Value.int .u32 0], .st [(0, 4), (1, 3), (2, 70), (4, 70), (6, 189), (8, 189)]⟩ := ⟨by kernel_rfl, _, Tryz.underlying190, rfl, ⟨_, rfl, rfl, by decide⟩⟩
theorem tf191 : TFacts Tryz.prog 191 ⟨10, 64, true, [Value.bool false, Value.int .i64 0, Value.int .u32 0, Value.int .i64 0, Value.int .u32 0, Value.int .i64 0, Value.int .u32 0, Value.int .u32 0, Value.int .u32 0, Value.int .u32 0], .st [(0, 4), (1, 3), (2, 70), (4, 70), (6, 189), (8, 189)]⟩ := ⟨by kernel_rfl, _, Tryz.underlying191, rfl, ⟨_, rfl, rfl, by decide⟩⟩
theorem tf192 : TFacts Tryz.prog 192 ⟨1, 8, false, [Value.nilFunc], .fu⟩ := ⟨by kernel_rfl, _, Tryz.underlying192, rfl, ⟨_, _, _, rfl⟩⟩
theorem tf193 : TFacts Tryz.prog 193 ⟨1, 8, false, [Value.nilFunc], .fu⟩ := ⟨by kernel_rfl, _, Tryz.underlying193, rfl, ⟨_, _, _, rfl⟩⟩
theorem tf194 : TFacts Tryz.prog 194 ⟨1, 8, false, [Value.nilFunc], .fu⟩ := ⟨by kernel_rfl, _, Tryz.underlying194, rfl, ⟨_, _, _, rfl⟩⟩
theorem tf195 : TFacts Tryz.prog 195 ⟨5, 40, true, [Value.bool false, Value.int .u32 0, Value.int .i64 0, Value.int .i64 0, Value.int .i64 0], .st [(0, 4), (1, 70), (3, 3), (4, 3)]⟩ := ⟨by kernel_rfl, _, Tryz.underlying195, rfl, ⟨_, rfl, rfl, by decide⟩⟩
theorem tf196 : TFacts Tryz.prog 196 ⟨5, 40, true, [Value.bool false, Value.int .u32 0, Value.int .i64 0, Value.int .i64 0, Value.int .i64 0], .st [(0, 4), (1, 70), (3, 3), (4, 3)]⟩ := ⟨by kernel_rfl, _, Tryz.underlying196, rfl, ⟨_, rfl, rfl, by decide⟩⟩
theorem tf197 : TFacts Tryz.prog 197 ⟨1, 8, false, [Value.nilFunc], .fu⟩ := ⟨by kernel_rfl, _, Tryz.underlying197, rfl, ⟨_, _, _, rfl⟩⟩
theorem tf198 : TFacts Tryz.prog 198 ⟨1, 8, false, [Value.nilFunc], .fu⟩ := ⟨by kernel_rfl, _, Tryz.underlying198, rfl, ⟨_, _, _, rfl⟩⟩
theorem tf199 : TFacts Tryz.prog 199 ⟨1, 8, false, [Value.nilFunc], .fu⟩ := ⟨by kernel_rfl, _, Tryz.underlying199, rfl, ⟨_, _, _, rfl⟩⟩
theorem tf200 : TFacts Tryz.prog 200 ⟨1, 24, false, [Value.slice none 0 0], .sl 23⟩ := ⟨by kernel_rfl, _, Tryz.underlying200, rfl, rfl⟩
theorem tf201 : TFacts Tryz.prog 201 ⟨2, 32, true, [Value.bool false, Value.slice none 0 0], .st [(0, 4), (1, 200)]⟩ := ⟨by kernel_rfl, _, Tryz.underlying201, rfl, ⟨_, rfl, rfl, by decide⟩⟩
theorem tf202 : TFacts Tryz.prog 202 ⟨2, 32, true, [Value.bool false, Value.slice none 0 0], .st [(0, 4), (1, 200)]⟩ := ⟨by kernel_rfl, _, Tryz.underlying202, rfl, ⟨_, rfl, rfl, by decide⟩⟩
theorem tf203 : TFacts Tryz.prog 203 ⟨1, 8, false, [Value.nilFunc], .fu⟩ := ⟨by kernel_rfl, _, Tryz.underlying203, rfl, ⟨_, _, _, rfl⟩⟩
theorem tf204 : TFacts Tryz.prog 204 ⟨1, 8, false, [Value.nilFunc], .fu⟩ := ⟨by kernel_rfl, _, Tryz.underlying204, rfl, ⟨_, _, _, rfl⟩⟩
theorem tf205 : TFacts Tryz.prog 205 ⟨1, 8, false, [Value.nilFunc], .fu⟩ := ⟨by kernel_rfl, _, Tryz.underlying205, rfl, ⟨_, _, _, rfl⟩⟩
theorem tf206 : TFacts Tryz.prog 206 ⟨1, 8, false, [Value.nilFunc], .fu⟩ := ⟨by kernel_rfl, _, Tryz.underlying206, rfl, ⟨_, _, _, rfl⟩⟩
theorem tf207 : TFacts Tryz.prog 207 ⟨1, 8, false, [Value.nilFunc], .fu⟩ := ⟨by kernel_rfl, _, Tryz.underlying207, rfl, ⟨_, _, _, rfl⟩⟩
theorem tf208 : TFacts Tryz.prog 208 ⟨15, 168, true, [Value.int .i64 0, Value.int .u8 0, Value.string ⟨#[]⟩, Value.string ⟨#[]⟩, Value.int .i64 0, Value.int .i64 0, Value.int .i64 0, Value.int .i64 0, Value.int .i64 0, Value.int .i64 0, Value.slice none 0 0, Value.bool false, Value.slice none 0 0, Value.int .u32 0, Value.int .i64 0], .st [(0, 3), (1, 5), (2, 9), (3, 9), (4, 3), (5, 3), (6, 3), (7, 3), (8, 3), (9, 3), (10, 200), (11, 4), (12, 200), (13, 24), (14, 3)]⟩ := ⟨by kernel_rfl, _, Tryz.underlying208, rfl, ⟨_, rfl, rfl, by decide⟩⟩
theorem tf209 : TFacts Tryz.prog 209 ⟨15, 168, true, [Value.int .i64 0, Value.int .u8 0, Value.string ⟨#[]⟩, Value.string ⟨#[]⟩, Value.int .i64 0, Value.int .i64 0, Value.int .i64 0, Value.int .i64 0, Value.int .i64 0, Value.int .i64 0, Value.slice none 0 0, Value.bool false, Value.slice none 0 0, Value.int .u32 0, Value.int .i64 0], .st [(0, 3), (1, 5), (2, 9), (3, 9), (4, 3), (5, 3), (6, 3), (7, 3), (8, 3), (9, 3), (10, 200), (11, 4), (12, 200), (13, 24), (14, 3)]⟩ := ⟨by kernel_rfl, _, Tryz.underlying209, rfl, ⟨_, rfl, rfl, by decide⟩⟩
theorem tf210 : TFacts Tryz.prog 210 ⟨1, 8, false, [Value.nilFunc], .fu⟩ := ⟨by kernel_rfl, _, Tryz.underlying210, rfl, ⟨_, _, _, rfl⟩⟩
theorem tf211 : TFacts Tryz.prog 211 ⟨1, 8, false, [Value.nilFunc], .fu⟩ := ⟨by kernel_rfl, _, Tryz.underlying211, rfl, ⟨_, _, _, rfl⟩⟩
theorem tf212 : TFacts Tryz.prog 212 ⟨1, 8, false, [Value.nilFunc], .fu⟩ := ⟨by kernel_rfl, _, Tryz.underlying212, rfl, ⟨_, _, _, rfl⟩⟩
theorem tf213 : TFacts Tryz.prog 213 ⟨1, 8, false, [Value.nilFunc], .fu⟩ := ⟨by kernel_rfl, _, Tryz.underlying213, rfl, ⟨_, _, _, rfl⟩⟩
theorem tf214 : TFacts Tryz.prog 214 ⟨4, 40, true, [Value.int .u8 0, Value.int .i64 0, Value.int .u8 0, Value.string ⟨#[]⟩], .st [(0, 5), (1, 3), (2, 5), (3, 9)]⟩ := ⟨by kernel_rfl, _, Tryz.underlying214, rfl, ⟨_, rfl, rfl, by decide⟩⟩
theorem tf215 : TFacts Tryz.prog 215 ⟨4, 40, true, [Value.int .u8 0, Value.int .i64 0, Value.int .u8 0, Value.string ⟨#[]⟩], .st [(0, 5), (1, 3), (2, 5), (3, 9)]⟩ := ⟨by kernel_rfl, _, Tryz.underlying215, rfl, ⟨_, rfl, rfl, by decide⟩⟩
theorem tf216 : TFacts Tryz.prog 216 ⟨1, 8, false, [Value.nilFunc], .fu⟩ := ⟨by kernel_rfl, _, Tryz.underlying216, rfl, ⟨_, _, _, rfl⟩⟩
theorem tf217 : TFacts Tryz.prog 217 ⟨1, 8, false, [Value.nilFunc], .fu⟩ := ⟨by kernel_rfl, _, Tryz.underlying217, rfl, ⟨_, _, _, rfl⟩⟩
theorem tf218 : TFacts Tryz.prog 218 ⟨1, 8, false, [Value.nilFunc], .fu⟩ := ⟨by kernel_rfl, _, Tryz.underlying218, rfl, ⟨_, _, _, rfl⟩⟩
theorem tf219 : TFacts Tryz.prog 219 ⟨1, 8, false, [Value.nilFunc], .fu⟩ := ⟨by kernel_rfl, _, Tryz.underlying219, rfl, ⟨_, _, _, rfl⟩⟩
theorem tf220 : TFacts Tryz.prog 220 ⟨1, 8, false, [Value.nilFunc], .fu⟩ := ⟨by kernel_rfl, _, Tryz.underlying220, rfl, ⟨_, _, _, rfl⟩⟩
theorem tf221 : TFacts Tryz.prog 221 ⟨1, 8, false, [Value.nilFunc], .fu⟩ := ⟨by kernel_rfl, _, Tryz.underlying221, rfl, ⟨_, _, _, rfl⟩⟩
theorem tf222 : TFacts Tryz.prog 222 ⟨1, 8, false, [Value.nilFunc], .fu⟩ := ⟨by kernel_rfl, _, Tryz.underlying222, rfl, ⟨_, _, _, rfl⟩⟩
theorem tf223 : TFacts Tryz.prog 223 ⟨1, 8, false, [Value.int .u64 0], .it .u64⟩ := ⟨by kernel_rfl, _, Tryz.underlying223, rfl, rfl⟩
theorem tf224 : TFacts Tryz.prog 224 ⟨1, 8, false, [Value.nilFunc], .fu⟩ := ⟨by kernel_rfl, _, Tryz.underlying224, rfl, ⟨_, _, _, rfl⟩⟩
theorem tf225 : TFacts Tryz.prog 225 ⟨1, 8, false, [Value.nilFunc], .fu⟩ := ⟨by kernel_rfl, _, Tryz.underlying225, rfl, ⟨_, _, _, rfl⟩⟩
theorem tf226 : TFacts Tryz.prog 226 ⟨1, 8, false, [Value.nilFunc], .fu⟩ := ⟨by kernel_rfl, _, Tryz.underlying226, rfl, ⟨_, _, _, rfl⟩⟩
theorem tf227 : TFacts Tryz.prog 227 ⟨1, 8, false, [Value.nilFunc], .fu⟩ := ⟨by kernel_rfl, _, Tryz.underlying227, rfl, ⟨_, _, _, rfl⟩⟩
theorem tf228 : TFacts Tryz.prog 228 ⟨1, 8, false, [Value.nilFunc], .fu⟩ := ⟨by kernel_rfl, _, Tryz.underlying228, rfl, ⟨_, _, _, rfl⟩⟩
theorem tf229 : TFacts Tryz.prog 229 ⟨1, 8, false, [Value.nilFunc], .fu⟩ := ⟨by kernel_rfl, _, Tryz.underlying229, rfl, ⟨_, _, _, rfl⟩⟩
theorem tf230 : TFacts Tryz.prog 230 ⟨1, 8, false, [Value.nilFunc], .fu⟩ := ⟨by kernel_rfl, _, Tryz.underlying230, rfl, ⟨_, _, _, rfl⟩⟩
theorem tf231 : TFacts Tryz.prog 231 ⟨1, 8, false, [Value.nilFunc], .fu⟩ := ⟨by kernel_rfl, _, Tryz.underlying231, rfl, ⟨_, _, _, rfl⟩⟩
theorem tf232 : TFacts Tryz.prog 232 ⟨1, 8, false, [Value.nilFunc], .fu⟩ := ⟨by kernel_rfl, _, Tryz.underlying232, rfl, ⟨_, _, _, rfl⟩⟩
theorem tf233 : TFacts Tryz.prog 233 ⟨1, 8, false, [Value.nilFunc], .fu⟩ := ⟨by kernel_rfl, _, Tryz.underlying233, rfl, ⟨_, _, _, rfl⟩⟩
theorem tf234 : TFacts Tryz.prog 234 ⟨1, 8, false, [Value.nilFunc], .fu⟩ := ⟨by kernel_rfl, _, Tryz.underlying234, rfl, ⟨_, _, _, rfl⟩⟩
theorem tf235 : TFacts Tryz.prog 235 ⟨1, 8, false, [Value.nilFunc], .fu⟩ := ⟨by kernel_rfl, _, Tryz.underlying235, rfl, ⟨_, _, _, rfl⟩⟩
theorem tf236 : TFacts Tryz.prog 236 ⟨1, 8, false, [Value.nilFunc], .fu⟩ := ⟨by kernel_rfl, _, Tryz.underlying236, rfl, ⟨_, _, _, rfl⟩⟩
theorem tf237 : TFacts Tryz.prog 237 ⟨1, 8, false, [Value.nilFunc], .fu⟩ := ⟨by kernel_rfl, _, Tryz.underlying237, rfl, ⟨_, _, _, rfl⟩⟩
theorem tf238 : TFacts Tryz.prog 238 ⟨1, 8, false, [Value.nilFunc], .fu⟩ := ⟨by kernel_rfl, _, Tryz.underlying238, rfl, ⟨_, _, _, rfl⟩⟩
theorem tf239 : TFacts Tryz.prog 239 ⟨1, 8, false, [Value.nilFunc], .fu⟩ := ⟨by kernel_rfl, _, Tryz.underlying239, rfl, ⟨_, _, _, rfl⟩⟩
theorem tf240 : TFacts Tryz.prog 240 ⟨1, 8, false, [Value.int .u64 0], .it .u64⟩ := ⟨by kernel_rfl, _, Tryz.underlying240, rfl, rfl⟩
theorem tf242 : TFacts Tryz.prog 242 ⟨1, 8, false, [Value.nilFunc], .fu⟩ := ⟨by kernel_rfl, _, Tryz.underlying242, rfl, ⟨_, _, _, rfl⟩⟩
theorem tf243 : TFacts Tryz.prog 243 ⟨1, 8, false, [Value.nilFunc], .fu⟩ := ⟨by kernel_rfl, _, Tryz.underlying243, rfl, ⟨_, _, _, rfl⟩⟩
theorem tf244 : TFacts Tryz.prog 244 ⟨1, 8, false, [Value.nilFunc], .fu⟩ := ⟨by kernel_rfl, _, Tryz.underlying244, rfl, ⟨_, _, _, rfl⟩⟩
theorem tf245 : TFacts Tryz.prog 245 ⟨1, 8, false, [Value.nilFunc], .fu⟩ := ⟨by kernel_rfl, _, Tryz.underlying245, rfl, ⟨_, _, _, rfl⟩⟩
theorem tf246 : TFacts Tryz.prog 246 ⟨1, 8, false, [Value.nilFunc], .fu⟩ := ⟨by kernel_rfl, _, Tryz.underlying246, rfl, ⟨_, _, _, rfl⟩⟩
theorem tf247 : TFacts Tryz.prog 247 ⟨1, 8, false, [Value.nilFunc], .fu⟩ := ⟨by kernel_rfl, _, Tryz.underlying247, rfl, ⟨_, _, _, rfl⟩⟩
theorem tf248 : TFacts Tryz.prog 248 ⟨1, 8, false, [Value.nilFunc], .fu⟩ := ⟨by kernel_rfl, _, Tryz.underlying248, rfl, ⟨_, _, _, rfl⟩⟩
theorem tf249 : TFacts Tryz.prog 249 ⟨1, 8, false, [Value.pointer none], .pt 26⟩ := ⟨by kernel_rfl, _, Tryz.underlying249, rfl, rfl⟩
theorem tf250 : TFacts Tryz.prog 250 ⟨1, 8, false, [Value.nilFunc], .fu⟩ := ⟨by kernel_rfl, _, Tryz.underlying250, rfl, ⟨_, _, _, rfl⟩⟩
theorem tf251 : TFacts Tryz.prog 251 ⟨1, 8, false, [Value.pointer none], .pt 116⟩ := ⟨by kernel_rfl, _, Tryz.underlying251, rfl, rfl⟩
theorem tf252 : TFacts Tryz.prog 252 ⟨1, 8, false, [Value.nilFunc], .fu⟩ := ⟨by kernel_rfl, _, Tryz.underlying252, rfl, ⟨_, _, _, rfl⟩⟩
theorem tf253 : TFacts Tryz.prog 253 ⟨1, 8, false, [Value.pointer none], .pt 209⟩ := ⟨by kernel_rfl, _, Tryz.underlying253, rfl, rfl⟩
theorem tf254 : TFacts Tryz.prog 254 ⟨1, 8, false, [Value.pointer none], .pt 83⟩ := ⟨by kernel_rfl, _, Tryz.underlying254, rfl, rfl⟩
theorem tf255 : TFacts Tryz.prog 255 ⟨1, 8, false, [Value.nilFunc], .fu⟩ := ⟨by kernel_rfl, _, Tryz.underlying255, rfl, ⟨_, _, _, rfl⟩⟩
theorem tf256 : TFacts Tryz.prog 256 ⟨1, 8, false, [Value.nilFunc], .fu⟩ := ⟨by kernel_rfl, _, Tryz.underlying256, rfl, ⟨_, _, _, rfl⟩⟩
theorem tf257 : TFacts Tryz.prog 257 ⟨1, 8, false, [Value.nilFunc], .fu⟩ := ⟨by kernel_rfl, _, Tryz.underlying257, rfl, ⟨_, _, _, rfl⟩⟩
theorem tf258 : TFacts Tryz.prog 258 ⟨1, 8, false, [Value.pointer none], .pt 87⟩ := ⟨by kernel_rfl, _, Tryz.underlying258, rfl, rfl⟩
theorem tf259 : TFacts Tryz.prog 259 ⟨1, 8, false, [Value.nilFunc], .fu⟩ := ⟨by kernel_rfl, _, Tryz.underlying259, rfl, ⟨_, _, _, rfl⟩⟩
theorem tf260 : TFacts Tryz.prog 260 ⟨1, 8, false, [Value.nilFunc], .fu⟩ := ⟨by kernel_rfl, _, Tryz.underlying260, rfl, ⟨_, _, _, rfl⟩⟩
theorem tf261 : TFacts Tryz.prog 261 ⟨1, 8, false, [Value.nilFunc], .fu⟩ := ⟨by kernel_rfl, _, Tryz.underlying261, rfl, ⟨_, _, _, rfl⟩⟩
theorem tf262 : TFacts Tryz.prog 262 ⟨1, 8, false, [Value.nilFunc], .fu⟩ := ⟨by kernel_rfl, _, Tryz.underlying262, rfl, ⟨_, _, _, rfl⟩⟩
theorem tf263 : TFacts Tryz.prog 263 ⟨1, 8, false, [Value.nilFunc], .fu⟩ := ⟨by kernel_rfl, _, Tryz.underlying263, rfl, ⟨_, _, _, rfl⟩⟩
theorem tf264 : TFacts Tryz.prog 264 ⟨1, 8, false, [Value.nilFunc], .fu⟩ := ⟨by kernel_rfl, _, Tryz.underlying264, rfl, ⟨_, _, _, rfl⟩⟩
theorem tf265 : TFacts Tryz.prog 265 ⟨1, 8, false, [Value.nilFunc], .fu⟩ := ⟨by kernel_rfl, _, Tryz.underlying265, rfl, ⟨_, _, _, rfl⟩⟩
theorem tf266 : TFacts Tryz.prog 266 ⟨1, 8, false, [Value.nilFunc], .fu⟩ := ⟨by kernel_rfl, _, Tryz.underlying266, rfl, ⟨_, _, _, rfl⟩⟩
theorem tf267 : TFacts Tryz.prog 267 ⟨1, 8, false, [Value.nilFunc], .fu⟩ := ⟨by kernel_rfl, _, Tryz.underlying267, rfl, ⟨_, _, _, rfl⟩⟩
theorem tf268 : TFacts Tryz.prog 268 ⟨1, 8, false, [Value.nilFunc], .fu⟩ := ⟨by kernel_rfl, _, Tryz.underlying268, rfl, ⟨_, _, _, rfl⟩⟩
theorem tf269 : TFacts Tryz.prog 269 ⟨1, 8, false, [Value.nilFunc], .fu⟩ := ⟨by kernel_rfl, _, Tryz.underlying269, rfl, ⟨_, _, _, rfl⟩⟩
theorem tf270 : TFacts Tryz.prog 270 ⟨1, 8, false, [Value.nilFunc], .fu⟩ := ⟨by kernel_rfl, _, Tryz.underlying270, rfl, ⟨_, _, _, rfl⟩⟩
theorem tf271 : TFacts Tryz.prog 271 ⟨1, 8, false, [Value.nilFunc], .fu⟩ := ⟨by kernel_rfl, _, Tryz.underlying271, rfl, ⟨_, _, _, rfl⟩⟩
theorem tf272 : TFacts Tryz.prog 272 ⟨1, 8, false, [Value.nilFunc], .fu⟩ := ⟨by kernel_rfl, _, Tryz.underlying272, rfl, ⟨_, _, _, rfl⟩⟩
theorem tf273 : TFacts Tryz.prog 273 ⟨1, 8, false, [Value.nilFunc], .fu⟩ := ⟨by kernel_rfl, _, Tryz.underlying273, rfl, ⟨_, _, _, rfl⟩⟩
theorem tf274 : TFacts Tryz.prog 274 ⟨1, 8, false, [Value.nilFunc], .fu⟩ := ⟨by kernel_rfl, _, Tryz.underlying274, rfl, ⟨_, _, _, rfl⟩⟩
theorem tf275 : TFacts Tryz.prog 275 ⟨1, 8, false, [Value.nilFunc], .fu⟩ := ⟨by kernel_rfl, _, Tryz.underlying275, rfl, ⟨_, _, _, rfl⟩⟩
theorem tf276 : TFacts Tryz.prog 276 ⟨1, 8, false, [Value.nilFunc], .fu⟩ := ⟨by kernel_rfl, _, Tryz.underlying276, rfl, ⟨_, _, _, rfl⟩⟩
theorem tf277 : TFacts Tryz.prog 277 ⟨1, 8, false, [Value.nilFunc], .fu⟩ := ⟨by kernel_rfl, _, Tryz.underlying277, rfl, ⟨_, _, _, rfl⟩⟩
theorem tf278 : TFacts Tryz.prog 278 ⟨1, 8, false, [Value.nilFunc], .fu⟩ := ⟨by kernel_rfl, _, Tryz.underlying278, rfl, ⟨_, _, _, rfl⟩⟩
theorem tf279 : TFacts Tryz.prog 279 ⟨1, 8, false, [Value.nilFunc], .fu⟩ := ⟨by kernel_rfl, _, Tryz.underlying279, rfl, ⟨_, _, _, rfl⟩⟩
theorem tf280 : TFacts Tryz.prog 280 ⟨1, 24, false, [Value.slice none 0 0], .sl 3⟩ := ⟨by kernel_rfl, _, Tryz.underlying280, rfl, rfl⟩
theorem tf281 : TFacts Tryz.prog 281 ⟨1, 8, false, [Value.nilFunc], .fu⟩ := ⟨by kernel_rfl, _, Tryz.underlying281, rfl, ⟨_, _, _, rfl⟩⟩
theorem tf282 : TFacts Tryz.prog 282 ⟨1, 8, false, [Value.nilFunc], .fu⟩ := ⟨by kernel_rfl, _, Tryz.underlying282, rfl, ⟨_, _, _, rfl⟩⟩
theorem tf283 : TFacts Tryz.prog 283 ⟨1, 8, false, [Value.nilFunc], .fu⟩ := ⟨by kernel_rfl, _, Tryz.underlying283, rfl, ⟨_, _, _, rfl⟩⟩
theorem tf284 : TFacts Tryz.prog 284 ⟨1, 8, false, [Value.nilFunc], .fu⟩ := ⟨by kernel_rfl, _, Tryz.underlying284, rfl, ⟨_, _, _, rfl⟩⟩
theorem tf285 : TFacts Tryz.prog 285 ⟨1, 8, false, [Value.nilFunc], .fu⟩ := ⟨by kernel_rfl, _, Tryz.underlying285, rfl, ⟨_, _, _, rfl⟩⟩
theorem tf286 : TFacts Tryz.prog 286 ⟨1, 8, false, [Value.nilFunc], .fu⟩ := ⟨by kernel_rfl, _, Tryz.underlying286, rfl, ⟨_, _, _, rfl⟩⟩
theorem tf287 : TFacts Tryz.prog 287 ⟨1, 8, false, [Value.nilFunc], .fu⟩ := ⟨by kernel_rfl, _, Tryz.underlying287, rfl, ⟨_, _, _, rfl⟩⟩
theorem tf288 : TFacts Tryz.prog 288 ⟨1, 8, false, [Value.nilFunc], .fu⟩ := ⟨by kernel_rfl, _, Tryz.underlying288, rfl, ⟨_, _, _, rfl⟩⟩
theorem tf289 : TFacts Tryz.prog 289 ⟨1, 8, false, [Value.nilFunc], .fu⟩ := ⟨by kernel_rfl, _, Tryz.underlying289, rfl, ⟨_, _, _, rfl⟩⟩
theorem tf290 : TFacts Tryz.prog 290 ⟨1, 8, false, [Value.nilFunc], .fu⟩ := ⟨by kernel_rfl, _, Tryz.underlying290, rfl, ⟨_, _, _, rfl⟩⟩
theorem tf291 : TFacts Tryz.prog 291 ⟨1, 8, false, [Value.nilFunc], .fu⟩ := ⟨by kernel_rfl, _, Tryz.underlying291, rfl, ⟨_, _, _, rfl⟩⟩
theorem tf292 : TFacts Tryz.prog 292 ⟨1, 8, false, [Value.int .i64 0], .it .i64⟩ := ⟨by kernel_rfl, _, Tryz.underlying292, rfl, rfl⟩
theorem tf294 : TFacts Tryz.prog 294 ⟨1, 8, false, [Value.nilFunc], .fu⟩ := ⟨by kernel_rfl, _, Tryz.underlying294, rfl, ⟨_, _, _, rfl⟩⟩
theorem tf295 : TFacts Tryz.prog 295 ⟨1, 8, false, [Value.nilFunc], .fu⟩ := ⟨by kernel_rfl, _, Tryz.underlying295, rfl, ⟨_, _, _, rfl⟩⟩
theorem tf296 : TFacts Tryz.prog 296 ⟨1, 8, false, [Value.nilFunc], .fu⟩ := ⟨by kernel_rfl, _, Tryz.underlying296, rfl, ⟨_, _, _, rfl⟩⟩
theorem tf298 : TFacts Tryz.prog 298 ⟨1, 8, false, [Value.nilFunc], .fu⟩ := ⟨by kernel_rfl, _, Tryz.underlying298, rfl, ⟨_, _, _, rfl⟩⟩
theorem tf299 : TFacts Tryz.prog 299 ⟨1, 8, false, [Value.nilFunc], .fu⟩ := ⟨by kernel_rfl, _, Tryz.underlying299, rfl, ⟨_, _, _, rfl⟩⟩
theorem tf300 : TFacts Tryz.prog 300 ⟨1, 8, false, [Value.nilFunc], .fu⟩ := ⟨by kernel_rfl, _, Tryz.underlying300, rfl, ⟨_, _, _, rfl⟩⟩
theorem tf301 : TFacts Tryz.prog 301 ⟨1, 8, false, [Value.nilFunc], .fu⟩ := ⟨by kernel_rfl, _, Tryz.underlying301, rfl, ⟨_, _, _, rfl⟩⟩
theorem tf302 : TFacts Tryz.prog 302 ⟨1, 8, false, [Value.nilFunc], .fu⟩ := ⟨by kernel_rfl, _, Tryz.underlying302, rfl, ⟨_, _, _, rfl⟩⟩
theorem tf303 : TFacts Tryz.prog 303 ⟨1, 8, false, [Value.nilFunc], .fu⟩ := ⟨by kernel_rfl, _, Tryz.underlying303, rfl, ⟨_, _, _, rfl⟩⟩
theorem tf304 : TFacts Tryz.prog 304 ⟨1, 8, false, [Value.nilFunc], .fu⟩ := ⟨by kernel_rfl, _, Tryz.underlying304, rfl, ⟨_, _, _, rfl⟩⟩
theorem tf305 : TFacts Tryz.prog 305 ⟨1, 8, false, [Value.nilFunc], .fu⟩ := ⟨by kernel_rfl, _, Tryz.underlying305, rfl, ⟨_, _, _, rfl⟩⟩
theorem tf306 : TFacts Tryz.prog 306 ⟨1, 8, false, [Value.nilFunc], .fu⟩ := ⟨by kernel_rfl, _, Tryz.underlying306, rfl, ⟨_, _, _, rfl⟩⟩
theorem tf307 : TFacts Tryz.prog 307 ⟨1, 8, false, [Value.nilFunc], .fu⟩ := ⟨by kernel_rfl, _, Tryz.underlying307, rfl, ⟨_, _, _, rfl⟩⟩
theorem tf308 : TFacts Tryz.prog 308 ⟨1, 8, false, [Value.nilFunc], .fu⟩ := ⟨by kernel_rfl, _, Tryz.underlying308, rfl, ⟨_, _, _, rfl⟩⟩
theorem tf309 : TFacts Tryz.prog 309 ⟨1, 8, false, [Value.nilFunc], .fu⟩ := ⟨by kernel_rfl, _, Tryz.underlying309, rfl, ⟨_, _, _, rfl⟩⟩
theorem tf310 : TFacts Tryz.prog 310 ⟨1, 8, false, [Value.nilFunc], .fu⟩ := ⟨by kernel_rfl, _, Tryz.underlying310, rfl, ⟨_, _, _, rfl⟩⟩
theorem tf311 : TFacts Tryz.prog 311 ⟨1, 8, false, [Value.nilFunc], .fu⟩ := ⟨by kernel_rfl, _, Tryz.underlying311, rfl, ⟨_, _, _, rfl⟩⟩
theorem tf312 : TFacts Tryz.prog 312 ⟨1, 8, false, [Value.nilFunc], .fu⟩ := ⟨by kernel_rfl, _, Tryz.underlying312, rfl, ⟨_, _, _, rfl⟩⟩
theorem tf313 : TFacts Tryz.prog 313 ⟨1, 8, false, [Value.nilFunc], .fu⟩ := ⟨by kernel_rfl, _, Tryz.underlying313, rfl, ⟨_, _, _, rfl⟩⟩
theorem tf314 : TFacts Tryz.prog 314 ⟨1, 8, false, [Value.nilFunc], .fu⟩ := ⟨by kernel_rfl, _, Tryz.underlying314, rfl, ⟨_, _, _, rfl⟩⟩
theorem tf315 : TFacts Tryz.prog 315 ⟨1, 8, false, [Value.nilFunc], .fu⟩ := ⟨by kernel_rfl, _, Tryz.underlying315, rfl, ⟨_, _, _, rfl⟩⟩
theorem tf316 : TFacts Tryz.prog 316 ⟨1, 8, false, [Value.nilFunc], .fu⟩ := ⟨by kernel_rfl, _, Tryz.underlying316, rfl, ⟨_, _, _, rfl⟩⟩
theorem tf317 : TFacts Tryz.prog 317 ⟨1, 8, false, [Value.nilFunc], .fu⟩ := ⟨by kernel_rfl, _, Tryz.underlying317, rfl, ⟨_, _, _, rfl⟩⟩
theorem tf318 : TFacts Tryz.prog 318 ⟨1, 8, false, [Value.nilFunc], .fu⟩ := ⟨by kernel_rfl, _, Tryz.underlying318, rfl, ⟨_, _, _, rfl⟩⟩
theorem tf320 : TFacts Tryz.prog 320 ⟨1, 8, false, [Value.nilFunc], .fu⟩ := ⟨by kernel_rfl, _, Tryz.underlying320, rfl, ⟨_, _, _, rfl⟩⟩
theorem tf321 : TFacts Tryz.prog 321 ⟨1, 8, false, [Value.nilFunc], .fu⟩ := ⟨by kernel_rfl, _, Tryz.underlying321, rfl, ⟨_, _, _, rfl⟩⟩
theorem tf322 : TFacts Tryz.prog 322 ⟨1, 8, false, [Value.nilFunc], .fu⟩ := ⟨by kernel_rfl, _, Tryz.underlying322, rfl, ⟨_, _, _, rfl⟩⟩
theorem tf323 : TFacts Tryz.prog 323 ⟨1, 8, false, [Value.nilFunc], .fu⟩ := ⟨by kernel_rfl, _, Tryz.underlying323, rfl, ⟨_, _, _, rfl⟩⟩
theorem tf324 : TFacts Tryz.prog 324 ⟨1, 8, false, [Value.nilFunc], .fu⟩ := ⟨by kernel_rfl, _, Tryz.underlying324, rfl, ⟨_, _, _, rfl⟩⟩
theorem tf325 : TFacts Tryz.prog 325 ⟨1, 8, false, [Value.nilFunc], .fu⟩ := ⟨by kernel_rfl, _, Tryz.underlying325, rfl, ⟨_, _, _, rfl⟩⟩
theorem tf326 : TFacts Tryz.prog 326 ⟨1, 8, false, [Value.nilFunc], .fu⟩ := ⟨by kernel_rfl, _, Tryz.underlying326, rfl, ⟨_, _, _, rfl⟩⟩
theorem tf327 : TFacts Tryz.prog 327 ⟨1, 8, false, [Value.nilFunc], .fu⟩ := ⟨by kernel_rfl, _, Tryz.underlying327, rfl, ⟨_, _, _, rfl⟩⟩
theorem tf328 : TFacts Tryz.prog 328 ⟨1, 8, false, [Value.nilFunc], .fu⟩ := ⟨by kernel_rfl, _, Tryz.underlying328, rfl, ⟨_, _, _, rfl⟩⟩
theorem tf329 : TFacts Tryz.prog 329 ⟨1, 8, false, [Value.nilFunc], .fu⟩ := ⟨by kernel_rfl, _, Tryz.underlying329, rfl, ⟨_, _, _, rfl⟩⟩
theorem tf330 : TFacts Tryz.prog 330 ⟨1, 8, false, [Value.nilFunc], .fu⟩ := ⟨by kernel_rfl, _, Tryz.underlying330, rfl, ⟨_, _, _, rfl⟩⟩
theorem tf331 : TFacts Tryz.prog 331 ⟨1, 8, false, [Value.nilFunc], .fu⟩ := ⟨by kernel_rfl, _, Tryz.underlying331, rfl, ⟨_, _, _, rfl⟩⟩
theorem tf332 : TFacts Tryz.prog 332 ⟨24, 24, true, [Value.int .u8 0, Value.int .u8 0, Value.int .u8 0, Value.int .u8 0, Value.int .u8 0, Value.int .u8 0, Value.int .u8 0, Value.int .u8 0, Value.int .u8 0, Value.int .u8 0, Value.int .u8 0, Value.int .u8 0, Value.int .u8 0, Value.int .u8 0, Value.int .u8 0, Value.int .u8 0, Value.int .u8 0, Value.int .u8 0, Value.int .u8 0, Value.int .u8 0, Value.int .u8 0, Value.int .u8 0, Value.int .u8 0, Value.int .u8 0], .ar 24 5⟩ := ⟨by kernel_rfl, _, Tryz.underlying332, rfl, rfl⟩
theorem tf333 : TFacts Tryz.prog 333 ⟨1, 8, false, [Value.nilFunc], .fu⟩ := ⟨by kernel_rfl, _, Tryz.underlying333, rfl, ⟨_, _, _, rfl⟩⟩
theorem tf335 : TFacts Tryz.prog 335 ⟨1, 8, false, [Value.nilFunc], .fu⟩ := ⟨by kernel_rfl, _, Tryz.underlying335, rfl, ⟨_, _, _, rfl⟩⟩
theorem tf336 : TFacts Tryz.prog 336 ⟨1, 8, false, [Value.int .u64 0], .it .u64⟩ := ⟨by kernel_rfl, _, Tryz.underlying336, rfl, rfl⟩
theorem tf337 : TFacts Tryz.prog 337 ⟨1, 8, false, [Value.nilFunc], .fu⟩ := ⟨by kernel_rfl, _, Tryz.underlying337, rfl, ⟨_, _, _, rfl⟩⟩
theorem tf338 : TFacts Tryz.prog 338 ⟨1, 8, false, [Value.nilFunc], .fu⟩ := ⟨by kernel_rfl, _, Tryz.underlying338, rfl, ⟨_, _, _, rfl⟩⟩
theorem tf339 : TFacts Tryz.prog 339 ⟨1, 8, false, [Value.nilFunc], .fu⟩ := ⟨by kernel_rfl, _, Tryz.underlying339, rfl, ⟨_, _, _, rfl⟩⟩
theorem tf340 : TFacts Tryz.prog 340 ⟨1, 8, false, [Value.pointer none], .pt 3⟩ := ⟨by kernel_rfl, _, Tryz.underlying340, rfl, rfl⟩
theorem tf341 : TFacts Tryz.prog 341 ⟨1, 8, false, [Value.nilFunc], .fu⟩ := ⟨by kernel_rfl, _, Tryz.underlying341, rfl, ⟨_, _, _, rfl⟩⟩
theorem tf342 : TFacts Tryz.prog 342 ⟨1, 8, false, [Value.nilFunc], .fu⟩ := ⟨by kernel_rfl, _, Tryz.underlying342, rfl, ⟨_, _, _, rfl⟩⟩
theorem tf343 : TFacts Tryz.prog 343 ⟨1, 8, false, [Value.nilFunc], .fu⟩ := ⟨by kernel_rfl, _, Tryz.underlying343, rfl, ⟨_, _, _, rfl⟩⟩
theorem tf344 : TFacts Tryz.prog 344 ⟨1, 8, false, [Value.nilFunc], .fu⟩ := ⟨by kernel_rfl, _, Tryz.underlying344, rfl, ⟨_, _, _, rfl⟩⟩
theorem tf345 : TFacts Tryz.prog 345 ⟨1, 8, false, [Value.nilFunc], .fu⟩ := ⟨by kernel_rfl, _, Tryz.underlying345, rfl, ⟨_, _, _, rfl⟩⟩
theorem tf346 : TFacts Tryz.prog 346 ⟨1, 8, false, [Value.nilFunc], .fu⟩ := ⟨by kernel_rfl, _, Tryz.underlying346, rfl, ⟨_, _, _, rfl⟩⟩
theorem tf347 : TFacts Tryz.prog 347 ⟨1, 8, false, [Value.nilFunc], .fu⟩ := ⟨by kernel_rfl, _, Tryz.underlying347, rfl, ⟨_, _, _, rfl⟩⟩
theorem tf348 : TFacts Tryz.prog 348 ⟨1, 8, false, [Value.nilFunc], .fu⟩ := ⟨by kernel_rfl, _, Tryz.underlying348, rfl, ⟨_, _, _, rfl⟩⟩
theorem tf349 : TFacts Tryz.prog 349 ⟨1, 8, false, [Value.nilFunc], .fu⟩ := ⟨by kernel_rfl, _, Tryz.underlying349, rfl, ⟨_, _, _, rfl⟩⟩
theorem tf350 : TFacts Tryz.prog 350 ⟨1, 8, false, [Value.nilFunc], .fu⟩ := ⟨by kernel_rfl, _, Tryz.underlying350, rfl, ⟨_, _, _, rfl⟩⟩
theorem tf351 : TFacts Tryz.prog 351 ⟨1, 8, false, [Value.nilFunc], .fu⟩ := ⟨by kernel_rfl, _, Tryz.underlying351, rfl, ⟨_, _, _, rfl⟩⟩
theorem tf352 : TFacts Tryz.prog 352 ⟨1, 8, false, [Value.nilFunc], .fu⟩ := ⟨by kernel_rfl, _, Tryz.underlying352, rfl, ⟨_, _, _, rfl⟩⟩
theorem tf354 : TFacts Tryz.prog 354 ⟨1, 8, false, [Value.nilFunc], .fu⟩ := ⟨by kernel_rfl, _, Tryz.underlying354, rfl, ⟨_, _, _, rfl⟩⟩
theorem tf355 : TFacts Tryz.prog 355 ⟨1, 8, false, [Value.nilFunc], .fu⟩ := ⟨by kernel_rfl, _, Tryz.underlying355, rfl, ⟨_, _, _, rfl⟩⟩
theorem tf357 : TFacts Tryz.prog 357 ⟨1, 8, false, [Value.nilFunc], .fu⟩ := ⟨by kernel_rfl, _, Tryz.underlying357, rfl, ⟨_, _, _, rfl⟩⟩
theorem tf358 : TFacts Tryz.prog 358 ⟨1, 8, false, [Value.nilFunc], .fu⟩ := ⟨by kernel_rfl, _, Tryz.underlying358, rfl, ⟨_, _, _, rfl⟩⟩
theorem tf359 : TFacts Tryz.prog 359 ⟨1, 8, false, [Value.nilFunc], .fu⟩ := ⟨by kernel_rfl, _, Tryz.underlying359, rfl, ⟨_, _, _, rfl⟩⟩
theorem tf360 : TFacts Tryz.prog 360 ⟨1, 8, false, [Value.nilFunc], .fu⟩ := ⟨by kernel_rfl, _, Tryz.underlying360, rfl, ⟨_, _, _, rfl⟩⟩
theorem tf361 : TFacts Tryz.prog 361 ⟨1, 8, false, [Value.nilFunc], .fu⟩ := ⟨by kernel_rfl, _, Tryz.underlying361, rfl, ⟨_, _, _, rfl⟩⟩
theorem tf362 : TFacts Tryz.prog 362 ⟨20, 160, true, [Value.int .u64 0, Value.int .u64 0, Value.int .u64 0, Value.int .u64 0, Value.int .u64 0, Value.int .u64 0, Value.int .u64 0, Value.int .u64 0, Value.int .u64 0, Value.int .u64 0, Value.int .u64 0, Value.int .u64 0, Value.int .u64 0, Value.int .u64 0, Value.int .u64 0, Value.int .u64 0, Value.int .u64 0, Value.int .u64 0, Value.int .u64 0, Value.int .u64 0], .ar 20 240⟩ := ⟨by kernel_rfl, _, Tryz.underlying362, rfl, rfl⟩
theorem tf363 : TFacts Tryz.prog 363 ⟨65, 65, true, [Value.int .u8 0, Value.int .u8 0, Value.int .u8 0, Value.int .u8 0, Value.int .u8 0, Value.int .u8 0, Value.int .u8 0, Value.int .u8 0, Value.int .u8 0, Value.int .u8 0, Value.int .u8 0, Value.int .u8 0, Value.int .u8 0, Value.int .u8 0, Value.int .u8 0, Value.int .u8 0, Value.int .u8 0, Value.int .u8 0, Value.int .u8 0, Value.int .u8 0, Value.int .u8 0, Value.int .u8 0, Value.int .u8 0, Value.int .u8 0, Value.int .u8 0, Value.int .u8 0, Value.int .u8 0, Value.int .u8 0, Value.int .u8 0, Value.int .u8 0, Value.int .u8 0, Value.int .u8 0, Value.int .u8 0, Value.int .u8 0, Value.int .u8 0, Value.int .u8 0, Value.int .u8 0, Value.int .u8 0, Value.int .u8 0, Value.int .u8 0, Value.int .u8 0, Value.int .u8 0, Value.int .u8 0, Value.int .u8 0, Value.int .u8 0, Value.int .u8 0, Value.int .u8 0, Value.int .u8 0, Value.int .u8 0, Value.int .u8 0, Value.int .u8 0, Value.int .u8 0, Value.int .u8 0, Value.int .u8 0, Value.int .u8 0, Value.int .u8 0, Value.int .u8 0, Value.int .u8 0, Value.int .u8 0, Value.int .u8 0, Value.int .u8 0, Value.int .u8 0, Value.int .u8 0, Value.int .u8 0, Value.int .u8 0], .ar 65 5⟩ := ⟨by kernel_rfl, _, Tryz.underlying363, rfl, rfl⟩
theorem tf364 : TFacts Tryz.prog 364 ⟨1, 8, false, [Value.pointer none], .pt 336⟩ := ⟨by kernel_rfl, _, Tryz.underlying364, rfl, rfl⟩
theorem tf366 : TFacts Tryz.prog 366 ⟨1, 8, false, [Value.nilFunc], .fu⟩ := ⟨by kernel_rfl, _, Tryz.underlying366, rfl, ⟨_, _, _, rfl⟩⟩
theorem tf367 : TFacts Tryz.prog 367 ⟨1, 8, false, [Value.nilFunc], .fu⟩ := ⟨by kernel_rfl, _, Tryz.underlying367, rfl, ⟨_, _, _, rfl⟩⟩
theorem tf368 : TFacts Tryz.prog 368 ⟨1, 8, false, [Value.nilFunc], .fu⟩ := ⟨by kernel_rfl, _, Tryz.underlying368, rfl, ⟨_, _, _, rfl⟩⟩
theorem tf370 : TFacts Tryz.prog 370 ⟨1, 8, false, [Value.nilFunc], .fu⟩ := ⟨by kernel_rfl, _, Tryz.underlying370, rfl, ⟨_, _, _, rfl⟩⟩
theorem tf371 : TFacts Tryz.prog 371 ⟨32, 32, true, [Value.int .u8 0, Value.int .u8 0, Value.int .u8 0, Value.int .u8 0, Value.int .u8 0, Value.int .u8 0, Value.int .u8 0, Value.int .u8 0, Value.int .u8 0, Value.int .u8 0, Value.int .u8 0, Value.int .u8 0, Value.int .u8 0, Value.int .u8 0, Value.int .u8 0, Value.int .u8 0, Value.int .u8 0, Value.int .u8 0, Value.int .u8 0, Value.int .u8 0, Value.int .u8 0, Value.int .u8 0, Value.int .u8 0, Value.int .u8 0, Value.int .u8 0, Value.int .u8 0, Value.int .u8 0, Value.int .u8 0, Value.int .u8 0, Value.int .u8 0, Value.int .u8 0, Value.int .u8 0], .ar 32 5⟩ := ⟨by kernel_rfl, _, Tryz.underlying371, rfl, rfl⟩
theorem tf372 : TFacts Tryz.prog 372 ⟨64, 64, true, [Value.int .u8 0, Value.int .u8 0, Value.int .u8 0, Value.int .u8 0, Value.int .u8 0, Value.int .u8 0, Value.int .u8 0, Value.int .u8 0, Value.int .u8 0, Value.int .u8 0, Value.int .u8 0, Value.int .u8 0, Value.int .u8 0, Value.int .u8 0, Value.int .u8 0, Value.int .u8 0, Value.int .u8 0, Value.int .u8 0, Value.int .u8 0, Value.int .u8 0, Value.int .u8 0, Value.int .u8 0, Value.int .u8 0, Value.int .u8 0, Value.int .u8 0, Value.int .u8 0, Value.int .u8 0, Value.int .u8 0, Value.int .u8 0, Value.int .u8 0, Value.int .u8 0, Value.int .u8 0, Value.int .u8 0, Value.int .u8 0, Value.int .u8 0, Value.int .u8 0, Value.int .u8 0, Value.int .u8 0, Value.int .u8 0, Value.int .u8 0, Value.int .u8 0, Value.int .u8 0, Value.int .u8 0, Value.int .u8 0, Value.int .u8 0, Value.int .u8 0, Value.int .u8 0, Value.int .u8 0, Value.int .u8 0, Value.int .u8 0, Value.int .u8 0, Value.int .u8 0, Value.int .u8 0, Value.int .u8 0, Value.int .u8 0, Value.int .u8 0, Value.int .u8 0, Value.int .u8 0, Value.int .u8 0, Value.int .u8 0, Value.int .u8 0, Value.int .u8 0, Value.int .u8 0, Value.int .u8 0], .ar 64 5⟩ := ⟨by kernel_rfl, _, Tryz.underlying372, rfl, rfl⟩
theorem tf378 : TFacts Tryz.prog 378 ⟨1, 8, false, [Value.nilFunc], .fu⟩ := ⟨by kernel_rfl, _, Tryz.underlying378, rfl, ⟨_, _, _, rfl⟩⟩
theorem tf381 : TFacts Tryz.prog 381 ⟨1, 8, false, [Value.nilFunc], .fu⟩ := ⟨by kernel_rfl, _, Tryz.underlying381, rfl, ⟨_, _, _, rfl⟩⟩
theorem tf382 : TFacts Tryz.prog 382 ⟨1, 8, false, [Value.pointer none], .pt 5⟩ := ⟨by kernel_rfl, _, Tryz.underlying382, rfl, rfl⟩
set_option maxRecDepth 100000 in
theorem tabOk : TabOk Tryz.prog tab := (.node tf196 (.node tf108 (.node tf60 (.node tf39 (.node tf24 (.node tf9 (.node tf3 (.node tf2 (.node tf1 (.leaf _) (.leaf _)) (.leaf _)) (.node tf5 (.node tf4 (.leaf _) (.leaf _)) (.leaf _))) (.node tf22 (.node tf21 (.node tf12 (.leaf _) (.leaf _)) (.leaf _)) (.node tf23 (.leaf _) (.leaf _)))) (.node tf31 (.node tf27 (.node tf26 (.node tf25 (.leaf _) (.leaf _)) (.leaf _)) (.node tf30 (.node tf29 (.leaf _) (.leaf _)) (.leaf _))) (.node tf36 (.node tf34 (.node tf32 (.leaf _) (.leaf _)) (.leaf _)) (.node tf38 (.leaf _) (.leaf _))))) (.node tf50 (.node tf45 (.node tf42 (.node tf41 (.node tf40 (.leaf _) (.leaf _)) (.leaf _)) (.node tf44 (.node tf43 (.leaf _) (.leaf _)) (.leaf _))) (.node tf48 (.node tf47 (.node tf46 (.leaf _) (.leaf _)) (.leaf _)) (.node tf49 (.leaf _) (.leaf _)))) (.node tf55 (.node tf53 (.node tf52 (.node tf51 (.leaf _) (.leaf _)) (.leaf _)) (.node tf54 (.leaf _) (.leaf _))) (.node tf58 (.node tf57 (.node tf56 (.leaf _) (.leaf _)) (.leaf _)) (.node tf59 (.leaf _) (.leaf _)))))) (.node tf85 (.node tf73 (.node tf68 (.node tf63 (.node tf62 (.node tf61 (.leaf _) (.leaf _)) (.leaf _)) (.node tf67 (.node tf66 (.leaf _) (.leaf _)) (.leaf _))) (.node tf71 (.node tf70 (.node tf69 (.leaf _) (.leaf _)) (.leaf _)) (.node tf72 (.leaf _) (.leaf _)))) (.node tf80 (.node tf76 (.node tf75 (.node tf74 (.leaf _) (.leaf _)) (.leaf _)) (.node tf79 (.node tf78 (.leaf _) (.leaf _)) (.leaf _))) (.node tf83 (.node tf82 (.node tf81 (.leaf _) (.leaf _)) (.leaf _)) (.node tf84 (.leaf _) (.leaf _))))) (.node tf97 (.node tf92 (.node tf88 (.node tf87 (.node tf86 (.leaf _) (.leaf _)) (.leaf _)) (.node tf90 (.node tf89 (.leaf _) (.leaf _)) (.leaf _))) (.node tf95 (.node tf94 (.node tf93 (.leaf _) (.leaf _)) (.leaf _)) (.node tf96 (.leaf _) (.leaf _)))) (.node tf103 (.node tf100 (.node tf99 (.node tf98 (.leaf _) (.leaf _)) (.leaf _)) (.node tf102 (.leaf _) (.leaf _))) (.node tf106 (.node tf105 (.node tf104 (.leaf _) (.leaf _)) (.leaf _)) (.node tf107 (.leaf _) (.leaf _))))))) (.node tf152 (.node tf130 (.node tf119 (.node tf114 (.node tf111 (.node tf110 (.node tf109 (.leaf _) (.leaf _)) (.leaf _)) (.node tf113 (.node tf112 (.leaf _) (.leaf _)) (.leaf _))) (.node tf117 (.node tf116 (.node tf115 (.leaf _) (.leaf _)) (.leaf _)) (.node tf118 (.leaf _) (.leaf _)))) (.node tf125 (.node tf122 (.node tf121 (.node tf120 (.leaf _) (.leaf _)) (.leaf _)) (.node tf124 (.node tf123 (.leaf _) (.leaf _)) (.leaf _))) (.node tf128 (.node tf127 (.node tf126 (.leaf _) (.leaf _)) (.leaf _)) (.node tf129 (.leaf _) (.leaf _))))) (.node tf141 (.node tf136 (.node tf133 (.node tf132 (.node tf131 (.leaf _) (.leaf _)) (.leaf _)) (.node tf135 (.node tf134 (.leaf _) (.leaf _)) (.leaf _))) (.node tf139 (.node tf138 (.node tf137 (.leaf _) (.leaf _)) (.leaf _)) (.node tf140 (.leaf _) (.leaf _)))) (.node tf147 (.node tf145 (.node tf144 (.node tf142 (.leaf _) (.leaf _)) (.leaf _)) (.node tf146 (.leaf _) (.leaf _))) (.node tf150 (.node tf149 (.node tf148 (.leaf _) (.leaf _)) (.leaf _)) (.node tf151 (.leaf _) (.leaf _)))))) (.node tf174 (.node tf163 (.node tf158 (.node tf155 (.node tf154 (.node tf153 (.leaf _) (.leaf _)) (.leaf _)) (.node tf157 (.node tf156 (.leaf _) (.leaf _)) (.leaf _))) (.node tf161 (.node tf160 (.node tf159 (.leaf _) (.leaf _)) (.leaf _)) (.node tf162 (.leaf _) (.leaf _)))) (.node tf169 (.node tf166 (.node tf165 (.node tf164 (.leaf _) (.leaf _)) (.leaf _)) (.node tf168 (.node tf167 (.leaf _) (.leaf _)) (.leaf _))) (.node tf172 (.node tf171 (.node tf170 (.leaf _) (.leaf _)) (.leaf _)) (.node tf173 (.leaf _) (.leaf _))))) (.node tf186 (.node tf181 (.node tf177 (.node tf176 (.node tf175 (.leaf _) (.leaf _)) (.leaf _)) (.node tf180 (.node tf178 (.leaf _) (.leaf _)) (.leaf _))) (.node tf184 (.node tf183 (.node tf182 (.leaf _) (.leaf _)) (.leaf _)) (.node tf185 (.leaf _) (.leaf _)))) (.node tf191 (.node tf189 (.node tf188 (.node tf187 (.leaf _) (.leaf _)) (.leaf _)) (.node tf190 (.leaf _) (.leaf _))) (.node tf194 (.node tf193 (.node tf192 (.leaf _) (.leaf _)) (.leaf _)) (.node tf195 (.leaf _) (.leaf _)))))))) (.node tf283 (.node tf239 (.node tf218 (.node tf207 (.node tf202 (.node tf199 (.node tf198 (.node tf197 (.leaf _) (.leaf _)) (.leaf _)) (.node tf201 (.node tf200 (.leaf _) (.leaf _)) (.leaf _))) (.node tf205 (.node tf204 (.node tf203 (.leaf _) (.leaf _)) (.leaf _)) (.node tf206 (.leaf _) (.leaf _)))) (.node tf213 (.node tf210 (.node tf209 (.node tf208 (.leaf _) (.leaf _)) (.leaf _)) (.node tf212 (.node tf211 (.leaf _) (.leaf _)) (.leaf _))) (.node tf216 (.node tf215 (.node tf214 (.leaf _) (.leaf _)) (.leaf _)) (.node tf217 (.leaf _) (.leaf _))))) (.node tf229 (.node tf224 (.node tf221 (.node tf220 (.node tf219 (.leaf _) (.leaf _)) (.leaf _)) (.node tf223 (.node tf222 (.leaf _) (.leaf _)) (.leaf _))) (.node tf227 (.node tf226 (.node tf225 (.leaf _) (.leaf _)) (.leaf _)) (.node tf228 (.leaf _) (.leaf _)))) (.node tf234 (.node tf232 (.node tf231 (.node tf230 (.leaf _) (.leaf _)) (.leaf _)) (.node tf233 (.leaf _) (.leaf _))) (.node tf237 (.node tf236 (.node tf235 (.leaf _) (.leaf _)) (.leaf _)) (.node tf238 (.leaf _) (.leaf _)))))) (.node tf262 (.node tf251 (.node tf246 (.node tf243 (.node tf242 (.node tf240 (.leaf _) (.leaf _)) (.leaf _)) (.node tf245 (.node tf244 (.leaf _) (.leaf _)) (.leaf _))) (.node tf249 (.node tf248 (.node tf247 (.leaf _) (.leaf _)) (.leaf _)) (.node tf250 (.leaf _) (.leaf _)))) (.node tf257 (.node tf254 (.node tf253 (.node tf252 (.leaf _) (.leaf _)) (.leaf _)) (.node tf256 (.node tf255 (.leaf _) (.leaf _)) (.leaf _))) (.node tf260 (.node tf259 (.node tf258 (.leaf _) (.leaf _)) (.leaf _)) (.node tf261 (.leaf _) (.leaf _))))) (.node tf273 (.node tf268 (.node tf265 (.node tf264 (.node tf263 (.leaf _) (.leaf _)) (.leaf _)) (.node tf267 (.node tf266 (.leaf _) (.leaf _)) (.leaf _))) (.node tf271 (.node tf270 (.node tf269 (.leaf _) (.leaf _)) (.leaf _)) (.node tf272 (.leaf _) (.leaf _)))) (.node tf278 (.node tf276 (.node tf275 (.node tf274 (.leaf _) (.leaf _)) (.leaf _)) (.node tf277 (.leaf _) (.leaf _))) (.node tf281 (.node tf280 (.node tf279 (.leaf _) (.leaf _)) (.leaf _)) (.node tf282 (.leaf _) (.leaf _))))))) (.node tf329 (.node tf307 (.node tf295 (.node tf289 (.node tf286 (.node tf285 (.node tf284 (.leaf _) (.leaf _)) (.leaf _)) (.node tf288 (.node tf287 (.leaf _) (.leaf _)) (.leaf _))) (.node tf292 (.node tf291 (.node tf290 (.leaf _) (.leaf _)) (.leaf _)) (.node tf294 (.leaf _) (.leaf _)))) (.node tf302 (.node tf299 (.node tf298 (.node tf296 (.leaf _) (.leaf _)) (.leaf _)) (.node tf301 (.node tf300 (.leaf _) (.leaf _)) (.leaf _))) (.node tf305 (.node tf304 (.node tf303 (.leaf _) (.leaf _)) (.leaf _)) (.node tf306 (.leaf _) (.leaf _))))) (.node tf318 (.node tf313 (.node tf310 (.node tf309 (.node tf308 (.leaf _) (.leaf _)) (.leaf _)) (.node tf312 (.node tf311 (.leaf _) (.leaf _)) (.leaf _))) (.node tf316 (.node tf315 (.node tf314 (.leaf _) (.leaf _)) (.leaf _)) (.node tf317 (.leaf _) (.leaf _)))) (.node tf324 (.node tf322 (.node tf321 (.node tf320 (.leaf _) (.leaf _)) (.leaf _)) (.node tf323 (.leaf _) (.leaf _))) (.node tf327 (.node tf326 (.node tf325 (.leaf _) (.leaf _)) (.leaf _)) (.node tf328 (.leaf _) (.leaf _)))))) (.node tf351 (.node tf341 (.node tf336 (.node tf332 (.node tf331 (.node tf330 (.leaf _) (.leaf _)) (.leaf _)) (.node tf335 (.node tf333 (.leaf _) (.leaf _)) (.leaf _))) (.node tf339 (.node tf338 (.node tf337 (.leaf _) (.leaf _)) (.leaf _)) (.node tf340 (.leaf _) (.leaf _)))) (.node tf346 (.node tf344 (.node tf343 (.node tf342 (.leaf _) (.leaf _)) (.leaf _)) (.node tf345 (.leaf _) (.leaf _))) (.node tf349 (.node tf348 (.node tf347 (.leaf _) (.leaf _)) (.leaf _)) (.node tf350 (.leaf _) (.leaf _))))) (.node tf364 (.node tf359 (.node tf355 (.node tf354 (.node tf352 (.leaf _) (.leaf _)) (.leaf _)) (.node tf358 (.node tf357 (.leaf _) (.leaf _)) (.leaf _))) (.node tf362 (.node tf361 (.node tf360 (.leaf _) (.leaf _)) (.leaf _)) (.node tf363 (.leaf _) (.leaf _)))) (.node tf371 (.node tf368 (.node tf367 (.node tf366 (.leaf _) (.leaf _)) (.leaf _)) (.node tf370 (.leaf _) (.leaf _))) (.node tf381 (.node tf378 (.node tf372 (.leaf _) (.leaf _)) (.leaf _)) (.node tf382 (.leaf _) (.leaf _)))))))))
theorem mixed : Tryz.prog.follows .mixedOrders = true := by kernel_rfl
end Go.Proofs.YtdbeblhifnfocaaGreatDoor.Ab

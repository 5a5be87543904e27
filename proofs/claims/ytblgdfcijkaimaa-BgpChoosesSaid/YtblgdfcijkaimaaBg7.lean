/-
  Texts of a proof, one behind the other (part 8).
-/
import Derived.ArgAppend
import Derived.Deep.AppendLies
import Derived.Laws.CopyRow
import Derived.Maps.Own
import Derived.Test.YtblgdfcijkaimaaBg1
import Derived.Test.YtblgdfcijkaimaaBg4
import Derived.Test.YtblgdfcijkaimaaBg5
import Derived.Test.YtblgdfcijkaimaaBg6
set_option linter.unusedVariables false
set_option linter.unusedSimpArgs false
namespace Go.Proofs.Ytblgdfcijkaimaa.Ab
set_option linter.unusedVariables false
open Go.RowKit

section
variable {P : Program} {nt : Nat} {Q : Post} {e : Env} {h : Heap} {ops : Array Oper} {o : Oper} {rest : List Oper} {T : List Nat} {tab : TTab}
theorem run_cutFrom {t el : TypeId} {te te' : TE} (w' : World) (Ft : TFacts P t te) (hs : te.sh = .sl el) (Fe : TFacts P el te') (b : Option Addr) (n cap : Nat) (k : IntKind) (m : Nat) (hm : m ≤ n) :
    (Instr.sliceAt t (.slice b n cap) (some (.int k m)) none none).run P w' = .ok (.slice (if cap = m then b else b.map (·.add (m * te'.size))) (n - m) (cap - m)) w' := by
  have hu := Ft.slice hs
  have he : P.elem t = el := Ft.elem hs
  rw [run_sliceAt_slice (t := t) (h := by rw [he]; exact hu), run_slice_l (P := P) (w := w') (t := t) (a := b) (len := n) (cap := cap) (ht := by rw [he]; exact hu) (kl := k) (l := (m : Int)) (by omega) (by omega), he, Fe.size]
  simp only [Result.andThen, sliced, Int.toNat_natCast]
theorem add_lit0 (g o j : Nat) : (⟨g, o, none⟩ : Addr).add j = ⟨g, o + j, none⟩ := by unfold Addr.add; split <;> simp_all

end
end Go.Proofs.Ytblgdfcijkaimaa.Ab

namespace Go.Proofs.Ytblgdfcijkaimaa
set_option linter.unusedVariables false
open Go.RowKit Go.Lib
structure Rte where
  p : Pfx
  f : Int
  d : Int
  m : Int
  t : Int
  i : List UInt8
  h : Int
  x : Bool
  deriving DecidableEq
def ordP : Pfx → Pfx → Int := lexc (fun x y => c2 x.a y.a) (fun x y => c2 x.b y.b)
def ordR : Rte → Rte → Int := lexc (fun x y => ordP x.p y.p) (lexc (fun x y => c2 x.f y.f) (lexc (fun x y => c2 x.d y.d) (lexc (fun x y => c2 x.m y.m) (lexc (fun x y => c2 x.t y.t) (lexc (fun x y => c2 x.h y.h) (lexc (fun x y => compareBytes x.i y.i) (fun x y => cB x.x y.x)))))))
def rank : Rte → Rte → Int := lexc (fun x y => c2 x.d y.d) (lexc (fun x y => c2 x.f y.f) (fun x y => c2 x.m y.m))
def firstI : List Int → Int
  | [] => 0
  | x :: r => if x = 0 then firstI r else x
namespace Ab
def rteD (r : Rte) : List Dat := [.sc (.int .u32 r.p.a), .sc (.int .i64 r.p.b), .sc (.int .u8 r.f), .sc (.int .i64 r.d), .sc (.int .i64 r.m), .sc (.int .i64 r.t), .sc (.string ⟨⟨r.i⟩⟩), .sc (.int .u32 r.h), .sc (.bool r.x)]
theorem rteD_len (r : Rte) : (rteD r).length = 9 := rfl
def rteA (r : Rte) : AVal := .agg [.d (.sc (.int .u32 r.p.a)), .d (.sc (.int .i64 r.p.b)), .d (.sc (.int .u8 r.f)), .d (.sc (.int .i64 r.d)), .d (.sc (.int .i64 r.m)), .d (.sc (.int .i64 r.t)), .d (.sc (.string ⟨⟨r.i⟩⟩)), .d (.sc (.int .u32 r.h)), .d (.sc (.bool r.x))]
def rtesA (l : List Rte) : AVal := .d (.sl (l.flatMap rteD) l.length)
end Ab
end Go.Proofs.Ytblgdfcijkaimaa

namespace Go.Proofs.Ytblgdfcijkaimaa
set_option linter.unusedVariables false
set_option linter.unusedSectionVars false
open Go.RowKit Go.Sort

section
variable {κ ν : Type} [DecidableEq κ]
def mget : List (κ × ν) → κ → Option (Nat × ν)
  | [], _ => none
  | (k', v) :: r, k => if k = k' then some (0, v) else (mget r k).map fun x => (x.1 + 1, x.2)
def aget (l : List (κ × ν)) (k : κ) : Option ν := (mget l k).map (·.2)
def aput (l : List (κ × ν)) (k : κ) (v : ν) : List (κ × ν) := match mget l k with
  | some (i, _) => l.set i (k, v)
  | none => l ++ [(k, v)]
def adel (l : List (κ × ν)) (k : κ) : List (κ × ν) := match mget l k with
  | some (i, _) => l.eraseIdx i
  | none => l

theorem mget_some {l : List (κ × ν)} {k : κ} {i : Nat} {v : ν} (h : mget l k = some (i, v)) : l[i]? = some (k, v) := by
  induction l generalizing i with
  | nil => cases h
  | cons p r ih =>
    obtain ⟨k', v'⟩ := p
    unfold mget at h
    split at h
    · rename_i e
      injection h with h
      injection h with h1 h2
      subst h1 h2 e
      rfl
    · cases hr : mget r k with
      | none => simp [hr] at h
      | some x =>
        simp only [hr, Option.map_some, Option.some.injEq, Prod.mk.injEq] at h
        obtain ⟨rfl, rfl⟩ := h
        simpa using ih hr
theorem mget_none {l : List (κ × ν)} {k : κ} (h : mget l k = none) : ∀ p ∈ l, p.1 ≠ k := by
  induction l with
  | nil => intro p hp; cases hp
  | cons q r ih =>
    obtain ⟨k', v'⟩ := q
    unfold mget at h
    split at h
    · cases h
    · rename_i hne
      intro p hp
      rcases List.mem_cons.1 hp with rfl | hp
      · exact fun e => hne e.symm
      · exact ih (by simpa using h) p hp
theorem aget_none {l : List (κ × ν)} {k : κ} (h : aget l k = none) : ∀ p ∈ l, p.1 ≠ k := mget_none (by simpa [aget] using h)
theorem mem_of_aget {l : List (κ × ν)} {k : κ} {v : ν} (h : aget l k = some v) : (k, v) ∈ l := by
  unfold aget at h
  cases hm : mget l k with
  | none => simp [hm] at h
  | some x =>
    obtain ⟨i, u⟩ := x
    simp [hm] at h
    subst h
    exact List.mem_of_getElem? (mget_some hm)
theorem aget_of_mem {l : List (κ × ν)} (hn : (l.map (·.1)).Nodup) {k : κ} {v : ν} (h : (k, v) ∈ l) : aget l k = some v := by
  cases hg : aget l k with
  | none => exact absurd rfl (aget_none hg _ h)
  | some u =>
    have h2 := mem_of_aget hg
    have : ∀ {l : List (κ × ν)}, (l.map (·.1)).Nodup → ∀ {u v : ν}, (k, u) ∈ l → (k, v) ∈ l → u = v := by
      intro l
      induction l with
      | nil => intro _ u v h; cases h
      | cons p r ih =>
        intro hn u v hu hv
        rw [List.map_cons, List.nodup_cons] at hn
        rcases List.mem_cons.1 hu with hu | hu
        · rcases List.mem_cons.1 hv with hv | hv
          · rw [← hu] at hv; injection hv with _ h; exact h.symm
          · exact absurd (List.mem_map.2 ⟨_, hv, by rw [← hu]⟩) hn.1
        · rcases List.mem_cons.1 hv with hv | hv
          · exact absurd (List.mem_map.2 ⟨_, hu, by rw [← hv]⟩) hn.1
          · exact ih hn.2 hu hv
    rw [this hn h2 h]
theorem set_keys {l : List (κ × ν)} {k : κ} {u v : ν} {i : Nat} (h : l[i]? = some (k, u)) : (l.set i (k, v)).map (·.1) = l.map (·.1) := by
  apply List.ext_getElem?
  intro j
  rw [List.getElem?_map, List.getElem?_set, List.getElem?_map]
  split
  · rename_i e
    subst e
    obtain ⟨hlt, h2⟩ := List.getElem?_eq_some_iff.1 h
    simp [hlt, h2]
  · rfl
theorem aput_nodup {l : List (κ × ν)} {k : κ} {v : ν} (hn : (l.map (·.1)).Nodup) : ((aput l k v).map (·.1)).Nodup := by
  unfold aput
  cases h : mget l k with
  | some x => obtain ⟨i, u⟩ := x; simp only; rw [set_keys (mget_some h)]; exact hn
  | none =>
    simp only [List.map_append, List.map_cons, List.map_nil]
    rw [List.nodup_append]
    refine ⟨hn, by simp, ?_⟩
    intro a ha b hb
    simp at hb
    subst hb
    obtain ⟨p, hp, rfl⟩ := List.mem_map.1 ha
    exact mget_none h p hp
theorem adel_nodup {l : List (κ × ν)} {k : κ} (hn : (l.map (·.1)).Nodup) : ((adel l k).map (·.1)).Nodup := by
  unfold adel
  cases h : mget l k with
  | some x => obtain ⟨i, u⟩ := x; exact hn.sublist ((List.eraseIdx_sublist l i).map _)
  | none => exact hn
theorem mem_aput {l : List (κ × ν)} (hn : (l.map (·.1)).Nodup) {k : κ} {v : ν} {p : κ × ν} : p ∈ aput l k v ↔ p = (k, v) ∨ p.1 ≠ k ∧ p ∈ l := by
  have hnd := aput_nodup (k := k) (v := v) hn
  unfold aput at *
  cases h : mget l k with
  | none =>
    have hnone := mget_none h
    simp only [List.mem_append, List.mem_singleton]
    constructor
    · rintro (h1 | h1)
      · exact .inr ⟨hnone p h1, h1⟩
      · exact .inl h1
    · rintro (h1 | ⟨_, h1⟩)
      · exact .inr h1
      · exact .inl h1
  | some x =>
    obtain ⟨i, u⟩ := x
    have hi := mget_some h
    have hlt : i < l.length := (List.getElem?_eq_some_iff.1 hi).1
    simp only [h] at hnd
    simp only
    constructor
    · intro hp
      by_cases hk : p.1 = k
      · left
        have h1 : (k, v) ∈ l.set i (k, v) := List.mem_of_getElem? (i := i) (by rw [List.getElem?_set]; simp [hlt])
        have e1 := aget_of_mem hnd h1
        have e2 := aget_of_mem hnd (k := k) (v := p.2) (by rw [show (k, p.2) = p from by rw [← hk]]; exact hp)
        rw [e1] at e2
        injection e2 with e2
        rw [← hk, e2]
      · right
        refine ⟨hk, ?_⟩
        obtain ⟨j, hj⟩ := List.getElem?_of_mem hp
        rw [List.getElem?_set] at hj
        by_cases e : i = j
        · simp [e] at hj
          exact absurd (by rw [← hj.2]) hk
        · rw [if_neg e] at hj; exact List.mem_of_getElem? hj
    · rintro (h1 | ⟨hk, h1⟩)
      · subst h1
        exact List.mem_of_getElem? (i := i) (by rw [List.getElem?_set]; simp [hlt])
      · obtain ⟨j, hj⟩ := List.getElem?_of_mem h1
        refine List.mem_of_getElem? (i := j) ?_
        rw [List.getElem?_set]
        split
        · rename_i e
          subst e
          rw [hi] at hj
          injection hj with hj
          exact absurd (by rw [← hj]) hk
        · exact hj
theorem aget_iff {l : List (κ × ν)} (hn : (l.map (·.1)).Nodup) {k : κ} {v : ν} : aget l k = some v ↔ (k, v) ∈ l := ⟨mem_of_aget, aget_of_mem hn⟩
theorem aget_aput {l : List (κ × ν)} (hn : (l.map (·.1)).Nodup) {k k' : κ} {v : ν} : aget (aput l k v) k' = if k' = k then some v else aget l k' := by
  apply Option.ext
  intro u
  rw [aget_iff (aput_nodup hn), mem_aput hn]
  split
  · rename_i e
    subst e
    simp [eq_comm]
  · rename_i e
    rw [aget_iff hn]
    simp [e]
end
end Go.Proofs.Ytblgdfcijkaimaa

namespace Go.Proofs.Ytblgdfcijkaimaa
set_option linter.unusedVariables false

theorem pfx3 (x y : Pfx) : (cmpP x y = -1 ∧ (x.a < y.a ∨ x.a = y.a ∧ x.b < y.b)) ∨ (cmpP x y = 0 ∧ x.a = y.a ∧ x.b = y.b) ∨ (cmpP x y = 1 ∧ (y.a < x.a ∨ x.a = y.a ∧ y.b < x.b)) := by
  obtain ⟨a, b⟩ := x
  obtain ⟨c, d⟩ := y
  unfold cmpP
  dsimp only
  by_cases h : a < c ∨ a = c ∧ b < d
  · rw [if_pos h]; exact .inl ⟨rfl, h⟩
  · rw [if_neg h]
    by_cases h2 : (⟨a, b⟩ : Pfx) = ⟨c, d⟩
    · rw [if_pos h2]
      injection h2 with h3 h4
      exact .inr (.inl ⟨rfl, h3, h4⟩)
    · rw [if_neg h2]
      refine .inr (.inr ⟨rfl, ?_⟩)
      have h3 : ¬ (a = c ∧ b = d) := fun ⟨h3, h4⟩ => h2 (by rw [h3, h4])
      omega
theorem good_pfx : Good cmpP := by
  refine ⟨fun x y => ?_, fun x y z h1 h2 => ?_⟩
  · rcases pfx3 x y with ⟨e1, h1⟩ | ⟨e1, h1⟩ | ⟨e1, h1⟩ <;> rcases pfx3 y x with ⟨e2, h2⟩ | ⟨e2, h2⟩ | ⟨e2, h2⟩ <;> rw [e1, e2] <;> omega
  · rcases pfx3 x y with ⟨e1, g1⟩ | ⟨e1, g1⟩ | ⟨e1, g1⟩ <;> rcases pfx3 y z with ⟨e2, g2⟩ | ⟨e2, g2⟩ | ⟨e2, g2⟩ <;> rcases pfx3 x z with ⟨e3, g3⟩ | ⟨e3, g3⟩ | ⟨e3, g3⟩ <;> rw [e3] <;> omega
theorem pfx_zero {x y : Pfx} (h : cmpP x y = 0) : x = y := by
  rcases pfx3 x y with ⟨e1, h1⟩ | ⟨e1, h1⟩ | ⟨e1, h1⟩
  · omega
  · obtain ⟨a, b⟩ := x
    obtain ⟨c, d⟩ := y
    dsimp only at h1
    rw [h1.1, h1.2]
  · omega

def bgpB (r : Rte) : Bool := decide (r.f = 7) || decide (r.f = 8)
def leadB (h : Int) (r : Rte) : Bool := !bgpB r && inB h r.p
def useStep (h : Int) (s : Int × Int × Bool) (r : Rte) : Int × Int × Bool :=
  if leadB h r = false ∨ r.p.b < s.1 then s else
    if s.1 < r.p.b then (r.p.b, min r.m r.m, true && !r.x) else (s.1, min s.2.1 r.m, s.2.2 && !r.x)
def useF (h : Int) (l : List Rte) : Int × Int × Bool := l.foldl (useStep h) (-1, 0, false)
def useP (a : Adv) (l : List Rte) : Int × Bool := if a.ses = -1 then (0, true) else if (useF a.hop l).2.2 = true then ((useF a.hop l).2.1, true) else (0, false)
def hitB (h b : Int) (r : Rte) : Bool := decide (r.p.b = b) && leadB h r
def refStep (h b : Int) (s : Bool × Bool × Int) (r : Rte) : Bool × Bool × Int :=
  if hitB h b r = true then (true, s.2.1 || r.x, if s.1 = false ∨ r.m < s.2.2 then r.m else s.2.2) else s
def refF (h b : Int) (l : List Rte) : Bool × Bool × Int := l.foldl (refStep h b) (false, false, 0)
def useRN (h : Int) (l : List Rte) : Nat → Int × Bool
  | 0 => (0, false)
  | n + 1 => if (refF h n l).1 = true ∧ (refF h n l).2.1 = true then (0, false) else if (refF h n l).1 = true then ((refF h n l).2.2, true) else useRN h l n
def useR (a : Adv) (l : List Rte) : Int × Bool := if a.ses = -1 then (0, true) else useRN a.hop l 33

theorem foldl_take {α β : Type} (f : β → α → β) (b : β) (l : List α) (k : Nat) (hk : k < l.length) : (l.take (k + 1)).foldl f b = f ((l.take k).foldl f b) l[k] := by
  rw [List.take_succ_eq_append_getElem hk, List.foldl_append]; rfl
theorem useF_take (h : Int) (l : List Rte) (k : Nat) (hk : k < l.length) : useF h (l.take (k + 1)) = useStep h (useF h (l.take k)) l[k] := foldl_take _ _ l k hk
theorem refF_take (h b : Int) (l : List Rte) (k : Nat) (hk : k < l.length) : refF h b (l.take (k + 1)) = refStep h b (refF h b (l.take k)) l[k] := foldl_take _ _ l k hk

theorem snoc_ind {α : Type} {P : List α → Prop} (h0 : P []) (h1 : ∀ l x, P l → P (l ++ [x])) (l : List α) : P l := by
  have : ∀ n (l : List α), l.length = n → P l := by
    intro n
    induction n with
    | zero => intro l hl; rw [List.length_eq_zero_iff.1 hl]; exact h0
    | succ n ih =>
      intro l hl
      have hne : l ≠ [] := by rintro rfl; simp at hl
      rw [← List.dropLast_concat_getLast hne]
      exact h1 _ _ (ih _ (by rw [List.length_dropLast, hl]; rfl))
  exact this _ l rfl

def UseOk (h : Int) (l : List Rte) (s : Int × Int × Bool) : Prop :=
  (s = (-1, 0, false) ∧ ∀ r ∈ l, leadB h r = false) ∨
  (0 ≤ s.1 ∧ s.1 ≤ 32 ∧ (∃ r ∈ l, leadB h r = true ∧ r.p.b = s.1 ∧ r.m = s.2.1) ∧ (∀ r ∈ l, leadB h r = true → r.p.b ≤ s.1) ∧ (∀ r ∈ l, leadB h r = true → r.p.b = s.1 → s.2.1 ≤ r.m) ∧ (s.2.2 = true ↔ ∀ r ∈ l, leadB h r = true → r.p.b = s.1 → r.x = false))
theorem lead_bits {h : Int} {r : Rte} (hl : leadB h r = true) : 0 ≤ r.p.b ∧ r.p.b ≤ 32 := by
  unfold leadB inB good at hl
  simp at hl
  omega
theorem useF_ok (h : Int) (l : List Rte) : UseOk h l (useF h l) := by
  refine snoc_ind (P := fun l => UseOk h l (useF h l)) (.inl ⟨rfl, by simp⟩) (fun l x ih => ?_) l
  have e : useF h (l ++ [x]) = useStep h (useF h l) x := by unfold useF; rw [List.foldl_append]; rfl
  rw [e]
  generalize useF h l = s at ih
  obtain ⟨b, c, k⟩ := s
  unfold useStep
  by_cases hx : leadB h x = false
  · rw [if_pos (.inl hx)]
    have hall : ∀ r ∈ l ++ [x], leadB h r = true → r ∈ l := fun r hr hl => by
      rcases List.mem_append.1 hr with h1 | h1
      · exact h1
      · rw [List.mem_singleton.1 h1] at hl; rw [hl] at hx; cases hx
    rcases ih with ⟨h1, h2⟩ | ⟨h1, h1', ⟨r, h2, h3⟩, h4, h5, h6⟩
    · refine .inl ⟨h1, fun r hr => ?_⟩
      cases hl : leadB h r with
      | false => rfl
      | true => have := h2 r (hall r hr hl); rw [hl] at this; exact this
    · exact .inr ⟨h1, h1', ⟨r, List.mem_append_left _ h2, h3⟩, fun r hr hl => h4 r (hall r hr hl) hl, fun r hr hl => h5 r (hall r hr hl) hl, h6.trans ⟨fun h r hr hl => h r (hall r hr hl) hl, fun h r hr => h r (List.mem_append_left _ hr)⟩⟩
  · have hx1 : leadB h x = true := by simpa using hx
    obtain ⟨hb0, hb1⟩ := lead_bits hx1
    have hmx : x ∈ l ++ [x] := by simp
    dsimp only
    by_cases hlt : x.p.b < b
    · rw [if_pos (.inr hlt)]
      rcases ih with ⟨h1, h2⟩ | ⟨h1, h1', ⟨r, h2, h3⟩, h4, h5, h6⟩
      · injection h1 with h1 _; omega
      · dsimp only at *
        refine .inr ⟨h1, h1', ⟨r, List.mem_append_left _ h2, h3⟩, fun r hr hl => ?_, fun r hr hl he => ?_, h6.trans ⟨fun h r hr hl he => ?_, fun h r hr => h r (List.mem_append_left _ hr)⟩⟩ <;> (rcases List.mem_append.1 hr with h7 | h7)
        · exact h4 r h7 hl
        · rw [List.mem_singleton.1 h7]; omega
        · exact h5 r h7 hl he
        · rw [List.mem_singleton.1 h7] at he; omega
        · exact h r h7 hl he
        · rw [List.mem_singleton.1 h7] at he; omega
    · rw [if_neg (by rintro (h1 | h1); exact hx h1; exact hlt h1)]
      by_cases hgt : b < x.p.b
      · rw [if_pos hgt]
        have hno : ∀ r ∈ l, leadB h r = true → r.p.b ≠ x.p.b := fun r hr hl he => by
          rcases ih with ⟨_, h2⟩ | ⟨_, _, _, h4, _⟩
          · have := h2 r hr; rw [hl] at this; cases this
          · have := h4 r hr hl; dsimp only at this; omega
        have hle : ∀ r ∈ l, leadB h r = true → r.p.b ≤ x.p.b := fun r hr hl => by
          rcases ih with ⟨_, h2⟩ | ⟨_, _, _, h4, _⟩
          · have := h2 r hr; rw [hl] at this; cases this
          · have := h4 r hr hl; dsimp only at this; omega
        refine .inr ⟨hb0, hb1, ⟨x, hmx, hx1, rfl, by dsimp only; omega⟩, fun r hr hl => ?_, fun r hr hl he => ?_, ?_⟩
        · rcases List.mem_append.1 hr with h7 | h7
          · exact hle r h7 hl
          · rw [List.mem_singleton.1 h7]; dsimp only; omega
        · rcases List.mem_append.1 hr with h7 | h7
          · exact absurd he (hno r h7 hl)
          · rw [List.mem_singleton.1 h7]; dsimp only; omega
        · dsimp only
          rw [Bool.true_and]
          constructor
          · intro h1 r hr hl he
            rcases List.mem_append.1 hr with h7 | h7
            · exact absurd he (hno r h7 hl)
            · rw [List.mem_singleton.1 h7]; simpa using h1
          · intro h1; have := h1 x hmx hx1 rfl; rw [this]; rfl
      · rw [if_neg hgt]
        rcases ih with ⟨h1, h2⟩ | ⟨h1, h1', ⟨r0, h2, h3, h3', h3''⟩, h4, h5, h6⟩
        · injection h1 with h1 _; omega
        · dsimp only at *
          have hbe : x.p.b = b := by omega
          refine .inr ⟨h1, h1', ?_, fun r hr hl => ?_, fun r hr hl he => ?_, ?_⟩
          · by_cases hm : x.m ≤ c
            · exact ⟨x, hmx, hx1, hbe, by dsimp only; omega⟩
            · exact ⟨r0, List.mem_append_left _ h2, h3, h3', by dsimp only; omega⟩
          · rcases List.mem_append.1 hr with h7 | h7
            · exact h4 r h7 hl
            · rw [List.mem_singleton.1 h7]; dsimp only; omega
          · rcases List.mem_append.1 hr with h7 | h7
            · have := h5 r h7 hl he; dsimp only; omega
            · rw [List.mem_singleton.1 h7]; dsimp only; omega
          · dsimp only
            rw [Bool.and_eq_true, h6]
            constructor
            · intro ⟨h8, h9⟩ r hr hl he
              rcases List.mem_append.1 hr with h7 | h7
              · exact h8 r h7 hl he
              · rw [List.mem_singleton.1 h7]; simpa using h9
            · intro h8
              refine ⟨fun r hr => h8 r (List.mem_append_left _ hr), ?_⟩
              have := h8 x hmx hx1 hbe; rw [this]; rfl
def RefOk (h b : Int) (l : List Rte) (s : Bool × Bool × Int) : Prop :=
  (s.1 = true ↔ ∃ r ∈ l, hitB h b r = true) ∧ (s.2.1 = true ↔ ∃ r ∈ l, hitB h b r = true ∧ r.x = true) ∧ (s.1 = true → (∃ r ∈ l, hitB h b r = true ∧ r.m = s.2.2) ∧ ∀ r ∈ l, hitB h b r = true → s.2.2 ≤ r.m)
theorem refF_ok (h b : Int) (l : List Rte) : RefOk h b l (refF h b l) := by
  refine snoc_ind (P := fun l => RefOk h b l (refF h b l)) ⟨by simp [refF], by simp [refF], by simp [refF]⟩ (fun l x ih => ?_) l
  have e : refF h b (l ++ [x]) = refStep h b (refF h b l) x := by unfold refF; rw [List.foldl_append]; rfl
  rw [e]
  generalize refF h b l = s at ih
  obtain ⟨f, d, c⟩ := s
  obtain ⟨h1, h2, h3⟩ := ih
  dsimp only at h1 h2 h3
  unfold refStep
  have hmx : x ∈ l ++ [x] := by simp
  by_cases hx : hitB h b x = true
  · rw [if_pos hx]
    refine ⟨⟨fun _ => ⟨x, hmx, hx⟩, fun _ => rfl⟩, ?_, fun _ => ?_⟩
    · dsimp only
      rw [Bool.or_eq_true, h2]
      constructor
      · rintro (⟨r, h4, h5⟩ | h4)
        · exact ⟨r, List.mem_append_left _ h4, h5⟩
        · exact ⟨x, hmx, hx, h4⟩
      · rintro ⟨r, h4, h5⟩
        rcases List.mem_append.1 h4 with h6 | h6
        · exact .inl ⟨r, h6, h5⟩
        · rw [List.mem_singleton.1 h6] at h5; exact .inr h5.2
    · dsimp only
      by_cases hc : f = false ∨ x.m < c
      · rw [if_pos hc]
        refine ⟨⟨x, hmx, hx, rfl⟩, fun r hr hh => ?_⟩
        rcases List.mem_append.1 hr with h6 | h6
        · rcases hc with h7 | h7
          · have := h1.2 ⟨r, h6, hh⟩; rw [h7] at this; cases this
          · have hf := h1.2 ⟨r, h6, hh⟩
            have := (h3 hf).2 r h6 hh; omega
        · rw [List.mem_singleton.1 h6]; omega
      · rw [if_neg hc]
        have hf : f = true := by cases f; exact absurd (.inl rfl) hc; rfl
        have hge : ¬ x.m < c := fun h => hc (.inr h)
        obtain ⟨⟨r, h4, h5, h6⟩, h7⟩ := h3 hf
        refine ⟨⟨r, List.mem_append_left _ h4, h5, h6⟩, fun r hr hh => ?_⟩
        rcases List.mem_append.1 hr with h8 | h8
        · exact h7 r h8 hh
        · rw [List.mem_singleton.1 h8]; omega
  · rw [if_neg hx]
    have hall : ∀ r ∈ l ++ [x], hitB h b r = true → r ∈ l := fun r hr hl => by
      rcases List.mem_append.1 hr with h1 | h1
      · exact h1
      · rw [List.mem_singleton.1 h1] at hl; exact absurd hl hx
    refine ⟨h1.trans ⟨fun ⟨r, h4, h5⟩ => ⟨r, List.mem_append_left _ h4, h5⟩, fun ⟨r, h4, h5⟩ => ⟨r, hall r h4 h5, h5⟩⟩, h2.trans ⟨fun ⟨r, h4, h5⟩ => ⟨r, List.mem_append_left _ h4, h5⟩, fun ⟨r, h4, h5⟩ => ⟨r, hall r h4 h5.1, h5⟩⟩, fun hf => ?_⟩
    obtain ⟨⟨r, h4, h5⟩, h7⟩ := h3 hf
    exact ⟨⟨r, List.mem_append_left _ h4, h5⟩, fun r hr hh => h7 r (hall r hr hh) hh⟩
theorem hit_iff {h b : Int} {r : Rte} : hitB h b r = true ↔ r.p.b = b ∧ leadB h r = true := by unfold hitB; simp
theorem useRN_spec (h : Int) (l : List Rte) (n : Nat) : ∀ m : Nat, (∀ r ∈ l, leadB h r = true → r.p.b < (m : Int)) → m ≤ n → useRN h l n = useRN h l m := by
  induction n with
  | zero => intro m _ hm; rw [Nat.le_zero.1 hm]
  | succ n ih =>
    intro m hm hle
    by_cases e : m = n + 1
    · rw [e]
    · rw [← ih m hm (by omega)]
      have hno : (refF h n l).1 = false := by
        cases hf : (refF h n l).1 with
        | false => rfl
        | true =>
          obtain ⟨r, h1, h2⟩ := (refF_ok h n l).1.1 hf
          obtain ⟨h3, h4⟩ := hit_iff.1 h2
          have := hm r h1 h4; omega
      rw [useRN, if_neg (by rw [hno]; simp), if_neg (by rw [hno]; simp)]
theorem use_eq (a : Adv) (l : List Rte) : useR a l = useP a l := by
  unfold useR useP
  by_cases hs : a.ses = -1
  · rw [if_pos hs, if_pos hs]
  rw [if_neg hs, if_neg hs]
  have U := useF_ok a.hop l
  generalize useF a.hop l = s at U
  obtain ⟨b, c, k⟩ := s
  rcases U with ⟨h1, h2⟩ | ⟨h1, h1', ⟨r0, h2, h3, h3', h3''⟩, h4, h5, h6⟩
  · cases h1
    rw [useRN_spec a.hop l 33 0 (fun r hr hl => by have := h2 r hr; rw [hl] at this; cases this) (by omega)]
    rfl
  · dsimp only at *
    obtain ⟨n, rfl⟩ := Int.eq_ofNat_of_zero_le h1
    rw [useRN_spec a.hop l 33 (n + 1) (fun r hr hl => by have := h4 r hr hl; omega) (by omega), useRN]
    have R := refF_ok a.hop n l
    generalize refF a.hop n l = t at R
    obtain ⟨f, d, m⟩ := t
    obtain ⟨q1, q2, q3⟩ := R
    dsimp only at *
    have hf : f = true := q1.2 ⟨r0, h2, hit_iff.2 ⟨h3', h3⟩⟩
    subst hf
    obtain ⟨⟨r1, q4, q5, q6⟩, q7⟩ := q3 rfl
    have hm : m = c := by
      have e1 := h5 r1 q4 (hit_iff.1 q5).2 (hit_iff.1 q5).1
      have e2 := q7 r0 h2 (hit_iff.2 ⟨h3', h3⟩)
      omega
    subst hm
    have hd : d = true ↔ k = false := by
      rw [q2]
      constructor
      · rintro ⟨r, g1, g2, g3⟩
        cases k with
        | false => rfl
        | true => have := h6.1 rfl r g1 (hit_iff.1 g2).2 (hit_iff.1 g2).1; rw [this] at g3; cases g3
      · intro hk
        have : ¬ ∀ r ∈ l, leadB a.hop r = true → r.p.b = n → r.x = false := fun h => by have := h6.2 h; rw [hk] at this; cases this
        simp only [Classical.not_forall] at this
        obtain ⟨r, g1, g2, g3, g4⟩ := this
        exact ⟨r, g1, hit_iff.2 ⟨g3, g2⟩, by simpa using g4⟩
    cases d with
    | true => rw [if_pos ⟨rfl, rfl⟩, hd.1 rfl]; rfl
    | false =>
      have : k = true := by cases k; exact absurd (hd.2 rfl) (by simp); rfl
      rw [if_neg (by simp), if_pos rfl, if_pos this]
end Go.Proofs.Ytblgdfcijkaimaa

namespace Go.Proofs.Ytblgdfcijkaimaa
set_option linter.unusedVariables false

def bInt (b : Bool) : Int := if b then 1 else 0
def idn (a : Adv) : Int := if a.orig ≠ 0 then a.orig else a.pid
def ordL (a b : Adv) (x y : Int) : List Int := [c2 b.pref a.pref, c2 a.path.length b.path.length, c2 a.met b.met, bInt b.ext - bInt a.ext, c2 x y, c2 (idn a) (idn b), c2 a.clus.length b.clus.length, c2 a.peer b.peer, c2 a.ses b.ses]
def ordT (a b : Adv) (x y : Int) : Int := if a.ses = -1 ∨ b.ses = -1 then bInt (decide (a.ses ≠ -1)) - bInt (decide (b.ses ≠ -1)) else firstI (ordL a b x y)
def betR (a b : Adv) (x y : Int) : Bool :=
  if a.ses = -1 ∨ b.ses = -1 then decide (a.ses = -1) && decide (b.ses ≠ -1) else
  if a.pref ≠ b.pref then decide (b.pref < a.pref) else
  if a.path.length ≠ b.path.length then decide (a.path.length < b.path.length) else
  if a.met ≠ b.met then decide (a.met < b.met) else
  if a.ext ≠ b.ext then a.ext else
  if x ≠ y then decide (x < y) else
  if idn a ≠ idn b then decide (idn a < idn b) else
  if a.clus.length ≠ b.clus.length then decide (a.clus.length < b.clus.length) else
  if a.peer ≠ b.peer then decide (a.peer < b.peer) else decide (a.ses < b.ses)
theorem firstI_lt (u v : Int) (r : List Int) : firstI (c2 u v :: r) < 0 ↔ u < v ∨ u = v ∧ firstI r < 0 := by
  rw [firstI]
  by_cases h : u = v
  · rw [if_pos (c2_zero.2 h)]; omega
  · rw [if_neg (fun e => h (c2_zero.1 e)), c2_lt]; omega
theorem firstI_eb (a b : Bool) (r : List Int) : firstI ((bInt b - bInt a) :: r) < 0 ↔ (a = true ∧ b = false) ∨ a = b ∧ firstI r < 0 := by
  rw [firstI]
  cases a <;> cases b <;> simp [bInt]
theorem ordT_lt (a b : Adv) (x y : Int) : ordT a b x y < 0 ↔ betR a b x y = true := by
  unfold ordT betR
  by_cases hs : a.ses = -1 ∨ b.ses = -1
  · rw [if_pos hs, if_pos hs]
    by_cases h1 : a.ses = -1 <;> by_cases h2 : b.ses = -1 <;> simp [h1, h2, bInt]
  rw [if_neg hs, if_neg hs]
  unfold ordL
  rw [firstI_lt]
  by_cases h1 : a.pref = b.pref
  rotate_left
  · rw [if_pos h1, decide_eq_true_eq]; omega
  rw [if_neg (by simpa using h1), firstI_lt]
  by_cases h2 : a.path.length = b.path.length
  rotate_left
  · rw [if_pos h2, decide_eq_true_eq]; omega
  rw [if_neg (by simpa using h2), firstI_lt]
  by_cases h3 : a.met = b.met
  rotate_left
  · rw [if_pos h3, decide_eq_true_eq]; omega
  rw [if_neg (by simpa using h3), firstI_eb]
  by_cases h4 : a.ext = b.ext
  rotate_left
  · rw [if_pos h4]
    cases ha : a.ext <;> cases hb : b.ext <;> simp_all
  rw [if_neg (by simpa using h4), firstI_lt]
  have h4' : ∀ q : Prop, ((a.ext = true ∧ b.ext = false) ∨ a.ext = b.ext ∧ q) ↔ q := fun q => by
    rw [h4]; cases b.ext <;> simp
  rw [h4']
  by_cases h5 : x = y
  rotate_left
  · rw [if_pos h5, decide_eq_true_eq]; omega
  rw [if_neg (by simpa using h5), firstI_lt]
  by_cases h6 : idn a = idn b
  rotate_left
  · rw [if_pos h6, decide_eq_true_eq]; omega
  rw [if_neg (by simpa using h6), firstI_lt]
  by_cases h7 : a.clus.length = b.clus.length
  rotate_left
  · rw [if_pos h7, decide_eq_true_eq]; omega
  rw [if_neg (by simpa using h7), firstI_lt]
  by_cases h8 : a.peer = b.peer
  rotate_left
  · rw [if_pos h8, decide_eq_true_eq]; omega
  rw [if_neg (by simpa using h8), firstI_lt, decide_eq_true_eq]
  have : ¬ (firstI [] < 0) := by decide
  omega

abbrev Itm := Adv × Int
def kk (f : Itm → Int) (x : Itm) : Int := if x.1.ses = -1 then 0 else f x
def bord : Itm → Itm → Int :=
  lexc (fun x y => c2 (kk (fun _ => 1) x) (kk (fun _ => 1) y)) (lexc (fun x y => c2 (kk (fun x => - x.1.pref) x) (kk (fun x => - x.1.pref) y)) (lexc (fun x y => c2 (kk (fun x => x.1.path.length) x) (kk (fun x => x.1.path.length) y))
  (lexc (fun x y => c2 (kk (fun x => x.1.met) x) (kk (fun x => x.1.met) y)) (lexc (fun x y => c2 (kk (fun x => - bInt x.1.ext) x) (kk (fun x => - bInt x.1.ext) y)) (lexc (fun x y => c2 (kk (fun x => x.2) x) (kk (fun x => x.2) y))
  (lexc (fun x y => c2 (kk (fun x => idn x.1) x) (kk (fun x => idn x.1) y)) (lexc (fun x y => c2 (kk (fun x => x.1.clus.length) x) (kk (fun x => x.1.clus.length) y)) (lexc (fun x y => c2 (kk (fun x => x.1.peer) x) (kk (fun x => x.1.peer) y))
  (fun x y => c2 (kk (fun x => x.1.ses) x) (kk (fun x => x.1.ses) y))))))))))
theorem good_bord : Good bord :=
  (good_c2.of _).lex ((good_c2.of _).lex ((good_c2.of _).lex ((good_c2.of _).lex ((good_c2.of _).lex ((good_c2.of _).lex ((good_c2.of _).lex ((good_c2.of _).lex ((good_c2.of _).lex (good_c2.of _)))))))))
theorem lvl_eq {u v : Int} {Q : Prop} (h : u = v) : (u < v ∨ u = v ∧ Q) ↔ Q := by
  constructor
  · rintro (h1 | h1)
    · omega
    · exact h1.2
  · intro h1; exact .inr ⟨h, h1⟩
theorem lvl_ne {u v : Int} {Q : Prop} (h : u ≠ v) : (u < v ∨ u = v ∧ Q) ↔ u < v := by
  constructor
  · rintro (h1 | h1)
    · exact h1
    · exact absurd h1.1 h
  · intro h1; exact .inl h1
theorem bord_lt (a b : Adv) (x y : Int) : bord (a, x) (b, y) < 0 ↔ ordT a b x y < 0 := by
  rw [ordT_lt]
  unfold bord betR
  simp only [lexc_lt, c2_lt, c2_zero, kk]
  by_cases h1 : a.ses = -1 <;> by_cases h2 : b.ses = -1
  · simp [h1, h2]
  · simp [h1, h2]
  · simp [h1, h2]
  · simp only [if_neg h1, if_neg h2]
    rw [if_neg (show ¬ (a.ses = -1 ∨ b.ses = -1) by omega)]
    have he : ∀ p q : Bool, ((- bInt p < - bInt q) ↔ p = true ∧ q = false) ∧ ((- bInt p = - bInt q) ↔ p = q) := by decide
    have h11 : ∀ Q : Prop, ((1 : Int) < 1 ∨ True ∧ Q) ↔ Q := fun Q => by simp
    rw [h11]
    by_cases g1 : a.pref = b.pref
    rotate_left
    · rw [if_pos g1, decide_eq_true_eq, lvl_ne (by omega)]; omega
    rw [if_neg (by simpa using g1), lvl_eq (by omega)]
    by_cases g2 : a.path.length = b.path.length
    rotate_left
    · rw [if_pos g2, decide_eq_true_eq, lvl_ne (by omega)]; omega
    rw [if_neg (by simpa using g2), lvl_eq (by omega)]
    by_cases g3 : a.met = b.met
    rotate_left
    · rw [if_pos g3, decide_eq_true_eq, lvl_ne (by omega)]
    rw [if_neg (by simpa using g3), lvl_eq (by omega)]
    by_cases g4 : a.ext = b.ext
    rotate_left
    · have e : ∀ p q : Bool, p ≠ q → ((p = true ∧ q = false) ↔ p = true) := by decide
      rw [if_pos g4, lvl_ne (fun h => g4 ((he _ _).2.1 h)), (he _ _).1, e _ _ g4]
    rw [if_neg (by simpa using g4), lvl_eq ((he _ _).2.2 g4)]
    by_cases g5 : x = y
    rotate_left
    · rw [if_pos g5, decide_eq_true_eq, lvl_ne (by omega)]
    rw [if_neg (by simpa using g5), lvl_eq (by omega)]
    by_cases g6 : idn a = idn b
    rotate_left
    · rw [if_pos g6, decide_eq_true_eq, lvl_ne (by omega)]
    rw [if_neg (by simpa using g6), lvl_eq (by omega)]
    by_cases g7 : a.clus.length = b.clus.length
    rotate_left
    · rw [if_pos g7, decide_eq_true_eq, lvl_ne (by omega)]; omega
    rw [if_neg (by simpa using g7), lvl_eq (by omega)]
    by_cases g8 : a.peer = b.peer
    rotate_left
    · rw [if_pos g8, decide_eq_true_eq, lvl_ne (by omega)]
    rw [if_neg (by simpa using g8), decide_eq_true_eq, lvl_eq (by omega)]

def Mn (U : List Itm) (x : Itm) : Prop := ∀ y ∈ U, y.1.p = x.1.p → 0 ≤ bord y x
def FM (U : List Itm) (b : Itm) : Prop := ∃ i : Nat, U[i]? = some b ∧ Mn U b ∧ ∀ j : Nat, j < i → ∀ y, U[j]? = some y → y.1.p = b.1.p → ¬ Mn U y
theorem FM.uniq {U : List Itm} {b c : Itm} (h1 : FM U b) (h2 : FM U c) (hp : b.1.p = c.1.p) : b = c := by
  obtain ⟨i, a1, a2, a3⟩ := h1
  obtain ⟨j, b1, b2, b3⟩ := h2
  rcases Nat.lt_trichotomy i j with h | h | h
  · exact absurd a2 (b3 i h b a1 hp)
  · subst h; rw [a1] at b1; exact Option.some.inj b1
  · exact absurd b2 (a3 j h c b1 hp.symm)
def bestStep (p : Pfx) (o : Option Itm) (x : Itm) : Option Itm := if x.1.p = p then (match o with | none => some x | some b => if bord x b < 0 then some x else some b) else o
def bestO (p : Pfx) (U : List Itm) : Option Itm := U.foldl (bestStep p) none
theorem bestO_snoc (p : Pfx) (U : List Itm) (x : Itm) : bestO p (U ++ [x]) = bestStep p (bestO p U) x := by unfold bestO; rw [List.foldl_append]; rfl
theorem bestO_none (p : Pfx) (U : List Itm) : bestO p U = none ↔ ∀ x ∈ U, x.1.p ≠ p := by
  refine snoc_ind (P := fun U => bestO p U = none ↔ ∀ x ∈ U, x.1.p ≠ p) (by simp [bestO]) (fun U x ih => ?_) U
  rw [bestO_snoc]
  unfold bestStep
  by_cases hx : x.1.p = p
  · rw [if_pos hx]
    constructor
    · intro h; split at h
      · cases h
      · split at h <;> cases h
    · intro h; exact absurd hx (h x (by simp))
  · rw [if_neg hx, ih]
    constructor
    · intro h y hy
      rcases List.mem_append.1 hy with h1 | h1
      · exact h y h1
      · rw [List.mem_singleton.1 h1]; exact hx
    · intro h y hy; exact h y (List.mem_append_left _ hy)
theorem bestO_FM (p : Pfx) (U : List Itm) : ∀ b, bestO p U = some b → b.1.p = p ∧ FM U b := by
  refine snoc_ind (P := fun U => ∀ b, bestO p U = some b → b.1.p = p ∧ FM U b) (fun b h => by simp [bestO] at h) (fun U x ih => ?_) U
  intro b hb
  rw [bestO_snoc] at hb
  unfold bestStep at hb
  have hlast : (U ++ [x])[U.length]? = some x := by simp
  by_cases hx : x.1.p = p
  · rw [if_pos hx] at hb
    cases ho : bestO p U with
    | none =>
      rw [ho] at hb
      cases hb
      have hno := (bestO_none p U).1 ho
      refine ⟨hx, U.length, hlast, fun y hy he => ?_, fun j hj y hy he => ?_⟩
      · rcases List.mem_append.1 hy with h1 | h1
        · exact absurd (he.trans hx) (hno y h1)
        · rw [List.mem_singleton.1 h1, good_bord.refl]; omega
      · rw [List.getElem?_append_left hj] at hy
        exact absurd (he.trans hx) (hno y (List.mem_of_getElem? hy))
    | some c =>
      rw [ho] at hb
      obtain ⟨hc, i, hi, hm, hf⟩ := ih c ho
      dsimp only at hb
      by_cases hlt : bord x c < 0
      · rw [if_pos hlt] at hb
        cases hb
        refine ⟨hx, U.length, hlast, fun y hy he => ?_, fun j hj y hy he hmn => ?_⟩
        · rcases List.mem_append.1 hy with h1 | h1
          · have h2 := hm y h1 (he.trans (hx.trans hc.symm))
            have h3 := good_bord.anti y c
            have := good_bord.lt_le hlt (z := y) (by have := good_bord.anti c y; omega)
            have := good_bord.anti x y
            omega
          · rw [List.mem_singleton.1 h1, good_bord.refl]; omega
        · rw [List.getElem?_append_left hj] at hy
          have h1 := hm y (List.mem_of_getElem? hy) (he.trans (hx.trans hc.symm))
          have h2 := hmn x (by simp) he.symm
          have := good_bord.lt_le hlt (z := y) (by have := good_bord.anti c y; omega)
          omega
      · rw [if_neg hlt] at hb
        cases hb
        refine ⟨hc, i, ?_, fun y hy he => ?_, fun j hj y hy he hmn => ?_⟩
        · rw [List.getElem?_append_left (List.getElem?_eq_some_iff.1 hi).1]; exact hi
        · rcases List.mem_append.1 hy with h1 | h1
          · exact hm y h1 he
          · rw [List.mem_singleton.1 h1]; omega
        · have hjl : j < U.length := Nat.lt_trans hj (List.getElem?_eq_some_iff.1 hi).1
          rw [List.getElem?_append_left hjl] at hy
          exact hf j hj y hy he fun z hz hze => hmn z (List.mem_append_left _ hz) hze
  · rw [if_neg hx] at hb
    obtain ⟨hc, i, hi, hm, hf⟩ := ih b hb
    refine ⟨hc, i, ?_, fun y hy he => ?_, fun j hj y hy he hmn => ?_⟩
    · rw [List.getElem?_append_left (List.getElem?_eq_some_iff.1 hi).1]; exact hi
    · rcases List.mem_append.1 hy with h1 | h1
      · exact hm y h1 he
      · rw [List.mem_singleton.1 h1] at he; exact absurd (he.trans hc) hx
    · have hjl : j < U.length := Nat.lt_trans hj (List.getElem?_eq_some_iff.1 hi).1
      rw [List.getElem?_append_left hjl] at hy
      exact hf j hj y hy he fun z hz hze => hmn z (List.mem_append_left _ hz) hze
theorem FM.best {U : List Itm} {b : Itm} (h : FM U b) : bestO b.1.p U = some b := by
  cases ho : bestO b.1.p U with
  | none =>
    obtain ⟨i, hi, _⟩ := h
    exact absurd rfl ((bestO_none _ _).1 ho b (List.mem_of_getElem? hi))
  | some c =>
    obtain ⟨h1, h2⟩ := bestO_FM _ _ c ho
    rw [FM.uniq h2 h h1]
def cmpA (x y : Adv) : Int := cmpP x.p y.p
theorem good_cmpA : Good cmpA := good_pfx.of _
structure BestOk (U : List Itm) (R : List Adv) : Prop where
  rise : Rising cmpA R
  mem : ∀ a, a ∈ R ↔ ∃ c, FM U (a, c)
theorem BestOk.uniq {U : List Itm} {R S : List Adv} (h1 : BestOk U R) (h2 : BestOk U S) : R = S := rising_ext good_cmpA h1.rise h2.rise fun a => (h1.mem a).trans (h2.mem a).symm
def useL (r : List Rte) (l : List Adv) : List Itm := l.filterMap fun a => if (useP a r).2 = true then some (a, (useP a r).1) else none
theorem useL_take (r : List Rte) (l : List Adv) (k : Nat) (hk : k < l.length) : useL r (l.take (k + 1)) = useL r (l.take k) ++ (if (useP l[k] r).2 = true then [(l[k], (useP l[k] r).1)] else []) := by
  unfold useL
  rw [List.take_succ_eq_append_getElem hk, List.filterMap_append]
  congr 1
  simp only [List.filterMap_cons, List.filterMap_nil]
  split
  · rename_i h; split at h
    · cases h
    · rename_i h2; rw [if_neg h2]
  · rename_i h; split at h
    · rename_i h2; cases h; rw [if_pos h2]
    · cases h
theorem useL_mem {r : List Rte} {l : List Adv} {x : Itm} : x ∈ useL r l ↔ x.1 ∈ l ∧ useP x.1 r = (x.2, true) := by
  unfold useL
  rw [List.mem_filterMap]
  constructor
  · rintro ⟨a, ha, h⟩
    split at h
    · rename_i h2; cases h; exact ⟨ha, by rw [← h2]⟩
    · cases h
  · intro ⟨h1, h2⟩
    exact ⟨x.1, h1, by rw [h2, if_pos rfl]⟩

structure BestR (U V : List Itm) (out : List Adv) : Prop where
  rise : Rising cmpA out
  sub : ∀ a ∈ out, ∃ c, FM U (a, c)
  all : ∀ x ∈ V, Mn U x → ∃ a ∈ out, a.p = x.1.p
theorem BestR.nil (U : List Itm) : BestR U [] [] := ⟨.nil, by simp, by simp⟩
theorem BestR.skip {U V W : List Itm} {out : List Adv} {x : Itm} (h : BestR U V out) (hU : U = V ++ [x] ++ W) (hx : (∃ a ∈ out, a.p = x.1.p) ∨ ¬ Mn U x) : BestR U (V ++ [x]) out :=
  ⟨h.rise, h.sub, fun y hy hm => by
    rcases List.mem_append.1 hy with h1 | h1
    · exact h.all y h1 hm
    · rw [List.mem_singleton.1 h1] at hm ⊢
      rcases hx with h2 | h2
      · exact h2
      · exact absurd hm h2⟩
theorem ins_rising {out : List Adv} {a : Adv} {k : Nat} (h : Rising cmpA out) (hp : ∀ y ∈ out, y.p ≠ a.p) (hk : k ≤ out.length) (h1 : ∀ (i : Nat) (hi : i < out.length), i < k → cmpP out[i].p a.p < 0) (h2 : ∀ hk2 : k < out.length, ¬ cmpP out[k].p a.p < 0) :
    Rising cmpA (out.take k ++ [a] ++ out.drop k) := by
  unfold Rising at h ⊢
  have hdrop : ∀ y ∈ out.drop k, cmpP a.p y.p < 0 := fun y hy => by
    obtain ⟨j, hj⟩ := List.mem_iff_getElem?.1 hy
    rw [List.getElem?_drop] at hj
    obtain ⟨hlt, he⟩ := List.getElem?_eq_some_iff.1 hj
    have hk2 : k < out.length := by omega
    have h3 := h2 hk2
    have h4 : cmpP out[k].p a.p ≠ 0 := fun e => hp _ (List.getElem_mem hk2) (pfx_zero e)
    have h5 := good_pfx.anti out[k].p a.p
    rcases Nat.eq_zero_or_pos j with h6 | h6
    · subst h6; simp only [Nat.add_zero] at he; rw [← he]; omega
    · have h7 := List.pairwise_iff_getElem.1 h k (k + j) hk2 hlt (by omega)
      rw [he] at h7
      exact good_pfx.lt_lt (by omega) h7
  have htake : ∀ y ∈ out.take k, cmpP y.p a.p < 0 := fun y hy => by
    obtain ⟨j, hj⟩ := List.mem_iff_getElem?.1 hy
    rw [List.getElem?_take] at hj
    split at hj
    · rename_i hjk
      obtain ⟨hlt, he⟩ := List.getElem?_eq_some_iff.1 hj
      rw [← he]; exact h1 j hlt hjk
    · cases hj
  rw [List.pairwise_append, List.pairwise_append]
  refine ⟨⟨h.sublist (List.take_sublist _ _), List.pairwise_singleton _ _, fun x hx y hy => ?_⟩, h.sublist (List.drop_sublist _ _), fun x hx y hy => ?_⟩
  · rw [List.mem_singleton.1 hy]; exact htake x hx
  · rcases List.mem_append.1 hx with h3 | h3
    · exact good_pfx.lt_lt (htake x h3) (hdrop y hy)
    · rw [List.mem_singleton.1 h3]; exact hdrop y hy
theorem BestR.put {U V W : List Itm} {out : List Adv} {x : Itm} {k : Nat} (h : BestR U V out) (hU : U = V ++ [x] ++ W) (hm : Mn U x) (hp : ∀ y ∈ out, y.p ≠ x.1.p) (hk : k ≤ out.length) (h1 : ∀ (i : Nat) (hi : i < out.length), i < k → cmpP out[i].p x.1.p < 0) (h2 : ∀ hk2 : k < out.length, ¬ cmpP out[k].p x.1.p < 0) :
    BestR U (V ++ [x]) (out.take k ++ [x.1] ++ out.drop k) := by
  have hmem : ∀ y, y ∈ out.take k ++ [x.1] ++ out.drop k ↔ y ∈ out ∨ y = x.1 := fun y => by
    rw [List.mem_append, List.mem_append, List.mem_singleton]
    have : y ∈ out ↔ y ∈ out.take k ∨ y ∈ out.drop k := by rw [← List.mem_append, List.take_append_drop]
    rw [this]
    constructor
    · rintro ((h | h) | h)
      · exact .inl (.inl h)
      · exact .inr h
      · exact .inl (.inr h)
    · rintro ((h | h) | h)
      · exact .inl (.inl h)
      · exact .inr h
      · exact .inl (.inr h)
  refine ⟨ins_rising h.rise hp hk h1 h2, fun a ha => ?_, fun y hy hmy => ?_⟩
  · rcases (hmem a).1 ha with h3 | h3
    · exact h.sub a h3
    · subst h3
      refine ⟨x.2, V.length, by rw [hU]; simp, hm, fun j hj y hy he hmn => ?_⟩
      have hyV : y ∈ V := by
        rw [hU, List.append_assoc, List.getElem?_append_left hj] at hy
        exact List.mem_of_getElem? hy
      obtain ⟨a, ha2, hap⟩ := h.all y hyV hmn
      exact hp a ha2 (hap.trans he)
  · rcases List.mem_append.1 hy with h3 | h3
    · obtain ⟨a, ha, hap⟩ := h.all y h3 hmy
      exact ⟨a, (hmem a).2 (.inl ha), hap⟩
    · rw [List.mem_singleton.1 h3]
      exact ⟨x.1, (hmem _).2 (.inr rfl), rfl⟩
theorem BestR.done {U : List Itm} {out : List Adv} (h : BestR U U out) : BestOk U out :=
  ⟨h.rise, fun a => ⟨h.sub a, fun ⟨c, hf⟩ => by
    obtain ⟨i, h1, h2, h3⟩ := hf
    obtain ⟨b, hb, hbp⟩ := h.all _ (List.mem_of_getElem? h1) h2
    obtain ⟨d, hd⟩ := h.sub b hb
    have := FM.uniq hd ⟨i, h1, h2, h3⟩ hbp
    cases this
    exact hb⟩⟩
end Go.Proofs.Ytblgdfcijkaimaa

namespace Go.Proofs.Ytblgdfcijkaimaa.Ab
set_option linter.unusedVariables false
set_option maxRecDepth 100000
open Go.RowKit
section
variable {P : Program} {nt : Nat} {Q : Post} {e : Env} {h : Heap} {ops : Array Oper} {o : Oper} {rest : List Oper} {T : List Nat} {fuel i : Nat} {listed : Array Bool}
end
end Go.Proofs.Ytblgdfcijkaimaa.Ab

namespace Go.Proofs.Ytblgdfcijkaimaa.Ab
set_option linter.unusedVariables false
open Go.RowKit
def lendW (h : Heap) : AVal → AVal
  | .agg cs => .agg (cs.map (lendV h))
  | c => lendV h c
section
variable {P : Program} {nt : Nat} {Q : Post} {e : Env} {h : Heap} {ops : Array Oper} {o : Oper} {rest : List Oper} {T : List Nat} {tab : TTab}
end
end Go.Proofs.Ytblgdfcijkaimaa.Ab

namespace Go.Proofs.Ytblgdfcijkaimaa.Ab
set_option linter.unusedVariables false
open Go.RowKit

open Classical in
noncomputable def invN (ν : List (Nat × Nat)) (i : Nat) : Option Nat := if h : ∃ p, look ν p = some i then some (Classical.choose h) else none
theorem invN_some {ν : List (Nat × Nat)} {i p : Nat} (h : invN ν i = some p) : look ν p = some i := by
  unfold invN at h
  split at h
  · rename_i h2
    cases h
    exact Classical.choose_spec h2
  · cases h
theorem invN_none {ν : List (Nat × Nat)} {i : Nat} (h : invN ν i = none) (p : Nat) : look ν p ≠ some i := fun hp => by
  unfold invN at h
  rw [dif_pos ⟨p, hp⟩] at h
  cases h
theorem invN_of {ν : List (Nat × Nat)} (hinj : ∀ p p' i, look ν p = some i → look ν p' = some i → p = p') {i p : Nat} (h : look ν p = some i) : invN ν i = some p := by
  cases h2 : invN ν i with
  | none => exact absurd h (invN_none h2 p)
  | some q => rw [hinj p q i h (invN_some h2)]
theorem look_mem2 {ν : List (Nat × Nat)} {p i : Nat} (h : look ν p = some i) : i ∈ ν.map (·.2) := by
  induction ν with
  | nil => cases h
  | cons q r ih =>
    obtain ⟨a, b⟩ := q
    by_cases ha : a = p
    · subst ha; rw [look_cons_same] at h; cases h; simp
    · rw [look_cons_ne _ _ ha] at h; have := ih h; simp at this ⊢; exact .inr this
theorem mem2_look {ν : List (Nat × Nat)} (hn : (ν.map (·.1)).Nodup) {i : Nat} (h : i ∈ ν.map (·.2)) : ∃ p, look ν p = some i := by
  induction ν with
  | nil => simp at h
  | cons q r ih =>
    obtain ⟨a, b⟩ := q
    rw [List.map_cons, List.nodup_cons] at hn
    rcases List.mem_cons.1 h with h1 | h1
    · exact ⟨a, by rw [h1]; exact look_cons_same _ _ _⟩
    · obtain ⟨p, hp⟩ := ih hn.2 h1
      refine ⟨p, ?_⟩
      rw [look_cons_ne _ _ ?_]
      · exact hp
      · rintro rfl
        refine hn.1 ?_
        have : ∀ (r : List (Nat × Nat)), look r a = some i → a ∈ r.map (·.1) := by
          intro r
          induction r with
          | nil => intro h; cases h
          | cons q r ih =>
            intro h
            by_cases hq : q.1 = a
            · rw [← hq]; simp
            · have e : look (q :: r) a = look r a := look_cons_ne _ _ hq
              rw [e] at h
              exact List.mem_cons_of_mem _ (ih h)
        exact this r hp
end Go.Proofs.Ytblgdfcijkaimaa.Ab

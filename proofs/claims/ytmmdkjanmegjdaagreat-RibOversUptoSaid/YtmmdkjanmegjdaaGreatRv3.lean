/-
 Texts of a proof, one behind the other (part 4).
-/
import Derived.Deep.Slices
import Derived.Test.YtmmdkjanmegjdaaGreatRv1
import Derived.Test.YtmmdkjanmegjdaaGreatRv2
set_option linter.unusedVariables false
set_option linter.unusedSimpArgs false
namespace Go.Proofs.YtmmdkjanmegjdaaGreat.Ab
open Go.RowKit Go.ChangeShapes Go.WideShapes Go.ChangeAt
inductive Shp where
 | it (k : IntKind)
 | bo
 | st
 | sl (fs : List Shp) (b : Nat)
inductive ShD : Shp → Dat → Prop where
 | it (k : IntKind) (x : Int) (h : k.min ≤ x ∧ x ≤ k.max) : ShD (.it k) (.sc (.int k x))
 | bo (b : Bool) : ShD .bo (.sc (.bool b))
 | st (l : List UInt8) : ShD .st (.sc (.string ⟨⟨l⟩⟩))
 | sl (fs : List Shp) (b : Nat) (ls : List (List Dat)) (hb : ls.length * b ≤ 140737488351232) (hl : ∀ l ∈ ls, l.length = fs.length) (h : ∀ l ∈ ls, ∀ (i : Nat) (s : Shp) (d : Dat), fs[i]? = some s → l[i]? = some d → ShD s d) : ShD (.sl fs b) (.sl ls.flatten ls.length)
def Fits (fs : List Shp) (l : List Dat) : Prop := l.length = fs.length ∧ ∀ (i : Nat) (s : Shp) (d : Dat), fs[i]? = some s → l[i]? = some d → ShD s d
theorem zZ {l : List Dat} (h : Fits [] l) : l = [] := List.eq_nil_of_length_eq_zero h.1
theorem zh {s : Shp} {fs : List Shp} {l : List Dat} (h : Fits (s :: fs) l) : ∃ d r, l = d :: r ∧ ShD s d ∧ Fits fs r := by
 match l, h with
 | [], h => exact absurd h.1 (by simp)
 | d :: r, h => exact ⟨d, r, rfl, h.2 0 s d rfl rfl, by simpa using h.1, fun i s' d' h1 h2 => h.2 (i + 1) s' d' (by simpa using h1) (by simpa using h2)⟩
theorem zeh {a b : List Shp} {l m : List Dat} (h1 : Fits a l) (h2 : Fits b m) : Fits (a ++ b) (l ++ m) := by
 refine ⟨by simp [h1.1, h2.1], fun i s d e1 e2 => ?_⟩
 rw [List.getElem?_append] at e1 e2
 rw [h1.1] at e2
 split at e1
 ·rename_i hi; rw [if_pos hi] at e2; exact h1.2 i s d e1 e2
 ·rename_i hi; rw [if_neg hi] at e2; exact h2.2 _ s d e1 e2
theorem zf0 {k : IntKind} {d : Dat} (h : ShD (.it k) d) : ∃ x, d = .sc (.int k x) ∧ k.min ≤ x ∧ x ≤ k.max := by cases h with | it _ x h => exact ⟨x, rfl, h⟩
theorem zby {d : Dat} (h : ShD .bo d) : ∃ b, d = .sc (.bool b) := by cases h with | bo b => exact ⟨b, rfl⟩
theorem zaz {d : Dat} (h : ShD .st d) : ∃ l : List UInt8, d = .sc (.string ⟨⟨l⟩⟩) := by cases h with | st l => exact ⟨l, rfl⟩
theorem zau {α : Type} {fs : List Shp} {b : Nat} {d : Dat} (h : ShD (.sl fs b) d) (enc : α → List Dat) (good : α → Prop) (hel : ∀ l, Fits fs l → ∃ x, good x ∧ l = enc x) : ∃ L : List α, L.length * b ≤ 140737488351232 ∧ (∀ x ∈ L, good x) ∧ d = .sl (L.flatMap enc) L.length := by
 cases h with
 | sl _ _ ls hb hl hh =>
  have key : ∀ ls : List (List Dat), (∀ l ∈ ls, Fits fs l) → ∃ L : List α, (∀ x ∈ L, good x) ∧ ls.flatten = L.flatMap enc ∧ ls.length = L.length := by
   intro ls
   induction ls with
   | nil => exact fun _ => ⟨[], by simp, rfl, rfl⟩
   | cons l r ih =>
    intro h
    obtain ⟨L, h1, h2, h3⟩ := ih fun q hq => h q (by simp [hq])
    obtain ⟨x, h4, h5⟩ := hel l (h l (by simp))
    refine ⟨x :: L, fun y hy => ?_, by rw [List.flatten_cons, List.flatMap_cons, h2, h5], by simp [h3]⟩
    rcases List.mem_cons.1 hy with rfl | hy
    ·exact h4
    ·exact h1 y hy
  obtain ⟨L, h1, h2, h3⟩ := key ls fun l hm => ⟨hl l hm, hh l hm⟩
  exact ⟨L, by rw [← h3]; exact hb, h1, by rw [h2, h3]⟩
def shpF (g : TypeId → Option (List Shp)) : List (Nat × TypeId) → List Shp → Option (List Shp)
 | [], acc => some acc
 | (off, t) :: r, acc => match g t with
  | some s => cond (Nat.beq off acc.length) (shpF g r (acc ++ s)) none
  | none => none
def shp (tab : TTab) : Nat → TypeId → Option (List Shp)
 | 0, _ => none
 | n + 1, t => match tlook tab t with
  | some te => match te.sh with
   | .it k => cond (Nat.beq te.size 1) (some [.it k]) none
   | .bo => cond (Nat.beq te.size 1) (some [.bo]) none
   | .str => cond (Nat.beq te.size 1) (some [.st]) none
   | .sl e => match tbytes tab e with
    | some b => match shp tab n e with
     | some (s :: fs) => cond (Nat.beq te.size 1) (some [.sl (s :: fs) b]) none
     | _ => none
    | none => none
   | .st fs => match shpF (shp tab n) fs [] with
    | some l => cond (Nat.beq l.length te.size) (some l) none
    | none => none
   | _ => none
  | none => none
section
variable {H : Type} {enc : TypeId × Value → H} {P : Program} {W : World} {tab : TTab}
def CellsAre (W : World) (Fr : Nat → Prop) (fs : List Shp) (cs : List Value) : Prop := ∃ ds : List Dat, Fits fs ds ∧ cs.length = ds.length ∧ ∀ (i : Nat) (d : Dat) (u : Value), ds[i]? = some d → cs[i]? = some u → DRel W Fr d u
theorem CellsAre.append {Fr : Nat → Prop} {a b : List Shp} {l m : List Value} (h1 : CellsAre W Fr a l) (h2 : CellsAre W Fr b m) : CellsAre W Fr (a ++ b) (l ++ m) := by
 obtain ⟨d1, f1, l1, r1⟩ := h1
 obtain ⟨d2, f2, l2, r2⟩ := h2
 refine ⟨d1 ++ d2, zeh f1 f2, by simp [l1, l2], fun i d u e1 e2 => ?_⟩
 rw [List.getElem?_append] at e1 e2
 rw [l1] at e2
 split at e1
 ·rename_i hi; rw [if_pos hi] at e2; exact r1 i d u e1 e2
 ·rename_i hi; rw [if_neg hi] at e2; exact r2 _ d u e1 e2
theorem CellsAre.one {Fr : Nat → Prop} {s : Shp} {v : Value} {d : Dat} (h1 : ShD s d) (h2 : DRel W Fr d v) : CellsAre W Fr [s] [v] := by
 refine ⟨[d], ⟨rfl, fun i s' d' e1 e2 => ?_⟩, rfl, fun i d' u e1 e2 => ?_⟩
 ·match i with
  | 0 => simp at e1 e2; subst e1 e2; exact h1
  | i + 1 => simp at e1
 ·match i with
  | 0 => simp at e1 e2; subst e1 e2; exact h2
  | i + 1 => simp at e1
theorem ziN {α β : Type} {g : α → Option β} : ∀ {l : List α} {r : List β}, l.mapM g = some r → ∀ (i : Nat) (x : α), l[i]? = some x → ∃ y, g x = some y ∧ r[i]? = some y
 | [], _, _, i, x, hx => by simp at hx
 | a :: l, r, h, i, x, hx => by
  rw [List.mapM_cons] at h
  cases hg : g a with
  | none => simp [hg] at h
  | some b =>
   simp only [hg, Option.bind_eq_bind, Option.bind_some] at h
   cases hl : l.mapM g with
   | none => simp [hl] at h
   | some rs =>
    simp [hl] at h
    subst h
    match i, hx with
    | 0, hx => simp at hx; subst hx; exact ⟨b, hg, rfl⟩
    | i + 1, hx => exact ziN hl i x (by simpa using hx)
theorem zfW {t : TypeId} {fs : Array Field} {cs : List Value} {fuel : Nat} {x : DataW H × List MemPlace} (ht : P.underlying t = some (.struct fs)) (h : DataW.trod enc P W 0 (fun _ => true) true fuel t cs = some x) :
  cs.length = P.cellsOf t ∧ ∃ (n : Nat) (parts : List (DataW H)), x.1 = .agg parts ∧ ∀ (i : Nat) (f : Field), fs.toList[i]? = some f → ∃ y, DataW.trod enc P W 0 (fun _ => true) true n f.type ((cs.drop f.offset).take (P.cellsOf f.type)) = some y ∧ parts[i]? = some y.1 := by
 cases fuel with
 | zero => simp [DataW.trod] at h
 | succ n =>
  unfold DataW.trod at h
  rw [ht] at h
  simp only at h
  split at h
  ·rename_i hl
   cases hm : fs.toList.mapM fun f => DataW.trod enc P W 0 (fun _ => true) true n f.type ((cs.drop f.offset).take (P.cellsOf f.type)) with
   | none => simp [hm] at h
   | some r =>
    simp [hm] at h
    subst h
    refine ⟨hl, n, r.map (·.1), rfl, fun i f hf => ?_⟩
    obtain ⟨y, h1, h2⟩ := ziN hm i f hf
    exact ⟨y, h1, by simp [h2]⟩
  ·cases h
theorem zbR {q : Nat → Bool} {e : TypeId} : ∀ (l : List (DataW H)), (DataW.weightsAll P e l).all q = true → ∀ d ∈ l, (d.weights P e).all q = true
 | [], _, d, hd => by cases hd
 | a :: r, h, d, hd => by
  rw [DataW.weightsAll, List.all_append, Bool.and_eq_true] at h
  rcases List.mem_cons.1 hd with rfl | hd
  ·exact h.1
  ·exact zbR r h.2 d hd
theorem zbz {q : Nat → Bool} : ∀ (ts : List TypeId) (ds : List (DataW H)), (DataW.weightsEach P ts ds).all q = true → ∀ (i : Nat) (t : TypeId) (d : DataW H), ts[i]? = some t → ds[i]? = some d → (d.weights P t).all q = true
 | [], _, _, i, t, d, h, _ => by simp at h
 | _ :: _, [], _, i, t, d, _, h => by simp at h
 | t :: ts, a :: r, h, i, t', d, h1, h2 => by
  rw [DataW.weightsEach, List.all_append, Bool.and_eq_true] at h
  match i, h1, h2 with
  | 0, h1, h2 => simp at h1 h2; subst h1 h2; exact h.1
  | i + 1, h1, h2 => exact zbz ts r h.2 i t' d (by simpa using h1) (by simpa using h2)
theorem TFacts.bytesOf {P : Program} {t : TypeId} {te : TE} (Fa : TFacts P t te) : P.bytesOf t = te.bytes := by
 have h := Fa.info
 unfold Program.bytesOf
 cases hi : P.info? t with
 | none => rw [hi] at h; cases h
 | some i => rw [hi] at h; simp at h; simp [h.2.1]
end
end Go.Proofs.YtmmdkjanmegjdaaGreat.Ab

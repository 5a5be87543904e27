/-
  Texts of a proof, one behind the other (part 3).
-/
import Derived.Deep.Slices
import Derived.Laws.StructEq
import Derived.Test.YtblgdfcijkaimaaProg
import Derived.Deep.MidRow
import Derived.Test.YtblgdfcijkaimaaBg0
import Derived.Test.YtblgdfcijkaimaaBg1
set_option linter.unusedVariables false
set_option linter.unusedSimpArgs false
namespace Go.Proofs.Ytblgdfcijkaimaa.Ab
set_option linter.unusedVariables false
open Go.RowKit Go.ChangeShapes Go.WideShapes Go.ChangeAt
inductive Shp where
  | it (k : IntKind)
  | bo
  | st
  | sl (fs : List Shp) (b : Nat)
inductive ShD : Shp → Dat → Prop where
  | it (k : IntKind) (x : Int) (h : k.min ≤ x ∧ x ≤ k.max) : ShD (.it k) (.sc (.int k x))
  | bo (b : Bool) : ShD .bo (.sc (.bool b))
  | st (l : List UInt8) : ShD .st (.sc (.string ⟨⟨l⟩⟩))
  | sl (fs : List Shp) (b : Nat) (ls : List (List Dat)) (hb : ls.length * b ≤ 140737488351232) (hl : ∀ l ∈ ls, l.length = fs.length) (h : ∀ l ∈ ls, ∀ (i : Nat) (s : Shp) (d : Dat), fs[i]? = some s → l[i]? = some d → ShD s d) : ShD (.sl fs b) (.sl ls.flatten ls.length)
def Fits (fs : List Shp) (l : List Dat) : Prop := l.length = fs.length ∧ ∀ (i : Nat) (s : Shp) (d : Dat), fs[i]? = some s → l[i]? = some d → ShD s d
theorem fits_nil {l : List Dat} (h : Fits [] l) : l = [] := List.eq_nil_of_length_eq_zero h.1
theorem fits_cons {s : Shp} {fs : List Shp} {l : List Dat} (h : Fits (s :: fs) l) : ∃ d r, l = d :: r ∧ ShD s d ∧ Fits fs r := by
  match l, h with
  | [], h => exact absurd h.1 (by simp)
  | d :: r, h => exact ⟨d, r, rfl, h.2 0 s d rfl rfl, by simpa using h.1, fun i s' d' h1 h2 => h.2 (i + 1) s' d' (by simpa using h1) (by simpa using h2)⟩
theorem fits_append {a b : List Shp} {l m : List Dat} (h1 : Fits a l) (h2 : Fits b m) : Fits (a ++ b) (l ++ m) := by
  refine ⟨by simp [h1.1, h2.1], fun i s d e1 e2 => ?_⟩
  rw [List.getElem?_append] at e1 e2
  rw [h1.1] at e2
  split at e1
  · rename_i hi; rw [if_pos hi] at e2; exact h1.2 i s d e1 e2
  · rename_i hi; rw [if_neg hi] at e2; exact h2.2 _ s d e1 e2
theorem shd_int {k : IntKind} {d : Dat} (h : ShD (.it k) d) : ∃ x, d = .sc (.int k x) ∧ k.min ≤ x ∧ x ≤ k.max := by cases h with | it _ x h => exact ⟨x, rfl, h⟩
theorem shd_bo {d : Dat} (h : ShD .bo d) : ∃ b, d = .sc (.bool b) := by cases h with | bo b => exact ⟨b, rfl⟩
theorem shd_st {d : Dat} (h : ShD .st d) : ∃ l : List UInt8, d = .sc (.string ⟨⟨l⟩⟩) := by cases h with | st l => exact ⟨l, rfl⟩
theorem shd_sl {α : Type} {fs : List Shp} {b : Nat} {d : Dat} (h : ShD (.sl fs b) d) (enc : α → List Dat) (good : α → Prop) (hel : ∀ l, Fits fs l → ∃ x, good x ∧ l = enc x) : ∃ L : List α, L.length * b ≤ 140737488351232 ∧ (∀ x ∈ L, good x) ∧ d = .sl (L.flatMap enc) L.length := by
  cases h with
  | sl _ _ ls hb hl hh =>
    have key : ∀ ls : List (List Dat), (∀ l ∈ ls, Fits fs l) → ∃ L : List α, (∀ x ∈ L, good x) ∧ ls.flatten = L.flatMap enc ∧ ls.length = L.length := by
      intro ls
      induction ls with
      | nil => exact fun _ => ⟨[], by simp, rfl, rfl⟩
      | cons l r ih =>
        intro h
        obtain ⟨L, h1, h2, h3⟩ := ih fun q hq => h q (by simp [hq])
        obtain ⟨x, h4, h5⟩ := hel l (h l (by simp))
        refine ⟨x :: L, fun y hy => ?_, by rw [List.flatten_cons, List.flatMap_cons, h2, h5], by simp [h3]⟩
        rcases List.mem_cons.1 hy with rfl | hy
        · exact h4
        · exact h1 y hy
    obtain ⟨L, h1, h2, h3⟩ := key ls fun l hm => ⟨hl l hm, hh l hm⟩
    exact ⟨L, by rw [← h3]; exact hb, h1, by rw [h2, h3]⟩
def shpF (g : TypeId → Option (List Shp)) : List (Nat × TypeId) → List Shp → Option (List Shp)
  | [], acc => some acc
  | (off, t) :: r, acc => match g t with
    | some s => cond (Nat.beq off acc.length) (shpF g r (acc ++ s)) none
    | none => none
def shp (tab : TTab) : Nat → TypeId → Option (List Shp)
  | 0, _ => none
  | n + 1, t => match tlook tab t with
    | some te => match te.sh with
      | .it k => cond (Nat.beq te.size 1) (some [.it k]) none
      | .bo => cond (Nat.beq te.size 1) (some [.bo]) none
      | .str => cond (Nat.beq te.size 1) (some [.st]) none
      | .sl e => match tbytes tab e with
        | some b => match shp tab n e with
          | some (s :: fs) => cond (Nat.beq te.size 1) (some [.sl (s :: fs) b]) none
          | _ => none
        | none => none
      | .st fs => match shpF (shp tab n) fs [] with
        | some l => cond (Nat.beq l.length te.size) (some l) none
        | none => none
      | _ => none
    | none => none
section
variable {H : Type} {enc : TypeId × Value → H} {P : Program} {W : World} {tab : TTab}
def CellsAre (W : World) (Fr : Nat → Prop) (fs : List Shp) (cs : List Value) : Prop := ∃ ds : List Dat, Fits fs ds ∧ cs.length = ds.length ∧ ∀ (i : Nat) (d : Dat) (u : Value), ds[i]? = some d → cs[i]? = some u → DRel W Fr d u
theorem CellsAre.append {Fr : Nat → Prop} {a b : List Shp} {l m : List Value} (h1 : CellsAre W Fr a l) (h2 : CellsAre W Fr b m) : CellsAre W Fr (a ++ b) (l ++ m) := by
  obtain ⟨d1, f1, l1, r1⟩ := h1
  obtain ⟨d2, f2, l2, r2⟩ := h2
  refine ⟨d1 ++ d2, fits_append f1 f2, by simp [l1, l2], fun i d u e1 e2 => ?_⟩
  rw [List.getElem?_append] at e1 e2
  rw [l1] at e2
  split at e1
  · rename_i hi; rw [if_pos hi] at e2; exact r1 i d u e1 e2
  · rename_i hi; rw [if_neg hi] at e2; exact r2 _ d u e1 e2
theorem CellsAre.one {Fr : Nat → Prop} {s : Shp} {v : Value} {d : Dat} (h1 : ShD s d) (h2 : DRel W Fr d v) : CellsAre W Fr [s] [v] := by
  refine ⟨[d], ⟨rfl, fun i s' d' e1 e2 => ?_⟩, rfl, fun i d' u e1 e2 => ?_⟩
  · match i with
    | 0 => simp at e1 e2; subst e1 e2; exact h1
    | i + 1 => simp at e1
  · match i with
    | 0 => simp at e1 e2; subst e1 e2; exact h2
    | i + 1 => simp at e1
theorem mapM_at {α β : Type} {g : α → Option β} : ∀ {l : List α} {r : List β}, l.mapM g = some r → ∀ (i : Nat) (x : α), l[i]? = some x → ∃ y, g x = some y ∧ r[i]? = some y
  | [], _, _, i, x, hx => by simp at hx
  | a :: l, r, h, i, x, hx => by
    rw [List.mapM_cons] at h
    cases hg : g a with
    | none => simp [hg] at h
    | some b =>
      simp only [hg, Option.bind_eq_bind, Option.bind_some] at h
      cases hl : l.mapM g with
      | none => simp [hl] at h
      | some rs =>
        simp [hl] at h
        subst h
        match i, hx with
        | 0, hx => simp at hx; subst hx; exact ⟨b, hg, rfl⟩
        | i + 1, hx => exact mapM_at hl i x (by simpa using hx)
theorem trod_fields2 {t : TypeId} {fs : Array Field} {cs : List Value} {fuel : Nat} {x : DataW H × List MemPlace} (ht : P.underlying t = some (.struct fs)) (h : DataW.trod enc P W 0 (fun _ => true) true fuel t cs = some x) :
    cs.length = P.cellsOf t ∧ ∃ (n : Nat) (parts : List (DataW H)), x.1 = .agg parts ∧ ∀ (i : Nat) (f : Field), fs.toList[i]? = some f → ∃ y, DataW.trod enc P W 0 (fun _ => true) true n f.type ((cs.drop f.offset).take (P.cellsOf f.type)) = some y ∧ parts[i]? = some y.1 := by
  cases fuel with
  | zero => simp [DataW.trod] at h
  | succ n =>
    unfold DataW.trod at h
    rw [ht] at h
    simp only at h
    split at h
    · rename_i hl
      cases hm : fs.toList.mapM fun f => DataW.trod enc P W 0 (fun _ => true) true n f.type ((cs.drop f.offset).take (P.cellsOf f.type)) with
      | none => simp [hm] at h
      | some r =>
        simp [hm] at h
        subst h
        refine ⟨hl, n, r.map (·.1), rfl, fun i f hf => ?_⟩
        obtain ⟨y, h1, h2⟩ := mapM_at hm i f hf
        exact ⟨y, h1, by simp [h2]⟩
    · cases h
theorem all_weightsAll {q : Nat → Bool} {e : TypeId} : ∀ (l : List (DataW H)), (DataW.weightsAll P e l).all q = true → ∀ d ∈ l, (d.weights P e).all q = true
  | [], _, d, hd => by cases hd
  | a :: r, h, d, hd => by
    rw [DataW.weightsAll, List.all_append, Bool.and_eq_true] at h
    rcases List.mem_cons.1 hd with rfl | hd
    · exact h.1
    · exact all_weightsAll r h.2 d hd
theorem all_weightsEach {q : Nat → Bool} : ∀ (ts : List TypeId) (ds : List (DataW H)), (DataW.weightsEach P ts ds).all q = true → ∀ (i : Nat) (t : TypeId) (d : DataW H), ts[i]? = some t → ds[i]? = some d → (d.weights P t).all q = true
  | [], _, _, i, t, d, h, _ => by simp at h
  | _ :: _, [], _, i, t, d, _, h => by simp at h
  | t :: ts, a :: r, h, i, t', d, h1, h2 => by
    rw [DataW.weightsEach, List.all_append, Bool.and_eq_true] at h
    match i, h1, h2 with
    | 0, h1, h2 => simp at h1 h2; subst h1 h2; exact h.1
    | i + 1, h1, h2 => exact all_weightsEach ts r h.2 i t' d (by simpa using h1) (by simpa using h2)
theorem TFacts.bytesOf {P : Program} {t : TypeId} {te : TE} (Fa : TFacts P t te) : P.bytesOf t = te.bytes := by
  have h := Fa.info
  unfold Program.bytesOf
  cases hi : P.info? t with
  | none => rw [hi] at h; cases h
  | some i => rw [hi] at h; simp at h; simp [h.2.1]
theorem shp_read (TO : TabOk P tab) {Fr : Nat → Prop} (hF : ∀ b, Fr b) : ∀ (n : Nat) (t : TypeId) (fs : List Shp) (fl : Nat) (cs : List Value) (y : DataW H × List MemPlace), shp tab n t = some fs →
    DataW.trod enc P W 0 (fun _ => true) true fl t cs = some y → (y.1.weights P t).all (· ≤ reachBytes) = true → P.cellsOf t = fs.length ∧ CellsAre W Fr fs cs := by
  intro n
  induction n with
  | zero => intro t fs fl cs y h; cases h
  | succ n ih =>
    intro t fs fl cs y h hy hwt
    rw [shp] at h
    cases ht : tlook tab t with
    | none => rw [ht] at h; cases h
    | some te =>
      rw [ht] at h
      have Fa := TO t te ht
      have hcells := Fa.cellsOf
      obtain ⟨dsc, hund, _, hsh⟩ := Fa.und
      have one : ∀ {b : Bool} {x z : Option (List Shp)}, cond b x z = some fs → z = none → b = true ∧ x = some fs := fun {b x z} h hz => by
        cases b
        · rw [cond_false, hz] at h; cases h
        · exact ⟨rfl, h⟩
      dsimp only at h
      cases hs : te.sh with
      | it k =>
        rw [hs] at h hsh
        cases hsh
        obtain ⟨h1, h2⟩ := one h rfl
        cases h2
        obtain ⟨v, e1, _, e2⟩ := DataW.trod_int hund hy
        subst e1
        exact ⟨by rw [hcells, Nat.eq_of_beq_eq_true h1]; rfl, .one (.it k v (int_bounds e2)) (.sc _ rfl)⟩
      | bo =>
        rw [hs] at h hsh
        cases hsh
        obtain ⟨h1, h2⟩ := one h rfl
        cases h2
        obtain ⟨v, e1, _⟩ := DataW.trod_bool hund hy
        subst e1
        exact ⟨by rw [hcells, Nat.eq_of_beq_eq_true h1]; rfl, .one (.bo v) (.sc _ rfl)⟩
      | str =>
        rw [hs] at h hsh
        cases hsh
        obtain ⟨h1, h2⟩ := one h rfl
        cases h2
        obtain ⟨v, e1, _⟩ := DataW.trod_string hund hy
        subst e1
        exact ⟨by rw [hcells, Nat.eq_of_beq_eq_true h1]; rfl, .one (.st v.data.toList) (.sc _ rfl)⟩
      | sl e =>
        rw [hs] at h hsh
        cases hsh
        dsimp only at h
        cases hbe : tbytes tab e with
        | none => rw [hbe] at h; cases h
        | some be =>
        rw [hbe] at h
        dsimp only at h
        cases he : shp tab n e with
        | none => rw [he] at h; cases h
        | some es =>
          rw [he] at h
          have hbe2 : P.bytesOf e = be := by
            unfold tbytes at hbe
            cases hte : tlook tab e with
            | none => rw [hte] at hbe; cases hbe
            | some te2 => rw [hte] at hbe; cases hbe; exact (TO e te2 hte).bytesOf
          match es, he, h with
          | [], he, h => cases h
          | s :: ss, he, h =>
            obtain ⟨h1, h2⟩ := one h rfl
            cases h2
            refine ⟨by rw [hcells, Nat.eq_of_beq_eq_true h1]; rfl, ?_⟩
            rcases Go.Deep.open_slice hund hy with ⟨q1, _⟩ | ⟨a, len, cap, m, fl2, D, Pl, q1, _, hle, _, hm, hye, hx⟩
            · subst q1
              exact .one (.sl (s :: ss) be [] (by simp) (by simp) (by simp)) .nil
            · subst q1
              have hm' : m = cap := by rw [hm]; rfl
              subst hm'
              have hwt' := hwt
              rw [hye] at hwt'
              unfold DataW.weights at hwt'
              rw [hund] at hwt'
              simp only [List.all_cons, List.all_append, Bool.and_eq_true, decide_eq_true_eq, List.length_map, List.length_range] at hwt'
              obtain ⟨hbytes, hwE, hwS⟩ := hwt'
              have hlenB : len * be ≤ 140737488351232 := by
                rw [hbe2] at hbytes
                have : len * be ≤ (len + (m - len)) * be := Nat.mul_le_mul_right _ (by omega)
                unfold reachBytes at hbytes
                omega
              have hwD : ∀ i, i < m → ((D i).weights P e).all (· ≤ reachBytes) = true := fun i hi => by
                by_cases hil : i < len
                · exact all_weightsAll _ hwE (D i) (List.mem_map.2 ⟨i, by simpa using hil, rfl⟩)
                · have : D i = D (len + (i - len)) := by congr 1; omega
                  rw [this]
                  exact all_weightsAll _ hwS _ (List.mem_map.2 ⟨i - len, by simp; omega, rfl⟩)
              have hK : 0 < m → P.cellsOf e = (s :: ss).length := fun h0 => by
                obtain ⟨cs', g1, g2⟩ := hx 0 h0
                exact (ih e _ _ _ _ he g2 (hwD 0 h0)).1
              by_cases h0 : m = 0
              · subst h0
                obtain rfl : len = 0 := by omega
                exact .one (.sl (s :: ss) be [] (by simp) (by simp) (by simp)) (.emp a)
              · have hK := hK (by omega)
                have hsp : a.spot = none := by
                  obtain ⟨cs', g1, g2⟩ := hx 0 (by omega)
                  obtain ⟨_, g3, g4⟩ := World.cells?_some g1
                  have := g4 0 (by rw [hK]; simp)
                  have hne : cs'[0]? ≠ none := by
                    rw [List.getElem?_eq_getElem (by rw [g3, hK]; simp)]; simp
                  cases hc : cs'[0]? with
                  | none => exact absurd hc hne
                  | some v =>
                    rw [hc] at this
                    have := World.cell?_spot this
                    simpa [Addr.add] using this
                obtain ⟨b, o, sp⟩ := a
                dsimp only at hsp
                subst hsp
                have key : ∀ k, k ≤ len → ∃ (ls : List (List Dat)) (vs : List Value), ls.length = k ∧ (∀ l ∈ ls, Fits (s :: ss) l) ∧ vs.length = ls.flatten.length ∧ vs.length = k * (s :: ss).length ∧ (∀ (i : Nat) (u : Value), vs[i]? = some u → W.cell? ⟨b, o + i, none⟩ = some u) ∧
                    ∀ (i : Nat) (c : Dat) (u : Value), ls.flatten[i]? = some c → vs[i]? = some u → DRel W Fr c u := by
                  intro k
                  induction k with
                  | zero => exact fun _ => ⟨[], [], rfl, by simp, rfl, by simp, by simp, by simp⟩
                  | succ k ihk =>
                    intro hk
                    obtain ⟨ls, vs, k1, k2, k3, k4, k5, k6⟩ := ihk (by omega)
                    obtain ⟨cs', g1, g2⟩ := hx k (by omega)
                    obtain ⟨_, ds, f1, f2, f3⟩ := ih e _ _ _ _ he g2 (hwD k (by omega))
                    obtain ⟨_, g3, g4⟩ := World.cells?_some g1
                    refine ⟨ls ++ [ds], vs ++ cs', by simp [k1], fun l hl => ?_, ?_, ?_, fun i u hu => ?_, fun i c u h1 h2 => ?_⟩
                    · rcases List.mem_append.1 hl with hl | hl
                      · exact k2 l hl
                      · simp at hl; subst hl; exact f1
                    · simp [List.flatten_append, k3, f2]
                    · rw [List.length_append, k4, g3, hK, Nat.add_mul]; omega
                    · rw [List.getElem?_append] at hu
                      split at hu
                      · exact k5 i u hu
                      · rename_i hge
                        have hlt := (List.getElem?_eq_some_iff.1 hu).1
                        have g5 := g4 (i - vs.length) (by rw [← g3]; exact hlt)
                        rw [hu] at g5
                        rw [hK] at g5
                        rw [Addr.add_mid, Addr.add_mid] at g5
                        rw [show o + i = o + k * (s :: ss).length + (i - vs.length) by omega]
                        exact g5
                    · rw [List.flatten_append, List.getElem?_append] at h1
                      rw [List.getElem?_append] at h2
                      rw [k3] at h2
                      split at h1
                      · rename_i hi; rw [if_pos hi] at h2; exact k6 i c u h1 h2
                      · rename_i hi; rw [if_neg hi] at h2; exact f3 _ c u (by simpa using h1) h2
                obtain ⟨ls, vs, k1, k2, k3, _, k5, k6⟩ := key len (Nat.le_refl _)
                subst k1
                exact .one (.sl (s :: ss) be ls hlenB (fun l hl => (k2 l hl).1) fun l hl => (k2 l hl).2) (.sl _ _ b o _ vs hle k3 (fun _ => hF b) k5 k6)
      | st fs0 =>
        rw [hs] at h
        dsimp only at h
        obtain ⟨F, hF1, hF2⟩ := Fa.struct hs
        obtain ⟨hlen, fl2, parts, hye, hfs⟩ := trod_fields2 hF1 hy
        have hwt' := hwt
        rw [hye] at hwt'
        unfold DataW.weights at hwt'
        rw [hF1] at hwt'
        dsimp only at hwt'
        cases hl : shpF (shp tab n) fs0 [] with
        | none => rw [hl] at h; cases h
        | some l =>
          rw [hl] at h
          obtain ⟨h1, h2⟩ := one h rfl
          cases h2
          have h1 := Nat.eq_of_beq_eq_true h1
          refine ⟨by rw [hcells, h1], ?_⟩
          have key : ∀ (fs : List (Nat × TypeId)) (acc l : List Shp), (∀ p ∈ fs, ∃ (i : Nat) (f : Field), F.toList[i]? = some f ∧ p = (f.offset, f.type)) → shpF (shp tab n) fs acc = some l → CellsAre W Fr acc (cs.take acc.length) → (l.length ≤ cs.length) → CellsAre W Fr l (cs.take l.length) := by
            intro fs
            induction fs with
            | nil => intro acc l _ h h3 _; cases h; exact h3
            | cons p r ihr =>
              intro acc l hp h h3 hle
              obtain ⟨off, u⟩ := p
              rw [shpF] at h
              cases hg : shp tab n u with
              | none => rw [hg] at h; cases h
              | some s =>
                rw [hg] at h
                dsimp only at h
                cases hb : Nat.beq off acc.length with
                | false => rw [hb] at h; cases h
                | true =>
                  rw [hb, cond_true] at h
                  obtain ⟨i, f, hf, hpe⟩ := hp (off, u) (by simp)
                  cases hpe
                  obtain ⟨y2, hy2, hy3⟩ := hfs i f hf
                  obtain ⟨c1, c2⟩ := ih _ _ _ _ _ hg hy2 (all_weightsEach _ _ hwt' i _ _ (by rw [List.getElem?_map, hf]; rfl) hy3)
                  rw [c1, Nat.eq_of_beq_eq_true hb] at c2
                  refine ihr (acc ++ s) l (fun q hq => hp q (by simp [hq])) h ?_ hle
                  have e : cs.take (acc ++ s).length = cs.take acc.length ++ (cs.drop acc.length).take s.length := by
                    rw [List.length_append, List.take_add]
                  rw [e]
                  exact h3.append c2
          have := key fs0 [] fs (fun p hp => by
            rw [← hF2] at hp
            obtain ⟨f, hf, rfl⟩ := List.mem_map.1 hp
            obtain ⟨i, hi⟩ := List.getElem?_of_mem hf
            exact ⟨i, f, hi, rfl⟩) hl ⟨[], ⟨rfl, by simp⟩, by simp, by simp⟩ (by rw [hlen, hcells, h1]; exact Nat.le_refl _)
          rwa [List.take_of_length_le (by rw [hlen, hcells, h1]; exact Nat.le_refl _)] at this
      | ar => rw [hs] at h; cases h
      | mp => rw [hs] at h; cases h
      | pt => rw [hs] at h; cases h
      | fu => rw [hs] at h; cases h
      | other => rw [hs] at h; cases h
theorem arg_one (TO : TabOk P tab) {t : TypeId} {s : Shp} {v : Value} {d : DataW H} {p : List MemPlace} (hs : shp tab 16 t = some [s]) (hv : v.cells.toList = [v]) (h : DataW.Trod enc P W 0 (fun _ => true) true t v d p) (hwt : (d.weights P t).all (· ≤ reachBytes) = true) {F : Nat → Prop} {ι : Nat → Option Value} (hF : ∀ b, FreeB F ι b) :
    ∃ x, ShD s x ∧ VRel W F ι (.d x) v := by
  obtain ⟨fl, hf⟩ := h
  obtain ⟨_, ds, h1, h2, h3⟩ := shp_read TO hF 16 t [s] _ _ _ hs hf hwt
  obtain ⟨x, r, rfl, h4, h5⟩ := fits_cons h1
  obtain rfl := fits_nil h5
  exact ⟨x, h4, .d _ _ (h3 0 x v rfl (by rw [hv]; rfl))⟩
end
end Go.Proofs.Ytblgdfcijkaimaa.Ab

namespace Go.Proofs.Ytblgdfcijkaimaa.Ab
set_option linter.unusedVariables false
open Go.RowKit

def eqV : Value → Value → Option Bool
  | .int k a, .int k' b => if k = k' then some (a == b) else none
  | .bool a, .bool b => some (a == b)
  | .string a, .string b => some (a.toList == b.toList)
  | _, _ => none
def eqCells : List Value → List Value → Option Bool
  | [], [] => some true
  | a :: x, b :: y => match eqV a b, eqCells x y with
    | some p, some q => some (p && q)
    | _, _ => none
  | _, _ => none
def leafsF (g : TypeId → Option (List Sh)) : List (Nat × TypeId) → List Sh → Option (List Sh)
  | [], acc => some acc
  | f :: r, acc => match g f.2 with
    | some m => cond (Nat.beq acc.length f.1) (leafsF g r (acc ++ m)) none
    | none => none
def leafs (tab : TTab) : Nat → TypeId → Option (List Sh)
  | 0, _ => none
  | n + 1, t => match tlook tab t with
    | none => none
    | some te => match (match te.sh with
      | .it k => some [Sh.it k]
      | .bo => some [Sh.bo]
      | .str => some [Sh.str]
      | .st fs => leafsF (leafs tab n) fs []
      | _ => none) with
      | some ks => cond (Nat.beq te.size ks.length) (some ks) none
      | none => none
def leafOk : Sh → Value → Bool
  | .it _, .int _ _ => true
  | .bo, .bool _ => true
  | .str, .string _ => true
  | _, _ => false
def leafsOk : List Sh → List Value → Bool
  | [], [] => true
  | s :: r, v :: l => leafOk s v && leafsOk r l
  | _, _ => false
theorem leafsOk_len {ks : List Sh} {xs : List Value} (h : leafsOk ks xs = true) : xs.length = ks.length := by
  induction ks generalizing xs with
  | nil => cases xs with
    | nil => rfl
    | cons _ _ => cases h
  | cons k r ih => cases xs with
    | nil => cases h
    | cons x l => simp only [leafsOk, Bool.and_eq_true] at h; simp [ih h.2]
theorem leafsOk_one {s : Sh} {xs : List Value} (h : leafsOk [s] xs = true) : ∃ v, xs = [v] ∧ leafOk s v = true := by
  cases xs with
  | nil => cases h
  | cons v r =>
    simp only [leafsOk, Bool.and_eq_true] at h
    cases r with
    | nil => exact ⟨v, rfl, h.1⟩
    | cons _ _ => exact absurd h.2 (by simp [leafsOk])
theorem leaf_int {k : IntKind} {v : Value} (h : leafOk (.it k) v = true) : ∃ q n, v = .int q n := by cases v <;> first | exact ⟨_, _, rfl⟩ | cases h
theorem leaf_bool {v : Value} (h : leafOk .bo v = true) : ∃ b, v = .bool b := by cases v <;> first | exact ⟨_, rfl⟩ | cases h
theorem leaf_str {v : Value} (h : leafOk .str v = true) : ∃ b, v = .string b := by cases v <;> first | exact ⟨_, rfl⟩ | cases h
theorem leafsOk_append {a b : List Sh} {xs : List Value} (h : leafsOk (a ++ b) xs = true) : leafsOk a (xs.take a.length) = true ∧ leafsOk b (xs.drop a.length) = true := by
  induction a generalizing xs with
  | nil => exact ⟨rfl, h⟩
  | cons k r ih => cases xs with
    | nil => cases h
    | cons x l =>
      simp only [List.cons_append, leafsOk, Bool.and_eq_true] at h
      obtain ⟨h1, h2⟩ := ih h.2
      exact ⟨by simp [leafsOk, h.1, h1], by simpa using h2⟩
theorem eqCells_append {a b x y : List Value} (hl : a.length = b.length) : eqCells (a ++ x) (b ++ y) = match eqCells a b, eqCells x y with
    | some p, some q => some (p && q)
    | _, _ => none := by
  induction a generalizing b with
  | nil => cases b with
    | nil => simp [eqCells]; cases eqCells x y <;> rfl
    | cons _ _ => simp at hl
  | cons u r ih => cases b with
    | nil => simp at hl
    | cons v s =>
      have := ih (b := s) (by simpa using hl)
      simp only [List.cons_append, eqCells, this]
      cases eqV u v <;> cases eqCells r s <;> cases eqCells x y <;> simp [Bool.and_assoc]

section
variable {P : Program} {tab : TTab} {T : List Nat} {e : Env} {h : Heap} {o : Oper}
def ofCells (ag : Bool) (xs : List Value) : Value := match ag, xs with
  | true, xs => .agg xs.toArray
  | false, v :: _ => v
  | false, [] => undef
theorem leafs_spec (TO : TabOk P tab) {n : Nat} {t : TypeId} {ks : List Sh} (hk : leafs tab (n + 1) t = some ks) : ∃ te, tlook tab t = some te ∧ te.size = ks.length ∧
    ((te.agg = true ∧ ∃ fs F, te.sh = .st fs ∧ leafsF (leafs tab n) fs [] = some ks ∧ P.underlying t = some (.struct F) ∧ F.toList.map (fun f => (f.offset, f.type)) = fs ∧ F.toList.all (fun f => f.name != "_") = true) ∨
     (te.agg = false ∧ ((∃ k, ks = [.it k] ∧ P.underlying t = some (.int k)) ∨ (ks = [.bo] ∧ P.underlying t = some .bool) ∨ (ks = [.str] ∧ P.underlying t = some .string)))) := by
  rw [leafs] at hk
  cases hl : tlook tab t with
  | none => rw [hl] at hk; cases hk
  | some te =>
    rw [hl] at hk
    simp only at hk
    obtain ⟨d, hd, ha, hs⟩ := (TO t te hl).und
    refine ⟨te, rfl, ?_⟩
    split at hk
    · rename_i ks' hm
      cases hb : Nat.beq te.size ks'.length with
      | false => rw [hb] at hk; cases hk
      | true =>
        rw [hb] at hk
        cases hk
        refine ⟨Nat.eq_of_beq_eq_true hb, ?_⟩
        split at hm
        · rename_i k hsh; rw [hsh] at hs; cases hs; cases hm; exact .inr ⟨ha.symm, .inl ⟨k, rfl, hd⟩⟩
        · rename_i hsh; rw [hsh] at hs; cases hs; cases hm; exact .inr ⟨ha.symm, .inr (.inl ⟨rfl, hd⟩)⟩
        · rename_i hsh; rw [hsh] at hs; cases hs; cases hm; exact .inr ⟨ha.symm, .inr (.inr ⟨rfl, hd⟩)⟩
        · rename_i fs hsh; rw [hsh] at hs; obtain ⟨F, rfl, h1, h2⟩ := hs; exact .inl ⟨ha.symm, fs, F, hsh, hm, hd, h1, h2⟩
        · cases hm
    · cases hk
theorem run_part {t : TypeId} {te : TE} (w : World) (Fa : TFacts P t te) (C : Array Value) (off : Nat) (hl : off + te.size ≤ C.size) (h1 : te.agg = false → te.size = 1) : (part t C off).run P w = .ok (ofCells te.agg (win C.toList off te.size)) w := by
  unfold part
  rw [Sem.run_bind, Fa.run_agg, Result.andThen_ok]
  cases ha : te.agg with
  | true =>
    simp only [if_true, Sem.run_bind, Fa.size, Result.andThen_ok]
    have e1 : C.extract off (off + te.size) = (win C.toList off te.size).toArray := by
      apply Array.ext'
      simp [win, Array.toList_extract]
    rw [e1]; rfl
  | false =>
    have h2 := h1 ha
    have hlt : off < C.size := by omega
    simp only [Bool.false_eq_true, if_false]
    rw [Array.getElem?_eq_getElem hlt]
    have : win C.toList off te.size = [C[off]] := by
      unfold win
      rw [h2, List.drop_eq_getElem_cons (by simpa using hlt)]
      simp
    rw [this]; rfl
theorem run_eqLeafs (TO : TabOk P tab) (hst : ∀ t, (tlook tab t).isSome = true → P.stoodInHeld t = false) : ∀ (n : Nat) (t : TypeId) (ks : List Sh) (xs ys : List Value) (r : Bool) (d : Nat) (te : TE) (w : World), leafs tab n t = some ks → tlook tab t = some te → leafsOk ks xs = true → leafsOk ks ys = true → eqCells xs ys = some r → n ≤ d →
    (Op.equalIn (d + 1) t (ofCells te.agg xs) (ofCells te.agg ys)).run P w = .ok r w := by
  intro n
  induction n with
  | zero => intro t ks xs ys r d te w hk; cases hk
  | succ n ih =>
    intro t ks xs ys r d te w hk ht hx hy hr hd
    obtain ⟨te0, h0, hsz, hcase⟩ := leafs_spec TO hk
    rw [ht] at h0; cases h0
    rcases hcase with ⟨ha, fs, F, hsh, hF, hu, hfs, hnm⟩ | ⟨ha, hcase⟩
    · have hfo : P.fieldsOf t = F := by simp [Program.fieldsOf, hu]
      rw [ha]
      show (Op.equalIn (d + 1) t (.agg xs.toArray) (.agg ys.toArray)).run P w = _
      rw [run_equalIn_struct w d t xs.toArray ys.toArray (by rw [hfo]; exact hu) (hst t (by rw [ht]; rfl)), hfo]
      have hlx := leafsOk_len hx
      have hly := leafsOk_len hy
      have key : ∀ (FL : List Field) (acc : List Sh) (r : Bool), leafsF (leafs tab n) (FL.map fun f => (f.offset, f.type)) acc = some ks → FL.all (fun f => f.name != "_") = true → eqCells (xs.drop acc.length) (ys.drop acc.length) = some r → leafsOk (ks.drop acc.length) (xs.drop acc.length) = true → leafsOk (ks.drop acc.length) (ys.drop acc.length) = true →
          acc.length ≤ ks.length → (Op.eqFields d xs.toArray ys.toArray FL).run P w = .ok r w := by
        intro FL
        induction FL with
        | nil =>
          intro acc r h1 _ h2 _ _ _
          cases h1
          rw [List.drop_eq_nil_of_le (by omega), List.drop_eq_nil_of_le (by omega)] at h2
          cases h2
          rfl
        | cons f FL ihF =>
          intro acc r h1 h2 h3 h4 h5 h6
          simp only [List.all_cons, Bool.and_eq_true] at h2
          rw [List.map_cons, leafsF] at h1
          cases hm : leafs tab n f.type with
          | none => rw [hm] at h1; cases h1
          | some m =>
            rw [hm] at h1
            simp only at h1
            cases hb : Nat.beq acc.length f.offset with
            | false => rw [hb] at h1; cases h1
            | true =>
              rw [hb, cond_true] at h1
              have hoff := Nat.eq_of_beq_eq_true hb
              have hpre : ∀ (fl : List (Nat × TypeId)) (acc ks : List Sh), leafsF (leafs tab n) fl acc = some ks → ∃ s, ks = acc ++ s := by
                intro fl
                induction fl with
                | nil => intro acc ks h; cases h; exact ⟨[], by simp⟩
                | cons g fl ihg =>
                  intro acc ks h
                  rw [leafsF] at h
                  cases hg : leafs tab n g.2 with
                  | none => rw [hg] at h; cases h
                  | some m' =>
                    rw [hg] at h
                    simp only at h
                    cases hb' : Nat.beq acc.length g.1 with
                    | false => rw [hb'] at h; cases h
                    | true =>
                      rw [hb', cond_true] at h
                      obtain ⟨s, hs⟩ := ihg _ _ h
                      exact ⟨m' ++ s, by rw [hs, List.append_assoc]⟩
              obtain ⟨s, hs⟩ := hpre _ _ _ h1
              have hle : acc.length + m.length ≤ ks.length := by rw [hs]; simp
              cases n with
              | zero => cases hm
              | succ n' =>
              obtain ⟨te', h7, h8, _⟩ := leafs_spec TO hm
              have h9 : te'.agg = false → te'.size = 1 := by
                obtain ⟨te2, g1, g2, g3⟩ := leafs_spec TO hm
                rw [h7] at g1; cases g1
                intro hag
                rcases g3 with ⟨g4, _⟩ | ⟨_, ⟨k, g5, _⟩ | ⟨g5, _⟩ | ⟨g5, _⟩⟩
                · rw [hag] at g4; cases g4
                all_goals rw [g2, g5]; rfl
              have hks : ks.drop acc.length = m ++ s := by rw [hs, List.append_assoc]; simp
              rw [hks] at h4 h5
              obtain ⟨h4a, h4b⟩ := leafsOk_append h4
              obtain ⟨h5a, h5b⟩ := leafsOk_append h5
              have ex : xs.drop acc.length = win xs f.offset te'.size ++ xs.drop (acc ++ m).length := by
                unfold win; rw [← hoff, h8, List.length_append, ← List.drop_drop, List.take_append_drop]
              have ey : ys.drop acc.length = win ys f.offset te'.size ++ ys.drop (acc ++ m).length := by
                unfold win; rw [← hoff, h8, List.length_append, ← List.drop_drop, List.take_append_drop]
              have hwx : (win xs f.offset te'.size).length = m.length := by unfold win; simp; omega
              have hwy : (win ys f.offset te'.size).length = m.length := by unfold win; simp; omega
              rw [ex, ey, eqCells_append (by omega)] at h3
              cases hp : eqCells (win xs f.offset te'.size) (win ys f.offset te'.size) with
              | none => rw [hp] at h3; cases h3
              | some p =>
                cases hq : eqCells (xs.drop (acc ++ m).length) (ys.drop (acc ++ m).length) with
                | none => rw [hp, hq] at h3; cases h3
                | some q =>
                  rw [hp, hq] at h3
                  cases h3
                  have wx : win xs f.offset te'.size = (xs.drop acc.length).take m.length := by unfold win; rw [← hoff, h8]
                  have wy : win ys f.offset te'.size = (ys.drop acc.length).take m.length := by unfold win; rw [← hoff, h8]
                  have hrun := ih f.type m (win xs f.offset te'.size) (win ys f.offset te'.size) p (d - 1) te' w hm h7 (by rw [wx]; exact h4a) (by rw [wy]; exact h5a) hp (by omega)
                  rw [show d - 1 + 1 = d by omega] at hrun
                  have hpa := run_part (P := P) w (TO _ _ h7) xs.toArray f.offset (by simp; omega) h9
                  have hpb := run_part (P := P) w (TO _ _ h7) ys.toArray f.offset (by simp; omega) h9
                  have hnext := ihF (acc ++ m) q h1 h2.2 hq (by
                    have : ks.drop (acc ++ m).length = s := by rw [hs]; simp
                    rw [this]
                    have e2 : xs.drop (acc ++ m).length = (xs.drop acc.length).drop m.length := by rw [List.drop_drop, List.length_append]
                    rw [e2]; exact h4b) (by
                    have : ks.drop (acc ++ m).length = s := by rw [hs]; simp
                    rw [this]
                    have e2 : ys.drop (acc ++ m).length = (ys.drop acc.length).drop m.length := by rw [List.drop_drop, List.length_append]
                    rw [e2]; exact h5b) (by simpa using hle)
                  have hne : f.name ≠ "_" := by simpa using h2.1
                  simp only [Op.eqFields, ne_eq, hne, not_false_eq_true, if_true, Sem.run_bind, hpa, hpb, Result.andThen_ok, hrun]
                  cases p with
                  | false => simp
                  | true => simpa using hnext
      refine key F.toList [] r (by rw [hfs]; exact hF) hnm (by simpa using hr) (by simpa using hx) (by simpa using hy) (Nat.zero_le _)
    · rw [ha]
      rcases hcase with ⟨k, rfl, hu⟩ | ⟨rfl, hu⟩ | ⟨rfl, hu⟩
      · obtain ⟨x, rfl, hx1⟩ := leafsOk_one hx
        obtain ⟨y, rfl, hy1⟩ := leafsOk_one hy
        obtain ⟨k1, a, rfl⟩ := leaf_int hx1
        obtain ⟨k2, b, rfl⟩ := leaf_int hy1
        have hr' : (match eqV (.int k1 a) (.int k2 b) with | some p => some (p && true) | none => none) = some r := by
          simp only [eqCells] at hr; cases hq : eqV (.int k1 a) (.int k2 b) <;> rw [hq] at hr <;> exact hr
        simp only [eqV] at hr'
        by_cases hkk : k1 = k2
        · subst hkk
          simp at hr'
          subst hr'
          exact run_equalIn_int w d t _ _ _ _ hu
        · simp [hkk] at hr'
      · obtain ⟨x, rfl, hx1⟩ := leafsOk_one hx
        obtain ⟨y, rfl, hy1⟩ := leafsOk_one hy
        obtain ⟨a, rfl⟩ := leaf_bool hx1
        obtain ⟨b, rfl⟩ := leaf_bool hy1
        simp [eqCells, eqV] at hr
        subst hr
        exact run_equalIn_bool' w d t _ _ hu
      · obtain ⟨x, rfl, hx1⟩ := leafsOk_one hx
        obtain ⟨y, rfl, hy1⟩ := leafsOk_one hy
        obtain ⟨a, rfl⟩ := leaf_str hx1
        obtain ⟨b, rfl⟩ := leaf_str hy1
        simp [eqCells, eqV] at hr
        subst hr
        exact run_equalIn_string w d t _ _ hu
def scL : List AVal → Option (List Value)
  | [] => some []
  | .d (.sc v) :: r => match scL r with
    | some l => some (v :: l)
    | none => none
  | _ :: _ => none
end

mutual
def oneA : AVal → Bool
  | .d (.sc v) => v.oneCell'
  | .agg cs => oneL cs
  | .tup cs => oneL cs
  | _ => false
def oneL : List AVal → Bool
  | [] => true
  | c :: r => oneA c && oneL r
end
mutual
theorem val_mk (w : World) (F : Nat → Prop) (ι : Nat → Option Value) : (c : AVal) → (v : Value) → valA c = some v → oneA c = true → VRel w F ι c v
  | .d (.sc u), v, h, h1 => by cases h; exact sc_rel h1
  | .agg cs, v, h, h1 => by
    rw [valA] at h
    cases hc : valL cs with
    | none => rw [hc] at h; cases h
    | some l =>
      rw [hc] at h
      cases h
      obtain ⟨h2, h3⟩ := valL_mk w F ι cs l hc h1
      exact .agg cs _ (by simpa using h2) fun i c u hi hu => h3 i c u hi (by simpa using hu)
  | .tup cs, v, h, h1 => by
    rw [valA] at h
    cases hc : valL cs with
    | none => rw [hc] at h; cases h
    | some l =>
      rw [hc] at h
      cases h
      obtain ⟨h2, h3⟩ := valL_mk w F ι cs l hc h1
      exact .tup cs _ (by simpa using h2) fun i c u hi hu => h3 i c u hi (by simpa using hu)
  | .d (.sl _ _), _, h, _ => by cases h
  | .top, _, h, _ => by cases h
  | .und, _, h, _ => by cases h
  | .ptr _ _, _, h, _ => by cases h
  | .eptr _ _, _, h, _ => by cases h
  | .iptr _ _, _, h, _ => by cases h
  | .row _, _, h, _ => by cases h
  | .mp _, _, h, _ => by cases h
  | .fn _ _, _, h, _ => by cases h
theorem valL_mk (w : World) (F : Nat → Prop) (ι : Nat → Option Value) : (cs : List AVal) → (l : List Value) → valL cs = some l → oneL cs = true → l.length = cs.length ∧ ∀ (i : Nat) (c : AVal) (u : Value), cs[i]? = some c → l[i]? = some u → VRel w F ι c u
  | [], l, h, _ => by cases h; exact ⟨rfl, by simp⟩
  | c :: r, l, h, h1 => by
    rw [valL] at h
    simp only [oneL, Bool.and_eq_true] at h1
    cases hc : valA c with
    | none => simp [hc] at h
    | some v =>
      cases hr : valL r with
      | none => simp [hc, hr] at h
      | some l' =>
        simp [hc, hr] at h
        subst h
        obtain ⟨h2, h3⟩ := valL_mk w F ι r l' hr h1.2
        refine ⟨by simp [h2], fun i c' u hi hu => ?_⟩
        cases i with
        | zero => simp at hi hu; subst hi hu; exact val_mk w F ι c v hc h1.1
        | succ i => exact h3 i c' u (by simpa using hi) (by simpa using hu)
end
theorem ACall_val {P : Program} {f : FuncId} {cs : List AVal} {us : List Value} {c : AVal} {v : Value} (hg : isGo P f = true) (hu : valL cs = some us) (hv : valA c = some v) (h1 : oneA c = true)
    (H : ∀ w, Calls P f us.toArray w fun e w' => e = .returned v ∧ Below w.heap.size w w') : ACall P f cs [] (fun c' h' => c' = c ∧ h' = []) := ⟨hg, fun Pm F w0 pin ι xs w HH HA => by
  have hx : xs = us.toArray := by
    have h2 : VRel w F ι (.agg cs) (.agg xs) := .agg cs xs HA.1 HA.2
    have h3 : valA (.agg cs) = some (.agg us.toArray) := by rw [valA, hu]
    have h4 := valA_rel h2 h3
    injection h4
  subst hx
  refine (H w).mono ?_
  rintro e w' ⟨rfl, hb⟩
  exact ⟨v, c, [], ι, rfl, ⟨rfl, rfl⟩, HH.grew (Grew.of_below hb), val_mk _ _ _ c v hv h1⟩⟩
end Go.Proofs.Ytblgdfcijkaimaa.Ab

namespace Go.Proofs.Ytblgdfcijkaimaa.Ab
set_option linter.unusedVariables false
def tab : TTab := (.node 57 ⟨1, 8, false, [Value.nilFunc], .fu⟩ (.node 35 ⟨1, 8, false, [Value.nilFunc], .fu⟩ (.node 24 ⟨1, 8, false, [Value.nilFunc], .fu⟩ (.node 9 ⟨1, 16, false, [Value.string ⟨#[]⟩], .str⟩ (.node 3 ⟨1, 8, false, [Value.int .i64 0], .it .i64⟩ (.node 2 ⟨1, 8, false, [Value.int .i64 0], .it .i64⟩ (.node 1 ⟨1, 8, false, [Value.nilFunc], .fu⟩ .leaf .leaf) .leaf) (.node 5 ⟨1, 1, false, [Value.int .u8 0], .it .u8⟩ (.node 4 ⟨1, 1, false, [Value.bool false], .bo⟩ .leaf .leaf) .leaf)) (.node 22 ⟨1, 24, false, [Value.slice none 0 0], .sl 34⟩ (.node 21 ⟨1, 4, false, [Value.int .i32 0], .it .i32⟩ (.node 12 ⟨1, 8, false, [Value.int .u64 0], .it .u64⟩ .leaf .leaf) .leaf) (.node 23 ⟨1, 24, false, [Value.slice none 0 0], .sl 42⟩ .leaf .leaf))) (.node 30 ⟨2, 16, true, [Value.int .u32 0, Value.int .i64 0], .st [(0, 28), (1, 3)]⟩ (.node 28 ⟨1, 4, false, [Value.int .u32 0], .it .u32⟩ (.node 27 ⟨1, 4, false, [Value.int .u32 0], .it .u32⟩ (.node 26 ⟨1, 8, false, [Value.nilFunc], .fu⟩ .leaf .leaf) .leaf) (.node 29 ⟨2, 16, true, [Value.int .u32 0, Value.int .i64 0], .st [(0, 28), (1, 3)]⟩ .leaf .leaf)) (.node 33 ⟨13, 136, true, [Value.int .u32 0, Value.int .i64 0, Value.int .u32 0, Value.int .i64 0, Value.int .i64 0, Value.slice none 0 0, Value.slice none 0 0, Value.int .u32 0, Value.int .u32 0, Value.bool false, Value.int .u32 0, Value.slice none 0 0, Value.int .i64 0], .st [(0, 30), (2, 28), (3, 3), (4, 3), (5, 31), (6, 31), (7, 28), (8, 28), (9, 4), (10, 28), (11, 32), (12, 3)]⟩ (.node 32 ⟨1, 24, false, [Value.slice none 0 0], .sl 28⟩ (.node 31 ⟨1, 24, false, [Value.slice none 0 0], .sl 27⟩ .leaf .leaf) .leaf) (.node 34 ⟨13, 136, true, [Value.int .u32 0, Value.int .i64 0, Value.int .u32 0, Value.int .i64 0, Value.int .i64 0, Value.slice none 0 0, Value.slice none 0 0, Value.int .u32 0, Value.int .u32 0, Value.bool false, Value.int .u32 0, Value.slice none 0 0, Value.int .i64 0], .st [(0, 30), (2, 28), (3, 3), (4, 3), (5, 31), (6, 31), (7, 28), (8, 28), (9, 4), (10, 28), (11, 32), (12, 3)]⟩ .leaf .leaf)))) (.node 46 ⟨1, 8, false, [Value.nilFunc], .fu⟩ (.node 41 ⟨9, 72, true, [Value.int .u32 0, Value.int .i64 0, Value.int .u8 0, Value.int .i64 0, Value.int .i64 0, Value.int .i64 0, Value.string ⟨#[]⟩, Value.int .u32 0, Value.bool false], .st [(0, 30), (2, 5), (3, 3), (4, 3), (5, 3), (6, 9), (7, 28), (8, 4)]⟩ (.node 38 ⟨1, 8, false, [Value.nilFunc], .fu⟩ (.node 37 ⟨1, 8, false, [Value.nilFunc], .fu⟩ (.node 36 ⟨1, 8, false, [Value.nilFunc], .fu⟩ .leaf .leaf) .leaf) (.node 40 ⟨1, 8, false, [Value.nilFunc], .fu⟩ (.node 39 ⟨1, 8, false, [Value.nilFunc], .fu⟩ .leaf .leaf) .leaf)) (.node 44 ⟨1, 8, false, [Value.nilFunc], .fu⟩ (.node 43 ⟨1, 8, false, [Value.nilFunc], .fu⟩ (.node 42 ⟨9, 72, true, [Value.int .u32 0, Value.int .i64 0, Value.int .u8 0, Value.int .i64 0, Value.int .i64 0, Value.int .i64 0, Value.string ⟨#[]⟩, Value.int .u32 0, Value.bool false], .st [(0, 30), (2, 5), (3, 3), (4, 3), (5, 3), (6, 9), (7, 28), (8, 4)]⟩ .leaf .leaf) .leaf) (.node 45 ⟨1, 8, false, [Value.nilFunc], .fu⟩ .leaf .leaf))) (.node 52 ⟨1, 8, false, [Value.nilFunc], .fu⟩ (.node 50 ⟨1, 8, false, [Value.nilFunc], .fu⟩ (.node 48 ⟨1, 8, false, [Value.map none], .mp 30 3⟩ (.node 47 ⟨1, 8, false, [Value.map none], .mp 30 34⟩ .leaf .leaf) .leaf) (.node 51 ⟨1, 8, false, [Value.nilFunc], .fu⟩ .leaf .leaf)) (.node 55 ⟨1, 8, false, [Value.int .i64 0], .it .i64⟩ (.node 54 ⟨1, 8, false, [Value.nilFunc], .fu⟩ (.node 53 ⟨1, 8, false, [Value.nilFunc], .fu⟩ .leaf .leaf) .leaf) (.node 56 ⟨1, 8, false, [Value.nilFunc], .fu⟩ .leaf .leaf))))) (.node 78 ⟨1, 8, false, [Value.int .u64 0], .it .u64⟩ (.node 68 ⟨1, 8, false, [Value.nilFunc], .fu⟩ (.node 63 ⟨1, 8, false, [Value.nilFunc], .fu⟩ (.node 60 ⟨1, 8, false, [Value.nilFunc], .fu⟩ (.node 59 ⟨1, 8, false, [Value.nilFunc], .fu⟩ (.node 58 ⟨1, 8, false, [Value.int .u64 0], .it .u64⟩ .leaf .leaf) .leaf) (.node 62 ⟨1, 8, false, [Value.nilFunc], .fu⟩ (.node 61 ⟨1, 8, false, [Value.nilFunc], .fu⟩ .leaf .leaf) .leaf)) (.node 66 ⟨1, 8, false, [Value.nilFunc], .fu⟩ (.node 65 ⟨1, 8, false, [Value.nilFunc], .fu⟩ (.node 64 ⟨1, 8, false, [Value.nilFunc], .fu⟩ .leaf .leaf) .leaf) (.node 67 ⟨1, 8, false, [Value.nilFunc], .fu⟩ .leaf .leaf))) (.node 73 ⟨1, 24, false, [Value.slice none 0 0], .sl 3⟩ (.node 71 ⟨1, 8, false, [Value.nilFunc], .fu⟩ (.node 70 ⟨1, 8, false, [Value.nilFunc], .fu⟩ (.node 69 ⟨1, 8, false, [Value.nilFunc], .fu⟩ .leaf .leaf) .leaf) (.node 72 ⟨1, 8, false, [Value.nilFunc], .fu⟩ .leaf .leaf)) (.node 76 ⟨1, 8, false, [Value.nilFunc], .fu⟩ (.node 75 ⟨1, 8, false, [Value.nilFunc], .fu⟩ (.node 74 ⟨1, 8, false, [Value.nilFunc], .fu⟩ .leaf .leaf) .leaf) (.node 77 ⟨1, 8, false, [Value.nilFunc], .fu⟩ .leaf .leaf)))) (.node 90 ⟨1, 8, false, [Value.nilFunc], .fu⟩ (.node 85 ⟨1, 8, false, [Value.nilFunc], .fu⟩ (.node 82 ⟨1, 8, false, [Value.nilFunc], .fu⟩ (.node 80 ⟨1, 8, false, [Value.int .i64 0], .it .i64⟩ (.node 79 ⟨1, 8, false, [Value.nilFunc], .fu⟩ .leaf .leaf) .leaf) (.node 84 ⟨1, 8, false, [Value.nilFunc], .fu⟩ (.node 83 ⟨1, 8, false, [Value.nilFunc], .fu⟩ .leaf .leaf) .leaf)) (.node 88 ⟨1, 8, false, [Value.int .u64 0], .it .u64⟩ (.node 87 ⟨1, 8, false, [Value.nilFunc], .fu⟩ (.node 86 ⟨1, 8, false, [Value.nilFunc], .fu⟩ .leaf .leaf) .leaf) (.node 89 ⟨1, 8, false, [Value.nilFunc], .fu⟩ .leaf .leaf))) (.node 96 ⟨1, 8, false, [Value.nilFunc], .fu⟩ (.node 93 ⟨1, 8, false, [Value.nilFunc], .fu⟩ (.node 92 ⟨1, 8, false, [Value.pointer none], .pt 3⟩ (.node 91 ⟨1, 8, false, [Value.nilFunc], .fu⟩ .leaf .leaf) .leaf) (.node 94 ⟨1, 8, false, [Value.pointer none], .pt 88⟩ .leaf .leaf)) (.node 106 ⟨1, 8, false, [Value.nilFunc], .fu⟩ (.node 103 ⟨1, 8, false, [Value.nilFunc], .fu⟩ (.node 97 ⟨1, 8, false, [Value.nilFunc], .fu⟩ .leaf .leaf) .leaf) (.node 107 ⟨1, 8, false, [Value.pointer none], .pt 5⟩ .leaf .leaf))))))
theorem tf1 : TFacts Try.prog 1 ⟨1, 8, false, [Value.nilFunc], .fu⟩ := ⟨by kernel_rfl, _, Try.underlying1, rfl, ⟨_, _, _, rfl⟩⟩
theorem tf2 : TFacts Try.prog 2 ⟨1, 8, false, [Value.int .i64 0], .it .i64⟩ := ⟨by kernel_rfl, _, Try.underlying2, rfl, rfl⟩
theorem tf3 : TFacts Try.prog 3 ⟨1, 8, false, [Value.int .i64 0], .it .i64⟩ := ⟨by kernel_rfl, _, Try.underlying3, rfl, rfl⟩
theorem tf4 : TFacts Try.prog 4 ⟨1, 1, false, [Value.bool false], .bo⟩ := ⟨by kernel_rfl, _, Try.underlying4, rfl, rfl⟩
theorem tf5 : TFacts Try.prog 5 ⟨1, 1, false, [Value.int .u8 0], .it .u8⟩ := ⟨by kernel_rfl, _, Try.underlying5, rfl, rfl⟩
theorem tf9 : TFacts Try.prog 9 ⟨1, 16, false, [Value.string ⟨#[]⟩], .str⟩ := ⟨by kernel_rfl, _, Try.underlying9, rfl, rfl⟩
theorem tf12 : TFacts Try.prog 12 ⟨1, 8, false, [Value.int .u64 0], .it .u64⟩ := ⟨by kernel_rfl, _, Try.underlying12, rfl, rfl⟩
theorem tf21 : TFacts Try.prog 21 ⟨1, 4, false, [Value.int .i32 0], .it .i32⟩ := ⟨by kernel_rfl, _, Try.underlying21, rfl, rfl⟩
theorem tf22 : TFacts Try.prog 22 ⟨1, 24, false, [Value.slice none 0 0], .sl 34⟩ := ⟨by kernel_rfl, _, Try.underlying22, rfl, rfl⟩
theorem tf23 : TFacts Try.prog 23 ⟨1, 24, false, [Value.slice none 0 0], .sl 42⟩ := ⟨by kernel_rfl, _, Try.underlying23, rfl, rfl⟩
theorem tf24 : TFacts Try.prog 24 ⟨1, 8, false, [Value.nilFunc], .fu⟩ := ⟨by kernel_rfl, _, Try.underlying24, rfl, ⟨_, _, _, rfl⟩⟩
theorem tf26 : TFacts Try.prog 26 ⟨1, 8, false, [Value.nilFunc], .fu⟩ := ⟨by kernel_rfl, _, Try.underlying26, rfl, ⟨_, _, _, rfl⟩⟩
theorem tf27 : TFacts Try.prog 27 ⟨1, 4, false, [Value.int .u32 0], .it .u32⟩ := ⟨by kernel_rfl, _, Try.underlying27, rfl, rfl⟩
theorem tf28 : TFacts Try.prog 28 ⟨1, 4, false, [Value.int .u32 0], .it .u32⟩ := ⟨by kernel_rfl, _, Try.underlying28, rfl, rfl⟩
theorem tf29 : TFacts Try.prog 29 ⟨2, 16, true, [Value.int .u32 0, Value.int .i64 0], .st [(0, 28), (1, 3)]⟩ := ⟨by kernel_rfl, _, Try.underlying29, rfl, ⟨_, rfl, rfl, by decide⟩⟩
theorem tf30 : TFacts Try.prog 30 ⟨2, 16, true, [Value.int .u32 0, Value.int .i64 0], .st [(0, 28), (1, 3)]⟩ := ⟨by kernel_rfl, _, Try.underlying30, rfl, ⟨_, rfl, rfl, by decide⟩⟩
theorem tf31 : TFacts Try.prog 31 ⟨1, 24, false, [Value.slice none 0 0], .sl 27⟩ := ⟨by kernel_rfl, _, Try.underlying31, rfl, rfl⟩
theorem tf32 : TFacts Try.prog 32 ⟨1, 24, false, [Value.slice none 0 0], .sl 28⟩ := ⟨by kernel_rfl, _, Try.underlying32, rfl, rfl⟩
theorem tf33 : TFacts Try.prog 33 ⟨13, 136, true, [Value.int .u32 0, Value.int .i64 0, Value.int .u32 0, Value.int .i64 0, Value.int .i64 0, Value.slice none 0 0, Value.slice none 0 0, Value.int .u32 0, Value.int .u32 0, Value.bool false, Value.int .u32 0, Value.slice none 0 0, Value.int .i64 0], .st [(0, 30), (2, 28), (3, 3), (4, 3), (5, 31), (6, 31), (7, 28), (8, 28), (9, 4), (10, 28), (11, 32), (12, 3)]⟩ := ⟨by kernel_rfl, _, Try.underlying33, rfl, ⟨_, rfl, rfl, by decide⟩⟩
theorem tf34 : TFacts Try.prog 34 ⟨13, 136, true, [Value.int .u32 0, Value.int .i64 0, Value.int .u32 0, Value.int .i64 0, Value.int .i64 0, Value.slice none 0 0, Value.slice none 0 0, Value.int .u32 0, Value.int .u32 0, Value.bool false, Value.int .u32 0, Value.slice none 0 0, Value.int .i64 0], .st [(0, 30), (2, 28), (3, 3), (4, 3), (5, 31), (6, 31), (7, 28), (8, 28), (9, 4), (10, 28), (11, 32), (12, 3)]⟩ := ⟨by kernel_rfl, _, Try.underlying34, rfl, ⟨_, rfl, rfl, by decide⟩⟩
theorem tf35 : TFacts Try.prog 35 ⟨1, 8, false, [Value.nilFunc], .fu⟩ := ⟨by kernel_rfl, _, Try.underlying35, rfl, ⟨_, _, _, rfl⟩⟩
theorem tf36 : TFacts Try.prog 36 ⟨1, 8, false, [Value.nilFunc], .fu⟩ := ⟨by kernel_rfl, _, Try.underlying36, rfl, ⟨_, _, _, rfl⟩⟩
theorem tf37 : TFacts Try.prog 37 ⟨1, 8, false, [Value.nilFunc], .fu⟩ := ⟨by kernel_rfl, _, Try.underlying37, rfl, ⟨_, _, _, rfl⟩⟩
theorem tf38 : TFacts Try.prog 38 ⟨1, 8, false, [Value.nilFunc], .fu⟩ := ⟨by kernel_rfl, _, Try.underlying38, rfl, ⟨_, _, _, rfl⟩⟩
theorem tf39 : TFacts Try.prog 39 ⟨1, 8, false, [Value.nilFunc], .fu⟩ := ⟨by kernel_rfl, _, Try.underlying39, rfl, ⟨_, _, _, rfl⟩⟩
theorem tf40 : TFacts Try.prog 40 ⟨1, 8, false, [Value.nilFunc], .fu⟩ := ⟨by kernel_rfl, _, Try.underlying40, rfl, ⟨_, _, _, rfl⟩⟩
theorem tf41 : TFacts Try.prog 41 ⟨9, 72, true, [Value.int .u32 0, Value.int .i64 0, Value.int .u8 0, Value.int .i64 0, Value.int .i64 0, Value.int .i64 0, Value.string ⟨#[]⟩, Value.int .u32 0, Value.bool false], .st [(0, 30), (2, 5), (3, 3), (4, 3), (5, 3), (6, 9), (7, 28), (8, 4)]⟩ := ⟨by kernel_rfl, _, Try.underlying41, rfl, ⟨_, rfl, rfl, by decide⟩⟩
theorem tf42 : TFacts Try.prog 42 ⟨9, 72, true, [Value.int .u32 0, Value.int .i64 0, Value.int .u8 0, Value.int .i64 0, Value.int .i64 0, Value.int .i64 0, Value.string ⟨#[]⟩, Value.int .u32 0, Value.bool false], .st [(0, 30), (2, 5), (3, 3), (4, 3), (5, 3), (6, 9), (7, 28), (8, 4)]⟩ := ⟨by kernel_rfl, _, Try.underlying42, rfl, ⟨_, rfl, rfl, by decide⟩⟩
theorem tf43 : TFacts Try.prog 43 ⟨1, 8, false, [Value.nilFunc], .fu⟩ := ⟨by kernel_rfl, _, Try.underlying43, rfl, ⟨_, _, _, rfl⟩⟩
theorem tf44 : TFacts Try.prog 44 ⟨1, 8, false, [Value.nilFunc], .fu⟩ := ⟨by kernel_rfl, _, Try.underlying44, rfl, ⟨_, _, _, rfl⟩⟩
theorem tf45 : TFacts Try.prog 45 ⟨1, 8, false, [Value.nilFunc], .fu⟩ := ⟨by kernel_rfl, _, Try.underlying45, rfl, ⟨_, _, _, rfl⟩⟩
theorem tf46 : TFacts Try.prog 46 ⟨1, 8, false, [Value.nilFunc], .fu⟩ := ⟨by kernel_rfl, _, Try.underlying46, rfl, ⟨_, _, _, rfl⟩⟩
theorem tf47 : TFacts Try.prog 47 ⟨1, 8, false, [Value.map none], .mp 30 34⟩ := ⟨by kernel_rfl, _, Try.underlying47, rfl, rfl⟩
theorem tf48 : TFacts Try.prog 48 ⟨1, 8, false, [Value.map none], .mp 30 3⟩ := ⟨by kernel_rfl, _, Try.underlying48, rfl, rfl⟩
theorem tf50 : TFacts Try.prog 50 ⟨1, 8, false, [Value.nilFunc], .fu⟩ := ⟨by kernel_rfl, _, Try.underlying50, rfl, ⟨_, _, _, rfl⟩⟩
theorem tf51 : TFacts Try.prog 51 ⟨1, 8, false, [Value.nilFunc], .fu⟩ := ⟨by kernel_rfl, _, Try.underlying51, rfl, ⟨_, _, _, rfl⟩⟩
theorem tf52 : TFacts Try.prog 52 ⟨1, 8, false, [Value.nilFunc], .fu⟩ := ⟨by kernel_rfl, _, Try.underlying52, rfl, ⟨_, _, _, rfl⟩⟩
theorem tf53 : TFacts Try.prog 53 ⟨1, 8, false, [Value.nilFunc], .fu⟩ := ⟨by kernel_rfl, _, Try.underlying53, rfl, ⟨_, _, _, rfl⟩⟩
theorem tf54 : TFacts Try.prog 54 ⟨1, 8, false, [Value.nilFunc], .fu⟩ := ⟨by kernel_rfl, _, Try.underlying54, rfl, ⟨_, _, _, rfl⟩⟩
theorem tf55 : TFacts Try.prog 55 ⟨1, 8, false, [Value.int .i64 0], .it .i64⟩ := ⟨by kernel_rfl, _, Try.underlying55, rfl, rfl⟩
theorem tf56 : TFacts Try.prog 56 ⟨1, 8, false, [Value.nilFunc], .fu⟩ := ⟨by kernel_rfl, _, Try.underlying56, rfl, ⟨_, _, _, rfl⟩⟩
theorem tf57 : TFacts Try.prog 57 ⟨1, 8, false, [Value.nilFunc], .fu⟩ := ⟨by kernel_rfl, _, Try.underlying57, rfl, ⟨_, _, _, rfl⟩⟩
theorem tf58 : TFacts Try.prog 58 ⟨1, 8, false, [Value.int .u64 0], .it .u64⟩ := ⟨by kernel_rfl, _, Try.underlying58, rfl, rfl⟩
theorem tf59 : TFacts Try.prog 59 ⟨1, 8, false, [Value.nilFunc], .fu⟩ := ⟨by kernel_rfl, _, Try.underlying59, rfl, ⟨_, _, _, rfl⟩⟩
theorem tf60 : TFacts Try.prog 60 ⟨1, 8, false, [Value.nilFunc], .fu⟩ := ⟨by kernel_rfl, _, Try.underlying60, rfl, ⟨_, _, _, rfl⟩⟩
theorem tf61 : TFacts Try.prog 61 ⟨1, 8, false, [Value.nilFunc], .fu⟩ := ⟨by kernel_rfl, _, Try.underlying61, rfl, ⟨_, _, _, rfl⟩⟩
theorem tf62 : TFacts Try.prog 62 ⟨1, 8, false, [Value.nilFunc], .fu⟩ := ⟨by kernel_rfl, _, Try.underlying62, rfl, ⟨_, _, _, rfl⟩⟩
theorem tf63 : TFacts Try.prog 63 ⟨1, 8, false, [Value.nilFunc], .fu⟩ := ⟨by kernel_rfl, _, Try.underlying63, rfl, ⟨_, _, _, rfl⟩⟩
theorem tf64 : TFacts Try.prog 64 ⟨1, 8, false, [Value.nilFunc], .fu⟩ := ⟨by kernel_rfl, _, Try.underlying64, rfl, ⟨_, _, _, rfl⟩⟩
theorem tf65 : TFacts Try.prog 65 ⟨1, 8, false, [Value.nilFunc], .fu⟩ := ⟨by kernel_rfl, _, Try.underlying65, rfl, ⟨_, _, _, rfl⟩⟩
theorem tf66 : TFacts Try.prog 66 ⟨1, 8, false, [Value.nilFunc], .fu⟩ := ⟨by kernel_rfl, _, Try.underlying66, rfl, ⟨_, _, _, rfl⟩⟩
theorem tf67 : TFacts Try.prog 67 ⟨1, 8, false, [Value.nilFunc], .fu⟩ := ⟨by kernel_rfl, _, Try.underlying67, rfl, ⟨_, _, _, rfl⟩⟩
theorem tf68 : TFacts Try.prog 68 ⟨1, 8, false, [Value.nilFunc], .fu⟩ := ⟨by kernel_rfl, _, Try.underlying68, rfl, ⟨_, _, _, rfl⟩⟩
theorem tf69 : TFacts Try.prog 69 ⟨1, 8, false, [Value.nilFunc], .fu⟩ := ⟨by kernel_rfl, _, Try.underlying69, rfl, ⟨_, _, _, rfl⟩⟩
theorem tf70 : TFacts Try.prog 70 ⟨1, 8, false, [Value.nilFunc], .fu⟩ := ⟨by kernel_rfl, _, Try.underlying70, rfl, ⟨_, _, _, rfl⟩⟩
theorem tf71 : TFacts Try.prog 71 ⟨1, 8, false, [Value.nilFunc], .fu⟩ := ⟨by kernel_rfl, _, Try.underlying71, rfl, ⟨_, _, _, rfl⟩⟩
theorem tf72 : TFacts Try.prog 72 ⟨1, 8, false, [Value.nilFunc], .fu⟩ := ⟨by kernel_rfl, _, Try.underlying72, rfl, ⟨_, _, _, rfl⟩⟩
theorem tf73 : TFacts Try.prog 73 ⟨1, 24, false, [Value.slice none 0 0], .sl 3⟩ := ⟨by kernel_rfl, _, Try.underlying73, rfl, rfl⟩
theorem tf74 : TFacts Try.prog 74 ⟨1, 8, false, [Value.nilFunc], .fu⟩ := ⟨by kernel_rfl, _, Try.underlying74, rfl, ⟨_, _, _, rfl⟩⟩
theorem tf75 : TFacts Try.prog 75 ⟨1, 8, false, [Value.nilFunc], .fu⟩ := ⟨by kernel_rfl, _, Try.underlying75, rfl, ⟨_, _, _, rfl⟩⟩
theorem tf76 : TFacts Try.prog 76 ⟨1, 8, false, [Value.nilFunc], .fu⟩ := ⟨by kernel_rfl, _, Try.underlying76, rfl, ⟨_, _, _, rfl⟩⟩
theorem tf77 : TFacts Try.prog 77 ⟨1, 8, false, [Value.nilFunc], .fu⟩ := ⟨by kernel_rfl, _, Try.underlying77, rfl, ⟨_, _, _, rfl⟩⟩
theorem tf78 : TFacts Try.prog 78 ⟨1, 8, false, [Value.int .u64 0], .it .u64⟩ := ⟨by kernel_rfl, _, Try.underlying78, rfl, rfl⟩
theorem tf79 : TFacts Try.prog 79 ⟨1, 8, false, [Value.nilFunc], .fu⟩ := ⟨by kernel_rfl, _, Try.underlying79, rfl, ⟨_, _, _, rfl⟩⟩
theorem tf80 : TFacts Try.prog 80 ⟨1, 8, false, [Value.int .i64 0], .it .i64⟩ := ⟨by kernel_rfl, _, Try.underlying80, rfl, rfl⟩
theorem tf82 : TFacts Try.prog 82 ⟨1, 8, false, [Value.nilFunc], .fu⟩ := ⟨by kernel_rfl, _, Try.underlying82, rfl, ⟨_, _, _, rfl⟩⟩
theorem tf83 : TFacts Try.prog 83 ⟨1, 8, false, [Value.nilFunc], .fu⟩ := ⟨by kernel_rfl, _, Try.underlying83, rfl, ⟨_, _, _, rfl⟩⟩
theorem tf84 : TFacts Try.prog 84 ⟨1, 8, false, [Value.nilFunc], .fu⟩ := ⟨by kernel_rfl, _, Try.underlying84, rfl, ⟨_, _, _, rfl⟩⟩
theorem tf85 : TFacts Try.prog 85 ⟨1, 8, false, [Value.nilFunc], .fu⟩ := ⟨by kernel_rfl, _, Try.underlying85, rfl, ⟨_, _, _, rfl⟩⟩
theorem tf86 : TFacts Try.prog 86 ⟨1, 8, false, [Value.nilFunc], .fu⟩ := ⟨by kernel_rfl, _, Try.underlying86, rfl, ⟨_, _, _, rfl⟩⟩
theorem tf87 : TFacts Try.prog 87 ⟨1, 8, false, [Value.nilFunc], .fu⟩ := ⟨by kernel_rfl, _, Try.underlying87, rfl, ⟨_, _, _, rfl⟩⟩
theorem tf88 : TFacts Try.prog 88 ⟨1, 8, false, [Value.int .u64 0], .it .u64⟩ := ⟨by kernel_rfl, _, Try.underlying88, rfl, rfl⟩
theorem tf89 : TFacts Try.prog 89 ⟨1, 8, false, [Value.nilFunc], .fu⟩ := ⟨by kernel_rfl, _, Try.underlying89, rfl, ⟨_, _, _, rfl⟩⟩
theorem tf90 : TFacts Try.prog 90 ⟨1, 8, false, [Value.nilFunc], .fu⟩ := ⟨by kernel_rfl, _, Try.underlying90, rfl, ⟨_, _, _, rfl⟩⟩
theorem tf91 : TFacts Try.prog 91 ⟨1, 8, false, [Value.nilFunc], .fu⟩ := ⟨by kernel_rfl, _, Try.underlying91, rfl, ⟨_, _, _, rfl⟩⟩
theorem tf92 : TFacts Try.prog 92 ⟨1, 8, false, [Value.pointer none], .pt 3⟩ := ⟨by kernel_rfl, _, Try.underlying92, rfl, rfl⟩
theorem tf93 : TFacts Try.prog 93 ⟨1, 8, false, [Value.nilFunc], .fu⟩ := ⟨by kernel_rfl, _, Try.underlying93, rfl, ⟨_, _, _, rfl⟩⟩
theorem tf94 : TFacts Try.prog 94 ⟨1, 8, false, [Value.pointer none], .pt 88⟩ := ⟨by kernel_rfl, _, Try.underlying94, rfl, rfl⟩
theorem tf96 : TFacts Try.prog 96 ⟨1, 8, false, [Value.nilFunc], .fu⟩ := ⟨by kernel_rfl, _, Try.underlying96, rfl, ⟨_, _, _, rfl⟩⟩
theorem tf97 : TFacts Try.prog 97 ⟨1, 8, false, [Value.nilFunc], .fu⟩ := ⟨by kernel_rfl, _, Try.underlying97, rfl, ⟨_, _, _, rfl⟩⟩
theorem tf103 : TFacts Try.prog 103 ⟨1, 8, false, [Value.nilFunc], .fu⟩ := ⟨by kernel_rfl, _, Try.underlying103, rfl, ⟨_, _, _, rfl⟩⟩
theorem tf106 : TFacts Try.prog 106 ⟨1, 8, false, [Value.nilFunc], .fu⟩ := ⟨by kernel_rfl, _, Try.underlying106, rfl, ⟨_, _, _, rfl⟩⟩
theorem tf107 : TFacts Try.prog 107 ⟨1, 8, false, [Value.pointer none], .pt 5⟩ := ⟨by kernel_rfl, _, Try.underlying107, rfl, rfl⟩
set_option maxRecDepth 100000 in
theorem tabOk : TabOk Try.prog tab := (.node tf57 (.node tf35 (.node tf24 (.node tf9 (.node tf3 (.node tf2 (.node tf1 (.leaf _) (.leaf _)) (.leaf _)) (.node tf5 (.node tf4 (.leaf _) (.leaf _)) (.leaf _))) (.node tf22 (.node tf21 (.node tf12 (.leaf _) (.leaf _)) (.leaf _)) (.node tf23 (.leaf _) (.leaf _)))) (.node tf30 (.node tf28 (.node tf27 (.node tf26 (.leaf _) (.leaf _)) (.leaf _)) (.node tf29 (.leaf _) (.leaf _))) (.node tf33 (.node tf32 (.node tf31 (.leaf _) (.leaf _)) (.leaf _)) (.node tf34 (.leaf _) (.leaf _))))) (.node tf46 (.node tf41 (.node tf38 (.node tf37 (.node tf36 (.leaf _) (.leaf _)) (.leaf _)) (.node tf40 (.node tf39 (.leaf _) (.leaf _)) (.leaf _))) (.node tf44 (.node tf43 (.node tf42 (.leaf _) (.leaf _)) (.leaf _)) (.node tf45 (.leaf _) (.leaf _)))) (.node tf52 (.node tf50 (.node tf48 (.node tf47 (.leaf _) (.leaf _)) (.leaf _)) (.node tf51 (.leaf _) (.leaf _))) (.node tf55 (.node tf54 (.node tf53 (.leaf _) (.leaf _)) (.leaf _)) (.node tf56 (.leaf _) (.leaf _)))))) (.node tf78 (.node tf68 (.node tf63 (.node tf60 (.node tf59 (.node tf58 (.leaf _) (.leaf _)) (.leaf _)) (.node tf62 (.node tf61 (.leaf _) (.leaf _)) (.leaf _))) (.node tf66 (.node tf65 (.node tf64 (.leaf _) (.leaf _)) (.leaf _)) (.node tf67 (.leaf _) (.leaf _)))) (.node tf73 (.node tf71 (.node tf70 (.node tf69 (.leaf _) (.leaf _)) (.leaf _)) (.node tf72 (.leaf _) (.leaf _))) (.node tf76 (.node tf75 (.node tf74 (.leaf _) (.leaf _)) (.leaf _)) (.node tf77 (.leaf _) (.leaf _))))) (.node tf90 (.node tf85 (.node tf82 (.node tf80 (.node tf79 (.leaf _) (.leaf _)) (.leaf _)) (.node tf84 (.node tf83 (.leaf _) (.leaf _)) (.leaf _))) (.node tf88 (.node tf87 (.node tf86 (.leaf _) (.leaf _)) (.leaf _)) (.node tf89 (.leaf _) (.leaf _)))) (.node tf96 (.node tf93 (.node tf92 (.node tf91 (.leaf _) (.leaf _)) (.leaf _)) (.node tf94 (.leaf _) (.leaf _))) (.node tf106 (.node tf103 (.node tf97 (.leaf _) (.leaf _)) (.leaf _)) (.node tf107 (.leaf _) (.leaf _)))))))
theorem mixed : Try.prog.follows .mixedOrders = true := by kernel_rfl
end Go.Proofs.Ytblgdfcijkaimaa.Ab

namespace Go.Proofs.Ytblgdfcijkaimaa
set_option linter.unusedVariables false
open Go.RowKit Go.Sort

structure Kp (L : List Nat) (w w' : World) : Prop where
  os : w'.os = w.os
  tape : w'.tape = w.tape
  output : w'.output = w.output
  size : w.heap.size ≤ w'.heap.size
  block : ∀ k, k < w.heap.size → k ∉ L → w'.heap[k]? = w.heap[k]?

section
variable {L M : List Nat} {w w0 w1 w2 : World}
theorem Kp.refl (L : List Nat) (w : World) : Kp L w w := ⟨rfl, rfl, rfl, Nat.le_refl _, fun _ _ _ => rfl⟩
theorem Kp.of_below (h : Below w.heap.size w w1) : Kp [] w w1 := ⟨h.os, h.tape, h.output, h.size, fun k hk _ => h.block k hk⟩
theorem Kp.below (h : Kp [] w w1) : Below w.heap.size w w1 := ⟨h.os, h.tape, h.output, h.size, fun k hk => h.block k hk (by simp)⟩
theorem Kp.trans (h : Kp L w0 w1) (k : Kp M w1 w2) (hs : ∀ b ∈ M, b ∈ L ∨ w0.heap.size ≤ b) : Kp L w0 w2 :=
  ⟨k.os.trans h.os, k.tape.trans h.tape, k.output.trans h.output, Nat.le_trans h.size k.size, fun i hi hn =>
    (k.block i (Nat.lt_of_lt_of_le hi h.size) (fun hm => by rcases hs i hm with h1 | h1; exact hn h1; omega)).trans (h.block i hi hn)⟩
theorem Kp.more (h : Kp L w0 w1) (k : Below w1.heap.size w1 w2) : Kp L w0 w2 := h.trans (Kp.of_below k) (by simp)
theorem Kp.drew (h : Kp L w w1) : Kp L w w1.drew := ⟨h.os, h.tape, h.output, h.size, h.block⟩
theorem Kp.drewN (h : Kp L w w1) (n : Nat) : Kp L w (w1.drewN n) := ⟨h.os, h.tape, h.output, h.size, h.block⟩
theorem Kp.alloc (h : Kp L w w1) (x : Obj) : Kp L w (w1.alloc x) :=
  ⟨h.os, h.tape, h.output, by have := h.size; simp; omega, fun k hk hn => (Below.heap_alloc w1 x k (Nat.lt_of_lt_of_le hk h.size)).trans (h.block k hk hn)⟩
theorem Kp.setCell (h : Kp L w w1) (p : Addr) (u : Value) (hp : p.block ∈ L ∨ w.heap.size ≤ p.block) : Kp L w (w1.setCell p u) := by
  have e := (Below.refl 0 w1).setCell (p := p) (Nat.zero_le _) u
  refine ⟨e.os.trans h.os, e.tape.trans h.tape, e.output.trans h.output, Nat.le_trans h.size e.size, fun k hk hn => ?_⟩
  refine (Below.heap_setCell w1 p u k ?_).trans (h.block k hk hn)
  rintro rfl
  rcases hp with h1 | h1
  · exact hn h1
  · omega
theorem Kp.grown {row : Option Nat} (h : Kp L w w1) (hg : w1.grownBy w2 row) (hr : ∀ k, row = some k → k ∈ L ∨ w.heap.size ≤ k) : Kp L w w2 :=
  ⟨hg.os.trans h.os, hg.tape.trans h.tape, hg.output.trans h.output, Nat.le_trans h.size hg.size, fun k hk hn =>
    (hg.block k (Nat.lt_of_lt_of_le hk h.size) (fun e => by rcases hr k e.symm with h1 | h1; exact hn h1; omega)).trans (h.block k hk hn)⟩
theorem Kp.cell (h : Kp L w w1) {a : Addr} {v : Value} (hc : w.cell? a = some v) (hn : a.block ∉ L) : w1.cell? a = some v :=
  (World.cell?_of_block (h.block a.block (World.block_lt_of_cell? w a hc) hn)).trans hc

theorem Kn.set {b o : Nat} {v : Value} (h : Kn w b o v) (u : Value) : Kn (w.setCell ⟨b, o, none⟩ u) b o u :=
  ⟨World.cell?_setCell_same _ _ _ h.1, by rw [World.frozen?_setCell]; exact h.2⟩
theorem Kn.drew {b o : Nat} {v : Value} (h : Kn w b o v) : Kn w.drew b o v := h

def Rd (w : World) (v : Value) (n k : Nat) (cs : List Value) : Prop :=
  ∃ ao cap, v = .slice ao n cap ∧ cs.length = n * k ∧ (0 < n → ∃ b o, ao = some ⟨b, o, none⟩ ∧ ∀ j u, cs[j]? = some u → w.cell? ⟨b, o + j, none⟩ = some u)
def Rdx (L : List Nat) (v : Value) : Prop := ∀ a n cap, v = .slice (some a) n cap → 0 < n → a.block ∉ L
theorem Rdx.nil (v : Value) : Rdx [] v := fun _ _ _ _ _ => by simp

theorem Rd.drew {v : Value} {n k : Nat} {cs : List Value} (h : Rd w v n k cs) : Rd w.drew v n k cs := h
theorem Rd.nil (w : World) (k : Nat) : Rd w (.slice none 0 0) 0 k [] := ⟨none, 0, rfl, by simp, fun h => absurd h (by omega)⟩
end
end Go.Proofs.Ytblgdfcijkaimaa

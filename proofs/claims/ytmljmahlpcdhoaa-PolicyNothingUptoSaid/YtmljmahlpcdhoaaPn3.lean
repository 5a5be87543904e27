/-
  Texts of a proof, one behind the other (part 4).
-/
import Derived.Deep.Slices
import Derived.Test.YtmljmahlpcdhoaaPn1
import Derived.Test.YtmljmahlpcdhoaaPn2
set_option linter.unusedVariables false
set_option linter.unusedSimpArgs false
namespace Go.Proofs.Ytmljmahlpcdhoaa.Ab
set_option linter.unusedVariables false
open Go.RowKit Go.ChangeShapes Go.WideShapes Go.ChangeAt
inductive Shp where
  | it (k : IntKind)
  | bo
  | st
  | sl (fs : List Shp) (b : Nat)
inductive ShD : Shp → Dat → Prop where
  | it (k : IntKind) (x : Int) (h : k.min ≤ x ∧ x ≤ k.max) : ShD (.it k) (.sc (.int k x))
  | bo (b : Bool) : ShD .bo (.sc (.bool b))
  | st (l : List UInt8) : ShD .st (.sc (.string ⟨⟨l⟩⟩))
  | sl (fs : List Shp) (b : Nat) (ls : List (List Dat)) (hb : ls.length * b ≤ 140737488351232) (hl : ∀ l ∈ ls, l.length = fs.length) (h : ∀ l ∈ ls, ∀ (i : Nat) (s : Shp) (d : Dat), fs[i]? = some s → l[i]? = some d → ShD s d) : ShD (.sl fs b) (.sl ls.flatten ls.length)
def Fits (fs : List Shp) (l : List Dat) : Prop := l.length = fs.length ∧ ∀ (i : Nat) (s : Shp) (d : Dat), fs[i]? = some s → l[i]? = some d → ShD s d
theorem fits_nil {l : List Dat} (h : Fits [] l) : l = [] := List.eq_nil_of_length_eq_zero h.1
theorem fits_cons {s : Shp} {fs : List Shp} {l : List Dat} (h : Fits (s :: fs) l) : ∃ d r, l = d :: r ∧ ShD s d ∧ Fits fs r := by
  match l, h with
  | [], h => exact absurd h.1 (by simp)
  | d :: r, h => exact ⟨d, r, rfl, h.2 0 s d rfl rfl, by simpa using h.1, fun i s' d' h1 h2 => h.2 (i + 1) s' d' (by simpa using h1) (by simpa using h2)⟩
theorem fits_append {a b : List Shp} {l m : List Dat} (h1 : Fits a l) (h2 : Fits b m) : Fits (a ++ b) (l ++ m) := by
  refine ⟨by simp [h1.1, h2.1], fun i s d e1 e2 => ?_⟩
  rw [List.getElem?_append] at e1 e2
  rw [h1.1] at e2
  split at e1
  · rename_i hi; rw [if_pos hi] at e2; exact h1.2 i s d e1 e2
  · rename_i hi; rw [if_neg hi] at e2; exact h2.2 _ s d e1 e2
theorem shd_int {k : IntKind} {d : Dat} (h : ShD (.it k) d) : ∃ x, d = .sc (.int k x) ∧ k.min ≤ x ∧ x ≤ k.max := by cases h with | it _ x h => exact ⟨x, rfl, h⟩
theorem shd_bo {d : Dat} (h : ShD .bo d) : ∃ b, d = .sc (.bool b) := by cases h with | bo b => exact ⟨b, rfl⟩
theorem shd_st {d : Dat} (h : ShD .st d) : ∃ l : List UInt8, d = .sc (.string ⟨⟨l⟩⟩) := by cases h with | st l => exact ⟨l, rfl⟩
theorem shd_sl {α : Type} {fs : List Shp} {b : Nat} {d : Dat} (h : ShD (.sl fs b) d) (enc : α → List Dat) (good : α → Prop) (hel : ∀ l, Fits fs l → ∃ x, good x ∧ l = enc x) : ∃ L : List α, L.length * b ≤ 140737488351232 ∧ (∀ x ∈ L, good x) ∧ d = .sl (L.flatMap enc) L.length := by
  cases h with
  | sl _ _ ls hb hl hh =>
    have key : ∀ ls : List (List Dat), (∀ l ∈ ls, Fits fs l) → ∃ L : List α, (∀ x ∈ L, good x) ∧ ls.flatten = L.flatMap enc ∧ ls.length = L.length := by
      intro ls
      induction ls with
      | nil => exact fun _ => ⟨[], by simp, rfl, rfl⟩
      | cons l r ih =>
        intro h
        obtain ⟨L, h1, h2, h3⟩ := ih fun q hq => h q (by simp [hq])
        obtain ⟨x, h4, h5⟩ := hel l (h l (by simp))
        refine ⟨x :: L, fun y hy => ?_, by rw [List.flatten_cons, List.flatMap_cons, h2, h5], by simp [h3]⟩
        rcases List.mem_cons.1 hy with rfl | hy
        · exact h4
        · exact h1 y hy
    obtain ⟨L, h1, h2, h3⟩ := key ls fun l hm => ⟨hl l hm, hh l hm⟩
    exact ⟨L, by rw [← h3]; exact hb, h1, by rw [h2, h3]⟩
def shpF (g : TypeId → Option (List Shp)) : List (Nat × TypeId) → List Shp → Option (List Shp)
  | [], acc => some acc
  | (off, t) :: r, acc => match g t with
    | some s => cond (Nat.beq off acc.length) (shpF g r (acc ++ s)) none
    | none => none
def shp (tab : TTab) : Nat → TypeId → Option (List Shp)
  | 0, _ => none
  | n + 1, t => match tlook tab t with
    | some te => match te.sh with
      | .it k => cond (Nat.beq te.size 1) (some [.it k]) none
      | .bo => cond (Nat.beq te.size 1) (some [.bo]) none
      | .str => cond (Nat.beq te.size 1) (some [.st]) none
      | .sl e => match tbytes tab e with
        | some b => match shp tab n e with
          | some (s :: fs) => cond (Nat.beq te.size 1) (some [.sl (s :: fs) b]) none
          | _ => none
        | none => none
      | .st fs => match shpF (shp tab n) fs [] with
        | some l => cond (Nat.beq l.length te.size) (some l) none
        | none => none
      | _ => none
    | none => none
section
variable {H : Type} {enc : TypeId × Value → H} {P : Program} {W : World} {tab : TTab}
def CellsAre (W : World) (Fr : Nat → Prop) (fs : List Shp) (cs : List Value) : Prop := ∃ ds : List Dat, Fits fs ds ∧ cs.length = ds.length ∧ ∀ (i : Nat) (d : Dat) (u : Value), ds[i]? = some d → cs[i]? = some u → DRel W Fr d u
theorem CellsAre.append {Fr : Nat → Prop} {a b : List Shp} {l m : List Value} (h1 : CellsAre W Fr a l) (h2 : CellsAre W Fr b m) : CellsAre W Fr (a ++ b) (l ++ m) := by
  obtain ⟨d1, f1, l1, r1⟩ := h1
  obtain ⟨d2, f2, l2, r2⟩ := h2
  refine ⟨d1 ++ d2, fits_append f1 f2, by simp [l1, l2], fun i d u e1 e2 => ?_⟩
  rw [List.getElem?_append] at e1 e2
  rw [l1] at e2
  split at e1
  · rename_i hi; rw [if_pos hi] at e2; exact r1 i d u e1 e2
  · rename_i hi; rw [if_neg hi] at e2; exact r2 _ d u e1 e2
theorem CellsAre.one {Fr : Nat → Prop} {s : Shp} {v : Value} {d : Dat} (h1 : ShD s d) (h2 : DRel W Fr d v) : CellsAre W Fr [s] [v] := by
  refine ⟨[d], ⟨rfl, fun i s' d' e1 e2 => ?_⟩, rfl, fun i d' u e1 e2 => ?_⟩
  · match i with
    | 0 => simp at e1 e2; subst e1 e2; exact h1
    | i + 1 => simp at e1
  · match i with
    | 0 => simp at e1 e2; subst e1 e2; exact h2
    | i + 1 => simp at e1
theorem mapM_at {α β : Type} {g : α → Option β} : ∀ {l : List α} {r : List β}, l.mapM g = some r → ∀ (i : Nat) (x : α), l[i]? = some x → ∃ y, g x = some y ∧ r[i]? = some y
  | [], _, _, i, x, hx => by simp at hx
  | a :: l, r, h, i, x, hx => by
    rw [List.mapM_cons] at h
    cases hg : g a with
    | none => simp [hg] at h
    | some b =>
      simp only [hg, Option.bind_eq_bind, Option.bind_some] at h
      cases hl : l.mapM g with
      | none => simp [hl] at h
      | some rs =>
        simp [hl] at h
        subst h
        match i, hx with
        | 0, hx => simp at hx; subst hx; exact ⟨b, hg, rfl⟩
        | i + 1, hx => exact mapM_at hl i x (by simpa using hx)
theorem trod_fields2 {t : TypeId} {fs : Array Field} {cs : List Value} {fuel : Nat} {x : DataW H × List MemPlace} (ht : P.underlying t = some (.struct fs)) (h : DataW.trod enc P W 0 (fun _ => true) true fuel t cs = some x) :
    cs.length = P.cellsOf t ∧ ∃ (n : Nat) (parts : List (DataW H)), x.1 = .agg parts ∧ ∀ (i : Nat) (f : Field), fs.toList[i]? = some f → ∃ y, DataW.trod enc P W 0 (fun _ => true) true n f.type ((cs.drop f.offset).take (P.cellsOf f.type)) = some y ∧ parts[i]? = some y.1 := by
  cases fuel with
  | zero => simp [DataW.trod] at h
  | succ n =>
    unfold DataW.trod at h
    rw [ht] at h
    simp only at h
    split at h
    · rename_i hl
      cases hm : fs.toList.mapM fun f => DataW.trod enc P W 0 (fun _ => true) true n f.type ((cs.drop f.offset).take (P.cellsOf f.type)) with
      | none => simp [hm] at h
      | some r =>
        simp [hm] at h
        subst h
        refine ⟨hl, n, r.map (·.1), rfl, fun i f hf => ?_⟩
        obtain ⟨y, h1, h2⟩ := mapM_at hm i f hf
        exact ⟨y, h1, by simp [h2]⟩
    · cases h
theorem all_weightsAll {q : Nat → Bool} {e : TypeId} : ∀ (l : List (DataW H)), (DataW.weightsAll P e l).all q = true → ∀ d ∈ l, (d.weights P e).all q = true
  | [], _, d, hd => by cases hd
  | a :: r, h, d, hd => by
    rw [DataW.weightsAll, List.all_append, Bool.and_eq_true] at h
    rcases List.mem_cons.1 hd with rfl | hd
    · exact h.1
    · exact all_weightsAll r h.2 d hd
theorem all_weightsEach {q : Nat → Bool} : ∀ (ts : List TypeId) (ds : List (DataW H)), (DataW.weightsEach P ts ds).all q = true → ∀ (i : Nat) (t : TypeId) (d : DataW H), ts[i]? = some t → ds[i]? = some d → (d.weights P t).all q = true
  | [], _, _, i, t, d, h, _ => by simp at h
  | _ :: _, [], _, i, t, d, _, h => by simp at h
  | t :: ts, a :: r, h, i, t', d, h1, h2 => by
    rw [DataW.weightsEach, List.all_append, Bool.and_eq_true] at h
    match i, h1, h2 with
    | 0, h1, h2 => simp at h1 h2; subst h1 h2; exact h.1
    | i + 1, h1, h2 => exact all_weightsEach ts r h.2 i t' d (by simpa using h1) (by simpa using h2)
theorem TFacts.bytesOf {P : Program} {t : TypeId} {te : TE} (Fa : TFacts P t te) : P.bytesOf t = te.bytes := by
  have h := Fa.info
  unfold Program.bytesOf
  cases hi : P.info? t with
  | none => rw [hi] at h; cases h
  | some i => rw [hi] at h; simp at h; simp [h.2.1]
theorem shp_read (TO : TabOk P tab) {Fr : Nat → Prop} (hF : ∀ b, Fr b) : ∀ (n : Nat) (t : TypeId) (fs : List Shp) (fl : Nat) (cs : List Value) (y : DataW H × List MemPlace), shp tab n t = some fs →
    DataW.trod enc P W 0 (fun _ => true) true fl t cs = some y → (y.1.weights P t).all (· ≤ reachBytes) = true → P.cellsOf t = fs.length ∧ CellsAre W Fr fs cs := by
  intro n
  induction n with
  | zero => intro t fs fl cs y h; cases h
  | succ n ih =>
    intro t fs fl cs y h hy hwt
    rw [shp] at h
    cases ht : tlook tab t with
    | none => rw [ht] at h; cases h
    | some te =>
      rw [ht] at h
      have Fa := TO t te ht
      have hcells := Fa.cellsOf
      obtain ⟨dsc, hund, _, hsh⟩ := Fa.und
      have one : ∀ {b : Bool} {x z : Option (List Shp)}, cond b x z = some fs → z = none → b = true ∧ x = some fs := fun {b x z} h hz => by
        cases b
        · rw [cond_false, hz] at h; cases h
        · exact ⟨rfl, h⟩
      dsimp only at h
      cases hs : te.sh with
      | it k =>
        rw [hs] at h hsh
        cases hsh
        obtain ⟨h1, h2⟩ := one h rfl
        cases h2
        obtain ⟨v, e1, _, e2⟩ := DataW.trod_int hund hy
        subst e1
        exact ⟨by rw [hcells, Nat.eq_of_beq_eq_true h1]; rfl, .one (.it k v (int_bounds e2)) (.sc _ rfl)⟩
      | bo =>
        rw [hs] at h hsh
        cases hsh
        obtain ⟨h1, h2⟩ := one h rfl
        cases h2
        obtain ⟨v, e1, _⟩ := DataW.trod_bool hund hy
        subst e1
        exact ⟨by rw [hcells, Nat.eq_of_beq_eq_true h1]; rfl, .one (.bo v) (.sc _ rfl)⟩
      | str =>
        rw [hs] at h hsh
        cases hsh
        obtain ⟨h1, h2⟩ := one h rfl
        cases h2
        obtain ⟨v, e1, _⟩ := DataW.trod_string hund hy
        subst e1
        exact ⟨by rw [hcells, Nat.eq_of_beq_eq_true h1]; rfl, .one (.st v.data.toList) (.sc _ rfl)⟩
      | sl e =>
        rw [hs] at h hsh
        cases hsh
        dsimp only at h
        cases hbe : tbytes tab e with
        | none => rw [hbe] at h; cases h
        | some be =>
        rw [hbe] at h
        dsimp only at h
        cases he : shp tab n e with
        | none => rw [he] at h; cases h
        | some es =>
          rw [he] at h
          have hbe2 : P.bytesOf e = be := by
            unfold tbytes at hbe
            cases hte : tlook tab e with
            | none => rw [hte] at hbe; cases hbe
            | some te2 => rw [hte] at hbe; cases hbe; exact (TO e te2 hte).bytesOf
          match es, he, h with
          | [], he, h => cases h
          | s :: ss, he, h =>
            obtain ⟨h1, h2⟩ := one h rfl
            cases h2
            refine ⟨by rw [hcells, Nat.eq_of_beq_eq_true h1]; rfl, ?_⟩
            rcases Go.Deep.open_slice hund hy with ⟨q1, _⟩ | ⟨a, len, cap, m, fl2, D, Pl, q1, _, hle, _, hm, hye, hx⟩
            · subst q1
              exact .one (.sl (s :: ss) be [] (by simp) (by simp) (by simp)) .nil
            · subst q1
              have hm' : m = cap := by rw [hm]; rfl
              subst hm'
              have hwt' := hwt
              rw [hye] at hwt'
              unfold DataW.weights at hwt'
              rw [hund] at hwt'
              simp only [List.all_cons, List.all_append, Bool.and_eq_true, decide_eq_true_eq, List.length_map, List.length_range] at hwt'
              obtain ⟨hbytes, hwE, hwS⟩ := hwt'
              have hlenB : len * be ≤ 140737488351232 := by
                rw [hbe2] at hbytes
                have : len * be ≤ (len + (m - len)) * be := Nat.mul_le_mul_right _ (by omega)
                unfold reachBytes at hbytes
                omega
              have hwD : ∀ i, i < m → ((D i).weights P e).all (· ≤ reachBytes) = true := fun i hi => by
                by_cases hil : i < len
                · exact all_weightsAll _ hwE (D i) (List.mem_map.2 ⟨i, by simpa using hil, rfl⟩)
                · have : D i = D (len + (i - len)) := by congr 1; omega
                  rw [this]
                  exact all_weightsAll _ hwS _ (List.mem_map.2 ⟨i - len, by simp; omega, rfl⟩)
              have hK : 0 < m → P.cellsOf e = (s :: ss).length := fun h0 => by
                obtain ⟨cs', g1, g2⟩ := hx 0 h0
                exact (ih e _ _ _ _ he g2 (hwD 0 h0)).1
              by_cases h0 : m = 0
              · subst h0
                obtain rfl : len = 0 := by omega
                exact .one (.sl (s :: ss) be [] (by simp) (by simp) (by simp)) (.emp a)
              · have hK := hK (by omega)
                have hsp : a.spot = none := by
                  obtain ⟨cs', g1, g2⟩ := hx 0 (by omega)
                  obtain ⟨_, g3, g4⟩ := World.cells?_some g1
                  have := g4 0 (by rw [hK]; simp)
                  have hne : cs'[0]? ≠ none := by
                    rw [List.getElem?_eq_getElem (by rw [g3, hK]; simp)]; simp
                  cases hc : cs'[0]? with
                  | none => exact absurd hc hne
                  | some v =>
                    rw [hc] at this
                    have := World.cell?_spot this
                    simpa [Addr.add] using this
                obtain ⟨b, o, sp⟩ := a
                dsimp only at hsp
                subst hsp
                have key : ∀ k, k ≤ len → ∃ (ls : List (List Dat)) (vs : List Value), ls.length = k ∧ (∀ l ∈ ls, Fits (s :: ss) l) ∧ vs.length = ls.flatten.length ∧ vs.length = k * (s :: ss).length ∧ (∀ (i : Nat) (u : Value), vs[i]? = some u → W.cell? ⟨b, o + i, none⟩ = some u) ∧
                    ∀ (i : Nat) (c : Dat) (u : Value), ls.flatten[i]? = some c → vs[i]? = some u → DRel W Fr c u := by
                  intro k
                  induction k with
                  | zero => exact fun _ => ⟨[], [], rfl, by simp, rfl, by simp, by simp, by simp⟩
                  | succ k ihk =>
                    intro hk
                    obtain ⟨ls, vs, k1, k2, k3, k4, k5, k6⟩ := ihk (by omega)
                    obtain ⟨cs', g1, g2⟩ := hx k (by omega)
                    obtain ⟨_, ds, f1, f2, f3⟩ := ih e _ _ _ _ he g2 (hwD k (by omega))
                    obtain ⟨_, g3, g4⟩ := World.cells?_some g1
                    refine ⟨ls ++ [ds], vs ++ cs', by simp [k1], fun l hl => ?_, ?_, ?_, fun i u hu => ?_, fun i c u h1 h2 => ?_⟩
                    · rcases List.mem_append.1 hl with hl | hl
                      · exact k2 l hl
                      · simp at hl; subst hl; exact f1
                    · simp [List.flatten_append, k3, f2]
                    · rw [List.length_append, k4, g3, hK, Nat.add_mul]; omega
                    · rw [List.getElem?_append] at hu
                      split at hu
                      · exact k5 i u hu
                      · rename_i hge
                        have hlt := (List.getElem?_eq_some_iff.1 hu).1
                        have g5 := g4 (i - vs.length) (by rw [← g3]; exact hlt)
                        rw [hu] at g5
                        rw [hK] at g5
                        rw [Addr.add_mid, Addr.add_mid] at g5
                        rw [show o + i = o + k * (s :: ss).length + (i - vs.length) by omega]
                        exact g5
                    · rw [List.flatten_append, List.getElem?_append] at h1
                      rw [List.getElem?_append] at h2
                      rw [k3] at h2
                      split at h1
                      · rename_i hi; rw [if_pos hi] at h2; exact k6 i c u h1 h2
                      · rename_i hi; rw [if_neg hi] at h2; exact f3 _ c u (by simpa using h1) h2
                obtain ⟨ls, vs, k1, k2, k3, _, k5, k6⟩ := key len (Nat.le_refl _)
                subst k1
                exact .one (.sl (s :: ss) be ls hlenB (fun l hl => (k2 l hl).1) fun l hl => (k2 l hl).2) (.sl _ _ b o _ vs hle k3 (fun _ => hF b) k5 k6)
      | st fs0 =>
        rw [hs] at h
        dsimp only at h
        obtain ⟨F, hF1, hF2⟩ := Fa.struct hs
        obtain ⟨hlen, fl2, parts, hye, hfs⟩ := trod_fields2 hF1 hy
        have hwt' := hwt
        rw [hye] at hwt'
        unfold DataW.weights at hwt'
        rw [hF1] at hwt'
        dsimp only at hwt'
        cases hl : shpF (shp tab n) fs0 [] with
        | none => rw [hl] at h; cases h
        | some l =>
          rw [hl] at h
          obtain ⟨h1, h2⟩ := one h rfl
          cases h2
          have h1 := Nat.eq_of_beq_eq_true h1
          refine ⟨by rw [hcells, h1], ?_⟩
          have key : ∀ (fs : List (Nat × TypeId)) (acc l : List Shp), (∀ p ∈ fs, ∃ (i : Nat) (f : Field), F.toList[i]? = some f ∧ p = (f.offset, f.type)) → shpF (shp tab n) fs acc = some l → CellsAre W Fr acc (cs.take acc.length) → (l.length ≤ cs.length) → CellsAre W Fr l (cs.take l.length) := by
            intro fs
            induction fs with
            | nil => intro acc l _ h h3 _; cases h; exact h3
            | cons p r ihr =>
              intro acc l hp h h3 hle
              obtain ⟨off, u⟩ := p
              rw [shpF] at h
              cases hg : shp tab n u with
              | none => rw [hg] at h; cases h
              | some s =>
                rw [hg] at h
                dsimp only at h
                cases hb : Nat.beq off acc.length with
                | false => rw [hb] at h; cases h
                | true =>
                  rw [hb, cond_true] at h
                  obtain ⟨i, f, hf, hpe⟩ := hp (off, u) (by simp)
                  cases hpe
                  obtain ⟨y2, hy2, hy3⟩ := hfs i f hf
                  obtain ⟨c1, c2⟩ := ih _ _ _ _ _ hg hy2 (all_weightsEach _ _ hwt' i _ _ (by rw [List.getElem?_map, hf]; rfl) hy3)
                  rw [c1, Nat.eq_of_beq_eq_true hb] at c2
                  refine ihr (acc ++ s) l (fun q hq => hp q (by simp [hq])) h ?_ hle
                  have e : cs.take (acc ++ s).length = cs.take acc.length ++ (cs.drop acc.length).take s.length := by
                    rw [List.length_append, List.take_add]
                  rw [e]
                  exact h3.append c2
          have := key fs0 [] fs (fun p hp => by
            rw [← hF2] at hp
            obtain ⟨f, hf, rfl⟩ := List.mem_map.1 hp
            obtain ⟨i, hi⟩ := List.getElem?_of_mem hf
            exact ⟨i, f, hi, rfl⟩) hl ⟨[], ⟨rfl, by simp⟩, by simp, by simp⟩ (by rw [hlen, hcells, h1]; exact Nat.le_refl _)
          rwa [List.take_of_length_le (by rw [hlen, hcells, h1]; exact Nat.le_refl _)] at this
      | ar => rw [hs] at h; cases h
      | mp => rw [hs] at h; cases h
      | pt => rw [hs] at h; cases h
      | fu => rw [hs] at h; cases h
      | other => rw [hs] at h; cases h
theorem arg_one (TO : TabOk P tab) {t : TypeId} {s : Shp} {v : Value} {d : DataW H} {p : List MemPlace} (hs : shp tab 16 t = some [s]) (hv : v.cells.toList = [v]) (h : DataW.Trod enc P W 0 (fun _ => true) true t v d p) (hwt : (d.weights P t).all (· ≤ reachBytes) = true) {F : Nat → Prop} {ι : Nat → Option Value} (hF : ∀ b, FreeB F ι b) :
    ∃ x, ShD s x ∧ VRel W F ι (.d x) v := by
  obtain ⟨fl, hf⟩ := h
  obtain ⟨_, ds, h1, h2, h3⟩ := shp_read TO hF 16 t [s] _ _ _ hs hf hwt
  obtain ⟨x, r, rfl, h4, h5⟩ := fits_cons h1
  obtain rfl := fits_nil h5
  exact ⟨x, h4, .d _ _ (h3 0 x v rfl (by rw [hv]; rfl))⟩
end
end Go.Proofs.Ytmljmahlpcdhoaa.Ab

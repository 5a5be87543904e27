/-
  Texts of a proof, one behind the other (part 29).
-/
import Derived.Test.YtpnhkkejcnicoaaGreatRows
import Derived.Deep.CondSized
import Derived.Test.YtpnhkkejcnicoaaGreatRo5
import Derived.Test.YtpnhkkejcnicoaaGreatRo6
import Derived.Test.YtpnhkkejcnicoaaGreatRo27
set_option linter.unusedVariables false
set_option linter.unusedSimpArgs false
namespace Go.Proofs.YtpnhkkejcnicoaaGreat.Ab
set_option linter.unusedVariables false
open Go.RowKit Go.ChangeShapes Go.WideShapes Go.ChangeAt
mutual
def wD : Dat → Nat
  | .sc _ => 1
  | .cut _ _ _ => 1
  | .sl l _ => wL l + 1
def wL : List Dat → Nat
  | [] => 0
  | d :: r => wD d + wL r
end
theorem wD_sl (l : List Dat) (n : Nat) : wD (.sl l n) = wL l + 1 := by rw [wD]
theorem wD_sc (x : Value) : wD (.sc x) = 1 := by rw [wD]
theorem wL_nil : wL [] = 0 := by rw [wL]
theorem wL_cons (d : Dat) (r : List Dat) : wL (d :: r) = wD d + wL r := by rw [wL]
theorem wL_append (a b : List Dat) : wL (a ++ b) = wL a + wL b := by
  induction a with
  | nil => rw [wL_nil, List.nil_append, Nat.zero_add]
  | cons d r ih => rw [List.cons_append, wL_cons, wL_cons, ih]; omega
theorem wL_mem {d : Dat} {l : List Dat} (h : d ∈ l) : wD d ≤ wL l := by
  induction l with
  | nil => cases h
  | cons x r ih =>
    rw [wL_cons]
    rcases List.mem_cons.1 h with rfl | h
    · omega
    · have := ih h; omega
section
variable {H : Type}
theorem bulkW_one (d : DataW H) : 1 ≤ Rows.uptoBulk d := by
  cases d with
  | lit l => cases l <;> simp [Rows.uptoBulk]
  | nil => simp [Rows.uptoBulk]
  | ptr d => simp [Rows.uptoBulk]
  | slice elems spare => simp [Rows.uptoBulk]
  | agg parts => simp [Rows.uptoBulk]
  | iface t d => simp [Rows.uptoBulk]
  | map entries => simp [Rows.uptoBulk]
  | held h => simp [Rows.uptoBulk]
theorem bulkW_app (a b : List (DataW H)) : Rows.uptoBulkAll (a ++ b) = Rows.uptoBulkAll a + Rows.uptoBulkAll b := by
  induction a with
  | nil => simp [Rows.uptoBulkAll]
  | cons x r ih => rw [List.cons_append]; simp only [Rows.uptoBulkAll, ih]; omega
end
section
variable {H : Type} {enc : TypeId × Value → H} {P : Program} {W : World} {tab : TTab} {B : Nat}
def CellsW (B : Nat) (W : World) (Fr : Nat → Prop) (fs : List Shp) (cs : List Value) : Prop := ∃ ds : List Dat, (Fits fs ds ∧ wL ds ≤ B) ∧ cs.length = ds.length ∧ ∀ (i : Nat) (d : Dat) (u : Value), ds[i]? = some d → cs[i]? = some u → DRel W Fr d u
theorem CellsW.mono {Fr : Nat → Prop} {B' : Nat} {a : List Shp} {l : List Value} (h : CellsW B W Fr a l) (hb : B ≤ B') : CellsW B' W Fr a l := by
  obtain ⟨d, ⟨f, s⟩, h1, h2⟩ := h
  exact ⟨d, ⟨f, Nat.le_trans s hb⟩, h1, h2⟩
theorem CellsW.append {Fr : Nat → Prop} {B' : Nat} {a b : List Shp} {l m : List Value} (h1 : CellsW B W Fr a l) (h2 : CellsW B' W Fr b m) : CellsW (B + B') W Fr (a ++ b) (l ++ m) := by
  obtain ⟨d1, ⟨f1, s1⟩, l1, r1⟩ := h1
  obtain ⟨d2, ⟨f2, s2⟩, l2, r2⟩ := h2
  refine ⟨d1 ++ d2, ⟨fits_append f1 f2, by rw [wL_append]; omega⟩, by simp [l1, l2], fun i d u e1 e2 => ?_⟩
  rw [List.getElem?_append] at e1 e2
  rw [l1] at e2
  split at e1
  · rename_i hi; rw [if_pos hi] at e2; exact r1 i d u e1 e2
  · rename_i hi; rw [if_neg hi] at e2; exact r2 _ d u e1 e2
theorem CellsW.one {Fr : Nat → Prop} {s : Shp} {v : Value} {d : Dat} (h1 : ShD s d) (h0 : wD d ≤ B) (h2 : DRel W Fr d v) : CellsW B W Fr [s] [v] := by
  refine ⟨[d], ⟨⟨rfl, fun i s' d' e1 e2 => ?_⟩, by rw [wL_cons, wL_nil]; omega⟩, rfl, fun i d' u e1 e2 => ?_⟩
  · match i with
    | 0 => simp at e1 e2; subst e1 e2; exact h1
    | i + 1 => simp at e1
  · match i with
    | 0 => simp at e1 e2; subst e1 e2; exact h2
    | i + 1 => simp at e1
theorem shp_readW (TO : TabOk P tab) {Fr : Nat → Prop} (hF : ∀ b, Fr b) : ∀ (n : Nat) (t : TypeId) (fs : List Shp) (fl : Nat) (cs : List Value) (y : DataW H × List MemPlace), shp tab n t = some fs →
    DataW.trod enc P W 0 (fun _ => true) true fl t cs = some y → (y.1.weights P t).all (· ≤ reachBytes) = true → P.cellsOf t = fs.length ∧ CellsW (Rows.uptoBulk y.1) W Fr fs cs := by
  intro n
  induction n with
  | zero => intro t fs fl cs y h; cases h
  | succ n ih =>
    intro t fs fl cs y h hy hwt
    rw [shp] at h
    cases ht : tlook tab t with
    | none => rw [ht] at h; cases h
    | some te =>
      rw [ht] at h
      have Fa := TO t te ht
      have hcells := Fa.cellsOf
      obtain ⟨dsc, hund, _, hsh⟩ := Fa.und
      have one : ∀ {b : Bool} {x z : Option (List Shp)}, cond b x z = some fs → z = none → b = true ∧ x = some fs := fun {b x z} h hz => by
        cases b
        · rw [cond_false, hz] at h; cases h
        · exact ⟨rfl, h⟩
      dsimp only at h
      cases hs : te.sh with
      | it k =>
        rw [hs] at h hsh
        cases hsh
        obtain ⟨h1, h2⟩ := one h rfl
        cases h2
        obtain ⟨v, e1, _, e2⟩ := DataW.trod_int hund hy
        subst e1
        exact ⟨by rw [hcells, Nat.eq_of_beq_eq_true h1]; rfl, .one (.it k v (int_bounds e2)) (by rw [wD_sc]; exact bulkW_one _) (.sc _ rfl)⟩
      | bo =>
        rw [hs] at h hsh
        cases hsh
        obtain ⟨h1, h2⟩ := one h rfl
        cases h2
        obtain ⟨v, e1, _⟩ := DataW.trod_bool hund hy
        subst e1
        exact ⟨by rw [hcells, Nat.eq_of_beq_eq_true h1]; rfl, .one (.bo v) (by rw [wD_sc]; exact bulkW_one _) (.sc _ rfl)⟩
      | str =>
        rw [hs] at h hsh
        cases hsh
        obtain ⟨h1, h2⟩ := one h rfl
        cases h2
        obtain ⟨v, e1, _⟩ := DataW.trod_string hund hy
        subst e1
        exact ⟨by rw [hcells, Nat.eq_of_beq_eq_true h1]; rfl, .one (.st v.data.toList) (by rw [wD_sc]; exact bulkW_one _) (.sc _ rfl)⟩
      | sl e =>
        rw [hs] at h hsh
        cases hsh
        dsimp only at h
        cases hbe : tbytes tab e with
        | none => rw [hbe] at h; cases h
        | some be =>
        rw [hbe] at h
        dsimp only at h
        cases he : shp tab n e with
        | none => rw [he] at h; cases h
        | some es =>
          rw [he] at h
          have hbe2 : P.bytesOf e = be := by
            unfold tbytes at hbe
            cases hte : tlook tab e with
            | none => rw [hte] at hbe; cases hbe
            | some te2 => rw [hte] at hbe; cases hbe; exact (TO e te2 hte).bytesOf
          match es, he, h with
          | [], he, h => cases h
          | s :: ss, he, h =>
            obtain ⟨h1, h2⟩ := one h rfl
            cases h2
            refine ⟨by rw [hcells, Nat.eq_of_beq_eq_true h1]; rfl, ?_⟩
            rcases Go.Deep.open_slice hund hy with ⟨q1, _⟩ | ⟨a, len, cap, m, fl2, D, Pl, q1, _, hle, _, hm, hye, hx⟩
            · subst q1
              exact .one (.sl (s :: ss) be [] (by simp) (by simp) (by simp)) (by rw [wD_sl, List.flatten_nil, wL_nil]; exact bulkW_one _) .nil
            · subst q1
              have hm' : m = cap := by rw [hm]; rfl
              subst hm'
              have hwt' := hwt
              rw [hye] at hwt'
              unfold DataW.weights at hwt'
              rw [hund] at hwt'
              simp only [List.all_cons, List.all_append, Bool.and_eq_true, decide_eq_true_eq, List.length_map, List.length_range] at hwt'
              obtain ⟨hbytes, hwE, hwS⟩ := hwt'
              have hlenB : len * be ≤ 140737488351232 := by
                rw [hbe2] at hbytes
                have : len * be ≤ (len + (m - len)) * be := Nat.mul_le_mul_right _ (by omega)
                unfold reachBytes at hbytes
                omega
              have hwD : ∀ i, i < m → ((D i).weights P e).all (· ≤ reachBytes) = true := fun i hi => by
                by_cases hil : i < len
                · exact all_weightsAll _ hwE (D i) (List.mem_map.2 ⟨i, by simpa using hil, rfl⟩)
                · have : D i = D (len + (i - len)) := by congr 1; omega
                  rw [this]
                  exact all_weightsAll _ hwS _ (List.mem_map.2 ⟨i - len, by simp; omega, rfl⟩)
              have hK : 0 < m → P.cellsOf e = (s :: ss).length := fun h0 => by
                obtain ⟨cs', g1, g2⟩ := hx 0 h0
                exact (ih e _ _ _ _ he g2 (hwD 0 h0)).1
              by_cases h0 : m = 0
              · subst h0
                obtain rfl : len = 0 := by omega
                exact .one (.sl (s :: ss) be [] (by simp) (by simp) (by simp)) (by rw [wD_sl, List.flatten_nil, wL_nil]; exact bulkW_one _) (.emp a)
              · have hK := hK (by omega)
                have hsp : a.spot = none := by
                  obtain ⟨cs', g1, g2⟩ := hx 0 (by omega)
                  obtain ⟨_, g3, g4⟩ := World.cells?_some g1
                  have := g4 0 (by rw [hK]; simp)
                  have hne : cs'[0]? ≠ none := by
                    rw [List.getElem?_eq_getElem (by rw [g3, hK]; simp)]; simp
                  cases hc : cs'[0]? with
                  | none => exact absurd hc hne
                  | some v =>
                    rw [hc] at this
                    have := World.cell?_spot this
                    simpa [Addr.add] using this
                obtain ⟨b, o, sp⟩ := a
                dsimp only at hsp
                subst hsp
                have key : ∀ k, k ≤ len → ∃ (ls : List (List Dat)) (vs : List Value), ls.length = k ∧ ((∀ l ∈ ls, Fits (s :: ss) l) ∧ wL ls.flatten ≤ Rows.uptoBulkAll ((List.range k).map D)) ∧ vs.length = ls.flatten.length ∧ vs.length = k * (s :: ss).length ∧ (∀ (i : Nat) (u : Value), vs[i]? = some u → W.cell? ⟨b, o + i, none⟩ = some u) ∧
                    ∀ (i : Nat) (c : Dat) (u : Value), ls.flatten[i]? = some c → vs[i]? = some u → DRel W Fr c u := by
                  intro k
                  induction k with
                  | zero => exact fun _ => ⟨[], [], rfl, ⟨by simp, Nat.zero_le _⟩, rfl, by simp, by simp, by simp⟩
                  | succ k ihk =>
                    intro hk
                    obtain ⟨ls, vs, k1, ⟨k2, kw⟩, k3, k4, k5, k6⟩ := ihk (by omega)
                    obtain ⟨cs', g1, g2⟩ := hx k (by omega)
                    obtain ⟨_, ds, ⟨f1, f0⟩, f2, f3⟩ := ih e _ _ _ _ he g2 (hwD k (by omega))
                    obtain ⟨_, g3, g4⟩ := World.cells?_some g1
                    refine ⟨ls ++ [ds], vs ++ cs', by simp [k1], ⟨fun l hl => ?_, ?_⟩, ?_, ?_, fun i u hu => ?_, fun i c u h1 h2 => ?_⟩
                    · rcases List.mem_append.1 hl with hl | hl
                      · exact k2 l hl
                      · simp at hl; subst hl; exact f1
                    · rw [List.flatten_append, wL_append, List.range_succ, List.map_append, bulkW_app]
                      have : wL [ds].flatten = wL ds := by simp
                      rw [this]
                      simp only [List.map_cons, List.map_nil, Rows.uptoBulkAll]
                      dsimp only at f0
                      omega
                    · simp [List.flatten_append, k3, f2]
                    · rw [List.length_append, k4, g3, hK, Nat.add_mul]; omega
                    · rw [List.getElem?_append] at hu
                      split at hu
                      · exact k5 i u hu
                      · rename_i hge
                        have hlt := (List.getElem?_eq_some_iff.1 hu).1
                        have g5 := g4 (i - vs.length) (by rw [← g3]; exact hlt)
                        rw [hu] at g5
                        rw [hK] at g5
                        rw [Addr.add_mid, Addr.add_mid] at g5
                        rw [show o + i = o + k * (s :: ss).length + (i - vs.length) by omega]
                        exact g5
                    · rw [List.flatten_append, List.getElem?_append] at h1
                      rw [List.getElem?_append] at h2
                      rw [k3] at h2
                      split at h1
                      · rename_i hi; rw [if_pos hi] at h2; exact k6 i c u h1 h2
                      · rename_i hi; rw [if_neg hi] at h2; exact f3 _ c u (by simpa using h1) h2
                obtain ⟨ls, vs, k1, ⟨k2, kw⟩, k3, _, k5, k6⟩ := key len (Nat.le_refl _)
                subst k1
                exact .one (.sl (s :: ss) be ls hlenB (fun l hl => (k2 l hl).1) fun l hl => (k2 l hl).2) (by rw [wD_sl, hye]; simp only [Rows.uptoBulk]; omega) (.sl _ _ b o _ vs hle k3 (fun _ => hF b) k5 k6)
      | st fs0 =>
        rw [hs] at h
        dsimp only at h
        obtain ⟨F, hF1, hF2⟩ := Fa.struct hs
        obtain ⟨hlen, fl2, parts, hye, hfs⟩ := trod_fields2 hF1 hy
        have hwt' := hwt
        rw [hye] at hwt'
        unfold DataW.weights at hwt'
        rw [hF1] at hwt'
        dsimp only at hwt'
        cases hl : shpF (shp tab n) fs0 [] with
        | none => rw [hl] at h; cases h
        | some l =>
          rw [hl] at h
          obtain ⟨h1, h2⟩ := one h rfl
          cases h2
          have h1 := Nat.eq_of_beq_eq_true h1
          refine ⟨by rw [hcells, h1], ?_⟩
          have key : ∀ (fs : List (Nat × TypeId)) (j : Nat) (acc l : List Shp), (∀ (q : Nat) (p : Nat × TypeId), fs[q]? = some p → ∃ f : Field, F.toList[j + q]? = some f ∧ p = (f.offset, f.type)) → shpF (shp tab n) fs acc = some l → CellsW (Rows.uptoBulkAll (parts.take j)) W Fr acc (cs.take acc.length) → (l.length ≤ cs.length) → CellsW (Rows.uptoBulkAll parts) W Fr l (cs.take l.length) := by
            intro fs
            induction fs with
            | nil =>
              intro j acc l _ h h3 _
              cases h
              refine h3.mono ?_
              have := bulkW_app (parts.take j) (parts.drop j)
              rw [List.take_append_drop] at this
              omega
            | cons p r ihr =>
              intro j acc l hp h h3 hle
              obtain ⟨off, u⟩ := p
              rw [shpF] at h
              cases hg : shp tab n u with
              | none => rw [hg] at h; cases h
              | some s =>
                rw [hg] at h
                dsimp only at h
                cases hb : Nat.beq off acc.length with
                | false => rw [hb] at h; cases h
                | true =>
                  rw [hb, cond_true] at h
                  obtain ⟨f, hf, hpe⟩ := hp 0 (off, u) rfl
                  rw [Nat.add_zero] at hf
                  cases hpe
                  obtain ⟨y2, hy2, hy3⟩ := hfs j f hf
                  obtain ⟨c1, c2⟩ := ih _ _ _ _ _ hg hy2 (all_weightsEach _ _ hwt' j _ _ (by rw [List.getElem?_map, hf]; rfl) hy3)
                  rw [c1, Nat.eq_of_beq_eq_true hb] at c2
                  refine ihr (j + 1) (acc ++ s) l (fun q p hq => by have := hp (q + 1) p (by simpa using hq); rw [show j + 1 + q = j + (q + 1) by omega]; exact this) h ?_ hle
                  have e : cs.take (acc ++ s).length = cs.take acc.length ++ (cs.drop acc.length).take s.length := by
                    rw [List.length_append, List.take_add]
                  rw [e]
                  have hj := (List.getElem?_eq_some_iff.1 hy3).1
                  have e2 : Rows.uptoBulkAll (parts.take (j + 1)) = Rows.uptoBulkAll (parts.take j) + Rows.uptoBulk y2.1 := by
                    rw [List.take_succ_eq_append_getElem hj, bulkW_app, (List.getElem?_eq_some_iff.1 hy3).2]
                    simp only [Rows.uptoBulkAll]
                    omega
                  rw [e2]
                  exact h3.append c2
          have := key fs0 0 [] fs (fun q p hp => by
            rw [← hF2, List.getElem?_map] at hp
            cases hf : F.toList[q]? with
            | none => rw [hf] at hp; cases hp
            | some f => rw [hf] at hp; cases hp; exact ⟨f, by rw [Nat.zero_add]; exact hf, rfl⟩) hl ⟨[], ⟨⟨rfl, by simp⟩, Nat.zero_le _⟩, by simp, by simp⟩ (by rw [hlen, hcells, h1]; exact Nat.le_refl _)
          rw [List.take_of_length_le (by rw [hlen, hcells, h1]; exact Nat.le_refl _)] at this
          refine this.mono ?_
          rw [hye]
          simp only [Rows.uptoBulk]
          omega
      | ar => rw [hs] at h; cases h
      | mp => rw [hs] at h; cases h
      | pt => rw [hs] at h; cases h
      | fu => rw [hs] at h; cases h
      | other => rw [hs] at h; cases h
theorem arg_aggW (TO : TabOk P tab) {t : TypeId} {fs : List Shp} {v : Value} {d : DataW H} {p : List MemPlace} {Fd : Array Field} (hs : shp tab 16 t = some fs) (hu : P.underlying t = some (.struct Fd)) (hv : ∃ base, Value.okWide P W .any base t v) (h : DataW.Trod enc P W 0 (fun _ => true) true t v d p) (hwt : (d.weights P t).all (· ≤ reachBytes) = true) {F : Nat → Prop} {ι : Nat → Option Value} (hF : ∀ b, FreeB F ι b) :
    ∃ ds, (Fits fs ds ∧ wL ds ≤ Rows.uptoBulk d) ∧ VRel W F ι (.agg (ds.map AVal.d)) v := by
  obtain ⟨base, hv⟩ := hv
  unfold Value.okWide at hv
  rw [hu] at hv
  obtain ⟨C, rfl, _, _⟩ := hv
  obtain ⟨fl, hf⟩ := h
  obtain ⟨_, ds, h1, h2, h3⟩ := shp_readW TO hF 16 t fs _ _ _ hs hf hwt
  refine ⟨ds, h1, .agg _ C (by simpa [Value.cells] using h2) fun i c u e1 e2 => ?_⟩
  rw [List.getElem?_map] at e1
  cases hd : ds[i]? with
  | none => rw [hd] at e1; cases e1
  | some d0 =>
    rw [hd] at e1
    cases e1
    exact .d _ _ (h3 i d0 u hd (by simpa [Value.cells] using e2))
theorem arg_oneW (TO : TabOk P tab) {t : TypeId} {s : Shp} {v : Value} {d : DataW H} {p : List MemPlace} (hs : shp tab 16 t = some [s]) (hv : v.cells.toList = [v]) (h : DataW.Trod enc P W 0 (fun _ => true) true t v d p) (hwt : (d.weights P t).all (· ≤ reachBytes) = true) {F : Nat → Prop} {ι : Nat → Option Value} (hF : ∀ b, FreeB F ι b) :
    ∃ x, (ShD s x ∧ wD x ≤ Rows.uptoBulk d) ∧ VRel W F ι (.d x) v := by
  obtain ⟨fl, hf⟩ := h
  obtain ⟨_, ds, ⟨h1, h0⟩, h2, h3⟩ := shp_readW TO hF 16 t [s] _ _ _ hs hf hwt
  obtain ⟨x, r, rfl, h4, h5⟩ := fits_cons h1
  obtain rfl := fits_nil h5
  rw [wL_cons, wL_nil] at h0
  exact ⟨x, ⟨h4, h0⟩, .d _ _ (h3 0 x v rfl (by rw [hv]; rfl))⟩
end
end Go.Proofs.YtpnhkkejcnicoaaGreat.Ab

namespace Go.Proofs.YtpnhkkejcnicoaaGreat
set_option linter.unusedVariables false
set_option maxRecDepth 100000
open Go.RowKit Go.Lib
namespace Ab
theorem wL_flat_mem {α : Type} {enc : α → List Dat} {l : List α} {x : α} (h : x ∈ l) : wL (enc x) ≤ wL (l.flatMap enc) := by
  induction l with
  | nil => cases h
  | cons y r ih =>
    rw [List.flatMap_cons, wL_append]
    rcases List.mem_cons.1 h with rfl | h
    · omega
    · have := ih h; omega
theorem wL_flat_len {α : Type} {enc : α → List Dat} {c : Nat} (hc : ∀ x, c ≤ wL (enc x)) : ∀ l : List α, l.length * c ≤ wL (l.flatMap enc)
  | [] => by simp
  | x :: r => by
    have := wL_flat_len hc r
    have := hc x
    rw [List.flatMap_cons, wL_append, List.length_cons, Nat.add_mul]
    omega
theorem wD_us (l : List Int) : l.length ≤ wD (usD l) := by
  unfold usD
  rw [wD_sl]
  have := wL_flat_len (enc := u1D) (c := 1) (fun x => by unfold u1D; rw [wL_cons, wL_nil, wD_sc]; omega) l
  omega
theorem wL_cls (c : Cls) : c.pre.length + c.sCom.length + 13 ≤ wL (clsD c) := by
  have h1 := wD_us c.pre
  have h2 := wD_us c.sCom
  unfold clsD
  simp only [wL_cons, wL_nil, wD_sc]
  omega
theorem wP_wL : ∀ cs : List Cls, wP cs + wC cs ≤ wL (cs.flatMap clsD)
  | [] => by simp [wP, wC]
  | c :: r => by
    have := wP_wL r
    have := wL_cls c
    rw [wP_cons, wC_cons, List.flatMap_cons, wL_append]
    omega
theorem okA_of (dv : Dvc) (h : dv.ok) (hw : wL (dvcD dv) ≤ 1048576) (hn : dv.pols.length ≤ 1000000) (s : Sbj) (hp : s.p.ok) (h1 : s.path = []) (h2 : s.com = []) : OkA dv s := by
  have e : ∀ d ∈ dvcD dv, wD d ≤ 1048576 := fun d hd => Nat.le_trans (wL_mem hd) hw
  have e7 := e (.sl (dv.pls.flatMap plstD) dv.pls.length) (by simp [dvcD])
  have e8 := e (.sl (dv.cls.flatMap clstD) dv.cls.length) (by simp [dvcD])
  have e9 := e (.sl (dv.pols.flatMap polD) dv.pols.length) (by simp [dvcD])
  rw [wD_sl] at e7 e8 e9
  have k7 := wL_flat_len (enc := plstD) (c := 2) (fun x => by unfold plstD; simp only [wL_cons, wL_nil, wD_sc, wD_sl]; omega) dv.pls
  have k8 := wL_flat_len (enc := clstD) (c := 2) (fun x => by unfold clstD; simp only [wL_cons, wL_nil, wD_sc, wD_sl]; omega) dv.cls
  refine ⟨⟨by omega, fun x hx => ⟨?_, (h.pls x hx).1⟩, by omega, fun x hx => ⟨?_, fun m hm => ?_⟩⟩, hn, ⟨hp, by rw [h2]; simp, by rw [h1]; simp, by rw [h1]; simp⟩, fun p hpp => ?_⟩
  · have a := wL_flat_mem (enc := plstD) hx
    have b : wL (plstD x) = 1 + (wL (x.es.flatMap lentD) + 1) := by unfold plstD; simp only [wL_cons, wL_nil, wD_sc, wD_sl]; (try omega)
    have c := wL_flat_len (enc := lentD) (c := 5) (fun x => by unfold lentD; simp only [wL_cons, wL_nil, wD_sc]; omega) x.es
    omega
  · have a := wL_flat_mem (enc := clstD) hx
    have b : wL (clstD x) = 1 + (wL (x.ms.flatMap memD) + 1) := by unfold clstD; simp only [wL_cons, wL_nil, wD_sc, wD_sl]; (try omega)
    have c := wL_flat_len (enc := memD) (c := 1) (fun x => by unfold memD; simp only [wL_cons, wL_nil, wD_sc]; omega) x.ms
    omega
  · have a := wL_flat_mem (enc := clstD) hx
    have b : wL (clstD x) = 1 + (wL (x.ms.flatMap memD) + 1) := by unfold clstD; simp only [wL_cons, wL_nil, wD_sc, wD_sl]; (try omega)
    have c := wL_flat_mem (enc := memD) hm
    have d : wL (memD m) = 1 + wD (usD m.all) := by unfold memD; simp only [wL_cons, wL_nil, wD_sc]; (try omega)
    have f := wD_us m.all
    omega
  · have a := wL_flat_mem (enc := polD) hpp
    have b : wL (polD p) = 1 + (wL (p.cs.flatMap clsD) + 1) + 1 := by unfold polD; simp only [wL_cons, wL_nil, wD_sc, wD_sl]; omega
    have c := wP_wL p.cs
    have d := wL_flat_len (enc := clsD) (c := 13) (fun x => by have := wL_cls x; omega) p.cs
    refine ⟨by omega, hp, by rw [h1]; simp, fun c hc n hn => ((h.pols p hpp).1 c hc).pre n hn, by rw [h1]; simp; omega, by rw [h2]; simp; omega⟩
section
variable {P : Program} {T : List Nat} {e : Env} {h : Heap} {o : Oper}
theorem R_and8 {t u : TypeId} {x y : Operand} {a b r : Int} (ho : o.op = .binOp .and t x y u) (hx : aev e x = some (.d (.sc (.int .u8 a)))) (hy : aev e y = some (.d (.sc (.int .u8 b)))) (hr : andC a b = r) : AYield P T e h o (.d (.sc (.int .u8 r))) := yield_of _ fun w F ι ac E => by
  refine ⟨.int .u8 r, sc_rel rfl, fun w' => ?_⟩
  have h1 := (sc_of (aev_rel E hx)).1
  have h2 := (sc_of (aev_rel E hy)).1
  subst hr
  simp only [execOp, ho, h1, h2]
  rfl
end
end Ab
end Go.Proofs.YtpnhkkejcnicoaaGreat

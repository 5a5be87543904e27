/-
  Texts of a proof, one behind the other (part 43).
-/
import Derived.Test.YtmljmahlpcdhoaaRows
import Derived.Deep.CondSized
import Derived.Test.YtmljmahlpcdhoaaPc2
import Derived.Test.YtmljmahlpcdhoaaPc12
import Derived.Test.YtmljmahlpcdhoaaPc13
set_option linter.unusedVariables false
set_option linter.unusedSimpArgs false
namespace Go.Proofs.Ytmljmahlpcdhoaa.Ab
set_option linter.unusedVariables false
open Go.RowKit Go.ChangeShapes Go.WideShapes Go.ChangeAt
inductive Sml (B : Nat) : Dat → Prop where
  | sc (x : Value) : Sml B (.sc x)
  | sl (l : List Dat) (n : Nat) (h : n ≤ B) (hl : ∀ d ∈ l, Sml B d) : Sml B (.sl l n)
theorem Sml.len {B : Nat} {l : List Dat} {n : Nat} (h : Sml B (.sl l n)) : n ≤ B := by cases h with | sl _ _ h _ => exact h
theorem Sml.mem {B : Nat} {l : List Dat} {n : Nat} (h : Sml B (.sl l n)) : ∀ d ∈ l, Sml B d := by cases h with | sl _ _ _ h => exact h
section
variable {H : Type}
theorem bulk_one (d : DataW H) : 1 ≤ Rows.uptoBulk d := by
  cases d with
  | lit l => cases l <;> simp [Rows.uptoBulk]
  | nil => simp [Rows.uptoBulk]
  | ptr d => simp [Rows.uptoBulk]
  | slice elems spare => simp [Rows.uptoBulk]
  | agg parts => simp [Rows.uptoBulk]
  | iface t d => simp [Rows.uptoBulk]
  | map entries => simp [Rows.uptoBulk]
  | held h => simp [Rows.uptoBulk]
theorem bulk_part {d : DataW H} {l : List (DataW H)} (h : d ∈ l) : Rows.uptoBulk d ≤ Rows.uptoBulkAll l := by
  induction l with
  | nil => cases h
  | cons x r ih =>
    simp only [Rows.uptoBulkAll]
    cases List.mem_cons.1 h with
    | inl e => subst e; omega
    | inr e => have := ih e; omega
theorem bulk_len (l : List (DataW H)) : l.length ≤ Rows.uptoBulkAll l := by
  induction l with
  | nil => simp [Rows.uptoBulkAll]
  | cons x r ih => have := bulk_one x; simp only [Rows.uptoBulkAll, List.length_cons]; omega
end
section
variable {H : Type} {enc : TypeId × Value → H} {P : Program} {W : World} {tab : TTab} {B : Nat}
def CellsB (B : Nat) (W : World) (Fr : Nat → Prop) (fs : List Shp) (cs : List Value) : Prop := ∃ ds : List Dat, (Fits fs ds ∧ ∀ d ∈ ds, Sml B d) ∧ cs.length = ds.length ∧ ∀ (i : Nat) (d : Dat) (u : Value), ds[i]? = some d → cs[i]? = some u → DRel W Fr d u
theorem CellsB.append {Fr : Nat → Prop} {a b : List Shp} {l m : List Value} (h1 : CellsB B W Fr a l) (h2 : CellsB B W Fr b m) : CellsB B W Fr (a ++ b) (l ++ m) := by
  obtain ⟨d1, ⟨f1, s1⟩, l1, r1⟩ := h1
  obtain ⟨d2, ⟨f2, s2⟩, l2, r2⟩ := h2
  refine ⟨d1 ++ d2, ⟨fits_append f1 f2, fun d hd => (List.mem_append.1 hd).elim (s1 d) (s2 d)⟩, by simp [l1, l2], fun i d u e1 e2 => ?_⟩
  rw [List.getElem?_append] at e1 e2
  rw [l1] at e2
  split at e1
  · rename_i hi; rw [if_pos hi] at e2; exact r1 i d u e1 e2
  · rename_i hi; rw [if_neg hi] at e2; exact r2 _ d u e1 e2
theorem CellsB.one {Fr : Nat → Prop} {s : Shp} {v : Value} {d : Dat} (h1 : ShD s d) (h0 : Sml B d) (h2 : DRel W Fr d v) : CellsB B W Fr [s] [v] := by
  refine ⟨[d], ⟨⟨rfl, fun i s' d' e1 e2 => ?_⟩, fun q hq => by simp at hq; subst hq; exact h0⟩, rfl, fun i d' u e1 e2 => ?_⟩
  · match i with
    | 0 => simp at e1 e2; subst e1 e2; exact h1
    | i + 1 => simp at e1
  · match i with
    | 0 => simp at e1 e2; subst e1 e2; exact h2
    | i + 1 => simp at e1
theorem shp_readB (TO : TabOk P tab) {Fr : Nat → Prop} (hF : ∀ b, Fr b) : ∀ (n : Nat) (t : TypeId) (fs : List Shp) (fl : Nat) (cs : List Value) (y : DataW H × List MemPlace), shp tab n t = some fs →
    DataW.trod enc P W 0 (fun _ => true) true fl t cs = some y → (y.1.weights P t).all (· ≤ reachBytes) = true → Rows.uptoBulk y.1 ≤ B → P.cellsOf t = fs.length ∧ CellsB B W Fr fs cs := by
  intro n
  induction n with
  | zero => intro t fs fl cs y h; cases h
  | succ n ih =>
    intro t fs fl cs y h hy hwt hbk
    rw [shp] at h
    cases ht : tlook tab t with
    | none => rw [ht] at h; cases h
    | some te =>
      rw [ht] at h
      have Fa := TO t te ht
      have hcells := Fa.cellsOf
      obtain ⟨dsc, hund, _, hsh⟩ := Fa.und
      have one : ∀ {b : Bool} {x z : Option (List Shp)}, cond b x z = some fs → z = none → b = true ∧ x = some fs := fun {b x z} h hz => by
        cases b
        · rw [cond_false, hz] at h; cases h
        · exact ⟨rfl, h⟩
      dsimp only at h
      cases hs : te.sh with
      | it k =>
        rw [hs] at h hsh
        cases hsh
        obtain ⟨h1, h2⟩ := one h rfl
        cases h2
        obtain ⟨v, e1, _, e2⟩ := DataW.trod_int hund hy
        subst e1
        exact ⟨by rw [hcells, Nat.eq_of_beq_eq_true h1]; rfl, .one (.it k v (int_bounds e2)) (.sc _) (.sc _ rfl)⟩
      | bo =>
        rw [hs] at h hsh
        cases hsh
        obtain ⟨h1, h2⟩ := one h rfl
        cases h2
        obtain ⟨v, e1, _⟩ := DataW.trod_bool hund hy
        subst e1
        exact ⟨by rw [hcells, Nat.eq_of_beq_eq_true h1]; rfl, .one (.bo v) (.sc _) (.sc _ rfl)⟩
      | str =>
        rw [hs] at h hsh
        cases hsh
        obtain ⟨h1, h2⟩ := one h rfl
        cases h2
        obtain ⟨v, e1, _⟩ := DataW.trod_string hund hy
        subst e1
        exact ⟨by rw [hcells, Nat.eq_of_beq_eq_true h1]; rfl, .one (.st v.data.toList) (.sc _) (.sc _ rfl)⟩
      | sl e =>
        rw [hs] at h hsh
        cases hsh
        dsimp only at h
        cases hbe : tbytes tab e with
        | none => rw [hbe] at h; cases h
        | some be =>
        rw [hbe] at h
        dsimp only at h
        cases he : shp tab n e with
        | none => rw [he] at h; cases h
        | some es =>
          rw [he] at h
          have hbe2 : P.bytesOf e = be := by
            unfold tbytes at hbe
            cases hte : tlook tab e with
            | none => rw [hte] at hbe; cases hbe
            | some te2 => rw [hte] at hbe; cases hbe; exact (TO e te2 hte).bytesOf
          match es, he, h with
          | [], he, h => cases h
          | s :: ss, he, h =>
            obtain ⟨h1, h2⟩ := one h rfl
            cases h2
            refine ⟨by rw [hcells, Nat.eq_of_beq_eq_true h1]; rfl, ?_⟩
            rcases Go.Deep.open_slice hund hy with ⟨q1, _⟩ | ⟨a, len, cap, m, fl2, D, Pl, q1, _, hle, _, hm, hye, hx⟩
            · subst q1
              exact .one (.sl (s :: ss) be [] (by simp) (by simp) (by simp)) (.sl _ _ (Nat.zero_le _) (by simp)) .nil
            · subst q1
              have hm' : m = cap := by rw [hm]; rfl
              subst hm'
              have hwt' := hwt
              rw [hye] at hwt'
              unfold DataW.weights at hwt'
              rw [hund] at hwt'
              simp only [List.all_cons, List.all_append, Bool.and_eq_true, decide_eq_true_eq, List.length_map, List.length_range] at hwt'
              obtain ⟨hbytes, hwE, hwS⟩ := hwt'
              have hlenB : len * be ≤ 140737488351232 := by
                rw [hbe2] at hbytes
                have : len * be ≤ (len + (m - len)) * be := Nat.mul_le_mul_right _ (by omega)
                unfold reachBytes at hbytes
                omega
              have hbk' := hbk
              rw [hye] at hbk'
              simp only [Rows.uptoBulk] at hbk'
              have hlB : len ≤ B := by
                have := bulk_len ((List.range len).map D)
                rw [List.length_map, List.length_range] at this
                omega
              have hbE : ∀ i, i < len → Rows.uptoBulk (D i) ≤ B := fun i hi => by
                have := bulk_part (List.mem_map.2 ⟨i, List.mem_range.2 hi, rfl⟩ : D i ∈ (List.range len).map D)
                omega
              have hbS : ∀ i, i < m → Rows.uptoBulk (D i) ≤ B := fun i hi => by
                by_cases hil : i < len
                · exact hbE i hil
                · have h2 : D i = D (len + (i - len)) := by congr 1; omega
                  rw [h2]
                  have := bulk_part (List.mem_map.2 ⟨i - len, List.mem_range.2 (by omega), rfl⟩ : D (len + (i - len)) ∈ (List.range (m - len)).map fun i => D (len + i))
                  omega
              have hwD : ∀ i, i < m → ((D i).weights P e).all (· ≤ reachBytes) = true := fun i hi => by
                by_cases hil : i < len
                · exact all_weightsAll _ hwE (D i) (List.mem_map.2 ⟨i, by simpa using hil, rfl⟩)
                · have : D i = D (len + (i - len)) := by congr 1; omega
                  rw [this]
                  exact all_weightsAll _ hwS _ (List.mem_map.2 ⟨i - len, by simp; omega, rfl⟩)
              have hK : 0 < m → P.cellsOf e = (s :: ss).length := fun h0 => by
                obtain ⟨cs', g1, g2⟩ := hx 0 h0
                exact (ih e _ _ _ _ he g2 (hwD 0 h0) (hbS 0 h0)).1
              by_cases h0 : m = 0
              · subst h0
                obtain rfl : len = 0 := by omega
                exact .one (.sl (s :: ss) be [] (by simp) (by simp) (by simp)) (.sl _ _ (Nat.zero_le _) (by simp)) (.emp a)
              · have hK := hK (by omega)
                have hsp : a.spot = none := by
                  obtain ⟨cs', g1, g2⟩ := hx 0 (by omega)
                  obtain ⟨_, g3, g4⟩ := World.cells?_some g1
                  have := g4 0 (by rw [hK]; simp)
                  have hne : cs'[0]? ≠ none := by
                    rw [List.getElem?_eq_getElem (by rw [g3, hK]; simp)]; simp
                  cases hc : cs'[0]? with
                  | none => exact absurd hc hne
                  | some v =>
                    rw [hc] at this
                    have := World.cell?_spot this
                    simpa [Addr.add] using this
                obtain ⟨b, o, sp⟩ := a
                dsimp only at hsp
                subst hsp
                have key : ∀ k, k ≤ len → ∃ (ls : List (List Dat)) (vs : List Value), ls.length = k ∧ (∀ l ∈ ls, Fits (s :: ss) l ∧ ∀ d ∈ l, Sml B d) ∧ vs.length = ls.flatten.length ∧ vs.length = k * (s :: ss).length ∧ (∀ (i : Nat) (u : Value), vs[i]? = some u → W.cell? ⟨b, o + i, none⟩ = some u) ∧
                    ∀ (i : Nat) (c : Dat) (u : Value), ls.flatten[i]? = some c → vs[i]? = some u → DRel W Fr c u := by
                  intro k
                  induction k with
                  | zero => exact fun _ => ⟨[], [], rfl, by simp, rfl, by simp, by simp, by simp⟩
                  | succ k ihk =>
                    intro hk
                    obtain ⟨ls, vs, k1, k2, k3, k4, k5, k6⟩ := ihk (by omega)
                    obtain ⟨cs', g1, g2⟩ := hx k (by omega)
                    obtain ⟨_, ds, ⟨f1, f0⟩, f2, f3⟩ := ih e _ _ _ _ he g2 (hwD k (by omega)) (hbE k (by omega))
                    obtain ⟨_, g3, g4⟩ := World.cells?_some g1
                    refine ⟨ls ++ [ds], vs ++ cs', by simp [k1], fun l hl => ?_, ?_, ?_, fun i u hu => ?_, fun i c u h1 h2 => ?_⟩
                    · rcases List.mem_append.1 hl with hl | hl
                      · exact k2 l hl
                      · simp at hl; subst hl; exact ⟨f1, f0⟩
                    · simp [List.flatten_append, k3, f2]
                    · rw [List.length_append, k4, g3, hK, Nat.add_mul]; omega
                    · rw [List.getElem?_append] at hu
                      split at hu
                      · exact k5 i u hu
                      · rename_i hge
                        have hlt := (List.getElem?_eq_some_iff.1 hu).1
                        have g5 := g4 (i - vs.length) (by rw [← g3]; exact hlt)
                        rw [hu] at g5
                        rw [hK] at g5
                        rw [Addr.add_mid, Addr.add_mid] at g5
                        rw [show o + i = o + k * (s :: ss).length + (i - vs.length) by omega]
                        exact g5
                    · rw [List.flatten_append, List.getElem?_append] at h1
                      rw [List.getElem?_append] at h2
                      rw [k3] at h2
                      split at h1
                      · rename_i hi; rw [if_pos hi] at h2; exact k6 i c u h1 h2
                      · rename_i hi; rw [if_neg hi] at h2; exact f3 _ c u (by simpa using h1) h2
                obtain ⟨ls, vs, k1, k2, k3, _, k5, k6⟩ := key len (Nat.le_refl _)
                subst k1
                exact .one (.sl (s :: ss) be ls hlenB (fun l hl => (k2 l hl).1.1) fun l hl => (k2 l hl).1.2) (.sl _ _ hlB (fun d hd => by obtain ⟨l, hl, hd⟩ := List.mem_flatten.1 hd; exact (k2 l hl).2 d hd)) (.sl _ _ b o _ vs hle k3 (fun _ => hF b) k5 k6)
      | st fs0 =>
        rw [hs] at h
        dsimp only at h
        obtain ⟨F, hF1, hF2⟩ := Fa.struct hs
        obtain ⟨hlen, fl2, parts, hye, hfs⟩ := trod_fields2 hF1 hy
        have hbk' := hbk
        rw [hye] at hbk'
        simp only [Rows.uptoBulk] at hbk'
        have hwt' := hwt
        rw [hye] at hwt'
        unfold DataW.weights at hwt'
        rw [hF1] at hwt'
        dsimp only at hwt'
        cases hl : shpF (shp tab n) fs0 [] with
        | none => rw [hl] at h; cases h
        | some l =>
          rw [hl] at h
          obtain ⟨h1, h2⟩ := one h rfl
          cases h2
          have h1 := Nat.eq_of_beq_eq_true h1
          refine ⟨by rw [hcells, h1], ?_⟩
          have key : ∀ (fs : List (Nat × TypeId)) (acc l : List Shp), (∀ p ∈ fs, ∃ (i : Nat) (f : Field), F.toList[i]? = some f ∧ p = (f.offset, f.type)) → shpF (shp tab n) fs acc = some l → CellsB B W Fr acc (cs.take acc.length) → (l.length ≤ cs.length) → CellsB B W Fr l (cs.take l.length) := by
            intro fs
            induction fs with
            | nil => intro acc l _ h h3 _; cases h; exact h3
            | cons p r ihr =>
              intro acc l hp h h3 hle
              obtain ⟨off, u⟩ := p
              rw [shpF] at h
              cases hg : shp tab n u with
              | none => rw [hg] at h; cases h
              | some s =>
                rw [hg] at h
                dsimp only at h
                cases hb : Nat.beq off acc.length with
                | false => rw [hb] at h; cases h
                | true =>
                  rw [hb, cond_true] at h
                  obtain ⟨i, f, hf, hpe⟩ := hp (off, u) (by simp)
                  cases hpe
                  obtain ⟨y2, hy2, hy3⟩ := hfs i f hf
                  obtain ⟨c1, c2⟩ := ih _ _ _ _ _ hg hy2 (all_weightsEach _ _ hwt' i _ _ (by rw [List.getElem?_map, hf]; rfl) hy3) (by have := bulk_part (List.mem_of_getElem? hy3); omega)
                  rw [c1, Nat.eq_of_beq_eq_true hb] at c2
                  refine ihr (acc ++ s) l (fun q hq => hp q (by simp [hq])) h ?_ hle
                  have e : cs.take (acc ++ s).length = cs.take acc.length ++ (cs.drop acc.length).take s.length := by
                    rw [List.length_append, List.take_add]
                  rw [e]
                  exact h3.append c2
          have := key fs0 [] fs (fun p hp => by
            rw [← hF2] at hp
            obtain ⟨f, hf, rfl⟩ := List.mem_map.1 hp
            obtain ⟨i, hi⟩ := List.getElem?_of_mem hf
            exact ⟨i, f, hi, rfl⟩) hl ⟨[], ⟨⟨rfl, by simp⟩, by simp⟩, by simp, by simp⟩ (by rw [hlen, hcells, h1]; exact Nat.le_refl _)
          rwa [List.take_of_length_le (by rw [hlen, hcells, h1]; exact Nat.le_refl _)] at this
      | ar => rw [hs] at h; cases h
      | mp => rw [hs] at h; cases h
      | pt => rw [hs] at h; cases h
      | fu => rw [hs] at h; cases h
      | other => rw [hs] at h; cases h
theorem arg_aggB (TO : TabOk P tab) {t : TypeId} {fs : List Shp} {v : Value} {d : DataW H} {p : List MemPlace} {Fd : Array Field} (hs : shp tab 16 t = some fs) (hu : P.underlying t = some (.struct Fd)) (hv : ∃ base, Value.okWide P W .any base t v) (h : DataW.Trod enc P W 0 (fun _ => true) true t v d p) (hwt : (d.weights P t).all (· ≤ reachBytes) = true) (hbk : Rows.uptoBulk d ≤ B) {F : Nat → Prop} {ι : Nat → Option Value} (hF : ∀ b, FreeB F ι b) :
    ∃ ds, (Fits fs ds ∧ ∀ d ∈ ds, Sml B d) ∧ VRel W F ι (.agg (ds.map AVal.d)) v := by
  obtain ⟨base, hv⟩ := hv
  unfold Value.okWide at hv
  rw [hu] at hv
  obtain ⟨C, rfl, _, _⟩ := hv
  obtain ⟨fl, hf⟩ := h
  obtain ⟨_, ds, h1, h2, h3⟩ := shp_readB TO hF 16 t fs _ _ _ hs hf hwt hbk
  refine ⟨ds, h1, .agg _ C (by simpa [Value.cells] using h2) fun i c u e1 e2 => ?_⟩
  rw [List.getElem?_map] at e1
  cases hd : ds[i]? with
  | none => rw [hd] at e1; cases e1
  | some d0 =>
    rw [hd] at e1
    cases e1
    exact .d _ _ (h3 i d0 u hd (by simpa [Value.cells] using e2))
end
end Go.Proofs.Ytmljmahlpcdhoaa.Ab

namespace Go.Proofs.Ytmljmahlpcdhoaa
open Go.ChangeShapes Go.WideShapes Go.ChangeAt Go.RowKit
set_option linter.unusedVariables false
set_option maxRecDepth 100000
def WalkedU (k : FuncId) (params : List TypeId) : Prop :=
  ∀ (H : Type) (enc : TypeId × Value → H) (W : World) (args : Array Value) (ds : List (DataW H)) (ps : List MemPlace), (∀ (j : Nat) t v, params[j]? = some t → args[j]? = some v → ∃ base, Value.okWide Try.prog W .any base t v) →
    DataW.TrodAll enc Try.prog W 0 (fun _ => true) true params args.toList ds ps → (DataW.weightsEach Try.prog params ds).all (· ≤ reachBytes) = true → Rows.uptoBulkAll ds ≤ 1048576 → Calls Try.prog k args W (Ret W (.bool true))
theorem law_liftU {k : FuncId} {f : Func} {s : ChangeSpec} {tb : TypeId} (hf : Try.prog.funcs[k]? = some f) (hno : Try.prog.inits.idxOf? k = none) (hrt : f.resultTypes = #[tb]) (hub : Try.prog.underlying tb = some .bool)
    (hv : s.vars = []) (hvt : (Rows.OpenSpec.upto s).bare.plain.varTypes Try.prog = [])
    (hfn : ∀ (H : Type) (ds : List (DataW H)), ds.length = f.params.size → (s.fn H ds).results = [.lit (.bool true)] ∧ (s.fn H ds).args = ds ∧ (s.fn H ds).vars = [])
    (hr : ∀ t ∈ f.params.toList, Try.prog.readableRec t = true ∧ t < Try.prog.types.size) (walk : WalkedU k f.params.toList)
    (os : Os) (started : os.Started) (H : Type) (enc : TypeId × Value → H) (F : Stop.Interp)
    (wit : ∃ (w : World) (tape : Tape) (i : Input), w.os = os ∧ (w.forCall tape i).Shaped Try.prog ∧ i.vars = [] ∧ Input.okWide Try.prog (w.forCall tape i) .any w.heap.size k i ∧
      (Rows.OpenSpec.upto s).pre6 enc Try.prog f [] false (w.forCall tape i).memory i.args ∧ ({} : Assume).holds Try.prog (lone (Frame.enter Try.prog k i.args .normal) [] (w.forCall tape i))) :
    ReturnsInHanded {} Try.checked os k .any ((Rows.OpenSpec.upto s).pre6 enc Try.prog f [] false) (((Rows.OpenSpec.upto s).at F).post enc Try.prog f false true false false) := by
  refine returnsInHanded_of_cond_sized (C := Try.checked) (s := Rows.OpenSpec.upto s) (k := Rows.uptoSmall) rfl own_ started hno hf wit ?_
  intro W base args ds gs before hval0 hW _ hk hsz _
  have hW' : DataW.Whole enc Try.prog f.params.toList s.vars false W args.toList ds gs before := hW
  obtain ⟨p, q, hA0, hV, _, _, _⟩ := hW'
  have hW' : DataW.Whole enc Try.prog f.params.toList s.vars false W args.toList ds gs before := hW
  have hA : DataW.TrodAll enc Try.prog W 0 (fun _ => true) true f.params.toList args.toList ds p := hA0
  have hg : gs = [] := by
    rw [hv] at hV
    exact (trodVars_none hV).1
  subst hg
  have hlen : ds.length = f.params.size := by
    have : ∀ (ts : List TypeId) (vs : List Value) (ds : List (DataW H)) (ps : List MemPlace), DataW.TrodAll enc Try.prog W 0 (fun _ => true) true ts vs ds ps → ds.length = ts.length := by
      intro ts
      induction ts with
      | nil => intro vs ds ps h; obtain ⟨_, rfl, _⟩ := trodAll_nil h; rfl
      | cons t ts ih =>
        intro vs ds ps h
        obtain ⟨_, _, _, _, _, _, _, rfl, _, _, h2⟩ := trodAll_cons h
        simp [ih _ _ _ h2]
    simpa using this _ _ _ _ hA
  have hF := hfn H ds hlen
  have hsz' : (DataW.weightsEach Try.prog f.params.toList ds).all (· ≤ reachBytes) = true := by
    have e : (Rows.OpenSpec.upto s).bare.plain.varTypes (Try.checked).prog = [] := hvt
    rw [e, List.append_nil, List.append_nil] at hsz
    exact hsz
  have hbk : Rows.uptoBulkAll ds ≤ 1048576 := by
    rw [List.append_nil] at hk
    exact of_decide_eq_true hk
  refine (walk H enc W args ds p (fun j t v h1 h2 => ⟨base, hval0 j t v (by simpa using h1) h2⟩) hA hsz' hbk).mono ?_
  rintro e W' ⟨rfl, hb⟩
  refine ⟨_, rfl, ?_⟩
  show s.post enc Try.prog f false true false false W args (.bool true) W'
  refine law_post hrt hub hv ?_ ?_ ?_ laid_ hr hW' hb
  · rw [List.append_nil]; exact hF.1
  · rw [List.append_nil]; exact hF.2.1
  · rw [List.append_nil]; exact hF.2.2
end Go.Proofs.Ytmljmahlpcdhoaa

/-
 Texts of a proof, one behind the other (part 30).
-/
import Derived.Test.YtmmdkjanmegjdaaGreatRows
import Derived.Deep.CondSized
import Derived.CallsIn
import Derived.Listen
import Derived.Lone
import Derived.Shelf.SlSortCmp.WholeK
import Derived.Sort.LotA
import Derived.Test.YtmmdkjanmegjdaaGreatRv1
import Derived.Test.YtmmdkjanmegjdaaGreatRv2
import Derived.Test.YtmmdkjanmegjdaaGreatRv3
import Derived.Test.YtmmdkjanmegjdaaGreatRv4
import Derived.Test.YtmmdkjanmegjdaaGreatRv28
set_option maxRecDepth 100000
set_option linter.unusedSimpArgs false
set_option linter.unusedVariables false
namespace Go.Proofs.YtmmdkjanmegjdaaGreat.Ab
open Go.RowKit Go.ChangeShapes Go.WideShapes Go.ChangeAt
mutual
def wD : Dat → Nat
 | .sc _ => 1
 | .cut _ _ _ => 1
 | .sl l _ => wL l + 1
def wL : List Dat → Nat
 | [] => 0
 | d :: r => wD d + wL r
end
theorem zbS (l : List Dat) (n : Nat) : wD (.sl l n) = wL l + 1 := by rw [wD]
theorem zbs (x : Value) : wD (.sc x) = 1 := by rw [wD]
theorem zaI : wL [] = 0 := by rw [wL]
theorem zao (d : Dat) (r : List Dat) : wL (d :: r) = wD d + wL r := by rw [wL]
theorem zb3 (a b : List Dat) : wL (a ++ b) = wL a + wL b := by
 induction a with
 | nil => rw [zaI, List.nil_append, Nat.zero_add]
 | cons d r ih => rw [List.cons_append, zao, zao, ih]; omega
theorem zkk {d : Dat} {l : List Dat} (h : d ∈ l) : wD d ≤ wL l := by
 induction l with
 | nil => cases h
 | cons x r ih =>
  rw [zao]
  rcases List.mem_cons.1 h with rfl | h
  ·omega
  ·have := ih h; omega
section
variable {H : Type}
theorem zce (d : DataW H) : 1 ≤ Rows.uptoBulk d := by
 cases d with
 | lit l => cases l <;> simp [Rows.uptoBulk]
 | nil => simp [Rows.uptoBulk]
 | ptr d => simp [Rows.uptoBulk]
 | slice elems spare => simp [Rows.uptoBulk]
 | agg parts => simp [Rows.uptoBulk]
 | iface t d => simp [Rows.uptoBulk]
 | map entries => simp [Rows.uptoBulk]
 | held h => simp [Rows.uptoBulk]
theorem zd4 (a b : List (DataW H)) : Rows.uptoBulkAll (a ++ b) = Rows.uptoBulkAll a + Rows.uptoBulkAll b := by
 induction a with
 | nil => simp [Rows.uptoBulkAll]
 | cons x r ih => rw [List.cons_append]; simp only [Rows.uptoBulkAll, ih]; omega
end
section
variable {H : Type} {enc : TypeId × Value → H} {P : Program} {W : World} {tab : TTab} {B : Nat}
def CellsW (B : Nat) (W : World) (Fr : Nat → Prop) (fs : List Shp) (cs : List Value) : Prop := ∃ ds : List Dat, (Fits fs ds ∧ wL ds ≤ B) ∧ cs.length = ds.length ∧ ∀ (i : Nat) (d : Dat) (u : Value), ds[i]? = some d → cs[i]? = some u → DRel W Fr d u
theorem CellsW.mono {Fr : Nat → Prop} {B' : Nat} {a : List Shp} {l : List Value} (h : CellsW B W Fr a l) (hb : B ≤ B') : CellsW B' W Fr a l := by
 obtain ⟨d, ⟨f, s⟩, h1, h2⟩ := h
 exact ⟨d, ⟨f, Nat.le_trans s hb⟩, h1, h2⟩
theorem CellsW.append {Fr : Nat → Prop} {B' : Nat} {a b : List Shp} {l m : List Value} (h1 : CellsW B W Fr a l) (h2 : CellsW B' W Fr b m) : CellsW (B + B') W Fr (a ++ b) (l ++ m) := by
 obtain ⟨d1, ⟨f1, s1⟩, l1, r1⟩ := h1
 obtain ⟨d2, ⟨f2, s2⟩, l2, r2⟩ := h2
 refine ⟨d1 ++ d2, ⟨zeh f1 f2, by rw [zb3]; omega⟩, by simp [l1, l2], fun i d u e1 e2 => ?_⟩
 rw [List.getElem?_append] at e1 e2
 rw [l1] at e2
 split at e1
 ·rename_i hi; rw [if_pos hi] at e2; exact r1 i d u e1 e2
 ·rename_i hi; rw [if_neg hi] at e2; exact r2 _ d u e1 e2
theorem CellsW.one {Fr : Nat → Prop} {s : Shp} {v : Value} {d : Dat} (h1 : ShD s d) (h0 : wD d ≤ B) (h2 : DRel W Fr d v) : CellsW B W Fr [s] [v] := by
 refine ⟨[d], ⟨⟨rfl, fun i s' d' e1 e2 => ?_⟩, by rw [zao, zaI]; omega⟩, rfl, fun i d' u e1 e2 => ?_⟩
 ·match i with
  | 0 => simp at e1 e2; subst e1 e2; exact h1
  | i + 1 => simp at e1
 ·match i with
  | 0 => simp at e1 e2; subst e1 e2; exact h2
  | i + 1 => simp at e1
theorem zfo (TO : TabOk P tab) {Fr : Nat → Prop} (hF : ∀ b, Fr b) : ∀ (n : Nat) (t : TypeId) (fs : List Shp) (fl : Nat) (cs : List Value) (y : DataW H × List MemPlace), shp tab n t = some fs →
  DataW.trod enc P W 0 (fun _ => true) true fl t cs = some y → (y.1.weights P t).all (· ≤ reachBytes) = true → P.cellsOf t = fs.length ∧ CellsW (Rows.uptoBulk y.1) W Fr fs cs := by
 intro n
 induction n with
 | zero => intro t fs fl cs y h; cases h
 | succ n ih =>
  intro t fs fl cs y h hy hwt
  rw [shp] at h
  cases ht : tlook tab t with
  | none => rw [ht] at h; cases h
  | some te =>
   rw [ht] at h
   have Fa := TO t te ht
   have hcells := Fa.cellsOf
   obtain ⟨dsc, hund, _, hsh⟩ := Fa.und
   have one : ∀ {b : Bool} {x z : Option (List Shp)}, cond b x z = some fs → z = none → b = true ∧ x = some fs := fun {b x z} h hz => by
    cases b
    ·rw [cond_false, hz] at h; cases h
    ·exact ⟨rfl, h⟩
   dsimp only at h
   cases hs : te.sh with
   | it k =>
    rw [hs] at h hsh
    cases hsh
    obtain ⟨h1, h2⟩ := one h rfl
    cases h2
    obtain ⟨v, e1, _, e2⟩ := DataW.trod_int hund hy
    subst e1
    exact ⟨by rw [hcells, Nat.eq_of_beq_eq_true h1]; rfl, .one (.it k v (zh8 e2)) (by rw [zbs]; exact zce _) (.sc _ rfl)⟩
   | bo =>
    rw [hs] at h hsh
    cases hsh
    obtain ⟨h1, h2⟩ := one h rfl
    cases h2
    obtain ⟨v, e1, _⟩ := DataW.trod_bool hund hy
    subst e1
    exact ⟨by rw [hcells, Nat.eq_of_beq_eq_true h1]; rfl, .one (.bo v) (by rw [zbs]; exact zce _) (.sc _ rfl)⟩
   | str =>
    rw [hs] at h hsh
    cases hsh
    obtain ⟨h1, h2⟩ := one h rfl
    cases h2
    obtain ⟨v, e1, _⟩ := DataW.trod_string hund hy
    subst e1
    exact ⟨by rw [hcells, Nat.eq_of_beq_eq_true h1]; rfl, .one (.st v.data.toList) (by rw [zbs]; exact zce _) (.sc _ rfl)⟩
   | sl e =>
    rw [hs] at h hsh
    cases hsh
    dsimp only at h
    cases hbe : tbytes tab e with
    | none => rw [hbe] at h; cases h
    | some be =>
    rw [hbe] at h
    dsimp only at h
    cases he : shp tab n e with
    | none => rw [he] at h; cases h
    | some es =>
     rw [he] at h
     have hbe2 : P.bytesOf e = be := by
      unfold tbytes at hbe
      cases hte : tlook tab e with
      | none => rw [hte] at hbe; cases hbe
      | some te2 => rw [hte] at hbe; cases hbe; exact (TO e te2 hte).bytesOf
     match es, he, h with
     | [], he, h => cases h
     | s :: ss, he, h =>
      obtain ⟨h1, h2⟩ := one h rfl
      cases h2
      refine ⟨by rw [hcells, Nat.eq_of_beq_eq_true h1]; rfl, ?_⟩
      rcases Go.Deep.open_slice hund hy with ⟨q1, _⟩ | ⟨a, len, cap, m, fl2, D, Pl, q1, _, hle, _, hm, hye, hx⟩
      ·subst q1
       exact .one (.sl (s :: ss) be [] (by simp) (by simp) (by simp)) (by rw [zbS, List.flatten_nil, zaI]; exact zce _) .nil
      ·subst q1
       have hm' : m = cap := by rw [hm]; rfl
       subst hm'
       have hwt' := hwt
       rw [hye] at hwt'
       unfold DataW.weights at hwt'
       rw [hund] at hwt'
       simp only [List.all_cons, List.all_append, Bool.and_eq_true, decide_eq_true_eq, List.length_map, List.length_range] at hwt'
       obtain ⟨hbytes, hwE, hwS⟩ := hwt'
       have hlenB : len * be ≤ 140737488351232 := by
        rw [hbe2] at hbytes
        have : len * be ≤ (len + (m - len)) * be := Nat.mul_le_mul_right _ (by omega)
        unfold reachBytes at hbytes
        omega
       have hwD : ∀ i, i < m → ((D i).weights P e).all (· ≤ reachBytes) = true := fun i hi => by
        by_cases hil : i < len
        ·exact zbR _ hwE (D i) (List.mem_map.2 ⟨i, by simpa using hil, rfl⟩)
        ·have : D i = D (len + (i - len)) := by congr 1; omega
         rw [this]
         exact zbR _ hwS _ (List.mem_map.2 ⟨i - len, by simp; omega, rfl⟩)
       have hK : 0 < m → P.cellsOf e = (s :: ss).length := fun h0 => by
        obtain ⟨cs', g1, g2⟩ := hx 0 h0
        exact (ih e _ _ _ _ he g2 (hwD 0 h0)).1
       by_cases h0 : m = 0
       ·subst h0
        obtain rfl : len = 0 := by omega
        exact .one (.sl (s :: ss) be [] (by simp) (by simp) (by simp)) (by rw [zbS, List.flatten_nil, zaI]; exact zce _) (.emp a)
       ·have hK := hK (by omega)
        have hsp : a.spot = none := by
         obtain ⟨cs', g1, g2⟩ := hx 0 (by omega)
         obtain ⟨_, g3, g4⟩ := World.cells?_some g1
         have := g4 0 (by rw [hK]; simp)
         have hne : cs'[0]? ≠ none := by
          rw [List.getElem?_eq_getElem (by rw [g3, hK]; simp)]; simp
         cases hc : cs'[0]? with
         | none => exact absurd hc hne
         | some v =>
          rw [hc] at this
          have := World.cell?_spot this
          simpa [Addr.add] using this
        obtain ⟨b, o, sp⟩ := a
        dsimp only at hsp
        subst hsp
        have key : ∀ k, k ≤ len → ∃ (ls : List (List Dat)) (vs : List Value), ls.length = k ∧ ((∀ l ∈ ls, Fits (s :: ss) l) ∧ wL ls.flatten ≤ Rows.uptoBulkAll ((List.range k).map D)) ∧ vs.length = ls.flatten.length ∧ vs.length = k * (s :: ss).length ∧ (∀ (i : Nat) (u : Value), vs[i]? = some u → W.cell? ⟨b, o + i, none⟩ = some u) ∧
          ∀ (i : Nat) (c : Dat) (u : Value), ls.flatten[i]? = some c → vs[i]? = some u → DRel W Fr c u := by
         intro k
         induction k with
         | zero => exact fun _ => ⟨[], [], rfl, ⟨by simp, Nat.zero_le _⟩, rfl, by simp, by simp, by simp⟩
         | succ k ihk =>
          intro hk
          obtain ⟨ls, vs, k1, ⟨k2, kw⟩, k3, k4, k5, k6⟩ := ihk (by omega)
          obtain ⟨cs', g1, g2⟩ := hx k (by omega)
          obtain ⟨_, ds, ⟨f1, f0⟩, f2, f3⟩ := ih e _ _ _ _ he g2 (hwD k (by omega))
          obtain ⟨_, g3, g4⟩ := World.cells?_some g1
          refine ⟨ls ++ [ds], vs ++ cs', by simp [k1], ⟨fun l hl => ?_, ?_⟩, ?_, ?_, fun i u hu => ?_, fun i c u h1 h2 => ?_⟩
          ·rcases List.mem_append.1 hl with hl | hl
           ·exact k2 l hl
           ·simp at hl; subst hl; exact f1
          ·rw [List.flatten_append, zb3, List.range_succ, List.map_append, zd4]
           have : wL [ds].flatten = wL ds := by simp
           rw [this]
           simp only [List.map_cons, List.map_nil, Rows.uptoBulkAll]
           dsimp only at f0
           omega
          ·simp [List.flatten_append, k3, f2]
          ·rw [List.length_append, k4, g3, hK, Nat.add_mul]; omega
          ·rw [List.getElem?_append] at hu
           split at hu
           ·exact k5 i u hu
           ·rename_i hge
            have hlt := (List.getElem?_eq_some_iff.1 hu).1
            have g5 := g4 (i - vs.length) (by rw [← g3]; exact hlt)
            rw [hu] at g5
            rw [hK] at g5
            rw [Addr.add_mid, Addr.add_mid] at g5
            rw [show o + i = o + k * (s :: ss).length + (i - vs.length) by omega]
            exact g5
          ·rw [List.flatten_append, List.getElem?_append] at h1
           rw [List.getElem?_append] at h2
           rw [k3] at h2
           split at h1
           ·rename_i hi; rw [if_pos hi] at h2; exact k6 i c u h1 h2
           ·rename_i hi; rw [if_neg hi] at h2; exact f3 _ c u (by simpa using h1) h2
        obtain ⟨ls, vs, k1, ⟨k2, kw⟩, k3, _, k5, k6⟩ := key len (Nat.le_refl _)
        subst k1
        exact .one (.sl (s :: ss) be ls hlenB (fun l hl => (k2 l hl).1) fun l hl => (k2 l hl).2) (by rw [zbS, hye]; simp only [Rows.uptoBulk]; omega) (.sl _ _ b o _ vs hle k3 (fun _ => hF b) k5 k6)
   | st fs0 =>
    rw [hs] at h
    dsimp only at h
    obtain ⟨F, hF1, hF2⟩ := Fa.struct hs
    obtain ⟨hlen, fl2, parts, hye, hfs⟩ := zfW hF1 hy
    have hwt' := hwt
    rw [hye] at hwt'
    unfold DataW.weights at hwt'
    rw [hF1] at hwt'
    dsimp only at hwt'
    cases hl : shpF (shp tab n) fs0 [] with
    | none => rw [hl] at h; cases h
    | some l =>
     rw [hl] at h
     obtain ⟨h1, h2⟩ := one h rfl
     cases h2
     have h1 := Nat.eq_of_beq_eq_true h1
     refine ⟨by rw [hcells, h1], ?_⟩
     have key : ∀ (fs : List (Nat × TypeId)) (j : Nat) (acc l : List Shp), (∀ (q : Nat) (p : Nat × TypeId), fs[q]? = some p → ∃ f : Field, F.toList[j + q]? = some f ∧ p = (f.offset, f.type)) → shpF (shp tab n) fs acc = some l → CellsW (Rows.uptoBulkAll (parts.take j)) W Fr acc (cs.take acc.length) → (l.length ≤ cs.length) → CellsW (Rows.uptoBulkAll parts) W Fr l (cs.take l.length) := by
      intro fs
      induction fs with
      | nil =>
       intro j acc l _ h h3 _
       cases h
       refine h3.mono ?_
       have := zd4 (parts.take j) (parts.drop j)
       rw [List.take_append_drop] at this
       omega
      | cons p r ihr =>
       intro j acc l hp h h3 hle
       obtain ⟨off, u⟩ := p
       rw [shpF] at h
       cases hg : shp tab n u with
       | none => rw [hg] at h; cases h
       | some s =>
        rw [hg] at h
        dsimp only at h
        cases hb : Nat.beq off acc.length with
        | false => rw [hb] at h; cases h
        | true =>
         rw [hb, cond_true] at h
         obtain ⟨f, hf, hpe⟩ := hp 0 (off, u) rfl
         rw [Nat.add_zero] at hf
         cases hpe
         obtain ⟨y2, hy2, hy3⟩ := hfs j f hf
         obtain ⟨c1, c2⟩ := ih _ _ _ _ _ hg hy2 (zbz _ _ hwt' j _ _ (by rw [List.getElem?_map, hf]; rfl) hy3)
         rw [c1, Nat.eq_of_beq_eq_true hb] at c2
         refine ihr (j + 1) (acc ++ s) l (fun q p hq => by have := hp (q + 1) p (by simpa using hq); rw [show j + 1 + q = j + (q + 1) by omega]; exact this) h ?_ hle
         have e : cs.take (acc ++ s).length = cs.take acc.length ++ (cs.drop acc.length).take s.length := by
          rw [List.length_append, List.take_add]
         rw [e]
         have hj := (List.getElem?_eq_some_iff.1 hy3).1
         have e2 : Rows.uptoBulkAll (parts.take (j + 1)) = Rows.uptoBulkAll (parts.take j) + Rows.uptoBulk y2.1 := by
          rw [List.take_succ_eq_append_getElem hj, zd4, (List.getElem?_eq_some_iff.1 hy3).2]
          simp only [Rows.uptoBulkAll]
          omega
         rw [e2]
         exact h3.append c2
     have := key fs0 0 [] fs (fun q p hp => by
      rw [← hF2, List.getElem?_map] at hp
      cases hf : F.toList[q]? with
      | none => rw [hf] at hp; cases hp
      | some f => rw [hf] at hp; cases hp; exact ⟨f, by rw [Nat.zero_add]; exact hf, rfl⟩) hl ⟨[], ⟨⟨rfl, by simp⟩, Nat.zero_le _⟩, by simp, by simp⟩ (by rw [hlen, hcells, h1]; exact Nat.le_refl _)
     rw [List.take_of_length_le (by rw [hlen, hcells, h1]; exact Nat.le_refl _)] at this
     refine this.mono ?_
     rw [hye]
     simp only [Rows.uptoBulk]
     omega
   | ar => rw [hs] at h; cases h
   | mp => rw [hs] at h; cases h
   | pt => rw [hs] at h; cases h
   | fu => rw [hs] at h; cases h
   | other => rw [hs] at h; cases h
theorem zlV (TO : TabOk P tab) {t : TypeId} {fs : List Shp} {v : Value} {d : DataW H} {p : List MemPlace} {Fd : Array Field} (hs : shp tab 16 t = some fs) (hu : P.underlying t = some (.struct Fd)) (hv : ∃ base, Value.okWide P W .any base t v) (h : DataW.Trod enc P W 0 (fun _ => true) true t v d p) (hwt : (d.weights P t).all (· ≤ reachBytes) = true) {F : Nat → Prop} {ι : Nat → Option Value} (hF : ∀ b, FreeB F ι b) :
  ∃ ds, (Fits fs ds ∧ wL ds ≤ Rows.uptoBulk d) ∧ VRel W F ι (.agg (ds.map AVal.d)) v := by
 obtain ⟨base, hv⟩ := hv
 unfold Value.okWide at hv
 rw [hu] at hv
 obtain ⟨C, rfl, _, _⟩ := hv
 obtain ⟨fl, hf⟩ := h
 obtain ⟨_, ds, h1, h2, h3⟩ := zfo TO hF 16 t fs _ _ _ hs hf hwt
 refine ⟨ds, h1, .agg _ C (by simpa [Value.cells] using h2) fun i c u e1 e2 => ?_⟩
 rw [List.getElem?_map] at e1
 cases hd : ds[i]? with
 | none => rw [hd] at e1; cases e1
 | some d0 =>
  rw [hd] at e1
  cases e1
  exact .d _ _ (h3 i d0 u hd (by simpa [Value.cells] using e2))
theorem zhn (TO : TabOk P tab) {t : TypeId} {s : Shp} {v : Value} {d : DataW H} {p : List MemPlace} (hs : shp tab 16 t = some [s]) (hv : v.cells.toList = [v]) (h : DataW.Trod enc P W 0 (fun _ => true) true t v d p) (hwt : (d.weights P t).all (· ≤ reachBytes) = true) {F : Nat → Prop} {ι : Nat → Option Value} (hF : ∀ b, FreeB F ι b) :
  ∃ x, (ShD s x ∧ wD x ≤ Rows.uptoBulk d) ∧ VRel W F ι (.d x) v := by
 obtain ⟨fl, hf⟩ := h
 obtain ⟨_, ds, ⟨h1, h0⟩, h2, h3⟩ := zfo TO hF 16 t [s] _ _ _ hs hf hwt
 obtain ⟨x, r, rfl, h4, h5⟩ := zh h1
 obtain rfl := zZ h5
 rw [zao, zaI] at h0
 exact ⟨x, ⟨h4, h0⟩, .d _ _ (h3 0 x v rfl (by rw [hv]; rfl))⟩
end
end Go.Proofs.YtmmdkjanmegjdaaGreat.Ab

namespace Go.Proofs.YtmmdkjanmegjdaaGreat
open Go.RowKit Go.Lib
namespace Ab
theorem zbr {α : Type} {enc : α → List Dat} {l : List α} {x : α} (h : x ∈ l) : wL (enc x) ≤ wL (l.flatMap enc) := by
 induction l with
 | nil => cases h
 | cons y r ih =>
  rw [List.flatMap_cons, zb3]
  rcases List.mem_cons.1 h with rfl | h
  ·omega
  ·have := ih h; omega
theorem zar {α : Type} {enc : α → List Dat} {c : Nat} (hc : ∀ x, c ≤ wL (enc x)) : ∀ l : List α, l.length * c ≤ wL (l.flatMap enc)
 | [] => by simp
 | x :: r => by
  have := zar hc r
  have := hc x
  rw [List.flatMap_cons, zb3, List.length_cons, Nat.add_mul]
  omega
theorem zkm (l : List Int) : l.length ≤ wD (usD l) := by
 unfold usD
 rw [zbS]
 have := zar (enc := u1D) (c := 1) (fun x => by unfold u1D; rw [zao, zaI, zbs]; omega) l
 omega
theorem zkl (c : Cls) : c.pre.length + c.sCom.length + 13 ≤ wL (clsD c) := by
 have h1 := zkm c.pre
 have h2 := zkm c.sCom
 unfold clsD
 simp only [zao, zaI, zbs]
 omega
theorem zn5 : ∀ cs : List Cls, wP cs + wC cs ≤ wL (cs.flatMap clsD)
 | [] => by simp [wP, wC]
 | c :: r => by
  have := zn5 r
  have := zkl c
  rw [zdg, zdh, List.flatMap_cons, zb3]
  omega
theorem zoN (dv : Dvc) (h : dv.ok) (hw : wL (dvcD dv) ≤ 1048576) (hn : dv.pols.length ≤ 1000000) (s : Sbj) (hp : s.p.ok) (h1 : s.path = []) (h2 : s.com = []) : OkA dv s := by
 have e : ∀ d ∈ dvcD dv, wD d ≤ 1048576 := fun d hd => Nat.le_trans (zkk hd) hw
 have e7 := e (.sl (dv.pls.flatMap plstD) dv.pls.length) (by simp [dvcD])
 have e8 := e (.sl (dv.cls.flatMap clstD) dv.cls.length) (by simp [dvcD])
 have e9 := e (.sl (dv.pols.flatMap polD) dv.pols.length) (by simp [dvcD])
 rw [zbS] at e7 e8 e9
 have k7 := zar (enc := plstD) (c := 2) (fun x => by unfold plstD; simp only [zao, zaI, zbs, zbS]; omega) dv.pls
 have k8 := zar (enc := clstD) (c := 2) (fun x => by unfold clstD; simp only [zao, zaI, zbs, zbS]; omega) dv.cls
 refine ⟨⟨by omega, fun x hx => ⟨?_, (h.pls x hx).1⟩, by omega, fun x hx => ⟨?_, fun m hm => ?_⟩⟩, hn, ⟨hp, by rw [h2]; simp, by rw [h1]; simp, by rw [h1]; simp⟩, fun p hpp => ?_⟩
 ·have a := zbr (enc := plstD) hx
  have b : wL (plstD x) = 1 + (wL (x.es.flatMap lentD) + 1) := by unfold plstD; simp only [zao, zaI, zbs, zbS]; (try omega)
  have c := zar (enc := lentD) (c := 5) (fun x => by unfold lentD; simp only [zao, zaI, zbs]; omega) x.es
  omega
 ·have a := zbr (enc := clstD) hx
  have b : wL (clstD x) = 1 + (wL (x.ms.flatMap memD) + 1) := by unfold clstD; simp only [zao, zaI, zbs, zbS]; (try omega)
  have c := zar (enc := memD) (c := 1) (fun x => by unfold memD; simp only [zao, zaI, zbs]; omega) x.ms
  omega
 ·have a := zbr (enc := clstD) hx
  have b : wL (clstD x) = 1 + (wL (x.ms.flatMap memD) + 1) := by unfold clstD; simp only [zao, zaI, zbs, zbS]; (try omega)
  have c := zbr (enc := memD) hm
  have d : wL (memD m) = 1 + wD (usD m.all) := by unfold memD; simp only [zao, zaI, zbs]; (try omega)
  have f := zkm m.all
  omega
 ·have a := zbr (enc := polD) hpp
  have b : wL (polD p) = 1 + (wL (p.cs.flatMap clsD) + 1) + 1 := by unfold polD; simp only [zao, zaI, zbs, zbS]; omega
  have c := zn5 p.cs
  have d := zar (enc := clsD) (c := 13) (fun x => by have := zkl x; omega) p.cs
  refine ⟨by omega, hp, by rw [h1]; simp, fun c hc n hn => ((h.pols p hpp).1 c hc).pre n hn, by rw [h1]; simp; omega, by rw [h2]; simp; omega⟩
section
variable {P : Program} {T : List Nat} {e : Env} {h : Heap} {o : Oper}
theorem z6 {t u : TypeId} {x y : Operand} {a b r : Int} (ho : o.op = .binOp .and t x y u) (hx : aev e x = some (.d (.sc (.int .u8 a)))) (hy : aev e y = some (.d (.sc (.int .u8 b)))) (hr : andC a b = r) : AYield P T e h o (.d (.sc (.int .u8 r))) := zN _ fun w F ι ac E => by
 refine ⟨.int .u8 r, zH rfl, fun w' => ?_⟩
 have h1 := (zQ (zj E hx)).1
 have h2 := (zQ (zj E hy)).1
 subst hr
 simp only [execOp, ho, h1, h2]
 rfl
end
end Ab
end Go.Proofs.YtmmdkjanmegjdaaGreat

namespace Go.Proofs.YtmmdkjanmegjdaaGreat
open Go
def rworld {α : Type} : Result α → World
 | .ok _ w => w
 | .halt _ w => w
theorem zj2 {α : Type} (a : Ask α) (w : World) : w.drawn ≤ (w.ask a).2.drawn := by
 induction a generalizing w with
 | done a => exact Nat.le_refl _
 | ask what range k ih =>
  simp only [World.ask]
  split
  ·exact ih _ _
  ·refine Nat.le_trans ?_ (ih _ _)
   exact Nat.le_succ _
theorem zjg (w : World) (c : Sys) : w.drawn ≤ (w.sys c).2.drawn := by
 have hk := zj2 (Kernel.perform c w.os) w
 unfold World.sys
 split
 ·exact Nat.le_refl _
 ·rename_i h
  rw [h] at hk
  exact hk
theorem zer {p : Program} {w : World} {at_ : Addr} {u : TypeId} {k : Addr} {v : Value} {b : Bool} {r : World × List Addr} (h : w.viewStore p at_ u k v b = .ok r) : r.1.drawn = w.drawn := by
 unfold World.viewStore at h
 simp only [bind, Except.bind, pure, Except.pure, throw, throwThe, MonadExceptOf.throw] at h
 repeat' first
  | (simp at h; done)
  | (simp only [Except.ok.injEq] at h; subst h; rfl)
  | split at h
theorem zeZ {p : Program} {w : World} {a : Addr} {v : Value} {b : Bool} {r : World × List Addr} (h : w.farStore p a v b = .ok r) : r.1.drawn = w.drawn := by
 unfold World.farStore at h
 split at h
 ·split at h
  ·rename_i hv
   cases h
   exact zer hv
  ·cases h
 ·cases h
theorem zfr {α : Type} (p : Program) (e : Sem α) (w : World) : w.drawn ≤ (rworld (e.run p w)).drawn := by
 induction e generalizing w with
 | pure a => exact Nat.le_refl _
 | load m a k ih =>
  simp only [Sem.run]
  (repeat' split) <;> first | exact ih _ _ | exact Nat.le_refl _
 | store m a v k ih =>
  cases v <;> simp only [Sem.run] <;> (repeat' split) <;> first
   | exact Nat.le_refl _
   | (refine Nat.le_trans ?_ (ih _); exact Nat.le_refl _)
   | (refine Nat.le_trans ?_ (ih _); rename_i hf; exact Nat.le_of_eq (zeZ hf).symm)
 | new o k ih => refine Nat.le_trans ?_ (ih _ _); exact Nat.le_refl _
 | shape r k ih => exact ih _ _
 | freeze a n k ih =>
  refine Nat.le_trans ?_ (ih _)
  unfold World.freeze
  split <;> exact Nat.le_refl _
 | frozen a k ih => exact ih _ _
 | getObj r k ih =>
  simp only [Sem.run]
  split <;> first | exact ih _ _ | exact Nat.le_refl _
 | setObj r o k ih =>
  simp only [Sem.run]
  split <;> first | exact Nat.le_refl _ | (refine Nat.le_trans ?_ (ih _); exact Nat.le_refl _)
 | choose q k ih =>
  simp only [Sem.run]
  split
  ·exact ih _ _
  ·refine Nat.le_trans ?_ (ih _ _)
   exact Nat.le_succ _
 | sys c k ih =>
  refine Nat.le_trans ?_ (ih _ _)
  exact zjg _ _
 | program k ih => exact ih _ _
 | mark m k ih => exact ih _
 | halt h => exact Nat.le_refl _
section
variable {α : Type} {p : Program} {s : Sem α} {w w1 : World} {D : Nat} {a : α} {x : Halt} {e e1 : Array Event}
theorem zO (h : s.run p w = .ok a w1) (hD : D ≤ w.drawn) : D ≤ w1.drawn := by
 have := zfr p s w
 rw [h] at this
 exact Nat.le_trans hD this
theorem zT (h : s.run p w = .halt x w1) (hD : D ≤ w.drawn) : D ≤ w1.drawn := by
 have := zfr p s w
 rw [h] at this
 exact Nat.le_trans hD this
theorem zck (h : (s.run p w, e) = (.ok a w1, e1)) (hD : D ≤ w.drawn) : D ≤ w1.drawn := zO (Prod.mk.inj h).1 hD
theorem zbf (h : (s.run p w, e) = (.halt x w1, e1)) (hD : D ≤ w.drawn) : D ≤ w1.drawn := zT (Prod.mk.inj h).1 hD
end
def gdr (D : Nat) : GStep → Prop
 | .go _ w _ => D ≤ w.drawn
 | .comm _ _ _ _ w _ => D ≤ w.drawn
 | .spawn _ _ w _ => D ≤ w.drawn
 | .count _ w _ => D ≤ w.drawn
 | .timer _ _ w _ => D ≤ w.drawn
 | .alone _ _ w _ => D ≤ w.drawn
 | .newcoro _ _ _ w _ => D ≤ w.drawn
 | .coroswitch _ _ _ w _ => D ≤ w.drawn
 | .collect _ w _ => D ≤ w.drawn
 | .watch _ w _ => D ≤ w.drawn
 | .ended _ _ _ => True
theorem zan (D : Nat) (es : Array Event) (s : GStep) : gdr D (GStep.after es s) = gdr D s := by cases s <;> rfl
theorem zlt {α : Type} {D : Nat} {o : Option α} {a : GStep} {f : α → GStep} (ha : gdr D a) (hf : ∀ x, gdr D (f x)) : gdr D (o.elim a f) := by cases o; exact ha; exact hf _
section
variable {p : Program} {main b : Bool} {fr : Frame} {callers : List Frame} {dying : Option Dying} {w : World} {D : Nat}
theorem zcG {v : Value} (h : D ≤ w.drawn) : gdr D (doReturn p main fr callers dying v w) := by
 unfold doReturn
 repeat' first
  | trivial
  | rw [zan]
  | exact h
  | exact zO (by assumption) h
  | exact zT (by assumption) h
  | exact zck (by assumption) h
  | exact zbf (by assumption) h
  | (simp only [gdr]; exact zO (by assumption) h)
  | (simp only [gdr]; exact zT (by assumption) h)
  | split
theorem zlI {l : List ByteArray} {m : String} {b : Bool} (h : D ≤ w.drawn) : gdr D (dieOf fr l m b w) := h
theorem zbW {m : String} (h : D ≤ w.drawn) : gdr D (endThrow fr m w) := h
theorem zid {n : Nat} {t : ByteArray} {o : Outcome} : gdr D (endWith w n t o) := by
 unfold endWith
 simp only []
 repeat' first
  | trivial
  | split
theorem zcF {v : Value} (h : D ≤ w.drawn) : gdr D (endPrinting p fr v w) := by
 unfold endPrinting
 simp only []
 repeat' first
  | exact zbW h
  | trivial
  | split
theorem zej {m : String} (h : D ≤ w.drawn) : gdr D (endFatal p fr callers dying m w) := by
 unfold endFatal
 simp only []
 split
 ·exact zlI (zO (by assumption) h)
 ·trivial
 ·trivial
theorem zhL {d : Dying} {f : Fatal} (h : D ≤ w.drawn) : gdr D (writeOn p fr d f w) := by
 unfold writeOn
 simp only [Sem.runT_eq]
 split
 ·trivial
 ·split
  ·exact zck (by assumption) h
  ·exact zbf (by assumption) h
  ·trivial
  ·trivial
theorem zo2 {d : Dying} (h : D ≤ w.drawn) : gdr D (die p fr d w) := by
 unfold die
 simp only [Sem.runT_eq, zan]
 repeat' first
  | trivial
  | rw [zan]
  | exact h
  | exact zO (by assumption) h
  | exact zT (by assumption) h
  | exact zck (by assumption) h
  | exact zbf (by assumption) h
  | (simp only [gdr]; exact zO (by assumption) h)
  | (simp only [gdr]; exact zT (by assumption) h)
  | exact zhL h
  | exact zid
  | exact zcF (zT (by assumption) h)
  | split
theorem zeu {d : Deferred} (h : D ≤ w.drawn) : gdr D (callDeferred p fr callers dying d w) := by
 unfold callDeferred
 simp only [Sem.runT_eq, zan]
 repeat' first
  | trivial
  | rw [zan]
  | exact h
  | exact zO (by assumption) h
  | exact zT (by assumption) h
  | exact zck (by assumption) h
  | exact zbf (by assumption) h
  | (simp only [gdr]; exact zO (by assumption) h)
  | (simp only [gdr]; exact zT (by assumption) h)
  | exact zej (zT (by assumption) h)
  | exact zbW (zT (by assumption) h)
  | split
theorem zjd (h : D ≤ w.drawn) : gdr D (unwind p main fr callers dying w) := by
 unfold unwind
 simp only [Sem.runT_eq, zan]
 repeat' first
  | trivial
  | rw [zan]
  | exact h
  | exact zO (by assumption) h
  | exact zT (by assumption) h
  | exact zck (by assumption) h
  | exact zbf (by assumption) h
  | (simp only [gdr]; exact zO (by assumption) h)
  | (simp only [gdr]; exact zT (by assumption) h)
  | exact zeu h
  | exact zcG h
  | exact zcG (zO (by assumption) h)
  | exact zcF h
  | split
theorem zlE {g : Nat} (h : D ≤ w.drawn) : gdr D (early p fr callers dying g w) := by
 unfold early
 simp only []
 repeat' first
  | trivial
  | rw [zan]
  | exact h
  | exact zO (by assumption) h
  | exact zT (by assumption) h
  | exact zck (by assumption) h
  | exact zbf (by assumption) h
  | (simp only [gdr]; exact zO (by assumption) h)
  | (simp only [gdr]; exact zT (by assumption) h)
  | split
theorem ze8 {s : Sem Next} (h : D ≤ w.drawn) : gdr D (stepG.apply p b fr callers dying s w) := by
 unfold stepG.apply
 have e : (if b = true then s.runT p w #[] else (s.run p w, #[])).1 = s.run p w := by split <;> simp
 generalize (if b = true then s.runT p w #[] else (s.run p w, #[])) = re at e ⊢
 obtain ⟨r, es⟩ := re
 dsimp only at e
 subst e
 simp only [zan]
 repeat' first
  | trivial
  | rw [zan]
  | exact h
  | exact zO (by assumption) h
  | exact zT (by assumption) h
  | exact zck (by assumption) h
  | exact zbf (by assumption) h
  | (simp only [gdr]; exact zO (by assumption) h)
  | (simp only [gdr]; exact zT (by assumption) h)
  | exact zej (zT (by assumption) h)
  | exact zbW (zT (by assumption) h)
  | exact zbW (zO (by assumption) h)
  | exact zlE (zT (by assumption) h)
  | split
theorem zm1 (h : D ≤ w.drawn) : gdr D (stepG.oper p b fr callers dying w) := by
 unfold stepG.oper
 split
 ·trivial
 ·split <;> exact ze8 h
theorem znm (h : D ≤ w.drawn) : gdr D (stepG.exec p main b fr callers dying w) := by
 unfold stepG.exec
 simp only [Sem.runT_eq, zan]
 repeat' first
  | trivial
  | rw [zan]
  | exact h
  | exact zO (by assumption) h
  | exact zT (by assumption) h
  | exact zck (by assumption) h
  | exact zbf (by assumption) h
  | (simp only [gdr]; exact zO (by assumption) h)
  | (simp only [gdr]; exact zT (by assumption) h)
  | exact ze8 h
  | exact ze8 (zO (by assumption) h)
  | exact zm1 h
  | exact zcG (zO (by assumption) h)
  | (refine zlt ?_ fun x => ?_)
  | (simp only [Sem.runT_eq, zan]; done)
  | split
end
section
variable {p : Program} {w : World} {m m' : Machine}
theorem zku {main b : Bool} {g : Goroutine} : gdr w.drawn (stepG p main g w b) := by
 obtain ⟨fr, callers, status, dying, offers⟩ := g
 simp only [stepG]
 have h : w.drawn ≤ w.drawn := Nat.le_refl _
 split
 ·exact zo2 h
 ·exact znm h
 ·exact zjd h
theorem zfT {rest : Rest} {cs : Array CommCase} {w1 : World} (h : waitingAt rest cs w = some w1) : w1.drawn = w.drawn := by
 unfold waitingAt at h
 repeat' first
  | (simp at h; done)
  | (simp only [Option.some.injEq] at h; subst h; rfl)
  | split at h
theorem ze4 {rest : Rest} {gs : Array Goroutine} {i : Nat} {g : Goroutine} {cases : Array CommCase} {blocking : Bool} {shape : CommShape} (h : (communicate p rest gs i g cases blocking shape w).1 = .next m') : w.drawn ≤ m'.world.drawn := by
 have hD : w.drawn ≤ w.drawn := Nat.le_refl _
 unfold communicate at h
 simp only [] at h
 repeat' first
  | (simp at h; done)
  | (simp only [Stepped.next.injEq] at h; subst h; dsimp only; first | exact hD | exact zO (by assumption) hD | exact zT (by assumption) hD | exact zT (by assumption) (zO (by assumption) hD) | exact zO (by assumption) (zO (by assumption) hD))
  | (simp only [Stepped.next.injEq] at h; subst h; dsimp only; rename_i hw; exact Nat.le_of_eq (zfT hw).symm)
  | split at h
theorem ziO {gs : Array Goroutine} {rest : Rest} (h : look p gs rest w = .next m') : w.drawn ≤ m'.world.drawn := by
 have hD : w.drawn ≤ w.drawn := Nat.le_refl _
 unfold look at h
 simp only [] at h
 repeat' first
  | (simp at h; done)
  | (simp only [Stepped.next.injEq] at h; subst h; dsimp only; first | exact hD | exact zO (by assumption) hD | exact zT (by assumption) hD | exact zT (by assumption) (zO (by assumption) hD) | exact zO (by assumption) (zO (by assumption) hD))
  | split at h
theorem zjB {var : Addr} {m1 : Machine} (h : timerOp.opened m var = some m1) : m1.world.drawn = m.world.drawn := by
 unfold timerOp.opened at h
 split at h
 ·split at h
  ·cases h; rfl
  ·cases h
 ·cases h; rfl
theorem zhN {op : TimerOp} {v : Value} (h : timerOp m op = .ok (v, m')) : m'.world.drawn = m.world.drawn := by
 unfold timerOp timerOp.named retime drain Machine.withTimers at h
 simp only [] at h
 repeat' first
  | (simp at h; done)
  | (simp only [Except.ok.injEq, Prod.mk.injEq] at h; obtain ⟨_, h⟩ := h; subst h; first | rfl | (dsimp only; exact zjB (by assumption)))
  | split at h
set_option maxHeartbeats 4000000 in
theorem zmI {i : Nat} {b : Bool} (h : (runT p m i b).1 = .next m') : m.world.drawn ≤ m'.world.drawn := by
 simp only [runT] at h
 revert h
 generalize m.gs.swapAt! _ _ = gg
 have hs : gdr m.world.drawn (stepG p (i == 0) gg.1 m.world b) := zku
 revert hs
 generalize stepG p (i == 0) gg.1 m.world b = s
 intro hs h
 cases s <;> simp only [] at h <;> simp only [gdr] at hs
 all_goals first
  | (simp at h; done)
  | (exact Nat.le_trans hs (ze4 h))
  | (exact Nat.le_trans hs (ziO h))
  | (simp only [Stepped.next.injEq] at h; subst h; exact hs)
  | (repeat' first
    | (simp at h; done)
    | (simp only [Stepped.next.injEq] at h; subst h; exact hs)
    | (simp only [Stepped.next.injEq] at h; subst h; rename_i ht; have := zhN ht; dsimp only at this ⊢; omega)
    | (simp only [endThrow, dieOf, Stepped.next.injEq] at h; subst h; exact hs)
    | split at h)
theorem zkD {k : Nat} (h : serve p m k = .next m') : m.world.drawn ≤ m'.world.drawn := by
 unfold serve at h
 simp only [] at h
 repeat' first
  | (simp at h; done)
  | (simp only [Stepped.next.injEq] at h; subst h; exact Nat.le_refl _)
  | split at h
def mdr (D : Nat) : Move → Prop
 | .goroutine m _ => D ≤ m.world.drawn
 | .machine (.next m) _ => D ≤ m.world.drawn
 | .machine (.ended _ _) _ => True
theorem zjF {D k : Nat} {ops : Array MemOp} (h : D ≤ m.world.drawn) : mdr D (.machine (serve p m k) ops) := by
 cases hs : serve p m k with
 | next m1 => exact Nat.le_trans h (zkD hs)
 | ended o w => trivial
theorem zl1 {D t : Nat} (h : D ≤ m.world.drawn) : D ≤ (m.advanceTo t).world.drawn := h
set_option maxHeartbeats 4000000 in
theorem ze7 {D : Nat} (h : D ≤ m.world.drawn) : mdr D (askOn p m) := by
 unfold askOn
 simp only []
 repeat' first
  | trivial
  | rw [zan]
  | exact h
  | exact zO (by assumption) h
  | exact zT (by assumption) h
  | exact zck (by assumption) h
  | exact zbf (by assumption) h
  | (simp only [gdr]; exact zO (by assumption) h)
  | (simp only [gdr]; exact zT (by assumption) h)
  | exact zO (by assumption) (zO (by assumption) h)
  | exact zO (by assumption) (zO (by assumption) (zO (by assumption) h))
  | exact zjF (zO (by assumption) h)
  | (simp only [mdr, Machine.advanceTo]; first | trivial | exact zO (by assumption) h | exact zO (by assumption) (zO (by assumption) h) | exact zO (by assumption) (zO (by assumption) (zO (by assumption) h)) | exact zO (by assumption) (zO (by assumption) (zO (by assumption) (zO (by assumption) h))) | exact zO (by assumption) (zl1 (zO (by assumption) (zO (by assumption) h))) | exact zO (by assumption) (zO (by assumption) (zl1 (zO (by assumption) (zO (by assumption) h)))))
  | split
theorem zo7 {D : Nat} (h : D ≤ m.world.drawn) : mdr D (ask p m) := by
 unfold ask
 split
 ·split
  ·trivial
  ·rename_i hr
   generalize hl : look p m.gs m.rest _ = s
   cases s with
   | next m1 => exact ze7 (Nat.le_trans (zO hr h) (ziO hl))
   | ended o w => trivial
  ·rename_i hr
   exact ze7 (zO hr h)
 ·exact ze7 h
theorem zm6 {D : Nat} (h : D ≤ m.world.drawn) : mdr D (move p m) := by
 unfold move
 repeat' first
  | trivial
  | exact h
  | exact zo7 h
  | split
theorem zmB (h : step p m = .next m') : m.world.drawn ≤ m'.world.drawn := by
 have hm : mdr m.world.drawn (move p m) := zm6 (Nat.le_refl _)
 unfold step stepT at h
 split at h
 ·rename_i m1 i he
  rw [he] at hm
  exact Nat.le_trans hm (zmI h)
 ·rename_i s ops he
  rw [he] at hm
  dsimp only at h
  subst h
  exact hm
theorem zgF (h : Steps p m m') : m.world.drawn ≤ m'.world.drawn := by
 have h1 := StepsIn.of_steps h
 clear h
 induction h1 with
 | refl => exact Nat.le_refl _
 | head _ hs _ ih => exact Nat.le_trans (zmB hs) ih
theorem Calls.drawn {f : FuncId} {args : Array Value} {R : Ending → World → Prop} (h : Calls p f args w R) : Calls p f args w fun e w' => R e w' ∧ (e ≠ .outgrown → w.drawn ≤ w'.drawn) := fun cs => by
 obtain ⟨e, w', fr, hR, hc, h1, h2⟩ := h cs
 refine ⟨e, w', fr, ⟨hR, fun he => ?_⟩, hc, h1, h2⟩
 cases e with
 | outgrown => exact absurd rfl he
 | returned v => exact zgF hc
 | panicked c => exact zgF hc
end
end Go.Proofs.YtmmdkjanmegjdaaGreat

namespace Go.Proofs.YtmmdkjanmegjdaaGreat
open Go.RowKit Go.Sort Go.Shelf
section
variable {α : Type} [Inhabited α] (enc : α → List Value) (k : Nat)
theorem zhd (hk : ∀ x, (enc x).length = k) (l : List α) (t : Nat) (h : t < l.length * k) : (l.flatMap enc)[t]? = some (enc l[t / k]!)[t % k]! := by
  have k0 : 0 < k := by rcases Nat.eq_zero_or_pos k with h0 | h0; · subst h0; simp at h
                        · exact h0
  induction l generalizing t with
  | nil => simp at h
  | cons x l ih =>
    rw [List.flatMap_cons]
    rcases Nat.lt_or_ge t k with h1 | h1
    · rw [List.getElem?_append_left (by rw [hk]; exact h1), Nat.div_eq_of_lt h1, Nat.mod_eq_of_lt h1]
      simp [hk, h1]
    · rw [List.getElem?_append_right (by rw [hk]; exact h1), hk]
      have e1 : t = (t - k) + k := by omega
      have e2 : t / k = (t - k) / k + 1 := by conv => lhs; rw [e1]; rw [Nat.add_div_right _ k0]
      have e3 : t % k = (t - k) % k := by conv => lhs; rw [e1]; rw [Nat.add_mod_right]
      rw [e2, e3, ih (t - k) (by simp [Nat.add_mul] at h; omega)]
      simp
theorem zM (hk : ∀ x, (enc x).length = k) (l : List α) : (l.flatMap enc).length = l.length * k := by
 induction l with
 | nil => exact (fun (_ : α) => by simp) (default : α)
 | cons x l ih => rw [List.flatMap_cons, List.length_append, ih, hk]; simp [Nat.add_mul]; omega
theorem zg9 (hk : ∀ x, (enc x).length = k) (d : Array α) : (flatK enc k d).toList = d.toList.flatMap enc := by
 apply List.ext_getElem?
 intro t
 by_cases ht : t < d.size * k
 ·rw [zhd enc k hk d.toList t (by simpa using ht), Array.getElem?_toList]
  have h1 : t < (flatK enc k d).size := by simpa using ht
  rw [Array.getElem?_eq_getElem h1]
  have := get_flatK enc k d t ht
  rw [getElem!_pos _ t h1] at this
  rw [this]
  have e9 : d[t / k]! = d.toList[t / k]! := by rw [← Array.getElem!_toList]
  rw [e9]
 ·rw [List.getElem?_eq_none (by simp; omega), List.getElem?_eq_none (by rw [zM enc k hk]; simp; omega)]
variable {w : World} {base g n cap : Nat} {e : TypeId} {os : Array Obj} {cur : Array Value}
theorem zc5 (hk : ∀ x, (enc x).length = k) (l : List α) (hg : w.heap[g]? = some (.cells cur e (0, 0))) (ht : cur.toList.take (l.length * k) = l.flatMap enc) (hs : l.length * k ≤ cur.size) : HoldsK enc k w g 0 l.toArray := by
 intro j hj
 have hj' : j < l.length * k := by simpa using hj
 have e1 : (flatK enc k l.toArray)[j]! = (enc l[j / k]!)[j % k]! := by
  rw [get_flatK _ _ _ _ (by simpa using hj')]; simp
 have e2 := zhd enc k hk l j hj'
 rw [← ht, List.getElem?_take_of_lt hj', Array.getElem?_toList] at e2
 rw [Nat.zero_add]
 refine ⟨?_, ?_⟩
 ·rw [cell_of_row w g j cur e (0, 0) hg, e1, e2]; rfl
 ·simp [World.frozen?, hg]
theorem zgc (d : Array α) {fr : Nat × Nat} (hb : w.heap[g]? = some (.cells cur e fr)) :
  (sortWorldK enc k w g 0 n d os).heap[g]? = some (.cells (putCells id 0 (flatK enc k d) cur) e fr) := by
 have hg : g < w.heap.size := (Array.getElem?_eq_some_iff.1 hb).1
 unfold sortWorldK putRowK
 rw [heap_grow_old _ _ (by simpa using hg)]
 simp [putRow, mapBlock, Sort.ahead, Array.getElem?_modify, hb, onCells]
theorem zeC (d : Array α) {v : Value} (hv : Ab.blockOf v = some g) : Ab.Wrote w v (sortWorldK enc k w g 0 n d os) := by
 refine ⟨rfl, rfl, rfl, ?_, fun j hj hne => ?_⟩
 ·unfold sortWorldK putRowK; simp
 ·unfold sortWorldK putRowK
  rw [heap_grow_old _ _ (by simpa using hj)]
  have : g ≠ j := fun e => hne (by rw [hv, e])
  simp [putRow, mapBlock, Sort.ahead, Array.getElem?_modify, this]
theorem zkq (F : Array Value) (h : F.size ≤ cur.size) : (putCells id 0 F cur).toList.take F.size = F.toList := by
 apply List.ext_getElem?
 intro j
 by_cases hj : j < F.size
 ·rw [List.getElem?_take_of_lt hj, Array.getElem?_toList]
  simp [putCells, hj, show j < cur.size by omega]
 ·rw [List.getElem?_take_eq_none (by omega), List.getElem?_eq_none (by simp; omega)]
theorem zdq (hk : ∀ x, (enc x).length = k) (d : Array α) (hbase : base ≤ g) (hb : w.heap[g]? = some (.cells cur e (0, 0))) (h1 : d.size ≤ cap) (h2 : cap ≤ maxLen) (h3 : cur.size = cap * k) :
  (sortWorldK enc k w g 0 n d os).ownsRow base e k (.slice (some ⟨g, 0, none⟩) d.size cap) d.size (d.toList.flatMap enc) := by
 refine ⟨by rw [zM enc k hk]; simp, .inr ⟨g, cap, _, rfl, hbase, zgc enc k d hb, h1, h2, by simp [putCells, h3], ?_⟩⟩
 have := zkq (cur := cur) (flatK enc k d) (by rw [size_flatK, h3]; exact Nat.mul_le_mul_right k h1)
 rw [size_flatK] at this
 rw [this, zg9 enc k hk]
end
theorem zfY {α : Type} {cf : α → α → Int} (G : Good cf) : SWO (ltOf cf) := by
 refine ⟨fun x => ?_, fun x y z h1 h2 => ?_, fun x y z h1 h2 => ?_⟩
 ·simp only [ltOf, decide_eq_false_iff_not]
  rw [G.refl]
  omega
 ·simp only [ltOf, decide_eq_true_eq] at *
  exact G.lt_lt h1 h2
 ·simp only [ltOf, decide_eq_false_iff_not] at *
  have e1 := G.anti x y
  have e2 := G.anti y z
  have e3 := G.anti x z
  have := G.trans z y x (by omega) (by omega)
  omega
theorem zkp {α : Type} {cf : α → α → Int} (G : Good cf) (hz : ∀ x y, cf x y = 0 → x = y) (x y : α) (h1 : ltOf cf x y = false) (h2 : ltOf cf y x = false) : x = y := by
 simp only [ltOf, decide_eq_false_iff_not] at *
 have := G.anti x y
 exact hz x y (by omega)
theorem zea {w w' : World} (G : Ab.Grew w w') (hd : w.drawn ≤ w'.drawn) : ∃ n os, w' = grow (w.drewN n) os := by
 refine ⟨w'.drawn - w.drawn, w'.heap.extract w.heap.size w'.heap.size, ?_⟩
 have h1 := G.os
 have h2 := G.tape
 have h3 := G.output
 have h4 := G.size
 have h5 := G.mem
 obtain ⟨hp, tp, dr, os, ot⟩ := w
 obtain ⟨hp', tp', dr', os', ot'⟩ := w'
 dsimp only at h1 h2 h3 h4 h5 hd
 subst h1 h2 h3
 have e1 : hp' = hp ++ hp'.extract hp.size hp'.size := by
  apply Array.ext_getElem?
  intro i
  by_cases hi : i < hp.size
  ·rw [Array.getElem?_append_left hi]
   exact h5 i hi
  ·rw [Array.getElem?_append_right (by omega), Array.getElem?_extract]
   split
   ·congr 1; omega
   ·exact Array.getElem?_eq_none (by omega)
 show World.mk .. = World.mk ..
 dsimp only [World.drewN]
 have e2 : dr' = dr + (dr' - dr) := by omega
 rw [← e1, ← e2]
namespace Ab
section
variable {P : Program} {ρ : Ren} {α : Type} [Inhabited α]
theorem zii {g : FuncId} {enc : α → List Value} {k : Nat} {cf : α → α → Int} {eA : α → AVal} (hvA : ∀ x, valA (eA x) = some (.agg (enc x).toArray)) (hoA : ∀ x, oneA (eA x) = true)
  (HC : ∀ x y, ACall P g [eA x, eA y] [] (Just (.d (.sc (.int .i64 (cf x y)))))) (blk off size : Nat) (w : World) : CmpLays P g #[] enc k cf blk off size w := by
 intro m os dk hs x y
 generalize sortWorldK enc k w blk off m dk os = W
 have H2 := (HC x y).2 (fun r => W.heap.size ≤ r) (fun _ => False) W (fun _ => none) (fun _ => none) (#[.agg (enc x).toArray, .agg (enc y).toArray] ++ #[]) W (HRel.none _ W (fun _ h => h.elim)) ⟨rfl, fun i c u h1 h2 => by
  match i, h1, h2 with
  | 0, h1, h2 => cases h1; cases h2; exact zaJ _ _ _ _ _ (hvA x) (hoA x)
  | 1, h1, h2 => cases h1; cases h2; exact zaJ _ _ _ _ _ (hvA y) (hoA y)⟩
 refine (Calls.drawn H2).mono ?_
 rintro e w' ⟨⟨u, c, h', ι', rfl, ⟨rfl, rfl⟩, hH, hv⟩, hd⟩
 obtain ⟨rfl, _⟩ := zQ hv
 exact ⟨rfl, zea hH.grewC (hd (by simp))⟩
theorem zmu {w : World} {Fr : Nat → Prop} : ∀ (vs xs : List Value), xs.length = vs.length → (∀ (i : Nat) (c : Dat) (u : Value), (vs.map Dat.sc)[i]? = some c → xs[i]? = some u → DRel w Fr c u) → xs = vs := fun vs xs h1 h2 => by
 apply List.ext_getElem?
 intro i
 by_cases hi : i < xs.length
 ·have h3 := h2 i (.sc vs[i]) xs[i] (by rw [List.getElem?_map, List.getElem?_eq_getElem (by omega)]; rfl) (List.getElem?_eq_getElem hi)
  rw [List.getElem?_eq_getElem hi, List.getElem?_eq_getElem (by omega)]
  congr 1
  generalize xs[i] = u0 at h3 ⊢
  generalize (vs[i]'(by omega)) = v0 at h3 ⊢
  cases h3
  rfl
 ·rw [List.getElem?_eq_none (by omega), List.getElem?_eq_none (by omega)]
theorem sortG (L : SlLaysF0.n6 P ρ) {f el : Nat} {k : Nat} (hf : ρ.f 6 = f) (hgo : isGo P f = true) (aE : ∀ w, (isAgg (ρ.t 24)).run P w = .ok true w) (zE : ∀ w, (Go.sizeOf (ρ.t 24)).run P w = .ok k w)
  {enc : α → List Value} (hk : ∀ x, (enc x).length = k) (h1 : ∀ x, ∀ v ∈ enc x, v.oneCell' = true) {eA : α → AVal} (hvA : ∀ x, valA (eA x) = some (.agg (enc x).toArray)) (hoA : ∀ x, oneA (eA x) = true)
  {eD : α → List Dat} (hD : ∀ x, eD x = (enc x).map Dat.sc) {cf : α → α → Int} (G : Good cf) (hz : ∀ x y, cf x y = 0 → x = y) {g : FuncId} (HC : ∀ x y, ACall P g [eA x, eA y] [] (Just (.d (.sc (.int .i64 (cf x y))))))
  (hnil : ∀ w, Calls P f #[.slice none 0 0, .func (.func g) #[] #[]] w fun e w' => e = .returned (.tuple #[]) ∧ w' = w) (l : List α) (hn : l.length ≤ 2147483648) :
  ACall P f [.row 1000, .fn g []] [(1000, .row el k l.length (l.flatMap eD))] (fun c h => c = .tup [] ∧ h = [(1000, .row el k l.length ((srt cf l).flatMap eD))]) := by
 refine ⟨hgo, fun Pm F w0 pin ι us w H HA => ?_⟩
 obtain ⟨v, hv, xs, hown, hxl, hxr⟩ := H.blk 1000 _ rfl
 have hmap : ∀ m : List α, m.flatMap eD = (m.flatMap enc).map Dat.sc := fun m => by
  rw [List.map_flatMap]
  congr 1
  exact funext hD
 rw [hmap] at hxl hxr
 have hxs := zmu (l.flatMap enc) xs (by rw [hxl, List.length_map]) hxr
 subst hxs
 have hus : us = #[v, .func (.func g) #[] #[]] := by
  have hsz : us.size = 2 := HA.1
  obtain ⟨u0, u1, rfl⟩ : ∃ u0 u1, us = #[u0, u1] := ⟨us[0], us[1], by apply Array.ext <;> simp [hsz]; intro i h1 h2; match i with | 0 => rfl | 1 => rfl | i + 2 => omega⟩
  have h0 := HA.2 0 _ u0 rfl rfl
  have h1 := HA.2 1 _ u1 rfl rfl
  cases h0 with
  | row _ _ _ h3 =>
   cases h1 with
   | fn _ _ C hl _ =>
    have : C = #[] := Array.eq_empty_of_size_eq_zero hl
    rw [h3 v hv, this]
 subst hus
 have hlen : (srt cf l).length = l.length := zbC l
 have key : Calls P f #[v, .func (.func g) #[] #[]] w fun e w' => e = .returned (.tuple #[]) ∧ w'.ownsRow 0 el k v l.length ((srt cf l).flatMap enc) ∧ Wrote w v w' := by
  obtain ⟨h0, ⟨rfl, h3⟩ | ⟨gb, cap, cur, rfl, hb, hg, hcap, hmax, hsz, ht⟩⟩ := hown
  ·have : l = [] := List.eq_nil_of_length_eq_zero h3
   subst this
   refine (hnil w).mono ?_
   rintro e w' ⟨rfl, rfl⟩
   have e0 : srt cf [] = [] := List.eq_nil_of_length_eq_zero hlen
   rw [e0]
   exact ⟨rfl, World.ownsRow_nil _ _ _ _, rfl, rfl, rfl, Nat.le_refl _, fun _ _ _ => rfl⟩
  ·have hH := zc5 enc k hk l hg ht (by rw [hsz]; exact Nat.mul_le_mul_right k hcap)
   refine (hf ▸ AnyQ.slices_SortFunc L k aE zE enc hk h1 cf (zfY G) g #[] gb 0 cap l.toArray w (fun args W => zdk (HC default default).1 args W) (zii hvA hoA HC _ _ _ _) hH (Array.getElem?_eq_some_iff.1 hg).1 (by simp; omega)).mono ?_
   rintro e w' ⟨rfl, d', n, os, hp, hs, rfl⟩
   have e1 : d'.toList = srt cf l := sorted_unique_holds (zfY G) (zkp G hz) l.toArray d' hp hs
   have e2 : d'.size = l.length := by rw [hp.1]; simp
   refine ⟨rfl, ?_, zeC enc k d' rfl⟩
   have := zdq (os := os) (n := n) enc k hk d' hb hg (by rw [e2]; exact hcap) hmax hsz
   rw [e2, e1] at this
   exact this
 refine key.mono ?_
 rintro x w' ⟨rfl, hown', hW⟩
 refine ⟨.tuple #[], .tup [], _, ι, rfl, ⟨rfl, rfl⟩, ?_, .tup _ _ rfl (by simp)⟩
 have HB := H.wrote hW hv (b' := .row el k l.length ((srt cf l).flatMap eD)) ⟨(srt cf l).flatMap enc, hown', by rw [hmap, List.length_map], fun i c u h1' h2 => ?_⟩
 ·have := HB.only (h' := [(1000, .row el k l.length ((srt cf l).flatMap eD))]) fun id b hb => by
   by_cases hid : 1000 = id
   ·subst hid; exact hb
   ·rw [zc _ _ hid] at hb; cases hb
  have e : Ab.only [(1000, ABlk.row el k l.length ((srt cf l).flatMap eD))] ι = ι := funext fun id => by
   unfold Ab.only
   split
   ·rfl
   ·rename_i hn2
    cases hi : ι id with
    | none => rfl
    | some v' =>
     obtain ⟨b, hb⟩ := H.dom id v' hi
     by_cases hid : 1000 = id
     ·subst hid; exact absurd rfl hn2
     ·rw [zc _ _ hid] at hb; cases hb
  rw [e] at this
  exact this
 ·rw [hmap, List.getElem?_map, h2] at h1'
  cases h1'
  obtain ⟨p, _, hp⟩ := List.mem_flatMap.1 (List.mem_of_getElem? h2)
  exact .sc u (h1 p u hp)
end
end Ab
end Go.Proofs.YtmmdkjanmegjdaaGreat

namespace Go.Proofs.YtmmdkjanmegjdaaGreat.Ab
open Go.RowKit Go.Sort Go.Shelf
theorem zlF {w : World} {Fr : Nat → Prop} {d : Dat} {u : Value} (h : DRel w Fr d u) : u.oneCell' = true := by
 cases h with
 | sc v h => exact h
 | nil => rfl
 | emp a => rfl
 | sl => rfl
 | cut => rfl
def rawE (xs : List Value) (k : Nat) (i : Nat) : List Value := (xs.drop (i * k)).take k
theorem zdo {xs : List Value} {k n : Nat} (h : xs.length = n * k) {i : Nat} (hi : i < n) : (rawE xs k i).length = k := by
 unfold rawE
 rw [List.length_take, List.length_drop, h]
 have : (i + 1) * k ≤ n * k := Nat.mul_le_mul_right k hi
 rw [Nat.add_mul, Nat.one_mul] at this
 omega
theorem zkT {xs : List Value} {k i j : Nat} (hj : j < k) : (rawE xs k i)[j]? = xs[i * k + j]? := by
 unfold rawE
 rw [List.getElem?_take_of_lt hj, List.getElem?_drop]
theorem zjt {xs : List Value} {k : Nat} : ∀ (n : Nat), xs.length = n * k → (List.range n).flatMap (rawE xs k) = xs := fun n => by
 induction n generalizing xs with
 | zero => intro h; simp at h; subst h; rfl
 | succ n ih =>
  intro h
  rw [List.range_succ, List.flatMap_append]
  have h1 : (xs.take (n * k)).length = n * k := by rw [List.length_take, h, Nat.add_mul]; omega
  have h2 := ih h1
  have h3 : (List.range n).flatMap (rawE xs k) = (List.range n).flatMap (rawE (xs.take (n * k)) k) := by
   rw [List.flatMap_def, List.flatMap_def]
   congr 1
   refine List.map_congr_left fun i hi => ?_
   rw [List.mem_range] at hi
   have : (i + 1) * k ≤ n * k := Nat.mul_le_mul_right k hi
   rw [Nat.add_mul, Nat.one_mul] at this
   unfold rawE
   rw [List.drop_take, List.take_take, Nat.min_eq_left (by omega)]
  rw [h3, h2]
  have h4 : rawE xs k n = xs.drop (n * k) := by
   unfold rawE
   rw [List.take_of_length_le (by rw [List.length_drop, h, Nat.add_mul]; omega)]
  simp only [List.flatMap_cons, List.flatMap_nil, List.append_nil]
  rw [h4, List.take_append_drop]
section
variable {β : Type} {k : Nat} {encD : β → List Dat}
theorem zjR (hk : ∀ x, (encD x).length = k) (L : List β) (i j : Nat) (hi : i < L.length) (hj : j < k) : (L.flatMap encD)[i * k + j]? = (encD L[i])[j]? := by
 induction L generalizing i with
 | nil => simp at hi
 | cons x r ih =>
  rw [List.flatMap_cons]
  cases i with
  | zero => rw [Nat.zero_mul, Nat.zero_add, List.getElem?_append_left (by rw [hk]; exact hj)]; rfl
  | succ i =>
   rw [List.getElem?_append_right (by rw [hk, Nat.add_mul, Nat.one_mul]; omega), hk, show (i + 1) * k + j - k = i * k + j by rw [Nat.add_mul, Nat.one_mul]; omega]
   exact ih i (by simpa using hi)
theorem zfJ (hk : ∀ x, (encD x).length = k) : ∀ L : List β, (L.flatMap encD).length = L.length * k
 | [] => by simp
 | x :: r => by rw [List.flatMap_cons, List.length_append, hk, zfJ hk r, List.length_cons, Nat.add_mul, Nat.one_mul]; omega
theorem zhb {ι : Type} {R : Dat → Value → Prop} (a : ι → List Dat) (b : ι → List Value) (ha : ∀ i, (a i).length = k) (hb : ∀ i, (b i).length = k) (h : ∀ (i : ι) (j : Nat) (d : Dat) (u : Value), (a i)[j]? = some d → (b i)[j]? = some u → R d u) :
  ∀ (S : List ι) (t : Nat) (d : Dat) (u : Value), (S.flatMap a)[t]? = some d → (S.flatMap b)[t]? = some u → R d u
 | [], t, d, u, h1, _ => by simp at h1
 | i :: S, t, d, u, h1, h2 => by
  rw [List.flatMap_cons] at h1 h2
  rw [List.getElem?_append] at h1 h2
  rw [ha] at h1
  rw [hb] at h2
  split at h1
  ·rename_i hlt
   rw [if_pos hlt] at h2
   exact h i t d u h1 h2
  ·rename_i hlt
   rw [if_neg hlt] at h2
   exact zhb a b ha hb h S (t - k) d u h1 h2
end
section
variable {P : Program} {ρ : Ren} {β : Type} [Inhabited β]
theorem zhk {α : Type} [Inhabited α] {g : FuncId} {enc : α → List Value} {k : Nat} {cf : α → α → Int} {eA : α → AVal} (hV : ∀ x (W : World), VRel W (fun _ => False) (fun _ => none) (eA x) (.agg (enc x).toArray))
  (HC : ∀ x y, ACall P g [eA x, eA y] [] (Just (.d (.sc (.int .i64 (cf x y)))))) (blk off size : Nat) (w : World) : CmpLays P g #[] enc k cf blk off size w := by
 intro m os dk hs x y
 generalize sortWorldK enc k w blk off m dk os = W
 have H2 := (HC x y).2 (fun r => W.heap.size ≤ r) (fun _ => False) W (fun _ => none) (fun _ => none) (#[.agg (enc x).toArray, .agg (enc y).toArray] ++ #[]) W (HRel.none _ W (fun _ h => h.elim)) ⟨rfl, fun i c u h1 h2 => by
  match i, h1, h2 with
  | 0, h1, h2 => cases h1; cases h2; exact hV x W
  | 1, h1, h2 => cases h1; cases h2; exact hV y W⟩
 refine (Calls.drawn H2).mono ?_
 rintro e w' ⟨⟨u, c, h', ι', rfl, ⟨rfl, rfl⟩, hH, hv⟩, hd⟩
 obtain ⟨rfl, _⟩ := zQ hv
 exact ⟨rfl, zea hH.grewC (hd (by simp))⟩
theorem zgG (L : SlLaysF0.n6 P ρ) {f el : Nat} {k : Nat} (hf : ρ.f 6 = f) (aE : ∀ w, (isAgg (ρ.t 24)).run P w = .ok true w) (zE : ∀ w, (Go.sizeOf (ρ.t 24)).run P w = .ok k w) {α : Type} [Inhabited α]
  {enc : α → List Value} (hk : ∀ x, (enc x).length = k) (h1 : ∀ x, ∀ v ∈ enc x, v.oneCell' = true) {eA : α → AVal} (hV : ∀ x (W : World), VRel W (fun _ => False) (fun _ => none) (eA x) (.agg (enc x).toArray))
  {cf : α → α → Int} (G : Good cf) (hz : ∀ x y, cf x y = 0 → x = y) {g : FuncId} (HC : ∀ x y, ACall P g [eA x, eA y] [] (Just (.d (.sc (.int .i64 (cf x y))))))
  (hnil : ∀ w, Calls P f #[.slice none 0 0, .func (.func g) #[] #[]] w fun e w' => e = .returned (.tuple #[]) ∧ w' = w) (l : List α) (hn : l.length ≤ 2147483648) {base : Nat} {v : Value} {w : World} (hown : w.ownsRow base el k v l.length (l.flatMap enc)) :
  Calls P f #[v, .func (.func g) #[] #[]] w fun e w' => e = .returned (.tuple #[]) ∧ w'.ownsRow base el k v l.length ((srt cf l).flatMap enc) ∧ Wrote w v w' := by
 have hlen : (srt cf l).length = l.length := zbC l
 obtain ⟨h0, ⟨rfl, h3⟩ | ⟨gb, cap, cur, rfl, hb, hg, hcap, hmax, hsz, ht⟩⟩ := hown
 ·have : l = [] := List.eq_nil_of_length_eq_zero h3
  subst this
  refine (hnil w).mono ?_
  rintro e w' ⟨rfl, rfl⟩
  have e0 : srt cf [] = [] := List.eq_nil_of_length_eq_zero hlen
  rw [e0]
  exact ⟨rfl, World.ownsRow_nil _ _ _ _, rfl, rfl, rfl, Nat.le_refl _, fun _ _ _ => rfl⟩
 ·have hH := zc5 enc k hk l hg ht (by rw [hsz]; exact Nat.mul_le_mul_right k hcap)
  refine (hf ▸ AnyQ.slices_SortFunc L k aE zE enc hk h1 cf (zfY G) g #[] gb 0 cap l.toArray w (fun args W => zdk (HC default default).1 args W) (zhk hV HC _ _ _ _) hH (Array.getElem?_eq_some_iff.1 hg).1 (by simp; omega)).mono ?_
  rintro e w' ⟨rfl, d', n, os, hp, hs, rfl⟩
  have e1 : d'.toList = srt cf l := sorted_unique_holds (zfY G) (zkp G hz) l.toArray d' hp hs
  have e2 : d'.size = l.length := by rw [hp.1]; simp
  refine ⟨rfl, ?_, zeC enc k d' rfl⟩
  have := zdq (os := os) (n := n) enc k hk d' hb hg (by rw [e2]; exact hcap) hmax hsz
  rw [e2, e1] at this
  exact this
theorem zmC {α γ : Type} (c : γ → γ → Int) (f : α → γ) (l : List α) : (srt (fun x y => c (f x) (f y)) l).map f = srt c (l.map f) := by
 unfold srt
 exact List.map_mergeSort fun a _ b _ => rfl
theorem sortA (L0 : SlLaysF0.n6 P ρ) {f el : Nat} {k : Nat} (hf : ρ.f 6 = f) (hgo : isGo P f = true) (aE : ∀ w, (isAgg (ρ.t 24)).run P w = .ok true w) (zE : ∀ w, (Go.sizeOf (ρ.t 24)).run P w = .ok k w)
  {encD : β → List Dat} (hkD : ∀ x, (encD x).length = k) {cf : β → β → Int} (G : Good cf) {eT : β → AVal} {g : FuncId} (HC : ∀ x y, ACall P g [eT x, eT y] [] (Just (.d (.sc (.int .i64 (cf x y))))))
  (hT : ∀ (x : β) (vs : List Value), vs.length = k → (∀ (j : Nat) (d : Dat) (u : Value), (encD x)[j]? = some d → vs[j]? = some u → ∃ w Fr, DRel w Fr d u) → ∀ W : World, VRel W (fun _ => False) (fun _ => none) (eT x) (.agg vs.toArray))
  (raw0 : List Value) (hr1 : raw0.length = k) (hr2 : ∀ v ∈ raw0, v.oneCell' = true) (hr3 : ∀ W : World, VRel W (fun _ => False) (fun _ => none) (eT default) (.agg raw0.toArray))
  (hnil : ∀ w, Calls P f #[.slice none 0 0, .func (.func g) #[] #[]] w fun e w' => e = .returned (.tuple #[]) ∧ w' = w) (L : List β) (hn : L.length ≤ 2147483648) (hd : ∀ (i j : Nat) (hi : i < L.length) (hj : j < L.length), cf L[i] L[j] = 0 → i = j) :
  ACall P f [.row 1000, .fn g []] [(1000, .row el k L.length (L.flatMap encD))] (fun c h => c = .tup [] ∧ h = [(1000, .row el k L.length ((srt cf L).flatMap encD))]) := by
 refine ⟨hgo, fun Pm F w0 pin ι us w H HA => ?_⟩
 obtain ⟨v, hv, xs, hown, hxl, hxr⟩ := H.blk 1000 _ rfl
 have hus : us = #[v, .func (.func g) #[] #[]] := by
  have hsz : us.size = 2 := HA.1
  obtain ⟨u0, u1, rfl⟩ : ∃ u0 u1, us = #[u0, u1] := ⟨us[0], us[1], by apply Array.ext <;> simp [hsz]; intro i h1 h2; match i with | 0 => rfl | 1 => rfl | i + 2 => omega⟩
  have h0 := HA.2 0 _ u0 rfl rfl
  have h1 := HA.2 1 _ u1 rfl rfl
  cases h0 with
  | row _ _ _ h3 =>
   cases h1 with
   | fn _ _ C hl _ =>
    have : C = #[] := Array.eq_empty_of_size_eq_zero hl
    rw [h3 v hv, this]
 subst hus
 have hxl2 : xs.length = L.length * k := by rw [hxl, zfJ hkD]
 have hone : ∀ v ∈ xs, v.oneCell' = true := fun u hu => by
  obtain ⟨i, hi, rfl⟩ := List.mem_iff_getElem.1 hu
  exact zlF (hxr i _ xs[i] (List.getElem?_eq_getElem (by rw [← hxl]; exact hi)) (List.getElem?_eq_getElem hi))
 have key : Calls P f #[v, .func (.func g) #[] #[]] w fun e w' => e = .returned (.tuple #[]) ∧ Wrote w v w' ∧ ∃ ys : List Value, w'.ownsRow 0 el k v L.length ys ∧ ys.length = ((srt cf L).flatMap encD).length ∧ ∀ (i : Nat) (d : Dat) (u : Value), ((srt cf L).flatMap encD)[i]? = some d → ys[i]? = some u → DRel w (FreeB F ι) d u := by
  by_cases hn0 : L.length = 0
  ·have hL : L = [] := List.length_eq_zero_iff.1 hn0
   subst hL
   have hx0 : xs = [] := List.length_eq_zero_iff.1 (by simpa using hxl2)
   subst hx0
   have := zgG (α := Unit) L0 hf aE zE (enc := fun _ => raw0) (fun _ => hr1) (fun _ => hr2) (eA := fun _ => eT default) (fun _ W => hr3 W) (cf := fun _ _ => 0) ⟨fun _ _ => rfl, fun _ _ _ _ _ => Int.le_refl 0⟩ (fun _ _ _ => rfl)
    (fun _ _ => by have := HC default default; rw [G.refl] at this; exact this) hnil [] (by simp) (base := 0) (v := v) (w := w) (el := el) hown
   refine this.mono ?_
   rintro e w' ⟨rfl, h1, h2⟩
   have e0 : srt (fun _ _ : Unit => (0 : Int)) [] = [] := List.eq_nil_of_length_eq_zero (zbC _)
   have e1 : srt cf ([] : List β) = [] := List.eq_nil_of_length_eq_zero (zbC _)
   rw [e0] at h1
   rw [e1]
   exact ⟨rfl, h2, [], h1, rfl, fun i d u h3 => by simp at h3⟩
  ·have : Inhabited (Fin L.length) := ⟨⟨0, by omega⟩⟩
   have hraw : ∀ (i : Fin L.length) (j : Nat) (d : Dat) (u : Value), (encD L[i])[j]? = some d → (rawE xs k i)[j]? = some u → DRel w (FreeB F ι) d u := fun i j d u h1 h2 => by
    have hj : j < k := by rw [← hkD L[i]]; exact (List.getElem?_eq_some_iff.1 h1).1
    rw [zkT hj] at h2
    exact hxr (i * k + j) d u (by rw [zjR hkD L i j i.2 hj]; exact h1) h2
   have hfr : (List.finRange L.length).flatMap (fun i : Fin L.length => rawE xs k i.1) = xs := by
    have h1 := zjt L.length hxl2
    have h9 : List.range L.length = (List.finRange L.length).map fun i => i.1 := List.ext_getElem (by simp) (by intro i h1 h2; simp)
    rw [h9, List.flatMap_map] at h1
    exact h1
   have hown2 : w.ownsRow 0 el k v (List.finRange L.length).length ((List.finRange L.length).flatMap fun i : Fin L.length => rawE xs k i.1) := by
    rw [hfr, List.length_finRange]; exact hown
   have h5 := zgG (α := Fin L.length) L0 hf aE zE (enc := fun i => rawE xs k i) (fun i => zdo hxl2 i.2) (fun i u hu => hone u (List.mem_of_mem_drop (List.mem_of_mem_take hu))) (eA := fun i => eT L[i])
    (fun i W => hT L[i] (rawE xs k i) (zdo hxl2 i.2) (fun j d u h1 h2 => ⟨w, _, hraw i j d u h1 h2⟩) W) (cf := fun i j => cf L[i] L[j]) ⟨fun _ _ => G.anti _ _, fun _ _ _ => G.trans _ _ _⟩ (fun i j h => Fin.ext (hd i j i.2 j.2 h))
    (fun i j => HC L[i] L[j]) hnil (List.finRange L.length) (by rw [List.length_finRange]; exact hn) hown2
   refine h5.mono ?_
   rintro e w' ⟨rfl, h1, h2⟩
   have hS : (srt (fun i j : Fin L.length => cf L[i] L[j]) (List.finRange L.length)).map (fun i => L[i]) = srt cf L := by
    rw [zmC cf (fun i : Fin L.length => L[i])]
    congr 1
    apply List.ext_getElem
    ·simp
    ·intro i h1 h2; simp
   generalize srt (fun i j : Fin L.length => cf L[i] L[j]) (List.finRange L.length) = S at h1 hS
   have hSD : (srt cf L).flatMap encD = S.flatMap fun i => encD L[i] := by rw [← hS, List.flatMap_map]
   refine ⟨rfl, h2, S.flatMap fun i : Fin L.length => rawE xs k i.1, by rw [List.length_finRange] at h1; exact h1, ?_, ?_⟩
   ·rw [hSD]
    have l1 : ∀ S : List (Fin L.length), (S.flatMap fun i : Fin L.length => rawE xs k i.1).length = (S.flatMap fun i => encD L[i]).length := fun S => by
     induction S with
     | nil => rfl
     | cons i r ih => rw [List.flatMap_cons, List.flatMap_cons, List.length_append, List.length_append, ih, zdo hxl2 i.2, hkD]
    exact l1 S
   ·rw [hSD]
    exact zhb (fun i : Fin L.length => encD L[i]) (fun i => rawE xs k i) (fun i => hkD _) (fun i => zdo hxl2 i.2) hraw S
 refine key.mono ?_
 rintro x w' ⟨rfl, hW, ys, hown', hyl, hyr⟩
 refine ⟨.tuple #[], .tup [], _, ι, rfl, ⟨rfl, rfl⟩, ?_, .tup _ _ rfl (by simp)⟩
 have hex := hW.ext (F := F) hv
 have HB := H.wrote hW hv (b' := .row el k L.length ((srt cf L).flatMap encD)) ⟨ys, hown', hyl, fun i d u h1 h2 => (hyr i d u h1 h2).ext hex.mem hex.free⟩
 have := HB.only (h' := [(1000, .row el k L.length ((srt cf L).flatMap encD))]) fun id b hb => by
  by_cases hid : 1000 = id
  ·subst hid; exact hb
  ·rw [zc _ _ hid] at hb; cases hb
 have e : Ab.only [(1000, ABlk.row el k L.length ((srt cf L).flatMap encD))] ι = ι := funext fun id => by
  unfold Ab.only
  split
  ·rfl
  ·rename_i hn2
   cases hi : ι id with
   | none => rfl
   | some v' =>
    obtain ⟨b, hb⟩ := H.dom id v' hi
    by_cases hid : 1000 = id
    ·subst hid; exact absurd rfl hn2
    ·rw [zc _ _ hid] at hb; cases hb
 rw [e] at this
 exact this
end
end Go.Proofs.YtmmdkjanmegjdaaGreat.Ab

namespace Go.Proofs.YtmmdkjanmegjdaaGreat
section
open Go.RowKit Go.Sort Go.Lib
theorem insNilT (c : Value) (w : World) : Calls Tryz.prog 72 #[.slice none 0 0, .int .i64 0, .int .i64 0, c] w (RetS w (.tuple #[])) := by
 go_enter Tryz.func72, Tryz.ntmps72
 go_wp2_with fail
 refine wp_loop_rounds 1 ?_
 rw [rounds_succ]; go_wp2_with fail
 go_end0
 exact ⟨rfl, rfl⟩
theorem pdqNilT (c : Value) (w : World) (n : Int) : Calls Tryz.prog 46 #[.slice none 0 0, .int .i64 0, .int .i64 0, .int .i64 n, c] w (RetS w (.tuple #[])) := by
 go_enter Tryz.func46, Tryz.ntmps46
 go_wp2_with fail
 refine wp_loop_rounds 1 ?_
 rw [rounds_succ]; go_wp2_with fail
 refine (insNilT c _).mono ?_
 rintro e w' ⟨rfl, rfl⟩
 go_wp2_with fail
 go_end0
 exact ⟨rfl, rfl⟩
theorem sortNilT (c : Value) (w : World) : Calls Tryz.prog 20 #[.slice none 0 0, c] w (RetS w (.tuple #[])) := by
 have hl := fun W => Any.bits_Len (SlLaysF0.n15.bits (P := _) (ρ := _) { Tryz.sortTaken with }) (0 : Int) W (by omega) (by omega)
 go_enter Tryz.func20, Tryz.ntmps20
 go_wp2_with fail
 refine (hl _).mono ?_
 rintro e w' ⟨rfl, rfl⟩
 go_wp2_with fail
 refine (pdqNilT c _ _).mono ?_
 rintro e w' ⟨rfl, rfl⟩
 go_wp2_with fail
 go_end0
 exact ⟨rfl, rfl⟩
end
instance : Inhabited (Nat × Sbj) := ⟨(0, zeroS)⟩
namespace Ab
open Go.RowKit Go.Lib
attribute [local irreducible] AWp AOps AQ AYield AEff ACall AWk AAny AAt AThen AIn APost NoPanic
def tknD (x : Tkn) : List Dat := iD (x.1 : Int) :: sbjD x.2
def tknT (x : Tkn) : AVal := .agg [.top, .d (uD x.2.p.a), .d (iD x.2.p.b), .top, .top, .top, .top, .top, .top]
theorem zmY (x y : Tkn) : ACall Tryz.prog 21 [tknT x, tknT y] [] (Just (intA (cmpT x y))) := by
 have hc := zpC x.2.p y.2.p
 obtain ⟨c, hcc⟩ : ∃ c, cmpT x y = c := ⟨_, rfl⟩
 have e : cmpP x.2.p y.2.p = c := hcc
 rw [e] at hc
 rw [hcc]
 refine zf za Tryz.func21 rfl Tryz.ntmps21 (congrArg Array.toList Tryz.results21) (by kernel_rfl) rfl ?_
 repeat (first | refine q_Y ?_ | ((first | apply q_K rfl | apply q_X rfl); (exact q_H)) | refine q_U ?_ | refine q_O hc ?_)
 exact zk rfl ⟨rfl, rfl⟩
abbrev tknB (l : List Tkn) : ABlk := .row 52 9 l.length (l.flatMap tknD)
end Ab
end Go.Proofs.YtmmdkjanmegjdaaGreat

namespace Go.Proofs.YtmmdkjanmegjdaaGreat
open Go.RowKit Go.Lib
def comeV {α : Type} (m : List α) (js : List Nat) : List α := js.filterMap fun j => m[j]?
theorem zih {α : Type} (m : List α) (js : List Nat) (j : Nat) (x : α) (h : m[j]? = some x) : comeV m (js ++ [j]) = comeV m js ++ [x] := by
 unfold comeV
 rw [List.filterMap_append]
 congr 1
 simp [h]
theorem zjW {α : Type} (m : List α) (js : List Nat) : (comeV m js).length ≤ js.length := List.length_filterMap_le _ _
theorem zjX {α : Type} (m : List α) (js : List Nat) (hn : js.Nodup) (hl : ∀ j ∈ js, j < m.length) (ha : ∀ j, j < m.length → j ∈ js) : (comeV m js).Perm m := by
 have hp : js.Perm (List.range m.length) := by
  refine (List.perm_ext_iff_of_nodup hn List.nodup_range).2 fun j => ?_
  rw [List.mem_range]
  exact ⟨hl j, ha j⟩
 have h1 := hp.filterMap fun j => m[j]?
 have h2 : (List.range m.length).filterMap (fun j => m[j]?) = m := by
  clear h1 hp ha hl hn
  have : ∀ (m : List α) (k : Nat) (M : List α), (∀ j, M[k + j]? = m[j]?) → (List.range' k m.length).filterMap (fun j => M[j]?) = m := by
   intro m
   induction m with
   | nil => intro k M _; rfl
   | cons p m ih =>
    intro k M hM
    rw [List.length_cons, List.range'_succ, List.filterMap_cons]
    have h0 := hM 0
    simp at h0
    rw [h0]
    simp only
    rw [ih (k + 1) M fun j => by have := hM (j + 1); rw [show k + 1 + j = k + (j + 1) by omega, this]; simp]
  rw [List.range_eq_range']
  exact this m 0 m fun j => by simp
 rw [h2] at h1
 exact h1
theorem ze2 {tk : List (Pfx × Tkn)} (h : Ents tk) : (tk.map (·.2)).Pairwise fun x y => x.2.p ≠ y.2.p := by
 rw [List.pairwise_map]
 have h4 : tk.Pairwise fun a b => a.1 ≠ b.1 := List.pairwise_map.1 h.nd
 exact h4.imp_of_mem fun {a b} ha hb hne => by rw [h.key a ha, h.key b hb]; exact hne
theorem ze9 {L M : List Tkn} (h : L.Perm M) (hM : M.Pairwise fun x y => x.2.p ≠ y.2.p) : L.Pairwise fun x y => x.2.p ≠ y.2.p := h.symm.pairwise hM fun {a b} hne => fun e => hne e.symm
theorem zcy {L : List Tkn} (h : L.Pairwise fun x y => x.2.p ≠ y.2.p) : Rising cmpT (srt cmpT L) := by
 have h1 := zdi zbk L
 have h2 : (srt cmpT L).Pairwise fun x y => x.2.p ≠ y.2.p := (List.mergeSort_perm _ _).symm.pairwise h fun {a b} hne => fun e => hne e.symm
 exact h1.and h2 |>.imp fun {x y} ⟨a, b⟩ => by
  rcases Int.lt_or_eq_of_le a with h | h
  ·exact h
  ·exact absurd (zbK h) b
theorem zjh {L M : List Tkn} (h : L.Perm M) (hM : M.Pairwise fun x y => x.2.p ≠ y.2.p) : srt cmpT L = srt cmpT M :=
 zaY zbk (zcy (ze9 h hM)) (zcy hM) fun x => by rw [zcg, zcg]; exact h.mem_iff
theorem zj5 {L : List Tkn} (h : L.Pairwise fun x y => x.2.p ≠ y.2.p) (i j : Nat) (hi : i < L.length) (hj : j < L.length) (hc : cmpT L[i] L[j] = 0) : i = j := by
 have hp := List.pairwise_iff_getElem.1 h
 have he := zbK hc
 rcases Nat.lt_trichotomy i j with h1 | h1 | h1
 ·exact absurd he (hp i j hi hj h1)
 ·exact h1
 ·exact absurd he.symm (hp j i hj hi h1)
theorem zhe {tk : List (Pfx × Tkn)} (h : Ents tk) {rs : List Rte} (hr : ∀ e ∈ tk, ∃ r ∈ rs, r.p = e.1) : tk.length ≤ rs.length := by
 have := h.nd.length_le_of_subset (l₂ := rs.map (·.p)) fun p hp => by
  obtain ⟨e, he, rfl⟩ := List.mem_map.1 hp
  obtain ⟨r, h1, h2⟩ := hr e he
  exact List.mem_map.2 ⟨r, h1, h2⟩
 simpa using this
def lkM (lk : List Pfx) : List (Pfx × Int) := lk.map fun p => (p, 1)
theorem zdu (lk : List Pfx) : (lkM lk).map (·.1) = lk := by unfold lkM; rw [List.map_map]; exact List.map_id lk
theorem zoP {lk : List Pfx} (hn : lk.Nodup) {p : Pfx} (h : p ∈ lk) : aget (lkM lk) p = some 1 := zaa (by rw [zdu]; exact hn) (List.mem_map.2 ⟨p, h, rfl⟩)
theorem zm8 {lk : List Pfx} {p : Pfx} (h : p ∉ lk) : aget (lkM lk) p = none := by
 cases hg : aget (lkM lk) p with
 | none => rfl
 | some v =>
  have := z8 hg
  obtain ⟨q, hq, he⟩ := List.mem_map.1 this
  cases he
  exact absurd hq h
theorem zle (lk : List Pfx) (p : Pfx) : lkM (lk ++ [p]) = lkM lk ++ [(p, 1)] := by unfold lkM; rw [List.map_append]; rfl
end Go.Proofs.YtmmdkjanmegjdaaGreat

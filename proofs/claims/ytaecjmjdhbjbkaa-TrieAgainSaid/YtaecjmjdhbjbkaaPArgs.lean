/-
  Prefixes as arguments.
-/
import Derived.Test.YtaecjmjdhbjbkaaAbsPfx
import Derived.Test.YtaecjmjdhbjbkaaPRows
import Derived.Test.YtaecjmjdhbjbkaaFrame
import Derived.Deep.Slices
namespace Go.Proofs.Ytaecjmjdhbjbkaa
open Go.ChangeShapes Go.WideShapes Go.ChangeAt Go.RowKit
set_option linter.unusedVariables false
set_option maxRecDepth 100000

theorem slice_spot {P : Program} {w : World} {r : Reach} {base : Nat} {t e : TypeId} {a : Addr} {n cap : Nat} (ht : P.underlying t = some (.slice e)) (h : Value.okWide P w r base t (.slice (some a) n cap)) : a.spot = none := by
  simp only [Value.okWide, ht, Cell.okWide] at h
  simp_all [Cell.ok, World.has]

theorem pcs_sc2 (l : List Pfx) : l.flatMap Ab.pfxD = (pcs l).map Ab.Dat.sc := by
  unfold pcs
  rw [List.map_flatMap]
  rfl
theorem drel_pfxs {W : World} {Fr : Nat → Prop} {l : List Pfx} {b o cap : Nat} (hn : l.length ≤ cap) (hf : Fr b) (hc : ∀ (j : Nat) (u : Value), (pcs l)[j]? = some u → W.cell? ⟨b, o + j, none⟩ = some u) :
    Ab.DRel W Fr (.sl (l.flatMap Ab.pfxD) l.length) (.slice (some ⟨b, o, none⟩) l.length cap) := by
  refine .sl _ _ b o cap (pcs l) hn (by rw [pcs_sc2]; simp) (fun _ => hf) hc fun i c u h3 h4 => ?_
  rw [pcs_sc2, List.getElem?_map, h4] at h3
  cases h3
  refine .sc u ?_
  have := List.mem_of_getElem? h4
  simp only [pcs, List.mem_flatMap] at this
  obtain ⟨p, _, hm⟩ := this
  simp at hm
  rcases hm with rfl | rfl <;> rfl

theorem cells_Pfx : Try.prog.cellsOf 26 = 2 := by kernel_rfl
theorem cells_u32p : Try.prog.cellsOf 24 = 1 := by kernel_rfl
theorem cells_i64p : Try.prog.cellsOf 3 = 1 := by kernel_rfl
/-- A slice of prefixes that can be read. -/
theorem pfxs_read {H : Type} {enc : TypeId × Value → H} {W : World} {v : Value} {d : DataW H} {p : List MemPlace} (hv : ∃ base, Value.okWide Try.prog W .any base 22 v) (h : DataW.Trod enc Try.prog W 0 (fun _ => true) true 22 v d p) {Fr : Nat → Prop} (hF : ∀ b, Fr b) :
    ∃ l : List Pfx, (∀ p ∈ l, p.ok) ∧ Ab.DRel W Fr (.sl (l.flatMap Ab.pfxD) l.length) v := by
  obtain ⟨base, hv⟩ := hv
  obtain ⟨ao, n, cap, rfl⟩ := okWide_slice Try.underlying22 hv
  obtain ⟨fuel, hf⟩ := h
  rcases Go.Deep.open_slice Try.underlying22 hf with ⟨h1, _⟩ | ⟨a, len, cap', m, fl, D, Pl, h1, _, hle, _, hm, _, hel⟩
  · simp [Value.cells] at h1
    obtain ⟨rfl, rfl, rfl⟩ := h1
    exact ⟨[], by simp, .nil⟩
  · simp [Value.cells] at h1
    obtain ⟨rfl, rfl, rfl⟩ := h1
    have hsp := slice_spot Try.underlying22 hv
    obtain ⟨b, o, s⟩ := a
    dsimp only at hsp
    subst hsp
    have key : ∀ k, k ≤ n → ∃ l : List Pfx, l.length = k ∧ (∀ p ∈ l, p.ok) ∧ ∀ (j : Nat) (u : Value), (pcs l)[j]? = some u → W.cell? ⟨b, o + j, none⟩ = some u := by
      intro k
      induction k with
      | zero => exact fun _ => ⟨[], rfl, by simp, fun j u h => by simp [pcs] at h⟩
      | succ k ih =>
        intro hk
        obtain ⟨l, h2, h3, h4⟩ := ih (by omega)
        obtain ⟨cs', h5, h6⟩ := hel k (by rw [hm]; simp; omega)
        rw [cells_Pfx] at h5
        obtain ⟨_, h7, h8⟩ := World.cells?_some h5
        obtain ⟨_, fl2, hfs⟩ := trod_fields Try.underlying26 h6
        match cs', h7 with
        | [x, y], _ =>
          obtain ⟨y0, g0⟩ := hfs _ (List.mem_of_getElem? (i := 0) rfl)
          obtain ⟨y1, g1⟩ := hfs _ (List.mem_of_getElem? (i := 1) rfl)
          dsimp only at g0 g1
          rw [cells_u32p] at g0
          rw [cells_i64p] at g1
          obtain ⟨pa, e0, _, w0⟩ := DataW.trod_int Try.underlying24 g0
          obtain ⟨pb, e1, _, w1⟩ := DataW.trod_int Try.underlying3 g1
          simp at e0 e1
          subst e0 e1
          have b0 := int_bounds w0
          have b1 := int_bounds w1
          simp [IntKind.min, IntKind.max, IntKind.signed, IntKind.bits] at b0 b1
          refine ⟨l ++ [⟨pa, pb⟩], by simp [h2], ?_, ?_⟩
          · intro p hp
            rcases List.mem_append.1 hp with hp | hp
            · exact h3 p hp
            · simp at hp
              subst hp
              exact ⟨b0.1, by show pa < 4294967296; omega, by show -9223372036854775808 ≤ pb; omega, by show pb < _; omega⟩
          · intro j u hj
            rw [pcs_append, List.getElem?_append] at hj
            split at hj
            · exact h4 j u hj
            · rename_i hge
              have hpl : (pcs l).length = k * 2 := by rw [pcs_length, h2]
              rw [hpl] at hj hge
              have hj2 : j - k * 2 < 2 := by
                have := (List.getElem?_eq_some_iff.1 hj).1
                simpa [pcs] using this
              have h9 := h8 (j - k * 2) hj2
              have : (Addr.add (Addr.add ⟨b, o, none⟩ (k * 2)) (j - k * 2)) = ⟨b, o + j, none⟩ := by
                rw [Addr.add_mid, Addr.add_mid, show o + k * 2 + (j - k * 2) = o + j by omega]
              rw [this] at h9
              rw [h9]
              rcases (by omega : j - k * 2 = 0 ∨ j - k * 2 = 1) with h10 | h10 <;> rw [h10] at hj ⊢ <;> simpa [pcs] using hj
    obtain ⟨l, h2, h3, h4⟩ := key n (Nat.le_refl _)
    refine ⟨l, h3, ?_⟩
    rw [← h2]
    exact drel_pfxs (by omega) (hF b) h4

/-- A prefix that can be read. -/
theorem pfx_read {H : Type} {enc : TypeId × Value → H} {W : World} {v : Value} {d : DataW H} {p : List MemPlace} (hv : ∃ base, Value.okWide Try.prog W .any base 26 v) (h : DataW.Trod enc Try.prog W 0 (fun _ => true) true 26 v d p) :
    ∃ q : Pfx, q.ok ∧ v = Value.agg #[.int .u32 q.a, .int .i64 q.b] := by
  obtain ⟨base, hv⟩ := hv
  obtain ⟨cs, rfl, hsz⟩ := okWide_struct Try.underlying26 hv
  rw [cells_Pfx] at hsz
  obtain ⟨fuel, h6⟩ := h
  obtain ⟨_, fl2, hfs⟩ := trod_fields Try.underlying26 h6
  obtain ⟨x, y, rfl⟩ : ∃ x y, cs = #[x, y] := ⟨cs[0], cs[1], by apply Array.ext <;> simp [hsz]; intro i h1 h2; match i with | 0 => rfl | 1 => rfl | i + 2 => omega⟩
  obtain ⟨y0, g0⟩ := hfs _ (List.mem_of_getElem? (i := 0) rfl)
  obtain ⟨y1, g1⟩ := hfs _ (List.mem_of_getElem? (i := 1) rfl)
  dsimp only at g0 g1
  rw [cells_u32p] at g0
  rw [cells_i64p] at g1
  obtain ⟨pa, e0, _, w0⟩ := DataW.trod_int Try.underlying24 g0
  obtain ⟨pb, e1, _, w1⟩ := DataW.trod_int Try.underlying3 g1
  simp [Value.cells] at e0 e1
  subst e0 e1
  have b0 := int_bounds w0
  have b1 := int_bounds w1
  simp [IntKind.min, IntKind.max, IntKind.signed, IntKind.bits] at b0 b1
  exact ⟨⟨pa, pb⟩, ⟨b0.1, by show pa < 4294967296; omega, by show -9223372036854775808 ≤ pb; omega, by show pb < _; omega⟩, rfl⟩
end Go.Proofs.Ytaecjmjdhbjbkaa

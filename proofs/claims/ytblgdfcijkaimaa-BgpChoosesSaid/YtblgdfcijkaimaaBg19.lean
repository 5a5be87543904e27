/-
  Texts of a proof, one behind the other (part 20).
-/
import Derived.Test.YtblgdfcijkaimaaBg4
import Derived.Test.YtblgdfcijkaimaaBg11
import Derived.Test.YtblgdfcijkaimaaBg13
import Derived.Test.YtblgdfcijkaimaaBg18
set_option linter.unusedVariables false
set_option linter.unusedSimpArgs false
namespace Go.Proofs.Ytblgdfcijkaimaa.Ab
set_option linter.unusedVariables false
set_option maxRecDepth 100000
open Go.RowKit Go.Sort Go.Shelf
theorem drel_one {w : World} {Fr : Nat → Prop} {d : Dat} {u : Value} (h : DRel w Fr d u) : u.oneCell' = true := by
  cases h with
  | sc v h => exact h
  | nil => rfl
  | emp a => rfl
  | sl => rfl
  | cut => rfl
def rawE (xs : List Value) (k : Nat) (i : Nat) : List Value := (xs.drop (i * k)).take k
theorem rawE_len {xs : List Value} {k n : Nat} (h : xs.length = n * k) {i : Nat} (hi : i < n) : (rawE xs k i).length = k := by
  unfold rawE
  rw [List.length_take, List.length_drop, h]
  have : (i + 1) * k ≤ n * k := Nat.mul_le_mul_right k hi
  rw [Nat.add_mul, Nat.one_mul] at this
  omega
theorem rawE_get {xs : List Value} {k i j : Nat} (hj : j < k) : (rawE xs k i)[j]? = xs[i * k + j]? := by
  unfold rawE
  rw [List.getElem?_take_of_lt hj, List.getElem?_drop]
theorem rawE_flat {xs : List Value} {k : Nat} : ∀ (n : Nat), xs.length = n * k → (List.range n).flatMap (rawE xs k) = xs := fun n => by
  induction n generalizing xs with
  | zero => intro h; simp at h; subst h; rfl
  | succ n ih =>
    intro h
    rw [List.range_succ, List.flatMap_append]
    have h1 : (xs.take (n * k)).length = n * k := by rw [List.length_take, h, Nat.add_mul]; omega
    have h2 := ih h1
    have h3 : (List.range n).flatMap (rawE xs k) = (List.range n).flatMap (rawE (xs.take (n * k)) k) := by
      rw [List.flatMap_def, List.flatMap_def]
      congr 1
      refine List.map_congr_left fun i hi => ?_
      rw [List.mem_range] at hi
      have : (i + 1) * k ≤ n * k := Nat.mul_le_mul_right k hi
      rw [Nat.add_mul, Nat.one_mul] at this
      unfold rawE
      rw [List.drop_take, List.take_take, Nat.min_eq_left (by omega)]
    rw [h3, h2]
    have h4 : rawE xs k n = xs.drop (n * k) := by
      unfold rawE
      rw [List.take_of_length_le (by rw [List.length_drop, h, Nat.add_mul]; omega)]
    simp only [List.flatMap_cons, List.flatMap_nil, List.append_nil]
    rw [h4, List.take_append_drop]
section
variable {β : Type} {k : Nat} {encD : β → List Dat}
theorem flatD_get (hk : ∀ x, (encD x).length = k) (L : List β) (i j : Nat) (hi : i < L.length) (hj : j < k) : (L.flatMap encD)[i * k + j]? = (encD L[i])[j]? := by
  induction L generalizing i with
  | nil => simp at hi
  | cons x r ih =>
    rw [List.flatMap_cons]
    cases i with
    | zero => rw [Nat.zero_mul, Nat.zero_add, List.getElem?_append_left (by rw [hk]; exact hj)]; rfl
    | succ i =>
      rw [List.getElem?_append_right (by rw [hk, Nat.add_mul, Nat.one_mul]; omega), hk, show (i + 1) * k + j - k = i * k + j by rw [Nat.add_mul, Nat.one_mul]; omega]
      exact ih i (by simpa using hi)
theorem flatD_len (hk : ∀ x, (encD x).length = k) : ∀ L : List β, (L.flatMap encD).length = L.length * k
  | [] => by simp
  | x :: r => by rw [List.flatMap_cons, List.length_append, hk, flatD_len hk r, List.length_cons, Nat.add_mul, Nat.one_mul]; omega
theorem flat_rel {ι : Type} {R : Dat → Value → Prop} (a : ι → List Dat) (b : ι → List Value) (ha : ∀ i, (a i).length = k) (hb : ∀ i, (b i).length = k) (h : ∀ (i : ι) (j : Nat) (d : Dat) (u : Value), (a i)[j]? = some d → (b i)[j]? = some u → R d u) :
    ∀ (S : List ι) (t : Nat) (d : Dat) (u : Value), (S.flatMap a)[t]? = some d → (S.flatMap b)[t]? = some u → R d u
  | [], t, d, u, h1, _ => by simp at h1
  | i :: S, t, d, u, h1, h2 => by
    rw [List.flatMap_cons] at h1 h2
    rw [List.getElem?_append] at h1 h2
    rw [ha] at h1
    rw [hb] at h2
    split at h1
    · rename_i hlt
      rw [if_pos hlt] at h2
      exact h i t d u h1 h2
    · rename_i hlt
      rw [if_neg hlt] at h2
      exact flat_rel a b ha hb h S (t - k) d u h1 h2
end
section
variable {P : Program} {ρ : Ren} {β : Type} [Inhabited β]
theorem cmpLays_ofT {α : Type} [Inhabited α] {g : FuncId} {enc : α → List Value} {k : Nat} {cf : α → α → Int} {eA : α → AVal} (hV : ∀ x (W : World), VRel W (fun _ => False) (fun _ => none) (eA x) (.agg (enc x).toArray))
    (HC : ∀ x y, ACall P g [eA x, eA y] [] (Just (.d (.sc (.int .i64 (cf x y)))))) (blk off size : Nat) (w : World) : CmpLays P g #[] enc k cf blk off size w := by
  intro m os dk hs x y
  generalize sortWorldK enc k w blk off m dk os = W
  have H2 := (HC x y).2 (fun r => W.heap.size ≤ r) (fun _ => False) W (fun _ => none) (fun _ => none) (#[.agg (enc x).toArray, .agg (enc y).toArray] ++ #[]) W (HRel.none _ W (fun _ h => h.elim)) ⟨rfl, fun i c u h1 h2 => by
    match i, h1, h2 with
    | 0, h1, h2 => cases h1; cases h2; exact hV x W
    | 1, h1, h2 => cases h1; cases h2; exact hV y W⟩
  refine (Calls.drawn H2).mono ?_
  rintro e w' ⟨⟨u, c, h', ι', rfl, ⟨rfl, rfl⟩, hH, hv⟩, hd⟩
  obtain ⟨rfl, _⟩ := sc_of hv
  exact ⟨rfl, world_grown hH.grewC (hd (by simp))⟩
theorem sort_key (L : SlLaysF0.n6 P ρ) {f el : Nat} {k : Nat} (hf : ρ.f 6 = f) (aE : ∀ w, (isAgg (ρ.t 24)).run P w = .ok true w) (zE : ∀ w, (Go.sizeOf (ρ.t 24)).run P w = .ok k w) {α : Type} [Inhabited α]
    {enc : α → List Value} (hk : ∀ x, (enc x).length = k) (h1 : ∀ x, ∀ v ∈ enc x, v.oneCell' = true) {eA : α → AVal} (hV : ∀ x (W : World), VRel W (fun _ => False) (fun _ => none) (eA x) (.agg (enc x).toArray))
    {cf : α → α → Int} (G : Good cf) (hz : ∀ x y, cf x y = 0 → x = y) {g : FuncId} (HC : ∀ x y, ACall P g [eA x, eA y] [] (Just (.d (.sc (.int .i64 (cf x y))))))
    (hnil : ∀ w, Calls P f #[.slice none 0 0, .func (.func g) #[] #[]] w fun e w' => e = .returned (.tuple #[]) ∧ w' = w) (l : List α) (hn : l.length ≤ 2147483648) {base : Nat} {v : Value} {w : World} (hown : w.ownsRow base el k v l.length (l.flatMap enc)) :
    Calls P f #[v, .func (.func g) #[] #[]] w fun e w' => e = .returned (.tuple #[]) ∧ w'.ownsRow base el k v l.length ((srt cf l).flatMap enc) ∧ Wrote w v w' := by
  have hlen : (srt cf l).length = l.length := srt_len l
  obtain ⟨h0, ⟨rfl, h3⟩ | ⟨gb, cap, cur, rfl, hb, hg, hcap, hmax, hsz, ht⟩⟩ := hown
  · have : l = [] := List.eq_nil_of_length_eq_zero h3
    subst this
    refine (hnil w).mono ?_
    rintro e w' ⟨rfl, rfl⟩
    have e0 : srt cf [] = [] := List.eq_nil_of_length_eq_zero hlen
    rw [e0]
    exact ⟨rfl, World.ownsRow_nil _ _ _ _, rfl, rfl, rfl, Nat.le_refl _, fun _ _ _ => rfl⟩
  · have hH := holds_of_owns enc k hk l hg ht (by rw [hsz]; exact Nat.mul_le_mul_right k hcap)
    refine (hf ▸ AnyQ.slices_SortFunc L k aE zE enc hk h1 cf (swo_of G) g #[] gb 0 cap l.toArray w (fun args W => run_isGo (HC default default).1 args W) (cmpLays_ofT hV HC _ _ _ _) hH (Array.getElem?_eq_some_iff.1 hg).1 (by simp; omega)).mono ?_
    rintro e w' ⟨rfl, d', n, os, hp, hs, rfl⟩
    have e1 : d'.toList = srt cf l := sorted_unique_holds (swo_of G) (tot_of G hz) l.toArray d' hp hs
    have e2 : d'.size = l.length := by rw [hp.1]; simp
    refine ⟨rfl, ?_, wrote_sort enc k d' rfl⟩
    have := owns_of_sort (os := os) (n := n) enc k hk d' hb hg (by rw [e2]; exact hcap) hmax hsz
    rw [e2, e1] at this
    exact this
theorem srt_map {α γ : Type} (c : γ → γ → Int) (f : α → γ) (l : List α) : (srt (fun x y => c (f x) (f y)) l).map f = srt c (l.map f) := by
  unfold srt
  exact List.map_mergeSort fun a _ b _ => rfl
theorem sortA (L0 : SlLaysF0.n6 P ρ) {f el : Nat} {k : Nat} (hf : ρ.f 6 = f) (hgo : isGo P f = true) (aE : ∀ w, (isAgg (ρ.t 24)).run P w = .ok true w) (zE : ∀ w, (Go.sizeOf (ρ.t 24)).run P w = .ok k w)
    {encD : β → List Dat} (hkD : ∀ x, (encD x).length = k) {cf : β → β → Int} (G : Good cf) {eT : β → AVal} {g : FuncId} (HC : ∀ x y, ACall P g [eT x, eT y] [] (Just (.d (.sc (.int .i64 (cf x y))))))
    (hT : ∀ (x : β) (vs : List Value), vs.length = k → (∀ (j : Nat) (d : Dat) (u : Value), (encD x)[j]? = some d → vs[j]? = some u → ∃ w Fr, DRel w Fr d u) → ∀ W : World, VRel W (fun _ => False) (fun _ => none) (eT x) (.agg vs.toArray))
    (raw0 : List Value) (hr1 : raw0.length = k) (hr2 : ∀ v ∈ raw0, v.oneCell' = true) (hr3 : ∀ W : World, VRel W (fun _ => False) (fun _ => none) (eT default) (.agg raw0.toArray))
    (hnil : ∀ w, Calls P f #[.slice none 0 0, .func (.func g) #[] #[]] w fun e w' => e = .returned (.tuple #[]) ∧ w' = w) (L : List β) (hn : L.length ≤ 2147483648) (hd : ∀ (i j : Nat) (hi : i < L.length) (hj : j < L.length), cf L[i] L[j] = 0 → i = j) :
    ACall P f [.row 1000, .fn g []] [(1000, .row el k L.length (L.flatMap encD))] (fun c h => c = .tup [] ∧ h = [(1000, .row el k L.length ((srt cf L).flatMap encD))]) := by
  refine ⟨hgo, fun Pm F w0 pin ι us w H HA => ?_⟩
  obtain ⟨v, hv, xs, hown, hxl, hxr⟩ := H.blk 1000 _ rfl
  have hus : us = #[v, .func (.func g) #[] #[]] := by
    have hsz : us.size = 2 := HA.1
    obtain ⟨u0, u1, rfl⟩ : ∃ u0 u1, us = #[u0, u1] := ⟨us[0], us[1], by apply Array.ext <;> simp [hsz]; intro i h1 h2; match i with | 0 => rfl | 1 => rfl | i + 2 => omega⟩
    have h0 := HA.2 0 _ u0 rfl rfl
    have h1 := HA.2 1 _ u1 rfl rfl
    cases h0 with
    | row _ _ _ h3 =>
      cases h1 with
      | fn _ _ C hl _ =>
        have : C = #[] := Array.eq_empty_of_size_eq_zero hl
        rw [h3 v hv, this]
  subst hus
  have hxl2 : xs.length = L.length * k := by rw [hxl, flatD_len hkD]
  have hone : ∀ v ∈ xs, v.oneCell' = true := fun u hu => by
    obtain ⟨i, hi, rfl⟩ := List.mem_iff_getElem.1 hu
    exact drel_one (hxr i _ xs[i] (List.getElem?_eq_getElem (by rw [← hxl]; exact hi)) (List.getElem?_eq_getElem hi))
  have key : Calls P f #[v, .func (.func g) #[] #[]] w fun e w' => e = .returned (.tuple #[]) ∧ Wrote w v w' ∧ ∃ ys : List Value, w'.ownsRow 0 el k v L.length ys ∧ ys.length = ((srt cf L).flatMap encD).length ∧ ∀ (i : Nat) (d : Dat) (u : Value), ((srt cf L).flatMap encD)[i]? = some d → ys[i]? = some u → DRel w (FreeB F ι) d u := by
    by_cases hn0 : L.length = 0
    · have hL : L = [] := List.length_eq_zero_iff.1 hn0
      subst hL
      have hx0 : xs = [] := List.length_eq_zero_iff.1 (by simpa using hxl2)
      subst hx0
      have := sort_key (α := Unit) L0 hf aE zE (enc := fun _ => raw0) (fun _ => hr1) (fun _ => hr2) (eA := fun _ => eT default) (fun _ W => hr3 W) (cf := fun _ _ => 0) ⟨fun _ _ => rfl, fun _ _ _ _ _ => Int.le_refl 0⟩ (fun _ _ _ => rfl)
        (fun _ _ => by have := HC default default; rw [G.refl] at this; exact this) hnil [] (by simp) (base := 0) (v := v) (w := w) (el := el) hown
      refine this.mono ?_
      rintro e w' ⟨rfl, h1, h2⟩
      have e0 : srt (fun _ _ : Unit => (0 : Int)) [] = [] := List.eq_nil_of_length_eq_zero (srt_len _)
      have e1 : srt cf ([] : List β) = [] := List.eq_nil_of_length_eq_zero (srt_len _)
      rw [e0] at h1
      rw [e1]
      exact ⟨rfl, h2, [], h1, rfl, fun i d u h3 => by simp at h3⟩
    · have : Inhabited (Fin L.length) := ⟨⟨0, by omega⟩⟩
      have hraw : ∀ (i : Fin L.length) (j : Nat) (d : Dat) (u : Value), (encD L[i])[j]? = some d → (rawE xs k i)[j]? = some u → DRel w (FreeB F ι) d u := fun i j d u h1 h2 => by
        have hj : j < k := by rw [← hkD L[i]]; exact (List.getElem?_eq_some_iff.1 h1).1
        rw [rawE_get hj] at h2
        exact hxr (i * k + j) d u (by rw [flatD_get hkD L i j i.2 hj]; exact h1) h2
      have hfr : (List.finRange L.length).flatMap (fun i : Fin L.length => rawE xs k i.1) = xs := by
        have h1 := rawE_flat L.length hxl2
        have h9 : List.range L.length = (List.finRange L.length).map fun i => i.1 := List.ext_getElem (by simp) (by intro i h1 h2; simp)
        rw [h9, List.flatMap_map] at h1
        exact h1
      have hown2 : w.ownsRow 0 el k v (List.finRange L.length).length ((List.finRange L.length).flatMap fun i : Fin L.length => rawE xs k i.1) := by
        rw [hfr, List.length_finRange]; exact hown
      have h5 := sort_key (α := Fin L.length) L0 hf aE zE (enc := fun i => rawE xs k i) (fun i => rawE_len hxl2 i.2) (fun i u hu => hone u (List.mem_of_mem_drop (List.mem_of_mem_take hu))) (eA := fun i => eT L[i])
        (fun i W => hT L[i] (rawE xs k i) (rawE_len hxl2 i.2) (fun j d u h1 h2 => ⟨w, _, hraw i j d u h1 h2⟩) W) (cf := fun i j => cf L[i] L[j]) ⟨fun _ _ => G.anti _ _, fun _ _ _ => G.trans _ _ _⟩ (fun i j h => Fin.ext (hd i j i.2 j.2 h))
        (fun i j => HC L[i] L[j]) hnil (List.finRange L.length) (by rw [List.length_finRange]; exact hn) hown2
      refine h5.mono ?_
      rintro e w' ⟨rfl, h1, h2⟩
      have hS : (srt (fun i j : Fin L.length => cf L[i] L[j]) (List.finRange L.length)).map (fun i => L[i]) = srt cf L := by
        rw [srt_map cf (fun i : Fin L.length => L[i])]
        congr 1
        apply List.ext_getElem
        · simp
        · intro i h1 h2; simp
      generalize srt (fun i j : Fin L.length => cf L[i] L[j]) (List.finRange L.length) = S at h1 hS
      have hSD : (srt cf L).flatMap encD = S.flatMap fun i => encD L[i] := by rw [← hS, List.flatMap_map]
      refine ⟨rfl, h2, S.flatMap fun i : Fin L.length => rawE xs k i.1, by rw [List.length_finRange] at h1; exact h1, ?_, ?_⟩
      · rw [hSD]
        have l1 : ∀ S : List (Fin L.length), (S.flatMap fun i : Fin L.length => rawE xs k i.1).length = (S.flatMap fun i => encD L[i]).length := fun S => by
          induction S with
          | nil => rfl
          | cons i r ih => rw [List.flatMap_cons, List.flatMap_cons, List.length_append, List.length_append, ih, rawE_len hxl2 i.2, hkD]
        exact l1 S
      · rw [hSD]
        exact flat_rel (fun i : Fin L.length => encD L[i]) (fun i => rawE xs k i) (fun i => hkD _) (fun i => rawE_len hxl2 i.2) hraw S
  refine key.mono ?_
  rintro x w' ⟨rfl, hW, ys, hown', hyl, hyr⟩
  refine ⟨.tuple #[], .tup [], _, ι, rfl, ⟨rfl, rfl⟩, ?_, .tup _ _ rfl (by simp)⟩
  have hex := hW.ext (F := F) hv
  have HB := H.wrote hW hv (b' := .row el k L.length ((srt cf L).flatMap encD)) ⟨ys, hown', hyl, fun i d u h1 h2 => (hyr i d u h1 h2).ext hex.mem hex.free⟩
  have := HB.only (h' := [(1000, .row el k L.length ((srt cf L).flatMap encD))]) fun id b hb => by
    by_cases hid : 1000 = id
    · subst hid; exact hb
    · rw [look_cons_ne _ _ hid] at hb; cases hb
  have e : Ab.only [(1000, ABlk.row el k L.length ((srt cf L).flatMap encD))] ι = ι := funext fun id => by
    unfold Ab.only
    split
    · rfl
    · rename_i hn2
      cases hi : ι id with
      | none => rfl
      | some v' =>
        obtain ⟨b, hb⟩ := H.dom id v' hi
        by_cases hid : 1000 = id
        · subst hid; exact absurd rfl hn2
        · rw [look_cons_ne _ _ hid] at hb; cases hb
  rw [e] at this
  exact this
end
end Go.Proofs.Ytblgdfcijkaimaa.Ab

namespace Go.Proofs.Ytblgdfcijkaimaa.Ab
set_option linter.unusedVariables false
set_option linter.unusedSimpArgs false
set_option maxRecDepth 100000
open Go.RowKit

def pfxV (p : Pfx) : Value := .agg #[.int .u32 p.a, .int .i64 p.b]
theorem pfxA_val (p : Pfx) : valA (pfxA p) = some (pfxV p) := rfl
theorem pfxA_rel (p : Pfx) (w : World) (F : Nat → Prop) (ι : Nat → Option Value) : VRel w F ι (pfxA p) (pfxV p) := val_mk _ _ _ _ _ rfl rfl
theorem chk_int (b : Bool) (n : Nat) (t : TypeId) (q : IntKind) (x : Int) (w : World) (ht : Try.prog.underlying t = some (.int q)) : (Instr.checkKey b (n + 1) t (.int q x)).run Try.prog w = .ok () w := by
  unfold Instr.checkKey
  simp [run_underlying ht]
theorem part_u32 (p : Pfx) (w : World) : (part 28 #[.int .u32 p.a, .int .i64 p.b] 0).run Try.prog w = .ok (.int .u32 p.a) w := by
  have h : tlook tab 28 = some _ := rfl
  unfold part
  simp [(tabOk _ _ h).run_agg]
theorem part_i64 (p : Pfx) (w : World) : (part 3 #[.int .u32 p.a, .int .i64 p.b] 1).run Try.prog w = .ok (.int .i64 p.b) w := by
  have h : tlook tab 3 = some _ := rfl
  unfold part
  simp [(tabOk _ _ h).run_agg]
theorem chk_pfx (b : Bool) (k : Pfx) (w : World) (n : Nat) : (Instr.checkKey b (n + 2) 30 (pfxV k)).run Try.prog w = .ok () w := by
  unfold Instr.checkKey
  simp [pfxV, run_underlying Try.underlying30, part_u32, part_i64, chk_int b n _ _ _ _ Try.underlying28, chk_int b n _ _ _ _ Try.underlying3]
theorem pfxKey : KeyLaw Try.prog 30 pfxV (fun _ => True) := by
  refine KeyLaw.of_agg Try.underlying30 (fun k => ⟨_, rfl⟩) ?_ ?_ ?_
  · intro b k w _
    exact chk_pfx b k w 9998
  · intro a b w _ _
    have h := run_eqLeafs tabOk noStand 8 30 _ [.int .u32 a.a, .int .i64 a.b] [.int .u32 b.a, .int .i64 b.b] _ 9999 _ w rfl rfl rfl rfl (pfxEq a b) (by omega)
    have e : (a == b) = decide (a = b) := by rw [Bool.eq_iff_iff]; simp
    rw [e] at h
    exact h
  · intro a _
    simp [Instr.sameBits, pfxV]
end Go.Proofs.Ytblgdfcijkaimaa.Ab

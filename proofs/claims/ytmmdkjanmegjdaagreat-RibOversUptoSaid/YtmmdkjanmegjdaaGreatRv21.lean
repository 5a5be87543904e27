/-
 Texts of a proof, one behind the other (part 22).
-/
import Derived.Test.YtmmdkjanmegjdaaGreatRv2
import Derived.Test.YtmmdkjanmegjdaaGreatRv4
import Derived.Test.YtmmdkjanmegjdaaGreatRv17
import Derived.Test.YtmmdkjanmegjdaaGreatRv20
set_option linter.unusedSimpArgs false
set_option linter.unusedVariables false
namespace Go.Proofs.YtmmdkjanmegjdaaGreat
set_option maxRecDepth 100000
open Go.RowKit Go.Lib Go.Shelf
def cI (x y : Int) : Int := x - y
theorem znf : Good cI := ⟨fun x y => by unfold cI; omega, fun x y z h1 h2 => by unfold cI at *; omega⟩
theorem znx (x y : Int) (h : cI x y = 0) : x = y := by unfold cI at h; omega
def nrm (l : List Int) : List Int := sortU cI l
theorem zoO (l : List Int) : dedA (l.mergeSort fun x y => decide (x ≤ y)) = nrm l := by
 unfold nrm sortU srt
 congr 2
 funext x y
 unfold cI
 rw [Bool.eq_iff_iff]; simp only [decide_eq_true_eq, Bool.not_eq_true', decide_eq_false_iff_not]; omega
theorem zga (l : List Int) : (nrm l).length ≤ l.length := zbi l
theorem zm3 (l : List Int) (x : Int) : x ∈ nrm l ↔ x ∈ l := zay l x
namespace Ab
theorem zfV (l : List Int) : (l.flatMap u1D).length = l.length := by rw [zM zV, Nat.mul_one]
theorem zn6 (l : List Int) : uR l.toArray = uB l := by
 unfold uR uB
 rw [List.size_toArray]
 congr 1
 induction l with
 | nil => rfl
 | cons x r ih => simp only [List.toList_toArray, List.map_cons, List.flatMap_cons] at ih ⊢; rw [ih]; rfl
theorem zla (l : List Int) : uR (Go.Sort.sort Go.Sort.ltInt l.toArray) = uB (l.mergeSort fun x y => decide (x ≤ y)) := by
 rw [← zn6, ← Go.Sort.sortInt l, Array.toArray_toList]
theorem zoX (n : Nat) (hn : n ≤ 2147483648) : ACall Tryz.prog 140 [.d (.sc (.slice none 0 0)), .d (.sc (.int .i64 (n : Int)))] [] (fun c h => c = .row 5 ∧ h = [(5, uB [])]) := by
 refine ⟨by kernel_rfl, fun Pm F w0 pin ι us w H HA => ?_⟩
 have hus : us = #[.slice none 0 0, .int .i64 (n : Int)] := by
  have h2 : VRel w F ι (.agg [.d (.sc (.slice none 0 0)), .d (.sc (.int .i64 (n : Int)))]) (.agg us) := .agg _ us HA.1 HA.2
  have h4 := zax h2 (v := .agg #[.slice none 0 0, .int .i64 (n : Int)]) rfl
  injection h4
 subst hus
 have R0 : Rel Pm F w0 pin ι 1 [(0, .d (.sc (.slice none 0 0)))] [] { tmps := #[.slice none 0 0], defers := [] } w := by
  refine ⟨H, fun t c ht => ?_, MkOk.nil, by simp⟩
  by_cases h0 : 0 = t
  ·subst h0
   rw [ze] at ht
   cases ht
   exact ⟨_, rfl, zH rfl⟩
  ·rw [zc _ _ h0] at ht; cases ht
 by_cases h0 : n = 0
 ·subst h0
  refine (Any8.slices_Grow_room Tryz.laysGrow none 0 0 0 w (Nat.le_refl _) (by omega) (by omega) (by omega)).mono ?_
  rintro x w' ⟨rfl, rfl⟩
  obtain ⟨ι', R1⟩ := zbn 44 1 (nt := 1) (e := [(0, .d (.sc (.slice none 0 0)))]) (h := []) (t := 0) (id := 5) rfl rfl _ _ _ _ _ _ _ R0
  obtain ⟨u, hu1, hu2⟩ := R1.env 0 _ rfl
  cases hu1
  exact ⟨_, .row 5, _, ι', rfl, ⟨rfl, rfl⟩, R1.heap, hu2⟩
 ·obtain ⟨te, hte⟩ : ∃ te, tlook tab 44 = some te := ⟨_, rfl⟩
  obtain ⟨z, hz1, hz2, i, hi1, hi2, hi3, hi4⟩ := (za _ _ hte).zero w
  have hsz : te.size = 1 := by cases hte; rfl
  have hbt : te.bytes = 4 := by cases hte; rfl
  refine (Any8.slices_Grow_grow Tryz.laysGrow i z hi1 hi2 (by rw [hi3, hsz]; decide) none 0 0 n [] w (Nat.le_refl _) (by omega) (by rw [hi4, hbt]; omega) (by omega) (by simp) (fun _ => rfl) (fun a h => by cases h)).mono ?_
  rintro x w' ⟨rfl, rfl⟩
  have hg1 := grownCap_le_maxLen w (0 + n) 0 44 (by unfold maxLen; omega)
  have hg2 := grownCap_ge w (0 + n) 0 44
  obtain ⟨cap, hcap⟩ : ∃ cap, grownCap w (0 + n) 0 44 = cap := ⟨_, rfl⟩
  have hcap' : grownCap w (0 + n) 0 (Tryz.laysGrow_ren.t 25) = cap := hcap
  rw [hcap] at hg1 hg2
  rw [hcap']
  obtain ⟨C, hC⟩ : ∃ C, (#[] : Array Value) ++ Builtin.zeroCells z.cells (0 + n - 0) ++ Builtin.zeroCells z.cells (cap - (0 + n)) = C := ⟨_, rfl⟩
  have hzs : z.cells.size = 1 := by
   have := congrArg List.length hz2
   rw [Array.length_toList] at this
   rw [this]; cases hte; rfl
  have hCs : C.size = cap * 1 := by
   rw [← hC]
   simp only [Array.size_append, Builtin.zeroCells]
   simp [hzs]
   omega
  have hC2 : ([] : List Value).toArray ++ Builtin.zeroCells z.cells (0 + n - 0) ++ Builtin.zeroCells z.cells (cap - (0 + n)) = C := hC
  rw [hC2]
  have R2 := R0.grew (Grew.drew w)
  have hbr : ∀ ι', ι' = upd ι 5 (some (.slice (some ⟨w.drew.heap.size, 0, none⟩) 0 cap)) → Ext w.drew F ι (w.drew.alloc (.cells C 44)) ι' → BRel (w.drew.alloc (.cells C 44)) F ι' (uB []) (.slice (some ⟨w.drew.heap.size, 0, none⟩) 0 cap) := fun ι' h0 he =>
   ⟨[], ⟨rfl, .inr ⟨w.drew.heap.size, cap, C, rfl, Nat.zero_le _, zbg _ _, Nat.zero_le _, hg1, hCs, by simp⟩⟩, rfl, by simp⟩
  obtain ⟨hR, _⟩ := R2.new (T := []) (id := 5) (d := none) rfl rfl (.cells C 44) (.slice (some ⟨w.drew.heap.size, 0, none⟩) 0 cap) (by simp [blockOf]) _ (.row 5) hbr fun ι' h1 => .row 5 _ rfl fun v hv => by subst h1; simp [upd] at hv; exact hv
  exact ⟨_, .row 5, _, _, rfl, ⟨rfl, rfl⟩, hR.heap, .row 5 _ rfl fun v hv => by simp [upd] at hv; exact hv⟩
attribute [local irreducible] AWp AOps AQ AYield AEff ACall AWk AAny AAt AThen AIn APost NoPanic
theorem ze5 (l : List Int) (hl : l.length ≤ 2147483648) : ACall Tryz.prog 62 [usA l] [] (fun c h => c = .row 5 ∧ h = [(5, uB l)]) := by
 refine zf za Tryz.func62 rfl Tryz.ntmps62 (congrArg Array.toList Tryz.results62) (by kernel_rfl) rfl ?_
 have hfl : (l.flatMap u1D).length = l.length * 1 := zM zV l
 repeat (first | refine q_Y ?_ | ((first | apply q_K rfl | apply q_X rfl); (exact q_H)) | refine q_U ?_ | (refine zi4 za rfl rfl rfl rfl rfl rfl ?_; intro b hb))
 cases b with
 | true =>
  have : l = [] := List.eq_nil_of_length_eq_zero (hb rfl).2
  subst this
  repeat (first | refine q_Y ?_ | ((first | apply q_K rfl | apply q_X rfl); (exact q_H)) | refine q_U ?_)
  exact zo (zbn 44 1 (t := 2) (id := 5) rfl rfl) rfl (h2 := [(5, uB [])]) ⟨rfl, trivial⟩ ⟨rfl, rfl⟩
 | false =>
  repeat (first | refine q_Y ?_ | ((first | apply q_K rfl | apply q_X rfl); (exact q_H)) | refine q_U ?_ | (first | refine zcM za rfl rfl rfl rfl rfl rfl rfl ?_ | (first | refine zaE za rfl rfl rfl rfl rfl rfl rfl rfl rfl rfl rfl (by first | exact Src.row rfl | exact Src.dat _ _ | exact Src.nil) hfl (by omega) ?_ | refine zaF za rfl rfl rfl rfl rfl rfl rfl rfl rfl rfl (by first | exact Src.row rfl | exact Src.dat _ _ | exact Src.nil) hfl (by omega) ?_)))
  exact zo AWk.refl rfl (h2 := [(5, uB l)]) ⟨by rw [Nat.zero_add]; rfl, trivial⟩ ⟨rfl, rfl⟩
theorem zmF (l : List Int) (hl : l.length ≤ 1000000000) : ACall Tryz.prog 126 [.row 1000] [(1000, uB l)] (fun c h => c = .tup [] ∧ h = [(1000, uB (l.mergeSort fun x y => decide (x ≤ y)))]) := by
 have := zmD l.toArray (by simpa using hl)
 rw [zn6, zla] at this
 exact this
theorem zgV (l : List Int) (hl : l.length ≤ 1000000000) : ACall Tryz.prog 103 [usA l] [] (fun c h => c = .row 5 ∧ h = [(5, uB (nrm l))]) := by
 have h1 := ze5 l (by omega)
 have h2 := zmF l hl
 have h3 := zig (l.mergeSort fun x y => decide (x ≤ y)) (by rw [List.length_mergeSort]; omega)
 rw [zoO] at h3
 refine zf za Tryz.func103 rfl Tryz.ntmps103 (congrArg Array.toList Tryz.results103) (by kernel_rfl) rfl ?_
 repeat (first | refine q_Y ?_ | ((first | apply q_K rfl | apply q_X rfl); (exact q_H)) | refine q_U ?_ | (refine zbh rfl rfl rfl rfl rfl h1 rfl ?_))
 refine O_cU 5 h2 rfl rfl rfl rfl rfl rfl rfl rfl ?_
 repeat (first | refine q_Y ?_ | ((first | apply q_K rfl | apply q_X rfl); (exact q_H)) | refine q_U ?_ | (refine O_cM rfl rfl rfl rfl rfl h3 rfl (by intro c hc; simp at hc; subst hc; rfl) rfl rfl ?_))
 exact zo AWk.refl rfl (h2 := [(5, uB (nrm l))]) ⟨rfl, trivial⟩ ⟨rfl, rfl⟩
end Ab
end Go.Proofs.YtmmdkjanmegjdaaGreat

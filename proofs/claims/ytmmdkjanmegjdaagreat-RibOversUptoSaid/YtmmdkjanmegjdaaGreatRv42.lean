/-
 Texts of a proof, one behind the other (part 43).
-/
import Derived.Test.YtmmdkjanmegjdaaGreatRv2
import Derived.Test.YtmmdkjanmegjdaaGreatRv4
import Derived.Test.YtmmdkjanmegjdaaGreatRv29
import Derived.Test.YtmmdkjanmegjdaaGreatRv41
set_option maxRecDepth 100000
set_option linter.unusedSimpArgs false
set_option linter.unusedVariables false
namespace Go.Proofs.YtmmdkjanmegjdaaGreat
open Go.RowKit Go.Lib
theorem zkK (d : Dvc) (cs : List Cls) (dft : Bool) : ∀ (r : List Cls) (i fr : Nat) (b : Int) (s : Sbj) (ms : List (Nat × Sbj)), (runL d cs dft r i fr b s ms).2.2.length ≤ ms.length + r.length := fun r => by
 induction r with
 | nil => intro i fr b s ms; exact Nat.le_refl _
 | cons c r ih =>
  intro i fr b s ms
  have h1 := fun (x : Nat × Sbj) (i fr : Nat) (b : Int) (s : Sbj) => ih i fr b s (ms ++ [x])
  simp only [List.length_append, List.length_singleton] at h1
  rw [runL, List.length_cons]
  split
  ·have := ih (i + 1) fr b s ms; omega
  split
  ·have := ih (i + 1) fr b s ms; omega
  split
  ·show (ms ++ [(i, s)]).length ≤ _; rw [List.length_append, List.length_singleton]; omega
  split
  ·split
   ·show (ms ++ [(i, setC c s)]).length ≤ _; rw [List.length_append, List.length_singleton]; omega
   ·have := h1 (i, setC c s) (i + 1) (skipJ cs c.jump (i + 1)) (i : Int) (setC c s); omega
  ·have := h1 (i, setC c s) (i + 1) fr b (setC c s); omega
namespace Ab
attribute [local irreducible] AWp AOps AQ AYield AEff ACall AWk AAny AAt AThen AIn APost NoPanic
set_option maxHeartbeats 16000000 in
theorem zkV (d : Dvc) (nm : List UInt8) (s : Sbj) (ho : OkA d s) : ACall Tryz.prog 16 [dvcA d, .d (sD nm), aggD (sbjD s)] [] (Just (.tup [aggD (sbjD (applyP d nm s).1), boolA (applyP d nm s).2.1, .d (iD (applyP d nm s).2.2)])) := by
 have htw := zdl s ho.os.path ho.os.com
 unfold applyP
 by_cases hn : nm = []
 ·rw [if_pos hn]
  refine zf za Tryz.func16 rfl Tryz.ntmps16 (congrArg Array.toList Tryz.results16) (by kernel_rfl) rfl ?_
  repeat (first | refine q_Y ?_ | ((first | apply q_K rfl | apply q_X rfl); (first | exact q_H | (exact R_sT rfl rfl rfl rfl (decide_eq_true hn)))) | refine q_U ?_ | refine q_O htw ?_)
  exact zo AWk.refl rfl (h2 := []) trivial ⟨rfl, rfl⟩
 rw [if_neg hn]
 have hna := zgN d nm ho.n
 unfold rnamA at hna
 cases hf : d.pols.find? (fun p => decide (p.nm = nm)) with
 | none =>
  rw [hf] at hna
  try dsimp only at hna ⊢
  refine zf za Tryz.func16 rfl Tryz.ntmps16 (congrArg Array.toList Tryz.results16) (by kernel_rfl) rfl ?_
  repeat (first | refine q_Y ?_ | ((first | apply q_K rfl | apply q_X rfl); (first | exact q_H | (exact R_sF rfl rfl rfl rfl (decide_eq_false hn)))) | refine q_U ?_ | refine q_O hna ?_)
  exact zo ((zbZ (b := 6) (i := 5) rfl rfl).trans (zbZ (b := 6) (i := 6) rfl rfl)) rfl (h2 := []) trivial ⟨rfl, rfl⟩
 | some p =>
  rw [hf] at hna
  try dsimp only at hna ⊢
  have hp := ho.op p (List.mem_of_find?_eq_some hf)
  obtain ⟨x, hr⟩ : ∃ x, runP d p s = x := ⟨_, rfl⟩
  rw [hr]
  obtain ⟨ok, b, ms⟩ := x
  try dsimp only
  have hru := zon d p s ho.od hp.1 hp.2 hr
  have hml : ms.length ≤ 1000000 := by
   have h1 := zkK d p.cs p.dft p.cs 0 0 (-1) s []
   have h2 : runL d p.cs p.dft p.cs 0 0 (-1) s [] = (ok, b, ms) := hr
   rw [h2] at h1
   have h3 := hp.1
   simp only [List.length_nil] at h1
   omega
  cases ok with
  | false =>
   rw [if_neg (by decide)]
   refine zf za Tryz.func16 rfl Tryz.ntmps16 (congrArg Array.toList Tryz.results16) (by kernel_rfl) rfl ?_
   repeat (first | refine q_Y ?_ | ((first | apply q_K rfl | apply q_X rfl); (first | exact q_H | (exact R_sF rfl rfl rfl rfl (decide_eq_false hn)))) | refine q_U ?_ | (first | refine q_O hna ?_ | refine q_O hru ?_))
   exact zo ((zbZ (b := 6) (i := 5) rfl rfl).trans (zbZ (b := 6) (i := 6) rfl rfl)) rfl (h2 := []) trivial ⟨rfl, rfl⟩
  | true =>
   rw [if_pos rfl]
   by_cases hm : ms.length = 0
   ·obtain rfl := List.eq_nil_of_length_eq_zero hm
    refine zf za Tryz.func16 rfl Tryz.ntmps16 (congrArg Array.toList Tryz.results16) (by kernel_rfl) rfl ?_
    repeat (first | refine q_Y ?_ | ((first | apply q_K rfl | apply q_X rfl); (first | exact q_H | (exact R_sF rfl rfl rfl rfl (decide_eq_false hn)))) | refine q_U ?_ | (first | refine q_O hna ?_ | refine q_O hru ?_ | refine q_O htw ?_))
    exact zo AWk.refl rfl (h2 := []) trivial ⟨rfl, rfl⟩
   ·have hl : ms.length - 1 < ms.length := by omega
    have hw := zx zhU ms (ms.length - 1) 1 8 hl (by decide)
    rw [zjK s ms (by omega)]
    refine zf za Tryz.func16 rfl Tryz.ntmps16 (congrArg Array.toList Tryz.results16) (by kernel_rfl) rfl ?_
    repeat ((fail_if_success refine zb ?_); first | refine q_Y ?_ | ((first | apply q_K rfl | apply q_X rfl); (first | exact q_F | (first | exact q_A | exact q_R (w := (by first | exact hw | rfl)) | exact q_B | (first | exact R_sF rfl rfl rfl rfl (decide_eq_false hn) | exact zbF (j := ms.length - 1) za rfl rfl rfl rfl rfl rfl hl)))) | refine q_U ?_ | (first | refine q_O hna ?_ | refine q_O hru ?_ | refine q_O htw ?_))
    exact zo AWk.refl rfl (h2 := []) trivial ⟨rfl, rfl⟩
end Ab
end Go.Proofs.YtmmdkjanmegjdaaGreat

namespace Go.Proofs.YtmmdkjanmegjdaaGreat
open Go.RowKit Go.Lib
def atR (R : List Rte) (p : Pfx) (fr : Int) : Option Rte := R.find? fun r => decide (r.p = p) && comesB r.f fr
def firstR (d : Dvc) (ospf : Bool) (R : List Rte) (p : Pfx) : List Rds → Nat → Option Tkn
 | [], _ => none
 | x :: l, i => match atR R p x.from_ with
  | none => firstR d ospf R p l (i + 1)
  | some r => if (applyP d x.pol (subjR x ospf r)).2.1 = true then some (i, (applyP d x.pol (subjR x ospf r)).1) else firstR d ospf R p l (i + 1)
def headR (R : List Rte) (k : Nat) : Bool := match k, R[k]?, R[k - 1]? with
 | 0, _, _ => true
 | _, some r, some s => !decide (r.p = s.p)
 | _, _, _ => true
def docL (d : Dvc) (ospf : Bool) (R : List Rte) (l : List Rds) : Nat → List Tkn
 | 0 => []
 | k + 1 => docL d ospf R l k ++ (match R[k]? with
  | some r => if headR R k = true then (firstR d ospf R r.p l 0).toList else []
  | none => [])
theorem zj6 {κ ν : Type} [DecidableEq κ] {l : List (κ × ν)} {k q : κ} {v : ν} (hn : ((l ++ [(k, v)]).map (·.1)).Nodup) : aget (l ++ [(k, v)]) q = if q = k then some v else aget l q := by
 have hn1 : (l.map (·.1)).Nodup := by rw [List.map_append] at hn; exact (List.nodup_append.1 hn).1
 by_cases h : q = k
 ·subst h; rw [if_pos rfl]; exact zaa hn (by simp)
 ·rw [if_neg h]
  cases hg : aget l q with
  | some z => exact zaa hn (List.mem_append_left _ (z8 hg))
  | none =>
   cases hg2 : aget (l ++ [(k, v)]) q with
   | none => rfl
   | some z =>
    rcases List.mem_append.1 (z8 hg2) with h1 | h1
    ·exact absurd rfl (zd5 hg _ h1)
    ·simp at h1; exact absurd h1.1 h
theorem zez (d : Dvc) (x : Rds) (i : Nat) (ospf : Bool) (p : Pfx) : ∀ (rs : List Rte) (tk : List (Pfx × Tkn)) (lk : List Pfx), Ents tk →
  aget (inR d x i ospf rs tk lk) p = match aget tk p with
   | some v => some v
   | none => if p ∈ lk then none else match atR rs p x.from_ with
    | none => none
    | some r => if (applyP d x.pol (subjR x ospf r)).2.1 = true then some (i, (applyP d x.pol (subjR x ospf r)).1) else none
 | [], tk, lk, h => by
  rw [inR]
  unfold atR
  rw [List.find?_nil]
  cases aget tk p with
  | some v => rfl
  | none => dsimp only; split <;> rfl
 | r :: rs, tk, lk, h => by
  have hat : atR (r :: rs) p x.from_ = if (decide (r.p = p) && comesB r.f x.from_) = true then some r else atR rs p x.from_ := by
   unfold atR
   rw [List.find?_cons]
   split <;> rename_i h1
   ·rw [if_pos h1]
   ·rw [if_neg (by rw [h1]; simp)]
  rw [inR]
  split
  ·rename_i hc
   rw [zez d x i ospf p rs tk lk h, hat]
   cases hg : aget tk p with
   | some v => rfl
   | none =>
    dsimp only
    by_cases hl : p ∈ lk
    ·rw [if_pos hl, if_pos hl]
    ·rw [if_neg hl, if_neg hl, if_neg]
     intro h2
     rw [Bool.and_eq_true, decide_eq_true_eq] at h2
     obtain ⟨e, h3⟩ := h2
     subst e
     rcases hc with h4 | h4 | h4
     ·rw [hg] at h4; cases h4
     ·rw [h3] at h4; cases h4
     ·exact hl h4
  ·rename_i hc
   have hn1 : aget tk r.p = none := by
    cases hg : aget tk r.p with
    | none => rfl
    | some v => exact absurd (.inl (by rw [hg]; rfl)) hc
   have hn2 : comesB r.f x.from_ = true := by
    cases hg : comesB r.f x.from_
    ·exact absurd (.inr (.inl hg)) hc
    ·rfl
   have hn3 : r.p ∉ lk := fun h4 => hc (.inr (.inr h4))
   split
   ·rename_i hok
    have hp := zdH hok
    have hE := zd2 h hn1 (v := (i, (applyP d x.pol (subjR x ospf r)).1)) hp
    rw [zez d x i ospf p rs _ (lk ++ [r.p]) hE, zj6 hE.nd]
    by_cases e : p = r.p
    ·subst e
     rw [hat, if_pos rfl, hn1]
     dsimp only
     rw [if_neg hn3, if_pos (by simp [hn2])]
     dsimp only
     rw [if_pos hok]
    ·have hat2 : atR (r :: rs) p x.from_ = atR rs p x.from_ := by rw [hat, if_neg (by simp [Ne.symm e])]
     rw [if_neg e, hat2]
     have : p ∈ lk ++ [r.p] ↔ p ∈ lk := by simp [e]
     simp only [this]
   ·rename_i hok
    rw [zez d x i ospf p rs tk (lk ++ [r.p]) h]
    by_cases e : p = r.p
    ·subst e
     rw [hat, hn1]
     dsimp only
     rw [if_pos (by simp), if_neg hn3, if_pos (by simp [hn2])]
     dsimp only
     rw [if_neg hok]
    ·have hat2 : atR (r :: rs) p x.from_ = atR rs p x.from_ := by rw [hat, if_neg (by simp [Ne.symm e])]
     rw [hat2]
     have : p ∈ lk ++ [r.p] ↔ p ∈ lk := by simp [e]
     simp only [this]
theorem zgT (d : Dvc) (ospf : Bool) (rs : List Rte) (p : Pfx) : ∀ (l : List Rds) (i : Nat) (tk : List (Pfx × Tkn)), Ents tk →
  aget (outR d ospf rs l i tk) p = match aget tk p with
   | some v => some v
   | none => firstR d ospf rs p l i
 | [], i, tk, h => by rw [outR, firstR]; cases aget tk p <;> rfl
 | x :: l, i, tk, h => by
  obtain ⟨ext, e1, e2, _⟩ := zdw d x i ospf rs tk [] h
  have hE : Ents (inR d x i ospf rs tk []) := by rw [e1]; exact e2
  rw [outR, zgT d ospf rs p l (i + 1) _ hE, zez d x i ospf p rs tk [] h, firstR]
  cases aget tk p with
  | some v => rfl
  | none =>
   dsimp only
   rw [if_neg (by simp)]
   cases atR rs p x.from_ with
   | none => rfl
   | some r =>
    dsimp only
    by_cases hok : (applyP d x.pol (subjR x ospf r)).2.1 = true
    ·simp [hok]
    ·simp [hok]
theorem zcE {d : Dvc} {ospf : Bool} {R : List Rte} {p : Pfx} : ∀ {l : List Rds} {i : Nat} {x : Tkn}, firstR d ospf R p l i = some x → x.2.p = p ∧ ∃ r ∈ R, r.p = p
 | [], i, x, h => by cases h
 | y :: l, i, x, h => by
  rw [firstR] at h
  cases ha : atR R p y.from_ with
  | none => rw [ha] at h; exact zcE h
  | some r =>
   rw [ha] at h
   dsimp only at h
   split at h
   ·rename_i hok
    cases h
    have h1 := List.find?_some ha
    rw [Bool.and_eq_true, decide_eq_true_eq] at h1
    exact ⟨(zdH hok).trans h1.1, r, List.mem_of_find?_eq_some ha, h1.1⟩
   ·exact zcE h
theorem ze3 (d : Dvc) (ospf : Bool) (R : List Rte) (l : List Rds) (x : Tkn) : ∀ k, x ∈ docL d ospf R l k ↔ ∃ (j : Nat) (h : j < R.length), j < k ∧ headR R j = true ∧ firstR d ospf R R[j].p l 0 = some x
 | 0 => by simp [docL]
 | k + 1 => by
  rw [docL, List.mem_append, ze3 d ospf R l x k]
  constructor
  ·rintro (⟨j, h, h1, h2⟩ | h)
   ·exact ⟨j, h, by omega, h2⟩
   ·by_cases hk : k < R.length
    ·rw [List.getElem?_eq_getElem hk] at h
     dsimp only at h
     split at h
     ·rename_i hh; exact ⟨k, hk, by omega, hh, by simpa using h⟩
     ·simp at h
    ·rw [List.getElem?_eq_none (by omega)] at h; simp at h
  ·rintro ⟨j, h, h1, h2, h3⟩
   by_cases hj : j < k
   ·exact .inl ⟨j, h, hj, h2, h3⟩
   ·obtain rfl : j = k := by omega
    right
    rw [List.getElem?_eq_getElem h]
    dsimp only
    rw [if_pos h2, h3]; simp
theorem zeY (R : List Rte) : ∀ (k : Nat) (h : k < R.length), ∃ (j : Nat) (hj : j < R.length), headR R j = true ∧ R[j].p = R[k].p
 | 0, h => ⟨0, h, rfl, rfl⟩
 | k + 1, h => by
  have hk : k < R.length := by omega
  by_cases he : R[k + 1].p = R[k].p
  ·obtain ⟨j, hj, h1, h2⟩ := zeY R k hk
   exact ⟨j, hj, h1, h2.trans he.symm⟩
  ·refine ⟨k + 1, h, ?_, rfl⟩
   unfold headR
   rw [List.getElem?_eq_getElem h, show k + 1 - 1 = k by omega, List.getElem?_eq_getElem hk]
   simp [he]
theorem zek (d : Dvc) (ospf : Bool) (R : List Rte) (l : List Rds) (hR : Rising ordR R) : ∀ k, k ≤ R.length → Rising cmpT (docL d ospf R l k)
 | 0, _ => .nil
 | k + 1, hk => by
  have ih := zek d ospf R l hR k (by omega)
  rw [docL, List.getElem?_eq_getElem (by omega)]
  dsimp only
  split
  ·rename_i hh
   cases hf : firstR d ospf R R[k].p l 0 with
   | none => simpa using ih
   | some x =>
    unfold Rising at ih ⊢
    rw [List.pairwise_append]
    refine ⟨ih, by simp, fun a ha b hb => ?_⟩
    simp at hb; subst hb
    obtain ⟨j, hj, h1, h2, h3⟩ := (ze3 d ospf R l a k).1 ha
    have e1 := (zcE h3).1
    have e2 := (zcE hf).1
    unfold cmpT
    rw [e1, e2]
    have hpw := List.pairwise_iff_getElem.1 hR
    have hle : ∀ (u v : Nat) (hu : u < R.length) (hv : v < R.length), u < v → cmpP R[u].p R[v].p ≤ 0 := fun u v hu hv huv => by
     have h4 := hpw u v hu hv huv
     have h5 : ordP R[u].p R[v].p ≤ 0 := by
      unfold ordR lexc at h4
      dsimp only at h4
      split at h4 <;> omega
     unfold ordP lexc c2 at h5
     rcases za9 R[u].p R[v].p with ⟨q1, q2⟩ | ⟨q1, q2⟩ | ⟨q1, q2⟩
     ·omega
     ·omega
     ·dsimp only at h5
      split at h5 <;> split at h5 <;> first | omega | (split at h5 <;> omega)
    have hk1 : 0 < k := by omega
    have hlt : cmpP R[k - 1].p R[k].p < 0 := by
     have h4 := hle (k - 1) k (by omega) (by omega) (by omega)
     rcases Int.lt_or_eq_of_le h4 with h5 | h5
     ·exact h5
     ·exfalso
      have h6 := zbK h5
      unfold headR at hh
      obtain ⟨m, rfl⟩ : ∃ m, k = m + 1 := ⟨k - 1, by omega⟩
      rw [List.getElem?_eq_getElem (by omega), List.getElem?_eq_getElem (by omega)] at hh
      simp at hh
      exact hh h6.symm
    by_cases hjk : j = k - 1
    ·subst hjk; exact hlt
    ·have h4 := hle j (k - 1) hj (by omega) (by omega)
     have h5 := zcW.trans _ _ _ h4 (by omega : cmpP R[k - 1].p R[k].p ≤ 0)
     rcases Int.lt_or_eq_of_le h5 with h6 | h6
     ·exact h6
     ·exfalso
      have h7 := zbK h6
      rw [h7] at h4
      have := zcW.anti R[k].p R[k - 1].p
      omega
  ·rw [List.append_nil]; exact ih
theorem zlG (d : Dvc) (ospf : Bool) (R : List Rte) (l : List Rds) (hR : Rising ordR R) : docL d ospf R l R.length = takenL (outR d ospf R l 0 []) := by
 obtain ⟨ext, e1, e2, _⟩ := zeQ d ospf R l 0 [] zdD
 rw [List.nil_append] at e1 e2
 have hE : Ents (outR d ospf R l 0 []) := by rw [e1]; exact e2
 have hg := fun p => zgT d ospf R p l 0 [] zdD
 refine zaY zbk (zek d ospf R l hR _ (Nat.le_refl _)) (zff hE) fun x => ?_
 rw [ze3, zeD]
 constructor
 ·rintro ⟨j, hj, _, _, h3⟩
  exact ⟨R[j].p, z8 (by rw [hg]; exact h3)⟩
 ·rintro ⟨p, hp⟩
  have h1 := zaa hE.nd hp
  rw [hg] at h1
  have h1 : firstR d ospf R p l 0 = some x := h1
  obtain ⟨_, r, hr, rfl⟩ := zcE h1
  obtain ⟨k, hk, rfl⟩ := List.mem_iff_getElem.1 hr
  obtain ⟨j, hj, h2, h3⟩ := zeY R k hk
  exact ⟨j, hj, hj, h2, by rw [h3]; exact h1⟩
end Go.Proofs.YtmmdkjanmegjdaaGreat

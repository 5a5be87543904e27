/-
 Texts of a proof, one behind the other (part 35).
-/
import Derived.Test.YtmmdkjanmegjdaaGreatRv4
import Derived.Test.YtmmdkjanmegjdaaGreatRv28
import Derived.Test.YtmmdkjanmegjdaaGreatRv29
import Derived.Test.YtmmdkjanmegjdaaGreatRv32
import Derived.Test.YtmmdkjanmegjdaaGreatRv33
set_option maxRecDepth 100000
set_option linter.unusedSimpArgs false
set_option linter.unusedVariables false
namespace Go.Proofs.YtmmdkjanmegjdaaGreat.Ab
open Go.RowKit Go.Lib
attribute [local irreducible] AWp AOps AQ AYield AEff ACall AWk AAny AAt AThen AIn APost NoPanic
def rte0 : Rte := ⟨⟨0, 0⟩, 0, 0, 0, 0, [], 0, false⟩
theorem zkM (w : World) (F : Nat → Prop) (ι : Nat → Option Value) (r : Rte) : VRel w F ι (rteA r) (.agg (rteV r).toArray) := zaJ _ _ _ _ _ rfl rfl
theorem zeroRte (W : World) : (zeroValue 58).run Tryz.prog W = .ok (.agg (rteV rte0).toArray) W := by
 have h : tlook tab 58 = some _ := rfl
 obtain ⟨z, h1, h2, i, h3, h4, _⟩ := (za _ _ h).zero W
 have h5 : (Tryz.prog.info? 58).bind (·.zero) = some (.agg (rteV rte0).toArray) := by kernel_rfl
 rw [h3] at h5
 simp only [Option.bind_some] at h5
 rw [h4] at h5
 cases h5
 exact h1
def bestB (l : List (Pfx × Rte)) : ABlk := .map (ents pfxA rteA l)
theorem zaO (id : Nat) (l : List (Pfx × Rte)) : some (killB id (bestB l)) = some (bestB l) := by
 show some (ABlk.map ((l.map fun p => (pfxA p.1, rteA p.2)).map fun p => (killV id p.1, killV id p.2))) = _
 rw [List.map_map]
 rfl
theorem zcm (i j : Nat) (l : List (Pfx × Rte)) : some (killB i (killB j (bestB l))) = some (bestB l) := by
 rw [Option.some.inj (zaO j l)]; exact zaO i l
theorem zh7 (i j m : Nat) (l : List (Pfx × Rte)) : some (killB i (killB j (killB m (bestB l)))) = some (bestB l) := by
 rw [Option.some.inj (zaO m l)]; exact zcm i j l
theorem zb6 {α : Type} (l : List α) (k : Nat) (h : k < l.length) : l.take (k + 1) = l.take k ++ [l[k]] := List.take_succ_eq_append_getElem h
theorem zdC (p : Rte → Bool) (l : List Rte) (k : Nat) (h : k < l.length) : (l.take (k + 1)).filter p = (l.take k).filter p ++ (if p l[k] then [l[k]] else []) := by
 rw [zb6 l k h, List.filter_append]
 congr 1
 cases hp : p l[k] <;> simp [hp]
def okR (r : Rte) : Prop := (0 ≤ r.f ∧ r.f < 256) ∧ r.p.ok
set_option maxHeartbeats 8000000 in
theorem zoj (l : List Rte) (hok : ∀ r ∈ l, okR r) (hn : l.length ≤ 1000000) : ACall Tryz.prog 9 [rtesA l] [] (fun c h => c = .row 5 ∧ h = [(5, rteB (takeR l))]) := by
 refine zf za Tryz.func9 rfl Tryz.ntmps9 (congrArg Array.toList Tryz.results9) (by kernel_rfl) rfl ?_
 repeat (first | refine q_Y ?_ | ((first | apply q_K rfl | apply q_X rfl); (exact q_H)) | refine q_U ?_ | (refine zc1 903 rfl rfl rfl rfl rfl ?_))
 refine zw (fun x : Nat × List (Pfx × Rte) => [(0, rtesA l), (3, .mp 903), (12, rtesA l), (13, intA (l.length : Int)), (14, intA (x.1 : Int))]) (fun x => [(903, bestB x.2)]) (fun x => x.1 ≤ l.length ∧ Kept (l.take x.1) x.2 ∧ (x.2.map (·.1)).Nodup) (fun x => l.length - x.1) (0, []) ⟨Nat.zero_le _, zlj, .nil⟩ (q_S) ?_
 rintro ⟨k, es⟩ ⟨hk, K, hn2⟩
 dsimp only at hk K hn2 ⊢
 by_cases hlt : k < l.length
 ·have hkr := hok _ (List.getElem_mem hlt)
  repeat (first | refine q_Y ?_ | ((first | apply q_K rfl | apply q_X rfl); (first | exact q_A | exact q_R (w := (by first | exact zn zr l k _ hlt (by decide) | exact zx zr l k _ _ hlt (by decide) | exact zaj zr l k _ _ _ hlt (by decide) | rfl)) | exact q_B)) | refine q_U ?_)
  cases hag : aget es l[k].p with
  | none =>
   repeat (first | refine q_Y ?_ | ((first | apply q_K rfl | apply q_X rfl); (first | exact q_H | (exact zdJ (k := l[k].p) (rteA rte0) (fun w F ι => zkM w F ι rte0) pfxKey zq zeroRte trivial (fun _ _ => trivial) hn2 hag za rfl rfl rfl (zaO 5 es) rfl rfl))) | refine q_U ?_)
   refine zmj (k := l[k].p) (xa := rteA) (q := l[k]) pfxKey zq zbN trivial (fun _ _ => trivial) hn2 za rfl rfl rfl rfl rfl (zcm 6 5 es) rfl rfl ?_
   repeat (first | refine q_Y ?_ | ((first | apply q_K rfl | apply q_X rfl); (exact q_H)) | refine q_U ?_)
   exact ⟨(k + 1, Go.Proofs.YtmmdkjanmegjdaaGreat.aput es l[k].p l[k]), ⟨by dsimp only; omega, by dsimp only; rw [zb6 l k hlt]; exact zg4 K hn2 (fun b hb => by (rw [hag] at hb; cases hb)), by dsimp only; exact zbm hn2⟩, by dsimp only; omega, q_S⟩
  | some b =>
   have hbm := K.mem _ (z8 hag)
   have hbr := hok b (List.mem_of_mem_take hbm.1)
   have hcm := zen l[k] b hkr.1 hbr.1
   by_cases hlt2 : rank l[k] b < 0
   ·
    repeat (first | refine q_Y ?_ | ((first | apply q_K rfl | apply q_X rfl); (first | exact q_H | (exact zd8 (k := l[k].p) pfxKey zq zeroRte trivial (fun _ _ => trivial) hn2 hag za rfl rfl rfl (zaO 5 es) rfl rfl))) | refine q_U ?_ | refine q_O hcm ?_)
    refine zmj (k := l[k].p) (xa := rteA) (q := l[k]) pfxKey zq zbN trivial (fun _ _ => trivial) hn2 za rfl rfl rfl rfl rfl (zcm 6 5 es) rfl rfl ?_
    repeat (first | refine q_Y ?_ | ((first | apply q_K rfl | apply q_X rfl); (exact q_H)) | refine q_U ?_)
    exact ⟨(k + 1, Go.Proofs.YtmmdkjanmegjdaaGreat.aput es l[k].p l[k]), ⟨by dsimp only; omega, by dsimp only; rw [zb6 l k hlt]; exact zg4 K hn2 (fun b2 hb => by (rw [hag] at hb; cases hb; exact hlt2)), by dsimp only; exact zbm hn2⟩, by dsimp only; omega, q_S⟩
   ·
    repeat (first | refine q_Y ?_ | ((first | apply q_K rfl | apply q_X rfl); (first | exact q_H | (exact zd8 (k := l[k].p) pfxKey zq zeroRte trivial (fun _ _ => trivial) hn2 hag za rfl rfl rfl (zaO 5 es) rfl rfl))) | refine q_U ?_ | refine q_O hcm ?_)
    exact ⟨(k + 1, es), ⟨by dsimp only; omega, by dsimp only; rw [zb6 l k hlt]; exact zjL K hag (by omega), hn2⟩, by dsimp only; omega, zm ⟨rfl, rfl, rfl, rfl, rfl, trivial⟩ ⟨zcm 6 5 es, trivial⟩⟩
 ·have hkk : k = l.length := by omega
  subst hkk
  rw [List.take_length] at K
  repeat (first | refine q_Y ?_ | ((first | apply q_K rfl | apply q_X rfl); (exact q_H)) | refine q_U ?_)
  refine zt (zbn 58 9 (t := 8) (id := 8) rfl rfl) ?_
  refine zw (fun k : Nat => [(3, .mp 903), (8, .row 8), (38, rtesA l), (39, intA (l.length : Int)), (40, intA (k : Int))]) (fun k => [(8, rteB ((l.take k).filter (winB l))), (903, bestB es)]) (fun k => k ≤ l.length) (fun k => l.length - k) 0 (Nat.zero_le _) (zm ⟨rfl, rfl, rfl, rfl, rfl, trivial⟩ ⟨rfl, zaO 8 es, trivial⟩) ?_
  intro k hk
  try dsimp only
  have hfl : ((l.take k).filter (winB l)).length ≤ l.length := Nat.le_trans (List.length_filter_le _ _) (by rw [List.length_take]; omega)
  by_cases hlt : k < l.length
  ·have hkr := hok _ (List.getElem_mem hlt)
   obtain ⟨⟨q, b⟩, hem, he1, he2⟩ := K.all l[k] (List.getElem_mem hlt)
   dsimp only at he1 he2
   subst he1
   have hag := zaa hn2 hem
   have hbm := K.mem _ hem
   have hbr := hok b hbm.1
   have hcm := zen l[k] b hkr.1 hbr.1
   have hst := zdC (winB l) l k hlt
   have hwin := zli K hn2 hem (List.getElem_mem hlt)
   cases hw : winB l l[k] with
   | true =>
    rw [hw, if_pos rfl] at hst
    have hr0 : rank l[k] b = 0 := hwin.1 hw
    rw [hr0] at hcm
    repeat (first | refine q_Y ?_ | ((first | apply q_K rfl | apply q_X rfl); (first | exact q_A | exact q_R (w := (by first | exact zn zr l k _ hlt (by decide) | exact zx zr l k _ _ hlt (by decide) | exact zaj zr l k _ _ _ hlt (by decide) | rfl)) | exact q_B | (exact zaw (k := l[k].p) pfxKey zq zeroRte trivial (fun _ _ => trivial) hn2 hag za rfl rfl rfl (zaO 10 es) rfl rfl))) | refine q_U ?_ | (first | refine q_Q hcm ?_ | (first | refine zaE za rfl rfl rfl rfl rfl rfl rfl rfl rfl rfl rfl (by first | exact Src.row rfl | exact Src.dat _ _ | exact Src.nil) rfl (by omega) ?_ | refine zaF za rfl rfl rfl rfl rfl rfl rfl rfl rfl rfl (by first | exact Src.row rfl | exact Src.dat _ _ | exact Src.nil) rfl (by omega) ?_)))
    exact ⟨k + 1, by omega, by omega, zm ⟨rfl, rfl, rfl, rfl, rfl, trivial⟩ ⟨zah (by rw [hst]; simp) (by rw [hst]; simp [rteD]) rfl, zh7 _ _ _ es, trivial⟩⟩
   | false =>
    rw [hw] at hst
    have hst : (l.take (k + 1)).filter (winB l) = (l.take k).filter (winB l) := by simpa using hst
    have hr0 : rank l[k] b ≠ 0 := fun h => by rw [hwin.2 h] at hw; cases hw
    repeat (first | refine q_Y ?_ | ((first | apply q_K rfl | apply q_X rfl); (first | exact q_A | exact q_R (w := (by first | exact zn zr l k _ hlt (by decide) | exact zx zr l k _ _ hlt (by decide) | exact zaj zr l k _ _ _ hlt (by decide) | rfl)) | exact q_B | (exact zaw (k := l[k].p) pfxKey zq zeroRte trivial (fun _ _ => trivial) hn2 hag za rfl rfl rfl (zaO 10 es) rfl rfl))) | refine q_U ?_ | (first | refine q_Q hcm ?_))
    exact ⟨k + 1, by omega, by omega, zm ⟨rfl, rfl, rfl, rfl, rfl, trivial⟩ ⟨by rw [hst]; rfl, zaO 10 es, trivial⟩⟩
  ·have hkk : k = l.length := by omega
   subst hkk
   rw [List.take_length]
   have hfl2 : (l.filter (winB l)).length ≤ l.length := List.length_filter_le _ _
   have hso := zhQ (l.filter (winB l)) (by omega)
   repeat (first | refine q_Y ?_ | ((first | apply q_K rfl | apply q_X rfl); (exact q_H)) | refine q_U ?_)
   refine zB (zF (id := 8) rfl) ?_
   refine zbh rfl rfl rfl rfl rfl hso rfl ?_
   repeat (first | refine q_Y ?_ | ((first | apply q_K rfl | apply q_X rfl); (exact q_H)) | refine q_U ?_)
   exact zo AWk.refl rfl (h2 := [(5, rteB (takeR l))]) ⟨rfl, trivial⟩ ⟨rfl, rfl⟩
end Go.Proofs.YtmmdkjanmegjdaaGreat.Ab

namespace Go.Proofs.YtmmdkjanmegjdaaGreat.Ab
open Go.RowKit Go.Lib
def rteS : List Shp := [hU, hI, hC, hI, hI, hI, .st, hU, .bo]
theorem zot (l : List Dat) (f : Fits rteS l) : ∃ x : Rte, okR x ∧ l = rteD x := by
 obtain ⟨d0, _, rfl, h0, f⟩ := zh f
 obtain ⟨d1, _, rfl, h1, f⟩ := zh f
 obtain ⟨d2, _, rfl, h2, f⟩ := zh f
 obtain ⟨d3, _, rfl, h3, f⟩ := zh f
 obtain ⟨d4, _, rfl, h4, f⟩ := zh f
 obtain ⟨d5, _, rfl, h5, f⟩ := zh f
 obtain ⟨d6, _, rfl, h6, f⟩ := zh f
 obtain ⟨d7, _, rfl, h7, f⟩ := zh f
 obtain ⟨d8, _, rfl, h8, f⟩ := zh f
 obtain rfl := zZ f
 obtain ⟨x0, rfl, g0⟩ := rd_u h0
 obtain ⟨x1, rfl, g1⟩ := rd_i h1
 obtain ⟨x2, rfl, g2⟩ := rd_c h2
 obtain ⟨x3, rfl, g3⟩ := rd_i h3
 obtain ⟨x4, rfl, g4⟩ := rd_i h4
 obtain ⟨x5, rfl, g5⟩ := rd_i h5
 obtain ⟨x6, rfl⟩ := zaz h6
 obtain ⟨x7, rfl, g7⟩ := rd_u h7
 obtain ⟨x8, rfl⟩ := zby h8
 exact ⟨⟨⟨x0, x1⟩, x2, x3, x4, x5, x6, x7, x8⟩, ⟨g2, zf9 g0 g1⟩, rfl⟩
end Go.Proofs.YtmmdkjanmegjdaaGreat.Ab
